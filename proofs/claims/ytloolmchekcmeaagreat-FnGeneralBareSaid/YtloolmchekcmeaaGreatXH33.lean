/- A part. -/
import Derived.Test.YtloolmchekcmeaaGreatXH32
set_option linter.unusedVariables false
set_option linter.unusedSimpArgs false
open Option renaming isSome_none->Yx,getD_none->Yy
namespace Go.Proofs.YtloolmchekcmeaaGreat
open Go Go.Av
attribute [local irreducible] T ah TX EX LX bo cE bF cD fZ aH.kind aH.kids an.kind an.name an.num an.ty an.fr an.label an.kids
attribute [local simp] aX ax
set_option maxHeartbeats 16000000
set_option maxRecDepth 8000
attribute [local irreducible] sD gu
def R4 (G:List Nd) (o:Option aH) (r:AV) (L':Ts):Prop:=∃T v,r=.bu [.agg [.d (.i T.kind),.d (.raw v)],.b o.isSome]/\L'=(sD 25 T.kids,v)::gS G/\∀U,o=some U->T=U
end Go.Proofs.YtloolmchekcmeaaGreat
namespace Go.Proofs.YtloolmchekcmeaaGreat
open Go Go.Av
attribute [local irreducible] T ah TX EX LX bo cE bF cD fZ aH.kind aH.kids an.kind an.name an.num an.ty an.fr an.label an.kids
attribute [local simp] aX ax
set_option maxHeartbeats 16000000
set_option maxRecDepth 8000
attribute [local irreducible] TJ br sD gu AW jm dj cQ
def PI (B:List IT) (K:Nat) (Ts:List aH) (l:List IT):Option (List aH):=(FR B K l).map (Ts++·)
def R5 (o:Option (an×aH)) (r:AV) (L':Ts):Prop:=∃(v:V3) (v4:Value),r=.bu [.agg ((QE (o.getD (iz,cy)).1 v).map CV.d),.agg [.d (.i (o.getD (iz,cy)).2.kind),.d (.raw v4)],.b o.isSome]/\
  L'=LG 25 28 (o.getD (iz,cy)).1 v++[(sD 25 (o.getD (iz,cy)).2.kids,v4)]
end Go.Proofs.YtloolmchekcmeaaGreat
namespace Go.Proofs.YtloolmchekcmeaaGreat
open Go Go.Av
attribute [local irreducible] T ah TX EX LX bo cE bF cD fZ aH.kind aH.kids an.kind an.name an.num an.ty an.fr an.label an.kids
attribute [local simp] aX ax
set_option maxHeartbeats 16000000
set_option maxRecDepth 8000
theorem Ax {e:an} (hv:aR e=true):aR (mapM bP e)=true/\oL (mapM bP e)=oL e/\fO (mapM bP e)<=9000:=by
 obtain⟨h1,h2⟩:=db.1 hv;obtain⟨q1,q2,_,q4⟩:=Ch h1;have jv:aR (mapM bP e)=true:=db.2 ⟨q1,by omega⟩;exact⟨jv,by rw[oL,oL,hv,jv,q4],rv jv⟩
theorem yV {e:an} {s:List UInt8} (h:oL e=some s):lp e=[]:=by
 rw[oL]at h;split at h
 case isFalse=>cases h
 rename_i hv;rcases uk (jt hv).1 with⟨k,B,ls,t,hw⟩|⟨k,hk⟩
 ·have hc:=hw.closed;have hf:∀z,aW z [] e=false:=fun z=>by rw[<-Cn (db.1 hv).1 z []];exact hc z
  exact wM hf
 ·rw[qL hk]at h;cases h
theorem Br (b:List Int) (hb:∀n∈b,0<=n/\n<=255):ah Tryz.prog 3 [.l (rB b)] [] (.b true) [] []:=by
 by_cases h1:(1048576:Int)<b.length
 ·refine ah.ob Tryz.func3 Tryz.ntmps3 rfl ?_;repeat' first|(refine ab (hK _ ?_);clear hK K)|(refine ae ?_;simp[h1,fk];(try(refine gen2 ?_ ?_<;>intro hq<;>try simp[h1,fk]at hq)))|(refine T.ret (aG.data (Or.inr rfl) ?_ ?_)<;>simp[Tryz.results3]<;>omega)|refine T.r0 fun K hK=>?_|refine T.ct rfl ?_|refine T.seq ?_
 obtain⟨e,he,d1⟩:=(oH b hb).elim;have k1:=(kH e (by omega)).plain;have k2:=r7 e (by omega);have k3:=wV e (by omega);have k4:=wU e (by omega);cases hv:aR e with
 |false=>
  have hg:oL e=none:=by rw[oL,hv];rfl
  rw[hg]at k1 k2;rw[hv]at k3;simp only[Bool.false_eq_true,if_false,lM,Yy,Yx]at k1 k2 k3;refine ah.ob Tryz.func3 Tryz.ntmps3 rfl ?_;repeat' first|(refine ab (hK _ ?_);clear hK K)|((first|refine ae ?_|refine aa rfl (d1) ?_|refine aa rfl (k1) ?_|refine aa rfl (k2) ?_|refine aa rfl (k3) ?_);simp[h1,fk];(try(refine gen2 ?_ ?_<;>intro hq<;>try simp[h1,fk]at hq)))|(refine T.ret (aG.data (Or.inr rfl) ?_ ?_)<;>simp[Tryz.results3]<;>omega)|refine T.r0 fun K hK=>?_|refine T.ct rfl ?_|refine T.cf rfl ?_|refine T.seq ?_|refine T.skip ?_
 |true=>
  obtain⟨jv,EH,fw⟩:=Ax hv;have k5:=(kH (mapM bP e) (by omega)).plain;rw[EH]at k5;rw[hv]at k3 k4;simp only[if_true,lM]at k3 k4;have sQ:=fun s=>yV (e:=e) (s:=s)
  generalize mapM bP e=x at*;generalize oL e=X at*;cases X with
  |none=>
   simp only[Yy,Yx]at k1 k2 k5;refine ah.ob Tryz.func3 Tryz.ntmps3 rfl ?_;repeat' first|(refine ab (hK _ ?_);clear hK K)|((first|refine ae ?_|refine aa rfl (d1) ?_|refine aa rfl (k1) ?_|refine aa rfl (k2) ?_|refine aa rfl (k3) ?_|refine aa rfl (k5) ?_);simp[h1,fk,ax x];(try(refine gen2 ?_ ?_<;>intro hq<;>try simp[h1,fk,ax x]at hq)))|(refine T.ret (aG.data (Or.inr rfl) ?_ ?_)<;>simp[Tryz.results3]<;>omega)|refine T.r0 fun K hK=>?_|refine T.cf rfl ?_|refine T.seq ?_|refine T.skip ?_
  |some s=>
   rw[sQ s rfl]at k4;simp only[Option.getD_some,Option.isSome_some]at k1 k2 k5;refine ah.ob Tryz.func3 Tryz.ntmps3 rfl ?_;repeat' first|(refine ab (hK _ ?_);clear hK K)|((first|refine ae ?_|refine aa rfl (d1) ?_|refine aa rfl (k1) ?_|refine aa rfl (k2) ?_|refine aa rfl (k3) ?_|refine aa rfl (k5) ?_|refine aa rfl (k4) ?_);simp[h1,fk,ax x];(try(refine gen2 ?_ ?_<;>intro hq<;>try simp[h1,fk,ax x]at hq)))|(refine T.ret (aG.data (Or.inr rfl) ?_ ?_)<;>simp[Tryz.results3]<;>omega)|refine T.r0 fun K hK=>?_|refine T.cf rfl ?_|refine T.seq ?_|refine T.skip ?_
end Go.Proofs.YtloolmchekcmeaaGreat
