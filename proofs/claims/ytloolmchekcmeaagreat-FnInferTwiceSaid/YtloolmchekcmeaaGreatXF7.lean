/- A part. -/
import Derived.Test.YtloolmchekcmeaaGreatXF6
set_option linter.unusedVariables false
set_option linter.unusedSimpArgs false
open Go.Proofs.Tryz renaming prog->Ze
open List renaming getElem?_eq_getElem->Zf,mem_of_getElem?->Zg,take_add_one->Zh,length_pos_iff->Zi,getElem_mem->Zj,drop_eq_getElem_cons->Zk
open Int renaming tmod_eq_emod_of_nonneg->Zl,eq_ofNat_of_zero_le->Zm
open Nat renaming pow_succ->Zn,pos_of_ne_zero->Zo
namespace Go.Proofs.YtloolmchekcmeaaGreat
attribute [-simp] Go.Av.cW Go.Av.ij Go.Av.cl Go.Av.bO Go.Av.back Go.Av.fD Go.Av.one Go.Av.dt Go.Av.xQ
open Go Go.Av
attribute [local irreducible] T ah TX EX LX bC dk bV ck gp aI.kind aI.kids ao.kind ao.name ao.num ao.ty ao.fr ao.label ao.kids
attribute [local simp] aJ al
set_option maxHeartbeats 1000000
@[simp] theorem S6:td Ze 105=some {ag:=true,sz:=2,lR:=32,zero:=some [.nil,.d (.int .i64 0)],el:=none,ar:=none,fl:=[(0,1),(1,1)],ik:=none,cS:=false,nC:=false}:=dR (by kernel_rfl)
@[simp] theorem S7:td Ze 5=some {ag:=false,sz:=1,lR:=1,zero:=some [.d (.int .u8 0)],el:=none,ar:=none,fl:=[],ik:=some .u8,cS:=false,nC:=false}:=dR (by kernel_rfl)
@[simp] theorem Ri:td Ze 22=some {ag:=false,sz:=1,lR:=24,zero:=some [.nil],el:=some 5,ar:=none,fl:=[],ik:=none,cS:=false,nC:=false}:=dR (by kernel_rfl)
@[simp] theorem PX:td Ze 109=some {ag:=false,sz:=1,lR:=24,zero:=some [.nil],el:=some 9,ar:=none,fl:=[],ik:=none,cS:=false,nC:=false}:=dR (by kernel_rfl)
theorem zU (b:List Int) (hb:okB b) (p:Nat) (hp:p<=1099511627776) (n:Int) (hn:n<=1099511627776):
  ∃r:Nat,(r=0\/(r:Int)<n)/\ah Ze 80 [.c (.ptr 0 0),.i n] (dV [rd b p]) (.i r) (dV [rd b (p+1)]) []:=by
 by_cases E8:n<1
 ·refine⟨0,.inl rfl,?_⟩;refine ah.ob Tryz.func80 Tryz.ntmps80 rfl ?_;repeat' first|(refine ab (hK _ ?_);clear hK K)|(refine ae ?_;simp[E8];(try simp(disch:=omega)only[wrap64]);(try(refine gen2 ?_ ?_<;>intro hq<;>try simp[E8]at hq)))|(refine T.ret (aB.oY (Or.inr rfl) ?_ ?_ ?_)<;>simp[Tryz.results80]<;>omega)|refine T.r0 fun K hK=>?_|refine T.ct rfl ?_|refine T.seq ?_
 by_cases KE:b=[]
 ·refine⟨0,.inl rfl,?_⟩;subst KE;refine ah.ob Tryz.func80 Tryz.ntmps80 rfl ?_;repeat' first|(refine ab (hK _ ?_);clear hK K)|(refine ae ?_;simp[E8,rB];(try simp(disch:=omega)only[wrap64]);(try(refine gen2 ?_ ?_<;>intro hq<;>try simp[E8,rB]at hq)))|(refine T.ret (aB.oY (Or.inr rfl) ?_ ?_ ?_)<;>simp[Tryz.results80,rB]<;>omega)|refine T.r0 fun K hK=>?_|refine T.ct rfl ?_|refine T.seq ?_
 have xR:0<b.length:=Zi.2 KE;have JJ:¬(b.length:Int)=0:=by omega
 have Gp:¬n=0:=by omega
 have dO:((p:Int)+1-1)=p:=by omega
 by_cases lZ:p<b.length
 ·have UN:=hb.1 b[p] (Zj lZ);obtain⟨h1,h2⟩:=Ec (n:=n) UN.1 (by omega);obtain⟨r,hr⟩:=Zm h1;refine⟨r,.inr (by omega),?_⟩;have hx:=NR lZ;refine ah.ob Tryz.func80 Tryz.ntmps80 rfl ?_;repeat' first|(refine ab (hK _ ?_);clear hK K)|(refine ae ?_;simp[E8,KE,JJ,Gp,dO,lZ,zL,cH,hr];(try simp(disch:=omega)only[wrap64]);(try(refine gen2 ?_ ?_<;>intro hq<;>try simp[E8,KE,JJ,Gp,dO,lZ,zL,cH,hr]at hq)))|(refine T.ret (aB.oY (Or.inr rfl) ?_ ?_ ?_)<;>simp[Tryz.results80]<;>omega)|refine T.r0 fun K hK=>?_|refine T.ct rfl ?_|refine T.cf rfl ?_|refine T.seq ?_|refine T.skip ?_
 ·have KH:p % b.length<b.length:=Nat.mod_lt _ xR;have Rj:(p*7+3) % b.length<b.length:=Nat.mod_lt _ xR;have e1:(p:Int).tmod b.length=((p % b.length:Nat):Int):=by rw[Zl (by omega)];simp
  have e2:((p:Int)*7+3).tmod b.length=(((p*7+3) % b.length:Nat):Int):=by rw[Zl (by omega)];simp
  have uR:=hb.1 _ (Zj KH);have JH:=hb.1 _ (Zj Rj);generalize p % b.length=i1 at*;generalize (p*7+3) % b.length=i2 at*;obtain⟨gR,jE⟩:=tdiv_le (a:=(p:Int)) (n:=b.length) (by omega) (by omega);generalize hD:(p:Int).tdiv b.length=D at gR jE;generalize S8:b[i1]=c1 at uR;generalize S9:b[i2]=c2 at JH;obtain⟨X,hX⟩:∃X,X=c1*131+c2*1117+(p:Int)*29+D*53:=⟨_,rfl⟩;have UO:0<=X/\X<=1152921504606846976:=by omega
  obtain⟨N9,VQ⟩:=tdiv_le (a:=X) (n:=64) (by omega) (by omega);obtain⟨PY,By⟩:=Ff (x:=X) (y:=X.tdiv 64) UO.1 (by omega) N9 (by omega);generalize hZ:AL .xor .i64 X (X.tdiv 64)=Z at PY By;obtain⟨h1,h2⟩:=Ec (n:=n) PY (by omega);obtain⟨r,hr⟩:=Zm h1;refine⟨r,.inr (by omega),?_⟩;refine ah.ob Tryz.func80 Tryz.ntmps80 rfl ?_;repeat' first|((first|refine ab (hK _ ?_)|refine aD (hK _ ?_));clear hK K)|((first|refine ae ?_|refine aH ?_);simp[E8,KE,JJ,Gp,dO,lZ,e1,e2,zL,cH,KH,Rj,S8,S9,hD,<-hX,hZ,hr];(try simp(disch:=omega)only[wrap64]);(try(refine gen2 ?_ ?_<;>intro hq<;>try simp[E8,KE,JJ,Gp,dO,lZ,e1,e2,zL,cH,KH,Rj,S8,S9,hD,<-hX,hZ,hr]at hq)))|(refine T.ret (aB.oY (Or.inr rfl) ?_ ?_ ?_)<;>simp[Tryz.results80]<;>omega)|refine T.rd (id:=7) mixed (fun _=>false) [] (by kernel_rfl) fun K hK=>?_|refine T.r0 fun K hK=>?_|refine T.cf rfl ?_|refine T.seq ?_|refine T.skip ?_
abbrev ints (l:List Int):List (List DV):=l.map fun n=>[.i n]
abbrev strs (l:List (List UInt8)):List (List DV):=l.map fun s=>[.str s]
theorem eh (b:List Int) (hb:okB b) (p:Nat) (hp:p<=1099511627776) (n:Int) (hn:n<=1099511627776):
  bC Ze 80 [.i n] b p 1 (RV (fun r:Nat=>.i r) vp fun r=>r=0\/(r:Int)<n):=by
 obtain⟨r,hr,hc⟩:=zU b hb p hp n hn;exact bC.mk (p':=p+1) r hr (by omega) (by omega) hc
theorem iP (b:List Int) (hb:okB b) (p:Nat) (hp:p<=1099511627776) (l:List Int) (hl:l≠[]) (tA:l.length<=1000):
  bC Ze 81 [.l (ints l)] b p 1 (RV (fun x:Int=>.i x) vp fun x=>x∈l):=by
 obtain⟨r,hr,hc⟩:=zU b hb p hp l.length (by omega);have UP:0<l.length:=Zi.2 hl;have nB:r<l.length:=by rcases hr with h|h<;>omega
 obtain⟨x,hx⟩:=bM nB;have Oa:l[r]=x:=by rw[Zf nB]at hx;exact Option.some.inj hx
 refine bC.mk (p':=p+1) x (Zg hx) (by omega) (by omega) ?_;refine ah.ob Tryz.func81 Tryz.ntmps81 rfl ?_;repeat' first|(refine ab (hK _ ?_);clear hK K)|((first|refine ae ?_|refine ja 0 (rd b p) (rd b (p+1)) rfl (by simp) hc ?_);simp[nB,Oa];(try(refine gen2 ?_ ?_<;>intro hq<;>try simp[nB,Oa]at hq)))|(refine T.ret (aB.oY (Or.inr rfl) ?_ ?_ ?_)<;>simp[Tryz.results81]<;>omega)|refine T.r0 fun K hK=>?_
theorem Hx (b:List Int) (hb:okB b) (p:Nat) (hp:p<=1099511627776) (l:List (List UInt8)) (hl:l≠[]) (tA:l.length<=1000):
  bC Ze 82 [.l (strs l)] b p 1 (RV (fun x:List UInt8=>.s x) vp fun x=>x∈l):=by
 obtain⟨r,hr,hc⟩:=zU b hb p hp l.length (by omega);have UP:0<l.length:=Zi.2 hl;have nB:r<l.length:=by rcases hr with h|h<;>omega
 obtain⟨x,hx⟩:=bM nB;have Oa:l[r]=x:=by rw[Zf nB]at hx;exact Option.some.inj hx
 refine bC.mk (p':=p+1) x (Zg hx) (by omega) (by omega) ?_;refine ah.ob Tryz.func82 Tryz.ntmps82 rfl ?_;repeat' first|(refine ab (hK _ ?_);clear hK K)|((first|refine ae ?_|refine ja 0 (rd b p) (rd b (p+1)) rfl (by simp) hc ?_);simp[nB,Oa];(try(refine gen2 ?_ ?_<;>intro hq<;>try simp[nB,Oa]at hq)))|(refine T.ret (aB.oY (Or.inr rfl) ?_ ?_ ?_)<;>simp[Tryz.results82]<;>omega)|refine T.r0 fun K hK=>?_
theorem C6 (b:List Int) (hb:∀n∈b,0<=n/\n<=255):∃b' p',okB b'/\p'=0/\ah Ze 35 [.l (rB b)] [] (.c (.ptr 0 0)) (dV [rd b' p']) []:=by
 by_cases hl:(2000:Int)<b.length
 ·refine⟨b.take 2000,0,⟨fun n hn=>hb n (List.mem_of_mem_take hn),by simp;omega⟩,rfl,?_⟩;have hr:∀r∈rB b,r.length=1:=by intro r hr;simp[rB]at hr;obtain⟨a,_,rfl⟩:=hr;rfl
  have ht:(rB b).take 2000=rB (b.take 2000):=by simp[rB,List.map_take]
  refine ah.ob Tryz.func35 Tryz.ntmps35 rfl ?_;repeat' first|(refine ab (hK _ ?_);clear hK K)|(refine ae ?_;simp[hl,cH,ht];(try(refine gen2 ?_ ?_<;>intro hq<;>try simp[hl,cH,ht]at hq)))|(refine⟨by omega,hr,?_⟩)|refine T.r0 fun K hK=>?_|refine T.r1 fun K hK=>?_|refine T.ct rfl ?_|refine T.seq ?_
  refine T.ret (aB.E7 0 (Or.inr rfl) ?_ ?_)<;>simp[aA,Tryz.results35]
 ·refine⟨b,0,⟨hb,by omega⟩,rfl,?_⟩;refine ah.ob Tryz.func35 Tryz.ntmps35 rfl ?_;repeat' first|(refine ab (hK _ ?_);clear hK K)|(refine ae ?_;simp[hl,cH];(try(refine gen2 ?_ ?_<;>intro hq<;>try simp[hl,cH]at hq)))|refine T.r0 fun K hK=>?_|refine T.cf rfl ?_|refine T.seq ?_|refine T.skip ?_
  refine T.ret (aB.E7 0 (Or.inr rfl) ?_ ?_)<;>simp[aA,Tryz.results35]
theorem je (b:List Int) (hb:okB b):∀(d p:Nat),d<=100->p+4 ^(d+1)<=1099511627776->bC Ze 87 [.i (d+1)] b p (4 ^(d+1)) (RV dE vp fun t=>ak (d+1) t=true):=by
 intro d;induction d with
 |zero=>
  intro p Ob hp;refine bC.cD Tryz.func87 (by kernel_rfl) rfl (by kernel_rfl) (by simp[Tryz.ntmps87]) ?_;rw[Tryz.ntmps87];repeat' first|(refine ab (hK _ ?_);clear hK K)|((first|refine ae ?_|refine aa rfl (tO _) ?_);simp[cz];(try simp(disch:=omega)only[wrap64]);(try(refine gen2 ?_ ?_<;>intro hq<;>try simp[cz]at hq)))|(refine aE 0 rfl rfl (iP b hb _ (by omega) [2,1,4,3,5,2,4] (by simp) (by simp)) (fun x p1 hx dO cc=>?_);simp at hx;rcases hx with rfl|rfl|rfl|rfl|rfl|rfl|rfl<;>(simp[cz];(try simp(disch:=omega)only[wrap64])))|refine TX.rs (fun _=>false) fun K hK=>?_|refine TX.eQ (fun _=>false) fun K hK=>?_|refine TX.cond rfl (fun an=>?_) (fun an=>absurd an (by decide))|refine TX.cond rfl (fun an=>absurd an (by decide)) (fun an=>?_)|refine TX.seq ?_|refine TX.block ?_|refine TX.skip ?_|refine TX.exit ?_|refine EX.iG ?_|refine EX.oJ ?_|refine EX.kK ?_|refine EX.Fi ?_|refine TX.nY ?_
  all_goals(
   refine TX.ret ?_;repeat' first|refine EX.lU ?_|refine EX.il ?_|refine EX.e0 ?_|refine EX.lV ?_
   apply EX.yH (ks:=[])
   case he=>exact Or.inr rfl
   case mK=>simp[aA,dW,Tryz.results87]<;>rfl
   case hv=>first|(dsimp only[Av.one];exact rfl)|dsimp only[Av.one]
   case hx=>repeat' first|exact eb.var _|exact bp.xN _|exact cT.var _|exact eH.row _|exact cT.row _|exact bg.nil|exact bf.nil|exact bh.nil|exact bg.map _|exact bf.map _|exact bh.map _|exact bp.int _|exact bp.str _|exact bp.bool _|apply bp.p2|apply bp.p3|apply bp.tm|apply bp.ty|apply cT.node|apply eH.of|apply bg.cons|apply bf.cons|apply bh.cons|apply bp.wz|apply bp.xO|apply bp.xP|apply eb.node|apply bg.app|apply bf.app|apply bh.app
   case hA=>exact rfl
   case l3=>simp
   case hV=>exact rfl
   case h1=>omega
   case h2=>omega
   case hg=>simp[si,cz, *])
 |succ d ih=>
  intro p Ob hp;have h4:4 ^(d+1+1)=4*4 ^(d+1):=by rw[Zn];omega
  have h1:1<=4 ^(d+1):=Zo (by simp);have hd:¬((d:Int)+1+1<2):=by omega
  have jE:(d:Int)+1+1-1=d+1:=by omega
  rw[h4]at hp⊢;generalize hN:4 ^(d+1)=N at*;refine bC.cD Tryz.func87 (by kernel_rfl) rfl (by kernel_rfl) (by simp[Tryz.ntmps87]) ?_;rw[Tryz.ntmps87];repeat' first|((first|refine ab (hK _ ?_)|refine bj (hK _ ?_));clear hK K)|((first|refine ae ?_|refine bB ?_|refine aa rfl (tO _) ?_);simp[cz,hd,jE];(try simp(disch:=omega)only[wrap64]);(try(refine gen2 ?_ ?_<;>intro hq<;>try simp[cz,hd,jE]at hq)))|(refine aE 0 rfl rfl (iP b hb _ (by omega) [2,1,4,3,5,2,4] (by simp) (by simp)) (fun x p1 hx dO cc=>?_);simp at hx;rcases hx with rfl|rfl|rfl|rfl|rfl|rfl|rfl<;>(simp[cz,hd,jE];(try simp(disch:=omega)only[wrap64])))|(refine aE 0 rfl rfl (ih _ (by omega) (by omega)) (fun x1 p1 dB dO cc=>?_);simp[cz,hd,jE];(try simp(disch:=omega)only[wrap64]);(try(refine gen2 ?_ ?_<;>intro hq<;>try simp[cz,hd,jE]at hq)))|refine TX.CS (id:=8) mixed (fun _=>false) [5,7,9] [1] 6 [0] (by kernel_rfl) fun K hK=>?_|refine TX.rs (fun _=>false) fun K hK=>?_|refine TX.eQ (fun _=>false) fun K hK=>?_|refine TX.cond rfl (fun an=>?_) (fun an=>absurd an (by decide))|refine TX.cond rfl (fun an=>absurd an (by decide)) (fun an=>?_)|refine TX.seq ?_|refine TX.block ?_|refine TX.skip ?_|refine TX.exit ?_|refine EX.iG ?_|refine EX.oJ ?_|refine EX.iv ?_|refine EX.kK ?_|refine EX.Fi ?_|refine EX.zM ?_|refine TX.nY ?_
  all_goals(
   refine TX.ret ?_;repeat' first|refine EX.lU ?_|refine EX.il ?_|refine EX.e0 ?_|refine EX.lV ?_
   apply EX.yH (ks:=[])
   case he=>exact Or.inr rfl
   case mK=>simp[aA,dW,Tryz.results87]<;>rfl
   case hv=>first|(dsimp only[Av.one];exact rfl)|dsimp only[Av.one]
   case hx=>repeat' first|exact eb.var _|exact bp.xN _|exact cT.var _|exact eH.row _|exact cT.row _|exact bg.nil|exact bf.nil|exact bh.nil|exact bg.map _|exact bf.map _|exact bh.map _|exact bp.int _|exact bp.str _|exact bp.bool _|apply bp.p2|apply bp.p3|apply bp.tm|apply bp.ty|apply cT.node|apply eH.of|apply bg.cons|apply bf.cons|apply bh.cons|apply bp.wz|apply bp.xO|apply bp.xP|apply eb.node|apply bg.app|apply bf.app|apply bh.app
   case hA=>exact rfl
   case l3=>simp
   case hV=>exact rfl
   case h1=>omega
   case h2=>omega
   case hg=>simp[si,cz, *])
theorem Fs (b:List Int) (hb:okB b) (p:Nat) (hp:p+300<=1099511627776):bC Ze 84 [] b p 300 (RV dE vp fun t=>ak 4 t=true):=by
 refine bC.cD Tryz.func84 (by kernel_rfl) rfl (by kernel_rfl) (by simp[Tryz.ntmps84]) ?_;rw[Tryz.ntmps84];repeat' first|(refine ab (hK _ ?_);clear hK K)|(refine aE 0 rfl rfl (iP b hb _ (by omega) [3,2,4,1,3] (by simp) (by simp)) (fun x p1 hx dO cc=>?_);simp at hx;rcases hx with rfl|rfl|rfl|rfl|rfl<;>(simp))|((first|refine ae ?_|refine aE 0 rfl rfl (je b hb 3 _ (by omega) (by omega)) (fun x1 p1 dB dO cc=>?_)|refine aE 0 rfl rfl (je b hb 2 _ (by omega) (by omega)) (fun x1 p1 dB dO cc=>?_)|refine aE 0 rfl rfl (je b hb 1 _ (by omega) (by omega)) (fun x1 p1 dB dO cc=>?_)|refine aE 0 rfl rfl (je b hb 0 _ (by omega) (by omega)) (fun x1 p1 dB dO cc=>?_));simp;(try(refine gen2 ?_ ?_<;>intro hq<;>try simp at hq)))|refine TX.rs (fun _=>false) fun K hK=>?_
 all_goals(
  refine TX.ret ?_;repeat' first|refine EX.lU ?_|refine EX.il ?_|refine EX.e0 ?_|refine EX.lV ?_
  apply EX.yH (ks:=[])
  case he=>exact Or.inr rfl
  case mK=>simp[aA,dW,Tryz.results84]<;>rfl
  case hv=>first|(dsimp only[Av.one];exact rfl)|dsimp only[Av.one]
  case hx=>repeat' first|exact eb.var _|exact bp.xN _|exact cT.var _|exact eH.row _|exact cT.row _|exact bg.nil|exact bf.nil|exact bh.nil|exact bg.map _|exact bf.map _|exact bh.map _|exact bp.int _|exact bp.str _|exact bp.bool _|apply bp.p2|apply bp.p3|apply bp.tm|apply bp.ty|apply cT.node|apply eH.of|apply bg.cons|apply bf.cons|apply bh.cons|apply bp.wz|apply bp.xO|apply bp.xP|apply eb.node|apply bg.app|apply bf.app|apply bh.app
  case hA=>exact rfl
  case l3=>simp
  case hV=>exact rfl
  case h1=>omega
  case h2=>omega
  case hg=>first|assumption|exact cy (by assumption)|exact cy (cy (by assumption))|exact cy (cy (cy (by assumption))))
theorem jL (b:List Int) (hb:okB b):∀(d:Nat) (t:aI) (p:Nat),ak d t=true->p+4 ^ d<=1099511627776->bC Ze 123 [dE t] b p (4 ^ d) (RV dE vp fun t=>ak d t=true):=by
 intro d;induction d with
 |zero=>intro t p ht;simp[ak]at ht
 |succ d ih=>
  intro t p ht hp;have h4:4 ^(d+1)=4*4 ^ d:=by rw[Zn];omega
  have h1:1<=4 ^ d:=Zo (by simp);rw[h4]at hp⊢;generalize hN:4 ^ d=N at*;have oZ:=lG;obtain⟨e,he,hk,hl,hs⟩:=eg ht;obtain rfl:d=e:=by omega
  match ia:t.kids,hl with
  |[],_=>
   rw[ia]at hk;have gv:cz t.kind=0:=by simpa using hk
   refine bC.cD Tryz.func123 (by kernel_rfl) rfl (by kernel_rfl) (by simp[Tryz.ntmps123]) ?_;rw[Tryz.ntmps123];repeat' first|(refine ab (hK _ ?_);clear hK K)|((first|refine ae ?_|refine aa rfl (oZ) ?_);simp[ia];(try simp(disch:=omega)only[wrap64]);(try(refine gen2 ?_ ?_<;>intro hq<;>try simp[ia]at hq)))|(refine aE 0 rfl rfl (eh b hb _ (by omega) 4 (by omega)) (fun x1 p1 dB dO cc=>?_);simp[ia];(try simp(disch:=omega)only[wrap64]);(try(refine gen2 ?_ ?_<;>intro hq<;>try simp[ia]at hq)))|refine TX.rs (fun _=>false) fun K hK=>?_|refine TX.cond rfl (fun an=>?_) (fun an=>absurd an (by decide))|refine TX.cond rfl (fun an=>absurd an (by decide)) (fun an=>?_)|refine TX.seq ?_|refine TX.block ?_|refine TX.skip ?_|refine TX.exit ?_|refine EX.iG ?_|refine EX.oJ ?_|refine EX.kK ?_|refine EX.Fi ?_|refine TX.nY ?_
   all_goals(
    refine TX.ret ?_;repeat' first|refine EX.lU ?_|refine EX.il ?_|refine EX.e0 ?_|refine EX.lV ?_
    apply EX.yH (ks:=[])
    case he=>exact Or.inr rfl
    case mK=>simp[aA,dW,Tryz.results123]<;>rfl
    case hv=>first|(dsimp only[Av.one];exact rfl)|dsimp only[Av.one]
    case hx=>repeat' first|exact eb.var _|exact bp.xN _|exact cT.var _|exact eH.row _|exact cT.row _|exact bg.nil|exact bf.nil|exact bh.nil|exact bg.map _|exact bf.map _|exact bh.map _|exact bp.int _|exact bp.str _|exact bp.bool _|apply bp.p2|apply bp.p3|apply bp.tm|apply bp.ty|apply cT.node|apply eH.of|apply bg.cons|apply bf.cons|apply bh.cons|apply bp.wz|apply bp.xO|apply bp.xP|apply eb.node|apply bg.app|apply bf.app|apply bh.app
    case hA=>exact rfl
    case l3=>simp
    case hV=>exact rfl
    case h1=>omega
    case h2=>omega
    case hg=>simp[si,show cz 1=0 from rfl,gv, *])
  |[u],_=>
   rw[ia]at hk hs;have gv:cz t.kind=1:=by simpa using hk
   exfalso
   simp[cz]at gv;split at gv
   ·omega
   ·split at gv<;>omega
  |[u,v],_=>
   rw[ia]at hk hs;have gv:cz t.kind=2:=by simpa using hk
   have hu:=hs u (by simp);have hv:=hs v (by simp);refine bC.cD Tryz.func123 (by kernel_rfl) rfl (by kernel_rfl) (by simp[Tryz.ntmps123]) ?_;rw[Tryz.ntmps123];repeat' first|((first|refine ab (hK _ ?_)|refine bj (hK _ ?_));clear hK K)|((first|refine ae ?_|refine bB ?_|refine aa rfl (oZ) ?_);simp[ia];(try simp(disch:=omega)only[wrap64]);(try(refine gen2 ?_ ?_<;>intro hq<;>try simp[ia]at hq)))|(refine aE 0 rfl rfl (eh b hb _ (by omega) 4 (by omega)) (fun x1 p1 dB dO cc=>?_);simp[ia];(try simp(disch:=omega)only[wrap64]);(try(refine gen2 ?_ ?_<;>intro hq<;>try simp[ia]at hq)))|(refine aE 0 rfl rfl (ih u _ hu (by omega)) (fun x1 p1 dB dO cc=>?_);simp[ia];(try simp(disch:=omega)only[wrap64]);(try(refine gen2 ?_ ?_<;>intro hq<;>try simp[ia]at hq)))|(refine aE 0 rfl rfl (ih v _ hv (by omega)) (fun x1 p1 dB dO cc=>?_);simp[ia];(try simp(disch:=omega)only[wrap64]);(try(refine gen2 ?_ ?_<;>intro hq<;>try simp[ia]at hq)))|refine TX.CS (id:=7) mixed (fun _=>false) [8,10,12] [1] 9 [0] (by kernel_rfl) fun K hK=>?_|refine TX.rs (fun _=>false) fun K hK=>?_|refine TX.eQ (fun _=>false) fun K hK=>?_|refine TX.cond rfl (fun an=>?_) (fun an=>absurd an (by decide))|refine TX.cond rfl (fun an=>absurd an (by decide)) (fun an=>?_)|refine TX.seq ?_|refine TX.block ?_|refine TX.skip ?_|refine TX.exit ?_|refine EX.iG ?_|refine EX.oJ ?_|refine EX.iv ?_|refine EX.kK ?_|refine EX.Fi ?_|refine EX.zM ?_|refine TX.nY ?_
   all_goals(
    refine TX.ret ?_;repeat' first|refine EX.lU ?_|refine EX.il ?_|refine EX.e0 ?_|refine EX.lV ?_
    apply EX.yH (ks:=[])
    case he=>exact Or.inr rfl
    case mK=>simp[aA,dW,Tryz.results123]<;>rfl
    case hv=>first|(dsimp only[Av.one];exact rfl)|dsimp only[Av.one]
    case hx=>repeat' first|exact eb.var _|exact bp.xN _|exact cT.var _|exact eH.row _|exact cT.row _|exact bg.nil|exact bf.nil|exact bh.nil|exact bg.map _|exact bf.map _|exact bh.map _|exact bp.int _|exact bp.str _|exact bp.bool _|apply bp.p2|apply bp.p3|apply bp.tm|apply bp.ty|apply cT.node|apply eH.of|apply bg.cons|apply bf.cons|apply bh.cons|apply bp.wz|apply bp.xO|apply bp.xP|apply eb.node|apply bg.app|apply bf.app|apply bh.app
    case hA=>exact rfl
    case l3=>simp
    case hV=>exact rfl
    case h1=>omega
    case h2=>omega
    case hg=>simp[si,show cz 1=0 from rfl,gv, *])
  |_::_::_::_,h=>exact absurd h (by simp)
theorem C7 (t:aI) (hn:fA t<=1099511627776):ah Ze 120 [dE t] [] (.agg [.d (.i t.kind),.own 0 t.kids.length]) [] [{sz:=2,ev:=25,rows:=t.kids.map ck,wr:=true}]:=by
 rw[eI]at hn;have hlen:=fX t.kids;refine ah.ob Tryz.func120 Tryz.ntmps120 rfl ?_;repeat' first|(refine ab (hK _ ?_);clear hK K)|(refine ae ?_;simp;(try(refine gen2 ?_ ?_<;>intro hq<;>try simp at hq)))|refine T.r0 fun K hK=>?_|refine T.seq ?_|refine T.block ?_
 refine T.dq 2 1 2 25 (row:=[.d (.i t.kind),.nil]) (by simp) (by simp) ?_;refine T.fW (fun p:Nat=>⟨[(1,.c (.ptr 0 0)),(2,.c (.ptr 1 0)),(3,.c (.ptr 2 0)),(4,.i p)],[(dE t).cells,[.d (.i 0),.nil],[.d (.i t.kind),.own 0 p]],[{sz:=2,ev:=25,rows:=(t.kids.take p).map ck,wr:=true}]⟩) (fun p=>t.kids.length+1-p) (fun p=>p<=t.kids.length) (fun p hi=>?_) 0 (by simp) (by simp);by_cases ay:p<t.kids.length
 ·obtain⟨u,ht⟩:=bM ay;have eA:u∈t.kids:=Zg ht;have aX:t.kids[p]=u:=by rw[Zf ay]at ht;exact Option.some.inj ht
  have gz:t.kids.drop p=u::t.kids.drop (p+1):=by rw[Zk ay,aX]
  have hu:=bY u (by have:=fE eA;omega);have mN:t.kids.take (p+1)=t.kids.take p++[u]:=by rw[Zh,ht];rfl
  have eU:min p t.kids.length=p:=by omega
  repeat' first|((first|refine ab (hK _ ?_)|refine aD (hK _ ?_));clear hK K)|((first|refine ae ?_|refine aH ?_|refine aa rfl (hu) ?_);simp[ay,aX,eU];(try simp(disch:=omega)only[wrap64]);(try(refine gen2 ?_ ?_<;>intro hq<;>try simp[ay,aX,eU]at hq)))|(refine⟨by omega,by omega,?_⟩)|(refine⟨p+1,by dsimp only;omega,by omega,?_,?_,?_⟩<;>simp(disch:=omega) [wrap64,mN,aJ])|refine T.yd (id:=5) mixed (fun _=>false) [9,11] (by kernel_rfl) fun K hK=>?_|refine T.r0 fun K hK=>?_|refine T.r1 fun K hK=>?_|refine T.ct rfl ?_|refine T.seq ?_|refine T.block ?_|refine T.skip ?_
 ·have fa:p=t.kids.length:=by omega
  subst fa;repeat' first|(refine ab (hK _ ?_);clear hK K)|(refine ae ?_;simp[ay];(try(refine gen2 ?_ ?_<;>intro hq<;>try simp[ay]at hq)))|refine T.r0 fun K hK=>?_|refine T.cf rfl ?_|refine T.seq ?_|refine T.exit ?_
  refine T.ret (aB.CT 0 (Or.inr rfl) (ys:=[_]) ?_ rfl ?_)<;>simp[aA,Tryz.results120]
theorem Bz (b:List Int) (hb:okB b) (t:aI) (hn:fA t<=1000000) (p:Nat) (hp:p+2<=1099511627776):bC Ze 83 [dE t] b p 2 (RV dE vp fun u=>fA u<=fA t+20):=by
 have oZ:=lG;have Br:=C7 t (by omega);have hlen:=fX t.kids;have Gu:=hn;rw[eI]at Gu;refine bC.cD Tryz.func83 (by kernel_rfl) rfl (by kernel_rfl) (by simp[Tryz.ntmps83]) ?_;rw[Tryz.ntmps83];repeat' first|((first|refine ab (hK _ ?_)|refine aD (hK _ ?_));clear hK K)|((first|refine ae ?_|refine aH ?_|refine aa rfl (oZ) ?_);simp;(try simp(disch:=omega)only[wrap64]);(try(refine gen2 ?_ ?_<;>intro hq<;>try simp at hq)))|(refine aE 0 rfl rfl (eh b hb _ (by omega) 40 (by omega)) (fun x1 p1 dB dO cc=>?_);simp;(try simp(disch:=omega)only[wrap64]);(try(refine gen2 ?_ ?_<;>intro hq<;>try simp at hq)))|(refine aE 0 rfl rfl (iP b hb _ (by omega) [0,6,1,4,-1] (by simp) (by simp)) (fun x1 p1 dB dO cc=>?_);simp;(try simp(disch:=omega)only[wrap64]);(try(refine gen2 ?_ ?_<;>intro hq<;>try simp at hq)))|(refine ff rfl (Br) ?_;simp;(try simp(disch:=omega)only[wrap64]);(try(refine gen2 ?_ ?_<;>intro hq<;>try simp at hq)))|(refine⟨by omega,by omega,?_⟩)|refine TX.yd (id:=6) mixed (fun _=>false) [4,6] (by kernel_rfl) fun K hK=>?_|refine TX.yd (id:=11) mixed (fun _=>false) [2,4] (by kernel_rfl) fun K hK=>?_|refine TX.rs (fun _=>false) fun K hK=>?_|refine TX.eQ (fun _=>false) fun K hK=>?_|refine TX.cond rfl (fun an=>?_) (fun an=>absurd an (by decide))|refine TX.cond rfl (fun an=>absurd an (by decide)) (fun an=>?_)|refine TX.seq ?_|refine TX.block ?_|refine TX.skip ?_|refine TX.exit ?_|refine EX.iG ?_|refine EX.oJ ?_|refine EX.iv ?_|refine EX.kK ?_|refine EX.Fi ?_|refine EX.zM ?_|refine TX.nY ?_
 all_goals(
  refine TX.ret ?_;repeat' first|refine EX.lU ?_|refine EX.il ?_|refine EX.e0 ?_|refine EX.lV ?_
  apply EX.yH (ks:=[])
  case he=>exact Or.inr rfl
  case mK=>simp[aA,dW,Tryz.results83]<;>rfl
  case hv=>first|(dsimp only[Av.one];exact rfl)|dsimp only[Av.one]
  case hx=>repeat' first|exact eb.var _|exact bp.xN _|exact cT.var _|exact eH.row _|exact cT.row _|exact bg.nil|exact bf.nil|exact bh.nil|exact bg.map _|exact bf.map _|exact bh.map _|exact bp.int _|exact bp.str _|exact bp.bool _|apply bp.p2|apply bp.p3|apply bp.tm|apply bp.ty|apply cT.node|apply eH.of|apply bg.cons|apply bf.cons|apply bh.cons|apply bp.wz|apply bp.xO|apply bp.xP|apply eb.node|apply bg.app|apply bf.app|apply bh.app
  case hA=>exact rfl
  case l3=>simp
  case hV=>exact rfl
  case h1=>omega
  case h2=>omega
  case hg=>simp[cA,cP,sj,eI, *]<;>omega)
end Go.Proofs.YtloolmchekcmeaaGreat
namespace Go.Proofs.YtloolmchekcmeaaGreat
attribute [-simp] Go.Av.cW Go.Av.ij Go.Av.cl Go.Av.bO Go.Av.back Go.Av.fD Go.Av.one Go.Av.dt Go.Av.xQ
open Go Go.Av
attribute [local irreducible] T ah TX EX LX bC dk bV ck gp aI.kind aI.kids ao.kind ao.name ao.num ao.ty ao.fr ao.label ao.kids
attribute [local simp] aJ al
set_option maxHeartbeats 16000000
set_option maxRecDepth 8000
theorem wN (n:Int):ah Ze 127 [.i n] [] (cM (.mk 2 [] n bk bk 0 [])) [] []:=by
 refine ah.ob Tryz.func127 Tryz.ntmps127 rfl ?_;repeat' first|(refine ab (hK _ ?_);clear hK K)|(refine ae ?_;simp;(try(refine gen2 ?_ ?_<;>intro hq<;>try simp at hq)))|(refine T.ret (aB.val (Or.inr rfl) ?_)<;>simp[aA,Tryz.results127]<;>omega)|refine T.r0 fun K hK=>?_
theorem Hy (s:List UInt8) (c:UInt8) (hs:s.length<=1099511627776):ah Ze 149 [.s s,.s [c]] [] (.s (lW c s)) [] []:=by
 refine ah.ob Tryz.func149 Tryz.ntmps149 rfl ?_;repeat' first|(refine ab (hK _ ?_);clear hK K)|(refine ae ?_;simp;(try(refine gen2 ?_ ?_<;>intro hq<;>try simp at hq)))|refine T.r0 fun K hK=>?_|refine T.seq ?_|refine T.block ?_
 refine T.fW (fun k:Nat=>⟨[(0,.s s),(1,.s [c]),(4,.s []),(5,.i k)],[],[]⟩) (fun k=>s.length+1-k) (fun k=>k<=s.length/\lW c s=s.take k++lW c (s.drop k)) (fun k hk=>?_) 0 (by simp) (by simp);obtain⟨hi,he⟩:=hk;by_cases ay:k<s.length
 ·have ux:=yI ay;have gz:=drop_cons ay;have mN:s.take (k+1)=s.take k++[s[k]]:=by rw[Zh,Zf ay];rfl
  generalize hx:s[k]=x at*;have xR:=ye x c;have Hz:((k:Int)+1).toNat=k+1:=by omega
  have jn:(k:Int)<=k+1:=by omega
  have ku:(k:Int)+1<=s.length:=by omega
  by_cases h1:x<c
  ·have KW:lW c s=s.take (k+1)++lW c (s.drop (k+1)):=by rw[he,gz,mN];simp[lW,h1]
   repeat' first|(refine ab (hK _ ?_);clear hK K)|(refine ae ?_;simp[ay,Hz,ux,xR,h1,ku];(try simp(disch:=omega)only[wrap64]);(try(refine gen2 ?_ ?_<;>intro hq<;>try simp[ay,Hz,ux,xR,h1,ku]at hq)))|(refine⟨k+1,by dsimp only;omega,⟨by omega,KW⟩,?_⟩;simp(disch:=omega) [wrap64])|refine T.r0 fun K hK=>?_|refine T.r1 fun K hK=>?_|(refine⟨by omega,?_⟩)|refine T.ct rfl ?_|refine T.seq ?_|refine T.block ?_|refine T.skip ?_
  ·by_cases h2:x=c
   ·subst h2;have KW:lW x s=s:=by rw[he,gz];simp[lW];rw[<-gz];simp
    rw[KW];have Oc:Op.bytesLess [x] [x]=false:=by rw[xR];simp
    repeat' first|(refine ab (hK _ ?_);clear hK K)|(refine ae ?_;simp[ay,Hz,ux,Oc,ku];(try simp(disch:=omega)only[wrap64]);(try(refine gen2 ?_ ?_<;>intro hq<;>try simp[ay,Hz,ux,Oc,ku]at hq)))|(refine T.ret (aB.data (Or.inr rfl) ?_ ?_)<;>simp[Tryz.results149]<;>omega)|refine T.r0 fun K hK=>?_|(refine⟨by omega,?_⟩)|refine T.ct rfl ?_|refine T.cf rfl ?_|refine T.seq ?_|refine T.exit ?_
   ·have KW:lW c s=s.take k++[c]++s.drop k:=by rw[he,gz];simp[lW,h1,h2]
    rw[KW];have eU:min k s.length=k:=by omega
    have tj:k+1<=4611686018427387904:=by omega
    have MM:k+1+(s.length-k)<=4611686018427387904:=by omega
    repeat' first|((first|refine ab (hK _ ?_)|refine aD (hK _ ?_));clear hK K)|((first|refine ae ?_|refine aH ?_);simp[ay,Hz,ux,xR,h1,h2,ku,eU,tj,MM];(try simp(disch:=omega)only[wrap64]);(try(refine gen2 ?_ ?_<;>intro hq<;>try simp[ay,Hz,ux,xR,h1,h2,ku,eU,tj,MM]at hq)))|(refine T.ret (aB.data (Or.inr rfl) ?_ ?_)<;>simp[Tryz.results149]<;>omega)|refine T.rd (id:=6) mixed (fun _=>false) [] (by kernel_rfl) fun K hK=>?_|refine T.r0 fun K hK=>?_|(refine⟨by omega,?_⟩)|refine T.cf rfl ?_|refine T.seq ?_|refine T.skip ?_|refine T.exit ?_
 ·have o9:k=s.length:=by omega
  subst o9;simp[lW]at he;rw[he];have tj:s.length+1<=4611686018427387904:=by omega
  repeat' first|((first|refine ab (hK _ ?_)|refine aD (hK _ ?_));clear hK K)|((first|refine ae ?_|refine aH ?_);simp[ay,tj];(try simp(disch:=omega)only[wrap64]);(try(refine gen2 ?_ ?_<;>intro hq<;>try simp[ay,tj]at hq)))|(refine T.ret (aB.data (Or.inr rfl) ?_ ?_)<;>simp[Tryz.results149]<;>omega)|refine T.rd (id:=6) mixed (fun _=>false) [] (by kernel_rfl) fun K hK=>?_|refine T.r0 fun K hK=>?_|refine T.cf rfl ?_|refine T.seq ?_|refine T.skip ?_|refine T.exit ?_
theorem Ft:∀(e:ao),eR e<=1099511627776->ah Ze 79 [cM e] [] (cM e) [] []:=by
 intro e;induction e using ao.ind with
 |h e ih=>
  intro hn;obtain⟨jo,nE,yl,o6⟩:=cB hn;have h1:=bY e.ty jo;have h2:=bY e.fr nE;refine ah.ob Tryz.func79 Tryz.ntmps79 rfl ?_;repeat' first|(refine ab (hK _ ?_);clear hK K)|((first|refine ae ?_|refine aa rfl (h1) ?_|refine aa rfl (h2) ?_);simp;(try(refine gen2 ?_ ?_<;>intro hq<;>try simp at hq)))|refine T.r0 fun K hK=>?_|refine T.seq ?_|refine T.block ?_
  refine T.dq 2 8 9 28 rfl rfl ?_;refine T.fW (fun p:Nat=>⟨[(1,.c (.ptr 0 0)),(2,.c (.ptr 1 0)),(3,.c (.ptr 2 0)),(4,.i p)],[(cM e).cells,[.d (.i 0),.d (.str []),.d (.i 0),.d (.i 0),.nil,.d (.i 0),.nil,.d (.i 0),.nil],[.d (.i e.kind),.d (.str e.name),.d (.i e.num),.d (.i e.ty.kind),.d (.sl (e.ty.kids.map ck)),.d (.i e.fr.kind),.d (.sl (e.fr.kids.map ck)),.d (.i e.label),.own 0 p]],[{sz:=9,ev:=28,rows:=(e.kids.take p).map gp,wr:=true}]⟩) (fun p=>e.kids.length+1-p) (fun p=>p<=e.kids.length) (fun p hi=>?_) 0 (by simp) (by simp);by_cases ay:p<e.kids.length
  ·obtain⟨u,ht⟩:=bM ay;have eA:u∈e.kids:=Zg ht;have aX:e.kids[p]=u:=by rw[Zf ay]at ht;exact Option.some.inj ht
   have gz:e.kids.drop p=u::e.kids.drop (p+1):=by rw[Zk ay,aX]
   have hu:=ih u eA (o6 u eA);have mN:e.kids.take (p+1)=e.kids.take p++[u]:=by rw[Zh,ht];rfl
   have eU:min p e.kids.length=p:=by omega
   repeat' first|((first|refine ab (hK _ ?_)|refine aD (hK _ ?_));clear hK K)|((first|refine ae ?_|refine aH ?_|refine aa rfl (hu) ?_);simp[ay,aX,eU];(try simp(disch:=omega)only[wrap64]);(try(refine gen2 ?_ ?_<;>intro hq<;>try simp[ay,aX,eU]at hq)))|(refine⟨p+1,by dsimp only;omega,by omega,?_,?_,?_⟩<;>simp(disch:=omega) [wrap64,mN,al])|refine T.yd (id:=8) mixed (fun _=>false) [9,11] (by kernel_rfl) fun K hK=>?_|refine T.r0 fun K hK=>?_|refine T.r1 fun K hK=>?_|(refine⟨by omega,?_⟩)|refine T.ct rfl ?_|refine T.seq ?_|refine T.block ?_|refine T.skip ?_
  ·have fa:p=e.kids.length:=by omega
   subst fa;repeat' first|(refine ab (hK _ ?_);clear hK K)|(refine ae ?_;simp[ay];(try(refine gen2 ?_ ?_<;>intro hq<;>try simp[ay]at hq)))|(refine T.ret (aB.val (Or.inr rfl) ?_)<;>simp[aA,Tryz.results79]<;>omega)|refine T.r0 fun K hK=>?_|refine T.cf rfl ?_|refine T.seq ?_|refine T.exit ?_
theorem jM (b:List Int) (hb:okB b) (x:Int) (hx:x=1\/x=2\/x=3\/x=4) (p:Nat) (hp:p+256<=1099511627776):bC Ze 87 [.i x] b p 256 (RV dE vp fun t=>ak 4 t=true):=by
 rcases hx with rfl|rfl|rfl|rfl
 ·exact(je b hb 0 p (by omega) (by omega)).mono (by omega) fun t h=>cy (cy (cy h))
 ·exact(je b hb 1 p (by omega) (by omega)).mono (by omega) fun t h=>cy (cy h)
 ·exact(je b hb 2 p (by omega) (by omega)).mono (by omega) fun t h=>cy h
 ·exact(je b hb 3 p (by omega) (by omega)).mono (by omega) fun t h=>h
theorem tR (b:List Int) (hb:okB b) (s:List UInt8) (hs:s.length<=1000) (p:Nat) (hp:p+3<=1099511627776):bC Ze 148 [.s s] b p 3 (RV cM vp fun e=>eR e<=1):=by
 have BA:=wN;refine bC.cD Tryz.func148 (by kernel_rfl) rfl (by kernel_rfl) (by simp[Tryz.ntmps148]) ?_;rw[Tryz.ntmps148];repeat' first|(refine ab (hK _ ?_);clear hK K)|((first|refine ae ?_|refine aa rfl (BA _) ?_);simp;(try simp(disch:=omega)only[wrap64]);(try(refine gen2 ?_ ?_<;>intro hq<;>try simp at hq)))|(refine aE 0 rfl rfl (eh b hb _ (by omega) 4 (by omega)) (fun x1 p1 dB dO cc=>?_);simp;(try simp(disch:=omega)only[wrap64]);(try(refine gen2 ?_ ?_<;>intro hq<;>try simp at hq)))|(refine aE 0 rfl rfl (eh b hb _ (by omega) 5 (by omega)) (fun x1 p1 dB dO cc=>?_);simp;(try simp(disch:=omega)only[wrap64]);(try(refine gen2 ?_ ?_<;>intro hq<;>try simp at hq)))|(refine aE 0 rfl rfl (eh b hb _ (by omega) s.length (by omega)) (fun x1 p1 dB dO cc=>?_);simp;(try simp(disch:=omega)only[wrap64]);(try(refine gen2 ?_ ?_<;>intro hq<;>try simp at hq)))|(refine aE 0 rfl rfl (iP b hb _ (by omega) [1,0,2,5,999,7] (by simp) (by simp)) (fun x1 p1 dB dO cc=>?_);simp;(try simp(disch:=omega)only[wrap64]);(try(refine gen2 ?_ ?_<;>intro hq<;>try simp at hq)))|refine TX.rs (fun _=>false) fun K hK=>?_|(refine⟨by omega,?_⟩)|refine TX.cond rfl (fun an=>?_) (fun an=>absurd an (by decide))|refine TX.cond rfl (fun an=>absurd an (by decide)) (fun an=>?_)|refine TX.seq ?_|refine TX.block ?_|refine TX.skip ?_|refine EX.iG ?_|refine EX.iv ?_
 all_goals(
  refine TX.ret ?_;repeat' first|refine EX.lU ?_|refine EX.il ?_|refine EX.e0 ?_|refine EX.lV ?_
  apply EX.yH (ks:=[])
  case he=>exact Or.inr rfl
  case mK=>simp[aA,dW,Tryz.results148]<;>rfl
  case hv=>first|(dsimp only[Av.one];exact rfl)|dsimp only[Av.one]
  case hx=>repeat' first|exact eb.var _|exact bp.xN _|exact cT.var _|exact eH.row _|exact cT.row _|exact bg.nil|exact bf.nil|exact bh.nil|exact bg.map _|exact bf.map _|exact bh.map _|exact bp.int _|exact bp.str _|exact bp.bool _|apply bp.p2|apply bp.p3|apply bp.tm|apply bp.ty|apply cT.node|apply eH.of|apply bg.cons|apply bf.cons|apply bh.cons|apply bp.wz|apply bp.xO|apply bp.xP|apply eb.node|apply bg.app|apply bf.app|apply bh.app
  case hA=>exact rfl
  case l3=>simp
  case hV=>exact rfl
  case h1=>omega
  case h2=>omega
  case hg=>simp[fg,cA,cP,eW]<;>omega)
theorem qg (b:List Int) (hb:okB b):∀(d:Nat) (s:List UInt8) (p:Nat),d<=50->s.length+d<=100->p+400*4 ^ d<=1099511627776->bC Ze 130 [.s s,.i d] b p (400*4 ^ d) (RV cM vp fun e=>eR e<=400*4 ^ d):=by
 intro d;induction d with
 |zero=>
  intro s p hd hs hp;refine bC.cD Tryz.func130 (by kernel_rfl) rfl (by kernel_rfl) (by simp[Tryz.ntmps130]) ?_;rw[Tryz.ntmps130];repeat' first|(refine ab (hK _ ?_);clear hK K)|(refine ae ?_;simp;(try simp(disch:=omega)only[wrap64]);(try(refine gen2 ?_ ?_<;>intro hq<;>try simp at hq)))|(refine aE 0 rfl rfl (tR b hb s (by omega) _ (by omega)) (fun x1 p1 dB dO cc=>?_);simp;(try simp(disch:=omega)only[wrap64]);(try(refine gen2 ?_ ?_<;>intro hq<;>try simp at hq)))|refine TX.rs (fun _=>false) fun K hK=>?_|refine TX.cond rfl (fun an=>?_) (fun an=>absurd an (by decide))|refine TX.seq ?_
  all_goals(
   refine TX.ret ?_;repeat' first|refine EX.lU ?_|refine EX.il ?_|refine EX.e0 ?_|refine EX.lV ?_
   apply EX.yH (ks:=[])
   case he=>exact Or.inr rfl
   case mK=>simp[aA,dW,Tryz.results130]<;>rfl
   case hv=>first|(dsimp only[Av.one];exact rfl)|dsimp only[Av.one]
   case hx=>repeat' first|exact eb.var _|exact bp.xN _|exact cT.var _|exact eH.row _|exact cT.row _|exact bg.nil|exact bf.nil|exact bh.nil|exact bg.map _|exact bf.map _|exact bh.map _|exact bp.int _|exact bp.str _|exact bp.bool _|apply bp.p2|apply bp.p3|apply bp.tm|apply bp.ty|apply cT.node|apply eH.of|apply bg.cons|apply bf.cons|apply bh.cons|apply bp.wz|apply bp.xO|apply bp.xP|apply eb.node|apply bg.app|apply bf.app|apply bh.app
   case hA=>exact rfl
   case l3=>simp
   case hV=>exact rfl
   case h1=>omega
   case h2=>omega
   case hg=>omega)
 |succ d ih=>
  intro s p hd hs hp;have h4:4 ^(d+1)=4*4 ^ d:=by rw[Zn];omega
  have h1:1<=4 ^ d:=Zo (by simp);rw[h4]at hp⊢;generalize hN:4 ^ d=N at*;by_cases I3:d=0
  ·subst I3;refine bC.cD Tryz.func130 (by kernel_rfl) rfl (by kernel_rfl) (by simp[Tryz.ntmps130]) ?_;rw[Tryz.ntmps130];repeat' first|(refine ab (hK _ ?_);clear hK K)|(refine ae ?_;simp;(try simp(disch:=omega)only[wrap64]);(try(refine gen2 ?_ ?_<;>intro hq<;>try simp at hq)))|(refine aE 0 rfl rfl (tR b hb s (by omega) _ (by omega)) (fun x1 p1 dB dO cc=>?_);simp;(try simp(disch:=omega)only[wrap64]);(try(refine gen2 ?_ ?_<;>intro hq<;>try simp at hq)))|refine TX.rs (fun _=>false) fun K hK=>?_|refine TX.cond rfl (fun an=>?_) (fun an=>absurd an (by decide))|refine TX.seq ?_
   all_goals(
    refine TX.ret ?_;repeat' first|refine EX.lU ?_|refine EX.il ?_|refine EX.e0 ?_|refine EX.lV ?_
    apply EX.yH (ks:=[])
    case he=>exact Or.inr rfl
    case mK=>simp[aA,dW,Tryz.results130]<;>rfl
    case hv=>first|(dsimp only[Av.one];exact rfl)|dsimp only[Av.one]
    case hx=>repeat' first|exact eb.var _|exact bp.xN _|exact cT.var _|exact eH.row _|exact cT.row _|exact bg.nil|exact bf.nil|exact bh.nil|exact bg.map _|exact bf.map _|exact bh.map _|exact bp.int _|exact bp.str _|exact bp.bool _|apply bp.p2|apply bp.p3|apply bp.tm|apply bp.ty|apply cT.node|apply eH.of|apply bg.cons|apply bf.cons|apply bh.cons|apply bp.wz|apply bp.xO|apply bp.xP|apply eb.node|apply bg.app|apply bf.app|apply bh.app
    case hA=>exact rfl
    case l3=>simp
    case hV=>exact rfl
    case h1=>omega
    case h2=>omega
    case hg=>omega)
  have jE:¬((d:Int)+1<2):=by omega
  have o5:(d:Int)+1-1=d:=by omega
  have qX:∀c,(lW c s).length+d<=100:=fun c=>by have:=wA c s;omega
  refine bC.cD Tryz.func130 (by kernel_rfl) rfl (by kernel_rfl) (by simp[Tryz.ntmps130]) ?_;rw[Tryz.ntmps130];repeat' first|((first|refine ab (hK _ ?_)|refine bj (hK _ ?_));clear hK K)|((first|refine ae ?_|refine bB ?_|refine aa rfl (yP _) ?_|refine aa rfl (Hy s _ (by omega)) ?_);simp[cm,jE,o5];(try simp(disch:=omega)only[wrap64]);(try(refine gen2 ?_ ?_<;>intro hq<;>try simp[cm,jE,o5]at hq)))|(refine aE 0 rfl rfl (iP b hb _ (by omega) [6,5,7,9,13,10,11,8,12,5,6] (by simp) (by simp)) (fun x p1 hx dO cc=>?_);simp at hx;(have j8:x=6\/x=5\/x=7\/x=9\/x=13\/x=10\/x=11\/x=8\/x=12:=by omega);clear hx;rcases j8 with rfl|rfl|rfl|rfl|rfl|rfl|rfl|rfl|rfl<;>(simp[cm,jE,o5];(try simp(disch:=omega)only[wrap64])))|(refine aE 0 rfl rfl (tR b hb s (by omega) _ (by omega)) (fun x1 p1 dB dO cc=>?_);simp[cm,jE,o5];(try simp(disch:=omega)only[wrap64]);(try(refine gen2 ?_ ?_<;>intro hq<;>try simp[cm,jE,o5]at hq)))|(refine aE 0 rfl rfl (eh b hb _ (by omega) 6 (by omega)) (fun x1 p1 dB dO cc=>?_);simp[cm,jE,o5];(try simp(disch:=omega)only[wrap64]);(try(refine gen2 ?_ ?_<;>intro hq<;>try simp[cm,jE,o5]at hq)))|(refine aE 0 rfl rfl (ih s _ (by omega) (by omega) (by omega)) (fun x1 p1 dB dO cc=>?_);simp[cm,jE,o5];(try simp(disch:=omega)only[wrap64]);(try(refine gen2 ?_ ?_<;>intro hq<;>try simp[cm,jE,o5]at hq)))|(refine aE 0 rfl rfl (ih (lW _ s) _ (by omega) (qX _) (by omega)) (fun x1 p1 dB dO cc=>?_);simp[cm,jE,o5];(try simp(disch:=omega)only[wrap64]);(try(refine gen2 ?_ ?_<;>intro hq<;>try simp[cm,jE,o5]at hq)))|((first|(refine aE 0 rfl rfl (Hx b hb _ (by omega) [[120],[121],[122],[102]] (by simp) (by simp)) (fun x p1 hx dO cc=>?_);(obtain⟨c,rfl⟩:∃c,x=[c]:=by simp at hx;rcases hx with rfl|rfl|rfl|rfl<;>exact⟨_,rfl⟩))|(refine aE 0 rfl rfl (iP b hb _ (by omega) [2,1,3,2] (by simp) (by simp)) (fun y p1 hy dO cc=>?_);simp at hy)|(refine aE 0 rfl rfl (jM b hb _ (by omega) _ (by omega)) (fun t p1 ht dO cc=>?_);replace ht:=dc ht));simp)|refine TX.CS (id:=13) mixed (fun _=>false) [6,8,10] [1] 7 [0] (by kernel_rfl) fun K hK=>?_|refine TX.rs (fun _=>false) fun K hK=>?_|refine TX.eQ (fun _=>false) fun K hK=>?_|refine TX.cond rfl (fun an=>?_) (fun an=>absurd an (by decide))|refine TX.cond rfl (fun an=>absurd an (by decide)) (fun an=>?_)|refine TX.seq ?_|refine TX.block ?_|refine TX.skip ?_|refine TX.exit ?_|refine EX.iG ?_|refine EX.oJ ?_|refine EX.iv ?_|refine EX.kK ?_|refine EX.Fi ?_|refine EX.zM ?_|refine TX.nY ?_
  all_goals(
   refine TX.ret ?_;repeat' first|refine EX.lU ?_|refine EX.il ?_|refine EX.e0 ?_|refine EX.lV ?_
   apply EX.yH (ks:=[])
   case he=>exact Or.inr rfl
   case mK=>simp[aA,dW,Tryz.results130]<;>rfl
   case hv=>first|(dsimp only[Av.one];exact rfl)|dsimp only[Av.one]
   case hx=>repeat' first|exact eb.var _|exact bp.xN _|exact cT.var _|exact eH.row _|exact cT.row _|exact bg.nil|exact bf.nil|exact bh.nil|exact bg.map _|exact bf.map _|exact bh.map _|exact bp.int _|exact bp.str _|exact bp.bool _|apply bp.p2|apply bp.p3|apply bp.tm|apply bp.ty|apply cT.node|apply eH.of|apply bg.cons|apply bf.cons|apply bh.cons|apply bp.wz|apply bp.xO|apply bp.xP|apply eb.node|apply bg.app|apply bf.app|apply bh.app
   case hA=>exact rfl
   case l3=>simp
   case hV=>exact rfl
   case h1=>omega
   case h2=>omega
   case hg=>(try simp[fg,cA,cP,eW])<;>omega)
end Go.Proofs.YtloolmchekcmeaaGreat
