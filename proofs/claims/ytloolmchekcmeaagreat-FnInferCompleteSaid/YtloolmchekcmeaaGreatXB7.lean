/- A part. -/
import Derived.Test.YtloolmchekcmeaaGreatXB6
set_option linter.unusedVariables false
set_option linter.unusedSimpArgs false
open Go.Proofs.Tryz renaming prog->Zo
open List renaming getElem?_eq_getElem->Zp,mem_of_getElem?->Zq,take_add_one->Zr,length_pos_iff->Zs,getElem_mem->Zt,drop_eq_getElem_cons->Zu
open Int renaming tmod_eq_emod_of_nonneg->Zv,eq_ofNat_of_zero_le->Zw
open Nat renaming pow_succ->Zx,pos_of_ne_zero->Zy
namespace Go.Proofs.YtloolmchekcmeaaGreat
attribute [-simp] Go.Av.cU Go.Av.ic Go.Av.ck Go.Av.bK Go.Av.back Go.Av.fD Go.Av.one Go.Av.dJ Go.Av.yH
open Go Go.Av
attribute [local irreducible] T ah TX EX LX bB dn bW cx ie aG.kind aG.kids al.kind al.name al.num al.ty al.fr al.label al.kids
attribute [local simp] aL au
set_option maxHeartbeats 1000000
@[simp] theorem Ta:td Zo 105=some {ag:=true,sz:=2,lS:=32,zero:=some [.nil,.d (.int .i64 0)],el:=none,ar:=none,fl:=[(0,1),(1,1)],ik:=none,cO:=false,nz:=false}:=dQ (by kernel_rfl)
@[simp] theorem Tb:td Zo 5=some {ag:=false,sz:=1,lS:=1,zero:=some [.d (.int .u8 0)],el:=none,ar:=none,fl:=[],ik:=some .u8,cO:=false,nz:=false}:=dQ (by kernel_rfl)
@[simp] theorem Rl:td Zo 22=some {ag:=false,sz:=1,lS:=24,zero:=some [.nil],el:=some 5,ar:=none,fl:=[],ik:=none,cO:=false,nz:=false}:=dQ (by kernel_rfl)
@[simp] theorem PW:td Zo 109=some {ag:=false,sz:=1,lS:=24,zero:=some [.nil],el:=some 9,ar:=none,fl:=[],ik:=none,cO:=false,nz:=false}:=dQ (by kernel_rfl)
theorem As (b:List Int) (hb:okB b) (p:Nat) (hp:p<=1099511627776) (n:Int) (hn:n<=1099511627776):
  ∃r:Nat,(r=0\/(r:Int)<n)/\ah Zo 80 [.c (.ptr 0 0),.i n] (dV [rd b p]) (.i r) (dV [rd b (p+1)]) []:=by
 by_cases FE:n<1
 ·refine⟨0,.inl rfl,?_⟩;refine ah.ob Tryz.func80 Tryz.ntmps80 rfl ?_;repeat' first|(refine ab (hK _ ?_);clear hK K)|(refine ae ?_;simp[FE];(try simp(disch:=omega)only[wrap64]);(try(refine gen2 ?_ ?_<;>intro hq<;>try simp[FE]at hq)))|(refine T.ret (aB.oS (Or.inr rfl) ?_ ?_ ?_)<;>simp[Tryz.results80]<;>omega)|refine T.r0 fun K hK=>?_|refine T.ct rfl ?_|refine T.seq ?_
 by_cases KC:b=[]
 ·refine⟨0,.inl rfl,?_⟩;subst KC;refine ah.ob Tryz.func80 Tryz.ntmps80 rfl ?_;repeat' first|(refine ab (hK _ ?_);clear hK K)|(refine ae ?_;simp[FE,rB];(try simp(disch:=omega)only[wrap64]);(try(refine gen2 ?_ ?_<;>intro hq<;>try simp[FE,rB]at hq)))|(refine T.ret (aB.oS (Or.inr rfl) ?_ ?_ ?_)<;>simp[Tryz.results80,rB]<;>omega)|refine T.r0 fun K hK=>?_|refine T.ct rfl ?_|refine T.seq ?_
 have yi:0<b.length:=Zs.2 KC;have JP:¬(b.length:Int)=0:=by omega
 have GK:¬n=0:=by omega
 have dM:((p:Int)+1-1)=p:=by omega
 by_cases l6:p<b.length
 ·have US:=hb.1 b[p] (Zt l6);obtain⟨h1,h2⟩:=EL (n:=n) US.1 (by omega);obtain⟨r,hr⟩:=Zw h1;refine⟨r,.inr (by omega),?_⟩;have hx:=NS l6;refine ah.ob Tryz.func80 Tryz.ntmps80 rfl ?_;repeat' first|(refine ab (hK _ ?_);clear hK K)|(refine ae ?_;simp[FE,KC,JP,GK,dM,l6,Aj,fF,hr];(try simp(disch:=omega)only[wrap64]);(try(refine gen2 ?_ ?_<;>intro hq<;>try simp[FE,KC,JP,GK,dM,l6,Aj,fF,hr]at hq)))|(refine T.ret (aB.oS (Or.inr rfl) ?_ ?_ ?_)<;>simp[Tryz.results80]<;>omega)|refine T.r0 fun K hK=>?_|refine T.ct rfl ?_|refine T.cf rfl ?_|refine T.seq ?_|refine T.skip ?_
 ·have KG:p % b.length<b.length:=Nat.mod_lt _ yi;have Rm:(p*7+3) % b.length<b.length:=Nat.mod_lt _ yi;have e1:(p:Int).tmod b.length=((p % b.length:Nat):Int):=by rw[Zv (by omega)];simp
  have e2:((p:Int)*7+3).tmod b.length=(((p*7+3) % b.length:Nat):Int):=by rw[Zv (by omega)];simp
  have th:=hb.1 _ (Zt KG);have HO:=hb.1 _ (Zt Rm);generalize p % b.length=i1 at*;generalize (p*7+3) % b.length=i2 at*;obtain⟨gk,jk⟩:=tdiv_le (a:=(p:Int)) (n:=b.length) (by omega) (by omega);generalize hD:(p:Int).tdiv b.length=D at gk jk;generalize Tc:b[i1]=c1 at th;generalize Td:b[i2]=c2 at HO;obtain⟨X,hX⟩:∃X,X=c1*131+c2*1117+(p:Int)*29+D*53:=⟨_,rfl⟩;have UT:0<=X/\X<=1152921504606846976:=by omega
  obtain⟨Ob,VZ⟩:=tdiv_le (a:=X) (n:=64) (by omega) (by omega);obtain⟨PX,Cc⟩:=FL (x:=X) (y:=X.tdiv 64) UT.1 (by omega) Ob (by omega);generalize hZ:Bl .xor .i64 X (X.tdiv 64)=Z at PX Cc;obtain⟨h1,h2⟩:=EL (n:=n) PX (by omega);obtain⟨r,hr⟩:=Zw h1;refine⟨r,.inr (by omega),?_⟩;refine ah.ob Tryz.func80 Tryz.ntmps80 rfl ?_;repeat' first|((first|refine ab (hK _ ?_)|refine aC (hK _ ?_));clear hK K)|((first|refine ae ?_|refine aI ?_);simp[FE,KC,JP,GK,dM,l6,e1,e2,Aj,fF,KG,Rm,Tc,Td,hD,<-hX,hZ,hr];(try simp(disch:=omega)only[wrap64]);(try(refine gen2 ?_ ?_<;>intro hq<;>try simp[FE,KC,JP,GK,dM,l6,e1,e2,Aj,fF,KG,Rm,Tc,Td,hD,<-hX,hZ,hr]at hq)))|(refine T.ret (aB.oS (Or.inr rfl) ?_ ?_ ?_)<;>simp[Tryz.results80]<;>omega)|refine T.rd (id:=7) mixed (fun _=>false) [] (by kernel_rfl) fun K hK=>?_|refine T.r0 fun K hK=>?_|refine T.cf rfl ?_|refine T.seq ?_|refine T.skip ?_
abbrev ints (l:List Int):List (List DV):=l.map fun n=>[.i n]
abbrev strs (l:List (List UInt8)):List (List DV):=l.map fun s=>[.str s]
theorem eh (b:List Int) (hb:okB b) (p:Nat) (hp:p<=1099511627776) (n:Int) (hn:n<=1099511627776):
  bB Zo 80 [.i n] b p 1 (RV (fun r:Nat=>.i r) vJ fun r=>r=0\/(r:Int)<n):=by
 obtain⟨r,hr,hc⟩:=As b hb p hp n hn;exact bB.mk (p':=p+1) r hr (by omega) (by omega) hc
theorem iq (b:List Int) (hb:okB b) (p:Nat) (hp:p<=1099511627776) (l:List Int) (hl:l≠[]) (vV:l.length<=1000):
  bB Zo 81 [.l (ints l)] b p 1 (RV (fun x:Int=>.i x) vJ fun x=>x∈l):=by
 obtain⟨r,hr,hc⟩:=As b hb p hp l.length (by omega);have UU:0<l.length:=Zs.2 hl;have yo:r<l.length:=by rcases hr with h|h<;>omega
 obtain⟨x,hx⟩:=bR yo;have Oc:l[r]=x:=by rw[Zp yo]at hx;exact Option.some.inj hx
 refine bB.mk (p':=p+1) x (Zq hx) (by omega) (by omega) ?_;refine ah.ob Tryz.func81 Tryz.ntmps81 rfl ?_;repeat' first|(refine ab (hK _ ?_);clear hK K)|((first|refine ae ?_|refine kq 0 (rd b p) (rd b (p+1)) rfl (by simp) hc ?_);simp[yo,Oc];(try(refine gen2 ?_ ?_<;>intro hq<;>try simp[yo,Oc]at hq)))|(refine T.ret (aB.oS (Or.inr rfl) ?_ ?_ ?_)<;>simp[Tryz.results81]<;>omega)|refine T.r0 fun K hK=>?_
theorem HQ (b:List Int) (hb:okB b) (p:Nat) (hp:p<=1099511627776) (l:List (List UInt8)) (hl:l≠[]) (vV:l.length<=1000):
  bB Zo 82 [.l (strs l)] b p 1 (RV (fun x:List UInt8=>.s x) vJ fun x=>x∈l):=by
 obtain⟨r,hr,hc⟩:=As b hb p hp l.length (by omega);have UU:0<l.length:=Zs.2 hl;have yo:r<l.length:=by rcases hr with h|h<;>omega
 obtain⟨x,hx⟩:=bR yo;have Oc:l[r]=x:=by rw[Zp yo]at hx;exact Option.some.inj hx
 refine bB.mk (p':=p+1) x (Zq hx) (by omega) (by omega) ?_;refine ah.ob Tryz.func82 Tryz.ntmps82 rfl ?_;repeat' first|(refine ab (hK _ ?_);clear hK K)|((first|refine ae ?_|refine kq 0 (rd b p) (rd b (p+1)) rfl (by simp) hc ?_);simp[yo,Oc];(try(refine gen2 ?_ ?_<;>intro hq<;>try simp[yo,Oc]at hq)))|(refine T.ret (aB.oS (Or.inr rfl) ?_ ?_ ?_)<;>simp[Tryz.results82]<;>omega)|refine T.r0 fun K hK=>?_
theorem DO (b:List Int) (hb:∀n∈b,0<=n/\n<=255):∃b' p',okB b'/\p'=0/\ah Zo 35 [.l (rB b)] [] (.c (.ptr 0 0)) (dV [rd b' p']) []:=by
 by_cases hl:(2000:Int)<b.length
 ·refine⟨b.take 2000,0,⟨fun n hn=>hb n (List.mem_of_mem_take hn),by simp;omega⟩,rfl,?_⟩;have hr:∀r∈rB b,r.length=1:=by intro r hr;simp[rB]at hr;obtain⟨a,_,rfl⟩:=hr;rfl
  have ht:(rB b).take 2000=rB (b.take 2000):=by simp[rB,List.map_take]
  refine ah.ob Tryz.func35 Tryz.ntmps35 rfl ?_;repeat' first|(refine ab (hK _ ?_);clear hK K)|(refine ae ?_;simp[hl,fF,ht];(try(refine gen2 ?_ ?_<;>intro hq<;>try simp[hl,fF,ht]at hq)))|(refine⟨by omega,hr,?_⟩)|refine T.r0 fun K hK=>?_|refine T.r1 fun K hK=>?_|refine T.ct rfl ?_|refine T.seq ?_
  refine T.ret (aB.pj 0 (Or.inr rfl) ?_ ?_)<;>simp[ay,Tryz.results35]
 ·refine⟨b,0,⟨hb,by omega⟩,rfl,?_⟩;refine ah.ob Tryz.func35 Tryz.ntmps35 rfl ?_;repeat' first|(refine ab (hK _ ?_);clear hK K)|(refine ae ?_;simp[hl,fF];(try(refine gen2 ?_ ?_<;>intro hq<;>try simp[hl,fF]at hq)))|refine T.r0 fun K hK=>?_|refine T.cf rfl ?_|refine T.seq ?_|refine T.skip ?_
  refine T.ret (aB.pj 0 (Or.inr rfl) ?_ ?_)<;>simp[ay,Tryz.results35]
theorem jg (b:List Int) (hb:okB b):∀(d p:Nat),d<=100->p+4 ^(d+1)<=1099511627776->bB Zo 87 [.i (d+1)] b p (4 ^(d+1)) (RV dF vJ fun t=>ak (d+1) t=true):=by
 intro d;induction d with
 |zero=>
  intro p Od hp;refine bB.cA Tryz.func87 (by kernel_rfl) rfl (by kernel_rfl) (by simp[Tryz.ntmps87]) ?_;rw[Tryz.ntmps87];repeat' first|(refine ab (hK _ ?_);clear hK K)|((first|refine ae ?_|refine aa rfl (tT _) ?_);simp[cy];(try simp(disch:=omega)only[wrap64]);(try(refine gen2 ?_ ?_<;>intro hq<;>try simp[cy]at hq)))|(refine aD 0 rfl rfl (iq b hb _ (by omega) [2,1,4,3,5,2,4] (by simp) (by simp)) (fun x p1 hx dM ca=>?_);simp at hx;rcases hx with rfl|rfl|rfl|rfl|rfl|rfl|rfl<;>(simp[cy];(try simp(disch:=omega)only[wrap64])))|refine TX.rs (fun _=>false) fun K hK=>?_|refine TX.fm (fun _=>false) fun K hK=>?_|refine TX.cond rfl (fun aq=>?_) (fun aq=>absurd aq (by decide))|refine TX.cond rfl (fun aq=>absurd aq (by decide)) (fun aq=>?_)|refine TX.seq ?_|refine TX.block ?_|refine TX.skip ?_|refine TX.exit ?_|refine EX.jd ?_|refine EX.pE ?_|refine EX.lG ?_|refine EX.FN ?_|refine TX.nW ?_
  all_goals(
   refine TX.ret ?_;repeat' first|refine EX.lW ?_|refine EX.ig ?_|refine EX.eZ ?_|refine EX.lX ?_
   apply EX.y9 (ks:=[])
   case he=>exact Or.inr rfl
   case mJ=>simp[ay,dS,Tryz.results87]<;>rfl
   case hv=>first|(dsimp only[Av.one];exact rfl)|dsimp only[Av.one]
   case hx=>repeat' first|exact ea.var _|exact bk.yd _|exact cP.var _|exact eJ.row _|exact cP.row _|exact aZ.nil|exact aY.nil|exact a6.nil|exact aZ.map _|exact aY.map _|exact a6.map _|exact bk.int _|exact bk.str _|exact bk.bool _|apply bk.p2|apply bk.p3|apply bk.tm|apply bk.ty|apply cP.node|apply eJ.of|apply aZ.cons|apply aY.cons|apply a6.cons|apply bk.wP|apply bk.ye|apply bk.yf|apply ea.node|apply aZ.app|apply aY.app|apply a6.app
   case hA=>exact rfl
   case l7=>simp
   case hV=>exact rfl
   case h1=>omega
   case h2=>omega
   case hg=>simp[sA,cy, *])
 |succ d ih=>
  intro p Od hp;have h4:4 ^(d+1+1)=4*4 ^(d+1):=by rw[Zx];omega
  have h1:1<=4 ^(d+1):=Zy (by simp);have hd:¬((d:Int)+1+1<2):=by omega
  have jk:(d:Int)+1+1-1=d+1:=by omega
  rw[h4]at hp⊢;generalize hN:4 ^(d+1)=N at*;refine bB.cA Tryz.func87 (by kernel_rfl) rfl (by kernel_rfl) (by simp[Tryz.ntmps87]) ?_;rw[Tryz.ntmps87];repeat' first|((first|refine ab (hK _ ?_)|refine bc (hK _ ?_));clear hK K)|((first|refine ae ?_|refine bw ?_|refine aa rfl (tT _) ?_);simp[cy,hd,jk];(try simp(disch:=omega)only[wrap64]);(try(refine gen2 ?_ ?_<;>intro hq<;>try simp[cy,hd,jk]at hq)))|(refine aD 0 rfl rfl (iq b hb _ (by omega) [2,1,4,3,5,2,4] (by simp) (by simp)) (fun x p1 hx dM ca=>?_);simp at hx;rcases hx with rfl|rfl|rfl|rfl|rfl|rfl|rfl<;>(simp[cy,hd,jk];(try simp(disch:=omega)only[wrap64])))|(refine aD 0 rfl rfl (ih _ (by omega) (by omega)) (fun x1 p1 dC dM ca=>?_);simp[cy,hd,jk];(try simp(disch:=omega)only[wrap64]);(try(refine gen2 ?_ ?_<;>intro hq<;>try simp[cy,hd,jk]at hq)))|refine TX.Dy (id:=8) mixed (fun _=>false) [5,7,9] [1] 6 [0] (by kernel_rfl) fun K hK=>?_|refine TX.rs (fun _=>false) fun K hK=>?_|refine TX.fm (fun _=>false) fun K hK=>?_|refine TX.cond rfl (fun aq=>?_) (fun aq=>absurd aq (by decide))|refine TX.cond rfl (fun aq=>absurd aq (by decide)) (fun aq=>?_)|refine TX.seq ?_|refine TX.block ?_|refine TX.skip ?_|refine TX.exit ?_|refine EX.jd ?_|refine EX.pE ?_|refine EX.iN ?_|refine EX.lG ?_|refine EX.FN ?_|refine EX.Al ?_|refine TX.nW ?_
  all_goals(
   refine TX.ret ?_;repeat' first|refine EX.lW ?_|refine EX.ig ?_|refine EX.eZ ?_|refine EX.lX ?_
   apply EX.y9 (ks:=[])
   case he=>exact Or.inr rfl
   case mJ=>simp[ay,dS,Tryz.results87]<;>rfl
   case hv=>first|(dsimp only[Av.one];exact rfl)|dsimp only[Av.one]
   case hx=>repeat' first|exact ea.var _|exact bk.yd _|exact cP.var _|exact eJ.row _|exact cP.row _|exact aZ.nil|exact aY.nil|exact a6.nil|exact aZ.map _|exact aY.map _|exact a6.map _|exact bk.int _|exact bk.str _|exact bk.bool _|apply bk.p2|apply bk.p3|apply bk.tm|apply bk.ty|apply cP.node|apply eJ.of|apply aZ.cons|apply aY.cons|apply a6.cons|apply bk.wP|apply bk.ye|apply bk.yf|apply ea.node|apply aZ.app|apply aY.app|apply a6.app
   case hA=>exact rfl
   case l7=>simp
   case hV=>exact rfl
   case h1=>omega
   case h2=>omega
   case hg=>simp[sA,cy, *])
theorem FV (b:List Int) (hb:okB b) (p:Nat) (hp:p+300<=1099511627776):bB Zo 84 [] b p 300 (RV dF vJ fun t=>ak 4 t=true):=by
 refine bB.cA Tryz.func84 (by kernel_rfl) rfl (by kernel_rfl) (by simp[Tryz.ntmps84]) ?_;rw[Tryz.ntmps84];repeat' first|(refine ab (hK _ ?_);clear hK K)|(refine aD 0 rfl rfl (iq b hb _ (by omega) [3,2,4,1,3] (by simp) (by simp)) (fun x p1 hx dM ca=>?_);simp at hx;rcases hx with rfl|rfl|rfl|rfl|rfl<;>(simp))|((first|refine ae ?_|refine aD 0 rfl rfl (jg b hb 3 _ (by omega) (by omega)) (fun x1 p1 dC dM ca=>?_)|refine aD 0 rfl rfl (jg b hb 2 _ (by omega) (by omega)) (fun x1 p1 dC dM ca=>?_)|refine aD 0 rfl rfl (jg b hb 1 _ (by omega) (by omega)) (fun x1 p1 dC dM ca=>?_)|refine aD 0 rfl rfl (jg b hb 0 _ (by omega) (by omega)) (fun x1 p1 dC dM ca=>?_));simp;(try(refine gen2 ?_ ?_<;>intro hq<;>try simp at hq)))|refine TX.rs (fun _=>false) fun K hK=>?_
 all_goals(
  refine TX.ret ?_;repeat' first|refine EX.lW ?_|refine EX.ig ?_|refine EX.eZ ?_|refine EX.lX ?_
  apply EX.y9 (ks:=[])
  case he=>exact Or.inr rfl
  case mJ=>simp[ay,dS,Tryz.results84]<;>rfl
  case hv=>first|(dsimp only[Av.one];exact rfl)|dsimp only[Av.one]
  case hx=>repeat' first|exact ea.var _|exact bk.yd _|exact cP.var _|exact eJ.row _|exact cP.row _|exact aZ.nil|exact aY.nil|exact a6.nil|exact aZ.map _|exact aY.map _|exact a6.map _|exact bk.int _|exact bk.str _|exact bk.bool _|apply bk.p2|apply bk.p3|apply bk.tm|apply bk.ty|apply cP.node|apply eJ.of|apply aZ.cons|apply aY.cons|apply a6.cons|apply bk.wP|apply bk.ye|apply bk.yf|apply ea.node|apply aZ.app|apply aY.app|apply a6.app
  case hA=>exact rfl
  case l7=>simp
  case hV=>exact rfl
  case h1=>omega
  case h2=>omega
  case hg=>first|assumption|exact cc (by assumption)|exact cc (cc (by assumption))|exact cc (cc (cc (by assumption))))
theorem jM (b:List Int) (hb:okB b):∀(d:Nat) (t:aG) (p:Nat),ak d t=true->p+4 ^ d<=1099511627776->bB Zo 123 [dF t] b p (4 ^ d) (RV dF vJ fun t=>ak d t=true):=by
 intro d;induction d with
 |zero=>intro t p ht;simp[ak]at ht
 |succ d ih=>
  intro t p ht hp;have h4:4 ^(d+1)=4*4 ^ d:=by rw[Zx];omega
  have h1:1<=4 ^ d:=Zy (by simp);rw[h4]at hp⊢;generalize hN:4 ^ d=N at*;have oT:=lJ;obtain⟨e,he,hk,hl,hs⟩:=eg ht;obtain rfl:d=e:=by omega
  match fx:t.kids,hl with
  |[],_=>
   rw[fx]at hk;have gC:cy t.kind=0:=by simpa using hk
   refine bB.cA Tryz.func123 (by kernel_rfl) rfl (by kernel_rfl) (by simp[Tryz.ntmps123]) ?_;rw[Tryz.ntmps123];repeat' first|(refine ab (hK _ ?_);clear hK K)|((first|refine ae ?_|refine aa rfl (oT) ?_);simp[fx];(try simp(disch:=omega)only[wrap64]);(try(refine gen2 ?_ ?_<;>intro hq<;>try simp[fx]at hq)))|(refine aD 0 rfl rfl (eh b hb _ (by omega) 4 (by omega)) (fun x1 p1 dC dM ca=>?_);simp[fx];(try simp(disch:=omega)only[wrap64]);(try(refine gen2 ?_ ?_<;>intro hq<;>try simp[fx]at hq)))|refine TX.rs (fun _=>false) fun K hK=>?_|refine TX.cond rfl (fun aq=>?_) (fun aq=>absurd aq (by decide))|refine TX.cond rfl (fun aq=>absurd aq (by decide)) (fun aq=>?_)|refine TX.seq ?_|refine TX.block ?_|refine TX.skip ?_|refine TX.exit ?_|refine EX.jd ?_|refine EX.pE ?_|refine EX.lG ?_|refine EX.FN ?_|refine TX.nW ?_
   all_goals(
    refine TX.ret ?_;repeat' first|refine EX.lW ?_|refine EX.ig ?_|refine EX.eZ ?_|refine EX.lX ?_
    apply EX.y9 (ks:=[])
    case he=>exact Or.inr rfl
    case mJ=>simp[ay,dS,Tryz.results123]<;>rfl
    case hv=>first|(dsimp only[Av.one];exact rfl)|dsimp only[Av.one]
    case hx=>repeat' first|exact ea.var _|exact bk.yd _|exact cP.var _|exact eJ.row _|exact cP.row _|exact aZ.nil|exact aY.nil|exact a6.nil|exact aZ.map _|exact aY.map _|exact a6.map _|exact bk.int _|exact bk.str _|exact bk.bool _|apply bk.p2|apply bk.p3|apply bk.tm|apply bk.ty|apply cP.node|apply eJ.of|apply aZ.cons|apply aY.cons|apply a6.cons|apply bk.wP|apply bk.ye|apply bk.yf|apply ea.node|apply aZ.app|apply aY.app|apply a6.app
    case hA=>exact rfl
    case l7=>simp
    case hV=>exact rfl
    case h1=>omega
    case h2=>omega
    case hg=>simp[sA,show cy 1=0 from rfl,gC, *])
  |[u],_=>
   rw[fx]at hk hs;have gC:cy t.kind=1:=by simpa using hk
   exfalso
   simp[cy]at gC;split at gC
   ·omega
   ·split at gC<;>omega
  |[u,v],_=>
   rw[fx]at hk hs;have gC:cy t.kind=2:=by simpa using hk
   have hu:=hs u (by simp);have hv:=hs v (by simp);refine bB.cA Tryz.func123 (by kernel_rfl) rfl (by kernel_rfl) (by simp[Tryz.ntmps123]) ?_;rw[Tryz.ntmps123];repeat' first|((first|refine ab (hK _ ?_)|refine bc (hK _ ?_));clear hK K)|((first|refine ae ?_|refine bw ?_|refine aa rfl (oT) ?_);simp[fx];(try simp(disch:=omega)only[wrap64]);(try(refine gen2 ?_ ?_<;>intro hq<;>try simp[fx]at hq)))|(refine aD 0 rfl rfl (eh b hb _ (by omega) 4 (by omega)) (fun x1 p1 dC dM ca=>?_);simp[fx];(try simp(disch:=omega)only[wrap64]);(try(refine gen2 ?_ ?_<;>intro hq<;>try simp[fx]at hq)))|(refine aD 0 rfl rfl (ih u _ hu (by omega)) (fun x1 p1 dC dM ca=>?_);simp[fx];(try simp(disch:=omega)only[wrap64]);(try(refine gen2 ?_ ?_<;>intro hq<;>try simp[fx]at hq)))|(refine aD 0 rfl rfl (ih v _ hv (by omega)) (fun x1 p1 dC dM ca=>?_);simp[fx];(try simp(disch:=omega)only[wrap64]);(try(refine gen2 ?_ ?_<;>intro hq<;>try simp[fx]at hq)))|refine TX.Dy (id:=7) mixed (fun _=>false) [8,10,12] [1] 9 [0] (by kernel_rfl) fun K hK=>?_|refine TX.rs (fun _=>false) fun K hK=>?_|refine TX.fm (fun _=>false) fun K hK=>?_|refine TX.cond rfl (fun aq=>?_) (fun aq=>absurd aq (by decide))|refine TX.cond rfl (fun aq=>absurd aq (by decide)) (fun aq=>?_)|refine TX.seq ?_|refine TX.block ?_|refine TX.skip ?_|refine TX.exit ?_|refine EX.jd ?_|refine EX.pE ?_|refine EX.iN ?_|refine EX.lG ?_|refine EX.FN ?_|refine EX.Al ?_|refine TX.nW ?_
   all_goals(
    refine TX.ret ?_;repeat' first|refine EX.lW ?_|refine EX.ig ?_|refine EX.eZ ?_|refine EX.lX ?_
    apply EX.y9 (ks:=[])
    case he=>exact Or.inr rfl
    case mJ=>simp[ay,dS,Tryz.results123]<;>rfl
    case hv=>first|(dsimp only[Av.one];exact rfl)|dsimp only[Av.one]
    case hx=>repeat' first|exact ea.var _|exact bk.yd _|exact cP.var _|exact eJ.row _|exact cP.row _|exact aZ.nil|exact aY.nil|exact a6.nil|exact aZ.map _|exact aY.map _|exact a6.map _|exact bk.int _|exact bk.str _|exact bk.bool _|apply bk.p2|apply bk.p3|apply bk.tm|apply bk.ty|apply cP.node|apply eJ.of|apply aZ.cons|apply aY.cons|apply a6.cons|apply bk.wP|apply bk.ye|apply bk.yf|apply ea.node|apply aZ.app|apply aY.app|apply a6.app
    case hA=>exact rfl
    case l7=>simp
    case hV=>exact rfl
    case h1=>omega
    case h2=>omega
    case hg=>simp[sA,show cy 1=0 from rfl,gC, *])
  |_::_::_::_,h=>exact absurd h (by simp)
theorem DP (t:aG) (hn:fE t<=1099511627776):ah Zo 120 [dF t] [] (.agg [.d (.i t.kind),.own 0 t.kids.length]) [] [{sz:=2,eA:=25,rows:=t.kids.map cx,wr:=true}]:=by
 rw[eK]at hn;have hlen:=gg t.kids;refine ah.ob Tryz.func120 Tryz.ntmps120 rfl ?_;repeat' first|(refine ab (hK _ ?_);clear hK K)|(refine ae ?_;simp;(try(refine gen2 ?_ ?_<;>intro hq<;>try simp at hq)))|refine T.r0 fun K hK=>?_|refine T.seq ?_|refine T.block ?_
 refine T.dq 2 1 2 25 (row:=[.d (.i t.kind),.nil]) (by simp) (by simp) ?_;refine T.gy (fun p:Nat=>⟨[(1,.c (.ptr 0 0)),(2,.c (.ptr 1 0)),(3,.c (.ptr 2 0)),(4,.i p)],[(dF t).cells,[.d (.i 0),.nil],[.d (.i t.kind),.own 0 p]],[{sz:=2,eA:=25,rows:=(t.kids.take p).map cx,wr:=true}]⟩) (fun p=>t.kids.length+1-p) (fun p=>p<=t.kids.length) (fun p hi=>?_) 0 (by simp) (by simp);by_cases ax:p<t.kids.length
 ·obtain⟨u,ht⟩:=bR ax;have eQ:u∈t.kids:=Zq ht;have bf:t.kids[p]=u:=by rw[Zp ax]at ht;exact Option.some.inj ht
  have gP:t.kids.drop p=u::t.kids.drop (p+1):=by rw[Zu ax,bf]
  have hu:=bX u (by have:=gh eQ;omega);have mL:t.kids.take (p+1)=t.kids.take p++[u]:=by rw[Zr,ht];rfl
  have eX:min p t.kids.length=p:=by omega
  repeat' first|((first|refine ab (hK _ ?_)|refine aC (hK _ ?_));clear hK K)|((first|refine ae ?_|refine aI ?_|refine aa rfl (hu) ?_);simp[ax,bf,eX];(try simp(disch:=omega)only[wrap64]);(try(refine gen2 ?_ ?_<;>intro hq<;>try simp[ax,bf,eX]at hq)))|(refine⟨by omega,by omega,?_⟩)|(refine⟨p+1,by dsimp only;omega,by omega,?_,?_,?_⟩<;>simp(disch:=omega) [wrap64,mL,aL])|refine T.yA (id:=5) mixed (fun _=>false) [9,11] (by kernel_rfl) fun K hK=>?_|refine T.r0 fun K hK=>?_|refine T.r1 fun K hK=>?_|refine T.ct rfl ?_|refine T.seq ?_|refine T.block ?_|refine T.skip ?_
 ·have ff:p=t.kids.length:=by omega
  subst ff;repeat' first|(refine ab (hK _ ?_);clear hK K)|(refine ae ?_;simp[ax];(try(refine gen2 ?_ ?_<;>intro hq<;>try simp[ax]at hq)))|refine T.r0 fun K hK=>?_|refine T.cf rfl ?_|refine T.seq ?_|refine T.exit ?_
  refine T.ret (aB.Dz 0 (Or.inr rfl) (ys:=[_]) ?_ rfl ?_)<;>simp[ay,Tryz.results120]
theorem Cd (b:List Int) (hb:okB b) (t:aG) (hn:fE t<=1000000) (p:Nat) (hp:p+2<=1099511627776):bB Zo 83 [dF t] b p 2 (RV dF vJ fun u=>fE u<=fE t+20):=by
 have oT:=lJ;have B5:=DP t (by omega);have hlen:=gg t.kids;have GQ:=hn;rw[eK]at GQ;refine bB.cA Tryz.func83 (by kernel_rfl) rfl (by kernel_rfl) (by simp[Tryz.ntmps83]) ?_;rw[Tryz.ntmps83];repeat' first|((first|refine ab (hK _ ?_)|refine aC (hK _ ?_));clear hK K)|((first|refine ae ?_|refine aI ?_|refine aa rfl (oT) ?_);simp;(try simp(disch:=omega)only[wrap64]);(try(refine gen2 ?_ ?_<;>intro hq<;>try simp at hq)))|(refine aD 0 rfl rfl (eh b hb _ (by omega) 40 (by omega)) (fun x1 p1 dC dM ca=>?_);simp;(try simp(disch:=omega)only[wrap64]);(try(refine gen2 ?_ ?_<;>intro hq<;>try simp at hq)))|(refine aD 0 rfl rfl (iq b hb _ (by omega) [0,6,1,4,-1] (by simp) (by simp)) (fun x1 p1 dC dM ca=>?_);simp;(try simp(disch:=omega)only[wrap64]);(try(refine gen2 ?_ ?_<;>intro hq<;>try simp at hq)))|(refine fX rfl (B5) ?_;simp;(try simp(disch:=omega)only[wrap64]);(try(refine gen2 ?_ ?_<;>intro hq<;>try simp at hq)))|(refine⟨by omega,by omega,?_⟩)|refine TX.yA (id:=6) mixed (fun _=>false) [4,6] (by kernel_rfl) fun K hK=>?_|refine TX.yA (id:=11) mixed (fun _=>false) [2,4] (by kernel_rfl) fun K hK=>?_|refine TX.rs (fun _=>false) fun K hK=>?_|refine TX.fm (fun _=>false) fun K hK=>?_|refine TX.cond rfl (fun aq=>?_) (fun aq=>absurd aq (by decide))|refine TX.cond rfl (fun aq=>absurd aq (by decide)) (fun aq=>?_)|refine TX.seq ?_|refine TX.block ?_|refine TX.skip ?_|refine TX.exit ?_|refine EX.jd ?_|refine EX.pE ?_|refine EX.iN ?_|refine EX.lG ?_|refine EX.FN ?_|refine EX.Al ?_|refine TX.nW ?_
 all_goals(
  refine TX.ret ?_;repeat' first|refine EX.lW ?_|refine EX.ig ?_|refine EX.eZ ?_|refine EX.lX ?_
  apply EX.y9 (ks:=[])
  case he=>exact Or.inr rfl
  case mJ=>simp[ay,dS,Tryz.results83]<;>rfl
  case hv=>first|(dsimp only[Av.one];exact rfl)|dsimp only[Av.one]
  case hx=>repeat' first|exact ea.var _|exact bk.yd _|exact cP.var _|exact eJ.row _|exact cP.row _|exact aZ.nil|exact aY.nil|exact a6.nil|exact aZ.map _|exact aY.map _|exact a6.map _|exact bk.int _|exact bk.str _|exact bk.bool _|apply bk.p2|apply bk.p3|apply bk.tm|apply bk.ty|apply cP.node|apply eJ.of|apply aZ.cons|apply aY.cons|apply a6.cons|apply bk.wP|apply bk.ye|apply bk.yf|apply ea.node|apply aZ.app|apply aY.app|apply a6.app
  case hA=>exact rfl
  case l7=>simp
  case hV=>exact rfl
  case h1=>omega
  case h2=>omega
  case hg=>simp[cQ,cS,sC,eK, *]<;>omega)
end Go.Proofs.YtloolmchekcmeaaGreat
namespace Go.Proofs.YtloolmchekcmeaaGreat
attribute [-simp] Go.Av.cU Go.Av.ic Go.Av.ck Go.Av.bK Go.Av.back Go.Av.fD Go.Av.one Go.Av.dJ Go.Av.yH
open Go Go.Av
attribute [local irreducible] T ah TX EX LX bB dn bW cx ie aG.kind aG.kids al.kind al.name al.num al.ty al.fr al.label al.kids
attribute [local simp] aL au
set_option maxHeartbeats 16000000
set_option maxRecDepth 8000
theorem xj (n:Int):ah Zo 127 [.i n] [] (cL (.mk 2 [] n aW aW 0 [])) [] []:=by
 refine ah.ob Tryz.func127 Tryz.ntmps127 rfl ?_;repeat' first|(refine ab (hK _ ?_);clear hK K)|(refine ae ?_;simp;(try(refine gen2 ?_ ?_<;>intro hq<;>try simp at hq)))|(refine T.ret (aB.val (Or.inr rfl) ?_)<;>simp[ay,Tryz.results127]<;>omega)|refine T.r0 fun K hK=>?_
theorem HR (s:List UInt8) (c:UInt8) (hs:s.length<=1099511627776):ah Zo 149 [.s s,.s [c]] [] (.s (lY c s)) [] []:=by
 refine ah.ob Tryz.func149 Tryz.ntmps149 rfl ?_;repeat' first|(refine ab (hK _ ?_);clear hK K)|(refine ae ?_;simp;(try(refine gen2 ?_ ?_<;>intro hq<;>try simp at hq)))|refine T.r0 fun K hK=>?_|refine T.seq ?_|refine T.block ?_
 refine T.gy (fun k:Nat=>⟨[(0,.s s),(1,.s [c]),(4,.s []),(5,.i k)],[],[]⟩) (fun k=>s.length+1-k) (fun k=>k<=s.length/\lY c s=s.take k++lY c (s.drop k)) (fun k hk=>?_) 0 (by simp) (by simp);obtain⟨hi,he⟩:=hk;by_cases ax:k<s.length
 ·have uM:=zc ax;have gP:=drop_cons ax;have mL:s.take (k+1)=s.take k++[s[k]]:=by rw[Zr,Zp ax];rfl
  generalize hx:s[k]=x at*;have yi:=yB x c;have HS:((k:Int)+1).toNat=k+1:=by omega
  have jl:(k:Int)<=k+1:=by omega
  have kA:(k:Int)+1<=s.length:=by omega
  by_cases h1:x<c
  ·have KW:lY c s=s.take (k+1)++lY c (s.drop (k+1)):=by rw[he,gP,mL];simp[lY,h1]
   repeat' first|(refine ab (hK _ ?_);clear hK K)|(refine ae ?_;simp[ax,HS,uM,yi,h1,kA];(try simp(disch:=omega)only[wrap64]);(try(refine gen2 ?_ ?_<;>intro hq<;>try simp[ax,HS,uM,yi,h1,kA]at hq)))|(refine⟨k+1,by dsimp only;omega,⟨by omega,KW⟩,?_⟩;simp(disch:=omega) [wrap64])|refine T.r0 fun K hK=>?_|refine T.r1 fun K hK=>?_|(refine⟨by omega,?_⟩)|refine T.ct rfl ?_|refine T.seq ?_|refine T.block ?_|refine T.skip ?_
  ·by_cases h2:x=c
   ·subst h2;have KW:lY x s=s:=by rw[he,gP];simp[lY];rw[<-gP];simp
    rw[KW];have Oe:Op.bytesLess [x] [x]=false:=by rw[yi];simp
    repeat' first|(refine ab (hK _ ?_);clear hK K)|(refine ae ?_;simp[ax,HS,uM,Oe,kA];(try simp(disch:=omega)only[wrap64]);(try(refine gen2 ?_ ?_<;>intro hq<;>try simp[ax,HS,uM,Oe,kA]at hq)))|(refine T.ret (aB.data (Or.inr rfl) ?_ ?_)<;>simp[Tryz.results149]<;>omega)|refine T.r0 fun K hK=>?_|(refine⟨by omega,?_⟩)|refine T.ct rfl ?_|refine T.cf rfl ?_|refine T.seq ?_|refine T.exit ?_
   ·have KW:lY c s=s.take k++[c]++s.drop k:=by rw[he,gP];simp[lY,h1,h2]
    rw[KW];have eX:min k s.length=k:=by omega
    have tA:k+1<=4611686018427387904:=by omega
    have MP:k+1+(s.length-k)<=4611686018427387904:=by omega
    repeat' first|((first|refine ab (hK _ ?_)|refine aC (hK _ ?_));clear hK K)|((first|refine ae ?_|refine aI ?_);simp[ax,HS,uM,yi,h1,h2,kA,eX,tA,MP];(try simp(disch:=omega)only[wrap64]);(try(refine gen2 ?_ ?_<;>intro hq<;>try simp[ax,HS,uM,yi,h1,h2,kA,eX,tA,MP]at hq)))|(refine T.ret (aB.data (Or.inr rfl) ?_ ?_)<;>simp[Tryz.results149]<;>omega)|refine T.rd (id:=6) mixed (fun _=>false) [] (by kernel_rfl) fun K hK=>?_|refine T.r0 fun K hK=>?_|(refine⟨by omega,?_⟩)|refine T.cf rfl ?_|refine T.seq ?_|refine T.skip ?_|refine T.exit ?_
 ·have o6:k=s.length:=by omega
  subst o6;simp[lY]at he;rw[he];have tA:s.length+1<=4611686018427387904:=by omega
  repeat' first|((first|refine ab (hK _ ?_)|refine aC (hK _ ?_));clear hK K)|((first|refine ae ?_|refine aI ?_);simp[ax,tA];(try simp(disch:=omega)only[wrap64]);(try(refine gen2 ?_ ?_<;>intro hq<;>try simp[ax,tA]at hq)))|(refine T.ret (aB.data (Or.inr rfl) ?_ ?_)<;>simp[Tryz.results149]<;>omega)|refine T.rd (id:=6) mixed (fun _=>false) [] (by kernel_rfl) fun K hK=>?_|refine T.r0 fun K hK=>?_|refine T.cf rfl ?_|refine T.seq ?_|refine T.skip ?_|refine T.exit ?_
theorem FW:∀(e:al),e9 e<=1099511627776->ah Zo 79 [cL e] [] (cL e) [] []:=by
 intro e;induction e using al.ind with
 |h e ih=>
  intro hn;obtain⟨jE,oY,xf,qP⟩:=cE hn;have h1:=bX e.ty jE;have h2:=bX e.fr oY;refine ah.ob Tryz.func79 Tryz.ntmps79 rfl ?_;repeat' first|(refine ab (hK _ ?_);clear hK K)|((first|refine ae ?_|refine aa rfl (h1) ?_|refine aa rfl (h2) ?_);simp;(try(refine gen2 ?_ ?_<;>intro hq<;>try simp at hq)))|refine T.r0 fun K hK=>?_|refine T.seq ?_|refine T.block ?_
  refine T.dq 2 8 9 28 rfl rfl ?_;refine T.gy (fun p:Nat=>⟨[(1,.c (.ptr 0 0)),(2,.c (.ptr 1 0)),(3,.c (.ptr 2 0)),(4,.i p)],[(cL e).cells,[.d (.i 0),.d (.str []),.d (.i 0),.d (.i 0),.nil,.d (.i 0),.nil,.d (.i 0),.nil],[.d (.i e.kind),.d (.str e.name),.d (.i e.num),.d (.i e.ty.kind),.d (.sl (e.ty.kids.map cx)),.d (.i e.fr.kind),.d (.sl (e.fr.kids.map cx)),.d (.i e.label),.own 0 p]],[{sz:=9,eA:=28,rows:=(e.kids.take p).map ie,wr:=true}]⟩) (fun p=>e.kids.length+1-p) (fun p=>p<=e.kids.length) (fun p hi=>?_) 0 (by simp) (by simp);by_cases ax:p<e.kids.length
  ·obtain⟨u,ht⟩:=bR ax;have eQ:u∈e.kids:=Zq ht;have bf:e.kids[p]=u:=by rw[Zp ax]at ht;exact Option.some.inj ht
   have gP:e.kids.drop p=u::e.kids.drop (p+1):=by rw[Zu ax,bf]
   have hu:=ih u eQ (qP u eQ);have mL:e.kids.take (p+1)=e.kids.take p++[u]:=by rw[Zr,ht];rfl
   have eX:min p e.kids.length=p:=by omega
   repeat' first|((first|refine ab (hK _ ?_)|refine aC (hK _ ?_));clear hK K)|((first|refine ae ?_|refine aI ?_|refine aa rfl (hu) ?_);simp[ax,bf,eX];(try simp(disch:=omega)only[wrap64]);(try(refine gen2 ?_ ?_<;>intro hq<;>try simp[ax,bf,eX]at hq)))|(refine⟨p+1,by dsimp only;omega,by omega,?_,?_,?_⟩<;>simp(disch:=omega) [wrap64,mL,au])|refine T.yA (id:=8) mixed (fun _=>false) [9,11] (by kernel_rfl) fun K hK=>?_|refine T.r0 fun K hK=>?_|refine T.r1 fun K hK=>?_|(refine⟨by omega,?_⟩)|refine T.ct rfl ?_|refine T.seq ?_|refine T.block ?_|refine T.skip ?_
  ·have ff:p=e.kids.length:=by omega
   subst ff;repeat' first|(refine ab (hK _ ?_);clear hK K)|(refine ae ?_;simp[ax];(try(refine gen2 ?_ ?_<;>intro hq<;>try simp[ax]at hq)))|(refine T.ret (aB.val (Or.inr rfl) ?_)<;>simp[ay,Tryz.results79]<;>omega)|refine T.r0 fun K hK=>?_|refine T.cf rfl ?_|refine T.seq ?_|refine T.exit ?_
theorem jN (b:List Int) (hb:okB b) (x:Int) (hx:x=1\/x=2\/x=3\/x=4) (p:Nat) (hp:p+256<=1099511627776):bB Zo 87 [.i x] b p 256 (RV dF vJ fun t=>ak 4 t=true):=by
 rcases hx with rfl|rfl|rfl|rfl
 ·exact(jg b hb 0 p (by omega) (by omega)).mono (by omega) fun t h=>cc (cc (cc h))
 ·exact(jg b hb 1 p (by omega) (by omega)).mono (by omega) fun t h=>cc (cc h)
 ·exact(jg b hb 2 p (by omega) (by omega)).mono (by omega) fun t h=>cc h
 ·exact(jg b hb 3 p (by omega) (by omega)).mono (by omega) fun t h=>h
theorem tW (b:List Int) (hb:okB b) (s:List UInt8) (hs:s.length<=1000) (p:Nat) (hp:p+3<=1099511627776):bB Zo 148 [.s s] b p 3 (RV cL vJ fun e=>e9 e<=1):=by
 have Ce:=xj;refine bB.cA Tryz.func148 (by kernel_rfl) rfl (by kernel_rfl) (by simp[Tryz.ntmps148]) ?_;rw[Tryz.ntmps148];repeat' first|(refine ab (hK _ ?_);clear hK K)|((first|refine ae ?_|refine aa rfl (Ce _) ?_);simp;(try simp(disch:=omega)only[wrap64]);(try(refine gen2 ?_ ?_<;>intro hq<;>try simp at hq)))|(refine aD 0 rfl rfl (eh b hb _ (by omega) 4 (by omega)) (fun x1 p1 dC dM ca=>?_);simp;(try simp(disch:=omega)only[wrap64]);(try(refine gen2 ?_ ?_<;>intro hq<;>try simp at hq)))|(refine aD 0 rfl rfl (eh b hb _ (by omega) 5 (by omega)) (fun x1 p1 dC dM ca=>?_);simp;(try simp(disch:=omega)only[wrap64]);(try(refine gen2 ?_ ?_<;>intro hq<;>try simp at hq)))|(refine aD 0 rfl rfl (eh b hb _ (by omega) s.length (by omega)) (fun x1 p1 dC dM ca=>?_);simp;(try simp(disch:=omega)only[wrap64]);(try(refine gen2 ?_ ?_<;>intro hq<;>try simp at hq)))|(refine aD 0 rfl rfl (iq b hb _ (by omega) [1,0,2,5,999,7] (by simp) (by simp)) (fun x1 p1 dC dM ca=>?_);simp;(try simp(disch:=omega)only[wrap64]);(try(refine gen2 ?_ ?_<;>intro hq<;>try simp at hq)))|refine TX.rs (fun _=>false) fun K hK=>?_|(refine⟨by omega,?_⟩)|refine TX.cond rfl (fun aq=>?_) (fun aq=>absurd aq (by decide))|refine TX.cond rfl (fun aq=>absurd aq (by decide)) (fun aq=>?_)|refine TX.seq ?_|refine TX.block ?_|refine TX.skip ?_|refine EX.jd ?_|refine EX.iN ?_
 all_goals(
  refine TX.ret ?_;repeat' first|refine EX.lW ?_|refine EX.ig ?_|refine EX.eZ ?_|refine EX.lX ?_
  apply EX.y9 (ks:=[])
  case he=>exact Or.inr rfl
  case mJ=>simp[ay,dS,Tryz.results148]<;>rfl
  case hv=>first|(dsimp only[Av.one];exact rfl)|dsimp only[Av.one]
  case hx=>repeat' first|exact ea.var _|exact bk.yd _|exact cP.var _|exact eJ.row _|exact cP.row _|exact aZ.nil|exact aY.nil|exact a6.nil|exact aZ.map _|exact aY.map _|exact a6.map _|exact bk.int _|exact bk.str _|exact bk.bool _|apply bk.p2|apply bk.p3|apply bk.tm|apply bk.ty|apply cP.node|apply eJ.of|apply aZ.cons|apply aY.cons|apply a6.cons|apply bk.wP|apply bk.ye|apply bk.yf|apply ea.node|apply aZ.app|apply aY.app|apply a6.app
  case hA=>exact rfl
  case l7=>simp
  case hV=>exact rfl
  case h1=>omega
  case h2=>omega
  case hg=>simp[fg,cQ,cS,fa]<;>omega)
theorem qe (b:List Int) (hb:okB b):∀(d:Nat) (s:List UInt8) (p:Nat),d<=50->s.length+d<=100->p+400*4 ^ d<=1099511627776->bB Zo 130 [.s s,.i d] b p (400*4 ^ d) (RV cL vJ fun e=>e9 e<=400*4 ^ d):=by
 intro d;induction d with
 |zero=>
  intro s p hd hs hp;refine bB.cA Tryz.func130 (by kernel_rfl) rfl (by kernel_rfl) (by simp[Tryz.ntmps130]) ?_;rw[Tryz.ntmps130];repeat' first|(refine ab (hK _ ?_);clear hK K)|(refine ae ?_;simp;(try simp(disch:=omega)only[wrap64]);(try(refine gen2 ?_ ?_<;>intro hq<;>try simp at hq)))|(refine aD 0 rfl rfl (tW b hb s (by omega) _ (by omega)) (fun x1 p1 dC dM ca=>?_);simp;(try simp(disch:=omega)only[wrap64]);(try(refine gen2 ?_ ?_<;>intro hq<;>try simp at hq)))|refine TX.rs (fun _=>false) fun K hK=>?_|refine TX.cond rfl (fun aq=>?_) (fun aq=>absurd aq (by decide))|refine TX.seq ?_
  all_goals(
   refine TX.ret ?_;repeat' first|refine EX.lW ?_|refine EX.ig ?_|refine EX.eZ ?_|refine EX.lX ?_
   apply EX.y9 (ks:=[])
   case he=>exact Or.inr rfl
   case mJ=>simp[ay,dS,Tryz.results130]<;>rfl
   case hv=>first|(dsimp only[Av.one];exact rfl)|dsimp only[Av.one]
   case hx=>repeat' first|exact ea.var _|exact bk.yd _|exact cP.var _|exact eJ.row _|exact cP.row _|exact aZ.nil|exact aY.nil|exact a6.nil|exact aZ.map _|exact aY.map _|exact a6.map _|exact bk.int _|exact bk.str _|exact bk.bool _|apply bk.p2|apply bk.p3|apply bk.tm|apply bk.ty|apply cP.node|apply eJ.of|apply aZ.cons|apply aY.cons|apply a6.cons|apply bk.wP|apply bk.ye|apply bk.yf|apply ea.node|apply aZ.app|apply aY.app|apply a6.app
   case hA=>exact rfl
   case l7=>simp
   case hV=>exact rfl
   case h1=>omega
   case h2=>omega
   case hg=>omega)
 |succ d ih=>
  intro s p hd hs hp;have h4:4 ^(d+1)=4*4 ^ d:=by rw[Zx];omega
  have h1:1<=4 ^ d:=Zy (by simp);rw[h4]at hp⊢;generalize hN:4 ^ d=N at*;by_cases yj:d=0
  ·subst yj;refine bB.cA Tryz.func130 (by kernel_rfl) rfl (by kernel_rfl) (by simp[Tryz.ntmps130]) ?_;rw[Tryz.ntmps130];repeat' first|(refine ab (hK _ ?_);clear hK K)|(refine ae ?_;simp;(try simp(disch:=omega)only[wrap64]);(try(refine gen2 ?_ ?_<;>intro hq<;>try simp at hq)))|(refine aD 0 rfl rfl (tW b hb s (by omega) _ (by omega)) (fun x1 p1 dC dM ca=>?_);simp;(try simp(disch:=omega)only[wrap64]);(try(refine gen2 ?_ ?_<;>intro hq<;>try simp at hq)))|refine TX.rs (fun _=>false) fun K hK=>?_|refine TX.cond rfl (fun aq=>?_) (fun aq=>absurd aq (by decide))|refine TX.seq ?_
   all_goals(
    refine TX.ret ?_;repeat' first|refine EX.lW ?_|refine EX.ig ?_|refine EX.eZ ?_|refine EX.lX ?_
    apply EX.y9 (ks:=[])
    case he=>exact Or.inr rfl
    case mJ=>simp[ay,dS,Tryz.results130]<;>rfl
    case hv=>first|(dsimp only[Av.one];exact rfl)|dsimp only[Av.one]
    case hx=>repeat' first|exact ea.var _|exact bk.yd _|exact cP.var _|exact eJ.row _|exact cP.row _|exact aZ.nil|exact aY.nil|exact a6.nil|exact aZ.map _|exact aY.map _|exact a6.map _|exact bk.int _|exact bk.str _|exact bk.bool _|apply bk.p2|apply bk.p3|apply bk.tm|apply bk.ty|apply cP.node|apply eJ.of|apply aZ.cons|apply aY.cons|apply a6.cons|apply bk.wP|apply bk.ye|apply bk.yf|apply ea.node|apply aZ.app|apply aY.app|apply a6.app
    case hA=>exact rfl
    case l7=>simp
    case hV=>exact rfl
    case h1=>omega
    case h2=>omega
    case hg=>omega)
  have jk:¬((d:Int)+1<2):=by omega
  have nM:(d:Int)+1-1=d:=by omega
  have qZ:∀c,(lY c s).length+d<=100:=fun c=>by have:=wQ c s;omega
  refine bB.cA Tryz.func130 (by kernel_rfl) rfl (by kernel_rfl) (by simp[Tryz.ntmps130]) ?_;rw[Tryz.ntmps130];repeat' first|((first|refine ab (hK _ ?_)|refine bc (hK _ ?_));clear hK K)|((first|refine ae ?_|refine bw ?_|refine aa rfl (zt _) ?_|refine aa rfl (HR s _ (by omega)) ?_);simp[cl,jk,nM];(try simp(disch:=omega)only[wrap64]);(try(refine gen2 ?_ ?_<;>intro hq<;>try simp[cl,jk,nM]at hq)))|(refine aD 0 rfl rfl (iq b hb _ (by omega) [6,5,7,9,13,10,11,8,12,5,6] (by simp) (by simp)) (fun x p1 hx dM ca=>?_);simp at hx;(have kR:x=6\/x=5\/x=7\/x=9\/x=13\/x=10\/x=11\/x=8\/x=12:=by omega);clear hx;rcases kR with rfl|rfl|rfl|rfl|rfl|rfl|rfl|rfl|rfl<;>(simp[cl,jk,nM];(try simp(disch:=omega)only[wrap64])))|(refine aD 0 rfl rfl (tW b hb s (by omega) _ (by omega)) (fun x1 p1 dC dM ca=>?_);simp[cl,jk,nM];(try simp(disch:=omega)only[wrap64]);(try(refine gen2 ?_ ?_<;>intro hq<;>try simp[cl,jk,nM]at hq)))|(refine aD 0 rfl rfl (eh b hb _ (by omega) 6 (by omega)) (fun x1 p1 dC dM ca=>?_);simp[cl,jk,nM];(try simp(disch:=omega)only[wrap64]);(try(refine gen2 ?_ ?_<;>intro hq<;>try simp[cl,jk,nM]at hq)))|(refine aD 0 rfl rfl (ih s _ (by omega) (by omega) (by omega)) (fun x1 p1 dC dM ca=>?_);simp[cl,jk,nM];(try simp(disch:=omega)only[wrap64]);(try(refine gen2 ?_ ?_<;>intro hq<;>try simp[cl,jk,nM]at hq)))|(refine aD 0 rfl rfl (ih (lY _ s) _ (by omega) (qZ _) (by omega)) (fun x1 p1 dC dM ca=>?_);simp[cl,jk,nM];(try simp(disch:=omega)only[wrap64]);(try(refine gen2 ?_ ?_<;>intro hq<;>try simp[cl,jk,nM]at hq)))|((first|(refine aD 0 rfl rfl (HQ b hb _ (by omega) [[120],[121],[122],[102]] (by simp) (by simp)) (fun x p1 hx dM ca=>?_);(obtain⟨c,rfl⟩:∃c,x=[c]:=by simp at hx;rcases hx with rfl|rfl|rfl|rfl<;>exact⟨_,rfl⟩))|(refine aD 0 rfl rfl (iq b hb _ (by omega) [2,1,3,2] (by simp) (by simp)) (fun y p1 hy dM ca=>?_);simp at hy)|(refine aD 0 rfl rfl (jN b hb _ (by omega) _ (by omega)) (fun t p1 ht dM ca=>?_);replace ht:=dp ht));simp)|refine TX.Dy (id:=13) mixed (fun _=>false) [6,8,10] [1] 7 [0] (by kernel_rfl) fun K hK=>?_|refine TX.rs (fun _=>false) fun K hK=>?_|refine TX.fm (fun _=>false) fun K hK=>?_|refine TX.cond rfl (fun aq=>?_) (fun aq=>absurd aq (by decide))|refine TX.cond rfl (fun aq=>absurd aq (by decide)) (fun aq=>?_)|refine TX.seq ?_|refine TX.block ?_|refine TX.skip ?_|refine TX.exit ?_|refine EX.jd ?_|refine EX.pE ?_|refine EX.iN ?_|refine EX.lG ?_|refine EX.FN ?_|refine EX.Al ?_|refine TX.nW ?_
  all_goals(
   refine TX.ret ?_;repeat' first|refine EX.lW ?_|refine EX.ig ?_|refine EX.eZ ?_|refine EX.lX ?_
   apply EX.y9 (ks:=[])
   case he=>exact Or.inr rfl
   case mJ=>simp[ay,dS,Tryz.results130]<;>rfl
   case hv=>first|(dsimp only[Av.one];exact rfl)|dsimp only[Av.one]
   case hx=>repeat' first|exact ea.var _|exact bk.yd _|exact cP.var _|exact eJ.row _|exact cP.row _|exact aZ.nil|exact aY.nil|exact a6.nil|exact aZ.map _|exact aY.map _|exact a6.map _|exact bk.int _|exact bk.str _|exact bk.bool _|apply bk.p2|apply bk.p3|apply bk.tm|apply bk.ty|apply cP.node|apply eJ.of|apply aZ.cons|apply aY.cons|apply a6.cons|apply bk.wP|apply bk.ye|apply bk.yf|apply ea.node|apply aZ.app|apply aY.app|apply a6.app
   case hA=>exact rfl
   case l7=>simp
   case hV=>exact rfl
   case h1=>omega
   case h2=>omega
   case hg=>(try simp[fg,cQ,cS,fa])<;>omega)
end Go.Proofs.YtloolmchekcmeaaGreat
