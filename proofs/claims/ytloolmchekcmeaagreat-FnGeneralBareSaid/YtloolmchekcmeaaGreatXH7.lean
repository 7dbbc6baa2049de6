/- A part. -/
import Derived.Test.YtloolmchekcmeaaGreatXH6
set_option linter.unusedVariables false
set_option linter.unusedSimpArgs false
open Go.Proofs.Tryz renaming prog->U1
open List renaming getElem?_eq_getElem->U2,mem_of_getElem?->U3,take_add_one->U4,length_pos_iff->U5,getElem_mem->U6,drop_eq_getElem_cons->U7
open Int renaming tmod_eq_emod_of_nonneg->U8,eq_ofNat_of_zero_le->U9
open Nat renaming pow_succ->Va,pos_of_ne_zero->Vb
namespace Go.Proofs.YtloolmchekcmeaaGreat
attribute [-simp] Go.Av.b7 Go.Av.fb Go.Av.bQ Go.Av.bw Go.Av.back Go.Av.ev Go.Av.one Go.Av.cK Go.Av.xv
open Go Go.Av
attribute [local irreducible] T ah TX EX LX bo cE bF cD fZ aH.kind aH.kids an.kind an.name an.num an.ty an.fr an.label an.kids
attribute [local simp] aX ax
set_option maxHeartbeats 1000000
@[simp] theorem OM:td U1 105=some {ag:=true,sz:=2,jy:=32,zero:=some [.nil,.d (.int .i64 0)],el:=none,ar:=none,fl:=[(0,1),(1,1)],ik:=none,cG:=false,kJ:=false}:=di (by kernel_rfl)
@[simp] theorem ON:td U1 5=some {ag:=false,sz:=1,jy:=1,zero:=some [.d (.int .u8 0)],el:=none,ar:=none,fl:=[],ik:=some .u8,cG:=false,kJ:=false}:=di (by kernel_rfl)
@[simp] theorem M9:td U1 22=some {ag:=false,sz:=1,jy:=24,zero:=some [.nil],el:=some 5,ar:=none,fl:=[],ik:=none,cG:=false,kJ:=false}:=di (by kernel_rfl)
@[simp] theorem Lz:td U1 109=some {ag:=false,sz:=1,jy:=24,zero:=some [.nil],el:=some 9,ar:=none,fl:=[],ik:=none,cG:=false,kJ:=false}:=di (by kernel_rfl)
theorem wH (b:List Int) (hb:okB b) (p:Nat) (hp:p<=1099511627776) (n:Int) (hn:n<=1099511627776):
  ∃r:Nat,(r=0\/(r:Int)<n)/\ah U1 80 [.c (.ptr 0 0),.i n] (dV [rd b p]) (.i r) (dV [rd b (p+1)]) []:=by
 by_cases BC:n<1
 ·refine⟨0,.inl rfl,?_⟩;refine ah.ob Tryz.func80 Tryz.ntmps80 rfl ?_;repeat' first|(refine ab (hK _ ?_);clear hK K)|(refine ae ?_;simp[BC];(try simp(disch:=omega)only[wrap64]);(try(refine gen2 ?_ ?_<;>intro hq<;>try simp[BC]at hq)))|(refine T.ret (aG.nH (Or.inr rfl) ?_ ?_ ?_)<;>simp[Tryz.results80]<;>omega)|refine T.r0 fun K hK=>?_|refine T.ct rfl ?_|refine T.seq ?_
 by_cases Gj:b=[]
 ·refine⟨0,.inl rfl,?_⟩;subst Gj;refine ah.ob Tryz.func80 Tryz.ntmps80 rfl ?_;repeat' first|(refine ab (hK _ ?_);clear hK K)|(refine ae ?_;simp[BC,rB];(try simp(disch:=omega)only[wrap64]);(try(refine gen2 ?_ ?_<;>intro hq<;>try simp[BC,rB]at hq)))|(refine T.ret (aG.nH (Or.inr rfl) ?_ ?_ ?_)<;>simp[Tryz.results80,rB]<;>omega)|refine T.r0 fun K hK=>?_|refine T.ct rfl ?_|refine T.seq ?_
 have rX:0<b.length:=U5.2 Gj;have Fz:¬(b.length:Int)=0:=by omega
 have CH:¬n=0:=by omega
 have cY:((p:Int)+1-1)=p:=by omega
 by_cases pW:p<b.length
 ·have Qv:=hb.1 b[p] (U6 pW);obtain⟨h1,h2⟩:=AN (n:=n) Qv.1 (by omega);obtain⟨r,hr⟩:=U9 h1;refine⟨r,.inr (by omega),?_⟩;have hx:=JM pW;refine ah.ob Tryz.func80 Tryz.ntmps80 rfl ?_;repeat' first|(refine ab (hK _ ?_);clear hK K)|(refine ae ?_;simp[BC,Gj,Fz,CH,cY,pW,wA,fk,hr];(try simp(disch:=omega)only[wrap64]);(try(refine gen2 ?_ ?_<;>intro hq<;>try simp[BC,Gj,Fz,CH,cY,pW,wA,fk,hr]at hq)))|(refine T.ret (aG.nH (Or.inr rfl) ?_ ?_ ?_)<;>simp[Tryz.results80]<;>omega)|refine T.r0 fun K hK=>?_|refine T.ct rfl ?_|refine T.cf rfl ?_|refine T.seq ?_|refine T.skip ?_
 ·have Gl:p % b.length<b.length:=Nat.mod_lt _ rX;have LA:(p*7+3) % b.length<b.length:=Nat.mod_lt _ rX;have e1:(p:Int).tmod b.length=((p % b.length:Nat):Int):=by rw[U8 (by omega)];simp
  have e2:((p:Int)*7+3).tmod b.length=(((p*7+3) % b.length:Nat):Int):=by rw[U8 (by omega)];simp
  have Na:=hb.1 _ (U6 Gl);have J1:=hb.1 _ (U6 LA);generalize p % b.length=i1 at*;generalize (p*7+3) % b.length=i2 at*;obtain⟨ij,jR⟩:=tdiv_le (a:=(p:Int)) (n:=b.length) (by omega) (by omega);generalize hD:(p:Int).tdiv b.length=D at ij jR;generalize OO:b[i1]=c1 at Na;generalize OP:b[i2]=c2 at J1;obtain⟨X,hX⟩:∃X,X=c1*131+c2*1117+(p:Int)*29+D*53:=⟨_,rfl⟩;have Qw:0<=X/\X<=1152921504606846976:=by omega
  obtain⟨J3,RM⟩:=tdiv_le (a:=X) (n:=64) (by omega) (by omega);obtain⟨LB,vE⟩:=BL (x:=X) (y:=X.tdiv 64) Qw.1 (by omega) J3 (by omega);generalize hZ:xz .xor .i64 X (X.tdiv 64)=Z at LB vE;obtain⟨h1,h2⟩:=AN (n:=n) LB (by omega);obtain⟨r,hr⟩:=U9 h1;refine⟨r,.inr (by omega),?_⟩;refine ah.ob Tryz.func80 Tryz.ntmps80 rfl ?_;repeat' first|((first|refine ab (hK _ ?_)|refine aq (hK _ ?_));clear hK K)|((first|refine ae ?_|refine aA ?_);simp[BC,Gj,Fz,CH,cY,pW,e1,e2,wA,fk,Gl,LA,OO,OP,hD,<-hX,hZ,hr];(try simp(disch:=omega)only[wrap64]);(try(refine gen2 ?_ ?_<;>intro hq<;>try simp[BC,Gj,Fz,CH,cY,pW,e1,e2,wA,fk,Gl,LA,OO,OP,hD,<-hX,hZ,hr]at hq)))|(refine T.ret (aG.nH (Or.inr rfl) ?_ ?_ ?_)<;>simp[Tryz.results80]<;>omega)|refine T.rd (id:=7) mixed (fun _=>false) [] (by kernel_rfl) fun K hK=>?_|refine T.r0 fun K hK=>?_|refine T.cf rfl ?_|refine T.seq ?_|refine T.skip ?_
abbrev ints (l:List Int):List (List DV):=l.map fun n=>[.i n]
abbrev strs (l:List (List UInt8)):List (List DV):=l.map fun s=>[.str s]
theorem c9 (b:List Int) (hb:okB b) (p:Nat) (hp:p<=1099511627776) (n:Int) (hn:n<=1099511627776):
  bo U1 80 [.i n] b p 1 (RV (fun r:Nat=>.i r) ss fun r=>r=0\/(r:Int)<n):=by
 obtain⟨r,hr,hc⟩:=wH b hb p hp n hn;exact bo.mk (p':=p+1) r hr (by omega) (by omega) hc
theorem fR (b:List Int) (hb:okB b) (p:Nat) (hp:p<=1099511627776) (l:List Int) (hl:l≠[]) (uO:l.length<=1000):
  bo U1 81 [.l (ints l)] b p 1 (RV (fun x:Int=>.i x) ss fun x=>x∈l):=by
 obtain⟨r,hr,hc⟩:=wH b hb p hp l.length (by omega);have FA:0<l.length:=U5.2 hl;have kI:r<l.length:=by rcases hr with h|h<;>omega
 obtain⟨x,hx⟩:=bV kI;have J4:l[r]=x:=by rw[U2 kI]at hx;exact Option.some.inj hx
 refine bo.mk (p':=p+1) x (U3 hx) (by omega) (by omega) ?_;refine ah.ob Tryz.func81 Tryz.ntmps81 rfl ?_;repeat' first|(refine ab (hK _ ?_);clear hK K)|((first|refine ae ?_|refine iv 0 (rd b p) (rd b (p+1)) rfl (by simp) hc ?_);simp[kI,J4];(try(refine gen2 ?_ ?_<;>intro hq<;>try simp[kI,J4]at hq)))|(refine T.ret (aG.nH (Or.inr rfl) ?_ ?_ ?_)<;>simp[Tryz.results81]<;>omega)|refine T.r0 fun K hK=>?_
theorem DF (b:List Int) (hb:okB b) (p:Nat) (hp:p<=1099511627776) (l:List (List UInt8)) (hl:l≠[]) (uO:l.length<=1000):
  bo U1 82 [.l (strs l)] b p 1 (RV (fun x:List UInt8=>.s x) ss fun x=>x∈l):=by
 obtain⟨r,hr,hc⟩:=wH b hb p hp l.length (by omega);have FA:0<l.length:=U5.2 hl;have kI:r<l.length:=by rcases hr with h|h<;>omega
 obtain⟨x,hx⟩:=bV kI;have J4:l[r]=x:=by rw[U2 kI]at hx;exact Option.some.inj hx
 refine bo.mk (p':=p+1) x (U3 hx) (by omega) (by omega) ?_;refine ah.ob Tryz.func82 Tryz.ntmps82 rfl ?_;repeat' first|(refine ab (hK _ ?_);clear hK K)|((first|refine ae ?_|refine iv 0 (rd b p) (rd b (p+1)) rfl (by simp) hc ?_);simp[kI,J4];(try(refine gen2 ?_ ?_<;>intro hq<;>try simp[kI,J4]at hq)))|(refine T.ret (aG.nH (Or.inr rfl) ?_ ?_ ?_)<;>simp[Tryz.results82]<;>omega)|refine T.r0 fun K hK=>?_
theorem zE (b:List Int) (hb:∀n∈b,0<=n/\n<=255):∃b' p',okB b'/\p'=0/\ah U1 35 [.l (rB b)] [] (.c (.ptr 0 0)) (dV [rd b' p']) []:=by
 by_cases hl:(2000:Int)<b.length
 ·refine⟨b.take 2000,0,⟨fun n hn=>hb n (List.mem_of_mem_take hn),by simp;omega⟩,rfl,?_⟩;have hr:∀r∈rB b,r.length=1:=by intro r hr;simp[rB]at hr;obtain⟨a,_,rfl⟩:=hr;rfl
  have ht:(rB b).take 2000=rB (b.take 2000):=by simp[rB,List.map_take]
  refine ah.ob Tryz.func35 Tryz.ntmps35 rfl ?_;repeat' first|(refine ab (hK _ ?_);clear hK K)|(refine ae ?_;simp[hl,fk,ht];(try(refine gen2 ?_ ?_<;>intro hq<;>try simp[hl,fk,ht]at hq)))|(refine⟨by omega,hr,?_⟩)|refine T.r0 fun K hK=>?_|refine T.r1 fun K hK=>?_|refine T.ct rfl ?_|refine T.seq ?_
  refine T.ret (aG.BB 0 (Or.inr rfl) ?_ ?_)<;>simp[aI,Tryz.results35]
 ·refine⟨b,0,⟨hb,by omega⟩,rfl,?_⟩;refine ah.ob Tryz.func35 Tryz.ntmps35 rfl ?_;repeat' first|(refine ab (hK _ ?_);clear hK K)|(refine ae ?_;simp[hl,fk];(try(refine gen2 ?_ ?_<;>intro hq<;>try simp[hl,fk]at hq)))|refine T.r0 fun K hK=>?_|refine T.cf rfl ?_|refine T.seq ?_|refine T.skip ?_
  refine T.ret (aG.BB 0 (Or.inr rfl) ?_ ?_)<;>simp[aI,Tryz.results35]
theorem ga (b:List Int) (hb:okB b):∀(d p:Nat),d<=100->p+4 ^(d+1)<=1099511627776->bo U1 87 [.i (d+1)] b p (4 ^(d+1)) (RV ep ss fun t=>ay (d+1) t=true):=by
 intro d;induction d with
 |zero=>
  intro p J5 hp;refine bo.bW Tryz.func87 (by kernel_rfl) rfl (by kernel_rfl) (by simp[Tryz.ntmps87]) ?_;rw[Tryz.ntmps87];repeat' first|(refine ab (hK _ ?_);clear hK K)|((first|refine ae ?_|refine aa rfl (qy _) ?_);simp[cx];(try simp(disch:=omega)only[wrap64]);(try(refine gen2 ?_ ?_<;>intro hq<;>try simp[cx]at hq)))|(refine au 0 rfl rfl (fR b hb _ (by omega) [2,1,4,3,5,2,4] (by simp) (by simp)) (fun x p1 hx cY bL=>?_);simp at hx;rcases hx with rfl|rfl|rfl|rfl|rfl|rfl|rfl<;>(simp[cx];(try simp(disch:=omega)only[wrap64])))|refine TX.rs (fun _=>false) fun K hK=>?_|refine TX.ef (fun _=>false) fun K hK=>?_|refine TX.cond rfl (fun ao=>?_) (fun ao=>absurd ao (by decide))|refine TX.cond rfl (fun ao=>absurd ao (by decide)) (fun ao=>?_)|refine TX.seq ?_|refine TX.block ?_|refine TX.skip ?_|refine TX.exit ?_|refine EX.fB ?_|refine EX.lK ?_|refine EX.iE ?_|refine EX.BO ?_|refine TX.la ?_
  all_goals(
   refine TX.ret ?_;repeat' first|refine EX.jW ?_|refine EX.fC ?_|refine EX.dT ?_|refine EX.jX ?_
   apply EX.vt (ks:=[])
   case he=>exact Or.inr rfl
   case kn=>simp[aI,c5,Tryz.results87]<;>rfl
   case hv=>first|(dsimp only[Av.one];exact rfl)|dsimp only[Av.one]
   case hx=>repeat' first|exact da.var _|exact bh.uS _|exact cc.var _|exact dE.row _|exact cc.row _|exact aZ.nil|exact aY.nil|exact a6.nil|exact aZ.map _|exact aY.map _|exact a6.map _|exact bh.int _|exact bh.str _|exact bh.bool _|apply bh.p2|apply bh.p3|apply bh.tm|apply bh.ty|apply cc.node|apply dE.of|apply aZ.cons|apply aY.cons|apply a6.cons|apply bh.uB|apply bh.uT|apply bh.uU|apply da.node|apply aZ.app|apply aY.app|apply a6.app
   case hA=>exact rfl
   case jS=>simp
   case hV=>exact rfl
   case h1=>omega
   case h2=>omega
   case hg=>simp[pw,cx, *])
 |succ d ih=>
  intro p J5 hp;have h4:4 ^(d+1+1)=4*4 ^(d+1):=by rw[Va];omega
  have h1:1<=4 ^(d+1):=Vb (by simp);have hd:¬((d:Int)+1+1<2):=by omega
  have jR:(d:Int)+1+1-1=d+1:=by omega
  rw[h4]at hp⊢;generalize hN:4 ^(d+1)=N at*;refine bo.bW Tryz.func87 (by kernel_rfl) rfl (by kernel_rfl) (by simp[Tryz.ntmps87]) ?_;rw[Tryz.ntmps87];repeat' first|((first|refine ab (hK _ ?_)|refine aJ (hK _ ?_));clear hK K)|((first|refine ae ?_|refine aQ ?_|refine aa rfl (qy _) ?_);simp[cx,hd,jR];(try simp(disch:=omega)only[wrap64]);(try(refine gen2 ?_ ?_<;>intro hq<;>try simp[cx,hd,jR]at hq)))|(refine au 0 rfl rfl (fR b hb _ (by omega) [2,1,4,3,5,2,4] (by simp) (by simp)) (fun x p1 hx cY bL=>?_);simp at hx;rcases hx with rfl|rfl|rfl|rfl|rfl|rfl|rfl<;>(simp[cx,hd,jR];(try simp(disch:=omega)only[wrap64])))|(refine au 0 rfl rfl (ih _ (by omega) (by omega)) (fun x1 p1 cJ cY bL=>?_);simp[cx,hd,jR];(try simp(disch:=omega)only[wrap64]);(try(refine gen2 ?_ ?_<;>intro hq<;>try simp[cx,hd,jR]at hq)))|refine TX.BK (id:=8) mixed (fun _=>false) [5,7,9] [1] 6 [0] (by kernel_rfl) fun K hK=>?_|refine TX.rs (fun _=>false) fun K hK=>?_|refine TX.ef (fun _=>false) fun K hK=>?_|refine TX.cond rfl (fun ao=>?_) (fun ao=>absurd ao (by decide))|refine TX.cond rfl (fun ao=>absurd ao (by decide)) (fun ao=>?_)|refine TX.seq ?_|refine TX.block ?_|refine TX.skip ?_|refine TX.exit ?_|refine EX.fB ?_|refine EX.lK ?_|refine EX.fm ?_|refine EX.iE ?_|refine EX.BO ?_|refine EX.wB ?_|refine TX.la ?_
  all_goals(
   refine TX.ret ?_;repeat' first|refine EX.jW ?_|refine EX.fC ?_|refine EX.dT ?_|refine EX.jX ?_
   apply EX.vt (ks:=[])
   case he=>exact Or.inr rfl
   case kn=>simp[aI,c5,Tryz.results87]<;>rfl
   case hv=>first|(dsimp only[Av.one];exact rfl)|dsimp only[Av.one]
   case hx=>repeat' first|exact da.var _|exact bh.uS _|exact cc.var _|exact dE.row _|exact cc.row _|exact aZ.nil|exact aY.nil|exact a6.nil|exact aZ.map _|exact aY.map _|exact a6.map _|exact bh.int _|exact bh.str _|exact bh.bool _|apply bh.p2|apply bh.p3|apply bh.tm|apply bh.ty|apply cc.node|apply dE.of|apply aZ.cons|apply aY.cons|apply a6.cons|apply bh.uB|apply bh.uT|apply bh.uU|apply da.node|apply aZ.app|apply aY.app|apply a6.app
   case hA=>exact rfl
   case jS=>simp
   case hV=>exact rfl
   case h1=>omega
   case h2=>omega
   case hg=>simp[pw,cx, *])
theorem BY (b:List Int) (hb:okB b) (p:Nat) (hp:p+300<=1099511627776):bo U1 84 [] b p 300 (RV ep ss fun t=>ay 4 t=true):=by
 refine bo.bW Tryz.func84 (by kernel_rfl) rfl (by kernel_rfl) (by simp[Tryz.ntmps84]) ?_;rw[Tryz.ntmps84];repeat' first|(refine ab (hK _ ?_);clear hK K)|(refine au 0 rfl rfl (fR b hb _ (by omega) [3,2,4,1,3] (by simp) (by simp)) (fun x p1 hx cY bL=>?_);simp at hx;rcases hx with rfl|rfl|rfl|rfl|rfl<;>(simp))|((first|refine ae ?_|refine au 0 rfl rfl (ga b hb 3 _ (by omega) (by omega)) (fun x1 p1 cJ cY bL=>?_)|refine au 0 rfl rfl (ga b hb 2 _ (by omega) (by omega)) (fun x1 p1 cJ cY bL=>?_)|refine au 0 rfl rfl (ga b hb 1 _ (by omega) (by omega)) (fun x1 p1 cJ cY bL=>?_)|refine au 0 rfl rfl (ga b hb 0 _ (by omega) (by omega)) (fun x1 p1 cJ cY bL=>?_));simp;(try(refine gen2 ?_ ?_<;>intro hq<;>try simp at hq)))|refine TX.rs (fun _=>false) fun K hK=>?_
 all_goals(
  refine TX.ret ?_;repeat' first|refine EX.jW ?_|refine EX.fC ?_|refine EX.dT ?_|refine EX.jX ?_
  apply EX.vt (ks:=[])
  case he=>exact Or.inr rfl
  case kn=>simp[aI,c5,Tryz.results84]<;>rfl
  case hv=>first|(dsimp only[Av.one];exact rfl)|dsimp only[Av.one]
  case hx=>repeat' first|exact da.var _|exact bh.uS _|exact cc.var _|exact dE.row _|exact cc.row _|exact aZ.nil|exact aY.nil|exact a6.nil|exact aZ.map _|exact aY.map _|exact a6.map _|exact bh.int _|exact bh.str _|exact bh.bool _|apply bh.p2|apply bh.p3|apply bh.tm|apply bh.ty|apply cc.node|apply dE.of|apply aZ.cons|apply aY.cons|apply a6.cons|apply bh.uB|apply bh.uT|apply bh.uU|apply da.node|apply aZ.app|apply aY.app|apply a6.app
  case hA=>exact rfl
  case jS=>simp
  case hV=>exact rfl
  case h1=>omega
  case h2=>omega
  case hg=>first|assumption|exact b6 (by assumption)|exact b6 (b6 (by assumption))|exact b6 (b6 (b6 (by assumption))))
theorem gO (b:List Int) (hb:okB b):∀(d:Nat) (t:aH) (p:Nat),ay d t=true->p+4 ^ d<=1099511627776->bo U1 123 [ep t] b p (4 ^ d) (RV ep ss fun t=>ay d t=true):=by
 intro d;induction d with
 |zero=>intro t p ht;simp[ay]at ht
 |succ d ih=>
  intro t p ht hp;have h4:4 ^(d+1)=4*4 ^ d:=by rw[Va];omega
  have h1:1<=4 ^ d:=Vb (by simp);rw[h4]at hp⊢;generalize hN:4 ^ d=N at*;have pE:=kr;obtain⟨e,he,hk,hl,hs⟩:=dR ht;obtain rfl:d=e:=by omega
  match gd:t.kids,hl with
  |[],_=>
   rw[gd]at hk;have iT:cx t.kind=0:=by simpa using hk
   refine bo.bW Tryz.func123 (by kernel_rfl) rfl (by kernel_rfl) (by simp[Tryz.ntmps123]) ?_;rw[Tryz.ntmps123];repeat' first|(refine ab (hK _ ?_);clear hK K)|((first|refine ae ?_|refine aa rfl (pE) ?_);simp[gd];(try simp(disch:=omega)only[wrap64]);(try(refine gen2 ?_ ?_<;>intro hq<;>try simp[gd]at hq)))|(refine au 0 rfl rfl (c9 b hb _ (by omega) 4 (by omega)) (fun x1 p1 cJ cY bL=>?_);simp[gd];(try simp(disch:=omega)only[wrap64]);(try(refine gen2 ?_ ?_<;>intro hq<;>try simp[gd]at hq)))|refine TX.rs (fun _=>false) fun K hK=>?_|refine TX.cond rfl (fun ao=>?_) (fun ao=>absurd ao (by decide))|refine TX.cond rfl (fun ao=>absurd ao (by decide)) (fun ao=>?_)|refine TX.seq ?_|refine TX.block ?_|refine TX.skip ?_|refine TX.exit ?_|refine EX.fB ?_|refine EX.lK ?_|refine EX.iE ?_|refine EX.BO ?_|refine TX.la ?_
   all_goals(
    refine TX.ret ?_;repeat' first|refine EX.jW ?_|refine EX.fC ?_|refine EX.dT ?_|refine EX.jX ?_
    apply EX.vt (ks:=[])
    case he=>exact Or.inr rfl
    case kn=>simp[aI,c5,Tryz.results123]<;>rfl
    case hv=>first|(dsimp only[Av.one];exact rfl)|dsimp only[Av.one]
    case hx=>repeat' first|exact da.var _|exact bh.uS _|exact cc.var _|exact dE.row _|exact cc.row _|exact aZ.nil|exact aY.nil|exact a6.nil|exact aZ.map _|exact aY.map _|exact a6.map _|exact bh.int _|exact bh.str _|exact bh.bool _|apply bh.p2|apply bh.p3|apply bh.tm|apply bh.ty|apply cc.node|apply dE.of|apply aZ.cons|apply aY.cons|apply a6.cons|apply bh.uB|apply bh.uT|apply bh.uU|apply da.node|apply aZ.app|apply aY.app|apply a6.app
    case hA=>exact rfl
    case jS=>simp
    case hV=>exact rfl
    case h1=>omega
    case h2=>omega
    case hg=>simp[pw,show cx 1=0 from rfl,iT, *])
  |[u],_=>
   rw[gd]at hk hs;have iT:cx t.kind=1:=by simpa using hk
   exfalso
   simp[cx]at iT;split at iT
   ·omega
   ·split at iT<;>omega
  |[u,v],_=>
   rw[gd]at hk hs;have iT:cx t.kind=2:=by simpa using hk
   have hu:=hs u (by simp);have hv:=hs v (by simp);refine bo.bW Tryz.func123 (by kernel_rfl) rfl (by kernel_rfl) (by simp[Tryz.ntmps123]) ?_;rw[Tryz.ntmps123];repeat' first|((first|refine ab (hK _ ?_)|refine aJ (hK _ ?_));clear hK K)|((first|refine ae ?_|refine aQ ?_|refine aa rfl (pE) ?_);simp[gd];(try simp(disch:=omega)only[wrap64]);(try(refine gen2 ?_ ?_<;>intro hq<;>try simp[gd]at hq)))|(refine au 0 rfl rfl (c9 b hb _ (by omega) 4 (by omega)) (fun x1 p1 cJ cY bL=>?_);simp[gd];(try simp(disch:=omega)only[wrap64]);(try(refine gen2 ?_ ?_<;>intro hq<;>try simp[gd]at hq)))|(refine au 0 rfl rfl (ih u _ hu (by omega)) (fun x1 p1 cJ cY bL=>?_);simp[gd];(try simp(disch:=omega)only[wrap64]);(try(refine gen2 ?_ ?_<;>intro hq<;>try simp[gd]at hq)))|(refine au 0 rfl rfl (ih v _ hv (by omega)) (fun x1 p1 cJ cY bL=>?_);simp[gd];(try simp(disch:=omega)only[wrap64]);(try(refine gen2 ?_ ?_<;>intro hq<;>try simp[gd]at hq)))|refine TX.BK (id:=7) mixed (fun _=>false) [8,10,12] [1] 9 [0] (by kernel_rfl) fun K hK=>?_|refine TX.rs (fun _=>false) fun K hK=>?_|refine TX.ef (fun _=>false) fun K hK=>?_|refine TX.cond rfl (fun ao=>?_) (fun ao=>absurd ao (by decide))|refine TX.cond rfl (fun ao=>absurd ao (by decide)) (fun ao=>?_)|refine TX.seq ?_|refine TX.block ?_|refine TX.skip ?_|refine TX.exit ?_|refine EX.fB ?_|refine EX.lK ?_|refine EX.fm ?_|refine EX.iE ?_|refine EX.BO ?_|refine EX.wB ?_|refine TX.la ?_
   all_goals(
    refine TX.ret ?_;repeat' first|refine EX.jW ?_|refine EX.fC ?_|refine EX.dT ?_|refine EX.jX ?_
    apply EX.vt (ks:=[])
    case he=>exact Or.inr rfl
    case kn=>simp[aI,c5,Tryz.results123]<;>rfl
    case hv=>first|(dsimp only[Av.one];exact rfl)|dsimp only[Av.one]
    case hx=>repeat' first|exact da.var _|exact bh.uS _|exact cc.var _|exact dE.row _|exact cc.row _|exact aZ.nil|exact aY.nil|exact a6.nil|exact aZ.map _|exact aY.map _|exact a6.map _|exact bh.int _|exact bh.str _|exact bh.bool _|apply bh.p2|apply bh.p3|apply bh.tm|apply bh.ty|apply cc.node|apply dE.of|apply aZ.cons|apply aY.cons|apply a6.cons|apply bh.uB|apply bh.uT|apply bh.uU|apply da.node|apply aZ.app|apply aY.app|apply a6.app
    case hA=>exact rfl
    case jS=>simp
    case hV=>exact rfl
    case h1=>omega
    case h2=>omega
    case hg=>simp[pw,show cx 1=0 from rfl,iT, *])
  |_::_::_::_,h=>exact absurd h (by simp)
theorem zF (t:aH) (hn:iK t<=1099511627776):ah U1 120 [ep t] [] (.agg [.d (.i t.kind),.own 0 t.kids.length]) [] [{sz:=2,eO:=25,rows:=t.kids.map cD,wr:=true}]:=by
 rw[hU]at hn;have hlen:=iw t.kids;refine ah.ob Tryz.func120 Tryz.ntmps120 rfl ?_;repeat' first|(refine ab (hK _ ?_);clear hK K)|(refine ae ?_;simp;(try(refine gen2 ?_ ?_<;>intro hq<;>try simp at hq)))|refine T.r0 fun K hK=>?_|refine T.seq ?_|refine T.block ?_
 refine T.e6 2 1 2 25 (row:=[.d (.i t.kind),.nil]) (by simp) (by simp) ?_;refine T.gq (fun p:Nat=>⟨[(1,.c (.ptr 0 0)),(2,.c (.ptr 1 0)),(3,.c (.ptr 2 0)),(4,.i p)],[(ep t).cells,[.d (.i 0),.nil],[.d (.i t.kind),.own 0 p]],[{sz:=2,eO:=25,rows:=(t.kids.take p).map cD,wr:=true}]⟩) (fun p=>t.kids.length+1-p) (fun p=>p<=t.kids.length) (fun p hi=>?_) 0 (by simp) (by simp);by_cases aC:p<t.kids.length
 ·obtain⟨u,ht⟩:=bV aC;have eN:u∈t.kids:=U3 ht;have bn:t.kids[p]=u:=by rw[U2 aC]at ht;exact Option.some.inj ht
  have iA:t.kids.drop p=u::t.kids.drop (p+1):=by rw[U7 aC,bn]
  have hu:=b9 u (by have:=iy eN;omega);have j6:t.kids.take (p+1)=t.kids.take p++[u]:=by rw[U4,ht];rfl
  have fD:min p t.kids.length=p:=by omega
  repeat' first|((first|refine ab (hK _ ?_)|refine aq (hK _ ?_));clear hK K)|((first|refine ae ?_|refine aA ?_|refine aa rfl (hu) ?_);simp[aC,bn,fD];(try simp(disch:=omega)only[wrap64]);(try(refine gen2 ?_ ?_<;>intro hq<;>try simp[aC,bn,fD]at hq)))|(refine⟨by omega,by omega,?_⟩)|(refine⟨p+1,by dsimp only;omega,by omega,?_,?_,?_⟩<;>simp(disch:=omega) [wrap64,j6,aX])|refine T.mW (id:=5) mixed (fun _=>false) [9,11] (by kernel_rfl) fun K hK=>?_|refine T.r0 fun K hK=>?_|refine T.r1 fun K hK=>?_|refine T.ct rfl ?_|refine T.seq ?_|refine T.block ?_|refine T.skip ?_
 ·have fj:p=t.kids.length:=by omega
  subst fj;repeat' first|(refine ab (hK _ ?_);clear hK K)|(refine ae ?_;simp[aC];(try(refine gen2 ?_ ?_<;>intro hq<;>try simp[aC]at hq)))|refine T.r0 fun K hK=>?_|refine T.cf rfl ?_|refine T.seq ?_|refine T.exit ?_
  refine T.ret (aG.HD 0 (Or.inr rfl) (ys:=[_]) ?_ rfl ?_)<;>simp[aI,Tryz.results120]
theorem ym (b:List Int) (hb:okB b) (t:aH) (hn:iK t<=1000000) (p:Nat) (hp:p+2<=1099511627776):bo U1 83 [ep t] b p 2 (RV ep ss fun u=>iK u<=iK t+20):=by
 have pE:=kr;have yl:=zF t (by omega);have hlen:=iw t.kids;have CL:=hn;rw[hU]at CL;refine bo.bW Tryz.func83 (by kernel_rfl) rfl (by kernel_rfl) (by simp[Tryz.ntmps83]) ?_;rw[Tryz.ntmps83];repeat' first|((first|refine ab (hK _ ?_)|refine aq (hK _ ?_));clear hK K)|((first|refine ae ?_|refine aA ?_|refine aa rfl (pE) ?_);simp;(try simp(disch:=omega)only[wrap64]);(try(refine gen2 ?_ ?_<;>intro hq<;>try simp at hq)))|(refine au 0 rfl rfl (c9 b hb _ (by omega) 40 (by omega)) (fun x1 p1 cJ cY bL=>?_);simp;(try simp(disch:=omega)only[wrap64]);(try(refine gen2 ?_ ?_<;>intro hq<;>try simp at hq)))|(refine au 0 rfl rfl (fR b hb _ (by omega) [0,6,1,4,-1] (by simp) (by simp)) (fun x1 p1 cJ cY bL=>?_);simp;(try simp(disch:=omega)only[wrap64]);(try(refine gen2 ?_ ?_<;>intro hq<;>try simp at hq)))|(refine jk rfl (yl) ?_;simp;(try simp(disch:=omega)only[wrap64]);(try(refine gen2 ?_ ?_<;>intro hq<;>try simp at hq)))|(refine⟨by omega,by omega,?_⟩)|refine TX.mW (id:=6) mixed (fun _=>false) [4,6] (by kernel_rfl) fun K hK=>?_|refine TX.mW (id:=11) mixed (fun _=>false) [2,4] (by kernel_rfl) fun K hK=>?_|refine TX.rs (fun _=>false) fun K hK=>?_|refine TX.ef (fun _=>false) fun K hK=>?_|refine TX.cond rfl (fun ao=>?_) (fun ao=>absurd ao (by decide))|refine TX.cond rfl (fun ao=>absurd ao (by decide)) (fun ao=>?_)|refine TX.seq ?_|refine TX.block ?_|refine TX.skip ?_|refine TX.exit ?_|refine EX.fB ?_|refine EX.lK ?_|refine EX.fm ?_|refine EX.iE ?_|refine EX.BO ?_|refine EX.wB ?_|refine TX.la ?_
 all_goals(
  refine TX.ret ?_;repeat' first|refine EX.jW ?_|refine EX.fC ?_|refine EX.dT ?_|refine EX.jX ?_
  apply EX.vt (ks:=[])
  case he=>exact Or.inr rfl
  case kn=>simp[aI,c5,Tryz.results83]<;>rfl
  case hv=>first|(dsimp only[Av.one];exact rfl)|dsimp only[Av.one]
  case hx=>repeat' first|exact da.var _|exact bh.uS _|exact cc.var _|exact dE.row _|exact cc.row _|exact aZ.nil|exact aY.nil|exact a6.nil|exact aZ.map _|exact aY.map _|exact a6.map _|exact bh.int _|exact bh.str _|exact bh.bool _|apply bh.p2|apply bh.p3|apply bh.tm|apply bh.ty|apply cc.node|apply dE.of|apply aZ.cons|apply aY.cons|apply a6.cons|apply bh.uB|apply bh.uT|apply bh.uU|apply da.node|apply aZ.app|apply aY.app|apply a6.app
  case hA=>exact rfl
  case jS=>simp
  case hV=>exact rfl
  case h1=>omega
  case h2=>omega
  case hg=>simp[cI,cF,px,hU, *]<;>omega)
end Go.Proofs.YtloolmchekcmeaaGreat
namespace Go.Proofs.YtloolmchekcmeaaGreat
attribute [-simp] Go.Av.b7 Go.Av.fb Go.Av.bQ Go.Av.bw Go.Av.back Go.Av.ev Go.Av.one Go.Av.cK Go.Av.xv
open Go Go.Av
attribute [local irreducible] T ah TX EX LX bo cE bF cD fZ aH.kind aH.kids an.kind an.name an.num an.ty an.fr an.label an.kids
attribute [local simp] aX ax
set_option maxHeartbeats 16000000
set_option maxRecDepth 8000
theorem tJ (n:Int):ah U1 127 [.i n] [] (cw (.mk 2 [] n cy cy 0 [])) [] []:=by
 refine ah.ob Tryz.func127 Tryz.ntmps127 rfl ?_;repeat' first|(refine ab (hK _ ?_);clear hK K)|(refine ae ?_;simp;(try(refine gen2 ?_ ?_<;>intro hq<;>try simp at hq)))|(refine T.ret (aG.val (Or.inr rfl) ?_)<;>simp[aI,Tryz.results127]<;>omega)|refine T.r0 fun K hK=>?_
theorem DG (s:List UInt8) (c:UInt8) (hs:s.length<=1099511627776):ah U1 149 [.s s,.s [c]] [] (.s (jz c s)) [] []:=by
 refine ah.ob Tryz.func149 Tryz.ntmps149 rfl ?_;repeat' first|(refine ab (hK _ ?_);clear hK K)|(refine ae ?_;simp;(try(refine gen2 ?_ ?_<;>intro hq<;>try simp at hq)))|refine T.r0 fun K hK=>?_|refine T.seq ?_|refine T.block ?_
 refine T.gq (fun k:Nat=>⟨[(0,.s s),(1,.s [c]),(4,.s []),(5,.i k)],[],[]⟩) (fun k=>s.length+1-k) (fun k=>k<=s.length/\jz c s=s.take k++jz c (s.drop k)) (fun k hk=>?_) 0 (by simp) (by simp);obtain⟨hi,he⟩:=hk;by_cases aC:k<s.length
 ·have qV:=vu aC;have iA:=drop_cons aC;have j6:s.take (k+1)=s.take k++[s[k]]:=by rw[U4,U2 aC];rfl
  generalize hx:s[k]=x at*;have rX:=uV x c;have y6:((k:Int)+1).toNat=k+1:=by omega
  have uz:(k:Int)<=k+1:=by omega
  have kp:(k:Int)+1<=s.length:=by omega
  by_cases h1:x<c
  ·have IZ:jz c s=s.take (k+1)++jz c (s.drop (k+1)):=by rw[he,iA,j6];simp[jz,h1]
   repeat' first|(refine ab (hK _ ?_);clear hK K)|(refine ae ?_;simp[aC,y6,qV,rX,h1,kp];(try simp(disch:=omega)only[wrap64]);(try(refine gen2 ?_ ?_<;>intro hq<;>try simp[aC,y6,qV,rX,h1,kp]at hq)))|(refine⟨k+1,by dsimp only;omega,⟨by omega,IZ⟩,?_⟩;simp(disch:=omega) [wrap64])|refine T.r0 fun K hK=>?_|refine T.r1 fun K hK=>?_|(refine⟨by omega,?_⟩)|refine T.ct rfl ?_|refine T.seq ?_|refine T.block ?_|refine T.skip ?_
  ·by_cases h2:x=c
   ·subst h2;have IZ:jz x s=s:=by rw[he,iA];simp[jz];rw[<-iA];simp
    rw[IZ];have J6:Op.bytesLess [x] [x]=false:=by rw[rX];simp
    repeat' first|(refine ab (hK _ ?_);clear hK K)|(refine ae ?_;simp[aC,y6,qV,J6,kp];(try simp(disch:=omega)only[wrap64]);(try(refine gen2 ?_ ?_<;>intro hq<;>try simp[aC,y6,qV,J6,kp]at hq)))|(refine T.ret (aG.data (Or.inr rfl) ?_ ?_)<;>simp[Tryz.results149]<;>omega)|refine T.r0 fun K hK=>?_|(refine⟨by omega,?_⟩)|refine T.ct rfl ?_|refine T.cf rfl ?_|refine T.seq ?_|refine T.exit ?_
   ·have IZ:jz c s=s.take k++[c]++s.drop k:=by rw[he,iA];simp[jz,h1,h2]
    rw[IZ];have fD:min k s.length=k:=by omega
    have rN:k+1<=4611686018427387904:=by omega
    have IJ:k+1+(s.length-k)<=4611686018427387904:=by omega
    repeat' first|((first|refine ab (hK _ ?_)|refine aq (hK _ ?_));clear hK K)|((first|refine ae ?_|refine aA ?_);simp[aC,y6,qV,rX,h1,h2,kp,fD,rN,IJ];(try simp(disch:=omega)only[wrap64]);(try(refine gen2 ?_ ?_<;>intro hq<;>try simp[aC,y6,qV,rX,h1,h2,kp,fD,rN,IJ]at hq)))|(refine T.ret (aG.data (Or.inr rfl) ?_ ?_)<;>simp[Tryz.results149]<;>omega)|refine T.rd (id:=6) mixed (fun _=>false) [] (by kernel_rfl) fun K hK=>?_|refine T.r0 fun K hK=>?_|(refine⟨by omega,?_⟩)|refine T.cf rfl ?_|refine T.seq ?_|refine T.skip ?_|refine T.exit ?_
 ·have nN:k=s.length:=by omega
  subst nN;simp[jz]at he;rw[he];have rN:s.length+1<=4611686018427387904:=by omega
  repeat' first|((first|refine ab (hK _ ?_)|refine aq (hK _ ?_));clear hK K)|((first|refine ae ?_|refine aA ?_);simp[aC,rN];(try simp(disch:=omega)only[wrap64]);(try(refine gen2 ?_ ?_<;>intro hq<;>try simp[aC,rN]at hq)))|(refine T.ret (aG.data (Or.inr rfl) ?_ ?_)<;>simp[Tryz.results149]<;>omega)|refine T.rd (id:=6) mixed (fun _=>false) [] (by kernel_rfl) fun K hK=>?_|refine T.r0 fun K hK=>?_|refine T.cf rfl ?_|refine T.seq ?_|refine T.skip ?_|refine T.exit ?_
theorem BZ:∀(e:an),fO e<=1099511627776->ah U1 79 [cw e] [] (cw e) [] []:=by
 intro e;induction e using an.ind with
 |h e ih=>
  intro hn;obtain⟨jd,pD,CK,vD⟩:=dh hn;have h1:=b9 e.ty jd;have h2:=b9 e.fr pD;refine ah.ob Tryz.func79 Tryz.ntmps79 rfl ?_;repeat' first|(refine ab (hK _ ?_);clear hK K)|((first|refine ae ?_|refine aa rfl (h1) ?_|refine aa rfl (h2) ?_);simp;(try(refine gen2 ?_ ?_<;>intro hq<;>try simp at hq)))|refine T.r0 fun K hK=>?_|refine T.seq ?_|refine T.block ?_
  refine T.e6 2 8 9 28 rfl rfl ?_;refine T.gq (fun p:Nat=>⟨[(1,.c (.ptr 0 0)),(2,.c (.ptr 1 0)),(3,.c (.ptr 2 0)),(4,.i p)],[(cw e).cells,[.d (.i 0),.d (.str []),.d (.i 0),.d (.i 0),.nil,.d (.i 0),.nil,.d (.i 0),.nil],[.d (.i e.kind),.d (.str e.name),.d (.i e.num),.d (.i e.ty.kind),.d (.sl (e.ty.kids.map cD)),.d (.i e.fr.kind),.d (.sl (e.fr.kids.map cD)),.d (.i e.label),.own 0 p]],[{sz:=9,eO:=28,rows:=(e.kids.take p).map fZ,wr:=true}]⟩) (fun p=>e.kids.length+1-p) (fun p=>p<=e.kids.length) (fun p hi=>?_) 0 (by simp) (by simp);by_cases aC:p<e.kids.length
  ·obtain⟨u,ht⟩:=bV aC;have eN:u∈e.kids:=U3 ht;have bn:e.kids[p]=u:=by rw[U2 aC]at ht;exact Option.some.inj ht
   have iA:e.kids.drop p=u::e.kids.drop (p+1):=by rw[U7 aC,bn]
   have hu:=ih u eN (vD u eN);have j6:e.kids.take (p+1)=e.kids.take p++[u]:=by rw[U4,ht];rfl
   have fD:min p e.kids.length=p:=by omega
   repeat' first|((first|refine ab (hK _ ?_)|refine aq (hK _ ?_));clear hK K)|((first|refine ae ?_|refine aA ?_|refine aa rfl (hu) ?_);simp[aC,bn,fD];(try simp(disch:=omega)only[wrap64]);(try(refine gen2 ?_ ?_<;>intro hq<;>try simp[aC,bn,fD]at hq)))|(refine⟨p+1,by dsimp only;omega,by omega,?_,?_,?_⟩<;>simp(disch:=omega) [wrap64,j6,ax])|refine T.mW (id:=8) mixed (fun _=>false) [9,11] (by kernel_rfl) fun K hK=>?_|refine T.r0 fun K hK=>?_|refine T.r1 fun K hK=>?_|(refine⟨by omega,?_⟩)|refine T.ct rfl ?_|refine T.seq ?_|refine T.block ?_|refine T.skip ?_
  ·have fj:p=e.kids.length:=by omega
   subst fj;repeat' first|(refine ab (hK _ ?_);clear hK K)|(refine ae ?_;simp[aC];(try(refine gen2 ?_ ?_<;>intro hq<;>try simp[aC]at hq)))|(refine T.ret (aG.val (Or.inr rfl) ?_)<;>simp[aI,Tryz.results79]<;>omega)|refine T.r0 fun K hK=>?_|refine T.cf rfl ?_|refine T.seq ?_|refine T.exit ?_
theorem gP (b:List Int) (hb:okB b) (x:Int) (hx:x=1\/x=2\/x=3\/x=4) (p:Nat) (hp:p+256<=1099511627776):bo U1 87 [.i x] b p 256 (RV ep ss fun t=>ay 4 t=true):=by
 rcases hx with rfl|rfl|rfl|rfl
 ·exact(ga b hb 0 p (by omega) (by omega)).mono (by omega) fun t h=>b6 (b6 (b6 h))
 ·exact(ga b hb 1 p (by omega) (by omega)).mono (by omega) fun t h=>b6 (b6 h)
 ·exact(ga b hb 2 p (by omega) (by omega)).mono (by omega) fun t h=>b6 h
 ·exact(ga b hb 3 p (by omega) (by omega)).mono (by omega) fun t h=>h
theorem qA (b:List Int) (hb:okB b) (s:List UInt8) (hs:s.length<=1000) (p:Nat) (hp:p+3<=1099511627776):bo U1 148 [.s s] b p 3 (RV cw ss fun e=>fO e<=1):=by
 have yn:=tJ;refine bo.bW Tryz.func148 (by kernel_rfl) rfl (by kernel_rfl) (by simp[Tryz.ntmps148]) ?_;rw[Tryz.ntmps148];repeat' first|(refine ab (hK _ ?_);clear hK K)|((first|refine ae ?_|refine aa rfl (yn _) ?_);simp;(try simp(disch:=omega)only[wrap64]);(try(refine gen2 ?_ ?_<;>intro hq<;>try simp at hq)))|(refine au 0 rfl rfl (c9 b hb _ (by omega) 4 (by omega)) (fun x1 p1 cJ cY bL=>?_);simp;(try simp(disch:=omega)only[wrap64]);(try(refine gen2 ?_ ?_<;>intro hq<;>try simp at hq)))|(refine au 0 rfl rfl (c9 b hb _ (by omega) 5 (by omega)) (fun x1 p1 cJ cY bL=>?_);simp;(try simp(disch:=omega)only[wrap64]);(try(refine gen2 ?_ ?_<;>intro hq<;>try simp at hq)))|(refine au 0 rfl rfl (c9 b hb _ (by omega) s.length (by omega)) (fun x1 p1 cJ cY bL=>?_);simp;(try simp(disch:=omega)only[wrap64]);(try(refine gen2 ?_ ?_<;>intro hq<;>try simp at hq)))|(refine au 0 rfl rfl (fR b hb _ (by omega) [1,0,2,5,999,7] (by simp) (by simp)) (fun x1 p1 cJ cY bL=>?_);simp;(try simp(disch:=omega)only[wrap64]);(try(refine gen2 ?_ ?_<;>intro hq<;>try simp at hq)))|refine TX.rs (fun _=>false) fun K hK=>?_|(refine⟨by omega,?_⟩)|refine TX.cond rfl (fun ao=>?_) (fun ao=>absurd ao (by decide))|refine TX.cond rfl (fun ao=>absurd ao (by decide)) (fun ao=>?_)|refine TX.seq ?_|refine TX.block ?_|refine TX.skip ?_|refine EX.fB ?_|refine EX.fm ?_
 all_goals(
  refine TX.ret ?_;repeat' first|refine EX.jW ?_|refine EX.fC ?_|refine EX.dT ?_|refine EX.jX ?_
  apply EX.vt (ks:=[])
  case he=>exact Or.inr rfl
  case kn=>simp[aI,c5,Tryz.results148]<;>rfl
  case hv=>first|(dsimp only[Av.one];exact rfl)|dsimp only[Av.one]
  case hx=>repeat' first|exact da.var _|exact bh.uS _|exact cc.var _|exact dE.row _|exact cc.row _|exact aZ.nil|exact aY.nil|exact a6.nil|exact aZ.map _|exact aY.map _|exact a6.map _|exact bh.int _|exact bh.str _|exact bh.bool _|apply bh.p2|apply bh.p3|apply bh.tm|apply bh.ty|apply cc.node|apply dE.of|apply aZ.cons|apply aY.cons|apply a6.cons|apply bh.uB|apply bh.uT|apply bh.uU|apply da.node|apply aZ.app|apply aY.app|apply a6.app
  case hA=>exact rfl
  case jS=>simp
  case hV=>exact rfl
  case h1=>omega
  case h2=>omega
  case hg=>simp[dU,cI,cF,eS]<;>omega)
theorem nf (b:List Int) (hb:okB b):∀(d:Nat) (s:List UInt8) (p:Nat),d<=50->s.length+d<=100->p+400*4 ^ d<=1099511627776->bo U1 130 [.s s,.i d] b p (400*4 ^ d) (RV cw ss fun e=>fO e<=400*4 ^ d):=by
 intro d;induction d with
 |zero=>
  intro s p hd hs hp;refine bo.bW Tryz.func130 (by kernel_rfl) rfl (by kernel_rfl) (by simp[Tryz.ntmps130]) ?_;rw[Tryz.ntmps130];repeat' first|(refine ab (hK _ ?_);clear hK K)|(refine ae ?_;simp;(try simp(disch:=omega)only[wrap64]);(try(refine gen2 ?_ ?_<;>intro hq<;>try simp at hq)))|(refine au 0 rfl rfl (qA b hb s (by omega) _ (by omega)) (fun x1 p1 cJ cY bL=>?_);simp;(try simp(disch:=omega)only[wrap64]);(try(refine gen2 ?_ ?_<;>intro hq<;>try simp at hq)))|refine TX.rs (fun _=>false) fun K hK=>?_|refine TX.cond rfl (fun ao=>?_) (fun ao=>absurd ao (by decide))|refine TX.seq ?_
  all_goals(
   refine TX.ret ?_;repeat' first|refine EX.jW ?_|refine EX.fC ?_|refine EX.dT ?_|refine EX.jX ?_
   apply EX.vt (ks:=[])
   case he=>exact Or.inr rfl
   case kn=>simp[aI,c5,Tryz.results130]<;>rfl
   case hv=>first|(dsimp only[Av.one];exact rfl)|dsimp only[Av.one]
   case hx=>repeat' first|exact da.var _|exact bh.uS _|exact cc.var _|exact dE.row _|exact cc.row _|exact aZ.nil|exact aY.nil|exact a6.nil|exact aZ.map _|exact aY.map _|exact a6.map _|exact bh.int _|exact bh.str _|exact bh.bool _|apply bh.p2|apply bh.p3|apply bh.tm|apply bh.ty|apply cc.node|apply dE.of|apply aZ.cons|apply aY.cons|apply a6.cons|apply bh.uB|apply bh.uT|apply bh.uU|apply da.node|apply aZ.app|apply aY.app|apply a6.app
   case hA=>exact rfl
   case jS=>simp
   case hV=>exact rfl
   case h1=>omega
   case h2=>omega
   case hg=>omega)
 |succ d ih=>
  intro s p hd hs hp;have h4:4 ^(d+1)=4*4 ^ d:=by rw[Va];omega
  have h1:1<=4 ^ d:=Vb (by simp);rw[h4]at hp⊢;generalize hN:4 ^ d=N at*;by_cases LC:d=0
  ·subst LC;refine bo.bW Tryz.func130 (by kernel_rfl) rfl (by kernel_rfl) (by simp[Tryz.ntmps130]) ?_;rw[Tryz.ntmps130];repeat' first|(refine ab (hK _ ?_);clear hK K)|(refine ae ?_;simp;(try simp(disch:=omega)only[wrap64]);(try(refine gen2 ?_ ?_<;>intro hq<;>try simp at hq)))|(refine au 0 rfl rfl (qA b hb s (by omega) _ (by omega)) (fun x1 p1 cJ cY bL=>?_);simp;(try simp(disch:=omega)only[wrap64]);(try(refine gen2 ?_ ?_<;>intro hq<;>try simp at hq)))|refine TX.rs (fun _=>false) fun K hK=>?_|refine TX.cond rfl (fun ao=>?_) (fun ao=>absurd ao (by decide))|refine TX.seq ?_
   all_goals(
    refine TX.ret ?_;repeat' first|refine EX.jW ?_|refine EX.fC ?_|refine EX.dT ?_|refine EX.jX ?_
    apply EX.vt (ks:=[])
    case he=>exact Or.inr rfl
    case kn=>simp[aI,c5,Tryz.results130]<;>rfl
    case hv=>first|(dsimp only[Av.one];exact rfl)|dsimp only[Av.one]
    case hx=>repeat' first|exact da.var _|exact bh.uS _|exact cc.var _|exact dE.row _|exact cc.row _|exact aZ.nil|exact aY.nil|exact a6.nil|exact aZ.map _|exact aY.map _|exact a6.map _|exact bh.int _|exact bh.str _|exact bh.bool _|apply bh.p2|apply bh.p3|apply bh.tm|apply bh.ty|apply cc.node|apply dE.of|apply aZ.cons|apply aY.cons|apply a6.cons|apply bh.uB|apply bh.uT|apply bh.uU|apply da.node|apply aZ.app|apply aY.app|apply a6.app
    case hA=>exact rfl
    case jS=>simp
    case hV=>exact rfl
    case h1=>omega
    case h2=>omega
    case hg=>omega)
  have jR:¬((d:Int)+1<2):=by omega
  have sj:(d:Int)+1-1=d:=by omega
  have od:∀c,(jz c s).length+d<=100:=fun c=>by have:=tq c s;omega
  refine bo.bW Tryz.func130 (by kernel_rfl) rfl (by kernel_rfl) (by simp[Tryz.ntmps130]) ?_;rw[Tryz.ntmps130];repeat' first|((first|refine ab (hK _ ?_)|refine aJ (hK _ ?_));clear hK K)|((first|refine ae ?_|refine aQ ?_|refine aa rfl (vC _) ?_|refine aa rfl (DG s _ (by omega)) ?_);simp[cv,jR,sj];(try simp(disch:=omega)only[wrap64]);(try(refine gen2 ?_ ?_<;>intro hq<;>try simp[cv,jR,sj]at hq)))|(refine au 0 rfl rfl (fR b hb _ (by omega) [6,5,7,9,13,10,11,8,12,5,6] (by simp) (by simp)) (fun x p1 hx cY bL=>?_);simp at hx;(have gA:x=6\/x=5\/x=7\/x=9\/x=13\/x=10\/x=11\/x=8\/x=12:=by omega);clear hx;rcases gA with rfl|rfl|rfl|rfl|rfl|rfl|rfl|rfl|rfl<;>(simp[cv,jR,sj];(try simp(disch:=omega)only[wrap64])))|(refine au 0 rfl rfl (qA b hb s (by omega) _ (by omega)) (fun x1 p1 cJ cY bL=>?_);simp[cv,jR,sj];(try simp(disch:=omega)only[wrap64]);(try(refine gen2 ?_ ?_<;>intro hq<;>try simp[cv,jR,sj]at hq)))|(refine au 0 rfl rfl (c9 b hb _ (by omega) 6 (by omega)) (fun x1 p1 cJ cY bL=>?_);simp[cv,jR,sj];(try simp(disch:=omega)only[wrap64]);(try(refine gen2 ?_ ?_<;>intro hq<;>try simp[cv,jR,sj]at hq)))|(refine au 0 rfl rfl (ih s _ (by omega) (by omega) (by omega)) (fun x1 p1 cJ cY bL=>?_);simp[cv,jR,sj];(try simp(disch:=omega)only[wrap64]);(try(refine gen2 ?_ ?_<;>intro hq<;>try simp[cv,jR,sj]at hq)))|(refine au 0 rfl rfl (ih (jz _ s) _ (by omega) (od _) (by omega)) (fun x1 p1 cJ cY bL=>?_);simp[cv,jR,sj];(try simp(disch:=omega)only[wrap64]);(try(refine gen2 ?_ ?_<;>intro hq<;>try simp[cv,jR,sj]at hq)))|((first|(refine au 0 rfl rfl (DF b hb _ (by omega) [[120],[121],[122],[102]] (by simp) (by simp)) (fun x p1 hx cY bL=>?_);(obtain⟨c,rfl⟩:∃c,x=[c]:=by simp at hx;rcases hx with rfl|rfl|rfl|rfl<;>exact⟨_,rfl⟩))|(refine au 0 rfl rfl (fR b hb _ (by omega) [2,1,3,2] (by simp) (by simp)) (fun y p1 hy cY bL=>?_);simp at hy)|(refine au 0 rfl rfl (gP b hb _ (by omega) _ (by omega)) (fun t p1 ht cY bL=>?_);replace ht:=wG ht));simp)|refine TX.BK (id:=13) mixed (fun _=>false) [6,8,10] [1] 7 [0] (by kernel_rfl) fun K hK=>?_|refine TX.rs (fun _=>false) fun K hK=>?_|refine TX.ef (fun _=>false) fun K hK=>?_|refine TX.cond rfl (fun ao=>?_) (fun ao=>absurd ao (by decide))|refine TX.cond rfl (fun ao=>absurd ao (by decide)) (fun ao=>?_)|refine TX.seq ?_|refine TX.block ?_|refine TX.skip ?_|refine TX.exit ?_|refine EX.fB ?_|refine EX.lK ?_|refine EX.fm ?_|refine EX.iE ?_|refine EX.BO ?_|refine EX.wB ?_|refine TX.la ?_
  all_goals(
   refine TX.ret ?_;repeat' first|refine EX.jW ?_|refine EX.fC ?_|refine EX.dT ?_|refine EX.jX ?_
   apply EX.vt (ks:=[])
   case he=>exact Or.inr rfl
   case kn=>simp[aI,c5,Tryz.results130]<;>rfl
   case hv=>first|(dsimp only[Av.one];exact rfl)|dsimp only[Av.one]
   case hx=>repeat' first|exact da.var _|exact bh.uS _|exact cc.var _|exact dE.row _|exact cc.row _|exact aZ.nil|exact aY.nil|exact a6.nil|exact aZ.map _|exact aY.map _|exact a6.map _|exact bh.int _|exact bh.str _|exact bh.bool _|apply bh.p2|apply bh.p3|apply bh.tm|apply bh.ty|apply cc.node|apply dE.of|apply aZ.cons|apply aY.cons|apply a6.cons|apply bh.uB|apply bh.uT|apply bh.uU|apply da.node|apply aZ.app|apply aY.app|apply a6.app
   case hA=>exact rfl
   case jS=>simp
   case hV=>exact rfl
   case h1=>omega
   case h2=>omega
   case hg=>(try simp[dU,cI,cF,eS])<;>omega)
end Go.Proofs.YtloolmchekcmeaaGreat
