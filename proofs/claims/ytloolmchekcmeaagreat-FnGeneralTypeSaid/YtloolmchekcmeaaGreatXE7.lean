/- A part. -/
import Derived.Test.YtloolmchekcmeaaGreatXE6
set_option linter.unusedVariables false
set_option linter.unusedSimpArgs false
open Go.Proofs.Tryz renaming prog->Y1
open List renaming getElem?_eq_getElem->Y2,mem_of_getElem?->Y3,take_add_one->Y4,length_pos_iff->Y5,getElem_mem->Y6,drop_eq_getElem_cons->Y7
open Int renaming tmod_eq_emod_of_nonneg->Y8,eq_ofNat_of_zero_le->Y9
open Nat renaming pow_succ->Za,pos_of_ne_zero->Zb
namespace Go.Proofs.YtloolmchekcmeaaGreat
attribute [-simp] Go.Av.cP Go.Av.gJ Go.Av.cc Go.Av.bK Go.Av.back Go.Av.fg Go.Av.one Go.Av.di Go.Av.yl
open Go Go.Av
attribute [local irreducible] T ah TX EX LX bw dh bR cA gA aE.kind aE.kids ao.kind ao.name ao.num ao.ty ao.fr ao.label ao.kids
attribute [local simp] aQ ax
set_option maxHeartbeats 1000000
@[simp] theorem SJ:td Y1 105=some {ag:=true,sz:=2,lG:=32,zero:=some [.nil,.d (.int .i64 0)],el:=none,ar:=none,fl:=[(0,1),(1,1)],ik:=none,cL:=false,nj:=false}:=dI (by kernel_rfl)
@[simp] theorem SK:td Y1 5=some {ag:=false,sz:=1,lG:=1,zero:=some [.d (.int .u8 0)],el:=none,ar:=none,fl:=[],ik:=some .u8,cL:=false,nj:=false}:=dI (by kernel_rfl)
@[simp] theorem Q6:td Y1 22=some {ag:=false,sz:=1,lG:=24,zero:=some [.nil],el:=some 5,ar:=none,fl:=[],ik:=none,cL:=false,nj:=false}:=dI (by kernel_rfl)
@[simp] theorem PJ:td Y1 109=some {ag:=false,sz:=1,lG:=24,zero:=some [.nil],el:=some 9,ar:=none,fl:=[],ik:=none,cL:=false,nj:=false}:=dI (by kernel_rfl)
theorem Al (b:List Int) (hb:okB b) (p:Nat) (hp:p<=1099511627776) (n:Int) (hn:n<=1099511627776):
  ∃r:Nat,(r=0\/(r:Int)<n)/\ah Y1 80 [.c (.ptr 0 0),.i n] (dV [rd b p]) (.i r) (dV [rd b (p+1)]) []:=by
 by_cases Ft:n<1
 ·refine⟨0,.inl rfl,?_⟩;refine ah.ob Tryz.func80 Tryz.ntmps80 rfl ?_;repeat' first|(refine ab (hK _ ?_);clear hK K)|(refine af ?_;simp[Ft];(try simp(disch:=omega)only[wrap64]);(try(refine gen2 ?_ ?_<;>intro hq<;>try simp[Ft]at hq)))|(refine T.ret (aD.oU (Or.inr rfl) ?_ ?_ ?_)<;>simp[Tryz.results80]<;>omega)|refine T.r0 fun K hK=>?_|refine T.ct rfl ?_|refine T.seq ?_
 by_cases KD:b=[]
 ·refine⟨0,.inl rfl,?_⟩;subst KD;refine ah.ob Tryz.func80 Tryz.ntmps80 rfl ?_;repeat' first|(refine ab (hK _ ?_);clear hK K)|(refine af ?_;simp[Ft,rB];(try simp(disch:=omega)only[wrap64]);(try(refine gen2 ?_ ?_<;>intro hq<;>try simp[Ft,rB]at hq)))|(refine T.ret (aD.oU (Or.inr rfl) ?_ ?_ ?_)<;>simp[Tryz.results80,rB]<;>omega)|refine T.r0 fun K hK=>?_|refine T.ct rfl ?_|refine T.seq ?_
 have ym:0<b.length:=Y5.2 KD;have JO:¬(b.length:Int)=0:=by omega
 have GG:¬n=0:=by omega
 have dG:((p:Int)+1-1)=p:=by omega
 by_cases lR:p<b.length
 ·have Ux:=hb.1 b[p] (Y6 lR);obtain⟨h1,h2⟩:=Ew (n:=n) Ux.1 (by omega);obtain⟨r,hr⟩:=Y9 h1;refine⟨r,.inr (by omega),?_⟩;have hx:=NM lR;refine ah.ob Tryz.func80 Tryz.ntmps80 rfl ?_;repeat' first|(refine ab (hK _ ?_);clear hK K)|(refine af ?_;simp[Ft,KD,JO,GG,dG,lR,Ae,gP,hr];(try simp(disch:=omega)only[wrap64]);(try(refine gen2 ?_ ?_<;>intro hq<;>try simp[Ft,KD,JO,GG,dG,lR,Ae,gP,hr]at hq)))|(refine T.ret (aD.oU (Or.inr rfl) ?_ ?_ ?_)<;>simp[Tryz.results80]<;>omega)|refine T.r0 fun K hK=>?_|refine T.ct rfl ?_|refine T.cf rfl ?_|refine T.seq ?_|refine T.skip ?_
 ·have Jn:p % b.length<b.length:=Nat.mod_lt _ ym;have PK:(p*7+3) % b.length<b.length:=Nat.mod_lt _ ym;have e1:(p:Int).tmod b.length=((p % b.length:Nat):Int):=by rw[Y8 (by omega)];simp
  have e2:((p:Int)*7+3).tmod b.length=(((p*7+3) % b.length:Nat):Int):=by rw[Y8 (by omega)];simp
  have wh:=hb.1 _ (Y6 Jn);have LD:=hb.1 _ (Y6 PK);generalize p % b.length=i1 at*;generalize (p*7+3) % b.length=i2 at*;obtain⟨hP,jm⟩:=tdiv_le (a:=(p:Int)) (n:=b.length) (by omega) (by omega);generalize hD:(p:Int).tdiv b.length=D at hP jm;generalize SM:b[i1]=c1 at wh;generalize SN:b[i2]=c2 at LD;obtain⟨X,hX⟩:∃X,X=c1*131+c2*1117+(p:Int)*29+D*53:=⟨_,rfl⟩;have Uy:0<=X/\X<=1152921504606846976:=by omega
  obtain⟨NZ,VJ⟩:=tdiv_le (a:=X) (n:=64) (by omega) (by omega);obtain⟨PL,zn⟩:=FA (x:=X) (y:=X.tdiv 64) Uy.1 (by omega) NZ (by omega);generalize hZ:A4 .xor .i64 X (X.tdiv 64)=Z at PL zn;obtain⟨h1,h2⟩:=Ew (n:=n) PL (by omega);obtain⟨r,hr⟩:=Y9 h1;refine⟨r,.inr (by omega),?_⟩;refine ah.ob Tryz.func80 Tryz.ntmps80 rfl ?_;repeat' first|((first|refine ab (hK _ ?_)|refine aA (hK _ ?_));clear hK K)|((first|refine af ?_|refine aG ?_);simp[Ft,KD,JO,GG,dG,lR,e1,e2,Ae,gP,Jn,PK,SM,SN,hD,<-hX,hZ,hr];(try simp(disch:=omega)only[wrap64]);(try(refine gen2 ?_ ?_<;>intro hq<;>try simp[Ft,KD,JO,GG,dG,lR,e1,e2,Ae,gP,Jn,PK,SM,SN,hD,<-hX,hZ,hr]at hq)))|(refine T.ret (aD.oU (Or.inr rfl) ?_ ?_ ?_)<;>simp[Tryz.results80]<;>omega)|refine T.rd (id:=7) mixed (fun _=>false) [] (by kernel_rfl) fun K hK=>?_|refine T.r0 fun K hK=>?_|refine T.cf rfl ?_|refine T.seq ?_|refine T.skip ?_
abbrev ints (l:List Int):List (List DV):=l.map fun n=>[.i n]
abbrev strs (l:List (List UInt8)):List (List DV):=l.map fun s=>[.str s]
theorem dU (b:List Int) (hb:okB b) (p:Nat) (hp:p<=1099511627776) (n:Int) (hn:n<=1099511627776):
  bw Y1 80 [.i n] b p 1 (RV (fun r:Nat=>.i r) wc fun r=>r=0\/(r:Int)<n):=by
 obtain⟨r,hr,hc⟩:=Al b hb p hp n hn;exact bw.mk (p':=p+1) r hr (by omega) (by omega) hc
theorem iA (b:List Int) (hb:okB b) (p:Nat) (hp:p<=1099511627776) (l:List Int) (hl:l≠[]) (vN:l.length<=1000):
  bw Y1 81 [.l (ints l)] b p 1 (RV (fun x:Int=>.i x) wc fun x=>x∈l):=by
 obtain⟨r,hr,hc⟩:=Al b hb p hp l.length (by omega);have Uz:0<l.length:=Y5.2 hl;have ni:r<l.length:=by rcases hr with h|h<;>omega
 obtain⟨x,hx⟩:=bX ni;have N0:l[r]=x:=by rw[Y2 ni]at hx;exact Option.some.inj hx
 refine bw.mk (p':=p+1) x (Y3 hx) (by omega) (by omega) ?_;refine ah.ob Tryz.func81 Tryz.ntmps81 rfl ?_;repeat' first|(refine ab (hK _ ?_);clear hK K)|((first|refine af ?_|refine j5 0 (rd b p) (rd b (p+1)) rfl (by simp) hc ?_);simp[ni,N0];(try(refine gen2 ?_ ?_<;>intro hq<;>try simp[ni,N0]at hq)))|(refine T.ret (aD.oU (Or.inr rfl) ?_ ?_ ?_)<;>simp[Tryz.results81]<;>omega)|refine T.r0 fun K hK=>?_
theorem HL (b:List Int) (hb:okB b) (p:Nat) (hp:p<=1099511627776) (l:List (List UInt8)) (hl:l≠[]) (vN:l.length<=1000):
  bw Y1 82 [.l (strs l)] b p 1 (RV (fun x:List UInt8=>.s x) wc fun x=>x∈l):=by
 obtain⟨r,hr,hc⟩:=Al b hb p hp l.length (by omega);have Uz:0<l.length:=Y5.2 hl;have ni:r<l.length:=by rcases hr with h|h<;>omega
 obtain⟨x,hx⟩:=bX ni;have N0:l[r]=x:=by rw[Y2 ni]at hx;exact Option.some.inj hx
 refine bw.mk (p':=p+1) x (Y3 hx) (by omega) (by omega) ?_;refine ah.ob Tryz.func82 Tryz.ntmps82 rfl ?_;repeat' first|(refine ab (hK _ ?_);clear hK K)|((first|refine af ?_|refine j5 0 (rd b p) (rd b (p+1)) rfl (by simp) hc ?_);simp[ni,N0];(try(refine gen2 ?_ ?_<;>intro hq<;>try simp[ni,N0]at hq)))|(refine T.ret (aD.oU (Or.inr rfl) ?_ ?_ ?_)<;>simp[Tryz.results82]<;>omega)|refine T.r0 fun K hK=>?_
theorem Dp (b:List Int) (hb:∀n∈b,0<=n/\n<=255):∃b' p',okB b'/\p'=0/\ah Y1 35 [.l (rB b)] [] (.c (.ptr 0 0)) (dV [rd b' p']) []:=by
 by_cases hl:(2000:Int)<b.length
 ·refine⟨b.take 2000,0,⟨fun n hn=>hb n (List.mem_of_mem_take hn),by simp;omega⟩,rfl,?_⟩;have hr:∀r∈rB b,r.length=1:=by intro r hr;simp[rB]at hr;obtain⟨a,_,rfl⟩:=hr;rfl
  have ht:(rB b).take 2000=rB (b.take 2000):=by simp[rB,List.map_take]
  refine ah.ob Tryz.func35 Tryz.ntmps35 rfl ?_;repeat' first|(refine ab (hK _ ?_);clear hK K)|(refine af ?_;simp[hl,gP,ht];(try(refine gen2 ?_ ?_<;>intro hq<;>try simp[hl,gP,ht]at hq)))|(refine⟨by omega,hr,?_⟩)|refine T.r0 fun K hK=>?_|refine T.r1 fun K hK=>?_|refine T.ct rfl ?_|refine T.seq ?_
  refine T.ret (aD.wK 0 (Or.inr rfl) ?_ ?_)<;>simp[aF,Tryz.results35]
 ·refine⟨b,0,⟨hb,by omega⟩,rfl,?_⟩;refine ah.ob Tryz.func35 Tryz.ntmps35 rfl ?_;repeat' first|(refine ab (hK _ ?_);clear hK K)|(refine af ?_;simp[hl,gP];(try(refine gen2 ?_ ?_<;>intro hq<;>try simp[hl,gP]at hq)))|refine T.r0 fun K hK=>?_|refine T.cf rfl ?_|refine T.seq ?_|refine T.skip ?_
  refine T.ret (aD.wK 0 (Or.inr rfl) ?_ ?_)<;>simp[aF,Tryz.results35]
theorem iN (b:List Int) (hb:okB b):∀(d p:Nat),d<=100->p+4 ^(d+1)<=1099511627776->bw Y1 87 [.i (d+1)] b p (4 ^(d+1)) (RV eu wc fun t=>ak (d+1) t=true):=by
 intro d;induction d with
 |zero=>
  intro p N1 hp;refine bw.cx Tryz.func87 (by kernel_rfl) rfl (by kernel_rfl) (by simp[Tryz.ntmps87]) ?_;rw[Tryz.ntmps87];repeat' first|(refine ab (hK _ ?_);clear hK K)|((first|refine af ?_|refine aa rfl (tT _) ?_);simp[cF];(try simp(disch:=omega)only[wrap64]);(try(refine gen2 ?_ ?_<;>intro hq<;>try simp[cF]at hq)))|(refine aB 0 rfl rfl (iA b hb _ (by omega) [2,1,4,3,5,2,4] (by simp) (by simp)) (fun x p1 hx dG b8=>?_);simp at hx;rcases hx with rfl|rfl|rfl|rfl|rfl|rfl|rfl<;>(simp[cF];(try simp(disch:=omega)only[wrap64])))|refine TX.rs (fun _=>false) fun K hK=>?_|refine TX.eH (fun _=>false) fun K hK=>?_|refine TX.cond rfl (fun al=>?_) (fun al=>absurd al (by decide))|refine TX.cond rfl (fun al=>absurd al (by decide)) (fun al=>?_)|refine TX.seq ?_|refine TX.block ?_|refine TX.skip ?_|refine TX.exit ?_|refine EX.ij ?_|refine EX.oH ?_|refine EX.kE ?_|refine EX.FD ?_|refine TX.nN ?_
  all_goals(
   refine TX.ret ?_;repeat' first|refine EX.mq ?_|refine EX.il ?_|refine EX.eV ?_|refine EX.mr ?_
   apply EX.ze (ks:=[])
   case he=>exact Or.inr rfl
   case mL=>simp[aF,dQ,Tryz.results87]<;>rfl
   case hv=>first|(dsimp only[Av.one];exact rfl)|dsimp only[Av.one]
   case hx=>repeat' first|exact ec.var _|exact bn.yD _|exact cU.var _|exact eE.row _|exact cU.row _|exact bf.nil|exact bc.nil|exact bg.nil|exact bf.map _|exact bc.map _|exact bg.map _|exact bn.int _|exact bn.str _|exact bn.bool _|apply bn.p2|apply bn.p3|apply bn.tm|apply bn.ty|apply cU.node|apply eE.of|apply bf.cons|apply bc.cons|apply bg.cons|apply bn.yk|apply bn.yE|apply bn.yF|apply ec.node|apply bf.app|apply bc.app|apply bg.app
   case hA=>exact rfl
   case ml=>simp
   case hV=>exact rfl
   case h1=>omega
   case h2=>omega
   case hg=>simp[sk,cF, *])
 |succ d ih=>
  intro p N1 hp;have h4:4 ^(d+1+1)=4*4 ^(d+1):=by rw[Za];omega
  have h1:1<=4 ^(d+1):=Zb (by simp);have hd:¬((d:Int)+1+1<2):=by omega
  have jm:(d:Int)+1+1-1=d+1:=by omega
  rw[h4]at hp⊢;generalize hN:4 ^(d+1)=N at*;refine bw.cx Tryz.func87 (by kernel_rfl) rfl (by kernel_rfl) (by simp[Tryz.ntmps87]) ?_;rw[Tryz.ntmps87];repeat' first|((first|refine ab (hK _ ?_)|refine bz (hK _ ?_));clear hK K)|((first|refine af ?_|refine bO ?_|refine aa rfl (tT _) ?_);simp[cF,hd,jm];(try simp(disch:=omega)only[wrap64]);(try(refine gen2 ?_ ?_<;>intro hq<;>try simp[cF,hd,jm]at hq)))|(refine aB 0 rfl rfl (iA b hb _ (by omega) [2,1,4,3,5,2,4] (by simp) (by simp)) (fun x p1 hx dG b8=>?_);simp at hx;rcases hx with rfl|rfl|rfl|rfl|rfl|rfl|rfl<;>(simp[cF,hd,jm];(try simp(disch:=omega)only[wrap64])))|(refine aB 0 rfl rfl (ih _ (by omega) (by omega)) (fun x1 p1 dn dG b8=>?_);simp[cF,hd,jm];(try simp(disch:=omega)only[wrap64]);(try(refine gen2 ?_ ?_<;>intro hq<;>try simp[cF,hd,jm]at hq)))|refine TX.Df (id:=8) mixed (fun _=>false) [5,7,9] [1] 6 [0] (by kernel_rfl) fun K hK=>?_|refine TX.rs (fun _=>false) fun K hK=>?_|refine TX.eH (fun _=>false) fun K hK=>?_|refine TX.cond rfl (fun al=>?_) (fun al=>absurd al (by decide))|refine TX.cond rfl (fun al=>absurd al (by decide)) (fun al=>?_)|refine TX.seq ?_|refine TX.block ?_|refine TX.skip ?_|refine TX.exit ?_|refine EX.ij ?_|refine EX.oH ?_|refine EX.gQ ?_|refine EX.kE ?_|refine EX.FD ?_|refine EX.Af ?_|refine TX.nN ?_
  all_goals(
   refine TX.ret ?_;repeat' first|refine EX.mq ?_|refine EX.il ?_|refine EX.eV ?_|refine EX.mr ?_
   apply EX.ze (ks:=[])
   case he=>exact Or.inr rfl
   case mL=>simp[aF,dQ,Tryz.results87]<;>rfl
   case hv=>first|(dsimp only[Av.one];exact rfl)|dsimp only[Av.one]
   case hx=>repeat' first|exact ec.var _|exact bn.yD _|exact cU.var _|exact eE.row _|exact cU.row _|exact bf.nil|exact bc.nil|exact bg.nil|exact bf.map _|exact bc.map _|exact bg.map _|exact bn.int _|exact bn.str _|exact bn.bool _|apply bn.p2|apply bn.p3|apply bn.tm|apply bn.ty|apply cU.node|apply eE.of|apply bf.cons|apply bc.cons|apply bg.cons|apply bn.yk|apply bn.yE|apply bn.yF|apply ec.node|apply bf.app|apply bc.app|apply bg.app
   case hA=>exact rfl
   case ml=>simp
   case hV=>exact rfl
   case h1=>omega
   case h2=>omega
   case hg=>simp[sk,cF, *])
theorem FP (b:List Int) (hb:okB b) (p:Nat) (hp:p+300<=1099511627776):bw Y1 84 [] b p 300 (RV eu wc fun t=>ak 4 t=true):=by
 refine bw.cx Tryz.func84 (by kernel_rfl) rfl (by kernel_rfl) (by simp[Tryz.ntmps84]) ?_;rw[Tryz.ntmps84];repeat' first|(refine ab (hK _ ?_);clear hK K)|(refine aB 0 rfl rfl (iA b hb _ (by omega) [3,2,4,1,3] (by simp) (by simp)) (fun x p1 hx dG b8=>?_);simp at hx;rcases hx with rfl|rfl|rfl|rfl|rfl<;>(simp))|((first|refine af ?_|refine aB 0 rfl rfl (iN b hb 3 _ (by omega) (by omega)) (fun x1 p1 dn dG b8=>?_)|refine aB 0 rfl rfl (iN b hb 2 _ (by omega) (by omega)) (fun x1 p1 dn dG b8=>?_)|refine aB 0 rfl rfl (iN b hb 1 _ (by omega) (by omega)) (fun x1 p1 dn dG b8=>?_)|refine aB 0 rfl rfl (iN b hb 0 _ (by omega) (by omega)) (fun x1 p1 dn dG b8=>?_));simp;(try(refine gen2 ?_ ?_<;>intro hq<;>try simp at hq)))|refine TX.rs (fun _=>false) fun K hK=>?_
 all_goals(
  refine TX.ret ?_;repeat' first|refine EX.mq ?_|refine EX.il ?_|refine EX.eV ?_|refine EX.mr ?_
  apply EX.ze (ks:=[])
  case he=>exact Or.inr rfl
  case mL=>simp[aF,dQ,Tryz.results84]<;>rfl
  case hv=>first|(dsimp only[Av.one];exact rfl)|dsimp only[Av.one]
  case hx=>repeat' first|exact ec.var _|exact bn.yD _|exact cU.var _|exact eE.row _|exact cU.row _|exact bf.nil|exact bc.nil|exact bg.nil|exact bf.map _|exact bc.map _|exact bg.map _|exact bn.int _|exact bn.str _|exact bn.bool _|apply bn.p2|apply bn.p3|apply bn.tm|apply bn.ty|apply cU.node|apply eE.of|apply bf.cons|apply bc.cons|apply bg.cons|apply bn.yk|apply bn.yE|apply bn.yF|apply ec.node|apply bf.app|apply bc.app|apply bg.app
  case hA=>exact rfl
  case ml=>simp
  case hV=>exact rfl
  case h1=>omega
  case h2=>omega
  case hg=>first|assumption|exact cl (by assumption)|exact cl (cl (by assumption))|exact cl (cl (cl (by assumption))))
theorem jx (b:List Int) (hb:okB b):∀(d:Nat) (t:aE) (p:Nat),ak d t=true->p+4 ^ d<=1099511627776->bw Y1 123 [eu t] b p (4 ^ d) (RV eu wc fun t=>ak d t=true):=by
 intro d;induction d with
 |zero=>intro t p ht;simp[ak]at ht
 |succ d ih=>
  intro t p ht hp;have h4:4 ^(d+1)=4*4 ^ d:=by rw[Za];omega
  have h1:1<=4 ^ d:=Zb (by simp);rw[h4]at hp⊢;generalize hN:4 ^ d=N at*;have qC:=mU;obtain⟨e,he,hk,hl,hs⟩:=dT ht;obtain rfl:d=e:=by omega
  match fu:t.kids,hl with
  |[],_=>
   rw[fu]at hk;have gx:cF t.kind=0:=by simpa using hk
   refine bw.cx Tryz.func123 (by kernel_rfl) rfl (by kernel_rfl) (by simp[Tryz.ntmps123]) ?_;rw[Tryz.ntmps123];repeat' first|(refine ab (hK _ ?_);clear hK K)|((first|refine af ?_|refine aa rfl (qC) ?_);simp[fu];(try simp(disch:=omega)only[wrap64]);(try(refine gen2 ?_ ?_<;>intro hq<;>try simp[fu]at hq)))|(refine aB 0 rfl rfl (dU b hb _ (by omega) 4 (by omega)) (fun x1 p1 dn dG b8=>?_);simp[fu];(try simp(disch:=omega)only[wrap64]);(try(refine gen2 ?_ ?_<;>intro hq<;>try simp[fu]at hq)))|refine TX.rs (fun _=>false) fun K hK=>?_|refine TX.cond rfl (fun al=>?_) (fun al=>absurd al (by decide))|refine TX.cond rfl (fun al=>absurd al (by decide)) (fun al=>?_)|refine TX.seq ?_|refine TX.block ?_|refine TX.skip ?_|refine TX.exit ?_|refine EX.ij ?_|refine EX.oH ?_|refine EX.kE ?_|refine EX.FD ?_|refine TX.nN ?_
   all_goals(
    refine TX.ret ?_;repeat' first|refine EX.mq ?_|refine EX.il ?_|refine EX.eV ?_|refine EX.mr ?_
    apply EX.ze (ks:=[])
    case he=>exact Or.inr rfl
    case mL=>simp[aF,dQ,Tryz.results123]<;>rfl
    case hv=>first|(dsimp only[Av.one];exact rfl)|dsimp only[Av.one]
    case hx=>repeat' first|exact ec.var _|exact bn.yD _|exact cU.var _|exact eE.row _|exact cU.row _|exact bf.nil|exact bc.nil|exact bg.nil|exact bf.map _|exact bc.map _|exact bg.map _|exact bn.int _|exact bn.str _|exact bn.bool _|apply bn.p2|apply bn.p3|apply bn.tm|apply bn.ty|apply cU.node|apply eE.of|apply bf.cons|apply bc.cons|apply bg.cons|apply bn.yk|apply bn.yE|apply bn.yF|apply ec.node|apply bf.app|apply bc.app|apply bg.app
    case hA=>exact rfl
    case ml=>simp
    case hV=>exact rfl
    case h1=>omega
    case h2=>omega
    case hg=>simp[sk,show cF 1=0 from rfl,gx, *])
  |[u],_=>
   rw[fu]at hk hs;have gx:cF t.kind=1:=by simpa using hk
   exfalso
   simp[cF]at gx;split at gx
   ·omega
   ·split at gx<;>omega
  |[u,v],_=>
   rw[fu]at hk hs;have gx:cF t.kind=2:=by simpa using hk
   have hu:=hs u (by simp);have hv:=hs v (by simp);refine bw.cx Tryz.func123 (by kernel_rfl) rfl (by kernel_rfl) (by simp[Tryz.ntmps123]) ?_;rw[Tryz.ntmps123];repeat' first|((first|refine ab (hK _ ?_)|refine bz (hK _ ?_));clear hK K)|((first|refine af ?_|refine bO ?_|refine aa rfl (qC) ?_);simp[fu];(try simp(disch:=omega)only[wrap64]);(try(refine gen2 ?_ ?_<;>intro hq<;>try simp[fu]at hq)))|(refine aB 0 rfl rfl (dU b hb _ (by omega) 4 (by omega)) (fun x1 p1 dn dG b8=>?_);simp[fu];(try simp(disch:=omega)only[wrap64]);(try(refine gen2 ?_ ?_<;>intro hq<;>try simp[fu]at hq)))|(refine aB 0 rfl rfl (ih u _ hu (by omega)) (fun x1 p1 dn dG b8=>?_);simp[fu];(try simp(disch:=omega)only[wrap64]);(try(refine gen2 ?_ ?_<;>intro hq<;>try simp[fu]at hq)))|(refine aB 0 rfl rfl (ih v _ hv (by omega)) (fun x1 p1 dn dG b8=>?_);simp[fu];(try simp(disch:=omega)only[wrap64]);(try(refine gen2 ?_ ?_<;>intro hq<;>try simp[fu]at hq)))|refine TX.Df (id:=7) mixed (fun _=>false) [8,10,12] [1] 9 [0] (by kernel_rfl) fun K hK=>?_|refine TX.rs (fun _=>false) fun K hK=>?_|refine TX.eH (fun _=>false) fun K hK=>?_|refine TX.cond rfl (fun al=>?_) (fun al=>absurd al (by decide))|refine TX.cond rfl (fun al=>absurd al (by decide)) (fun al=>?_)|refine TX.seq ?_|refine TX.block ?_|refine TX.skip ?_|refine TX.exit ?_|refine EX.ij ?_|refine EX.oH ?_|refine EX.gQ ?_|refine EX.kE ?_|refine EX.FD ?_|refine EX.Af ?_|refine TX.nN ?_
   all_goals(
    refine TX.ret ?_;repeat' first|refine EX.mq ?_|refine EX.il ?_|refine EX.eV ?_|refine EX.mr ?_
    apply EX.ze (ks:=[])
    case he=>exact Or.inr rfl
    case mL=>simp[aF,dQ,Tryz.results123]<;>rfl
    case hv=>first|(dsimp only[Av.one];exact rfl)|dsimp only[Av.one]
    case hx=>repeat' first|exact ec.var _|exact bn.yD _|exact cU.var _|exact eE.row _|exact cU.row _|exact bf.nil|exact bc.nil|exact bg.nil|exact bf.map _|exact bc.map _|exact bg.map _|exact bn.int _|exact bn.str _|exact bn.bool _|apply bn.p2|apply bn.p3|apply bn.tm|apply bn.ty|apply cU.node|apply eE.of|apply bf.cons|apply bc.cons|apply bg.cons|apply bn.yk|apply bn.yE|apply bn.yF|apply ec.node|apply bf.app|apply bc.app|apply bg.app
    case hA=>exact rfl
    case ml=>simp
    case hV=>exact rfl
    case h1=>omega
    case h2=>omega
    case hg=>simp[sk,show cF 1=0 from rfl,gx, *])
  |_::_::_::_,h=>exact absurd h (by simp)
theorem Dq (t:aE) (hn:gl t<=1099511627776):ah Y1 120 [eu t] [] (.agg [.d (.i t.kind),.own 0 t.kids.length]) [] [{sz:=2,eJ:=25,rows:=t.kids.map cA,wr:=true}]:=by
 rw[gG]at hn;have hlen:=ie t.kids;refine ah.ob Tryz.func120 Tryz.ntmps120 rfl ?_;repeat' first|(refine ab (hK _ ?_);clear hK K)|(refine af ?_;simp;(try(refine gen2 ?_ ?_<;>intro hq<;>try simp at hq)))|refine T.r0 fun K hK=>?_|refine T.seq ?_|refine T.block ?_
 refine T.dM 2 1 2 25 (row:=[.d (.i t.kind),.nil]) (by simp) (by simp) ?_;refine T.iI (fun p:Nat=>⟨[(1,.c (.ptr 0 0)),(2,.c (.ptr 1 0)),(3,.c (.ptr 2 0)),(4,.i p)],[(eu t).cells,[.d (.i 0),.nil],[.d (.i t.kind),.own 0 p]],[{sz:=2,eJ:=25,rows:=(t.kids.take p).map cA,wr:=true}]⟩) (fun p=>t.kids.length+1-p) (fun p=>p<=t.kids.length) (fun p hi=>?_) 0 (by simp) (by simp);by_cases az:p<t.kids.length
 ·obtain⟨u,ht⟩:=bX az;have fz:u∈t.kids:=Y3 ht;have a8:t.kids[p]=u:=by rw[Y2 az]at ht;exact Option.some.inj ht
  have jb:t.kids.drop p=u::t.kids.drop (p+1):=by rw[Y7 az,a8]
  have hu:=cS u (by have:=ig fz;omega);have qe:t.kids.take (p+1)=t.kids.take p++[u]:=by rw[Y4,ht];rfl
  have eg:min p t.kids.length=p:=by omega
  repeat' first|((first|refine ab (hK _ ?_)|refine aA (hK _ ?_));clear hK K)|((first|refine af ?_|refine aG ?_|refine aa rfl (hu) ?_);simp[az,a8,eg];(try simp(disch:=omega)only[wrap64]);(try(refine gen2 ?_ ?_<;>intro hq<;>try simp[az,a8,eg]at hq)))|(refine⟨by omega,by omega,?_⟩)|(refine⟨p+1,by dsimp only;omega,by omega,?_,?_,?_⟩<;>simp(disch:=omega) [wrap64,qe,aQ])|refine T.yi (id:=5) mixed (fun _=>false) [9,11] (by kernel_rfl) fun K hK=>?_|refine T.r0 fun K hK=>?_|refine T.r1 fun K hK=>?_|refine T.ct rfl ?_|refine T.seq ?_|refine T.block ?_|refine T.skip ?_
 ·have fX:p=t.kids.length:=by omega
  subst fX;repeat' first|(refine ab (hK _ ?_);clear hK K)|(refine af ?_;simp[az];(try(refine gen2 ?_ ?_<;>intro hq<;>try simp[az]at hq)))|refine T.r0 fun K hK=>?_|refine T.cf rfl ?_|refine T.seq ?_|refine T.exit ?_
  refine T.ret (aD.Hv 0 (Or.inr rfl) (ys:=[_]) ?_ rfl ?_)<;>simp[aF,Tryz.results120]
theorem BN (b:List Int) (hb:okB b) (t:aE) (hn:gl t<=1000000) (p:Nat) (hp:p+2<=1099511627776):bw Y1 83 [eu t] b p 2 (RV eu wc fun u=>gl u<=gl t+20):=by
 have qC:=mU;have BJ:=Dq t (by omega);have hlen:=ie t.kids;have GL:=hn;rw[gG]at GL;refine bw.cx Tryz.func83 (by kernel_rfl) rfl (by kernel_rfl) (by simp[Tryz.ntmps83]) ?_;rw[Tryz.ntmps83];repeat' first|((first|refine ab (hK _ ?_)|refine aA (hK _ ?_));clear hK K)|((first|refine af ?_|refine aG ?_|refine aa rfl (qC) ?_);simp;(try simp(disch:=omega)only[wrap64]);(try(refine gen2 ?_ ?_<;>intro hq<;>try simp at hq)))|(refine aB 0 rfl rfl (dU b hb _ (by omega) 40 (by omega)) (fun x1 p1 dn dG b8=>?_);simp;(try simp(disch:=omega)only[wrap64]);(try(refine gen2 ?_ ?_<;>intro hq<;>try simp at hq)))|(refine aB 0 rfl rfl (iA b hb _ (by omega) [0,6,1,4,-1] (by simp) (by simp)) (fun x1 p1 dn dG b8=>?_);simp;(try simp(disch:=omega)only[wrap64]);(try(refine gen2 ?_ ?_<;>intro hq<;>try simp at hq)))|(refine jt rfl (BJ) ?_;simp;(try simp(disch:=omega)only[wrap64]);(try(refine gen2 ?_ ?_<;>intro hq<;>try simp at hq)))|(refine⟨by omega,by omega,?_⟩)|refine TX.yi (id:=6) mixed (fun _=>false) [4,6] (by kernel_rfl) fun K hK=>?_|refine TX.yi (id:=11) mixed (fun _=>false) [2,4] (by kernel_rfl) fun K hK=>?_|refine TX.rs (fun _=>false) fun K hK=>?_|refine TX.eH (fun _=>false) fun K hK=>?_|refine TX.cond rfl (fun al=>?_) (fun al=>absurd al (by decide))|refine TX.cond rfl (fun al=>absurd al (by decide)) (fun al=>?_)|refine TX.seq ?_|refine TX.block ?_|refine TX.skip ?_|refine TX.exit ?_|refine EX.ij ?_|refine EX.oH ?_|refine EX.gQ ?_|refine EX.kE ?_|refine EX.FD ?_|refine EX.Af ?_|refine TX.nN ?_
 all_goals(
  refine TX.ret ?_;repeat' first|refine EX.mq ?_|refine EX.il ?_|refine EX.eV ?_|refine EX.mr ?_
  apply EX.ze (ks:=[])
  case he=>exact Or.inr rfl
  case mL=>simp[aF,dQ,Tryz.results83]<;>rfl
  case hv=>first|(dsimp only[Av.one];exact rfl)|dsimp only[Av.one]
  case hx=>repeat' first|exact ec.var _|exact bn.yD _|exact cU.var _|exact eE.row _|exact cU.row _|exact bf.nil|exact bc.nil|exact bg.nil|exact bf.map _|exact bc.map _|exact bg.map _|exact bn.int _|exact bn.str _|exact bn.bool _|apply bn.p2|apply bn.p3|apply bn.tm|apply bn.ty|apply cU.node|apply eE.of|apply bf.cons|apply bc.cons|apply bg.cons|apply bn.yk|apply bn.yE|apply bn.yF|apply ec.node|apply bf.app|apply bc.app|apply bg.app
  case hA=>exact rfl
  case ml=>simp
  case hV=>exact rfl
  case h1=>omega
  case h2=>omega
  case hg=>simp[cH,cY,sn,gG, *]<;>omega)
end Go.Proofs.YtloolmchekcmeaaGreat
namespace Go.Proofs.YtloolmchekcmeaaGreat
attribute [-simp] Go.Av.cP Go.Av.gJ Go.Av.cc Go.Av.bK Go.Av.back Go.Av.fg Go.Av.one Go.Av.di Go.Av.yl
open Go Go.Av
attribute [local irreducible] T ah TX EX LX bw dh bR cA gA aE.kind aE.kids ao.kind ao.name ao.num ao.ty ao.fr ao.label ao.kids
attribute [local simp] aQ ax
set_option maxHeartbeats 16000000
set_option maxRecDepth 8000
theorem xi (n:Int):ah Y1 127 [.i n] [] (c6 (.mk 2 [] n bx bx 0 [])) [] []:=by
 refine ah.ob Tryz.func127 Tryz.ntmps127 rfl ?_;repeat' first|(refine ab (hK _ ?_);clear hK K)|(refine af ?_;simp;(try(refine gen2 ?_ ?_<;>intro hq<;>try simp at hq)))|(refine T.ret (aD.val (Or.inr rfl) ?_)<;>simp[aF,Tryz.results127]<;>omega)|refine T.r0 fun K hK=>?_
theorem HM (s:List UInt8) (c:UInt8) (hs:s.length<=1099511627776):ah Y1 149 [.s s,.s [c]] [] (.s (lM c s)) [] []:=by
 refine ah.ob Tryz.func149 Tryz.ntmps149 rfl ?_;repeat' first|(refine ab (hK _ ?_);clear hK K)|(refine af ?_;simp;(try(refine gen2 ?_ ?_<;>intro hq<;>try simp at hq)))|refine T.r0 fun K hK=>?_|refine T.seq ?_|refine T.block ?_
 refine T.iI (fun k:Nat=>⟨[(0,.s s),(1,.s [c]),(4,.s []),(5,.i k)],[],[]⟩) (fun k=>s.length+1-k) (fun k=>k<=s.length/\lM c s=s.take k++lM c (s.drop k)) (fun k hk=>?_) 0 (by simp) (by simp);obtain⟨hi,he⟩:=hk;by_cases az:k<s.length
 ·have qH:=tJ az;have jb:=drop_cons az;have qe:s.take (k+1)=s.take k++[s[k]]:=by rw[Y4,Y2 az];rfl
  generalize hx:s[k]=x at*;have ym:=yG x c;have yL:((k:Int)+1).toNat=k+1:=by omega
  have oD:(k:Int)<=k+1:=by omega
  have kQ:(k:Int)+1<=s.length:=by omega
  by_cases h1:x<c
  ·have MY:lM c s=s.take (k+1)++lM c (s.drop (k+1)):=by rw[he,jb,qe];simp[lM,h1]
   repeat' first|(refine ab (hK _ ?_);clear hK K)|(refine af ?_;simp[az,yL,qH,ym,h1,kQ];(try simp(disch:=omega)only[wrap64]);(try(refine gen2 ?_ ?_<;>intro hq<;>try simp[az,yL,qH,ym,h1,kQ]at hq)))|(refine⟨k+1,by dsimp only;omega,⟨by omega,MY⟩,?_⟩;simp(disch:=omega) [wrap64])|refine T.r0 fun K hK=>?_|refine T.r1 fun K hK=>?_|(refine⟨by omega,?_⟩)|refine T.ct rfl ?_|refine T.seq ?_|refine T.block ?_|refine T.skip ?_
  ·by_cases h2:x=c
   ·subst h2;have MY:lM x s=s:=by rw[he,jb];simp[lM];rw[<-jb];simp
    rw[MY];have N2:Op.bytesLess [x] [x]=false:=by rw[ym];simp
    repeat' first|(refine ab (hK _ ?_);clear hK K)|(refine af ?_;simp[az,yL,qH,N2,kQ];(try simp(disch:=omega)only[wrap64]);(try(refine gen2 ?_ ?_<;>intro hq<;>try simp[az,yL,qH,N2,kQ]at hq)))|(refine T.ret (aD.data (Or.inr rfl) ?_ ?_)<;>simp[Tryz.results149]<;>omega)|refine T.r0 fun K hK=>?_|(refine⟨by omega,?_⟩)|refine T.ct rfl ?_|refine T.cf rfl ?_|refine T.seq ?_|refine T.exit ?_
   ·have MY:lM c s=s.take k++[c]++s.drop k:=by rw[he,jb];simp[lM,h1,h2]
    rw[MY];have eg:min k s.length=k:=by omega
    have tt:k+1<=4611686018427387904:=by omega
    have MI:k+1+(s.length-k)<=4611686018427387904:=by omega
    repeat' first|((first|refine ab (hK _ ?_)|refine aA (hK _ ?_));clear hK K)|((first|refine af ?_|refine aG ?_);simp[az,yL,qH,ym,h1,h2,kQ,eg,tt,MI];(try simp(disch:=omega)only[wrap64]);(try(refine gen2 ?_ ?_<;>intro hq<;>try simp[az,yL,qH,ym,h1,h2,kQ,eg,tt,MI]at hq)))|(refine T.ret (aD.data (Or.inr rfl) ?_ ?_)<;>simp[Tryz.results149]<;>omega)|refine T.rd (id:=6) mixed (fun _=>false) [] (by kernel_rfl) fun K hK=>?_|refine T.r0 fun K hK=>?_|(refine⟨by omega,?_⟩)|refine T.cf rfl ?_|refine T.seq ?_|refine T.skip ?_|refine T.exit ?_
 ·have o4:k=s.length:=by omega
  subst o4;simp[lM]at he;rw[he];have tt:s.length+1<=4611686018427387904:=by omega
  repeat' first|((first|refine ab (hK _ ?_)|refine aA (hK _ ?_));clear hK K)|((first|refine af ?_|refine aG ?_);simp[az,tt];(try simp(disch:=omega)only[wrap64]);(try(refine gen2 ?_ ?_<;>intro hq<;>try simp[az,tt]at hq)))|(refine T.ret (aD.data (Or.inr rfl) ?_ ?_)<;>simp[Tryz.results149]<;>omega)|refine T.rd (id:=6) mixed (fun _=>false) [] (by kernel_rfl) fun K hK=>?_|refine T.r0 fun K hK=>?_|refine T.cf rfl ?_|refine T.seq ?_|refine T.skip ?_|refine T.exit ?_
theorem FQ:∀(e:ao),fy e<=1099511627776->ah Y1 79 [c6 e] [] (c6 e) [] []:=by
 intro e;induction e using ao.ind with
 |h e ih=>
  intro hn;obtain⟨kp,qd,CP,tc⟩:=c4 hn;have h1:=cS e.ty kp;have h2:=cS e.fr qd;refine ah.ob Tryz.func79 Tryz.ntmps79 rfl ?_;repeat' first|(refine ab (hK _ ?_);clear hK K)|((first|refine af ?_|refine aa rfl (h1) ?_|refine aa rfl (h2) ?_);simp;(try(refine gen2 ?_ ?_<;>intro hq<;>try simp at hq)))|refine T.r0 fun K hK=>?_|refine T.seq ?_|refine T.block ?_
  refine T.dM 2 8 9 28 rfl rfl ?_;refine T.iI (fun p:Nat=>⟨[(1,.c (.ptr 0 0)),(2,.c (.ptr 1 0)),(3,.c (.ptr 2 0)),(4,.i p)],[(c6 e).cells,[.d (.i 0),.d (.str []),.d (.i 0),.d (.i 0),.nil,.d (.i 0),.nil,.d (.i 0),.nil],[.d (.i e.kind),.d (.str e.name),.d (.i e.num),.d (.i e.ty.kind),.d (.sl (e.ty.kids.map cA)),.d (.i e.fr.kind),.d (.sl (e.fr.kids.map cA)),.d (.i e.label),.own 0 p]],[{sz:=9,eJ:=28,rows:=(e.kids.take p).map gA,wr:=true}]⟩) (fun p=>e.kids.length+1-p) (fun p=>p<=e.kids.length) (fun p hi=>?_) 0 (by simp) (by simp);by_cases az:p<e.kids.length
  ·obtain⟨u,ht⟩:=bX az;have fz:u∈e.kids:=Y3 ht;have a8:e.kids[p]=u:=by rw[Y2 az]at ht;exact Option.some.inj ht
   have jb:e.kids.drop p=u::e.kids.drop (p+1):=by rw[Y7 az,a8]
   have hu:=ih u fz (tc u fz);have qe:e.kids.take (p+1)=e.kids.take p++[u]:=by rw[Y4,ht];rfl
   have eg:min p e.kids.length=p:=by omega
   repeat' first|((first|refine ab (hK _ ?_)|refine aA (hK _ ?_));clear hK K)|((first|refine af ?_|refine aG ?_|refine aa rfl (hu) ?_);simp[az,a8,eg];(try simp(disch:=omega)only[wrap64]);(try(refine gen2 ?_ ?_<;>intro hq<;>try simp[az,a8,eg]at hq)))|(refine⟨p+1,by dsimp only;omega,by omega,?_,?_,?_⟩<;>simp(disch:=omega) [wrap64,qe,ax])|refine T.yi (id:=8) mixed (fun _=>false) [9,11] (by kernel_rfl) fun K hK=>?_|refine T.r0 fun K hK=>?_|refine T.r1 fun K hK=>?_|(refine⟨by omega,?_⟩)|refine T.ct rfl ?_|refine T.seq ?_|refine T.block ?_|refine T.skip ?_
  ·have fX:p=e.kids.length:=by omega
   subst fX;repeat' first|(refine ab (hK _ ?_);clear hK K)|(refine af ?_;simp[az];(try(refine gen2 ?_ ?_<;>intro hq<;>try simp[az]at hq)))|(refine T.ret (aD.val (Or.inr rfl) ?_)<;>simp[aF,Tryz.results79]<;>omega)|refine T.r0 fun K hK=>?_|refine T.cf rfl ?_|refine T.seq ?_|refine T.exit ?_
theorem jy (b:List Int) (hb:okB b) (x:Int) (hx:x=1\/x=2\/x=3\/x=4) (p:Nat) (hp:p+256<=1099511627776):bw Y1 87 [.i x] b p 256 (RV eu wc fun t=>ak 4 t=true):=by
 rcases hx with rfl|rfl|rfl|rfl
 ·exact(iN b hb 0 p (by omega) (by omega)).mono (by omega) fun t h=>cl (cl (cl h))
 ·exact(iN b hb 1 p (by omega) (by omega)).mono (by omega) fun t h=>cl (cl h)
 ·exact(iN b hb 2 p (by omega) (by omega)).mono (by omega) fun t h=>cl h
 ·exact(iN b hb 3 p (by omega) (by omega)).mono (by omega) fun t h=>h
theorem tW (b:List Int) (hb:okB b) (s:List UInt8) (hs:s.length<=1000) (p:Nat) (hp:p+3<=1099511627776):bw Y1 148 [.s s] b p 3 (RV c6 wc fun e=>fy e<=1):=by
 have BO:=xi;refine bw.cx Tryz.func148 (by kernel_rfl) rfl (by kernel_rfl) (by simp[Tryz.ntmps148]) ?_;rw[Tryz.ntmps148];repeat' first|(refine ab (hK _ ?_);clear hK K)|((first|refine af ?_|refine aa rfl (BO _) ?_);simp;(try simp(disch:=omega)only[wrap64]);(try(refine gen2 ?_ ?_<;>intro hq<;>try simp at hq)))|(refine aB 0 rfl rfl (dU b hb _ (by omega) 4 (by omega)) (fun x1 p1 dn dG b8=>?_);simp;(try simp(disch:=omega)only[wrap64]);(try(refine gen2 ?_ ?_<;>intro hq<;>try simp at hq)))|(refine aB 0 rfl rfl (dU b hb _ (by omega) 5 (by omega)) (fun x1 p1 dn dG b8=>?_);simp;(try simp(disch:=omega)only[wrap64]);(try(refine gen2 ?_ ?_<;>intro hq<;>try simp at hq)))|(refine aB 0 rfl rfl (dU b hb _ (by omega) s.length (by omega)) (fun x1 p1 dn dG b8=>?_);simp;(try simp(disch:=omega)only[wrap64]);(try(refine gen2 ?_ ?_<;>intro hq<;>try simp at hq)))|(refine aB 0 rfl rfl (iA b hb _ (by omega) [1,0,2,5,999,7] (by simp) (by simp)) (fun x1 p1 dn dG b8=>?_);simp;(try simp(disch:=omega)only[wrap64]);(try(refine gen2 ?_ ?_<;>intro hq<;>try simp at hq)))|refine TX.rs (fun _=>false) fun K hK=>?_|(refine⟨by omega,?_⟩)|refine TX.cond rfl (fun al=>?_) (fun al=>absurd al (by decide))|refine TX.cond rfl (fun al=>absurd al (by decide)) (fun al=>?_)|refine TX.seq ?_|refine TX.block ?_|refine TX.skip ?_|refine EX.ij ?_|refine EX.gQ ?_
 all_goals(
  refine TX.ret ?_;repeat' first|refine EX.mq ?_|refine EX.il ?_|refine EX.eV ?_|refine EX.mr ?_
  apply EX.ze (ks:=[])
  case he=>exact Or.inr rfl
  case mL=>simp[aF,dQ,Tryz.results148]<;>rfl
  case hv=>first|(dsimp only[Av.one];exact rfl)|dsimp only[Av.one]
  case hx=>repeat' first|exact ec.var _|exact bn.yD _|exact cU.var _|exact eE.row _|exact cU.row _|exact bf.nil|exact bc.nil|exact bg.nil|exact bf.map _|exact bc.map _|exact bg.map _|exact bn.int _|exact bn.str _|exact bn.bool _|apply bn.p2|apply bn.p3|apply bn.tm|apply bn.ty|apply cU.node|apply eE.of|apply bf.cons|apply bc.cons|apply bg.cons|apply bn.yk|apply bn.yE|apply bn.yF|apply ec.node|apply bf.app|apply bc.app|apply bg.app
  case hA=>exact rfl
  case ml=>simp
  case hV=>exact rfl
  case h1=>omega
  case h2=>omega
  case hg=>simp[eW,cH,cY,eQ]<;>omega)
theorem qf (b:List Int) (hb:okB b):∀(d:Nat) (s:List UInt8) (p:Nat),d<=50->s.length+d<=100->p+400*4 ^ d<=1099511627776->bw Y1 130 [.s s,.i d] b p (400*4 ^ d) (RV c6 wc fun e=>fy e<=400*4 ^ d):=by
 intro d;induction d with
 |zero=>
  intro s p hd hs hp;refine bw.cx Tryz.func130 (by kernel_rfl) rfl (by kernel_rfl) (by simp[Tryz.ntmps130]) ?_;rw[Tryz.ntmps130];repeat' first|(refine ab (hK _ ?_);clear hK K)|(refine af ?_;simp;(try simp(disch:=omega)only[wrap64]);(try(refine gen2 ?_ ?_<;>intro hq<;>try simp at hq)))|(refine aB 0 rfl rfl (tW b hb s (by omega) _ (by omega)) (fun x1 p1 dn dG b8=>?_);simp;(try simp(disch:=omega)only[wrap64]);(try(refine gen2 ?_ ?_<;>intro hq<;>try simp at hq)))|refine TX.rs (fun _=>false) fun K hK=>?_|refine TX.cond rfl (fun al=>?_) (fun al=>absurd al (by decide))|refine TX.seq ?_
  all_goals(
   refine TX.ret ?_;repeat' first|refine EX.mq ?_|refine EX.il ?_|refine EX.eV ?_|refine EX.mr ?_
   apply EX.ze (ks:=[])
   case he=>exact Or.inr rfl
   case mL=>simp[aF,dQ,Tryz.results130]<;>rfl
   case hv=>first|(dsimp only[Av.one];exact rfl)|dsimp only[Av.one]
   case hx=>repeat' first|exact ec.var _|exact bn.yD _|exact cU.var _|exact eE.row _|exact cU.row _|exact bf.nil|exact bc.nil|exact bg.nil|exact bf.map _|exact bc.map _|exact bg.map _|exact bn.int _|exact bn.str _|exact bn.bool _|apply bn.p2|apply bn.p3|apply bn.tm|apply bn.ty|apply cU.node|apply eE.of|apply bf.cons|apply bc.cons|apply bg.cons|apply bn.yk|apply bn.yE|apply bn.yF|apply ec.node|apply bf.app|apply bc.app|apply bg.app
   case hA=>exact rfl
   case ml=>simp
   case hV=>exact rfl
   case h1=>omega
   case h2=>omega
   case hg=>omega)
 |succ d ih=>
  intro s p hd hs hp;have h4:4 ^(d+1)=4*4 ^ d:=by rw[Za];omega
  have h1:1<=4 ^ d:=Zb (by simp);rw[h4]at hp⊢;generalize hN:4 ^ d=N at*;by_cases I9:d=0
  ·subst I9;refine bw.cx Tryz.func130 (by kernel_rfl) rfl (by kernel_rfl) (by simp[Tryz.ntmps130]) ?_;rw[Tryz.ntmps130];repeat' first|(refine ab (hK _ ?_);clear hK K)|(refine af ?_;simp;(try simp(disch:=omega)only[wrap64]);(try(refine gen2 ?_ ?_<;>intro hq<;>try simp at hq)))|(refine aB 0 rfl rfl (tW b hb s (by omega) _ (by omega)) (fun x1 p1 dn dG b8=>?_);simp;(try simp(disch:=omega)only[wrap64]);(try(refine gen2 ?_ ?_<;>intro hq<;>try simp at hq)))|refine TX.rs (fun _=>false) fun K hK=>?_|refine TX.cond rfl (fun al=>?_) (fun al=>absurd al (by decide))|refine TX.seq ?_
   all_goals(
    refine TX.ret ?_;repeat' first|refine EX.mq ?_|refine EX.il ?_|refine EX.eV ?_|refine EX.mr ?_
    apply EX.ze (ks:=[])
    case he=>exact Or.inr rfl
    case mL=>simp[aF,dQ,Tryz.results130]<;>rfl
    case hv=>first|(dsimp only[Av.one];exact rfl)|dsimp only[Av.one]
    case hx=>repeat' first|exact ec.var _|exact bn.yD _|exact cU.var _|exact eE.row _|exact cU.row _|exact bf.nil|exact bc.nil|exact bg.nil|exact bf.map _|exact bc.map _|exact bg.map _|exact bn.int _|exact bn.str _|exact bn.bool _|apply bn.p2|apply bn.p3|apply bn.tm|apply bn.ty|apply cU.node|apply eE.of|apply bf.cons|apply bc.cons|apply bg.cons|apply bn.yk|apply bn.yE|apply bn.yF|apply ec.node|apply bf.app|apply bc.app|apply bg.app
    case hA=>exact rfl
    case ml=>simp
    case hV=>exact rfl
    case h1=>omega
    case h2=>omega
    case hg=>omega)
  have jm:¬((d:Int)+1<2):=by omega
  have oX:(d:Int)+1-1=d:=by omega
  have qU:∀c,(lM c s).length+d<=100:=fun c=>by have:=wW c s;omega
  refine bw.cx Tryz.func130 (by kernel_rfl) rfl (by kernel_rfl) (by simp[Tryz.ntmps130]) ?_;rw[Tryz.ntmps130];repeat' first|((first|refine ab (hK _ ?_)|refine bz (hK _ ?_));clear hK K)|((first|refine af ?_|refine bO ?_|refine aa rfl (zl _) ?_|refine aa rfl (HM s _ (by omega)) ?_);simp[cD,jm,oX];(try simp(disch:=omega)only[wrap64]);(try(refine gen2 ?_ ?_<;>intro hq<;>try simp[cD,jm,oX]at hq)))|(refine aB 0 rfl rfl (iA b hb _ (by omega) [6,5,7,9,13,10,11,8,12,5,6] (by simp) (by simp)) (fun x p1 hx dG b8=>?_);simp at hx;(have ji:x=6\/x=5\/x=7\/x=9\/x=13\/x=10\/x=11\/x=8\/x=12:=by omega);clear hx;rcases ji with rfl|rfl|rfl|rfl|rfl|rfl|rfl|rfl|rfl<;>(simp[cD,jm,oX];(try simp(disch:=omega)only[wrap64])))|(refine aB 0 rfl rfl (tW b hb s (by omega) _ (by omega)) (fun x1 p1 dn dG b8=>?_);simp[cD,jm,oX];(try simp(disch:=omega)only[wrap64]);(try(refine gen2 ?_ ?_<;>intro hq<;>try simp[cD,jm,oX]at hq)))|(refine aB 0 rfl rfl (dU b hb _ (by omega) 6 (by omega)) (fun x1 p1 dn dG b8=>?_);simp[cD,jm,oX];(try simp(disch:=omega)only[wrap64]);(try(refine gen2 ?_ ?_<;>intro hq<;>try simp[cD,jm,oX]at hq)))|(refine aB 0 rfl rfl (ih s _ (by omega) (by omega) (by omega)) (fun x1 p1 dn dG b8=>?_);simp[cD,jm,oX];(try simp(disch:=omega)only[wrap64]);(try(refine gen2 ?_ ?_<;>intro hq<;>try simp[cD,jm,oX]at hq)))|(refine aB 0 rfl rfl (ih (lM _ s) _ (by omega) (qU _) (by omega)) (fun x1 p1 dn dG b8=>?_);simp[cD,jm,oX];(try simp(disch:=omega)only[wrap64]);(try(refine gen2 ?_ ?_<;>intro hq<;>try simp[cD,jm,oX]at hq)))|((first|(refine aB 0 rfl rfl (HL b hb _ (by omega) [[120],[121],[122],[102]] (by simp) (by simp)) (fun x p1 hx dG b8=>?_);(obtain⟨c,rfl⟩:∃c,x=[c]:=by simp at hx;rcases hx with rfl|rfl|rfl|rfl<;>exact⟨_,rfl⟩))|(refine aB 0 rfl rfl (iA b hb _ (by omega) [2,1,3,2] (by simp) (by simp)) (fun y p1 hy dG b8=>?_);simp at hy)|(refine aB 0 rfl rfl (jy b hb _ (by omega) _ (by omega)) (fun t p1 ht dG b8=>?_);replace ht:=fY ht));simp)|refine TX.Df (id:=13) mixed (fun _=>false) [6,8,10] [1] 7 [0] (by kernel_rfl) fun K hK=>?_|refine TX.rs (fun _=>false) fun K hK=>?_|refine TX.eH (fun _=>false) fun K hK=>?_|refine TX.cond rfl (fun al=>?_) (fun al=>absurd al (by decide))|refine TX.cond rfl (fun al=>absurd al (by decide)) (fun al=>?_)|refine TX.seq ?_|refine TX.block ?_|refine TX.skip ?_|refine TX.exit ?_|refine EX.ij ?_|refine EX.oH ?_|refine EX.gQ ?_|refine EX.kE ?_|refine EX.FD ?_|refine EX.Af ?_|refine TX.nN ?_
  all_goals(
   refine TX.ret ?_;repeat' first|refine EX.mq ?_|refine EX.il ?_|refine EX.eV ?_|refine EX.mr ?_
   apply EX.ze (ks:=[])
   case he=>exact Or.inr rfl
   case mL=>simp[aF,dQ,Tryz.results130]<;>rfl
   case hv=>first|(dsimp only[Av.one];exact rfl)|dsimp only[Av.one]
   case hx=>repeat' first|exact ec.var _|exact bn.yD _|exact cU.var _|exact eE.row _|exact cU.row _|exact bf.nil|exact bc.nil|exact bg.nil|exact bf.map _|exact bc.map _|exact bg.map _|exact bn.int _|exact bn.str _|exact bn.bool _|apply bn.p2|apply bn.p3|apply bn.tm|apply bn.ty|apply cU.node|apply eE.of|apply bf.cons|apply bc.cons|apply bg.cons|apply bn.yk|apply bn.yE|apply bn.yF|apply ec.node|apply bf.app|apply bc.app|apply bg.app
   case hA=>exact rfl
   case ml=>simp
   case hV=>exact rfl
   case h1=>omega
   case h2=>omega
   case hg=>(try simp[eW,cH,cY,eQ])<;>omega)
end Go.Proofs.YtloolmchekcmeaaGreat
