/- A part. -/
import Derived.Test.YtloolmchekcmeaaGreatXD29
set_option linter.unusedVariables false
set_option linter.unusedSimpArgs false
open Option renaming isSome_none->adR,getD_none->adS,map_some->adT,bind_none->adU
open List renaming append_nil->adV
namespace Go.Proofs.YtloolmchekcmeaaGreat
attribute [-simp] Go.Av.bP Go.Av.eu Go.Av.eN Go.Av.eG Go.Av.b8 Go.Av.bN
open Go Go.Av
attribute [local irreducible] T ah TX EX LX dA dB bL b5 eK aF.kind aF.kids ak.kind ak.name ak.num ak.ty ak.fr ak.label ak.kids
attribute [local simp] aN au
set_option maxHeartbeats 16000000
set_option maxRecDepth 8000
attribute [local simp] Option.bind
def ze (B:List IT) (K:Nat) (Ts:List aF) (l:List IT):Option (List aF):=(l3 B K l).map (Ts++·)
theorem Dz {B:List IT} {K:Nat} {Ts:List aF} {t:IT} {l:List IT}:ze B K Ts (t::l)=match eO B K 4 t with
  |none=>none
  |some T=>ze B K (Ts++[T]) l:=by
 simp only[ze,l3];cases eO B K 4 t with
 |none=>rfl
 |some T=>cases l3 B K l<;>simp
theorem od (e:ak) (hn:fa e<=1073741824):ah Tryz.prog 26 [cE e] [] (.aZ [cE ((iK e).getD (c5,aX)).1,ec ((iK e).getD (c5,aX)).2,.b (iK e).isSome]) [] []:=by
 have h1:=jB e (by omega);cases hv:aV e with
 |false=>
  rw[hv]at h1;simp only[iK,hv,Bool.false_eq_true,if_false,adS,adR];refine ah.ob Tryz.func26 Tryz.ntmps26 rfl ?_;repeat' first|(refine ab (hK _ ?_);clear hK K)|((first|refine ae ?_|refine aa rfl (h1) ?_);simp;(try(refine gen2 ?_ ?_<;>intro hq<;>try simp at hq)))|(refine T.ret (az.aZ (Or.inr rfl) ?_)<;>simp[aE,Tryz.results26,c5,aX]<;>omega)|refine T.r0 fun K hK=>?_|refine T.ct rfl ?_|refine T.seq ?_
 |true=>
  rw[hv]at h1;have h2:=FO 14 e 12 (gi.1 hv).1 hn;rcases Am hv with⟨k,B,ls,t,hw,hA⟩|⟨⟨k,hk⟩,B,ls,t,hA⟩
  rotate_left
  ·rw[rr]at hA;dsimp only at hA;simp only[iK,hv,if_true,pz hk,adU,adS,adR];refine ah.ob Tryz.func26 Tryz.ntmps26 rfl ?_;repeat' first|(refine ab (hK _ ?_);clear hK K)|((first|refine ae ?_|refine aa rfl (h1) ?_|refine aa rfl (h2) ?_|(refine aa ?_ (hA) ?_;(focus(solve|simp[au (mapM aO e)]))));simp[au (mapM aO e)];(try(refine gen2 ?_ ?_<;>intro hq<;>try simp[au (mapM aO e)]at hq)))|(refine T.ret (az.aZ (Or.inr rfl) ?_)<;>simp[aE,Tryz.results26,c5,aX]<;>omega)|refine T.r0 fun K hK=>?_|refine T.ct rfl ?_|refine T.cf rfl ?_|refine T.seq ?_|refine T.skip ?_
  obtain⟨hi,Mh,MV,kp,x8,wx,RX⟩:=hw.ok;obtain⟨K,hK⟩:=hw.fuel;obtain⟨hb,kX,IL,OS⟩:=ll hv;simp only[iK,hv,if_true,py hw hK];obtain⟨R,hR⟩:∃R,R=l3 B K ls:=⟨_,rfl⟩;have KS:∀Ts,R=some Ts->Ts.length=ls.length/\∀T∈Ts,al 4 T=true:=fun Ts h=>by
   have:=tQ hi.ok.sc Mh hK wx MV (hR.symm.trans h);exact⟨by rw[this.1];simp,fun T hT=>(this.2 T hT).1⟩
  rw[<-hR];have kst:∀t∈ls,ah Tryz.prog 68 [gC B ls,jk t,.i 4] [] (.aZ (iC (eO B K 4 t))) [] []:=fun t ht=>
   Al B ls hi.ok.sc Mh (by omega) K hK 4 t (by omega) (wx t ht) (MV t ht)
  rw[rr]at hA;dsimp only at hA;have RY:ls.length<=1000000:=by omega
  generalize RZ:mapM aO e=b at*;clear hi Mh MV kp RX hw;refine ah.ob Tryz.func26 Tryz.ntmps26 rfl ?_;repeat' first|(refine ab (hK _ ?_);clear hK K)|((first|refine ae ?_|refine aa rfl (h1) ?_|refine aa rfl (h2) ?_|(refine aa ?_ (hA) ?_;(focus(solve|simp[au b]))));simp[au b];(try(refine gen2 ?_ ?_<;>intro hq<;>try simp[au b]at hq)))|refine T.rs (id:=7) (fun i=>i==0) fun K hK=>?_|refine T.rs (id:=0) (fun _=>false) fun K hK=>?_|refine T.rs (id:=1) (fun _=>false) fun K hK=>?_|refine T.rs (id:=3) (fun _=>false) fun K hK=>?_|refine T.rs (id:=4) (fun _=>false) fun K hK=>?_|refine T.rs (id:=5) (fun _=>false) fun K hK=>?_|refine T.rs (id:=8) (fun _=>false) fun K hK=>?_|refine T.cf rfl ?_|refine T.seq ?_|refine T.block ?_|refine T.skip ?_
  refine T.dr (α:=Nat×List aF×List (List CV)) [2,3,5,6] (fun x=>[(4,.b false),(9,.c (.own 0 x.1)),(10,.i x.1)]) (fun _=>[]) (fun x=>x.2.2) (fun x _=>[{sz:=2,dE:=25,rows:=x.2.1.map b5,wr:=true}]) (fun x=>ls.length+1-x.1) (fun x=>x.1<=ls.length/\x.2.1.length=x.1/\ze B K x.2.1 (ls.drop x.1)=R) (by simp;rfl) (fun x hx=>?_) (0,[],[]) ⟨by simp,rfl,by simp[ze,hR]⟩ (by simp) (by simp) (by simp);obtain⟨j,Ts,Gb⟩:=x;obtain⟨hj,EC,dJ⟩:=hx;dsimp only at hj EC dJ⊢;simp only[gI,List.set_cons_zero,List.set_cons_succ,List.cons_append,List.nil_append,adV];by_cases ax:j<ls.length
  ·obtain⟨w,ht⟩:=bz ax;have eJ:w∈ls:=List.mem_of_getElem? ht;have bg:ls[j]=w:=by rw[List.getElem?_eq_getElem ax]at ht;exact Option.some.inj ht
   have iY:ls.drop j=w::ls.drop (j+1):=by rw[List.drop_eq_getElem_cons ax,bg]
   have hs:=kst w eJ;rw[iY,Dz]at dJ;cases hT:eO B K 4 w with
   |none=>
    rw[hT]at dJ hs;simp only at dJ;subst dJ;simp only[iC,adU,adS,adR]at hs⊢;clear KS h1 h2 hA kst;repeat' first|((first|refine ab (hK _ ?_)|refine bm (hK _ ?_));clear hK K)|((first|refine ae ?_|refine bF ?_|(refine aa ?_ (hs) ?_;(focus(solve|simp[ax,bg,an w]))));simp[ax,bg,an w];(try simp(disch:=omega)only[wrap64]);(try(refine gen2 ?_ ?_<;>intro hq<;>try simp[ax,bg,an w]at hq)))|(refine T.ret (az.aZ (Or.inr rfl) ?_)<;>simp[aE,Tryz.results26,c5,aX]<;>omega)|refine T.pN (id:=11) mixed (fun _=>false) [10,11] [0,2,4,5,6] 11 [] (by kernel_rfl) fun K hK=>?_|(refine⟨?_,?_⟩;(focus(intros;refine aa ?_ (hs) ?_;(focus(solve|simp[ax,bg,an w]));simp;done)))|refine T.r0 fun K hK=>?_|refine T.ct rfl ?_|refine T.seq ?_|refine T.block ?_|refine T.skip ?_
   |some T0=>
    rw[hT]at dJ hs;simp only at dJ;simp only[iC]at hs;clear KS h1 h2 hA kst;repeat' first|((first|refine ab (hK _ ?_)|refine bm (hK _ ?_));clear hK K)|((first|refine ae ?_|refine bF ?_|(refine aa ?_ (hs) ?_;(focus(solve|simp[ax,bg,an w,aN T0,EC]))));simp[ax,bg,an w,aN T0,EC];(try simp(disch:=omega)only[wrap64]);(try(refine gen2 ?_ ?_<;>intro hq<;>try simp[ax,bg,an w,aN T0,EC]at hq)))|(refine⟨by omega,by omega,?_⟩)|(refine⟨(j+1,Ts++[T0],_),by dsimp only;omega,⟨by omega,by simp[EC],dJ⟩,rfl,?_,?_⟩<;>simp(disch:=omega) [wrap64,aN T0])|refine T.pN (id:=11) mixed (fun _=>false) [10,11] [0,2,4,5,6] 11 [] (by kernel_rfl) fun K hK=>?_|(refine⟨?_,?_⟩;(focus(intros;refine aa ?_ (hs) ?_;(focus(solve|simp[ax,bg,an w,aN T0,EC]));simp;done)))|refine T.r0 fun K hK=>?_|refine T.r1 fun K hK=>?_|refine T.ct rfl ?_|refine T.cf rfl ?_|refine T.seq ?_|refine T.block ?_|refine T.skip ?_
  ·have iP:j=ls.length:=by omega
   subst iP;rw[List.drop_length]at dJ;simp only[ze,l3,adT,adV]at dJ;obtain⟨yS,oA⟩:=KS Ts dJ.symm;subst dJ;simp only[Option.bind_some];have R0:jY 14 12 b:=RZ▸kX;have OT:aV b=true:=gi.2 ⟨kX,by omega⟩;have Tl:nC b Ts=some (cq b Ts):=by
    rw[nC,if_pos];simp only[Bool.and_eq_true,decide_eq_true_eq,List.all_eq_true];exact⟨⟨OT,by rw[yS,x8]⟩,fun T hT=>oA T hT⟩
   have kw:=ym b Ts (by have:=R0.small;subst RZ;omega) (fun T hT=>by have:=dZ (oA T hT);omega) (by omega);rw[Tl]at kw;have gQ:fa (cq b Ts)<=1073741824:=by
    obtain⟨q1,q2⟩:=R0.cq (ts:=Ts) oA;have:=q1.small;subst RZ;omega
   have kt:=C4 (cq b Ts) (by omega);have Ip:cS [] (cq b Ts)=if aV (cq b Ts)=true then eQ [] (cq b Ts)else none:=by simp[cS,uZ]
   rw[<-Ip];clear Ip gQ oA KS kst wx Tl OT R0;generalize cq b Ts=out at*;generalize cS [] out=X at*;simp only[yO]at kw;cases X with
   |none=>
    simp only[iC,Option.map_none,adS,adR]at kt⊢;repeat' first|(refine ab (hK _ ?_);clear hK K)|((first|refine ae ?_|(refine aa ?_ (kw) ?_;(focus(solve|simp[ax,EC,au b,au out])))|refine aa rfl (kt) ?_);simp[ax,EC,au b,au out];(try(refine gen2 ?_ ?_<;>intro hq<;>try simp[ax,EC,au b,au out]at hq)))|(refine T.ret (az.aZ (Or.inr rfl) ?_)<;>simp[aE,Tryz.results26,c5,aX]<;>omega)|refine T.r0 fun K hK=>?_|refine T.ct rfl ?_|refine T.cf rfl ?_|refine T.seq ?_|refine T.exit ?_
   |some T0=>
    simp only[iC,adT,Option.getD_some,Option.isSome_some]at kt⊢;repeat' first|((first|refine ab (hK _ ?_)|refine bm (hK _ ?_));clear hK K)|((first|refine ae ?_|refine bF ?_|(refine aa ?_ (kw) ?_;(focus(solve|simp[ax,EC,au b,au out,aN T0])))|refine aa rfl (kt) ?_);simp[ax,EC,au b,au out,aN T0];(try(refine gen2 ?_ ?_<;>intro hq<;>try simp[ax,EC,au b,au out,aN T0]at hq)))|(refine T.ret (az.aZ (Or.inr rfl) ?_)<;>simp[aE,Tryz.results26,au out,aN T0]<;>omega)|refine T.pN (id:=19) mixed (fun _=>false) [2,3] [1] 3 [1] (by kernel_rfl) fun K hK=>?_|refine T.r0 fun K hK=>?_|refine T.cf rfl ?_|refine T.seq ?_|refine T.skip ?_|refine T.exit ?_
end Go.Proofs.YtloolmchekcmeaaGreat
