/- A part. -/
import Derived.Test.YtloolmchekcmeaaGreatXF30
set_option linter.unusedVariables false
set_option linter.unusedSimpArgs false
open Option renaming isSome_none->adB,getD_none->adC,map_some->adD,bind_none->adE
open List renaming append_nil->adF
namespace Go.Proofs.YtloolmchekcmeaaGreat
attribute [-simp] Go.Av.ch Go.Av.eY Go.Av.fw Go.Av.fi Go.Av.cY Go.Av.cb
open Go Go.Av
attribute [local irreducible] T ah TX EX LX bC dk bV ck gp aI.kind aI.kids ao.kind ao.name ao.num ao.ty ao.fr ao.label ao.kids
attribute [local simp] aJ al
set_option maxHeartbeats 16000000
set_option maxRecDepth 8000
attribute [local simp] Option.bind
def zp (B:List IT) (K:Nat) (Ts:List aI) (l:List IT):Option (List aI):=(mC B K l).map (Ts++·)
theorem DR {B:List IT} {K:Nat} {Ts:List aI} {t:IT} {l:List IT}:zp B K Ts (t::l)=match eZ B K 4 t with
  |none=>none
  |some T=>zp B K (Ts++[T]) l:=by
 simp only[zp,mC];cases eZ B K 4 t with
 |none=>rfl
 |some T=>cases mC B K l<;>simp
theorem oS (e:ao) (hn:eR e<=1073741824):ah Tryz.prog 26 [cM e] [] (.a8 [cM ((kR e).getD (ee,bk)).1,dE ((kR e).getD (ee,bk)).2,.b (kR e).isSome]) [] []:=by
 have h1:=iH e (by omega);cases hv:aQ e with
 |false=>
  rw[hv]at h1;simp only[kR,hv,Bool.false_eq_true,if_false,adC,adB];refine ah.ob Tryz.func26 Tryz.ntmps26 rfl ?_;repeat' first|(refine ab (hK _ ?_);clear hK K)|((first|refine ae ?_|refine aa rfl (h1) ?_);simp;(try(refine gen2 ?_ ?_<;>intro hq<;>try simp at hq)))|(refine T.ret (aB.a8 (Or.inr rfl) ?_)<;>simp[aA,Tryz.results26,ee,bk]<;>omega)|refine T.r0 fun K hK=>?_|refine T.ct rfl ?_|refine T.seq ?_
 |true=>
  rw[hv]at h1;have h2:=FR 14 e 12 (c6.1 hv).1 hn;rcases Aw hv with⟨k,B,ls,t,hw,hA⟩|⟨⟨k,hk⟩,B,ls,t,hA⟩
  rotate_left
  ·rw[rE]at hA;dsimp only at hA;simp only[kR,hv,if_true,pX hk,adE,adC,adB];refine ah.ob Tryz.func26 Tryz.ntmps26 rfl ?_;repeat' first|(refine ab (hK _ ?_);clear hK K)|((first|refine ae ?_|refine aa rfl (h1) ?_|refine aa rfl (h2) ?_|(refine aa ?_ (hA) ?_;(focus(solve|simp[al (mapM aM e)]))));simp[al (mapM aM e)];(try(refine gen2 ?_ ?_<;>intro hq<;>try simp[al (mapM aM e)]at hq)))|(refine T.ret (aB.a8 (Or.inr rfl) ?_)<;>simp[aA,Tryz.results26,ee,bk]<;>omega)|refine T.r0 fun K hK=>?_|refine T.ct rfl ?_|refine T.cf rfl ?_|refine T.seq ?_|refine T.skip ?_
  obtain⟨hi,IE,I9,ia,tA,sr,Pn⟩:=hw.ok;obtain⟨K,hK⟩:=hw.fuel;obtain⟨hb,jY,Mx,Po⟩:=iU hv;simp only[kR,hv,if_true,pW hw hK];obtain⟨R,hR⟩:∃R,R=mC B K ls:=⟨_,rfl⟩;have Lf:∀Ts,R=some Ts->Ts.length=ls.length/\∀T∈Ts,ak 4 T=true:=fun Ts h=>by
   have:=qo hi.ok.sc IE hK sr I9 (hR.symm.trans h);exact⟨by rw[this.1];simp,fun T hT=>(this.2 T hT).1⟩
  rw[<-hR];have kst:∀t∈ls,ah Tryz.prog 68 [ie B ls,jP t,.i 4] [] (.a8 (fY (eZ B K 4 t))) [] []:=fun t ht=>
   Au B ls hi.ok.sc IE (by omega) K hK 4 t (by omega) (sr t ht) (I9 t ht)
  rw[rE]at hA;dsimp only at hA;have Sh:ls.length<=1000000:=by omega
  generalize Ja:mapM aM e=b at*;clear hi IE I9 ia Pn hw;refine ah.ob Tryz.func26 Tryz.ntmps26 rfl ?_;repeat' first|(refine ab (hK _ ?_);clear hK K)|((first|refine ae ?_|refine aa rfl (h1) ?_|refine aa rfl (h2) ?_|(refine aa ?_ (hA) ?_;(focus(solve|simp[al b]))));simp[al b];(try(refine gen2 ?_ ?_<;>intro hq<;>try simp[al b]at hq)))|refine T.rs (id:=7) (fun i=>i==0) fun K hK=>?_|refine T.rs (id:=0) (fun _=>false) fun K hK=>?_|refine T.rs (id:=1) (fun _=>false) fun K hK=>?_|refine T.rs (id:=3) (fun _=>false) fun K hK=>?_|refine T.rs (id:=4) (fun _=>false) fun K hK=>?_|refine T.rs (id:=5) (fun _=>false) fun K hK=>?_|refine T.rs (id:=8) (fun _=>false) fun K hK=>?_|refine T.cf rfl ?_|refine T.seq ?_|refine T.block ?_|refine T.skip ?_
  refine T.dD (α:=Nat×List aI×List (List CV)) [2,3,5,6] (fun x=>[(4,.b false),(9,.c (.own 0 x.1)),(10,.i x.1)]) (fun _=>[]) (fun x=>x.2.2) (fun x _=>[{sz:=2,ev:=25,rows:=x.2.1.map ck,wr:=true}]) (fun x=>ls.length+1-x.1) (fun x=>x.1<=ls.length/\x.2.1.length=x.1/\zp B K x.2.1 (ls.drop x.1)=R) (by simp;rfl) (fun x hx=>?_) (0,[],[]) ⟨by simp,rfl,by simp[zp,hR]⟩ (by simp) (by simp) (by simp);obtain⟨j,Ts,Gb⟩:=x;obtain⟨hj,EM,dZ⟩:=hx;dsimp only at hj EM dZ⊢;simp only[gy,List.set_cons_zero,List.set_cons_succ,List.cons_append,List.nil_append,adF];by_cases ay:j<ls.length
  ·obtain⟨w,ht⟩:=bM ay;have eA:w∈ls:=List.mem_of_getElem? ht;have aX:ls[j]=w:=by rw[List.getElem?_eq_getElem ay]at ht;exact Option.some.inj ht
   have gz:ls.drop j=w::ls.drop (j+1):=by rw[List.drop_eq_getElem_cons ay,aX]
   have hs:=kst w eA;rw[gz,DR]at dZ;cases hT:eZ B K 4 w with
   |none=>
    rw[hT]at dZ hs;simp only at dZ;subst dZ;simp only[fY,adE,adC,adB]at hs⊢;clear Lf h1 h2 hA kst;repeat' first|((first|refine ab (hK _ ?_)|refine bj (hK _ ?_));clear hK K)|((first|refine ae ?_|refine bB ?_|(refine aa ?_ (hs) ?_;(focus(solve|simp[ay,aX,aq w]))));simp[ay,aX,aq w];(try simp(disch:=omega)only[wrap64]);(try(refine gen2 ?_ ?_<;>intro hq<;>try simp[ay,aX,aq w]at hq)))|(refine T.ret (aB.a8 (Or.inr rfl) ?_)<;>simp[aA,Tryz.results26,ee,bk]<;>omega)|refine T.mL (id:=11) mixed (fun _=>false) [10,11] [0,2,4,5,6] 11 [] (by kernel_rfl) fun K hK=>?_|(refine⟨?_,?_⟩;(focus(intros;refine aa ?_ (hs) ?_;(focus(solve|simp[ay,aX,aq w]));simp;done)))|refine T.r0 fun K hK=>?_|refine T.ct rfl ?_|refine T.seq ?_|refine T.block ?_|refine T.skip ?_
   |some T0=>
    rw[hT]at dZ hs;simp only at dZ;simp only[fY]at hs;clear Lf h1 h2 hA kst;repeat' first|((first|refine ab (hK _ ?_)|refine bj (hK _ ?_));clear hK K)|((first|refine ae ?_|refine bB ?_|(refine aa ?_ (hs) ?_;(focus(solve|simp[ay,aX,aq w,aJ T0,EM]))));simp[ay,aX,aq w,aJ T0,EM];(try simp(disch:=omega)only[wrap64]);(try(refine gen2 ?_ ?_<;>intro hq<;>try simp[ay,aX,aq w,aJ T0,EM]at hq)))|(refine⟨by omega,by omega,?_⟩)|(refine⟨(j+1,Ts++[T0],_),by dsimp only;omega,⟨by omega,by simp[EM],dZ⟩,rfl,?_,?_⟩<;>simp(disch:=omega) [wrap64,aJ T0])|refine T.mL (id:=11) mixed (fun _=>false) [10,11] [0,2,4,5,6] 11 [] (by kernel_rfl) fun K hK=>?_|(refine⟨?_,?_⟩;(focus(intros;refine aa ?_ (hs) ?_;(focus(solve|simp[ay,aX,aq w,aJ T0,EM]));simp;done)))|refine T.r0 fun K hK=>?_|refine T.r1 fun K hK=>?_|refine T.ct rfl ?_|refine T.cf rfl ?_|refine T.seq ?_|refine T.block ?_|refine T.skip ?_
  ·have jk:j=ls.length:=by omega
   subst jk;rw[List.drop_length]at dZ;simp only[zp,mC,adD,adF]at dZ;obtain⟨Hv,o4⟩:=Lf Ts dZ.symm;subst dZ;simp only[Option.bind_some];have yW:kG 14 12 b:=Ja▸jY;have Pp:aQ b=true:=c6.2 ⟨jY,by omega⟩;have TM:gK b Ts=some (bG b Ts):=by
    rw[gK,if_pos];simp only[Bool.and_eq_true,decide_eq_true_eq,List.all_eq_true];exact⟨⟨Pp,by rw[Hv,tA]⟩,fun T hT=>o4 T hT⟩
   have kw:=qS b Ts (by have:=yW.small;subst Ja;omega) (fun T hT=>by have:=dc (o4 T hT);omega) (by omega);rw[TM]at kw;have fz:eR (bG b Ts)<=1073741824:=by
    obtain⟨q1,q2⟩:=yW.bG (ts:=Ts) o4;have:=q1.small;subst Ja;omega
   have kt:=C5 (bG b Ts) (by omega);have IF:b5 [] (bG b Ts)=if aQ (bG b Ts)=true then eM [] (bG b Ts)else none:=by simp[b5,rf]
   rw[<-IF];clear IF fz o4 Lf kst sr TM Pp yW;generalize bG b Ts=out at*;generalize b5 [] out=X at*;simp only[uT]at kw;cases X with
   |none=>
    simp only[fY,Option.map_none,adC,adB]at kt⊢;repeat' first|(refine ab (hK _ ?_);clear hK K)|((first|refine ae ?_|(refine aa ?_ (kw) ?_;(focus(solve|simp[ay,EM,al b,al out])))|refine aa rfl (kt) ?_);simp[ay,EM,al b,al out];(try(refine gen2 ?_ ?_<;>intro hq<;>try simp[ay,EM,al b,al out]at hq)))|(refine T.ret (aB.a8 (Or.inr rfl) ?_)<;>simp[aA,Tryz.results26,ee,bk]<;>omega)|refine T.r0 fun K hK=>?_|refine T.ct rfl ?_|refine T.cf rfl ?_|refine T.seq ?_|refine T.exit ?_
   |some T0=>
    simp only[fY,adD,Option.getD_some,Option.isSome_some]at kt⊢;repeat' first|((first|refine ab (hK _ ?_)|refine bj (hK _ ?_));clear hK K)|((first|refine ae ?_|refine bB ?_|(refine aa ?_ (kw) ?_;(focus(solve|simp[ay,EM,al b,al out,aJ T0])))|refine aa rfl (kt) ?_);simp[ay,EM,al b,al out,aJ T0];(try(refine gen2 ?_ ?_<;>intro hq<;>try simp[ay,EM,al b,al out,aJ T0]at hq)))|(refine T.ret (aB.a8 (Or.inr rfl) ?_)<;>simp[aA,Tryz.results26,al out,aJ T0]<;>omega)|refine T.mL (id:=19) mixed (fun _=>false) [2,3] [1] 3 [1] (by kernel_rfl) fun K hK=>?_|refine T.r0 fun K hK=>?_|refine T.cf rfl ?_|refine T.seq ?_|refine T.skip ?_|refine T.exit ?_
end Go.Proofs.YtloolmchekcmeaaGreat
