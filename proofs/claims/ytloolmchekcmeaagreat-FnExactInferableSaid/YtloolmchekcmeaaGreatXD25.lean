/- A part. -/
import Derived.Test.YtloolmchekcmeaaGreatXD24
set_option linter.unusedVariables false
set_option linter.unusedSimpArgs false
open List renaming length_append->ac0,take_of_length_le->ac1,nil_append->ac2,take_length->ac3,set_cons_zero->ac4,set_cons_succ->ac5,mem_of_mem_drop->ac6,mem_of_getElem?->ac7,getElem?_eq_getElem->ac8,drop_succ_cons->ac9,drop_eq_getElem_cons->ada,drop_drop->adb,cons_append->ade
namespace Go.Proofs.YtloolmchekcmeaaGreat
attribute [-simp] Go.Av.bP Go.Av.eu Go.Av.eN Go.Av.eG Go.Av.b8 Go.Av.bN Go.Av.IT.gK Go.Av.IT.eH Go.Av.IT.ey Go.Av.IT.gj Go.Av.IT.gL Go.Av.IT.gM Go.Av.IT.gN Go.Av.IT.gO Go.Av.IT.e8 Go.Av.fh
open Go Go.Av
attribute [local irreducible] T ah TX EX LX dA dB bL b5 eK aF.kind aF.kids ak.kind ak.name ak.num ak.ty ak.fr ak.label ak.kids
attribute [local simp] aN au
set_option maxHeartbeats 16000000
set_option maxRecDepth 8000
attribute [local simp] Option.bind
theorem B8 (e:ak) (hh:bI e.kind=true) (t0:aF) (h0:dF t0<=1099511627776) (ts:List aF) (hn:fa e<=1099511627776) (b6:∀t∈ts,dF t<=1099511627776) (hl:(aC e.kids).length<=ts.length) (rA:ts.length<=1099511627776)
  (ih:∀u∈e.kids,∀(ts:List aF),(∀t∈ts,dF t<=1099511627776)->(aK u).length<=ts.length->ts.length<=1099511627776->ah Tryz.prog 57 [cE u,.l (ts.map b5)] [] (.aZ [cE (cq u ts),.l ((ts.drop (aK u).length).map b5)]) [] []):
  ah Tryz.prog 57 [cE e,.l (((t0::ts)).map b5)] [] (.aZ [cE (.mk e.kind e.name e.num t0 e.fr e.label (dP e.kids ts)),.l ((ts.drop (aC e.kids).length).map b5)]) [] []:=by
 obtain⟨kJ,qD,CR,uw⟩:=cU hn;have h1:=fE t0 h0;have h2:=w6 e;rw[hh]at h2;refine ah.ob Tryz.func57 Tryz.ntmps57 rfl ?_;repeat' first|((first|refine ab (hK _ ?_)|refine bm (hK _ ?_));clear hK K)|((first|refine ae ?_|refine bF ?_|refine aa rfl (h2) ?_|refine aa rfl (h1) ?_);simp;(try(refine gen2 ?_ ?_<;>intro hq<;>try simp at hq)))|refine T.Ns (id:=4) mixed (fun _=>false) [7] [5] 8 [2] (by kernel_rfl) fun K hK=>?_|refine T.r0 fun K hK=>?_|(refine⟨by omega,?_⟩)|refine T.ct rfl ?_|refine T.seq ?_|refine T.block ?_
 refine T.dK 2 8 9 28 (row:=[.d (.i e.kind),.d (.str e.name),.d (.i e.num),.d (.i (t0).kind),.d (.sl ((t0).kids.map b5)),.d (.i e.fr.kind),.d (.sl (e.fr.kids.map b5)),.d (.i e.label),.nil]) rfl rfl ?_
 refine T.dr (α:=Nat×List (List CV)) [4,5,6,23,24] (fun x=>[(1,.l ((ts.drop (aC (e.kids.take x.1)).length).map b5)),(25,.i x.1)]) (fun x=>[(2,[.d (.i e.kind),.d (.str e.name),.d (.i e.num),.d (.i (t0).kind),.d (.sl ((t0).kids.map b5)),.d (.i e.fr.kind),.d (.sl (e.fr.kids.map b5)),.d (.i e.label),.own 0 x.1])]) (fun x=>x.2)
  (fun x _=>[{sz:=9,dE:=28,rows:=((dP e.kids ts).take x.1).map eK,wr:=true}]) (fun x=>e.kids.length+1-x.1) (fun x=>x.1<=e.kids.length) (by simp;rfl) (fun x hx=>?_) (0,[]) (by simp) (by simp) (by simp) (by simp[aC,ac1])
 obtain⟨p,G⟩:=x;dsimp only at hx⊢;simp only[gI,ac4,ac5,ade,ac2];have vB:(dP e.kids ts).length=e.kids.length:=kL _ _;by_cases ax:p<e.kids.length
 ·obtain⟨u,ht⟩:=bz ax;have eJ:u∈e.kids:=ac7 ht;have bg:e.kids[p]=u:=by rw[ac8 ax]at ht;exact Option.some.inj ht
  have iY:e.kids.drop p=u::e.kids.drop (p+1):=by rw[ada ax,bg]
  have hle:=iA e.kids (p+1);rw[cA ht,ac0]at hle;have hu:=ih u eJ (ts.drop (aC (e.kids.take p)).length) (fun t h=>b6 t (ac6 h)) (by simp;omega) (by simp;omega);have Gg:=la ts ht;have qA:ts.drop (aC (e.kids.take (p+1))).length=(ts.drop (aC (e.kids.take p)).length).drop (aK u).length:=by rw[cA ht,adb,ac0]
  generalize (ts.drop (aC (e.kids.take p)).length)=T1 at*;generalize (cq u T1)=wu at*;generalize (dP e.kids ts)=Z at*;generalize T1.drop (aK u).length=T2 at*;have fK:min p e.kids.length=p:=by omega
  repeat' first|(refine ab (hK _ ?_);clear hK K)|((first|refine ae ?_|refine aa rfl (hu) ?_);simp[ax,bg,fK,vB];(try simp(disch:=omega)only[wrap64]);(try(refine gen2 ?_ ?_<;>intro hq<;>try simp[ax,bg,fK,vB]at hq)))|(refine⟨by omega,by omega,?_⟩)|(refine⟨(p+1,_),by dsimp only;omega,by dsimp only;omega,rfl,?_,?_⟩<;>simp(disch:=omega) [wrap64,Gg,qA,au])|refine T.r0 fun K hK=>?_|refine T.r1 fun K hK=>?_|refine T.ct rfl ?_|refine T.seq ?_|refine T.block ?_|refine T.skip ?_
 ·have eb:p=e.kids.length:=by omega
  subst eb;rw[ac3,ac1 (by omega)];repeat' first|(refine ab (hK _ ?_);clear hK K)|(refine ae ?_;simp[ax];(try(refine gen2 ?_ ?_<;>intro hq<;>try simp[ax]at hq)))|(refine T.ret (az.aZ (Or.inr rfl) ?_)<;>simp[aE,Tryz.results57,au,vB]<;>omega)|refine T.r0 fun K hK=>?_|refine T.cf rfl ?_|refine T.seq ?_|refine T.exit ?_
theorem Dt (e:ak) (hh:bI e.kind=false) (t0:aF) (h0:dF t0<=1099511627776) (ts:List aF) (hn:fa e<=1099511627776) (b6:∀t∈ts,dF t<=1099511627776) (hl:(aC e.kids).length<=ts.length) (rA:ts.length<=1099511627776)
  (ih:∀u∈e.kids,∀(ts:List aF),(∀t∈ts,dF t<=1099511627776)->(aK u).length<=ts.length->ts.length<=1099511627776->ah Tryz.prog 57 [cE u,.l (ts.map b5)] [] (.aZ [cE (cq u ts),.l ((ts.drop (aK u).length).map b5)]) [] []):
  ah Tryz.prog 57 [cE e,.l ((ts).map b5)] [] (.aZ [cE (.mk e.kind e.name e.num e.ty e.fr e.label (dP e.kids ts)),.l ((ts.drop (aC e.kids).length).map b5)]) [] []:=by
 obtain⟨kJ,qD,CR,uw⟩:=cU hn;have h1:=fE t0 h0;have h2:=w6 e;rw[hh]at h2;refine ah.ob Tryz.func57 Tryz.ntmps57 rfl ?_;repeat' first|(refine ab (hK _ ?_);clear hK K)|((first|refine ae ?_|refine aa rfl (h2) ?_);simp;(try(refine gen2 ?_ ?_<;>intro hq<;>try simp at hq)))|refine T.r0 fun K hK=>?_|refine T.cf rfl ?_|refine T.seq ?_|refine T.block ?_|refine T.skip ?_
 refine T.dK 2 8 9 28 (row:=[.d (.i e.kind),.d (.str e.name),.d (.i e.num),.d (.i (e.ty).kind),.d (.sl ((e.ty).kids.map b5)),.d (.i e.fr.kind),.d (.sl (e.fr.kids.map b5)),.d (.i e.label),.nil]) rfl rfl ?_
 refine T.dr (α:=Nat×List (List CV)) [4,5,6,23,24] (fun x=>[(1,.l ((ts.drop (aC (e.kids.take x.1)).length).map b5)),(25,.i x.1)]) (fun x=>[(2,[.d (.i e.kind),.d (.str e.name),.d (.i e.num),.d (.i (e.ty).kind),.d (.sl ((e.ty).kids.map b5)),.d (.i e.fr.kind),.d (.sl (e.fr.kids.map b5)),.d (.i e.label),.own 0 x.1])]) (fun x=>x.2)
  (fun x _=>[{sz:=9,dE:=28,rows:=((dP e.kids ts).take x.1).map eK,wr:=true}]) (fun x=>e.kids.length+1-x.1) (fun x=>x.1<=e.kids.length) (by simp;rfl) (fun x hx=>?_) (0,[]) (by simp) (by simp) (by simp) (by simp[aC,ac1])
 obtain⟨p,G⟩:=x;dsimp only at hx⊢;simp only[gI,ac4,ac5,ade,ac2];have vB:(dP e.kids ts).length=e.kids.length:=kL _ _;by_cases ax:p<e.kids.length
 ·obtain⟨u,ht⟩:=bz ax;have eJ:u∈e.kids:=ac7 ht;have bg:e.kids[p]=u:=by rw[ac8 ax]at ht;exact Option.some.inj ht
  have iY:e.kids.drop p=u::e.kids.drop (p+1):=by rw[ada ax,bg]
  have hle:=iA e.kids (p+1);rw[cA ht,ac0]at hle;have hu:=ih u eJ (ts.drop (aC (e.kids.take p)).length) (fun t h=>b6 t (ac6 h)) (by simp;omega) (by simp;omega);have Gg:=la ts ht;have qA:ts.drop (aC (e.kids.take (p+1))).length=(ts.drop (aC (e.kids.take p)).length).drop (aK u).length:=by rw[cA ht,adb,ac0]
  generalize (ts.drop (aC (e.kids.take p)).length)=T1 at*;generalize (cq u T1)=wu at*;generalize (dP e.kids ts)=Z at*;generalize T1.drop (aK u).length=T2 at*;have fK:min p e.kids.length=p:=by omega
  repeat' first|(refine ab (hK _ ?_);clear hK K)|((first|refine ae ?_|refine aa rfl (hu) ?_);simp[ax,bg,fK,vB];(try simp(disch:=omega)only[wrap64]);(try(refine gen2 ?_ ?_<;>intro hq<;>try simp[ax,bg,fK,vB]at hq)))|(refine⟨by omega,by omega,?_⟩)|(refine⟨(p+1,_),by dsimp only;omega,by dsimp only;omega,rfl,?_,?_⟩<;>simp(disch:=omega) [wrap64,Gg,qA,au])|refine T.r0 fun K hK=>?_|refine T.r1 fun K hK=>?_|refine T.ct rfl ?_|refine T.seq ?_|refine T.block ?_|refine T.skip ?_
 ·have eb:p=e.kids.length:=by omega
  subst eb;rw[ac3,ac1 (by omega)];repeat' first|(refine ab (hK _ ?_);clear hK K)|(refine ae ?_;simp[ax];(try(refine gen2 ?_ ?_<;>intro hq<;>try simp[ax]at hq)))|(refine T.ret (az.aZ (Or.inr rfl) ?_)<;>simp[aE,Tryz.results57,au,vB]<;>omega)|refine T.r0 fun K hK=>?_|refine T.cf rfl ?_|refine T.seq ?_|refine T.exit ?_
theorem Du:∀(e:ak),fa e<=1099511627776->∀(ts:List aF),(∀t∈ts,dF t<=1099511627776)->(aK e).length<=ts.length->ts.length<=1099511627776->ah Tryz.prog 57 [cE e,.l (ts.map b5)] [] (.aZ [cE (cq e ts),.l ((ts.drop (aK e).length).map b5)]) [] []:=by
 intro e;induction e using ak.ind with
 |h e ih=>
  intro hn ts b6 hl rA;obtain⟨_,_,_,uw⟩:=cU hn;have ih':=fun u hu=>ih u hu (uw u hu)
  rw[nB]at hl⊢;rw[yL];cases hh:bI e.kind with
  |true=>
   rw[hh]at hl;simp only[if_true,ac0,List.length_singleton]at hl⊢
   match ts,hl,b6,rA with
   |t0::r,hl,b6,rA=>
    simp only[List.length_cons]at hl rA;have:=B8 e hh t0 (b6 t0 (by simp)) r hn (fun t h=>b6 t (by simp[h])) (by omega) (by omega) ih';rw[Nat.add_comm 1,ac9,ac9,List.drop_zero,List.headD_cons];exact this
   |[],hl,_,_=>simp at hl
  |false=>
   rw[hh]at hl;simp only[Bool.false_eq_true,if_false,ac2]at hl⊢;exact Dt e hh aX (by simp[dX,aL]) ts hn b6 hl rA ih'
end Go.Proofs.YtloolmchekcmeaaGreat
