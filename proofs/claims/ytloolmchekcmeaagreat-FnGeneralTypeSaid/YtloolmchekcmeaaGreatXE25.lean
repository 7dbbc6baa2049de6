/- A part. -/
import Derived.Test.YtloolmchekcmeaaGreatXE24
set_option linter.unusedVariables false
set_option linter.unusedSimpArgs false
open List renaming length_append->acM,take_of_length_le->acN,nil_append->acO,take_length->acP,set_cons_zero->acQ,set_cons_succ->acR,mem_of_mem_drop->acS,mem_of_getElem?->acT,getElem?_eq_getElem->acU,drop_succ_cons->acV,drop_eq_getElem_cons->acW,drop_drop->acX,cons_append->acY
namespace Go.Proofs.YtloolmchekcmeaaGreat
attribute [-simp] Go.Av.cb Go.Av.eL Go.Av.fj Go.Av.fa Go.Av.cT Go.Av.b9 Go.Av.IT.og Go.Av.IT.gU Go.Av.IT.gV Go.Av.IT.mA Go.Av.IT.oh Go.Av.IT.om Go.Av.IT.oo Go.Av.IT.ot Go.Av.IT.jF Go.Av.kY
open Go Go.Av
attribute [local irreducible] T ah TX EX LX bw dh bR cA gA aE.kind aE.kids ao.kind ao.name ao.num ao.ty ao.fr ao.label ao.kids
attribute [local simp] aQ ax
set_option maxHeartbeats 16000000
set_option maxRecDepth 8000
attribute [local simp] Option.bind
theorem Cv (e:ao) (hh:bD e.kind=true) (t0:aE) (h0:gl t0<=1099511627776) (ts:List aE) (hn:fy e<=1099511627776) (b7:∀t∈ts,gl t<=1099511627776) (hl:(aC e.kids).length<=ts.length) (xB:ts.length<=1099511627776)
  (ih:∀u∈e.kids,∀(ts:List aE),(∀t∈ts,gl t<=1099511627776)->(aH u).length<=ts.length->ts.length<=1099511627776->ah Tryz.prog 57 [c6 u,.l (ts.map cA)] [] (.bq [c6 (bF u ts),.l ((ts.drop (aH u).length).map cA)]) [] []):
  ah Tryz.prog 57 [c6 e,.l (((t0::ts)).map cA)] [] (.bq [c6 (.mk e.kind e.name e.num t0 e.fr e.label (c9 e.kids ts)),.l ((ts.drop (aC e.kids).length).map cA)]) [] []:=by
 obtain⟨kp,qd,CP,tc⟩:=c4 hn;have h1:=fK t0 h0;have h2:=xC e;rw[hh]at h2;refine ah.ob Tryz.func57 Tryz.ntmps57 rfl ?_;repeat' first|((first|refine ab (hK _ ?_)|refine bz (hK _ ?_));clear hK K)|((first|refine af ?_|refine bO ?_|refine aa rfl (h2) ?_|refine aa rfl (h1) ?_);simp;(try(refine gen2 ?_ ?_<;>intro hq<;>try simp at hq)))|refine T.Df (id:=4) mixed (fun _=>false) [7] [5] 8 [2] (by kernel_rfl) fun K hK=>?_|refine T.r0 fun K hK=>?_|(refine⟨by omega,?_⟩)|refine T.ct rfl ?_|refine T.seq ?_|refine T.block ?_
 refine T.dM 2 8 9 28 (row:=[.d (.i e.kind),.d (.str e.name),.d (.i e.num),.d (.i (t0).kind),.d (.sl ((t0).kids.map cA)),.d (.i e.fr.kind),.d (.sl (e.fr.kids.map cA)),.d (.i e.label),.nil]) rfl rfl ?_
 refine T.dA (α:=Nat×List (List CV)) [4,5,6,23,24] (fun x=>[(1,.l ((ts.drop (aC (e.kids.take x.1)).length).map cA)),(25,.i x.1)]) (fun x=>[(2,[.d (.i e.kind),.d (.str e.name),.d (.i e.num),.d (.i (t0).kind),.d (.sl ((t0).kids.map cA)),.d (.i e.fr.kind),.d (.sl (e.fr.kids.map cA)),.d (.i e.label),.own 0 x.1])]) (fun x=>x.2)
  (fun x _=>[{sz:=9,eJ:=28,rows:=((c9 e.kids ts).take x.1).map gA,wr:=true}]) (fun x=>e.kids.length+1-x.1) (fun x=>x.1<=e.kids.length) (by simp;rfl) (fun x hx=>?_) (0,[]) (by simp) (by simp) (by simp) (by simp[aC,acN])
 obtain⟨p,G⟩:=x;dsimp only at hx⊢;simp only[gi,acQ,acR,acY,acO];have wi:(c9 e.kids ts).length=e.kids.length:=lf _ _;by_cases az:p<e.kids.length
 ·obtain⟨u,ht⟩:=bX az;have fz:u∈e.kids:=acT ht;have a8:e.kids[p]=u:=by rw[acU az]at ht;exact Option.some.inj ht
  have jb:e.kids.drop p=u::e.kids.drop (p+1):=by rw[acW az,a8]
  have hle:=iO e.kids (p+1);rw[cK ht,acM]at hle;have hu:=ih u fz (ts.drop (aC (e.kids.take p)).length) (fun t h=>b7 t (acS h)) (by simp;omega) (by simp;omega);have zD:=ly ts ht;have qe:ts.drop (aC (e.kids.take (p+1))).length=(ts.drop (aC (e.kids.take p)).length).drop (aH u).length:=by rw[cK ht,acX,acM]
  generalize (ts.drop (aC (e.kids.take p)).length)=T1 at*;generalize (bF u T1)=wu at*;generalize (c9 e.kids ts)=Z at*;generalize T1.drop (aH u).length=T2 at*;have eg:min p e.kids.length=p:=by omega
  repeat' first|(refine ab (hK _ ?_);clear hK K)|((first|refine af ?_|refine aa rfl (hu) ?_);simp[az,a8,eg,wi];(try simp(disch:=omega)only[wrap64]);(try(refine gen2 ?_ ?_<;>intro hq<;>try simp[az,a8,eg,wi]at hq)))|(refine⟨by omega,by omega,?_⟩)|(refine⟨(p+1,_),by dsimp only;omega,by dsimp only;omega,rfl,?_,?_⟩<;>simp(disch:=omega) [wrap64,zD,qe,ax])|refine T.r0 fun K hK=>?_|refine T.r1 fun K hK=>?_|refine T.ct rfl ?_|refine T.seq ?_|refine T.block ?_|refine T.skip ?_
 ·have fX:p=e.kids.length:=by omega
  subst fX;rw[acP,acN (by omega)];repeat' first|(refine ab (hK _ ?_);clear hK K)|(refine af ?_;simp[az];(try(refine gen2 ?_ ?_<;>intro hq<;>try simp[az]at hq)))|(refine T.ret (aD.bq (Or.inr rfl) ?_)<;>simp[aF,Tryz.results57,ax,wi]<;>omega)|refine T.r0 fun K hK=>?_|refine T.cf rfl ?_|refine T.seq ?_|refine T.exit ?_
theorem D4 (e:ao) (hh:bD e.kind=false) (t0:aE) (h0:gl t0<=1099511627776) (ts:List aE) (hn:fy e<=1099511627776) (b7:∀t∈ts,gl t<=1099511627776) (hl:(aC e.kids).length<=ts.length) (xB:ts.length<=1099511627776)
  (ih:∀u∈e.kids,∀(ts:List aE),(∀t∈ts,gl t<=1099511627776)->(aH u).length<=ts.length->ts.length<=1099511627776->ah Tryz.prog 57 [c6 u,.l (ts.map cA)] [] (.bq [c6 (bF u ts),.l ((ts.drop (aH u).length).map cA)]) [] []):
  ah Tryz.prog 57 [c6 e,.l ((ts).map cA)] [] (.bq [c6 (.mk e.kind e.name e.num e.ty e.fr e.label (c9 e.kids ts)),.l ((ts.drop (aC e.kids).length).map cA)]) [] []:=by
 obtain⟨kp,qd,CP,tc⟩:=c4 hn;have h1:=fK t0 h0;have h2:=xC e;rw[hh]at h2;refine ah.ob Tryz.func57 Tryz.ntmps57 rfl ?_;repeat' first|(refine ab (hK _ ?_);clear hK K)|((first|refine af ?_|refine aa rfl (h2) ?_);simp;(try(refine gen2 ?_ ?_<;>intro hq<;>try simp at hq)))|refine T.r0 fun K hK=>?_|refine T.cf rfl ?_|refine T.seq ?_|refine T.block ?_|refine T.skip ?_
 refine T.dM 2 8 9 28 (row:=[.d (.i e.kind),.d (.str e.name),.d (.i e.num),.d (.i (e.ty).kind),.d (.sl ((e.ty).kids.map cA)),.d (.i e.fr.kind),.d (.sl (e.fr.kids.map cA)),.d (.i e.label),.nil]) rfl rfl ?_
 refine T.dA (α:=Nat×List (List CV)) [4,5,6,23,24] (fun x=>[(1,.l ((ts.drop (aC (e.kids.take x.1)).length).map cA)),(25,.i x.1)]) (fun x=>[(2,[.d (.i e.kind),.d (.str e.name),.d (.i e.num),.d (.i (e.ty).kind),.d (.sl ((e.ty).kids.map cA)),.d (.i e.fr.kind),.d (.sl (e.fr.kids.map cA)),.d (.i e.label),.own 0 x.1])]) (fun x=>x.2)
  (fun x _=>[{sz:=9,eJ:=28,rows:=((c9 e.kids ts).take x.1).map gA,wr:=true}]) (fun x=>e.kids.length+1-x.1) (fun x=>x.1<=e.kids.length) (by simp;rfl) (fun x hx=>?_) (0,[]) (by simp) (by simp) (by simp) (by simp[aC,acN])
 obtain⟨p,G⟩:=x;dsimp only at hx⊢;simp only[gi,acQ,acR,acY,acO];have wi:(c9 e.kids ts).length=e.kids.length:=lf _ _;by_cases az:p<e.kids.length
 ·obtain⟨u,ht⟩:=bX az;have fz:u∈e.kids:=acT ht;have a8:e.kids[p]=u:=by rw[acU az]at ht;exact Option.some.inj ht
  have jb:e.kids.drop p=u::e.kids.drop (p+1):=by rw[acW az,a8]
  have hle:=iO e.kids (p+1);rw[cK ht,acM]at hle;have hu:=ih u fz (ts.drop (aC (e.kids.take p)).length) (fun t h=>b7 t (acS h)) (by simp;omega) (by simp;omega);have zD:=ly ts ht;have qe:ts.drop (aC (e.kids.take (p+1))).length=(ts.drop (aC (e.kids.take p)).length).drop (aH u).length:=by rw[cK ht,acX,acM]
  generalize (ts.drop (aC (e.kids.take p)).length)=T1 at*;generalize (bF u T1)=wu at*;generalize (c9 e.kids ts)=Z at*;generalize T1.drop (aH u).length=T2 at*;have eg:min p e.kids.length=p:=by omega
  repeat' first|(refine ab (hK _ ?_);clear hK K)|((first|refine af ?_|refine aa rfl (hu) ?_);simp[az,a8,eg,wi];(try simp(disch:=omega)only[wrap64]);(try(refine gen2 ?_ ?_<;>intro hq<;>try simp[az,a8,eg,wi]at hq)))|(refine⟨by omega,by omega,?_⟩)|(refine⟨(p+1,_),by dsimp only;omega,by dsimp only;omega,rfl,?_,?_⟩<;>simp(disch:=omega) [wrap64,zD,qe,ax])|refine T.r0 fun K hK=>?_|refine T.r1 fun K hK=>?_|refine T.ct rfl ?_|refine T.seq ?_|refine T.block ?_|refine T.skip ?_
 ·have fX:p=e.kids.length:=by omega
  subst fX;rw[acP,acN (by omega)];repeat' first|(refine ab (hK _ ?_);clear hK K)|(refine af ?_;simp[az];(try(refine gen2 ?_ ?_<;>intro hq<;>try simp[az]at hq)))|(refine T.ret (aD.bq (Or.inr rfl) ?_)<;>simp[aF,Tryz.results57,ax,wi]<;>omega)|refine T.r0 fun K hK=>?_|refine T.cf rfl ?_|refine T.seq ?_|refine T.exit ?_
theorem D5:∀(e:ao),fy e<=1099511627776->∀(ts:List aE),(∀t∈ts,gl t<=1099511627776)->(aH e).length<=ts.length->ts.length<=1099511627776->ah Tryz.prog 57 [c6 e,.l (ts.map cA)] [] (.bq [c6 (bF e ts),.l ((ts.drop (aH e).length).map cA)]) [] []:=by
 intro e;induction e using ao.ind with
 |h e ih=>
  intro hn ts b7 hl xB;obtain⟨_,_,_,tc⟩:=c4 hn;have ih':=fun u hu=>ih u hu (tc u hu)
  rw[nR]at hl⊢;rw[zo];cases hh:bD e.kind with
  |true=>
   rw[hh]at hl;simp only[if_true,acM,List.length_singleton]at hl⊢
   match ts,hl,b7,xB with
   |t0::r,hl,b7,xB=>
    simp only[List.length_cons]at hl xB;have:=Cv e hh t0 (b7 t0 (by simp)) r hn (fun t h=>b7 t (by simp[h])) (by omega) (by omega) ih';rw[Nat.add_comm 1,acV,acV,List.drop_zero,List.headD_cons];exact this
   |[],hl,_,_=>simp at hl
  |false=>
   rw[hh]at hl;simp only[Bool.false_eq_true,if_false,acO]at hl⊢;exact D4 e hh bx (by simp[cH,cY]) ts hn b7 hl xB ih'
end Go.Proofs.YtloolmchekcmeaaGreat
