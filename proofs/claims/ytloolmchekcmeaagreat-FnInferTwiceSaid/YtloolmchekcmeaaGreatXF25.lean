/- A part. -/
import Derived.Test.YtloolmchekcmeaaGreatXF24
set_option linter.unusedVariables false
set_option linter.unusedSimpArgs false
open List renaming length_append->acN,take_of_length_le->acO,nil_append->acP,take_length->acQ,set_cons_zero->acR,set_cons_succ->acS,mem_of_mem_drop->acT,mem_of_getElem?->acU,getElem?_eq_getElem->acV,drop_succ_cons->acW,drop_eq_getElem_cons->acX,drop_drop->acY,cons_append->acZ
namespace Go.Proofs.YtloolmchekcmeaaGreat
attribute [-simp] Go.Av.ch Go.Av.eY Go.Av.fw Go.Av.fi Go.Av.cY Go.Av.cb Go.Av.IT.mE Go.Av.IT.gO Go.Av.IT.gl Go.Av.IT.lM Go.Av.IT.mF Go.Av.IT.mG Go.Av.IT.mH Go.Av.IT.mI Go.Av.IT.iS Go.Av.j6
open Go Go.Av
attribute [local irreducible] T ah TX EX LX bC dk bV ck gp aI.kind aI.kids ao.kind ao.name ao.num ao.ty ao.fr ao.label ao.kids
attribute [local simp] aJ al
set_option maxHeartbeats 16000000
set_option maxRecDepth 8000
attribute [local simp] Option.bind
theorem Cf (e:ao) (hh:bx e.kind=true) (t0:aI) (h0:fA t0<=1099511627776) (ts:List aI) (hn:eR e<=1099511627776) (bZ:∀t∈ts,fA t<=1099511627776) (hl:(az e.kids).length<=ts.length) (uQ:ts.length<=1099511627776)
  (ih:∀u∈e.kids,∀(ts:List aI),(∀t∈ts,fA t<=1099511627776)->(aF u).length<=ts.length->ts.length<=1099511627776->ah Tryz.prog 57 [cM u,.l (ts.map ck)] [] (.a8 [cM (bG u ts),.l ((ts.drop (aF u).length).map ck)]) [] []):
  ah Tryz.prog 57 [cM e,.l (((t0::ts)).map ck)] [] (.a8 [cM (.mk e.kind e.name e.num t0 e.fr e.label (cX e.kids ts)),.l ((ts.drop (az e.kids).length).map ck)]) [] []:=by
 obtain⟨jo,nE,yl,o6⟩:=cB hn;have h1:=eB t0 h0;have h2:=ot e;rw[hh]at h2;refine ah.ob Tryz.func57 Tryz.ntmps57 rfl ?_;repeat' first|((first|refine ab (hK _ ?_)|refine bj (hK _ ?_));clear hK K)|((first|refine ae ?_|refine bB ?_|refine aa rfl (h2) ?_|refine aa rfl (h1) ?_);simp;(try(refine gen2 ?_ ?_<;>intro hq<;>try simp at hq)))|refine T.CS (id:=4) mixed (fun _=>false) [7] [5] 8 [2] (by kernel_rfl) fun K hK=>?_|refine T.r0 fun K hK=>?_|(refine⟨by omega,?_⟩)|refine T.ct rfl ?_|refine T.seq ?_|refine T.block ?_
 refine T.dq 2 8 9 28 (row:=[.d (.i e.kind),.d (.str e.name),.d (.i e.num),.d (.i (t0).kind),.d (.sl ((t0).kids.map ck)),.d (.i e.fr.kind),.d (.sl (e.fr.kids.map ck)),.d (.i e.label),.nil]) rfl rfl ?_
 refine T.dD (α:=Nat×List (List CV)) [4,5,6,23,24] (fun x=>[(1,.l ((ts.drop (az (e.kids.take x.1)).length).map ck)),(25,.i x.1)]) (fun x=>[(2,[.d (.i e.kind),.d (.str e.name),.d (.i e.num),.d (.i (t0).kind),.d (.sl ((t0).kids.map ck)),.d (.i e.fr.kind),.d (.sl (e.fr.kids.map ck)),.d (.i e.label),.own 0 x.1])]) (fun x=>x.2)
  (fun x _=>[{sz:=9,ev:=28,rows:=((cX e.kids ts).take x.1).map gp,wr:=true}]) (fun x=>e.kids.length+1-x.1) (fun x=>x.1<=e.kids.length) (by simp;rfl) (fun x hx=>?_) (0,[]) (by simp) (by simp) (by simp) (by simp[az,acO])
 obtain⟨p,G⟩:=x;dsimp only at hx⊢;simp only[gy,acR,acS,acZ,acP];have vH:(cX e.kids ts).length=e.kids.length:=lx _ _;by_cases ay:p<e.kids.length
 ·obtain⟨u,ht⟩:=bM ay;have eA:u∈e.kids:=acU ht;have aX:e.kids[p]=u:=by rw[acV ay]at ht;exact Option.some.inj ht
  have gz:e.kids.drop p=u::e.kids.drop (p+1):=by rw[acX ay,aX]
  have hle:=gi e.kids (p+1);rw[cr ht,acN]at hle;have hu:=ih u eA (ts.drop (az (e.kids.take p)).length) (fun t h=>bZ t (acT h)) (by simp;omega) (by simp;omega);have y8:=lH ts ht;have mN:ts.drop (az (e.kids.take (p+1))).length=(ts.drop (az (e.kids.take p)).length).drop (aF u).length:=by rw[cr ht,acY,acN]
  generalize (ts.drop (az (e.kids.take p)).length)=T1 at*;generalize (bG u T1)=wu at*;generalize (cX e.kids ts)=Z at*;generalize T1.drop (aF u).length=T2 at*;have eU:min p e.kids.length=p:=by omega
  repeat' first|(refine ab (hK _ ?_);clear hK K)|((first|refine ae ?_|refine aa rfl (hu) ?_);simp[ay,aX,eU,vH];(try simp(disch:=omega)only[wrap64]);(try(refine gen2 ?_ ?_<;>intro hq<;>try simp[ay,aX,eU,vH]at hq)))|(refine⟨by omega,by omega,?_⟩)|(refine⟨(p+1,_),by dsimp only;omega,by dsimp only;omega,rfl,?_,?_⟩<;>simp(disch:=omega) [wrap64,y8,mN,al])|refine T.r0 fun K hK=>?_|refine T.r1 fun K hK=>?_|refine T.ct rfl ?_|refine T.seq ?_|refine T.block ?_|refine T.skip ?_
 ·have fa:p=e.kids.length:=by omega
  subst fa;rw[acQ,acO (by omega)];repeat' first|(refine ab (hK _ ?_);clear hK K)|(refine ae ?_;simp[ay];(try(refine gen2 ?_ ?_<;>intro hq<;>try simp[ay]at hq)))|(refine T.ret (aB.a8 (Or.inr rfl) ?_)<;>simp[aA,Tryz.results57,al,vH]<;>omega)|refine T.r0 fun K hK=>?_|refine T.cf rfl ?_|refine T.seq ?_|refine T.exit ?_
theorem DM (e:ao) (hh:bx e.kind=false) (t0:aI) (h0:fA t0<=1099511627776) (ts:List aI) (hn:eR e<=1099511627776) (bZ:∀t∈ts,fA t<=1099511627776) (hl:(az e.kids).length<=ts.length) (uQ:ts.length<=1099511627776)
  (ih:∀u∈e.kids,∀(ts:List aI),(∀t∈ts,fA t<=1099511627776)->(aF u).length<=ts.length->ts.length<=1099511627776->ah Tryz.prog 57 [cM u,.l (ts.map ck)] [] (.a8 [cM (bG u ts),.l ((ts.drop (aF u).length).map ck)]) [] []):
  ah Tryz.prog 57 [cM e,.l ((ts).map ck)] [] (.a8 [cM (.mk e.kind e.name e.num e.ty e.fr e.label (cX e.kids ts)),.l ((ts.drop (az e.kids).length).map ck)]) [] []:=by
 obtain⟨jo,nE,yl,o6⟩:=cB hn;have h1:=eB t0 h0;have h2:=ot e;rw[hh]at h2;refine ah.ob Tryz.func57 Tryz.ntmps57 rfl ?_;repeat' first|(refine ab (hK _ ?_);clear hK K)|((first|refine ae ?_|refine aa rfl (h2) ?_);simp;(try(refine gen2 ?_ ?_<;>intro hq<;>try simp at hq)))|refine T.r0 fun K hK=>?_|refine T.cf rfl ?_|refine T.seq ?_|refine T.block ?_|refine T.skip ?_
 refine T.dq 2 8 9 28 (row:=[.d (.i e.kind),.d (.str e.name),.d (.i e.num),.d (.i (e.ty).kind),.d (.sl ((e.ty).kids.map ck)),.d (.i e.fr.kind),.d (.sl (e.fr.kids.map ck)),.d (.i e.label),.nil]) rfl rfl ?_
 refine T.dD (α:=Nat×List (List CV)) [4,5,6,23,24] (fun x=>[(1,.l ((ts.drop (az (e.kids.take x.1)).length).map ck)),(25,.i x.1)]) (fun x=>[(2,[.d (.i e.kind),.d (.str e.name),.d (.i e.num),.d (.i (e.ty).kind),.d (.sl ((e.ty).kids.map ck)),.d (.i e.fr.kind),.d (.sl (e.fr.kids.map ck)),.d (.i e.label),.own 0 x.1])]) (fun x=>x.2)
  (fun x _=>[{sz:=9,ev:=28,rows:=((cX e.kids ts).take x.1).map gp,wr:=true}]) (fun x=>e.kids.length+1-x.1) (fun x=>x.1<=e.kids.length) (by simp;rfl) (fun x hx=>?_) (0,[]) (by simp) (by simp) (by simp) (by simp[az,acO])
 obtain⟨p,G⟩:=x;dsimp only at hx⊢;simp only[gy,acR,acS,acZ,acP];have vH:(cX e.kids ts).length=e.kids.length:=lx _ _;by_cases ay:p<e.kids.length
 ·obtain⟨u,ht⟩:=bM ay;have eA:u∈e.kids:=acU ht;have aX:e.kids[p]=u:=by rw[acV ay]at ht;exact Option.some.inj ht
  have gz:e.kids.drop p=u::e.kids.drop (p+1):=by rw[acX ay,aX]
  have hle:=gi e.kids (p+1);rw[cr ht,acN]at hle;have hu:=ih u eA (ts.drop (az (e.kids.take p)).length) (fun t h=>bZ t (acT h)) (by simp;omega) (by simp;omega);have y8:=lH ts ht;have mN:ts.drop (az (e.kids.take (p+1))).length=(ts.drop (az (e.kids.take p)).length).drop (aF u).length:=by rw[cr ht,acY,acN]
  generalize (ts.drop (az (e.kids.take p)).length)=T1 at*;generalize (bG u T1)=wu at*;generalize (cX e.kids ts)=Z at*;generalize T1.drop (aF u).length=T2 at*;have eU:min p e.kids.length=p:=by omega
  repeat' first|(refine ab (hK _ ?_);clear hK K)|((first|refine ae ?_|refine aa rfl (hu) ?_);simp[ay,aX,eU,vH];(try simp(disch:=omega)only[wrap64]);(try(refine gen2 ?_ ?_<;>intro hq<;>try simp[ay,aX,eU,vH]at hq)))|(refine⟨by omega,by omega,?_⟩)|(refine⟨(p+1,_),by dsimp only;omega,by dsimp only;omega,rfl,?_,?_⟩<;>simp(disch:=omega) [wrap64,y8,mN,al])|refine T.r0 fun K hK=>?_|refine T.r1 fun K hK=>?_|refine T.ct rfl ?_|refine T.seq ?_|refine T.block ?_|refine T.skip ?_
 ·have fa:p=e.kids.length:=by omega
  subst fa;rw[acQ,acO (by omega)];repeat' first|(refine ab (hK _ ?_);clear hK K)|(refine ae ?_;simp[ay];(try(refine gen2 ?_ ?_<;>intro hq<;>try simp[ay]at hq)))|(refine T.ret (aB.a8 (Or.inr rfl) ?_)<;>simp[aA,Tryz.results57,al,vH]<;>omega)|refine T.r0 fun K hK=>?_|refine T.cf rfl ?_|refine T.seq ?_|refine T.exit ?_
theorem DN:∀(e:ao),eR e<=1099511627776->∀(ts:List aI),(∀t∈ts,fA t<=1099511627776)->(aF e).length<=ts.length->ts.length<=1099511627776->ah Tryz.prog 57 [cM e,.l (ts.map ck)] [] (.a8 [cM (bG e ts),.l ((ts.drop (aF e).length).map ck)]) [] []:=by
 intro e;induction e using ao.ind with
 |h e ih=>
  intro hn ts bZ hl uQ;obtain⟨_,_,_,o6⟩:=cB hn;have ih':=fun u hu=>ih u hu (o6 u hu)
  rw[fh]at hl⊢;rw[ni];cases hh:bx e.kind with
  |true=>
   rw[hh]at hl;simp only[if_true,acN,List.length_singleton]at hl⊢
   match ts,hl,bZ,uQ with
   |t0::r,hl,bZ,uQ=>
    simp only[List.length_cons]at hl uQ;have:=Cf e hh t0 (bZ t0 (by simp)) r hn (fun t h=>bZ t (by simp[h])) (by omega) (by omega) ih';rw[Nat.add_comm 1,acW,acW,List.drop_zero,List.headD_cons];exact this
   |[],hl,_,_=>simp at hl
  |false=>
   rw[hh]at hl;simp only[Bool.false_eq_true,if_false,acP]at hl⊢;exact DM e hh bk (by simp[cA,cP]) ts hn bZ hl uQ ih'
end Go.Proofs.YtloolmchekcmeaaGreat
