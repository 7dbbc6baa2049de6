/- A part. -/
import Derived.Test.YtloolmchekcmeaaGreatXB27
set_option linter.unusedVariables false
set_option linter.unusedSimpArgs false
open List renaming length_append->adb,take_of_length_le->ade,nil_append->adf,take_length->adg,set_cons_zero->adh,set_cons_succ->adi,mem_of_mem_drop->adj,mem_of_getElem?->adk,getElem?_eq_getElem->adl,drop_succ_cons->adm,drop_eq_getElem_cons->adn,drop_drop->ado,cons_append->adp
namespace Go.Proofs.YtloolmchekcmeaaGreat
attribute [-simp] Go.Av.cj Go.Av.e0 Go.Av.fH Go.Av.fy Go.Av.cW Go.Av.cg Go.Av.IT.jQ Go.Av.IT.fJ Go.Av.IT.fi Go.Av.IT.jv Go.Av.IT.jR Go.Av.IT.jS Go.Av.IT.jT Go.Av.IT.jU Go.Av.IT.gv Go.Av.hM
open Go Go.Av
attribute [local irreducible] T ah TX EX LX bB dn bW cx ie aG.kind aG.kids al.kind al.name al.num al.ty al.fr al.label al.kids
attribute [local simp] aL au
set_option maxHeartbeats 16000000
set_option maxRecDepth 8000
attribute [local simp] Option.bind
theorem CR (e:al) (hh:br e.kind=true) (t0:aG) (h0:fE t0<=1099511627776) (ts:List aG) (hn:e9 e<=1099511627776) (bM:∀t∈ts,fE t<=1099511627776) (hl:(az e.kids).length<=ts.length) (tg:ts.length<=1099511627776)
  (ih:∀u∈e.kids,∀(ts:List aG),(∀t∈ts,fE t<=1099511627776)->(aF u).length<=ts.length->ts.length<=1099511627776->ah Tryz.prog 57 [cL u,.l (ts.map cx)] [] (.a8 [cL (bx u ts),.l ((ts.drop (aF u).length).map cx)]) [] []):
  ah Tryz.prog 57 [cL e,.l (((t0::ts)).map cx)] [] (.a8 [cL (.mk e.kind e.name e.num t0 e.fr e.label (dc e.kids ts)),.l ((ts.drop (az e.kids).length).map cx)]) [] []:=by
 obtain⟨jE,oY,xf,qP⟩:=cE hn;have h1:=eD t0 h0;have h2:=oo e;rw[hh]at h2;refine ah.ob Tryz.func57 Tryz.ntmps57 rfl ?_;repeat' first|((first|refine ab (hK _ ?_)|refine bc (hK _ ?_));clear hK K)|((first|refine ae ?_|refine bw ?_|refine aa rfl (h2) ?_|refine aa rfl (h1) ?_);simp;(try(refine gen2 ?_ ?_<;>intro hq<;>try simp at hq)))|refine T.Dy (id:=4) mixed (fun _=>false) [7] [5] 8 [2] (by kernel_rfl) fun K hK=>?_|refine T.r0 fun K hK=>?_|(refine⟨by omega,?_⟩)|refine T.ct rfl ?_|refine T.seq ?_|refine T.block ?_
 refine T.dq 2 8 9 28 (row:=[.d (.i e.kind),.d (.str e.name),.d (.i e.num),.d (.i (t0).kind),.d (.sl ((t0).kids.map cx)),.d (.i e.fr.kind),.d (.sl (e.fr.kids.map cx)),.d (.i e.label),.nil]) rfl rfl ?_
 refine T.dU (α:=Nat×List (List CV)) [4,5,6,23,24] (fun x=>[(1,.l ((ts.drop (az (e.kids.take x.1)).length).map cx)),(25,.i x.1)]) (fun x=>[(2,[.d (.i e.kind),.d (.str e.name),.d (.i e.num),.d (.i (t0).kind),.d (.sl ((t0).kids.map cx)),.d (.i e.fr.kind),.d (.sl (e.fr.kids.map cx)),.d (.i e.label),.own 0 x.1])]) (fun x=>x.2)
  (fun x _=>[{sz:=9,eA:=28,rows:=((dc e.kids ts).take x.1).map ie,wr:=true}]) (fun x=>e.kids.length+1-x.1) (fun x=>x.1<=e.kids.length) (by simp;rfl) (fun x hx=>?_) (0,[]) (by simp) (by simp) (by simp) (by simp[az,ade])
 obtain⟨p,G⟩:=x;dsimp only at hx⊢;simp only[iy,adh,adi,adp,adf];have wb:(dc e.kids ts).length=e.kids.length:=lu _ _;by_cases ax:p<e.kids.length
 ·obtain⟨u,ht⟩:=bR ax;have eQ:u∈e.kids:=adk ht;have bf:e.kids[p]=u:=by rw[adl ax]at ht;exact Option.some.inj ht
  have gP:e.kids.drop p=u::e.kids.drop (p+1):=by rw[adn ax,bf]
  have hle:=gn e.kids (p+1);rw[cq ht,adb]at hle;have hu:=ih u eQ (ts.drop (az (e.kids.take p)).length) (fun t h=>bM t (adj h)) (by simp;omega) (by simp;omega);have GU:=lI ts ht;have mL:ts.drop (az (e.kids.take (p+1))).length=(ts.drop (az (e.kids.take p)).length).drop (aF u).length:=by rw[cq ht,ado,adb]
  generalize (ts.drop (az (e.kids.take p)).length)=T1 at*;generalize (bx u T1)=wu at*;generalize (dc e.kids ts)=Z at*;generalize T1.drop (aF u).length=T2 at*;have eX:min p e.kids.length=p:=by omega
  repeat' first|(refine ab (hK _ ?_);clear hK K)|((first|refine ae ?_|refine aa rfl (hu) ?_);simp[ax,bf,eX,wb];(try simp(disch:=omega)only[wrap64]);(try(refine gen2 ?_ ?_<;>intro hq<;>try simp[ax,bf,eX,wb]at hq)))|(refine⟨by omega,by omega,?_⟩)|(refine⟨(p+1,_),by dsimp only;omega,by dsimp only;omega,rfl,?_,?_⟩<;>simp(disch:=omega) [wrap64,GU,mL,au])|refine T.r0 fun K hK=>?_|refine T.r1 fun K hK=>?_|refine T.ct rfl ?_|refine T.seq ?_|refine T.block ?_|refine T.skip ?_
 ·have ff:p=e.kids.length:=by omega
  subst ff;rw[adg,ade (by omega)];repeat' first|(refine ab (hK _ ?_);clear hK K)|(refine ae ?_;simp[ax];(try(refine gen2 ?_ ?_<;>intro hq<;>try simp[ax]at hq)))|(refine T.ret (aB.a8 (Or.inr rfl) ?_)<;>simp[ay,Tryz.results57,au,wb]<;>omega)|refine T.r0 fun K hK=>?_|refine T.cf rfl ?_|refine T.seq ?_|refine T.exit ?_
theorem En (e:al) (hh:br e.kind=false) (t0:aG) (h0:fE t0<=1099511627776) (ts:List aG) (hn:e9 e<=1099511627776) (bM:∀t∈ts,fE t<=1099511627776) (hl:(az e.kids).length<=ts.length) (tg:ts.length<=1099511627776)
  (ih:∀u∈e.kids,∀(ts:List aG),(∀t∈ts,fE t<=1099511627776)->(aF u).length<=ts.length->ts.length<=1099511627776->ah Tryz.prog 57 [cL u,.l (ts.map cx)] [] (.a8 [cL (bx u ts),.l ((ts.drop (aF u).length).map cx)]) [] []):
  ah Tryz.prog 57 [cL e,.l ((ts).map cx)] [] (.a8 [cL (.mk e.kind e.name e.num e.ty e.fr e.label (dc e.kids ts)),.l ((ts.drop (az e.kids).length).map cx)]) [] []:=by
 obtain⟨jE,oY,xf,qP⟩:=cE hn;have h1:=eD t0 h0;have h2:=oo e;rw[hh]at h2;refine ah.ob Tryz.func57 Tryz.ntmps57 rfl ?_;repeat' first|(refine ab (hK _ ?_);clear hK K)|((first|refine ae ?_|refine aa rfl (h2) ?_);simp;(try(refine gen2 ?_ ?_<;>intro hq<;>try simp at hq)))|refine T.r0 fun K hK=>?_|refine T.cf rfl ?_|refine T.seq ?_|refine T.block ?_|refine T.skip ?_
 refine T.dq 2 8 9 28 (row:=[.d (.i e.kind),.d (.str e.name),.d (.i e.num),.d (.i (e.ty).kind),.d (.sl ((e.ty).kids.map cx)),.d (.i e.fr.kind),.d (.sl (e.fr.kids.map cx)),.d (.i e.label),.nil]) rfl rfl ?_
 refine T.dU (α:=Nat×List (List CV)) [4,5,6,23,24] (fun x=>[(1,.l ((ts.drop (az (e.kids.take x.1)).length).map cx)),(25,.i x.1)]) (fun x=>[(2,[.d (.i e.kind),.d (.str e.name),.d (.i e.num),.d (.i (e.ty).kind),.d (.sl ((e.ty).kids.map cx)),.d (.i e.fr.kind),.d (.sl (e.fr.kids.map cx)),.d (.i e.label),.own 0 x.1])]) (fun x=>x.2)
  (fun x _=>[{sz:=9,eA:=28,rows:=((dc e.kids ts).take x.1).map ie,wr:=true}]) (fun x=>e.kids.length+1-x.1) (fun x=>x.1<=e.kids.length) (by simp;rfl) (fun x hx=>?_) (0,[]) (by simp) (by simp) (by simp) (by simp[az,ade])
 obtain⟨p,G⟩:=x;dsimp only at hx⊢;simp only[iy,adh,adi,adp,adf];have wb:(dc e.kids ts).length=e.kids.length:=lu _ _;by_cases ax:p<e.kids.length
 ·obtain⟨u,ht⟩:=bR ax;have eQ:u∈e.kids:=adk ht;have bf:e.kids[p]=u:=by rw[adl ax]at ht;exact Option.some.inj ht
  have gP:e.kids.drop p=u::e.kids.drop (p+1):=by rw[adn ax,bf]
  have hle:=gn e.kids (p+1);rw[cq ht,adb]at hle;have hu:=ih u eQ (ts.drop (az (e.kids.take p)).length) (fun t h=>bM t (adj h)) (by simp;omega) (by simp;omega);have GU:=lI ts ht;have mL:ts.drop (az (e.kids.take (p+1))).length=(ts.drop (az (e.kids.take p)).length).drop (aF u).length:=by rw[cq ht,ado,adb]
  generalize (ts.drop (az (e.kids.take p)).length)=T1 at*;generalize (bx u T1)=wu at*;generalize (dc e.kids ts)=Z at*;generalize T1.drop (aF u).length=T2 at*;have eX:min p e.kids.length=p:=by omega
  repeat' first|(refine ab (hK _ ?_);clear hK K)|((first|refine ae ?_|refine aa rfl (hu) ?_);simp[ax,bf,eX,wb];(try simp(disch:=omega)only[wrap64]);(try(refine gen2 ?_ ?_<;>intro hq<;>try simp[ax,bf,eX,wb]at hq)))|(refine⟨by omega,by omega,?_⟩)|(refine⟨(p+1,_),by dsimp only;omega,by dsimp only;omega,rfl,?_,?_⟩<;>simp(disch:=omega) [wrap64,GU,mL,au])|refine T.r0 fun K hK=>?_|refine T.r1 fun K hK=>?_|refine T.ct rfl ?_|refine T.seq ?_|refine T.block ?_|refine T.skip ?_
 ·have ff:p=e.kids.length:=by omega
  subst ff;rw[adg,ade (by omega)];repeat' first|(refine ab (hK _ ?_);clear hK K)|(refine ae ?_;simp[ax];(try(refine gen2 ?_ ?_<;>intro hq<;>try simp[ax]at hq)))|(refine T.ret (aB.a8 (Or.inr rfl) ?_)<;>simp[ay,Tryz.results57,au,wb]<;>omega)|refine T.r0 fun K hK=>?_|refine T.cf rfl ?_|refine T.seq ?_|refine T.exit ?_
theorem Eo:∀(e:al),e9 e<=1099511627776->∀(ts:List aG),(∀t∈ts,fE t<=1099511627776)->(aF e).length<=ts.length->ts.length<=1099511627776->ah Tryz.prog 57 [cL e,.l (ts.map cx)] [] (.a8 [cL (bx e ts),.l ((ts.drop (aF e).length).map cx)]) [] []:=by
 intro e;induction e using al.ind with
 |h e ih=>
  intro hn ts bM hl tg;obtain⟨_,_,_,qP⟩:=cE hn;have ih':=fun u hu=>ih u hu (qP u hu)
  rw[iP]at hl⊢;rw[zl];cases hh:br e.kind with
  |true=>
   rw[hh]at hl;simp only[if_true,adb,List.length_singleton]at hl⊢
   match ts,hl,bM,tg with
   |t0::r,hl,bM,tg=>
    simp only[List.length_cons]at hl tg;have:=CR e hh t0 (bM t0 (by simp)) r hn (fun t h=>bM t (by simp[h])) (by omega) (by omega) ih';rw[Nat.add_comm 1,adm,adm,List.drop_zero,List.headD_cons];exact this
   |[],hl,_,_=>simp at hl
  |false=>
   rw[hh]at hl;simp only[Bool.false_eq_true,if_false,adf]at hl⊢;exact En e hh aW (by simp[cQ,cS]) ts hn bM hl tg ih'
end Go.Proofs.YtloolmchekcmeaaGreat
