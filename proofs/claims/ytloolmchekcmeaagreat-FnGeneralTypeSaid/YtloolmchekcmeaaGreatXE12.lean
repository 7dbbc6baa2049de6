/- A part. -/
import Derived.Test.YtloolmchekcmeaaGreatXE11
set_option linter.unusedVariables false
set_option linter.unusedSimpArgs false
open Go.Proofs.Tryz renaming prog->aaE
open List renaming nil_append->aaF,cons_append->aaG,length_append->aaH,getElem?_eq_getElem->aaI,drop_eq_getElem_cons->aaJ,mem_of_getElem?->aaK,set_cons_zero->aaL,set_cons_succ->aaM,append_assoc->aaN,take_length->aaO,take_add_one->aaP,drop_drop->aaQ,take_of_length_le->aaR,getElem_mem->aaS,take_set_of_le->aaT,take_append_drop->aaU,mem_append->aaV,length_singleton->aaW,headD_cons->aaX,getElem?_set_self->aaY,drop_set->aaZ,drop_length->aa0
open Nat renaming pow_le_pow_right->aa1,le_refl->aa2
open Bool renaming false_eq_true->aa3,false_and->aa4,true_and->aa5,and_eq_true->aa6
open Option renaming isSome_some->aa7,isSome_none->aa8,map_some->aa9,map_eq_some_iff->aba,map_none->abb,bind->abc
open Int renaming add_assoc->abd
namespace Go.Proofs.YtloolmchekcmeaaGreat
attribute [-simp] Go.Av.di Go.Av.yl Go.Av.eS Go.Av.AV.ew Go.Av.CV.ew Go.Av.iG Go.Av.AV.dF Go.Av.CV.dF Go.Av.cb Go.Av.eL Go.Av.fj Go.Av.fa Go.Av.cT Go.Av.b9
open Go Go.Av
attribute [local irreducible] T ah TX EX LX bw dh bR cA gA aE.kind aE.kids ao.kind ao.name ao.num ao.ty ao.fr ao.label ao.kids
attribute [local simp] aQ ax
set_option maxHeartbeats 16000000
set_option maxRecDepth 8000
theorem cV (k:Int):ah aaE 49 [.i k] [] (eu (.mk k [])) [] []:=by
 refine ah.ob Tryz.func49 Tryz.ntmps49 rfl ?_;repeat' first|(refine ab (hK _ ?_);clear hK K)|(refine af ?_;simp;(try(refine gen2 ?_ ?_<;>intro hq<;>try simp at hq)))|(refine T.ret (aD.val (Or.inr rfl) ?_)<;>simp[aF,Tryz.results49]<;>omega)|refine T.r0 fun K hK=>?_
theorem jU (k:Int) (a b:aE):ah aaE 108 [.i k,eu a,eu b] [] (eu (.mk k [a,b])) [] []:=by
 refine ah.ob Tryz.func108 Tryz.ntmps108 rfl ?_;repeat' first|(refine ab (hK _ ?_);clear hK K)|(refine af ?_;simp;(try(refine gen2 ?_ ?_<;>intro hq<;>try simp at hq)))|(refine T.ret (aD.val (Or.inr rfl) ?_)<;>simp[aF,Tryz.results108,aQ]<;>omega)|refine T.r0 fun K hK=>?_
theorem fK:∀(t:aE),gl t<=1099511627776->ah aaE 104 [eu t] [] (eu t) [] []:=by
 intro t;induction t using aE.ind with
 |h t ih=>
  intro hn;rw[gG]at hn;have hlen:=ie t.kids;refine ah.ob Tryz.func104 Tryz.ntmps104 rfl ?_;repeat' first|(refine ab (hK _ ?_);clear hK K)|(refine af ?_;simp;(try(refine gen2 ?_ ?_<;>intro hq<;>try simp at hq)))|refine T.r0 fun K hK=>?_|refine T.seq ?_|refine T.block ?_
  refine T.dM 2 1 2 25 (row:=[.d (.i t.kind),.nil]) (by simp) (by simp) ?_;refine T.dA (α:=Nat×List (List CV)) [2,3,10,11] (fun x=>[(12,.i x.1)]) (fun x=>[(2,[.d (.i t.kind),.own 0 x.1])]) (fun x=>x.2) (fun x _=>[{sz:=2,eJ:=25,rows:=(t.kids.take x.1).map cA,wr:=true}]) (fun x=>t.kids.length+1-x.1) (fun x=>x.1<=t.kids.length) (by simp;rfl) (fun x hx=>?_) (0,[]) (by simp) (by simp) (by simp) (by simp);obtain⟨p,G⟩:=x;dsimp only at hx⊢;by_cases az:p<t.kids.length
  ·obtain⟨u,ht⟩:=bX az;have fz:u∈t.kids:=aaK ht;have a8:t.kids[p]=u:=by rw[aaI az]at ht;exact Option.some.inj ht
   have jb:t.kids.drop p=u::t.kids.drop (p+1):=by rw[aaJ az,a8]
   have hu:=ih u fz (by have:=ig fz;omega);have qe:t.kids.take (p+1)=t.kids.take p++[u]:=by rw[aaP,ht];rfl
   have eg:min p t.kids.length=p:=by omega
   simp only[gi,aaL,aaM,aaG,aaF];repeat' first|((first|refine ab (hK _ ?_)|refine aA (hK _ ?_));clear hK K)|((first|refine af ?_|refine aG ?_|refine aa rfl (hu) ?_);simp[az,a8,eg];(try simp(disch:=omega)only[wrap64]);(try(refine gen2 ?_ ?_<;>intro hq<;>try simp[az,a8,eg]at hq)))|(refine⟨by omega,by omega,?_⟩)|(refine⟨(p+1,_),by dsimp only;omega,by dsimp only;omega,rfl,?_,?_⟩<;>simp(disch:=omega) [wrap64,qe,aQ])|refine T.yi (id:=5) mixed (fun _=>false) [5,7] (by kernel_rfl) fun K hK=>?_|refine T.r0 fun K hK=>?_|refine T.r1 fun K hK=>?_|refine T.ct rfl ?_|refine T.seq ?_|refine T.block ?_|refine T.skip ?_
  ·have fX:p=t.kids.length:=by omega
   subst fX;simp only[gi,aaL,aaM,aaG,aaF];repeat' first|(refine ab (hK _ ?_);clear hK K)|(refine af ?_;simp[az];(try(refine gen2 ?_ ?_<;>intro hq<;>try simp[az]at hq)))|(refine T.ret (aD.val (Or.inr rfl) ?_)<;>simp[aF,Tryz.results104,aQ]<;>omega)|refine T.r0 fun K hK=>?_|refine T.cf rfl ?_|refine T.seq ?_|refine T.exit ?_
theorem xA (k:Int) (hk:k≠1) (t:aE) (hl:t.kind=k->2<=t.kids.length):
  ah aaE 170 [eu t,.i k] [] (.bq (match dO k t with|some (a,b)=>[eu a,eu b,.b true]|none=>[eu bx,eu bx,.b false])) [] []:=by
 have qC:=cV 1;simp only[dO];by_cases oD:t.kind=1
 ·rw[if_pos oD];have o4:¬(1:Int)=k:=fun h=>hk h.symm
  dsimp only;refine ah.ob Tryz.func170 Tryz.ntmps170 rfl ?_;repeat' first|(refine ab (hK _ ?_);clear hK K)|((first|refine af ?_|refine aa rfl (qC) ?_);simp[oD,o4];(try(refine gen2 ?_ ?_<;>intro hq<;>try simp[oD,o4]at hq)))|(refine T.ret (aD.bq (Or.inr rfl) ?_)<;>simp[aF,Tryz.results170]<;>omega)|refine T.r0 fun K hK=>?_|refine T.ct rfl ?_|refine T.cf rfl ?_|refine T.seq ?_|refine T.block ?_
 rw[if_neg oD];by_cases hk:t.kind=k
 rotate_left
 ·rw[if_neg hk];dsimp only;refine ah.ob Tryz.func170 Tryz.ntmps170 rfl ?_;repeat' first|(refine ab (hK _ ?_);clear hK K)|(refine af ?_;simp[oD,hk];(try(refine gen2 ?_ ?_<;>intro hq<;>try simp[oD,hk]at hq)))|(refine T.ret (aD.bq (Or.inr rfl) ?_)<;>simp[aF,Tryz.results170]<;>omega)|refine T.r0 fun K hK=>?_|refine T.cf rfl ?_|refine T.seq ?_|refine T.block ?_|refine T.skip ?_
 rw[if_pos hk];have xB:=hl hk
 match fu:t.kids,xB with
 |a::b::r,_=>
  dsimp only;refine ah.ob Tryz.func170 Tryz.ntmps170 rfl ?_;repeat' first|((first|refine ab (hK _ ?_)|refine bz (hK _ ?_));clear hK K)|((first|refine af ?_|refine bO ?_);simp[hk,fu];(try(refine gen2 ?_ ?_<;>intro hq<;>try simp[hk,fu]at hq)))|(refine T.ret (aD.bq (Or.inr rfl) ?_)<;>simp[aF,Tryz.results170]<;>omega)|refine T.pB (id:=3) mixed (fun _=>false) [8,9] [5,6,7] 9 [1] (by kernel_rfl) fun K hK=>?_|refine T.r0 fun K hK=>?_|refine T.ct rfl ?_|refine T.seq ?_|refine T.block ?_
theorem JW:∀{d:Nat} {a:aE},mu d a->d<=4->∀{b:aE},mu d b->aM a b=true->ah aaE 171 [eu a,eu b] [] (eu (cG a b)) [] []:=by
 intro d a ha;induction ha with
 |any d=>
  intro hd b hb hc;have hn:gl b<=1099511627776:=by have:=jv _ b hb.shape;have:2 ^(d+1)<=2 ^ 4:=aa1 (by omega) hd;omega
  have ho:=fK b hn;rw[show cG kD b=b by rw[lu];simp];refine ah.ob Tryz.func171 Tryz.ntmps171 rfl ?_;repeat' first|(refine ab (hK _ ?_);clear hK K)|((first|refine af ?_|refine aa rfl (ho) ?_);simp;(try(refine gen2 ?_ ?_<;>intro hq<;>try simp at hq)))|(refine T.ret (aD.val (Or.inr rfl) ?_)<;>simp[aF,Tryz.results171]<;>omega)|refine T.r0 fun K hK=>?_|refine T.ct rfl ?_|refine T.seq ?_|refine T.block ?_
 |int d=>
  intro hd b hb hc;have ho:=fK bP (by simp[cH,cY]);have e:cG bP b=bP:=by cases hb<;>simp[cG,jQ]<;>simp[aM]at hc
  rw[e];by_cases wh:b.kind=1
  ·refine ah.ob Tryz.func171 Tryz.ntmps171 rfl ?_;repeat' first|(refine ab (hK _ ?_);clear hK K)|((first|refine af ?_|(refine aa ?_ (ho) ?_;(focus(solve|simp[wh]))));simp[wh];(try(refine gen2 ?_ ?_<;>intro hq<;>try simp[wh]at hq)))|(refine T.ret (aD.val (Or.inr rfl) ?_)<;>simp[aF,Tryz.results171]<;>omega)|refine T.r0 fun K hK=>?_|refine T.ct rfl ?_|refine T.cf rfl ?_|refine T.seq ?_|refine T.block ?_
  ·refine ah.ob Tryz.func171 Tryz.ntmps171 rfl ?_;repeat' first|(refine ab (hK _ ?_);clear hK K)|((first|refine af ?_|(refine aa ?_ (ho) ?_;(focus(solve|simp[wh]))));simp[wh];(try(refine gen2 ?_ ?_<;>intro hq<;>try simp[wh]at hq)))|(refine T.ret (aD.val (Or.inr rfl) ?_)<;>simp[aF,Tryz.results171]<;>omega)|refine T.r0 fun K hK=>?_|refine T.ct rfl ?_|refine T.cf rfl ?_|refine T.seq ?_|refine T.block ?_
 |bool d=>
  intro hd b hb hc;have ho:=fK c3 (by simp[cH,cY]);have e:cG c3 b=c3:=by cases hb<;>simp[cG,jQ]<;>simp[aM]at hc
  rw[e];by_cases wh:b.kind=1
  ·refine ah.ob Tryz.func171 Tryz.ntmps171 rfl ?_;repeat' first|(refine ab (hK _ ?_);clear hK K)|((first|refine af ?_|(refine aa ?_ (ho) ?_;(focus(solve|simp[wh]))));simp[wh];(try(refine gen2 ?_ ?_<;>intro hq<;>try simp[wh]at hq)))|(refine T.ret (aD.val (Or.inr rfl) ?_)<;>simp[aF,Tryz.results171]<;>omega)|refine T.r0 fun K hK=>?_|refine T.ct rfl ?_|refine T.cf rfl ?_|refine T.seq ?_|refine T.block ?_
  ·refine ah.ob Tryz.func171 Tryz.ntmps171 rfl ?_;repeat' first|(refine ab (hK _ ?_);clear hK K)|((first|refine af ?_|(refine aa ?_ (ho) ?_;(focus(solve|simp[wh]))));simp[wh];(try(refine gen2 ?_ ?_<;>intro hq<;>try simp[wh]at hq)))|(refine T.ret (aD.val (Or.inr rfl) ?_)<;>simp[aF,Tryz.results171]<;>omega)|refine T.r0 fun K hK=>?_|refine T.ct rfl ?_|refine T.cf rfl ?_|refine T.seq ?_|refine T.block ?_
 | @fn d x y hx hy ih1 ih2=>
  intro hd b hb hc;by_cases wh:b.kind=1
  ·have e:b=kD:=by cases hb<;>simp at wh<;>rfl
   subst e;have hn:gl (.mk 4 [x,y])<=1099511627776:=by have:=jv _ _ (mu.fn hx hy).shape;have:2 ^(d+1)<=2 ^ 4:=aa1 (by omega) hd;omega
   have ho:=fK (.mk 4 [x,y]) hn;rw[show cG (.mk 4 [x,y]) kD=.mk 4 [x,y] by rw[lu];simp];refine ah.ob Tryz.func171 Tryz.ntmps171 rfl ?_;repeat' first|(refine ab (hK _ ?_);clear hK K)|((first|refine af ?_|(refine aa ?_ (ho) ?_;(focus(solve|simp))));simp;(try(refine gen2 ?_ ?_<;>intro hq<;>try simp at hq)))|(refine T.ret (aD.val (Or.inr rfl) ?_)<;>simp[aF,Tryz.results171]<;>omega)|refine T.r0 fun K hK=>?_|refine T.ct rfl ?_|refine T.cf rfl ?_|refine T.seq ?_|refine T.block ?_
  ·obtain⟨u,v,e,hu,hv⟩:∃u v,b=.mk 4 [u,v]/\mu d u/\mu d v:=by
    cases hb with
    |any=>simp at wh
    |int=>simp[aM]at hc
    |bool=>simp[aM]at hc
    |fn h1 h2=>first|exact⟨_,_,rfl,h1,h2⟩|simp[aM]at hc
    |pair h1 h2=>first|exact⟨_,_,rfl,h1,h2⟩|simp[aM]at hc
   subst e;rw[Bx (by omega)]at hc;simp only[aa6]at hc;have h1:=ih1 (by omega) hu hc.1;have h2:=ih2 (by omega) hv hc.2;have h3:=jU 4 (cG x u) (cG y v);rw[By (by omega)];refine ah.ob Tryz.func171 Tryz.ntmps171 rfl ?_;repeat' first|((first|refine ab (hK _ ?_)|refine aA (hK _ ?_));clear hK K)|((first|refine af ?_|refine aG ?_|refine aa rfl (h1) ?_|refine aa rfl (h2) ?_|refine aa rfl (h3) ?_);simp;(try(refine gen2 ?_ ?_<;>intro hq<;>try simp at hq)))|(refine T.ret (aD.val (Or.inr rfl) ?_)<;>simp[aF,Tryz.results171]<;>omega)|refine T.rd (id:=5) mixed (fun _=>false) [21] (by kernel_rfl) fun K hK=>?_|refine T.r0 fun K hK=>?_|refine T.cf rfl ?_|refine T.seq ?_|refine T.block ?_|refine T.skip ?_
 | @pair d x y hx hy ih1 ih2=>
  intro hd b hb hc;by_cases wh:b.kind=1
  ·have e:b=kD:=by cases hb<;>simp at wh<;>rfl
   subst e;have hn:gl (.mk 5 [x,y])<=1099511627776:=by have:=jv _ _ (mu.pair hx hy).shape;have:2 ^(d+1)<=2 ^ 4:=aa1 (by omega) hd;omega
   have ho:=fK (.mk 5 [x,y]) hn;rw[show cG (.mk 5 [x,y]) kD=.mk 5 [x,y] by rw[lu];simp];refine ah.ob Tryz.func171 Tryz.ntmps171 rfl ?_;repeat' first|(refine ab (hK _ ?_);clear hK K)|((first|refine af ?_|(refine aa ?_ (ho) ?_;(focus(solve|simp))));simp;(try(refine gen2 ?_ ?_<;>intro hq<;>try simp at hq)))|(refine T.ret (aD.val (Or.inr rfl) ?_)<;>simp[aF,Tryz.results171]<;>omega)|refine T.r0 fun K hK=>?_|refine T.ct rfl ?_|refine T.cf rfl ?_|refine T.seq ?_|refine T.block ?_
  ·obtain⟨u,v,e,hu,hv⟩:∃u v,b=.mk 5 [u,v]/\mu d u/\mu d v:=by
    cases hb with
    |any=>simp at wh
    |int=>simp[aM]at hc
    |bool=>simp[aM]at hc
    |fn h1 h2=>first|exact⟨_,_,rfl,h1,h2⟩|simp[aM]at hc
    |pair h1 h2=>first|exact⟨_,_,rfl,h1,h2⟩|simp[aM]at hc
   subst e;rw[Bx (by omega)]at hc;simp only[aa6]at hc;have h1:=ih1 (by omega) hu hc.1;have h2:=ih2 (by omega) hv hc.2;have h3:=jU 5 (cG x u) (cG y v);rw[By (by omega)];refine ah.ob Tryz.func171 Tryz.ntmps171 rfl ?_;repeat' first|((first|refine ab (hK _ ?_)|refine aA (hK _ ?_));clear hK K)|((first|refine af ?_|refine aG ?_|refine aa rfl (h1) ?_|refine aa rfl (h2) ?_|refine aa rfl (h3) ?_);simp;(try(refine gen2 ?_ ?_<;>intro hq<;>try simp at hq)))|(refine T.ret (aD.val (Or.inr rfl) ?_)<;>simp[aF,Tryz.results171]<;>omega)|refine T.rd (id:=5) mixed (fun _=>false) [21] (by kernel_rfl) fun K hK=>?_|refine T.r0 fun K hK=>?_|refine T.cf rfl ?_|refine T.seq ?_|refine T.block ?_|refine T.skip ?_
theorem yQ (f:FuncId) (l:List ea) (q:ea->Bool) (hl:l.length<=4611686018427387904) (hf:∀t∈l,ah aaE f [Q0 t] [] (.b (q t)) [] []):
  ah aaE 160 [.l (l.map jP),.c (.fn f [])] [] (.i (fH q l 0)) [] []:=by
 refine ah.ob Tryz.func160 Tryz.ntmps160 rfl ?_;repeat' first|(refine ab (hK _ ?_);clear hK K)|(refine af ?_;simp;(try(refine gen2 ?_ ?_<;>intro hq<;>try simp at hq)))|refine T.r0 fun K hK=>?_|refine T.seq ?_|refine T.block ?_
 obtain⟨R,hR⟩:∃R,fH q l 0=R:=⟨_,rfl⟩;rw[hR];refine T.iI (fun p:Nat=>⟨[(0,.l (l.map jP)),(1,.c (.fn f [])),(7,.i l.length),(8,.i p)],[],[]⟩) (fun p=>l.length+1-p) (fun p=>p<=l.length/\fH q (l.drop p) p=R) (fun p hp=>?_) 0 (by simpa using hR) (by simp);obtain⟨hi,he⟩:=hp;by_cases az:p<l.length
 ·obtain⟨u,ht⟩:=bX az;have fz:u∈l:=aaK ht;have a8:l[p]=u:=by rw[aaI az]at ht;exact Option.some.inj ht
  have jb:l.drop p=u::l.drop (p+1):=by rw[aaJ az,a8]
  have hu:=hf u fz;rw[jb,fH]at he;cases hb:q u<;>rw[hb]at hu he
  ·repeat' first|(refine ab (hK _ ?_);clear hK K)|((first|refine af ?_|refine aa rfl (hu) ?_);simp[az,a8,jP];(try simp(disch:=omega)only[wrap64]);(try(refine gen2 ?_ ?_<;>intro hq<;>try simp[az,a8,jP]at hq)))|(refine⟨p+1,by dsimp only;omega,⟨by omega,by simpa using he⟩,?_⟩;simp(disch:=omega) [wrap64])|refine T.r0 fun K hK=>?_|refine T.r1 fun K hK=>?_|refine T.ct rfl ?_|refine T.cf rfl ?_|refine T.seq ?_|refine T.block ?_|refine T.skip ?_
  ·repeat' first|(refine ab (hK _ ?_);clear hK K)|((first|refine af ?_|refine aa rfl (hu) ?_);simp[az,a8,jP];(try simp(disch:=omega)only[wrap64]);(try(refine gen2 ?_ ?_<;>intro hq<;>try simp[az,a8,jP]at hq)))|(refine T.ret (aD.data (Or.inr rfl) ?_ ?_)<;>simp[Tryz.results160,<-he]<;>omega)|refine T.r0 fun K hK=>?_|refine T.ct rfl ?_|refine T.seq ?_|refine T.block ?_|refine T.skip ?_
 ·have fX:p=l.length:=by omega
  subst fX;simp[fH]at he;repeat' first|(refine ab (hK _ ?_);clear hK K)|(refine af ?_;simp[az];(try(refine gen2 ?_ ?_<;>intro hq<;>try simp[az]at hq)))|(refine T.ret (aD.data (Or.inr rfl) ?_ ?_)<;>simp[Tryz.results160,he]<;>omega)|refine T.r0 fun K hK=>?_|refine T.cf rfl ?_|refine T.seq ?_|refine T.exit ?_
theorem ug (f:FuncId) (l:List ea) (q:ea->Bool) (hl:l.length<=4611686018427387904) (hf:∀t∈l,ah aaE f [Q0 t] [] (.b (q t)) [] []):
  ah aaE 139 [.l (l.map jP),.c (.fn f [])] [] (.b (l.any q)) [] []:=by
 refine ah.ob Tryz.func139 Tryz.ntmps139 rfl ?_;rw[<-pr (i:=0) (by omega)];repeat' first|(refine ab (hK _ ?_);clear hK K)|((first|refine af ?_|refine aa rfl (yQ f l q hl hf) ?_);simp;(try(refine gen2 ?_ ?_<;>intro hq<;>try simp at hq)))|(refine T.ret (aD.data (Or.inr rfl) ?_ ?_)<;>simp[Tryz.results139, *]<;>omega)|refine T.r0 fun K hK=>?_
theorem Aq (b:ea) (hn:gl b.ty<=1099511627776):ah aaE 140 [Q0 b] [] (.b (!(eh b.name && ak 4 b.ty))) [] []:=by
 have h1:=zj b.name;have h2:=fJ b.ty hn;generalize eh b.name=q1 at*;generalize ak 4 b.ty=q2 at*;refine ah.ob Tryz.func140 Tryz.ntmps140 rfl ?_;repeat' first|(refine ab (hK _ ?_);clear hK K)|((first|refine af ?_|refine aa rfl (h1) ?_|refine aa rfl (h2) ?_);simp;(try(refine gen2 ?_ ?_<;>intro hq<;>try simp at hq)))|(refine T.ret (aD.data (Or.inr rfl) ?_ ?_)<;>simp[Tryz.results140, *]<;>omega)|refine T.r0 fun K hK=>?_
theorem B7 (ctx:List ea) (hl:ctx.length<=1099511627776) (hn:∀b∈ctx,gl b.ty<=1099511627776):ah aaE 113 [kS ctx] [] (.b (Dc ctx)) [] []:=by
 have h:=ug 140 ctx _ (by omega) (fun b hb=>Aq b (hn b hb));have e:Dc ctx=(decide (ctx.length<=12)&& !ctx.any fun b=> !(eh b.name && ak 4 b.ty)):=by
  have h2:=pw (fun b:ea=>eh b.name && ak 4 b.ty) ctx;rw[h2,Dc,Bool.and_comm]
 rw[e];generalize (ctx.any fun b=> !(eh b.name && ak 4 b.ty))=q at*;have e2:(decide ((ctx.length:Int)<=12))=decide (ctx.length<=12):=decide_eq_decide.2 (by omega);refine ah.ob Tryz.func113 Tryz.ntmps113 rfl ?_;repeat' first|(refine ab (hK _ ?_);clear hK K)|((first|refine af ?_|refine aa rfl (h) ?_);simp;(try(refine gen2 ?_ ?_<;>intro hq<;>try simp at hq)))|(refine T.ret (aD.data (Or.inr rfl) ?_ ?_)<;>simp[Tryz.results113, *]<;>omega)|refine T.r0 fun K hK=>?_
theorem vo:(a b:aE)->gl a<=1099511627776->ah aaE 28 [eu a,eu b] [] (.b (ez a b)) [] []
 |.mk k l,b,hn=>by
  rw[gG]at hn;have hlen:=ie l;have hc:=qL 28 l b.kids ez (by simp at hn;omega) (fun u hu v hv=>vo u v (by have:=ig hu;simp at hn;omega));rw[Dh];simp only[aE.bQ,aE.b4];generalize iT ez l b.kids=R at hc⊢;refine ah.ob Tryz.func28 Tryz.ntmps28 rfl ?_;repeat' first|(refine ab (hK _ ?_);clear hK K)|((first|refine af ?_|refine aa rfl (hc) ?_);simp;(try(refine gen2 ?_ ?_<;>intro hq<;>try simp at hq)))|(refine T.ret (aD.data (Or.inr rfl) ?_ ?_)<;>simp[Tryz.results28, *]<;>omega)|refine T.r0 fun K hK=>?_
termination_by a=>SizeOf.sizeOf a
decreasing_by have:=List.sizeOf_lt_of_mem hu;simp;omega
theorem xC (e:ao):ah aaE 48 [c6 e] [] (.b (bD e.kind)) [] []:=by
 rw[bD];refine ah.ob Tryz.func48 Tryz.ntmps48 rfl ?_;repeat' first|(refine ab (hK _ ?_);clear hK K)|(refine af ?_;simp;(try(refine gen2 ?_ ?_<;>intro hq<;>try simp at hq)))|(refine T.ret (aD.data (Or.inr rfl) ?_ ?_)<;>simp[Tryz.results48, *]<;>omega)|refine T.r0 fun K hK=>?_
theorem F6 (f:FuncId) (g:ao->ao) (q:ao->Prop) (hq:∀e,q e->∀u∈e.kids,q u)
  (hf:∀e,q e->ah aaE f [c6 (.mk e.kind e.name e.num e.ty e.fr e.label (e.kids.map (mapM g)))] [] (c6 (mapM g e)) [] []):
  ∀(e:ao),q e->fy e<=1099511627776->ah aaE 46 [c6 e,.c (.fn f [])] [] (c6 (mapM g e)) [] []:=by
 intro e;induction e using ao.ind with
 |h e ih=>
  intro S7 hn;obtain⟨kp,qd,CP,tc⟩:=c4 hn;have h1:=fK e.ty kp;have h2:=fK e.fr qd;have h3:=hf e S7;simp only[c6,ao.bQ,ao.b4,ao.lX,ao.q7,ao.sd,ao.se,ao.lp]at h3;generalize mapM g e=R at h3⊢;refine ah.ob Tryz.func46 Tryz.ntmps46 rfl ?_;repeat' first|(refine ab (hK _ ?_);clear hK K)|(refine af ?_;simp;(try(refine gen2 ?_ ?_<;>intro hq<;>(try simp at hq)<;>try(have:True:=hq;clear this hq))))|refine T.r0 fun K hK=>?_|refine T.seq ?_|refine T.block ?_
  refine T.qX 5 9 28 (by simp) ?_;refine T.dA (α:=Nat×List (List CV)) [1,2,4,9,10] (fun x=>[(5,.c (.own 0 x.1)),(11,.i x.1)]) (fun x=>[]) (fun x=>x.2) (fun x _=>[{sz:=9,eJ:=28,rows:=((e.kids.map (mapM g)).take x.1).map gA,wr:=true}]) (fun x=>e.kids.length+1-x.1) (fun x=>x.1<=e.kids.length) (by simp;rfl) (fun x hx=>?_) (0,[]) (by simp) (by simp) (by simp) (by simp);obtain⟨p,G⟩:=x;dsimp only at hx⊢;simp only[gi,aaG,aaF];by_cases az:p<e.kids.length
  ·obtain⟨u,ht⟩:=bX az;have fz:u∈e.kids:=aaK ht;have a8:e.kids[p]=u:=by rw[aaI az]at ht;exact Option.some.inj ht
   have jb:e.kids.drop p=u::e.kids.drop (p+1):=by rw[aaJ az,a8]
   have hu:=ih u fz (hq e S7 u fz) (by have:=tc u fz;omega);have qe:(e.kids.map (mapM g)).take (p+1)=(e.kids.map (mapM g)).take p++[mapM g u]:=by rw[aaP,List.getElem?_map,ht];rfl
   have qc:min p (e.kids.map (mapM g)).length=p:=by simp;omega
   generalize (e.kids.map (mapM g))=Z at*;repeat' first|(refine ab (hK _ ?_);clear hK K)|((first|refine af ?_|refine aa rfl (hu) ?_);simp[az,a8,qc];(try simp(disch:=omega)only[wrap64]);(try(refine gen2 ?_ ?_<;>intro hq<;>(try simp[az,a8,qc]at hq)<;>try(have:True:=hq;clear this hq))))|(refine⟨by omega,by omega,?_⟩)|(refine⟨(p+1,_),by dsimp only;omega,by dsimp only;omega,rfl,?_,?_⟩<;>simp(disch:=omega) [wrap64,qe,ax,qc])|refine T.r0 fun K hK=>?_|refine T.r1 fun K hK=>?_|refine T.ct rfl ?_|refine T.seq ?_|refine T.block ?_|refine T.skip ?_
  ·have fX:p=e.kids.length:=by omega
   subst fX;have qc:(e.kids.map (mapM g)).length=e.kids.length:=by simp
   rw[aaR (by omega)];generalize (e.kids.map (mapM g))=Z at*;repeat' first|((first|refine ab (hK _ ?_)|refine aA (hK _ ?_));clear hK K)|((first|refine af ?_|refine aG ?_|refine aa rfl (h1) ?_|refine aa rfl (h2) ?_|(refine aa ?_ (h3) ?_;(focus(solve|simp[az,qc]))));simp[az,qc];(try(refine gen2 ?_ ?_<;>intro hq<;>(try simp[az,qc]at hq)<;>try(have:True:=hq;clear this hq))))|(refine T.ret (aD.val (Or.inr rfl) ?_)<;>simp[aF,Tryz.results46]<;>omega)|refine T.rd (id:=7) mixed (fun _=>false) [8,10,12] (by kernel_rfl) fun K hK=>?_|refine T.r0 fun K hK=>?_|refine T.cf rfl ?_|refine T.seq ?_|refine T.exit ?_
end Go.Proofs.YtloolmchekcmeaaGreat
namespace Go.Proofs.YtloolmchekcmeaaGreat
attribute [-simp] Go.Av.di Go.Av.yl Go.Av.eS Go.Av.AV.ew Go.Av.CV.ew Go.Av.iG Go.Av.AV.dF Go.Av.CV.dF Go.Av.cb Go.Av.eL Go.Av.fj Go.Av.fa Go.Av.cT Go.Av.b9
open Go Go.Av
attribute [local irreducible] T ah TX EX LX bw dh bR cA gA aE.kind aE.kids ao.kind ao.name ao.num ao.ty ao.fr ao.label ao.kids
attribute [local simp] aQ ax
set_option maxHeartbeats 16000000
set_option maxRecDepth 8000
attribute [local simp] abc
theorem B8 (l:List ea) (hl:l.length<=1099511627776):ah aaE 161 [kS l] [] (.c (.own 0 l.length)) [] [{sz:=3,eJ:=146,rows:=l.map jP,wr:=true}]:=by
 refine ah.ob Tryz.func161 Tryz.ntmps161 rfl ?_;refine T.rs (fun _=>false) fun K hK=>?_
 refine af ?_;simp;refine ab (hK _ ?_);clear hK K;refine T.seq ?_;refine T.NS rfl rfl rfl rfl rfl rfl HG rfl (by simp;rfl) fun bb PO=>?_
 cases bb
 ·repeat' first|(refine ab (hK _ ?_);clear hK K)|(refine af ?_;simp[jP];(try(refine gen2 ?_ ?_<;>intro hq<;>try simp[jP]at hq)))|(refine⟨by omega,by omega,?_⟩)|refine T.rs (id:=3) (fun i=>i==0) fun K hK=>?_|refine T.cf rfl ?_|refine T.skip ?_
  refine T.ret (aD.Hv 0 (Or.inr rfl) (ys:=[_]) ?_ rfl ?_)<;>simp[aF,Tryz.results161,jP]<;>rfl
 ·have:l=[]:=by simpa using PO rfl
  subst this;refine T.cond rfl (fun al=>?_) (fun al=>absurd al (by decide));refine T.rs (fun _=>false) fun K hK=>?_
  refine af ?_;simp;refine ab (hK _ ?_);clear hK K;refine T.qX 2 3 146 (by simp) ?_;refine T.ret (aD.Hv 0 (Or.inr rfl) (ys:=[_]) ?_ rfl ?_)<;>simp[aF,Tryz.results161]
theorem F7 (ctx:List ea) (s:List UInt8) (hl:ctx.length<=1099511627776):
  ah aaE 169 [kS ctx,.s s] [] (.bq (match cX ctx s with|some t=>[eu t,.b true]|none=>[eu bx,.b false])) [] []:=by
 have HH:∀p,p<ctx.length->cX (ctx.take (p+1)) s=if(ctx[p]?.map ea.name)=some s then ctx[p]?.map ea.ty else cX (ctx.take p) s:=by
  have C1:∀(l:List ea) (b:ea),cX (l++[b]) s=if b.name=s then some b.ty else cX l s:=by
   intro l;induction l with
   |nil=>intro b;simp[cX]
   |cons x r ih=>
    intro b;simp only[aaG,cX,ih b];by_cases hb:b.name=s
    ·simp[hb]
    ·simp[hb]
  intro p hp;rw[aaP,aaI hp];simp only[Option.toList_some,C1,aa9,Option.some.injEq]
 refine ah.ob Tryz.func169 Tryz.ntmps169 rfl ?_;repeat' first|(refine ab (hK _ ?_);clear hK K)|(refine af ?_;simp;(try simp(disch:=omega)only[wrap64]);(try(refine gen2 ?_ ?_<;>intro hq<;>try simp at hq)))|refine T.r0 fun K hK=>?_|refine T.seq ?_|refine T.block ?_
 obtain⟨R,hR⟩:∃R,cX ctx s=R:=⟨_,rfl⟩;rw[hR];refine T.dA (α:=Nat) [0,1,4] (fun p=>[(6,.i ((p:Int)-1))]) (fun p=>[]) (fun _=>[]) (fun _ A=>A) (fun p=>p) (fun p=>p<=ctx.length/\cX (ctx.take p) s=R) (by simp;rfl) (fun p hp=>?_) ctx.length (by simpa using hR) (by simp) (by simp) (by simp);obtain⟨hi,he⟩:=hp;simp only[gi,List.append_nil,aaG,aaF];cases p with
 |zero=>
  simp[cX]at he;subst he;repeat' first|(refine ab (hK _ ?_);clear hK K)|(refine af ?_;simp;(try(refine gen2 ?_ ?_<;>intro hq<;>try simp at hq)))|(refine T.ret (aD.bq (Or.inr rfl) ?_)<;>simp[aF,Tryz.results169]<;>omega)|refine T.r0 fun K hK=>?_|refine T.cf rfl ?_|refine T.seq ?_|refine T.exit ?_
 |succ p=>
  rw[HH p (by omega)]at he;have az:p<ctx.length:=by omega
  obtain⟨b,ht⟩:=bX az;have fz:b∈ctx:=aaK ht;have a8:ctx[p]=b:=by rw[aaI az]at ht;exact Option.some.inj ht
  have mB:(0:Int)<=(p:Int)+1-1:=by omega
  have HI:((p:Int)+1-1)=p:=by omega
  rw[ht]at he;by_cases hb:b.name=s
  ·simp[hb]at he;subst he;repeat' first|(refine ab (hK _ ?_);clear hK K)|(refine af ?_;simp[az,a8,mB,HI,hb,jP];(try simp(disch:=omega)only[wrap64]);(try(refine gen2 ?_ ?_<;>intro hq<;>try simp[az,a8,mB,HI,hb,jP]at hq)))|(refine T.ret (aD.bq (Or.inr rfl) ?_)<;>simp[aF,Tryz.results169]<;>omega)|refine T.r0 fun K hK=>?_|refine T.ct rfl ?_|refine T.seq ?_|refine T.block ?_|refine T.skip ?_
  ·simp[hb]at he;repeat' first|(refine ab (hK _ ?_);clear hK K)|(refine af ?_;simp[az,a8,mB,HI,hb,jP];(try simp(disch:=omega)only[wrap64]);(try(refine gen2 ?_ ?_<;>intro hq<;>try simp[az,a8,mB,HI,hb,jP]at hq)))|(refine⟨p,by dsimp only;omega,⟨by omega,he⟩,rfl,rfl,?_⟩;simp(disch:=omega) [wrap64])|refine T.r0 fun K hK=>?_|refine T.r1 fun K hK=>?_|refine T.ct rfl ?_|refine T.cf rfl ?_|refine T.seq ?_|refine T.block ?_|refine T.skip ?_
def WT (ctx:List ea) (e:ao) (ts:List aE) (r:Option (List aE×aE)):Prop:=∃ws t,(∀p,r=some p->p=(ws,t))/\ah aaE 162 [kS ctx,c6 e,Lv ts] [] (.bq [Lv ws,eu t,.b r.isSome]) [] []
theorem JX (ctx:List ea) (hl:ctx.length<=1099511627776) (e:ao) (hk:e.kind=1):WT ctx e [] (cw ctx e.kind e.name e.ty []):=by
 have hint:=cV 2;have ed:=cV 3;have mD:=F7 ctx e.name hl;rw[show cw ctx e.kind e.name e.ty []=(cX ctx e.name).map fun t=>([],t) by simp[cw,hk]];cases hr:cX ctx e.name with
 |none=>
  rw[hr]at mD;refine⟨[],bx,by simp,?_⟩;simp only[abb,aa8]at mD⊢;refine ah.ob Tryz.func162 Tryz.ntmps162 rfl ?_;repeat' first|((first|refine ab (hK _ ?_)|refine aA (hK _ ?_));clear hK K)|((first|refine af ?_|refine aG ?_|refine aa rfl (hint) ?_|refine aa rfl (ed) ?_|refine aa rfl (mD) ?_);simp[hk];(try(refine gen2 ?_ ?_<;>intro hq<;>try simp[hk]at hq)))|(refine T.ret (aD.bq (Or.inr rfl) ?_)<;>simp[aF,Tryz.results162]<;>omega)|refine T.rd (id:=5) mixed (fun _=>false) [3] (by kernel_rfl) fun K hK=>?_|refine T.r0 fun K hK=>?_|refine T.ct rfl ?_|refine T.seq ?_|refine T.block ?_
 |some t=>
  rw[hr]at mD;refine⟨[],t,by simp,?_⟩;simp only[aa9,aa7]at mD⊢;refine ah.ob Tryz.func162 Tryz.ntmps162 rfl ?_;repeat' first|((first|refine ab (hK _ ?_)|refine aA (hK _ ?_));clear hK K)|((first|refine af ?_|refine aG ?_|refine aa rfl (hint) ?_|refine aa rfl (ed) ?_|refine aa rfl (mD) ?_);simp[hk];(try(refine gen2 ?_ ?_<;>intro hq<;>try simp[hk]at hq)))|(refine T.ret (aD.bq (Or.inr rfl) ?_)<;>simp[aF,Tryz.results162]<;>omega)|refine T.rd (id:=5) mixed (fun _=>false) [3] (by kernel_rfl) fun K hK=>?_|refine T.r0 fun K hK=>?_|refine T.ct rfl ?_|refine T.seq ?_|refine T.block ?_
theorem JY (ctx:List ea) (e:ao) (hk:e.kind=2):WT ctx e [] (cw ctx e.kind e.name e.ty []):=by
 have hint:=cV 2;have ed:=cV 3;rw[show cw ctx e.kind e.name e.ty []=some ([],bP) by simp[cw,hk]];refine⟨[],bP,by simp,?_⟩;simp only[aa7];refine ah.ob Tryz.func162 Tryz.ntmps162 rfl ?_;repeat' first|((first|refine ab (hK _ ?_)|refine aA (hK _ ?_));clear hK K)|((first|refine af ?_|refine aG ?_|refine aa rfl (hint) ?_|refine aa rfl (ed) ?_);simp[hk];(try(refine gen2 ?_ ?_<;>intro hq<;>try simp[hk]at hq)))|(refine T.ret (aD.bq (Or.inr rfl) ?_)<;>simp[aF,Tryz.results162]<;>omega)|refine T.rd (id:=7) mixed (fun _=>false) [2] (by kernel_rfl) fun K hK=>?_|refine T.r0 fun K hK=>?_|refine T.ct rfl ?_|refine T.cf rfl ?_|refine T.seq ?_|refine T.block ?_
theorem JZ (ctx:List ea) (e:ao) (hk:e.kind=3):WT ctx e [] (cw ctx e.kind e.name e.ty []):=by
 have hint:=cV 2;have ed:=cV 3;rw[show cw ctx e.kind e.name e.ty []=some ([],c3) by simp[cw,hk]];refine⟨[],c3,by simp,?_⟩;simp only[aa7];refine ah.ob Tryz.func162 Tryz.ntmps162 rfl ?_;repeat' first|((first|refine ab (hK _ ?_)|refine aA (hK _ ?_));clear hK K)|((first|refine af ?_|refine aG ?_|refine aa rfl (hint) ?_|refine aa rfl (ed) ?_);simp[hk];(try(refine gen2 ?_ ?_<;>intro hq<;>try simp[hk]at hq)))|(refine T.ret (aD.bq (Or.inr rfl) ?_)<;>simp[aF,Tryz.results162]<;>omega)|refine T.rd (id:=10) mixed (fun _=>false) [2] (by kernel_rfl) fun K hK=>?_|refine T.r0 fun K hK=>?_|refine T.ct rfl ?_|refine T.cf rfl ?_|refine T.seq ?_|refine T.block ?_|refine T.skip ?_
theorem J0 (ctx:List ea) (e:ao) (hk:e.kind=4):WT ctx e [] (cw ctx e.kind e.name e.ty []):=by
 have hint:=cV 2;have ed:=cV 3;rw[show cw ctx e.kind e.name e.ty []=some ([],c3) by simp[cw,hk]];refine⟨[],c3,by simp,?_⟩;simp only[aa7];refine ah.ob Tryz.func162 Tryz.ntmps162 rfl ?_;repeat' first|((first|refine ab (hK _ ?_)|refine aA (hK _ ?_));clear hK K)|((first|refine af ?_|refine aG ?_|refine aa rfl (hint) ?_|refine aa rfl (ed) ?_);simp[hk];(try(refine gen2 ?_ ?_<;>intro hq<;>try simp[hk]at hq)))|(refine T.ret (aD.bq (Or.inr rfl) ?_)<;>simp[aF,Tryz.results162]<;>omega)|refine T.rd (id:=10) mixed (fun _=>false) [2] (by kernel_rfl) fun K hK=>?_|refine T.r0 fun K hK=>?_|refine T.r1 fun K hK=>?_|refine T.ct rfl ?_|refine T.cf rfl ?_|refine T.seq ?_|refine T.block ?_
theorem J1 (ctx:List ea) (e:ao) (a:aE) (hk:e.kind=5):WT ctx e [a] (cw ctx e.kind e.name e.ty [a]):=by
 have hint:=cV 2;have ed:=cV 3;have hb:=jU 4 e.ty a;rw[show cw ctx e.kind e.name e.ty [a]=some ([],.mk 4 [e.ty,a]) by simp[cw,hk]];refine⟨[],.mk 4 [e.ty,a],by simp,?_⟩;simp only[aa7];refine ah.ob Tryz.func162 Tryz.ntmps162 rfl ?_;repeat' first|((first|refine ab (hK _ ?_)|refine aA (hK _ ?_));clear hK K)|((first|refine af ?_|refine aG ?_|refine aa rfl (hint) ?_|refine aa rfl (ed) ?_|refine aa rfl (hb) ?_);simp[hk];(try(refine gen2 ?_ ?_<;>intro hq<;>try simp[hk]at hq)))|(refine T.ret (aD.bq (Or.inr rfl) ?_)<;>simp[aF,Tryz.results162]<;>omega)|refine T.rd (id:=12) mixed (fun _=>false) [7] (by kernel_rfl) fun K hK=>?_|refine T.r0 fun K hK=>?_|refine T.r1 fun K hK=>?_|refine T.ct rfl ?_|refine T.cf rfl ?_|refine T.seq ?_|refine T.block ?_
theorem J3 (ctx:List ea) (e:ao) (a b:aE) (hk:e.kind=6) (ha:ak 4 a=true) (hb:ak 4 b=true):WT ctx e [a,b] (cw ctx e.kind e.name e.ty [a,b]):=by
 have hint:=cV 2;have ed:=cV 3;have hm:=xA 4 (by omega) a (tV (.inl rfl) ha);rw[show cw ctx e.kind e.name e.ty [a,b]=match dO 4 a with|some (x,y)=>if aM b x=true then some ([.mk 4 [x,y],x],y)else none|none=>none by simp[cw,hk];rfl];cases hr:dO 4 a with
 |none=>
  rw[hr]at hm;have h2:=jU 4 bx bx;refine⟨[.mk 4 [bx,bx],bx],bx,by simp,?_⟩;simp only[aa8]at hm⊢;refine ah.ob Tryz.func162 Tryz.ntmps162 rfl ?_;repeat' first|((first|refine ab (hK _ ?_)|refine aA (hK _ ?_));clear hK K)|((first|refine af ?_|refine aG ?_|refine aa rfl (hint) ?_|refine aa rfl (ed) ?_|refine aa rfl (hm) ?_|(refine aa ?_ (h2) ?_;(focus(solve|simp[hk]))));simp[hk];(try(refine gen2 ?_ ?_<;>intro hq<;>try simp[hk]at hq)))|(refine T.ret (aD.bq (Or.inr rfl) ?_)<;>simp[aF,Tryz.results162,aQ]<;>omega)|refine T.rd (id:=15) mixed (fun _=>false) [15] (by kernel_rfl) fun K hK=>?_|refine T.r0 fun K hK=>?_|refine T.r1 fun K hK=>?_|refine T.ct rfl ?_|refine T.cf rfl ?_|refine T.seq ?_|refine T.block ?_
 |some p=>
  obtain⟨x,y⟩:=p;rw[hr]at hm;have h2:=jU 4 x y;have h3:=du b x (by have:=fY hb;omega);refine⟨[.mk 4 [x,y],x],y,?_,?_⟩
  ·intro p h;dsimp only at h;split at h<;>simp at h;exact h.symm
  dsimp only at hm⊢;rw[show(if aM b x=true then some ([aE.mk 4 [x,y],x],y)else none).isSome=aM b x by cases aM b x<;>rfl];generalize aM b x=c at h3;refine ah.ob Tryz.func162 Tryz.ntmps162 rfl ?_;repeat' first|((first|refine ab (hK _ ?_)|refine aA (hK _ ?_));clear hK K)|((first|refine af ?_|refine aG ?_|refine aa rfl (hint) ?_|refine aa rfl (ed) ?_|refine aa rfl (hm) ?_|refine aa rfl (h2) ?_|refine aa rfl (h3) ?_);simp[hk];(try(refine gen2 ?_ ?_<;>intro hq<;>try simp[hk]at hq)))|(refine T.ret (aD.bq (Or.inr rfl) ?_)<;>simp[aF,Tryz.results162,aQ]<;>omega)|refine T.rd (id:=15) mixed (fun _=>false) [15] (by kernel_rfl) fun K hK=>?_|refine T.r0 fun K hK=>?_|refine T.r1 fun K hK=>?_|refine T.ct rfl ?_|refine T.cf rfl ?_|refine T.seq ?_|refine T.block ?_
theorem J4 (ctx:List ea) (e:ao) (a b:aE) (hk:e.kind=7) (ha:ak 4 a=true) (hb:ak 4 b=true):WT ctx e [a,b] (cw ctx e.kind e.name e.ty [a,b]):=by
 have hint:=cV 2;have ed:=cV 3;have h1:=du a bP (by have:=fY ha;omega);have h2:=du b bP (by have:=fY hb;omega);rw[show cw ctx e.kind e.name e.ty [a,b]=if aM a bP=true/\aM b bP=true then some ([bP,bP],bP)else none by simp[cw,hk]];refine⟨[bP,bP],bP,?_,?_⟩
 ·intro p h;split at h<;>simp at h;exact h.symm
 rw[show(if aM a bP=true/\aM b bP=true then some ([bP,bP],bP)else none).isSome=(aM a bP && aM b bP) by cases aM a bP<;>cases aM b bP<;>rfl];generalize aM a bP=c1 at h1⊢;generalize aM b bP=c2 at h2⊢;refine ah.ob Tryz.func162 Tryz.ntmps162 rfl ?_;repeat' first|((first|refine ab (hK _ ?_)|refine aA (hK _ ?_));clear hK K)|((first|refine af ?_|refine aG ?_|refine aa rfl (hint) ?_|refine aa rfl (ed) ?_|(refine aa ?_ (h1) ?_;(focus(solve|simp[hk])))|(refine aa ?_ (h2) ?_;(focus(solve|simp[hk]))));simp[hk];(try(refine gen2 ?_ ?_<;>intro hq<;>try simp[hk]at hq)))|(refine T.ret (aD.bq (Or.inr rfl) ?_)<;>simp[aF,Tryz.results162, *,aQ]<;>omega)|refine T.rd (id:=21) mixed (fun _=>false) [17] (by kernel_rfl) fun K hK=>?_|refine T.r0 fun K hK=>?_|refine T.r1 fun K hK=>?_|refine T.ct rfl ?_|refine T.cf rfl ?_|refine T.seq ?_|refine T.block ?_|refine T.skip ?_
theorem J5 (ctx:List ea) (e:ao) (a b:aE) (hk:e.kind=8) (ha:ak 4 a=true) (hb:ak 4 b=true):WT ctx e [a,b] (cw ctx e.kind e.name e.ty [a,b]):=by
 have hint:=cV 2;have ed:=cV 3;have h1:=du a bP (by have:=fY ha;omega);have h2:=du b bP (by have:=fY hb;omega);rw[show cw ctx e.kind e.name e.ty [a,b]=if aM a bP=true/\aM b bP=true then some ([bP,bP],c3)else none by simp[cw,hk]];refine⟨[bP,bP],c3,?_,?_⟩
 ·intro p h;split at h<;>simp at h;exact h.symm
 rw[show(if aM a bP=true/\aM b bP=true then some ([bP,bP],c3)else none).isSome=(aM a bP && aM b bP) by cases aM a bP<;>cases aM b bP<;>rfl];generalize aM a bP=c1 at h1⊢;generalize aM b bP=c2 at h2⊢;refine ah.ob Tryz.func162 Tryz.ntmps162 rfl ?_;repeat' first|((first|refine ab (hK _ ?_)|refine aA (hK _ ?_));clear hK K)|((first|refine af ?_|refine aG ?_|refine aa rfl (hint) ?_|refine aa rfl (ed) ?_|(refine aa ?_ (h1) ?_;(focus(solve|simp[hk])))|(refine aa ?_ (h2) ?_;(focus(solve|simp[hk]))));simp[hk];(try(refine gen2 ?_ ?_<;>intro hq<;>try simp[hk]at hq)))|(refine T.ret (aD.bq (Or.inr rfl) ?_)<;>simp[aF,Tryz.results162, *,aQ]<;>omega)|refine T.rd (id:=21) mixed (fun _=>false) [17] (by kernel_rfl) fun K hK=>?_|refine T.r0 fun K hK=>?_|refine T.r1 fun K hK=>?_|refine T.ct rfl ?_|refine T.cf rfl ?_|refine T.seq ?_|refine T.block ?_
theorem J6 (ctx:List ea) (e:ao) (a b c:aE) (hk:e.kind=9) (ha:ak 4 a=true) (hb:ak 4 b=true) (hc:ak 4 c=true):WT ctx e [a,b,c] (cw ctx e.kind e.name e.ty [a,b,c]):=by
 have hint:=cV 2;have ed:=cV 3;have h1:=du a c3 (by have:=fY ha;omega);have h2:=du b c (by have:=fY hb;omega);rw[show cw ctx e.kind e.name e.ty [a,b,c]=if aM a c3=true/\aM b c=true then some ([c3,cG b c,cG b c],cG b c)else none by simp[cw,hk]];by_cases hq:aM a c3=true/\aM b c=true
 ·rw[if_pos hq];have h3:=JW (mu.of hb) (by omega) (mu.of hc) hq.2;rw[hq.1]at h1;rw[hq.2]at h2;refine⟨[c3,cG b c,cG b c],cG b c,by simp,?_⟩;generalize cG b c=mt at h3⊢;simp only[aa7];refine ah.ob Tryz.func162 Tryz.ntmps162 rfl ?_;repeat' first|((first|refine ab (hK _ ?_)|refine aA (hK _ ?_)|refine bz (hK _ ?_));clear hK K)|((first|refine af ?_|refine aG ?_|refine bO ?_|refine aa rfl (hint) ?_|refine aa rfl (ed) ?_|(refine aa ?_ (h1) ?_;(focus(solve|simp[hk])))|refine aa rfl (h2) ?_|refine aa rfl (h3) ?_);simp[hk];(try(refine gen2 ?_ ?_<;>intro hq<;>(try simp[hk]at hq)<;>try(have:True:=hq;clear this hq))))|(refine T.ret (aD.bq (Or.inr rfl) ?_)<;>simp[aF,Tryz.results162,aQ]<;>omega)|refine T.rd (id:=23) mixed (fun _=>false) [] (by kernel_rfl) fun K hK=>?_|refine T.pB (id:=25) mixed (fun _=>false) [7,8] [1,2,4,5,6] 8 [] (by kernel_rfl) fun K hK=>?_|(refine⟨?_,?_⟩;(focus(intros;refine aa rfl (h3) ?_;simp;done)))|refine T.rd (id:=26) mixed (fun _=>false) [6] (by kernel_rfl) fun K hK=>?_|refine T.r0 fun K hK=>?_|refine T.r1 fun K hK=>?_|refine T.ct rfl ?_|refine T.cf rfl ?_|refine T.seq ?_|refine T.block ?_|refine T.skip ?_
 ·rw[if_neg hq];refine⟨[],bx,by simp,?_⟩;simp only[aa8];generalize aM a c3=c1 at h1 hq⊢;generalize aM b c=c2 at h2 hq⊢;cases c1<;>cases c2
  ·refine ah.ob Tryz.func162 Tryz.ntmps162 rfl ?_;repeat' first|((first|refine ab (hK _ ?_)|refine aA (hK _ ?_));clear hK K)|((first|refine af ?_|refine aG ?_|refine aa rfl (hint) ?_|refine aa rfl (ed) ?_|(refine aa ?_ (h1) ?_;(focus(solve|simp[hk]))));simp[hk];(try(refine gen2 ?_ ?_<;>intro hq<;>(try simp[hk]at hq)<;>try(have:True:=hq;clear this hq))))|(refine T.ret (aD.bq (Or.inr rfl) ?_)<;>simp[aF,Tryz.results162, *]<;>omega)|refine T.rd (id:=23) mixed (fun _=>false) [] (by kernel_rfl) fun K hK=>?_|refine T.r0 fun K hK=>?_|refine T.r1 fun K hK=>?_|refine T.ct rfl ?_|refine T.cf rfl ?_|refine T.seq ?_|refine T.block ?_
  ·refine ah.ob Tryz.func162 Tryz.ntmps162 rfl ?_;repeat' first|((first|refine ab (hK _ ?_)|refine aA (hK _ ?_));clear hK K)|((first|refine af ?_|refine aG ?_|refine aa rfl (hint) ?_|refine aa rfl (ed) ?_|(refine aa ?_ (h1) ?_;(focus(solve|simp[hk]))));simp[hk];(try(refine gen2 ?_ ?_<;>intro hq<;>(try simp[hk]at hq)<;>try(have:True:=hq;clear this hq))))|(refine T.ret (aD.bq (Or.inr rfl) ?_)<;>simp[aF,Tryz.results162, *]<;>omega)|refine T.rd (id:=23) mixed (fun _=>false) [] (by kernel_rfl) fun K hK=>?_|refine T.r0 fun K hK=>?_|refine T.r1 fun K hK=>?_|refine T.ct rfl ?_|refine T.cf rfl ?_|refine T.seq ?_|refine T.block ?_
  ·refine ah.ob Tryz.func162 Tryz.ntmps162 rfl ?_;repeat' first|((first|refine ab (hK _ ?_)|refine aA (hK _ ?_));clear hK K)|((first|refine af ?_|refine aG ?_|refine aa rfl (hint) ?_|refine aa rfl (ed) ?_|(refine aa ?_ (h1) ?_;(focus(solve|simp[hk])))|refine aa rfl (h2) ?_);simp[hk];(try(refine gen2 ?_ ?_<;>intro hq<;>(try simp[hk]at hq)<;>try(have:True:=hq;clear this hq))))|(refine T.ret (aD.bq (Or.inr rfl) ?_)<;>simp[aF,Tryz.results162, *]<;>omega)|refine T.rd (id:=23) mixed (fun _=>false) [] (by kernel_rfl) fun K hK=>?_|refine T.r0 fun K hK=>?_|refine T.r1 fun K hK=>?_|refine T.ct rfl ?_|refine T.cf rfl ?_|refine T.seq ?_|refine T.block ?_
  ·exact absurd ⟨rfl,rfl⟩ hq
theorem H4 (ctx:List ea) (e:ao) (a b:aE) (hk:e.kind=10):WT ctx e [a,b] (cw ctx e.kind e.name e.ty [a,b]):=by
 have hint:=cV 2;have ed:=cV 3;have hb:=jU 5 a b;rw[show cw ctx e.kind e.name e.ty [a,b]=some ([],.mk 5 [a,b]) by simp[cw,hk]];refine⟨[],.mk 5 [a,b],by simp,?_⟩;simp only[aa7];refine ah.ob Tryz.func162 Tryz.ntmps162 rfl ?_;repeat' first|((first|refine ab (hK _ ?_)|refine aA (hK _ ?_));clear hK K)|((first|refine af ?_|refine aG ?_|refine aa rfl (hint) ?_|refine aa rfl (ed) ?_|refine aa rfl (hb) ?_);simp[hk];(try(refine gen2 ?_ ?_<;>intro hq<;>try simp[hk]at hq)))|(refine T.ret (aD.bq (Or.inr rfl) ?_)<;>simp[aF,Tryz.results162]<;>omega)|refine T.rd (id:=28) mixed (fun _=>false) [8] (by kernel_rfl) fun K hK=>?_|refine T.r0 fun K hK=>?_|refine T.r1 fun K hK=>?_|refine T.ct rfl ?_|refine T.cf rfl ?_|refine T.seq ?_|refine T.block ?_
theorem H5 (ctx:List ea) (e:ao) (a:aE) (hk:e.kind=11) (ha:ak 4 a=true):WT ctx e [a] (cw ctx e.kind e.name e.ty [a]):=by
 have hint:=cV 2;have ed:=cV 3;have hm:=xA 5 (by omega) a (tV (.inr rfl) ha);rw[show cw ctx e.kind e.name e.ty [a]=(dO 5 a).map fun p=>([.mk 5 [p.1,p.2]],p.1) by simp[cw,hk]];cases hr:dO 5 a with
 |none=>
  rw[hr]at hm;have h2:=jU 5 bx bx;refine⟨[.mk 5 [bx,bx]],bx,by simp,?_⟩;simp only[abb,aa8]at hm⊢;refine ah.ob Tryz.func162 Tryz.ntmps162 rfl ?_;repeat' first|((first|refine ab (hK _ ?_)|refine aA (hK _ ?_));clear hK K)|((first|refine af ?_|refine aG ?_|refine aa rfl (hint) ?_|refine aa rfl (ed) ?_|refine aa rfl (hm) ?_|(refine aa ?_ (h2) ?_;(focus(solve|simp[hk]))));simp[hk];(try(refine gen2 ?_ ?_<;>intro hq<;>try simp[hk]at hq)))|(refine T.ret (aD.bq (Or.inr rfl) ?_)<;>simp[aF,Tryz.results162,aQ]<;>omega)|refine T.rd (id:=35) mixed (fun _=>false) [7] (by kernel_rfl) fun K hK=>?_|refine T.r0 fun K hK=>?_|refine T.r1 fun K hK=>?_|refine T.cf rfl ?_|refine T.seq ?_|refine T.block ?_|refine T.skip ?_
 |some p=>
  obtain⟨x,y⟩:=p;rw[hr]at hm;have h2:=jU 5 x y;refine⟨[.mk 5 [x,y]],x,by simp,?_⟩;simp only[aa9,aa7]at hm⊢;refine ah.ob Tryz.func162 Tryz.ntmps162 rfl ?_;repeat' first|((first|refine ab (hK _ ?_)|refine aA (hK _ ?_));clear hK K)|((first|refine af ?_|refine aG ?_|refine aa rfl (hint) ?_|refine aa rfl (ed) ?_|refine aa rfl (hm) ?_|refine aa rfl (h2) ?_);simp[hk];(try(refine gen2 ?_ ?_<;>intro hq<;>try simp[hk]at hq)))|(refine T.ret (aD.bq (Or.inr rfl) ?_)<;>simp[aF,Tryz.results162,aQ]<;>omega)|refine T.rd (id:=35) mixed (fun _=>false) [7] (by kernel_rfl) fun K hK=>?_|refine T.r0 fun K hK=>?_|refine T.r1 fun K hK=>?_|refine T.cf rfl ?_|refine T.seq ?_|refine T.block ?_|refine T.skip ?_
theorem H6 (ctx:List ea) (e:ao) (a:aE) (hk:e.kind=12) (ha:ak 4 a=true):WT ctx e [a] (cw ctx e.kind e.name e.ty [a]):=by
 have hint:=cV 2;have ed:=cV 3;have hm:=xA 5 (by omega) a (tV (.inr rfl) ha);rw[show cw ctx e.kind e.name e.ty [a]=(dO 5 a).map fun p=>([.mk 5 [p.1,p.2]],p.2) by simp[cw,hk]];cases hr:dO 5 a with
 |none=>
  rw[hr]at hm;have h2:=jU 5 bx bx;refine⟨[.mk 5 [bx,bx]],bx,by simp,?_⟩;simp only[abb,aa8]at hm⊢;refine ah.ob Tryz.func162 Tryz.ntmps162 rfl ?_;repeat' first|((first|refine ab (hK _ ?_)|refine aA (hK _ ?_));clear hK K)|((first|refine af ?_|refine aG ?_|refine aa rfl (hint) ?_|refine aa rfl (ed) ?_|refine aa rfl (hm) ?_|(refine aa ?_ (h2) ?_;(focus(solve|simp[hk]))));simp[hk];(try(refine gen2 ?_ ?_<;>intro hq<;>try simp[hk]at hq)))|(refine T.ret (aD.bq (Or.inr rfl) ?_)<;>simp[aF,Tryz.results162,aQ]<;>omega)|refine T.rd (id:=35) mixed (fun _=>false) [7] (by kernel_rfl) fun K hK=>?_|refine T.r0 fun K hK=>?_|refine T.r1 fun K hK=>?_|refine T.ct rfl ?_|refine T.cf rfl ?_|refine T.seq ?_|refine T.block ?_|refine T.skip ?_
 |some p=>
  obtain⟨x,y⟩:=p;rw[hr]at hm;have h2:=jU 5 x y;refine⟨[.mk 5 [x,y]],y,by simp,?_⟩;simp only[aa9,aa7]at hm⊢;refine ah.ob Tryz.func162 Tryz.ntmps162 rfl ?_;repeat' first|((first|refine ab (hK _ ?_)|refine aA (hK _ ?_));clear hK K)|((first|refine af ?_|refine aG ?_|refine aa rfl (hint) ?_|refine aa rfl (ed) ?_|refine aa rfl (hm) ?_|refine aa rfl (h2) ?_);simp[hk];(try(refine gen2 ?_ ?_<;>intro hq<;>try simp[hk]at hq)))|(refine T.ret (aD.bq (Or.inr rfl) ?_)<;>simp[aF,Tryz.results162,aQ]<;>omega)|refine T.rd (id:=35) mixed (fun _=>false) [7] (by kernel_rfl) fun K hK=>?_|refine T.r0 fun K hK=>?_|refine T.r1 fun K hK=>?_|refine T.ct rfl ?_|refine T.cf rfl ?_|refine T.seq ?_|refine T.block ?_|refine T.skip ?_
theorem H7 (ctx:List ea) (e:ao) (a:aE) (hk:e.kind=13) (ha:ak 4 a=true):WT ctx e [a] (cw ctx e.kind e.name e.ty [a]):=by
 have hint:=cV 2;have ed:=cV 3;have h1:=du a e.ty (by have:=fY ha;omega);rw[show cw ctx e.kind e.name e.ty [a]=if aM a e.ty=true then some ([e.ty],e.ty)else none by simp[cw,hk]];refine⟨[e.ty],e.ty,?_,?_⟩
 ·intro p h;split at h<;>simp at h;exact h.symm
 rw[show(if aM a e.ty=true then some ([e.ty],e.ty)else none).isSome=aM a e.ty by cases aM a e.ty<;>rfl];generalize aM a e.ty=c at h1⊢;refine ah.ob Tryz.func162 Tryz.ntmps162 rfl ?_;repeat' first|((first|refine ab (hK _ ?_)|refine aA (hK _ ?_));clear hK K)|((first|refine af ?_|refine aG ?_|refine aa rfl (hint) ?_|refine aa rfl (ed) ?_|refine aa rfl (h1) ?_);simp[hk];(try(refine gen2 ?_ ?_<;>intro hq<;>try simp[hk]at hq)))|(refine T.ret (aD.bq (Or.inr rfl) ?_)<;>simp[aF,Tryz.results162,aQ]<;>omega)|refine T.rd (id:=30) mixed (fun _=>false) [12] (by kernel_rfl) fun K hK=>?_|refine T.r0 fun K hK=>?_|refine T.r1 fun K hK=>?_|refine T.ct rfl ?_|refine T.cf rfl ?_|refine T.seq ?_|refine T.block ?_
@[simp] theorem PQ:td aaE 165=some {ag:=true,sz:=1,lG:=8,zero:=some [.d (.int .i64 0)],el:=none,ar:=none,fl:=[(0,1)],ik:=none,cL:=false,nj:=false}:=dI (by kernel_rfl)
theorem EJ (n:Int) (h0:0<=n) (hn:n<=1099511627776) (e:ao) (f t:aE) (hf:gl f<=1099511627776):
  ah aaE 163 [.c (.ptr 0 0),c6 e,eu f,eu t] (dV [[.i n]]) (c6 (qK n e f t).1) (dV [[.i (qK n e f t).2]]) []:=by
 have h1:=vo f t hf;simp only[qK];by_cases hq:ez f t=true
 ·rw[if_pos hq];rw[hq]at h1;refine ah.ob Tryz.func163 Tryz.ntmps163 rfl ?_;repeat' first|(refine ab (hK _ ?_);clear hK K)|((first|refine af ?_|refine aa rfl (h1) ?_);simp;(try(refine gen2 ?_ ?_<;>intro hq<;>(try simp at hq)<;>try(have:True:=hq;clear this hq))))|refine T.r0 fun K hK=>?_|refine T.ct rfl ?_|refine T.seq ?_
  refine T.ret (aD.oU (Or.inr rfl) ?_ ?_ ?_)<;>simp[Tryz.results163]
 ·rw[if_neg hq];rw[show ez f t=false by simpa using hq]at h1;refine ah.ob Tryz.func163 Tryz.ntmps163 rfl ?_;repeat' first|((first|refine ab (hK _ ?_)|refine aA (hK _ ?_));clear hK K)|((first|refine af ?_|refine aG ?_|refine aa rfl (h1) ?_);simp;(try simp(disch:=omega)only[wrap64]);(try(refine gen2 ?_ ?_<;>intro hq<;>(try simp at hq)<;>try(have:True:=hq;clear this hq))))|refine T.rd (id:=4) mixed (fun _=>false) [9] (by kernel_rfl) fun K hK=>?_|refine T.r0 fun K hK=>?_|refine T.cf rfl ?_|refine T.seq ?_|refine T.skip ?_
  refine T.ret (aD.oU (Or.inr rfl) ?_ ?_ ?_)<;>simp[Tryz.results163,ax]
end Go.Proofs.YtloolmchekcmeaaGreat
namespace Go.Proofs.YtloolmchekcmeaaGreat
attribute [-simp] Go.Av.eS Go.Av.AV.ew Go.Av.CV.ew Go.Av.iG Go.Av.AV.dF Go.Av.CV.dF Go.Av.cb Go.Av.eL Go.Av.fj Go.Av.fa Go.Av.cT Go.Av.b9
open Go Go.Av
attribute [local irreducible] T ah TX EX LX bw dh bR cA gA aE.kind aE.kids ao.kind ao.name ao.num ao.ty ao.fr ao.label ao.kids
attribute [local simp] aQ ax
set_option maxHeartbeats 16000000
set_option maxRecDepth 8000
attribute [local simp] abc
theorem zB (ctx:List ea) (hl:ctx.length<=1099511627776) (e:ao) (ts:List aE) (hk:0<e.kind/\e.kind<14) (hlen:(ts.length:Int)=cD e.kind) (b7:∀u∈ts,ak 4 u=true):
  WT ctx e ts (cw ctx e.kind e.name e.ty ts):=by
 have LV:e.kind=1\/e.kind=2\/e.kind=3\/e.kind=4\/e.kind=5\/e.kind=6\/e.kind=7\/e.kind=8\/e.kind=9\/e.kind=10\/e.kind=11\/e.kind=12\/e.kind=13:=by omega
 have h0:cD e.kind=0->ts=[]:=fun h=>List.eq_nil_of_length_eq_zero (by omega)
 have h1:cD e.kind=1->∃a,ts=[a]:=fun h=>by
  match ts,hlen with
  |[a],_=>exact⟨a,rfl⟩
  |[],h'=>simp at h';omega
  |_::_::_,h'=>simp at h';omega
 have h2:cD e.kind=2->∃a b,ts=[a,b]:=fun h=>by
  match ts,hlen with
  |[a,b],_=>exact⟨a,b,rfl⟩
  |[],h'=>simp at h';omega
  |[_],h'=>simp at h';omega
  |_::_::_::_,h'=>simp at h';omega
 have h3:cD e.kind=3->∃a b c,ts=[a,b,c]:=fun h=>by
  match ts,hlen with
  |[a,b,c],_=>exact⟨a,b,c,rfl⟩
  |[],h'=>simp at h';omega
  |[_],h'=>simp at h';omega
  |[_,_],h'=>simp at h';omega
  |_::_::_::_::_,h'=>simp at h';omega
 rcases LV with h|h|h|h|h|h|h|h|h|h|h|h|h
 ·obtain rfl:=h0 (by rw[h];rfl);exact JX ctx hl e h
 ·obtain rfl:=h0 (by rw[h];rfl);exact JY ctx e h
 ·obtain rfl:=h0 (by rw[h];rfl);exact JZ ctx e h
 ·obtain rfl:=h0 (by rw[h];rfl);exact J0 ctx e h
 ·obtain⟨a,rfl⟩:=h1 (by rw[h];rfl);exact J1 ctx e a h
 ·obtain⟨a,b,rfl⟩:=h2 (by rw[h];rfl);exact J3 ctx e a b h (b7 a (by simp)) (b7 b (by simp))
 ·obtain⟨a,b,rfl⟩:=h2 (by rw[h];rfl);exact J4 ctx e a b h (b7 a (by simp)) (b7 b (by simp))
 ·obtain⟨a,b,rfl⟩:=h2 (by rw[h];rfl);exact J5 ctx e a b h (b7 a (by simp)) (b7 b (by simp))
 ·obtain⟨a,b,c,rfl⟩:=h3 (by rw[h];rfl);exact J6 ctx e a b c h (b7 a (by simp)) (b7 b (by simp)) (b7 c (by simp))
 ·obtain⟨a,b,rfl⟩:=h2 (by rw[h];rfl);exact H4 ctx e a b h
 ·obtain⟨a,rfl⟩:=h1 (by rw[h];rfl);exact H5 ctx e a h (b7 a (by simp))
 ·obtain⟨a,rfl⟩:=h1 (by rw[h];rfl);exact H6 ctx e a h (b7 a (by simp))
 ·obtain⟨a,rfl⟩:=h1 (by rw[h];rfl);exact H7 ctx e a h (b7 a (by simp))
def mw (es:List ao) (ts:List aE):Option (List ao×List aE)×Int->Option (List ao×List aE)×Int
 |(none,n)=>(none,n)
 |(some (es',ts'),n)=>(some (es++es',ts++ts'),n)
theorem xD (r:Option (List ao×List aE)×Int):mw [] [] r=r:=by
 obtain⟨o,n⟩:=r;cases o<;>rfl
theorem vp (es:List ao) (ts:List aE) (e:ao) (t:aE) (m:Int) (f:Int->Option (List ao×List aE)×Int):mw es ts (pC (some (e,t),m) f)=mw (es++[e]) (ts++[t]) (f m):=by
 simp only[pC];cases f m with
 |mk o n=>
  cases o with
  |none=>rfl
  |some p=>obtain⟨a,b⟩:=p;simp[mw]
theorem B9 {ctx:List ea} {k:Int} {s:List UInt8} {ty:aE} {ts ws:List aE} {t:aE} (h:cw ctx k s ty ts=some (ws,t)):ws.length<=ts.length:=by
 simp only[cw]at h;split at h
 ·obtain⟨_,_,h'⟩:=aba.1 h;cases h';simp
 split at h
 ·cases h<;>simp
 split at h
 ·cases h<;>simp
 split at h
 ·split at h
  ·cases h<;>simp
  split at h
  ·obtain⟨_,_,h'⟩:=aba.1 h;cases h';simp
  split at h
  ·obtain⟨_,_,h'⟩:=aba.1 h;cases h';simp
  split at h
  ·split at h<;>cases h<;>simp
  ·cases h
 ·split at h
  ·split at h
   ·split at h<;>cases h<;>simp
   ·cases h
  split at h
  ·split at h<;>cases h<;>simp
  split at h
  ·split at h<;>cases h<;>simp
  split at h
  ·cases h<;>simp
  ·cases h
 ·split at h
  ·split at h<;>cases h<;>simp
  ·cases h
 ·cases h
theorem xE {ctx:List ea} {e:ao} {ts ws:List aE} {t:aE} (hc:kO ctx) (he:cr e.kind=true->ak 4 e.ty=true) (b7:∀u∈ts,ak 4 u=true) (h:cw ctx e.kind e.name e.ty ts=some (ws,t)):gl t<=1000:=by
 have key:∀{t:aE},ak 4 t=true->gl t<=100:=fun h=>by have:=fY h;omega
 simp only[cw]at h;split at h
 ·obtain⟨_,h1,h'⟩:=aba.1 h;cases h'
  obtain⟨b,h2,h3,_⟩:=pz h1;have:=key (hc b h2);rw[h3]at this;omega
 split at h
 ·cases h;simp[cH,cY]
 split at h
 ·cases h;simp[cH,cY]
 split at h
 ·rename_i a;have ha:=key (b7 a (by simp));split at h
  ·rename_i h5;cases h
   have:=key (he (by simp[cr,h5]));simp[cH,cY];omega
  split at h
  ·obtain⟨p,h1,h'⟩:=aba.1 h;obtain⟨x,y⟩:=p;cases h'
   have:=key (eR h1 (b7 a (by simp))).1;dsimp only;omega
  split at h
  ·obtain⟨p,h1,h'⟩:=aba.1 h;obtain⟨x,y⟩:=p;cases h'
   have:=key (eR h1 (b7 a (by simp))).2;dsimp only;omega
  split at h
  ·rename_i dt;split at h
   ·cases h
    have:=key (he (by simp[cr,dt]));omega
   ·cases h
  ·cases h
 ·rename_i a b;have ha:=key (b7 a (by simp));have hb:=key (b7 b (by simp));split at h
  ·split at h
   ·rename_i x y hm;split at h
    ·cases h
     have:=key (eR hm (b7 a (by simp))).2;omega
    ·cases h
   ·cases h
  split at h
  ·split at h
   ·cases h;simp[cH,cY]
   ·cases h
  split at h
  ·split at h
   ·cases h;simp[cH,cY]
   ·cases h
  split at h
  ·cases h;simp[cH,cY];omega
  ·cases h
 ·rename_i a b c;split at h
  ·split at h
   ·rename_i hq;cases h
    have:=key (nL 4 b c (b7 b (by simp)) (b7 c (by simp)) hq.2);omega
   ·cases h
  ·cases h
 ·cases h
theorem zC (c:Int) (es:List ao) (ts:List aE):iL c es ts []=(es,c):=by
 cases es<;>cases ts<;>rfl
theorem H8 (ctx:List ea) (hl:ctx.length<=1073741824) (e:ao) (hk:0<e.kind/\e.kind<14) (h5:e.kind≠5) (n:Int) (hlen:cD e.kind=e.kids.length)
  (h0:0<=n) (hn:n+fy e<=1073741824) (hc:kO ctx) (I8:cr e.kind=true->ak 4 e.ty=true)
  (hs:∀u∈e.kids,∀(n:Int) x t m,gd ctx u n=(some (x,t),m)->ak 4 t=true)
  (ih:∀u∈e.kids,∀n:Int,0<=n->n+fy u<=1073741824->ah aaE 142 [.c (.ptr 0 0),kS ctx,c6 u] (dV [[.i n]]) (.bq (ja (gd ctx u n).1)) (dV [[.i (gd ctx u n).2]]) []):
  ah aaE 142 [.c (.ptr 0 0),kS ctx,c6 e] (dV [[.i n]]) (.bq (ja (nO ctx e.kind e.name e.num e.ty e.fr e.label (eF ctx e.kids n)).1)) (dV [[.i (nO ctx e.kind e.name e.num e.ty e.fr e.label (eF ctx e.kids n)).2]]) []:=by
 obtain⟨R,hR⟩:∃R,eF ctx e.kids n=R:=⟨_,rfl⟩;rw[hR];have C8:e.kids.length<=3:=by have:=wU e.kind;omega
 have UK:n+eQ e.kids<=1073741824:=by rw[jO]at hn;omega
 refine ah.ob Tryz.func142 Tryz.ntmps142 rfl ?_;repeat' first|(refine ab (hK _ ?_);clear hK K)|(refine af ?_;simp[h5];(try(refine gen2 ?_ ?_<;>intro hq<;>try simp[h5]at hq)))|refine T.r0 fun K hK=>?_|refine T.cf rfl ?_|refine T.seq ?_|refine T.block ?_|refine T.skip ?_
 refine T.dM 4 8 9 28 (row:=[.d (.i e.kind),.d (.str e.name),.d (.i e.num),.d (.i e.ty.kind),.d (.sl (e.ty.kids.map cA)),.d (.i e.fr.kind),.d (.sl (e.fr.kids.map cA)),.d (.i e.label),.nil]) (by simp) (by simp) ?_;refine T.qX 11 2 25 (by simp) ?_
 refine T.dA (α:=Nat×List ao×List aE×Int×List (List CV)) [0,1,5,6,7,9,10,38,39] (fun x=>[(8,.b false),(11,.c (.own 1 x.1)),(40,.i x.1)]) (fun x=>[(0,[.d (.i x.2.2.2.1)]),(4,[.d (.i e.kind),.d (.str e.name),.d (.i e.num),.d (.i e.ty.kind),.d (.sl (e.ty.kids.map cA)),.d (.i e.fr.kind),.d (.sl (e.fr.kids.map cA)),.d (.i e.label),.own 0 x.1])]) (fun x=>x.2.2.2.2) (fun x _=>[{sz:=9,eJ:=28,rows:=x.2.1.map gA,wr:=true},{sz:=2,eJ:=25,rows:=x.2.2.1.map cA,wr:=true}]) (fun x=>e.kids.length+1-x.1)
  (fun x=>x.1<=e.kids.length/\x.2.1.length=x.1/\x.2.2.1.length=x.1/\(∀u∈x.2.2.1,ak 4 u=true)/\0<=x.2.2.2.1/\x.2.2.2.1+eQ (e.kids.drop x.1)<=1073741824/\mw x.2.1 x.2.2.1 (eF ctx (e.kids.drop x.1) x.2.2.2.1)=R) (by simp;rfl) (fun x hx=>?_) (0,[],[],n,[]) (by simp[xD,hR];omega) (by simp) (by simp) (by simp)
 obtain⟨p,es,ts,c,G⟩:=x;obtain⟨hi,H9,b7,jh,LW,J7,he⟩:=hx;dsimp only at hi H9 b7 jh LW J7 he⊢;simp only[gi,aaL,aaM,aaG,aaF];by_cases az:p<e.kids.length
 ·obtain⟨u,ht⟩:=bX az;have fz:u∈e.kids:=aaK ht;have a8:e.kids[p]=u:=by rw[aaI az]at ht;exact Option.some.inj ht
  have jb:e.kids.drop p=u::e.kids.drop (p+1):=by rw[aaJ az,a8]
  rw[jb]at he J7;simp only[eQ]at J7;have hu:=ih u fz c LW (by omega);have hle:=EB u ctx c;rw[eF]at he;cases hb:gd ctx u c with
  |mk o m=>
   rw[hb]at hu he hle;cases o with
   |none=>
    simp only[pC,mw]at he;subst he;simp only[nO,ja]at hu⊢;repeat' first|(refine ab (hK _ ?_);clear hK K)|(refine af ?_;simp[az,a8];(try simp(disch:=omega)only[wrap64]);(try(refine gen2 ?_ ?_<;>intro hq<;>try simp[az,a8]at hq)))|(refine j6 [0] (by simp) rfl rfl hu ?_;simp)|refine T.r0 fun K hK=>?_|refine T.ct rfl ?_|refine T.seq ?_|refine T.block ?_|refine T.skip ?_
    all_goals(first|refine T.ret (aD.gt (Or.inr rfl) ?_ ?_)|refine T.ret (aD.g1 (Or.inr rfl) ?_ ?_))<;>(simp[aF,Tryz.results142])
   |some q=>
    obtain⟨x,t⟩:=q;have kn:=hs u fz c x t m hb;simp only[ja]at hu hle;rw[vp]at he;repeat' first|((first|refine ab (hK _ ?_)|refine iM (hK _ ?_));clear hK K)|((first|refine af ?_|refine j7 ?_);simp[az,a8,H9,b7];(try simp(disch:=omega)only[wrap64]);(try(refine gen2 ?_ ?_<;>intro hq<;>try simp[az,a8,H9,b7]at hq)))|(refine j6 [0] (by simp) rfl rfl hu ?_;simp)|(refine⟨by omega,by omega,?_⟩)|refine T.HK (id:=13) mixed (fun _=>false) [4,8,10] [6,7] 5 [4] [0] (by kernel_rfl) fun K hK=>?_|refine T.r0 fun K hK=>?_|refine T.r1 fun K hK=>?_|refine T.ct rfl ?_|refine T.cf rfl ?_|refine T.seq ?_|refine T.block ?_|refine T.skip ?_
    refine⟨(p+1,es++[x],ts++[t],m,_),by dsimp only;omega,⟨by dsimp only;omega,by simp[H9],by simp[b7],fun v hv=>?_,by dsimp only at hle⊢;omega,by dsimp only at hle⊢;omega,he⟩,rfl,?_,?_⟩
    ·rcases aaV.1 hv with h|h
     ·exact jh v h
     ·simp at h;subst h;exact kn
    ·simp[ax,aQ]
    ·simp(disch:=omega) [wrap64]
 ·have fX:p=e.kids.length:=by omega
  subst fX;simp[eF,mw]at he;subst he;obtain⟨ws,t,LY,Ar⟩:=zB ctx (by omega) e ts hk (by rw[b7];exact hlen.symm) jh;cases zT:cw ctx e.kind e.name e.ty ts with
  |none=>
   rw[zT]at Ar;simp only[aa8]at Ar;simp only[nO,zT,ja];repeat' first|(refine ab (hK _ ?_);clear hK K)|((first|refine af ?_|(refine aa ?_ (Ar) ?_;(focus(solve|simp[az,b7]))));simp[az,b7];(try(refine gen2 ?_ ?_<;>intro hq<;>try simp[az,b7]at hq)))|refine T.r0 fun K hK=>?_|refine T.ct rfl ?_|refine T.cf rfl ?_|refine T.seq ?_|refine T.exit ?_
   all_goals(first|refine T.ret (aD.gt (Or.inr rfl) ?_ ?_)|refine T.ret (aD.g1 (Or.inr rfl) ?_ ?_))<;>(simp[aF,Tryz.results142])
  |some q=>
   obtain rfl:=LY q zT;rw[zT]at Ar;simp only[aa7]at Ar;have Ro:gl t<=1099511627776:=by have:=xE hc I8 jh zT;omega
   have J8:=fJ t Ro;cases uh:ak 4 t with
   |false=>
    rw[uh]at J8;simp only[nO,zT,uh,ja];repeat' first|(refine ab (hK _ ?_);clear hK K)|((first|refine af ?_|(refine aa ?_ (Ar) ?_;(focus(solve|simp[az,b7])))|refine aa rfl (J8) ?_);simp[az,b7];(try(refine gen2 ?_ ?_<;>intro hq<;>try simp[az,b7]at hq)))|refine T.r0 fun K hK=>?_|refine T.ct rfl ?_|refine T.cf rfl ?_|refine T.seq ?_|refine T.exit ?_
    all_goals(first|refine T.ret (aD.gt (Or.inr rfl) ?_ ?_)|refine T.ret (aD.g1 (Or.inr rfl) ?_ ?_))<;>(simp[aF,Tryz.results142])
   |true=>
    rw[uh]at J8;have wi:=B9 zT;repeat' first|(refine ab (hK _ ?_);clear hK K)|((first|refine af ?_|(refine aa ?_ (Ar) ?_;(focus(solve|simp[az,b7])))|refine aa rfl (J8) ?_);simp[az,b7];(try(refine gen2 ?_ ?_<;>intro hq<;>try simp[az,b7]at hq)))|refine T.r0 fun K hK=>?_|refine T.cf rfl ?_|refine T.seq ?_|refine T.block ?_|refine T.skip ?_|refine T.exit ?_
    obtain⟨F,hF⟩:∃F,iL c es ts ws=F:=⟨_,rfl⟩;rw[show nO ctx e.kind e.name e.num e.ty e.fr e.label (some (es,ts),c)=(if e.kind=13 then(F.1.head?.map fun x=>(x,t),F.2)else(some (.mk e.kind e.name e.num e.ty e.fr e.label F.1,t),F.2)) by simp only[nO,zT,hF];simp[uh]]
    refine T.dA (α:=Nat×List ao×Int×List (List CV)) [0,5,6,7,8,10,11,18,84,85] (fun x=>[(86,.i x.1)]) (fun x=>[(0,[.d (.i x.2.2.1)])]) (fun x=>x.2.2.2) (fun x _=>[{sz:=9,eJ:=28,rows:=x.2.1.map gA,wr:=true},{sz:=2,eJ:=25,rows:=ts.map cA,wr:=false}]) (fun x=>ws.length+1-x.1)
     (fun x=>x.1<=ws.length/\x.2.1.length=ts.length/\0<=x.2.2.1/\x.2.2.1<=c+x.1/\(x.2.1.take x.1++(iL x.2.2.1 (x.2.1.drop x.1) (ts.drop x.1) (ws.drop x.1)).1,(iL x.2.2.1 (x.2.1.drop x.1) (ts.drop x.1) (ws.drop x.1)).2)=F) (by simp;rfl) (fun x hx=>?_) (0,es,c,[]) (by simp[H9,b7,hF,LW]) (by simp) (by simp) (by simp)
    clear hF;obtain⟨p,cur,c2,G2⟩:=x;obtain⟨hp,kJ,Ia,Fp,DD⟩:=hx;dsimp only at hp kJ Ia Fp DD⊢;simp only[gi,aaL,aaM,aaG,aaF];by_cases lR:p<ws.length
    ·have Ad:p<ts.length:=by omega
     have J9:p<cur.length:=by omega
     obtain⟨w,hw⟩:∃w,ws[p]=w:=⟨_,rfl⟩;obtain⟨h,hh⟩:∃h,ts[p]=h:=⟨_,rfl⟩;obtain⟨x,hx⟩:∃x,cur[p]=x:=⟨_,rfl⟩;rw[drop_cons lR,drop_cons Ad,drop_cons J9,hw,hh,hx]at DD;have Rq:h∈ts:=by rw[<-hh];exact aaS Ad
     have Ca:=EJ c2 Ia (by omega) x h w (by have:=fY (jh h Rq);omega);have LZ:=w7 c2 x h w;simp only[iL]at DD;have kn:∀y,(cur.set p y).take (p+1)=cur.take p++[y]:=fun y=>by rw[aaP,aaY J9,aaT (aa2 p)];rfl
     have Rr:∀y,(cur.set p y).drop (p+1)=cur.drop (p+1):=fun y=>by rw[aaZ];simp
     generalize qK c2 x h w=CM at*;obtain⟨y,m⟩:=CM;dsimp only at DD LZ Ca;have Ox:p<e.kids.length:=by omega
     repeat' first|((first|refine ab (hK _ ?_)|refine iM (hK _ ?_));clear hK K)|((first|refine af ?_|refine j7 ?_);simp[lR,Ad,J9,Ox,hw,hh,hx,b7,kJ];(try simp(disch:=omega)only[wrap64]);(try(refine gen2 ?_ ?_<;>intro hq<;>try simp[lR,Ad,J9,Ox,hw,hh,hx,b7,kJ]at hq)))|(refine j6 [0] (by simp) rfl rfl Ca ?_;simp)|refine T.HK (id:=21) mixed (fun _=>false) [14,16] [1] 15 [0] [] (by kernel_rfl) fun K hK=>?_|refine T.r0 fun K hK=>?_|refine T.r1 fun K hK=>?_|refine T.ct rfl ?_|refine T.seq ?_|refine T.block ?_|refine T.skip ?_
     refine⟨(p+1,cur.set p y,m,_),by dsimp only;omega,⟨by dsimp only;omega,by simp[kJ],by dsimp only;omega,by dsimp only;omega,by dsimp only;rw[kn,Rr];simpa using DD⟩,(by simp only[gi,aaL,aaG,aaN,aaF];rfl),?_,?_⟩
     ·simp[ax]
     ·simp(disch:=omega) [wrap64]
    ·have M5:p=ws.length:=by omega
     subst M5;rw[aa0,zC,aaU]at DD;subst DD;by_cases dt:e.kind=13
     ·rw[if_pos dt];have uO:cur.length=1:=by rw[kJ,b7];rw[dt]at hlen;simp[cD]at hlen;omega
      match cur,uO with
      |[x],_=>
       simp only[List.head?_cons,aa9,ja];have oD:e.kids.length=1:=by simp at kJ;omega
       repeat' first|((first|refine ab (hK _ ?_)|refine iM (hK _ ?_));clear hK K)|((first|refine af ?_|refine j7 ?_);simp[lR,dt,oD];(try(refine gen2 ?_ ?_<;>intro hq<;>try simp[lR,dt,oD]at hq)))|refine T.Q5 (id:=24) mixed (fun _=>false) [5,6] [4] 6 [2] [] (by kernel_rfl) fun K hK=>?_|refine T.r0 fun K hK=>?_|refine T.ct rfl ?_|refine T.cf rfl ?_|refine T.seq ?_|refine T.exit ?_
       all_goals(first|refine T.ret (aD.gt (Or.inr rfl) ?_ ?_)|refine T.ret (aD.g1 (Or.inr rfl) ?_ ?_))<;>(simp[aF,Tryz.results142])
     ·rw[if_neg dt];simp only[ja];repeat' first|((first|refine ab (hK _ ?_)|refine iM (hK _ ?_));clear hK K)|((first|refine af ?_|refine j7 ?_);simp[lR,dt,kJ,b7];(try(refine gen2 ?_ ?_<;>intro hq<;>try simp[lR,dt,kJ,b7]at hq)))|refine T.Q5 (id:=25) mixed (fun _=>false) [2,3] [1] 3 [2] [] (by kernel_rfl) fun K hK=>?_|refine T.r0 fun K hK=>?_|refine T.cf rfl ?_|refine T.seq ?_|refine T.skip ?_|refine T.exit ?_
      all_goals(first|refine T.ret (aD.gt (Or.inr rfl) ?_ ?_)|refine T.ret (aD.g1 (Or.inr rfl) ?_ ?_))<;>(simp[aF,Tryz.results142,kJ,b7])
theorem Ib (ctx:List ea) (hl:ctx.length<=1073741824) (e:ao) (hk:0<e.kind/\e.kind<14) (h5:e.kind=5) (ins:List ea) (L0:ins=ctx++[⟨e.name,e.ty⟩]) (n:Int) (hlen:cD e.kind=e.kids.length)
  (h0:0<=n) (hn:n+fy e<=1073741824) (hc:kO ctx) (I8:cr e.kind=true->ak 4 e.ty=true)
  (hs:∀u∈e.kids,∀(n:Int) x t m,gd ins u n=(some (x,t),m)->ak 4 t=true)
  (ih:∀u∈e.kids,∀n:Int,0<=n->n+fy u<=1073741824->ah aaE 142 [.c (.ptr 0 0),kS ins,c6 u] (dV [[.i n]]) (.bq (ja (gd ins u n).1)) (dV [[.i (gd ins u n).2]]) []):
  ah aaE 142 [.c (.ptr 0 0),kS ctx,c6 e] (dV [[.i n]]) (.bq (ja (nO ctx e.kind e.name e.num e.ty e.fr e.label (eF ins e.kids n)).1)) (dV [[.i (nO ctx e.kind e.name e.num e.ty e.fr e.label (eF ins e.kids n)).2]]) []:=by
 obtain⟨R,hR⟩:∃R,eF ins e.kids n=R:=⟨_,rfl⟩;rw[hR];have C8:e.kids.length<=3:=by have:=wU e.kind;omega
 have UK:n+eQ e.kids<=1073741824:=by rw[jO]at hn;omega
 refine ah.ob Tryz.func142 Tryz.ntmps142 rfl ?_;repeat' first|((first|refine ab (hK _ ?_)|refine iM (hK _ ?_));clear hK K)|((first|(first|refine af ?_|refine j7 ?_)|refine jt rfl (B8 ctx (by omega)) ?_);simp[h5];(try(refine gen2 ?_ ?_<;>intro hq<;>try simp[h5]at hq)))|(refine⟨by omega,by omega,?_⟩)|refine T.HK (id:=3) mixed (fun _=>false) [1,8] [3,5,6,7] 2 [] [] (by kernel_rfl) fun K hK=>?_|refine T.r0 fun K hK=>?_|refine T.ct rfl ?_|refine T.seq ?_|refine T.block ?_
 refine T.seal 9 0 (ctx.length+1) (r:={sz:=3,eJ:=146,rows:=ins.map jP,wr:=true}) (by simp) (by simp[L0,jP]) (by simp[L0]) ?_;clear L0;refine T.dM 4 8 9 28 (row:=[.d (.i 5),.d (.str e.name),.d (.i e.num),.d (.i e.ty.kind),.d (.sl (e.ty.kids.map cA)),.d (.i e.fr.kind),.d (.sl (e.fr.kids.map cA)),.d (.i e.label),.nil]) (by simp) (by simp) ?_;refine T.qX 11 2 25 (by simp) ?_
 refine T.dA (α:=Nat×List ao×List aE×Int×List (List CV)) [0,1,5,6,7,9,10,38,39] (fun x=>[(8,.b false),(11,.c (.own 2 x.1)),(40,.i x.1)]) (fun x=>[(0,[.d (.i x.2.2.2.1)]),(4,[.d (.i 5),.d (.str e.name),.d (.i e.num),.d (.i e.ty.kind),.d (.sl (e.ty.kids.map cA)),.d (.i e.fr.kind),.d (.sl (e.fr.kids.map cA)),.d (.i e.label),.own 1 x.1])]) (fun x=>x.2.2.2.2) (fun x _=>[{sz:=3,eJ:=146,rows:=ins.map jP,wr:=false},{sz:=9,eJ:=28,rows:=x.2.1.map gA,wr:=true},{sz:=2,eJ:=25,rows:=x.2.2.1.map cA,wr:=true}]) (fun x=>e.kids.length+1-x.1)
  (fun x=>x.1<=e.kids.length/\x.2.1.length=x.1/\x.2.2.1.length=x.1/\(∀u∈x.2.2.1,ak 4 u=true)/\0<=x.2.2.2.1/\x.2.2.2.1+eQ (e.kids.drop x.1)<=1073741824/\mw x.2.1 x.2.2.1 (eF ins (e.kids.drop x.1) x.2.2.2.1)=R) (by simp;rfl) (fun x hx=>?_) (0,[],[],n,[]) (by simp[xD,hR];omega) (by simp) (by simp) (by simp)
 obtain⟨p,es,ts,c,G⟩:=x;obtain⟨hi,H9,b7,jh,LW,J7,he⟩:=hx;dsimp only at hi H9 b7 jh LW J7 he⊢;simp only[gi,aaL,aaM,aaG,aaF];by_cases az:p<e.kids.length
 ·obtain⟨u,ht⟩:=bX az;have fz:u∈e.kids:=aaK ht;have a8:e.kids[p]=u:=by rw[aaI az]at ht;exact Option.some.inj ht
  have jb:e.kids.drop p=u::e.kids.drop (p+1):=by rw[aaJ az,a8]
  rw[jb]at he J7;simp only[eQ]at J7;have hu:=ih u fz c LW (by omega);have hle:=EB u ins c;rw[eF]at he;cases hb:gd ins u c with
  |mk o m=>
   rw[hb]at hu he hle;cases o with
   |none=>
    simp only[pC,mw]at he;subst he;simp only[nO,ja]at hu⊢;repeat' first|(refine ab (hK _ ?_);clear hK K)|(refine af ?_;simp[az,a8];(try simp(disch:=omega)only[wrap64]);(try(refine gen2 ?_ ?_<;>intro hq<;>try simp[az,a8]at hq)))|(refine j6 [0] (by simp) rfl rfl hu ?_;simp)|refine T.r0 fun K hK=>?_|refine T.ct rfl ?_|refine T.seq ?_|refine T.block ?_|refine T.skip ?_
    all_goals(first|refine T.ret (aD.gt (Or.inr rfl) ?_ ?_)|refine T.ret (aD.g1 (Or.inr rfl) ?_ ?_))<;>(simp[aF,Tryz.results142])
   |some q=>
    obtain⟨x,t⟩:=q;have kn:=hs u fz c x t m hb;simp only[ja]at hu hle;rw[vp]at he;repeat' first|((first|refine ab (hK _ ?_)|refine iM (hK _ ?_));clear hK K)|((first|refine af ?_|refine j7 ?_);simp[az,a8,H9,b7];(try simp(disch:=omega)only[wrap64]);(try(refine gen2 ?_ ?_<;>intro hq<;>try simp[az,a8,H9,b7]at hq)))|(refine j6 [0] (by simp) rfl rfl hu ?_;simp)|(refine⟨by omega,by omega,?_⟩)|refine T.HK (id:=13) mixed (fun _=>false) [4,8,10] [6,7] 5 [4] [1] (by kernel_rfl) fun K hK=>?_|refine T.r0 fun K hK=>?_|refine T.r1 fun K hK=>?_|refine T.ct rfl ?_|refine T.cf rfl ?_|refine T.seq ?_|refine T.block ?_|refine T.skip ?_
    refine⟨(p+1,es++[x],ts++[t],m,_),by dsimp only;omega,⟨by dsimp only;omega,by simp[H9],by simp[b7],fun v hv=>?_,by dsimp only at hle⊢;omega,by dsimp only at hle⊢;omega,he⟩,rfl,?_,?_⟩
    ·rcases aaV.1 hv with h|h
     ·exact jh v h
     ·simp at h;subst h;exact kn
    ·simp[ax,aQ]
    ·simp(disch:=omega) [wrap64]
 ·have fX:p=e.kids.length:=by omega
  subst fX;simp[eF,mw]at he;subst he;obtain⟨ws,t,LY,Ar⟩:=zB ctx (by omega) e ts hk (by rw[b7];exact hlen.symm) jh;cases zT:cw ctx e.kind e.name e.ty ts with
  |none=>
   rw[zT]at Ar;simp only[aa8]at Ar;simp only[nO,zT,ja];repeat' first|(refine ab (hK _ ?_);clear hK K)|((first|refine af ?_|(refine aa ?_ (Ar) ?_;(focus(solve|simp[az,b7,h5]))));simp[az,b7,h5];(try(refine gen2 ?_ ?_<;>intro hq<;>try simp[az,b7,h5]at hq)))|refine T.r0 fun K hK=>?_|refine T.ct rfl ?_|refine T.cf rfl ?_|refine T.seq ?_|refine T.exit ?_
   all_goals(first|refine T.ret (aD.gt (Or.inr rfl) ?_ ?_)|refine T.ret (aD.g1 (Or.inr rfl) ?_ ?_))<;>(simp[aF,Tryz.results142])
  |some q=>
   obtain rfl:=LY q zT;rw[zT]at Ar;simp only[aa7]at Ar;have Ro:gl t<=1099511627776:=by have:=xE hc I8 jh zT;omega
   have J8:=fJ t Ro;cases uh:ak 4 t with
   |false=>
    rw[uh]at J8;simp only[nO,zT,uh,ja];repeat' first|(refine ab (hK _ ?_);clear hK K)|((first|refine af ?_|(refine aa ?_ (Ar) ?_;(focus(solve|simp[az,b7,h5])))|refine aa rfl (J8) ?_);simp[az,b7,h5];(try(refine gen2 ?_ ?_<;>intro hq<;>try simp[az,b7,h5]at hq)))|refine T.r0 fun K hK=>?_|refine T.ct rfl ?_|refine T.cf rfl ?_|refine T.seq ?_|refine T.exit ?_
    all_goals(first|refine T.ret (aD.gt (Or.inr rfl) ?_ ?_)|refine T.ret (aD.g1 (Or.inr rfl) ?_ ?_))<;>(simp[aF,Tryz.results142])
   |true=>
    rw[uh]at J8;have wi:=B9 zT;repeat' first|(refine ab (hK _ ?_);clear hK K)|((first|refine af ?_|(refine aa ?_ (Ar) ?_;(focus(solve|simp[az,b7,h5])))|refine aa rfl (J8) ?_);simp[az,b7,h5];(try(refine gen2 ?_ ?_<;>intro hq<;>try simp[az,b7,h5]at hq)))|refine T.r0 fun K hK=>?_|refine T.cf rfl ?_|refine T.seq ?_|refine T.block ?_|refine T.skip ?_|refine T.exit ?_
    obtain⟨F,hF⟩:∃F,iL c es ts ws=F:=⟨_,rfl⟩;rw[show nO ctx e.kind e.name e.num e.ty e.fr e.label (some (es,ts),c)=(if e.kind=13 then(F.1.head?.map fun x=>(x,t),F.2)else(some (.mk e.kind e.name e.num e.ty e.fr e.label F.1,t),F.2)) by simp only[nO,zT,hF];simp[uh]]
    refine T.dA (α:=Nat×List ao×Int×List (List CV)) [0,5,6,7,8,10,11,18,84,85] (fun x=>[(86,.i x.1)]) (fun x=>[(0,[.d (.i x.2.2.1)])]) (fun x=>x.2.2.2) (fun x _=>[{sz:=3,eJ:=146,rows:=ins.map jP,wr:=false},{sz:=9,eJ:=28,rows:=x.2.1.map gA,wr:=true},{sz:=2,eJ:=25,rows:=ts.map cA,wr:=false}]) (fun x=>ws.length+1-x.1)
     (fun x=>x.1<=ws.length/\x.2.1.length=ts.length/\0<=x.2.2.1/\x.2.2.1<=c+x.1/\(x.2.1.take x.1++(iL x.2.2.1 (x.2.1.drop x.1) (ts.drop x.1) (ws.drop x.1)).1,(iL x.2.2.1 (x.2.1.drop x.1) (ts.drop x.1) (ws.drop x.1)).2)=F) (by simp;rfl) (fun x hx=>?_) (0,es,c,[]) (by simp[H9,b7,hF,LW]) (by simp) (by simp) (by simp)
    clear hF;obtain⟨p,cur,c2,G2⟩:=x;obtain⟨hp,kJ,Ia,Fp,DD⟩:=hx;dsimp only at hp kJ Ia Fp DD⊢;simp only[gi,aaL,aaM,aaG,aaF];by_cases lR:p<ws.length
    ·have Ad:p<ts.length:=by omega
     have J9:p<cur.length:=by omega
     obtain⟨w,hw⟩:∃w,ws[p]=w:=⟨_,rfl⟩;obtain⟨h,hh⟩:∃h,ts[p]=h:=⟨_,rfl⟩;obtain⟨x,hx⟩:∃x,cur[p]=x:=⟨_,rfl⟩;rw[drop_cons lR,drop_cons Ad,drop_cons J9,hw,hh,hx]at DD;have Rq:h∈ts:=by rw[<-hh];exact aaS Ad
     have Ca:=EJ c2 Ia (by omega) x h w (by have:=fY (jh h Rq);omega);have LZ:=w7 c2 x h w;simp only[iL]at DD;have kn:∀y,(cur.set p y).take (p+1)=cur.take p++[y]:=fun y=>by rw[aaP,aaY J9,aaT (aa2 p)];rfl
     have Rr:∀y,(cur.set p y).drop (p+1)=cur.drop (p+1):=fun y=>by rw[aaZ];simp
     generalize qK c2 x h w=CM at*;obtain⟨y,m⟩:=CM;dsimp only at DD LZ Ca;have Ox:p<e.kids.length:=by omega
     repeat' first|((first|refine ab (hK _ ?_)|refine iM (hK _ ?_));clear hK K)|((first|refine af ?_|refine j7 ?_);simp[lR,Ad,J9,Ox,hw,hh,hx,b7,kJ];(try simp(disch:=omega)only[wrap64]);(try(refine gen2 ?_ ?_<;>intro hq<;>try simp[lR,Ad,J9,Ox,hw,hh,hx,b7,kJ]at hq)))|(refine j6 [0] (by simp) rfl rfl Ca ?_;simp)|refine T.HK (id:=21) mixed (fun _=>false) [14,16] [1] 15 [0] [] (by kernel_rfl) fun K hK=>?_|refine T.r0 fun K hK=>?_|refine T.r1 fun K hK=>?_|refine T.ct rfl ?_|refine T.seq ?_|refine T.block ?_|refine T.skip ?_
     refine⟨(p+1,cur.set p y,m,_),by dsimp only;omega,⟨by dsimp only;omega,by simp[kJ],by dsimp only;omega,by dsimp only;omega,by dsimp only;rw[kn,Rr];simpa using DD⟩,(by simp only[gi,aaL,aaG,aaN,aaF];rfl),?_,?_⟩
     ·simp[ax]
     ·simp(disch:=omega) [wrap64]
    ·have M5:p=ws.length:=by omega
     subst M5;rw[aa0,zC,aaU]at DD;subst DD;by_cases dt:e.kind=13
     ·exact absurd dt (by omega)
     ·rw[if_neg dt];simp only[ja];repeat' first|((first|refine ab (hK _ ?_)|refine iM (hK _ ?_));clear hK K)|((first|refine af ?_|refine j7 ?_);simp[lR,h5,kJ,b7];(try(refine gen2 ?_ ?_<;>intro hq<;>try simp[lR,h5,kJ,b7]at hq)))|refine T.Q5 (id:=25) mixed (fun _=>false) [2,3] [1] 3 [2] [] (by kernel_rfl) fun K hK=>?_|refine T.r0 fun K hK=>?_|refine T.cf rfl ?_|refine T.seq ?_|refine T.skip ?_|refine T.exit ?_
      all_goals(first|refine T.ret (aD.gt (Or.inr rfl) ?_ ?_)|refine T.ret (aD.g1 (Or.inr rfl) ?_ ?_))<;>(simp[aF,Tryz.results142,kJ,b7,h5])
theorem Ka:∀(e:ao) (d:Nat) (ctx:List ea) (n:Int),bj 14 d e=true->ctx.length+d<=1073741824->kO ctx->0<=n->n+fy e<=1073741824->
  ah aaE 142 [.c (.ptr 0 0),kS ctx,c6 e] (dV [[.i n]]) (.bq (ja (gd ctx e n).1)) (dV [[.i (gd ctx e n).2]]) []:=by
 intro e;induction e using ao.ind with
 |h e ih=>
  intro d ctx n hs hl hc h0 hn;obtain⟨d',rfl,dc,hlen,dS,lx⟩:=gH hs;have hb:=HJ e.kind _ hlen;have bZ:kO (cB ctx e):=by
   simp only[cB];split
   ·rename_i h5;exact hc.app (js dS (by simp[cr,h5]))
   ·exact hc
  have AU:(cB ctx e).length<=ctx.length+1:=by simp only[cB];split<;>simp
  have jh:∀u∈e.kids,∀(n:Int) x t m,gd (cB ctx e) u n=(some (x,t),m)->ak 4 t=true:=by
   intro u hu n x t m h;have h1:=zg u d' (cB ctx e) n (lx u hu) bZ;rw[h]at h1;exact lY u d' 14 _ t (lx u hu) bZ (by simpa using h1.symm)
  have Rs:∀u∈e.kids,∀n:Int,0<=n->n+fy u<=1073741824->ah aaE 142 [.c (.ptr 0 0),kS (cB ctx e),c6 u] (dV [[.i n]]) (.bq (ja (gd (cB ctx e) u n).1)) (dV [[.i (gd (cB ctx e) u n).2]]) []:=
   fun u hu n h0 hn=>ih u hu d' (cB ctx e) n (lx u hu) (by omega) bZ h0 hn
  rw[tM];by_cases h5:e.kind=5
  ·exact Ib ctx (by omega) e ⟨by omega,by omega⟩ h5 (cB ctx e) (by simp[cB,h5]) n hlen h0 hn hc (js dS) jh Rs
  ·have hi:cB ctx e=ctx:=by simp[cB,h5]
   rw[hi]at jh Rs⊢;exact H8 ctx (by omega) e ⟨by omega,by omega⟩ h5 n hlen h0 hn hc (js dS) jh Rs
theorem nX (e:ao) (hn:fy e<=1099511627776):ah aaE 38 [c6 e] [] (.b (a6 e)) [] []:=by
 have h:=JN 30 12 14 (by omega) (by omega) e hn 1 0 (by omega) (by omega) (by omega);have hl:=(Fx 30 12 14 e 12 0 (by omega) (by omega)).1;have hr:(kN 30 12 14 1 e 0).1=a6 e:=by
  rw[show((12:Int)+1-((12:Nat):Int))=1 by omega]at hl;rw[hl,a6]
  congr 1
  exact decide_eq_decide.2 (by omega)
 rw[hr]at h;refine ah.ob Tryz.func38 Tryz.ntmps38 rfl ?_;repeat' first|(refine ab (hK _ ?_);clear hK K)|((first|refine af ?_|refine j5 1 [.i 0] [.i (kN 30 12 14 1 e 0).2] rfl rfl h ?_);simp)|(refine T.ret (aD.data (Or.inr rfl) ?_ ?_)<;>simp[Tryz.results38]<;>omega)|refine T.r0 fun K hK=>?_
theorem Ic (ctx:List ea) (e:ao) (d:Nat) (hs:bj 14 d e=true) (hl:ctx.length+d<=1073741824) (hc:kO ctx) (hn:fy e<=1073741824):
  ah aaE 114 [kS ctx,c6 e] [] (.bq (BK (cO ctx e))) [] []:=by
 have h:=Ka e d ctx 0 hs hl hc (by omega) (by omega);have ht:=zg e d ctx 0 hs hc;generalize gd ctx e 0=X at h ht;obtain⟨o,m⟩:=X;rw[<-ht];cases o with
 |none=>
  simp only[ja]at h;simp only[abb,BK];refine ah.ob Tryz.func114 Tryz.ntmps114 rfl ?_;repeat' first|(refine ab (hK _ ?_);clear hK K)|((first|refine af ?_|refine j6 [2] (by simp) rfl rfl h ?_);simp)|(refine T.ret (aD.bq (Or.inr rfl) ?_)<;>simp[aF,Tryz.results114]<;>omega)|refine T.r0 fun K hK=>?_
 |some p=>
  obtain⟨x,t⟩:=p;simp only[ja]at h;simp only[aa9,BK];refine ah.ob Tryz.func114 Tryz.ntmps114 rfl ?_;repeat' first|(refine ab (hK _ ?_);clear hK K)|((first|refine af ?_|refine j6 [2] (by simp) rfl rfl h ?_);simp)|(refine T.ret (aD.bq (Or.inr rfl) ?_)<;>simp[aF,Tryz.results114]<;>omega)|refine T.r0 fun K hK=>?_
def Oy (k:Int) (t:aE):Option (aE×aE):=if ak 4 t=true then dO k t else none
abbrev Rt:Option (aE×aE)->List AV
 |some (a,b)=>[eu a,eu b,.b true]
 |none=>[eu bx,eu bx,.b false]
end Go.Proofs.YtloolmchekcmeaaGreat
namespace Go.Proofs.YtloolmchekcmeaaGreat
attribute [-simp] Go.Av.eS Go.Av.AV.ew Go.Av.CV.ew Go.Av.iG Go.Av.AV.dF Go.Av.CV.dF Go.Av.cb Go.Av.eL Go.Av.fj Go.Av.fa Go.Av.cT Go.Av.b9
open Go Go.Av
attribute [local irreducible] T ah TX EX LX bw dh bR cA gA aE.kind aE.kids ao.kind ao.name ao.num ao.ty ao.fr ao.label ao.kids
attribute [local simp] aQ ax
set_option maxHeartbeats 16000000
set_option maxRecDepth 8000
end Go.Proofs.YtloolmchekcmeaaGreat
namespace Go.Proofs.YtloolmchekcmeaaGreat
attribute [-simp] Go.Av.eS Go.Av.AV.ew Go.Av.CV.ew Go.Av.iG Go.Av.AV.dF Go.Av.CV.dF Go.Av.cb Go.Av.eL Go.Av.fj Go.Av.fa Go.Av.cT Go.Av.b9
open Go Go.Av
attribute [local irreducible] T ah TX EX LX bw dh bR cA gA aE.kind aE.kids ao.kind ao.name ao.num ao.ty ao.fr ao.label ao.kids
attribute [local simp] aQ ax
set_option maxHeartbeats 16000000
set_option maxRecDepth 8000
attribute [local simp] abc
theorem Ie (e:ao) (hl:cD e.kind=e.kids.length):ah aaE 109 [c6 e] [] (c6 (aS e)) [] []:=by
 have hb:=cV 1;by_cases dt:e.kind=13
 ·have h1:e.kids.length=1:=by rw[dt]at hl;simp[cD]at hl;omega
  match hk:e.kids,h1 with
  |[x],_=>
   rw[show aS e=x by simp[aS,dt,hk]];refine ah.ob Tryz.func109 Tryz.ntmps109 rfl ?_;repeat' first|(refine ab (hK _ ?_);clear hK K)|(refine af ?_;simp[dt,hk];(try(refine gen2 ?_ ?_<;>intro hq<;>try simp[dt,hk]at hq)))|(refine T.ret (aD.val (Or.inr rfl) ?_)<;>simp[aF,Tryz.results109,ax]<;>omega)|refine T.r0 fun K hK=>?_|refine T.ct rfl ?_|refine T.seq ?_|refine T.block ?_|refine T.skip ?_
 by_cases gk:e.kind=14
 ·have h1:e.kids.length=1:=by rw[gk]at hl;simp[cD]at hl;omega
  match hk:e.kids,h1 with
  |[x],_=>
   rw[show aS e=x by simp[aS,gk,hk]];refine ah.ob Tryz.func109 Tryz.ntmps109 rfl ?_;repeat' first|(refine ab (hK _ ?_);clear hK K)|(refine af ?_;simp[gk,hk];(try(refine gen2 ?_ ?_<;>intro hq<;>try simp[gk,hk]at hq)))|(refine T.ret (aD.val (Or.inr rfl) ?_)<;>simp[aF,Tryz.results109,ax]<;>omega)|refine T.r0 fun K hK=>?_|refine T.r1 fun K hK=>?_|refine T.ct rfl ?_|refine T.cf rfl ?_|refine T.seq ?_|refine T.block ?_
 by_cases h5:e.kind=5
 ·rw[show aS e=.mk 5 e.name e.num kD e.fr e.label e.kids by simp[aS,h5]];refine ah.ob Tryz.func109 Tryz.ntmps109 rfl ?_;repeat' first|(refine ab (hK _ ?_);clear hK K)|((first|refine af ?_|refine aa rfl (hb) ?_);simp[h5];(try(refine gen2 ?_ ?_<;>intro hq<;>try simp[h5]at hq)))|(refine T.ret (aD.val (Or.inr rfl) ?_)<;>simp[aF,Tryz.results109,h5]<;>omega)|refine T.r0 fun K hK=>?_|refine T.r1 fun K hK=>?_|refine T.ct rfl ?_|refine T.cf rfl ?_|refine T.seq ?_|refine T.block ?_
 ·rw[show aS e=e by simp[aS,dt,gk,h5]];refine ah.ob Tryz.func109 Tryz.ntmps109 rfl ?_;repeat' first|(refine ab (hK _ ?_);clear hK K)|(refine af ?_;simp[dt,gk,h5];(try(refine gen2 ?_ ?_<;>intro hq<;>try simp[dt,gk,h5]at hq)))|(refine T.ret (aD.val (Or.inr rfl) ?_)<;>simp[aF,Tryz.results109]<;>omega)|refine T.r0 fun K hK=>?_|refine T.r1 fun K hK=>?_|refine T.cf rfl ?_|refine T.seq ?_|refine T.block ?_|refine T.skip ?_
def L3 (e:ao):Prop:=∃nt d,bj nt d e=true
theorem EK (e:ao) (hq:L3 e) (hn:fy e<=1099511627776):ah aaE 58 [c6 e] [] (c6 (mapM aS e)) [] []:=by
 have h:=F6 109 aS L3 (fun e h u hu=>by obtain⟨nt,d,h⟩:=h;obtain⟨d',rfl,_,_,_,hk⟩:=gH h;exact⟨nt,d',hk u hu⟩)
  (fun e h=>by obtain⟨nt,d,h⟩:=h;obtain⟨d',rfl,_,hl,_,_⟩:=gH h;rw[sw];exact Ie _ (by simpa using hl)) e hq hn
 generalize mapM aS e=R at h;refine ah.ob Tryz.func58 Tryz.ntmps58 rfl ?_;repeat' first|(refine ab (hK _ ?_);clear hK K)|((first|refine af ?_|refine aa rfl (h) ?_);simp;(try(refine gen2 ?_ ?_<;>intro hq<;>(try simp at hq)<;>try(have:True:=hq;clear this hq))))|(refine T.ret (aD.val (Or.inr rfl) ?_)<;>simp[aF,Tryz.results58]<;>omega)|refine T.r0 fun K hK=>?_
def PR (e:ao):Option (ao×aE):=if a6 e=true then(gd [] e 0).1 else none
end Go.Proofs.YtloolmchekcmeaaGreat
namespace Go.Proofs.YtloolmchekcmeaaGreat
attribute [-simp] Go.Av.cb Go.Av.eL Go.Av.fj Go.Av.fa Go.Av.cT Go.Av.b9
open Go Go.Av
attribute [local irreducible] T ah TX EX LX bw dh bR cA gA aE.kind aE.kids ao.kind ao.name ao.num ao.ty ao.fr ao.label ao.kids
attribute [local simp] aQ ax
set_option maxHeartbeats 16000000
set_option maxRecDepth 8000
theorem Cb (e:ao) (h5:e.kind=5) (ts:List aE) (hn:fy e<=1099511627776) (hl:(ts++[e.ty]).length+(aC e.kids).length<=1099511627776)
  (ih:∀u∈e.kids,∀(ts:List aE),ts.length+(aH u).length<=1099511627776->eO aaE 129 [.c (.own 0 ts.length),c6 u] [] [{sz:=2,eJ:=25,rows:=ts.map cA,wr:=true}] (.c (.own 0 (ts++aH u).length)) [] [{sz:=2,eJ:=25,rows:=(ts++aH u).map cA,wr:=true}]):
  eO aaE 129 [.c (.own 0 ts.length),c6 e] [] [{sz:=2,eJ:=25,rows:=ts.map cA,wr:=true}] (.c (.own 0 (ts++([e.ty]++aC e.kids)).length)) [] [{sz:=2,eJ:=25,rows:=(ts++([e.ty]++aC e.kids)).map cA,wr:=true}]:=by
 obtain⟨kp,qd,CP,tc⟩:=c4 hn;have h1:=cS e.ty kp;obtain⟨ts1,pN⟩:∃ts1,ts++[e.ty]=ts1:=⟨_,rfl⟩;rw[<-aaN,pN];rw[pN]at hl;have Oz:ts.length<=1099511627776:=by rw[<-pN,aaH]at hl;omega
 refine eO.cx Tryz.func129 (by kernel_rfl) rfl (by kernel_rfl) (by simp[Tryz.ntmps129]) (by simp) ?_;rw[Tryz.ntmps129];repeat' first|(refine ab (hK _ ?_);clear hK K)|((first|refine af ?_|refine aa rfl (h1) ?_);simp[h5];(try(refine gen2 ?_ ?_<;>intro hq<;>try simp[h5]at hq)))|(refine⟨by omega,by omega,?_⟩)|refine T.r0 fun K hK=>?_|refine T.r1 fun K hK=>?_|refine T.ct rfl ?_|refine T.seq ?_|refine T.block ?_
 refine T.dA (α:=Nat×List (List CV)) [3,4] (fun x=>[(0,.c (.own 0 (ts1++aC (e.kids.take x.1)).length)),(5,.i x.1)]) (fun x=>[]) (fun x=>x.2) (fun x _=>[{sz:=2,eJ:=25,rows:=(ts1++aC (e.kids.take x.1)).map cA,wr:=true}]) (fun x=>e.kids.length+1-x.1)
  (fun x=>x.1<=e.kids.length) (by simp;rfl) (fun x hx=>?_) (0,[]) (by simp) (by simp) (by simp[<-pN,aC,aQ]) (by simp[<-pN,aC])
 obtain⟨p,G⟩:=x;dsimp only at hx⊢;simp only[gi,aaG,aaF];by_cases az:p<e.kids.length
 ·obtain⟨u,ht⟩:=bX az;have fz:u∈e.kids:=aaK ht;have a8:e.kids[p]=u:=by rw[aaI az]at ht;exact Option.some.inj ht
  have jb:e.kids.drop p=u::e.kids.drop (p+1):=by rw[aaJ az,a8]
  have hle:=iO e.kids (p+1);rw[cK ht]at hle;have hu:=ih u fz (ts1++aC (e.kids.take p)) (by simp only[aaH]at*;omega);have qe:ts1++aC (e.kids.take (p+1))=ts1++aC (e.kids.take p)++aH u:=by rw[cK ht,aaN]
  rw[<-qe]at hu;obtain⟨Z',KX⟩:∃Z',ts1++aC (e.kids.take (p+1))=Z':=⟨_,rfl⟩;rw[KX]at hu;clear qe;generalize (ts1++aC (e.kids.take p))=Z at*;repeat' first|(refine ab (hK _ ?_);clear hK K)|(refine af ?_;simp[az,a8];(try simp(disch:=omega)only[wrap64]);(try(refine gen2 ?_ ?_<;>intro hq<;>try simp[az,a8]at hq)))|(refine j8 0 hu rfl rfl rfl rfl ?_;simp[back])|(refine⟨(p+1,_),by dsimp only;omega,by dsimp only;omega,rfl,?_,?_⟩<;>simp(disch:=omega) [wrap64,<-KX])|refine T.r0 fun K hK=>?_|refine T.r1 fun K hK=>?_|refine T.ct rfl ?_|refine T.seq ?_|refine T.block ?_|refine T.skip ?_
 ·have fX:p=e.kids.length:=by omega
  subst fX;rw[aaO];repeat' first|(refine ab (hK _ ?_);clear hK K)|(refine af ?_;simp[az];(try(refine gen2 ?_ ?_<;>intro hq<;>try simp[az]at hq)))|refine T.r0 fun K hK=>?_|refine T.cf rfl ?_|refine T.seq ?_|refine T.exit ?_
  all_goals(refine T.ret (qJ.one (Or.inr rfl) ?_ ?_)<;>simp[aF,Tryz.results129])
theorem DE (e:ao) (h5:¬e.kind=5) (dt:e.kind=13) (ts:List aE) (hn:fy e<=1099511627776) (hl:(ts++[e.ty]).length+(aC e.kids).length<=1099511627776)
  (ih:∀u∈e.kids,∀(ts:List aE),ts.length+(aH u).length<=1099511627776->eO aaE 129 [.c (.own 0 ts.length),c6 u] [] [{sz:=2,eJ:=25,rows:=ts.map cA,wr:=true}] (.c (.own 0 (ts++aH u).length)) [] [{sz:=2,eJ:=25,rows:=(ts++aH u).map cA,wr:=true}]):
  eO aaE 129 [.c (.own 0 ts.length),c6 e] [] [{sz:=2,eJ:=25,rows:=ts.map cA,wr:=true}] (.c (.own 0 (ts++([e.ty]++aC e.kids)).length)) [] [{sz:=2,eJ:=25,rows:=(ts++([e.ty]++aC e.kids)).map cA,wr:=true}]:=by
 obtain⟨kp,qd,CP,tc⟩:=c4 hn;have h1:=cS e.ty kp;obtain⟨ts1,pN⟩:∃ts1,ts++[e.ty]=ts1:=⟨_,rfl⟩;rw[<-aaN,pN];rw[pN]at hl;have Oz:ts.length<=1099511627776:=by rw[<-pN,aaH]at hl;omega
 refine eO.cx Tryz.func129 (by kernel_rfl) rfl (by kernel_rfl) (by simp[Tryz.ntmps129]) (by simp) ?_;rw[Tryz.ntmps129];repeat' first|(refine ab (hK _ ?_);clear hK K)|((first|refine af ?_|refine aa rfl (h1) ?_);simp[h5,dt];(try(refine gen2 ?_ ?_<;>intro hq<;>try simp[h5,dt]at hq)))|(refine⟨by omega,by omega,?_⟩)|refine T.r0 fun K hK=>?_|refine T.r1 fun K hK=>?_|refine T.ct rfl ?_|refine T.seq ?_|refine T.block ?_
 refine T.dA (α:=Nat×List (List CV)) [3,4] (fun x=>[(0,.c (.own 0 (ts1++aC (e.kids.take x.1)).length)),(5,.i x.1)]) (fun x=>[]) (fun x=>x.2) (fun x _=>[{sz:=2,eJ:=25,rows:=(ts1++aC (e.kids.take x.1)).map cA,wr:=true}]) (fun x=>e.kids.length+1-x.1)
  (fun x=>x.1<=e.kids.length) (by simp;rfl) (fun x hx=>?_) (0,[]) (by simp) (by simp) (by simp[<-pN,aC,aQ]) (by simp[<-pN,aC])
 obtain⟨p,G⟩:=x;dsimp only at hx⊢;simp only[gi,aaG,aaF];by_cases az:p<e.kids.length
 ·obtain⟨u,ht⟩:=bX az;have fz:u∈e.kids:=aaK ht;have a8:e.kids[p]=u:=by rw[aaI az]at ht;exact Option.some.inj ht
  have jb:e.kids.drop p=u::e.kids.drop (p+1):=by rw[aaJ az,a8]
  have hle:=iO e.kids (p+1);rw[cK ht]at hle;have hu:=ih u fz (ts1++aC (e.kids.take p)) (by simp only[aaH]at*;omega);have qe:ts1++aC (e.kids.take (p+1))=ts1++aC (e.kids.take p)++aH u:=by rw[cK ht,aaN]
  rw[<-qe]at hu;obtain⟨Z',KX⟩:∃Z',ts1++aC (e.kids.take (p+1))=Z':=⟨_,rfl⟩;rw[KX]at hu;clear qe;generalize (ts1++aC (e.kids.take p))=Z at*;repeat' first|(refine ab (hK _ ?_);clear hK K)|(refine af ?_;simp[az,a8];(try simp(disch:=omega)only[wrap64]);(try(refine gen2 ?_ ?_<;>intro hq<;>try simp[az,a8]at hq)))|(refine j8 0 hu rfl rfl rfl rfl ?_;simp[back])|(refine⟨(p+1,_),by dsimp only;omega,by dsimp only;omega,rfl,?_,?_⟩<;>simp(disch:=omega) [wrap64,<-KX])|refine T.r0 fun K hK=>?_|refine T.r1 fun K hK=>?_|refine T.ct rfl ?_|refine T.seq ?_|refine T.block ?_|refine T.skip ?_
 ·have fX:p=e.kids.length:=by omega
  subst fX;rw[aaO];repeat' first|(refine ab (hK _ ?_);clear hK K)|(refine af ?_;simp[az];(try(refine gen2 ?_ ?_<;>intro hq<;>try simp[az]at hq)))|refine T.r0 fun K hK=>?_|refine T.cf rfl ?_|refine T.seq ?_|refine T.exit ?_
  all_goals(refine T.ret (qJ.one (Or.inr rfl) ?_ ?_)<;>simp[aF,Tryz.results129])
theorem Cc (e:ao) (h5:¬e.kind=5) (dt:¬e.kind=13) (ts:List aE) (hn:fy e<=1099511627776) (hl:(ts++[]).length+(aC e.kids).length<=1099511627776)
  (ih:∀u∈e.kids,∀(ts:List aE),ts.length+(aH u).length<=1099511627776->eO aaE 129 [.c (.own 0 ts.length),c6 u] [] [{sz:=2,eJ:=25,rows:=ts.map cA,wr:=true}] (.c (.own 0 (ts++aH u).length)) [] [{sz:=2,eJ:=25,rows:=(ts++aH u).map cA,wr:=true}]):
  eO aaE 129 [.c (.own 0 ts.length),c6 e] [] [{sz:=2,eJ:=25,rows:=ts.map cA,wr:=true}] (.c (.own 0 (ts++([]++aC e.kids)).length)) [] [{sz:=2,eJ:=25,rows:=(ts++([]++aC e.kids)).map cA,wr:=true}]:=by
 obtain⟨kp,qd,CP,tc⟩:=c4 hn;have h1:=cS e.ty kp;obtain⟨ts1,pN⟩:∃ts1,ts++[]=ts1:=⟨_,rfl⟩;rw[<-aaN,pN];rw[pN]at hl;have Oz:ts.length<=1099511627776:=by rw[<-pN,aaH]at hl;omega
 refine eO.cx Tryz.func129 (by kernel_rfl) rfl (by kernel_rfl) (by simp[Tryz.ntmps129]) (by simp) ?_;rw[Tryz.ntmps129];repeat' first|(refine ab (hK _ ?_);clear hK K)|(refine af ?_;simp[h5,dt];(try(refine gen2 ?_ ?_<;>intro hq<;>try simp[h5,dt]at hq)))|refine T.r0 fun K hK=>?_|refine T.cf rfl ?_|refine T.seq ?_|refine T.block ?_|refine T.skip ?_
 refine T.dA (α:=Nat×List (List CV)) [3,4] (fun x=>[(0,.c (.own 0 (ts1++aC (e.kids.take x.1)).length)),(5,.i x.1)]) (fun x=>[]) (fun x=>x.2) (fun x _=>[{sz:=2,eJ:=25,rows:=(ts1++aC (e.kids.take x.1)).map cA,wr:=true}]) (fun x=>e.kids.length+1-x.1)
  (fun x=>x.1<=e.kids.length) (by simp;rfl) (fun x hx=>?_) (0,[]) (by simp) (by simp) (by simp[<-pN,aC,aQ]) (by simp[<-pN,aC])
 obtain⟨p,G⟩:=x;dsimp only at hx⊢;simp only[gi,aaG,aaF];by_cases az:p<e.kids.length
 ·obtain⟨u,ht⟩:=bX az;have fz:u∈e.kids:=aaK ht;have a8:e.kids[p]=u:=by rw[aaI az]at ht;exact Option.some.inj ht
  have jb:e.kids.drop p=u::e.kids.drop (p+1):=by rw[aaJ az,a8]
  have hle:=iO e.kids (p+1);rw[cK ht]at hle;have hu:=ih u fz (ts1++aC (e.kids.take p)) (by simp only[aaH]at*;omega);have qe:ts1++aC (e.kids.take (p+1))=ts1++aC (e.kids.take p)++aH u:=by rw[cK ht,aaN]
  rw[<-qe]at hu;obtain⟨Z',KX⟩:∃Z',ts1++aC (e.kids.take (p+1))=Z':=⟨_,rfl⟩;rw[KX]at hu;clear qe;generalize (ts1++aC (e.kids.take p))=Z at*;repeat' first|(refine ab (hK _ ?_);clear hK K)|(refine af ?_;simp[az,a8];(try simp(disch:=omega)only[wrap64]);(try(refine gen2 ?_ ?_<;>intro hq<;>try simp[az,a8]at hq)))|(refine j8 0 hu rfl rfl rfl rfl ?_;simp[back])|(refine⟨(p+1,_),by dsimp only;omega,by dsimp only;omega,rfl,?_,?_⟩<;>simp(disch:=omega) [wrap64,<-KX])|refine T.r0 fun K hK=>?_|refine T.r1 fun K hK=>?_|refine T.ct rfl ?_|refine T.seq ?_|refine T.block ?_|refine T.skip ?_
 ·have fX:p=e.kids.length:=by omega
  subst fX;rw[aaO];repeat' first|(refine ab (hK _ ?_);clear hK K)|(refine af ?_;simp[az];(try(refine gen2 ?_ ?_<;>intro hq<;>try simp[az]at hq)))|refine T.r0 fun K hK=>?_|refine T.cf rfl ?_|refine T.seq ?_|refine T.exit ?_
  all_goals(refine T.ret (qJ.one (Or.inr rfl) ?_ ?_)<;>simp[aF,Tryz.results129])
theorem DF:∀(e:ao),fy e<=1099511627776->∀(ts:List aE),ts.length+(aH e).length<=1099511627776->
  eO aaE 129 [.c (.own 0 ts.length),c6 e] [] [{sz:=2,eJ:=25,rows:=ts.map cA,wr:=true}] (.c (.own 0 (ts++aH e).length)) [] [{sz:=2,eJ:=25,rows:=(ts++aH e).map cA,wr:=true}]:=by
 intro e;induction e using ao.ind with
 |h e ih=>
  intro hn ts hl;obtain⟨_,_,_,tc⟩:=c4 hn;have ih':=fun u hu=>ih u hu (tc u hu)
  rw[nR]at hl⊢;by_cases h5:e.kind=5
  ·rw[if_pos (by simp[bD,h5])]at hl⊢;exact Cb e h5 ts hn (by simp only[aaH]at*;omega) ih'
  ·by_cases dt:e.kind=13
   ·rw[if_pos (by simp[bD,dt])]at hl⊢;exact DE e h5 dt ts hn (by simp only[aaH]at*;omega) ih'
   ·rw[if_neg (by simp[bD,h5,dt])]at hl⊢;exact Cc e h5 dt ts hn (by simp only[aaH]at*;omega) ih'
def dP (e:ao):List aE:=if a6 e=true then aH e else []
theorem pO (e:ao) (hn:fy e<=1073741824):ah aaE 88 [c6 e] [] (.c (.own 0 (dP e).length)) [] [{sz:=2,eJ:=25,rows:=(dP e).map cA,wr:=true}]:=by
 have h1:=jT e (by omega);have h2:=DF e (by omega) [] (by have:=(nS e).2;simp;omega);simp only[aaF]at h2;simp only[dP];cases hv:a6 e with
 |false=>
  rw[hv]at h1;simp only[aa3,if_false];refine ah.ob Tryz.func88 Tryz.ntmps88 rfl ?_;repeat' first|(refine ab (hK _ ?_);clear hK K)|((first|refine af ?_|refine aa rfl (h1) ?_);simp;(try(refine gen2 ?_ ?_<;>intro hq<;>try simp at hq)))|refine T.rs (id:=2) (fun i=>i==0) fun K hK=>?_|refine T.rs (id:=0) (fun _=>false) fun K hK=>?_|refine T.rs (id:=1) (fun _=>false) fun K hK=>?_|refine T.ct rfl ?_|refine T.seq ?_
  refine T.ret (aD.Hv 0 (Or.inr rfl) (ys:=[_]) ?_ rfl ?_)<;>simp[aF,Tryz.results88]
 |true=>
  rw[hv]at h1;simp only[if_true];generalize aH e=ts at*;refine ah.ob Tryz.func88 Tryz.ntmps88 rfl ?_;repeat' first|(refine ab (hK _ ?_);clear hK K)|((first|refine af ?_|refine aa rfl (h1) ?_);simp;(try(refine gen2 ?_ ?_<;>intro hq<;>try simp at hq)))|(refine j8 0 h2 rfl rfl rfl rfl ?_;simp[back])|refine T.rs (id:=3) (fun i=>i==0) fun K hK=>?_|refine T.rs (id:=0) (fun _=>false) fun K hK=>?_|refine T.rs (id:=1) (fun _=>false) fun K hK=>?_|refine T.cf rfl ?_|refine T.seq ?_|refine T.skip ?_
  refine T.ret (aD.Hv 0 (Or.inr rfl) (ys:=[_]) ?_ rfl ?_)<;>simp[aF,Tryz.results88]
theorem DG (e:ao) (h5:e.kind=5) (ts:List aE) (a:Nat) (hn:fy e<=1099511627776) (b7:∀t∈ts,gl t<=1099511627776) (hl:a+1+(aC e.kids).length<=ts.length) (xB:ts.length<=1099511627776) (tx:aE) (hx:tx=ts[a]?.getD tx)
  (ih:∀u∈e.kids,∀(a:Nat) (i:Int),i=a->a+(aH u).length<=ts.length->ah aaE 117 [c6 u,.l (ts.map cA),.i i] [] (.bq [c6 (bF u (ts.drop a)),.i (i+(aH u).length)]) [] []):
  ah aaE 117 [c6 e,.l (ts.map cA),.i a] [] (.bq [c6 (.mk e.kind e.name e.num tx e.fr e.label (c9 e.kids (ts.drop (a+1)))),.i ((a:Int)+1+(aC e.kids).length)]) [] []:=by
 obtain⟨kp,qd,CP,tc⟩:=c4 hn;have h1:=cS e.ty kp;have h2:=cS e.fr qd;refine ah.ob Tryz.func117 Tryz.ntmps117 rfl ?_;have As:a<ts.length:=by omega
 have vM:ts[a]=tx:=by rw[aaI As]at hx;exact hx.symm
 have h3:=cS tx (b7 tx (by rw[<-vM];exact aaS As));repeat' first|(refine ab (hK _ ?_);clear hK K)|((first|refine af ?_|refine aa rfl (h1) ?_|refine aa rfl (h2) ?_|refine aa rfl (h3) ?_);simp[h5,As,vM];(try simp(disch:=omega)only[wrap64]);(try(refine gen2 ?_ ?_<;>intro hq<;>try simp[h5,As,vM]at hq)))|refine T.r0 fun K hK=>?_|refine T.r1 fun K hK=>?_|refine T.ct rfl ?_|refine T.seq ?_|refine T.block ?_
 refine T.dM 2 8 9 28 rfl rfl ?_
 refine T.dA (α:=Nat×List (List CV)) [1,3,6,7,8] (fun x=>[(2,.i ((a:Int)+1+(aC (e.kids.take x.1)).length)),(9,.i x.1)]) (fun x=>[(2,[.d (.i e.kind),.d (.str e.name),.d (.i e.num),.d (.i (tx).kind),.d (.sl ((tx).kids.map cA)),.d (.i e.fr.kind),.d (.sl (e.fr.kids.map cA)),.d (.i e.label),.own 0 x.1])]) (fun x=>x.2)
  (fun x _=>[{sz:=9,eJ:=28,rows:=((c9 e.kids (ts.drop (a+1))).take x.1).map gA,wr:=true}]) (fun x=>e.kids.length+1-x.1) (fun x=>x.1<=e.kids.length) (by simp;rfl) (fun x hx=>?_) (0,[]) (by simp) (by simp[h5]) (by simp) (by simp[aC])
 obtain⟨p,G⟩:=x;dsimp only at hx⊢;simp only[gi,aaL,aaM,aaG,aaF];have wi:(c9 e.kids (ts.drop (a+1))).length=e.kids.length:=lf _ _;by_cases az:p<e.kids.length
 ·obtain⟨u,ht⟩:=bX az;have fz:u∈e.kids:=aaK ht;have a8:e.kids[p]=u:=by rw[aaI az]at ht;exact Option.some.inj ht
  have jb:e.kids.drop p=u::e.kids.drop (p+1):=by rw[aaJ az,a8]
  have hle:=iO e.kids (p+1);rw[cK ht,aaH]at hle;have hu:=ih u fz (a+1+(aC (e.kids.take p)).length) ((a:Int)+1+(aC (e.kids.take p)).length) (by push_cast;omega) (by omega);have zD:=ly (ts.drop (a+1)) ht;rw[aaQ]at zD;have qe:(a:Int)+1+((aC (e.kids.take (p+1))).length:Int)=(a:Int)+1+(aC (e.kids.take p)).length+(aH u).length:=by rw[cK ht];push_cast [aaH];omega
  generalize (aC (e.kids.take p)).length=n1 at*;generalize (bF u (ts.drop (a+1+n1)))=wu at*;generalize (c9 e.kids (ts.drop (a+1)))=Z at*;have eg:min p e.kids.length=p:=by omega
  repeat' first|(refine ab (hK _ ?_);clear hK K)|((first|refine af ?_|(refine aa ?_ (hu) ?_;(focus(solve|simp[az,a8,eg,wi]))));simp[az,a8,eg,wi];(try simp(disch:=omega)only[wrap64]);(try(refine gen2 ?_ ?_<;>intro hq<;>try simp[az,a8,eg,wi]at hq)))|(refine⟨(p+1,_),by dsimp only;omega,by dsimp only;omega,rfl,?_,?_⟩<;>simp(disch:=omega) [wrap64,zD,qe,ax])|refine T.r0 fun K hK=>?_|refine T.r1 fun K hK=>?_|(refine⟨by omega,?_⟩)|refine T.ct rfl ?_|refine T.seq ?_|refine T.block ?_|refine T.skip ?_
 ·have fX:p=e.kids.length:=by omega
  subst fX;rw[aaO,aaR (by omega)];repeat' first|(refine ab (hK _ ?_);clear hK K)|(refine af ?_;simp[az];(try(refine gen2 ?_ ?_<;>intro hq<;>try simp[az]at hq)))|(refine T.ret (aD.bq (Or.inr rfl) ?_)<;>simp[aF,Tryz.results117,ax,wi]<;>omega)|refine T.r0 fun K hK=>?_|refine T.cf rfl ?_|refine T.seq ?_|refine T.exit ?_
theorem F8 (e:ao) (h5:¬e.kind=5) (dt:e.kind=13) (ts:List aE) (a:Nat) (hn:fy e<=1099511627776) (b7:∀t∈ts,gl t<=1099511627776) (hl:a+1+(aC e.kids).length<=ts.length) (xB:ts.length<=1099511627776) (tx:aE) (hx:tx=ts[a]?.getD tx)
  (ih:∀u∈e.kids,∀(a:Nat) (i:Int),i=a->a+(aH u).length<=ts.length->ah aaE 117 [c6 u,.l (ts.map cA),.i i] [] (.bq [c6 (bF u (ts.drop a)),.i (i+(aH u).length)]) [] []):
  ah aaE 117 [c6 e,.l (ts.map cA),.i a] [] (.bq [c6 (.mk e.kind e.name e.num tx e.fr e.label (c9 e.kids (ts.drop (a+1)))),.i ((a:Int)+1+(aC e.kids).length)]) [] []:=by
 obtain⟨kp,qd,CP,tc⟩:=c4 hn;have h1:=cS e.ty kp;have h2:=cS e.fr qd;refine ah.ob Tryz.func117 Tryz.ntmps117 rfl ?_;have As:a<ts.length:=by omega
 have vM:ts[a]=tx:=by rw[aaI As]at hx;exact hx.symm
 have h3:=cS tx (b7 tx (by rw[<-vM];exact aaS As));repeat' first|(refine ab (hK _ ?_);clear hK K)|((first|refine af ?_|refine aa rfl (h1) ?_|refine aa rfl (h2) ?_|refine aa rfl (h3) ?_);simp[h5,dt,As,vM];(try simp(disch:=omega)only[wrap64]);(try(refine gen2 ?_ ?_<;>intro hq<;>try simp[h5,dt,As,vM]at hq)))|refine T.r0 fun K hK=>?_|refine T.r1 fun K hK=>?_|refine T.ct rfl ?_|refine T.seq ?_|refine T.block ?_
 refine T.dM 2 8 9 28 rfl rfl ?_
 refine T.dA (α:=Nat×List (List CV)) [1,3,6,7,8] (fun x=>[(2,.i ((a:Int)+1+(aC (e.kids.take x.1)).length)),(9,.i x.1)]) (fun x=>[(2,[.d (.i e.kind),.d (.str e.name),.d (.i e.num),.d (.i (tx).kind),.d (.sl ((tx).kids.map cA)),.d (.i e.fr.kind),.d (.sl (e.fr.kids.map cA)),.d (.i e.label),.own 0 x.1])]) (fun x=>x.2)
  (fun x _=>[{sz:=9,eJ:=28,rows:=((c9 e.kids (ts.drop (a+1))).take x.1).map gA,wr:=true}]) (fun x=>e.kids.length+1-x.1) (fun x=>x.1<=e.kids.length) (by simp;rfl) (fun x hx=>?_) (0,[]) (by simp) (by simp[h5,dt]) (by simp) (by simp[aC])
 obtain⟨p,G⟩:=x;dsimp only at hx⊢;simp only[gi,aaL,aaM,aaG,aaF];have wi:(c9 e.kids (ts.drop (a+1))).length=e.kids.length:=lf _ _;by_cases az:p<e.kids.length
 ·obtain⟨u,ht⟩:=bX az;have fz:u∈e.kids:=aaK ht;have a8:e.kids[p]=u:=by rw[aaI az]at ht;exact Option.some.inj ht
  have jb:e.kids.drop p=u::e.kids.drop (p+1):=by rw[aaJ az,a8]
  have hle:=iO e.kids (p+1);rw[cK ht,aaH]at hle;have hu:=ih u fz (a+1+(aC (e.kids.take p)).length) ((a:Int)+1+(aC (e.kids.take p)).length) (by push_cast;omega) (by omega);have zD:=ly (ts.drop (a+1)) ht;rw[aaQ]at zD;have qe:(a:Int)+1+((aC (e.kids.take (p+1))).length:Int)=(a:Int)+1+(aC (e.kids.take p)).length+(aH u).length:=by rw[cK ht];push_cast [aaH];omega
  generalize (aC (e.kids.take p)).length=n1 at*;generalize (bF u (ts.drop (a+1+n1)))=wu at*;generalize (c9 e.kids (ts.drop (a+1)))=Z at*;have eg:min p e.kids.length=p:=by omega
  repeat' first|(refine ab (hK _ ?_);clear hK K)|((first|refine af ?_|(refine aa ?_ (hu) ?_;(focus(solve|simp[az,a8,eg,wi]))));simp[az,a8,eg,wi];(try simp(disch:=omega)only[wrap64]);(try(refine gen2 ?_ ?_<;>intro hq<;>try simp[az,a8,eg,wi]at hq)))|(refine⟨(p+1,_),by dsimp only;omega,by dsimp only;omega,rfl,?_,?_⟩<;>simp(disch:=omega) [wrap64,zD,qe,ax])|refine T.r0 fun K hK=>?_|refine T.r1 fun K hK=>?_|(refine⟨by omega,?_⟩)|refine T.ct rfl ?_|refine T.seq ?_|refine T.block ?_|refine T.skip ?_
 ·have fX:p=e.kids.length:=by omega
  subst fX;rw[aaO,aaR (by omega)];repeat' first|(refine ab (hK _ ?_);clear hK K)|(refine af ?_;simp[az];(try(refine gen2 ?_ ?_<;>intro hq<;>try simp[az]at hq)))|(refine T.ret (aD.bq (Or.inr rfl) ?_)<;>simp[aF,Tryz.results117,ax,wi]<;>omega)|refine T.r0 fun K hK=>?_|refine T.cf rfl ?_|refine T.seq ?_|refine T.exit ?_
theorem DH (e:ao) (h5:¬e.kind=5) (dt:¬e.kind=13) (ts:List aE) (a:Nat) (hn:fy e<=1099511627776) (b7:∀t∈ts,gl t<=1099511627776) (hl:a+(aC e.kids).length<=ts.length) (xB:ts.length<=1099511627776) (tx:aE) (hx:tx=ts[a]?.getD tx)
  (ih:∀u∈e.kids,∀(a:Nat) (i:Int),i=a->a+(aH u).length<=ts.length->ah aaE 117 [c6 u,.l (ts.map cA),.i i] [] (.bq [c6 (bF u (ts.drop a)),.i (i+(aH u).length)]) [] []):
  ah aaE 117 [c6 e,.l (ts.map cA),.i a] [] (.bq [c6 (.mk e.kind e.name e.num e.ty e.fr e.label (c9 e.kids (ts.drop (a)))),.i ((a:Int)+(aC e.kids).length)]) [] []:=by
 obtain⟨kp,qd,CP,tc⟩:=c4 hn;have h1:=cS e.ty kp;have h2:=cS e.fr qd;refine ah.ob Tryz.func117 Tryz.ntmps117 rfl ?_;repeat' first|(refine ab (hK _ ?_);clear hK K)|((first|refine af ?_|refine aa rfl (h1) ?_|refine aa rfl (h2) ?_);simp[h5,dt];(try(refine gen2 ?_ ?_<;>intro hq<;>try simp[h5,dt]at hq)))|refine T.r0 fun K hK=>?_|refine T.cf rfl ?_|refine T.seq ?_|refine T.block ?_|refine T.skip ?_
 refine T.dM 2 8 9 28 rfl rfl ?_
 refine T.dA (α:=Nat×List (List CV)) [1,3,6,7,8] (fun x=>[(2,.i ((a:Int)+(aC (e.kids.take x.1)).length)),(9,.i x.1)]) (fun x=>[(2,[.d (.i e.kind),.d (.str e.name),.d (.i e.num),.d (.i (e.ty).kind),.d (.sl ((e.ty).kids.map cA)),.d (.i e.fr.kind),.d (.sl (e.fr.kids.map cA)),.d (.i e.label),.own 0 x.1])]) (fun x=>x.2)
  (fun x _=>[{sz:=9,eJ:=28,rows:=((c9 e.kids (ts.drop (a))).take x.1).map gA,wr:=true}]) (fun x=>e.kids.length+1-x.1) (fun x=>x.1<=e.kids.length) (by simp;rfl) (fun x hx=>?_) (0,[]) (by simp) (by simp[h5,dt]) (by simp) (by simp[aC])
 obtain⟨p,G⟩:=x;dsimp only at hx⊢;simp only[gi,aaL,aaM,aaG,aaF];have wi:(c9 e.kids (ts.drop (a))).length=e.kids.length:=lf _ _;by_cases az:p<e.kids.length
 ·obtain⟨u,ht⟩:=bX az;have fz:u∈e.kids:=aaK ht;have a8:e.kids[p]=u:=by rw[aaI az]at ht;exact Option.some.inj ht
  have jb:e.kids.drop p=u::e.kids.drop (p+1):=by rw[aaJ az,a8]
  have hle:=iO e.kids (p+1);rw[cK ht,aaH]at hle;have hu:=ih u fz (a+(aC (e.kids.take p)).length) ((a:Int)+(aC (e.kids.take p)).length) (by push_cast;omega) (by omega);have zD:=ly (ts.drop (a)) ht;rw[aaQ]at zD;have qe:(a:Int)+((aC (e.kids.take (p+1))).length:Int)=(a:Int)+(aC (e.kids.take p)).length+(aH u).length:=by rw[cK ht];push_cast [aaH];omega
  generalize (aC (e.kids.take p)).length=n1 at*;generalize (bF u (ts.drop (a+n1)))=wu at*;generalize (c9 e.kids (ts.drop (a)))=Z at*;have eg:min p e.kids.length=p:=by omega
  repeat' first|(refine ab (hK _ ?_);clear hK K)|((first|refine af ?_|(refine aa ?_ (hu) ?_;(focus(solve|simp[az,a8,eg,wi]))));simp[az,a8,eg,wi];(try simp(disch:=omega)only[wrap64]);(try(refine gen2 ?_ ?_<;>intro hq<;>try simp[az,a8,eg,wi]at hq)))|(refine⟨(p+1,_),by dsimp only;omega,by dsimp only;omega,rfl,?_,?_⟩<;>simp(disch:=omega) [wrap64,zD,qe,ax])|refine T.r0 fun K hK=>?_|refine T.r1 fun K hK=>?_|(refine⟨by omega,?_⟩)|refine T.ct rfl ?_|refine T.seq ?_|refine T.block ?_|refine T.skip ?_
 ·have fX:p=e.kids.length:=by omega
  subst fX;rw[aaO,aaR (by omega)];repeat' first|(refine ab (hK _ ?_);clear hK K)|(refine af ?_;simp[az];(try(refine gen2 ?_ ?_<;>intro hq<;>try simp[az]at hq)))|(refine T.ret (aD.bq (Or.inr rfl) ?_)<;>simp[aF,Tryz.results117,ax,wi]<;>omega)|refine T.r0 fun K hK=>?_|refine T.cf rfl ?_|refine T.seq ?_|refine T.exit ?_
theorem F9 (ts:List aE) (b7:∀t∈ts,gl t<=1099511627776) (xB:ts.length<=1099511627776):∀(e:ao),fy e<=1099511627776->∀(a:Nat) (i:Int),i=a->a+(aH e).length<=ts.length->ah aaE 117 [c6 e,.l (ts.map cA),.i i] [] (.bq [c6 (bF e (ts.drop a)),.i (i+(aH e).length)]) [] []:=by
 intro e;induction e using ao.ind with
 |h e ih=>
  intro hn a i hi hl;obtain⟨_,_,_,tc⟩:=c4 hn;subst hi;have ih':=fun u hu=>ih u hu (tc u hu)
  rw[nR]at hl⊢;rw[zo];by_cases h5:e.kind=5
  ·rw[if_pos (by simp[bD,h5])]at hl⊢;rw[if_pos (by simp[bD,h5]),if_pos (by simp[bD,h5])];simp only[aaH,aaW]at hl⊢;have az:a<ts.length:=by omega
   have:=DG e h5 ts a hn b7 (by omega) xB (ts[a]) (by simp[az]) ih';rw[aaQ,aaJ az,aaX]
   push_cast
   rw[<-abd];exact this
  ·by_cases dt:e.kind=13
   ·rw[if_pos (by simp[bD,dt])]at hl⊢;rw[if_pos (by simp[bD,dt]),if_pos (by simp[bD,dt])];simp only[aaH,aaW]at hl⊢;have az:a<ts.length:=by omega
    have:=F8 e h5 dt ts a hn b7 (by omega) xB (ts[a]) (by simp[az]) ih';rw[aaQ,aaJ az,aaX]
    push_cast
    rw[<-abd];exact this
   ·have hq:¬bD e.kind=true:=by simp[bD,h5,dt]
    rw[if_neg hq]at hl⊢;rw[if_neg hq,if_neg hq];simp only[aaF]at hl⊢;have:=DH e h5 dt ts a hn b7 (by omega) xB (ts[a]?.getD e.ty) (by cases ts[a]? <;>rfl) ih';simpa using this
theorem yR (e:ao) (ts:List aE) (hn:fy e<=1073741824) (b7:∀t∈ts,gl t<=1099511627776) (xB:ts.length<=1099511627776):ah aaE 69 [c6 e,.l (ts.map cA)] [] (.bq (xk (jz e ts))) [] []:=by
 have h1:=pO e hn;have h2:=jT e (by omega);simp only[jz];cases hv:a6 e with
 |false=>
  rw[hv]at h2;simp only[dP,hv,aa3,if_false,aa4,xk,List.length_nil]at h1⊢;refine ah.ob Tryz.func69 Tryz.ntmps69 rfl ?_;repeat' first|(refine ab (hK _ ?_);clear hK K)|((first|(first|refine af ?_|refine aa rfl (h2) ?_)|refine jt rfl (h1) ?_);simp;(try(refine gen2 ?_ ?_<;>intro hq<;>(try simp at hq)<;>try(have:True:=hq;clear this hq))))|(refine T.ret (aD.bq (Or.inr rfl) ?_)<;>simp[aF,Tryz.results69]<;>omega)|refine T.r0 fun K hK=>?_|refine T.ct rfl ?_|refine T.seq ?_
 |true=>
  rw[hv]at h2;simp only[dP,hv,if_true,aa5]at h1⊢;by_cases hl:ts.length=(aH e).length
  rotate_left
  ·have dc:¬((aH e).length:Int)=ts.length:=by omega
   simp only[hl,decide_false,aa4,aa3,if_false,xk];refine ah.ob Tryz.func69 Tryz.ntmps69 rfl ?_;repeat' first|(refine ab (hK _ ?_);clear hK K)|((first|refine af ?_|refine jt rfl (h1) ?_);simp[dc];(try(refine gen2 ?_ ?_<;>intro hq<;>(try simp[dc]at hq)<;>try(have:True:=hq;clear this hq))))|(refine T.ret (aD.bq (Or.inr rfl) ?_)<;>simp[aF,Tryz.results69]<;>omega)|refine T.r0 fun K hK=>?_|refine T.ct rfl ?_|refine T.seq ?_
  have he:((aH e).length:Int)=ts.length:=by omega
  simp only[hl,decide_true,aa5];obtain⟨R,hR⟩:∃R,ts.all (ak 4)=R:=⟨_,rfl⟩;rw[hR];have h3:=F9 ts b7 xB e (by omega) 0 0 rfl (by omega);rw[List.drop_zero]at h3;generalize bF e ts=x at h3⊢;refine ah.ob Tryz.func69 Tryz.ntmps69 rfl ?_;repeat' first|(refine ab (hK _ ?_);clear hK K)|((first|(first|refine af ?_|refine aa rfl (h2) ?_)|refine jt rfl (h1) ?_);simp[he];(try(refine gen2 ?_ ?_<;>intro hq<;>(try simp[he]at hq)<;>try(have:True:=hq;clear this hq))))|refine T.r0 fun K hK=>?_|refine T.cf rfl ?_|refine T.seq ?_|refine T.block ?_|refine T.skip ?_
  refine T.dA (α:=Nat×List (List CV)) [1,2,4] (fun x=>[(5,.b false),(6,.i x.1)]) (fun x=>[]) (fun x=>x.2) (fun x A=>A) (fun x=>ts.length+1-x.1) (fun x=>x.1<=ts.length/\(ts.drop x.1).all (ak 4)=R) (by simp;rfl) (fun x hx=>?_) (0,[]) (by simpa using hR) (by simp) (by simp) (by simp);obtain⟨p,G⟩:=x;obtain⟨hi,hq⟩:=hx;dsimp only at hi hq⊢;simp only[gi,aaL,aaM,aaG,aaF];by_cases az:p<ts.length
  ·obtain⟨u,ht⟩:=bX az;have fz:u∈ts:=aaK ht;have a8:ts[p]=u:=by rw[aaI az]at ht;exact Option.some.inj ht
   have jb:ts.drop p=u::ts.drop (p+1):=by rw[aaJ az,a8]
   have hu:=jS u (b7 u fz);rw[jb,List.all_cons]at hq;cases hb:ak 4 u<;>rw[hb]at hu hq
   ·simp only[aa4]at hq;subst hq;simp only[aa3,if_false,xk];repeat' first|(refine ab (hK _ ?_);clear hK K)|((first|refine af ?_|refine aa rfl (hu) ?_);simp[az,a8];(try simp(disch:=omega)only[wrap64]);(try(refine gen2 ?_ ?_<;>intro hq<;>(try simp[az,a8]at hq)<;>try(have:True:=hq;clear this hq))))|(refine T.ret (aD.bq (Or.inr rfl) ?_)<;>simp[aF,Tryz.results69]<;>omega)|refine T.r0 fun K hK=>?_|refine T.ct rfl ?_|refine T.seq ?_|refine T.block ?_|refine T.skip ?_
   ·repeat' first|(refine ab (hK _ ?_);clear hK K)|((first|refine af ?_|refine aa rfl (hu) ?_);simp[az,a8];(try simp(disch:=omega)only[wrap64]);(try(refine gen2 ?_ ?_<;>intro hq<;>(try simp[az,a8]at hq)<;>try(have:True:=hq;clear this hq))))|(refine⟨(p+1,_),by dsimp only;omega,⟨by dsimp only;omega,by simpa using hq⟩,rfl,?_,?_⟩<;>simp(disch:=omega) [wrap64])|refine T.r0 fun K hK=>?_|refine T.r1 fun K hK=>?_|refine T.ct rfl ?_|refine T.cf rfl ?_|refine T.seq ?_|refine T.block ?_|refine T.skip ?_
  ·have fX:p=ts.length:=by omega
   subst fX;simp at hq;subst hq;simp only[if_true,xk];repeat' first|(refine ab (hK _ ?_);clear hK K)|((first|refine af ?_|(refine aa ?_ (h3) ?_;(focus(solve|simp[az]))));simp[az];(try(refine gen2 ?_ ?_<;>intro hq<;>(try simp[az]at hq)<;>try(have:True:=hq;clear this hq))))|(refine T.ret (aD.bq (Or.inr rfl) ?_)<;>simp[aF,Tryz.results69]<;>omega)|refine T.r0 fun K hK=>?_|refine T.cf rfl ?_|refine T.seq ?_|refine T.exit ?_
end Go.Proofs.YtloolmchekcmeaaGreat
