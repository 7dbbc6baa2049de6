/- A part. -/
import Derived.Test.YtloolmchekcmeaaGreatXD13
set_option linter.unusedVariables false
set_option linter.unusedSimpArgs false
open Go.Proofs.Tryz renaming prog->aaK
open List renaming cons_append->aaL,nil_append->aaM,set_cons_zero->aaN,getElem?_eq_getElem->aaO,set_cons_succ->aaP,mem_of_getElem?->aaQ,take_add_one->aaR,drop_eq_getElem_cons->aaS,take_set_of_le->aaT,take_append_drop->aaU,mem_append->aaV,getElem_mem->aaW,getElem?_set_self->aaX,drop_set->aaY,drop_length->aaZ,append_assoc->aa0
open Nat renaming pow_le_pow_right->aa1,le_refl->aa2
open Bool renaming and_eq_true->aa3
open Option renaming isSome_some->aa4,isSome_none->aa5,map_some->aa6,map_eq_some_iff->aa7,map_none->aa8,bind->aa9
namespace Go.Proofs.YtloolmchekcmeaaGreat
attribute [-simp] Go.Av.c9 Go.Av.xO Go.Av.ef Go.Av.AV.dw Go.Av.CV.dw Go.Av.fR Go.Av.AV.cJ Go.Av.CV.cJ Go.Av.bP Go.Av.eu Go.Av.eN Go.Av.eG Go.Av.b8 Go.Av.bN
open Go Go.Av
attribute [local irreducible] T ah TX EX LX dA dB bL b5 eK aF.kind aF.kids ak.kind ak.name ak.num ak.ty ak.fr ak.label ak.kids
attribute [local simp] aN au
set_option maxHeartbeats 16000000
set_option maxRecDepth 8000
theorem cF (k:Int):ah aaK 49 [.i k] [] (ec (.mk k [])) [] []:=by
 refine ah.ob Tryz.func49 Tryz.ntmps49 rfl ?_;repeat' first|(refine ab (hK _ ?_);clear hK K)|(refine ae ?_;simp;(try(refine gen2 ?_ ?_<;>intro hq<;>try simp at hq)))|(refine T.ret (az.val (Or.inr rfl) ?_)<;>simp[aE,Tryz.results49]<;>omega)|refine T.r0 fun K hK=>?_
theorem jC (k:Int) (a b:aF):ah aaK 108 [.i k,ec a,ec b] [] (ec (.mk k [a,b])) [] []:=by
 refine ah.ob Tryz.func108 Tryz.ntmps108 rfl ?_;repeat' first|(refine ab (hK _ ?_);clear hK K)|(refine ae ?_;simp;(try(refine gen2 ?_ ?_<;>intro hq<;>try simp at hq)))|(refine T.ret (az.val (Or.inr rfl) ?_)<;>simp[aE,Tryz.results108,aN]<;>omega)|refine T.r0 fun K hK=>?_
theorem fE:∀(t:aF),dF t<=1099511627776->ah aaK 104 [ec t] [] (ec t) [] []:=by
 intro t;induction t using aF.ind with
 |h t ih=>
  intro hn;rw[ed]at hn;have hlen:=eY t.kids;refine ah.ob Tryz.func104 Tryz.ntmps104 rfl ?_;repeat' first|(refine ab (hK _ ?_);clear hK K)|(refine ae ?_;simp;(try(refine gen2 ?_ ?_<;>intro hq<;>try simp at hq)))|refine T.r0 fun K hK=>?_|refine T.seq ?_|refine T.block ?_
  refine T.dK 2 1 2 25 (row:=[.d (.i t.kind),.nil]) (by simp) (by simp) ?_;refine T.dr (α:=Nat×List (List CV)) [2,3,10,11] (fun x=>[(12,.i x.1)]) (fun x=>[(2,[.d (.i t.kind),.own 0 x.1])]) (fun x=>x.2) (fun x _=>[{sz:=2,dE:=25,rows:=(t.kids.take x.1).map b5,wr:=true}]) (fun x=>t.kids.length+1-x.1) (fun x=>x.1<=t.kids.length) (by simp;rfl) (fun x hx=>?_) (0,[]) (by simp) (by simp) (by simp) (by simp);obtain⟨p,G⟩:=x;dsimp only at hx⊢;by_cases ax:p<t.kids.length
  ·obtain⟨u,ht⟩:=bz ax;have eJ:u∈t.kids:=aaQ ht;have bg:t.kids[p]=u:=by rw[aaO ax]at ht;exact Option.some.inj ht
   have iY:t.kids.drop p=u::t.kids.drop (p+1):=by rw[aaS ax,bg]
   have hu:=ih u eJ (by have:=fi eJ;omega);have qA:t.kids.take (p+1)=t.kids.take p++[u]:=by rw[aaR,ht];rfl
   have fK:min p t.kids.length=p:=by omega
   simp only[gI,aaN,aaP,aaL,aaM];repeat' first|((first|refine ab (hK _ ?_)|refine aB (hK _ ?_));clear hK K)|((first|refine ae ?_|refine aG ?_|refine aa rfl (hu) ?_);simp[ax,bg,fK];(try simp(disch:=omega)only[wrap64]);(try(refine gen2 ?_ ?_<;>intro hq<;>try simp[ax,bg,fK]at hq)))|(refine⟨by omega,by omega,?_⟩)|(refine⟨(p+1,_),by dsimp only;omega,by dsimp only;omega,rfl,?_,?_⟩<;>simp(disch:=omega) [wrap64,qA,aN])|refine T.AS (id:=5) mixed (fun _=>false) [5,7] (by kernel_rfl) fun K hK=>?_|refine T.r0 fun K hK=>?_|refine T.r1 fun K hK=>?_|refine T.ct rfl ?_|refine T.seq ?_|refine T.block ?_|refine T.skip ?_
  ·have eb:p=t.kids.length:=by omega
   subst eb;simp only[gI,aaN,aaP,aaL,aaM];repeat' first|(refine ab (hK _ ?_);clear hK K)|(refine ae ?_;simp[ax];(try(refine gen2 ?_ ?_<;>intro hq<;>try simp[ax]at hq)))|(refine T.ret (az.val (Or.inr rfl) ?_)<;>simp[aE,Tryz.results104,aN]<;>omega)|refine T.r0 fun K hK=>?_|refine T.cf rfl ?_|refine T.seq ?_|refine T.exit ?_
theorem w5 (k:Int) (hk:k≠1) (t:aF) (hl:t.kind=k->2<=t.kids.length):
  ah aaK 170 [ec t,.i k] [] (.aZ (match cQ k t with|some (a,b)=>[ec a,ec b,.b true]|none=>[ec aX,ec aX,.b false])) [] []:=by
 have Fg:=cF 1;simp only[cQ];by_cases gF:t.kind=1
 ·rw[if_pos gF];have qf:¬(1:Int)=k:=fun h=>hk h.symm
  dsimp only;refine ah.ob Tryz.func170 Tryz.ntmps170 rfl ?_;repeat' first|(refine ab (hK _ ?_);clear hK K)|((first|refine ae ?_|refine aa rfl (Fg) ?_);simp[gF,qf];(try(refine gen2 ?_ ?_<;>intro hq<;>try simp[gF,qf]at hq)))|(refine T.ret (az.aZ (Or.inr rfl) ?_)<;>simp[aE,Tryz.results170]<;>omega)|refine T.r0 fun K hK=>?_|refine T.ct rfl ?_|refine T.cf rfl ?_|refine T.seq ?_|refine T.block ?_
 rw[if_neg gF];by_cases hk:t.kind=k
 rotate_left
 ·rw[if_neg hk];dsimp only;refine ah.ob Tryz.func170 Tryz.ntmps170 rfl ?_;repeat' first|(refine ab (hK _ ?_);clear hK K)|(refine ae ?_;simp[gF,hk];(try(refine gen2 ?_ ?_<;>intro hq<;>try simp[gF,hk]at hq)))|(refine T.ret (az.aZ (Or.inr rfl) ?_)<;>simp[aE,Tryz.results170]<;>omega)|refine T.r0 fun K hK=>?_|refine T.cf rfl ?_|refine T.seq ?_|refine T.block ?_|refine T.skip ?_
 rw[if_pos hk];have rA:=hl hk
 match kp:t.kids,rA with
 |a::b::r,_=>
  dsimp only;refine ah.ob Tryz.func170 Tryz.ntmps170 rfl ?_;repeat' first|((first|refine ab (hK _ ?_)|refine bm (hK _ ?_));clear hK K)|((first|refine ae ?_|refine bF ?_);simp[hk,kp];(try(refine gen2 ?_ ?_<;>intro hq<;>try simp[hk,kp]at hq)))|(refine T.ret (az.aZ (Or.inr rfl) ?_)<;>simp[aE,Tryz.results170]<;>omega)|refine T.pN (id:=3) mixed (fun _=>false) [8,9] [5,6,7] 9 [1] (by kernel_rfl) fun K hK=>?_|refine T.r0 fun K hK=>?_|refine T.ct rfl ?_|refine T.seq ?_|refine T.block ?_
theorem Jw:∀{d:Nat} {a:aF},nw d a->d<=4->∀{b:aF},nw d b->aD a b=true->ah aaK 171 [ec a,ec b] [] (ec (bC a b)) [] []:=by
 intro d a ha;induction ha with
 |any d=>
  intro hd b hb hc;have hn:dF b<=1099511627776:=by have:=ji _ b hb.shape;have:2 ^(d+1)<=2 ^ 4:=aa1 (by omega) hd;omega
  have ho:=fE b hn;rw[show bC km b=b by rw[gh];simp];refine ah.ob Tryz.func171 Tryz.ntmps171 rfl ?_;repeat' first|(refine ab (hK _ ?_);clear hK K)|((first|refine ae ?_|refine aa rfl (ho) ?_);simp;(try(refine gen2 ?_ ?_<;>intro hq<;>try simp at hq)))|(refine T.ret (az.val (Or.inr rfl) ?_)<;>simp[aE,Tryz.results171]<;>omega)|refine T.r0 fun K hK=>?_|refine T.ct rfl ?_|refine T.seq ?_|refine T.block ?_
 |int d=>
  intro hd b hb hc;have ho:=fE bp (by simp[dX,aL]);have e:bC bp b=bp:=by cases hb<;>simp[bC,jx]<;>simp[aD]at hc
  rw[e];by_cases vA:b.kind=1
  ·refine ah.ob Tryz.func171 Tryz.ntmps171 rfl ?_;repeat' first|(refine ab (hK _ ?_);clear hK K)|((first|refine ae ?_|(refine aa ?_ (ho) ?_;(focus(solve|simp[vA]))));simp[vA];(try(refine gen2 ?_ ?_<;>intro hq<;>try simp[vA]at hq)))|(refine T.ret (az.val (Or.inr rfl) ?_)<;>simp[aE,Tryz.results171]<;>omega)|refine T.r0 fun K hK=>?_|refine T.ct rfl ?_|refine T.cf rfl ?_|refine T.seq ?_|refine T.block ?_
  ·refine ah.ob Tryz.func171 Tryz.ntmps171 rfl ?_;repeat' first|(refine ab (hK _ ?_);clear hK K)|((first|refine ae ?_|(refine aa ?_ (ho) ?_;(focus(solve|simp[vA]))));simp[vA];(try(refine gen2 ?_ ?_<;>intro hq<;>try simp[vA]at hq)))|(refine T.ret (az.val (Or.inr rfl) ?_)<;>simp[aE,Tryz.results171]<;>omega)|refine T.r0 fun K hK=>?_|refine T.ct rfl ?_|refine T.cf rfl ?_|refine T.seq ?_|refine T.block ?_
 |bool d=>
  intro hd b hb hc;have ho:=fE cx (by simp[dX,aL]);have e:bC cx b=cx:=by cases hb<;>simp[bC,jx]<;>simp[aD]at hc
  rw[e];by_cases vA:b.kind=1
  ·refine ah.ob Tryz.func171 Tryz.ntmps171 rfl ?_;repeat' first|(refine ab (hK _ ?_);clear hK K)|((first|refine ae ?_|(refine aa ?_ (ho) ?_;(focus(solve|simp[vA]))));simp[vA];(try(refine gen2 ?_ ?_<;>intro hq<;>try simp[vA]at hq)))|(refine T.ret (az.val (Or.inr rfl) ?_)<;>simp[aE,Tryz.results171]<;>omega)|refine T.r0 fun K hK=>?_|refine T.ct rfl ?_|refine T.cf rfl ?_|refine T.seq ?_|refine T.block ?_
  ·refine ah.ob Tryz.func171 Tryz.ntmps171 rfl ?_;repeat' first|(refine ab (hK _ ?_);clear hK K)|((first|refine ae ?_|(refine aa ?_ (ho) ?_;(focus(solve|simp[vA]))));simp[vA];(try(refine gen2 ?_ ?_<;>intro hq<;>try simp[vA]at hq)))|(refine T.ret (az.val (Or.inr rfl) ?_)<;>simp[aE,Tryz.results171]<;>omega)|refine T.r0 fun K hK=>?_|refine T.ct rfl ?_|refine T.cf rfl ?_|refine T.seq ?_|refine T.block ?_
 | @fn d x y hx hy ih1 ih2=>
  intro hd b hb hc;by_cases vA:b.kind=1
  ·have e:b=km:=by cases hb<;>simp at vA<;>rfl
   subst e;have hn:dF (.mk 4 [x,y])<=1099511627776:=by have:=ji _ _ (nw.fn hx hy).shape;have:2 ^(d+1)<=2 ^ 4:=aa1 (by omega) hd;omega
   have ho:=fE (.mk 4 [x,y]) hn;rw[show bC (.mk 4 [x,y]) km=.mk 4 [x,y] by rw[gh];simp];refine ah.ob Tryz.func171 Tryz.ntmps171 rfl ?_;repeat' first|(refine ab (hK _ ?_);clear hK K)|((first|refine ae ?_|(refine aa ?_ (ho) ?_;(focus(solve|simp))));simp;(try(refine gen2 ?_ ?_<;>intro hq<;>try simp at hq)))|(refine T.ret (az.val (Or.inr rfl) ?_)<;>simp[aE,Tryz.results171]<;>omega)|refine T.r0 fun K hK=>?_|refine T.ct rfl ?_|refine T.cf rfl ?_|refine T.seq ?_|refine T.block ?_
  ·obtain⟨u,v,e,hu,hv⟩:∃u v,b=.mk 4 [u,v]/\nw d u/\nw d v:=by
    cases hb with
    |any=>simp at vA
    |int=>simp[aD]at hc
    |bool=>simp[aD]at hc
    |fn h1 h2=>first|exact⟨_,_,rfl,h1,h2⟩|simp[aD]at hc
    |pair h1 h2=>first|exact⟨_,_,rfl,h1,h2⟩|simp[aD]at hc
   subst e;rw[A7 (by omega)]at hc;simp only[aa3]at hc;have h1:=ih1 (by omega) hu hc.1;have h2:=ih2 (by omega) hv hc.2;have h3:=jC 4 (bC x u) (bC y v);rw[A8 (by omega)];refine ah.ob Tryz.func171 Tryz.ntmps171 rfl ?_;repeat' first|((first|refine ab (hK _ ?_)|refine aB (hK _ ?_));clear hK K)|((first|refine ae ?_|refine aG ?_|refine aa rfl (h1) ?_|refine aa rfl (h2) ?_|refine aa rfl (h3) ?_);simp;(try(refine gen2 ?_ ?_<;>intro hq<;>try simp at hq)))|(refine T.ret (az.val (Or.inr rfl) ?_)<;>simp[aE,Tryz.results171]<;>omega)|refine T.rd (id:=5) mixed (fun _=>false) [21] (by kernel_rfl) fun K hK=>?_|refine T.r0 fun K hK=>?_|refine T.cf rfl ?_|refine T.seq ?_|refine T.block ?_|refine T.skip ?_
 | @pair d x y hx hy ih1 ih2=>
  intro hd b hb hc;by_cases vA:b.kind=1
  ·have e:b=km:=by cases hb<;>simp at vA<;>rfl
   subst e;have hn:dF (.mk 5 [x,y])<=1099511627776:=by have:=ji _ _ (nw.pair hx hy).shape;have:2 ^(d+1)<=2 ^ 4:=aa1 (by omega) hd;omega
   have ho:=fE (.mk 5 [x,y]) hn;rw[show bC (.mk 5 [x,y]) km=.mk 5 [x,y] by rw[gh];simp];refine ah.ob Tryz.func171 Tryz.ntmps171 rfl ?_;repeat' first|(refine ab (hK _ ?_);clear hK K)|((first|refine ae ?_|(refine aa ?_ (ho) ?_;(focus(solve|simp))));simp;(try(refine gen2 ?_ ?_<;>intro hq<;>try simp at hq)))|(refine T.ret (az.val (Or.inr rfl) ?_)<;>simp[aE,Tryz.results171]<;>omega)|refine T.r0 fun K hK=>?_|refine T.ct rfl ?_|refine T.cf rfl ?_|refine T.seq ?_|refine T.block ?_
  ·obtain⟨u,v,e,hu,hv⟩:∃u v,b=.mk 5 [u,v]/\nw d u/\nw d v:=by
    cases hb with
    |any=>simp at vA
    |int=>simp[aD]at hc
    |bool=>simp[aD]at hc
    |fn h1 h2=>first|exact⟨_,_,rfl,h1,h2⟩|simp[aD]at hc
    |pair h1 h2=>first|exact⟨_,_,rfl,h1,h2⟩|simp[aD]at hc
   subst e;rw[A7 (by omega)]at hc;simp only[aa3]at hc;have h1:=ih1 (by omega) hu hc.1;have h2:=ih2 (by omega) hv hc.2;have h3:=jC 5 (bC x u) (bC y v);rw[A8 (by omega)];refine ah.ob Tryz.func171 Tryz.ntmps171 rfl ?_;repeat' first|((first|refine ab (hK _ ?_)|refine aB (hK _ ?_));clear hK K)|((first|refine ae ?_|refine aG ?_|refine aa rfl (h1) ?_|refine aa rfl (h2) ?_|refine aa rfl (h3) ?_);simp;(try(refine gen2 ?_ ?_<;>intro hq<;>try simp at hq)))|(refine T.ret (az.val (Or.inr rfl) ?_)<;>simp[aE,Tryz.results171]<;>omega)|refine T.rd (id:=5) mixed (fun _=>false) [21] (by kernel_rfl) fun K hK=>?_|refine T.r0 fun K hK=>?_|refine T.cf rfl ?_|refine T.seq ?_|refine T.block ?_|refine T.skip ?_
theorem yl (f:FuncId) (l:List dI) (q:dI->Bool) (hl:l.length<=4611686018427387904) (hf:∀t∈l,ah aaK f [QO t] [] (.b (q t)) [] []):
  ah aaK 160 [.l (l.map lJ),.c (.fn f [])] [] (.i (fB q l 0)) [] []:=by
 refine ah.ob Tryz.func160 Tryz.ntmps160 rfl ?_;repeat' first|(refine ab (hK _ ?_);clear hK K)|(refine ae ?_;simp;(try(refine gen2 ?_ ?_<;>intro hq<;>try simp at hq)))|refine T.r0 fun K hK=>?_|refine T.seq ?_|refine T.block ?_
 obtain⟨R,hR⟩:∃R,fB q l 0=R:=⟨_,rfl⟩;rw[hR];refine T.fJ (fun p:Nat=>⟨[(0,.l (l.map lJ)),(1,.c (.fn f [])),(7,.i l.length),(8,.i p)],[],[]⟩) (fun p=>l.length+1-p) (fun p=>p<=l.length/\fB q (l.drop p) p=R) (fun p hp=>?_) 0 (by simpa using hR) (by simp);obtain⟨hi,he⟩:=hp;by_cases ax:p<l.length
 ·obtain⟨u,ht⟩:=bz ax;have eJ:u∈l:=aaQ ht;have bg:l[p]=u:=by rw[aaO ax]at ht;exact Option.some.inj ht
  have iY:l.drop p=u::l.drop (p+1):=by rw[aaS ax,bg]
  have hu:=hf u eJ;rw[iY,fB]at he;cases hb:q u<;>rw[hb]at hu he
  ·repeat' first|(refine ab (hK _ ?_);clear hK K)|((first|refine ae ?_|refine aa rfl (hu) ?_);simp[ax,bg,lJ];(try simp(disch:=omega)only[wrap64]);(try(refine gen2 ?_ ?_<;>intro hq<;>try simp[ax,bg,lJ]at hq)))|(refine⟨p+1,by dsimp only;omega,⟨by omega,by simpa using he⟩,?_⟩;simp(disch:=omega) [wrap64])|refine T.r0 fun K hK=>?_|refine T.r1 fun K hK=>?_|refine T.ct rfl ?_|refine T.cf rfl ?_|refine T.seq ?_|refine T.block ?_|refine T.skip ?_
  ·repeat' first|(refine ab (hK _ ?_);clear hK K)|((first|refine ae ?_|refine aa rfl (hu) ?_);simp[ax,bg,lJ];(try simp(disch:=omega)only[wrap64]);(try(refine gen2 ?_ ?_<;>intro hq<;>try simp[ax,bg,lJ]at hq)))|(refine T.ret (az.data (Or.inr rfl) ?_ ?_)<;>simp[Tryz.results160,<-he]<;>omega)|refine T.r0 fun K hK=>?_|refine T.ct rfl ?_|refine T.seq ?_|refine T.block ?_|refine T.skip ?_
 ·have eb:p=l.length:=by omega
  subst eb;simp[fB]at he;repeat' first|(refine ab (hK _ ?_);clear hK K)|(refine ae ?_;simp[ax];(try(refine gen2 ?_ ?_<;>intro hq<;>try simp[ax]at hq)))|(refine T.ret (az.data (Or.inr rfl) ?_ ?_)<;>simp[Tryz.results160,he]<;>omega)|refine T.r0 fun K hK=>?_|refine T.cf rfl ?_|refine T.seq ?_|refine T.exit ?_
theorem tJ (f:FuncId) (l:List dI) (q:dI->Bool) (hl:l.length<=4611686018427387904) (hf:∀t∈l,ah aaK f [QO t] [] (.b (q t)) [] []):
  ah aaK 139 [.l (l.map lJ),.c (.fn f [])] [] (.b (l.any q)) [] []:=by
 refine ah.ob Tryz.func139 Tryz.ntmps139 rfl ?_;rw[<-oR (i:=0) (by omega)];repeat' first|(refine ab (hK _ ?_);clear hK K)|((first|refine ae ?_|refine aa rfl (yl f l q hl hf) ?_);simp;(try(refine gen2 ?_ ?_<;>intro hq<;>try simp at hq)))|(refine T.ret (az.data (Or.inr rfl) ?_ ?_)<;>simp[Tryz.results139, *]<;>omega)|refine T.r0 fun K hK=>?_
theorem zW (b:dI) (hn:dF b.ty<=1099511627776):ah aaK 140 [QO b] [] (.b (!(dG b.name && al 4 b.ty))) [] []:=by
 have h1:=yG b.name;have h2:=gy b.ty hn;generalize dG b.name=q1 at*;generalize al 4 b.ty=q2 at*;refine ah.ob Tryz.func140 Tryz.ntmps140 rfl ?_;repeat' first|(refine ab (hK _ ?_);clear hK K)|((first|refine ae ?_|refine aa rfl (h1) ?_|refine aa rfl (h2) ?_);simp;(try(refine gen2 ?_ ?_<;>intro hq<;>try simp at hq)))|(refine T.ret (az.data (Or.inr rfl) ?_ ?_)<;>simp[Tryz.results140, *]<;>omega)|refine T.r0 fun K hK=>?_
theorem BS (ctx:List dI) (hl:ctx.length<=1099511627776) (hn:∀b∈ctx,dF b.ty<=1099511627776):ah aaK 113 [u5 ctx] [] (.b (uZ ctx)) [] []:=by
 have h:=tJ 140 ctx _ (by omega) (fun b hb=>zW b (hn b hb));have e:uZ ctx=(decide (ctx.length<=12)&& !ctx.any fun b=> !(dG b.name && al 4 b.ty)):=by
  have h2:=oS (fun b:dI=>dG b.name && al 4 b.ty) ctx;rw[h2,uZ,Bool.and_comm]
 rw[e];generalize (ctx.any fun b=> !(dG b.name && al 4 b.ty))=q at*;have e2:(decide ((ctx.length:Int)<=12))=decide (ctx.length<=12):=decide_eq_decide.2 (by omega);refine ah.ob Tryz.func113 Tryz.ntmps113 rfl ?_;repeat' first|(refine ab (hK _ ?_);clear hK K)|((first|refine ae ?_|refine aa rfl (h) ?_);simp;(try(refine gen2 ?_ ?_<;>intro hq<;>try simp at hq)))|(refine T.ret (az.data (Or.inr rfl) ?_ ?_)<;>simp[Tryz.results113, *]<;>omega)|refine T.r0 fun K hK=>?_
theorem uE:(a b:aF)->dF a<=1099511627776->ah aaK 28 [ec a,ec b] [] (.b (ew a b)) [] []
 |.mk k l,b,hn=>by
  rw[ed]at hn;have hlen:=eY l;have hc:=qB 28 l b.kids ew (by simp at hn;omega) (fun u hu v hv=>uE u v (by have:=fi hu;simp at hn;omega));rw[CL];simp only[aF.bD,aF.cb];generalize iH ew l b.kids=R at hc⊢;refine ah.ob Tryz.func28 Tryz.ntmps28 rfl ?_;repeat' first|(refine ab (hK _ ?_);clear hK K)|((first|refine ae ?_|refine aa rfl (hc) ?_);simp;(try(refine gen2 ?_ ?_<;>intro hq<;>try simp at hq)))|(refine T.ret (az.data (Or.inr rfl) ?_ ?_)<;>simp[Tryz.results28, *]<;>omega)|refine T.r0 fun K hK=>?_
termination_by a=>SizeOf.sizeOf a
decreasing_by have:=List.sizeOf_lt_of_mem hu;simp;omega
theorem w6 (e:ak):ah aaK 48 [cE e] [] (.b (bI e.kind)) [] []:=by
 rw[bI];refine ah.ob Tryz.func48 Tryz.ntmps48 rfl ?_;repeat' first|(refine ab (hK _ ?_);clear hK K)|(refine ae ?_;simp;(try(refine gen2 ?_ ?_<;>intro hq<;>try simp at hq)))|(refine T.ret (az.data (Or.inr rfl) ?_ ?_)<;>simp[Tryz.results48, *]<;>omega)|refine T.r0 fun K hK=>?_
theorem FA (f:FuncId) (g:ak->ak) (q:ak->Prop) (hq:∀e,q e->∀u∈e.kids,q u)
  (hf:∀e,q e->ah aaK f [cE (.mk e.kind e.name e.num e.ty e.fr e.label (e.kids.map (mapM g)))] [] (cE (mapM g e)) [] []):
  ∀(e:ak),q e->fa e<=1099511627776->ah aaK 46 [cE e,.c (.fn f [])] [] (cE (mapM g e)) [] []:=by
 intro e;induction e using ak.ind with
 |h e ih=>
  intro SX hn;obtain⟨kJ,qD,CR,uw⟩:=cU hn;have h1:=fE e.ty kJ;have h2:=fE e.fr qD;have h3:=hf e SX;simp only[cE,ak.bD,ak.cb,ak.gu,ak.ng,ak.jI,ak.jJ,ak.iR]at h3;generalize mapM g e=R at h3⊢;refine ah.ob Tryz.func46 Tryz.ntmps46 rfl ?_;repeat' first|(refine ab (hK _ ?_);clear hK K)|(refine ae ?_;simp;(try(refine gen2 ?_ ?_<;>intro hq<;>(try simp at hq)<;>try(have:True:=hq;clear this hq))))|refine T.r0 fun K hK=>?_|refine T.seq ?_|refine T.block ?_
  refine T.qS 5 9 28 (by simp) ?_;refine T.dr (α:=Nat×List (List CV)) [1,2,4,9,10] (fun x=>[(5,.c (.own 0 x.1)),(11,.i x.1)]) (fun x=>[]) (fun x=>x.2) (fun x _=>[{sz:=9,dE:=28,rows:=((e.kids.map (mapM g)).take x.1).map eK,wr:=true}]) (fun x=>e.kids.length+1-x.1) (fun x=>x.1<=e.kids.length) (by simp;rfl) (fun x hx=>?_) (0,[]) (by simp) (by simp) (by simp) (by simp);obtain⟨p,G⟩:=x;dsimp only at hx⊢;simp only[gI,aaL,aaM];by_cases ax:p<e.kids.length
  ·obtain⟨u,ht⟩:=bz ax;have eJ:u∈e.kids:=aaQ ht;have bg:e.kids[p]=u:=by rw[aaO ax]at ht;exact Option.some.inj ht
   have iY:e.kids.drop p=u::e.kids.drop (p+1):=by rw[aaS ax,bg]
   have hu:=ih u eJ (hq e SX u eJ) (by have:=uw u eJ;omega);have qA:(e.kids.map (mapM g)).take (p+1)=(e.kids.map (mapM g)).take p++[mapM g u]:=by rw[aaR,List.getElem?_map,ht];rfl
   have oB:min p (e.kids.map (mapM g)).length=p:=by simp;omega
   generalize (e.kids.map (mapM g))=Z at*;repeat' first|(refine ab (hK _ ?_);clear hK K)|((first|refine ae ?_|refine aa rfl (hu) ?_);simp[ax,bg,oB];(try simp(disch:=omega)only[wrap64]);(try(refine gen2 ?_ ?_<;>intro hq<;>(try simp[ax,bg,oB]at hq)<;>try(have:True:=hq;clear this hq))))|(refine⟨by omega,by omega,?_⟩)|(refine⟨(p+1,_),by dsimp only;omega,by dsimp only;omega,rfl,?_,?_⟩<;>simp(disch:=omega) [wrap64,qA,au,oB])|refine T.r0 fun K hK=>?_|refine T.r1 fun K hK=>?_|refine T.ct rfl ?_|refine T.seq ?_|refine T.block ?_|refine T.skip ?_
  ·have eb:p=e.kids.length:=by omega
   subst eb;have oB:(e.kids.map (mapM g)).length=e.kids.length:=by simp
   rw[List.take_of_length_le (by omega)];generalize (e.kids.map (mapM g))=Z at*;repeat' first|((first|refine ab (hK _ ?_)|refine aB (hK _ ?_));clear hK K)|((first|refine ae ?_|refine aG ?_|refine aa rfl (h1) ?_|refine aa rfl (h2) ?_|(refine aa ?_ (h3) ?_;(focus(solve|simp[ax,oB]))));simp[ax,oB];(try(refine gen2 ?_ ?_<;>intro hq<;>(try simp[ax,oB]at hq)<;>try(have:True:=hq;clear this hq))))|(refine T.ret (az.val (Or.inr rfl) ?_)<;>simp[aE,Tryz.results46]<;>omega)|refine T.rd (id:=7) mixed (fun _=>false) [8,10,12] (by kernel_rfl) fun K hK=>?_|refine T.r0 fun K hK=>?_|refine T.cf rfl ?_|refine T.seq ?_|refine T.exit ?_
end Go.Proofs.YtloolmchekcmeaaGreat
namespace Go.Proofs.YtloolmchekcmeaaGreat
attribute [-simp] Go.Av.c9 Go.Av.xO Go.Av.ef Go.Av.AV.dw Go.Av.CV.dw Go.Av.fR Go.Av.AV.cJ Go.Av.CV.cJ Go.Av.bP Go.Av.eu Go.Av.eN Go.Av.eG Go.Av.b8 Go.Av.bN
open Go Go.Av
attribute [local irreducible] T ah TX EX LX dA dB bL b5 eK aF.kind aF.kids ak.kind ak.name ak.num ak.ty ak.fr ak.label ak.kids
attribute [local simp] aN au
set_option maxHeartbeats 16000000
set_option maxRecDepth 8000
attribute [local simp] aa9
theorem BT (l:List dI) (hl:l.length<=1099511627776):ah aaK 161 [u5 l] [] (.c (.own 0 l.length)) [] [{sz:=3,dE:=146,rows:=l.map lJ,wr:=true}]:=by
 refine ah.ob Tryz.func161 Tryz.ntmps161 rfl ?_;refine T.rs (fun _=>false) fun K hK=>?_
 refine ae ?_;simp;refine ab (hK _ ?_);clear hK K;refine T.seq ?_;refine T.ND rfl rfl rfl rfl rfl rfl Hs rfl (by simp;rfl) fun bb PB=>?_
 cases bb
 ·repeat' first|(refine ab (hK _ ?_);clear hK K)|(refine ae ?_;simp[lJ];(try(refine gen2 ?_ ?_<;>intro hq<;>try simp[lJ]at hq)))|(refine⟨by omega,by omega,?_⟩)|refine T.rs (id:=3) (fun i=>i==0) fun K hK=>?_|refine T.cf rfl ?_|refine T.skip ?_
  refine T.ret (az.I8 0 (Or.inr rfl) (ys:=[_]) ?_ rfl ?_)<;>simp[aE,Tryz.results161,lJ]<;>rfl
 ·have:l=[]:=by simpa using PB rfl
  subst this;refine T.cond rfl (fun aA=>?_) (fun aA=>absurd aA (by decide));refine T.rs (fun _=>false) fun K hK=>?_
  refine ae ?_;simp;refine ab (hK _ ?_);clear hK K;refine T.qS 2 3 146 (by simp) ?_;refine T.ret (az.I8 0 (Or.inr rfl) (ys:=[_]) ?_ rfl ?_)<;>simp[aE,Tryz.results161]
theorem FB (ctx:List dI) (s:List UInt8) (hl:ctx.length<=1099511627776):
  ah aaK 169 [u5 ctx,.s s] [] (.aZ (match dO ctx s with|some t=>[ec t,.b true]|none=>[ec aX,.b false])) [] []:=by
 have Ht:∀p,p<ctx.length->dO (ctx.take (p+1)) s=if(ctx[p]?.map dI.name)=some s then ctx[p]?.map dI.ty else dO (ctx.take p) s:=by
  have GB:∀(l:List dI) (b:dI),dO (l++[b]) s=if b.name=s then some b.ty else dO l s:=by
   intro l;induction l with
   |nil=>intro b;simp[dO]
   |cons x r ih=>
    intro b;simp only[aaL,dO,ih b];by_cases hb:b.name=s
    ·simp[hb]
    ·simp[hb]
  intro p hp;rw[aaR,aaO hp];simp only[Option.toList_some,GB,aa6,Option.some.injEq]
 refine ah.ob Tryz.func169 Tryz.ntmps169 rfl ?_;repeat' first|(refine ab (hK _ ?_);clear hK K)|(refine ae ?_;simp;(try simp(disch:=omega)only[wrap64]);(try(refine gen2 ?_ ?_<;>intro hq<;>try simp at hq)))|refine T.r0 fun K hK=>?_|refine T.seq ?_|refine T.block ?_
 obtain⟨R,hR⟩:∃R,dO ctx s=R:=⟨_,rfl⟩;rw[hR];refine T.dr (α:=Nat) [0,1,4] (fun p=>[(6,.i ((p:Int)-1))]) (fun p=>[]) (fun _=>[]) (fun _ A=>A) (fun p=>p) (fun p=>p<=ctx.length/\dO (ctx.take p) s=R) (by simp;rfl) (fun p hp=>?_) ctx.length (by simpa using hR) (by simp) (by simp) (by simp);obtain⟨hi,he⟩:=hp;simp only[gI,List.append_nil,aaL,aaM];cases p with
 |zero=>
  simp[dO]at he;subst he;repeat' first|(refine ab (hK _ ?_);clear hK K)|(refine ae ?_;simp;(try(refine gen2 ?_ ?_<;>intro hq<;>try simp at hq)))|(refine T.ret (az.aZ (Or.inr rfl) ?_)<;>simp[aE,Tryz.results169]<;>omega)|refine T.r0 fun K hK=>?_|refine T.cf rfl ?_|refine T.seq ?_|refine T.exit ?_
 |succ p=>
  rw[Ht p (by omega)]at he;have ax:p<ctx.length:=by omega
  obtain⟨b,ht⟩:=bz ax;have eJ:b∈ctx:=aaQ ht;have bg:ctx[p]=b:=by rw[aaO ax]at ht;exact Option.some.inj ht
  have oE:(0:Int)<=(p:Int)+1-1:=by omega
  have Hu:((p:Int)+1-1)=p:=by omega
  rw[ht]at he;by_cases hb:b.name=s
  ·simp[hb]at he;subst he;repeat' first|(refine ab (hK _ ?_);clear hK K)|(refine ae ?_;simp[ax,bg,oE,Hu,hb,lJ];(try simp(disch:=omega)only[wrap64]);(try(refine gen2 ?_ ?_<;>intro hq<;>try simp[ax,bg,oE,Hu,hb,lJ]at hq)))|(refine T.ret (az.aZ (Or.inr rfl) ?_)<;>simp[aE,Tryz.results169]<;>omega)|refine T.r0 fun K hK=>?_|refine T.ct rfl ?_|refine T.seq ?_|refine T.block ?_|refine T.skip ?_
  ·simp[hb]at he;repeat' first|(refine ab (hK _ ?_);clear hK K)|(refine ae ?_;simp[ax,bg,oE,Hu,hb,lJ];(try simp(disch:=omega)only[wrap64]);(try(refine gen2 ?_ ?_<;>intro hq<;>try simp[ax,bg,oE,Hu,hb,lJ]at hq)))|(refine⟨p,by dsimp only;omega,⟨by omega,he⟩,rfl,rfl,?_⟩;simp(disch:=omega) [wrap64])|refine T.r0 fun K hK=>?_|refine T.r1 fun K hK=>?_|refine T.ct rfl ?_|refine T.cf rfl ?_|refine T.seq ?_|refine T.block ?_|refine T.skip ?_
def WT (ctx:List dI) (e:ak) (ts:List aF) (r:Option (List aF×aF)):Prop:=∃ws t,(∀p,r=some p->p=(ws,t))/\ah aaK 162 [u5 ctx,cE e,Nu ts] [] (.aZ [Nu ws,ec t,.b r.isSome]) [] []
theorem Jx (ctx:List dI) (hl:ctx.length<=1099511627776) (e:ak) (hk:e.kind=1):WT ctx e [] (ck ctx e.kind e.name e.ty []):=by
 have hint:=cF 2;have eB:=cF 3;have mJ:=FB ctx e.name hl;rw[show ck ctx e.kind e.name e.ty []=(dO ctx e.name).map fun t=>([],t) by simp[ck,hk]];cases hr:dO ctx e.name with
 |none=>
  rw[hr]at mJ;refine⟨[],aX,by simp,?_⟩;simp only[aa8,aa5]at mJ⊢;refine ah.ob Tryz.func162 Tryz.ntmps162 rfl ?_;repeat' first|((first|refine ab (hK _ ?_)|refine aB (hK _ ?_));clear hK K)|((first|refine ae ?_|refine aG ?_|refine aa rfl (hint) ?_|refine aa rfl (eB) ?_|refine aa rfl (mJ) ?_);simp[hk];(try(refine gen2 ?_ ?_<;>intro hq<;>try simp[hk]at hq)))|(refine T.ret (az.aZ (Or.inr rfl) ?_)<;>simp[aE,Tryz.results162]<;>omega)|refine T.rd (id:=5) mixed (fun _=>false) [3] (by kernel_rfl) fun K hK=>?_|refine T.r0 fun K hK=>?_|refine T.ct rfl ?_|refine T.seq ?_|refine T.block ?_
 |some t=>
  rw[hr]at mJ;refine⟨[],t,by simp,?_⟩;simp only[aa6,aa4]at mJ⊢;refine ah.ob Tryz.func162 Tryz.ntmps162 rfl ?_;repeat' first|((first|refine ab (hK _ ?_)|refine aB (hK _ ?_));clear hK K)|((first|refine ae ?_|refine aG ?_|refine aa rfl (hint) ?_|refine aa rfl (eB) ?_|refine aa rfl (mJ) ?_);simp[hk];(try(refine gen2 ?_ ?_<;>intro hq<;>try simp[hk]at hq)))|(refine T.ret (az.aZ (Or.inr rfl) ?_)<;>simp[aE,Tryz.results162]<;>omega)|refine T.rd (id:=5) mixed (fun _=>false) [3] (by kernel_rfl) fun K hK=>?_|refine T.r0 fun K hK=>?_|refine T.ct rfl ?_|refine T.seq ?_|refine T.block ?_
theorem Jy (ctx:List dI) (e:ak) (hk:e.kind=2):WT ctx e [] (ck ctx e.kind e.name e.ty []):=by
 have hint:=cF 2;have eB:=cF 3;rw[show ck ctx e.kind e.name e.ty []=some ([],bp) by simp[ck,hk]];refine⟨[],bp,by simp,?_⟩;simp only[aa4];refine ah.ob Tryz.func162 Tryz.ntmps162 rfl ?_;repeat' first|((first|refine ab (hK _ ?_)|refine aB (hK _ ?_));clear hK K)|((first|refine ae ?_|refine aG ?_|refine aa rfl (hint) ?_|refine aa rfl (eB) ?_);simp[hk];(try(refine gen2 ?_ ?_<;>intro hq<;>try simp[hk]at hq)))|(refine T.ret (az.aZ (Or.inr rfl) ?_)<;>simp[aE,Tryz.results162]<;>omega)|refine T.rd (id:=7) mixed (fun _=>false) [2] (by kernel_rfl) fun K hK=>?_|refine T.r0 fun K hK=>?_|refine T.ct rfl ?_|refine T.cf rfl ?_|refine T.seq ?_|refine T.block ?_
theorem Jz (ctx:List dI) (e:ak) (hk:e.kind=3):WT ctx e [] (ck ctx e.kind e.name e.ty []):=by
 have hint:=cF 2;have eB:=cF 3;rw[show ck ctx e.kind e.name e.ty []=some ([],cx) by simp[ck,hk]];refine⟨[],cx,by simp,?_⟩;simp only[aa4];refine ah.ob Tryz.func162 Tryz.ntmps162 rfl ?_;repeat' first|((first|refine ab (hK _ ?_)|refine aB (hK _ ?_));clear hK K)|((first|refine ae ?_|refine aG ?_|refine aa rfl (hint) ?_|refine aa rfl (eB) ?_);simp[hk];(try(refine gen2 ?_ ?_<;>intro hq<;>try simp[hk]at hq)))|(refine T.ret (az.aZ (Or.inr rfl) ?_)<;>simp[aE,Tryz.results162]<;>omega)|refine T.rd (id:=10) mixed (fun _=>false) [2] (by kernel_rfl) fun K hK=>?_|refine T.r0 fun K hK=>?_|refine T.ct rfl ?_|refine T.cf rfl ?_|refine T.seq ?_|refine T.block ?_|refine T.skip ?_
theorem JA (ctx:List dI) (e:ak) (hk:e.kind=4):WT ctx e [] (ck ctx e.kind e.name e.ty []):=by
 have hint:=cF 2;have eB:=cF 3;rw[show ck ctx e.kind e.name e.ty []=some ([],cx) by simp[ck,hk]];refine⟨[],cx,by simp,?_⟩;simp only[aa4];refine ah.ob Tryz.func162 Tryz.ntmps162 rfl ?_;repeat' first|((first|refine ab (hK _ ?_)|refine aB (hK _ ?_));clear hK K)|((first|refine ae ?_|refine aG ?_|refine aa rfl (hint) ?_|refine aa rfl (eB) ?_);simp[hk];(try(refine gen2 ?_ ?_<;>intro hq<;>try simp[hk]at hq)))|(refine T.ret (az.aZ (Or.inr rfl) ?_)<;>simp[aE,Tryz.results162]<;>omega)|refine T.rd (id:=10) mixed (fun _=>false) [2] (by kernel_rfl) fun K hK=>?_|refine T.r0 fun K hK=>?_|refine T.r1 fun K hK=>?_|refine T.ct rfl ?_|refine T.cf rfl ?_|refine T.seq ?_|refine T.block ?_
theorem JB (ctx:List dI) (e:ak) (a:aF) (hk:e.kind=5):WT ctx e [a] (ck ctx e.kind e.name e.ty [a]):=by
 have hint:=cF 2;have eB:=cF 3;have hb:=jC 4 e.ty a;rw[show ck ctx e.kind e.name e.ty [a]=some ([],.mk 4 [e.ty,a]) by simp[ck,hk]];refine⟨[],.mk 4 [e.ty,a],by simp,?_⟩;simp only[aa4];refine ah.ob Tryz.func162 Tryz.ntmps162 rfl ?_;repeat' first|((first|refine ab (hK _ ?_)|refine aB (hK _ ?_));clear hK K)|((first|refine ae ?_|refine aG ?_|refine aa rfl (hint) ?_|refine aa rfl (eB) ?_|refine aa rfl (hb) ?_);simp[hk];(try(refine gen2 ?_ ?_<;>intro hq<;>try simp[hk]at hq)))|(refine T.ret (az.aZ (Or.inr rfl) ?_)<;>simp[aE,Tryz.results162]<;>omega)|refine T.rd (id:=12) mixed (fun _=>false) [7] (by kernel_rfl) fun K hK=>?_|refine T.r0 fun K hK=>?_|refine T.r1 fun K hK=>?_|refine T.ct rfl ?_|refine T.cf rfl ?_|refine T.seq ?_|refine T.block ?_
theorem JC (ctx:List dI) (e:ak) (a b:aF) (hk:e.kind=6) (ha:al 4 a=true) (hb:al 4 b=true):WT ctx e [a,b] (ck ctx e.kind e.name e.ty [a,b]):=by
 have hint:=cF 2;have eB:=cF 3;have hm:=w5 4 (by omega) a (kN (.inl rfl) ha);rw[show ck ctx e.kind e.name e.ty [a,b]=match cQ 4 a with|some (x,y)=>if aD b x=true then some ([.mk 4 [x,y],x],y)else none|none=>none by simp[ck,hk];rfl];cases hr:cQ 4 a with
 |none=>
  rw[hr]at hm;have h2:=jC 4 aX aX;refine⟨[.mk 4 [aX,aX],aX],aX,by simp,?_⟩;simp only[aa5]at hm⊢;refine ah.ob Tryz.func162 Tryz.ntmps162 rfl ?_;repeat' first|((first|refine ab (hK _ ?_)|refine aB (hK _ ?_));clear hK K)|((first|refine ae ?_|refine aG ?_|refine aa rfl (hint) ?_|refine aa rfl (eB) ?_|refine aa rfl (hm) ?_|(refine aa ?_ (h2) ?_;(focus(solve|simp[hk]))));simp[hk];(try(refine gen2 ?_ ?_<;>intro hq<;>try simp[hk]at hq)))|(refine T.ret (az.aZ (Or.inr rfl) ?_)<;>simp[aE,Tryz.results162,aN]<;>omega)|refine T.rd (id:=15) mixed (fun _=>false) [15] (by kernel_rfl) fun K hK=>?_|refine T.r0 fun K hK=>?_|refine T.r1 fun K hK=>?_|refine T.ct rfl ?_|refine T.cf rfl ?_|refine T.seq ?_|refine T.block ?_
 |some p=>
  obtain⟨x,y⟩:=p;rw[hr]at hm;have h2:=jC 4 x y;have h3:=dp b x (by have:=dZ hb;omega);refine⟨[.mk 4 [x,y],x],y,?_,?_⟩
  ·intro p h;dsimp only at h;split at h<;>simp at h;exact h.symm
  dsimp only at hm⊢;rw[show(if aD b x=true then some ([aF.mk 4 [x,y],x],y)else none).isSome=aD b x by cases aD b x<;>rfl];generalize aD b x=c at h3;refine ah.ob Tryz.func162 Tryz.ntmps162 rfl ?_;repeat' first|((first|refine ab (hK _ ?_)|refine aB (hK _ ?_));clear hK K)|((first|refine ae ?_|refine aG ?_|refine aa rfl (hint) ?_|refine aa rfl (eB) ?_|refine aa rfl (hm) ?_|refine aa rfl (h2) ?_|refine aa rfl (h3) ?_);simp[hk];(try(refine gen2 ?_ ?_<;>intro hq<;>try simp[hk]at hq)))|(refine T.ret (az.aZ (Or.inr rfl) ?_)<;>simp[aE,Tryz.results162,aN]<;>omega)|refine T.rd (id:=15) mixed (fun _=>false) [15] (by kernel_rfl) fun K hK=>?_|refine T.r0 fun K hK=>?_|refine T.r1 fun K hK=>?_|refine T.ct rfl ?_|refine T.cf rfl ?_|refine T.seq ?_|refine T.block ?_
theorem JD (ctx:List dI) (e:ak) (a b:aF) (hk:e.kind=7) (ha:al 4 a=true) (hb:al 4 b=true):WT ctx e [a,b] (ck ctx e.kind e.name e.ty [a,b]):=by
 have hint:=cF 2;have eB:=cF 3;have h1:=dp a bp (by have:=dZ ha;omega);have h2:=dp b bp (by have:=dZ hb;omega);rw[show ck ctx e.kind e.name e.ty [a,b]=if aD a bp=true/\aD b bp=true then some ([bp,bp],bp)else none by simp[ck,hk]];refine⟨[bp,bp],bp,?_,?_⟩
 ·intro p h;split at h<;>simp at h;exact h.symm
 rw[show(if aD a bp=true/\aD b bp=true then some ([bp,bp],bp)else none).isSome=(aD a bp && aD b bp) by cases aD a bp<;>cases aD b bp<;>rfl];generalize aD a bp=c1 at h1⊢;generalize aD b bp=c2 at h2⊢;refine ah.ob Tryz.func162 Tryz.ntmps162 rfl ?_;repeat' first|((first|refine ab (hK _ ?_)|refine aB (hK _ ?_));clear hK K)|((first|refine ae ?_|refine aG ?_|refine aa rfl (hint) ?_|refine aa rfl (eB) ?_|(refine aa ?_ (h1) ?_;(focus(solve|simp[hk])))|(refine aa ?_ (h2) ?_;(focus(solve|simp[hk]))));simp[hk];(try(refine gen2 ?_ ?_<;>intro hq<;>try simp[hk]at hq)))|(refine T.ret (az.aZ (Or.inr rfl) ?_)<;>simp[aE,Tryz.results162, *,aN]<;>omega)|refine T.rd (id:=21) mixed (fun _=>false) [17] (by kernel_rfl) fun K hK=>?_|refine T.r0 fun K hK=>?_|refine T.r1 fun K hK=>?_|refine T.ct rfl ?_|refine T.cf rfl ?_|refine T.seq ?_|refine T.block ?_|refine T.skip ?_
theorem JE (ctx:List dI) (e:ak) (a b:aF) (hk:e.kind=8) (ha:al 4 a=true) (hb:al 4 b=true):WT ctx e [a,b] (ck ctx e.kind e.name e.ty [a,b]):=by
 have hint:=cF 2;have eB:=cF 3;have h1:=dp a bp (by have:=dZ ha;omega);have h2:=dp b bp (by have:=dZ hb;omega);rw[show ck ctx e.kind e.name e.ty [a,b]=if aD a bp=true/\aD b bp=true then some ([bp,bp],cx)else none by simp[ck,hk]];refine⟨[bp,bp],cx,?_,?_⟩
 ·intro p h;split at h<;>simp at h;exact h.symm
 rw[show(if aD a bp=true/\aD b bp=true then some ([bp,bp],cx)else none).isSome=(aD a bp && aD b bp) by cases aD a bp<;>cases aD b bp<;>rfl];generalize aD a bp=c1 at h1⊢;generalize aD b bp=c2 at h2⊢;refine ah.ob Tryz.func162 Tryz.ntmps162 rfl ?_;repeat' first|((first|refine ab (hK _ ?_)|refine aB (hK _ ?_));clear hK K)|((first|refine ae ?_|refine aG ?_|refine aa rfl (hint) ?_|refine aa rfl (eB) ?_|(refine aa ?_ (h1) ?_;(focus(solve|simp[hk])))|(refine aa ?_ (h2) ?_;(focus(solve|simp[hk]))));simp[hk];(try(refine gen2 ?_ ?_<;>intro hq<;>try simp[hk]at hq)))|(refine T.ret (az.aZ (Or.inr rfl) ?_)<;>simp[aE,Tryz.results162, *,aN]<;>omega)|refine T.rd (id:=21) mixed (fun _=>false) [17] (by kernel_rfl) fun K hK=>?_|refine T.r0 fun K hK=>?_|refine T.r1 fun K hK=>?_|refine T.ct rfl ?_|refine T.cf rfl ?_|refine T.seq ?_|refine T.block ?_
theorem JF (ctx:List dI) (e:ak) (a b c:aF) (hk:e.kind=9) (ha:al 4 a=true) (hb:al 4 b=true) (hc:al 4 c=true):WT ctx e [a,b,c] (ck ctx e.kind e.name e.ty [a,b,c]):=by
 have hint:=cF 2;have eB:=cF 3;have h1:=dp a cx (by have:=dZ ha;omega);have h2:=dp b c (by have:=dZ hb;omega);rw[show ck ctx e.kind e.name e.ty [a,b,c]=if aD a cx=true/\aD b c=true then some ([cx,bC b c,bC b c],bC b c)else none by simp[ck,hk]];by_cases hq:aD a cx=true/\aD b c=true
 ·rw[if_pos hq];have h3:=Jw (nw.of hb) (by omega) (nw.of hc) hq.2;rw[hq.1]at h1;rw[hq.2]at h2;refine⟨[cx,bC b c,bC b c],bC b c,by simp,?_⟩;generalize bC b c=mt at h3⊢;simp only[aa4];refine ah.ob Tryz.func162 Tryz.ntmps162 rfl ?_;repeat' first|((first|refine ab (hK _ ?_)|refine aB (hK _ ?_)|refine bm (hK _ ?_));clear hK K)|((first|refine ae ?_|refine aG ?_|refine bF ?_|refine aa rfl (hint) ?_|refine aa rfl (eB) ?_|(refine aa ?_ (h1) ?_;(focus(solve|simp[hk])))|refine aa rfl (h2) ?_|refine aa rfl (h3) ?_);simp[hk];(try(refine gen2 ?_ ?_<;>intro hq<;>(try simp[hk]at hq)<;>try(have:True:=hq;clear this hq))))|(refine T.ret (az.aZ (Or.inr rfl) ?_)<;>simp[aE,Tryz.results162,aN]<;>omega)|refine T.rd (id:=23) mixed (fun _=>false) [] (by kernel_rfl) fun K hK=>?_|refine T.pN (id:=25) mixed (fun _=>false) [7,8] [1,2,4,5,6] 8 [] (by kernel_rfl) fun K hK=>?_|(refine⟨?_,?_⟩;(focus(intros;refine aa rfl (h3) ?_;simp;done)))|refine T.rd (id:=26) mixed (fun _=>false) [6] (by kernel_rfl) fun K hK=>?_|refine T.r0 fun K hK=>?_|refine T.r1 fun K hK=>?_|refine T.ct rfl ?_|refine T.cf rfl ?_|refine T.seq ?_|refine T.block ?_|refine T.skip ?_
 ·rw[if_neg hq];refine⟨[],aX,by simp,?_⟩;simp only[aa5];generalize aD a cx=c1 at h1 hq⊢;generalize aD b c=c2 at h2 hq⊢;cases c1<;>cases c2
  ·refine ah.ob Tryz.func162 Tryz.ntmps162 rfl ?_;repeat' first|((first|refine ab (hK _ ?_)|refine aB (hK _ ?_));clear hK K)|((first|refine ae ?_|refine aG ?_|refine aa rfl (hint) ?_|refine aa rfl (eB) ?_|(refine aa ?_ (h1) ?_;(focus(solve|simp[hk]))));simp[hk];(try(refine gen2 ?_ ?_<;>intro hq<;>(try simp[hk]at hq)<;>try(have:True:=hq;clear this hq))))|(refine T.ret (az.aZ (Or.inr rfl) ?_)<;>simp[aE,Tryz.results162, *]<;>omega)|refine T.rd (id:=23) mixed (fun _=>false) [] (by kernel_rfl) fun K hK=>?_|refine T.r0 fun K hK=>?_|refine T.r1 fun K hK=>?_|refine T.ct rfl ?_|refine T.cf rfl ?_|refine T.seq ?_|refine T.block ?_
  ·refine ah.ob Tryz.func162 Tryz.ntmps162 rfl ?_;repeat' first|((first|refine ab (hK _ ?_)|refine aB (hK _ ?_));clear hK K)|((first|refine ae ?_|refine aG ?_|refine aa rfl (hint) ?_|refine aa rfl (eB) ?_|(refine aa ?_ (h1) ?_;(focus(solve|simp[hk]))));simp[hk];(try(refine gen2 ?_ ?_<;>intro hq<;>(try simp[hk]at hq)<;>try(have:True:=hq;clear this hq))))|(refine T.ret (az.aZ (Or.inr rfl) ?_)<;>simp[aE,Tryz.results162, *]<;>omega)|refine T.rd (id:=23) mixed (fun _=>false) [] (by kernel_rfl) fun K hK=>?_|refine T.r0 fun K hK=>?_|refine T.r1 fun K hK=>?_|refine T.ct rfl ?_|refine T.cf rfl ?_|refine T.seq ?_|refine T.block ?_
  ·refine ah.ob Tryz.func162 Tryz.ntmps162 rfl ?_;repeat' first|((first|refine ab (hK _ ?_)|refine aB (hK _ ?_));clear hK K)|((first|refine ae ?_|refine aG ?_|refine aa rfl (hint) ?_|refine aa rfl (eB) ?_|(refine aa ?_ (h1) ?_;(focus(solve|simp[hk])))|refine aa rfl (h2) ?_);simp[hk];(try(refine gen2 ?_ ?_<;>intro hq<;>(try simp[hk]at hq)<;>try(have:True:=hq;clear this hq))))|(refine T.ret (az.aZ (Or.inr rfl) ?_)<;>simp[aE,Tryz.results162, *]<;>omega)|refine T.rd (id:=23) mixed (fun _=>false) [] (by kernel_rfl) fun K hK=>?_|refine T.r0 fun K hK=>?_|refine T.r1 fun K hK=>?_|refine T.ct rfl ?_|refine T.cf rfl ?_|refine T.seq ?_|refine T.block ?_
  ·exact absurd ⟨rfl,rfl⟩ hq
theorem HJ (ctx:List dI) (e:ak) (a b:aF) (hk:e.kind=10):WT ctx e [a,b] (ck ctx e.kind e.name e.ty [a,b]):=by
 have hint:=cF 2;have eB:=cF 3;have hb:=jC 5 a b;rw[show ck ctx e.kind e.name e.ty [a,b]=some ([],.mk 5 [a,b]) by simp[ck,hk]];refine⟨[],.mk 5 [a,b],by simp,?_⟩;simp only[aa4];refine ah.ob Tryz.func162 Tryz.ntmps162 rfl ?_;repeat' first|((first|refine ab (hK _ ?_)|refine aB (hK _ ?_));clear hK K)|((first|refine ae ?_|refine aG ?_|refine aa rfl (hint) ?_|refine aa rfl (eB) ?_|refine aa rfl (hb) ?_);simp[hk];(try(refine gen2 ?_ ?_<;>intro hq<;>try simp[hk]at hq)))|(refine T.ret (az.aZ (Or.inr rfl) ?_)<;>simp[aE,Tryz.results162]<;>omega)|refine T.rd (id:=28) mixed (fun _=>false) [8] (by kernel_rfl) fun K hK=>?_|refine T.r0 fun K hK=>?_|refine T.r1 fun K hK=>?_|refine T.ct rfl ?_|refine T.cf rfl ?_|refine T.seq ?_|refine T.block ?_
theorem HK (ctx:List dI) (e:ak) (a:aF) (hk:e.kind=11) (ha:al 4 a=true):WT ctx e [a] (ck ctx e.kind e.name e.ty [a]):=by
 have hint:=cF 2;have eB:=cF 3;have hm:=w5 5 (by omega) a (kN (.inr rfl) ha);rw[show ck ctx e.kind e.name e.ty [a]=(cQ 5 a).map fun p=>([.mk 5 [p.1,p.2]],p.1) by simp[ck,hk]];cases hr:cQ 5 a with
 |none=>
  rw[hr]at hm;have h2:=jC 5 aX aX;refine⟨[.mk 5 [aX,aX]],aX,by simp,?_⟩;simp only[aa8,aa5]at hm⊢;refine ah.ob Tryz.func162 Tryz.ntmps162 rfl ?_;repeat' first|((first|refine ab (hK _ ?_)|refine aB (hK _ ?_));clear hK K)|((first|refine ae ?_|refine aG ?_|refine aa rfl (hint) ?_|refine aa rfl (eB) ?_|refine aa rfl (hm) ?_|(refine aa ?_ (h2) ?_;(focus(solve|simp[hk]))));simp[hk];(try(refine gen2 ?_ ?_<;>intro hq<;>try simp[hk]at hq)))|(refine T.ret (az.aZ (Or.inr rfl) ?_)<;>simp[aE,Tryz.results162,aN]<;>omega)|refine T.rd (id:=35) mixed (fun _=>false) [7] (by kernel_rfl) fun K hK=>?_|refine T.r0 fun K hK=>?_|refine T.r1 fun K hK=>?_|refine T.cf rfl ?_|refine T.seq ?_|refine T.block ?_|refine T.skip ?_
 |some p=>
  obtain⟨x,y⟩:=p;rw[hr]at hm;have h2:=jC 5 x y;refine⟨[.mk 5 [x,y]],x,by simp,?_⟩;simp only[aa6,aa4]at hm⊢;refine ah.ob Tryz.func162 Tryz.ntmps162 rfl ?_;repeat' first|((first|refine ab (hK _ ?_)|refine aB (hK _ ?_));clear hK K)|((first|refine ae ?_|refine aG ?_|refine aa rfl (hint) ?_|refine aa rfl (eB) ?_|refine aa rfl (hm) ?_|refine aa rfl (h2) ?_);simp[hk];(try(refine gen2 ?_ ?_<;>intro hq<;>try simp[hk]at hq)))|(refine T.ret (az.aZ (Or.inr rfl) ?_)<;>simp[aE,Tryz.results162,aN]<;>omega)|refine T.rd (id:=35) mixed (fun _=>false) [7] (by kernel_rfl) fun K hK=>?_|refine T.r0 fun K hK=>?_|refine T.r1 fun K hK=>?_|refine T.cf rfl ?_|refine T.seq ?_|refine T.block ?_|refine T.skip ?_
theorem HL (ctx:List dI) (e:ak) (a:aF) (hk:e.kind=12) (ha:al 4 a=true):WT ctx e [a] (ck ctx e.kind e.name e.ty [a]):=by
 have hint:=cF 2;have eB:=cF 3;have hm:=w5 5 (by omega) a (kN (.inr rfl) ha);rw[show ck ctx e.kind e.name e.ty [a]=(cQ 5 a).map fun p=>([.mk 5 [p.1,p.2]],p.2) by simp[ck,hk]];cases hr:cQ 5 a with
 |none=>
  rw[hr]at hm;have h2:=jC 5 aX aX;refine⟨[.mk 5 [aX,aX]],aX,by simp,?_⟩;simp only[aa8,aa5]at hm⊢;refine ah.ob Tryz.func162 Tryz.ntmps162 rfl ?_;repeat' first|((first|refine ab (hK _ ?_)|refine aB (hK _ ?_));clear hK K)|((first|refine ae ?_|refine aG ?_|refine aa rfl (hint) ?_|refine aa rfl (eB) ?_|refine aa rfl (hm) ?_|(refine aa ?_ (h2) ?_;(focus(solve|simp[hk]))));simp[hk];(try(refine gen2 ?_ ?_<;>intro hq<;>try simp[hk]at hq)))|(refine T.ret (az.aZ (Or.inr rfl) ?_)<;>simp[aE,Tryz.results162,aN]<;>omega)|refine T.rd (id:=35) mixed (fun _=>false) [7] (by kernel_rfl) fun K hK=>?_|refine T.r0 fun K hK=>?_|refine T.r1 fun K hK=>?_|refine T.ct rfl ?_|refine T.cf rfl ?_|refine T.seq ?_|refine T.block ?_|refine T.skip ?_
 |some p=>
  obtain⟨x,y⟩:=p;rw[hr]at hm;have h2:=jC 5 x y;refine⟨[.mk 5 [x,y]],y,by simp,?_⟩;simp only[aa6,aa4]at hm⊢;refine ah.ob Tryz.func162 Tryz.ntmps162 rfl ?_;repeat' first|((first|refine ab (hK _ ?_)|refine aB (hK _ ?_));clear hK K)|((first|refine ae ?_|refine aG ?_|refine aa rfl (hint) ?_|refine aa rfl (eB) ?_|refine aa rfl (hm) ?_|refine aa rfl (h2) ?_);simp[hk];(try(refine gen2 ?_ ?_<;>intro hq<;>try simp[hk]at hq)))|(refine T.ret (az.aZ (Or.inr rfl) ?_)<;>simp[aE,Tryz.results162,aN]<;>omega)|refine T.rd (id:=35) mixed (fun _=>false) [7] (by kernel_rfl) fun K hK=>?_|refine T.r0 fun K hK=>?_|refine T.r1 fun K hK=>?_|refine T.ct rfl ?_|refine T.cf rfl ?_|refine T.seq ?_|refine T.block ?_|refine T.skip ?_
theorem HM (ctx:List dI) (e:ak) (a:aF) (hk:e.kind=13) (ha:al 4 a=true):WT ctx e [a] (ck ctx e.kind e.name e.ty [a]):=by
 have hint:=cF 2;have eB:=cF 3;have h1:=dp a e.ty (by have:=dZ ha;omega);rw[show ck ctx e.kind e.name e.ty [a]=if aD a e.ty=true then some ([e.ty],e.ty)else none by simp[ck,hk]];refine⟨[e.ty],e.ty,?_,?_⟩
 ·intro p h;split at h<;>simp at h;exact h.symm
 rw[show(if aD a e.ty=true then some ([e.ty],e.ty)else none).isSome=aD a e.ty by cases aD a e.ty<;>rfl];generalize aD a e.ty=c at h1⊢;refine ah.ob Tryz.func162 Tryz.ntmps162 rfl ?_;repeat' first|((first|refine ab (hK _ ?_)|refine aB (hK _ ?_));clear hK K)|((first|refine ae ?_|refine aG ?_|refine aa rfl (hint) ?_|refine aa rfl (eB) ?_|refine aa rfl (h1) ?_);simp[hk];(try(refine gen2 ?_ ?_<;>intro hq<;>try simp[hk]at hq)))|(refine T.ret (az.aZ (Or.inr rfl) ?_)<;>simp[aE,Tryz.results162,aN]<;>omega)|refine T.rd (id:=30) mixed (fun _=>false) [12] (by kernel_rfl) fun K hK=>?_|refine T.r0 fun K hK=>?_|refine T.r1 fun K hK=>?_|refine T.ct rfl ?_|refine T.cf rfl ?_|refine T.seq ?_|refine T.block ?_
@[simp] theorem PC:td aaK 165=some {ag:=true,sz:=1,kI:=8,zero:=some [.d (.int .i64 0)],el:=none,ar:=none,fl:=[(0,1)],ik:=none,cy:=false,l6:=false}:=dq (by kernel_rfl)
theorem Eh (n:Int) (h0:0<=n) (hn:n<=1099511627776) (e:ak) (f t:aF) (hf:dF f<=1099511627776):
  ah aaK 163 [.c (.ptr 0 0),cE e,ec f,ec t] (dV [[.i n]]) (cE (qy n e f t).1) (dV [[.i (qy n e f t).2]]) []:=by
 have h1:=uE f t hf;simp only[qy];by_cases hq:ew f t=true
 ·rw[if_pos hq];rw[hq]at h1;refine ah.ob Tryz.func163 Tryz.ntmps163 rfl ?_;repeat' first|(refine ab (hK _ ?_);clear hK K)|((first|refine ae ?_|refine aa rfl (h1) ?_);simp;(try(refine gen2 ?_ ?_<;>intro hq<;>(try simp at hq)<;>try(have:True:=hq;clear this hq))))|refine T.r0 fun K hK=>?_|refine T.ct rfl ?_|refine T.seq ?_
  refine T.ret (az.uX (Or.inr rfl) ?_ ?_ ?_)<;>simp[Tryz.results163]
 ·rw[if_neg hq];rw[show ew f t=false by simpa using hq]at h1;refine ah.ob Tryz.func163 Tryz.ntmps163 rfl ?_;repeat' first|((first|refine ab (hK _ ?_)|refine aB (hK _ ?_));clear hK K)|((first|refine ae ?_|refine aG ?_|refine aa rfl (h1) ?_);simp;(try simp(disch:=omega)only[wrap64]);(try(refine gen2 ?_ ?_<;>intro hq<;>(try simp at hq)<;>try(have:True:=hq;clear this hq))))|refine T.rd (id:=4) mixed (fun _=>false) [9] (by kernel_rfl) fun K hK=>?_|refine T.r0 fun K hK=>?_|refine T.cf rfl ?_|refine T.seq ?_|refine T.skip ?_
  refine T.ret (az.uX (Or.inr rfl) ?_ ?_ ?_)<;>simp[Tryz.results163,au]
end Go.Proofs.YtloolmchekcmeaaGreat
namespace Go.Proofs.YtloolmchekcmeaaGreat
attribute [-simp] Go.Av.ef Go.Av.AV.dw Go.Av.CV.dw Go.Av.fR Go.Av.AV.cJ Go.Av.CV.cJ Go.Av.bP Go.Av.eu Go.Av.eN Go.Av.eG Go.Av.b8 Go.Av.bN
open Go Go.Av
attribute [local irreducible] T ah TX EX LX dA dB bL b5 eK aF.kind aF.kids ak.kind ak.name ak.num ak.ty ak.fr ak.label ak.kids
attribute [local simp] aN au
set_option maxHeartbeats 16000000
set_option maxRecDepth 8000
attribute [local simp] aa9
theorem yZ (ctx:List dI) (hl:ctx.length<=1099511627776) (e:ak) (ts:List aF) (hk:0<e.kind/\e.kind<14) (hlen:(ts.length:Int)=cL e.kind) (b6:∀u∈ts,al 4 u=true):
  WT ctx e ts (ck ctx e.kind e.name e.ty ts):=by
 have C1:e.kind=1\/e.kind=2\/e.kind=3\/e.kind=4\/e.kind=5\/e.kind=6\/e.kind=7\/e.kind=8\/e.kind=9\/e.kind=10\/e.kind=11\/e.kind=12\/e.kind=13:=by omega
 have h0:cL e.kind=0->ts=[]:=fun h=>List.eq_nil_of_length_eq_zero (by omega)
 have h1:cL e.kind=1->∃a,ts=[a]:=fun h=>by
  match ts,hlen with
  |[a],_=>exact⟨a,rfl⟩
  |[],h'=>simp at h';omega
  |_::_::_,h'=>simp at h';omega
 have h2:cL e.kind=2->∃a b,ts=[a,b]:=fun h=>by
  match ts,hlen with
  |[a,b],_=>exact⟨a,b,rfl⟩
  |[],h'=>simp at h';omega
  |[_],h'=>simp at h';omega
  |_::_::_::_,h'=>simp at h';omega
 have h3:cL e.kind=3->∃a b c,ts=[a,b,c]:=fun h=>by
  match ts,hlen with
  |[a,b,c],_=>exact⟨a,b,c,rfl⟩
  |[],h'=>simp at h';omega
  |[_],h'=>simp at h';omega
  |[_,_],h'=>simp at h';omega
  |_::_::_::_::_,h'=>simp at h';omega
 rcases C1 with h|h|h|h|h|h|h|h|h|h|h|h|h
 ·obtain rfl:=h0 (by rw[h];rfl);exact Jx ctx hl e h
 ·obtain rfl:=h0 (by rw[h];rfl);exact Jy ctx e h
 ·obtain rfl:=h0 (by rw[h];rfl);exact Jz ctx e h
 ·obtain rfl:=h0 (by rw[h];rfl);exact JA ctx e h
 ·obtain⟨a,rfl⟩:=h1 (by rw[h];rfl);exact JB ctx e a h
 ·obtain⟨a,b,rfl⟩:=h2 (by rw[h];rfl);exact JC ctx e a b h (b6 a (by simp)) (b6 b (by simp))
 ·obtain⟨a,b,rfl⟩:=h2 (by rw[h];rfl);exact JD ctx e a b h (b6 a (by simp)) (b6 b (by simp))
 ·obtain⟨a,b,rfl⟩:=h2 (by rw[h];rfl);exact JE ctx e a b h (b6 a (by simp)) (b6 b (by simp))
 ·obtain⟨a,b,c,rfl⟩:=h3 (by rw[h];rfl);exact JF ctx e a b c h (b6 a (by simp)) (b6 b (by simp)) (b6 c (by simp))
 ·obtain⟨a,b,rfl⟩:=h2 (by rw[h];rfl);exact HJ ctx e a b h
 ·obtain⟨a,rfl⟩:=h1 (by rw[h];rfl);exact HK ctx e a h (b6 a (by simp))
 ·obtain⟨a,rfl⟩:=h1 (by rw[h];rfl);exact HL ctx e a h (b6 a (by simp))
 ·obtain⟨a,rfl⟩:=h1 (by rw[h];rfl);exact HM ctx e a h (b6 a (by simp))
def lY (es:List ak) (ts:List aF):Option (List ak×List aF)×Int->Option (List ak×List aF)×Int
 |(none,n)=>(none,n)
 |(some (es',ts'),n)=>(some (es++es',ts++ts'),n)
theorem w7 (r:Option (List ak×List aF)×Int):lY [] [] r=r:=by
 obtain⟨o,n⟩:=r;cases o<;>rfl
theorem uF (es:List ak) (ts:List aF) (e:ak) (t:aF) (m:Int) (f:Int->Option (List ak×List aF)×Int):lY es ts (oW (some (e,t),m) f)=lY (es++[e]) (ts++[t]) (f m):=by
 simp only[oW];cases f m with
 |mk o n=>
  cases o with
  |none=>rfl
  |some p=>obtain⟨a,b⟩:=p;simp[lY]
theorem BU {ctx:List dI} {k:Int} {s:List UInt8} {ty:aF} {ts ws:List aF} {t:aF} (h:ck ctx k s ty ts=some (ws,t)):ws.length<=ts.length:=by
 simp only[ck]at h;split at h
 ·obtain⟨_,_,h'⟩:=aa7.1 h;cases h';simp
 split at h
 ·cases h<;>simp
 split at h
 ·cases h<;>simp
 split at h
 ·split at h
  ·cases h<;>simp
  split at h
  ·obtain⟨_,_,h'⟩:=aa7.1 h;cases h';simp
  split at h
  ·obtain⟨_,_,h'⟩:=aa7.1 h;cases h';simp
  split at h
  ·split at h<;>cases h<;>simp
  ·cases h
 ·split at h
  ·split at h
   ·split at h<;>cases h<;>simp
   ·cases h
  split at h
  ·split at h<;>cases h<;>simp
  split at h
  ·split at h<;>cases h<;>simp
  split at h
  ·cases h<;>simp
  ·cases h
 ·split at h
  ·split at h<;>cases h<;>simp
  ·cases h
 ·cases h
theorem w8 {ctx:List dI} {e:ak} {ts ws:List aF} {t:aF} (hc:ir ctx) (he:bY e.kind=true->al 4 e.ty=true) (b6:∀u∈ts,al 4 u=true) (h:ck ctx e.kind e.name e.ty ts=some (ws,t)):dF t<=1000:=by
 have key:∀{t:aF},al 4 t=true->dF t<=100:=fun h=>by have:=dZ h;omega
 simp only[ck]at h;split at h
 ·obtain⟨_,h1,h'⟩:=aa7.1 h;cases h'
  obtain⟨b,h2,h3,_⟩:=rU h1;have:=key (hc b h2);rw[h3]at this;omega
 split at h
 ·cases h;simp[dX,aL]
 split at h
 ·cases h;simp[dX,aL]
 split at h
 ·rename_i a;have ha:=key (b6 a (by simp));split at h
  ·rename_i h5;cases h
   have:=key (he (by simp[bY,h5]));simp[dX,aL];omega
  split at h
  ·obtain⟨p,h1,h'⟩:=aa7.1 h;obtain⟨x,y⟩:=p;cases h'
   have:=key (eA h1 (b6 a (by simp))).1;dsimp only;omega
  split at h
  ·obtain⟨p,h1,h'⟩:=aa7.1 h;obtain⟨x,y⟩:=p;cases h'
   have:=key (eA h1 (b6 a (by simp))).2;dsimp only;omega
  split at h
  ·rename_i dn;split at h
   ·cases h
    have:=key (he (by simp[bY,dn]));omega
   ·cases h
  ·cases h
 ·rename_i a b;have ha:=key (b6 a (by simp));have hb:=key (b6 b (by simp));split at h
  ·split at h
   ·rename_i x y hm;split at h
    ·cases h
     have:=key (eA hm (b6 a (by simp))).2;omega
    ·cases h
   ·cases h
  split at h
  ·split at h
   ·cases h;simp[dX,aL]
   ·cases h
  split at h
  ·split at h
   ·cases h;simp[dX,aL]
   ·cases h
  split at h
  ·cases h;simp[dX,aL];omega
  ·cases h
 ·rename_i a b c;split at h
  ·split at h
   ·rename_i hq;cases h
    have:=key (nk 4 b c (b6 b (by simp)) (b6 c (by simp)) hq.2);omega
   ·cases h
  ·cases h
 ·cases h
theorem y0 (c:Int) (es:List ak) (ts:List aF):iy c es ts []=(es,c):=by
 cases es<;>cases ts<;>rfl
theorem HN (ctx:List dI) (hl:ctx.length<=1073741824) (e:ak) (hk:0<e.kind/\e.kind<14) (h5:e.kind≠5) (n:Int) (hlen:cL e.kind=e.kids.length)
  (h0:0<=n) (hn:n+fa e<=1073741824) (hc:ir ctx) (Bn:bY e.kind=true->al 4 e.ty=true)
  (hs:∀u∈e.kids,∀(n:Int) x t m,fU ctx u n=(some (x,t),m)->al 4 t=true)
  (ih:∀u∈e.kids,∀n:Int,0<=n->n+fa u<=1073741824->ah aaK 142 [.c (.ptr 0 0),u5 ctx,cE u] (dV [[.i n]]) (.aZ (iT (fU ctx u n).1)) (dV [[.i (fU ctx u n).2]]) []):
  ah aaK 142 [.c (.ptr 0 0),u5 ctx,cE e] (dV [[.i n]]) (.aZ (iT (nv ctx e.kind e.name e.num e.ty e.fr e.label (eF ctx e.kids n)).1)) (dV [[.i (nv ctx e.kind e.name e.num e.ty e.fr e.label (eF ctx e.kids n)).2]]) []:=by
 obtain⟨R,hR⟩:∃R,eF ctx e.kids n=R:=⟨_,rfl⟩;rw[hR];have F9:e.kids.length<=3:=by have:=rV e.kind;omega
 have UK:n+dW e.kids<=1073741824:=by rw[fS]at hn;omega
 refine ah.ob Tryz.func142 Tryz.ntmps142 rfl ?_;repeat' first|(refine ab (hK _ ?_);clear hK K)|(refine ae ?_;simp[h5];(try(refine gen2 ?_ ?_<;>intro hq<;>try simp[h5]at hq)))|refine T.r0 fun K hK=>?_|refine T.cf rfl ?_|refine T.seq ?_|refine T.block ?_|refine T.skip ?_
 refine T.dK 4 8 9 28 (row:=[.d (.i e.kind),.d (.str e.name),.d (.i e.num),.d (.i e.ty.kind),.d (.sl (e.ty.kids.map b5)),.d (.i e.fr.kind),.d (.sl (e.fr.kids.map b5)),.d (.i e.label),.nil]) (by simp) (by simp) ?_;refine T.qS 11 2 25 (by simp) ?_
 refine T.dr (α:=Nat×List ak×List aF×Int×List (List CV)) [0,1,5,6,7,9,10,38,39] (fun x=>[(8,.b false),(11,.c (.own 1 x.1)),(40,.i x.1)]) (fun x=>[(0,[.d (.i x.2.2.2.1)]),(4,[.d (.i e.kind),.d (.str e.name),.d (.i e.num),.d (.i e.ty.kind),.d (.sl (e.ty.kids.map b5)),.d (.i e.fr.kind),.d (.sl (e.fr.kids.map b5)),.d (.i e.label),.own 0 x.1])]) (fun x=>x.2.2.2.2) (fun x _=>[{sz:=9,dE:=28,rows:=x.2.1.map eK,wr:=true},{sz:=2,dE:=25,rows:=x.2.2.1.map b5,wr:=true}]) (fun x=>e.kids.length+1-x.1)
  (fun x=>x.1<=e.kids.length/\x.2.1.length=x.1/\x.2.2.1.length=x.1/\(∀u∈x.2.2.1,al 4 u=true)/\0<=x.2.2.2.1/\x.2.2.2.1+dW (e.kids.drop x.1)<=1073741824/\lY x.2.1 x.2.2.1 (eF ctx (e.kids.drop x.1) x.2.2.2.1)=R) (by simp;rfl) (fun x hx=>?_) (0,[],[],n,[]) (by simp[w7,hR];omega) (by simp) (by simp) (by simp)
 obtain⟨p,es,ts,c,G⟩:=x;obtain⟨hi,HO,b6,kX,LU,JG,he⟩:=hx;dsimp only at hi HO b6 kX LU JG he⊢;simp only[gI,aaN,aaP,aaL,aaM];by_cases ax:p<e.kids.length
 ·obtain⟨u,ht⟩:=bz ax;have eJ:u∈e.kids:=aaQ ht;have bg:e.kids[p]=u:=by rw[aaO ax]at ht;exact Option.some.inj ht
  have iY:e.kids.drop p=u::e.kids.drop (p+1):=by rw[aaS ax,bg]
  rw[iY]at he JG;simp only[dW]at JG;have hu:=ih u eJ c LU (by omega);have hle:=D1 u ctx c;rw[eF]at he;cases hb:fU ctx u c with
  |mk o m=>
   rw[hb]at hu he hle;cases o with
   |none=>
    simp only[oW,lY]at he;subst he;simp only[nv,iT]at hu⊢;repeat' first|(refine ab (hK _ ?_);clear hK K)|(refine ae ?_;simp[ax,bg];(try simp(disch:=omega)only[wrap64]);(try(refine gen2 ?_ ?_<;>intro hq<;>try simp[ax,bg]at hq)))|(refine jM [0] (by simp) rfl rfl hu ?_;simp)|refine T.r0 fun K hK=>?_|refine T.ct rfl ?_|refine T.seq ?_|refine T.block ?_|refine T.skip ?_
    all_goals(first|refine T.ret (az.gt (Or.inr rfl) ?_ ?_)|refine T.ret (az.g1 (Or.inr rfl) ?_ ?_))<;>(simp[aE,Tryz.results142])
   |some q=>
    obtain⟨x,t⟩:=q;have jt:=hs u eJ c x t m hb;simp only[iT]at hu hle;rw[uF]at he;repeat' first|((first|refine ab (hK _ ?_)|refine iz (hK _ ?_));clear hK K)|((first|refine ae ?_|refine jN ?_);simp[ax,bg,HO,b6];(try simp(disch:=omega)only[wrap64]);(try(refine gen2 ?_ ?_<;>intro hq<;>try simp[ax,bg,HO,b6]at hq)))|(refine jM [0] (by simp) rfl rfl hu ?_;simp)|(refine⟨by omega,by omega,?_⟩)|refine T.Hl (id:=13) mixed (fun _=>false) [4,8,10] [6,7] 5 [4] [0] (by kernel_rfl) fun K hK=>?_|refine T.r0 fun K hK=>?_|refine T.r1 fun K hK=>?_|refine T.ct rfl ?_|refine T.cf rfl ?_|refine T.seq ?_|refine T.block ?_|refine T.skip ?_
    refine⟨(p+1,es++[x],ts++[t],m,_),by dsimp only;omega,⟨by dsimp only;omega,by simp[HO],by simp[b6],fun v hv=>?_,by dsimp only at hle⊢;omega,by dsimp only at hle⊢;omega,he⟩,rfl,?_,?_⟩
    ·rcases aaV.1 hv with h|h
     ·exact kX v h
     ·simp at h;subst h;exact jt
    ·simp[au,aN]
    ·simp(disch:=omega) [wrap64]
 ·have eb:p=e.kids.length:=by omega
  subst eb;simp[eF,lY]at he;subst he;obtain⟨ws,t,HP,oY⟩:=yZ ctx (by omega) e ts hk (by rw[b6];exact hlen.symm) kX;cases vn:ck ctx e.kind e.name e.ty ts with
  |none=>
   rw[vn]at oY;simp only[aa5]at oY;simp only[nv,vn,iT];repeat' first|(refine ab (hK _ ?_);clear hK K)|((first|refine ae ?_|(refine aa ?_ (oY) ?_;(focus(solve|simp[ax,b6]))));simp[ax,b6];(try(refine gen2 ?_ ?_<;>intro hq<;>try simp[ax,b6]at hq)))|refine T.r0 fun K hK=>?_|refine T.ct rfl ?_|refine T.cf rfl ?_|refine T.seq ?_|refine T.exit ?_
   all_goals(first|refine T.ret (az.gt (Or.inr rfl) ?_ ?_)|refine T.ret (az.g1 (Or.inr rfl) ?_ ?_))<;>(simp[aE,Tryz.results142])
  |some q=>
   obtain rfl:=HP q vn;rw[vn]at oY;simp only[aa4]at oY;have Rm:dF t<=1099511627776:=by have:=w8 hc Bn kX vn;omega
   have JH:=gy t Rm;cases oA:al 4 t with
   |false=>
    rw[oA]at JH;simp only[nv,vn,oA,iT];repeat' first|(refine ab (hK _ ?_);clear hK K)|((first|refine ae ?_|(refine aa ?_ (oY) ?_;(focus(solve|simp[ax,b6])))|refine aa rfl (JH) ?_);simp[ax,b6];(try(refine gen2 ?_ ?_<;>intro hq<;>try simp[ax,b6]at hq)))|refine T.r0 fun K hK=>?_|refine T.ct rfl ?_|refine T.cf rfl ?_|refine T.seq ?_|refine T.exit ?_
    all_goals(first|refine T.ret (az.gt (Or.inr rfl) ?_ ?_)|refine T.ret (az.g1 (Or.inr rfl) ?_ ?_))<;>(simp[aE,Tryz.results142])
   |true=>
    rw[oA]at JH;have vB:=BU vn;repeat' first|(refine ab (hK _ ?_);clear hK K)|((first|refine ae ?_|(refine aa ?_ (oY) ?_;(focus(solve|simp[ax,b6])))|refine aa rfl (JH) ?_);simp[ax,b6];(try(refine gen2 ?_ ?_<;>intro hq<;>try simp[ax,b6]at hq)))|refine T.r0 fun K hK=>?_|refine T.cf rfl ?_|refine T.seq ?_|refine T.block ?_|refine T.skip ?_|refine T.exit ?_
    obtain⟨F,hF⟩:∃F,iy c es ts ws=F:=⟨_,rfl⟩;rw[show nv ctx e.kind e.name e.num e.ty e.fr e.label (some (es,ts),c)=(if e.kind=13 then(F.1.head?.map fun x=>(x,t),F.2)else(some (.mk e.kind e.name e.num e.ty e.fr e.label F.1,t),F.2)) by simp only[nv,vn,hF];simp[oA]]
    refine T.dr (α:=Nat×List ak×Int×List (List CV)) [0,5,6,7,8,10,11,18,84,85] (fun x=>[(86,.i x.1)]) (fun x=>[(0,[.d (.i x.2.2.1)])]) (fun x=>x.2.2.2) (fun x _=>[{sz:=9,dE:=28,rows:=x.2.1.map eK,wr:=true},{sz:=2,dE:=25,rows:=ts.map b5,wr:=false}]) (fun x=>ws.length+1-x.1)
     (fun x=>x.1<=ws.length/\x.2.1.length=ts.length/\0<=x.2.2.1/\x.2.2.1<=c+x.1/\(x.2.1.take x.1++(iy x.2.2.1 (x.2.1.drop x.1) (ts.drop x.1) (ws.drop x.1)).1,(iy x.2.2.1 (x.2.1.drop x.1) (ts.drop x.1) (ws.drop x.1)).2)=F) (by simp;rfl) (fun x hx=>?_) (0,es,c,[]) (by simp[HO,b6,hF,LU]) (by simp) (by simp) (by simp)
    clear hF;obtain⟨p,cur,c2,G2⟩:=x;obtain⟨hp,j3,HQ,zo,Dd⟩:=hx;dsimp only at hp j3 HQ zo Dd⊢;simp only[gI,aaN,aaP,aaL,aaM];by_cases og:p<ws.length
    ·have zx:p<ts.length:=by omega
     have JI:p<cur.length:=by omega
     obtain⟨w,hw⟩:∃w,ws[p]=w:=⟨_,rfl⟩;obtain⟨h,hh⟩:∃h,ts[p]=h:=⟨_,rfl⟩;obtain⟨x,hx⟩:∃x,cur[p]=x:=⟨_,rfl⟩;rw[drop_cons og,drop_cons zx,drop_cons JI,hw,hh,hx]at Dd;have Ro:h∈ts:=by rw[<-hh];exact aaW zx
     have BV:=Eh c2 HQ (by omega) x h w (by have:=dZ (kX h Ro);omega);have LV:=wD c2 x h w;simp only[iy]at Dd;have jt:∀y,(cur.set p y).take (p+1)=cur.take p++[y]:=fun y=>by rw[aaR,aaX JI,aaT (aa2 p)];rfl
     have Rq:∀y,(cur.set p y).drop (p+1)=cur.drop (p+1):=fun y=>by rw[aaY];simp
     generalize qy c2 x h w=CM at*;obtain⟨y,m⟩:=CM;dsimp only at Dd LV BV;have Ov:p<e.kids.length:=by omega
     repeat' first|((first|refine ab (hK _ ?_)|refine iz (hK _ ?_));clear hK K)|((first|refine ae ?_|refine jN ?_);simp[og,zx,JI,Ov,hw,hh,hx,b6,j3];(try simp(disch:=omega)only[wrap64]);(try(refine gen2 ?_ ?_<;>intro hq<;>try simp[og,zx,JI,Ov,hw,hh,hx,b6,j3]at hq)))|(refine jM [0] (by simp) rfl rfl BV ?_;simp)|refine T.Hl (id:=21) mixed (fun _=>false) [14,16] [1] 15 [0] [] (by kernel_rfl) fun K hK=>?_|refine T.r0 fun K hK=>?_|refine T.r1 fun K hK=>?_|refine T.ct rfl ?_|refine T.seq ?_|refine T.block ?_|refine T.skip ?_
     refine⟨(p+1,cur.set p y,m,_),by dsimp only;omega,⟨by dsimp only;omega,by simp[j3],by dsimp only;omega,by dsimp only;omega,by dsimp only;rw[jt,Rq];simpa using Dd⟩,(by simp only[gI,aaN,aaL,aa0,aaM];rfl),?_,?_⟩
     ·simp[au]
     ·simp(disch:=omega) [wrap64]
    ·have MN:p=ws.length:=by omega
     subst MN;rw[aaZ,y0,aaU]at Dd;subst Dd;by_cases dn:e.kind=13
     ·rw[if_pos dn];have rJ:cur.length=1:=by rw[j3,b6];rw[dn]at hlen;simp[cL]at hlen;omega
      match cur,rJ with
      |[x],_=>
       simp only[List.head?_cons,aa6,iT];have gF:e.kids.length=1:=by simp at j3;omega
       repeat' first|((first|refine ab (hK _ ?_)|refine iz (hK _ ?_));clear hK K)|((first|refine ae ?_|refine jN ?_);simp[og,dn,gF];(try(refine gen2 ?_ ?_<;>intro hq<;>try simp[og,dn,gF]at hq)))|refine T.QP (id:=24) mixed (fun _=>false) [5,6] [4] 6 [2] [] (by kernel_rfl) fun K hK=>?_|refine T.r0 fun K hK=>?_|refine T.ct rfl ?_|refine T.cf rfl ?_|refine T.seq ?_|refine T.exit ?_
       all_goals(first|refine T.ret (az.gt (Or.inr rfl) ?_ ?_)|refine T.ret (az.g1 (Or.inr rfl) ?_ ?_))<;>(simp[aE,Tryz.results142])
     ·rw[if_neg dn];simp only[iT];repeat' first|((first|refine ab (hK _ ?_)|refine iz (hK _ ?_));clear hK K)|((first|refine ae ?_|refine jN ?_);simp[og,dn,j3,b6];(try(refine gen2 ?_ ?_<;>intro hq<;>try simp[og,dn,j3,b6]at hq)))|refine T.QP (id:=25) mixed (fun _=>false) [2,3] [1] 3 [2] [] (by kernel_rfl) fun K hK=>?_|refine T.r0 fun K hK=>?_|refine T.cf rfl ?_|refine T.seq ?_|refine T.skip ?_|refine T.exit ?_
      all_goals(first|refine T.ret (az.gt (Or.inr rfl) ?_ ?_)|refine T.ret (az.g1 (Or.inr rfl) ?_ ?_))<;>(simp[aE,Tryz.results142,j3,b6])
theorem HR (ctx:List dI) (hl:ctx.length<=1073741824) (e:ak) (hk:0<e.kind/\e.kind<14) (h5:e.kind=5) (ins:List dI) (LW:ins=ctx++[⟨e.name,e.ty⟩]) (n:Int) (hlen:cL e.kind=e.kids.length)
  (h0:0<=n) (hn:n+fa e<=1073741824) (hc:ir ctx) (Bn:bY e.kind=true->al 4 e.ty=true)
  (hs:∀u∈e.kids,∀(n:Int) x t m,fU ins u n=(some (x,t),m)->al 4 t=true)
  (ih:∀u∈e.kids,∀n:Int,0<=n->n+fa u<=1073741824->ah aaK 142 [.c (.ptr 0 0),u5 ins,cE u] (dV [[.i n]]) (.aZ (iT (fU ins u n).1)) (dV [[.i (fU ins u n).2]]) []):
  ah aaK 142 [.c (.ptr 0 0),u5 ctx,cE e] (dV [[.i n]]) (.aZ (iT (nv ctx e.kind e.name e.num e.ty e.fr e.label (eF ins e.kids n)).1)) (dV [[.i (nv ctx e.kind e.name e.num e.ty e.fr e.label (eF ins e.kids n)).2]]) []:=by
 obtain⟨R,hR⟩:∃R,eF ins e.kids n=R:=⟨_,rfl⟩;rw[hR];have F9:e.kids.length<=3:=by have:=rV e.kind;omega
 have UK:n+dW e.kids<=1073741824:=by rw[fS]at hn;omega
 refine ah.ob Tryz.func142 Tryz.ntmps142 rfl ?_;repeat' first|((first|refine ab (hK _ ?_)|refine iz (hK _ ?_));clear hK K)|((first|(first|refine ae ?_|refine jN ?_)|refine nq rfl (BT ctx (by omega)) ?_);simp[h5];(try(refine gen2 ?_ ?_<;>intro hq<;>try simp[h5]at hq)))|(refine⟨by omega,by omega,?_⟩)|refine T.Hl (id:=3) mixed (fun _=>false) [1,8] [3,5,6,7] 2 [] [] (by kernel_rfl) fun K hK=>?_|refine T.r0 fun K hK=>?_|refine T.ct rfl ?_|refine T.seq ?_|refine T.block ?_
 refine T.seal 9 0 (ctx.length+1) (r:={sz:=3,dE:=146,rows:=ins.map lJ,wr:=true}) (by simp) (by simp[LW,lJ]) (by simp[LW]) ?_;clear LW;refine T.dK 4 8 9 28 (row:=[.d (.i 5),.d (.str e.name),.d (.i e.num),.d (.i e.ty.kind),.d (.sl (e.ty.kids.map b5)),.d (.i e.fr.kind),.d (.sl (e.fr.kids.map b5)),.d (.i e.label),.nil]) (by simp) (by simp) ?_;refine T.qS 11 2 25 (by simp) ?_
 refine T.dr (α:=Nat×List ak×List aF×Int×List (List CV)) [0,1,5,6,7,9,10,38,39] (fun x=>[(8,.b false),(11,.c (.own 2 x.1)),(40,.i x.1)]) (fun x=>[(0,[.d (.i x.2.2.2.1)]),(4,[.d (.i 5),.d (.str e.name),.d (.i e.num),.d (.i e.ty.kind),.d (.sl (e.ty.kids.map b5)),.d (.i e.fr.kind),.d (.sl (e.fr.kids.map b5)),.d (.i e.label),.own 1 x.1])]) (fun x=>x.2.2.2.2) (fun x _=>[{sz:=3,dE:=146,rows:=ins.map lJ,wr:=false},{sz:=9,dE:=28,rows:=x.2.1.map eK,wr:=true},{sz:=2,dE:=25,rows:=x.2.2.1.map b5,wr:=true}]) (fun x=>e.kids.length+1-x.1)
  (fun x=>x.1<=e.kids.length/\x.2.1.length=x.1/\x.2.2.1.length=x.1/\(∀u∈x.2.2.1,al 4 u=true)/\0<=x.2.2.2.1/\x.2.2.2.1+dW (e.kids.drop x.1)<=1073741824/\lY x.2.1 x.2.2.1 (eF ins (e.kids.drop x.1) x.2.2.2.1)=R) (by simp;rfl) (fun x hx=>?_) (0,[],[],n,[]) (by simp[w7,hR];omega) (by simp) (by simp) (by simp)
 obtain⟨p,es,ts,c,G⟩:=x;obtain⟨hi,HO,b6,kX,LU,JG,he⟩:=hx;dsimp only at hi HO b6 kX LU JG he⊢;simp only[gI,aaN,aaP,aaL,aaM];by_cases ax:p<e.kids.length
 ·obtain⟨u,ht⟩:=bz ax;have eJ:u∈e.kids:=aaQ ht;have bg:e.kids[p]=u:=by rw[aaO ax]at ht;exact Option.some.inj ht
  have iY:e.kids.drop p=u::e.kids.drop (p+1):=by rw[aaS ax,bg]
  rw[iY]at he JG;simp only[dW]at JG;have hu:=ih u eJ c LU (by omega);have hle:=D1 u ins c;rw[eF]at he;cases hb:fU ins u c with
  |mk o m=>
   rw[hb]at hu he hle;cases o with
   |none=>
    simp only[oW,lY]at he;subst he;simp only[nv,iT]at hu⊢;repeat' first|(refine ab (hK _ ?_);clear hK K)|(refine ae ?_;simp[ax,bg];(try simp(disch:=omega)only[wrap64]);(try(refine gen2 ?_ ?_<;>intro hq<;>try simp[ax,bg]at hq)))|(refine jM [0] (by simp) rfl rfl hu ?_;simp)|refine T.r0 fun K hK=>?_|refine T.ct rfl ?_|refine T.seq ?_|refine T.block ?_|refine T.skip ?_
    all_goals(first|refine T.ret (az.gt (Or.inr rfl) ?_ ?_)|refine T.ret (az.g1 (Or.inr rfl) ?_ ?_))<;>(simp[aE,Tryz.results142])
   |some q=>
    obtain⟨x,t⟩:=q;have jt:=hs u eJ c x t m hb;simp only[iT]at hu hle;rw[uF]at he;repeat' first|((first|refine ab (hK _ ?_)|refine iz (hK _ ?_));clear hK K)|((first|refine ae ?_|refine jN ?_);simp[ax,bg,HO,b6];(try simp(disch:=omega)only[wrap64]);(try(refine gen2 ?_ ?_<;>intro hq<;>try simp[ax,bg,HO,b6]at hq)))|(refine jM [0] (by simp) rfl rfl hu ?_;simp)|(refine⟨by omega,by omega,?_⟩)|refine T.Hl (id:=13) mixed (fun _=>false) [4,8,10] [6,7] 5 [4] [1] (by kernel_rfl) fun K hK=>?_|refine T.r0 fun K hK=>?_|refine T.r1 fun K hK=>?_|refine T.ct rfl ?_|refine T.cf rfl ?_|refine T.seq ?_|refine T.block ?_|refine T.skip ?_
    refine⟨(p+1,es++[x],ts++[t],m,_),by dsimp only;omega,⟨by dsimp only;omega,by simp[HO],by simp[b6],fun v hv=>?_,by dsimp only at hle⊢;omega,by dsimp only at hle⊢;omega,he⟩,rfl,?_,?_⟩
    ·rcases aaV.1 hv with h|h
     ·exact kX v h
     ·simp at h;subst h;exact jt
    ·simp[au,aN]
    ·simp(disch:=omega) [wrap64]
 ·have eb:p=e.kids.length:=by omega
  subst eb;simp[eF,lY]at he;subst he;obtain⟨ws,t,HP,oY⟩:=yZ ctx (by omega) e ts hk (by rw[b6];exact hlen.symm) kX;cases vn:ck ctx e.kind e.name e.ty ts with
  |none=>
   rw[vn]at oY;simp only[aa5]at oY;simp only[nv,vn,iT];repeat' first|(refine ab (hK _ ?_);clear hK K)|((first|refine ae ?_|(refine aa ?_ (oY) ?_;(focus(solve|simp[ax,b6,h5]))));simp[ax,b6,h5];(try(refine gen2 ?_ ?_<;>intro hq<;>try simp[ax,b6,h5]at hq)))|refine T.r0 fun K hK=>?_|refine T.ct rfl ?_|refine T.cf rfl ?_|refine T.seq ?_|refine T.exit ?_
   all_goals(first|refine T.ret (az.gt (Or.inr rfl) ?_ ?_)|refine T.ret (az.g1 (Or.inr rfl) ?_ ?_))<;>(simp[aE,Tryz.results142])
  |some q=>
   obtain rfl:=HP q vn;rw[vn]at oY;simp only[aa4]at oY;have Rm:dF t<=1099511627776:=by have:=w8 hc Bn kX vn;omega
   have JH:=gy t Rm;cases oA:al 4 t with
   |false=>
    rw[oA]at JH;simp only[nv,vn,oA,iT];repeat' first|(refine ab (hK _ ?_);clear hK K)|((first|refine ae ?_|(refine aa ?_ (oY) ?_;(focus(solve|simp[ax,b6,h5])))|refine aa rfl (JH) ?_);simp[ax,b6,h5];(try(refine gen2 ?_ ?_<;>intro hq<;>try simp[ax,b6,h5]at hq)))|refine T.r0 fun K hK=>?_|refine T.ct rfl ?_|refine T.cf rfl ?_|refine T.seq ?_|refine T.exit ?_
    all_goals(first|refine T.ret (az.gt (Or.inr rfl) ?_ ?_)|refine T.ret (az.g1 (Or.inr rfl) ?_ ?_))<;>(simp[aE,Tryz.results142])
   |true=>
    rw[oA]at JH;have vB:=BU vn;repeat' first|(refine ab (hK _ ?_);clear hK K)|((first|refine ae ?_|(refine aa ?_ (oY) ?_;(focus(solve|simp[ax,b6,h5])))|refine aa rfl (JH) ?_);simp[ax,b6,h5];(try(refine gen2 ?_ ?_<;>intro hq<;>try simp[ax,b6,h5]at hq)))|refine T.r0 fun K hK=>?_|refine T.cf rfl ?_|refine T.seq ?_|refine T.block ?_|refine T.skip ?_|refine T.exit ?_
    obtain⟨F,hF⟩:∃F,iy c es ts ws=F:=⟨_,rfl⟩;rw[show nv ctx e.kind e.name e.num e.ty e.fr e.label (some (es,ts),c)=(if e.kind=13 then(F.1.head?.map fun x=>(x,t),F.2)else(some (.mk e.kind e.name e.num e.ty e.fr e.label F.1,t),F.2)) by simp only[nv,vn,hF];simp[oA]]
    refine T.dr (α:=Nat×List ak×Int×List (List CV)) [0,5,6,7,8,10,11,18,84,85] (fun x=>[(86,.i x.1)]) (fun x=>[(0,[.d (.i x.2.2.1)])]) (fun x=>x.2.2.2) (fun x _=>[{sz:=3,dE:=146,rows:=ins.map lJ,wr:=false},{sz:=9,dE:=28,rows:=x.2.1.map eK,wr:=true},{sz:=2,dE:=25,rows:=ts.map b5,wr:=false}]) (fun x=>ws.length+1-x.1)
     (fun x=>x.1<=ws.length/\x.2.1.length=ts.length/\0<=x.2.2.1/\x.2.2.1<=c+x.1/\(x.2.1.take x.1++(iy x.2.2.1 (x.2.1.drop x.1) (ts.drop x.1) (ws.drop x.1)).1,(iy x.2.2.1 (x.2.1.drop x.1) (ts.drop x.1) (ws.drop x.1)).2)=F) (by simp;rfl) (fun x hx=>?_) (0,es,c,[]) (by simp[HO,b6,hF,LU]) (by simp) (by simp) (by simp)
    clear hF;obtain⟨p,cur,c2,G2⟩:=x;obtain⟨hp,j3,HQ,zo,Dd⟩:=hx;dsimp only at hp j3 HQ zo Dd⊢;simp only[gI,aaN,aaP,aaL,aaM];by_cases og:p<ws.length
    ·have zx:p<ts.length:=by omega
     have JI:p<cur.length:=by omega
     obtain⟨w,hw⟩:∃w,ws[p]=w:=⟨_,rfl⟩;obtain⟨h,hh⟩:∃h,ts[p]=h:=⟨_,rfl⟩;obtain⟨x,hx⟩:∃x,cur[p]=x:=⟨_,rfl⟩;rw[drop_cons og,drop_cons zx,drop_cons JI,hw,hh,hx]at Dd;have Ro:h∈ts:=by rw[<-hh];exact aaW zx
     have BV:=Eh c2 HQ (by omega) x h w (by have:=dZ (kX h Ro);omega);have LV:=wD c2 x h w;simp only[iy]at Dd;have jt:∀y,(cur.set p y).take (p+1)=cur.take p++[y]:=fun y=>by rw[aaR,aaX JI,aaT (aa2 p)];rfl
     have Rq:∀y,(cur.set p y).drop (p+1)=cur.drop (p+1):=fun y=>by rw[aaY];simp
     generalize qy c2 x h w=CM at*;obtain⟨y,m⟩:=CM;dsimp only at Dd LV BV;have Ov:p<e.kids.length:=by omega
     repeat' first|((first|refine ab (hK _ ?_)|refine iz (hK _ ?_));clear hK K)|((first|refine ae ?_|refine jN ?_);simp[og,zx,JI,Ov,hw,hh,hx,b6,j3];(try simp(disch:=omega)only[wrap64]);(try(refine gen2 ?_ ?_<;>intro hq<;>try simp[og,zx,JI,Ov,hw,hh,hx,b6,j3]at hq)))|(refine jM [0] (by simp) rfl rfl BV ?_;simp)|refine T.Hl (id:=21) mixed (fun _=>false) [14,16] [1] 15 [0] [] (by kernel_rfl) fun K hK=>?_|refine T.r0 fun K hK=>?_|refine T.r1 fun K hK=>?_|refine T.ct rfl ?_|refine T.seq ?_|refine T.block ?_|refine T.skip ?_
     refine⟨(p+1,cur.set p y,m,_),by dsimp only;omega,⟨by dsimp only;omega,by simp[j3],by dsimp only;omega,by dsimp only;omega,by dsimp only;rw[jt,Rq];simpa using Dd⟩,(by simp only[gI,aaN,aaL,aa0,aaM];rfl),?_,?_⟩
     ·simp[au]
     ·simp(disch:=omega) [wrap64]
    ·have MN:p=ws.length:=by omega
     subst MN;rw[aaZ,y0,aaU]at Dd;subst Dd;by_cases dn:e.kind=13
     ·exact absurd dn (by omega)
     ·rw[if_neg dn];simp only[iT];repeat' first|((first|refine ab (hK _ ?_)|refine iz (hK _ ?_));clear hK K)|((first|refine ae ?_|refine jN ?_);simp[og,h5,j3,b6];(try(refine gen2 ?_ ?_<;>intro hq<;>try simp[og,h5,j3,b6]at hq)))|refine T.QP (id:=25) mixed (fun _=>false) [2,3] [1] 3 [2] [] (by kernel_rfl) fun K hK=>?_|refine T.r0 fun K hK=>?_|refine T.cf rfl ?_|refine T.seq ?_|refine T.skip ?_|refine T.exit ?_
      all_goals(first|refine T.ret (az.gt (Or.inr rfl) ?_ ?_)|refine T.ret (az.g1 (Or.inr rfl) ?_ ?_))<;>(simp[aE,Tryz.results142,j3,b6,h5])
theorem JJ:∀(e:ak) (d:Nat) (ctx:List dI) (n:Int),a8 14 d e=true->ctx.length+d<=1073741824->ir ctx->0<=n->n+fa e<=1073741824->
  ah aaK 142 [.c (.ptr 0 0),u5 ctx,cE e] (dV [[.i n]]) (.aZ (iT (fU ctx e n).1)) (dV [[.i (fU ctx e n).2]]) []:=by
 intro e;induction e using ak.ind with
 |h e ih=>
  intro d ctx n hs hl hc h0 hn;obtain⟨d',rfl,cY,hlen,c7,iv⟩:=fD hs;have hb:=BK e.kind _ hlen;have b4:ir (cc ctx e):=by
   simp only[cc];split
   ·rename_i h5;exact hc.app (gv c7 (by simp[bY,h5]))
   ·exact hc
  have Au:(cc ctx e).length<=ctx.length+1:=by simp only[cc];split<;>simp
  have kX:∀u∈e.kids,∀(n:Int) x t m,fU (cc ctx e) u n=(some (x,t),m)->al 4 t=true:=by
   intro u hu n x t m h;have h1:=yD u d' (cc ctx e) n (iv u hu) b4;rw[h]at h1;exact iu u d' 14 _ t (iv u hu) b4 (by simpa using h1.symm)
  have Rr:∀u∈e.kids,∀n:Int,0<=n->n+fa u<=1073741824->ah aaK 142 [.c (.ptr 0 0),u5 (cc ctx e),cE u] (dV [[.i n]]) (.aZ (iT (fU (cc ctx e) u n).1)) (dV [[.i (fU (cc ctx e) u n).2]]) []:=
   fun u hu n h0 hn=>ih u hu d' (cc ctx e) n (iv u hu) (by omega) b4 h0 hn
  rw[s8];by_cases h5:e.kind=5
  ·exact HR ctx (by omega) e ⟨by omega,by omega⟩ h5 (cc ctx e) (by simp[cc,h5]) n hlen h0 hn hc (gv c7) kX Rr
  ·have hi:cc ctx e=ctx:=by simp[cc,h5]
   rw[hi]at kX Rr⊢;exact HN ctx (by omega) e ⟨by omega,by omega⟩ h5 n hlen h0 hn hc (gv c7) kX Rr
theorem si (e:ak) (hn:fa e<=1099511627776):ah aaK 38 [cE e] [] (.b (aV e)) [] []:=by
 have h:=Jm 30 12 14 (by omega) (by omega) e hn 1 0 (by omega) (by omega) (by omega);have hl:=(E5 30 12 14 e 12 0 (by omega) (by omega)).1;have hr:(j8 30 12 14 1 e 0).1=aV e:=by
  rw[show((12:Int)+1-((12:Nat):Int))=1 by omega]at hl;rw[hl,aV]
  congr 1
  exact decide_eq_decide.2 (by omega)
 rw[hr]at h;refine ah.ob Tryz.func38 Tryz.ntmps38 rfl ?_;repeat' first|(refine ab (hK _ ?_);clear hK K)|((first|refine ae ?_|refine oT 1 [.i 0] [.i (j8 30 12 14 1 e 0).2] rfl rfl h ?_);simp)|(refine T.ret (az.data (Or.inr rfl) ?_ ?_)<;>simp[Tryz.results38]<;>omega)|refine T.r0 fun K hK=>?_
theorem HS (ctx:List dI) (e:ak) (d:Nat) (hs:a8 14 d e=true) (hl:ctx.length+d<=1073741824) (hc:ir ctx) (hn:fa e<=1073741824):
  ah aaK 114 [u5 ctx,cE e] [] (.aZ (iC (eQ ctx e))) [] []:=by
 have h:=JJ e d ctx 0 hs hl hc (by omega) (by omega);have ht:=yD e d ctx 0 hs hc;generalize fU ctx e 0=X at h ht;obtain⟨o,m⟩:=X;rw[<-ht];cases o with
 |none=>
  simp only[iT]at h;simp only[aa8,iC];refine ah.ob Tryz.func114 Tryz.ntmps114 rfl ?_;repeat' first|(refine ab (hK _ ?_);clear hK K)|((first|refine ae ?_|refine jM [2] (by simp) rfl rfl h ?_);simp)|(refine T.ret (az.aZ (Or.inr rfl) ?_)<;>simp[aE,Tryz.results114]<;>omega)|refine T.r0 fun K hK=>?_
 |some p=>
  obtain⟨x,t⟩:=p;simp only[iT]at h;simp only[aa6,iC];refine ah.ob Tryz.func114 Tryz.ntmps114 rfl ?_;repeat' first|(refine ab (hK _ ?_);clear hK K)|((first|refine ae ?_|refine jM [2] (by simp) rfl rfl h ?_);simp)|(refine T.ret (az.aZ (Or.inr rfl) ?_)<;>simp[aE,Tryz.results114]<;>omega)|refine T.r0 fun K hK=>?_
def Ow (k:Int) (t:aF):Option (aF×aF):=if al 4 t=true then cQ k t else none
abbrev Rs:Option (aF×aF)->List AV
 |some (a,b)=>[ec a,ec b,.b true]
 |none=>[ec aX,ec aX,.b false]
end Go.Proofs.YtloolmchekcmeaaGreat
