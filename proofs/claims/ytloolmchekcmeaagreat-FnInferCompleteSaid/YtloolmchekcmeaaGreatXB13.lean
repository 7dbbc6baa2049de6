/- A part. -/
import Derived.Test.YtloolmchekcmeaaGreatXB12
set_option linter.unusedVariables false
set_option linter.unusedSimpArgs false
open Go.Proofs.Tryz renaming prog->aaT
open List renaming nil_append->aaU,cons_append->aaV,length_append->aaW,getElem?_eq_getElem->aaX,drop_eq_getElem_cons->aaY,mem_of_getElem?->aaZ,set_cons_zero->aa0,set_cons_succ->aa1,append_assoc->aa2,take_length->aa3,take_add_one->aa4,drop_drop->aa5,take_of_length_le->aa6,getElem_mem->aa7,take_set_of_le->aa8,take_append_drop->aa9,mem_append->aba,length_singleton->abb,headD_cons->abc,getElem?_set_self->abd,drop_set->abe,drop_length->abf
open Nat renaming pow_le_pow_right->abg,le_refl->abh
open Bool renaming false_eq_true->abi,and_eq_true->abj,false_and->abk,true_and->abl
open Option renaming isSome_some->abm,isSome_none->abn,map_some->abo,map_eq_some_iff->abp,map_none->abq,bind->abr
open Int renaming add_assoc->abt
namespace Go.Proofs.YtloolmchekcmeaaGreat
attribute [-simp] Go.Av.dJ Go.Av.yH Go.Av.fb Go.Av.AV.eH Go.Av.CV.eH Go.Av.iX Go.Av.AV.dO Go.Av.CV.dO Go.Av.cj Go.Av.e0 Go.Av.fH Go.Av.fy Go.Av.cW Go.Av.cg
open Go Go.Av
attribute [local irreducible] T ah TX EX LX bB dn bW cx ie aG.kind aG.kids al.kind al.name al.num al.ty al.fr al.label al.kids
attribute [local simp] aL au
set_option maxHeartbeats 16000000
set_option maxRecDepth 8000
theorem cX (k:Int):ah aaT 49 [.i k] [] (dF (.mk k [])) [] []:=by
 refine ah.ob Tryz.func49 Tryz.ntmps49 rfl ?_;repeat' first|(refine ab (hK _ ?_);clear hK K)|(refine ae ?_;simp;(try(refine gen2 ?_ ?_<;>intro hq<;>try simp at hq)))|(refine T.ret (aB.val (Or.inr rfl) ?_)<;>simp[ay,Tryz.results49]<;>omega)|refine T.r0 fun K hK=>?_
theorem kf (k:Int) (a b:aG):ah aaT 108 [.i k,dF a,dF b] [] (dF (.mk k [a,b])) [] []:=by
 refine ah.ob Tryz.func108 Tryz.ntmps108 rfl ?_;repeat' first|(refine ab (hK _ ?_);clear hK K)|(refine ae ?_;simp;(try(refine gen2 ?_ ?_<;>intro hq<;>try simp at hq)))|(refine T.ret (aB.val (Or.inr rfl) ?_)<;>simp[ay,Tryz.results108,aL]<;>omega)|refine T.r0 fun K hK=>?_
theorem eD:∀(t:aG),fE t<=1099511627776->ah aaT 104 [dF t] [] (dF t) [] []:=by
 intro t;induction t using aG.ind with
 |h t ih=>
  intro hn;rw[eK]at hn;have hlen:=gg t.kids;refine ah.ob Tryz.func104 Tryz.ntmps104 rfl ?_;repeat' first|(refine ab (hK _ ?_);clear hK K)|(refine ae ?_;simp;(try(refine gen2 ?_ ?_<;>intro hq<;>try simp at hq)))|refine T.r0 fun K hK=>?_|refine T.seq ?_|refine T.block ?_
  refine T.dq 2 1 2 25 (row:=[.d (.i t.kind),.nil]) (by simp) (by simp) ?_;refine T.dU (α:=Nat×List (List CV)) [2,3,10,11] (fun x=>[(12,.i x.1)]) (fun x=>[(2,[.d (.i t.kind),.own 0 x.1])]) (fun x=>x.2) (fun x _=>[{sz:=2,eA:=25,rows:=(t.kids.take x.1).map cx,wr:=true}]) (fun x=>t.kids.length+1-x.1) (fun x=>x.1<=t.kids.length) (by simp;rfl) (fun x hx=>?_) (0,[]) (by simp) (by simp) (by simp) (by simp);obtain⟨p,G⟩:=x;dsimp only at hx⊢;by_cases ax:p<t.kids.length
  ·obtain⟨u,ht⟩:=bR ax;have eQ:u∈t.kids:=aaZ ht;have bf:t.kids[p]=u:=by rw[aaX ax]at ht;exact Option.some.inj ht
   have gP:t.kids.drop p=u::t.kids.drop (p+1):=by rw[aaY ax,bf]
   have hu:=ih u eQ (by have:=gh eQ;omega);have mL:t.kids.take (p+1)=t.kids.take p++[u]:=by rw[aa4,ht];rfl
   have eX:min p t.kids.length=p:=by omega
   simp only[iy,aa0,aa1,aaV,aaU];repeat' first|((first|refine ab (hK _ ?_)|refine aC (hK _ ?_));clear hK K)|((first|refine ae ?_|refine aI ?_|refine aa rfl (hu) ?_);simp[ax,bf,eX];(try simp(disch:=omega)only[wrap64]);(try(refine gen2 ?_ ?_<;>intro hq<;>try simp[ax,bf,eX]at hq)))|(refine⟨by omega,by omega,?_⟩)|(refine⟨(p+1,_),by dsimp only;omega,by dsimp only;omega,rfl,?_,?_⟩<;>simp(disch:=omega) [wrap64,mL,aL])|refine T.yA (id:=5) mixed (fun _=>false) [5,7] (by kernel_rfl) fun K hK=>?_|refine T.r0 fun K hK=>?_|refine T.r1 fun K hK=>?_|refine T.ct rfl ?_|refine T.seq ?_|refine T.block ?_|refine T.skip ?_
  ·have ff:p=t.kids.length:=by omega
   subst ff;simp only[iy,aa0,aa1,aaV,aaU];repeat' first|(refine ab (hK _ ?_);clear hK K)|(refine ae ?_;simp[ax];(try(refine gen2 ?_ ?_<;>intro hq<;>try simp[ax]at hq)))|(refine T.ret (aB.val (Or.inr rfl) ?_)<;>simp[ay,Tryz.results104,aL]<;>omega)|refine T.r0 fun K hK=>?_|refine T.cf rfl ?_|refine T.seq ?_|refine T.exit ?_
theorem xB (k:Int) (hk:k≠1) (t:aG) (hl:t.kind=k->2<=t.kids.length):
  ah aaT 170 [dF t,.i k] [] (.a8 (match ch k t with|some (a,b)=>[dF a,dF b,.b true]|none=>[dF aW,dF aW,.b false])) [] []:=by
 have oT:=cX 1;simp only[ch];by_cases jl:t.kind=1
 ·rw[if_pos jl];have o6:¬(1:Int)=k:=fun h=>hk h.symm
  dsimp only;refine ah.ob Tryz.func170 Tryz.ntmps170 rfl ?_;repeat' first|(refine ab (hK _ ?_);clear hK K)|((first|refine ae ?_|refine aa rfl (oT) ?_);simp[jl,o6];(try(refine gen2 ?_ ?_<;>intro hq<;>try simp[jl,o6]at hq)))|(refine T.ret (aB.a8 (Or.inr rfl) ?_)<;>simp[ay,Tryz.results170]<;>omega)|refine T.r0 fun K hK=>?_|refine T.ct rfl ?_|refine T.cf rfl ?_|refine T.seq ?_|refine T.block ?_
 rw[if_neg jl];by_cases hk:t.kind=k
 rotate_left
 ·rw[if_neg hk];dsimp only;refine ah.ob Tryz.func170 Tryz.ntmps170 rfl ?_;repeat' first|(refine ab (hK _ ?_);clear hK K)|(refine ae ?_;simp[jl,hk];(try(refine gen2 ?_ ?_<;>intro hq<;>try simp[jl,hk]at hq)))|(refine T.ret (aB.a8 (Or.inr rfl) ?_)<;>simp[ay,Tryz.results170]<;>omega)|refine T.r0 fun K hK=>?_|refine T.cf rfl ?_|refine T.seq ?_|refine T.block ?_|refine T.skip ?_
 rw[if_pos hk];have tg:=hl hk
 match fx:t.kids,tg with
 |a::b::r,_=>
  dsimp only;refine ah.ob Tryz.func170 Tryz.ntmps170 rfl ?_;repeat' first|((first|refine ab (hK _ ?_)|refine bc (hK _ ?_));clear hK K)|((first|refine ae ?_|refine bw ?_);simp[hk,fx];(try(refine gen2 ?_ ?_<;>intro hq<;>try simp[hk,fx]at hq)))|(refine T.ret (aB.a8 (Or.inr rfl) ?_)<;>simp[ay,Tryz.results170]<;>omega)|refine T.mK (id:=3) mixed (fun _=>false) [8,9] [5,6,7] 9 [1] (by kernel_rfl) fun K hK=>?_|refine T.r0 fun K hK=>?_|refine T.ct rfl ?_|refine T.seq ?_|refine T.block ?_
theorem JZ:∀{d:Nat} {a:aG},jq d a->d<=4->∀{b:aG},jq d b->aE a b=true->ah aaT 171 [dF a,dF b] [] (dF (bG a b)) [] []:=by
 intro d a ha;induction ha with
 |any d=>
  intro hd b hb hc;have hn:fE b<=1099511627776:=by have:=jL _ b hb.shape;have:2 ^(d+1)<=2 ^ 4:=abg (by omega) hd;omega
  have ho:=eD b hn;rw[show bG kM b=b by rw[gM];simp];refine ah.ob Tryz.func171 Tryz.ntmps171 rfl ?_;repeat' first|(refine ab (hK _ ?_);clear hK K)|((first|refine ae ?_|refine aa rfl (ho) ?_);simp;(try(refine gen2 ?_ ?_<;>intro hq<;>try simp at hq)))|(refine T.ret (aB.val (Or.inr rfl) ?_)<;>simp[ay,Tryz.results171]<;>omega)|refine T.r0 fun K hK=>?_|refine T.ct rfl ?_|refine T.seq ?_|refine T.block ?_
 |int d=>
  intro hd b hb hc;have ho:=eD bt (by simp[cQ,cS]);have e:bG bt b=bt:=by cases hb<;>simp[bG,j8]<;>simp[aE]at hc
  rw[e];by_cases th:b.kind=1
  ·refine ah.ob Tryz.func171 Tryz.ntmps171 rfl ?_;repeat' first|(refine ab (hK _ ?_);clear hK K)|((first|refine ae ?_|(refine aa ?_ (ho) ?_;(focus(solve|simp[th]))));simp[th];(try(refine gen2 ?_ ?_<;>intro hq<;>try simp[th]at hq)))|(refine T.ret (aB.val (Or.inr rfl) ?_)<;>simp[ay,Tryz.results171]<;>omega)|refine T.r0 fun K hK=>?_|refine T.ct rfl ?_|refine T.cf rfl ?_|refine T.seq ?_|refine T.block ?_
  ·refine ah.ob Tryz.func171 Tryz.ntmps171 rfl ?_;repeat' first|(refine ab (hK _ ?_);clear hK K)|((first|refine ae ?_|(refine aa ?_ (ho) ?_;(focus(solve|simp[th]))));simp[th];(try(refine gen2 ?_ ?_<;>intro hq<;>try simp[th]at hq)))|(refine T.ret (aB.val (Or.inr rfl) ?_)<;>simp[ay,Tryz.results171]<;>omega)|refine T.r0 fun K hK=>?_|refine T.ct rfl ?_|refine T.cf rfl ?_|refine T.seq ?_|refine T.block ?_
 |bool d=>
  intro hd b hb hc;have ho:=eD cm (by simp[cQ,cS]);have e:bG cm b=cm:=by cases hb<;>simp[bG,j8]<;>simp[aE]at hc
  rw[e];by_cases th:b.kind=1
  ·refine ah.ob Tryz.func171 Tryz.ntmps171 rfl ?_;repeat' first|(refine ab (hK _ ?_);clear hK K)|((first|refine ae ?_|(refine aa ?_ (ho) ?_;(focus(solve|simp[th]))));simp[th];(try(refine gen2 ?_ ?_<;>intro hq<;>try simp[th]at hq)))|(refine T.ret (aB.val (Or.inr rfl) ?_)<;>simp[ay,Tryz.results171]<;>omega)|refine T.r0 fun K hK=>?_|refine T.ct rfl ?_|refine T.cf rfl ?_|refine T.seq ?_|refine T.block ?_
  ·refine ah.ob Tryz.func171 Tryz.ntmps171 rfl ?_;repeat' first|(refine ab (hK _ ?_);clear hK K)|((first|refine ae ?_|(refine aa ?_ (ho) ?_;(focus(solve|simp[th]))));simp[th];(try(refine gen2 ?_ ?_<;>intro hq<;>try simp[th]at hq)))|(refine T.ret (aB.val (Or.inr rfl) ?_)<;>simp[ay,Tryz.results171]<;>omega)|refine T.r0 fun K hK=>?_|refine T.ct rfl ?_|refine T.cf rfl ?_|refine T.seq ?_|refine T.block ?_
 | @fn d x y hx hy ih1 ih2=>
  intro hd b hb hc;by_cases th:b.kind=1
  ·have e:b=kM:=by cases hb<;>simp at th<;>rfl
   subst e;have hn:fE (.mk 4 [x,y])<=1099511627776:=by have:=jL _ _ (jq.fn hx hy).shape;have:2 ^(d+1)<=2 ^ 4:=abg (by omega) hd;omega
   have ho:=eD (.mk 4 [x,y]) hn;rw[show bG (.mk 4 [x,y]) kM=.mk 4 [x,y] by rw[gM];simp];refine ah.ob Tryz.func171 Tryz.ntmps171 rfl ?_;repeat' first|(refine ab (hK _ ?_);clear hK K)|((first|refine ae ?_|(refine aa ?_ (ho) ?_;(focus(solve|simp))));simp;(try(refine gen2 ?_ ?_<;>intro hq<;>try simp at hq)))|(refine T.ret (aB.val (Or.inr rfl) ?_)<;>simp[ay,Tryz.results171]<;>omega)|refine T.r0 fun K hK=>?_|refine T.ct rfl ?_|refine T.cf rfl ?_|refine T.seq ?_|refine T.block ?_
  ·obtain⟨u,v,e,hu,hv⟩:∃u v,b=.mk 4 [u,v]/\jq d u/\jq d v:=by
    cases hb with
    |any=>simp at th
    |int=>simp[aE]at hc
    |bool=>simp[aE]at hc
    |fn h1 h2=>first|exact⟨_,_,rfl,h1,h2⟩|simp[aE]at hc
    |pair h1 h2=>first|exact⟨_,_,rfl,h1,h2⟩|simp[aE]at hc
   subst e;rw[sF (by omega)]at hc;simp only[abj]at hc;have h1:=ih1 (by omega) hu hc.1;have h2:=ih2 (by omega) hv hc.2;have h3:=kf 4 (bG x u) (bG y v);rw[BQ (by omega)];refine ah.ob Tryz.func171 Tryz.ntmps171 rfl ?_;repeat' first|((first|refine ab (hK _ ?_)|refine aC (hK _ ?_));clear hK K)|((first|refine ae ?_|refine aI ?_|refine aa rfl (h1) ?_|refine aa rfl (h2) ?_|refine aa rfl (h3) ?_);simp;(try(refine gen2 ?_ ?_<;>intro hq<;>try simp at hq)))|(refine T.ret (aB.val (Or.inr rfl) ?_)<;>simp[ay,Tryz.results171]<;>omega)|refine T.rd (id:=5) mixed (fun _=>false) [21] (by kernel_rfl) fun K hK=>?_|refine T.r0 fun K hK=>?_|refine T.cf rfl ?_|refine T.seq ?_|refine T.block ?_|refine T.skip ?_
 | @pair d x y hx hy ih1 ih2=>
  intro hd b hb hc;by_cases th:b.kind=1
  ·have e:b=kM:=by cases hb<;>simp at th<;>rfl
   subst e;have hn:fE (.mk 5 [x,y])<=1099511627776:=by have:=jL _ _ (jq.pair hx hy).shape;have:2 ^(d+1)<=2 ^ 4:=abg (by omega) hd;omega
   have ho:=eD (.mk 5 [x,y]) hn;rw[show bG (.mk 5 [x,y]) kM=.mk 5 [x,y] by rw[gM];simp];refine ah.ob Tryz.func171 Tryz.ntmps171 rfl ?_;repeat' first|(refine ab (hK _ ?_);clear hK K)|((first|refine ae ?_|(refine aa ?_ (ho) ?_;(focus(solve|simp))));simp;(try(refine gen2 ?_ ?_<;>intro hq<;>try simp at hq)))|(refine T.ret (aB.val (Or.inr rfl) ?_)<;>simp[ay,Tryz.results171]<;>omega)|refine T.r0 fun K hK=>?_|refine T.ct rfl ?_|refine T.cf rfl ?_|refine T.seq ?_|refine T.block ?_
  ·obtain⟨u,v,e,hu,hv⟩:∃u v,b=.mk 5 [u,v]/\jq d u/\jq d v:=by
    cases hb with
    |any=>simp at th
    |int=>simp[aE]at hc
    |bool=>simp[aE]at hc
    |fn h1 h2=>first|exact⟨_,_,rfl,h1,h2⟩|simp[aE]at hc
    |pair h1 h2=>first|exact⟨_,_,rfl,h1,h2⟩|simp[aE]at hc
   subst e;rw[sF (by omega)]at hc;simp only[abj]at hc;have h1:=ih1 (by omega) hu hc.1;have h2:=ih2 (by omega) hv hc.2;have h3:=kf 5 (bG x u) (bG y v);rw[BQ (by omega)];refine ah.ob Tryz.func171 Tryz.ntmps171 rfl ?_;repeat' first|((first|refine ab (hK _ ?_)|refine aC (hK _ ?_));clear hK K)|((first|refine ae ?_|refine aI ?_|refine aa rfl (h1) ?_|refine aa rfl (h2) ?_|refine aa rfl (h3) ?_);simp;(try(refine gen2 ?_ ?_<;>intro hq<;>try simp at hq)))|(refine T.ret (aB.val (Or.inr rfl) ?_)<;>simp[ay,Tryz.results171]<;>omega)|refine T.rd (id:=5) mixed (fun _=>false) [21] (by kernel_rfl) fun K hK=>?_|refine T.r0 fun K hK=>?_|refine T.cf rfl ?_|refine T.seq ?_|refine T.block ?_|refine T.skip ?_
theorem yM (f:FuncId) (l:List dt) (q:dt->Bool) (hl:l.length<=4611686018427387904) (hf:∀t∈l,ah aaT f [Ra t] [] (.b (q t)) [] []):
  ah aaT 160 [.l (l.map iC),.c (.fn f [])] [] (.i (eB q l 0)) [] []:=by
 refine ah.ob Tryz.func160 Tryz.ntmps160 rfl ?_;repeat' first|(refine ab (hK _ ?_);clear hK K)|(refine ae ?_;simp;(try(refine gen2 ?_ ?_<;>intro hq<;>try simp at hq)))|refine T.r0 fun K hK=>?_|refine T.seq ?_|refine T.block ?_
 obtain⟨R,hR⟩:∃R,eB q l 0=R:=⟨_,rfl⟩;rw[hR];refine T.gy (fun p:Nat=>⟨[(0,.l (l.map iC)),(1,.c (.fn f [])),(7,.i l.length),(8,.i p)],[],[]⟩) (fun p=>l.length+1-p) (fun p=>p<=l.length/\eB q (l.drop p) p=R) (fun p hp=>?_) 0 (by simpa using hR) (by simp);obtain⟨hi,he⟩:=hp;by_cases ax:p<l.length
 ·obtain⟨u,ht⟩:=bR ax;have eQ:u∈l:=aaZ ht;have bf:l[p]=u:=by rw[aaX ax]at ht;exact Option.some.inj ht
  have gP:l.drop p=u::l.drop (p+1):=by rw[aaY ax,bf]
  have hu:=hf u eQ;rw[gP,eB]at he;cases hb:q u<;>rw[hb]at hu he
  ·repeat' first|(refine ab (hK _ ?_);clear hK K)|((first|refine ae ?_|refine aa rfl (hu) ?_);simp[ax,bf,iC];(try simp(disch:=omega)only[wrap64]);(try(refine gen2 ?_ ?_<;>intro hq<;>try simp[ax,bf,iC]at hq)))|(refine⟨p+1,by dsimp only;omega,⟨by omega,by simpa using he⟩,?_⟩;simp(disch:=omega) [wrap64])|refine T.r0 fun K hK=>?_|refine T.r1 fun K hK=>?_|refine T.ct rfl ?_|refine T.cf rfl ?_|refine T.seq ?_|refine T.block ?_|refine T.skip ?_
  ·repeat' first|(refine ab (hK _ ?_);clear hK K)|((first|refine ae ?_|refine aa rfl (hu) ?_);simp[ax,bf,iC];(try simp(disch:=omega)only[wrap64]);(try(refine gen2 ?_ ?_<;>intro hq<;>try simp[ax,bf,iC]at hq)))|(refine T.ret (aB.data (Or.inr rfl) ?_ ?_)<;>simp[Tryz.results160,<-he]<;>omega)|refine T.r0 fun K hK=>?_|refine T.ct rfl ?_|refine T.seq ?_|refine T.block ?_|refine T.skip ?_
 ·have ff:p=l.length:=by omega
  subst ff;simp[eB]at he;repeat' first|(refine ab (hK _ ?_);clear hK K)|(refine ae ?_;simp[ax];(try(refine gen2 ?_ ?_<;>intro hq<;>try simp[ax]at hq)))|(refine T.ret (aB.data (Or.inr rfl) ?_ ?_)<;>simp[Tryz.results160,he]<;>omega)|refine T.r0 fun K hK=>?_|refine T.cf rfl ?_|refine T.seq ?_|refine T.exit ?_
theorem uh (f:FuncId) (l:List dt) (q:dt->Bool) (hl:l.length<=4611686018427387904) (hf:∀t∈l,ah aaT f [Ra t] [] (.b (q t)) [] []):
  ah aaT 139 [.l (l.map iC),.c (.fn f [])] [] (.b (l.any q)) [] []:=by
 refine ah.ob Tryz.func139 Tryz.ntmps139 rfl ?_;rw[<-mc (i:=0) (by omega)];repeat' first|(refine ab (hK _ ?_);clear hK K)|((first|refine ae ?_|refine aa rfl (yM f l q hl hf) ?_);simp;(try(refine gen2 ?_ ?_<;>intro hq<;>try simp at hq)))|(refine T.ret (aB.data (Or.inr rfl) ?_ ?_)<;>simp[Tryz.results139, *]<;>omega)|refine T.r0 fun K hK=>?_
theorem Az (b:dt) (hn:fE b.ty<=1099511627776):ah aaT 140 [Ra b] [] (.b (!(dT b.name && ak 4 b.ty))) [] []:=by
 have h1:=zp b.name;have h2:=gY b.ty hn;generalize dT b.name=q1 at*;generalize ak 4 b.ty=q2 at*;refine ah.ob Tryz.func140 Tryz.ntmps140 rfl ?_;repeat' first|(refine ab (hK _ ?_);clear hK K)|((first|refine ae ?_|refine aa rfl (h1) ?_|refine aa rfl (h2) ?_);simp;(try(refine gen2 ?_ ?_<;>intro hq<;>try simp at hq)))|(refine T.ret (aB.data (Or.inr rfl) ?_ ?_)<;>simp[Tryz.results140, *]<;>omega)|refine T.r0 fun K hK=>?_
theorem vk (ctx:List dt) (hl:ctx.length<=1099511627776) (hn:∀b∈ctx,fE b.ty<=1099511627776):ah aaT 113 [kN ctx] [] (.b (rl ctx)) [] []:=by
 have h:=uh 140 ctx _ (by omega) (fun b hb=>Az b (hn b hb));have e:rl ctx=(decide (ctx.length<=12)&& !ctx.any fun b=> !(dT b.name && ak 4 b.ty)):=by
  have h2:=pz (fun b:dt=>dT b.name && ak 4 b.ty) ctx;rw[h2,rl,Bool.and_comm]
 rw[e];generalize (ctx.any fun b=> !(dT b.name && ak 4 b.ty))=q at*;have e2:(decide ((ctx.length:Int)<=12))=decide (ctx.length<=12):=decide_eq_decide.2 (by omega);refine ah.ob Tryz.func113 Tryz.ntmps113 rfl ?_;repeat' first|(refine ab (hK _ ?_);clear hK K)|((first|refine ae ?_|refine aa rfl (h) ?_);simp;(try(refine gen2 ?_ ?_<;>intro hq<;>try simp at hq)))|(refine T.ret (aB.data (Or.inr rfl) ?_ ?_)<;>simp[Tryz.results113, *]<;>omega)|refine T.r0 fun K hK=>?_
theorem vm:(a b:aG)->fE a<=1099511627776->ah aaT 28 [dF a,dF b] [] (.b (eL a b)) [] []
 |.mk k l,b,hn=>by
  rw[eK]at hn;have hlen:=gg l;have hc:=qO 28 l b.kids eL (by simp at hn;omega) (fun u hu v hv=>vm u v (by have:=gh hu;simp at hn;omega));rw[DB];simp only[aG.bP,aG.b4];generalize jm eL l b.kids=R at hc⊢;refine ah.ob Tryz.func28 Tryz.ntmps28 rfl ?_;repeat' first|(refine ab (hK _ ?_);clear hK K)|((first|refine ae ?_|refine aa rfl (hc) ?_);simp;(try(refine gen2 ?_ ?_<;>intro hq<;>try simp at hq)))|(refine T.ret (aB.data (Or.inr rfl) ?_ ?_)<;>simp[Tryz.results28, *]<;>omega)|refine T.r0 fun K hK=>?_
termination_by a=>SizeOf.sizeOf a
decreasing_by have:=List.sizeOf_lt_of_mem hu;simp;omega
theorem oo (e:al):ah aaT 48 [cL e] [] (.b (br e.kind)) [] []:=by
 rw[br];refine ah.ob Tryz.func48 Tryz.ntmps48 rfl ?_;repeat' first|(refine ab (hK _ ?_);clear hK K)|(refine ae ?_;simp;(try(refine gen2 ?_ ?_<;>intro hq<;>try simp at hq)))|(refine T.ret (aB.data (Or.inr rfl) ?_ ?_)<;>simp[Tryz.results48, *]<;>omega)|refine T.r0 fun K hK=>?_
theorem Gc (f:FuncId) (g:al->al) (q:al->Prop) (hq:∀e,q e->∀u∈e.kids,q u)
  (hf:∀e,q e->ah aaT f [cL (.mk e.kind e.name e.num e.ty e.fr e.label (e.kids.map (mapM g)))] [] (cL (mapM g e)) [] []):
  ∀(e:al),q e->e9 e<=1099511627776->ah aaT 46 [cL e,.c (.fn f [])] [] (cL (mapM g e)) [] []:=by
 intro e;induction e using al.ind with
 |h e ih=>
  intro Tu hn;obtain⟨jE,oY,xf,qP⟩:=cE hn;have h1:=eD e.ty jE;have h2:=eD e.fr oY;have h3:=hf e Tu;simp only[cL,al.bP,al.b4,al.mf,al.rk,al.sj,al.sk,al.lD]at h3;generalize mapM g e=R at h3⊢;refine ah.ob Tryz.func46 Tryz.ntmps46 rfl ?_;repeat' first|(refine ab (hK _ ?_);clear hK K)|(refine ae ?_;simp;(try(refine gen2 ?_ ?_<;>intro hq<;>(try simp at hq)<;>try(have:True:=hq;clear this hq))))|refine T.r0 fun K hK=>?_|refine T.seq ?_|refine T.block ?_
  refine T.pq 5 9 28 (by simp) ?_;refine T.dU (α:=Nat×List (List CV)) [1,2,4,9,10] (fun x=>[(5,.c (.own 0 x.1)),(11,.i x.1)]) (fun x=>[]) (fun x=>x.2) (fun x _=>[{sz:=9,eA:=28,rows:=((e.kids.map (mapM g)).take x.1).map ie,wr:=true}]) (fun x=>e.kids.length+1-x.1) (fun x=>x.1<=e.kids.length) (by simp;rfl) (fun x hx=>?_) (0,[]) (by simp) (by simp) (by simp) (by simp);obtain⟨p,G⟩:=x;dsimp only at hx⊢;simp only[iy,aaV,aaU];by_cases ax:p<e.kids.length
  ·obtain⟨u,ht⟩:=bR ax;have eQ:u∈e.kids:=aaZ ht;have bf:e.kids[p]=u:=by rw[aaX ax]at ht;exact Option.some.inj ht
   have gP:e.kids.drop p=u::e.kids.drop (p+1):=by rw[aaY ax,bf]
   have hu:=ih u eQ (hq e Tu u eQ) (by have:=qP u eQ;omega);have mL:(e.kids.map (mapM g)).take (p+1)=(e.kids.map (mapM g)).take p++[mapM g u]:=by rw[aa4,List.getElem?_map,ht];rfl
   have oX:min p (e.kids.map (mapM g)).length=p:=by simp;omega
   generalize (e.kids.map (mapM g))=Z at*;repeat' first|(refine ab (hK _ ?_);clear hK K)|((first|refine ae ?_|refine aa rfl (hu) ?_);simp[ax,bf,oX];(try simp(disch:=omega)only[wrap64]);(try(refine gen2 ?_ ?_<;>intro hq<;>(try simp[ax,bf,oX]at hq)<;>try(have:True:=hq;clear this hq))))|(refine⟨by omega,by omega,?_⟩)|(refine⟨(p+1,_),by dsimp only;omega,by dsimp only;omega,rfl,?_,?_⟩<;>simp(disch:=omega) [wrap64,mL,au,oX])|refine T.r0 fun K hK=>?_|refine T.r1 fun K hK=>?_|refine T.ct rfl ?_|refine T.seq ?_|refine T.block ?_|refine T.skip ?_
  ·have ff:p=e.kids.length:=by omega
   subst ff;have oX:(e.kids.map (mapM g)).length=e.kids.length:=by simp
   rw[aa6 (by omega)];generalize (e.kids.map (mapM g))=Z at*;repeat' first|((first|refine ab (hK _ ?_)|refine aC (hK _ ?_));clear hK K)|((first|refine ae ?_|refine aI ?_|refine aa rfl (h1) ?_|refine aa rfl (h2) ?_|(refine aa ?_ (h3) ?_;(focus(solve|simp[ax,oX]))));simp[ax,oX];(try(refine gen2 ?_ ?_<;>intro hq<;>(try simp[ax,oX]at hq)<;>try(have:True:=hq;clear this hq))))|(refine T.ret (aB.val (Or.inr rfl) ?_)<;>simp[ay,Tryz.results46]<;>omega)|refine T.rd (id:=7) mixed (fun _=>false) [8,10,12] (by kernel_rfl) fun K hK=>?_|refine T.r0 fun K hK=>?_|refine T.cf rfl ?_|refine T.seq ?_|refine T.exit ?_
end Go.Proofs.YtloolmchekcmeaaGreat
namespace Go.Proofs.YtloolmchekcmeaaGreat
attribute [-simp] Go.Av.dJ Go.Av.yH Go.Av.fb Go.Av.AV.eH Go.Av.CV.eH Go.Av.iX Go.Av.AV.dO Go.Av.CV.dO Go.Av.cj Go.Av.e0 Go.Av.fH Go.Av.fy Go.Av.cW Go.Av.cg
open Go Go.Av
attribute [local irreducible] T ah TX EX LX bB dn bW cx ie aG.kind aG.kids al.kind al.name al.num al.ty al.fr al.label al.kids
attribute [local simp] aL au
set_option maxHeartbeats 16000000
set_option maxRecDepth 8000
attribute [local simp] abr
theorem Cy (l:List dt) (hl:l.length<=1099511627776):ah aaT 161 [kN l] [] (.c (.own 0 l.length)) [] [{sz:=3,eA:=146,rows:=l.map iC,wr:=true}]:=by
 refine ah.ob Tryz.func161 Tryz.ntmps161 rfl ?_;refine T.rs (fun _=>false) fun K hK=>?_
 refine ae ?_;simp;refine ab (hK _ ?_);clear hK K;refine T.seq ?_;refine T.NW rfl rfl rfl rfl rfl rfl HL rfl (by simp;rfl) fun bb Gd=>?_
 cases bb
 ·repeat' first|(refine ab (hK _ ?_);clear hK K)|(refine ae ?_;simp[iC];(try(refine gen2 ?_ ?_<;>intro hq<;>try simp[iC]at hq)))|(refine⟨by omega,by omega,?_⟩)|refine T.rs (id:=3) (fun i=>i==0) fun K hK=>?_|refine T.cf rfl ?_|refine T.skip ?_
  refine T.ret (aB.Dz 0 (Or.inr rfl) (ys:=[_]) ?_ rfl ?_)<;>simp[ay,Tryz.results161,iC]<;>rfl
 ·have:l=[]:=by simpa using Gd rfl
  subst this;refine T.cond rfl (fun aq=>?_) (fun aq=>absurd aq (by decide));refine T.rs (fun _=>false) fun K hK=>?_
  refine ae ?_;simp;refine ab (hK _ ?_);clear hK K;refine T.pq 2 3 146 (by simp) ?_;refine T.ret (aB.Dz 0 (Or.inr rfl) (ys:=[_]) ?_ rfl ?_)<;>simp[ay,Tryz.results161]
theorem Gf (ctx:List dt) (s:List UInt8) (hl:ctx.length<=1099511627776):
  ah aaT 169 [kN ctx,.s s] [] (.a8 (match cK ctx s with|some t=>[dF t,.b true]|none=>[dF aW,.b false])) [] []:=by
 have HM:∀p,p<ctx.length->cK (ctx.take (p+1)) s=if(ctx[p]?.map dt.name)=some s then ctx[p]?.map dt.ty else cK (ctx.take p) s:=by
  have Hh:∀(l:List dt) (b:dt),cK (l++[b]) s=if b.name=s then some b.ty else cK l s:=by
   intro l;induction l with
   |nil=>intro b;simp[cK]
   |cons x r ih=>
    intro b;simp only[aaV,cK,ih b];by_cases hb:b.name=s
    ·simp[hb]
    ·simp[hb]
  intro p hp;rw[aa4,aaX hp];simp only[Option.toList_some,Hh,abo,Option.some.injEq]
 refine ah.ob Tryz.func169 Tryz.ntmps169 rfl ?_;repeat' first|(refine ab (hK _ ?_);clear hK K)|(refine ae ?_;simp;(try simp(disch:=omega)only[wrap64]);(try(refine gen2 ?_ ?_<;>intro hq<;>try simp at hq)))|refine T.r0 fun K hK=>?_|refine T.seq ?_|refine T.block ?_
 obtain⟨R,hR⟩:∃R,cK ctx s=R:=⟨_,rfl⟩;rw[hR];refine T.dU (α:=Nat) [0,1,4] (fun p=>[(6,.i ((p:Int)-1))]) (fun p=>[]) (fun _=>[]) (fun _ A=>A) (fun p=>p) (fun p=>p<=ctx.length/\cK (ctx.take p) s=R) (by simp;rfl) (fun p hp=>?_) ctx.length (by simpa using hR) (by simp) (by simp) (by simp);obtain⟨hi,he⟩:=hp;simp only[iy,List.append_nil,aaV,aaU];cases p with
 |zero=>
  simp[cK]at he;subst he;repeat' first|(refine ab (hK _ ?_);clear hK K)|(refine ae ?_;simp;(try(refine gen2 ?_ ?_<;>intro hq<;>try simp at hq)))|(refine T.ret (aB.a8 (Or.inr rfl) ?_)<;>simp[ay,Tryz.results169]<;>omega)|refine T.r0 fun K hK=>?_|refine T.cf rfl ?_|refine T.seq ?_|refine T.exit ?_
 |succ p=>
  rw[HM p (by omega)]at he;have ax:p<ctx.length:=by omega
  obtain⟨b,ht⟩:=bR ax;have eQ:b∈ctx:=aaZ ht;have bf:ctx[p]=b:=by rw[aaX ax]at ht;exact Option.some.inj ht
  have oC:(0:Int)<=(p:Int)+1-1:=by omega
  have HN:((p:Int)+1-1)=p:=by omega
  rw[ht]at he;by_cases hb:b.name=s
  ·simp[hb]at he;subst he;repeat' first|(refine ab (hK _ ?_);clear hK K)|(refine ae ?_;simp[ax,bf,oC,HN,hb,iC];(try simp(disch:=omega)only[wrap64]);(try(refine gen2 ?_ ?_<;>intro hq<;>try simp[ax,bf,oC,HN,hb,iC]at hq)))|(refine T.ret (aB.a8 (Or.inr rfl) ?_)<;>simp[ay,Tryz.results169]<;>omega)|refine T.r0 fun K hK=>?_|refine T.ct rfl ?_|refine T.seq ?_|refine T.block ?_|refine T.skip ?_
  ·simp[hb]at he;repeat' first|(refine ab (hK _ ?_);clear hK K)|(refine ae ?_;simp[ax,bf,oC,HN,hb,iC];(try simp(disch:=omega)only[wrap64]);(try(refine gen2 ?_ ?_<;>intro hq<;>try simp[ax,bf,oC,HN,hb,iC]at hq)))|(refine⟨p,by dsimp only;omega,⟨by omega,he⟩,rfl,rfl,?_⟩;simp(disch:=omega) [wrap64])|refine T.r0 fun K hK=>?_|refine T.r1 fun K hK=>?_|refine T.ct rfl ?_|refine T.cf rfl ?_|refine T.seq ?_|refine T.block ?_|refine T.skip ?_
def WT (ctx:List dt) (e:al) (ts:List aG) (r:Option (List aG×aG)):Prop:=∃ws t,(∀p,r=some p->p=(ws,t))/\ah aaT 162 [kN ctx,cL e,LG ts] [] (.a8 [LG ws,dF t,.b r.isSome]) [] []
theorem J0 (ctx:List dt) (hl:ctx.length<=1099511627776) (e:al) (hk:e.kind=1):WT ctx e [] (cD ctx e.kind e.name e.ty []):=by
 have hint:=cX 2;have ew:=cX 3;have ld:=Gf ctx e.name hl;rw[show cD ctx e.kind e.name e.ty []=(cK ctx e.name).map fun t=>([],t) by simp[cD,hk]];cases hr:cK ctx e.name with
 |none=>
  rw[hr]at ld;refine⟨[],aW,by simp,?_⟩;simp only[abq,abn]at ld⊢;refine ah.ob Tryz.func162 Tryz.ntmps162 rfl ?_;repeat' first|((first|refine ab (hK _ ?_)|refine aC (hK _ ?_));clear hK K)|((first|refine ae ?_|refine aI ?_|refine aa rfl (hint) ?_|refine aa rfl (ew) ?_|refine aa rfl (ld) ?_);simp[hk];(try(refine gen2 ?_ ?_<;>intro hq<;>try simp[hk]at hq)))|(refine T.ret (aB.a8 (Or.inr rfl) ?_)<;>simp[ay,Tryz.results162]<;>omega)|refine T.rd (id:=5) mixed (fun _=>false) [3] (by kernel_rfl) fun K hK=>?_|refine T.r0 fun K hK=>?_|refine T.ct rfl ?_|refine T.seq ?_|refine T.block ?_
 |some t=>
  rw[hr]at ld;refine⟨[],t,by simp,?_⟩;simp only[abo,abm]at ld⊢;refine ah.ob Tryz.func162 Tryz.ntmps162 rfl ?_;repeat' first|((first|refine ab (hK _ ?_)|refine aC (hK _ ?_));clear hK K)|((first|refine ae ?_|refine aI ?_|refine aa rfl (hint) ?_|refine aa rfl (ew) ?_|refine aa rfl (ld) ?_);simp[hk];(try(refine gen2 ?_ ?_<;>intro hq<;>try simp[hk]at hq)))|(refine T.ret (aB.a8 (Or.inr rfl) ?_)<;>simp[ay,Tryz.results162]<;>omega)|refine T.rd (id:=5) mixed (fun _=>false) [3] (by kernel_rfl) fun K hK=>?_|refine T.r0 fun K hK=>?_|refine T.ct rfl ?_|refine T.seq ?_|refine T.block ?_
theorem J1 (ctx:List dt) (e:al) (hk:e.kind=2):WT ctx e [] (cD ctx e.kind e.name e.ty []):=by
 have hint:=cX 2;have ew:=cX 3;rw[show cD ctx e.kind e.name e.ty []=some ([],bt) by simp[cD,hk]];refine⟨[],bt,by simp,?_⟩;simp only[abm];refine ah.ob Tryz.func162 Tryz.ntmps162 rfl ?_;repeat' first|((first|refine ab (hK _ ?_)|refine aC (hK _ ?_));clear hK K)|((first|refine ae ?_|refine aI ?_|refine aa rfl (hint) ?_|refine aa rfl (ew) ?_);simp[hk];(try(refine gen2 ?_ ?_<;>intro hq<;>try simp[hk]at hq)))|(refine T.ret (aB.a8 (Or.inr rfl) ?_)<;>simp[ay,Tryz.results162]<;>omega)|refine T.rd (id:=7) mixed (fun _=>false) [2] (by kernel_rfl) fun K hK=>?_|refine T.r0 fun K hK=>?_|refine T.ct rfl ?_|refine T.cf rfl ?_|refine T.seq ?_|refine T.block ?_
theorem J3 (ctx:List dt) (e:al) (hk:e.kind=3):WT ctx e [] (cD ctx e.kind e.name e.ty []):=by
 have hint:=cX 2;have ew:=cX 3;rw[show cD ctx e.kind e.name e.ty []=some ([],cm) by simp[cD,hk]];refine⟨[],cm,by simp,?_⟩;simp only[abm];refine ah.ob Tryz.func162 Tryz.ntmps162 rfl ?_;repeat' first|((first|refine ab (hK _ ?_)|refine aC (hK _ ?_));clear hK K)|((first|refine ae ?_|refine aI ?_|refine aa rfl (hint) ?_|refine aa rfl (ew) ?_);simp[hk];(try(refine gen2 ?_ ?_<;>intro hq<;>try simp[hk]at hq)))|(refine T.ret (aB.a8 (Or.inr rfl) ?_)<;>simp[ay,Tryz.results162]<;>omega)|refine T.rd (id:=10) mixed (fun _=>false) [2] (by kernel_rfl) fun K hK=>?_|refine T.r0 fun K hK=>?_|refine T.ct rfl ?_|refine T.cf rfl ?_|refine T.seq ?_|refine T.block ?_|refine T.skip ?_
theorem J4 (ctx:List dt) (e:al) (hk:e.kind=4):WT ctx e [] (cD ctx e.kind e.name e.ty []):=by
 have hint:=cX 2;have ew:=cX 3;rw[show cD ctx e.kind e.name e.ty []=some ([],cm) by simp[cD,hk]];refine⟨[],cm,by simp,?_⟩;simp only[abm];refine ah.ob Tryz.func162 Tryz.ntmps162 rfl ?_;repeat' first|((first|refine ab (hK _ ?_)|refine aC (hK _ ?_));clear hK K)|((first|refine ae ?_|refine aI ?_|refine aa rfl (hint) ?_|refine aa rfl (ew) ?_);simp[hk];(try(refine gen2 ?_ ?_<;>intro hq<;>try simp[hk]at hq)))|(refine T.ret (aB.a8 (Or.inr rfl) ?_)<;>simp[ay,Tryz.results162]<;>omega)|refine T.rd (id:=10) mixed (fun _=>false) [2] (by kernel_rfl) fun K hK=>?_|refine T.r0 fun K hK=>?_|refine T.r1 fun K hK=>?_|refine T.ct rfl ?_|refine T.cf rfl ?_|refine T.seq ?_|refine T.block ?_
theorem J5 (ctx:List dt) (e:al) (a:aG) (hk:e.kind=5):WT ctx e [a] (cD ctx e.kind e.name e.ty [a]):=by
 have hint:=cX 2;have ew:=cX 3;have hb:=kf 4 e.ty a;rw[show cD ctx e.kind e.name e.ty [a]=some ([],.mk 4 [e.ty,a]) by simp[cD,hk]];refine⟨[],.mk 4 [e.ty,a],by simp,?_⟩;simp only[abm];refine ah.ob Tryz.func162 Tryz.ntmps162 rfl ?_;repeat' first|((first|refine ab (hK _ ?_)|refine aC (hK _ ?_));clear hK K)|((first|refine ae ?_|refine aI ?_|refine aa rfl (hint) ?_|refine aa rfl (ew) ?_|refine aa rfl (hb) ?_);simp[hk];(try(refine gen2 ?_ ?_<;>intro hq<;>try simp[hk]at hq)))|(refine T.ret (aB.a8 (Or.inr rfl) ?_)<;>simp[ay,Tryz.results162]<;>omega)|refine T.rd (id:=12) mixed (fun _=>false) [7] (by kernel_rfl) fun K hK=>?_|refine T.r0 fun K hK=>?_|refine T.r1 fun K hK=>?_|refine T.ct rfl ?_|refine T.cf rfl ?_|refine T.seq ?_|refine T.block ?_
theorem J6 (ctx:List dt) (e:al) (a b:aG) (hk:e.kind=6) (ha:ak 4 a=true) (hb:ak 4 b=true):WT ctx e [a,b] (cD ctx e.kind e.name e.ty [a,b]):=by
 have hint:=cX 2;have ew:=cX 3;have hm:=xB 4 (by omega) a (lx (.inl rfl) ha);rw[show cD ctx e.kind e.name e.ty [a,b]=match ch 4 a with|some (x,y)=>if aE b x=true then some ([.mk 4 [x,y],x],y)else none|none=>none by simp[cD,hk];rfl];cases hr:ch 4 a with
 |none=>
  rw[hr]at hm;have h2:=kf 4 aW aW;refine⟨[.mk 4 [aW,aW],aW],aW,by simp,?_⟩;simp only[abn]at hm⊢;refine ah.ob Tryz.func162 Tryz.ntmps162 rfl ?_;repeat' first|((first|refine ab (hK _ ?_)|refine aC (hK _ ?_));clear hK K)|((first|refine ae ?_|refine aI ?_|refine aa rfl (hint) ?_|refine aa rfl (ew) ?_|refine aa rfl (hm) ?_|(refine aa ?_ (h2) ?_;(focus(solve|simp[hk]))));simp[hk];(try(refine gen2 ?_ ?_<;>intro hq<;>try simp[hk]at hq)))|(refine T.ret (aB.a8 (Or.inr rfl) ?_)<;>simp[ay,Tryz.results162,aL]<;>omega)|refine T.rd (id:=15) mixed (fun _=>false) [15] (by kernel_rfl) fun K hK=>?_|refine T.r0 fun K hK=>?_|refine T.r1 fun K hK=>?_|refine T.ct rfl ?_|refine T.cf rfl ?_|refine T.seq ?_|refine T.block ?_
 |some p=>
  obtain⟨x,y⟩:=p;rw[hr]at hm;have h2:=kf 4 x y;have h3:=dH b x (by have:=dp hb;omega);refine⟨[.mk 4 [x,y],x],y,?_,?_⟩
  ·intro p h;dsimp only at h;split at h<;>simp at h;exact h.symm
  dsimp only at hm⊢;rw[show(if aE b x=true then some ([aG.mk 4 [x,y],x],y)else none).isSome=aE b x by cases aE b x<;>rfl];generalize aE b x=c at h3;refine ah.ob Tryz.func162 Tryz.ntmps162 rfl ?_;repeat' first|((first|refine ab (hK _ ?_)|refine aC (hK _ ?_));clear hK K)|((first|refine ae ?_|refine aI ?_|refine aa rfl (hint) ?_|refine aa rfl (ew) ?_|refine aa rfl (hm) ?_|refine aa rfl (h2) ?_|refine aa rfl (h3) ?_);simp[hk];(try(refine gen2 ?_ ?_<;>intro hq<;>try simp[hk]at hq)))|(refine T.ret (aB.a8 (Or.inr rfl) ?_)<;>simp[ay,Tryz.results162,aL]<;>omega)|refine T.rd (id:=15) mixed (fun _=>false) [15] (by kernel_rfl) fun K hK=>?_|refine T.r0 fun K hK=>?_|refine T.r1 fun K hK=>?_|refine T.ct rfl ?_|refine T.cf rfl ?_|refine T.seq ?_|refine T.block ?_
theorem J7 (ctx:List dt) (e:al) (a b:aG) (hk:e.kind=7) (ha:ak 4 a=true) (hb:ak 4 b=true):WT ctx e [a,b] (cD ctx e.kind e.name e.ty [a,b]):=by
 have hint:=cX 2;have ew:=cX 3;have h1:=dH a bt (by have:=dp ha;omega);have h2:=dH b bt (by have:=dp hb;omega);rw[show cD ctx e.kind e.name e.ty [a,b]=if aE a bt=true/\aE b bt=true then some ([bt,bt],bt)else none by simp[cD,hk]];refine⟨[bt,bt],bt,?_,?_⟩
 ·intro p h;split at h<;>simp at h;exact h.symm
 rw[show(if aE a bt=true/\aE b bt=true then some ([bt,bt],bt)else none).isSome=(aE a bt && aE b bt) by cases aE a bt<;>cases aE b bt<;>rfl];generalize aE a bt=c1 at h1⊢;generalize aE b bt=c2 at h2⊢;refine ah.ob Tryz.func162 Tryz.ntmps162 rfl ?_;repeat' first|((first|refine ab (hK _ ?_)|refine aC (hK _ ?_));clear hK K)|((first|refine ae ?_|refine aI ?_|refine aa rfl (hint) ?_|refine aa rfl (ew) ?_|(refine aa ?_ (h1) ?_;(focus(solve|simp[hk])))|(refine aa ?_ (h2) ?_;(focus(solve|simp[hk]))));simp[hk];(try(refine gen2 ?_ ?_<;>intro hq<;>try simp[hk]at hq)))|(refine T.ret (aB.a8 (Or.inr rfl) ?_)<;>simp[ay,Tryz.results162, *,aL]<;>omega)|refine T.rd (id:=21) mixed (fun _=>false) [17] (by kernel_rfl) fun K hK=>?_|refine T.r0 fun K hK=>?_|refine T.r1 fun K hK=>?_|refine T.ct rfl ?_|refine T.cf rfl ?_|refine T.seq ?_|refine T.block ?_|refine T.skip ?_
theorem J8 (ctx:List dt) (e:al) (a b:aG) (hk:e.kind=8) (ha:ak 4 a=true) (hb:ak 4 b=true):WT ctx e [a,b] (cD ctx e.kind e.name e.ty [a,b]):=by
 have hint:=cX 2;have ew:=cX 3;have h1:=dH a bt (by have:=dp ha;omega);have h2:=dH b bt (by have:=dp hb;omega);rw[show cD ctx e.kind e.name e.ty [a,b]=if aE a bt=true/\aE b bt=true then some ([bt,bt],cm)else none by simp[cD,hk]];refine⟨[bt,bt],cm,?_,?_⟩
 ·intro p h;split at h<;>simp at h;exact h.symm
 rw[show(if aE a bt=true/\aE b bt=true then some ([bt,bt],cm)else none).isSome=(aE a bt && aE b bt) by cases aE a bt<;>cases aE b bt<;>rfl];generalize aE a bt=c1 at h1⊢;generalize aE b bt=c2 at h2⊢;refine ah.ob Tryz.func162 Tryz.ntmps162 rfl ?_;repeat' first|((first|refine ab (hK _ ?_)|refine aC (hK _ ?_));clear hK K)|((first|refine ae ?_|refine aI ?_|refine aa rfl (hint) ?_|refine aa rfl (ew) ?_|(refine aa ?_ (h1) ?_;(focus(solve|simp[hk])))|(refine aa ?_ (h2) ?_;(focus(solve|simp[hk]))));simp[hk];(try(refine gen2 ?_ ?_<;>intro hq<;>try simp[hk]at hq)))|(refine T.ret (aB.a8 (Or.inr rfl) ?_)<;>simp[ay,Tryz.results162, *,aL]<;>omega)|refine T.rd (id:=21) mixed (fun _=>false) [17] (by kernel_rfl) fun K hK=>?_|refine T.r0 fun K hK=>?_|refine T.r1 fun K hK=>?_|refine T.ct rfl ?_|refine T.cf rfl ?_|refine T.seq ?_|refine T.block ?_
theorem J9 (ctx:List dt) (e:al) (a b c:aG) (hk:e.kind=9) (ha:ak 4 a=true) (hb:ak 4 b=true) (hc:ak 4 c=true):WT ctx e [a,b,c] (cD ctx e.kind e.name e.ty [a,b,c]):=by
 have hint:=cX 2;have ew:=cX 3;have h1:=dH a cm (by have:=dp ha;omega);have h2:=dH b c (by have:=dp hb;omega);rw[show cD ctx e.kind e.name e.ty [a,b,c]=if aE a cm=true/\aE b c=true then some ([cm,bG b c,bG b c],bG b c)else none by simp[cD,hk]];by_cases hq:aE a cm=true/\aE b c=true
 ·rw[if_pos hq];have h3:=JZ (jq.of hb) (by omega) (jq.of hc) hq.2;rw[hq.1]at h1;rw[hq.2]at h2;refine⟨[cm,bG b c,bG b c],bG b c,by simp,?_⟩;generalize bG b c=mt at h3⊢;simp only[abm];refine ah.ob Tryz.func162 Tryz.ntmps162 rfl ?_;repeat' first|((first|refine ab (hK _ ?_)|refine aC (hK _ ?_)|refine bc (hK _ ?_));clear hK K)|((first|refine ae ?_|refine aI ?_|refine bw ?_|refine aa rfl (hint) ?_|refine aa rfl (ew) ?_|(refine aa ?_ (h1) ?_;(focus(solve|simp[hk])))|refine aa rfl (h2) ?_|refine aa rfl (h3) ?_);simp[hk];(try(refine gen2 ?_ ?_<;>intro hq<;>(try simp[hk]at hq)<;>try(have:True:=hq;clear this hq))))|(refine T.ret (aB.a8 (Or.inr rfl) ?_)<;>simp[ay,Tryz.results162,aL]<;>omega)|refine T.rd (id:=23) mixed (fun _=>false) [] (by kernel_rfl) fun K hK=>?_|refine T.mK (id:=25) mixed (fun _=>false) [7,8] [1,2,4,5,6] 8 [] (by kernel_rfl) fun K hK=>?_|(refine⟨?_,?_⟩;(focus(intros;refine aa rfl (h3) ?_;simp;done)))|refine T.rd (id:=26) mixed (fun _=>false) [6] (by kernel_rfl) fun K hK=>?_|refine T.r0 fun K hK=>?_|refine T.r1 fun K hK=>?_|refine T.ct rfl ?_|refine T.cf rfl ?_|refine T.seq ?_|refine T.block ?_|refine T.skip ?_
 ·rw[if_neg hq];refine⟨[],aW,by simp,?_⟩;simp only[abn];generalize aE a cm=c1 at h1 hq⊢;generalize aE b c=c2 at h2 hq⊢;cases c1<;>cases c2
  ·refine ah.ob Tryz.func162 Tryz.ntmps162 rfl ?_;repeat' first|((first|refine ab (hK _ ?_)|refine aC (hK _ ?_));clear hK K)|((first|refine ae ?_|refine aI ?_|refine aa rfl (hint) ?_|refine aa rfl (ew) ?_|(refine aa ?_ (h1) ?_;(focus(solve|simp[hk]))));simp[hk];(try(refine gen2 ?_ ?_<;>intro hq<;>(try simp[hk]at hq)<;>try(have:True:=hq;clear this hq))))|(refine T.ret (aB.a8 (Or.inr rfl) ?_)<;>simp[ay,Tryz.results162, *]<;>omega)|refine T.rd (id:=23) mixed (fun _=>false) [] (by kernel_rfl) fun K hK=>?_|refine T.r0 fun K hK=>?_|refine T.r1 fun K hK=>?_|refine T.ct rfl ?_|refine T.cf rfl ?_|refine T.seq ?_|refine T.block ?_
  ·refine ah.ob Tryz.func162 Tryz.ntmps162 rfl ?_;repeat' first|((first|refine ab (hK _ ?_)|refine aC (hK _ ?_));clear hK K)|((first|refine ae ?_|refine aI ?_|refine aa rfl (hint) ?_|refine aa rfl (ew) ?_|(refine aa ?_ (h1) ?_;(focus(solve|simp[hk]))));simp[hk];(try(refine gen2 ?_ ?_<;>intro hq<;>(try simp[hk]at hq)<;>try(have:True:=hq;clear this hq))))|(refine T.ret (aB.a8 (Or.inr rfl) ?_)<;>simp[ay,Tryz.results162, *]<;>omega)|refine T.rd (id:=23) mixed (fun _=>false) [] (by kernel_rfl) fun K hK=>?_|refine T.r0 fun K hK=>?_|refine T.r1 fun K hK=>?_|refine T.ct rfl ?_|refine T.cf rfl ?_|refine T.seq ?_|refine T.block ?_
  ·refine ah.ob Tryz.func162 Tryz.ntmps162 rfl ?_;repeat' first|((first|refine ab (hK _ ?_)|refine aC (hK _ ?_));clear hK K)|((first|refine ae ?_|refine aI ?_|refine aa rfl (hint) ?_|refine aa rfl (ew) ?_|(refine aa ?_ (h1) ?_;(focus(solve|simp[hk])))|refine aa rfl (h2) ?_);simp[hk];(try(refine gen2 ?_ ?_<;>intro hq<;>(try simp[hk]at hq)<;>try(have:True:=hq;clear this hq))))|(refine T.ret (aB.a8 (Or.inr rfl) ?_)<;>simp[ay,Tryz.results162, *]<;>omega)|refine T.rd (id:=23) mixed (fun _=>false) [] (by kernel_rfl) fun K hK=>?_|refine T.r0 fun K hK=>?_|refine T.r1 fun K hK=>?_|refine T.ct rfl ?_|refine T.cf rfl ?_|refine T.seq ?_|refine T.block ?_
  ·exact absurd ⟨rfl,rfl⟩ hq
theorem Il (ctx:List dt) (e:al) (a b:aG) (hk:e.kind=10):WT ctx e [a,b] (cD ctx e.kind e.name e.ty [a,b]):=by
 have hint:=cX 2;have ew:=cX 3;have hb:=kf 5 a b;rw[show cD ctx e.kind e.name e.ty [a,b]=some ([],.mk 5 [a,b]) by simp[cD,hk]];refine⟨[],.mk 5 [a,b],by simp,?_⟩;simp only[abm];refine ah.ob Tryz.func162 Tryz.ntmps162 rfl ?_;repeat' first|((first|refine ab (hK _ ?_)|refine aC (hK _ ?_));clear hK K)|((first|refine ae ?_|refine aI ?_|refine aa rfl (hint) ?_|refine aa rfl (ew) ?_|refine aa rfl (hb) ?_);simp[hk];(try(refine gen2 ?_ ?_<;>intro hq<;>try simp[hk]at hq)))|(refine T.ret (aB.a8 (Or.inr rfl) ?_)<;>simp[ay,Tryz.results162]<;>omega)|refine T.rd (id:=28) mixed (fun _=>false) [8] (by kernel_rfl) fun K hK=>?_|refine T.r0 fun K hK=>?_|refine T.r1 fun K hK=>?_|refine T.ct rfl ?_|refine T.cf rfl ?_|refine T.seq ?_|refine T.block ?_
theorem Im (ctx:List dt) (e:al) (a:aG) (hk:e.kind=11) (ha:ak 4 a=true):WT ctx e [a] (cD ctx e.kind e.name e.ty [a]):=by
 have hint:=cX 2;have ew:=cX 3;have hm:=xB 5 (by omega) a (lx (.inr rfl) ha);rw[show cD ctx e.kind e.name e.ty [a]=(ch 5 a).map fun p=>([.mk 5 [p.1,p.2]],p.1) by simp[cD,hk]];cases hr:ch 5 a with
 |none=>
  rw[hr]at hm;have h2:=kf 5 aW aW;refine⟨[.mk 5 [aW,aW]],aW,by simp,?_⟩;simp only[abq,abn]at hm⊢;refine ah.ob Tryz.func162 Tryz.ntmps162 rfl ?_;repeat' first|((first|refine ab (hK _ ?_)|refine aC (hK _ ?_));clear hK K)|((first|refine ae ?_|refine aI ?_|refine aa rfl (hint) ?_|refine aa rfl (ew) ?_|refine aa rfl (hm) ?_|(refine aa ?_ (h2) ?_;(focus(solve|simp[hk]))));simp[hk];(try(refine gen2 ?_ ?_<;>intro hq<;>try simp[hk]at hq)))|(refine T.ret (aB.a8 (Or.inr rfl) ?_)<;>simp[ay,Tryz.results162,aL]<;>omega)|refine T.rd (id:=35) mixed (fun _=>false) [7] (by kernel_rfl) fun K hK=>?_|refine T.r0 fun K hK=>?_|refine T.r1 fun K hK=>?_|refine T.cf rfl ?_|refine T.seq ?_|refine T.block ?_|refine T.skip ?_
 |some p=>
  obtain⟨x,y⟩:=p;rw[hr]at hm;have h2:=kf 5 x y;refine⟨[.mk 5 [x,y]],x,by simp,?_⟩;simp only[abo,abm]at hm⊢;refine ah.ob Tryz.func162 Tryz.ntmps162 rfl ?_;repeat' first|((first|refine ab (hK _ ?_)|refine aC (hK _ ?_));clear hK K)|((first|refine ae ?_|refine aI ?_|refine aa rfl (hint) ?_|refine aa rfl (ew) ?_|refine aa rfl (hm) ?_|refine aa rfl (h2) ?_);simp[hk];(try(refine gen2 ?_ ?_<;>intro hq<;>try simp[hk]at hq)))|(refine T.ret (aB.a8 (Or.inr rfl) ?_)<;>simp[ay,Tryz.results162,aL]<;>omega)|refine T.rd (id:=35) mixed (fun _=>false) [7] (by kernel_rfl) fun K hK=>?_|refine T.r0 fun K hK=>?_|refine T.r1 fun K hK=>?_|refine T.cf rfl ?_|refine T.seq ?_|refine T.block ?_|refine T.skip ?_
theorem Io (ctx:List dt) (e:al) (a:aG) (hk:e.kind=12) (ha:ak 4 a=true):WT ctx e [a] (cD ctx e.kind e.name e.ty [a]):=by
 have hint:=cX 2;have ew:=cX 3;have hm:=xB 5 (by omega) a (lx (.inr rfl) ha);rw[show cD ctx e.kind e.name e.ty [a]=(ch 5 a).map fun p=>([.mk 5 [p.1,p.2]],p.2) by simp[cD,hk]];cases hr:ch 5 a with
 |none=>
  rw[hr]at hm;have h2:=kf 5 aW aW;refine⟨[.mk 5 [aW,aW]],aW,by simp,?_⟩;simp only[abq,abn]at hm⊢;refine ah.ob Tryz.func162 Tryz.ntmps162 rfl ?_;repeat' first|((first|refine ab (hK _ ?_)|refine aC (hK _ ?_));clear hK K)|((first|refine ae ?_|refine aI ?_|refine aa rfl (hint) ?_|refine aa rfl (ew) ?_|refine aa rfl (hm) ?_|(refine aa ?_ (h2) ?_;(focus(solve|simp[hk]))));simp[hk];(try(refine gen2 ?_ ?_<;>intro hq<;>try simp[hk]at hq)))|(refine T.ret (aB.a8 (Or.inr rfl) ?_)<;>simp[ay,Tryz.results162,aL]<;>omega)|refine T.rd (id:=35) mixed (fun _=>false) [7] (by kernel_rfl) fun K hK=>?_|refine T.r0 fun K hK=>?_|refine T.r1 fun K hK=>?_|refine T.ct rfl ?_|refine T.cf rfl ?_|refine T.seq ?_|refine T.block ?_|refine T.skip ?_
 |some p=>
  obtain⟨x,y⟩:=p;rw[hr]at hm;have h2:=kf 5 x y;refine⟨[.mk 5 [x,y]],y,by simp,?_⟩;simp only[abo,abm]at hm⊢;refine ah.ob Tryz.func162 Tryz.ntmps162 rfl ?_;repeat' first|((first|refine ab (hK _ ?_)|refine aC (hK _ ?_));clear hK K)|((first|refine ae ?_|refine aI ?_|refine aa rfl (hint) ?_|refine aa rfl (ew) ?_|refine aa rfl (hm) ?_|refine aa rfl (h2) ?_);simp[hk];(try(refine gen2 ?_ ?_<;>intro hq<;>try simp[hk]at hq)))|(refine T.ret (aB.a8 (Or.inr rfl) ?_)<;>simp[ay,Tryz.results162,aL]<;>omega)|refine T.rd (id:=35) mixed (fun _=>false) [7] (by kernel_rfl) fun K hK=>?_|refine T.r0 fun K hK=>?_|refine T.r1 fun K hK=>?_|refine T.ct rfl ?_|refine T.cf rfl ?_|refine T.seq ?_|refine T.block ?_|refine T.skip ?_
theorem Ip (ctx:List dt) (e:al) (a:aG) (hk:e.kind=13) (ha:ak 4 a=true):WT ctx e [a] (cD ctx e.kind e.name e.ty [a]):=by
 have hint:=cX 2;have ew:=cX 3;have h1:=dH a e.ty (by have:=dp ha;omega);rw[show cD ctx e.kind e.name e.ty [a]=if aE a e.ty=true then some ([e.ty],e.ty)else none by simp[cD,hk]];refine⟨[e.ty],e.ty,?_,?_⟩
 ·intro p h;split at h<;>simp at h;exact h.symm
 rw[show(if aE a e.ty=true then some ([e.ty],e.ty)else none).isSome=aE a e.ty by cases aE a e.ty<;>rfl];generalize aE a e.ty=c at h1⊢;refine ah.ob Tryz.func162 Tryz.ntmps162 rfl ?_;repeat' first|((first|refine ab (hK _ ?_)|refine aC (hK _ ?_));clear hK K)|((first|refine ae ?_|refine aI ?_|refine aa rfl (hint) ?_|refine aa rfl (ew) ?_|refine aa rfl (h1) ?_);simp[hk];(try(refine gen2 ?_ ?_<;>intro hq<;>try simp[hk]at hq)))|(refine T.ret (aB.a8 (Or.inr rfl) ?_)<;>simp[ay,Tryz.results162,aL]<;>omega)|refine T.rd (id:=30) mixed (fun _=>false) [12] (by kernel_rfl) fun K hK=>?_|refine T.r0 fun K hK=>?_|refine T.r1 fun K hK=>?_|refine T.ct rfl ?_|refine T.cf rfl ?_|refine T.seq ?_|refine T.block ?_
@[simp] theorem P3:td aaT 165=some {ag:=true,sz:=1,lS:=8,zero:=some [.d (.int .i64 0)],el:=none,ar:=none,fl:=[(0,1)],ik:=none,cO:=false,nz:=false}:=dQ (by kernel_rfl)
theorem E4 (n:Int) (h0:0<=n) (hn:n<=1099511627776) (e:al) (f t:aG) (hf:fE f<=1099511627776):
  ah aaT 163 [.c (.ptr 0 0),cL e,dF f,dF t] (dV [[.i n]]) (cL (qN n e f t).1) (dV [[.i (qN n e f t).2]]) []:=by
 have h1:=vm f t hf;simp only[qN];by_cases hq:eL f t=true
 ·rw[if_pos hq];rw[hq]at h1;refine ah.ob Tryz.func163 Tryz.ntmps163 rfl ?_;repeat' first|(refine ab (hK _ ?_);clear hK K)|((first|refine ae ?_|refine aa rfl (h1) ?_);simp;(try(refine gen2 ?_ ?_<;>intro hq<;>(try simp at hq)<;>try(have:True:=hq;clear this hq))))|refine T.r0 fun K hK=>?_|refine T.ct rfl ?_|refine T.seq ?_
  refine T.ret (aB.oS (Or.inr rfl) ?_ ?_ ?_)<;>simp[Tryz.results163]
 ·rw[if_neg hq];rw[show eL f t=false by simpa using hq]at h1;refine ah.ob Tryz.func163 Tryz.ntmps163 rfl ?_;repeat' first|((first|refine ab (hK _ ?_)|refine aC (hK _ ?_));clear hK K)|((first|refine ae ?_|refine aI ?_|refine aa rfl (h1) ?_);simp;(try simp(disch:=omega)only[wrap64]);(try(refine gen2 ?_ ?_<;>intro hq<;>(try simp at hq)<;>try(have:True:=hq;clear this hq))))|refine T.rd (id:=4) mixed (fun _=>false) [9] (by kernel_rfl) fun K hK=>?_|refine T.r0 fun K hK=>?_|refine T.cf rfl ?_|refine T.seq ?_|refine T.skip ?_
  refine T.ret (aB.oS (Or.inr rfl) ?_ ?_ ?_)<;>simp[Tryz.results163,au]
end Go.Proofs.YtloolmchekcmeaaGreat
namespace Go.Proofs.YtloolmchekcmeaaGreat
attribute [-simp] Go.Av.fb Go.Av.AV.eH Go.Av.CV.eH Go.Av.iX Go.Av.AV.dO Go.Av.CV.dO Go.Av.cj Go.Av.e0 Go.Av.fH Go.Av.fy Go.Av.cW Go.Av.cg
open Go Go.Av
attribute [local irreducible] T ah TX EX LX bB dn bW cx ie aG.kind aG.kids al.kind al.name al.num al.ty al.fr al.label al.kids
attribute [local simp] aL au
set_option maxHeartbeats 16000000
set_option maxRecDepth 8000
attribute [local simp] abr
theorem zI (ctx:List dt) (hl:ctx.length<=1099511627776) (e:al) (ts:List aG) (hk:0<e.kind/\e.kind<14) (hlen:(ts.length:Int)=cl e.kind) (bM:∀u∈ts,ak 4 u=true):
  WT ctx e ts (cD ctx e.kind e.name e.ty ts):=by
 have DK:e.kind=1\/e.kind=2\/e.kind=3\/e.kind=4\/e.kind=5\/e.kind=6\/e.kind=7\/e.kind=8\/e.kind=9\/e.kind=10\/e.kind=11\/e.kind=12\/e.kind=13:=by omega
 have h0:cl e.kind=0->ts=[]:=fun h=>List.eq_nil_of_length_eq_zero (by omega)
 have h1:cl e.kind=1->∃a,ts=[a]:=fun h=>by
  match ts,hlen with
  |[a],_=>exact⟨a,rfl⟩
  |[],h'=>simp at h';omega
  |_::_::_,h'=>simp at h';omega
 have h2:cl e.kind=2->∃a b,ts=[a,b]:=fun h=>by
  match ts,hlen with
  |[a,b],_=>exact⟨a,b,rfl⟩
  |[],h'=>simp at h';omega
  |[_],h'=>simp at h';omega
  |_::_::_::_,h'=>simp at h';omega
 have h3:cl e.kind=3->∃a b c,ts=[a,b,c]:=fun h=>by
  match ts,hlen with
  |[a,b,c],_=>exact⟨a,b,c,rfl⟩
  |[],h'=>simp at h';omega
  |[_],h'=>simp at h';omega
  |[_,_],h'=>simp at h';omega
  |_::_::_::_::_,h'=>simp at h';omega
 rcases DK with h|h|h|h|h|h|h|h|h|h|h|h|h
 ·obtain rfl:=h0 (by rw[h];rfl);exact J0 ctx hl e h
 ·obtain rfl:=h0 (by rw[h];rfl);exact J1 ctx e h
 ·obtain rfl:=h0 (by rw[h];rfl);exact J3 ctx e h
 ·obtain rfl:=h0 (by rw[h];rfl);exact J4 ctx e h
 ·obtain⟨a,rfl⟩:=h1 (by rw[h];rfl);exact J5 ctx e a h
 ·obtain⟨a,b,rfl⟩:=h2 (by rw[h];rfl);exact J6 ctx e a b h (bM a (by simp)) (bM b (by simp))
 ·obtain⟨a,b,rfl⟩:=h2 (by rw[h];rfl);exact J7 ctx e a b h (bM a (by simp)) (bM b (by simp))
 ·obtain⟨a,b,rfl⟩:=h2 (by rw[h];rfl);exact J8 ctx e a b h (bM a (by simp)) (bM b (by simp))
 ·obtain⟨a,b,c,rfl⟩:=h3 (by rw[h];rfl);exact J9 ctx e a b c h (bM a (by simp)) (bM b (by simp)) (bM c (by simp))
 ·obtain⟨a,b,rfl⟩:=h2 (by rw[h];rfl);exact Il ctx e a b h
 ·obtain⟨a,rfl⟩:=h1 (by rw[h];rfl);exact Im ctx e a h (bM a (by simp))
 ·obtain⟨a,rfl⟩:=h1 (by rw[h];rfl);exact Io ctx e a h (bM a (by simp))
 ·obtain⟨a,rfl⟩:=h1 (by rw[h];rfl);exact Ip ctx e a h (bM a (by simp))
def mE (es:List al) (ts:List aG):Option (List al×List aG)×Int->Option (List al×List aG)×Int
 |(none,n)=>(none,n)
 |(some (es',ts'),n)=>(some (es++es',ts++ts'),n)
theorem xC (r:Option (List al×List aG)×Int):mE [] [] r=r:=by
 obtain⟨o,n⟩:=r;cases o<;>rfl
theorem vn (es:List al) (ts:List aG) (e:al) (t:aG) (m:Int) (f:Int->Option (List al×List aG)×Int):mE es ts (pF (some (e,t),m) f)=mE (es++[e]) (ts++[t]) (f m):=by
 simp only[pF];cases f m with
 |mk o n=>
  cases o with
  |none=>rfl
  |some p=>obtain⟨a,b⟩:=p;simp[mE]
theorem Cz {ctx:List dt} {k:Int} {s:List UInt8} {ty:aG} {ts ws:List aG} {t:aG} (h:cD ctx k s ty ts=some (ws,t)):ws.length<=ts.length:=by
 simp only[cD]at h;split at h
 ·obtain⟨_,_,h'⟩:=abp.1 h;cases h';simp
 split at h
 ·cases h<;>simp
 split at h
 ·cases h<;>simp
 split at h
 ·split at h
  ·cases h<;>simp
  split at h
  ·obtain⟨_,_,h'⟩:=abp.1 h;cases h';simp
  split at h
  ·obtain⟨_,_,h'⟩:=abp.1 h;cases h';simp
  split at h
  ·split at h<;>cases h<;>simp
  ·cases h
 ·split at h
  ·split at h
   ·split at h<;>cases h<;>simp
   ·cases h
  split at h
  ·split at h<;>cases h<;>simp
  split at h
  ·split at h<;>cases h<;>simp
  split at h
  ·cases h<;>simp
  ·cases h
 ·split at h
  ·split at h<;>cases h<;>simp
  ·cases h
 ·cases h
theorem xD {ctx:List dt} {e:al} {ts ws:List aG} {t:aG} (hc:iD ctx) (he:cb e.kind=true->ak 4 e.ty=true) (bM:∀u∈ts,ak 4 u=true) (h:cD ctx e.kind e.name e.ty ts=some (ws,t)):fE t<=1000:=by
 have key:∀{t:aG},ak 4 t=true->fE t<=100:=fun h=>by have:=dp h;omega
 simp only[cD]at h;split at h
 ·obtain⟨_,h1,h'⟩:=abp.1 h;cases h'
  obtain⟨b,h2,h3,_⟩:=pC h1;have:=key (hc b h2);rw[h3]at this;omega
 split at h
 ·cases h;simp[cQ,cS]
 split at h
 ·cases h;simp[cQ,cS]
 split at h
 ·rename_i a;have ha:=key (bM a (by simp));split at h
  ·rename_i h5;cases h
   have:=key (he (by simp[cb,h5]));simp[cQ,cS];omega
  split at h
  ·obtain⟨p,h1,h'⟩:=abp.1 h;obtain⟨x,y⟩:=p;cases h'
   have:=key (eP h1 (bM a (by simp))).1;dsimp only;omega
  split at h
  ·obtain⟨p,h1,h'⟩:=abp.1 h;obtain⟨x,y⟩:=p;cases h'
   have:=key (eP h1 (bM a (by simp))).2;dsimp only;omega
  split at h
  ·rename_i dG;split at h
   ·cases h
    have:=key (he (by simp[cb,dG]));omega
   ·cases h
  ·cases h
 ·rename_i a b;have ha:=key (bM a (by simp));have hb:=key (bM b (by simp));split at h
  ·split at h
   ·rename_i x y hm;split at h
    ·cases h
     have:=key (eP hm (bM a (by simp))).2;omega
    ·cases h
   ·cases h
  split at h
  ·split at h
   ·cases h;simp[cQ,cS]
   ·cases h
  split at h
  ·split at h
   ·cases h;simp[cQ,cS]
   ·cases h
  split at h
  ·cases h;simp[cQ,cS];omega
  ·cases h
 ·rename_i a b c;split at h
  ·split at h
   ·rename_i hq;cases h
    have:=key (nT 4 b c (bM b (by simp)) (bM c (by simp)) hq.2);omega
   ·cases h
  ·cases h
 ·cases h
theorem zJ (c:Int) (es:List al) (ts:List aG):je c es ts []=(es,c):=by
 cases es<;>cases ts<;>rfl
theorem Iq (ctx:List dt) (hl:ctx.length<=1073741824) (e:al) (hk:0<e.kind/\e.kind<14) (h5:e.kind≠5) (n:Int) (hlen:cl e.kind=e.kids.length)
  (h0:0<=n) (hn:n+e9 e<=1073741824) (hc:iD ctx) (yh:cb e.kind=true->ak 4 e.ty=true)
  (hs:∀u∈e.kids,∀(n:Int) x t m,gB ctx u n=(some (x,t),m)->ak 4 t=true)
  (ih:∀u∈e.kids,∀n:Int,0<=n->n+e9 u<=1073741824->ah aaT 142 [.c (.ptr 0 0),kN ctx,cL u] (dV [[.i n]]) (.a8 (jt (gB ctx u n).1)) (dV [[.i (gB ctx u n).2]]) []):
  ah aaT 142 [.c (.ptr 0 0),kN ctx,cL e] (dV [[.i n]]) (.a8 (jt (nX ctx e.kind e.name e.num e.ty e.fr e.label (eW ctx e.kids n)).1)) (dV [[.i (nX ctx e.kind e.name e.num e.ty e.fr e.label (eW ctx e.kids n)).2]]) []:=by
 obtain⟨R,hR⟩:∃R,eW ctx e.kids n=R:=⟨_,rfl⟩;rw[hR];have C5:e.kids.length<=3:=by have:=so e.kind;omega
 have Vb:n+fa e.kids<=1073741824:=by rw[j7]at hn;omega
 refine ah.ob Tryz.func142 Tryz.ntmps142 rfl ?_;repeat' first|(refine ab (hK _ ?_);clear hK K)|(refine ae ?_;simp[h5];(try(refine gen2 ?_ ?_<;>intro hq<;>try simp[h5]at hq)))|refine T.r0 fun K hK=>?_|refine T.cf rfl ?_|refine T.seq ?_|refine T.block ?_|refine T.skip ?_
 refine T.dq 4 8 9 28 (row:=[.d (.i e.kind),.d (.str e.name),.d (.i e.num),.d (.i e.ty.kind),.d (.sl (e.ty.kids.map cx)),.d (.i e.fr.kind),.d (.sl (e.fr.kids.map cx)),.d (.i e.label),.nil]) (by simp) (by simp) ?_;refine T.pq 11 2 25 (by simp) ?_
 refine T.dU (α:=Nat×List al×List aG×Int×List (List CV)) [0,1,5,6,7,9,10,38,39] (fun x=>[(8,.b false),(11,.c (.own 1 x.1)),(40,.i x.1)]) (fun x=>[(0,[.d (.i x.2.2.2.1)]),(4,[.d (.i e.kind),.d (.str e.name),.d (.i e.num),.d (.i e.ty.kind),.d (.sl (e.ty.kids.map cx)),.d (.i e.fr.kind),.d (.sl (e.fr.kids.map cx)),.d (.i e.label),.own 0 x.1])]) (fun x=>x.2.2.2.2) (fun x _=>[{sz:=9,eA:=28,rows:=x.2.1.map ie,wr:=true},{sz:=2,eA:=25,rows:=x.2.2.1.map cx,wr:=true}]) (fun x=>e.kids.length+1-x.1)
  (fun x=>x.1<=e.kids.length/\x.2.1.length=x.1/\x.2.2.1.length=x.1/\(∀u∈x.2.2.1,ak 4 u=true)/\0<=x.2.2.2.1/\x.2.2.2.1+fa (e.kids.drop x.1)<=1073741824/\mE x.2.1 x.2.2.1 (eW ctx (e.kids.drop x.1) x.2.2.2.1)=R) (by simp;rfl) (fun x hx=>?_) (0,[],[],n,[]) (by simp[xC,hR];omega) (by simp) (by simp) (by simp)
 obtain⟨p,es,ts,c,G⟩:=x;obtain⟨hi,Ir,bM,jK,Mf,Ka,he⟩:=hx;dsimp only at hi Ir bM jK Mf Ka he⊢;simp only[iy,aa0,aa1,aaV,aaU];by_cases ax:p<e.kids.length
 ·obtain⟨u,ht⟩:=bR ax;have eQ:u∈e.kids:=aaZ ht;have bf:e.kids[p]=u:=by rw[aaX ax]at ht;exact Option.some.inj ht
  have gP:e.kids.drop p=u::e.kids.drop (p+1):=by rw[aaY ax,bf]
  rw[gP]at he Ka;simp only[fa]at Ka;have hu:=ih u eQ c Mf (by omega);have hle:=EO u ctx c;rw[eW]at he;cases hb:gB ctx u c with
  |mk o m=>
   rw[hb]at hu he hle;cases o with
   |none=>
    simp only[pF,mE]at he;subst he;simp only[nX,jt]at hu⊢;repeat' first|(refine ab (hK _ ?_);clear hK K)|(refine ae ?_;simp[ax,bf];(try simp(disch:=omega)only[wrap64]);(try(refine gen2 ?_ ?_<;>intro hq<;>try simp[ax,bf]at hq)))|(refine ku [0] (by simp) rfl rfl hu ?_;simp)|refine T.r0 fun K hK=>?_|refine T.ct rfl ?_|refine T.seq ?_|refine T.block ?_|refine T.skip ?_
    all_goals(first|refine T.ret (aB.gt (Or.inr rfl) ?_ ?_)|refine T.ret (aB.g1 (Or.inr rfl) ?_ ?_))<;>(simp[ay,Tryz.results142])
   |some q=>
    obtain⟨x,t⟩:=q;have ft:=hs u eQ c x t m hb;simp only[jt]at hu hle;rw[vn]at he;repeat' first|((first|refine ab (hK _ ?_)|refine jf (hK _ ?_));clear hK K)|((first|refine ae ?_|refine kB ?_);simp[ax,bf,Ir,bM];(try simp(disch:=omega)only[wrap64]);(try(refine gen2 ?_ ?_<;>intro hq<;>try simp[ax,bf,Ir,bM]at hq)))|(refine ku [0] (by simp) rfl rfl hu ?_;simp)|(refine⟨by omega,by omega,?_⟩)|refine T.HP (id:=13) mixed (fun _=>false) [4,8,10] [6,7] 5 [4] [0] (by kernel_rfl) fun K hK=>?_|refine T.r0 fun K hK=>?_|refine T.r1 fun K hK=>?_|refine T.ct rfl ?_|refine T.cf rfl ?_|refine T.seq ?_|refine T.block ?_|refine T.skip ?_
    refine⟨(p+1,es++[x],ts++[t],m,_),by dsimp only;omega,⟨by dsimp only;omega,by simp[Ir],by simp[bM],fun v hv=>?_,by dsimp only at hle⊢;omega,by dsimp only at hle⊢;omega,he⟩,rfl,?_,?_⟩
    ·rcases aba.1 hv with h|h
     ·exact jK v h
     ·simp at h;subst h;exact ft
    ·simp[au,aL]
    ·simp(disch:=omega) [wrap64]
 ·have ff:p=e.kids.length:=by omega
  subst ff;simp[eW,mE]at he;subst he;obtain⟨ws,t,Mg,AA⟩:=zI ctx (by omega) e ts hk (by rw[bM];exact hlen.symm) jK;cases zX:cD ctx e.kind e.name e.ty ts with
  |none=>
   rw[zX]at AA;simp only[abn]at AA;simp only[nX,zX,jt];repeat' first|(refine ab (hK _ ?_);clear hK K)|((first|refine ae ?_|(refine aa ?_ (AA) ?_;(focus(solve|simp[ax,bM]))));simp[ax,bM];(try(refine gen2 ?_ ?_<;>intro hq<;>try simp[ax,bM]at hq)))|refine T.r0 fun K hK=>?_|refine T.ct rfl ?_|refine T.cf rfl ?_|refine T.seq ?_|refine T.exit ?_
   all_goals(first|refine T.ret (aB.gt (Or.inr rfl) ?_ ?_)|refine T.ret (aB.g1 (Or.inr rfl) ?_ ?_))<;>(simp[ay,Tryz.results142])
  |some q=>
   obtain rfl:=Mg q zX;rw[zX]at AA;simp only[abm]at AA;have RL:fE t<=1099511627776:=by have:=xD hc yh jK zX;omega
   have Kb:=gY t RL;cases oV:ak 4 t with
   |false=>
    rw[oV]at Kb;simp only[nX,zX,oV,jt];repeat' first|(refine ab (hK _ ?_);clear hK K)|((first|refine ae ?_|(refine aa ?_ (AA) ?_;(focus(solve|simp[ax,bM])))|refine aa rfl (Kb) ?_);simp[ax,bM];(try(refine gen2 ?_ ?_<;>intro hq<;>try simp[ax,bM]at hq)))|refine T.r0 fun K hK=>?_|refine T.ct rfl ?_|refine T.cf rfl ?_|refine T.seq ?_|refine T.exit ?_
    all_goals(first|refine T.ret (aB.gt (Or.inr rfl) ?_ ?_)|refine T.ret (aB.g1 (Or.inr rfl) ?_ ?_))<;>(simp[ay,Tryz.results142])
   |true=>
    rw[oV]at Kb;have wb:=Cz zX;repeat' first|(refine ab (hK _ ?_);clear hK K)|((first|refine ae ?_|(refine aa ?_ (AA) ?_;(focus(solve|simp[ax,bM])))|refine aa rfl (Kb) ?_);simp[ax,bM];(try(refine gen2 ?_ ?_<;>intro hq<;>try simp[ax,bM]at hq)))|refine T.r0 fun K hK=>?_|refine T.cf rfl ?_|refine T.seq ?_|refine T.block ?_|refine T.skip ?_|refine T.exit ?_
    obtain⟨F,hF⟩:∃F,je c es ts ws=F:=⟨_,rfl⟩;rw[show nX ctx e.kind e.name e.num e.ty e.fr e.label (some (es,ts),c)=(if e.kind=13 then(F.1.head?.map fun x=>(x,t),F.2)else(some (.mk e.kind e.name e.num e.ty e.fr e.label F.1,t),F.2)) by simp only[nX,zX,hF];simp[oV]]
    refine T.dU (α:=Nat×List al×Int×List (List CV)) [0,5,6,7,8,10,11,18,84,85] (fun x=>[(86,.i x.1)]) (fun x=>[(0,[.d (.i x.2.2.1)])]) (fun x=>x.2.2.2) (fun x _=>[{sz:=9,eA:=28,rows:=x.2.1.map ie,wr:=true},{sz:=2,eA:=25,rows:=ts.map cx,wr:=false}]) (fun x=>ws.length+1-x.1)
     (fun x=>x.1<=ws.length/\x.2.1.length=ts.length/\0<=x.2.2.1/\x.2.2.1<=c+x.1/\(x.2.1.take x.1++(je x.2.2.1 (x.2.1.drop x.1) (ts.drop x.1) (ws.drop x.1)).1,(je x.2.2.1 (x.2.1.drop x.1) (ts.drop x.1) (ws.drop x.1)).2)=F) (by simp;rfl) (fun x hx=>?_) (0,es,c,[]) (by simp[Ir,bM,hF,Mf]) (by simp) (by simp) (by simp)
    clear hF;obtain⟨p,cur,c2,G2⟩:=x;obtain⟨hp,kS,Is,FB,D6⟩:=hx;dsimp only at hp kS Is FB D6⊢;simp only[iy,aa0,aa1,aaV,aaU];by_cases l6:p<ws.length
    ·have Ai:p<ts.length:=by omega
     have Kc:p<cur.length:=by omega
     obtain⟨w,hw⟩:∃w,ws[p]=w:=⟨_,rfl⟩;obtain⟨h,hh⟩:∃h,ts[p]=h:=⟨_,rfl⟩;obtain⟨x,hx⟩:∃x,cur[p]=x:=⟨_,rfl⟩;rw[drop_cons l6,drop_cons Ai,drop_cons Kc,hw,hh,hx]at D6;have RM:h∈ts:=by rw[<-hh];exact aa7 Ai
     have CA:=E4 c2 Is (by omega) x h w (by have:=dp (jK h RM);omega);have Mh:=wY c2 x h w;simp only[je]at D6;have ft:∀y,(cur.set p y).take (p+1)=cur.take p++[y]:=fun y=>by rw[aa4,abd Kc,aa8 (abh p)];rfl
     have RN:∀y,(cur.set p y).drop (p+1)=cur.drop (p+1):=fun y=>by rw[abe];simp
     generalize qN c2 x h w=CM at*;obtain⟨y,m⟩:=CM;dsimp only at D6 Mh CA;have OQ:p<e.kids.length:=by omega
     repeat' first|((first|refine ab (hK _ ?_)|refine jf (hK _ ?_));clear hK K)|((first|refine ae ?_|refine kB ?_);simp[l6,Ai,Kc,OQ,hw,hh,hx,bM,kS];(try simp(disch:=omega)only[wrap64]);(try(refine gen2 ?_ ?_<;>intro hq<;>try simp[l6,Ai,Kc,OQ,hw,hh,hx,bM,kS]at hq)))|(refine ku [0] (by simp) rfl rfl CA ?_;simp)|refine T.HP (id:=21) mixed (fun _=>false) [14,16] [1] 15 [0] [] (by kernel_rfl) fun K hK=>?_|refine T.r0 fun K hK=>?_|refine T.r1 fun K hK=>?_|refine T.ct rfl ?_|refine T.seq ?_|refine T.block ?_|refine T.skip ?_
     refine⟨(p+1,cur.set p y,m,_),by dsimp only;omega,⟨by dsimp only;omega,by simp[kS],by dsimp only;omega,by dsimp only;omega,by dsimp only;rw[ft,RN];simpa using D6⟩,(by simp only[iy,aa0,aaV,aa2,aaU];rfl),?_,?_⟩
     ·simp[au]
     ·simp(disch:=omega) [wrap64]
    ·have Nb:p=ws.length:=by omega
     subst Nb;rw[abf,zJ,aa9]at D6;subst D6;by_cases dG:e.kind=13
     ·rw[if_pos dG];have uK:cur.length=1:=by rw[kS,bM];rw[dG]at hlen;simp[cl]at hlen;omega
      match cur,uK with
      |[x],_=>
       simp only[List.head?_cons,abo,jt];have jl:e.kids.length=1:=by simp at kS;omega
       repeat' first|((first|refine ab (hK _ ?_)|refine jf (hK _ ?_));clear hK K)|((first|refine ae ?_|refine kB ?_);simp[l6,dG,jl];(try(refine gen2 ?_ ?_<;>intro hq<;>try simp[l6,dG,jl]at hq)))|refine T.Rk (id:=24) mixed (fun _=>false) [5,6] [4] 6 [2] [] (by kernel_rfl) fun K hK=>?_|refine T.r0 fun K hK=>?_|refine T.ct rfl ?_|refine T.cf rfl ?_|refine T.seq ?_|refine T.exit ?_
       all_goals(first|refine T.ret (aB.gt (Or.inr rfl) ?_ ?_)|refine T.ret (aB.g1 (Or.inr rfl) ?_ ?_))<;>(simp[ay,Tryz.results142])
     ·rw[if_neg dG];simp only[jt];repeat' first|((first|refine ab (hK _ ?_)|refine jf (hK _ ?_));clear hK K)|((first|refine ae ?_|refine kB ?_);simp[l6,dG,kS,bM];(try(refine gen2 ?_ ?_<;>intro hq<;>try simp[l6,dG,kS,bM]at hq)))|refine T.Rk (id:=25) mixed (fun _=>false) [2,3] [1] 3 [2] [] (by kernel_rfl) fun K hK=>?_|refine T.r0 fun K hK=>?_|refine T.cf rfl ?_|refine T.seq ?_|refine T.skip ?_|refine T.exit ?_
      all_goals(first|refine T.ret (aB.gt (Or.inr rfl) ?_ ?_)|refine T.ret (aB.g1 (Or.inr rfl) ?_ ?_))<;>(simp[ay,Tryz.results142,kS,bM])
theorem It (ctx:List dt) (hl:ctx.length<=1073741824) (e:al) (hk:0<e.kind/\e.kind<14) (h5:e.kind=5) (ins:List dt) (Mi:ins=ctx++[⟨e.name,e.ty⟩]) (n:Int) (hlen:cl e.kind=e.kids.length)
  (h0:0<=n) (hn:n+e9 e<=1073741824) (hc:iD ctx) (yh:cb e.kind=true->ak 4 e.ty=true)
  (hs:∀u∈e.kids,∀(n:Int) x t m,gB ins u n=(some (x,t),m)->ak 4 t=true)
  (ih:∀u∈e.kids,∀n:Int,0<=n->n+e9 u<=1073741824->ah aaT 142 [.c (.ptr 0 0),kN ins,cL u] (dV [[.i n]]) (.a8 (jt (gB ins u n).1)) (dV [[.i (gB ins u n).2]]) []):
  ah aaT 142 [.c (.ptr 0 0),kN ctx,cL e] (dV [[.i n]]) (.a8 (jt (nX ctx e.kind e.name e.num e.ty e.fr e.label (eW ins e.kids n)).1)) (dV [[.i (nX ctx e.kind e.name e.num e.ty e.fr e.label (eW ins e.kids n)).2]]) []:=by
 obtain⟨R,hR⟩:∃R,eW ins e.kids n=R:=⟨_,rfl⟩;rw[hR];have C5:e.kids.length<=3:=by have:=so e.kind;omega
 have Vb:n+fa e.kids<=1073741824:=by rw[j7]at hn;omega
 refine ah.ob Tryz.func142 Tryz.ntmps142 rfl ?_;repeat' first|((first|refine ab (hK _ ?_)|refine jf (hK _ ?_));clear hK K)|((first|(first|refine ae ?_|refine kB ?_)|refine fX rfl (Cy ctx (by omega)) ?_);simp[h5];(try(refine gen2 ?_ ?_<;>intro hq<;>try simp[h5]at hq)))|(refine⟨by omega,by omega,?_⟩)|refine T.HP (id:=3) mixed (fun _=>false) [1,8] [3,5,6,7] 2 [] [] (by kernel_rfl) fun K hK=>?_|refine T.r0 fun K hK=>?_|refine T.ct rfl ?_|refine T.seq ?_|refine T.block ?_
 refine T.seal 9 0 (ctx.length+1) (r:={sz:=3,eA:=146,rows:=ins.map iC,wr:=true}) (by simp) (by simp[Mi,iC]) (by simp[Mi]) ?_;clear Mi;refine T.dq 4 8 9 28 (row:=[.d (.i 5),.d (.str e.name),.d (.i e.num),.d (.i e.ty.kind),.d (.sl (e.ty.kids.map cx)),.d (.i e.fr.kind),.d (.sl (e.fr.kids.map cx)),.d (.i e.label),.nil]) (by simp) (by simp) ?_;refine T.pq 11 2 25 (by simp) ?_
 refine T.dU (α:=Nat×List al×List aG×Int×List (List CV)) [0,1,5,6,7,9,10,38,39] (fun x=>[(8,.b false),(11,.c (.own 2 x.1)),(40,.i x.1)]) (fun x=>[(0,[.d (.i x.2.2.2.1)]),(4,[.d (.i 5),.d (.str e.name),.d (.i e.num),.d (.i e.ty.kind),.d (.sl (e.ty.kids.map cx)),.d (.i e.fr.kind),.d (.sl (e.fr.kids.map cx)),.d (.i e.label),.own 1 x.1])]) (fun x=>x.2.2.2.2) (fun x _=>[{sz:=3,eA:=146,rows:=ins.map iC,wr:=false},{sz:=9,eA:=28,rows:=x.2.1.map ie,wr:=true},{sz:=2,eA:=25,rows:=x.2.2.1.map cx,wr:=true}]) (fun x=>e.kids.length+1-x.1)
  (fun x=>x.1<=e.kids.length/\x.2.1.length=x.1/\x.2.2.1.length=x.1/\(∀u∈x.2.2.1,ak 4 u=true)/\0<=x.2.2.2.1/\x.2.2.2.1+fa (e.kids.drop x.1)<=1073741824/\mE x.2.1 x.2.2.1 (eW ins (e.kids.drop x.1) x.2.2.2.1)=R) (by simp;rfl) (fun x hx=>?_) (0,[],[],n,[]) (by simp[xC,hR];omega) (by simp) (by simp) (by simp)
 obtain⟨p,es,ts,c,G⟩:=x;obtain⟨hi,Ir,bM,jK,Mf,Ka,he⟩:=hx;dsimp only at hi Ir bM jK Mf Ka he⊢;simp only[iy,aa0,aa1,aaV,aaU];by_cases ax:p<e.kids.length
 ·obtain⟨u,ht⟩:=bR ax;have eQ:u∈e.kids:=aaZ ht;have bf:e.kids[p]=u:=by rw[aaX ax]at ht;exact Option.some.inj ht
  have gP:e.kids.drop p=u::e.kids.drop (p+1):=by rw[aaY ax,bf]
  rw[gP]at he Ka;simp only[fa]at Ka;have hu:=ih u eQ c Mf (by omega);have hle:=EO u ins c;rw[eW]at he;cases hb:gB ins u c with
  |mk o m=>
   rw[hb]at hu he hle;cases o with
   |none=>
    simp only[pF,mE]at he;subst he;simp only[nX,jt]at hu⊢;repeat' first|(refine ab (hK _ ?_);clear hK K)|(refine ae ?_;simp[ax,bf];(try simp(disch:=omega)only[wrap64]);(try(refine gen2 ?_ ?_<;>intro hq<;>try simp[ax,bf]at hq)))|(refine ku [0] (by simp) rfl rfl hu ?_;simp)|refine T.r0 fun K hK=>?_|refine T.ct rfl ?_|refine T.seq ?_|refine T.block ?_|refine T.skip ?_
    all_goals(first|refine T.ret (aB.gt (Or.inr rfl) ?_ ?_)|refine T.ret (aB.g1 (Or.inr rfl) ?_ ?_))<;>(simp[ay,Tryz.results142])
   |some q=>
    obtain⟨x,t⟩:=q;have ft:=hs u eQ c x t m hb;simp only[jt]at hu hle;rw[vn]at he;repeat' first|((first|refine ab (hK _ ?_)|refine jf (hK _ ?_));clear hK K)|((first|refine ae ?_|refine kB ?_);simp[ax,bf,Ir,bM];(try simp(disch:=omega)only[wrap64]);(try(refine gen2 ?_ ?_<;>intro hq<;>try simp[ax,bf,Ir,bM]at hq)))|(refine ku [0] (by simp) rfl rfl hu ?_;simp)|(refine⟨by omega,by omega,?_⟩)|refine T.HP (id:=13) mixed (fun _=>false) [4,8,10] [6,7] 5 [4] [1] (by kernel_rfl) fun K hK=>?_|refine T.r0 fun K hK=>?_|refine T.r1 fun K hK=>?_|refine T.ct rfl ?_|refine T.cf rfl ?_|refine T.seq ?_|refine T.block ?_|refine T.skip ?_
    refine⟨(p+1,es++[x],ts++[t],m,_),by dsimp only;omega,⟨by dsimp only;omega,by simp[Ir],by simp[bM],fun v hv=>?_,by dsimp only at hle⊢;omega,by dsimp only at hle⊢;omega,he⟩,rfl,?_,?_⟩
    ·rcases aba.1 hv with h|h
     ·exact jK v h
     ·simp at h;subst h;exact ft
    ·simp[au,aL]
    ·simp(disch:=omega) [wrap64]
 ·have ff:p=e.kids.length:=by omega
  subst ff;simp[eW,mE]at he;subst he;obtain⟨ws,t,Mg,AA⟩:=zI ctx (by omega) e ts hk (by rw[bM];exact hlen.symm) jK;cases zX:cD ctx e.kind e.name e.ty ts with
  |none=>
   rw[zX]at AA;simp only[abn]at AA;simp only[nX,zX,jt];repeat' first|(refine ab (hK _ ?_);clear hK K)|((first|refine ae ?_|(refine aa ?_ (AA) ?_;(focus(solve|simp[ax,bM,h5]))));simp[ax,bM,h5];(try(refine gen2 ?_ ?_<;>intro hq<;>try simp[ax,bM,h5]at hq)))|refine T.r0 fun K hK=>?_|refine T.ct rfl ?_|refine T.cf rfl ?_|refine T.seq ?_|refine T.exit ?_
   all_goals(first|refine T.ret (aB.gt (Or.inr rfl) ?_ ?_)|refine T.ret (aB.g1 (Or.inr rfl) ?_ ?_))<;>(simp[ay,Tryz.results142])
  |some q=>
   obtain rfl:=Mg q zX;rw[zX]at AA;simp only[abm]at AA;have RL:fE t<=1099511627776:=by have:=xD hc yh jK zX;omega
   have Kb:=gY t RL;cases oV:ak 4 t with
   |false=>
    rw[oV]at Kb;simp only[nX,zX,oV,jt];repeat' first|(refine ab (hK _ ?_);clear hK K)|((first|refine ae ?_|(refine aa ?_ (AA) ?_;(focus(solve|simp[ax,bM,h5])))|refine aa rfl (Kb) ?_);simp[ax,bM,h5];(try(refine gen2 ?_ ?_<;>intro hq<;>try simp[ax,bM,h5]at hq)))|refine T.r0 fun K hK=>?_|refine T.ct rfl ?_|refine T.cf rfl ?_|refine T.seq ?_|refine T.exit ?_
    all_goals(first|refine T.ret (aB.gt (Or.inr rfl) ?_ ?_)|refine T.ret (aB.g1 (Or.inr rfl) ?_ ?_))<;>(simp[ay,Tryz.results142])
   |true=>
    rw[oV]at Kb;have wb:=Cz zX;repeat' first|(refine ab (hK _ ?_);clear hK K)|((first|refine ae ?_|(refine aa ?_ (AA) ?_;(focus(solve|simp[ax,bM,h5])))|refine aa rfl (Kb) ?_);simp[ax,bM,h5];(try(refine gen2 ?_ ?_<;>intro hq<;>try simp[ax,bM,h5]at hq)))|refine T.r0 fun K hK=>?_|refine T.cf rfl ?_|refine T.seq ?_|refine T.block ?_|refine T.skip ?_|refine T.exit ?_
    obtain⟨F,hF⟩:∃F,je c es ts ws=F:=⟨_,rfl⟩;rw[show nX ctx e.kind e.name e.num e.ty e.fr e.label (some (es,ts),c)=(if e.kind=13 then(F.1.head?.map fun x=>(x,t),F.2)else(some (.mk e.kind e.name e.num e.ty e.fr e.label F.1,t),F.2)) by simp only[nX,zX,hF];simp[oV]]
    refine T.dU (α:=Nat×List al×Int×List (List CV)) [0,5,6,7,8,10,11,18,84,85] (fun x=>[(86,.i x.1)]) (fun x=>[(0,[.d (.i x.2.2.1)])]) (fun x=>x.2.2.2) (fun x _=>[{sz:=3,eA:=146,rows:=ins.map iC,wr:=false},{sz:=9,eA:=28,rows:=x.2.1.map ie,wr:=true},{sz:=2,eA:=25,rows:=ts.map cx,wr:=false}]) (fun x=>ws.length+1-x.1)
     (fun x=>x.1<=ws.length/\x.2.1.length=ts.length/\0<=x.2.2.1/\x.2.2.1<=c+x.1/\(x.2.1.take x.1++(je x.2.2.1 (x.2.1.drop x.1) (ts.drop x.1) (ws.drop x.1)).1,(je x.2.2.1 (x.2.1.drop x.1) (ts.drop x.1) (ws.drop x.1)).2)=F) (by simp;rfl) (fun x hx=>?_) (0,es,c,[]) (by simp[Ir,bM,hF,Mf]) (by simp) (by simp) (by simp)
    clear hF;obtain⟨p,cur,c2,G2⟩:=x;obtain⟨hp,kS,Is,FB,D6⟩:=hx;dsimp only at hp kS Is FB D6⊢;simp only[iy,aa0,aa1,aaV,aaU];by_cases l6:p<ws.length
    ·have Ai:p<ts.length:=by omega
     have Kc:p<cur.length:=by omega
     obtain⟨w,hw⟩:∃w,ws[p]=w:=⟨_,rfl⟩;obtain⟨h,hh⟩:∃h,ts[p]=h:=⟨_,rfl⟩;obtain⟨x,hx⟩:∃x,cur[p]=x:=⟨_,rfl⟩;rw[drop_cons l6,drop_cons Ai,drop_cons Kc,hw,hh,hx]at D6;have RM:h∈ts:=by rw[<-hh];exact aa7 Ai
     have CA:=E4 c2 Is (by omega) x h w (by have:=dp (jK h RM);omega);have Mh:=wY c2 x h w;simp only[je]at D6;have ft:∀y,(cur.set p y).take (p+1)=cur.take p++[y]:=fun y=>by rw[aa4,abd Kc,aa8 (abh p)];rfl
     have RN:∀y,(cur.set p y).drop (p+1)=cur.drop (p+1):=fun y=>by rw[abe];simp
     generalize qN c2 x h w=CM at*;obtain⟨y,m⟩:=CM;dsimp only at D6 Mh CA;have OQ:p<e.kids.length:=by omega
     repeat' first|((first|refine ab (hK _ ?_)|refine jf (hK _ ?_));clear hK K)|((first|refine ae ?_|refine kB ?_);simp[l6,Ai,Kc,OQ,hw,hh,hx,bM,kS];(try simp(disch:=omega)only[wrap64]);(try(refine gen2 ?_ ?_<;>intro hq<;>try simp[l6,Ai,Kc,OQ,hw,hh,hx,bM,kS]at hq)))|(refine ku [0] (by simp) rfl rfl CA ?_;simp)|refine T.HP (id:=21) mixed (fun _=>false) [14,16] [1] 15 [0] [] (by kernel_rfl) fun K hK=>?_|refine T.r0 fun K hK=>?_|refine T.r1 fun K hK=>?_|refine T.ct rfl ?_|refine T.seq ?_|refine T.block ?_|refine T.skip ?_
     refine⟨(p+1,cur.set p y,m,_),by dsimp only;omega,⟨by dsimp only;omega,by simp[kS],by dsimp only;omega,by dsimp only;omega,by dsimp only;rw[ft,RN];simpa using D6⟩,(by simp only[iy,aa0,aaV,aa2,aaU];rfl),?_,?_⟩
     ·simp[au]
     ·simp(disch:=omega) [wrap64]
    ·have Nb:p=ws.length:=by omega
     subst Nb;rw[abf,zJ,aa9]at D6;subst D6;by_cases dG:e.kind=13
     ·exact absurd dG (by omega)
     ·rw[if_neg dG];simp only[jt];repeat' first|((first|refine ab (hK _ ?_)|refine jf (hK _ ?_));clear hK K)|((first|refine ae ?_|refine kB ?_);simp[l6,h5,kS,bM];(try(refine gen2 ?_ ?_<;>intro hq<;>try simp[l6,h5,kS,bM]at hq)))|refine T.Rk (id:=25) mixed (fun _=>false) [2,3] [1] 3 [2] [] (by kernel_rfl) fun K hK=>?_|refine T.r0 fun K hK=>?_|refine T.cf rfl ?_|refine T.seq ?_|refine T.skip ?_|refine T.exit ?_
      all_goals(first|refine T.ret (aB.gt (Or.inr rfl) ?_ ?_)|refine T.ret (aB.g1 (Or.inr rfl) ?_ ?_))<;>(simp[ay,Tryz.results142,kS,bM,h5])
theorem Kd:∀(e:al) (d:Nat) (ctx:List dt) (n:Int),bg 14 d e=true->ctx.length+d<=1073741824->iD ctx->0<=n->n+e9 e<=1073741824->
  ah aaT 142 [.c (.ptr 0 0),kN ctx,cL e] (dV [[.i n]]) (.a8 (jt (gB ctx e n).1)) (dV [[.i (gB ctx e n).2]]) []:=by
 intro e;induction e using al.ind with
 |h e ih=>
  intro d ctx n hs hl hc h0 hn;obtain⟨d',rfl,dj,hlen,dP,jc⟩:=fV hs;have hb:=B9 e.kind _ hlen;have b8:iD (cw ctx e):=by
   simp only[cw];split
   ·rename_i h5;exact hc.app (gX dP (by simp[cb,h5]))
   ·exact hc
  have Bd:(cw ctx e).length<=ctx.length+1:=by simp only[cw];split<;>simp
  have jK:∀u∈e.kids,∀(n:Int) x t m,gB (cw ctx e) u n=(some (x,t),m)->ak 4 t=true:=by
   intro u hu n x t m h;have h1:=ze u d' (cw ctx e) n (jc u hu) b8;rw[h]at h1;exact cN u d' 14 _ t (jc u hu) b8 (by simpa using h1.symm)
  have RO:∀u∈e.kids,∀n:Int,0<=n->n+e9 u<=1073741824->ah aaT 142 [.c (.ptr 0 0),kN (cw ctx e),cL u] (dV [[.i n]]) (.a8 (jt (gB (cw ctx e) u n).1)) (dV [[.i (gB (cw ctx e) u n).2]]) []:=
   fun u hu n h0 hn=>ih u hu d' (cw ctx e) n (jc u hu) (by omega) b8 h0 hn
  rw[tO];by_cases h5:e.kind=5
  ·exact It ctx (by omega) e ⟨by omega,by omega⟩ h5 (cw ctx e) (by simp[cw,h5]) n hlen h0 hn hc (gX dP) jK RO
  ·have hi:cw ctx e=ctx:=by simp[cw,h5]
   rw[hi]at jK RO⊢;exact Iq ctx (by omega) e ⟨by omega,by omega⟩ h5 n hlen h0 hn hc (gX dP) jK RO
theorem lj (e:al) (hn:e9 e<=1099511627776):ah aaT 38 [cL e] [] (.b (aS e)) [] []:=by
 have h:=JN 30 12 14 (by omega) (by omega) e hn 1 0 (by omega) (by omega) (by omega);have hl:=(FI 30 12 14 e 12 0 (by omega) (by omega)).1;have hr:(kW 30 12 14 1 e 0).1=aS e:=by
  rw[show((12:Int)+1-((12:Nat):Int))=1 by omega]at hl;rw[hl,aS]
  congr 1
  exact decide_eq_decide.2 (by omega)
 rw[hr]at h;refine ah.ob Tryz.func38 Tryz.ntmps38 rfl ?_;repeat' first|(refine ab (hK _ ?_);clear hK K)|((first|refine ae ?_|refine kq 1 [.i 0] [.i (kW 30 12 14 1 e 0).2] rfl rfl h ?_);simp)|(refine T.ret (aB.data (Or.inr rfl) ?_ ?_)<;>simp[Tryz.results38]<;>omega)|refine T.r0 fun K hK=>?_
theorem CB (ctx:List dt) (e:al) (d:Nat) (hs:bg 14 d e=true) (hl:ctx.length+d<=1073741824) (hc:iD ctx) (hn:e9 e<=1073741824):
  ah aaT 114 [kN ctx,cL e] [] (.a8 (fN (bO ctx e))) [] []:=by
 have h:=Kd e d ctx 0 hs hl hc (by omega) (by omega);have ht:=ze e d ctx 0 hs hc;generalize gB ctx e 0=X at h ht;obtain⟨o,m⟩:=X;rw[<-ht];cases o with
 |none=>
  simp only[jt]at h;simp only[abq,fN];refine ah.ob Tryz.func114 Tryz.ntmps114 rfl ?_;repeat' first|(refine ab (hK _ ?_);clear hK K)|((first|refine ae ?_|refine ku [2] (by simp) rfl rfl h ?_);simp)|(refine T.ret (aB.a8 (Or.inr rfl) ?_)<;>simp[ay,Tryz.results114]<;>omega)|refine T.r0 fun K hK=>?_
 |some p=>
  obtain⟨x,t⟩:=p;simp only[jt]at h;simp only[abo,fN];refine ah.ob Tryz.func114 Tryz.ntmps114 rfl ?_;repeat' first|(refine ab (hK _ ?_);clear hK K)|((first|refine ae ?_|refine ku [2] (by simp) rfl rfl h ?_);simp)|(refine T.ret (aB.a8 (Or.inr rfl) ?_)<;>simp[ay,Tryz.results114]<;>omega)|refine T.r0 fun K hK=>?_
theorem Gg (ctx:List dt) (e:al) (hl:ctx.length<=1073741800) (Df:∀b∈ctx,fE b.ty<=1099511627776) (hn:e9 e<=1073741824):ah aaT 63 [kN ctx,cL e] [] (.a8 (fN (bV ctx e))) [] []:=by
 have h1:=vk ctx (by omega) Df;have h2:=lj e (by omega);cases hc:rl ctx with
 |false=>
  rw[show bV ctx e=none by simp[bV,hc]];rw[hc]at h1;refine ah.ob Tryz.func63 Tryz.ntmps63 rfl ?_;repeat' first|(refine ab (hK _ ?_);clear hK K)|((first|refine ae ?_|refine aa rfl (h1) ?_);simp;(try(refine gen2 ?_ ?_<;>intro hq<;>try simp at hq)))|(refine T.ret (aB.a8 (Or.inr rfl) ?_)<;>simp[ay,Tryz.results63]<;>omega)|refine T.r0 fun K hK=>?_|refine T.ct rfl ?_|refine T.seq ?_
 |true=>
  rw[hc]at h1;cases hv:aS e with
  |false=>
   rw[show bV ctx e=none by simp[bV,hv]];rw[hv]at h2;refine ah.ob Tryz.func63 Tryz.ntmps63 rfl ?_;repeat' first|(refine ab (hK _ ?_);clear hK K)|((first|refine ae ?_|refine aa rfl (h1) ?_|refine aa rfl (h2) ?_);simp;(try(refine gen2 ?_ ?_<;>intro hq<;>try simp at hq)))|(refine T.ret (aB.a8 (Or.inr rfl) ?_)<;>simp[ay,Tryz.results63]<;>omega)|refine T.r0 fun K hK=>?_|refine T.ct rfl ?_|refine T.seq ?_
  |true=>
   rw[hv]at h2;have eT:iD ctx:=fun b hb=>by
    simp only[rl,abj,List.all_eq_true]at hc;exact(hc.1 b hb).2
   have jK:bg 14 12 e=true:=by simp only[aS,abj]at hv;exact hv.1
   have h3:=CB ctx e 12 jK (by omega) eT hn;rw[show bV ctx e=bO ctx e by simp[bV,hc,hv]];cases hr:bO ctx e with
   |none=>
    rw[hr]at h3;simp only[fN]at h3⊢;refine ah.ob Tryz.func63 Tryz.ntmps63 rfl ?_;repeat' first|(refine ab (hK _ ?_);clear hK K)|((first|refine ae ?_|refine aa rfl (h1) ?_|refine aa rfl (h2) ?_|refine aa rfl (h3) ?_);simp;(try(refine gen2 ?_ ?_<;>intro hq<;>try simp at hq)))|(refine T.ret (aB.a8 (Or.inr rfl) ?_)<;>simp[ay,Tryz.results63]<;>omega)|refine T.r0 fun K hK=>?_|refine T.ct rfl ?_|refine T.cf rfl ?_|refine T.seq ?_|refine T.skip ?_
   |some t=>
    rw[hr]at h3;have h4:=eD t (by have:=dp (cN e 12 14 ctx t jK eT hr);omega);simp only[fN]at h3⊢;refine ah.ob Tryz.func63 Tryz.ntmps63 rfl ?_;repeat' first|(refine ab (hK _ ?_);clear hK K)|((first|refine ae ?_|refine aa rfl (h1) ?_|refine aa rfl (h2) ?_|refine aa rfl (h3) ?_|refine aa rfl (h4) ?_);simp;(try(refine gen2 ?_ ?_<;>intro hq<;>try simp at hq)))|(refine T.ret (aB.a8 (Or.inr rfl) ?_)<;>simp[ay,Tryz.results63]<;>omega)|refine T.r0 fun K hK=>?_|refine T.cf rfl ?_|refine T.seq ?_|refine T.skip ?_
theorem Gi (e:al) (hn:e9 e<=1073741824):ah aaT 23 [cL e] [] (.a8 (fN (bV [] e))) [] []:=by
 have h:=Gg [] e (by simp) (by simp) hn;cases hr:bV [] e with
 |none=>
  rw[hr]at h;refine ah.ob Tryz.func23 Tryz.ntmps23 rfl ?_;repeat' first|(refine ab (hK _ ?_);clear hK K)|((first|refine ae ?_|(refine aa ?_ (h) ?_;(focus(solve|simp))));simp)|(refine T.ret (aB.a8 (Or.inr rfl) ?_)<;>simp[ay,Tryz.results23]<;>omega)|refine T.r0 fun K hK=>?_
 |some t=>
  rw[hr]at h;refine ah.ob Tryz.func23 Tryz.ntmps23 rfl ?_;repeat' first|(refine ab (hK _ ?_);clear hK K)|((first|refine ae ?_|(refine aa ?_ (h) ?_;(focus(solve|simp))));simp)|(refine T.ret (aB.a8 (Or.inr rfl) ?_)<;>simp[ay,Tryz.results23]<;>omega)|refine T.r0 fun K hK=>?_
def OR (k:Int) (t:aG):Option (aG×aG):=if ak 4 t=true then ch k t else none
abbrev RP:Option (aG×aG)->List AV
 |some (a,b)=>[dF a,dF b,.b true]
 |none=>[dF aW,dF aW,.b false]
end Go.Proofs.YtloolmchekcmeaaGreat
namespace Go.Proofs.YtloolmchekcmeaaGreat
attribute [-simp] Go.Av.fb Go.Av.AV.eH Go.Av.CV.eH Go.Av.iX Go.Av.AV.dO Go.Av.CV.dO Go.Av.cj Go.Av.e0 Go.Av.fH Go.Av.fy Go.Av.cW Go.Av.cg
open Go Go.Av
attribute [local irreducible] T ah TX EX LX bB dn bW cx ie aG.kind aG.kids al.kind al.name al.num al.ty al.fr al.label al.kids
attribute [local simp] aL au
set_option maxHeartbeats 16000000
set_option maxRecDepth 8000
end Go.Proofs.YtloolmchekcmeaaGreat
namespace Go.Proofs.YtloolmchekcmeaaGreat
attribute [-simp] Go.Av.fb Go.Av.AV.eH Go.Av.CV.eH Go.Av.iX Go.Av.AV.dO Go.Av.CV.dO Go.Av.cj Go.Av.e0 Go.Av.fH Go.Av.fy Go.Av.cW Go.Av.cg
open Go Go.Av
attribute [local irreducible] T ah TX EX LX bB dn bW cx ie aG.kind aG.kids al.kind al.name al.num al.ty al.fr al.label al.kids
attribute [local simp] aL au
set_option maxHeartbeats 16000000
set_option maxRecDepth 8000
attribute [local simp] abr
theorem Iu (e:al) (hl:cl e.kind=e.kids.length):ah aaT 109 [cL e] [] (cL (aK e)) [] []:=by
 have hb:=cX 1;by_cases dG:e.kind=13
 ·have h1:e.kids.length=1:=by rw[dG]at hl;simp[cl]at hl;omega
  match hk:e.kids,h1 with
  |[x],_=>
   rw[show aK e=x by simp[aK,dG,hk]];refine ah.ob Tryz.func109 Tryz.ntmps109 rfl ?_;repeat' first|(refine ab (hK _ ?_);clear hK K)|(refine ae ?_;simp[dG,hk];(try(refine gen2 ?_ ?_<;>intro hq<;>try simp[dG,hk]at hq)))|(refine T.ret (aB.val (Or.inr rfl) ?_)<;>simp[ay,Tryz.results109,au]<;>omega)|refine T.r0 fun K hK=>?_|refine T.ct rfl ?_|refine T.seq ?_|refine T.block ?_|refine T.skip ?_
 by_cases gF:e.kind=14
 ·have h1:e.kids.length=1:=by rw[gF]at hl;simp[cl]at hl;omega
  match hk:e.kids,h1 with
  |[x],_=>
   rw[show aK e=x by simp[aK,gF,hk]];refine ah.ob Tryz.func109 Tryz.ntmps109 rfl ?_;repeat' first|(refine ab (hK _ ?_);clear hK K)|(refine ae ?_;simp[gF,hk];(try(refine gen2 ?_ ?_<;>intro hq<;>try simp[gF,hk]at hq)))|(refine T.ret (aB.val (Or.inr rfl) ?_)<;>simp[ay,Tryz.results109,au]<;>omega)|refine T.r0 fun K hK=>?_|refine T.r1 fun K hK=>?_|refine T.ct rfl ?_|refine T.cf rfl ?_|refine T.seq ?_|refine T.block ?_
 by_cases h5:e.kind=5
 ·rw[show aK e=.mk 5 e.name e.num kM e.fr e.label e.kids by simp[aK,h5]];refine ah.ob Tryz.func109 Tryz.ntmps109 rfl ?_;repeat' first|(refine ab (hK _ ?_);clear hK K)|((first|refine ae ?_|refine aa rfl (hb) ?_);simp[h5];(try(refine gen2 ?_ ?_<;>intro hq<;>try simp[h5]at hq)))|(refine T.ret (aB.val (Or.inr rfl) ?_)<;>simp[ay,Tryz.results109,h5]<;>omega)|refine T.r0 fun K hK=>?_|refine T.r1 fun K hK=>?_|refine T.ct rfl ?_|refine T.cf rfl ?_|refine T.seq ?_|refine T.block ?_
 ·rw[show aK e=e by simp[aK,dG,gF,h5]];refine ah.ob Tryz.func109 Tryz.ntmps109 rfl ?_;repeat' first|(refine ab (hK _ ?_);clear hK K)|(refine ae ?_;simp[dG,gF,h5];(try(refine gen2 ?_ ?_<;>intro hq<;>try simp[dG,gF,h5]at hq)))|(refine T.ret (aB.val (Or.inr rfl) ?_)<;>simp[ay,Tryz.results109]<;>omega)|refine T.r0 fun K hK=>?_|refine T.r1 fun K hK=>?_|refine T.cf rfl ?_|refine T.seq ?_|refine T.block ?_|refine T.skip ?_
def Mj (e:al):Prop:=∃nt d,bg nt d e=true
theorem E5 (e:al) (hq:Mj e) (hn:e9 e<=1099511627776):ah aaT 58 [cL e] [] (cL (mapM aK e)) [] []:=by
 have h:=Gc 109 aK Mj (fun e h u hu=>by obtain⟨nt,d,h⟩:=h;obtain⟨d',rfl,_,_,_,hk⟩:=fV h;exact⟨nt,d',hk u hu⟩)
  (fun e h=>by obtain⟨nt,d,h⟩:=h;obtain⟨d',rfl,_,hl,_,_⟩:=fV h;rw[sH];exact Iu _ (by simpa using hl)) e hq hn
 generalize mapM aK e=R at h;refine ah.ob Tryz.func58 Tryz.ntmps58 rfl ?_;repeat' first|(refine ab (hK _ ?_);clear hK K)|((first|refine ae ?_|refine aa rfl (h) ?_);simp;(try(refine gen2 ?_ ?_<;>intro hq<;>(try simp at hq)<;>try(have:True:=hq;clear this hq))))|(refine T.ret (aB.val (Or.inr rfl) ?_)<;>simp[ay,Tryz.results58]<;>omega)|refine T.r0 fun K hK=>?_
def P4 (e:al):Option (al×aG):=if aS e=true then(gB [] e 0).1 else none
end Go.Proofs.YtloolmchekcmeaaGreat
namespace Go.Proofs.YtloolmchekcmeaaGreat
attribute [-simp] Go.Av.cj Go.Av.e0 Go.Av.fH Go.Av.fy Go.Av.cW Go.Av.cg
open Go Go.Av
attribute [local irreducible] T ah TX EX LX bB dn bW cx ie aG.kind aG.kids al.kind al.name al.num al.ty al.fr al.label al.kids
attribute [local simp] aL au
set_option maxHeartbeats 16000000
set_option maxRecDepth 8000
theorem CC (e:al) (h5:e.kind=5) (ts:List aG) (hn:e9 e<=1099511627776) (hl:(ts++[e.ty]).length+(az e.kids).length<=1099511627776)
  (ih:∀u∈e.kids,∀(ts:List aG),ts.length+(aF u).length<=1099511627776->e7 aaT 129 [.c (.own 0 ts.length),cL u] [] [{sz:=2,eA:=25,rows:=ts.map cx,wr:=true}] (.c (.own 0 (ts++aF u).length)) [] [{sz:=2,eA:=25,rows:=(ts++aF u).map cx,wr:=true}]):
  e7 aaT 129 [.c (.own 0 ts.length),cL e] [] [{sz:=2,eA:=25,rows:=ts.map cx,wr:=true}] (.c (.own 0 (ts++([e.ty]++az e.kids)).length)) [] [{sz:=2,eA:=25,rows:=(ts++([e.ty]++az e.kids)).map cx,wr:=true}]:=by
 obtain⟨jE,oY,xf,qP⟩:=cE hn;have h1:=bX e.ty jE;obtain⟨ts1,pR⟩:∃ts1,ts++[e.ty]=ts1:=⟨_,rfl⟩;rw[<-aa2,pR];rw[pR]at hl;have OS:ts.length<=1099511627776:=by rw[<-pR,aaW]at hl;omega
 refine e7.cA Tryz.func129 (by kernel_rfl) rfl (by kernel_rfl) (by simp[Tryz.ntmps129]) (by simp) ?_;rw[Tryz.ntmps129];repeat' first|(refine ab (hK _ ?_);clear hK K)|((first|refine ae ?_|refine aa rfl (h1) ?_);simp[h5];(try(refine gen2 ?_ ?_<;>intro hq<;>try simp[h5]at hq)))|(refine⟨by omega,by omega,?_⟩)|refine T.r0 fun K hK=>?_|refine T.r1 fun K hK=>?_|refine T.ct rfl ?_|refine T.seq ?_|refine T.block ?_
 refine T.dU (α:=Nat×List (List CV)) [3,4] (fun x=>[(0,.c (.own 0 (ts1++az (e.kids.take x.1)).length)),(5,.i x.1)]) (fun x=>[]) (fun x=>x.2) (fun x _=>[{sz:=2,eA:=25,rows:=(ts1++az (e.kids.take x.1)).map cx,wr:=true}]) (fun x=>e.kids.length+1-x.1)
  (fun x=>x.1<=e.kids.length) (by simp;rfl) (fun x hx=>?_) (0,[]) (by simp) (by simp) (by simp[<-pR,az,aL]) (by simp[<-pR,az])
 obtain⟨p,G⟩:=x;dsimp only at hx⊢;simp only[iy,aaV,aaU];by_cases ax:p<e.kids.length
 ·obtain⟨u,ht⟩:=bR ax;have eQ:u∈e.kids:=aaZ ht;have bf:e.kids[p]=u:=by rw[aaX ax]at ht;exact Option.some.inj ht
  have gP:e.kids.drop p=u::e.kids.drop (p+1):=by rw[aaY ax,bf]
  have hle:=gn e.kids (p+1);rw[cq ht]at hle;have hu:=ih u eQ (ts1++az (e.kids.take p)) (by simp only[aaW]at*;omega);have mL:ts1++az (e.kids.take (p+1))=ts1++az (e.kids.take p)++aF u:=by rw[cq ht,aa2]
  rw[<-mL]at hu;obtain⟨Z',K7⟩:∃Z',ts1++az (e.kids.take (p+1))=Z':=⟨_,rfl⟩;rw[K7]at hu;clear mL;generalize (ts1++az (e.kids.take p))=Z at*;repeat' first|(refine ab (hK _ ?_);clear hK K)|(refine ae ?_;simp[ax,bf];(try simp(disch:=omega)only[wrap64]);(try(refine gen2 ?_ ?_<;>intro hq<;>try simp[ax,bf]at hq)))|(refine kC 0 hu rfl rfl rfl rfl ?_;simp[back])|(refine⟨(p+1,_),by dsimp only;omega,by dsimp only;omega,rfl,?_,?_⟩<;>simp(disch:=omega) [wrap64,<-K7])|refine T.r0 fun K hK=>?_|refine T.r1 fun K hK=>?_|refine T.ct rfl ?_|refine T.seq ?_|refine T.block ?_|refine T.skip ?_
 ·have ff:p=e.kids.length:=by omega
  subst ff;rw[aa3];repeat' first|(refine ab (hK _ ?_);clear hK K)|(refine ae ?_;simp[ax];(try(refine gen2 ?_ ?_<;>intro hq<;>try simp[ax]at hq)))|refine T.r0 fun K hK=>?_|refine T.cf rfl ?_|refine T.seq ?_|refine T.exit ?_
  all_goals(refine T.ret (qM.one (Or.inr rfl) ?_ ?_)<;>simp[ay,Tryz.results129])
theorem D7 (e:al) (h5:¬e.kind=5) (dG:e.kind=13) (ts:List aG) (hn:e9 e<=1099511627776) (hl:(ts++[e.ty]).length+(az e.kids).length<=1099511627776)
  (ih:∀u∈e.kids,∀(ts:List aG),ts.length+(aF u).length<=1099511627776->e7 aaT 129 [.c (.own 0 ts.length),cL u] [] [{sz:=2,eA:=25,rows:=ts.map cx,wr:=true}] (.c (.own 0 (ts++aF u).length)) [] [{sz:=2,eA:=25,rows:=(ts++aF u).map cx,wr:=true}]):
  e7 aaT 129 [.c (.own 0 ts.length),cL e] [] [{sz:=2,eA:=25,rows:=ts.map cx,wr:=true}] (.c (.own 0 (ts++([e.ty]++az e.kids)).length)) [] [{sz:=2,eA:=25,rows:=(ts++([e.ty]++az e.kids)).map cx,wr:=true}]:=by
 obtain⟨jE,oY,xf,qP⟩:=cE hn;have h1:=bX e.ty jE;obtain⟨ts1,pR⟩:∃ts1,ts++[e.ty]=ts1:=⟨_,rfl⟩;rw[<-aa2,pR];rw[pR]at hl;have OS:ts.length<=1099511627776:=by rw[<-pR,aaW]at hl;omega
 refine e7.cA Tryz.func129 (by kernel_rfl) rfl (by kernel_rfl) (by simp[Tryz.ntmps129]) (by simp) ?_;rw[Tryz.ntmps129];repeat' first|(refine ab (hK _ ?_);clear hK K)|((first|refine ae ?_|refine aa rfl (h1) ?_);simp[h5,dG];(try(refine gen2 ?_ ?_<;>intro hq<;>try simp[h5,dG]at hq)))|(refine⟨by omega,by omega,?_⟩)|refine T.r0 fun K hK=>?_|refine T.r1 fun K hK=>?_|refine T.ct rfl ?_|refine T.seq ?_|refine T.block ?_
 refine T.dU (α:=Nat×List (List CV)) [3,4] (fun x=>[(0,.c (.own 0 (ts1++az (e.kids.take x.1)).length)),(5,.i x.1)]) (fun x=>[]) (fun x=>x.2) (fun x _=>[{sz:=2,eA:=25,rows:=(ts1++az (e.kids.take x.1)).map cx,wr:=true}]) (fun x=>e.kids.length+1-x.1)
  (fun x=>x.1<=e.kids.length) (by simp;rfl) (fun x hx=>?_) (0,[]) (by simp) (by simp) (by simp[<-pR,az,aL]) (by simp[<-pR,az])
 obtain⟨p,G⟩:=x;dsimp only at hx⊢;simp only[iy,aaV,aaU];by_cases ax:p<e.kids.length
 ·obtain⟨u,ht⟩:=bR ax;have eQ:u∈e.kids:=aaZ ht;have bf:e.kids[p]=u:=by rw[aaX ax]at ht;exact Option.some.inj ht
  have gP:e.kids.drop p=u::e.kids.drop (p+1):=by rw[aaY ax,bf]
  have hle:=gn e.kids (p+1);rw[cq ht]at hle;have hu:=ih u eQ (ts1++az (e.kids.take p)) (by simp only[aaW]at*;omega);have mL:ts1++az (e.kids.take (p+1))=ts1++az (e.kids.take p)++aF u:=by rw[cq ht,aa2]
  rw[<-mL]at hu;obtain⟨Z',K7⟩:∃Z',ts1++az (e.kids.take (p+1))=Z':=⟨_,rfl⟩;rw[K7]at hu;clear mL;generalize (ts1++az (e.kids.take p))=Z at*;repeat' first|(refine ab (hK _ ?_);clear hK K)|(refine ae ?_;simp[ax,bf];(try simp(disch:=omega)only[wrap64]);(try(refine gen2 ?_ ?_<;>intro hq<;>try simp[ax,bf]at hq)))|(refine kC 0 hu rfl rfl rfl rfl ?_;simp[back])|(refine⟨(p+1,_),by dsimp only;omega,by dsimp only;omega,rfl,?_,?_⟩<;>simp(disch:=omega) [wrap64,<-K7])|refine T.r0 fun K hK=>?_|refine T.r1 fun K hK=>?_|refine T.ct rfl ?_|refine T.seq ?_|refine T.block ?_|refine T.skip ?_
 ·have ff:p=e.kids.length:=by omega
  subst ff;rw[aa3];repeat' first|(refine ab (hK _ ?_);clear hK K)|(refine ae ?_;simp[ax];(try(refine gen2 ?_ ?_<;>intro hq<;>try simp[ax]at hq)))|refine T.r0 fun K hK=>?_|refine T.cf rfl ?_|refine T.seq ?_|refine T.exit ?_
  all_goals(refine T.ret (qM.one (Or.inr rfl) ?_ ?_)<;>simp[ay,Tryz.results129])
theorem CD (e:al) (h5:¬e.kind=5) (dG:¬e.kind=13) (ts:List aG) (hn:e9 e<=1099511627776) (hl:(ts++[]).length+(az e.kids).length<=1099511627776)
  (ih:∀u∈e.kids,∀(ts:List aG),ts.length+(aF u).length<=1099511627776->e7 aaT 129 [.c (.own 0 ts.length),cL u] [] [{sz:=2,eA:=25,rows:=ts.map cx,wr:=true}] (.c (.own 0 (ts++aF u).length)) [] [{sz:=2,eA:=25,rows:=(ts++aF u).map cx,wr:=true}]):
  e7 aaT 129 [.c (.own 0 ts.length),cL e] [] [{sz:=2,eA:=25,rows:=ts.map cx,wr:=true}] (.c (.own 0 (ts++([]++az e.kids)).length)) [] [{sz:=2,eA:=25,rows:=(ts++([]++az e.kids)).map cx,wr:=true}]:=by
 obtain⟨jE,oY,xf,qP⟩:=cE hn;have h1:=bX e.ty jE;obtain⟨ts1,pR⟩:∃ts1,ts++[]=ts1:=⟨_,rfl⟩;rw[<-aa2,pR];rw[pR]at hl;have OS:ts.length<=1099511627776:=by rw[<-pR,aaW]at hl;omega
 refine e7.cA Tryz.func129 (by kernel_rfl) rfl (by kernel_rfl) (by simp[Tryz.ntmps129]) (by simp) ?_;rw[Tryz.ntmps129];repeat' first|(refine ab (hK _ ?_);clear hK K)|(refine ae ?_;simp[h5,dG];(try(refine gen2 ?_ ?_<;>intro hq<;>try simp[h5,dG]at hq)))|refine T.r0 fun K hK=>?_|refine T.cf rfl ?_|refine T.seq ?_|refine T.block ?_|refine T.skip ?_
 refine T.dU (α:=Nat×List (List CV)) [3,4] (fun x=>[(0,.c (.own 0 (ts1++az (e.kids.take x.1)).length)),(5,.i x.1)]) (fun x=>[]) (fun x=>x.2) (fun x _=>[{sz:=2,eA:=25,rows:=(ts1++az (e.kids.take x.1)).map cx,wr:=true}]) (fun x=>e.kids.length+1-x.1)
  (fun x=>x.1<=e.kids.length) (by simp;rfl) (fun x hx=>?_) (0,[]) (by simp) (by simp) (by simp[<-pR,az,aL]) (by simp[<-pR,az])
 obtain⟨p,G⟩:=x;dsimp only at hx⊢;simp only[iy,aaV,aaU];by_cases ax:p<e.kids.length
 ·obtain⟨u,ht⟩:=bR ax;have eQ:u∈e.kids:=aaZ ht;have bf:e.kids[p]=u:=by rw[aaX ax]at ht;exact Option.some.inj ht
  have gP:e.kids.drop p=u::e.kids.drop (p+1):=by rw[aaY ax,bf]
  have hle:=gn e.kids (p+1);rw[cq ht]at hle;have hu:=ih u eQ (ts1++az (e.kids.take p)) (by simp only[aaW]at*;omega);have mL:ts1++az (e.kids.take (p+1))=ts1++az (e.kids.take p)++aF u:=by rw[cq ht,aa2]
  rw[<-mL]at hu;obtain⟨Z',K7⟩:∃Z',ts1++az (e.kids.take (p+1))=Z':=⟨_,rfl⟩;rw[K7]at hu;clear mL;generalize (ts1++az (e.kids.take p))=Z at*;repeat' first|(refine ab (hK _ ?_);clear hK K)|(refine ae ?_;simp[ax,bf];(try simp(disch:=omega)only[wrap64]);(try(refine gen2 ?_ ?_<;>intro hq<;>try simp[ax,bf]at hq)))|(refine kC 0 hu rfl rfl rfl rfl ?_;simp[back])|(refine⟨(p+1,_),by dsimp only;omega,by dsimp only;omega,rfl,?_,?_⟩<;>simp(disch:=omega) [wrap64,<-K7])|refine T.r0 fun K hK=>?_|refine T.r1 fun K hK=>?_|refine T.ct rfl ?_|refine T.seq ?_|refine T.block ?_|refine T.skip ?_
 ·have ff:p=e.kids.length:=by omega
  subst ff;rw[aa3];repeat' first|(refine ab (hK _ ?_);clear hK K)|(refine ae ?_;simp[ax];(try(refine gen2 ?_ ?_<;>intro hq<;>try simp[ax]at hq)))|refine T.r0 fun K hK=>?_|refine T.cf rfl ?_|refine T.seq ?_|refine T.exit ?_
  all_goals(refine T.ret (qM.one (Or.inr rfl) ?_ ?_)<;>simp[ay,Tryz.results129])
theorem D8:∀(e:al),e9 e<=1099511627776->∀(ts:List aG),ts.length+(aF e).length<=1099511627776->
  e7 aaT 129 [.c (.own 0 ts.length),cL e] [] [{sz:=2,eA:=25,rows:=ts.map cx,wr:=true}] (.c (.own 0 (ts++aF e).length)) [] [{sz:=2,eA:=25,rows:=(ts++aF e).map cx,wr:=true}]:=by
 intro e;induction e using al.ind with
 |h e ih=>
  intro hn ts hl;obtain⟨_,_,_,qP⟩:=cE hn;have ih':=fun u hu=>ih u hu (qP u hu)
  rw[iP]at hl⊢;by_cases h5:e.kind=5
  ·rw[if_pos (by simp[br,h5])]at hl⊢;exact CC e h5 ts hn (by simp only[aaW]at*;omega) ih'
  ·by_cases dG:e.kind=13
   ·rw[if_pos (by simp[br,dG])]at hl⊢;exact D7 e h5 dG ts hn (by simp only[aaW]at*;omega) ih'
   ·rw[if_neg (by simp[br,h5,dG])]at hl⊢;exact CD e h5 dG ts hn (by simp only[aaW]at*;omega) ih'
def lL (e:al):List aG:=if aS e=true then aF e else []
theorem xE (e:al) (hn:e9 e<=1073741824):ah aaT 88 [cL e] [] (.c (.own 0 (lL e).length)) [] [{sz:=2,eA:=25,rows:=(lL e).map cx,wr:=true}]:=by
 have h1:=iF e (by omega);have h2:=D8 e (by omega) [] (by have:=(od e).2;simp;omega);simp only[aaU]at h2;simp only[lL];cases hv:aS e with
 |false=>
  rw[hv]at h1;simp only[abi,if_false];refine ah.ob Tryz.func88 Tryz.ntmps88 rfl ?_;repeat' first|(refine ab (hK _ ?_);clear hK K)|((first|refine ae ?_|refine aa rfl (h1) ?_);simp;(try(refine gen2 ?_ ?_<;>intro hq<;>try simp at hq)))|refine T.rs (id:=2) (fun i=>i==0) fun K hK=>?_|refine T.rs (id:=0) (fun _=>false) fun K hK=>?_|refine T.rs (id:=1) (fun _=>false) fun K hK=>?_|refine T.ct rfl ?_|refine T.seq ?_
  refine T.ret (aB.Dz 0 (Or.inr rfl) (ys:=[_]) ?_ rfl ?_)<;>simp[ay,Tryz.results88]
 |true=>
  rw[hv]at h1;simp only[if_true];generalize aF e=ts at*;refine ah.ob Tryz.func88 Tryz.ntmps88 rfl ?_;repeat' first|(refine ab (hK _ ?_);clear hK K)|((first|refine ae ?_|refine aa rfl (h1) ?_);simp;(try(refine gen2 ?_ ?_<;>intro hq<;>try simp at hq)))|(refine kC 0 h2 rfl rfl rfl rfl ?_;simp[back])|refine T.rs (id:=3) (fun i=>i==0) fun K hK=>?_|refine T.rs (id:=0) (fun _=>false) fun K hK=>?_|refine T.rs (id:=1) (fun _=>false) fun K hK=>?_|refine T.cf rfl ?_|refine T.seq ?_|refine T.skip ?_
  refine T.ret (aB.Dz 0 (Or.inr rfl) (ys:=[_]) ?_ rfl ?_)<;>simp[ay,Tryz.results88]
theorem D9 (e:al) (h5:e.kind=5) (ts:List aG) (a:Nat) (hn:e9 e<=1099511627776) (bM:∀t∈ts,fE t<=1099511627776) (hl:a+1+(az e.kids).length<=ts.length) (tg:ts.length<=1099511627776) (tx:aG) (hx:tx=ts[a]?.getD tx)
  (ih:∀u∈e.kids,∀(a:Nat) (i:Int),i=a->a+(aF u).length<=ts.length->ah aaT 117 [cL u,.l (ts.map cx),.i i] [] (.a8 [cL (bx u (ts.drop a)),.i (i+(aF u).length)]) [] []):
  ah aaT 117 [cL e,.l (ts.map cx),.i a] [] (.a8 [cL (.mk e.kind e.name e.num tx e.fr e.label (dc e.kids (ts.drop (a+1)))),.i ((a:Int)+1+(az e.kids).length)]) [] []:=by
 obtain⟨jE,oY,xf,qP⟩:=cE hn;have h1:=bX e.ty jE;have h2:=bX e.fr oY;refine ah.ob Tryz.func117 Tryz.ntmps117 rfl ?_;have AB:a<ts.length:=by omega
 have vI:ts[a]=tx:=by rw[aaX AB]at hx;exact hx.symm
 have h3:=bX tx (bM tx (by rw[<-vI];exact aa7 AB));repeat' first|(refine ab (hK _ ?_);clear hK K)|((first|refine ae ?_|refine aa rfl (h1) ?_|refine aa rfl (h2) ?_|refine aa rfl (h3) ?_);simp[h5,AB,vI];(try simp(disch:=omega)only[wrap64]);(try(refine gen2 ?_ ?_<;>intro hq<;>try simp[h5,AB,vI]at hq)))|refine T.r0 fun K hK=>?_|refine T.r1 fun K hK=>?_|refine T.ct rfl ?_|refine T.seq ?_|refine T.block ?_
 refine T.dq 2 8 9 28 rfl rfl ?_
 refine T.dU (α:=Nat×List (List CV)) [1,3,6,7,8] (fun x=>[(2,.i ((a:Int)+1+(az (e.kids.take x.1)).length)),(9,.i x.1)]) (fun x=>[(2,[.d (.i e.kind),.d (.str e.name),.d (.i e.num),.d (.i (tx).kind),.d (.sl ((tx).kids.map cx)),.d (.i e.fr.kind),.d (.sl (e.fr.kids.map cx)),.d (.i e.label),.own 0 x.1])]) (fun x=>x.2)
  (fun x _=>[{sz:=9,eA:=28,rows:=((dc e.kids (ts.drop (a+1))).take x.1).map ie,wr:=true}]) (fun x=>e.kids.length+1-x.1) (fun x=>x.1<=e.kids.length) (by simp;rfl) (fun x hx=>?_) (0,[]) (by simp) (by simp[h5]) (by simp) (by simp[az])
 obtain⟨p,G⟩:=x;dsimp only at hx⊢;simp only[iy,aa0,aa1,aaV,aaU];have wb:(dc e.kids (ts.drop (a+1))).length=e.kids.length:=lu _ _;by_cases ax:p<e.kids.length
 ·obtain⟨u,ht⟩:=bR ax;have eQ:u∈e.kids:=aaZ ht;have bf:e.kids[p]=u:=by rw[aaX ax]at ht;exact Option.some.inj ht
  have gP:e.kids.drop p=u::e.kids.drop (p+1):=by rw[aaY ax,bf]
  have hle:=gn e.kids (p+1);rw[cq ht,aaW]at hle;have hu:=ih u eQ (a+1+(az (e.kids.take p)).length) ((a:Int)+1+(az (e.kids.take p)).length) (by push_cast;omega) (by omega);have GU:=lI (ts.drop (a+1)) ht;rw[aa5]at GU;have mL:(a:Int)+1+((az (e.kids.take (p+1))).length:Int)=(a:Int)+1+(az (e.kids.take p)).length+(aF u).length:=by rw[cq ht];push_cast [aaW];omega
  generalize (az (e.kids.take p)).length=n1 at*;generalize (bx u (ts.drop (a+1+n1)))=wu at*;generalize (dc e.kids (ts.drop (a+1)))=Z at*;have eX:min p e.kids.length=p:=by omega
  repeat' first|(refine ab (hK _ ?_);clear hK K)|((first|refine ae ?_|(refine aa ?_ (hu) ?_;(focus(solve|simp[ax,bf,eX,wb]))));simp[ax,bf,eX,wb];(try simp(disch:=omega)only[wrap64]);(try(refine gen2 ?_ ?_<;>intro hq<;>try simp[ax,bf,eX,wb]at hq)))|(refine⟨(p+1,_),by dsimp only;omega,by dsimp only;omega,rfl,?_,?_⟩<;>simp(disch:=omega) [wrap64,GU,mL,au])|refine T.r0 fun K hK=>?_|refine T.r1 fun K hK=>?_|(refine⟨by omega,?_⟩)|refine T.ct rfl ?_|refine T.seq ?_|refine T.block ?_|refine T.skip ?_
 ·have ff:p=e.kids.length:=by omega
  subst ff;rw[aa3,aa6 (by omega)];repeat' first|(refine ab (hK _ ?_);clear hK K)|(refine ae ?_;simp[ax];(try(refine gen2 ?_ ?_<;>intro hq<;>try simp[ax]at hq)))|(refine T.ret (aB.a8 (Or.inr rfl) ?_)<;>simp[ay,Tryz.results117,au,wb]<;>omega)|refine T.r0 fun K hK=>?_|refine T.cf rfl ?_|refine T.seq ?_|refine T.exit ?_
theorem Gj (e:al) (h5:¬e.kind=5) (dG:e.kind=13) (ts:List aG) (a:Nat) (hn:e9 e<=1099511627776) (bM:∀t∈ts,fE t<=1099511627776) (hl:a+1+(az e.kids).length<=ts.length) (tg:ts.length<=1099511627776) (tx:aG) (hx:tx=ts[a]?.getD tx)
  (ih:∀u∈e.kids,∀(a:Nat) (i:Int),i=a->a+(aF u).length<=ts.length->ah aaT 117 [cL u,.l (ts.map cx),.i i] [] (.a8 [cL (bx u (ts.drop a)),.i (i+(aF u).length)]) [] []):
  ah aaT 117 [cL e,.l (ts.map cx),.i a] [] (.a8 [cL (.mk e.kind e.name e.num tx e.fr e.label (dc e.kids (ts.drop (a+1)))),.i ((a:Int)+1+(az e.kids).length)]) [] []:=by
 obtain⟨jE,oY,xf,qP⟩:=cE hn;have h1:=bX e.ty jE;have h2:=bX e.fr oY;refine ah.ob Tryz.func117 Tryz.ntmps117 rfl ?_;have AB:a<ts.length:=by omega
 have vI:ts[a]=tx:=by rw[aaX AB]at hx;exact hx.symm
 have h3:=bX tx (bM tx (by rw[<-vI];exact aa7 AB));repeat' first|(refine ab (hK _ ?_);clear hK K)|((first|refine ae ?_|refine aa rfl (h1) ?_|refine aa rfl (h2) ?_|refine aa rfl (h3) ?_);simp[h5,dG,AB,vI];(try simp(disch:=omega)only[wrap64]);(try(refine gen2 ?_ ?_<;>intro hq<;>try simp[h5,dG,AB,vI]at hq)))|refine T.r0 fun K hK=>?_|refine T.r1 fun K hK=>?_|refine T.ct rfl ?_|refine T.seq ?_|refine T.block ?_
 refine T.dq 2 8 9 28 rfl rfl ?_
 refine T.dU (α:=Nat×List (List CV)) [1,3,6,7,8] (fun x=>[(2,.i ((a:Int)+1+(az (e.kids.take x.1)).length)),(9,.i x.1)]) (fun x=>[(2,[.d (.i e.kind),.d (.str e.name),.d (.i e.num),.d (.i (tx).kind),.d (.sl ((tx).kids.map cx)),.d (.i e.fr.kind),.d (.sl (e.fr.kids.map cx)),.d (.i e.label),.own 0 x.1])]) (fun x=>x.2)
  (fun x _=>[{sz:=9,eA:=28,rows:=((dc e.kids (ts.drop (a+1))).take x.1).map ie,wr:=true}]) (fun x=>e.kids.length+1-x.1) (fun x=>x.1<=e.kids.length) (by simp;rfl) (fun x hx=>?_) (0,[]) (by simp) (by simp[h5,dG]) (by simp) (by simp[az])
 obtain⟨p,G⟩:=x;dsimp only at hx⊢;simp only[iy,aa0,aa1,aaV,aaU];have wb:(dc e.kids (ts.drop (a+1))).length=e.kids.length:=lu _ _;by_cases ax:p<e.kids.length
 ·obtain⟨u,ht⟩:=bR ax;have eQ:u∈e.kids:=aaZ ht;have bf:e.kids[p]=u:=by rw[aaX ax]at ht;exact Option.some.inj ht
  have gP:e.kids.drop p=u::e.kids.drop (p+1):=by rw[aaY ax,bf]
  have hle:=gn e.kids (p+1);rw[cq ht,aaW]at hle;have hu:=ih u eQ (a+1+(az (e.kids.take p)).length) ((a:Int)+1+(az (e.kids.take p)).length) (by push_cast;omega) (by omega);have GU:=lI (ts.drop (a+1)) ht;rw[aa5]at GU;have mL:(a:Int)+1+((az (e.kids.take (p+1))).length:Int)=(a:Int)+1+(az (e.kids.take p)).length+(aF u).length:=by rw[cq ht];push_cast [aaW];omega
  generalize (az (e.kids.take p)).length=n1 at*;generalize (bx u (ts.drop (a+1+n1)))=wu at*;generalize (dc e.kids (ts.drop (a+1)))=Z at*;have eX:min p e.kids.length=p:=by omega
  repeat' first|(refine ab (hK _ ?_);clear hK K)|((first|refine ae ?_|(refine aa ?_ (hu) ?_;(focus(solve|simp[ax,bf,eX,wb]))));simp[ax,bf,eX,wb];(try simp(disch:=omega)only[wrap64]);(try(refine gen2 ?_ ?_<;>intro hq<;>try simp[ax,bf,eX,wb]at hq)))|(refine⟨(p+1,_),by dsimp only;omega,by dsimp only;omega,rfl,?_,?_⟩<;>simp(disch:=omega) [wrap64,GU,mL,au])|refine T.r0 fun K hK=>?_|refine T.r1 fun K hK=>?_|(refine⟨by omega,?_⟩)|refine T.ct rfl ?_|refine T.seq ?_|refine T.block ?_|refine T.skip ?_
 ·have ff:p=e.kids.length:=by omega
  subst ff;rw[aa3,aa6 (by omega)];repeat' first|(refine ab (hK _ ?_);clear hK K)|(refine ae ?_;simp[ax];(try(refine gen2 ?_ ?_<;>intro hq<;>try simp[ax]at hq)))|(refine T.ret (aB.a8 (Or.inr rfl) ?_)<;>simp[ay,Tryz.results117,au,wb]<;>omega)|refine T.r0 fun K hK=>?_|refine T.cf rfl ?_|refine T.seq ?_|refine T.exit ?_
theorem Ea (e:al) (h5:¬e.kind=5) (dG:¬e.kind=13) (ts:List aG) (a:Nat) (hn:e9 e<=1099511627776) (bM:∀t∈ts,fE t<=1099511627776) (hl:a+(az e.kids).length<=ts.length) (tg:ts.length<=1099511627776) (tx:aG) (hx:tx=ts[a]?.getD tx)
  (ih:∀u∈e.kids,∀(a:Nat) (i:Int),i=a->a+(aF u).length<=ts.length->ah aaT 117 [cL u,.l (ts.map cx),.i i] [] (.a8 [cL (bx u (ts.drop a)),.i (i+(aF u).length)]) [] []):
  ah aaT 117 [cL e,.l (ts.map cx),.i a] [] (.a8 [cL (.mk e.kind e.name e.num e.ty e.fr e.label (dc e.kids (ts.drop (a)))),.i ((a:Int)+(az e.kids).length)]) [] []:=by
 obtain⟨jE,oY,xf,qP⟩:=cE hn;have h1:=bX e.ty jE;have h2:=bX e.fr oY;refine ah.ob Tryz.func117 Tryz.ntmps117 rfl ?_;repeat' first|(refine ab (hK _ ?_);clear hK K)|((first|refine ae ?_|refine aa rfl (h1) ?_|refine aa rfl (h2) ?_);simp[h5,dG];(try(refine gen2 ?_ ?_<;>intro hq<;>try simp[h5,dG]at hq)))|refine T.r0 fun K hK=>?_|refine T.cf rfl ?_|refine T.seq ?_|refine T.block ?_|refine T.skip ?_
 refine T.dq 2 8 9 28 rfl rfl ?_
 refine T.dU (α:=Nat×List (List CV)) [1,3,6,7,8] (fun x=>[(2,.i ((a:Int)+(az (e.kids.take x.1)).length)),(9,.i x.1)]) (fun x=>[(2,[.d (.i e.kind),.d (.str e.name),.d (.i e.num),.d (.i (e.ty).kind),.d (.sl ((e.ty).kids.map cx)),.d (.i e.fr.kind),.d (.sl (e.fr.kids.map cx)),.d (.i e.label),.own 0 x.1])]) (fun x=>x.2)
  (fun x _=>[{sz:=9,eA:=28,rows:=((dc e.kids (ts.drop (a))).take x.1).map ie,wr:=true}]) (fun x=>e.kids.length+1-x.1) (fun x=>x.1<=e.kids.length) (by simp;rfl) (fun x hx=>?_) (0,[]) (by simp) (by simp[h5,dG]) (by simp) (by simp[az])
 obtain⟨p,G⟩:=x;dsimp only at hx⊢;simp only[iy,aa0,aa1,aaV,aaU];have wb:(dc e.kids (ts.drop (a))).length=e.kids.length:=lu _ _;by_cases ax:p<e.kids.length
 ·obtain⟨u,ht⟩:=bR ax;have eQ:u∈e.kids:=aaZ ht;have bf:e.kids[p]=u:=by rw[aaX ax]at ht;exact Option.some.inj ht
  have gP:e.kids.drop p=u::e.kids.drop (p+1):=by rw[aaY ax,bf]
  have hle:=gn e.kids (p+1);rw[cq ht,aaW]at hle;have hu:=ih u eQ (a+(az (e.kids.take p)).length) ((a:Int)+(az (e.kids.take p)).length) (by push_cast;omega) (by omega);have GU:=lI (ts.drop (a)) ht;rw[aa5]at GU;have mL:(a:Int)+((az (e.kids.take (p+1))).length:Int)=(a:Int)+(az (e.kids.take p)).length+(aF u).length:=by rw[cq ht];push_cast [aaW];omega
  generalize (az (e.kids.take p)).length=n1 at*;generalize (bx u (ts.drop (a+n1)))=wu at*;generalize (dc e.kids (ts.drop (a)))=Z at*;have eX:min p e.kids.length=p:=by omega
  repeat' first|(refine ab (hK _ ?_);clear hK K)|((first|refine ae ?_|(refine aa ?_ (hu) ?_;(focus(solve|simp[ax,bf,eX,wb]))));simp[ax,bf,eX,wb];(try simp(disch:=omega)only[wrap64]);(try(refine gen2 ?_ ?_<;>intro hq<;>try simp[ax,bf,eX,wb]at hq)))|(refine⟨(p+1,_),by dsimp only;omega,by dsimp only;omega,rfl,?_,?_⟩<;>simp(disch:=omega) [wrap64,GU,mL,au])|refine T.r0 fun K hK=>?_|refine T.r1 fun K hK=>?_|(refine⟨by omega,?_⟩)|refine T.ct rfl ?_|refine T.seq ?_|refine T.block ?_|refine T.skip ?_
 ·have ff:p=e.kids.length:=by omega
  subst ff;rw[aa3,aa6 (by omega)];repeat' first|(refine ab (hK _ ?_);clear hK K)|(refine ae ?_;simp[ax];(try(refine gen2 ?_ ?_<;>intro hq<;>try simp[ax]at hq)))|(refine T.ret (aB.a8 (Or.inr rfl) ?_)<;>simp[ay,Tryz.results117,au,wb]<;>omega)|refine T.r0 fun K hK=>?_|refine T.cf rfl ?_|refine T.seq ?_|refine T.exit ?_
theorem Gk (ts:List aG) (bM:∀t∈ts,fE t<=1099511627776) (tg:ts.length<=1099511627776):∀(e:al),e9 e<=1099511627776->∀(a:Nat) (i:Int),i=a->a+(aF e).length<=ts.length->ah aaT 117 [cL e,.l (ts.map cx),.i i] [] (.a8 [cL (bx e (ts.drop a)),.i (i+(aF e).length)]) [] []:=by
 intro e;induction e using al.ind with
 |h e ih=>
  intro hn a i hi hl;obtain⟨_,_,_,qP⟩:=cE hn;subst hi;have ih':=fun u hu=>ih u hu (qP u hu)
  rw[iP]at hl⊢;rw[zl];by_cases h5:e.kind=5
  ·rw[if_pos (by simp[br,h5])]at hl⊢;rw[if_pos (by simp[br,h5]),if_pos (by simp[br,h5])];simp only[aaW,abb]at hl⊢;have ax:a<ts.length:=by omega
   have:=D9 e h5 ts a hn bM (by omega) tg (ts[a]) (by simp[ax]) ih';rw[aa5,aaY ax,abc]
   push_cast
   rw[<-abt];exact this
  ·by_cases dG:e.kind=13
   ·rw[if_pos (by simp[br,dG])]at hl⊢;rw[if_pos (by simp[br,dG]),if_pos (by simp[br,dG])];simp only[aaW,abb]at hl⊢;have ax:a<ts.length:=by omega
    have:=Gj e h5 dG ts a hn bM (by omega) tg (ts[a]) (by simp[ax]) ih';rw[aa5,aaY ax,abc]
    push_cast
    rw[<-abt];exact this
   ·have hq:¬br e.kind=true:=by simp[br,h5,dG]
    rw[if_neg hq]at hl⊢;rw[if_neg hq,if_neg hq];simp only[aaU]at hl⊢;have:=Ea e h5 dG ts a hn bM (by omega) tg (ts[a]?.getD e.ty) (by cases ts[a]? <;>rfl) ih';simpa using this
theorem yN (e:al) (ts:List aG) (hn:e9 e<=1073741824) (bM:∀t∈ts,fE t<=1099511627776) (tg:ts.length<=1099511627776):ah aaT 69 [cL e,.l (ts.map cx)] [] (.a8 (zo (oe e ts))) [] []:=by
 have h1:=xE e hn;have h2:=iF e (by omega);simp only[oe];cases hv:aS e with
 |false=>
  rw[hv]at h2;simp only[lL,hv,abi,if_false,abk,zo,List.length_nil]at h1⊢;refine ah.ob Tryz.func69 Tryz.ntmps69 rfl ?_;repeat' first|(refine ab (hK _ ?_);clear hK K)|((first|(first|refine ae ?_|refine aa rfl (h2) ?_)|refine fX rfl (h1) ?_);simp;(try(refine gen2 ?_ ?_<;>intro hq<;>(try simp at hq)<;>try(have:True:=hq;clear this hq))))|(refine T.ret (aB.a8 (Or.inr rfl) ?_)<;>simp[ay,Tryz.results69]<;>omega)|refine T.r0 fun K hK=>?_|refine T.ct rfl ?_|refine T.seq ?_
 |true=>
  rw[hv]at h2;simp only[lL,hv,if_true,abl]at h1⊢;by_cases hl:ts.length=(aF e).length
  rotate_left
  ·have dj:¬((aF e).length:Int)=ts.length:=by omega
   simp only[hl,decide_false,abk,abi,if_false,zo];refine ah.ob Tryz.func69 Tryz.ntmps69 rfl ?_;repeat' first|(refine ab (hK _ ?_);clear hK K)|((first|refine ae ?_|refine fX rfl (h1) ?_);simp[dj];(try(refine gen2 ?_ ?_<;>intro hq<;>(try simp[dj]at hq)<;>try(have:True:=hq;clear this hq))))|(refine T.ret (aB.a8 (Or.inr rfl) ?_)<;>simp[ay,Tryz.results69]<;>omega)|refine T.r0 fun K hK=>?_|refine T.ct rfl ?_|refine T.seq ?_
  have he:((aF e).length:Int)=ts.length:=by omega
  simp only[hl,decide_true,abl];obtain⟨R,hR⟩:∃R,ts.all (ak 4)=R:=⟨_,rfl⟩;rw[hR];have h3:=Gk ts bM tg e (by omega) 0 0 rfl (by omega);rw[List.drop_zero]at h3;generalize bx e ts=x at h3⊢;refine ah.ob Tryz.func69 Tryz.ntmps69 rfl ?_;repeat' first|(refine ab (hK _ ?_);clear hK K)|((first|(first|refine ae ?_|refine aa rfl (h2) ?_)|refine fX rfl (h1) ?_);simp[he];(try(refine gen2 ?_ ?_<;>intro hq<;>(try simp[he]at hq)<;>try(have:True:=hq;clear this hq))))|refine T.r0 fun K hK=>?_|refine T.cf rfl ?_|refine T.seq ?_|refine T.block ?_|refine T.skip ?_
  refine T.dU (α:=Nat×List (List CV)) [1,2,4] (fun x=>[(5,.b false),(6,.i x.1)]) (fun x=>[]) (fun x=>x.2) (fun x A=>A) (fun x=>ts.length+1-x.1) (fun x=>x.1<=ts.length/\(ts.drop x.1).all (ak 4)=R) (by simp;rfl) (fun x hx=>?_) (0,[]) (by simpa using hR) (by simp) (by simp) (by simp);obtain⟨p,G⟩:=x;obtain⟨hi,hq⟩:=hx;dsimp only at hi hq⊢;simp only[iy,aa0,aa1,aaV,aaU];by_cases ax:p<ts.length
  ·obtain⟨u,ht⟩:=bR ax;have eQ:u∈ts:=aaZ ht;have bf:ts[p]=u:=by rw[aaX ax]at ht;exact Option.some.inj ht
   have gP:ts.drop p=u::ts.drop (p+1):=by rw[aaY ax,bf]
   have hu:=gp u (bM u eQ);rw[gP,List.all_cons]at hq;cases hb:ak 4 u<;>rw[hb]at hu hq
   ·simp only[abk]at hq;subst hq;simp only[abi,if_false,zo];repeat' first|(refine ab (hK _ ?_);clear hK K)|((first|refine ae ?_|refine aa rfl (hu) ?_);simp[ax,bf];(try simp(disch:=omega)only[wrap64]);(try(refine gen2 ?_ ?_<;>intro hq<;>(try simp[ax,bf]at hq)<;>try(have:True:=hq;clear this hq))))|(refine T.ret (aB.a8 (Or.inr rfl) ?_)<;>simp[ay,Tryz.results69]<;>omega)|refine T.r0 fun K hK=>?_|refine T.ct rfl ?_|refine T.seq ?_|refine T.block ?_|refine T.skip ?_
   ·repeat' first|(refine ab (hK _ ?_);clear hK K)|((first|refine ae ?_|refine aa rfl (hu) ?_);simp[ax,bf];(try simp(disch:=omega)only[wrap64]);(try(refine gen2 ?_ ?_<;>intro hq<;>(try simp[ax,bf]at hq)<;>try(have:True:=hq;clear this hq))))|(refine⟨(p+1,_),by dsimp only;omega,⟨by dsimp only;omega,by simpa using hq⟩,rfl,?_,?_⟩<;>simp(disch:=omega) [wrap64])|refine T.r0 fun K hK=>?_|refine T.r1 fun K hK=>?_|refine T.ct rfl ?_|refine T.cf rfl ?_|refine T.seq ?_|refine T.block ?_|refine T.skip ?_
  ·have ff:p=ts.length:=by omega
   subst ff;simp at hq;subst hq;simp only[if_true,zo];repeat' first|(refine ab (hK _ ?_);clear hK K)|((first|refine ae ?_|(refine aa ?_ (h3) ?_;(focus(solve|simp[ax]))));simp[ax];(try(refine gen2 ?_ ?_<;>intro hq<;>(try simp[ax]at hq)<;>try(have:True:=hq;clear this hq))))|(refine T.ret (aB.a8 (Or.inr rfl) ?_)<;>simp[ay,Tryz.results69]<;>omega)|refine T.r0 fun K hK=>?_|refine T.cf rfl ?_|refine T.seq ?_|refine T.exit ?_
end Go.Proofs.YtloolmchekcmeaaGreat
