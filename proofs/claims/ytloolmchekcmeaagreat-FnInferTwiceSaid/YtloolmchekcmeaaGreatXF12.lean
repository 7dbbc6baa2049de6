/- A part. -/
import Derived.Test.YtloolmchekcmeaaGreatXF11
set_option linter.unusedVariables false
set_option linter.unusedSimpArgs false
open Go.Proofs.Tryz renaming prog->aaR
open List renaming nil_append->aaS,cons_append->aaT,length_append->aaU,getElem?_eq_getElem->aaV,drop_eq_getElem_cons->aaW,mem_of_getElem?->aaX,set_cons_zero->aaY,set_cons_succ->aaZ,append_assoc->aa0,take_length->aa1,take_add_one->aa2,drop_drop->aa3,take_of_length_le->aa4,getElem_mem->aa5,take_set_of_le->aa6,take_append_drop->aa7,sizeOf_lt_of_mem->aa8,mem_append->aa9,length_singleton->aba,headD_cons->abb,getElem?_set_self->abc,drop_set->abd,drop_length->abe
open Nat renaming pow_le_pow_right->abf,le_refl->abg
open Bool renaming and_eq_true->abh,false_eq_true->abi,false_and->abj,true_and->abk
open Option renaming isSome_some->abl,isSome_none->abm,map_some->abn,map_eq_some_iff->abo,map_none->abp,bind->abq
open Int renaming add_assoc->abr
namespace Go.Proofs.YtloolmchekcmeaaGreat
attribute [-simp] Go.Av.dt Go.Av.xQ Go.Av.fb Go.Av.AV.eF Go.Av.CV.eF Go.Av.iW Go.Av.AV.dN Go.Av.CV.dN Go.Av.ch Go.Av.eY Go.Av.fw Go.Av.fi Go.Av.cY Go.Av.cb
open Go Go.Av
attribute [local irreducible] T ah TX EX LX bC dk bV ck gp aI.kind aI.kids ao.kind ao.name ao.num ao.ty ao.fr ao.label ao.kids
attribute [local simp] aJ al
set_option maxHeartbeats 16000000
set_option maxRecDepth 8000
theorem c4 (k:Int):ah aaR 49 [.i k] [] (dE (.mk k [])) [] []:=by
 refine ah.ob Tryz.func49 Tryz.ntmps49 rfl ?_;repeat' first|(refine ab (hK _ ?_);clear hK K)|(refine ae ?_;simp;(try(refine gen2 ?_ ?_<;>intro hq<;>try simp at hq)))|(refine T.ret (aB.val (Or.inr rfl) ?_)<;>simp[aA,Tryz.results49]<;>omega)|refine T.r0 fun K hK=>?_
theorem j4 (k:Int) (a b:aI):ah aaR 108 [.i k,dE a,dE b] [] (dE (.mk k [a,b])) [] []:=by
 refine ah.ob Tryz.func108 Tryz.ntmps108 rfl ?_;repeat' first|(refine ab (hK _ ?_);clear hK K)|(refine ae ?_;simp;(try(refine gen2 ?_ ?_<;>intro hq<;>try simp at hq)))|(refine T.ret (aB.val (Or.inr rfl) ?_)<;>simp[aA,Tryz.results108,aJ]<;>omega)|refine T.r0 fun K hK=>?_
theorem eB:∀(t:aI),fA t<=1099511627776->ah aaR 104 [dE t] [] (dE t) [] []:=by
 intro t;induction t using aI.ind with
 |h t ih=>
  intro hn;rw[eI]at hn;have hlen:=fX t.kids;refine ah.ob Tryz.func104 Tryz.ntmps104 rfl ?_;repeat' first|(refine ab (hK _ ?_);clear hK K)|(refine ae ?_;simp;(try(refine gen2 ?_ ?_<;>intro hq<;>try simp at hq)))|refine T.r0 fun K hK=>?_|refine T.seq ?_|refine T.block ?_
  refine T.dq 2 1 2 25 (row:=[.d (.i t.kind),.nil]) (by simp) (by simp) ?_;refine T.dD (α:=Nat×List (List CV)) [2,3,10,11] (fun x=>[(12,.i x.1)]) (fun x=>[(2,[.d (.i t.kind),.own 0 x.1])]) (fun x=>x.2) (fun x _=>[{sz:=2,ev:=25,rows:=(t.kids.take x.1).map ck,wr:=true}]) (fun x=>t.kids.length+1-x.1) (fun x=>x.1<=t.kids.length) (by simp;rfl) (fun x hx=>?_) (0,[]) (by simp) (by simp) (by simp) (by simp);obtain⟨p,G⟩:=x;dsimp only at hx⊢;by_cases ay:p<t.kids.length
  ·obtain⟨u,ht⟩:=bM ay;have eA:u∈t.kids:=aaX ht;have aX:t.kids[p]=u:=by rw[aaV ay]at ht;exact Option.some.inj ht
   have gz:t.kids.drop p=u::t.kids.drop (p+1):=by rw[aaW ay,aX]
   have hu:=ih u eA (by have:=fE eA;omega);have mN:t.kids.take (p+1)=t.kids.take p++[u]:=by rw[aa2,ht];rfl
   have eU:min p t.kids.length=p:=by omega
   simp only[gy,aaY,aaZ,aaT,aaS];repeat' first|((first|refine ab (hK _ ?_)|refine aD (hK _ ?_));clear hK K)|((first|refine ae ?_|refine aH ?_|refine aa rfl (hu) ?_);simp[ay,aX,eU];(try simp(disch:=omega)only[wrap64]);(try(refine gen2 ?_ ?_<;>intro hq<;>try simp[ay,aX,eU]at hq)))|(refine⟨by omega,by omega,?_⟩)|(refine⟨(p+1,_),by dsimp only;omega,by dsimp only;omega,rfl,?_,?_⟩<;>simp(disch:=omega) [wrap64,mN,aJ])|refine T.yd (id:=5) mixed (fun _=>false) [5,7] (by kernel_rfl) fun K hK=>?_|refine T.r0 fun K hK=>?_|refine T.r1 fun K hK=>?_|refine T.ct rfl ?_|refine T.seq ?_|refine T.block ?_|refine T.skip ?_
  ·have fa:p=t.kids.length:=by omega
   subst fa;simp only[gy,aaY,aaZ,aaT,aaS];repeat' first|(refine ab (hK _ ?_);clear hK K)|(refine ae ?_;simp[ay];(try(refine gen2 ?_ ?_<;>intro hq<;>try simp[ay]at hq)))|(refine T.ret (aB.val (Or.inr rfl) ?_)<;>simp[aA,Tryz.results104,aJ]<;>omega)|refine T.r0 fun K hK=>?_|refine T.cf rfl ?_|refine T.seq ?_|refine T.exit ?_
theorem w9 (k:Int) (hk:k≠1) (t:aI) (hl:t.kind=k->2<=t.kids.length):
  ah aaR 170 [dE t,.i k] [] (.a8 (match db k t with|some (a,b)=>[dE a,dE b,.b true]|none=>[dE bk,dE bk,.b false])) [] []:=by
 have oZ:=c4 1;simp only[db];by_cases jn:t.kind=1
 ·rw[if_pos jn];have o9:¬(1:Int)=k:=fun h=>hk h.symm
  dsimp only;refine ah.ob Tryz.func170 Tryz.ntmps170 rfl ?_;repeat' first|(refine ab (hK _ ?_);clear hK K)|((first|refine ae ?_|refine aa rfl (oZ) ?_);simp[jn,o9];(try(refine gen2 ?_ ?_<;>intro hq<;>try simp[jn,o9]at hq)))|(refine T.ret (aB.a8 (Or.inr rfl) ?_)<;>simp[aA,Tryz.results170]<;>omega)|refine T.r0 fun K hK=>?_|refine T.ct rfl ?_|refine T.cf rfl ?_|refine T.seq ?_|refine T.block ?_
 rw[if_neg jn];by_cases hk:t.kind=k
 rotate_left
 ·rw[if_neg hk];dsimp only;refine ah.ob Tryz.func170 Tryz.ntmps170 rfl ?_;repeat' first|(refine ab (hK _ ?_);clear hK K)|(refine ae ?_;simp[jn,hk];(try(refine gen2 ?_ ?_<;>intro hq<;>try simp[jn,hk]at hq)))|(refine T.ret (aB.a8 (Or.inr rfl) ?_)<;>simp[aA,Tryz.results170]<;>omega)|refine T.r0 fun K hK=>?_|refine T.cf rfl ?_|refine T.seq ?_|refine T.block ?_|refine T.skip ?_
 rw[if_pos hk];have uQ:=hl hk
 match ia:t.kids,uQ with
 |a::b::r,_=>
  dsimp only;refine ah.ob Tryz.func170 Tryz.ntmps170 rfl ?_;repeat' first|((first|refine ab (hK _ ?_)|refine bj (hK _ ?_));clear hK K)|((first|refine ae ?_|refine bB ?_);simp[hk,ia];(try(refine gen2 ?_ ?_<;>intro hq<;>try simp[hk,ia]at hq)))|(refine T.ret (aB.a8 (Or.inr rfl) ?_)<;>simp[aA,Tryz.results170]<;>omega)|refine T.mL (id:=3) mixed (fun _=>false) [8,9] [5,6,7] 9 [1] (by kernel_rfl) fun K hK=>?_|refine T.r0 fun K hK=>?_|refine T.ct rfl ?_|refine T.seq ?_|refine T.block ?_
theorem JR:∀{d:Nat} {a:aI},n0 d a->d<=4->∀{b:aI},n0 d b->aG a b=true->ah aaR 171 [dE a,dE b] [] (dE (bN a b)) [] []:=by
 intro d a ha;induction ha with
 |any d=>
  intro hd b hb hc;have hn:fA b<=1099511627776:=by have:=jK _ b hb.shape;have:2 ^(d+1)<=2 ^ 4:=abf (by omega) hd;omega
  have ho:=eB b hn;rw[show bN lg b=b by rw[gH];simp];refine ah.ob Tryz.func171 Tryz.ntmps171 rfl ?_;repeat' first|(refine ab (hK _ ?_);clear hK K)|((first|refine ae ?_|refine aa rfl (ho) ?_);simp;(try(refine gen2 ?_ ?_<;>intro hq<;>try simp at hq)))|(refine T.ret (aB.val (Or.inr rfl) ?_)<;>simp[aA,Tryz.results171]<;>omega)|refine T.r0 fun K hK=>?_|refine T.ct rfl ?_|refine T.seq ?_|refine T.block ?_
 |int d=>
  intro hd b hb hc;have ho:=eB bw (by simp[cA,cP]);have e:bN bw b=bw:=by cases hb<;>simp[bN,jZ]<;>simp[aG]at hc
  rw[e];by_cases uR:b.kind=1
  ·refine ah.ob Tryz.func171 Tryz.ntmps171 rfl ?_;repeat' first|(refine ab (hK _ ?_);clear hK K)|((first|refine ae ?_|(refine aa ?_ (ho) ?_;(focus(solve|simp[uR]))));simp[uR];(try(refine gen2 ?_ ?_<;>intro hq<;>try simp[uR]at hq)))|(refine T.ret (aB.val (Or.inr rfl) ?_)<;>simp[aA,Tryz.results171]<;>omega)|refine T.r0 fun K hK=>?_|refine T.ct rfl ?_|refine T.cf rfl ?_|refine T.seq ?_|refine T.block ?_
  ·refine ah.ob Tryz.func171 Tryz.ntmps171 rfl ?_;repeat' first|(refine ab (hK _ ?_);clear hK K)|((first|refine ae ?_|(refine aa ?_ (ho) ?_;(focus(solve|simp[uR]))));simp[uR];(try(refine gen2 ?_ ?_<;>intro hq<;>try simp[uR]at hq)))|(refine T.ret (aB.val (Or.inr rfl) ?_)<;>simp[aA,Tryz.results171]<;>omega)|refine T.r0 fun K hK=>?_|refine T.ct rfl ?_|refine T.cf rfl ?_|refine T.seq ?_|refine T.block ?_
 |bool d=>
  intro hd b hb hc;have ho:=eB cF (by simp[cA,cP]);have e:bN cF b=cF:=by cases hb<;>simp[bN,jZ]<;>simp[aG]at hc
  rw[e];by_cases uR:b.kind=1
  ·refine ah.ob Tryz.func171 Tryz.ntmps171 rfl ?_;repeat' first|(refine ab (hK _ ?_);clear hK K)|((first|refine ae ?_|(refine aa ?_ (ho) ?_;(focus(solve|simp[uR]))));simp[uR];(try(refine gen2 ?_ ?_<;>intro hq<;>try simp[uR]at hq)))|(refine T.ret (aB.val (Or.inr rfl) ?_)<;>simp[aA,Tryz.results171]<;>omega)|refine T.r0 fun K hK=>?_|refine T.ct rfl ?_|refine T.cf rfl ?_|refine T.seq ?_|refine T.block ?_
  ·refine ah.ob Tryz.func171 Tryz.ntmps171 rfl ?_;repeat' first|(refine ab (hK _ ?_);clear hK K)|((first|refine ae ?_|(refine aa ?_ (ho) ?_;(focus(solve|simp[uR]))));simp[uR];(try(refine gen2 ?_ ?_<;>intro hq<;>try simp[uR]at hq)))|(refine T.ret (aB.val (Or.inr rfl) ?_)<;>simp[aA,Tryz.results171]<;>omega)|refine T.r0 fun K hK=>?_|refine T.ct rfl ?_|refine T.cf rfl ?_|refine T.seq ?_|refine T.block ?_
 | @fn d x y hx hy ih1 ih2=>
  intro hd b hb hc;by_cases uR:b.kind=1
  ·have e:b=lg:=by cases hb<;>simp at uR<;>rfl
   subst e;have hn:fA (.mk 4 [x,y])<=1099511627776:=by have:=jK _ _ (n0.fn hx hy).shape;have:2 ^(d+1)<=2 ^ 4:=abf (by omega) hd;omega
   have ho:=eB (.mk 4 [x,y]) hn;rw[show bN (.mk 4 [x,y]) lg=.mk 4 [x,y] by rw[gH];simp];refine ah.ob Tryz.func171 Tryz.ntmps171 rfl ?_;repeat' first|(refine ab (hK _ ?_);clear hK K)|((first|refine ae ?_|(refine aa ?_ (ho) ?_;(focus(solve|simp))));simp;(try(refine gen2 ?_ ?_<;>intro hq<;>try simp at hq)))|(refine T.ret (aB.val (Or.inr rfl) ?_)<;>simp[aA,Tryz.results171]<;>omega)|refine T.r0 fun K hK=>?_|refine T.ct rfl ?_|refine T.cf rfl ?_|refine T.seq ?_|refine T.block ?_
  ·obtain⟨u,v,e,hu,hv⟩:∃u v,b=.mk 4 [u,v]/\n0 d u/\n0 d v:=by
    cases hb with
    |any=>simp at uR
    |int=>simp[aG]at hc
    |bool=>simp[aG]at hc
    |fn h1 h2=>first|exact⟨_,_,rfl,h1,h2⟩|simp[aG]at hc
    |pair h1 h2=>first|exact⟨_,_,rfl,h1,h2⟩|simp[aG]at hc
   subst e;rw[Bg (by omega)]at hc;simp only[abh]at hc;have h1:=ih1 (by omega) hu hc.1;have h2:=ih2 (by omega) hv hc.2;have h3:=j4 4 (bN x u) (bN y v);rw[Bh (by omega)];refine ah.ob Tryz.func171 Tryz.ntmps171 rfl ?_;repeat' first|((first|refine ab (hK _ ?_)|refine aD (hK _ ?_));clear hK K)|((first|refine ae ?_|refine aH ?_|refine aa rfl (h1) ?_|refine aa rfl (h2) ?_|refine aa rfl (h3) ?_);simp;(try(refine gen2 ?_ ?_<;>intro hq<;>try simp at hq)))|(refine T.ret (aB.val (Or.inr rfl) ?_)<;>simp[aA,Tryz.results171]<;>omega)|refine T.rd (id:=5) mixed (fun _=>false) [21] (by kernel_rfl) fun K hK=>?_|refine T.r0 fun K hK=>?_|refine T.cf rfl ?_|refine T.seq ?_|refine T.block ?_|refine T.skip ?_
 | @pair d x y hx hy ih1 ih2=>
  intro hd b hb hc;by_cases uR:b.kind=1
  ·have e:b=lg:=by cases hb<;>simp at uR<;>rfl
   subst e;have hn:fA (.mk 5 [x,y])<=1099511627776:=by have:=jK _ _ (n0.pair hx hy).shape;have:2 ^(d+1)<=2 ^ 4:=abf (by omega) hd;omega
   have ho:=eB (.mk 5 [x,y]) hn;rw[show bN (.mk 5 [x,y]) lg=.mk 5 [x,y] by rw[gH];simp];refine ah.ob Tryz.func171 Tryz.ntmps171 rfl ?_;repeat' first|(refine ab (hK _ ?_);clear hK K)|((first|refine ae ?_|(refine aa ?_ (ho) ?_;(focus(solve|simp))));simp;(try(refine gen2 ?_ ?_<;>intro hq<;>try simp at hq)))|(refine T.ret (aB.val (Or.inr rfl) ?_)<;>simp[aA,Tryz.results171]<;>omega)|refine T.r0 fun K hK=>?_|refine T.ct rfl ?_|refine T.cf rfl ?_|refine T.seq ?_|refine T.block ?_
  ·obtain⟨u,v,e,hu,hv⟩:∃u v,b=.mk 5 [u,v]/\n0 d u/\n0 d v:=by
    cases hb with
    |any=>simp at uR
    |int=>simp[aG]at hc
    |bool=>simp[aG]at hc
    |fn h1 h2=>first|exact⟨_,_,rfl,h1,h2⟩|simp[aG]at hc
    |pair h1 h2=>first|exact⟨_,_,rfl,h1,h2⟩|simp[aG]at hc
   subst e;rw[Bg (by omega)]at hc;simp only[abh]at hc;have h1:=ih1 (by omega) hu hc.1;have h2:=ih2 (by omega) hv hc.2;have h3:=j4 5 (bN x u) (bN y v);rw[Bh (by omega)];refine ah.ob Tryz.func171 Tryz.ntmps171 rfl ?_;repeat' first|((first|refine ab (hK _ ?_)|refine aD (hK _ ?_));clear hK K)|((first|refine ae ?_|refine aH ?_|refine aa rfl (h1) ?_|refine aa rfl (h2) ?_|refine aa rfl (h3) ?_);simp;(try(refine gen2 ?_ ?_<;>intro hq<;>try simp at hq)))|(refine T.ret (aB.val (Or.inr rfl) ?_)<;>simp[aA,Tryz.results171]<;>omega)|refine T.rd (id:=5) mixed (fun _=>false) [21] (by kernel_rfl) fun K hK=>?_|refine T.r0 fun K hK=>?_|refine T.cf rfl ?_|refine T.seq ?_|refine T.block ?_|refine T.skip ?_
theorem yq (f:FuncId) (l:List dF) (q:dF->Bool) (hl:l.length<=4611686018427387904) (hf:∀t∈l,ah aaR f [Q7 t] [] (.b (q t)) [] []):
  ah aaR 160 [.l (l.map iE),.c (.fn f [])] [] (.i (ew q l 0)) [] []:=by
 refine ah.ob Tryz.func160 Tryz.ntmps160 rfl ?_;repeat' first|(refine ab (hK _ ?_);clear hK K)|(refine ae ?_;simp;(try(refine gen2 ?_ ?_<;>intro hq<;>try simp at hq)))|refine T.r0 fun K hK=>?_|refine T.seq ?_|refine T.block ?_
 obtain⟨R,hR⟩:∃R,ew q l 0=R:=⟨_,rfl⟩;rw[hR];refine T.fW (fun p:Nat=>⟨[(0,.l (l.map iE)),(1,.c (.fn f [])),(7,.i l.length),(8,.i p)],[],[]⟩) (fun p=>l.length+1-p) (fun p=>p<=l.length/\ew q (l.drop p) p=R) (fun p hp=>?_) 0 (by simpa using hR) (by simp);obtain⟨hi,he⟩:=hp;by_cases ay:p<l.length
 ·obtain⟨u,ht⟩:=bM ay;have eA:u∈l:=aaX ht;have aX:l[p]=u:=by rw[aaV ay]at ht;exact Option.some.inj ht
  have gz:l.drop p=u::l.drop (p+1):=by rw[aaW ay,aX]
  have hu:=hf u eA;rw[gz,ew]at he;cases hb:q u<;>rw[hb]at hu he
  ·repeat' first|(refine ab (hK _ ?_);clear hK K)|((first|refine ae ?_|refine aa rfl (hu) ?_);simp[ay,aX,iE];(try simp(disch:=omega)only[wrap64]);(try(refine gen2 ?_ ?_<;>intro hq<;>try simp[ay,aX,iE]at hq)))|(refine⟨p+1,by dsimp only;omega,⟨by omega,by simpa using he⟩,?_⟩;simp(disch:=omega) [wrap64])|refine T.r0 fun K hK=>?_|refine T.r1 fun K hK=>?_|refine T.ct rfl ?_|refine T.cf rfl ?_|refine T.seq ?_|refine T.block ?_|refine T.skip ?_
  ·repeat' first|(refine ab (hK _ ?_);clear hK K)|((first|refine ae ?_|refine aa rfl (hu) ?_);simp[ay,aX,iE];(try simp(disch:=omega)only[wrap64]);(try(refine gen2 ?_ ?_<;>intro hq<;>try simp[ay,aX,iE]at hq)))|(refine T.ret (aB.data (Or.inr rfl) ?_ ?_)<;>simp[Tryz.results160,<-he]<;>omega)|refine T.r0 fun K hK=>?_|refine T.ct rfl ?_|refine T.seq ?_|refine T.block ?_|refine T.skip ?_
 ·have fa:p=l.length:=by omega
  subst fa;simp[ew]at he;repeat' first|(refine ab (hK _ ?_);clear hK K)|(refine ae ?_;simp[ay];(try(refine gen2 ?_ ?_<;>intro hq<;>try simp[ay]at hq)))|(refine T.ret (aB.data (Or.inr rfl) ?_ ?_)<;>simp[Tryz.results160,he]<;>omega)|refine T.r0 fun K hK=>?_|refine T.cf rfl ?_|refine T.seq ?_|refine T.exit ?_
theorem ua (f:FuncId) (l:List dF) (q:dF->Bool) (hl:l.length<=4611686018427387904) (hf:∀t∈l,ah aaR f [Q7 t] [] (.b (q t)) [] []):
  ah aaR 139 [.l (l.map iE),.c (.fn f [])] [] (.b (l.any q)) [] []:=by
 refine ah.ob Tryz.func139 Tryz.ntmps139 rfl ?_;rw[<-l8 (i:=0) (by omega)];repeat' first|(refine ab (hK _ ?_);clear hK K)|((first|refine ae ?_|refine aa rfl (yq f l q hl hf) ?_);simp;(try(refine gen2 ?_ ?_<;>intro hq<;>try simp at hq)))|(refine T.ret (aB.data (Or.inr rfl) ?_ ?_)<;>simp[Tryz.results139, *]<;>omega)|refine T.r0 fun K hK=>?_
theorem z6 (b:dF) (hn:fA b.ty<=1099511627776):ah aaR 140 [Q7 b] [] (.b (!(dX b.name && ak 4 b.ty))) [] []:=by
 have h1:=yM b.name;have h2:=hP b.ty hn;generalize dX b.name=q1 at*;generalize ak 4 b.ty=q2 at*;refine ah.ob Tryz.func140 Tryz.ntmps140 rfl ?_;repeat' first|(refine ab (hK _ ?_);clear hK K)|((first|refine ae ?_|refine aa rfl (h1) ?_|refine aa rfl (h2) ?_);simp;(try(refine gen2 ?_ ?_<;>intro hq<;>try simp at hq)))|(refine T.ret (aB.data (Or.inr rfl) ?_ ?_)<;>simp[Tryz.results140, *]<;>omega)|refine T.r0 fun K hK=>?_
theorem uZ (ctx:List dF) (hl:ctx.length<=1099511627776) (hn:∀b∈ctx,fA b.ty<=1099511627776):ah aaR 113 [kL ctx] [] (.b (rf ctx)) [] []:=by
 have h:=ua 140 ctx _ (by omega) (fun b hb=>z6 b (hn b hb));have e:rf ctx=(decide (ctx.length<=12)&& !ctx.any fun b=> !(dX b.name && ak 4 b.ty)):=by
  have h2:=pC (fun b:dF=>dX b.name && ak 4 b.ty) ctx;rw[h2,rf,Bool.and_comm]
 rw[e];generalize (ctx.any fun b=> !(dX b.name && ak 4 b.ty))=q at*;have e2:(decide ((ctx.length:Int)<=12))=decide (ctx.length<=12):=decide_eq_decide.2 (by omega);refine ah.ob Tryz.func113 Tryz.ntmps113 rfl ?_;repeat' first|(refine ab (hK _ ?_);clear hK K)|((first|refine ae ?_|refine aa rfl (h) ?_);simp;(try(refine gen2 ?_ ?_<;>intro hq<;>try simp at hq)))|(refine T.ret (aB.data (Or.inr rfl) ?_ ?_)<;>simp[Tryz.results113, *]<;>omega)|refine T.r0 fun K hK=>?_
theorem gL:(a b:aI)->fA a<=1099511627776->ah aaR 28 [dE a,dE b] [] (.b (dS a b)) [] []
 |.mk k l,b,hn=>by
  rw[eI]at hn;have hlen:=fX l;have hc:=qM 28 l b.kids dS (by simp at hn;omega) (fun u hu v hv=>gL u v (by have:=fE hu;simp at hn;omega));rw[CW];simp only[aI.bQ,aI.bX];generalize gk dS l b.kids=R at hc⊢;refine ah.ob Tryz.func28 Tryz.ntmps28 rfl ?_;repeat' first|(refine ab (hK _ ?_);clear hK K)|((first|refine ae ?_|refine aa rfl (hc) ?_);simp;(try(refine gen2 ?_ ?_<;>intro hq<;>try simp at hq)))|(refine T.ret (aB.data (Or.inr rfl) ?_ ?_)<;>simp[Tryz.results28, *]<;>omega)|refine T.r0 fun K hK=>?_
termination_by a=>SizeOf.sizeOf a
decreasing_by have:=aa8 hu;simp;omega
theorem jh:(a b:ao)->eR a<=1099511627776->ah aaR 27 [cM a,cM b] [] (.b (kM a b)) [] []
 |.mk k s n t f lb l,b,hn=>by
  obtain⟨jo,nE,yl,o6⟩:=cB hn;have jo:fA t<=1099511627776:=by simpa using jo
  have nE:fA f<=1099511627776:=by simpa using nE
  have yl:l.length<=1099511627776:=by simpa using yl
  have o6:∀u∈l,eR u<=1099511627776:=by simpa using o6
  have hc:=yi 27 l b.kids kM (by omega) (fun u hu v hv=>jh u v (by have:=o6 u hu;omega));have h1:=gL t b.ty jo;have h2:=gL f b.fr nE;rw[C0];simp only[ao.bQ,ao.bX,ao.lf,ao.pD,ao.oH,ao.qJ,ao.km];generalize gk kM l b.kids=R at hc⊢;generalize dS t b.ty=R1 at h1⊢;generalize dS f b.fr=R2 at h2⊢;refine ah.ob Tryz.func27 Tryz.ntmps27 rfl ?_;repeat' first|(refine ab (hK _ ?_);clear hK K)|((first|refine ae ?_|refine aa rfl (hc) ?_|refine aa rfl (h1) ?_|refine aa rfl (h2) ?_);simp;(try(refine gen2 ?_ ?_<;>intro hq<;>try simp at hq)))|(refine T.ret (aB.data (Or.inr rfl) ?_ ?_)<;>simp[Tryz.results27, *]<;>omega)|refine T.r0 fun K hK=>?_
termination_by a=>SizeOf.sizeOf a
decreasing_by have:=aa8 hu;simp;omega
theorem ot (e:ao):ah aaR 48 [cM e] [] (.b (bx e.kind)) [] []:=by
 rw[bx];refine ah.ob Tryz.func48 Tryz.ntmps48 rfl ?_;repeat' first|(refine ab (hK _ ?_);clear hK K)|(refine ae ?_;simp;(try(refine gen2 ?_ ?_<;>intro hq<;>try simp at hq)))|(refine T.ret (aB.data (Or.inr rfl) ?_ ?_)<;>simp[Tryz.results48, *]<;>omega)|refine T.r0 fun K hK=>?_
theorem FI (f:FuncId) (g:ao->ao) (q:ao->Prop) (hq:∀e,q e->∀u∈e.kids,q u)
  (hf:∀e,q e->ah aaR f [cM (.mk e.kind e.name e.num e.ty e.fr e.label (e.kids.map (mapM g)))] [] (cM (mapM g e)) [] []):
  ∀(e:ao),q e->eR e<=1099511627776->ah aaR 46 [cM e,.c (.fn f [])] [] (cM (mapM g e)) [] []:=by
 intro e;induction e using ao.ind with
 |h e ih=>
  intro Tm hn;obtain⟨jo,nE,yl,o6⟩:=cB hn;have h1:=eB e.ty jo;have h2:=eB e.fr nE;have h3:=hf e Tm;simp only[cM,ao.bQ,ao.bX,ao.lf,ao.pD,ao.oH,ao.qJ,ao.km]at h3;generalize mapM g e=R at h3⊢;refine ah.ob Tryz.func46 Tryz.ntmps46 rfl ?_;repeat' first|(refine ab (hK _ ?_);clear hK K)|(refine ae ?_;simp;(try(refine gen2 ?_ ?_<;>intro hq<;>(try simp at hq)<;>try(have:True:=hq;clear this hq))))|refine T.r0 fun K hK=>?_|refine T.seq ?_|refine T.block ?_
  refine T.px 5 9 28 (by simp) ?_;refine T.dD (α:=Nat×List (List CV)) [1,2,4,9,10] (fun x=>[(5,.c (.own 0 x.1)),(11,.i x.1)]) (fun x=>[]) (fun x=>x.2) (fun x _=>[{sz:=9,ev:=28,rows:=((e.kids.map (mapM g)).take x.1).map gp,wr:=true}]) (fun x=>e.kids.length+1-x.1) (fun x=>x.1<=e.kids.length) (by simp;rfl) (fun x hx=>?_) (0,[]) (by simp) (by simp) (by simp) (by simp);obtain⟨p,G⟩:=x;dsimp only at hx⊢;simp only[gy,aaT,aaS];by_cases ay:p<e.kids.length
  ·obtain⟨u,ht⟩:=bM ay;have eA:u∈e.kids:=aaX ht;have aX:e.kids[p]=u:=by rw[aaV ay]at ht;exact Option.some.inj ht
   have gz:e.kids.drop p=u::e.kids.drop (p+1):=by rw[aaW ay,aX]
   have hu:=ih u eA (hq e Tm u eA) (by have:=o6 u eA;omega);have mN:(e.kids.map (mapM g)).take (p+1)=(e.kids.map (mapM g)).take p++[mapM g u]:=by rw[aa2,List.getElem?_map,ht];rfl
   have mz:min p (e.kids.map (mapM g)).length=p:=by simp;omega
   generalize (e.kids.map (mapM g))=Z at*;repeat' first|(refine ab (hK _ ?_);clear hK K)|((first|refine ae ?_|refine aa rfl (hu) ?_);simp[ay,aX,mz];(try simp(disch:=omega)only[wrap64]);(try(refine gen2 ?_ ?_<;>intro hq<;>(try simp[ay,aX,mz]at hq)<;>try(have:True:=hq;clear this hq))))|(refine⟨by omega,by omega,?_⟩)|(refine⟨(p+1,_),by dsimp only;omega,by dsimp only;omega,rfl,?_,?_⟩<;>simp(disch:=omega) [wrap64,mN,al,mz])|refine T.r0 fun K hK=>?_|refine T.r1 fun K hK=>?_|refine T.ct rfl ?_|refine T.seq ?_|refine T.block ?_|refine T.skip ?_
  ·have fa:p=e.kids.length:=by omega
   subst fa;have mz:(e.kids.map (mapM g)).length=e.kids.length:=by simp
   rw[aa4 (by omega)];generalize (e.kids.map (mapM g))=Z at*;repeat' first|((first|refine ab (hK _ ?_)|refine aD (hK _ ?_));clear hK K)|((first|refine ae ?_|refine aH ?_|refine aa rfl (h1) ?_|refine aa rfl (h2) ?_|(refine aa ?_ (h3) ?_;(focus(solve|simp[ay,mz]))));simp[ay,mz];(try(refine gen2 ?_ ?_<;>intro hq<;>(try simp[ay,mz]at hq)<;>try(have:True:=hq;clear this hq))))|(refine T.ret (aB.val (Or.inr rfl) ?_)<;>simp[aA,Tryz.results46]<;>omega)|refine T.rd (id:=7) mixed (fun _=>false) [8,10,12] (by kernel_rfl) fun K hK=>?_|refine T.r0 fun K hK=>?_|refine T.cf rfl ?_|refine T.seq ?_|refine T.exit ?_
end Go.Proofs.YtloolmchekcmeaaGreat
namespace Go.Proofs.YtloolmchekcmeaaGreat
attribute [-simp] Go.Av.dt Go.Av.xQ Go.Av.fb Go.Av.AV.eF Go.Av.CV.eF Go.Av.iW Go.Av.AV.dN Go.Av.CV.dN Go.Av.ch Go.Av.eY Go.Av.fw Go.Av.fi Go.Av.cY Go.Av.cb
open Go Go.Av
attribute [local irreducible] T ah TX EX LX bC dk bV ck gp aI.kind aI.kids ao.kind ao.name ao.num ao.ty ao.fr ao.label ao.kids
attribute [local simp] aJ al
set_option maxHeartbeats 16000000
set_option maxRecDepth 8000
attribute [local simp] abq
theorem BP (l:List dF) (hl:l.length<=1099511627776):ah aaR 161 [kL l] [] (.c (.own 0 l.length)) [] [{sz:=3,ev:=146,rows:=l.map iE,wr:=true}]:=by
 refine ah.ob Tryz.func161 Tryz.ntmps161 rfl ?_;refine T.rs (fun _=>false) fun K hK=>?_
 refine ae ?_;simp;refine ab (hK _ ?_);clear hK K;refine T.seq ?_;refine T.NV rfl rfl rfl rfl rfl rfl Hs rfl (by simp;rfl) fun bb P1=>?_
 cases bb
 ·repeat' first|(refine ab (hK _ ?_);clear hK K)|(refine ae ?_;simp[iE];(try(refine gen2 ?_ ?_<;>intro hq<;>try simp[iE]at hq)))|(refine⟨by omega,by omega,?_⟩)|refine T.rs (id:=3) (fun i=>i==0) fun K hK=>?_|refine T.cf rfl ?_|refine T.skip ?_
  refine T.ret (aB.CT 0 (Or.inr rfl) (ys:=[_]) ?_ rfl ?_)<;>simp[aA,Tryz.results161,iE]<;>rfl
 ·have:l=[]:=by simpa using P1 rfl
  subst this;refine T.cond rfl (fun an=>?_) (fun an=>absurd an (by decide));refine T.rs (fun _=>false) fun K hK=>?_
  refine ae ?_;simp;refine ab (hK _ ?_);clear hK K;refine T.px 2 3 146 (by simp) ?_;refine T.ret (aB.CT 0 (Or.inr rfl) (ys:=[_]) ?_ rfl ?_)<;>simp[aA,Tryz.results161]
theorem FJ (ctx:List dF) (s:List UInt8) (hl:ctx.length<=1099511627776):
  ah aaR 169 [kL ctx,.s s] [] (.a8 (match dY ctx s with|some t=>[dE t,.b true]|none=>[dE bk,.b false])) [] []:=by
 have Ht:∀p,p<ctx.length->dY (ctx.take (p+1)) s=if(ctx[p]?.map dF.name)=some s then ctx[p]?.map dF.ty else dY (ctx.take p) s:=by
  have GQ:∀(l:List dF) (b:dF),dY (l++[b]) s=if b.name=s then some b.ty else dY l s:=by
   intro l;induction l with
   |nil=>intro b;simp[dY]
   |cons x r ih=>
    intro b;simp only[aaT,dY,ih b];by_cases hb:b.name=s
    ·simp[hb]
    ·simp[hb]
  intro p hp;rw[aa2,aaV hp];simp only[Option.toList_some,GQ,abn,Option.some.injEq]
 refine ah.ob Tryz.func169 Tryz.ntmps169 rfl ?_;repeat' first|(refine ab (hK _ ?_);clear hK K)|(refine ae ?_;simp;(try simp(disch:=omega)only[wrap64]);(try(refine gen2 ?_ ?_<;>intro hq<;>try simp at hq)))|refine T.r0 fun K hK=>?_|refine T.seq ?_|refine T.block ?_
 obtain⟨R,hR⟩:∃R,dY ctx s=R:=⟨_,rfl⟩;rw[hR];refine T.dD (α:=Nat) [0,1,4] (fun p=>[(6,.i ((p:Int)-1))]) (fun p=>[]) (fun _=>[]) (fun _ A=>A) (fun p=>p) (fun p=>p<=ctx.length/\dY (ctx.take p) s=R) (by simp;rfl) (fun p hp=>?_) ctx.length (by simpa using hR) (by simp) (by simp) (by simp);obtain⟨hi,he⟩:=hp;simp only[gy,List.append_nil,aaT,aaS];cases p with
 |zero=>
  simp[dY]at he;subst he;repeat' first|(refine ab (hK _ ?_);clear hK K)|(refine ae ?_;simp;(try(refine gen2 ?_ ?_<;>intro hq<;>try simp at hq)))|(refine T.ret (aB.a8 (Or.inr rfl) ?_)<;>simp[aA,Tryz.results169]<;>omega)|refine T.r0 fun K hK=>?_|refine T.cf rfl ?_|refine T.seq ?_|refine T.exit ?_
 |succ p=>
  rw[Ht p (by omega)]at he;have ay:p<ctx.length:=by omega
  obtain⟨b,ht⟩:=bM ay;have eA:b∈ctx:=aaX ht;have aX:ctx[p]=b:=by rw[aaV ay]at ht;exact Option.some.inj ht
  have pc:(0:Int)<=(p:Int)+1-1:=by omega
  have Hu:((p:Int)+1-1)=p:=by omega
  rw[ht]at he;by_cases hb:b.name=s
  ·simp[hb]at he;subst he;repeat' first|(refine ab (hK _ ?_);clear hK K)|(refine ae ?_;simp[ay,aX,pc,Hu,hb,iE];(try simp(disch:=omega)only[wrap64]);(try(refine gen2 ?_ ?_<;>intro hq<;>try simp[ay,aX,pc,Hu,hb,iE]at hq)))|(refine T.ret (aB.a8 (Or.inr rfl) ?_)<;>simp[aA,Tryz.results169]<;>omega)|refine T.r0 fun K hK=>?_|refine T.ct rfl ?_|refine T.seq ?_|refine T.block ?_|refine T.skip ?_
  ·simp[hb]at he;repeat' first|(refine ab (hK _ ?_);clear hK K)|(refine ae ?_;simp[ay,aX,pc,Hu,hb,iE];(try simp(disch:=omega)only[wrap64]);(try(refine gen2 ?_ ?_<;>intro hq<;>try simp[ay,aX,pc,Hu,hb,iE]at hq)))|(refine⟨p,by dsimp only;omega,⟨by omega,he⟩,rfl,rfl,?_⟩;simp(disch:=omega) [wrap64])|refine T.r0 fun K hK=>?_|refine T.r1 fun K hK=>?_|refine T.ct rfl ?_|refine T.cf rfl ?_|refine T.seq ?_|refine T.block ?_|refine T.skip ?_
def WT (ctx:List dF) (e:ao) (ts:List aI) (r:Option (List aI×aI)):Prop:=∃ws t,(∀p,r=some p->p=(ws,t))/\ah aaR 162 [kL ctx,cM e,LC ts] [] (.a8 [LC ws,dE t,.b r.isSome]) [] []
theorem JS (ctx:List dF) (hl:ctx.length<=1099511627776) (e:ao) (hk:e.kind=1):WT ctx e [] (cJ ctx e.kind e.name e.ty []):=by
 have hint:=c4 2;have er:=c4 3;have ld:=FJ ctx e.name hl;rw[show cJ ctx e.kind e.name e.ty []=(dY ctx e.name).map fun t=>([],t) by simp[cJ,hk]];cases hr:dY ctx e.name with
 |none=>
  rw[hr]at ld;refine⟨[],bk,by simp,?_⟩;simp only[abp,abm]at ld⊢;refine ah.ob Tryz.func162 Tryz.ntmps162 rfl ?_;repeat' first|((first|refine ab (hK _ ?_)|refine aD (hK _ ?_));clear hK K)|((first|refine ae ?_|refine aH ?_|refine aa rfl (hint) ?_|refine aa rfl (er) ?_|refine aa rfl (ld) ?_);simp[hk];(try(refine gen2 ?_ ?_<;>intro hq<;>try simp[hk]at hq)))|(refine T.ret (aB.a8 (Or.inr rfl) ?_)<;>simp[aA,Tryz.results162]<;>omega)|refine T.rd (id:=5) mixed (fun _=>false) [3] (by kernel_rfl) fun K hK=>?_|refine T.r0 fun K hK=>?_|refine T.ct rfl ?_|refine T.seq ?_|refine T.block ?_
 |some t=>
  rw[hr]at ld;refine⟨[],t,by simp,?_⟩;simp only[abn,abl]at ld⊢;refine ah.ob Tryz.func162 Tryz.ntmps162 rfl ?_;repeat' first|((first|refine ab (hK _ ?_)|refine aD (hK _ ?_));clear hK K)|((first|refine ae ?_|refine aH ?_|refine aa rfl (hint) ?_|refine aa rfl (er) ?_|refine aa rfl (ld) ?_);simp[hk];(try(refine gen2 ?_ ?_<;>intro hq<;>try simp[hk]at hq)))|(refine T.ret (aB.a8 (Or.inr rfl) ?_)<;>simp[aA,Tryz.results162]<;>omega)|refine T.rd (id:=5) mixed (fun _=>false) [3] (by kernel_rfl) fun K hK=>?_|refine T.r0 fun K hK=>?_|refine T.ct rfl ?_|refine T.seq ?_|refine T.block ?_
theorem JT (ctx:List dF) (e:ao) (hk:e.kind=2):WT ctx e [] (cJ ctx e.kind e.name e.ty []):=by
 have hint:=c4 2;have er:=c4 3;rw[show cJ ctx e.kind e.name e.ty []=some ([],bw) by simp[cJ,hk]];refine⟨[],bw,by simp,?_⟩;simp only[abl];refine ah.ob Tryz.func162 Tryz.ntmps162 rfl ?_;repeat' first|((first|refine ab (hK _ ?_)|refine aD (hK _ ?_));clear hK K)|((first|refine ae ?_|refine aH ?_|refine aa rfl (hint) ?_|refine aa rfl (er) ?_);simp[hk];(try(refine gen2 ?_ ?_<;>intro hq<;>try simp[hk]at hq)))|(refine T.ret (aB.a8 (Or.inr rfl) ?_)<;>simp[aA,Tryz.results162]<;>omega)|refine T.rd (id:=7) mixed (fun _=>false) [2] (by kernel_rfl) fun K hK=>?_|refine T.r0 fun K hK=>?_|refine T.ct rfl ?_|refine T.cf rfl ?_|refine T.seq ?_|refine T.block ?_
theorem JU (ctx:List dF) (e:ao) (hk:e.kind=3):WT ctx e [] (cJ ctx e.kind e.name e.ty []):=by
 have hint:=c4 2;have er:=c4 3;rw[show cJ ctx e.kind e.name e.ty []=some ([],cF) by simp[cJ,hk]];refine⟨[],cF,by simp,?_⟩;simp only[abl];refine ah.ob Tryz.func162 Tryz.ntmps162 rfl ?_;repeat' first|((first|refine ab (hK _ ?_)|refine aD (hK _ ?_));clear hK K)|((first|refine ae ?_|refine aH ?_|refine aa rfl (hint) ?_|refine aa rfl (er) ?_);simp[hk];(try(refine gen2 ?_ ?_<;>intro hq<;>try simp[hk]at hq)))|(refine T.ret (aB.a8 (Or.inr rfl) ?_)<;>simp[aA,Tryz.results162]<;>omega)|refine T.rd (id:=10) mixed (fun _=>false) [2] (by kernel_rfl) fun K hK=>?_|refine T.r0 fun K hK=>?_|refine T.ct rfl ?_|refine T.cf rfl ?_|refine T.seq ?_|refine T.block ?_|refine T.skip ?_
theorem JV (ctx:List dF) (e:ao) (hk:e.kind=4):WT ctx e [] (cJ ctx e.kind e.name e.ty []):=by
 have hint:=c4 2;have er:=c4 3;rw[show cJ ctx e.kind e.name e.ty []=some ([],cF) by simp[cJ,hk]];refine⟨[],cF,by simp,?_⟩;simp only[abl];refine ah.ob Tryz.func162 Tryz.ntmps162 rfl ?_;repeat' first|((first|refine ab (hK _ ?_)|refine aD (hK _ ?_));clear hK K)|((first|refine ae ?_|refine aH ?_|refine aa rfl (hint) ?_|refine aa rfl (er) ?_);simp[hk];(try(refine gen2 ?_ ?_<;>intro hq<;>try simp[hk]at hq)))|(refine T.ret (aB.a8 (Or.inr rfl) ?_)<;>simp[aA,Tryz.results162]<;>omega)|refine T.rd (id:=10) mixed (fun _=>false) [2] (by kernel_rfl) fun K hK=>?_|refine T.r0 fun K hK=>?_|refine T.r1 fun K hK=>?_|refine T.ct rfl ?_|refine T.cf rfl ?_|refine T.seq ?_|refine T.block ?_
theorem JW (ctx:List dF) (e:ao) (a:aI) (hk:e.kind=5):WT ctx e [a] (cJ ctx e.kind e.name e.ty [a]):=by
 have hint:=c4 2;have er:=c4 3;have hb:=j4 4 e.ty a;rw[show cJ ctx e.kind e.name e.ty [a]=some ([],.mk 4 [e.ty,a]) by simp[cJ,hk]];refine⟨[],.mk 4 [e.ty,a],by simp,?_⟩;simp only[abl];refine ah.ob Tryz.func162 Tryz.ntmps162 rfl ?_;repeat' first|((first|refine ab (hK _ ?_)|refine aD (hK _ ?_));clear hK K)|((first|refine ae ?_|refine aH ?_|refine aa rfl (hint) ?_|refine aa rfl (er) ?_|refine aa rfl (hb) ?_);simp[hk];(try(refine gen2 ?_ ?_<;>intro hq<;>try simp[hk]at hq)))|(refine T.ret (aB.a8 (Or.inr rfl) ?_)<;>simp[aA,Tryz.results162]<;>omega)|refine T.rd (id:=12) mixed (fun _=>false) [7] (by kernel_rfl) fun K hK=>?_|refine T.r0 fun K hK=>?_|refine T.r1 fun K hK=>?_|refine T.ct rfl ?_|refine T.cf rfl ?_|refine T.seq ?_|refine T.block ?_
theorem JX (ctx:List dF) (e:ao) (a b:aI) (hk:e.kind=6) (ha:ak 4 a=true) (hb:ak 4 b=true):WT ctx e [a,b] (cJ ctx e.kind e.name e.ty [a,b]):=by
 have hint:=c4 2;have er:=c4 3;have hm:=w9 4 (by omega) a (lu (.inl rfl) ha);rw[show cJ ctx e.kind e.name e.ty [a,b]=match db 4 a with|some (x,y)=>if aG b x=true then some ([.mk 4 [x,y],x],y)else none|none=>none by simp[cJ,hk];rfl];cases hr:db 4 a with
 |none=>
  rw[hr]at hm;have h2:=j4 4 bk bk;refine⟨[.mk 4 [bk,bk],bk],bk,by simp,?_⟩;simp only[abm]at hm⊢;refine ah.ob Tryz.func162 Tryz.ntmps162 rfl ?_;repeat' first|((first|refine ab (hK _ ?_)|refine aD (hK _ ?_));clear hK K)|((first|refine ae ?_|refine aH ?_|refine aa rfl (hint) ?_|refine aa rfl (er) ?_|refine aa rfl (hm) ?_|(refine aa ?_ (h2) ?_;(focus(solve|simp[hk]))));simp[hk];(try(refine gen2 ?_ ?_<;>intro hq<;>try simp[hk]at hq)))|(refine T.ret (aB.a8 (Or.inr rfl) ?_)<;>simp[aA,Tryz.results162,aJ]<;>omega)|refine T.rd (id:=15) mixed (fun _=>false) [15] (by kernel_rfl) fun K hK=>?_|refine T.r0 fun K hK=>?_|refine T.r1 fun K hK=>?_|refine T.ct rfl ?_|refine T.cf rfl ?_|refine T.seq ?_|refine T.block ?_
 |some p=>
  obtain⟨x,y⟩:=p;rw[hr]at hm;have h2:=j4 4 x y;have h3:=dH b x (by have:=dc hb;omega);refine⟨[.mk 4 [x,y],x],y,?_,?_⟩
  ·intro p h;dsimp only at h;split at h<;>simp at h;exact h.symm
  dsimp only at hm⊢;rw[show(if aG b x=true then some ([aI.mk 4 [x,y],x],y)else none).isSome=aG b x by cases aG b x<;>rfl];generalize aG b x=c at h3;refine ah.ob Tryz.func162 Tryz.ntmps162 rfl ?_;repeat' first|((first|refine ab (hK _ ?_)|refine aD (hK _ ?_));clear hK K)|((first|refine ae ?_|refine aH ?_|refine aa rfl (hint) ?_|refine aa rfl (er) ?_|refine aa rfl (hm) ?_|refine aa rfl (h2) ?_|refine aa rfl (h3) ?_);simp[hk];(try(refine gen2 ?_ ?_<;>intro hq<;>try simp[hk]at hq)))|(refine T.ret (aB.a8 (Or.inr rfl) ?_)<;>simp[aA,Tryz.results162,aJ]<;>omega)|refine T.rd (id:=15) mixed (fun _=>false) [15] (by kernel_rfl) fun K hK=>?_|refine T.r0 fun K hK=>?_|refine T.r1 fun K hK=>?_|refine T.ct rfl ?_|refine T.cf rfl ?_|refine T.seq ?_|refine T.block ?_
theorem JY (ctx:List dF) (e:ao) (a b:aI) (hk:e.kind=7) (ha:ak 4 a=true) (hb:ak 4 b=true):WT ctx e [a,b] (cJ ctx e.kind e.name e.ty [a,b]):=by
 have hint:=c4 2;have er:=c4 3;have h1:=dH a bw (by have:=dc ha;omega);have h2:=dH b bw (by have:=dc hb;omega);rw[show cJ ctx e.kind e.name e.ty [a,b]=if aG a bw=true/\aG b bw=true then some ([bw,bw],bw)else none by simp[cJ,hk]];refine⟨[bw,bw],bw,?_,?_⟩
 ·intro p h;split at h<;>simp at h;exact h.symm
 rw[show(if aG a bw=true/\aG b bw=true then some ([bw,bw],bw)else none).isSome=(aG a bw && aG b bw) by cases aG a bw<;>cases aG b bw<;>rfl];generalize aG a bw=c1 at h1⊢;generalize aG b bw=c2 at h2⊢;refine ah.ob Tryz.func162 Tryz.ntmps162 rfl ?_;repeat' first|((first|refine ab (hK _ ?_)|refine aD (hK _ ?_));clear hK K)|((first|refine ae ?_|refine aH ?_|refine aa rfl (hint) ?_|refine aa rfl (er) ?_|(refine aa ?_ (h1) ?_;(focus(solve|simp[hk])))|(refine aa ?_ (h2) ?_;(focus(solve|simp[hk]))));simp[hk];(try(refine gen2 ?_ ?_<;>intro hq<;>try simp[hk]at hq)))|(refine T.ret (aB.a8 (Or.inr rfl) ?_)<;>simp[aA,Tryz.results162, *,aJ]<;>omega)|refine T.rd (id:=21) mixed (fun _=>false) [17] (by kernel_rfl) fun K hK=>?_|refine T.r0 fun K hK=>?_|refine T.r1 fun K hK=>?_|refine T.ct rfl ?_|refine T.cf rfl ?_|refine T.seq ?_|refine T.block ?_|refine T.skip ?_
theorem JZ (ctx:List dF) (e:ao) (a b:aI) (hk:e.kind=8) (ha:ak 4 a=true) (hb:ak 4 b=true):WT ctx e [a,b] (cJ ctx e.kind e.name e.ty [a,b]):=by
 have hint:=c4 2;have er:=c4 3;have h1:=dH a bw (by have:=dc ha;omega);have h2:=dH b bw (by have:=dc hb;omega);rw[show cJ ctx e.kind e.name e.ty [a,b]=if aG a bw=true/\aG b bw=true then some ([bw,bw],cF)else none by simp[cJ,hk]];refine⟨[bw,bw],cF,?_,?_⟩
 ·intro p h;split at h<;>simp at h;exact h.symm
 rw[show(if aG a bw=true/\aG b bw=true then some ([bw,bw],cF)else none).isSome=(aG a bw && aG b bw) by cases aG a bw<;>cases aG b bw<;>rfl];generalize aG a bw=c1 at h1⊢;generalize aG b bw=c2 at h2⊢;refine ah.ob Tryz.func162 Tryz.ntmps162 rfl ?_;repeat' first|((first|refine ab (hK _ ?_)|refine aD (hK _ ?_));clear hK K)|((first|refine ae ?_|refine aH ?_|refine aa rfl (hint) ?_|refine aa rfl (er) ?_|(refine aa ?_ (h1) ?_;(focus(solve|simp[hk])))|(refine aa ?_ (h2) ?_;(focus(solve|simp[hk]))));simp[hk];(try(refine gen2 ?_ ?_<;>intro hq<;>try simp[hk]at hq)))|(refine T.ret (aB.a8 (Or.inr rfl) ?_)<;>simp[aA,Tryz.results162, *,aJ]<;>omega)|refine T.rd (id:=21) mixed (fun _=>false) [17] (by kernel_rfl) fun K hK=>?_|refine T.r0 fun K hK=>?_|refine T.r1 fun K hK=>?_|refine T.ct rfl ?_|refine T.cf rfl ?_|refine T.seq ?_|refine T.block ?_
theorem J0 (ctx:List dF) (e:ao) (a b c:aI) (hk:e.kind=9) (ha:ak 4 a=true) (hb:ak 4 b=true) (hc:ak 4 c=true):WT ctx e [a,b,c] (cJ ctx e.kind e.name e.ty [a,b,c]):=by
 have hint:=c4 2;have er:=c4 3;have h1:=dH a cF (by have:=dc ha;omega);have h2:=dH b c (by have:=dc hb;omega);rw[show cJ ctx e.kind e.name e.ty [a,b,c]=if aG a cF=true/\aG b c=true then some ([cF,bN b c,bN b c],bN b c)else none by simp[cJ,hk]];by_cases hq:aG a cF=true/\aG b c=true
 ·rw[if_pos hq];have h3:=JR (n0.of hb) (by omega) (n0.of hc) hq.2;rw[hq.1]at h1;rw[hq.2]at h2;refine⟨[cF,bN b c,bN b c],bN b c,by simp,?_⟩;generalize bN b c=mt at h3⊢;simp only[abl];refine ah.ob Tryz.func162 Tryz.ntmps162 rfl ?_;repeat' first|((first|refine ab (hK _ ?_)|refine aD (hK _ ?_)|refine bj (hK _ ?_));clear hK K)|((first|refine ae ?_|refine aH ?_|refine bB ?_|refine aa rfl (hint) ?_|refine aa rfl (er) ?_|(refine aa ?_ (h1) ?_;(focus(solve|simp[hk])))|refine aa rfl (h2) ?_|refine aa rfl (h3) ?_);simp[hk];(try(refine gen2 ?_ ?_<;>intro hq<;>(try simp[hk]at hq)<;>try(have:True:=hq;clear this hq))))|(refine T.ret (aB.a8 (Or.inr rfl) ?_)<;>simp[aA,Tryz.results162,aJ]<;>omega)|refine T.rd (id:=23) mixed (fun _=>false) [] (by kernel_rfl) fun K hK=>?_|refine T.mL (id:=25) mixed (fun _=>false) [7,8] [1,2,4,5,6] 8 [] (by kernel_rfl) fun K hK=>?_|(refine⟨?_,?_⟩;(focus(intros;refine aa rfl (h3) ?_;simp;done)))|refine T.rd (id:=26) mixed (fun _=>false) [6] (by kernel_rfl) fun K hK=>?_|refine T.r0 fun K hK=>?_|refine T.r1 fun K hK=>?_|refine T.ct rfl ?_|refine T.cf rfl ?_|refine T.seq ?_|refine T.block ?_|refine T.skip ?_
 ·rw[if_neg hq];refine⟨[],bk,by simp,?_⟩;simp only[abm];generalize aG a cF=c1 at h1 hq⊢;generalize aG b c=c2 at h2 hq⊢;cases c1<;>cases c2
  ·refine ah.ob Tryz.func162 Tryz.ntmps162 rfl ?_;repeat' first|((first|refine ab (hK _ ?_)|refine aD (hK _ ?_));clear hK K)|((first|refine ae ?_|refine aH ?_|refine aa rfl (hint) ?_|refine aa rfl (er) ?_|(refine aa ?_ (h1) ?_;(focus(solve|simp[hk]))));simp[hk];(try(refine gen2 ?_ ?_<;>intro hq<;>(try simp[hk]at hq)<;>try(have:True:=hq;clear this hq))))|(refine T.ret (aB.a8 (Or.inr rfl) ?_)<;>simp[aA,Tryz.results162, *]<;>omega)|refine T.rd (id:=23) mixed (fun _=>false) [] (by kernel_rfl) fun K hK=>?_|refine T.r0 fun K hK=>?_|refine T.r1 fun K hK=>?_|refine T.ct rfl ?_|refine T.cf rfl ?_|refine T.seq ?_|refine T.block ?_
  ·refine ah.ob Tryz.func162 Tryz.ntmps162 rfl ?_;repeat' first|((first|refine ab (hK _ ?_)|refine aD (hK _ ?_));clear hK K)|((first|refine ae ?_|refine aH ?_|refine aa rfl (hint) ?_|refine aa rfl (er) ?_|(refine aa ?_ (h1) ?_;(focus(solve|simp[hk]))));simp[hk];(try(refine gen2 ?_ ?_<;>intro hq<;>(try simp[hk]at hq)<;>try(have:True:=hq;clear this hq))))|(refine T.ret (aB.a8 (Or.inr rfl) ?_)<;>simp[aA,Tryz.results162, *]<;>omega)|refine T.rd (id:=23) mixed (fun _=>false) [] (by kernel_rfl) fun K hK=>?_|refine T.r0 fun K hK=>?_|refine T.r1 fun K hK=>?_|refine T.ct rfl ?_|refine T.cf rfl ?_|refine T.seq ?_|refine T.block ?_
  ·refine ah.ob Tryz.func162 Tryz.ntmps162 rfl ?_;repeat' first|((first|refine ab (hK _ ?_)|refine aD (hK _ ?_));clear hK K)|((first|refine ae ?_|refine aH ?_|refine aa rfl (hint) ?_|refine aa rfl (er) ?_|(refine aa ?_ (h1) ?_;(focus(solve|simp[hk])))|refine aa rfl (h2) ?_);simp[hk];(try(refine gen2 ?_ ?_<;>intro hq<;>(try simp[hk]at hq)<;>try(have:True:=hq;clear this hq))))|(refine T.ret (aB.a8 (Or.inr rfl) ?_)<;>simp[aA,Tryz.results162, *]<;>omega)|refine T.rd (id:=23) mixed (fun _=>false) [] (by kernel_rfl) fun K hK=>?_|refine T.r0 fun K hK=>?_|refine T.r1 fun K hK=>?_|refine T.ct rfl ?_|refine T.cf rfl ?_|refine T.seq ?_|refine T.block ?_
  ·exact absurd ⟨rfl,rfl⟩ hq
theorem HQ (ctx:List dF) (e:ao) (a b:aI) (hk:e.kind=10):WT ctx e [a,b] (cJ ctx e.kind e.name e.ty [a,b]):=by
 have hint:=c4 2;have er:=c4 3;have hb:=j4 5 a b;rw[show cJ ctx e.kind e.name e.ty [a,b]=some ([],.mk 5 [a,b]) by simp[cJ,hk]];refine⟨[],.mk 5 [a,b],by simp,?_⟩;simp only[abl];refine ah.ob Tryz.func162 Tryz.ntmps162 rfl ?_;repeat' first|((first|refine ab (hK _ ?_)|refine aD (hK _ ?_));clear hK K)|((first|refine ae ?_|refine aH ?_|refine aa rfl (hint) ?_|refine aa rfl (er) ?_|refine aa rfl (hb) ?_);simp[hk];(try(refine gen2 ?_ ?_<;>intro hq<;>try simp[hk]at hq)))|(refine T.ret (aB.a8 (Or.inr rfl) ?_)<;>simp[aA,Tryz.results162]<;>omega)|refine T.rd (id:=28) mixed (fun _=>false) [8] (by kernel_rfl) fun K hK=>?_|refine T.r0 fun K hK=>?_|refine T.r1 fun K hK=>?_|refine T.ct rfl ?_|refine T.cf rfl ?_|refine T.seq ?_|refine T.block ?_
theorem HR (ctx:List dF) (e:ao) (a:aI) (hk:e.kind=11) (ha:ak 4 a=true):WT ctx e [a] (cJ ctx e.kind e.name e.ty [a]):=by
 have hint:=c4 2;have er:=c4 3;have hm:=w9 5 (by omega) a (lu (.inr rfl) ha);rw[show cJ ctx e.kind e.name e.ty [a]=(db 5 a).map fun p=>([.mk 5 [p.1,p.2]],p.1) by simp[cJ,hk]];cases hr:db 5 a with
 |none=>
  rw[hr]at hm;have h2:=j4 5 bk bk;refine⟨[.mk 5 [bk,bk]],bk,by simp,?_⟩;simp only[abp,abm]at hm⊢;refine ah.ob Tryz.func162 Tryz.ntmps162 rfl ?_;repeat' first|((first|refine ab (hK _ ?_)|refine aD (hK _ ?_));clear hK K)|((first|refine ae ?_|refine aH ?_|refine aa rfl (hint) ?_|refine aa rfl (er) ?_|refine aa rfl (hm) ?_|(refine aa ?_ (h2) ?_;(focus(solve|simp[hk]))));simp[hk];(try(refine gen2 ?_ ?_<;>intro hq<;>try simp[hk]at hq)))|(refine T.ret (aB.a8 (Or.inr rfl) ?_)<;>simp[aA,Tryz.results162,aJ]<;>omega)|refine T.rd (id:=35) mixed (fun _=>false) [7] (by kernel_rfl) fun K hK=>?_|refine T.r0 fun K hK=>?_|refine T.r1 fun K hK=>?_|refine T.cf rfl ?_|refine T.seq ?_|refine T.block ?_|refine T.skip ?_
 |some p=>
  obtain⟨x,y⟩:=p;rw[hr]at hm;have h2:=j4 5 x y;refine⟨[.mk 5 [x,y]],x,by simp,?_⟩;simp only[abn,abl]at hm⊢;refine ah.ob Tryz.func162 Tryz.ntmps162 rfl ?_;repeat' first|((first|refine ab (hK _ ?_)|refine aD (hK _ ?_));clear hK K)|((first|refine ae ?_|refine aH ?_|refine aa rfl (hint) ?_|refine aa rfl (er) ?_|refine aa rfl (hm) ?_|refine aa rfl (h2) ?_);simp[hk];(try(refine gen2 ?_ ?_<;>intro hq<;>try simp[hk]at hq)))|(refine T.ret (aB.a8 (Or.inr rfl) ?_)<;>simp[aA,Tryz.results162,aJ]<;>omega)|refine T.rd (id:=35) mixed (fun _=>false) [7] (by kernel_rfl) fun K hK=>?_|refine T.r0 fun K hK=>?_|refine T.r1 fun K hK=>?_|refine T.cf rfl ?_|refine T.seq ?_|refine T.block ?_|refine T.skip ?_
theorem HS (ctx:List dF) (e:ao) (a:aI) (hk:e.kind=12) (ha:ak 4 a=true):WT ctx e [a] (cJ ctx e.kind e.name e.ty [a]):=by
 have hint:=c4 2;have er:=c4 3;have hm:=w9 5 (by omega) a (lu (.inr rfl) ha);rw[show cJ ctx e.kind e.name e.ty [a]=(db 5 a).map fun p=>([.mk 5 [p.1,p.2]],p.2) by simp[cJ,hk]];cases hr:db 5 a with
 |none=>
  rw[hr]at hm;have h2:=j4 5 bk bk;refine⟨[.mk 5 [bk,bk]],bk,by simp,?_⟩;simp only[abp,abm]at hm⊢;refine ah.ob Tryz.func162 Tryz.ntmps162 rfl ?_;repeat' first|((first|refine ab (hK _ ?_)|refine aD (hK _ ?_));clear hK K)|((first|refine ae ?_|refine aH ?_|refine aa rfl (hint) ?_|refine aa rfl (er) ?_|refine aa rfl (hm) ?_|(refine aa ?_ (h2) ?_;(focus(solve|simp[hk]))));simp[hk];(try(refine gen2 ?_ ?_<;>intro hq<;>try simp[hk]at hq)))|(refine T.ret (aB.a8 (Or.inr rfl) ?_)<;>simp[aA,Tryz.results162,aJ]<;>omega)|refine T.rd (id:=35) mixed (fun _=>false) [7] (by kernel_rfl) fun K hK=>?_|refine T.r0 fun K hK=>?_|refine T.r1 fun K hK=>?_|refine T.ct rfl ?_|refine T.cf rfl ?_|refine T.seq ?_|refine T.block ?_|refine T.skip ?_
 |some p=>
  obtain⟨x,y⟩:=p;rw[hr]at hm;have h2:=j4 5 x y;refine⟨[.mk 5 [x,y]],y,by simp,?_⟩;simp only[abn,abl]at hm⊢;refine ah.ob Tryz.func162 Tryz.ntmps162 rfl ?_;repeat' first|((first|refine ab (hK _ ?_)|refine aD (hK _ ?_));clear hK K)|((first|refine ae ?_|refine aH ?_|refine aa rfl (hint) ?_|refine aa rfl (er) ?_|refine aa rfl (hm) ?_|refine aa rfl (h2) ?_);simp[hk];(try(refine gen2 ?_ ?_<;>intro hq<;>try simp[hk]at hq)))|(refine T.ret (aB.a8 (Or.inr rfl) ?_)<;>simp[aA,Tryz.results162,aJ]<;>omega)|refine T.rd (id:=35) mixed (fun _=>false) [7] (by kernel_rfl) fun K hK=>?_|refine T.r0 fun K hK=>?_|refine T.r1 fun K hK=>?_|refine T.ct rfl ?_|refine T.cf rfl ?_|refine T.seq ?_|refine T.block ?_|refine T.skip ?_
theorem HT (ctx:List dF) (e:ao) (a:aI) (hk:e.kind=13) (ha:ak 4 a=true):WT ctx e [a] (cJ ctx e.kind e.name e.ty [a]):=by
 have hint:=c4 2;have er:=c4 3;have h1:=dH a e.ty (by have:=dc ha;omega);rw[show cJ ctx e.kind e.name e.ty [a]=if aG a e.ty=true then some ([e.ty],e.ty)else none by simp[cJ,hk]];refine⟨[e.ty],e.ty,?_,?_⟩
 ·intro p h;split at h<;>simp at h;exact h.symm
 rw[show(if aG a e.ty=true then some ([e.ty],e.ty)else none).isSome=aG a e.ty by cases aG a e.ty<;>rfl];generalize aG a e.ty=c at h1⊢;refine ah.ob Tryz.func162 Tryz.ntmps162 rfl ?_;repeat' first|((first|refine ab (hK _ ?_)|refine aD (hK _ ?_));clear hK K)|((first|refine ae ?_|refine aH ?_|refine aa rfl (hint) ?_|refine aa rfl (er) ?_|refine aa rfl (h1) ?_);simp[hk];(try(refine gen2 ?_ ?_<;>intro hq<;>try simp[hk]at hq)))|(refine T.ret (aB.a8 (Or.inr rfl) ?_)<;>simp[aA,Tryz.results162,aJ]<;>omega)|refine T.rd (id:=30) mixed (fun _=>false) [12] (by kernel_rfl) fun K hK=>?_|refine T.r0 fun K hK=>?_|refine T.r1 fun K hK=>?_|refine T.ct rfl ?_|refine T.cf rfl ?_|refine T.seq ?_|refine T.block ?_
@[simp] theorem P2:td aaR 165=some {ag:=true,sz:=1,lR:=8,zero:=some [.d (.int .i64 0)],el:=none,ar:=none,fl:=[(0,1)],ik:=none,cS:=false,nC:=false}:=dR (by kernel_rfl)
theorem Er (n:Int) (h0:0<=n) (hn:n<=1099511627776) (e:ao) (f t:aI) (hf:fA f<=1099511627776):
  ah aaR 163 [.c (.ptr 0 0),cM e,dE f,dE t] (dV [[.i n]]) (cM (qK n e f t).1) (dV [[.i (qK n e f t).2]]) []:=by
 have h1:=gL f t hf;simp only[qK];by_cases hq:dS f t=true
 ·rw[if_pos hq];rw[hq]at h1;refine ah.ob Tryz.func163 Tryz.ntmps163 rfl ?_;repeat' first|(refine ab (hK _ ?_);clear hK K)|((first|refine ae ?_|refine aa rfl (h1) ?_);simp;(try(refine gen2 ?_ ?_<;>intro hq<;>(try simp at hq)<;>try(have:True:=hq;clear this hq))))|refine T.r0 fun K hK=>?_|refine T.ct rfl ?_|refine T.seq ?_
  refine T.ret (aB.oY (Or.inr rfl) ?_ ?_ ?_)<;>simp[Tryz.results163]
 ·rw[if_neg hq];rw[show dS f t=false by simpa using hq]at h1;refine ah.ob Tryz.func163 Tryz.ntmps163 rfl ?_;repeat' first|((first|refine ab (hK _ ?_)|refine aD (hK _ ?_));clear hK K)|((first|refine ae ?_|refine aH ?_|refine aa rfl (h1) ?_);simp;(try simp(disch:=omega)only[wrap64]);(try(refine gen2 ?_ ?_<;>intro hq<;>(try simp at hq)<;>try(have:True:=hq;clear this hq))))|refine T.rd (id:=4) mixed (fun _=>false) [9] (by kernel_rfl) fun K hK=>?_|refine T.r0 fun K hK=>?_|refine T.cf rfl ?_|refine T.seq ?_|refine T.skip ?_
  refine T.ret (aB.oY (Or.inr rfl) ?_ ?_ ?_)<;>simp[Tryz.results163,al]
end Go.Proofs.YtloolmchekcmeaaGreat
namespace Go.Proofs.YtloolmchekcmeaaGreat
attribute [-simp] Go.Av.fb Go.Av.AV.eF Go.Av.CV.eF Go.Av.iW Go.Av.AV.dN Go.Av.CV.dN Go.Av.ch Go.Av.eY Go.Av.fw Go.Av.fi Go.Av.cY Go.Av.cb
open Go Go.Av
attribute [local irreducible] T ah TX EX LX bC dk bV ck gp aI.kind aI.kids ao.kind ao.name ao.num ao.ty ao.fr ao.label ao.kids
attribute [local simp] aJ al
set_option maxHeartbeats 16000000
set_option maxRecDepth 8000
attribute [local simp] abq
theorem y6 (ctx:List dF) (hl:ctx.length<=1099511627776) (e:ao) (ts:List aI) (hk:0<e.kind/\e.kind<14) (hlen:(ts.length:Int)=cm e.kind) (bZ:∀u∈ts,ak 4 u=true):
  WT ctx e ts (cJ ctx e.kind e.name e.ty ts):=by
 have C2:e.kind=1\/e.kind=2\/e.kind=3\/e.kind=4\/e.kind=5\/e.kind=6\/e.kind=7\/e.kind=8\/e.kind=9\/e.kind=10\/e.kind=11\/e.kind=12\/e.kind=13:=by omega
 have h0:cm e.kind=0->ts=[]:=fun h=>List.eq_nil_of_length_eq_zero (by omega)
 have h1:cm e.kind=1->∃a,ts=[a]:=fun h=>by
  match ts,hlen with
  |[a],_=>exact⟨a,rfl⟩
  |[],h'=>simp at h';omega
  |_::_::_,h'=>simp at h';omega
 have h2:cm e.kind=2->∃a b,ts=[a,b]:=fun h=>by
  match ts,hlen with
  |[a,b],_=>exact⟨a,b,rfl⟩
  |[],h'=>simp at h';omega
  |[_],h'=>simp at h';omega
  |_::_::_::_,h'=>simp at h';omega
 have h3:cm e.kind=3->∃a b c,ts=[a,b,c]:=fun h=>by
  match ts,hlen with
  |[a,b,c],_=>exact⟨a,b,c,rfl⟩
  |[],h'=>simp at h';omega
  |[_],h'=>simp at h';omega
  |[_,_],h'=>simp at h';omega
  |_::_::_::_::_,h'=>simp at h';omega
 rcases C2 with h|h|h|h|h|h|h|h|h|h|h|h|h
 ·obtain rfl:=h0 (by rw[h];rfl);exact JS ctx hl e h
 ·obtain rfl:=h0 (by rw[h];rfl);exact JT ctx e h
 ·obtain rfl:=h0 (by rw[h];rfl);exact JU ctx e h
 ·obtain rfl:=h0 (by rw[h];rfl);exact JV ctx e h
 ·obtain⟨a,rfl⟩:=h1 (by rw[h];rfl);exact JW ctx e a h
 ·obtain⟨a,b,rfl⟩:=h2 (by rw[h];rfl);exact JX ctx e a b h (bZ a (by simp)) (bZ b (by simp))
 ·obtain⟨a,b,rfl⟩:=h2 (by rw[h];rfl);exact JY ctx e a b h (bZ a (by simp)) (bZ b (by simp))
 ·obtain⟨a,b,rfl⟩:=h2 (by rw[h];rfl);exact JZ ctx e a b h (bZ a (by simp)) (bZ b (by simp))
 ·obtain⟨a,b,c,rfl⟩:=h3 (by rw[h];rfl);exact J0 ctx e a b c h (bZ a (by simp)) (bZ b (by simp)) (bZ c (by simp))
 ·obtain⟨a,b,rfl⟩:=h2 (by rw[h];rfl);exact HQ ctx e a b h
 ·obtain⟨a,rfl⟩:=h1 (by rw[h];rfl);exact HR ctx e a h (bZ a (by simp))
 ·obtain⟨a,rfl⟩:=h1 (by rw[h];rfl);exact HS ctx e a h (bZ a (by simp))
 ·obtain⟨a,rfl⟩:=h1 (by rw[h];rfl);exact HT ctx e a h (bZ a (by simp))
def mA (es:List ao) (ts:List aI):Option (List ao×List aI)×Int->Option (List ao×List aI)×Int
 |(none,n)=>(none,n)
 |(some (es',ts'),n)=>(some (es++es',ts++ts'),n)
theorem xc (r:Option (List ao×List aI)×Int):mA [] [] r=r:=by
 obtain⟨o,n⟩:=r;cases o<;>rfl
theorem u5 (es:List ao) (ts:List aI) (e:ao) (t:aI) (m:Int) (f:Int->Option (List ao×List aI)×Int):mA es ts (pI (some (e,t),m) f)=mA (es++[e]) (ts++[t]) (f m):=by
 simp only[pI];cases f m with
 |mk o n=>
  cases o with
  |none=>rfl
  |some p=>obtain⟨a,b⟩:=p;simp[mA]
theorem BQ {ctx:List dF} {k:Int} {s:List UInt8} {ty:aI} {ts ws:List aI} {t:aI} (h:cJ ctx k s ty ts=some (ws,t)):ws.length<=ts.length:=by
 simp only[cJ]at h;split at h
 ·obtain⟨_,_,h'⟩:=abo.1 h;cases h';simp
 split at h
 ·cases h<;>simp
 split at h
 ·cases h<;>simp
 split at h
 ·split at h
  ·cases h<;>simp
  split at h
  ·obtain⟨_,_,h'⟩:=abo.1 h;cases h';simp
  split at h
  ·obtain⟨_,_,h'⟩:=abo.1 h;cases h';simp
  split at h
  ·split at h<;>cases h<;>simp
  ·cases h
 ·split at h
  ·split at h
   ·split at h<;>cases h<;>simp
   ·cases h
  split at h
  ·split at h<;>cases h<;>simp
  split at h
  ·split at h<;>cases h<;>simp
  split at h
  ·cases h<;>simp
  ·cases h
 ·split at h
  ·split at h<;>cases h<;>simp
  ·cases h
 ·cases h
theorem xd {ctx:List dF} {e:ao} {ts ws:List aI} {t:aI} (hc:iF ctx) (he:cg e.kind=true->ak 4 e.ty=true) (bZ:∀u∈ts,ak 4 u=true) (h:cJ ctx e.kind e.name e.ty ts=some (ws,t)):fA t<=1000:=by
 have key:∀{t:aI},ak 4 t=true->fA t<=100:=fun h=>by have:=dc h;omega
 simp only[cJ]at h;split at h
 ·obtain⟨_,h1,h'⟩:=abo.1 h;cases h'
  obtain⟨b,h2,h3,_⟩:=pG h1;have:=key (hc b h2);rw[h3]at this;omega
 split at h
 ·cases h;simp[cA,cP]
 split at h
 ·cases h;simp[cA,cP]
 split at h
 ·rename_i a;have ha:=key (bZ a (by simp));split at h
  ·rename_i h5;cases h
   have:=key (he (by simp[cg,h5]));simp[cA,cP];omega
  split at h
  ·obtain⟨p,h1,h'⟩:=abo.1 h;obtain⟨x,y⟩:=p;cases h'
   have:=key (eN h1 (bZ a (by simp))).1;dsimp only;omega
  split at h
  ·obtain⟨p,h1,h'⟩:=abo.1 h;obtain⟨x,y⟩:=p;cases h'
   have:=key (eN h1 (bZ a (by simp))).2;dsimp only;omega
  split at h
  ·rename_i dG;split at h
   ·cases h
    have:=key (he (by simp[cg,dG]));omega
   ·cases h
  ·cases h
 ·rename_i a b;have ha:=key (bZ a (by simp));have hb:=key (bZ b (by simp));split at h
  ·split at h
   ·rename_i x y hm;split at h
    ·cases h
     have:=key (eN hm (bZ a (by simp))).2;omega
    ·cases h
   ·cases h
  split at h
  ·split at h
   ·cases h;simp[cA,cP]
   ·cases h
  split at h
  ·split at h
   ·cases h;simp[cA,cP]
   ·cases h
  split at h
  ·cases h;simp[cA,cP];omega
  ·cases h
 ·rename_i a b c;split at h
  ·split at h
   ·rename_i hq;cases h
    have:=key (nW 4 b c (bZ b (by simp)) (bZ c (by simp)) hq.2);omega
   ·cases h
  ·cases h
 ·cases h
theorem y7 (c:Int) (es:List ao) (ts:List aI):jc c es ts []=(es,c):=by
 cases es<;>cases ts<;>rfl
theorem HU (ctx:List dF) (hl:ctx.length<=1073741824) (e:ao) (hk:0<e.kind/\e.kind<14) (h5:e.kind≠5) (n:Int) (hlen:cm e.kind=e.kids.length)
  (h0:0<=n) (hn:n+eR e<=1073741824) (hc:iF ctx) (zR:cg e.kind=true->ak 4 e.ty=true)
  (hs:∀u∈e.kids,∀(n:Int) x t m,gu ctx u n=(some (x,t),m)->ak 4 t=true)
  (ih:∀u∈e.kids,∀n:Int,0<=n->n+eR u<=1073741824->ah aaR 142 [.c (.ptr 0 0),kL ctx,cM u] (dV [[.i n]]) (.a8 (jt (gu ctx u n).1)) (dV [[.i (gu ctx u n).2]]) []):
  ah aaR 142 [.c (.ptr 0 0),kL ctx,cM e] (dV [[.i n]]) (.a8 (jt (nZ ctx e.kind e.name e.num e.ty e.fr e.label (eT ctx e.kids n)).1)) (dV [[.i (nZ ctx e.kind e.name e.num e.ty e.fr e.label (eT ctx e.kids n)).2]]) []:=by
 obtain⟨R,hR⟩:∃R,eT ctx e.kids n=R:=⟨_,rfl⟩;rw[hR];have Ct:e.kids.length<=3:=by have:=sd e.kind;omega
 have U0:n+eW e.kids<=1073741824:=by rw[iJ]at hn;omega
 refine ah.ob Tryz.func142 Tryz.ntmps142 rfl ?_;repeat' first|(refine ab (hK _ ?_);clear hK K)|(refine ae ?_;simp[h5];(try(refine gen2 ?_ ?_<;>intro hq<;>try simp[h5]at hq)))|refine T.r0 fun K hK=>?_|refine T.cf rfl ?_|refine T.seq ?_|refine T.block ?_|refine T.skip ?_
 refine T.dq 4 8 9 28 (row:=[.d (.i e.kind),.d (.str e.name),.d (.i e.num),.d (.i e.ty.kind),.d (.sl (e.ty.kids.map ck)),.d (.i e.fr.kind),.d (.sl (e.fr.kids.map ck)),.d (.i e.label),.nil]) (by simp) (by simp) ?_;refine T.px 11 2 25 (by simp) ?_
 refine T.dD (α:=Nat×List ao×List aI×Int×List (List CV)) [0,1,5,6,7,9,10,38,39] (fun x=>[(8,.b false),(11,.c (.own 1 x.1)),(40,.i x.1)]) (fun x=>[(0,[.d (.i x.2.2.2.1)]),(4,[.d (.i e.kind),.d (.str e.name),.d (.i e.num),.d (.i e.ty.kind),.d (.sl (e.ty.kids.map ck)),.d (.i e.fr.kind),.d (.sl (e.fr.kids.map ck)),.d (.i e.label),.own 0 x.1])]) (fun x=>x.2.2.2.2) (fun x _=>[{sz:=9,ev:=28,rows:=x.2.1.map gp,wr:=true},{sz:=2,ev:=25,rows:=x.2.2.1.map ck,wr:=true}]) (fun x=>e.kids.length+1-x.1)
  (fun x=>x.1<=e.kids.length/\x.2.1.length=x.1/\x.2.2.1.length=x.1/\(∀u∈x.2.2.1,ak 4 u=true)/\0<=x.2.2.2.1/\x.2.2.2.1+eW (e.kids.drop x.1)<=1073741824/\mA x.2.1 x.2.2.1 (eT ctx (e.kids.drop x.1) x.2.2.2.1)=R) (by simp;rfl) (fun x hx=>?_) (0,[],[],n,[]) (by simp[xc,hR];omega) (by simp) (by simp) (by simp)
 obtain⟨p,es,ts,c,G⟩:=x;obtain⟨hi,HV,bZ,jY,L6,J1,he⟩:=hx;dsimp only at hi HV bZ jY L6 J1 he⊢;simp only[gy,aaY,aaZ,aaT,aaS];by_cases ay:p<e.kids.length
 ·obtain⟨u,ht⟩:=bM ay;have eA:u∈e.kids:=aaX ht;have aX:e.kids[p]=u:=by rw[aaV ay]at ht;exact Option.some.inj ht
  have gz:e.kids.drop p=u::e.kids.drop (p+1):=by rw[aaW ay,aX]
  rw[gz]at he J1;simp only[eW]at J1;have hu:=ih u eA c L6 (by omega);have hle:=Eh u ctx c;rw[eT]at he;cases hb:gu ctx u c with
  |mk o m=>
   rw[hb]at hu he hle;cases o with
   |none=>
    simp only[pI,mA]at he;subst he;simp only[nZ,jt]at hu⊢;repeat' first|(refine ab (hK _ ?_);clear hK K)|(refine ae ?_;simp[ay,aX];(try simp(disch:=omega)only[wrap64]);(try(refine gen2 ?_ ?_<;>intro hq<;>try simp[ay,aX]at hq)))|(refine kp [0] (by simp) rfl rfl hu ?_;simp)|refine T.r0 fun K hK=>?_|refine T.ct rfl ?_|refine T.seq ?_|refine T.block ?_|refine T.skip ?_
    all_goals(first|refine T.ret (aB.gt (Or.inr rfl) ?_ ?_)|refine T.ret (aB.g1 (Or.inr rfl) ?_ ?_))<;>(simp[aA,Tryz.results142])
   |some q=>
    obtain⟨x,t⟩:=q;have jG:=hs u eA c x t m hb;simp only[jt]at hu hle;rw[u5]at he;repeat' first|((first|refine ab (hK _ ?_)|refine jd (hK _ ?_));clear hK K)|((first|refine ae ?_|refine kA ?_);simp[ay,aX,HV,bZ];(try simp(disch:=omega)only[wrap64]);(try(refine gen2 ?_ ?_<;>intro hq<;>try simp[ay,aX,HV,bZ]at hq)))|(refine kp [0] (by simp) rfl rfl hu ?_;simp)|(refine⟨by omega,by omega,?_⟩)|refine T.Hw (id:=13) mixed (fun _=>false) [4,8,10] [6,7] 5 [4] [0] (by kernel_rfl) fun K hK=>?_|refine T.r0 fun K hK=>?_|refine T.r1 fun K hK=>?_|refine T.ct rfl ?_|refine T.cf rfl ?_|refine T.seq ?_|refine T.block ?_|refine T.skip ?_
    refine⟨(p+1,es++[x],ts++[t],m,_),by dsimp only;omega,⟨by dsimp only;omega,by simp[HV],by simp[bZ],fun v hv=>?_,by dsimp only at hle⊢;omega,by dsimp only at hle⊢;omega,he⟩,rfl,?_,?_⟩
    ·rcases aa9.1 hv with h|h
     ·exact jY v h
     ·simp at h;subst h;exact jG
    ·simp[al,aJ]
    ·simp(disch:=omega) [wrap64]
 ·have fa:p=e.kids.length:=by omega
  subst fa;simp[eT,mA]at he;subst he;obtain⟨ws,t,L7,z7⟩:=y6 ctx (by omega) e ts hk (by rw[bZ];exact hlen.symm) jY;cases zx:cJ ctx e.kind e.name e.ty ts with
  |none=>
   rw[zx]at z7;simp only[abm]at z7;simp only[nZ,zx,jt];repeat' first|(refine ab (hK _ ?_);clear hK K)|((first|refine ae ?_|(refine aa ?_ (z7) ?_;(focus(solve|simp[ay,bZ]))));simp[ay,bZ];(try(refine gen2 ?_ ?_<;>intro hq<;>try simp[ay,bZ]at hq)))|refine T.r0 fun K hK=>?_|refine T.ct rfl ?_|refine T.cf rfl ?_|refine T.seq ?_|refine T.exit ?_
   all_goals(first|refine T.ret (aB.gt (Or.inr rfl) ?_ ?_)|refine T.ret (aB.g1 (Or.inr rfl) ?_ ?_))<;>(simp[aA,Tryz.results142])
  |some q=>
   obtain rfl:=L7 q zx;rw[zx]at z7;simp only[abl]at z7;have RB:fA t<=1099511627776:=by have:=xd hc zR jY zx;omega
   have J3:=hP t RB;cases o4:ak 4 t with
   |false=>
    rw[o4]at J3;simp only[nZ,zx,o4,jt];repeat' first|(refine ab (hK _ ?_);clear hK K)|((first|refine ae ?_|(refine aa ?_ (z7) ?_;(focus(solve|simp[ay,bZ])))|refine aa rfl (J3) ?_);simp[ay,bZ];(try(refine gen2 ?_ ?_<;>intro hq<;>try simp[ay,bZ]at hq)))|refine T.r0 fun K hK=>?_|refine T.ct rfl ?_|refine T.cf rfl ?_|refine T.seq ?_|refine T.exit ?_
    all_goals(first|refine T.ret (aB.gt (Or.inr rfl) ?_ ?_)|refine T.ret (aB.g1 (Or.inr rfl) ?_ ?_))<;>(simp[aA,Tryz.results142])
   |true=>
    rw[o4]at J3;have vH:=BQ zx;repeat' first|(refine ab (hK _ ?_);clear hK K)|((first|refine ae ?_|(refine aa ?_ (z7) ?_;(focus(solve|simp[ay,bZ])))|refine aa rfl (J3) ?_);simp[ay,bZ];(try(refine gen2 ?_ ?_<;>intro hq<;>try simp[ay,bZ]at hq)))|refine T.r0 fun K hK=>?_|refine T.cf rfl ?_|refine T.seq ?_|refine T.block ?_|refine T.skip ?_|refine T.exit ?_
    obtain⟨F,hF⟩:∃F,jc c es ts ws=F:=⟨_,rfl⟩;rw[show nZ ctx e.kind e.name e.num e.ty e.fr e.label (some (es,ts),c)=(if e.kind=13 then(F.1.head?.map fun x=>(x,t),F.2)else(some (.mk e.kind e.name e.num e.ty e.fr e.label F.1,t),F.2)) by simp only[nZ,zx,hF];simp[o4]]
    refine T.dD (α:=Nat×List ao×Int×List (List CV)) [0,5,6,7,8,10,11,18,84,85] (fun x=>[(86,.i x.1)]) (fun x=>[(0,[.d (.i x.2.2.1)])]) (fun x=>x.2.2.2) (fun x _=>[{sz:=9,ev:=28,rows:=x.2.1.map gp,wr:=true},{sz:=2,ev:=25,rows:=ts.map ck,wr:=false}]) (fun x=>ws.length+1-x.1)
     (fun x=>x.1<=ws.length/\x.2.1.length=ts.length/\0<=x.2.2.1/\x.2.2.1<=c+x.1/\(x.2.1.take x.1++(jc x.2.2.1 (x.2.1.drop x.1) (ts.drop x.1) (ws.drop x.1)).1,(jc x.2.2.1 (x.2.1.drop x.1) (ts.drop x.1) (ws.drop x.1)).2)=F) (by simp;rfl) (fun x hx=>?_) (0,es,c,[]) (by simp[HV,bZ,hF,L6]) (by simp) (by simp) (by simp)
    clear hF;obtain⟨p,cur,c2,G2⟩:=x;obtain⟨hp,kS,HW,GU,Dk⟩:=hx;dsimp only at hp kS HW GU Dk⊢;simp only[gy,aaY,aaZ,aaT,aaS];by_cases lZ:p<ws.length
    ·have zK:p<ts.length:=by omega
     have J4:p<cur.length:=by omega
     obtain⟨w,hw⟩:∃w,ws[p]=w:=⟨_,rfl⟩;obtain⟨h,hh⟩:∃h,ts[p]=h:=⟨_,rfl⟩;obtain⟨x,hx⟩:∃x,cur[p]=x:=⟨_,rfl⟩;rw[drop_cons lZ,drop_cons zK,drop_cons J4,hw,hh,hx]at Dk;have RC:h∈ts:=by rw[<-hh];exact aa5 zK
     have BR:=Er c2 HW (by omega) x h w (by have:=dc (jY h RC);omega);have L8:=wF c2 x h w;simp only[jc]at Dk;have jG:∀y,(cur.set p y).take (p+1)=cur.take p++[y]:=fun y=>by rw[aa2,abc J4,aa6 (abg p)];rfl
     have RD:∀y,(cur.set p y).drop (p+1)=cur.drop (p+1):=fun y=>by rw[abd];simp
     generalize qK c2 x h w=CM at*;obtain⟨y,m⟩:=CM;dsimp only at Dk L8 BR;have OG:p<e.kids.length:=by omega
     repeat' first|((first|refine ab (hK _ ?_)|refine jd (hK _ ?_));clear hK K)|((first|refine ae ?_|refine kA ?_);simp[lZ,zK,J4,OG,hw,hh,hx,bZ,kS];(try simp(disch:=omega)only[wrap64]);(try(refine gen2 ?_ ?_<;>intro hq<;>try simp[lZ,zK,J4,OG,hw,hh,hx,bZ,kS]at hq)))|(refine kp [0] (by simp) rfl rfl BR ?_;simp)|refine T.Hw (id:=21) mixed (fun _=>false) [14,16] [1] 15 [0] [] (by kernel_rfl) fun K hK=>?_|refine T.r0 fun K hK=>?_|refine T.r1 fun K hK=>?_|refine T.ct rfl ?_|refine T.seq ?_|refine T.block ?_|refine T.skip ?_
     refine⟨(p+1,cur.set p y,m,_),by dsimp only;omega,⟨by dsimp only;omega,by simp[kS],by dsimp only;omega,by dsimp only;omega,by dsimp only;rw[jG,RD];simpa using Dk⟩,(by simp only[gy,aaY,aaT,aa0,aaS];rfl),?_,?_⟩
     ·simp[al]
     ·simp(disch:=omega) [wrap64]
    ·have M8:p=ws.length:=by omega
     subst M8;rw[abe,y7,aa7]at Dk;subst Dk;by_cases dG:e.kind=13
     ·rw[if_pos dG];have vV:cur.length=1:=by rw[kS,bZ];rw[dG]at hlen;simp[cm]at hlen;omega
      match cur,vV with
      |[x],_=>
       simp only[List.head?_cons,abn,jt];have jn:e.kids.length=1:=by simp at kS;omega
       repeat' first|((first|refine ab (hK _ ?_)|refine jd (hK _ ?_));clear hK K)|((first|refine ae ?_|refine kA ?_);simp[lZ,dG,jn];(try(refine gen2 ?_ ?_<;>intro hq<;>try simp[lZ,dG,jn]at hq)))|refine T.Rh (id:=24) mixed (fun _=>false) [5,6] [4] 6 [2] [] (by kernel_rfl) fun K hK=>?_|refine T.r0 fun K hK=>?_|refine T.ct rfl ?_|refine T.cf rfl ?_|refine T.seq ?_|refine T.exit ?_
       all_goals(first|refine T.ret (aB.gt (Or.inr rfl) ?_ ?_)|refine T.ret (aB.g1 (Or.inr rfl) ?_ ?_))<;>(simp[aA,Tryz.results142])
     ·rw[if_neg dG];simp only[jt];repeat' first|((first|refine ab (hK _ ?_)|refine jd (hK _ ?_));clear hK K)|((first|refine ae ?_|refine kA ?_);simp[lZ,dG,kS,bZ];(try(refine gen2 ?_ ?_<;>intro hq<;>try simp[lZ,dG,kS,bZ]at hq)))|refine T.Rh (id:=25) mixed (fun _=>false) [2,3] [1] 3 [2] [] (by kernel_rfl) fun K hK=>?_|refine T.r0 fun K hK=>?_|refine T.cf rfl ?_|refine T.seq ?_|refine T.skip ?_|refine T.exit ?_
      all_goals(first|refine T.ret (aB.gt (Or.inr rfl) ?_ ?_)|refine T.ret (aB.g1 (Or.inr rfl) ?_ ?_))<;>(simp[aA,Tryz.results142,kS,bZ])
theorem HX (ctx:List dF) (hl:ctx.length<=1073741824) (e:ao) (hk:0<e.kind/\e.kind<14) (h5:e.kind=5) (ins:List dF) (L9:ins=ctx++[⟨e.name,e.ty⟩]) (n:Int) (hlen:cm e.kind=e.kids.length)
  (h0:0<=n) (hn:n+eR e<=1073741824) (hc:iF ctx) (zR:cg e.kind=true->ak 4 e.ty=true)
  (hs:∀u∈e.kids,∀(n:Int) x t m,gu ins u n=(some (x,t),m)->ak 4 t=true)
  (ih:∀u∈e.kids,∀n:Int,0<=n->n+eR u<=1073741824->ah aaR 142 [.c (.ptr 0 0),kL ins,cM u] (dV [[.i n]]) (.a8 (jt (gu ins u n).1)) (dV [[.i (gu ins u n).2]]) []):
  ah aaR 142 [.c (.ptr 0 0),kL ctx,cM e] (dV [[.i n]]) (.a8 (jt (nZ ctx e.kind e.name e.num e.ty e.fr e.label (eT ins e.kids n)).1)) (dV [[.i (nZ ctx e.kind e.name e.num e.ty e.fr e.label (eT ins e.kids n)).2]]) []:=by
 obtain⟨R,hR⟩:∃R,eT ins e.kids n=R:=⟨_,rfl⟩;rw[hR];have Ct:e.kids.length<=3:=by have:=sd e.kind;omega
 have U0:n+eW e.kids<=1073741824:=by rw[iJ]at hn;omega
 refine ah.ob Tryz.func142 Tryz.ntmps142 rfl ?_;repeat' first|((first|refine ab (hK _ ?_)|refine jd (hK _ ?_));clear hK K)|((first|(first|refine ae ?_|refine kA ?_)|refine ff rfl (BP ctx (by omega)) ?_);simp[h5];(try(refine gen2 ?_ ?_<;>intro hq<;>try simp[h5]at hq)))|(refine⟨by omega,by omega,?_⟩)|refine T.Hw (id:=3) mixed (fun _=>false) [1,8] [3,5,6,7] 2 [] [] (by kernel_rfl) fun K hK=>?_|refine T.r0 fun K hK=>?_|refine T.ct rfl ?_|refine T.seq ?_|refine T.block ?_
 refine T.seal 9 0 (ctx.length+1) (r:={sz:=3,ev:=146,rows:=ins.map iE,wr:=true}) (by simp) (by simp[L9,iE]) (by simp[L9]) ?_;clear L9;refine T.dq 4 8 9 28 (row:=[.d (.i 5),.d (.str e.name),.d (.i e.num),.d (.i e.ty.kind),.d (.sl (e.ty.kids.map ck)),.d (.i e.fr.kind),.d (.sl (e.fr.kids.map ck)),.d (.i e.label),.nil]) (by simp) (by simp) ?_;refine T.px 11 2 25 (by simp) ?_
 refine T.dD (α:=Nat×List ao×List aI×Int×List (List CV)) [0,1,5,6,7,9,10,38,39] (fun x=>[(8,.b false),(11,.c (.own 2 x.1)),(40,.i x.1)]) (fun x=>[(0,[.d (.i x.2.2.2.1)]),(4,[.d (.i 5),.d (.str e.name),.d (.i e.num),.d (.i e.ty.kind),.d (.sl (e.ty.kids.map ck)),.d (.i e.fr.kind),.d (.sl (e.fr.kids.map ck)),.d (.i e.label),.own 1 x.1])]) (fun x=>x.2.2.2.2) (fun x _=>[{sz:=3,ev:=146,rows:=ins.map iE,wr:=false},{sz:=9,ev:=28,rows:=x.2.1.map gp,wr:=true},{sz:=2,ev:=25,rows:=x.2.2.1.map ck,wr:=true}]) (fun x=>e.kids.length+1-x.1)
  (fun x=>x.1<=e.kids.length/\x.2.1.length=x.1/\x.2.2.1.length=x.1/\(∀u∈x.2.2.1,ak 4 u=true)/\0<=x.2.2.2.1/\x.2.2.2.1+eW (e.kids.drop x.1)<=1073741824/\mA x.2.1 x.2.2.1 (eT ins (e.kids.drop x.1) x.2.2.2.1)=R) (by simp;rfl) (fun x hx=>?_) (0,[],[],n,[]) (by simp[xc,hR];omega) (by simp) (by simp) (by simp)
 obtain⟨p,es,ts,c,G⟩:=x;obtain⟨hi,HV,bZ,jY,L6,J1,he⟩:=hx;dsimp only at hi HV bZ jY L6 J1 he⊢;simp only[gy,aaY,aaZ,aaT,aaS];by_cases ay:p<e.kids.length
 ·obtain⟨u,ht⟩:=bM ay;have eA:u∈e.kids:=aaX ht;have aX:e.kids[p]=u:=by rw[aaV ay]at ht;exact Option.some.inj ht
  have gz:e.kids.drop p=u::e.kids.drop (p+1):=by rw[aaW ay,aX]
  rw[gz]at he J1;simp only[eW]at J1;have hu:=ih u eA c L6 (by omega);have hle:=Eh u ins c;rw[eT]at he;cases hb:gu ins u c with
  |mk o m=>
   rw[hb]at hu he hle;cases o with
   |none=>
    simp only[pI,mA]at he;subst he;simp only[nZ,jt]at hu⊢;repeat' first|(refine ab (hK _ ?_);clear hK K)|(refine ae ?_;simp[ay,aX];(try simp(disch:=omega)only[wrap64]);(try(refine gen2 ?_ ?_<;>intro hq<;>try simp[ay,aX]at hq)))|(refine kp [0] (by simp) rfl rfl hu ?_;simp)|refine T.r0 fun K hK=>?_|refine T.ct rfl ?_|refine T.seq ?_|refine T.block ?_|refine T.skip ?_
    all_goals(first|refine T.ret (aB.gt (Or.inr rfl) ?_ ?_)|refine T.ret (aB.g1 (Or.inr rfl) ?_ ?_))<;>(simp[aA,Tryz.results142])
   |some q=>
    obtain⟨x,t⟩:=q;have jG:=hs u eA c x t m hb;simp only[jt]at hu hle;rw[u5]at he;repeat' first|((first|refine ab (hK _ ?_)|refine jd (hK _ ?_));clear hK K)|((first|refine ae ?_|refine kA ?_);simp[ay,aX,HV,bZ];(try simp(disch:=omega)only[wrap64]);(try(refine gen2 ?_ ?_<;>intro hq<;>try simp[ay,aX,HV,bZ]at hq)))|(refine kp [0] (by simp) rfl rfl hu ?_;simp)|(refine⟨by omega,by omega,?_⟩)|refine T.Hw (id:=13) mixed (fun _=>false) [4,8,10] [6,7] 5 [4] [1] (by kernel_rfl) fun K hK=>?_|refine T.r0 fun K hK=>?_|refine T.r1 fun K hK=>?_|refine T.ct rfl ?_|refine T.cf rfl ?_|refine T.seq ?_|refine T.block ?_|refine T.skip ?_
    refine⟨(p+1,es++[x],ts++[t],m,_),by dsimp only;omega,⟨by dsimp only;omega,by simp[HV],by simp[bZ],fun v hv=>?_,by dsimp only at hle⊢;omega,by dsimp only at hle⊢;omega,he⟩,rfl,?_,?_⟩
    ·rcases aa9.1 hv with h|h
     ·exact jY v h
     ·simp at h;subst h;exact jG
    ·simp[al,aJ]
    ·simp(disch:=omega) [wrap64]
 ·have fa:p=e.kids.length:=by omega
  subst fa;simp[eT,mA]at he;subst he;obtain⟨ws,t,L7,z7⟩:=y6 ctx (by omega) e ts hk (by rw[bZ];exact hlen.symm) jY;cases zx:cJ ctx e.kind e.name e.ty ts with
  |none=>
   rw[zx]at z7;simp only[abm]at z7;simp only[nZ,zx,jt];repeat' first|(refine ab (hK _ ?_);clear hK K)|((first|refine ae ?_|(refine aa ?_ (z7) ?_;(focus(solve|simp[ay,bZ,h5]))));simp[ay,bZ,h5];(try(refine gen2 ?_ ?_<;>intro hq<;>try simp[ay,bZ,h5]at hq)))|refine T.r0 fun K hK=>?_|refine T.ct rfl ?_|refine T.cf rfl ?_|refine T.seq ?_|refine T.exit ?_
   all_goals(first|refine T.ret (aB.gt (Or.inr rfl) ?_ ?_)|refine T.ret (aB.g1 (Or.inr rfl) ?_ ?_))<;>(simp[aA,Tryz.results142])
  |some q=>
   obtain rfl:=L7 q zx;rw[zx]at z7;simp only[abl]at z7;have RB:fA t<=1099511627776:=by have:=xd hc zR jY zx;omega
   have J3:=hP t RB;cases o4:ak 4 t with
   |false=>
    rw[o4]at J3;simp only[nZ,zx,o4,jt];repeat' first|(refine ab (hK _ ?_);clear hK K)|((first|refine ae ?_|(refine aa ?_ (z7) ?_;(focus(solve|simp[ay,bZ,h5])))|refine aa rfl (J3) ?_);simp[ay,bZ,h5];(try(refine gen2 ?_ ?_<;>intro hq<;>try simp[ay,bZ,h5]at hq)))|refine T.r0 fun K hK=>?_|refine T.ct rfl ?_|refine T.cf rfl ?_|refine T.seq ?_|refine T.exit ?_
    all_goals(first|refine T.ret (aB.gt (Or.inr rfl) ?_ ?_)|refine T.ret (aB.g1 (Or.inr rfl) ?_ ?_))<;>(simp[aA,Tryz.results142])
   |true=>
    rw[o4]at J3;have vH:=BQ zx;repeat' first|(refine ab (hK _ ?_);clear hK K)|((first|refine ae ?_|(refine aa ?_ (z7) ?_;(focus(solve|simp[ay,bZ,h5])))|refine aa rfl (J3) ?_);simp[ay,bZ,h5];(try(refine gen2 ?_ ?_<;>intro hq<;>try simp[ay,bZ,h5]at hq)))|refine T.r0 fun K hK=>?_|refine T.cf rfl ?_|refine T.seq ?_|refine T.block ?_|refine T.skip ?_|refine T.exit ?_
    obtain⟨F,hF⟩:∃F,jc c es ts ws=F:=⟨_,rfl⟩;rw[show nZ ctx e.kind e.name e.num e.ty e.fr e.label (some (es,ts),c)=(if e.kind=13 then(F.1.head?.map fun x=>(x,t),F.2)else(some (.mk e.kind e.name e.num e.ty e.fr e.label F.1,t),F.2)) by simp only[nZ,zx,hF];simp[o4]]
    refine T.dD (α:=Nat×List ao×Int×List (List CV)) [0,5,6,7,8,10,11,18,84,85] (fun x=>[(86,.i x.1)]) (fun x=>[(0,[.d (.i x.2.2.1)])]) (fun x=>x.2.2.2) (fun x _=>[{sz:=3,ev:=146,rows:=ins.map iE,wr:=false},{sz:=9,ev:=28,rows:=x.2.1.map gp,wr:=true},{sz:=2,ev:=25,rows:=ts.map ck,wr:=false}]) (fun x=>ws.length+1-x.1)
     (fun x=>x.1<=ws.length/\x.2.1.length=ts.length/\0<=x.2.2.1/\x.2.2.1<=c+x.1/\(x.2.1.take x.1++(jc x.2.2.1 (x.2.1.drop x.1) (ts.drop x.1) (ws.drop x.1)).1,(jc x.2.2.1 (x.2.1.drop x.1) (ts.drop x.1) (ws.drop x.1)).2)=F) (by simp;rfl) (fun x hx=>?_) (0,es,c,[]) (by simp[HV,bZ,hF,L6]) (by simp) (by simp) (by simp)
    clear hF;obtain⟨p,cur,c2,G2⟩:=x;obtain⟨hp,kS,HW,GU,Dk⟩:=hx;dsimp only at hp kS HW GU Dk⊢;simp only[gy,aaY,aaZ,aaT,aaS];by_cases lZ:p<ws.length
    ·have zK:p<ts.length:=by omega
     have J4:p<cur.length:=by omega
     obtain⟨w,hw⟩:∃w,ws[p]=w:=⟨_,rfl⟩;obtain⟨h,hh⟩:∃h,ts[p]=h:=⟨_,rfl⟩;obtain⟨x,hx⟩:∃x,cur[p]=x:=⟨_,rfl⟩;rw[drop_cons lZ,drop_cons zK,drop_cons J4,hw,hh,hx]at Dk;have RC:h∈ts:=by rw[<-hh];exact aa5 zK
     have BR:=Er c2 HW (by omega) x h w (by have:=dc (jY h RC);omega);have L8:=wF c2 x h w;simp only[jc]at Dk;have jG:∀y,(cur.set p y).take (p+1)=cur.take p++[y]:=fun y=>by rw[aa2,abc J4,aa6 (abg p)];rfl
     have RD:∀y,(cur.set p y).drop (p+1)=cur.drop (p+1):=fun y=>by rw[abd];simp
     generalize qK c2 x h w=CM at*;obtain⟨y,m⟩:=CM;dsimp only at Dk L8 BR;have OG:p<e.kids.length:=by omega
     repeat' first|((first|refine ab (hK _ ?_)|refine jd (hK _ ?_));clear hK K)|((first|refine ae ?_|refine kA ?_);simp[lZ,zK,J4,OG,hw,hh,hx,bZ,kS];(try simp(disch:=omega)only[wrap64]);(try(refine gen2 ?_ ?_<;>intro hq<;>try simp[lZ,zK,J4,OG,hw,hh,hx,bZ,kS]at hq)))|(refine kp [0] (by simp) rfl rfl BR ?_;simp)|refine T.Hw (id:=21) mixed (fun _=>false) [14,16] [1] 15 [0] [] (by kernel_rfl) fun K hK=>?_|refine T.r0 fun K hK=>?_|refine T.r1 fun K hK=>?_|refine T.ct rfl ?_|refine T.seq ?_|refine T.block ?_|refine T.skip ?_
     refine⟨(p+1,cur.set p y,m,_),by dsimp only;omega,⟨by dsimp only;omega,by simp[kS],by dsimp only;omega,by dsimp only;omega,by dsimp only;rw[jG,RD];simpa using Dk⟩,(by simp only[gy,aaY,aaT,aa0,aaS];rfl),?_,?_⟩
     ·simp[al]
     ·simp(disch:=omega) [wrap64]
    ·have M8:p=ws.length:=by omega
     subst M8;rw[abe,y7,aa7]at Dk;subst Dk;by_cases dG:e.kind=13
     ·exact absurd dG (by omega)
     ·rw[if_neg dG];simp only[jt];repeat' first|((first|refine ab (hK _ ?_)|refine jd (hK _ ?_));clear hK K)|((first|refine ae ?_|refine kA ?_);simp[lZ,h5,kS,bZ];(try(refine gen2 ?_ ?_<;>intro hq<;>try simp[lZ,h5,kS,bZ]at hq)))|refine T.Rh (id:=25) mixed (fun _=>false) [2,3] [1] 3 [2] [] (by kernel_rfl) fun K hK=>?_|refine T.r0 fun K hK=>?_|refine T.cf rfl ?_|refine T.seq ?_|refine T.skip ?_|refine T.exit ?_
      all_goals(first|refine T.ret (aB.gt (Or.inr rfl) ?_ ?_)|refine T.ret (aB.g1 (Or.inr rfl) ?_ ?_))<;>(simp[aA,Tryz.results142,kS,bZ,h5])
theorem J5:∀(e:ao) (d:Nat) (ctx:List dF) (n:Int),bm 14 d e=true->ctx.length+d<=1073741824->iF ctx->0<=n->n+eR e<=1073741824->
  ah aaR 142 [.c (.ptr 0 0),kL ctx,cM e] (dV [[.i n]]) (.a8 (jt (gu ctx e n).1)) (dV [[.i (gu ctx e n).2]]) []:=by
 intro e;induction e using ao.ind with
 |h e ih=>
  intro d ctx n hs hl hc h0 hn;obtain⟨d',rfl,di,hlen,dQ,jb⟩:=fQ hs;have hb:=Bv e.kind _ hlen;have b8:iF (cx ctx e):=by
   simp only[cx];split
   ·rename_i h5;exact hc.app (hM dQ (by simp[cg,h5]))
   ·exact hc
  have AF:(cx ctx e).length<=ctx.length+1:=by simp only[cx];split<;>simp
  have jY:∀u∈e.kids,∀(n:Int) x t m,gu (cx ctx e) u n=(some (x,t),m)->ak 4 t=true:=by
   intro u hu n x t m h;have h1:=yK u d' (cx ctx e) n (jb u hu) b8;rw[h]at h1;exact gI u d' 14 _ t (jb u hu) b8 (by simpa using h1.symm)
  have RE:∀u∈e.kids,∀n:Int,0<=n->n+eR u<=1073741824->ah aaR 142 [.c (.ptr 0 0),kL (cx ctx e),cM u] (dV [[.i n]]) (.a8 (jt (gu (cx ctx e) u n).1)) (dV [[.i (gu (cx ctx e) u n).2]]) []:=
   fun u hu n h0 hn=>ih u hu d' (cx ctx e) n (jb u hu) (by omega) b8 h0 hn
  rw[tK];by_cases h5:e.kind=5
  ·exact HX ctx (by omega) e ⟨by omega,by omega⟩ h5 (cx ctx e) (by simp[cx,h5]) n hlen h0 hn hc (hM dQ) jY RE
  ·have hi:cx ctx e=ctx:=by simp[cx,h5]
   rw[hi]at jY RE⊢;exact HU ctx (by omega) e ⟨by omega,by omega⟩ h5 n hlen h0 hn hc (hM dQ) jY RE
theorem ib (e:ao) (hn:eR e<=1099511627776):ah aaR 38 [cM e] [] (.b (aQ e)) [] []:=by
 have h:=Ei 30 12 14 (by omega) (by omega) e hn 1 0 (by omega) (by omega) (by omega);have hl:=(yF 30 12 14 e 12 0 (by omega) (by omega)).1;have hr:(jD 30 12 14 1 e 0).1=aQ e:=by
  rw[show((12:Int)+1-((12:Nat):Int))=1 by omega]at hl;rw[hl,aQ]
  congr 1
  exact decide_eq_decide.2 (by omega)
 rw[hr]at h;refine ah.ob Tryz.func38 Tryz.ntmps38 rfl ?_;repeat' first|(refine ab (hK _ ?_);clear hK K)|((first|refine ae ?_|refine ja 1 [.i 0] [.i (jD 30 12 14 1 e 0).2] rfl rfl h ?_);simp)|(refine T.ret (aB.data (Or.inr rfl) ?_ ?_)<;>simp[Tryz.results38]<;>omega)|refine T.r0 fun K hK=>?_
theorem BS (ctx:List dF) (e:ao) (d:Nat) (hs:bm 14 d e=true) (hl:ctx.length+d<=1073741824) (hc:iF ctx) (hn:eR e<=1073741824):
  ah aaR 114 [kL ctx,cM e] [] (.a8 (fY (eM ctx e))) [] []:=by
 have h:=J5 e d ctx 0 hs hl hc (by omega) (by omega);have ht:=yK e d ctx 0 hs hc;generalize gu ctx e 0=X at h ht;obtain⟨o,m⟩:=X;rw[<-ht];cases o with
 |none=>
  simp only[jt]at h;simp only[abp,fY];refine ah.ob Tryz.func114 Tryz.ntmps114 rfl ?_;repeat' first|(refine ab (hK _ ?_);clear hK K)|((first|refine ae ?_|refine kp [2] (by simp) rfl rfl h ?_);simp)|(refine T.ret (aB.a8 (Or.inr rfl) ?_)<;>simp[aA,Tryz.results114]<;>omega)|refine T.r0 fun K hK=>?_
 |some p=>
  obtain⟨x,t⟩:=p;simp only[jt]at h;simp only[abn,fY];refine ah.ob Tryz.func114 Tryz.ntmps114 rfl ?_;repeat' first|(refine ab (hK _ ?_);clear hK K)|((first|refine ae ?_|refine kp [2] (by simp) rfl rfl h ?_);simp)|(refine T.ret (aB.a8 (Or.inr rfl) ?_)<;>simp[aA,Tryz.results114]<;>omega)|refine T.r0 fun K hK=>?_
theorem FK (ctx:List dF) (e:ao) (hl:ctx.length<=1073741800) (CB:∀b∈ctx,fA b.ty<=1099511627776) (hn:eR e<=1073741824):ah aaR 63 [kL ctx,cM e] [] (.a8 (fY (b5 ctx e))) [] []:=by
 have h1:=uZ ctx (by omega) CB;have h2:=ib e (by omega);cases hc:rf ctx with
 |false=>
  rw[show b5 ctx e=none by simp[b5,hc]];rw[hc]at h1;refine ah.ob Tryz.func63 Tryz.ntmps63 rfl ?_;repeat' first|(refine ab (hK _ ?_);clear hK K)|((first|refine ae ?_|refine aa rfl (h1) ?_);simp;(try(refine gen2 ?_ ?_<;>intro hq<;>try simp at hq)))|(refine T.ret (aB.a8 (Or.inr rfl) ?_)<;>simp[aA,Tryz.results63]<;>omega)|refine T.r0 fun K hK=>?_|refine T.ct rfl ?_|refine T.seq ?_
 |true=>
  rw[hc]at h1;cases hv:aQ e with
  |false=>
   rw[show b5 ctx e=none by simp[b5,hv]];rw[hv]at h2;refine ah.ob Tryz.func63 Tryz.ntmps63 rfl ?_;repeat' first|(refine ab (hK _ ?_);clear hK K)|((first|refine ae ?_|refine aa rfl (h1) ?_|refine aa rfl (h2) ?_);simp;(try(refine gen2 ?_ ?_<;>intro hq<;>try simp at hq)))|(refine T.ret (aB.a8 (Or.inr rfl) ?_)<;>simp[aA,Tryz.results63]<;>omega)|refine T.r0 fun K hK=>?_|refine T.ct rfl ?_|refine T.seq ?_
  |true=>
   rw[hv]at h2;have eP:iF ctx:=fun b hb=>by
    simp only[rf,abh,List.all_eq_true]at hc;exact(hc.1 b hb).2
   have jY:bm 14 12 e=true:=by simp only[aQ,abh]at hv;exact hv.1
   have h3:=BS ctx e 12 jY (by omega) eP hn;rw[show b5 ctx e=eM ctx e by simp[b5,hc,hv]];cases hr:eM ctx e with
   |none=>
    rw[hr]at h3;simp only[fY]at h3⊢;refine ah.ob Tryz.func63 Tryz.ntmps63 rfl ?_;repeat' first|(refine ab (hK _ ?_);clear hK K)|((first|refine ae ?_|refine aa rfl (h1) ?_|refine aa rfl (h2) ?_|refine aa rfl (h3) ?_);simp;(try(refine gen2 ?_ ?_<;>intro hq<;>try simp at hq)))|(refine T.ret (aB.a8 (Or.inr rfl) ?_)<;>simp[aA,Tryz.results63]<;>omega)|refine T.r0 fun K hK=>?_|refine T.ct rfl ?_|refine T.cf rfl ?_|refine T.seq ?_|refine T.skip ?_
   |some t=>
    rw[hr]at h3;have h4:=eB t (by have:=dc (gI e 12 14 ctx t jY eP hr);omega);simp only[fY]at h3⊢;refine ah.ob Tryz.func63 Tryz.ntmps63 rfl ?_;repeat' first|(refine ab (hK _ ?_);clear hK K)|((first|refine ae ?_|refine aa rfl (h1) ?_|refine aa rfl (h2) ?_|refine aa rfl (h3) ?_|refine aa rfl (h4) ?_);simp;(try(refine gen2 ?_ ?_<;>intro hq<;>try simp at hq)))|(refine T.ret (aB.a8 (Or.inr rfl) ?_)<;>simp[aA,Tryz.results63]<;>omega)|refine T.r0 fun K hK=>?_|refine T.cf rfl ?_|refine T.seq ?_|refine T.skip ?_
theorem FL (e:ao) (hn:eR e<=1073741824):ah aaR 23 [cM e] [] (.a8 (fY (b5 [] e))) [] []:=by
 have h:=FK [] e (by simp) (by simp) hn;cases hr:b5 [] e with
 |none=>
  rw[hr]at h;refine ah.ob Tryz.func23 Tryz.ntmps23 rfl ?_;repeat' first|(refine ab (hK _ ?_);clear hK K)|((first|refine ae ?_|(refine aa ?_ (h) ?_;(focus(solve|simp))));simp)|(refine T.ret (aB.a8 (Or.inr rfl) ?_)<;>simp[aA,Tryz.results23]<;>omega)|refine T.r0 fun K hK=>?_
 |some t=>
  rw[hr]at h;refine ah.ob Tryz.func23 Tryz.ntmps23 rfl ?_;repeat' first|(refine ab (hK _ ?_);clear hK K)|((first|refine ae ?_|(refine aa ?_ (h) ?_;(focus(solve|simp))));simp)|(refine T.ret (aB.a8 (Or.inr rfl) ?_)<;>simp[aA,Tryz.results23]<;>omega)|refine T.r0 fun K hK=>?_
def OH (k:Int) (t:aI):Option (aI×aI):=if ak 4 t=true then db k t else none
abbrev RF:Option (aI×aI)->List AV
 |some (a,b)=>[dE a,dE b,.b true]
 |none=>[dE bk,dE bk,.b false]
end Go.Proofs.YtloolmchekcmeaaGreat
namespace Go.Proofs.YtloolmchekcmeaaGreat
attribute [-simp] Go.Av.fb Go.Av.AV.eF Go.Av.CV.eF Go.Av.iW Go.Av.AV.dN Go.Av.CV.dN Go.Av.ch Go.Av.eY Go.Av.fw Go.Av.fi Go.Av.cY Go.Av.cb
open Go Go.Av
attribute [local irreducible] T ah TX EX LX bC dk bV ck gp aI.kind aI.kids ao.kind ao.name ao.num ao.ty ao.fr ao.label ao.kids
attribute [local simp] aJ al
set_option maxHeartbeats 16000000
set_option maxRecDepth 8000
end Go.Proofs.YtloolmchekcmeaaGreat
namespace Go.Proofs.YtloolmchekcmeaaGreat
attribute [-simp] Go.Av.fb Go.Av.AV.eF Go.Av.CV.eF Go.Av.iW Go.Av.AV.dN Go.Av.CV.dN Go.Av.ch Go.Av.eY Go.Av.fw Go.Av.fi Go.Av.cY Go.Av.cb
open Go Go.Av
attribute [local irreducible] T ah TX EX LX bC dk bV ck gp aI.kind aI.kids ao.kind ao.name ao.num ao.ty ao.fr ao.label ao.kids
attribute [local simp] aJ al
set_option maxHeartbeats 16000000
set_option maxRecDepth 8000
attribute [local simp] abq
theorem HY (e:ao) (hl:cm e.kind=e.kids.length):ah aaR 109 [cM e] [] (cM (aM e)) [] []:=by
 have hb:=c4 1;by_cases dG:e.kind=13
 ·have h1:e.kids.length=1:=by rw[dG]at hl;simp[cm]at hl;omega
  match hk:e.kids,h1 with
  |[x],_=>
   rw[show aM e=x by simp[aM,dG,hk]];refine ah.ob Tryz.func109 Tryz.ntmps109 rfl ?_;repeat' first|(refine ab (hK _ ?_);clear hK K)|(refine ae ?_;simp[dG,hk];(try(refine gen2 ?_ ?_<;>intro hq<;>try simp[dG,hk]at hq)))|(refine T.ret (aB.val (Or.inr rfl) ?_)<;>simp[aA,Tryz.results109,al]<;>omega)|refine T.r0 fun K hK=>?_|refine T.ct rfl ?_|refine T.seq ?_|refine T.block ?_|refine T.skip ?_
 by_cases gA:e.kind=14
 ·have h1:e.kids.length=1:=by rw[gA]at hl;simp[cm]at hl;omega
  match hk:e.kids,h1 with
  |[x],_=>
   rw[show aM e=x by simp[aM,gA,hk]];refine ah.ob Tryz.func109 Tryz.ntmps109 rfl ?_;repeat' first|(refine ab (hK _ ?_);clear hK K)|(refine ae ?_;simp[gA,hk];(try(refine gen2 ?_ ?_<;>intro hq<;>try simp[gA,hk]at hq)))|(refine T.ret (aB.val (Or.inr rfl) ?_)<;>simp[aA,Tryz.results109,al]<;>omega)|refine T.r0 fun K hK=>?_|refine T.r1 fun K hK=>?_|refine T.ct rfl ?_|refine T.cf rfl ?_|refine T.seq ?_|refine T.block ?_
 by_cases h5:e.kind=5
 ·rw[show aM e=.mk 5 e.name e.num lg e.fr e.label e.kids by simp[aM,h5]];refine ah.ob Tryz.func109 Tryz.ntmps109 rfl ?_;repeat' first|(refine ab (hK _ ?_);clear hK K)|((first|refine ae ?_|refine aa rfl (hb) ?_);simp[h5];(try(refine gen2 ?_ ?_<;>intro hq<;>try simp[h5]at hq)))|(refine T.ret (aB.val (Or.inr rfl) ?_)<;>simp[aA,Tryz.results109,h5]<;>omega)|refine T.r0 fun K hK=>?_|refine T.r1 fun K hK=>?_|refine T.ct rfl ?_|refine T.cf rfl ?_|refine T.seq ?_|refine T.block ?_
 ·rw[show aM e=e by simp[aM,dG,gA,h5]];refine ah.ob Tryz.func109 Tryz.ntmps109 rfl ?_;repeat' first|(refine ab (hK _ ?_);clear hK K)|(refine ae ?_;simp[dG,gA,h5];(try(refine gen2 ?_ ?_<;>intro hq<;>try simp[dG,gA,h5]at hq)))|(refine T.ret (aB.val (Or.inr rfl) ?_)<;>simp[aA,Tryz.results109]<;>omega)|refine T.r0 fun K hK=>?_|refine T.r1 fun K hK=>?_|refine T.cf rfl ?_|refine T.seq ?_|refine T.block ?_|refine T.skip ?_
def J6 (e:ao):Prop:=∃nt d,bm nt d e=true
theorem z8 (e:ao) (hq:J6 e) (hn:eR e<=1099511627776):ah aaR 58 [cM e] [] (cM (mapM aM e)) [] []:=by
 have h:=FI 109 aM J6 (fun e h u hu=>by obtain⟨nt,d,h⟩:=h;obtain⟨d',rfl,_,_,_,hk⟩:=fQ h;exact⟨nt,d',hk u hu⟩)
  (fun e h=>by obtain⟨nt,d,h⟩:=h;obtain⟨d',rfl,_,hl,_,_⟩:=fQ h;rw[sA];exact HY _ (by simpa using hl)) e hq hn
 generalize mapM aM e=R at h;refine ah.ob Tryz.func58 Tryz.ntmps58 rfl ?_;repeat' first|(refine ab (hK _ ?_);clear hK K)|((first|refine ae ?_|refine aa rfl (h) ?_);simp;(try(refine gen2 ?_ ?_<;>intro hq<;>(try simp at hq)<;>try(have:True:=hq;clear this hq))))|(refine T.ret (aB.val (Or.inr rfl) ?_)<;>simp[aA,Tryz.results58]<;>omega)|refine T.r0 fun K hK=>?_
theorem qR (e:ao) (hn:eR e<=1099511627776) (hv:aQ e=true\/eS e=true):ah aaR 29 [cM e] [] (.a8 [cM (mapM aM e),.b true]) [] []:=by
 have hf:J6 e:=by
  rcases hv with h|h
  ·simp only[aQ,abh]at h;exact⟨14,12,h.1⟩
  ·simp only[eS,abh]at h;exact⟨13,40,h.1⟩
 have h1:=ib e hn;have h2:=zS e hn;have h3:=z8 e hf hn;generalize mapM aM e=R at h3;cases ht:aQ e with
 |true=>
  rw[ht]at h1;refine ah.ob Tryz.func29 Tryz.ntmps29 rfl ?_;repeat' first|(refine ab (hK _ ?_);clear hK K)|((first|refine ae ?_|refine aa rfl (h1) ?_|refine aa rfl (h3) ?_);simp;(try(refine gen2 ?_ ?_<;>intro hq<;>try simp at hq)))|(refine T.ret (aB.a8 (Or.inr rfl) ?_)<;>simp[aA,Tryz.results29]<;>omega)|refine T.r0 fun K hK=>?_|refine T.cf rfl ?_|refine T.seq ?_|refine T.skip ?_
 |false=>
  rw[ht]at h1;rw[show eS e=true by rcases hv with h|h;rw[ht]at h;cases h;exact h]at h2;refine ah.ob Tryz.func29 Tryz.ntmps29 rfl ?_;repeat' first|(refine ab (hK _ ?_);clear hK K)|((first|refine ae ?_|refine aa rfl (h1) ?_|refine aa rfl (h2) ?_|refine aa rfl (h3) ?_);simp;(try(refine gen2 ?_ ?_<;>intro hq<;>try simp at hq)))|(refine T.ret (aB.a8 (Or.inr rfl) ?_)<;>simp[aA,Tryz.results29]<;>omega)|refine T.r0 fun K hK=>?_|refine T.cf rfl ?_|refine T.seq ?_|refine T.skip ?_
def P3 (e:ao):Option (ao×aI):=if aQ e=true then(gu [] e 0).1 else none
end Go.Proofs.YtloolmchekcmeaaGreat
namespace Go.Proofs.YtloolmchekcmeaaGreat
attribute [-simp] Go.Av.ch Go.Av.eY Go.Av.fw Go.Av.fi Go.Av.cY Go.Av.cb
open Go Go.Av
attribute [local irreducible] T ah TX EX LX bC dk bV ck gp aI.kind aI.kids ao.kind ao.name ao.num ao.ty ao.fr ao.label ao.kids
attribute [local simp] aJ al
set_option maxHeartbeats 16000000
set_option maxRecDepth 8000
theorem BT (e:ao) (h5:e.kind=5) (ts:List aI) (hn:eR e<=1099511627776) (hl:(ts++[e.ty]).length+(az e.kids).length<=1099511627776)
  (ih:∀u∈e.kids,∀(ts:List aI),ts.length+(aF u).length<=1099511627776->e8 aaR 129 [.c (.own 0 ts.length),cM u] [] [{sz:=2,ev:=25,rows:=ts.map ck,wr:=true}] (.c (.own 0 (ts++aF u).length)) [] [{sz:=2,ev:=25,rows:=(ts++aF u).map ck,wr:=true}]):
  e8 aaR 129 [.c (.own 0 ts.length),cM e] [] [{sz:=2,ev:=25,rows:=ts.map ck,wr:=true}] (.c (.own 0 (ts++([e.ty]++az e.kids)).length)) [] [{sz:=2,ev:=25,rows:=(ts++([e.ty]++az e.kids)).map ck,wr:=true}]:=by
 obtain⟨jo,nE,yl,o6⟩:=cB hn;have h1:=bY e.ty jo;obtain⟨ts1,pR⟩:∃ts1,ts++[e.ty]=ts1:=⟨_,rfl⟩;rw[<-aa0,pR];rw[pR]at hl;have OI:ts.length<=1099511627776:=by rw[<-pR,aaU]at hl;omega
 refine e8.cD Tryz.func129 (by kernel_rfl) rfl (by kernel_rfl) (by simp[Tryz.ntmps129]) (by simp) ?_;rw[Tryz.ntmps129];repeat' first|(refine ab (hK _ ?_);clear hK K)|((first|refine ae ?_|refine aa rfl (h1) ?_);simp[h5];(try(refine gen2 ?_ ?_<;>intro hq<;>try simp[h5]at hq)))|(refine⟨by omega,by omega,?_⟩)|refine T.r0 fun K hK=>?_|refine T.r1 fun K hK=>?_|refine T.ct rfl ?_|refine T.seq ?_|refine T.block ?_
 refine T.dD (α:=Nat×List (List CV)) [3,4] (fun x=>[(0,.c (.own 0 (ts1++az (e.kids.take x.1)).length)),(5,.i x.1)]) (fun x=>[]) (fun x=>x.2) (fun x _=>[{sz:=2,ev:=25,rows:=(ts1++az (e.kids.take x.1)).map ck,wr:=true}]) (fun x=>e.kids.length+1-x.1)
  (fun x=>x.1<=e.kids.length) (by simp;rfl) (fun x hx=>?_) (0,[]) (by simp) (by simp) (by simp[<-pR,az,aJ]) (by simp[<-pR,az])
 obtain⟨p,G⟩:=x;dsimp only at hx⊢;simp only[gy,aaT,aaS];by_cases ay:p<e.kids.length
 ·obtain⟨u,ht⟩:=bM ay;have eA:u∈e.kids:=aaX ht;have aX:e.kids[p]=u:=by rw[aaV ay]at ht;exact Option.some.inj ht
  have gz:e.kids.drop p=u::e.kids.drop (p+1):=by rw[aaW ay,aX]
  have hle:=gi e.kids (p+1);rw[cr ht]at hle;have hu:=ih u eA (ts1++az (e.kids.take p)) (by simp only[aaU]at*;omega);have mN:ts1++az (e.kids.take (p+1))=ts1++az (e.kids.take p)++aF u:=by rw[cr ht,aa0]
  rw[<-mN]at hu;obtain⟨Z',K0⟩:∃Z',ts1++az (e.kids.take (p+1))=Z':=⟨_,rfl⟩;rw[K0]at hu;clear mN;generalize (ts1++az (e.kids.take p))=Z at*;repeat' first|(refine ab (hK _ ?_);clear hK K)|(refine ae ?_;simp[ay,aX];(try simp(disch:=omega)only[wrap64]);(try(refine gen2 ?_ ?_<;>intro hq<;>try simp[ay,aX]at hq)))|(refine kB 0 hu rfl rfl rfl rfl ?_;simp[back])|(refine⟨(p+1,_),by dsimp only;omega,by dsimp only;omega,rfl,?_,?_⟩<;>simp(disch:=omega) [wrap64,<-K0])|refine T.r0 fun K hK=>?_|refine T.r1 fun K hK=>?_|refine T.ct rfl ?_|refine T.seq ?_|refine T.block ?_|refine T.skip ?_
 ·have fa:p=e.kids.length:=by omega
  subst fa;rw[aa1];repeat' first|(refine ab (hK _ ?_);clear hK K)|(refine ae ?_;simp[ay];(try(refine gen2 ?_ ?_<;>intro hq<;>try simp[ay]at hq)))|refine T.r0 fun K hK=>?_|refine T.cf rfl ?_|refine T.seq ?_|refine T.exit ?_
  all_goals(refine T.ret (qI.one (Or.inr rfl) ?_ ?_)<;>simp[aA,Tryz.results129])
theorem Dl (e:ao) (h5:¬e.kind=5) (dG:e.kind=13) (ts:List aI) (hn:eR e<=1099511627776) (hl:(ts++[e.ty]).length+(az e.kids).length<=1099511627776)
  (ih:∀u∈e.kids,∀(ts:List aI),ts.length+(aF u).length<=1099511627776->e8 aaR 129 [.c (.own 0 ts.length),cM u] [] [{sz:=2,ev:=25,rows:=ts.map ck,wr:=true}] (.c (.own 0 (ts++aF u).length)) [] [{sz:=2,ev:=25,rows:=(ts++aF u).map ck,wr:=true}]):
  e8 aaR 129 [.c (.own 0 ts.length),cM e] [] [{sz:=2,ev:=25,rows:=ts.map ck,wr:=true}] (.c (.own 0 (ts++([e.ty]++az e.kids)).length)) [] [{sz:=2,ev:=25,rows:=(ts++([e.ty]++az e.kids)).map ck,wr:=true}]:=by
 obtain⟨jo,nE,yl,o6⟩:=cB hn;have h1:=bY e.ty jo;obtain⟨ts1,pR⟩:∃ts1,ts++[e.ty]=ts1:=⟨_,rfl⟩;rw[<-aa0,pR];rw[pR]at hl;have OI:ts.length<=1099511627776:=by rw[<-pR,aaU]at hl;omega
 refine e8.cD Tryz.func129 (by kernel_rfl) rfl (by kernel_rfl) (by simp[Tryz.ntmps129]) (by simp) ?_;rw[Tryz.ntmps129];repeat' first|(refine ab (hK _ ?_);clear hK K)|((first|refine ae ?_|refine aa rfl (h1) ?_);simp[h5,dG];(try(refine gen2 ?_ ?_<;>intro hq<;>try simp[h5,dG]at hq)))|(refine⟨by omega,by omega,?_⟩)|refine T.r0 fun K hK=>?_|refine T.r1 fun K hK=>?_|refine T.ct rfl ?_|refine T.seq ?_|refine T.block ?_
 refine T.dD (α:=Nat×List (List CV)) [3,4] (fun x=>[(0,.c (.own 0 (ts1++az (e.kids.take x.1)).length)),(5,.i x.1)]) (fun x=>[]) (fun x=>x.2) (fun x _=>[{sz:=2,ev:=25,rows:=(ts1++az (e.kids.take x.1)).map ck,wr:=true}]) (fun x=>e.kids.length+1-x.1)
  (fun x=>x.1<=e.kids.length) (by simp;rfl) (fun x hx=>?_) (0,[]) (by simp) (by simp) (by simp[<-pR,az,aJ]) (by simp[<-pR,az])
 obtain⟨p,G⟩:=x;dsimp only at hx⊢;simp only[gy,aaT,aaS];by_cases ay:p<e.kids.length
 ·obtain⟨u,ht⟩:=bM ay;have eA:u∈e.kids:=aaX ht;have aX:e.kids[p]=u:=by rw[aaV ay]at ht;exact Option.some.inj ht
  have gz:e.kids.drop p=u::e.kids.drop (p+1):=by rw[aaW ay,aX]
  have hle:=gi e.kids (p+1);rw[cr ht]at hle;have hu:=ih u eA (ts1++az (e.kids.take p)) (by simp only[aaU]at*;omega);have mN:ts1++az (e.kids.take (p+1))=ts1++az (e.kids.take p)++aF u:=by rw[cr ht,aa0]
  rw[<-mN]at hu;obtain⟨Z',K0⟩:∃Z',ts1++az (e.kids.take (p+1))=Z':=⟨_,rfl⟩;rw[K0]at hu;clear mN;generalize (ts1++az (e.kids.take p))=Z at*;repeat' first|(refine ab (hK _ ?_);clear hK K)|(refine ae ?_;simp[ay,aX];(try simp(disch:=omega)only[wrap64]);(try(refine gen2 ?_ ?_<;>intro hq<;>try simp[ay,aX]at hq)))|(refine kB 0 hu rfl rfl rfl rfl ?_;simp[back])|(refine⟨(p+1,_),by dsimp only;omega,by dsimp only;omega,rfl,?_,?_⟩<;>simp(disch:=omega) [wrap64,<-K0])|refine T.r0 fun K hK=>?_|refine T.r1 fun K hK=>?_|refine T.ct rfl ?_|refine T.seq ?_|refine T.block ?_|refine T.skip ?_
 ·have fa:p=e.kids.length:=by omega
  subst fa;rw[aa1];repeat' first|(refine ab (hK _ ?_);clear hK K)|(refine ae ?_;simp[ay];(try(refine gen2 ?_ ?_<;>intro hq<;>try simp[ay]at hq)))|refine T.r0 fun K hK=>?_|refine T.cf rfl ?_|refine T.seq ?_|refine T.exit ?_
  all_goals(refine T.ret (qI.one (Or.inr rfl) ?_ ?_)<;>simp[aA,Tryz.results129])
theorem BU (e:ao) (h5:¬e.kind=5) (dG:¬e.kind=13) (ts:List aI) (hn:eR e<=1099511627776) (hl:(ts++[]).length+(az e.kids).length<=1099511627776)
  (ih:∀u∈e.kids,∀(ts:List aI),ts.length+(aF u).length<=1099511627776->e8 aaR 129 [.c (.own 0 ts.length),cM u] [] [{sz:=2,ev:=25,rows:=ts.map ck,wr:=true}] (.c (.own 0 (ts++aF u).length)) [] [{sz:=2,ev:=25,rows:=(ts++aF u).map ck,wr:=true}]):
  e8 aaR 129 [.c (.own 0 ts.length),cM e] [] [{sz:=2,ev:=25,rows:=ts.map ck,wr:=true}] (.c (.own 0 (ts++([]++az e.kids)).length)) [] [{sz:=2,ev:=25,rows:=(ts++([]++az e.kids)).map ck,wr:=true}]:=by
 obtain⟨jo,nE,yl,o6⟩:=cB hn;have h1:=bY e.ty jo;obtain⟨ts1,pR⟩:∃ts1,ts++[]=ts1:=⟨_,rfl⟩;rw[<-aa0,pR];rw[pR]at hl;have OI:ts.length<=1099511627776:=by rw[<-pR,aaU]at hl;omega
 refine e8.cD Tryz.func129 (by kernel_rfl) rfl (by kernel_rfl) (by simp[Tryz.ntmps129]) (by simp) ?_;rw[Tryz.ntmps129];repeat' first|(refine ab (hK _ ?_);clear hK K)|(refine ae ?_;simp[h5,dG];(try(refine gen2 ?_ ?_<;>intro hq<;>try simp[h5,dG]at hq)))|refine T.r0 fun K hK=>?_|refine T.cf rfl ?_|refine T.seq ?_|refine T.block ?_|refine T.skip ?_
 refine T.dD (α:=Nat×List (List CV)) [3,4] (fun x=>[(0,.c (.own 0 (ts1++az (e.kids.take x.1)).length)),(5,.i x.1)]) (fun x=>[]) (fun x=>x.2) (fun x _=>[{sz:=2,ev:=25,rows:=(ts1++az (e.kids.take x.1)).map ck,wr:=true}]) (fun x=>e.kids.length+1-x.1)
  (fun x=>x.1<=e.kids.length) (by simp;rfl) (fun x hx=>?_) (0,[]) (by simp) (by simp) (by simp[<-pR,az,aJ]) (by simp[<-pR,az])
 obtain⟨p,G⟩:=x;dsimp only at hx⊢;simp only[gy,aaT,aaS];by_cases ay:p<e.kids.length
 ·obtain⟨u,ht⟩:=bM ay;have eA:u∈e.kids:=aaX ht;have aX:e.kids[p]=u:=by rw[aaV ay]at ht;exact Option.some.inj ht
  have gz:e.kids.drop p=u::e.kids.drop (p+1):=by rw[aaW ay,aX]
  have hle:=gi e.kids (p+1);rw[cr ht]at hle;have hu:=ih u eA (ts1++az (e.kids.take p)) (by simp only[aaU]at*;omega);have mN:ts1++az (e.kids.take (p+1))=ts1++az (e.kids.take p)++aF u:=by rw[cr ht,aa0]
  rw[<-mN]at hu;obtain⟨Z',K0⟩:∃Z',ts1++az (e.kids.take (p+1))=Z':=⟨_,rfl⟩;rw[K0]at hu;clear mN;generalize (ts1++az (e.kids.take p))=Z at*;repeat' first|(refine ab (hK _ ?_);clear hK K)|(refine ae ?_;simp[ay,aX];(try simp(disch:=omega)only[wrap64]);(try(refine gen2 ?_ ?_<;>intro hq<;>try simp[ay,aX]at hq)))|(refine kB 0 hu rfl rfl rfl rfl ?_;simp[back])|(refine⟨(p+1,_),by dsimp only;omega,by dsimp only;omega,rfl,?_,?_⟩<;>simp(disch:=omega) [wrap64,<-K0])|refine T.r0 fun K hK=>?_|refine T.r1 fun K hK=>?_|refine T.ct rfl ?_|refine T.seq ?_|refine T.block ?_|refine T.skip ?_
 ·have fa:p=e.kids.length:=by omega
  subst fa;rw[aa1];repeat' first|(refine ab (hK _ ?_);clear hK K)|(refine ae ?_;simp[ay];(try(refine gen2 ?_ ?_<;>intro hq<;>try simp[ay]at hq)))|refine T.r0 fun K hK=>?_|refine T.cf rfl ?_|refine T.seq ?_|refine T.exit ?_
  all_goals(refine T.ret (qI.one (Or.inr rfl) ?_ ?_)<;>simp[aA,Tryz.results129])
theorem Dm:∀(e:ao),eR e<=1099511627776->∀(ts:List aI),ts.length+(aF e).length<=1099511627776->
  e8 aaR 129 [.c (.own 0 ts.length),cM e] [] [{sz:=2,ev:=25,rows:=ts.map ck,wr:=true}] (.c (.own 0 (ts++aF e).length)) [] [{sz:=2,ev:=25,rows:=(ts++aF e).map ck,wr:=true}]:=by
 intro e;induction e using ao.ind with
 |h e ih=>
  intro hn ts hl;obtain⟨_,_,_,o6⟩:=cB hn;have ih':=fun u hu=>ih u hu (o6 u hu)
  rw[fh]at hl⊢;by_cases h5:e.kind=5
  ·rw[if_pos (by simp[bx,h5])]at hl⊢;exact BT e h5 ts hn (by simp only[aaU]at*;omega) ih'
  ·by_cases dG:e.kind=13
   ·rw[if_pos (by simp[bx,dG])]at hl⊢;exact Dl e h5 dG ts hn (by simp only[aaU]at*;omega) ih'
   ·rw[if_neg (by simp[bx,h5,dG])]at hl⊢;exact BU e h5 dG ts hn (by simp only[aaU]at*;omega) ih'
def ec (e:ao):List aI:=if aQ e=true then aF e else []
theorem pS (e:ao) (hn:eR e<=1073741824):ah aaR 88 [cM e] [] (.c (.own 0 (ec e).length)) [] [{sz:=2,ev:=25,rows:=(ec e).map ck,wr:=true}]:=by
 have h1:=iH e (by omega);have h2:=Dm e (by omega) [] (by have:=(ju e).2;simp;omega);simp only[aaS]at h2;simp only[ec];cases hv:aQ e with
 |false=>
  rw[hv]at h1;simp only[abi,if_false];refine ah.ob Tryz.func88 Tryz.ntmps88 rfl ?_;repeat' first|(refine ab (hK _ ?_);clear hK K)|((first|refine ae ?_|refine aa rfl (h1) ?_);simp;(try(refine gen2 ?_ ?_<;>intro hq<;>try simp at hq)))|refine T.rs (id:=2) (fun i=>i==0) fun K hK=>?_|refine T.rs (id:=0) (fun _=>false) fun K hK=>?_|refine T.rs (id:=1) (fun _=>false) fun K hK=>?_|refine T.ct rfl ?_|refine T.seq ?_
  refine T.ret (aB.CT 0 (Or.inr rfl) (ys:=[_]) ?_ rfl ?_)<;>simp[aA,Tryz.results88]
 |true=>
  rw[hv]at h1;simp only[if_true];generalize aF e=ts at*;refine ah.ob Tryz.func88 Tryz.ntmps88 rfl ?_;repeat' first|(refine ab (hK _ ?_);clear hK K)|((first|refine ae ?_|refine aa rfl (h1) ?_);simp;(try(refine gen2 ?_ ?_<;>intro hq<;>try simp at hq)))|(refine kB 0 h2 rfl rfl rfl rfl ?_;simp[back])|refine T.rs (id:=3) (fun i=>i==0) fun K hK=>?_|refine T.rs (id:=0) (fun _=>false) fun K hK=>?_|refine T.rs (id:=1) (fun _=>false) fun K hK=>?_|refine T.cf rfl ?_|refine T.seq ?_|refine T.skip ?_
  refine T.ret (aB.CT 0 (Or.inr rfl) (ys:=[_]) ?_ rfl ?_)<;>simp[aA,Tryz.results88]
theorem Dn (e:ao) (h5:e.kind=5) (ts:List aI) (a:Nat) (hn:eR e<=1099511627776) (bZ:∀t∈ts,fA t<=1099511627776) (hl:a+1+(az e.kids).length<=ts.length) (uQ:ts.length<=1099511627776) (tx:aI) (hx:tx=ts[a]?.getD tx)
  (ih:∀u∈e.kids,∀(a:Nat) (i:Int),i=a->a+(aF u).length<=ts.length->ah aaR 117 [cM u,.l (ts.map ck),.i i] [] (.a8 [cM (bG u (ts.drop a)),.i (i+(aF u).length)]) [] []):
  ah aaR 117 [cM e,.l (ts.map ck),.i a] [] (.a8 [cM (.mk e.kind e.name e.num tx e.fr e.label (cX e.kids (ts.drop (a+1)))),.i ((a:Int)+1+(az e.kids).length)]) [] []:=by
 obtain⟨jo,nE,yl,o6⟩:=cB hn;have h1:=bY e.ty jo;have h2:=bY e.fr nE;refine ah.ob Tryz.func117 Tryz.ntmps117 rfl ?_;have Aa:a<ts.length:=by omega
 have vo:ts[a]=tx:=by rw[aaV Aa]at hx;exact hx.symm
 have h3:=bY tx (bZ tx (by rw[<-vo];exact aa5 Aa));repeat' first|(refine ab (hK _ ?_);clear hK K)|((first|refine ae ?_|refine aa rfl (h1) ?_|refine aa rfl (h2) ?_|refine aa rfl (h3) ?_);simp[h5,Aa,vo];(try simp(disch:=omega)only[wrap64]);(try(refine gen2 ?_ ?_<;>intro hq<;>try simp[h5,Aa,vo]at hq)))|refine T.r0 fun K hK=>?_|refine T.r1 fun K hK=>?_|refine T.ct rfl ?_|refine T.seq ?_|refine T.block ?_
 refine T.dq 2 8 9 28 rfl rfl ?_
 refine T.dD (α:=Nat×List (List CV)) [1,3,6,7,8] (fun x=>[(2,.i ((a:Int)+1+(az (e.kids.take x.1)).length)),(9,.i x.1)]) (fun x=>[(2,[.d (.i e.kind),.d (.str e.name),.d (.i e.num),.d (.i (tx).kind),.d (.sl ((tx).kids.map ck)),.d (.i e.fr.kind),.d (.sl (e.fr.kids.map ck)),.d (.i e.label),.own 0 x.1])]) (fun x=>x.2)
  (fun x _=>[{sz:=9,ev:=28,rows:=((cX e.kids (ts.drop (a+1))).take x.1).map gp,wr:=true}]) (fun x=>e.kids.length+1-x.1) (fun x=>x.1<=e.kids.length) (by simp;rfl) (fun x hx=>?_) (0,[]) (by simp) (by simp[h5]) (by simp) (by simp[az])
 obtain⟨p,G⟩:=x;dsimp only at hx⊢;simp only[gy,aaY,aaZ,aaT,aaS];have vH:(cX e.kids (ts.drop (a+1))).length=e.kids.length:=lx _ _;by_cases ay:p<e.kids.length
 ·obtain⟨u,ht⟩:=bM ay;have eA:u∈e.kids:=aaX ht;have aX:e.kids[p]=u:=by rw[aaV ay]at ht;exact Option.some.inj ht
  have gz:e.kids.drop p=u::e.kids.drop (p+1):=by rw[aaW ay,aX]
  have hle:=gi e.kids (p+1);rw[cr ht,aaU]at hle;have hu:=ih u eA (a+1+(az (e.kids.take p)).length) ((a:Int)+1+(az (e.kids.take p)).length) (by push_cast;omega) (by omega);have y8:=lH (ts.drop (a+1)) ht;rw[aa3]at y8;have mN:(a:Int)+1+((az (e.kids.take (p+1))).length:Int)=(a:Int)+1+(az (e.kids.take p)).length+(aF u).length:=by rw[cr ht];push_cast [aaU];omega
  generalize (az (e.kids.take p)).length=n1 at*;generalize (bG u (ts.drop (a+1+n1)))=wu at*;generalize (cX e.kids (ts.drop (a+1)))=Z at*;have eU:min p e.kids.length=p:=by omega
  repeat' first|(refine ab (hK _ ?_);clear hK K)|((first|refine ae ?_|(refine aa ?_ (hu) ?_;(focus(solve|simp[ay,aX,eU,vH]))));simp[ay,aX,eU,vH];(try simp(disch:=omega)only[wrap64]);(try(refine gen2 ?_ ?_<;>intro hq<;>try simp[ay,aX,eU,vH]at hq)))|(refine⟨(p+1,_),by dsimp only;omega,by dsimp only;omega,rfl,?_,?_⟩<;>simp(disch:=omega) [wrap64,y8,mN,al])|refine T.r0 fun K hK=>?_|refine T.r1 fun K hK=>?_|(refine⟨by omega,?_⟩)|refine T.ct rfl ?_|refine T.seq ?_|refine T.block ?_|refine T.skip ?_
 ·have fa:p=e.kids.length:=by omega
  subst fa;rw[aa1,aa4 (by omega)];repeat' first|(refine ab (hK _ ?_);clear hK K)|(refine ae ?_;simp[ay];(try(refine gen2 ?_ ?_<;>intro hq<;>try simp[ay]at hq)))|(refine T.ret (aB.a8 (Or.inr rfl) ?_)<;>simp[aA,Tryz.results117,al,vH]<;>omega)|refine T.r0 fun K hK=>?_|refine T.cf rfl ?_|refine T.seq ?_|refine T.exit ?_
theorem FM (e:ao) (h5:¬e.kind=5) (dG:e.kind=13) (ts:List aI) (a:Nat) (hn:eR e<=1099511627776) (bZ:∀t∈ts,fA t<=1099511627776) (hl:a+1+(az e.kids).length<=ts.length) (uQ:ts.length<=1099511627776) (tx:aI) (hx:tx=ts[a]?.getD tx)
  (ih:∀u∈e.kids,∀(a:Nat) (i:Int),i=a->a+(aF u).length<=ts.length->ah aaR 117 [cM u,.l (ts.map ck),.i i] [] (.a8 [cM (bG u (ts.drop a)),.i (i+(aF u).length)]) [] []):
  ah aaR 117 [cM e,.l (ts.map ck),.i a] [] (.a8 [cM (.mk e.kind e.name e.num tx e.fr e.label (cX e.kids (ts.drop (a+1)))),.i ((a:Int)+1+(az e.kids).length)]) [] []:=by
 obtain⟨jo,nE,yl,o6⟩:=cB hn;have h1:=bY e.ty jo;have h2:=bY e.fr nE;refine ah.ob Tryz.func117 Tryz.ntmps117 rfl ?_;have Aa:a<ts.length:=by omega
 have vo:ts[a]=tx:=by rw[aaV Aa]at hx;exact hx.symm
 have h3:=bY tx (bZ tx (by rw[<-vo];exact aa5 Aa));repeat' first|(refine ab (hK _ ?_);clear hK K)|((first|refine ae ?_|refine aa rfl (h1) ?_|refine aa rfl (h2) ?_|refine aa rfl (h3) ?_);simp[h5,dG,Aa,vo];(try simp(disch:=omega)only[wrap64]);(try(refine gen2 ?_ ?_<;>intro hq<;>try simp[h5,dG,Aa,vo]at hq)))|refine T.r0 fun K hK=>?_|refine T.r1 fun K hK=>?_|refine T.ct rfl ?_|refine T.seq ?_|refine T.block ?_
 refine T.dq 2 8 9 28 rfl rfl ?_
 refine T.dD (α:=Nat×List (List CV)) [1,3,6,7,8] (fun x=>[(2,.i ((a:Int)+1+(az (e.kids.take x.1)).length)),(9,.i x.1)]) (fun x=>[(2,[.d (.i e.kind),.d (.str e.name),.d (.i e.num),.d (.i (tx).kind),.d (.sl ((tx).kids.map ck)),.d (.i e.fr.kind),.d (.sl (e.fr.kids.map ck)),.d (.i e.label),.own 0 x.1])]) (fun x=>x.2)
  (fun x _=>[{sz:=9,ev:=28,rows:=((cX e.kids (ts.drop (a+1))).take x.1).map gp,wr:=true}]) (fun x=>e.kids.length+1-x.1) (fun x=>x.1<=e.kids.length) (by simp;rfl) (fun x hx=>?_) (0,[]) (by simp) (by simp[h5,dG]) (by simp) (by simp[az])
 obtain⟨p,G⟩:=x;dsimp only at hx⊢;simp only[gy,aaY,aaZ,aaT,aaS];have vH:(cX e.kids (ts.drop (a+1))).length=e.kids.length:=lx _ _;by_cases ay:p<e.kids.length
 ·obtain⟨u,ht⟩:=bM ay;have eA:u∈e.kids:=aaX ht;have aX:e.kids[p]=u:=by rw[aaV ay]at ht;exact Option.some.inj ht
  have gz:e.kids.drop p=u::e.kids.drop (p+1):=by rw[aaW ay,aX]
  have hle:=gi e.kids (p+1);rw[cr ht,aaU]at hle;have hu:=ih u eA (a+1+(az (e.kids.take p)).length) ((a:Int)+1+(az (e.kids.take p)).length) (by push_cast;omega) (by omega);have y8:=lH (ts.drop (a+1)) ht;rw[aa3]at y8;have mN:(a:Int)+1+((az (e.kids.take (p+1))).length:Int)=(a:Int)+1+(az (e.kids.take p)).length+(aF u).length:=by rw[cr ht];push_cast [aaU];omega
  generalize (az (e.kids.take p)).length=n1 at*;generalize (bG u (ts.drop (a+1+n1)))=wu at*;generalize (cX e.kids (ts.drop (a+1)))=Z at*;have eU:min p e.kids.length=p:=by omega
  repeat' first|(refine ab (hK _ ?_);clear hK K)|((first|refine ae ?_|(refine aa ?_ (hu) ?_;(focus(solve|simp[ay,aX,eU,vH]))));simp[ay,aX,eU,vH];(try simp(disch:=omega)only[wrap64]);(try(refine gen2 ?_ ?_<;>intro hq<;>try simp[ay,aX,eU,vH]at hq)))|(refine⟨(p+1,_),by dsimp only;omega,by dsimp only;omega,rfl,?_,?_⟩<;>simp(disch:=omega) [wrap64,y8,mN,al])|refine T.r0 fun K hK=>?_|refine T.r1 fun K hK=>?_|(refine⟨by omega,?_⟩)|refine T.ct rfl ?_|refine T.seq ?_|refine T.block ?_|refine T.skip ?_
 ·have fa:p=e.kids.length:=by omega
  subst fa;rw[aa1,aa4 (by omega)];repeat' first|(refine ab (hK _ ?_);clear hK K)|(refine ae ?_;simp[ay];(try(refine gen2 ?_ ?_<;>intro hq<;>try simp[ay]at hq)))|(refine T.ret (aB.a8 (Or.inr rfl) ?_)<;>simp[aA,Tryz.results117,al,vH]<;>omega)|refine T.r0 fun K hK=>?_|refine T.cf rfl ?_|refine T.seq ?_|refine T.exit ?_
theorem Dp (e:ao) (h5:¬e.kind=5) (dG:¬e.kind=13) (ts:List aI) (a:Nat) (hn:eR e<=1099511627776) (bZ:∀t∈ts,fA t<=1099511627776) (hl:a+(az e.kids).length<=ts.length) (uQ:ts.length<=1099511627776) (tx:aI) (hx:tx=ts[a]?.getD tx)
  (ih:∀u∈e.kids,∀(a:Nat) (i:Int),i=a->a+(aF u).length<=ts.length->ah aaR 117 [cM u,.l (ts.map ck),.i i] [] (.a8 [cM (bG u (ts.drop a)),.i (i+(aF u).length)]) [] []):
  ah aaR 117 [cM e,.l (ts.map ck),.i a] [] (.a8 [cM (.mk e.kind e.name e.num e.ty e.fr e.label (cX e.kids (ts.drop (a)))),.i ((a:Int)+(az e.kids).length)]) [] []:=by
 obtain⟨jo,nE,yl,o6⟩:=cB hn;have h1:=bY e.ty jo;have h2:=bY e.fr nE;refine ah.ob Tryz.func117 Tryz.ntmps117 rfl ?_;repeat' first|(refine ab (hK _ ?_);clear hK K)|((first|refine ae ?_|refine aa rfl (h1) ?_|refine aa rfl (h2) ?_);simp[h5,dG];(try(refine gen2 ?_ ?_<;>intro hq<;>try simp[h5,dG]at hq)))|refine T.r0 fun K hK=>?_|refine T.cf rfl ?_|refine T.seq ?_|refine T.block ?_|refine T.skip ?_
 refine T.dq 2 8 9 28 rfl rfl ?_
 refine T.dD (α:=Nat×List (List CV)) [1,3,6,7,8] (fun x=>[(2,.i ((a:Int)+(az (e.kids.take x.1)).length)),(9,.i x.1)]) (fun x=>[(2,[.d (.i e.kind),.d (.str e.name),.d (.i e.num),.d (.i (e.ty).kind),.d (.sl ((e.ty).kids.map ck)),.d (.i e.fr.kind),.d (.sl (e.fr.kids.map ck)),.d (.i e.label),.own 0 x.1])]) (fun x=>x.2)
  (fun x _=>[{sz:=9,ev:=28,rows:=((cX e.kids (ts.drop (a))).take x.1).map gp,wr:=true}]) (fun x=>e.kids.length+1-x.1) (fun x=>x.1<=e.kids.length) (by simp;rfl) (fun x hx=>?_) (0,[]) (by simp) (by simp[h5,dG]) (by simp) (by simp[az])
 obtain⟨p,G⟩:=x;dsimp only at hx⊢;simp only[gy,aaY,aaZ,aaT,aaS];have vH:(cX e.kids (ts.drop (a))).length=e.kids.length:=lx _ _;by_cases ay:p<e.kids.length
 ·obtain⟨u,ht⟩:=bM ay;have eA:u∈e.kids:=aaX ht;have aX:e.kids[p]=u:=by rw[aaV ay]at ht;exact Option.some.inj ht
  have gz:e.kids.drop p=u::e.kids.drop (p+1):=by rw[aaW ay,aX]
  have hle:=gi e.kids (p+1);rw[cr ht,aaU]at hle;have hu:=ih u eA (a+(az (e.kids.take p)).length) ((a:Int)+(az (e.kids.take p)).length) (by push_cast;omega) (by omega);have y8:=lH (ts.drop (a)) ht;rw[aa3]at y8;have mN:(a:Int)+((az (e.kids.take (p+1))).length:Int)=(a:Int)+(az (e.kids.take p)).length+(aF u).length:=by rw[cr ht];push_cast [aaU];omega
  generalize (az (e.kids.take p)).length=n1 at*;generalize (bG u (ts.drop (a+n1)))=wu at*;generalize (cX e.kids (ts.drop (a)))=Z at*;have eU:min p e.kids.length=p:=by omega
  repeat' first|(refine ab (hK _ ?_);clear hK K)|((first|refine ae ?_|(refine aa ?_ (hu) ?_;(focus(solve|simp[ay,aX,eU,vH]))));simp[ay,aX,eU,vH];(try simp(disch:=omega)only[wrap64]);(try(refine gen2 ?_ ?_<;>intro hq<;>try simp[ay,aX,eU,vH]at hq)))|(refine⟨(p+1,_),by dsimp only;omega,by dsimp only;omega,rfl,?_,?_⟩<;>simp(disch:=omega) [wrap64,y8,mN,al])|refine T.r0 fun K hK=>?_|refine T.r1 fun K hK=>?_|(refine⟨by omega,?_⟩)|refine T.ct rfl ?_|refine T.seq ?_|refine T.block ?_|refine T.skip ?_
 ·have fa:p=e.kids.length:=by omega
  subst fa;rw[aa1,aa4 (by omega)];repeat' first|(refine ab (hK _ ?_);clear hK K)|(refine ae ?_;simp[ay];(try(refine gen2 ?_ ?_<;>intro hq<;>try simp[ay]at hq)))|(refine T.ret (aB.a8 (Or.inr rfl) ?_)<;>simp[aA,Tryz.results117,al,vH]<;>omega)|refine T.r0 fun K hK=>?_|refine T.cf rfl ?_|refine T.seq ?_|refine T.exit ?_
theorem FN (ts:List aI) (bZ:∀t∈ts,fA t<=1099511627776) (uQ:ts.length<=1099511627776):∀(e:ao),eR e<=1099511627776->∀(a:Nat) (i:Int),i=a->a+(aF e).length<=ts.length->ah aaR 117 [cM e,.l (ts.map ck),.i i] [] (.a8 [cM (bG e (ts.drop a)),.i (i+(aF e).length)]) [] []:=by
 intro e;induction e using ao.ind with
 |h e ih=>
  intro hn a i hi hl;obtain⟨_,_,_,o6⟩:=cB hn;subst hi;have ih':=fun u hu=>ih u hu (o6 u hu)
  rw[fh]at hl⊢;rw[ni];by_cases h5:e.kind=5
  ·rw[if_pos (by simp[bx,h5])]at hl⊢;rw[if_pos (by simp[bx,h5]),if_pos (by simp[bx,h5])];simp only[aaU,aba]at hl⊢;have ay:a<ts.length:=by omega
   have:=Dn e h5 ts a hn bZ (by omega) uQ (ts[a]) (by simp[ay]) ih';rw[aa3,aaW ay,abb]
   push_cast
   rw[<-abr];exact this
  ·by_cases dG:e.kind=13
   ·rw[if_pos (by simp[bx,dG])]at hl⊢;rw[if_pos (by simp[bx,dG]),if_pos (by simp[bx,dG])];simp only[aaU,aba]at hl⊢;have ay:a<ts.length:=by omega
    have:=FM e h5 dG ts a hn bZ (by omega) uQ (ts[a]) (by simp[ay]) ih';rw[aa3,aaW ay,abb]
    push_cast
    rw[<-abr];exact this
   ·have hq:¬bx e.kind=true:=by simp[bx,h5,dG]
    rw[if_neg hq]at hl⊢;rw[if_neg hq,if_neg hq];simp only[aaS]at hl⊢;have:=Dp e h5 dG ts a hn bZ (by omega) uQ (ts[a]?.getD e.ty) (by cases ts[a]? <;>rfl) ih';simpa using this
theorem qS (e:ao) (ts:List aI) (hn:eR e<=1073741824) (bZ:∀t∈ts,fA t<=1099511627776) (uQ:ts.length<=1099511627776):ah aaR 69 [cM e,.l (ts.map ck)] [] (.a8 (uT (gK e ts))) [] []:=by
 have h1:=pS e hn;have h2:=iH e (by omega);simp only[gK];cases hv:aQ e with
 |false=>
  rw[hv]at h2;simp only[ec,hv,abi,if_false,abj,uT,List.length_nil]at h1⊢;refine ah.ob Tryz.func69 Tryz.ntmps69 rfl ?_;repeat' first|(refine ab (hK _ ?_);clear hK K)|((first|(first|refine ae ?_|refine aa rfl (h2) ?_)|refine ff rfl (h1) ?_);simp;(try(refine gen2 ?_ ?_<;>intro hq<;>(try simp at hq)<;>try(have:True:=hq;clear this hq))))|(refine T.ret (aB.a8 (Or.inr rfl) ?_)<;>simp[aA,Tryz.results69]<;>omega)|refine T.r0 fun K hK=>?_|refine T.ct rfl ?_|refine T.seq ?_
 |true=>
  rw[hv]at h2;simp only[ec,hv,if_true,abk]at h1⊢;by_cases hl:ts.length=(aF e).length
  rotate_left
  ·have di:¬((aF e).length:Int)=ts.length:=by omega
   simp only[hl,decide_false,abj,abi,if_false,uT];refine ah.ob Tryz.func69 Tryz.ntmps69 rfl ?_;repeat' first|(refine ab (hK _ ?_);clear hK K)|((first|refine ae ?_|refine ff rfl (h1) ?_);simp[di];(try(refine gen2 ?_ ?_<;>intro hq<;>(try simp[di]at hq)<;>try(have:True:=hq;clear this hq))))|(refine T.ret (aB.a8 (Or.inr rfl) ?_)<;>simp[aA,Tryz.results69]<;>omega)|refine T.r0 fun K hK=>?_|refine T.ct rfl ?_|refine T.seq ?_
  have he:((aF e).length:Int)=ts.length:=by omega
  simp only[hl,decide_true,abk];obtain⟨R,hR⟩:∃R,ts.all (ak 4)=R:=⟨_,rfl⟩;rw[hR];have h3:=FN ts bZ uQ e (by omega) 0 0 rfl (by omega);rw[List.drop_zero]at h3;generalize bG e ts=x at h3⊢;refine ah.ob Tryz.func69 Tryz.ntmps69 rfl ?_;repeat' first|(refine ab (hK _ ?_);clear hK K)|((first|(first|refine ae ?_|refine aa rfl (h2) ?_)|refine ff rfl (h1) ?_);simp[he];(try(refine gen2 ?_ ?_<;>intro hq<;>(try simp[he]at hq)<;>try(have:True:=hq;clear this hq))))|refine T.r0 fun K hK=>?_|refine T.cf rfl ?_|refine T.seq ?_|refine T.block ?_|refine T.skip ?_
  refine T.dD (α:=Nat×List (List CV)) [1,2,4] (fun x=>[(5,.b false),(6,.i x.1)]) (fun x=>[]) (fun x=>x.2) (fun x A=>A) (fun x=>ts.length+1-x.1) (fun x=>x.1<=ts.length/\(ts.drop x.1).all (ak 4)=R) (by simp;rfl) (fun x hx=>?_) (0,[]) (by simpa using hR) (by simp) (by simp) (by simp);obtain⟨p,G⟩:=x;obtain⟨hi,hq⟩:=hx;dsimp only at hi hq⊢;simp only[gy,aaY,aaZ,aaT,aaS];by_cases ay:p<ts.length
  ·obtain⟨u,ht⟩:=bM ay;have eA:u∈ts:=aaX ht;have aX:ts[p]=u:=by rw[aaV ay]at ht;exact Option.some.inj ht
   have gz:ts.drop p=u::ts.drop (p+1):=by rw[aaW ay,aX]
   have hu:=gh u (bZ u eA);rw[gz,List.all_cons]at hq;cases hb:ak 4 u<;>rw[hb]at hu hq
   ·simp only[abj]at hq;subst hq;simp only[abi,if_false,uT];repeat' first|(refine ab (hK _ ?_);clear hK K)|((first|refine ae ?_|refine aa rfl (hu) ?_);simp[ay,aX];(try simp(disch:=omega)only[wrap64]);(try(refine gen2 ?_ ?_<;>intro hq<;>(try simp[ay,aX]at hq)<;>try(have:True:=hq;clear this hq))))|(refine T.ret (aB.a8 (Or.inr rfl) ?_)<;>simp[aA,Tryz.results69]<;>omega)|refine T.r0 fun K hK=>?_|refine T.ct rfl ?_|refine T.seq ?_|refine T.block ?_|refine T.skip ?_
   ·repeat' first|(refine ab (hK _ ?_);clear hK K)|((first|refine ae ?_|refine aa rfl (hu) ?_);simp[ay,aX];(try simp(disch:=omega)only[wrap64]);(try(refine gen2 ?_ ?_<;>intro hq<;>(try simp[ay,aX]at hq)<;>try(have:True:=hq;clear this hq))))|(refine⟨(p+1,_),by dsimp only;omega,⟨by dsimp only;omega,by simpa using hq⟩,rfl,?_,?_⟩<;>simp(disch:=omega) [wrap64])|refine T.r0 fun K hK=>?_|refine T.r1 fun K hK=>?_|refine T.ct rfl ?_|refine T.cf rfl ?_|refine T.seq ?_|refine T.block ?_|refine T.skip ?_
  ·have fa:p=ts.length:=by omega
   subst fa;simp at hq;subst hq;simp only[if_true,uT];repeat' first|(refine ab (hK _ ?_);clear hK K)|((first|refine ae ?_|(refine aa ?_ (h3) ?_;(focus(solve|simp[ay]))));simp[ay];(try(refine gen2 ?_ ?_<;>intro hq<;>(try simp[ay]at hq)<;>try(have:True:=hq;clear this hq))))|(refine T.ret (aB.a8 (Or.inr rfl) ?_)<;>simp[aA,Tryz.results69]<;>omega)|refine T.r0 fun K hK=>?_|refine T.cf rfl ?_|refine T.seq ?_|refine T.exit ?_
end Go.Proofs.YtloolmchekcmeaaGreat
