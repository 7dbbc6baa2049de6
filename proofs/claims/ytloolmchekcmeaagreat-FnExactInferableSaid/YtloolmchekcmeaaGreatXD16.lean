/- A part. -/
import Derived.Test.YtloolmchekcmeaaGreatXD15
set_option linter.unusedVariables false
set_option linter.unusedSimpArgs false
open Go.Proofs.Tryz renaming prog->aba
open Option renaming bind->abb
open List renaming length_append->abc,nil_append->abd,getElem?_eq_getElem->abe,drop_eq_getElem_cons->abf,mem_of_getElem?->abg,cons_append->abh,take_length->abi,append_assoc->abj,drop_drop->abk,set_cons_zero->abl,set_cons_succ->abm,take_of_length_le->abn,length_singleton->abo,headD_cons->abp,getElem_mem->abq
open Bool renaming false_eq_true->abr,false_and->abt,true_and->abu
open Int renaming add_assoc->abv
namespace Go.Proofs.YtloolmchekcmeaaGreat
attribute [-simp] Go.Av.ef Go.Av.AV.dw Go.Av.CV.dw Go.Av.fR Go.Av.AV.cJ Go.Av.CV.cJ Go.Av.bP Go.Av.eu Go.Av.eN Go.Av.eG Go.Av.b8 Go.Av.bN
open Go Go.Av
attribute [local irreducible] T ah TX EX LX dA dB bL b5 eK aF.kind aF.kids ak.kind ak.name ak.num ak.ty ak.fr ak.label ak.kids
attribute [local simp] aN au
set_option maxHeartbeats 16000000
set_option maxRecDepth 8000
attribute [local simp] abb
end Go.Proofs.YtloolmchekcmeaaGreat
namespace Go.Proofs.YtloolmchekcmeaaGreat
attribute [-simp] Go.Av.ef Go.Av.AV.dw Go.Av.CV.dw Go.Av.fR Go.Av.AV.cJ Go.Av.CV.cJ Go.Av.bP Go.Av.eu Go.Av.eN Go.Av.eG Go.Av.b8 Go.Av.bN
open Go Go.Av
attribute [local irreducible] T ah TX EX LX dA dB bL b5 eK aF.kind aF.kids ak.kind ak.name ak.num ak.ty ak.fr ak.label ak.kids
attribute [local simp] aN au
set_option maxHeartbeats 16000000
set_option maxRecDepth 8000
end Go.Proofs.YtloolmchekcmeaaGreat
namespace Go.Proofs.YtloolmchekcmeaaGreat
attribute [-simp] Go.Av.ef Go.Av.AV.dw Go.Av.CV.dw Go.Av.fR Go.Av.AV.cJ Go.Av.CV.cJ Go.Av.bP Go.Av.eu Go.Av.eN Go.Av.eG Go.Av.b8 Go.Av.bN
open Go Go.Av
attribute [local irreducible] T ah TX EX LX dA dB bL b5 eK aF.kind aF.kids ak.kind ak.name ak.num ak.ty ak.fr ak.label ak.kids
attribute [local simp] aN au
set_option maxHeartbeats 16000000
set_option maxRecDepth 8000
attribute [local simp] abb
theorem HT (e:ak) (hl:cL e.kind=e.kids.length):ah aba 109 [cE e] [] (cE (aO e)) [] []:=by
 have hb:=cF 1;by_cases dn:e.kind=13
 ·have h1:e.kids.length=1:=by rw[dn]at hl;simp[cL]at hl;omega
  match hk:e.kids,h1 with
  |[x],_=>
   rw[show aO e=x by simp[aO,dn,hk]];refine ah.ob Tryz.func109 Tryz.ntmps109 rfl ?_;repeat' first|(refine ab (hK _ ?_);clear hK K)|(refine ae ?_;simp[dn,hk];(try(refine gen2 ?_ ?_<;>intro hq<;>try simp[dn,hk]at hq)))|(refine T.ret (az.val (Or.inr rfl) ?_)<;>simp[aE,Tryz.results109,au]<;>omega)|refine T.r0 fun K hK=>?_|refine T.ct rfl ?_|refine T.seq ?_|refine T.block ?_|refine T.skip ?_
 by_cases fX:e.kind=14
 ·have h1:e.kids.length=1:=by rw[fX]at hl;simp[cL]at hl;omega
  match hk:e.kids,h1 with
  |[x],_=>
   rw[show aO e=x by simp[aO,fX,hk]];refine ah.ob Tryz.func109 Tryz.ntmps109 rfl ?_;repeat' first|(refine ab (hK _ ?_);clear hK K)|(refine ae ?_;simp[fX,hk];(try(refine gen2 ?_ ?_<;>intro hq<;>try simp[fX,hk]at hq)))|(refine T.ret (az.val (Or.inr rfl) ?_)<;>simp[aE,Tryz.results109,au]<;>omega)|refine T.r0 fun K hK=>?_|refine T.r1 fun K hK=>?_|refine T.ct rfl ?_|refine T.cf rfl ?_|refine T.seq ?_|refine T.block ?_
 by_cases h5:e.kind=5
 ·rw[show aO e=.mk 5 e.name e.num km e.fr e.label e.kids by simp[aO,h5]];refine ah.ob Tryz.func109 Tryz.ntmps109 rfl ?_;repeat' first|(refine ab (hK _ ?_);clear hK K)|((first|refine ae ?_|refine aa rfl (hb) ?_);simp[h5];(try(refine gen2 ?_ ?_<;>intro hq<;>try simp[h5]at hq)))|(refine T.ret (az.val (Or.inr rfl) ?_)<;>simp[aE,Tryz.results109,h5]<;>omega)|refine T.r0 fun K hK=>?_|refine T.r1 fun K hK=>?_|refine T.ct rfl ?_|refine T.cf rfl ?_|refine T.seq ?_|refine T.block ?_
 ·rw[show aO e=e by simp[aO,dn,fX,h5]];refine ah.ob Tryz.func109 Tryz.ntmps109 rfl ?_;repeat' first|(refine ab (hK _ ?_);clear hK K)|(refine ae ?_;simp[dn,fX,h5];(try(refine gen2 ?_ ?_<;>intro hq<;>try simp[dn,fX,h5]at hq)))|(refine T.ret (az.val (Or.inr rfl) ?_)<;>simp[aE,Tryz.results109]<;>omega)|refine T.r0 fun K hK=>?_|refine T.r1 fun K hK=>?_|refine T.cf rfl ?_|refine T.seq ?_|refine T.block ?_|refine T.skip ?_
def LY (e:ak):Prop:=∃nt d,a8 nt d e=true
theorem Ei (e:ak) (hq:LY e) (hn:fa e<=1099511627776):ah aba 58 [cE e] [] (cE (mapM aO e)) [] []:=by
 have h:=FA 109 aO LY (fun e h u hu=>by obtain⟨nt,d,h⟩:=h;obtain⟨d',rfl,_,_,_,hk⟩:=fD h;exact⟨nt,d',hk u hu⟩)
  (fun e h=>by obtain⟨nt,d,h⟩:=h;obtain⟨d',rfl,_,hl,_,_⟩:=fD h;rw[r8];exact HT _ (by simpa using hl)) e hq hn
 generalize mapM aO e=R at h;refine ah.ob Tryz.func58 Tryz.ntmps58 rfl ?_;repeat' first|(refine ab (hK _ ?_);clear hK K)|((first|refine ae ?_|refine aa rfl (h) ?_);simp;(try(refine gen2 ?_ ?_<;>intro hq<;>(try simp at hq)<;>try(have:True:=hq;clear this hq))))|(refine T.ret (az.val (Or.inr rfl) ?_)<;>simp[aE,Tryz.results58]<;>omega)|refine T.r0 fun K hK=>?_
def PD (e:ak):Option (ak×aF):=if aV e=true then(fU [] e 0).1 else none
end Go.Proofs.YtloolmchekcmeaaGreat
namespace Go.Proofs.YtloolmchekcmeaaGreat
attribute [-simp] Go.Av.bP Go.Av.eu Go.Av.eN Go.Av.eG Go.Av.b8 Go.Av.bN
open Go Go.Av
attribute [local irreducible] T ah TX EX LX dA dB bL b5 eK aF.kind aF.kids ak.kind ak.name ak.num ak.ty ak.fr ak.label ak.kids
attribute [local simp] aN au
set_option maxHeartbeats 16000000
set_option maxRecDepth 8000
theorem BW (e:ak) (h5:e.kind=5) (ts:List aF) (hn:fa e<=1099511627776) (hl:(ts++[e.ty]).length+(aC e.kids).length<=1099511627776)
  (ih:∀u∈e.kids,∀(ts:List aF),ts.length+(aK u).length<=1099511627776->eW aba 129 [.c (.own 0 ts.length),cE u] [] [{sz:=2,dE:=25,rows:=ts.map b5,wr:=true}] (.c (.own 0 (ts++aK u).length)) [] [{sz:=2,dE:=25,rows:=(ts++aK u).map b5,wr:=true}]):
  eW aba 129 [.c (.own 0 ts.length),cE e] [] [{sz:=2,dE:=25,rows:=ts.map b5,wr:=true}] (.c (.own 0 (ts++([e.ty]++aC e.kids)).length)) [] [{sz:=2,dE:=25,rows:=(ts++([e.ty]++aC e.kids)).map b5,wr:=true}]:=by
 obtain⟨kJ,qD,CR,uw⟩:=cU hn;have h1:=cM e.ty kJ;obtain⟨ts1,o9⟩:∃ts1,ts++[e.ty]=ts1:=⟨_,rfl⟩;rw[<-abj,o9];rw[o9]at hl;have Ox:ts.length<=1099511627776:=by rw[<-o9,abc]at hl;omega
 refine eW.kg Tryz.func129 (by kernel_rfl) rfl (by kernel_rfl) (by simp[Tryz.ntmps129]) (by simp) ?_;rw[Tryz.ntmps129];repeat' first|(refine ab (hK _ ?_);clear hK K)|((first|refine ae ?_|refine aa rfl (h1) ?_);simp[h5];(try(refine gen2 ?_ ?_<;>intro hq<;>try simp[h5]at hq)))|(refine⟨by omega,by omega,?_⟩)|refine T.r0 fun K hK=>?_|refine T.r1 fun K hK=>?_|refine T.ct rfl ?_|refine T.seq ?_|refine T.block ?_
 refine T.dr (α:=Nat×List (List CV)) [3,4] (fun x=>[(0,.c (.own 0 (ts1++aC (e.kids.take x.1)).length)),(5,.i x.1)]) (fun x=>[]) (fun x=>x.2) (fun x _=>[{sz:=2,dE:=25,rows:=(ts1++aC (e.kids.take x.1)).map b5,wr:=true}]) (fun x=>e.kids.length+1-x.1)
  (fun x=>x.1<=e.kids.length) (by simp;rfl) (fun x hx=>?_) (0,[]) (by simp) (by simp) (by simp[<-o9,aC,aN]) (by simp[<-o9,aC])
 obtain⟨p,G⟩:=x;dsimp only at hx⊢;simp only[gI,abh,abd];by_cases ax:p<e.kids.length
 ·obtain⟨u,ht⟩:=bz ax;have eJ:u∈e.kids:=abg ht;have bg:e.kids[p]=u:=by rw[abe ax]at ht;exact Option.some.inj ht
  have iY:e.kids.drop p=u::e.kids.drop (p+1):=by rw[abf ax,bg]
  have hle:=iA e.kids (p+1);rw[cA ht]at hle;have hu:=ih u eJ (ts1++aC (e.kids.take p)) (by simp only[abc]at*;omega);have qA:ts1++aC (e.kids.take (p+1))=ts1++aC (e.kids.take p)++aK u:=by rw[cA ht,abj]
  rw[<-qA]at hu;obtain⟨Z',KF⟩:∃Z',ts1++aC (e.kids.take (p+1))=Z':=⟨_,rfl⟩;rw[KF]at hu;clear qA;generalize (ts1++aC (e.kids.take p))=Z at*;repeat' first|(refine ab (hK _ ?_);clear hK K)|(refine ae ?_;simp[ax,bg];(try simp(disch:=omega)only[wrap64]);(try(refine gen2 ?_ ?_<;>intro hq<;>try simp[ax,bg]at hq)))|(refine jO 0 hu rfl rfl rfl rfl ?_;simp[back])|(refine⟨(p+1,_),by dsimp only;omega,by dsimp only;omega,rfl,?_,?_⟩<;>simp(disch:=omega) [wrap64,<-KF])|refine T.r0 fun K hK=>?_|refine T.r1 fun K hK=>?_|refine T.ct rfl ?_|refine T.seq ?_|refine T.block ?_|refine T.skip ?_
 ·have eb:p=e.kids.length:=by omega
  subst eb;rw[abi];repeat' first|(refine ab (hK _ ?_);clear hK K)|(refine ae ?_;simp[ax];(try(refine gen2 ?_ ?_<;>intro hq<;>try simp[ax]at hq)))|refine T.r0 fun K hK=>?_|refine T.cf rfl ?_|refine T.seq ?_|refine T.exit ?_
  all_goals(refine T.ret (qw.one (Or.inr rfl) ?_ ?_)<;>simp[aE,Tryz.results129])
theorem De (e:ak) (h5:¬e.kind=5) (dn:e.kind=13) (ts:List aF) (hn:fa e<=1099511627776) (hl:(ts++[e.ty]).length+(aC e.kids).length<=1099511627776)
  (ih:∀u∈e.kids,∀(ts:List aF),ts.length+(aK u).length<=1099511627776->eW aba 129 [.c (.own 0 ts.length),cE u] [] [{sz:=2,dE:=25,rows:=ts.map b5,wr:=true}] (.c (.own 0 (ts++aK u).length)) [] [{sz:=2,dE:=25,rows:=(ts++aK u).map b5,wr:=true}]):
  eW aba 129 [.c (.own 0 ts.length),cE e] [] [{sz:=2,dE:=25,rows:=ts.map b5,wr:=true}] (.c (.own 0 (ts++([e.ty]++aC e.kids)).length)) [] [{sz:=2,dE:=25,rows:=(ts++([e.ty]++aC e.kids)).map b5,wr:=true}]:=by
 obtain⟨kJ,qD,CR,uw⟩:=cU hn;have h1:=cM e.ty kJ;obtain⟨ts1,o9⟩:∃ts1,ts++[e.ty]=ts1:=⟨_,rfl⟩;rw[<-abj,o9];rw[o9]at hl;have Ox:ts.length<=1099511627776:=by rw[<-o9,abc]at hl;omega
 refine eW.kg Tryz.func129 (by kernel_rfl) rfl (by kernel_rfl) (by simp[Tryz.ntmps129]) (by simp) ?_;rw[Tryz.ntmps129];repeat' first|(refine ab (hK _ ?_);clear hK K)|((first|refine ae ?_|refine aa rfl (h1) ?_);simp[h5,dn];(try(refine gen2 ?_ ?_<;>intro hq<;>try simp[h5,dn]at hq)))|(refine⟨by omega,by omega,?_⟩)|refine T.r0 fun K hK=>?_|refine T.r1 fun K hK=>?_|refine T.ct rfl ?_|refine T.seq ?_|refine T.block ?_
 refine T.dr (α:=Nat×List (List CV)) [3,4] (fun x=>[(0,.c (.own 0 (ts1++aC (e.kids.take x.1)).length)),(5,.i x.1)]) (fun x=>[]) (fun x=>x.2) (fun x _=>[{sz:=2,dE:=25,rows:=(ts1++aC (e.kids.take x.1)).map b5,wr:=true}]) (fun x=>e.kids.length+1-x.1)
  (fun x=>x.1<=e.kids.length) (by simp;rfl) (fun x hx=>?_) (0,[]) (by simp) (by simp) (by simp[<-o9,aC,aN]) (by simp[<-o9,aC])
 obtain⟨p,G⟩:=x;dsimp only at hx⊢;simp only[gI,abh,abd];by_cases ax:p<e.kids.length
 ·obtain⟨u,ht⟩:=bz ax;have eJ:u∈e.kids:=abg ht;have bg:e.kids[p]=u:=by rw[abe ax]at ht;exact Option.some.inj ht
  have iY:e.kids.drop p=u::e.kids.drop (p+1):=by rw[abf ax,bg]
  have hle:=iA e.kids (p+1);rw[cA ht]at hle;have hu:=ih u eJ (ts1++aC (e.kids.take p)) (by simp only[abc]at*;omega);have qA:ts1++aC (e.kids.take (p+1))=ts1++aC (e.kids.take p)++aK u:=by rw[cA ht,abj]
  rw[<-qA]at hu;obtain⟨Z',KF⟩:∃Z',ts1++aC (e.kids.take (p+1))=Z':=⟨_,rfl⟩;rw[KF]at hu;clear qA;generalize (ts1++aC (e.kids.take p))=Z at*;repeat' first|(refine ab (hK _ ?_);clear hK K)|(refine ae ?_;simp[ax,bg];(try simp(disch:=omega)only[wrap64]);(try(refine gen2 ?_ ?_<;>intro hq<;>try simp[ax,bg]at hq)))|(refine jO 0 hu rfl rfl rfl rfl ?_;simp[back])|(refine⟨(p+1,_),by dsimp only;omega,by dsimp only;omega,rfl,?_,?_⟩<;>simp(disch:=omega) [wrap64,<-KF])|refine T.r0 fun K hK=>?_|refine T.r1 fun K hK=>?_|refine T.ct rfl ?_|refine T.seq ?_|refine T.block ?_|refine T.skip ?_
 ·have eb:p=e.kids.length:=by omega
  subst eb;rw[abi];repeat' first|(refine ab (hK _ ?_);clear hK K)|(refine ae ?_;simp[ax];(try(refine gen2 ?_ ?_<;>intro hq<;>try simp[ax]at hq)))|refine T.r0 fun K hK=>?_|refine T.cf rfl ?_|refine T.seq ?_|refine T.exit ?_
  all_goals(refine T.ret (qw.one (Or.inr rfl) ?_ ?_)<;>simp[aE,Tryz.results129])
theorem BX (e:ak) (h5:¬e.kind=5) (dn:¬e.kind=13) (ts:List aF) (hn:fa e<=1099511627776) (hl:(ts++[]).length+(aC e.kids).length<=1099511627776)
  (ih:∀u∈e.kids,∀(ts:List aF),ts.length+(aK u).length<=1099511627776->eW aba 129 [.c (.own 0 ts.length),cE u] [] [{sz:=2,dE:=25,rows:=ts.map b5,wr:=true}] (.c (.own 0 (ts++aK u).length)) [] [{sz:=2,dE:=25,rows:=(ts++aK u).map b5,wr:=true}]):
  eW aba 129 [.c (.own 0 ts.length),cE e] [] [{sz:=2,dE:=25,rows:=ts.map b5,wr:=true}] (.c (.own 0 (ts++([]++aC e.kids)).length)) [] [{sz:=2,dE:=25,rows:=(ts++([]++aC e.kids)).map b5,wr:=true}]:=by
 obtain⟨kJ,qD,CR,uw⟩:=cU hn;have h1:=cM e.ty kJ;obtain⟨ts1,o9⟩:∃ts1,ts++[]=ts1:=⟨_,rfl⟩;rw[<-abj,o9];rw[o9]at hl;have Ox:ts.length<=1099511627776:=by rw[<-o9,abc]at hl;omega
 refine eW.kg Tryz.func129 (by kernel_rfl) rfl (by kernel_rfl) (by simp[Tryz.ntmps129]) (by simp) ?_;rw[Tryz.ntmps129];repeat' first|(refine ab (hK _ ?_);clear hK K)|(refine ae ?_;simp[h5,dn];(try(refine gen2 ?_ ?_<;>intro hq<;>try simp[h5,dn]at hq)))|refine T.r0 fun K hK=>?_|refine T.cf rfl ?_|refine T.seq ?_|refine T.block ?_|refine T.skip ?_
 refine T.dr (α:=Nat×List (List CV)) [3,4] (fun x=>[(0,.c (.own 0 (ts1++aC (e.kids.take x.1)).length)),(5,.i x.1)]) (fun x=>[]) (fun x=>x.2) (fun x _=>[{sz:=2,dE:=25,rows:=(ts1++aC (e.kids.take x.1)).map b5,wr:=true}]) (fun x=>e.kids.length+1-x.1)
  (fun x=>x.1<=e.kids.length) (by simp;rfl) (fun x hx=>?_) (0,[]) (by simp) (by simp) (by simp[<-o9,aC,aN]) (by simp[<-o9,aC])
 obtain⟨p,G⟩:=x;dsimp only at hx⊢;simp only[gI,abh,abd];by_cases ax:p<e.kids.length
 ·obtain⟨u,ht⟩:=bz ax;have eJ:u∈e.kids:=abg ht;have bg:e.kids[p]=u:=by rw[abe ax]at ht;exact Option.some.inj ht
  have iY:e.kids.drop p=u::e.kids.drop (p+1):=by rw[abf ax,bg]
  have hle:=iA e.kids (p+1);rw[cA ht]at hle;have hu:=ih u eJ (ts1++aC (e.kids.take p)) (by simp only[abc]at*;omega);have qA:ts1++aC (e.kids.take (p+1))=ts1++aC (e.kids.take p)++aK u:=by rw[cA ht,abj]
  rw[<-qA]at hu;obtain⟨Z',KF⟩:∃Z',ts1++aC (e.kids.take (p+1))=Z':=⟨_,rfl⟩;rw[KF]at hu;clear qA;generalize (ts1++aC (e.kids.take p))=Z at*;repeat' first|(refine ab (hK _ ?_);clear hK K)|(refine ae ?_;simp[ax,bg];(try simp(disch:=omega)only[wrap64]);(try(refine gen2 ?_ ?_<;>intro hq<;>try simp[ax,bg]at hq)))|(refine jO 0 hu rfl rfl rfl rfl ?_;simp[back])|(refine⟨(p+1,_),by dsimp only;omega,by dsimp only;omega,rfl,?_,?_⟩<;>simp(disch:=omega) [wrap64,<-KF])|refine T.r0 fun K hK=>?_|refine T.r1 fun K hK=>?_|refine T.ct rfl ?_|refine T.seq ?_|refine T.block ?_|refine T.skip ?_
 ·have eb:p=e.kids.length:=by omega
  subst eb;rw[abi];repeat' first|(refine ab (hK _ ?_);clear hK K)|(refine ae ?_;simp[ax];(try(refine gen2 ?_ ?_<;>intro hq<;>try simp[ax]at hq)))|refine T.r0 fun K hK=>?_|refine T.cf rfl ?_|refine T.seq ?_|refine T.exit ?_
  all_goals(refine T.ret (qw.one (Or.inr rfl) ?_ ?_)<;>simp[aE,Tryz.results129])
theorem Df:∀(e:ak),fa e<=1099511627776->∀(ts:List aF),ts.length+(aK e).length<=1099511627776->
  eW aba 129 [.c (.own 0 ts.length),cE e] [] [{sz:=2,dE:=25,rows:=ts.map b5,wr:=true}] (.c (.own 0 (ts++aK e).length)) [] [{sz:=2,dE:=25,rows:=(ts++aK e).map b5,wr:=true}]:=by
 intro e;induction e using ak.ind with
 |h e ih=>
  intro hn ts hl;obtain⟨_,_,_,uw⟩:=cU hn;have ih':=fun u hu=>ih u hu (uw u hu)
  rw[nB]at hl⊢;by_cases h5:e.kind=5
  ·rw[if_pos (by simp[bI,h5])]at hl⊢;exact BW e h5 ts hn (by simp only[abc]at*;omega) ih'
  ·by_cases dn:e.kind=13
   ·rw[if_pos (by simp[bI,dn])]at hl⊢;exact De e h5 dn ts hn (by simp only[abc]at*;omega) ih'
   ·rw[if_neg (by simp[bI,h5,dn])]at hl⊢;exact BX e h5 dn ts hn (by simp only[abc]at*;omega) ih'
def lf (e:ak):List aF:=if aV e=true then aK e else []
theorem w9 (e:ak) (hn:fa e<=1073741824):ah aba 88 [cE e] [] (.c (.own 0 (lf e).length)) [] [{sz:=2,dE:=25,rows:=(lf e).map b5,wr:=true}]:=by
 have h1:=jB e (by omega);have h2:=Df e (by omega) [] (by have:=(zN e).2;simp;omega);simp only[abd]at h2;simp only[lf];cases hv:aV e with
 |false=>
  rw[hv]at h1;simp only[abr,if_false];refine ah.ob Tryz.func88 Tryz.ntmps88 rfl ?_;repeat' first|(refine ab (hK _ ?_);clear hK K)|((first|refine ae ?_|refine aa rfl (h1) ?_);simp;(try(refine gen2 ?_ ?_<;>intro hq<;>try simp at hq)))|refine T.rs (id:=2) (fun i=>i==0) fun K hK=>?_|refine T.rs (id:=0) (fun _=>false) fun K hK=>?_|refine T.rs (id:=1) (fun _=>false) fun K hK=>?_|refine T.ct rfl ?_|refine T.seq ?_
  refine T.ret (az.I8 0 (Or.inr rfl) (ys:=[_]) ?_ rfl ?_)<;>simp[aE,Tryz.results88]
 |true=>
  rw[hv]at h1;simp only[if_true];generalize aK e=ts at*;refine ah.ob Tryz.func88 Tryz.ntmps88 rfl ?_;repeat' first|(refine ab (hK _ ?_);clear hK K)|((first|refine ae ?_|refine aa rfl (h1) ?_);simp;(try(refine gen2 ?_ ?_<;>intro hq<;>try simp at hq)))|(refine jO 0 h2 rfl rfl rfl rfl ?_;simp[back])|refine T.rs (id:=3) (fun i=>i==0) fun K hK=>?_|refine T.rs (id:=0) (fun _=>false) fun K hK=>?_|refine T.rs (id:=1) (fun _=>false) fun K hK=>?_|refine T.cf rfl ?_|refine T.seq ?_|refine T.skip ?_
  refine T.ret (az.I8 0 (Or.inr rfl) (ys:=[_]) ?_ rfl ?_)<;>simp[aE,Tryz.results88]
theorem Dg (e:ak) (h5:e.kind=5) (ts:List aF) (a:Nat) (hn:fa e<=1099511627776) (b6:∀t∈ts,dF t<=1099511627776) (hl:a+1+(aC e.kids).length<=ts.length) (rA:ts.length<=1099511627776) (tx:aF) (hx:tx=ts[a]?.getD tx)
  (ih:∀u∈e.kids,∀(a:Nat) (i:Int),i=a->a+(aK u).length<=ts.length->ah aba 117 [cE u,.l (ts.map b5),.i i] [] (.aZ [cE (cq u (ts.drop a)),.i (i+(aK u).length)]) [] []):
  ah aba 117 [cE e,.l (ts.map b5),.i a] [] (.aZ [cE (.mk e.kind e.name e.num tx e.fr e.label (dP e.kids (ts.drop (a+1)))),.i ((a:Int)+1+(aC e.kids).length)]) [] []:=by
 obtain⟨kJ,qD,CR,uw⟩:=cU hn;have h1:=cM e.ty kJ;have h2:=cM e.fr qD;refine ah.ob Tryz.func117 Tryz.ntmps117 rfl ?_;have zX:a<ts.length:=by omega
 have uW:ts[a]=tx:=by rw[abe zX]at hx;exact hx.symm
 have h3:=cM tx (b6 tx (by rw[<-uW];exact abq zX));repeat' first|(refine ab (hK _ ?_);clear hK K)|((first|refine ae ?_|refine aa rfl (h1) ?_|refine aa rfl (h2) ?_|refine aa rfl (h3) ?_);simp[h5,zX,uW];(try simp(disch:=omega)only[wrap64]);(try(refine gen2 ?_ ?_<;>intro hq<;>try simp[h5,zX,uW]at hq)))|refine T.r0 fun K hK=>?_|refine T.r1 fun K hK=>?_|refine T.ct rfl ?_|refine T.seq ?_|refine T.block ?_
 refine T.dK 2 8 9 28 rfl rfl ?_
 refine T.dr (α:=Nat×List (List CV)) [1,3,6,7,8] (fun x=>[(2,.i ((a:Int)+1+(aC (e.kids.take x.1)).length)),(9,.i x.1)]) (fun x=>[(2,[.d (.i e.kind),.d (.str e.name),.d (.i e.num),.d (.i (tx).kind),.d (.sl ((tx).kids.map b5)),.d (.i e.fr.kind),.d (.sl (e.fr.kids.map b5)),.d (.i e.label),.own 0 x.1])]) (fun x=>x.2)
  (fun x _=>[{sz:=9,dE:=28,rows:=((dP e.kids (ts.drop (a+1))).take x.1).map eK,wr:=true}]) (fun x=>e.kids.length+1-x.1) (fun x=>x.1<=e.kids.length) (by simp;rfl) (fun x hx=>?_) (0,[]) (by simp) (by simp[h5]) (by simp) (by simp[aC])
 obtain⟨p,G⟩:=x;dsimp only at hx⊢;simp only[gI,abl,abm,abh,abd];have vB:(dP e.kids (ts.drop (a+1))).length=e.kids.length:=kL _ _;by_cases ax:p<e.kids.length
 ·obtain⟨u,ht⟩:=bz ax;have eJ:u∈e.kids:=abg ht;have bg:e.kids[p]=u:=by rw[abe ax]at ht;exact Option.some.inj ht
  have iY:e.kids.drop p=u::e.kids.drop (p+1):=by rw[abf ax,bg]
  have hle:=iA e.kids (p+1);rw[cA ht,abc]at hle;have hu:=ih u eJ (a+1+(aC (e.kids.take p)).length) ((a:Int)+1+(aC (e.kids.take p)).length) (by push_cast;omega) (by omega);have Gg:=la (ts.drop (a+1)) ht;rw[abk]at Gg;have qA:(a:Int)+1+((aC (e.kids.take (p+1))).length:Int)=(a:Int)+1+(aC (e.kids.take p)).length+(aK u).length:=by rw[cA ht];push_cast [abc];omega
  generalize (aC (e.kids.take p)).length=n1 at*;generalize (cq u (ts.drop (a+1+n1)))=wu at*;generalize (dP e.kids (ts.drop (a+1)))=Z at*;have fK:min p e.kids.length=p:=by omega
  repeat' first|(refine ab (hK _ ?_);clear hK K)|((first|refine ae ?_|(refine aa ?_ (hu) ?_;(focus(solve|simp[ax,bg,fK,vB]))));simp[ax,bg,fK,vB];(try simp(disch:=omega)only[wrap64]);(try(refine gen2 ?_ ?_<;>intro hq<;>try simp[ax,bg,fK,vB]at hq)))|(refine⟨(p+1,_),by dsimp only;omega,by dsimp only;omega,rfl,?_,?_⟩<;>simp(disch:=omega) [wrap64,Gg,qA,au])|refine T.r0 fun K hK=>?_|refine T.r1 fun K hK=>?_|(refine⟨by omega,?_⟩)|refine T.ct rfl ?_|refine T.seq ?_|refine T.block ?_|refine T.skip ?_
 ·have eb:p=e.kids.length:=by omega
  subst eb;rw[abi,abn (by omega)];repeat' first|(refine ab (hK _ ?_);clear hK K)|(refine ae ?_;simp[ax];(try(refine gen2 ?_ ?_<;>intro hq<;>try simp[ax]at hq)))|(refine T.ret (az.aZ (Or.inr rfl) ?_)<;>simp[aE,Tryz.results117,au,vB]<;>omega)|refine T.r0 fun K hK=>?_|refine T.cf rfl ?_|refine T.seq ?_|refine T.exit ?_
theorem FC (e:ak) (h5:¬e.kind=5) (dn:e.kind=13) (ts:List aF) (a:Nat) (hn:fa e<=1099511627776) (b6:∀t∈ts,dF t<=1099511627776) (hl:a+1+(aC e.kids).length<=ts.length) (rA:ts.length<=1099511627776) (tx:aF) (hx:tx=ts[a]?.getD tx)
  (ih:∀u∈e.kids,∀(a:Nat) (i:Int),i=a->a+(aK u).length<=ts.length->ah aba 117 [cE u,.l (ts.map b5),.i i] [] (.aZ [cE (cq u (ts.drop a)),.i (i+(aK u).length)]) [] []):
  ah aba 117 [cE e,.l (ts.map b5),.i a] [] (.aZ [cE (.mk e.kind e.name e.num tx e.fr e.label (dP e.kids (ts.drop (a+1)))),.i ((a:Int)+1+(aC e.kids).length)]) [] []:=by
 obtain⟨kJ,qD,CR,uw⟩:=cU hn;have h1:=cM e.ty kJ;have h2:=cM e.fr qD;refine ah.ob Tryz.func117 Tryz.ntmps117 rfl ?_;have zX:a<ts.length:=by omega
 have uW:ts[a]=tx:=by rw[abe zX]at hx;exact hx.symm
 have h3:=cM tx (b6 tx (by rw[<-uW];exact abq zX));repeat' first|(refine ab (hK _ ?_);clear hK K)|((first|refine ae ?_|refine aa rfl (h1) ?_|refine aa rfl (h2) ?_|refine aa rfl (h3) ?_);simp[h5,dn,zX,uW];(try simp(disch:=omega)only[wrap64]);(try(refine gen2 ?_ ?_<;>intro hq<;>try simp[h5,dn,zX,uW]at hq)))|refine T.r0 fun K hK=>?_|refine T.r1 fun K hK=>?_|refine T.ct rfl ?_|refine T.seq ?_|refine T.block ?_
 refine T.dK 2 8 9 28 rfl rfl ?_
 refine T.dr (α:=Nat×List (List CV)) [1,3,6,7,8] (fun x=>[(2,.i ((a:Int)+1+(aC (e.kids.take x.1)).length)),(9,.i x.1)]) (fun x=>[(2,[.d (.i e.kind),.d (.str e.name),.d (.i e.num),.d (.i (tx).kind),.d (.sl ((tx).kids.map b5)),.d (.i e.fr.kind),.d (.sl (e.fr.kids.map b5)),.d (.i e.label),.own 0 x.1])]) (fun x=>x.2)
  (fun x _=>[{sz:=9,dE:=28,rows:=((dP e.kids (ts.drop (a+1))).take x.1).map eK,wr:=true}]) (fun x=>e.kids.length+1-x.1) (fun x=>x.1<=e.kids.length) (by simp;rfl) (fun x hx=>?_) (0,[]) (by simp) (by simp[h5,dn]) (by simp) (by simp[aC])
 obtain⟨p,G⟩:=x;dsimp only at hx⊢;simp only[gI,abl,abm,abh,abd];have vB:(dP e.kids (ts.drop (a+1))).length=e.kids.length:=kL _ _;by_cases ax:p<e.kids.length
 ·obtain⟨u,ht⟩:=bz ax;have eJ:u∈e.kids:=abg ht;have bg:e.kids[p]=u:=by rw[abe ax]at ht;exact Option.some.inj ht
  have iY:e.kids.drop p=u::e.kids.drop (p+1):=by rw[abf ax,bg]
  have hle:=iA e.kids (p+1);rw[cA ht,abc]at hle;have hu:=ih u eJ (a+1+(aC (e.kids.take p)).length) ((a:Int)+1+(aC (e.kids.take p)).length) (by push_cast;omega) (by omega);have Gg:=la (ts.drop (a+1)) ht;rw[abk]at Gg;have qA:(a:Int)+1+((aC (e.kids.take (p+1))).length:Int)=(a:Int)+1+(aC (e.kids.take p)).length+(aK u).length:=by rw[cA ht];push_cast [abc];omega
  generalize (aC (e.kids.take p)).length=n1 at*;generalize (cq u (ts.drop (a+1+n1)))=wu at*;generalize (dP e.kids (ts.drop (a+1)))=Z at*;have fK:min p e.kids.length=p:=by omega
  repeat' first|(refine ab (hK _ ?_);clear hK K)|((first|refine ae ?_|(refine aa ?_ (hu) ?_;(focus(solve|simp[ax,bg,fK,vB]))));simp[ax,bg,fK,vB];(try simp(disch:=omega)only[wrap64]);(try(refine gen2 ?_ ?_<;>intro hq<;>try simp[ax,bg,fK,vB]at hq)))|(refine⟨(p+1,_),by dsimp only;omega,by dsimp only;omega,rfl,?_,?_⟩<;>simp(disch:=omega) [wrap64,Gg,qA,au])|refine T.r0 fun K hK=>?_|refine T.r1 fun K hK=>?_|(refine⟨by omega,?_⟩)|refine T.ct rfl ?_|refine T.seq ?_|refine T.block ?_|refine T.skip ?_
 ·have eb:p=e.kids.length:=by omega
  subst eb;rw[abi,abn (by omega)];repeat' first|(refine ab (hK _ ?_);clear hK K)|(refine ae ?_;simp[ax];(try(refine gen2 ?_ ?_<;>intro hq<;>try simp[ax]at hq)))|(refine T.ret (az.aZ (Or.inr rfl) ?_)<;>simp[aE,Tryz.results117,au,vB]<;>omega)|refine T.r0 fun K hK=>?_|refine T.cf rfl ?_|refine T.seq ?_|refine T.exit ?_
theorem Dh (e:ak) (h5:¬e.kind=5) (dn:¬e.kind=13) (ts:List aF) (a:Nat) (hn:fa e<=1099511627776) (b6:∀t∈ts,dF t<=1099511627776) (hl:a+(aC e.kids).length<=ts.length) (rA:ts.length<=1099511627776) (tx:aF) (hx:tx=ts[a]?.getD tx)
  (ih:∀u∈e.kids,∀(a:Nat) (i:Int),i=a->a+(aK u).length<=ts.length->ah aba 117 [cE u,.l (ts.map b5),.i i] [] (.aZ [cE (cq u (ts.drop a)),.i (i+(aK u).length)]) [] []):
  ah aba 117 [cE e,.l (ts.map b5),.i a] [] (.aZ [cE (.mk e.kind e.name e.num e.ty e.fr e.label (dP e.kids (ts.drop (a)))),.i ((a:Int)+(aC e.kids).length)]) [] []:=by
 obtain⟨kJ,qD,CR,uw⟩:=cU hn;have h1:=cM e.ty kJ;have h2:=cM e.fr qD;refine ah.ob Tryz.func117 Tryz.ntmps117 rfl ?_;repeat' first|(refine ab (hK _ ?_);clear hK K)|((first|refine ae ?_|refine aa rfl (h1) ?_|refine aa rfl (h2) ?_);simp[h5,dn];(try(refine gen2 ?_ ?_<;>intro hq<;>try simp[h5,dn]at hq)))|refine T.r0 fun K hK=>?_|refine T.cf rfl ?_|refine T.seq ?_|refine T.block ?_|refine T.skip ?_
 refine T.dK 2 8 9 28 rfl rfl ?_
 refine T.dr (α:=Nat×List (List CV)) [1,3,6,7,8] (fun x=>[(2,.i ((a:Int)+(aC (e.kids.take x.1)).length)),(9,.i x.1)]) (fun x=>[(2,[.d (.i e.kind),.d (.str e.name),.d (.i e.num),.d (.i (e.ty).kind),.d (.sl ((e.ty).kids.map b5)),.d (.i e.fr.kind),.d (.sl (e.fr.kids.map b5)),.d (.i e.label),.own 0 x.1])]) (fun x=>x.2)
  (fun x _=>[{sz:=9,dE:=28,rows:=((dP e.kids (ts.drop (a))).take x.1).map eK,wr:=true}]) (fun x=>e.kids.length+1-x.1) (fun x=>x.1<=e.kids.length) (by simp;rfl) (fun x hx=>?_) (0,[]) (by simp) (by simp[h5,dn]) (by simp) (by simp[aC])
 obtain⟨p,G⟩:=x;dsimp only at hx⊢;simp only[gI,abl,abm,abh,abd];have vB:(dP e.kids (ts.drop (a))).length=e.kids.length:=kL _ _;by_cases ax:p<e.kids.length
 ·obtain⟨u,ht⟩:=bz ax;have eJ:u∈e.kids:=abg ht;have bg:e.kids[p]=u:=by rw[abe ax]at ht;exact Option.some.inj ht
  have iY:e.kids.drop p=u::e.kids.drop (p+1):=by rw[abf ax,bg]
  have hle:=iA e.kids (p+1);rw[cA ht,abc]at hle;have hu:=ih u eJ (a+(aC (e.kids.take p)).length) ((a:Int)+(aC (e.kids.take p)).length) (by push_cast;omega) (by omega);have Gg:=la (ts.drop (a)) ht;rw[abk]at Gg;have qA:(a:Int)+((aC (e.kids.take (p+1))).length:Int)=(a:Int)+(aC (e.kids.take p)).length+(aK u).length:=by rw[cA ht];push_cast [abc];omega
  generalize (aC (e.kids.take p)).length=n1 at*;generalize (cq u (ts.drop (a+n1)))=wu at*;generalize (dP e.kids (ts.drop (a)))=Z at*;have fK:min p e.kids.length=p:=by omega
  repeat' first|(refine ab (hK _ ?_);clear hK K)|((first|refine ae ?_|(refine aa ?_ (hu) ?_;(focus(solve|simp[ax,bg,fK,vB]))));simp[ax,bg,fK,vB];(try simp(disch:=omega)only[wrap64]);(try(refine gen2 ?_ ?_<;>intro hq<;>try simp[ax,bg,fK,vB]at hq)))|(refine⟨(p+1,_),by dsimp only;omega,by dsimp only;omega,rfl,?_,?_⟩<;>simp(disch:=omega) [wrap64,Gg,qA,au])|refine T.r0 fun K hK=>?_|refine T.r1 fun K hK=>?_|(refine⟨by omega,?_⟩)|refine T.ct rfl ?_|refine T.seq ?_|refine T.block ?_|refine T.skip ?_
 ·have eb:p=e.kids.length:=by omega
  subst eb;rw[abi,abn (by omega)];repeat' first|(refine ab (hK _ ?_);clear hK K)|(refine ae ?_;simp[ax];(try(refine gen2 ?_ ?_<;>intro hq<;>try simp[ax]at hq)))|(refine T.ret (az.aZ (Or.inr rfl) ?_)<;>simp[aE,Tryz.results117,au,vB]<;>omega)|refine T.r0 fun K hK=>?_|refine T.cf rfl ?_|refine T.seq ?_|refine T.exit ?_
theorem FD (ts:List aF) (b6:∀t∈ts,dF t<=1099511627776) (rA:ts.length<=1099511627776):∀(e:ak),fa e<=1099511627776->∀(a:Nat) (i:Int),i=a->a+(aK e).length<=ts.length->ah aba 117 [cE e,.l (ts.map b5),.i i] [] (.aZ [cE (cq e (ts.drop a)),.i (i+(aK e).length)]) [] []:=by
 intro e;induction e using ak.ind with
 |h e ih=>
  intro hn a i hi hl;obtain⟨_,_,_,uw⟩:=cU hn;subst hi;have ih':=fun u hu=>ih u hu (uw u hu)
  rw[nB]at hl⊢;rw[yL];by_cases h5:e.kind=5
  ·rw[if_pos (by simp[bI,h5])]at hl⊢;rw[if_pos (by simp[bI,h5]),if_pos (by simp[bI,h5])];simp only[abc,abo]at hl⊢;have ax:a<ts.length:=by omega
   have:=Dg e h5 ts a hn b6 (by omega) rA (ts[a]) (by simp[ax]) ih';rw[abk,abf ax,abp]
   push_cast
   rw[<-abv];exact this
  ·by_cases dn:e.kind=13
   ·rw[if_pos (by simp[bI,dn])]at hl⊢;rw[if_pos (by simp[bI,dn]),if_pos (by simp[bI,dn])];simp only[abc,abo]at hl⊢;have ax:a<ts.length:=by omega
    have:=FC e h5 dn ts a hn b6 (by omega) rA (ts[a]) (by simp[ax]) ih';rw[abk,abf ax,abp]
    push_cast
    rw[<-abv];exact this
   ·have hq:¬bI e.kind=true:=by simp[bI,h5,dn]
    rw[if_neg hq]at hl⊢;rw[if_neg hq,if_neg hq];simp only[abd]at hl⊢;have:=Dh e h5 dn ts a hn b6 (by omega) rA (ts[a]?.getD e.ty) (by cases ts[a]? <;>rfl) ih';simpa using this
theorem ym (e:ak) (ts:List aF) (hn:fa e<=1073741824) (b6:∀t∈ts,dF t<=1099511627776) (rA:ts.length<=1099511627776):ah aba 69 [cE e,.l (ts.map b5)] [] (.aZ (yO (nC e ts))) [] []:=by
 have h1:=w9 e hn;have h2:=jB e (by omega);simp only[nC];cases hv:aV e with
 |false=>
  rw[hv]at h2;simp only[lf,hv,abr,if_false,abt,yO,List.length_nil]at h1⊢;refine ah.ob Tryz.func69 Tryz.ntmps69 rfl ?_;repeat' first|(refine ab (hK _ ?_);clear hK K)|((first|(first|refine ae ?_|refine aa rfl (h2) ?_)|refine nq rfl (h1) ?_);simp;(try(refine gen2 ?_ ?_<;>intro hq<;>(try simp at hq)<;>try(have:True:=hq;clear this hq))))|(refine T.ret (az.aZ (Or.inr rfl) ?_)<;>simp[aE,Tryz.results69]<;>omega)|refine T.r0 fun K hK=>?_|refine T.ct rfl ?_|refine T.seq ?_
 |true=>
  rw[hv]at h2;simp only[lf,hv,if_true,abu]at h1⊢;by_cases hl:ts.length=(aK e).length
  rotate_left
  ·have cY:¬((aK e).length:Int)=ts.length:=by omega
   simp only[hl,decide_false,abt,abr,if_false,yO];refine ah.ob Tryz.func69 Tryz.ntmps69 rfl ?_;repeat' first|(refine ab (hK _ ?_);clear hK K)|((first|refine ae ?_|refine nq rfl (h1) ?_);simp[cY];(try(refine gen2 ?_ ?_<;>intro hq<;>(try simp[cY]at hq)<;>try(have:True:=hq;clear this hq))))|(refine T.ret (az.aZ (Or.inr rfl) ?_)<;>simp[aE,Tryz.results69]<;>omega)|refine T.r0 fun K hK=>?_|refine T.ct rfl ?_|refine T.seq ?_
  have he:((aK e).length:Int)=ts.length:=by omega
  simp only[hl,decide_true,abu];obtain⟨R,hR⟩:∃R,ts.all (al 4)=R:=⟨_,rfl⟩;rw[hR];have h3:=FD ts b6 rA e (by omega) 0 0 rfl (by omega);rw[List.drop_zero]at h3;generalize cq e ts=x at h3⊢;refine ah.ob Tryz.func69 Tryz.ntmps69 rfl ?_;repeat' first|(refine ab (hK _ ?_);clear hK K)|((first|(first|refine ae ?_|refine aa rfl (h2) ?_)|refine nq rfl (h1) ?_);simp[he];(try(refine gen2 ?_ ?_<;>intro hq<;>(try simp[he]at hq)<;>try(have:True:=hq;clear this hq))))|refine T.r0 fun K hK=>?_|refine T.cf rfl ?_|refine T.seq ?_|refine T.block ?_|refine T.skip ?_
  refine T.dr (α:=Nat×List (List CV)) [1,2,4] (fun x=>[(5,.b false),(6,.i x.1)]) (fun x=>[]) (fun x=>x.2) (fun x A=>A) (fun x=>ts.length+1-x.1) (fun x=>x.1<=ts.length/\(ts.drop x.1).all (al 4)=R) (by simp;rfl) (fun x hx=>?_) (0,[]) (by simpa using hR) (by simp) (by simp) (by simp);obtain⟨p,G⟩:=x;obtain⟨hi,hq⟩:=hx;dsimp only at hi hq⊢;simp only[gI,abl,abm,abh,abd];by_cases ax:p<ts.length
  ·obtain⟨u,ht⟩:=bz ax;have eJ:u∈ts:=abg ht;have bg:ts[p]=u:=by rw[abe ax]at ht;exact Option.some.inj ht
   have iY:ts.drop p=u::ts.drop (p+1):=by rw[abf ax,bg]
   have hu:=jz u (b6 u eJ);rw[iY,List.all_cons]at hq;cases hb:al 4 u<;>rw[hb]at hu hq
   ·simp only[abt]at hq;subst hq;simp only[abr,if_false,yO];repeat' first|(refine ab (hK _ ?_);clear hK K)|((first|refine ae ?_|refine aa rfl (hu) ?_);simp[ax,bg];(try simp(disch:=omega)only[wrap64]);(try(refine gen2 ?_ ?_<;>intro hq<;>(try simp[ax,bg]at hq)<;>try(have:True:=hq;clear this hq))))|(refine T.ret (az.aZ (Or.inr rfl) ?_)<;>simp[aE,Tryz.results69]<;>omega)|refine T.r0 fun K hK=>?_|refine T.ct rfl ?_|refine T.seq ?_|refine T.block ?_|refine T.skip ?_
   ·repeat' first|(refine ab (hK _ ?_);clear hK K)|((first|refine ae ?_|refine aa rfl (hu) ?_);simp[ax,bg];(try simp(disch:=omega)only[wrap64]);(try(refine gen2 ?_ ?_<;>intro hq<;>(try simp[ax,bg]at hq)<;>try(have:True:=hq;clear this hq))))|(refine⟨(p+1,_),by dsimp only;omega,⟨by dsimp only;omega,by simpa using hq⟩,rfl,?_,?_⟩<;>simp(disch:=omega) [wrap64])|refine T.r0 fun K hK=>?_|refine T.r1 fun K hK=>?_|refine T.ct rfl ?_|refine T.cf rfl ?_|refine T.seq ?_|refine T.block ?_|refine T.skip ?_
  ·have eb:p=ts.length:=by omega
   subst eb;simp at hq;subst hq;simp only[if_true,yO];repeat' first|(refine ab (hK _ ?_);clear hK K)|((first|refine ae ?_|(refine aa ?_ (h3) ?_;(focus(solve|simp[ax]))));simp[ax];(try(refine gen2 ?_ ?_<;>intro hq<;>(try simp[ax]at hq)<;>try(have:True:=hq;clear this hq))))|(refine T.ret (az.aZ (Or.inr rfl) ?_)<;>simp[aE,Tryz.results69]<;>omega)|refine T.r0 fun K hK=>?_|refine T.cf rfl ?_|refine T.seq ?_|refine T.exit ?_
end Go.Proofs.YtloolmchekcmeaaGreat
namespace Go.Proofs.YtloolmchekcmeaaGreat
attribute [-simp] Go.Av.ef Go.Av.AV.dw Go.Av.CV.dw Go.Av.fR Go.Av.AV.cJ Go.Av.CV.cJ Go.Av.bP Go.Av.eu Go.Av.eN Go.Av.eG Go.Av.b8 Go.Av.bN
open Go Go.Av
attribute [local irreducible] T ah TX EX LX dA dB bL b5 eK aF.kind aF.kids ak.kind ak.name ak.num ak.ty ak.fr ak.label ak.kids
attribute [local simp] aN au
set_option maxHeartbeats 16000000
set_option maxRecDepth 8000
abbrev Rt (u:dI):Prop:=u.name∈([[120],[122],[121],[88],[]]:List (List UInt8))/\dF u.ty<=1000
end Go.Proofs.YtloolmchekcmeaaGreat
