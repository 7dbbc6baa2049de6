/- A part. -/
import Derived.Test.YtloolmchekcmeaaGreatXH11
set_option linter.unusedVariables false
set_option linter.unusedSimpArgs false
open Go.Proofs.Tryz renaming prog->V4
open List renaming length_append->V5,nil_append->V6,getElem?_eq_getElem->V7,drop_eq_getElem_cons->V8,cons_append->V9,mem_of_getElem?->Wa,take_length->Wb,set_cons_zero->Wc,set_cons_succ->Wd,append_assoc->We,drop_drop->Wf,take_of_length_le->Wg,take_add_one->Wh,length_singleton->Wi,headD_cons->Wj,getElem_mem->Wk
open Option renaming bind->Wl
open Bool renaming false_eq_true->Wm,false_and->Wn,true_and->Wo
open Int renaming add_assoc->Wp
namespace Go.Proofs.YtloolmchekcmeaaGreat
attribute [-simp] Go.Av.cK Go.Av.xv Go.Av.dS Go.Av.AV.dp Go.Av.CV.dp Go.Av.fS Go.Av.AV.cO Go.Av.CV.cO Go.Av.bO Go.Av.dO Go.Av.ed Go.Av.ec Go.Av.cl Go.Av.cj
open Go Go.Av
attribute [local irreducible] T ah TX EX LX bo cE bF cD fZ aH.kind aH.kids an.kind an.name an.num an.ty an.fr an.label an.kids
attribute [local simp] aX ax
set_option maxHeartbeats 16000000
set_option maxRecDepth 8000
theorem AY (k:Int):ah V4 49 [.i k] [] (ep (.mk k [])) [] []:=by
 refine ah.ob Tryz.func49 Tryz.ntmps49 rfl ?_;repeat' first|(refine ab (hK _ ?_);clear hK K)|(refine ae ?_;simp;(try(refine gen2 ?_ ?_<;>intro hq<;>try simp at hq)))|(refine T.ret (aG.val (Or.inr rfl) ?_)<;>simp[aI,Tryz.results49]<;>omega)|refine T.r0 fun K hK=>?_
theorem tR:∀(t:aH),iK t<=1099511627776->ah V4 104 [ep t] [] (ep t) [] []:=by
 intro t;induction t using aH.ind with
 |h t ih=>
  intro hn;rw[hU]at hn;have hlen:=iw t.kids;refine ah.ob Tryz.func104 Tryz.ntmps104 rfl ?_;repeat' first|(refine ab (hK _ ?_);clear hK K)|(refine ae ?_;simp;(try(refine gen2 ?_ ?_<;>intro hq<;>try simp at hq)))|refine T.r0 fun K hK=>?_|refine T.seq ?_|refine T.block ?_
  refine T.e6 2 1 2 25 (row:=[.d (.i t.kind),.nil]) (by simp) (by simp) ?_;refine T.dq (α:=Nat×List (List CV)) [2,3,10,11] (fun x=>[(12,.i x.1)]) (fun x=>[(2,[.d (.i t.kind),.own 0 x.1])]) (fun x=>x.2) (fun x _=>[{sz:=2,eO:=25,rows:=(t.kids.take x.1).map cD,wr:=true}]) (fun x=>t.kids.length+1-x.1) (fun x=>x.1<=t.kids.length) (by simp;rfl) (fun x hx=>?_) (0,[]) (by simp) (by simp) (by simp) (by simp);obtain⟨p,G⟩:=x;dsimp only at hx⊢;by_cases aC:p<t.kids.length
  ·obtain⟨u,ht⟩:=bV aC;have eN:u∈t.kids:=Wa ht;have bn:t.kids[p]=u:=by rw[V7 aC]at ht;exact Option.some.inj ht
   have iA:t.kids.drop p=u::t.kids.drop (p+1):=by rw[V8 aC,bn]
   have hu:=ih u eN (by have:=iy eN;omega);have j6:t.kids.take (p+1)=t.kids.take p++[u]:=by rw[Wh,ht];rfl
   have fD:min p t.kids.length=p:=by omega
   simp only[fP,Wc,Wd,V9,V6];repeat' first|((first|refine ab (hK _ ?_)|refine aq (hK _ ?_));clear hK K)|((first|refine ae ?_|refine aA ?_|refine aa rfl (hu) ?_);simp[aC,bn,fD];(try simp(disch:=omega)only[wrap64]);(try(refine gen2 ?_ ?_<;>intro hq<;>try simp[aC,bn,fD]at hq)))|(refine⟨by omega,by omega,?_⟩)|(refine⟨(p+1,_),by dsimp only;omega,by dsimp only;omega,rfl,?_,?_⟩<;>simp(disch:=omega) [wrap64,j6,aX])|refine T.mW (id:=5) mixed (fun _=>false) [5,7] (by kernel_rfl) fun K hK=>?_|refine T.r0 fun K hK=>?_|refine T.r1 fun K hK=>?_|refine T.ct rfl ?_|refine T.seq ?_|refine T.block ?_|refine T.skip ?_
  ·have fj:p=t.kids.length:=by omega
   subst fj;simp only[fP,Wc,Wd,V9,V6];repeat' first|(refine ab (hK _ ?_);clear hK K)|(refine ae ?_;simp[aC];(try(refine gen2 ?_ ?_<;>intro hq<;>try simp[aC]at hq)))|(refine T.ret (aG.val (Or.inr rfl) ?_)<;>simp[aI,Tryz.results104,aX]<;>omega)|refine T.r0 fun K hK=>?_|refine T.cf rfl ?_|refine T.seq ?_|refine T.exit ?_
theorem zR (e:an):ah V4 48 [cw e] [] (.b (bt e.kind)) [] []:=by
 rw[bt];refine ah.ob Tryz.func48 Tryz.ntmps48 rfl ?_;repeat' first|(refine ab (hK _ ?_);clear hK K)|(refine ae ?_;simp;(try(refine gen2 ?_ ?_<;>intro hq<;>try simp at hq)))|(refine T.ret (aG.data (Or.inr rfl) ?_ ?_)<;>simp[Tryz.results48, *]<;>omega)|refine T.r0 fun K hK=>?_
theorem vO (f:FuncId) (g:an->an) (q:an->Prop) (hq:∀e,q e->∀u∈e.kids,q u)
  (hf:∀e,q e->ah V4 f [cw (.mk e.kind e.name e.num e.ty e.fr e.label (e.kids.map (mapM g)))] [] (cw (mapM g e)) [] []):
  ∀(e:an),q e->fO e<=1099511627776->ah V4 46 [cw e,.c (.fn f [])] [] (cw (mapM g e)) [] []:=by
 intro e;induction e using an.ind with
 |h e ih=>
  intro O7 hn;obtain⟨jd,pD,CK,vD⟩:=dh hn;have h1:=tR e.ty jd;have h2:=tR e.fr pD;have h3:=hf e O7;simp only[cw,an.bU,an.bT,an.jG,an.ou,an.re,an.rf,an.jh]at h3;generalize mapM g e=R at h3⊢;refine ah.ob Tryz.func46 Tryz.ntmps46 rfl ?_;repeat' first|(refine ab (hK _ ?_);clear hK K)|(refine ae ?_;simp;(try(refine gen2 ?_ ?_<;>intro hq<;>(try simp at hq)<;>try(have:True:=hq;clear this hq))))|refine T.r0 fun K hK=>?_|refine T.seq ?_|refine T.block ?_
  refine T.zt 5 9 28 (by simp) ?_;refine T.dq (α:=Nat×List (List CV)) [1,2,4,9,10] (fun x=>[(5,.c (.own 0 x.1)),(11,.i x.1)]) (fun x=>[]) (fun x=>x.2) (fun x _=>[{sz:=9,eO:=28,rows:=((e.kids.map (mapM g)).take x.1).map fZ,wr:=true}]) (fun x=>e.kids.length+1-x.1) (fun x=>x.1<=e.kids.length) (by simp;rfl) (fun x hx=>?_) (0,[]) (by simp) (by simp) (by simp) (by simp);obtain⟨p,G⟩:=x;dsimp only at hx⊢;simp only[fP,V9,V6];by_cases aC:p<e.kids.length
  ·obtain⟨u,ht⟩:=bV aC;have eN:u∈e.kids:=Wa ht;have bn:e.kids[p]=u:=by rw[V7 aC]at ht;exact Option.some.inj ht
   have iA:e.kids.drop p=u::e.kids.drop (p+1):=by rw[V8 aC,bn]
   have hu:=ih u eN (hq e O7 u eN) (by have:=vD u eN;omega);have j6:(e.kids.map (mapM g)).take (p+1)=(e.kids.map (mapM g)).take p++[mapM g u]:=by rw[Wh,List.getElem?_map,ht];rfl
   have na:min p (e.kids.map (mapM g)).length=p:=by simp;omega
   generalize (e.kids.map (mapM g))=Z at*;repeat' first|(refine ab (hK _ ?_);clear hK K)|((first|refine ae ?_|refine aa rfl (hu) ?_);simp[aC,bn,na];(try simp(disch:=omega)only[wrap64]);(try(refine gen2 ?_ ?_<;>intro hq<;>(try simp[aC,bn,na]at hq)<;>try(have:True:=hq;clear this hq))))|(refine⟨by omega,by omega,?_⟩)|(refine⟨(p+1,_),by dsimp only;omega,by dsimp only;omega,rfl,?_,?_⟩<;>simp(disch:=omega) [wrap64,j6,ax,na])|refine T.r0 fun K hK=>?_|refine T.r1 fun K hK=>?_|refine T.ct rfl ?_|refine T.seq ?_|refine T.block ?_|refine T.skip ?_
  ·have fj:p=e.kids.length:=by omega
   subst fj;have na:(e.kids.map (mapM g)).length=e.kids.length:=by simp
   rw[Wg (by omega)];generalize (e.kids.map (mapM g))=Z at*;repeat' first|((first|refine ab (hK _ ?_)|refine aq (hK _ ?_));clear hK K)|((first|refine ae ?_|refine aA ?_|refine aa rfl (h1) ?_|refine aa rfl (h2) ?_|(refine aa ?_ (h3) ?_;(focus(solve|simp[aC,na]))));simp[aC,na];(try(refine gen2 ?_ ?_<;>intro hq<;>(try simp[aC,na]at hq)<;>try(have:True:=hq;clear this hq))))|(refine T.ret (aG.val (Or.inr rfl) ?_)<;>simp[aI,Tryz.results46]<;>omega)|refine T.rd (id:=7) mixed (fun _=>false) [8,10,12] (by kernel_rfl) fun K hK=>?_|refine T.r0 fun K hK=>?_|refine T.cf rfl ?_|refine T.seq ?_|refine T.exit ?_
end Go.Proofs.YtloolmchekcmeaaGreat
namespace Go.Proofs.YtloolmchekcmeaaGreat
attribute [-simp] Go.Av.cK Go.Av.xv Go.Av.dS Go.Av.AV.dp Go.Av.CV.dp Go.Av.fS Go.Av.AV.cO Go.Av.CV.cO Go.Av.bO Go.Av.dO Go.Av.ed Go.Av.ec Go.Av.cl Go.Av.cj
open Go Go.Av
attribute [local irreducible] T ah TX EX LX bo cE bF cD fZ aH.kind aH.kids an.kind an.name an.num an.ty an.fr an.label an.kids
attribute [local simp] aX ax
set_option maxHeartbeats 16000000
set_option maxRecDepth 8000
attribute [local simp] Wl
def WT (ctx:List gj) (e:an) (ts:List aH) (r:Option (List aH×aH)):Prop:=∃ws t,(∀p,r=some p->p=(ws,t))/\ah V4 162 [qt ctx,cw e,HE ts] [] (.bu [HE ws,ep t,.b r.isSome]) [] []
@[simp] theorem LI:td V4 165=some {ag:=true,sz:=1,jy:=8,zero:=some [.d (.int .i64 0)],el:=none,ar:=none,fl:=[(0,1)],ik:=none,cG:=false,kJ:=false}:=di (by kernel_rfl)
end Go.Proofs.YtloolmchekcmeaaGreat
namespace Go.Proofs.YtloolmchekcmeaaGreat
attribute [-simp] Go.Av.dS Go.Av.AV.dp Go.Av.CV.dp Go.Av.fS Go.Av.AV.cO Go.Av.CV.cO Go.Av.bO Go.Av.dO Go.Av.ed Go.Av.ec Go.Av.cl Go.Av.cj
open Go Go.Av
attribute [local irreducible] T ah TX EX LX bo cE bF cD fZ aH.kind aH.kids an.kind an.name an.num an.ty an.fr an.label an.kids
attribute [local simp] aX ax
set_option maxHeartbeats 16000000
set_option maxRecDepth 8000
attribute [local simp] Wl
def Nv (es:List an) (ts:List aH):Option (List an×List aH)×Int->Option (List an×List aH)×Int
 |(none,n)=>(none,n)
 |(some (es',ts'),n)=>(some (es++es',ts++ts'),n)
theorem lk (e:an) (hn:fO e<=1099511627776):ah V4 38 [cw e] [] (.b (aR e)) [] []:=by
 have h:=Fy 30 12 14 (by omega) (by omega) e hn 1 0 (by omega) (by omega) (by omega);have hl:=(BH 30 12 14 e 12 0 (by omega) (by omega)).1;have hr:(iL 30 12 14 1 e 0).1=aR e:=by
  rw[show((12:Int)+1-((12:Nat):Int))=1 by omega]at hl;rw[hl,aR]
  congr 1
  exact decide_eq_decide.2 (by omega)
 rw[hr]at h;refine ah.ob Tryz.func38 Tryz.ntmps38 rfl ?_;repeat' first|(refine ab (hK _ ?_);clear hK K)|((first|refine ae ?_|refine iv 1 [.i 0] [.i (iL 30 12 14 1 e 0).2] rfl rfl h ?_);simp)|(refine T.ret (aG.data (Or.inr rfl) ?_ ?_)<;>simp[Tryz.results38]<;>omega)|refine T.r0 fun K hK=>?_
def Kp (k:Int) (t:aH):Option (aH×aH):=if ay 4 t=true then kY k t else none
abbrev Nw:Option (aH×aH)->List AV
 |some (a,b)=>[ep a,ep b,.b true]
 |none=>[ep cy,ep cy,.b false]
end Go.Proofs.YtloolmchekcmeaaGreat
namespace Go.Proofs.YtloolmchekcmeaaGreat
attribute [-simp] Go.Av.dS Go.Av.AV.dp Go.Av.CV.dp Go.Av.fS Go.Av.AV.cO Go.Av.CV.cO Go.Av.bO Go.Av.dO Go.Av.ed Go.Av.ec Go.Av.cl Go.Av.cj
open Go Go.Av
attribute [local irreducible] T ah TX EX LX bo cE bF cD fZ aH.kind aH.kids an.kind an.name an.num an.ty an.fr an.label an.kids
attribute [local simp] aX ax
set_option maxHeartbeats 16000000
set_option maxRecDepth 8000
theorem rZ {e:an} (h:aR e=true):gN 14 12 e:=gN.of (by simp only[aR,Bool.and_eq_true]at h;exact h.1)
end Go.Proofs.YtloolmchekcmeaaGreat
namespace Go.Proofs.YtloolmchekcmeaaGreat
attribute [-simp] Go.Av.dS Go.Av.AV.dp Go.Av.CV.dp Go.Av.fS Go.Av.AV.cO Go.Av.CV.cO Go.Av.bO Go.Av.dO Go.Av.ed Go.Av.ec Go.Av.cl Go.Av.cj
open Go Go.Av
attribute [local irreducible] T ah TX EX LX bo cE bF cD fZ aH.kind aH.kids an.kind an.name an.num an.ty an.fr an.label an.kids
attribute [local simp] aX ax
set_option maxHeartbeats 16000000
set_option maxRecDepth 8000
attribute [local simp] Wl
theorem D0 (e:an) (hl:cv e.kind=e.kids.length):ah V4 109 [cw e] [] (cw (aM e)) [] []:=by
 have hb:=AY 1;by_cases dt:e.kind=13
 ·have h1:e.kids.length=1:=by rw[dt]at hl;simp[cv]at hl;omega
  match hk:e.kids,h1 with
  |[x],_=>
   rw[show aM e=x by simp[aM,dt,hk]];refine ah.ob Tryz.func109 Tryz.ntmps109 rfl ?_;repeat' first|(refine ab (hK _ ?_);clear hK K)|(refine ae ?_;simp[dt,hk];(try(refine gen2 ?_ ?_<;>intro hq<;>try simp[dt,hk]at hq)))|(refine T.ret (aG.val (Or.inr rfl) ?_)<;>simp[aI,Tryz.results109,ax]<;>omega)|refine T.r0 fun K hK=>?_|refine T.ct rfl ?_|refine T.seq ?_|refine T.block ?_|refine T.skip ?_
 by_cases eP:e.kind=14
 ·have h1:e.kids.length=1:=by rw[eP]at hl;simp[cv]at hl;omega
  match hk:e.kids,h1 with
  |[x],_=>
   rw[show aM e=x by simp[aM,eP,hk]];refine ah.ob Tryz.func109 Tryz.ntmps109 rfl ?_;repeat' first|(refine ab (hK _ ?_);clear hK K)|(refine ae ?_;simp[eP,hk];(try(refine gen2 ?_ ?_<;>intro hq<;>try simp[eP,hk]at hq)))|(refine T.ret (aG.val (Or.inr rfl) ?_)<;>simp[aI,Tryz.results109,ax]<;>omega)|refine T.r0 fun K hK=>?_|refine T.r1 fun K hK=>?_|refine T.ct rfl ?_|refine T.cf rfl ?_|refine T.seq ?_|refine T.block ?_
 by_cases h5:e.kind=5
 ·rw[show aM e=.mk 5 e.name e.num iN e.fr e.label e.kids by simp[aM,h5]];refine ah.ob Tryz.func109 Tryz.ntmps109 rfl ?_;repeat' first|(refine ab (hK _ ?_);clear hK K)|((first|refine ae ?_|refine aa rfl (hb) ?_);simp[h5];(try(refine gen2 ?_ ?_<;>intro hq<;>try simp[h5]at hq)))|(refine T.ret (aG.val (Or.inr rfl) ?_)<;>simp[aI,Tryz.results109,h5]<;>omega)|refine T.r0 fun K hK=>?_|refine T.r1 fun K hK=>?_|refine T.ct rfl ?_|refine T.cf rfl ?_|refine T.seq ?_|refine T.block ?_
 ·rw[show aM e=e by simp[aM,dt,eP,h5]];refine ah.ob Tryz.func109 Tryz.ntmps109 rfl ?_;repeat' first|(refine ab (hK _ ?_);clear hK K)|(refine ae ?_;simp[dt,eP,h5];(try(refine gen2 ?_ ?_<;>intro hq<;>try simp[dt,eP,h5]at hq)))|(refine T.ret (aG.val (Or.inr rfl) ?_)<;>simp[aI,Tryz.results109]<;>omega)|refine T.r0 fun K hK=>?_|refine T.r1 fun K hK=>?_|refine T.cf rfl ?_|refine T.seq ?_|refine T.block ?_|refine T.skip ?_
def HY (e:an):Prop:=∃nt d,bm nt d e=true
theorem FI (e:an) (hq:HY e) (hn:fO e<=1099511627776):ah V4 58 [cw e] [] (cw (mapM aM e)) [] []:=by
 have h:=vO 109 aM HY (fun e h u hu=>by obtain⟨nt,d,h⟩:=h;obtain⟨d',rfl,_,_,_,hk⟩:=iO h;exact⟨nt,d',hk u hu⟩)
  (fun e h=>by obtain⟨nt,d,h⟩:=h;obtain⟨d',rfl,_,hl,_,_⟩:=iO h;rw[mw];exact D0 _ (by simpa using hl)) e hq hn
 generalize mapM aM e=R at h;refine ah.ob Tryz.func58 Tryz.ntmps58 rfl ?_;repeat' first|(refine ab (hK _ ?_);clear hK K)|((first|refine ae ?_|refine aa rfl (h) ?_);simp;(try(refine gen2 ?_ ?_<;>intro hq<;>(try simp at hq)<;>try(have:True:=hq;clear this hq))))|(refine T.ret (aG.val (Or.inr rfl) ?_)<;>simp[aI,Tryz.results58]<;>omega)|refine T.r0 fun K hK=>?_
def LJ (e:an):Option (an×aH):=if aR e=true then(Gx [] e 0).1 else none
end Go.Proofs.YtloolmchekcmeaaGreat
namespace Go.Proofs.YtloolmchekcmeaaGreat
attribute [-simp] Go.Av.bO Go.Av.dO Go.Av.ed Go.Av.ec Go.Av.cl Go.Av.cj
open Go Go.Av
attribute [local irreducible] T ah TX EX LX bo cE bF cD fZ aH.kind aH.kids an.kind an.name an.num an.ty an.fr an.label an.kids
attribute [local simp] aX ax
set_option maxHeartbeats 16000000
set_option maxRecDepth 8000
theorem yA (e:an) (h5:e.kind=5) (ts:List aH) (hn:fO e<=1099511627776) (hl:(ts++[e.ty]).length+(aB e.kids).length<=1099511627776)
  (ih:∀u∈e.kids,∀(ts:List aH),ts.length+(aL u).length<=1099511627776->eo V4 129 [.c (.own 0 ts.length),cw u] [] [{sz:=2,eO:=25,rows:=ts.map cD,wr:=true}] (.c (.own 0 (ts++aL u).length)) [] [{sz:=2,eO:=25,rows:=(ts++aL u).map cD,wr:=true}]):
  eo V4 129 [.c (.own 0 ts.length),cw e] [] [{sz:=2,eO:=25,rows:=ts.map cD,wr:=true}] (.c (.own 0 (ts++([e.ty]++aB e.kids)).length)) [] [{sz:=2,eO:=25,rows:=(ts++([e.ty]++aB e.kids)).map cD,wr:=true}]:=by
 obtain⟨jd,pD,CK,vD⟩:=dh hn;have h1:=b9 e.ty jd;obtain⟨ts1,mB⟩:∃ts1,ts++[e.ty]=ts1:=⟨_,rfl⟩;rw[<-We,mB];rw[mB]at hl;have Kq:ts.length<=1099511627776:=by rw[<-mB,V5]at hl;omega
 refine eo.bW Tryz.func129 (by kernel_rfl) rfl (by kernel_rfl) (by simp[Tryz.ntmps129]) (by simp) ?_;rw[Tryz.ntmps129];repeat' first|(refine ab (hK _ ?_);clear hK K)|((first|refine ae ?_|refine aa rfl (h1) ?_);simp[h5];(try(refine gen2 ?_ ?_<;>intro hq<;>try simp[h5]at hq)))|(refine⟨by omega,by omega,?_⟩)|refine T.r0 fun K hK=>?_|refine T.r1 fun K hK=>?_|refine T.ct rfl ?_|refine T.seq ?_|refine T.block ?_
 refine T.dq (α:=Nat×List (List CV)) [3,4] (fun x=>[(0,.c (.own 0 (ts1++aB (e.kids.take x.1)).length)),(5,.i x.1)]) (fun x=>[]) (fun x=>x.2) (fun x _=>[{sz:=2,eO:=25,rows:=(ts1++aB (e.kids.take x.1)).map cD,wr:=true}]) (fun x=>e.kids.length+1-x.1)
  (fun x=>x.1<=e.kids.length) (by simp;rfl) (fun x hx=>?_) (0,[]) (by simp) (by simp) (by simp[<-mB,aB,aX]) (by simp[<-mB,aB])
 obtain⟨p,G⟩:=x;dsimp only at hx⊢;simp only[fP,V9,V6];by_cases aC:p<e.kids.length
 ·obtain⟨u,ht⟩:=bV aC;have eN:u∈e.kids:=Wa ht;have bn:e.kids[p]=u:=by rw[V7 aC]at ht;exact Option.some.inj ht
  have iA:e.kids.drop p=u::e.kids.drop (p+1):=by rw[V8 aC,bn]
  have hle:=iU e.kids (p+1);rw[cP ht]at hle;have hu:=ih u eN (ts1++aB (e.kids.take p)) (by simp only[V5]at*;omega);have j6:ts1++aB (e.kids.take (p+1))=ts1++aB (e.kids.take p)++aL u:=by rw[cP ht,We]
  rw[<-j6]at hu;obtain⟨Z',vP⟩:∃Z',ts1++aB (e.kids.take (p+1))=Z':=⟨_,rfl⟩;rw[vP]at hu;clear j6;generalize (ts1++aB (e.kids.take p))=Z at*;repeat' first|(refine ab (hK _ ?_);clear hK K)|(refine ae ?_;simp[aC,bn];(try simp(disch:=omega)only[wrap64]);(try(refine gen2 ?_ ?_<;>intro hq<;>try simp[aC,bn]at hq)))|(refine jL 0 hu rfl rfl rfl rfl ?_;simp[back])|(refine⟨(p+1,_),by dsimp only;omega,by dsimp only;omega,rfl,?_,?_⟩<;>simp(disch:=omega) [wrap64,<-vP])|refine T.r0 fun K hK=>?_|refine T.r1 fun K hK=>?_|refine T.ct rfl ?_|refine T.seq ?_|refine T.block ?_|refine T.skip ?_
 ·have fj:p=e.kids.length:=by omega
  subst fj;rw[Wb];repeat' first|(refine ab (hK _ ?_);clear hK K)|(refine ae ?_;simp[aC];(try(refine gen2 ?_ ?_<;>intro hq<;>try simp[aC]at hq)))|refine T.r0 fun K hK=>?_|refine T.cf rfl ?_|refine T.seq ?_|refine T.exit ?_
  all_goals(refine T.ret (o6.one (Or.inr rfl) ?_ ?_)<;>simp[aI,Tryz.results129])
theorem zS (e:an) (h5:¬e.kind=5) (dt:e.kind=13) (ts:List aH) (hn:fO e<=1099511627776) (hl:(ts++[e.ty]).length+(aB e.kids).length<=1099511627776)
  (ih:∀u∈e.kids,∀(ts:List aH),ts.length+(aL u).length<=1099511627776->eo V4 129 [.c (.own 0 ts.length),cw u] [] [{sz:=2,eO:=25,rows:=ts.map cD,wr:=true}] (.c (.own 0 (ts++aL u).length)) [] [{sz:=2,eO:=25,rows:=(ts++aL u).map cD,wr:=true}]):
  eo V4 129 [.c (.own 0 ts.length),cw e] [] [{sz:=2,eO:=25,rows:=ts.map cD,wr:=true}] (.c (.own 0 (ts++([e.ty]++aB e.kids)).length)) [] [{sz:=2,eO:=25,rows:=(ts++([e.ty]++aB e.kids)).map cD,wr:=true}]:=by
 obtain⟨jd,pD,CK,vD⟩:=dh hn;have h1:=b9 e.ty jd;obtain⟨ts1,mB⟩:∃ts1,ts++[e.ty]=ts1:=⟨_,rfl⟩;rw[<-We,mB];rw[mB]at hl;have Kq:ts.length<=1099511627776:=by rw[<-mB,V5]at hl;omega
 refine eo.bW Tryz.func129 (by kernel_rfl) rfl (by kernel_rfl) (by simp[Tryz.ntmps129]) (by simp) ?_;rw[Tryz.ntmps129];repeat' first|(refine ab (hK _ ?_);clear hK K)|((first|refine ae ?_|refine aa rfl (h1) ?_);simp[h5,dt];(try(refine gen2 ?_ ?_<;>intro hq<;>try simp[h5,dt]at hq)))|(refine⟨by omega,by omega,?_⟩)|refine T.r0 fun K hK=>?_|refine T.r1 fun K hK=>?_|refine T.ct rfl ?_|refine T.seq ?_|refine T.block ?_
 refine T.dq (α:=Nat×List (List CV)) [3,4] (fun x=>[(0,.c (.own 0 (ts1++aB (e.kids.take x.1)).length)),(5,.i x.1)]) (fun x=>[]) (fun x=>x.2) (fun x _=>[{sz:=2,eO:=25,rows:=(ts1++aB (e.kids.take x.1)).map cD,wr:=true}]) (fun x=>e.kids.length+1-x.1)
  (fun x=>x.1<=e.kids.length) (by simp;rfl) (fun x hx=>?_) (0,[]) (by simp) (by simp) (by simp[<-mB,aB,aX]) (by simp[<-mB,aB])
 obtain⟨p,G⟩:=x;dsimp only at hx⊢;simp only[fP,V9,V6];by_cases aC:p<e.kids.length
 ·obtain⟨u,ht⟩:=bV aC;have eN:u∈e.kids:=Wa ht;have bn:e.kids[p]=u:=by rw[V7 aC]at ht;exact Option.some.inj ht
  have iA:e.kids.drop p=u::e.kids.drop (p+1):=by rw[V8 aC,bn]
  have hle:=iU e.kids (p+1);rw[cP ht]at hle;have hu:=ih u eN (ts1++aB (e.kids.take p)) (by simp only[V5]at*;omega);have j6:ts1++aB (e.kids.take (p+1))=ts1++aB (e.kids.take p)++aL u:=by rw[cP ht,We]
  rw[<-j6]at hu;obtain⟨Z',vP⟩:∃Z',ts1++aB (e.kids.take (p+1))=Z':=⟨_,rfl⟩;rw[vP]at hu;clear j6;generalize (ts1++aB (e.kids.take p))=Z at*;repeat' first|(refine ab (hK _ ?_);clear hK K)|(refine ae ?_;simp[aC,bn];(try simp(disch:=omega)only[wrap64]);(try(refine gen2 ?_ ?_<;>intro hq<;>try simp[aC,bn]at hq)))|(refine jL 0 hu rfl rfl rfl rfl ?_;simp[back])|(refine⟨(p+1,_),by dsimp only;omega,by dsimp only;omega,rfl,?_,?_⟩<;>simp(disch:=omega) [wrap64,<-vP])|refine T.r0 fun K hK=>?_|refine T.r1 fun K hK=>?_|refine T.ct rfl ?_|refine T.seq ?_|refine T.block ?_|refine T.skip ?_
 ·have fj:p=e.kids.length:=by omega
  subst fj;rw[Wb];repeat' first|(refine ab (hK _ ?_);clear hK K)|(refine ae ?_;simp[aC];(try(refine gen2 ?_ ?_<;>intro hq<;>try simp[aC]at hq)))|refine T.r0 fun K hK=>?_|refine T.cf rfl ?_|refine T.seq ?_|refine T.exit ?_
  all_goals(refine T.ret (o6.one (Or.inr rfl) ?_ ?_)<;>simp[aI,Tryz.results129])
theorem yB (e:an) (h5:¬e.kind=5) (dt:¬e.kind=13) (ts:List aH) (hn:fO e<=1099511627776) (hl:(ts++[]).length+(aB e.kids).length<=1099511627776)
  (ih:∀u∈e.kids,∀(ts:List aH),ts.length+(aL u).length<=1099511627776->eo V4 129 [.c (.own 0 ts.length),cw u] [] [{sz:=2,eO:=25,rows:=ts.map cD,wr:=true}] (.c (.own 0 (ts++aL u).length)) [] [{sz:=2,eO:=25,rows:=(ts++aL u).map cD,wr:=true}]):
  eo V4 129 [.c (.own 0 ts.length),cw e] [] [{sz:=2,eO:=25,rows:=ts.map cD,wr:=true}] (.c (.own 0 (ts++([]++aB e.kids)).length)) [] [{sz:=2,eO:=25,rows:=(ts++([]++aB e.kids)).map cD,wr:=true}]:=by
 obtain⟨jd,pD,CK,vD⟩:=dh hn;have h1:=b9 e.ty jd;obtain⟨ts1,mB⟩:∃ts1,ts++[]=ts1:=⟨_,rfl⟩;rw[<-We,mB];rw[mB]at hl;have Kq:ts.length<=1099511627776:=by rw[<-mB,V5]at hl;omega
 refine eo.bW Tryz.func129 (by kernel_rfl) rfl (by kernel_rfl) (by simp[Tryz.ntmps129]) (by simp) ?_;rw[Tryz.ntmps129];repeat' first|(refine ab (hK _ ?_);clear hK K)|(refine ae ?_;simp[h5,dt];(try(refine gen2 ?_ ?_<;>intro hq<;>try simp[h5,dt]at hq)))|refine T.r0 fun K hK=>?_|refine T.cf rfl ?_|refine T.seq ?_|refine T.block ?_|refine T.skip ?_
 refine T.dq (α:=Nat×List (List CV)) [3,4] (fun x=>[(0,.c (.own 0 (ts1++aB (e.kids.take x.1)).length)),(5,.i x.1)]) (fun x=>[]) (fun x=>x.2) (fun x _=>[{sz:=2,eO:=25,rows:=(ts1++aB (e.kids.take x.1)).map cD,wr:=true}]) (fun x=>e.kids.length+1-x.1)
  (fun x=>x.1<=e.kids.length) (by simp;rfl) (fun x hx=>?_) (0,[]) (by simp) (by simp) (by simp[<-mB,aB,aX]) (by simp[<-mB,aB])
 obtain⟨p,G⟩:=x;dsimp only at hx⊢;simp only[fP,V9,V6];by_cases aC:p<e.kids.length
 ·obtain⟨u,ht⟩:=bV aC;have eN:u∈e.kids:=Wa ht;have bn:e.kids[p]=u:=by rw[V7 aC]at ht;exact Option.some.inj ht
  have iA:e.kids.drop p=u::e.kids.drop (p+1):=by rw[V8 aC,bn]
  have hle:=iU e.kids (p+1);rw[cP ht]at hle;have hu:=ih u eN (ts1++aB (e.kids.take p)) (by simp only[V5]at*;omega);have j6:ts1++aB (e.kids.take (p+1))=ts1++aB (e.kids.take p)++aL u:=by rw[cP ht,We]
  rw[<-j6]at hu;obtain⟨Z',vP⟩:∃Z',ts1++aB (e.kids.take (p+1))=Z':=⟨_,rfl⟩;rw[vP]at hu;clear j6;generalize (ts1++aB (e.kids.take p))=Z at*;repeat' first|(refine ab (hK _ ?_);clear hK K)|(refine ae ?_;simp[aC,bn];(try simp(disch:=omega)only[wrap64]);(try(refine gen2 ?_ ?_<;>intro hq<;>try simp[aC,bn]at hq)))|(refine jL 0 hu rfl rfl rfl rfl ?_;simp[back])|(refine⟨(p+1,_),by dsimp only;omega,by dsimp only;omega,rfl,?_,?_⟩<;>simp(disch:=omega) [wrap64,<-vP])|refine T.r0 fun K hK=>?_|refine T.r1 fun K hK=>?_|refine T.ct rfl ?_|refine T.seq ?_|refine T.block ?_|refine T.skip ?_
 ·have fj:p=e.kids.length:=by omega
  subst fj;rw[Wb];repeat' first|(refine ab (hK _ ?_);clear hK K)|(refine ae ?_;simp[aC];(try(refine gen2 ?_ ?_<;>intro hq<;>try simp[aC]at hq)))|refine T.r0 fun K hK=>?_|refine T.cf rfl ?_|refine T.seq ?_|refine T.exit ?_
  all_goals(refine T.ret (o6.one (Or.inr rfl) ?_ ?_)<;>simp[aI,Tryz.results129])
theorem zT:∀(e:an),fO e<=1099511627776->∀(ts:List aH),ts.length+(aL e).length<=1099511627776->
  eo V4 129 [.c (.own 0 ts.length),cw e] [] [{sz:=2,eO:=25,rows:=ts.map cD,wr:=true}] (.c (.own 0 (ts++aL e).length)) [] [{sz:=2,eO:=25,rows:=(ts++aL e).map cD,wr:=true}]:=by
 intro e;induction e using an.ind with
 |h e ih=>
  intro hn ts hl;obtain⟨_,_,_,vD⟩:=dh hn;have ih':=fun u hu=>ih u hu (vD u hu)
  rw[oz]at hl⊢;by_cases h5:e.kind=5
  ·rw[if_pos (by simp[bt,h5])]at hl⊢;exact yA e h5 ts hn (by simp only[V5]at*;omega) ih'
  ·by_cases dt:e.kind=13
   ·rw[if_pos (by simp[bt,dt])]at hl⊢;exact zS e h5 dt ts hn (by simp only[V5]at*;omega) ih'
   ·rw[if_neg (by simp[bt,h5,dt])]at hl⊢;exact yB e h5 dt ts hn (by simp only[V5]at*;omega) ih'
def c3 (e:an):List aH:=if aR e=true then aL e else []
theorem mC (e:an) (hn:fO e<=1073741824):ah V4 88 [cw e] [] (.c (.own 0 (c3 e).length)) [] [{sz:=2,eO:=25,rows:=(c3 e).map cD,wr:=true}]:=by
 have h1:=ia e (by omega);have h2:=zT e (by omega) [] (by have:=(lh e).2;simp;omega);simp only[V6]at h2;simp only[c3];cases hv:aR e with
 |false=>
  rw[hv]at h1;simp only[Wm,if_false];refine ah.ob Tryz.func88 Tryz.ntmps88 rfl ?_;repeat' first|(refine ab (hK _ ?_);clear hK K)|((first|refine ae ?_|refine aa rfl (h1) ?_);simp;(try(refine gen2 ?_ ?_<;>intro hq<;>try simp at hq)))|refine T.rs (id:=2) (fun i=>i==0) fun K hK=>?_|refine T.rs (id:=0) (fun _=>false) fun K hK=>?_|refine T.rs (id:=1) (fun _=>false) fun K hK=>?_|refine T.ct rfl ?_|refine T.seq ?_
  refine T.ret (aG.HD 0 (Or.inr rfl) (ys:=[_]) ?_ rfl ?_)<;>simp[aI,Tryz.results88]
 |true=>
  rw[hv]at h1;simp only[if_true];generalize aL e=ts at*;refine ah.ob Tryz.func88 Tryz.ntmps88 rfl ?_;repeat' first|(refine ab (hK _ ?_);clear hK K)|((first|refine ae ?_|refine aa rfl (h1) ?_);simp;(try(refine gen2 ?_ ?_<;>intro hq<;>try simp at hq)))|(refine jL 0 h2 rfl rfl rfl rfl ?_;simp[back])|refine T.rs (id:=3) (fun i=>i==0) fun K hK=>?_|refine T.rs (id:=0) (fun _=>false) fun K hK=>?_|refine T.rs (id:=1) (fun _=>false) fun K hK=>?_|refine T.cf rfl ?_|refine T.seq ?_|refine T.skip ?_
  refine T.ret (aG.HD 0 (Or.inr rfl) (ys:=[_]) ?_ rfl ?_)<;>simp[aI,Tryz.results88]
theorem zU (e:an) (h5:e.kind=5) (ts:List aH) (a:Nat) (hn:fO e<=1099511627776) (dY:∀t∈ts,iK t<=1099511627776) (hl:a+1+(aB e.kids).length<=ts.length) (Cd:ts.length<=1099511627776) (tx:aH) (hx:tx=ts[a]?.getD tx)
  (ih:∀u∈e.kids,∀(a:Nat) (i:Int),i=a->a+(aL u).length<=ts.length->ah V4 117 [cw u,.l (ts.map cD),.i i] [] (.bu [cw (dJ u (ts.drop a)),.i (i+(aL u).length)]) [] []):
  ah V4 117 [cw e,.l (ts.map cD),.i a] [] (.bu [cw (.mk e.kind e.name e.num tx e.fr e.label (dX e.kids (ts.drop (a+1)))),.i ((a:Int)+1+(aB e.kids).length)]) [] []:=by
 obtain⟨jd,pD,CK,vD⟩:=dh hn;have h1:=b9 e.ty jd;have h2:=b9 e.fr pD;refine ah.ob Tryz.func117 Tryz.ntmps117 rfl ?_;have wK:a<ts.length:=by omega
 have rT:ts[a]=tx:=by rw[V7 wK]at hx;exact hx.symm
 have h3:=b9 tx (dY tx (by rw[<-rT];exact Wk wK));repeat' first|(refine ab (hK _ ?_);clear hK K)|((first|refine ae ?_|refine aa rfl (h1) ?_|refine aa rfl (h2) ?_|refine aa rfl (h3) ?_);simp[h5,wK,rT];(try simp(disch:=omega)only[wrap64]);(try(refine gen2 ?_ ?_<;>intro hq<;>try simp[h5,wK,rT]at hq)))|refine T.r0 fun K hK=>?_|refine T.r1 fun K hK=>?_|refine T.ct rfl ?_|refine T.seq ?_|refine T.block ?_
 refine T.e6 2 8 9 28 rfl rfl ?_
 refine T.dq (α:=Nat×List (List CV)) [1,3,6,7,8] (fun x=>[(2,.i ((a:Int)+1+(aB (e.kids.take x.1)).length)),(9,.i x.1)]) (fun x=>[(2,[.d (.i e.kind),.d (.str e.name),.d (.i e.num),.d (.i (tx).kind),.d (.sl ((tx).kids.map cD)),.d (.i e.fr.kind),.d (.sl (e.fr.kids.map cD)),.d (.i e.label),.own 0 x.1])]) (fun x=>x.2)
  (fun x _=>[{sz:=9,eO:=28,rows:=((dX e.kids (ts.drop (a+1))).take x.1).map fZ,wr:=true}]) (fun x=>e.kids.length+1-x.1) (fun x=>x.1<=e.kids.length) (by simp;rfl) (fun x hx=>?_) (0,[]) (by simp) (by simp[h5]) (by simp) (by simp[aB])
 obtain⟨p,G⟩:=x;dsimp only at hx⊢;simp only[fP,Wc,Wd,V9,V6];have AZ:(dX e.kids (ts.drop (a+1))).length=e.kids.length:=ng _ _;by_cases aC:p<e.kids.length
 ·obtain⟨u,ht⟩:=bV aC;have eN:u∈e.kids:=Wa ht;have bn:e.kids[p]=u:=by rw[V7 aC]at ht;exact Option.some.inj ht
  have iA:e.kids.drop p=u::e.kids.drop (p+1):=by rw[V8 aC,bn]
  have hle:=iU e.kids (p+1);rw[cP ht,V5]at hle;have hu:=ih u eN (a+1+(aB (e.kids.take p)).length) ((a:Int)+1+(aB (e.kids.take p)).length) (by push_cast;omega) (by omega);have zc:=oB (ts.drop (a+1)) ht;rw[Wf]at zc;have j6:(a:Int)+1+((aB (e.kids.take (p+1))).length:Int)=(a:Int)+1+(aB (e.kids.take p)).length+(aL u).length:=by rw[cP ht];push_cast [V5];omega
  generalize (aB (e.kids.take p)).length=n1 at*;generalize (dJ u (ts.drop (a+1+n1)))=wu at*;generalize (dX e.kids (ts.drop (a+1)))=Z at*;have fD:min p e.kids.length=p:=by omega
  repeat' first|(refine ab (hK _ ?_);clear hK K)|((first|refine ae ?_|(refine aa ?_ (hu) ?_;(focus(solve|simp[aC,bn,fD,AZ]))));simp[aC,bn,fD,AZ];(try simp(disch:=omega)only[wrap64]);(try(refine gen2 ?_ ?_<;>intro hq<;>try simp[aC,bn,fD,AZ]at hq)))|(refine⟨(p+1,_),by dsimp only;omega,by dsimp only;omega,rfl,?_,?_⟩<;>simp(disch:=omega) [wrap64,zc,j6,ax])|refine T.r0 fun K hK=>?_|refine T.r1 fun K hK=>?_|(refine⟨by omega,?_⟩)|refine T.ct rfl ?_|refine T.seq ?_|refine T.block ?_|refine T.skip ?_
 ·have fj:p=e.kids.length:=by omega
  subst fj;rw[Wb,Wg (by omega)];repeat' first|(refine ab (hK _ ?_);clear hK K)|(refine ae ?_;simp[aC];(try(refine gen2 ?_ ?_<;>intro hq<;>try simp[aC]at hq)))|(refine T.ret (aG.bu (Or.inr rfl) ?_)<;>simp[aI,Tryz.results117,ax,AZ]<;>omega)|refine T.r0 fun K hK=>?_|refine T.cf rfl ?_|refine T.seq ?_|refine T.exit ?_
theorem Ce (e:an) (h5:¬e.kind=5) (dt:e.kind=13) (ts:List aH) (a:Nat) (hn:fO e<=1099511627776) (dY:∀t∈ts,iK t<=1099511627776) (hl:a+1+(aB e.kids).length<=ts.length) (Cd:ts.length<=1099511627776) (tx:aH) (hx:tx=ts[a]?.getD tx)
  (ih:∀u∈e.kids,∀(a:Nat) (i:Int),i=a->a+(aL u).length<=ts.length->ah V4 117 [cw u,.l (ts.map cD),.i i] [] (.bu [cw (dJ u (ts.drop a)),.i (i+(aL u).length)]) [] []):
  ah V4 117 [cw e,.l (ts.map cD),.i a] [] (.bu [cw (.mk e.kind e.name e.num tx e.fr e.label (dX e.kids (ts.drop (a+1)))),.i ((a:Int)+1+(aB e.kids).length)]) [] []:=by
 obtain⟨jd,pD,CK,vD⟩:=dh hn;have h1:=b9 e.ty jd;have h2:=b9 e.fr pD;refine ah.ob Tryz.func117 Tryz.ntmps117 rfl ?_;have wK:a<ts.length:=by omega
 have rT:ts[a]=tx:=by rw[V7 wK]at hx;exact hx.symm
 have h3:=b9 tx (dY tx (by rw[<-rT];exact Wk wK));repeat' first|(refine ab (hK _ ?_);clear hK K)|((first|refine ae ?_|refine aa rfl (h1) ?_|refine aa rfl (h2) ?_|refine aa rfl (h3) ?_);simp[h5,dt,wK,rT];(try simp(disch:=omega)only[wrap64]);(try(refine gen2 ?_ ?_<;>intro hq<;>try simp[h5,dt,wK,rT]at hq)))|refine T.r0 fun K hK=>?_|refine T.r1 fun K hK=>?_|refine T.ct rfl ?_|refine T.seq ?_|refine T.block ?_
 refine T.e6 2 8 9 28 rfl rfl ?_
 refine T.dq (α:=Nat×List (List CV)) [1,3,6,7,8] (fun x=>[(2,.i ((a:Int)+1+(aB (e.kids.take x.1)).length)),(9,.i x.1)]) (fun x=>[(2,[.d (.i e.kind),.d (.str e.name),.d (.i e.num),.d (.i (tx).kind),.d (.sl ((tx).kids.map cD)),.d (.i e.fr.kind),.d (.sl (e.fr.kids.map cD)),.d (.i e.label),.own 0 x.1])]) (fun x=>x.2)
  (fun x _=>[{sz:=9,eO:=28,rows:=((dX e.kids (ts.drop (a+1))).take x.1).map fZ,wr:=true}]) (fun x=>e.kids.length+1-x.1) (fun x=>x.1<=e.kids.length) (by simp;rfl) (fun x hx=>?_) (0,[]) (by simp) (by simp[h5,dt]) (by simp) (by simp[aB])
 obtain⟨p,G⟩:=x;dsimp only at hx⊢;simp only[fP,Wc,Wd,V9,V6];have AZ:(dX e.kids (ts.drop (a+1))).length=e.kids.length:=ng _ _;by_cases aC:p<e.kids.length
 ·obtain⟨u,ht⟩:=bV aC;have eN:u∈e.kids:=Wa ht;have bn:e.kids[p]=u:=by rw[V7 aC]at ht;exact Option.some.inj ht
  have iA:e.kids.drop p=u::e.kids.drop (p+1):=by rw[V8 aC,bn]
  have hle:=iU e.kids (p+1);rw[cP ht,V5]at hle;have hu:=ih u eN (a+1+(aB (e.kids.take p)).length) ((a:Int)+1+(aB (e.kids.take p)).length) (by push_cast;omega) (by omega);have zc:=oB (ts.drop (a+1)) ht;rw[Wf]at zc;have j6:(a:Int)+1+((aB (e.kids.take (p+1))).length:Int)=(a:Int)+1+(aB (e.kids.take p)).length+(aL u).length:=by rw[cP ht];push_cast [V5];omega
  generalize (aB (e.kids.take p)).length=n1 at*;generalize (dJ u (ts.drop (a+1+n1)))=wu at*;generalize (dX e.kids (ts.drop (a+1)))=Z at*;have fD:min p e.kids.length=p:=by omega
  repeat' first|(refine ab (hK _ ?_);clear hK K)|((first|refine ae ?_|(refine aa ?_ (hu) ?_;(focus(solve|simp[aC,bn,fD,AZ]))));simp[aC,bn,fD,AZ];(try simp(disch:=omega)only[wrap64]);(try(refine gen2 ?_ ?_<;>intro hq<;>try simp[aC,bn,fD,AZ]at hq)))|(refine⟨(p+1,_),by dsimp only;omega,by dsimp only;omega,rfl,?_,?_⟩<;>simp(disch:=omega) [wrap64,zc,j6,ax])|refine T.r0 fun K hK=>?_|refine T.r1 fun K hK=>?_|(refine⟨by omega,?_⟩)|refine T.ct rfl ?_|refine T.seq ?_|refine T.block ?_|refine T.skip ?_
 ·have fj:p=e.kids.length:=by omega
  subst fj;rw[Wb,Wg (by omega)];repeat' first|(refine ab (hK _ ?_);clear hK K)|(refine ae ?_;simp[aC];(try(refine gen2 ?_ ?_<;>intro hq<;>try simp[aC]at hq)))|(refine T.ret (aG.bu (Or.inr rfl) ?_)<;>simp[aI,Tryz.results117,ax,AZ]<;>omega)|refine T.r0 fun K hK=>?_|refine T.cf rfl ?_|refine T.seq ?_|refine T.exit ?_
theorem zV (e:an) (h5:¬e.kind=5) (dt:¬e.kind=13) (ts:List aH) (a:Nat) (hn:fO e<=1099511627776) (dY:∀t∈ts,iK t<=1099511627776) (hl:a+(aB e.kids).length<=ts.length) (Cd:ts.length<=1099511627776) (tx:aH) (hx:tx=ts[a]?.getD tx)
  (ih:∀u∈e.kids,∀(a:Nat) (i:Int),i=a->a+(aL u).length<=ts.length->ah V4 117 [cw u,.l (ts.map cD),.i i] [] (.bu [cw (dJ u (ts.drop a)),.i (i+(aL u).length)]) [] []):
  ah V4 117 [cw e,.l (ts.map cD),.i a] [] (.bu [cw (.mk e.kind e.name e.num e.ty e.fr e.label (dX e.kids (ts.drop (a)))),.i ((a:Int)+(aB e.kids).length)]) [] []:=by
 obtain⟨jd,pD,CK,vD⟩:=dh hn;have h1:=b9 e.ty jd;have h2:=b9 e.fr pD;refine ah.ob Tryz.func117 Tryz.ntmps117 rfl ?_;repeat' first|(refine ab (hK _ ?_);clear hK K)|((first|refine ae ?_|refine aa rfl (h1) ?_|refine aa rfl (h2) ?_);simp[h5,dt];(try(refine gen2 ?_ ?_<;>intro hq<;>try simp[h5,dt]at hq)))|refine T.r0 fun K hK=>?_|refine T.cf rfl ?_|refine T.seq ?_|refine T.block ?_|refine T.skip ?_
 refine T.e6 2 8 9 28 rfl rfl ?_
 refine T.dq (α:=Nat×List (List CV)) [1,3,6,7,8] (fun x=>[(2,.i ((a:Int)+(aB (e.kids.take x.1)).length)),(9,.i x.1)]) (fun x=>[(2,[.d (.i e.kind),.d (.str e.name),.d (.i e.num),.d (.i (e.ty).kind),.d (.sl ((e.ty).kids.map cD)),.d (.i e.fr.kind),.d (.sl (e.fr.kids.map cD)),.d (.i e.label),.own 0 x.1])]) (fun x=>x.2)
  (fun x _=>[{sz:=9,eO:=28,rows:=((dX e.kids (ts.drop (a))).take x.1).map fZ,wr:=true}]) (fun x=>e.kids.length+1-x.1) (fun x=>x.1<=e.kids.length) (by simp;rfl) (fun x hx=>?_) (0,[]) (by simp) (by simp[h5,dt]) (by simp) (by simp[aB])
 obtain⟨p,G⟩:=x;dsimp only at hx⊢;simp only[fP,Wc,Wd,V9,V6];have AZ:(dX e.kids (ts.drop (a))).length=e.kids.length:=ng _ _;by_cases aC:p<e.kids.length
 ·obtain⟨u,ht⟩:=bV aC;have eN:u∈e.kids:=Wa ht;have bn:e.kids[p]=u:=by rw[V7 aC]at ht;exact Option.some.inj ht
  have iA:e.kids.drop p=u::e.kids.drop (p+1):=by rw[V8 aC,bn]
  have hle:=iU e.kids (p+1);rw[cP ht,V5]at hle;have hu:=ih u eN (a+(aB (e.kids.take p)).length) ((a:Int)+(aB (e.kids.take p)).length) (by push_cast;omega) (by omega);have zc:=oB (ts.drop (a)) ht;rw[Wf]at zc;have j6:(a:Int)+((aB (e.kids.take (p+1))).length:Int)=(a:Int)+(aB (e.kids.take p)).length+(aL u).length:=by rw[cP ht];push_cast [V5];omega
  generalize (aB (e.kids.take p)).length=n1 at*;generalize (dJ u (ts.drop (a+n1)))=wu at*;generalize (dX e.kids (ts.drop (a)))=Z at*;have fD:min p e.kids.length=p:=by omega
  repeat' first|(refine ab (hK _ ?_);clear hK K)|((first|refine ae ?_|(refine aa ?_ (hu) ?_;(focus(solve|simp[aC,bn,fD,AZ]))));simp[aC,bn,fD,AZ];(try simp(disch:=omega)only[wrap64]);(try(refine gen2 ?_ ?_<;>intro hq<;>try simp[aC,bn,fD,AZ]at hq)))|(refine⟨(p+1,_),by dsimp only;omega,by dsimp only;omega,rfl,?_,?_⟩<;>simp(disch:=omega) [wrap64,zc,j6,ax])|refine T.r0 fun K hK=>?_|refine T.r1 fun K hK=>?_|(refine⟨by omega,?_⟩)|refine T.ct rfl ?_|refine T.seq ?_|refine T.block ?_|refine T.skip ?_
 ·have fj:p=e.kids.length:=by omega
  subst fj;rw[Wb,Wg (by omega)];repeat' first|(refine ab (hK _ ?_);clear hK K)|(refine ae ?_;simp[aC];(try(refine gen2 ?_ ?_<;>intro hq<;>try simp[aC]at hq)))|(refine T.ret (aG.bu (Or.inr rfl) ?_)<;>simp[aI,Tryz.results117,ax,AZ]<;>omega)|refine T.r0 fun K hK=>?_|refine T.cf rfl ?_|refine T.seq ?_|refine T.exit ?_
theorem Cf (ts:List aH) (dY:∀t∈ts,iK t<=1099511627776) (Cd:ts.length<=1099511627776):∀(e:an),fO e<=1099511627776->∀(a:Nat) (i:Int),i=a->a+(aL e).length<=ts.length->ah V4 117 [cw e,.l (ts.map cD),.i i] [] (.bu [cw (dJ e (ts.drop a)),.i (i+(aL e).length)]) [] []:=by
 intro e;induction e using an.ind with
 |h e ih=>
  intro hn a i hi hl;obtain⟨_,_,_,vD⟩:=dh hn;subst hi;have ih':=fun u hu=>ih u hu (vD u hu)
  rw[oz]at hl⊢;rw[B0];by_cases h5:e.kind=5
  ·rw[if_pos (by simp[bt,h5])]at hl⊢;rw[if_pos (by simp[bt,h5]),if_pos (by simp[bt,h5])];simp only[V5,Wi]at hl⊢;have aC:a<ts.length:=by omega
   have:=zU e h5 ts a hn dY (by omega) Cd (ts[a]) (by simp[aC]) ih';rw[Wf,V8 aC,Wj]
   push_cast
   rw[<-Wp];exact this
  ·by_cases dt:e.kind=13
   ·rw[if_pos (by simp[bt,dt])]at hl⊢;rw[if_pos (by simp[bt,dt]),if_pos (by simp[bt,dt])];simp only[V5,Wi]at hl⊢;have aC:a<ts.length:=by omega
    have:=Ce e h5 dt ts a hn dY (by omega) Cd (ts[a]) (by simp[aC]) ih';rw[Wf,V8 aC,Wj]
    push_cast
    rw[<-Wp];exact this
   ·have hq:¬bt e.kind=true:=by simp[bt,h5,dt]
    rw[if_neg hq]at hl⊢;rw[if_neg hq,if_neg hq];simp only[V6]at hl⊢;have:=zV e h5 dt ts a hn dY (by omega) Cd (ts[a]?.getD e.ty) (by cases ts[a]? <;>rfl) ih';simpa using this
theorem va (e:an) (ts:List aH) (hn:fO e<=1073741824) (dY:∀t∈ts,iK t<=1099511627776) (Cd:ts.length<=1099511627776):ah V4 69 [cw e,.l (ts.map cD)] [] (.bu (lM (gQ e ts))) [] []:=by
 have h1:=mC e hn;have h2:=ia e (by omega);simp only[gQ];cases hv:aR e with
 |false=>
  rw[hv]at h2;simp only[c3,hv,Wm,if_false,Wn,lM,List.length_nil]at h1⊢;refine ah.ob Tryz.func69 Tryz.ntmps69 rfl ?_;repeat' first|(refine ab (hK _ ?_);clear hK K)|((first|(first|refine ae ?_|refine aa rfl (h2) ?_)|refine jk rfl (h1) ?_);simp;(try(refine gen2 ?_ ?_<;>intro hq<;>(try simp at hq)<;>try(have:True:=hq;clear this hq))))|(refine T.ret (aG.bu (Or.inr rfl) ?_)<;>simp[aI,Tryz.results69]<;>omega)|refine T.r0 fun K hK=>?_|refine T.ct rfl ?_|refine T.seq ?_
 |true=>
  rw[hv]at h2;simp only[c3,hv,if_true,Wo]at h1⊢;by_cases hl:ts.length=(aL e).length
  rotate_left
  ·have cN:¬((aL e).length:Int)=ts.length:=by omega
   simp only[hl,decide_false,Wn,Wm,if_false,lM];refine ah.ob Tryz.func69 Tryz.ntmps69 rfl ?_;repeat' first|(refine ab (hK _ ?_);clear hK K)|((first|refine ae ?_|refine jk rfl (h1) ?_);simp[cN];(try(refine gen2 ?_ ?_<;>intro hq<;>(try simp[cN]at hq)<;>try(have:True:=hq;clear this hq))))|(refine T.ret (aG.bu (Or.inr rfl) ?_)<;>simp[aI,Tryz.results69]<;>omega)|refine T.r0 fun K hK=>?_|refine T.ct rfl ?_|refine T.seq ?_
  have he:((aL e).length:Int)=ts.length:=by omega
  simp only[hl,decide_true,Wo];obtain⟨R,hR⟩:∃R,ts.all (ay 4)=R:=⟨_,rfl⟩;rw[hR];have h3:=Cf ts dY Cd e (by omega) 0 0 rfl (by omega);rw[List.drop_zero]at h3;generalize dJ e ts=x at h3⊢;refine ah.ob Tryz.func69 Tryz.ntmps69 rfl ?_;repeat' first|(refine ab (hK _ ?_);clear hK K)|((first|(first|refine ae ?_|refine aa rfl (h2) ?_)|refine jk rfl (h1) ?_);simp[he];(try(refine gen2 ?_ ?_<;>intro hq<;>(try simp[he]at hq)<;>try(have:True:=hq;clear this hq))))|refine T.r0 fun K hK=>?_|refine T.cf rfl ?_|refine T.seq ?_|refine T.block ?_|refine T.skip ?_
  refine T.dq (α:=Nat×List (List CV)) [1,2,4] (fun x=>[(5,.b false),(6,.i x.1)]) (fun x=>[]) (fun x=>x.2) (fun x A=>A) (fun x=>ts.length+1-x.1) (fun x=>x.1<=ts.length/\(ts.drop x.1).all (ay 4)=R) (by simp;rfl) (fun x hx=>?_) (0,[]) (by simpa using hR) (by simp) (by simp) (by simp);obtain⟨p,G⟩:=x;obtain⟨hi,hq⟩:=hx;dsimp only at hi hq⊢;simp only[fP,Wc,Wd,V9,V6];by_cases aC:p<ts.length
  ·obtain⟨u,ht⟩:=bV aC;have eN:u∈ts:=Wa ht;have bn:ts[p]=u:=by rw[V7 aC]at ht;exact Option.some.inj ht
   have iA:ts.drop p=u::ts.drop (p+1):=by rw[V8 aC,bn]
   have hu:=hY u (dY u eN);rw[iA,List.all_cons]at hq;cases hb:ay 4 u<;>rw[hb]at hu hq
   ·simp only[Wn]at hq;subst hq;simp only[Wm,if_false,lM];repeat' first|(refine ab (hK _ ?_);clear hK K)|((first|refine ae ?_|refine aa rfl (hu) ?_);simp[aC,bn];(try simp(disch:=omega)only[wrap64]);(try(refine gen2 ?_ ?_<;>intro hq<;>(try simp[aC,bn]at hq)<;>try(have:True:=hq;clear this hq))))|(refine T.ret (aG.bu (Or.inr rfl) ?_)<;>simp[aI,Tryz.results69]<;>omega)|refine T.r0 fun K hK=>?_|refine T.ct rfl ?_|refine T.seq ?_|refine T.block ?_|refine T.skip ?_
   ·repeat' first|(refine ab (hK _ ?_);clear hK K)|((first|refine ae ?_|refine aa rfl (hu) ?_);simp[aC,bn];(try simp(disch:=omega)only[wrap64]);(try(refine gen2 ?_ ?_<;>intro hq<;>(try simp[aC,bn]at hq)<;>try(have:True:=hq;clear this hq))))|(refine⟨(p+1,_),by dsimp only;omega,⟨by dsimp only;omega,by simpa using hq⟩,rfl,?_,?_⟩<;>simp(disch:=omega) [wrap64])|refine T.r0 fun K hK=>?_|refine T.r1 fun K hK=>?_|refine T.ct rfl ?_|refine T.cf rfl ?_|refine T.seq ?_|refine T.block ?_|refine T.skip ?_
  ·have fj:p=ts.length:=by omega
   subst fj;simp at hq;subst hq;simp only[if_true,lM];repeat' first|(refine ab (hK _ ?_);clear hK K)|((first|refine ae ?_|(refine aa ?_ (h3) ?_;(focus(solve|simp[aC]))));simp[aC];(try(refine gen2 ?_ ?_<;>intro hq<;>(try simp[aC]at hq)<;>try(have:True:=hq;clear this hq))))|(refine T.ret (aG.bu (Or.inr rfl) ?_)<;>simp[aI,Tryz.results69]<;>omega)|refine T.r0 fun K hK=>?_|refine T.cf rfl ?_|refine T.seq ?_|refine T.exit ?_
end Go.Proofs.YtloolmchekcmeaaGreat
