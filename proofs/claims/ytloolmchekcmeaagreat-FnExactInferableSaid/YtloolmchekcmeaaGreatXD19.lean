/- A part. -/
import Derived.Test.YtloolmchekcmeaaGreatXD18
set_option linter.unusedVariables false
set_option linter.unusedSimpArgs false
open Go.Proofs.Tryz renaming prog->abM
open List renaming append_nil->abN,sizeOf_lt_of_mem->abO,perm_append_comm->abP,mem_of_getElem?->abQ,getElem?_eq_getElem->abR
namespace Go.Proofs.YtloolmchekcmeaaGreat
attribute [-simp] Go.Av.bN
open Go Go.Av
attribute [local irreducible] T ah TX EX LX dA dB bL b5 eK aF.kind aF.kids ak.kind ak.name ak.num ak.ty ak.fr ak.label ak.kids
attribute [local simp] aN au
set_option maxHeartbeats 16000000
set_option maxRecDepth 8000
attribute [local irreducible] TJ aH dt bZ
theorem sr (l:List aF) (hl:l.length<=1048576) (h:∀t∈l,aH abM 53 [ec t] [] fun r L'=>∃v,r=.agg [.d (.i t.kind),.d (.raw v)]/\L'=[(dt 25 t.kids,v)]):
  aH abM 107 [.l (l.map b5)] [] fun r L'=>∃v,r=.c (.d (.raw v))/\L'=[(dt 25 l,v)]:=by
 refine aH.ob Tryz.func107 Tryz.ntmps107 rfl ?_;repeat' first|(refine aq (hK _ _ ?_);clear hK K)|(refine ay ?_;simp;(try(refine J2 ?_ ?_<;>intro hq<;>try simp at hq)))|refine TJ.rs (fun _=>false) fun K hK=>?_|(refine And.intro (by omega) ?_)|refine TJ.seq ?_|refine TJ.block ?_
 refine TJ.fJ (fun vs:List Value=>⟨[(0,.l (l.map b5)),(3,.c (.own 0 l.length)),(4,.i vs.length)],[],[{sz:=2,dE:=25,rows:=j9 Fj [.i 0,.sl []] l vs,wr:=true}]⟩) (fun vs=>(l.map fun t=>dt 25 t.kids).zip vs) (fun vs=>l.length+1-vs.length) (fun vs=>vs.length<=l.length) (fun vs hi=>?_) [] (by simp) (by simp[wL]) (M:=[]) (by simp);by_cases ax:vs.length<l.length
 ·obtain⟨u,hu⟩:=bz ax;have Di:u∈l:=abQ hu;have bg:l[vs.length]=u:=by rw[abR ax]at hu;exact Option.some.inj hu
  have hc:=h u Di;repeat' first|(refine aq (hK _ _ ?_);clear hK K)|(refine ay ?_;simp[ax,bg,eV hi,jQ ax];(try simp(disch:=omega)only[wrap64]);(try(refine J2 ?_ ?_<;>intro hq<;>try simp[ax,bg,eV hi,jQ ax]at hq)))|(refine bT ?_ (hc) ?_;(focus(solve|(repeat' first|exact dj.nil|apply dj.cons|apply jA.c|apply jA.agg|exact jV.nil|apply jV.cons|exact c4.d|exact c4.nil|exact c4.np|(refine c4.cR ?_ (eh _ _);(focus(solve|simp)))|(refine c4.cR ?_ (eS _ _ _);(focus(solve|simp))))));rintro _ _ ⟨v,rfl,rfl⟩;simp[ax,bg,eV hi,jQ ax];(try simp(disch:=omega)only[wrap64]);(try(refine J2 ?_ ?_<;>intro hq<;>try simp[ax,bg,eV hi,jQ ax]at hq)))|refine TJ.rs (fun _=>false) fun K hK=>?_|refine TJ.cw (fun _=>false) fun K hK=>?_|refine TJ.cond rfl (fun aA=>?_) (fun aA=>absurd aA (by decide))|refine TJ.seq ?_|refine TJ.block ?_|refine TJ.skip ?_
  refine⟨vs++[v],[],by simp;omega,by simp;omega,?_,?_⟩
  ·simp(disch:=omega) [wrap64,<-yQ hu]
  ·dsimp only;rw[BF hu,abN];exact abP (l₁:=[_])
 ·have eb:vs.length=l.length:=by omega
  repeat' first|(refine aq (hK _ _ ?_);clear hK K)|(refine ay ?_;simp[eb];(try(refine J2 ?_ ?_<;>intro hq<;>try simp[eb]at hq)))|refine TJ.rs (fun _=>false) fun K hK=>?_|refine TJ.cond rfl (fun aA=>absurd aA (by decide)) (fun aA=>?_)|refine TJ.seq ?_|refine TJ.exit ?_
  refine TJ.ret (bk.own (k:=0) (n:=l.length) (Or.inr rfl) (by simp[Tryz.results107]) rfl rfl ?_ (Lc:=(l.map fun t=>dt 25 t.kids).zip vs) (cs:=bZ 25 l) ?_ (M:=[]) (by simp) ?_)
  ·rw[eV hi]
  ·rw[wM eb];exact kM _ eb
  ·intro v;refine⟨v,rfl,?_⟩;rw[eV hi];simp only[dt]
theorem tK (t:aF) (h:aH abM 107 [.l (t.kids.map b5)] [] fun r L'=>∃v,r=.c (.d (.raw v))/\L'=[(dt 25 t.kids,v)]):
  aH abM 53 [ec t] [] fun r L'=>∃v,r=.agg [.d (.i t.kind),.d (.raw v)]/\L'=[(dt 25 t.kids,v)]:=by
 refine aH.ob Tryz.func53 Tryz.ntmps53 rfl ?_;repeat' first|(refine aq (hK _ _ ?_);clear hK K)|((first|refine ay ?_|(refine bT ?_ (h) ?_;(focus(solve|(repeat' first|exact dj.nil|apply dj.cons|apply jA.c|apply jA.agg|exact jV.nil|apply jV.cons|exact c4.d|exact c4.nil|exact c4.np|(refine c4.cR ?_ (eh _ _);(focus(solve|simp)))|(refine c4.cR ?_ (eS _ _ _);(focus(solve|simp))))));rintro _ _ ⟨v,rfl,rfl⟩));simp;(try(refine J2 ?_ ?_<;>intro hq<;>try simp at hq)))|refine TJ.rs (fun _=>false) fun K hK=>?_
 refine TJ.ret (bk.agg (Or.inr rfl) (r:=.agg [.d (.i t.kind),.d (.raw v)]) (by simp[Tryz.results53]) (by simp[DV.eM]) (M:=[]) (by simp) ⟨v,rfl,rfl⟩)
theorem pk:(t:aF)->dF t<=1048576->aH abM 53 [ec t] [] fun r L'=>∃v,r=.agg [.d (.i t.kind),.d (.raw v)]/\L'=[(dt 25 t.kids,v)]
 |.mk k l,hn=>tK (.mk k l) (by
  rw[ed]at hn;simp only[aF.bD]at hn⊢;exact sr l (by have:=eY l;omega) (fun t ht=>pk t (by have:=fi ht;omega)))
termination_by t=>SizeOf.sizeOf t
decreasing_by have:=abO ht;simp;omega
end Go.Proofs.YtloolmchekcmeaaGreat
namespace Go.Proofs.YtloolmchekcmeaaGreat
attribute [-simp] Go.Av.bN
open Go Go.Av
attribute [local irreducible] T ah TX EX LX dA dB bL b5 eK aF.kind aF.kids ak.kind ak.name ak.num ak.ty ak.fr ak.label ak.kids
attribute [local simp] aN au
set_option maxHeartbeats 16000000
set_option maxRecDepth 8000
attribute [local irreducible] TJ aH dt bZ nE ei
theorem ss (l:List ak) (hl:l.length<=1048576) (h:∀t∈l,aH abM 17 [cE t] [] fun r L'=>∃v:V3,r=.agg ((pU t v).map CV.d)/\L'=mz 25 28 t v):
  aH abM 54 [.l (l.map eK)] [] fun r L'=>∃v,r=.c (.d (.raw v))/\L'=[(nE 25 28 l,v)]:=by
 refine aH.ob Tryz.func54 Tryz.ntmps54 rfl ?_;repeat' first|(refine aq (hK _ _ ?_);clear hK K)|(refine ay ?_;simp;(try(refine J2 ?_ ?_<;>intro hq<;>try simp at hq)))|refine TJ.rs (fun _=>false) fun K hK=>?_|(refine And.intro (by omega) ?_)|refine TJ.seq ?_|refine TJ.block ?_
 refine TJ.fJ (fun vs:List V3=>⟨[(0,.l (l.map eK)),(3,.c (.own 0 l.length)),(4,.i vs.length)],[],[{sz:=9,dE:=28,rows:=j9 pU [.i 0,.str [],.i 0,.i 0,.sl [],.i 0,.sl [],.i 0,.sl []] l vs,wr:=true}]⟩) (fun vs=>qk 25 28 l vs) (fun vs=>l.length+1-vs.length) (fun vs=>vs.length<=l.length) (fun vs hi=>?_) [] (by simp) (by simp[wL]) (M:=[]) (by simp[BM]);by_cases ax:vs.length<l.length
 ·obtain⟨u,hu⟩:=bz ax;have Di:u∈l:=abQ hu;have bg:l[vs.length]=u:=by rw[abR ax]at hu;exact Option.some.inj hu
  have hc:=h u Di;repeat' first|(refine aq (hK _ _ ?_);clear hK K)|(refine ay ?_;simp[ax,bg,eV hi,jQ ax];(try simp(disch:=omega)only[wrap64]);(try(refine J2 ?_ ?_<;>intro hq<;>try simp[ax,bg,eV hi,jQ ax]at hq)))|(refine bT ?_ (hc) ?_;(focus(solve|(repeat' first|exact dj.nil|apply dj.cons|apply jA.c|apply jA.agg|exact jV.nil|apply jV.cons|exact c4.d|exact c4.nil|exact c4.np|(refine c4.cR ?_ (eh _ _);(focus(solve|simp)))|(refine c4.cR ?_ (eS _ _ _);(focus(solve|simp))))));rintro _ _ ⟨⟨v1,v2,v3⟩,rfl,rfl⟩;simp[ax,bg,eV hi,jQ ax];(try simp(disch:=omega)only[wrap64]);(try(refine J2 ?_ ?_<;>intro hq<;>try simp[ax,bg,eV hi,jQ ax]at hq)))|refine TJ.rs (fun _=>false) fun K hK=>?_|refine TJ.cw (fun _=>false) fun K hK=>?_|refine TJ.cond rfl (fun aA=>?_) (fun aA=>absurd aA (by decide))|refine TJ.seq ?_|refine TJ.block ?_|refine TJ.skip ?_
  refine⟨vs++[(v1,v2,v3)],[],by simp;omega,by simp;omega,?_,?_⟩
  ·simp(disch:=omega) [wrap64,<-yQ hu]
  ·dsimp only;rw[yT _ _ hu,abN];exact abP (l₁:=mz _ _ u (v1,v2,v3))
 ·have eb:vs.length=l.length:=by omega
  repeat' first|(refine aq (hK _ _ ?_);clear hK K)|(refine ay ?_;simp[eb];(try(refine J2 ?_ ?_<;>intro hq<;>try simp[eb]at hq)))|refine TJ.rs (fun _=>false) fun K hK=>?_|refine TJ.cond rfl (fun aA=>absurd aA (by decide)) (fun aA=>?_)|refine TJ.seq ?_|refine TJ.exit ?_
  refine TJ.ret (bk.own (k:=0) (n:=l.length) (Or.inr rfl) (by simp[Tryz.results54]) rfl rfl ?_ (Lc:=qk 25 28 l vs) (cs:=ei 25 28 l) ?_ (M:=[]) (by simp) ?_)
  ·rw[eV hi]
  ·rw[wM eb];exact pV _ _ eb
  ·intro v;refine⟨v,rfl,?_⟩;rw[eV hi];simp only[nE]
theorem tL (e:ak) (h1:dF e.ty<=1048576) (h2:dF e.fr<=1048576) (h:aH abM 54 [.l (e.kids.map eK)] [] fun r L'=>∃v,r=.c (.d (.raw v))/\L'=[(nE 25 28 e.kids,v)]):
  aH abM 17 [cE e] [] fun r L'=>∃v:V3,r=.agg ((pU e v).map CV.d)/\L'=mz 25 28 e v:=by
 have k1:=pk e.ty h1;have k2:=pk e.fr h2;refine aH.ob Tryz.func17 Tryz.ntmps17 rfl ?_;repeat' first|(refine aq (hK _ _ ?_);clear hK K)|((first|refine ay ?_|(refine bT ?_ (k1) ?_;(focus(solve|(repeat' first|exact dj.nil|apply dj.cons|apply jA.c|apply jA.agg|exact jV.nil|apply jV.cons|exact c4.d|exact c4.nil|exact c4.np|(refine c4.cR ?_ (eh _ _);(focus(solve|simp)))|(refine c4.cR ?_ (eS _ _ _);(focus(solve|simp))))));rintro _ _ ⟨v1,rfl,rfl⟩)|(refine bT ?_ (k2) ?_;(focus(solve|(repeat' first|exact dj.nil|apply dj.cons|apply jA.c|apply jA.agg|exact jV.nil|apply jV.cons|exact c4.d|exact c4.nil|exact c4.np|(refine c4.cR ?_ (eh _ _);(focus(solve|simp)))|(refine c4.cR ?_ (eS _ _ _);(focus(solve|simp))))));rintro _ _ ⟨v2,rfl,rfl⟩)|(refine bT ?_ (h) ?_;(focus(solve|(repeat' first|exact dj.nil|apply dj.cons|apply jA.c|apply jA.agg|exact jV.nil|apply jV.cons|exact c4.d|exact c4.nil|exact c4.np|(refine c4.cR ?_ (eh _ _);(focus(solve|simp)))|(refine c4.cR ?_ (eS _ _ _);(focus(solve|simp))))));rintro _ _ ⟨v,rfl,rfl⟩));simp;(try(refine J2 ?_ ?_<;>intro hq<;>try simp at hq)))|refine TJ.rs (fun _=>false) fun K hK=>?_
 refine TJ.ret (bk.agg (Or.inr rfl) (L':=mz 25 28 e (v1,v2,v)) (r:=.agg ((pU e (v1,v2,v)).map CV.d)) (by simp[Tryz.results17]) (by simp[DV.eM]) (M:=[]) ?_ ⟨(v1,v2,v),rfl,rfl⟩);simp only[mz,abN];exact(List.reverse_perm _).symm
theorem uG:(e:ak)->fa e<=1048576->aH abM 17 [cE e] [] fun r L'=>∃v:V3,r=.agg ((pU e v).map CV.d)/\L'=mz 25 28 e v
 |.mk k s n t f b l,hn=>by
  have Ka:=hn;rw[fS]at hn;have hlen:=jK l;simp only[ak.bD,ak.jI,ak.jJ,ak.gu]at hn;exact tL _ (by simp only[ak.jI];omega) (by simp only[ak.jJ];omega) (by simp only[ak.bD];exact ss l (by omega) (fun t ht=>uG t (by have:=mq ht;omega)))
termination_by t=>SizeOf.sizeOf t
decreasing_by have:=abO ht;simp;omega
end Go.Proofs.YtloolmchekcmeaaGreat
