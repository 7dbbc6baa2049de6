/- A part. -/
import Derived.Test.YtloolmchekcmeaaGreatXD25
set_option linter.unusedVariables false
set_option linter.unusedSimpArgs false
open Go.Proofs.Tryz renaming prog->adf
open List renaming zipWith->adg,getElem?_eq_getElem->adh,sizeOf_lt_of_mem->adi,nil_append->adj,mem_of_getElem?->adk,length_append->adl,cons_append->adm,append_nil->adn,perm_append_comm->ado,length_zipWith->adp,set_cons_zero->adq,set_cons_succ->adr,map_nil->ads,map_cons->adt,getD_cons_zero->adu,getD_cons_succ->adv
open Bool renaming and_eq_true->adw
namespace Go.Proofs.YtloolmchekcmeaaGreat
attribute [-simp] Go.Av.IT.gK Go.Av.IT.eH Go.Av.IT.ey Go.Av.IT.gj Go.Av.IT.gL Go.Av.IT.gM Go.Av.IT.gN Go.Av.IT.gO Go.Av.IT.e8 Go.Av.fh
open Go Go.Av
attribute [local irreducible] T ah TX EX LX dA dB bL b5 eK aF.kind aF.kids ak.kind ak.name ak.num ak.ty ak.fr ak.label ak.kids
attribute [local simp] aN au
set_option maxHeartbeats 16000000
set_option maxRecDepth 8000
attribute [local irreducible] TJ aH dt bZ
theorem sC (t:aF) (hn:t.kids.length<=1099511627776) (h:∀u∈t.kids,aH adf 104 [ec u] [] fun r L'=>∃v,r=.agg [.d (.i u.kind),.d (.raw v)]/\L'=[(dt 25 u.kids,v)]):
  aH adf 104 [ec t] [] fun r L'=>∃v,r=.agg [.d (.i t.kind),.d (.raw v)]/\L'=[(dt 25 t.kids,v)]:=by
 refine aH.ob Tryz.func104 Tryz.ntmps104 rfl ?_;repeat' first|(refine aq (hK _ _ ?_);clear hK K)|(refine ay ?_;simp;(try(refine J2 ?_ ?_<;>intro hq<;>try simp at hq)))|refine TJ.rs (fun _=>false) fun K hK=>?_|refine TJ.seq ?_|refine TJ.block ?_
 refine TJ.dK 2 1 2 25 (row:=[.d (.i t.kind),.nil]) (by simp) (by simp) ?_;refine TJ.dr (α:=List Value×List (List CV)) [2,3,10,11] (fun x=>[(12,.i x.1.length)]) (fun x=>[(2,[.d (.i t.kind),.own 0 x.1.length])]) (fun x=>x.2) (fun x _=>[{sz:=2,dE:=25,rows:=adg Fj t.kids x.1,wr:=true}]) (fun x=>(t.kids.map fun t=>dt 25 t.kids).zip x.1) (fun x=>t.kids.length+1-x.1.length) (fun x=>x.1.length<=t.kids.length) (by simp;rfl) (fun x hx=>?_) ([],[]) (by simp) (by simp) (by simp) (by simp) (M:=[]) (by simp);obtain⟨vs,G⟩:=x;dsimp only at hx⊢;simp only[gI,adq,adr,adm,adj];by_cases ax:vs.length<t.kids.length
 ·obtain⟨u,hu⟩:=bz ax;have Di:u∈t.kids:=adk hu;have bg:t.kids[vs.length]=u:=by rw[adh ax]at hu;exact Option.some.inj hu
  have hc:=h u Di;have qt:(adg Fj t.kids vs).length=vs.length:=by simp;omega
  have fK:min t.kids.length vs.length=vs.length:=by omega
  repeat' first|(refine aq (hK _ _ ?_);clear hK K)|(refine ay ?_;simp[ax,bg,qt,fK];(try simp(disch:=omega)only[wrap64]);(try(refine J2 ?_ ?_<;>intro hq<;>try simp[ax,bg,qt,fK]at hq)))|(refine tE (hK _ _ ?_);clear hK K)|(refine wQ rfl ?_;simp[ax,bg,qt,fK];(try simp(disch:=omega)only[wrap64]);(try(refine J2 ?_ ?_<;>intro hq<;>try simp[ax,bg,qt,fK]at hq)))|(refine rf rfl ?_;simp[ax,bg,qt,fK];(try simp(disch:=omega)only[wrap64]);(try(refine J2 ?_ ?_<;>intro hq<;>try simp[ax,bg,qt,fK]at hq)))|(refine lP ?_ (hc) ?_;(focus(solve|(repeat' first|exact dj.nil|apply dj.cons|apply jA.c|apply jA.agg|exact jV.nil|apply jV.cons|exact c4.d|exact c4.nil|exact c4.np|(refine c4.cR ?_ (eh _ _);(focus(solve|simp)))|(refine c4.cR ?_ (eS _ _ _);(focus(solve|simp))))));rintro _ _ ⟨v,rfl,rfl⟩;simp[ax,bg,qt,fK];(try simp(disch:=omega)only[wrap64]);(try(refine J2 ?_ ?_<;>intro hq<;>try simp[ax,bg,qt,fK]at hq)))|(refine⟨by omega,by omega,?_⟩)|(refine TJ.Q2 (id:=5) mixed [0,1,2,3,4,5,6,7] (fun _=>false) [5,7] [3] (by kernel_rfl) (by kernel_rfl) (by kernel_rfl) fun K hK=>?_;simp only[ee,adt,ads,adu,adv])|refine TJ.rs (fun _=>false) fun K hK=>?_|refine TJ.cw (fun _=>false) fun K hK=>?_|refine TJ.cond rfl (fun aA=>?_) (fun aA=>absurd aA (by decide))|refine TJ.seq ?_|refine TJ.block ?_|refine TJ.skip ?_
  refine⟨(vs++[v],G++[[.d (.i u.kind),.d (.sl (u.kids.map b5))]]),[],by dsimp only;rw[adl];simp;omega,by dsimp only;rw[adl];simp;omega,?_,?_⟩
  ·simp(disch:=omega) [wrap64,sk hu]
  ·dsimp only;rw[BF hu,adn];exact ado (l₁:=[_])
 ·have eb:vs.length=t.kids.length:=by omega
  repeat' first|(refine aq (hK _ _ ?_);clear hK K)|(refine ay ?_;simp[ax];(try(refine J2 ?_ ?_<;>intro hq<;>try simp[ax]at hq)))|refine TJ.rs (fun _=>false) fun K hK=>?_|refine TJ.cond rfl (fun aA=>absurd aA (by decide)) (fun aA=>?_)|refine TJ.seq ?_|refine TJ.exit ?_
  refine TJ.ret (bk.LC (k:=0) (n:=vs.length) (rs:=[.agg [.d (.i t.kind),.own 0 vs.length]]) (rs':=fun v=>[.agg [.d (.i t.kind),.d (.raw v)]]) (Or.inr rfl) (by simp[Tryz.results104]) rfl rfl ?_ (kM 25 eb) (L2:=[]) (by simp) (fun v=>by simp[DV.eM]) (fun v=>⟨[(dt 25 t.kids,v)],[],?_,v,rfl,rfl⟩))
  ·rw[adp];omega
  ·rw[eb,hH];exact .refl _
theorem kG:(t:aF)->dF t<=1099511627776->aH adf 104 [ec t] [] fun r L'=>∃v,r=.agg [.d (.i t.kind),.d (.raw v)]/\L'=[(dt 25 t.kids,v)]
 |.mk k l,hn=>sC (.mk k l) (by rw[ed]at hn;simp only[aF.bD]at hn⊢;have:=eY l;omega) (by
  rw[ed]at hn;simp only[aF.bD]at hn⊢;exact fun t ht=>kG t (by have:=fi ht;omega))
termination_by t=>SizeOf.sizeOf t
decreasing_by have:=adi ht;simp;omega
end Go.Proofs.YtloolmchekcmeaaGreat
namespace Go.Proofs.YtloolmchekcmeaaGreat
attribute [-simp] Go.Av.IT.gK Go.Av.IT.eH Go.Av.IT.ey Go.Av.IT.gj Go.Av.IT.gL Go.Av.IT.gM Go.Av.IT.gN Go.Av.IT.gO Go.Av.IT.e8 Go.Av.fh
open Go Go.Av
attribute [local irreducible] T ah TX EX LX dA dB bL b5 eK aF.kind aF.kids ak.kind ak.name ak.num ak.ty ak.fr ak.label ak.kids
attribute [local simp] aN au
set_option maxHeartbeats 16000000
set_option maxRecDepth 8000
attribute [local irreducible] TJ aH dt bZ nE ei
theorem Mf (k n tk fk b:Int) (s:List UInt8) (v1 v2:Value) (rows:List (List DV)) (m:Nat) (hm:m=rows.length):
  eW adf 110 [.agg [.d (.i k),.d (.str s),.d (.i n),.d (.i tk),.d (.raw v1),.d (.i fk),.d (.raw v2),.d (.i b),.own 0 m]] [] [{sz:=9,dE:=28,rows:=rows,wr:=true}] (.agg [.d (.i k),.d (.str s),.d (.i n),.d (.i tk),.d (.raw v1),.d (.i fk),.d (.raw v2),.d (.i b),.own 0 m]) [] [{sz:=9,dE:=28,rows:=rows,wr:=true}]:=by
 subst hm;refine eW.kg Tryz.func110 (by kernel_rfl) rfl (by kernel_rfl) (by simp[Tryz.ntmps110]) (by simp) ?_;rw[Tryz.ntmps110];repeat' first|(refine ab (hK _ ?_);clear hK K)|(refine ae ?_;simp)|refine T.r0 fun K hK=>?_
 all_goals(refine T.ret (qw.one (Or.inr rfl) ?_ ?_)<;>simp[aE,Tryz.results110])
theorem vi (e:ak) (hn:fa e<=1099511627776) (h:∀u∈e.kids,aH adf 46 [cE u,.c (.fn 110 [])] [] fun r L'=>∃v:V3,r=.agg ((pU u v).map CV.d)/\L'=mz 25 28 u v):
  aH adf 46 [cE e,.c (.fn 110 [])] [] fun r L'=>∃v:V3,r=.agg ((pU e v).map CV.d)/\L'=mz 25 28 e v:=by
 obtain⟨kJ,qD,CR,uw⟩:=cU hn;have h1:=kG e.ty kJ;have h2:=kG e.fr qD;refine aH.ob Tryz.func46 Tryz.ntmps46 rfl ?_;repeat' first|(refine aq (hK _ _ ?_);clear hK K)|(refine ay ?_;simp;(try(refine J2 ?_ ?_<;>intro hq<;>try simp at hq)))|refine TJ.rs (fun _=>false) fun K hK=>?_|refine TJ.seq ?_|refine TJ.block ?_
 refine TJ.qS 5 9 28 (by simp) ?_;refine TJ.dr (α:=List V3×List (List CV)) [1,2,4,9,10] (fun x=>[(5,.c (.own 0 x.1.length)),(11,.i x.1.length)]) (fun x=>[]) (fun x=>x.2) (fun x _=>[{sz:=9,dE:=28,rows:=adg pU e.kids x.1,wr:=true}]) (fun x=>qk 25 28 e.kids x.1) (fun x=>e.kids.length+1-x.1.length) (fun x=>x.1.length<=e.kids.length) (by simp;rfl) (fun x hx=>?_) ([],[]) (by simp) (by simp) (by simp) (by simp) (M:=[]) (by simp[BM]);obtain⟨vs,G⟩:=x;dsimp only at hx⊢;simp only[gI,adq,adr,adm,adj];by_cases ax:vs.length<e.kids.length
 ·obtain⟨u,hu⟩:=bz ax;have Di:u∈e.kids:=adk hu;have bg:e.kids[vs.length]=u:=by rw[adh ax]at hu;exact Option.some.inj hu
  have hc:=h u Di;have qt:(adg pU e.kids vs).length=vs.length:=by simp;omega
  have fK:min e.kids.length vs.length=vs.length:=by omega
  repeat' first|(refine aq (hK _ _ ?_);clear hK K)|(refine ay ?_;simp[ax,bg,qt,fK];(try simp(disch:=omega)only[wrap64]);(try(refine J2 ?_ ?_<;>intro hq<;>try simp[ax,bg,qt,fK]at hq)))|(refine bT ?_ (hc) ?_;(focus(solve|(repeat' first|exact dj.nil|apply dj.cons|apply jA.c|apply jA.agg|exact jV.nil|apply jV.cons|exact c4.d|exact c4.nil|exact c4.np|exact c4.fn|(refine c4.cR ?_ (eh _ _);(focus(solve|simp)))|(refine c4.cR ?_ (eS _ _ _);(focus(solve|simp))))));rintro _ _ ⟨⟨v1,v2,v3⟩,rfl,rfl⟩;simp[ax,bg,qt,fK];(try simp(disch:=omega)only[wrap64]);(try(refine J2 ?_ ?_<;>intro hq<;>try simp[ax,bg,qt,fK]at hq)))|(refine⟨by omega,by omega,?_⟩)|refine TJ.rs (fun _=>false) fun K hK=>?_|refine TJ.cw (fun _=>false) fun K hK=>?_|refine TJ.cond rfl (fun aA=>?_) (fun aA=>absurd aA (by decide))|refine TJ.seq ?_|refine TJ.block ?_|refine TJ.skip ?_
  refine⟨(vs++[(v1,v2,v3)],G++[[.d (.i u.kind),.d (.str u.name),.d (.i u.num),.d (.i u.ty.kind),.d (.sl (u.ty.kids.map b5)),.d (.i u.fr.kind),.d (.sl (u.fr.kids.map b5)),.d (.i u.label),.d (.sl (u.kids.map eK))]]),[],by dsimp only;rw[adl];simp;omega,by dsimp only;rw[adl];simp;omega,?_,?_⟩
  ·simp(disch:=omega) [wrap64,sk hu]
  ·dsimp only;rw[yT _ _ hu,adn];exact ado (l₁:=mz _ _ u (v1,v2,v3))
 ·have eb:vs.length=e.kids.length:=by omega
  have qt:(adg pU e.kids vs).length=vs.length:=by simp;omega
  obtain⟨R,hR⟩:∃R,R=adg pU e.kids vs:=⟨_,rfl⟩;have vz:=pV 25 28 eb;rw[<-hR]at qt vz⊢;have j3:=Mf e.kind e.num e.ty.kind e.fr.kind e.label e.name;repeat' first|(refine aq (hK _ _ ?_);clear hK K)|(refine tE (hK _ _ ?_);clear hK K)|((first|refine ay ?_|refine wQ rfl ?_|refine rf rfl ?_|(refine lP ?_ (h1) ?_;(focus(solve|(repeat' first|exact dj.nil|apply dj.cons|apply jA.c|apply jA.agg|exact jV.nil|apply jV.cons|exact c4.d|exact c4.nil|exact c4.np|exact c4.fn|(refine c4.cR ?_ (eh _ _);(focus(solve|simp)))|(refine c4.cR ?_ (eS _ _ _);(focus(solve|simp))))));rintro _ _ ⟨v1,rfl,rfl⟩)|(refine lP ?_ (h2) ?_;(focus(solve|(repeat' first|exact dj.nil|apply dj.cons|apply jA.c|apply jA.agg|exact jV.nil|apply jV.cons|exact c4.d|exact c4.nil|exact c4.np|exact c4.fn|(refine c4.cR ?_ (eh _ _);(focus(solve|simp)))|(refine c4.cR ?_ (eS _ _ _);(focus(solve|simp))))));rintro _ _ ⟨v2,rfl,rfl⟩));simp[ax];(try(refine J2 ?_ ?_<;>intro hq<;>try simp[ax]at hq)))|(refine Fi (jO 0 (j3 v1 v2 R vs.length qt.symm) rfl rfl rfl rfl ?_);simp[back])|(refine TJ.SN (id:=7) mixed [0,1,3,4,6,2,7,5,8,9,10,11,12] (fun _=>false) [8,10,12] [5,7] (by kernel_rfl) (by kernel_rfl) (by kernel_rfl) fun K hK=>?_;simp only[ee,adt,ads,adu,adv])|refine TJ.rs (fun _=>false) fun K hK=>?_|refine TJ.cond rfl (fun aA=>absurd aA (by decide)) (fun aA=>?_)|refine TJ.seq ?_|refine TJ.exit ?_
  refine TJ.ret (bk.LC (k:=0) (n:=vs.length) (rs:=[.agg [.d (.i e.kind),.d (.str e.name),.d (.i e.num),.d (.i e.ty.kind),.d (.raw v1),.d (.i e.fr.kind),.d (.raw v2),.d (.i e.label),.own 0 vs.length]]) (rs':=fun v=>[.agg ((pU e (v1,v2,v)).map CV.d)]) (Or.inr rfl) (by simp[Tryz.results46]) rfl rfl qt.symm vz (L2:=[(dt 25 e.fr.kids,v2),(dt 25 e.ty.kids,v1)]) (ado (l₁:=[_,_])) (fun v=>by simp[DV.eM]) (fun v=>⟨mz 25 28 e (v1,v2,v),[],?_,(v1,v2,v),rfl,rfl⟩));rw[eb,adn,mz,vC];exact(List.reverse_perm [_,_,_]).symm
theorem n0:(e:ak)->fa e<=1099511627776->aH adf 46 [cE e,.c (.fn 110 [])] [] fun r L'=>∃v:V3,r=.agg ((pU e v).map CV.d)/\L'=mz 25 28 e v
 |.mk k s n t f b l,hn=>vi _ hn (by
  obtain⟨kJ,qD,CR,uw⟩:=cU hn;simp only[ak.bD]at uw⊢;exact fun t ht=>n0 t (uw t ht))
termination_by t=>SizeOf.sizeOf t
decreasing_by have:=adi ht;simp;omega
theorem Ie (e:ak) (hn:fa e<=1099511627776):aH adf 59 [cE e] [] fun r L'=>∃v:V3,r=.agg ((pU e v).map CV.d)/\L'=mz 25 28 e v:=by
 have h:=n0 e hn;refine aH.ob Tryz.func59 Tryz.ntmps59 rfl ?_;repeat' first|(refine aq (hK _ _ ?_);clear hK K)|((first|refine ay ?_|(refine bT ?_ (h) ?_;(focus(solve|(repeat' first|exact dj.nil|apply dj.cons|apply jA.c|apply jA.agg|exact jV.nil|apply jV.cons|exact c4.d|exact c4.nil|exact c4.np|exact c4.fn|(refine c4.cR ?_ (eh _ _);(focus(solve|simp)))|(refine c4.cR ?_ (eS _ _ _);(focus(solve|simp))))));rintro _ _ ⟨⟨v1,v2,v3⟩,rfl,rfl⟩));simp;(try(refine J2 ?_ ?_<;>intro hq<;>try simp at hq)))|refine TJ.rs (fun _=>false) fun K hK=>?_
 refine TJ.ret (bk.agg (Or.inr rfl) (L':=mz 25 28 e (v1,v2,v3)) (r:=.agg ((pU e (v1,v2,v3)).map CV.d)) (by simp[Tryz.results59]) (by simp[DV.eM]) (M:=[]) (by simp) ⟨(v1,v2,v3),rfl,rfl⟩)
abbrev MR (o:Option aF) (v:Value):AV:=.aZ [.agg [.d (.i (o.getD aX).kind),.d (.raw v)],.b o.isSome]
theorem uL (e:TypeId):q0 [(dt e [],.slice none 0 0)]:=fun p hp=>by
 simp at hp;subst hp;exact⟨e,2,by rw[hH];simp[bZ]⟩
theorem gk:aX.kids=[]:=aF.bD _ _
theorem ie:aX.kind=0:=aF.cb _ _
theorem B9 (ctx:List dI) (e:ak) (hl:ctx.length<=1073741800) (EN:∀b∈ctx,dF b.ty<=1099511627776) (hn:fa e<=1073741824):
  aH adf 63 [u5 ctx,cE e] [] fun r L'=>∃v,r=MR (cS ctx e) v/\L'=[(dt 25 ((cS ctx e).getD aX).kids,v)]:=by
 have h1:=BS ctx (by omega) EN;have h2:=si e (by omega);cases hc:uZ ctx with
 |false=>
  rw[show cS ctx e=none by simp[cS,hc]];rw[hc]at h1;refine aH.ob Tryz.func63 Tryz.ntmps63 rfl ?_;repeat' first|(refine aq (hK _ _ ?_);clear hK K)|((first|refine ay ?_|refine bx rfl (h1) ?_);simp;(try(refine J2 ?_ ?_<;>intro hq<;>try simp at hq)))|refine TJ.rs (fun _=>false) fun K hK=>?_|refine TJ.cond rfl (fun aA=>?_) (fun aA=>absurd aA (by decide))|refine TJ.seq ?_
  refine TJ.ret ?_;(repeat first|refine nT.ret ?_|refine fj.ret ?_);refine(bk.tD (rs:=[.agg [.d (.i 0),.nil],.b false]) (rs':=[.agg [.d (.i 0),.d (.raw (.slice none 0 0))],.b false]) (Ln:=[(dt 25 [],.slice none 0 0)]) (Or.inr rfl) (by simp[Tryz.results63]) (by simp[DV.eM]) (uL _) ⟨.slice none 0 0,by simp[MR,one,ie],by simp[gk]⟩)
 |true=>
  rw[hc]at h1;cases hv:aV e with
  |false=>
   rw[show cS ctx e=none by simp[cS,hv]];rw[hv]at h2;refine aH.ob Tryz.func63 Tryz.ntmps63 rfl ?_;repeat' first|(refine aq (hK _ _ ?_);clear hK K)|((first|refine ay ?_|refine bx rfl (h1) ?_|refine bx rfl (h2) ?_);simp;(try(refine J2 ?_ ?_<;>intro hq<;>try simp at hq)))|refine TJ.rs (fun _=>false) fun K hK=>?_|refine TJ.cond rfl (fun aA=>?_) (fun aA=>absurd aA (by decide))|refine TJ.seq ?_
   refine TJ.ret ?_;(repeat first|refine nT.ret ?_|refine fj.ret ?_);refine(bk.tD (rs:=[.agg [.d (.i 0),.nil],.b false]) (rs':=[.agg [.d (.i 0),.d (.raw (.slice none 0 0))],.b false]) (Ln:=[(dt 25 [],.slice none 0 0)]) (Or.inr rfl) (by simp[Tryz.results63]) (by simp[DV.eM]) (uL _) ⟨.slice none 0 0,by simp[MR,one,ie],by simp[gk]⟩)
  |true=>
   rw[hv]at h2;have eU:ir ctx:=fun b hb=>by
    simp only[uZ,adw,List.all_eq_true]at hc;exact(hc.1 b hb).2
   have kX:a8 14 12 e=true:=by simp only[aV,adw]at hv;exact hv.1
   have h3:=HS ctx e 12 kX (by omega) eU hn;rw[show cS ctx e=eQ ctx e by simp[cS,hc,hv]];cases hr:eQ ctx e with
   |none=>
    rw[hr]at h3;simp only[iC]at h3⊢;refine aH.ob Tryz.func63 Tryz.ntmps63 rfl ?_;repeat' first|(refine aq (hK _ _ ?_);clear hK K)|((first|refine ay ?_|refine bx rfl (h1) ?_|refine bx rfl (h2) ?_|refine bx rfl (h3) ?_);simp;(try(refine J2 ?_ ?_<;>intro hq<;>try simp at hq)))|refine TJ.rs (fun _=>false) fun K hK=>?_|refine TJ.cond rfl (fun aA=>?_) (fun aA=>absurd aA (by decide))|refine TJ.cond rfl (fun aA=>absurd aA (by decide)) (fun aA=>?_)|refine TJ.seq ?_|refine TJ.skip ?_
    refine TJ.ret ?_;(repeat first|refine nT.ret ?_|refine fj.ret ?_);refine(bk.tD (rs:=[.agg [.d (.i 0),.nil],.b false]) (rs':=[.agg [.d (.i 0),.d (.raw (.slice none 0 0))],.b false]) (Ln:=[(dt 25 [],.slice none 0 0)]) (Or.inr rfl) (by simp[Tryz.results63]) (by simp[DV.eM]) (uL _) ⟨.slice none 0 0,by simp[MR,one,ie],by simp[gk]⟩)
   |some t=>
    rw[hr]at h3;have h4:=kG t (by have:=dZ (iu e 12 14 ctx t kX eU hr);omega);simp only[iC]at h3⊢;refine aH.ob Tryz.func63 Tryz.ntmps63 rfl ?_;repeat' first|(refine aq (hK _ _ ?_);clear hK K)|((first|refine ay ?_|refine bx rfl (h1) ?_|refine bx rfl (h2) ?_|refine bx rfl (h3) ?_|(refine bT ?_ (h4) ?_;(focus(solve|(repeat' first|exact dj.nil|apply dj.cons|apply jA.c|apply jA.agg|exact jV.nil|apply jV.cons|exact c4.d|exact c4.nil|exact c4.np|exact c4.fn|(refine c4.cR ?_ (eh _ _);(focus(solve|simp)))|(refine c4.cR ?_ (eS _ _ _);(focus(solve|simp))))));rintro _ _ ⟨v,rfl,rfl⟩));simp;(try(refine J2 ?_ ?_<;>intro hq<;>try simp at hq)))|refine TJ.rs (fun _=>false) fun K hK=>?_|refine TJ.cond rfl (fun aA=>absurd aA (by decide)) (fun aA=>?_)|refine TJ.seq ?_|refine TJ.skip ?_
    refine TJ.ret (bk.aZ (rs:=[.agg [.d (.i t.kind),.d (.raw v)],.b true]) (rs':=[.agg [.d (.i t.kind),.d (.raw v)],.b true]) (L':=[(dt 25 t.kids,v)]) (M:=[]) (Or.inr rfl) (by simp[Tryz.results63]) (by simp[DV.eM]) (by simp) ⟨v,rfl,rfl⟩)
theorem Ca (e:ak) (hn:fa e<=1073741824):aH adf 23 [cE e] [] fun r L'=>∃v,r=MR (cS [] e) v/\L'=[(dt 25 ((cS [] e).getD aX).kids,v)]:=by
 have h:=B9 [] e (by simp) (by simp) hn;generalize cS [] e=o at*;generalize (o.getD aX).kids=K at*;generalize hk:(o.getD aX).kind=k at*;simp only[MR,hk]at h⊢;generalize o.isSome=bo at*;refine aH.ob Tryz.func23 Tryz.ntmps23 rfl ?_;repeat' first|(refine aq (hK _ _ ?_);clear hK K)|((first|refine ay ?_|(refine bT ?_ (h) ?_;(focus(solve|(repeat' first|exact dj.nil|apply dj.cons|apply jA.c|apply jA.agg|exact jV.nil|apply jV.cons|exact c4.d|exact c4.nil|exact c4.np|exact c4.fn|(refine c4.cR ?_ (eh _ _);(focus(solve|simp)))|(refine c4.cR ?_ (eS _ _ _);(focus(solve|simp))))));rintro _ _ ⟨v,rfl,rfl⟩));simp)|refine TJ.rs (fun _=>false) fun K hK=>?_
 refine TJ.ret (bk.aZ (rs:=[.agg [.d (.i k),.d (.raw v)],.b bo]) (rs':=[.agg [.d (.i k),.d (.raw v)],.b bo]) (L':=[(dt 25 K,v)]) (M:=[]) (Or.inr rfl) (by simp[Tryz.results23]) (by simp[DV.eM]) (by simp) ⟨v,rfl,rfl⟩)
end Go.Proofs.YtloolmchekcmeaaGreat
namespace Go.Proofs.YtloolmchekcmeaaGreat
attribute [-simp] Go.Av.bN Go.Av.IT.gK Go.Av.IT.eH Go.Av.IT.ey Go.Av.IT.gj Go.Av.IT.gL Go.Av.IT.gM Go.Av.IT.gN Go.Av.IT.gO Go.Av.IT.e8 Go.Av.fh
open Go Go.Av
attribute [local irreducible] T ah TX EX LX dA dB bL b5 eK aF.kind aF.kids ak.kind ak.name ak.num ak.ty ak.fr ak.label ak.kids
attribute [local simp] aN au
set_option maxHeartbeats 16000000
set_option maxRecDepth 8000
attribute [local irreducible] TJ aH dt bZ
theorem qm (l:List aF) (k:Nat) (hk:k+aL l<=1099511627776) (h:∀t∈l,∀(k:Nat) v,k+aL t.kids<=1099511627776->aH adf 76 [.c (.d (.raw v)),.i (k:Int)] [(dt 25 t.kids,v)] fun r L'=>r=.i ((k+aL t.kids:Nat):Int)/\L'=[(dt 25 (bE t.kids k),v)]) (v:Value):
  aH adf 76 [.c (.d (.raw v)),.i (k:Int)] [(dt 25 l,v)] fun r L'=>r=.i ((k+aL l:Nat):Int)/\L'=[(dt 25 (bE l k),v)]:=by
 have hlen:=eY l;rw[hH,hH,gz];refine aH.mono (R:=fun r L'=>∃cs',L'=[(.t 25 2 l.length cs',v)]/\(r=.i ((k+aL l:Nat):Int)/\cs'=bZ 25 (bE l k))) ?_ (by rintro r L' ⟨_,rfl,rfl,rfl⟩;exact⟨rfl,rfl⟩);refine aH.BD Tryz.func76 (by kernel_rfl) rfl (by kernel_rfl) (by simp[Tryz.ntmps76]) ?_ ?_
 rotate_left
 rw[Tryz.ntmps76]
 rotate_left
 ·exact uz _ l
 intro ds Lc vz ES;obtain⟨vs,hv,ON,rfl⟩:=qF _ vz;rw[ON];clear vz ES ON;repeat' first|(refine aq (hK _ _ ?_);clear hK K)|(refine ay ?_;simp;(try(refine J2 ?_ ?_<;>intro hq<;>try simp at hq)))|refine TJ.rs (fun _=>false) fun K hK=>?_|refine TJ.seq ?_|refine TJ.block ?_
 refine TJ.dr (α:=Nat) [0,4] (fun j=>[(1,.i ((k+aL (l.take j):Nat):Int)),(5,.i j)]) (fun _=>[]) (fun _=>[]) (fun j _=>[{sz:=2,dE:=25,rows:=adg Fj (mT l k j) vs,wr:=true}]) (fun j=>((mT l k j).map fun t=>dt 25 t.kids).zip vs) (fun j=>l.length+1-j) (fun j=>j<=l.length) (by simp;rfl) (fun j hj=>?_) 0 (by simp) (by simp) (by simp[Ek]) (by simp[aL]) (M:=[]) (by simp[Ek]);dsimp only at hj⊢;simp only[gI,adm,adj];by_cases ax:j<l.length
 ·obtain⟨u,hu⟩:=bz ax;have Di:u∈l:=adk hu;obtain⟨v1,iG⟩:=bz (l:=vs) (i:=j) (by omega);have hle:=sn l (j+1);have Hv:=pg hu;have IH:=nI (f:=Fj) (KG (k:=k) hu) iG;have xQ:(adg Fj (mT l k j) vs).set j [.i ((k+aL (l.take j):Nat):Int),.raw v1]=adg Fj (mT l k (j+1)) vs:=by rw[El hu,<-kB iG,pX];simp only[Fj,aF.cb]
  have pH:(adg Fj (mT l k j) vs).length=l.length:=by rw[adp,L0];omega
  have Ig:(((mT l k j).map fun t=>dt 25 t.kids).zip vs)[j]? =some (dt 25 u.kids,v1):=nI (f:=Prod.mk) (by rw[List.getElem?_map,KG hu];rfl) iG;have Cb:(((mT l k j).map fun t=>dt 25 t.kids).zip vs).set j (dt 25 (bE u.kids (k+aL (l.take j)+1)),v1)=((mT l k (j+1)).map fun t=>dt 25 t.kids).zip vs:=by
   rw[El hu,List.map_set,pX];simp only[aF.bD];exact kB (f:=Prod.mk) iG _
  generalize (((mT l k j).map fun t=>dt 25 t.kids).zip vs)=Lj at*;obtain⟨Lj',OO⟩:∃Lj',Lj'=(((mT l k (j+1)).map fun t=>dt 25 t.kids).zip vs):=⟨_,rfl⟩;rw[<-OO]at Cb;obtain⟨R,hR⟩:∃R,R=adg Fj (mT l k j) vs:=⟨_,rfl⟩;rw[<-hR]at IH xQ pH⊢;obtain⟨R',oh⟩:∃R',R'=adg Fj (mT l k (j+1)) vs:=⟨_,rfl⟩;rw[<-oh]at xQ;have JX:R'.length=l.length:=by rw[<-xQ,List.length_set,pH]
  obtain⟨kj,Gl⟩:∃kj,kj=k+aL (l.take j):=⟨_,rfl⟩;have Dv:((k+aL (l.take (j+1)):Nat):Int)=((kj+1+aL u.kids:Nat):Int):=by rw[Hv,Gl];congr 1;omega
  rw[<-Gl]at xQ Cb⊢;have JY:∀h,R'[j]'h=[.i kj,.raw v1]:=fun hh=>by
   have h1:R'[j]? =some [.i kj,.raw v1]:=by rw[<-xQ,List.getElem?_set_self (by omega)]
   rw[adh hh]at h1;exact Option.some.inj h1
  have hc:=h u Di (kj+1) v1 (by omega);have iP:j<Lj.length:=(List.getElem?_eq_some_iff.1 Ig).1;have rq:∀h,R[j]'h=[.i u.kind,.raw v1]:=fun hh=>by rw[adh hh]at IH;exact Option.some.inj IH
  repeat' first|(refine aq (hK _ _ ?_);clear hK K)|(refine ay ?_;simp[ax,pH,JX,rq,JY,xQ];(try simp(disch:=omega)only[wrap64]);(try(refine J2 ?_ ?_<;>intro hq<;>try simp[ax,pH,JX,rq,JY,xQ]at hq)))|(refine aJ (L2:=Lj.eraseIdx j) ?_ ?_ (hc) ?_;(focus(solve|exact xd Ig));(focus(solve|(repeat' first|exact dj.nil|apply dj.cons|apply jA.c|apply jA.agg|exact jV.nil|apply jV.cons|exact c4.d|exact c4.nil|exact c4.np|(refine c4.cR ?_ (eh _ _);(focus(solve|simp)))|(refine c4.cR ?_ (eS _ _ _);(focus(solve|simp))))));rintro _ _ ⟨rfl,rfl⟩;simp[ax,pH,JX,rq,JY,xQ];(try simp(disch:=omega)only[wrap64]);(try(refine J2 ?_ ?_<;>intro hq<;>try simp[ax,pH,JX,rq,JY,xQ]at hq)))|refine TJ.rs (fun _=>false) fun K hK=>?_|refine TJ.cw (fun _=>false) fun K hK=>?_|refine TJ.cond rfl (fun aA=>?_) (fun aA=>absurd aA (by decide))|refine TJ.seq ?_|refine TJ.block ?_|refine TJ.skip ?_
  refine⟨j+1,[],by dsimp only;omega,by dsimp only;omega,?_,?_⟩
  ·dsimp only;rw[<-oh,Dv];simp(disch:=omega) [wrap64]
  ·dsimp only;rw[adn,<-OO,<-Cb];exact Ej _ iP
 ·have eb:j=l.length:=by omega
  subst eb;rw[LZ,List.take_length];repeat' first|(refine aq (hK _ _ ?_);clear hK K)|(refine ay ?_;simp[ax];(try(refine J2 ?_ ?_<;>intro hq<;>try simp[ax]at hq)))|refine TJ.rs (fun _=>false) fun K hK=>?_|refine TJ.cond rfl (fun aA=>absurd aA (by decide)) (fun aA=>?_)|refine TJ.seq ?_|refine TJ.exit ?_
  refine TJ.ret (BC.one (r:=.i ((k+aL l:Nat):Int)) (Or.inr rfl) (by simp[Tryz.results76]) (by simp[DV.eM]) rfl ?_ (kM 25 (l:=bE l k) (by rw[gz];exact hv)) (M:=[]) (by simp) ⟨rfl,rfl⟩);rw[adp,gz];omega
theorem iV:(l:List aF)->(k:Nat)->k+aL l<=1099511627776->(v:Value)->aH adf 76 [.c (.d (.raw v)),.i (k:Int)] [(dt 25 l,v)] fun r L'=>r=.i ((k+aL l:Nat):Int)/\L'=[(dt 25 (bE l k),v)]
 |l,k,hk,v=>qm l k hk (fun t ht k v hk=>iV t.kids k hk v) v
termination_by l=>SizeOf.sizeOf l
decreasing_by have:=adi ht;cases t;simp at*;omega
theorem l5 (t:aF) (k:Nat) (hk:k+aL t.kids<=1099511627776) (v:Value):aH adf 32 [.agg [.d (.i t.kind),.d (.raw v)],.i (k:Int)] [(dt 25 t.kids,v)] fun r L'=>r=.i ((k+aL t.kids:Nat):Int)/\L'=[(dt 25 (bE t.kids k),v)]:=by
 have hc:=iV t.kids k hk v;generalize ((k+aL t.kids:Nat):Int)=K at*;refine aH.ob Tryz.func32 Tryz.ntmps32 rfl ?_;repeat' first|(refine aq (hK _ _ ?_);clear hK K)|((first|refine ay ?_|(refine aJ (L2:=[]) ?_ ?_ (hc) ?_;(focus(solve|exact .refl _));(focus(solve|(repeat' first|exact dj.nil|apply dj.cons|apply jA.c|apply jA.agg|exact jV.nil|apply jV.cons|exact c4.d|exact c4.nil|exact c4.np|(refine c4.cR ?_ (eh _ _);(focus(solve|simp)))|(refine c4.cR ?_ (eS _ _ _);(focus(solve|simp))))));rintro _ _ ⟨rfl,rfl⟩));simp;(try(refine J2 ?_ ?_<;>intro hq<;>try simp at hq)))|refine TJ.rs (fun _=>false) fun K hK=>?_
 refine TJ.ret (bk.agg (Or.inr rfl) (r:=.i K) (r':=.i K) (L':=[(dt 25 (bE t.kids k),v)]) (M:=[]) (by simp[Tryz.results32]) (by simp[DV.eM]) (by simp) ⟨rfl,rfl⟩)
theorem xx (l:List aF) (k:Nat) (hk:k+aL l<=1099511627776) (h:∀t∈l,∀(k:Nat),k+aL t.kids<=1099511627776->ah adf 78 [.l ((bE t.kids k).map b5),.i (k:Int)] [] (.i ((k+aL t.kids:Nat):Int)) [] []):
  ah adf 78 [.l ((bE l k).map b5),.i (k:Int)] [] (.i ((k+aL l:Nat):Int)) [] []:=by
 have hlen:=eY l;obtain⟨Z,hZ⟩:∃Z,Z=bE l k:=⟨_,rfl⟩;have JZ:Z.length=l.length:=by rw[hZ,gz]
 rw[<-hZ];refine ah.ob Tryz.func78 Tryz.ntmps78 rfl ?_;repeat' first|(refine ab (hK _ ?_);clear hK K)|(refine ae ?_;simp;(try(refine gen2 ?_ ?_<;>intro hq<;>try simp at hq)))|refine T.r0 fun K hK=>?_|refine T.seq ?_|refine T.block ?_
 refine T.dr (α:=Nat) [0] (fun j=>[(1,.i ((k+aL (l.take j):Nat):Int)),(5,.i j)]) (fun _=>[]) (fun _=>[]) (fun j _=>[]) (fun j=>l.length+1-j) (fun j=>j<=l.length) (by simp;rfl) (fun j hj=>?_) 0 (by simp) (by simp) (by simp) (by simp[aL]);dsimp only at hj⊢;simp only[gI,adm,adj];by_cases ax:j<l.length
 ·obtain⟨u,hu⟩:=bz ax;have Di:u∈l:=adk hu;have hle:=sn l (j+1);have Hv:=pg hu;have KP:Z[j]? =some (sj u (k+aL (l.take j))):=by rw[hZ];exact HW hu
  obtain⟨kj,Gl⟩:∃kj,kj=k+aL (l.take j):=⟨_,rfl⟩;have Dv:((k+aL (l.take (j+1)):Nat):Int)=((kj+1+aL u.kids:Nat):Int):=by rw[Hv,Gl];congr 1;omega
  rw[<-Gl]at KP⊢;have hc:=h u Di (kj+1) (by omega);have gF:(sj u kj).kind=kj:=by rw[pX,aF.cb]
  have kn:(sj u kj).kids=bE u.kids (kj+1):=by rw[pX,aF.bD]
  have IL:¬((kj:Int)+1+(aL u.kids:Int)<0):=by omega
  generalize sj u kj=y at KP gF kn;rw[<-kn]at hc;have bg:∀h,Z[j]'h=y:=fun hh=>by rw[adh hh]at KP;exact Option.some.inj KP
  repeat' first|(refine ab (hK _ ?_);clear hK K)|((first|refine ae ?_|refine aa rfl (hc) ?_);simp[ax,JZ,bg,gF,IL];(try simp(disch:=omega)only[wrap64]);(try(refine gen2 ?_ ?_<;>intro hq<;>try simp[ax,JZ,bg,gF,IL]at hq)))|(refine⟨j+1,by dsimp only;omega,by dsimp only;omega,?_⟩;(dsimp only;rw[Dv];simp(disch:=omega) [wrap64]))|refine T.r0 fun K hK=>?_|refine T.r1 fun K hK=>?_|refine T.ct rfl ?_|refine T.cf rfl ?_|refine T.seq ?_|refine T.block ?_|refine T.skip ?_
 ·have eb:j=l.length:=by omega
  subst eb;repeat' first|(refine ab (hK _ ?_);clear hK K)|(refine ae ?_;simp[ax,JZ];(try(refine gen2 ?_ ?_<;>intro hq<;>try simp[ax,JZ]at hq)))|(refine T.ret (az.data (Or.inr rfl) ?_ ?_)<;>simp[Tryz.results78]<;>omega)|refine T.r0 fun K hK=>?_|refine T.cf rfl ?_|refine T.seq ?_|refine T.exit ?_
theorem kH:(l:List aF)->(k:Nat)->k+aL l<=1099511627776->ah adf 78 [.l ((bE l k).map b5),.i (k:Int)] [] (.i ((k+aL l:Nat):Int)) [] []
 |l,k,hk=>xx l k hk (fun t ht k hk=>kH t.kids k hk)
termination_by l=>SizeOf.sizeOf l
decreasing_by have:=adi ht;cases t;simp at*;omega
theorem pA (c:Int) (l:List aF) (k:Nat) (hk:k+aL l<=1099511627776):ah adf 34 [ec (.mk c (bE l k)),.i (k:Int)] [] (.i ((k+aL l:Nat):Int)) [] []:=by
 have hc:=kH l k hk;have hn:¬((k+aL l:Nat):Int)<0:=by omega
 generalize bE l k=Z at*;generalize ((k+aL l:Nat):Int)=K at*;refine ah.ob Tryz.func34 Tryz.ntmps34 rfl ?_;repeat' first|(refine ab (hK _ ?_);clear hK K)|((first|refine ae ?_|refine aa rfl (hc) ?_);simp[hn];(try(refine gen2 ?_ ?_<;>intro hq<;>try simp[hn]at hq)))|(refine T.ret (az.data (Or.inr rfl) ?_ ?_)<;>simp[Tryz.results34]<;>omega)|refine T.r0 fun K hK=>?_|refine T.cf rfl ?_|refine T.seq ?_|refine T.skip ?_
end Go.Proofs.YtloolmchekcmeaaGreat
