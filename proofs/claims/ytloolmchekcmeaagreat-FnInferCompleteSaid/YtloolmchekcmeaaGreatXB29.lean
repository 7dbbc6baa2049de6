/- A part. -/
import Derived.Test.YtloolmchekcmeaaGreatXB28
set_option linter.unusedVariables false
set_option linter.unusedSimpArgs false
open Go.Proofs.Tryz renaming prog->adq
open List renaming zipWith->adr,length_append->ads,perm_append_comm->adt,append_nil->adu,sizeOf_lt_of_mem->adv,set_cons_zero->adw,set_cons_succ->adx,nil_append->ady,mem_of_getElem?->adz,map_nil->adA,map_cons->adB,getElem?_eq_getElem->adC,getD_cons_zero->adD,getD_cons_succ->adE,cons_append->adF
open Bool renaming and_eq_true->adG
namespace Go.Proofs.YtloolmchekcmeaaGreat
attribute [-simp] Go.Av.IT.jQ Go.Av.IT.fJ Go.Av.IT.fi Go.Av.IT.jv Go.Av.IT.jR Go.Av.IT.jS Go.Av.IT.jT Go.Av.IT.jU Go.Av.IT.gv Go.Av.hM
open Go Go.Av
attribute [local irreducible] T ah TX EX LX bB dn bW cx ie aG.kind aG.kids al.kind al.name al.num al.ty al.fr al.label al.kids
attribute [local simp] aL au
set_option maxHeartbeats 16000000
set_option maxRecDepth 8000
attribute [local irreducible] TJ aU jh db
theorem sY (t:aG) (hn:t.kids.length<=1099511627776) (h:∀u∈t.kids,aU adq 104 [dF u] [] fun r L'=>∃v,r=.agg [.d (.i u.kind),.d (.raw v)]/\L'=[(jh 25 u.kids,v)]):
  aU adq 104 [dF t] [] fun r L'=>∃v,r=.agg [.d (.i t.kind),.d (.raw v)]/\L'=[(jh 25 t.kids,v)]:=by
 refine aU.ob Tryz.func104 Tryz.ntmps104 rfl ?_;repeat' first|(refine aA (hK _ _ ?_);clear hK K)|(refine aH ?_;simp;(try(refine J2 ?_ ?_<;>intro hq<;>try simp at hq)))|refine TJ.rs (fun _=>false) fun K hK=>?_|refine TJ.seq ?_|refine TJ.block ?_
 refine TJ.dq 2 1 2 25 (row:=[.d (.i t.kind),.nil]) (by simp) (by simp) ?_;refine TJ.dU (α:=List Value×List (List CV)) [2,3,10,11] (fun x=>[(12,.i x.1.length)]) (fun x=>[(2,[.d (.i t.kind),.own 0 x.1.length])]) (fun x=>x.2) (fun x _=>[{sz:=2,eA:=25,rows:=adr Rw t.kids x.1,wr:=true}]) (fun x=>(t.kids.map fun t=>jh 25 t.kids).zip x.1) (fun x=>t.kids.length+1-x.1.length) (fun x=>x.1.length<=t.kids.length) (by simp;rfl) (fun x hx=>?_) ([],[]) (by simp) (by simp) (by simp) (by simp) (M:=[]) (by simp);obtain⟨vs,G⟩:=x;dsimp only at hx⊢;simp only[iy,adw,adx,adF,ady];by_cases ax:vs.length<t.kids.length
 ·obtain⟨u,hu⟩:=bR ax;have Sg:u∈t.kids:=adz hu;have bf:t.kids[vs.length]=u:=by rw[adC ax]at hu;exact Option.some.inj hu
  have hc:=h u Sg;have qK:(adr Rw t.kids vs).length=vs.length:=by simp;omega
  have eX:min t.kids.length vs.length=vs.length:=by omega
  repeat' first|(refine aA (hK _ _ ?_);clear hK K)|(refine aH ?_;simp[ax,bf,qK,eX];(try simp(disch:=omega)only[wrap64]);(try(refine J2 ?_ ?_<;>intro hq<;>try simp[ax,bf,qK,eX]at hq)))|(refine zD (hK _ _ ?_);clear hK K)|(refine Co rfl ?_;simp[ax,bf,qK,eX];(try simp(disch:=omega)only[wrap64]);(try(refine J2 ?_ ?_<;>intro hq<;>try simp[ax,bf,qK,eX]at hq)))|(refine xt rfl ?_;simp[ax,bf,qK,eX];(try simp(disch:=omega)only[wrap64]);(try(refine J2 ?_ ?_<;>intro hq<;>try simp[ax,bf,qK,eX]at hq)))|(refine mq ?_ (hc) ?_;(focus(solve|(repeat' first|exact iQ.nil|apply iQ.cons|apply vg.c|apply vg.agg|exact v8.nil|apply v8.cons|exact ju.d|exact ju.nil|exact ju.np|(refine ju.kX ?_ (lK _ _);(focus(solve|simp)))|(refine ju.kX ?_ (pP _ _ _);(focus(solve|simp))))));rintro _ _ ⟨v,rfl,rfl⟩;simp[ax,bf,qK,eX];(try simp(disch:=omega)only[wrap64]);(try(refine J2 ?_ ?_<;>intro hq<;>try simp[ax,bf,qK,eX]at hq)))|(refine⟨by omega,by omega,?_⟩)|(refine TJ.RA (id:=5) mixed [0,1,2,3,4,5,6,7] (fun _=>false) [5,7] [3] (by kernel_rfl) (by kernel_rfl) (by kernel_rfl) fun K hK=>?_;simp only[eM,adB,adA,adD,adE])|refine TJ.rs (fun _=>false) fun K hK=>?_|refine TJ.fm (fun _=>false) fun K hK=>?_|refine TJ.cond rfl (fun aq=>?_) (fun aq=>absurd aq (by decide))|refine TJ.seq ?_|refine TJ.block ?_|refine TJ.skip ?_
  refine⟨(vs++[v],G++[[.d (.i u.kind),.d (.sl (u.kids.map cx))]]),[],by dsimp only;rw[ads];simp;omega,by dsimp only;rw[ads];simp;omega,?_,?_⟩
  ·simp(disch:=omega) [wrap64,sR hu]
  ·dsimp only;rw[H4 hu,adu];exact adt (l₁:=[_])
 ·have ff:vs.length=t.kids.length:=by omega
  repeat' first|(refine aA (hK _ _ ?_);clear hK K)|(refine aH ?_;simp[ax];(try(refine J2 ?_ ?_<;>intro hq<;>try simp[ax]at hq)))|refine TJ.rs (fun _=>false) fun K hK=>?_|refine TJ.cond rfl (fun aq=>absurd aq (by decide)) (fun aq=>?_)|refine TJ.seq ?_|refine TJ.exit ?_
  refine TJ.ret (bJ.L3 (k:=0) (n:=vs.length) (rs:=[.agg [.d (.i t.kind),.own 0 vs.length]]) (rs':=fun v=>[.agg [.d (.i t.kind),.d (.raw v)]]) (Or.inr rfl) (by simp[Tryz.results104]) rfl rfl ?_ (qg 25 ff) (L2:=[]) (by simp) (fun v=>by simp[DV.kD]) (fun v=>⟨[(jh 25 t.kids,v)],[],?_,v,rfl,rfl⟩))
  ·rw[List.length_zipWith];omega
  ·rw[ff,kg];exact .refl _
theorem lr:(t:aG)->fE t<=1099511627776->aU adq 104 [dF t] [] fun r L'=>∃v,r=.agg [.d (.i t.kind),.d (.raw v)]/\L'=[(jh 25 t.kids,v)]
 |.mk k l,hn=>sY (.mk k l) (by rw[eK]at hn;simp only[aG.bP]at hn⊢;have:=gg l;omega) (by
  rw[eK]at hn;simp only[aG.bP]at hn⊢;exact fun t ht=>lr t (by have:=gh ht;omega))
termination_by t=>SizeOf.sizeOf t
decreasing_by have:=adv ht;simp;omega
end Go.Proofs.YtloolmchekcmeaaGreat
namespace Go.Proofs.YtloolmchekcmeaaGreat
attribute [-simp] Go.Av.IT.jQ Go.Av.IT.fJ Go.Av.IT.fi Go.Av.IT.jv Go.Av.IT.jR Go.Av.IT.jS Go.Av.IT.jT Go.Av.IT.jU Go.Av.IT.gv Go.Av.hM
open Go Go.Av
attribute [local irreducible] T ah TX EX LX bB dn bW cx ie aG.kind aG.kids al.kind al.name al.num al.ty al.fr al.label al.kids
attribute [local simp] aL au
set_option maxHeartbeats 16000000
set_option maxRecDepth 8000
attribute [local irreducible] TJ aU jh db DY iS
theorem MB (k n tk fk b:Int) (s:List UInt8) (v1 v2:Value) (rows:List (List DV)) (m:Nat) (hm:m=rows.length):
  e7 adq 110 [.agg [.d (.i k),.d (.str s),.d (.i n),.d (.i tk),.d (.raw v1),.d (.i fk),.d (.raw v2),.d (.i b),.own 0 m]] [] [{sz:=9,eA:=28,rows:=rows,wr:=true}] (.agg [.d (.i k),.d (.str s),.d (.i n),.d (.i tk),.d (.raw v1),.d (.i fk),.d (.raw v2),.d (.i b),.own 0 m]) [] [{sz:=9,eA:=28,rows:=rows,wr:=true}]:=by
 subst hm;refine e7.cA Tryz.func110 (by kernel_rfl) rfl (by kernel_rfl) (by simp[Tryz.ntmps110]) (by simp) ?_;rw[Tryz.ntmps110];repeat' first|(refine ab (hK _ ?_);clear hK K)|(refine ae ?_;simp)|refine T.r0 fun K hK=>?_
 all_goals(refine T.ret (qM.one (Or.inr rfl) ?_ ?_)<;>simp[ay,Tryz.results110])
theorem vQ (e:al) (hn:e9 e<=1099511627776) (h:∀u∈e.kids,aU adq 46 [cL u,.c (.fn 110 [])] [] fun r L'=>∃v:V3,r=.agg ((Au u v).map CV.d)/\L'=xu 25 28 u v):
  aU adq 46 [cL e,.c (.fn 110 [])] [] fun r L'=>∃v:V3,r=.agg ((Au e v).map CV.d)/\L'=xu 25 28 e v:=by
 obtain⟨jE,oY,xf,qP⟩:=cE hn;have h1:=lr e.ty jE;have h2:=lr e.fr oY;refine aU.ob Tryz.func46 Tryz.ntmps46 rfl ?_;repeat' first|(refine aA (hK _ _ ?_);clear hK K)|(refine aH ?_;simp;(try(refine J2 ?_ ?_<;>intro hq<;>try simp at hq)))|refine TJ.rs (fun _=>false) fun K hK=>?_|refine TJ.seq ?_|refine TJ.block ?_
 refine TJ.pq 5 9 28 (by simp) ?_;refine TJ.dU (α:=List V3×List (List CV)) [1,2,4,9,10] (fun x=>[(5,.c (.own 0 x.1.length)),(11,.i x.1.length)]) (fun x=>[]) (fun x=>x.2) (fun x _=>[{sz:=9,eA:=28,rows:=adr Au e.kids x.1,wr:=true}]) (fun x=>yL 25 28 e.kids x.1) (fun x=>e.kids.length+1-x.1.length) (fun x=>x.1.length<=e.kids.length) (by simp;rfl) (fun x hx=>?_) ([],[]) (by simp) (by simp) (by simp) (by simp) (M:=[]) (by simp[H7]);obtain⟨vs,G⟩:=x;dsimp only at hx⊢;simp only[iy,adw,adx,adF,ady];by_cases ax:vs.length<e.kids.length
 ·obtain⟨u,hu⟩:=bR ax;have Sg:u∈e.kids:=adz hu;have bf:e.kids[vs.length]=u:=by rw[adC ax]at hu;exact Option.some.inj hu
  have hc:=h u Sg;have qK:(adr Au e.kids vs).length=vs.length:=by simp;omega
  have eX:min e.kids.length vs.length=vs.length:=by omega
  repeat' first|(refine aA (hK _ _ ?_);clear hK K)|(refine aH ?_;simp[ax,bf,qK,eX];(try simp(disch:=omega)only[wrap64]);(try(refine J2 ?_ ?_<;>intro hq<;>try simp[ax,bf,qK,eX]at hq)))|(refine eR ?_ (hc) ?_;(focus(solve|(repeat' first|exact iQ.nil|apply iQ.cons|apply vg.c|apply vg.agg|exact v8.nil|apply v8.cons|exact ju.d|exact ju.nil|exact ju.np|exact ju.fn|(refine ju.kX ?_ (lK _ _);(focus(solve|simp)))|(refine ju.kX ?_ (pP _ _ _);(focus(solve|simp))))));rintro _ _ ⟨⟨v1,v2,v3⟩,rfl,rfl⟩;simp[ax,bf,qK,eX];(try simp(disch:=omega)only[wrap64]);(try(refine J2 ?_ ?_<;>intro hq<;>try simp[ax,bf,qK,eX]at hq)))|(refine⟨by omega,by omega,?_⟩)|refine TJ.rs (fun _=>false) fun K hK=>?_|refine TJ.fm (fun _=>false) fun K hK=>?_|refine TJ.cond rfl (fun aq=>?_) (fun aq=>absurd aq (by decide))|refine TJ.seq ?_|refine TJ.block ?_|refine TJ.skip ?_
  refine⟨(vs++[(v1,v2,v3)],G++[[.d (.i u.kind),.d (.str u.name),.d (.i u.num),.d (.i u.ty.kind),.d (.sl (u.ty.kids.map cx)),.d (.i u.fr.kind),.d (.sl (u.fr.kids.map cx)),.d (.i u.label),.d (.sl (u.kids.map ie))]]),[],by dsimp only;rw[ads];simp;omega,by dsimp only;rw[ads];simp;omega,?_,?_⟩
  ·simp(disch:=omega) [wrap64,sR hu]
  ·dsimp only;rw[F4 _ _ hu,adu];exact adt (l₁:=xu _ _ u (v1,v2,v3))
 ·have ff:vs.length=e.kids.length:=by omega
  have qK:(adr Au e.kids vs).length=vs.length:=by simp;omega
  obtain⟨R,hR⟩:∃R,R=adr Au e.kids vs:=⟨_,rfl⟩;have HY:=zE 25 28 ff;rw[<-hR]at qK HY⊢;have kS:=MB e.kind e.num e.ty.kind e.fr.kind e.label e.name;repeat' first|(refine aA (hK _ _ ?_);clear hK K)|(refine zD (hK _ _ ?_);clear hK K)|((first|refine aH ?_|refine Co rfl ?_|refine xt rfl ?_|(refine mq ?_ (h1) ?_;(focus(solve|(repeat' first|exact iQ.nil|apply iQ.cons|apply vg.c|apply vg.agg|exact v8.nil|apply v8.cons|exact ju.d|exact ju.nil|exact ju.np|exact ju.fn|(refine ju.kX ?_ (lK _ _);(focus(solve|simp)))|(refine ju.kX ?_ (pP _ _ _);(focus(solve|simp))))));rintro _ _ ⟨v1,rfl,rfl⟩)|(refine mq ?_ (h2) ?_;(focus(solve|(repeat' first|exact iQ.nil|apply iQ.cons|apply vg.c|apply vg.agg|exact v8.nil|apply v8.cons|exact ju.d|exact ju.nil|exact ju.np|exact ju.fn|(refine ju.kX ?_ (lK _ _);(focus(solve|simp)))|(refine ju.kX ?_ (pP _ _ _);(focus(solve|simp))))));rintro _ _ ⟨v2,rfl,rfl⟩));simp[ax];(try(refine J2 ?_ ?_<;>intro hq<;>try simp[ax]at hq)))|(refine F0 (kC 0 (kS v1 v2 R vs.length qK.symm) rfl rfl rfl rfl ?_);simp[back])|(refine TJ.U3 (id:=7) mixed [0,1,3,4,6,2,7,5,8,9,10,11,12] (fun _=>false) [8,10,12] [5,7] (by kernel_rfl) (by kernel_rfl) (by kernel_rfl) fun K hK=>?_;simp only[eM,adB,adA,adD,adE])|refine TJ.rs (fun _=>false) fun K hK=>?_|refine TJ.cond rfl (fun aq=>absurd aq (by decide)) (fun aq=>?_)|refine TJ.seq ?_|refine TJ.exit ?_
  refine TJ.ret (bJ.L3 (k:=0) (n:=vs.length) (rs:=[.agg [.d (.i e.kind),.d (.str e.name),.d (.i e.num),.d (.i e.ty.kind),.d (.raw v1),.d (.i e.fr.kind),.d (.raw v2),.d (.i e.label),.own 0 vs.length]]) (rs':=fun v=>[.agg ((Au e (v1,v2,v)).map CV.d)]) (Or.inr rfl) (by simp[Tryz.results46]) rfl rfl qK.symm HY (L2:=[(jh 25 e.fr.kids,v2),(jh 25 e.ty.kids,v1)]) (adt (l₁:=[_,_])) (fun v=>by simp[DV.kD]) (fun v=>⟨xu 25 28 e (v1,v2,v),[],?_,(v1,v2,v),rfl,rfl⟩));rw[ff,adu,xu,E8];exact(List.reverse_perm [_,_,_]).symm
theorem oN:(e:al)->e9 e<=1099511627776->aU adq 46 [cL e,.c (.fn 110 [])] [] fun r L'=>∃v:V3,r=.agg ((Au e v).map CV.d)/\L'=xu 25 28 e v
 |.mk k s n t f b l,hn=>vQ _ hn (by
  obtain⟨jE,oY,xf,qP⟩:=cE hn;simp only[al.bP]at qP⊢;exact fun t ht=>oN t (qP t ht))
termination_by t=>SizeOf.sizeOf t
decreasing_by have:=adv ht;simp;omega
theorem IQ (e:al) (hn:e9 e<=1099511627776):aU adq 59 [cL e] [] fun r L'=>∃v:V3,r=.agg ((Au e v).map CV.d)/\L'=xu 25 28 e v:=by
 have h:=oN e hn;refine aU.ob Tryz.func59 Tryz.ntmps59 rfl ?_;repeat' first|(refine aA (hK _ _ ?_);clear hK K)|((first|refine aH ?_|(refine eR ?_ (h) ?_;(focus(solve|(repeat' first|exact iQ.nil|apply iQ.cons|apply vg.c|apply vg.agg|exact v8.nil|apply v8.cons|exact ju.d|exact ju.nil|exact ju.np|exact ju.fn|(refine ju.kX ?_ (lK _ _);(focus(solve|simp)))|(refine ju.kX ?_ (pP _ _ _);(focus(solve|simp))))));rintro _ _ ⟨⟨v1,v2,v3⟩,rfl,rfl⟩));simp;(try(refine J2 ?_ ?_<;>intro hq<;>try simp at hq)))|refine TJ.rs (fun _=>false) fun K hK=>?_
 refine TJ.ret (bJ.agg (Or.inr rfl) (L':=xu 25 28 e (v1,v2,v3)) (r:=.agg ((Au e (v1,v2,v3)).map CV.d)) (by simp[Tryz.results59]) (by simp[DV.kD]) (M:=[]) (by simp) ⟨(v1,v2,v3),rfl,rfl⟩)
abbrev Nh (o:Option aG) (v:Value):AV:=.a8 [.agg [.d (.i (o.getD aW).kind),.d (.raw v)],.b o.isSome]
theorem vv (e:TypeId):rz [(jh e [],.slice none 0 0)]:=fun p hp=>by
 simp at hp;subst hp;exact⟨e,2,by rw[kg];simp[db]⟩
theorem gO:aW.kids=[]:=aG.bP _ _
theorem iV:aW.kind=0:=aG.b4 _ _
theorem CS (ctx:List dt) (e:al) (hl:ctx.length<=1073741800) (Df:∀b∈ctx,fE b.ty<=1099511627776) (hn:e9 e<=1073741824):
  aU adq 63 [kN ctx,cL e] [] fun r L'=>∃v,r=Nh (bV ctx e) v/\L'=[(jh 25 ((bV ctx e).getD aW).kids,v)]:=by
 have h1:=vk ctx (by omega) Df;have h2:=lj e (by omega);cases hc:rl ctx with
 |false=>
  rw[show bV ctx e=none by simp[bV,hc]];rw[hc]at h1;refine aU.ob Tryz.func63 Tryz.ntmps63 rfl ?_;repeat' first|(refine aA (hK _ _ ?_);clear hK K)|((first|refine aH ?_|refine b5 rfl (h1) ?_);simp;(try(refine J2 ?_ ?_<;>intro hq<;>try simp at hq)))|refine TJ.rs (fun _=>false) fun K hK=>?_|refine TJ.cond rfl (fun aq=>?_) (fun aq=>absurd aq (by decide))|refine TJ.seq ?_
  refine TJ.ret ?_;(repeat first|refine oI.ret ?_|refine fG.ret ?_);refine(bJ.ua (rs:=[.agg [.d (.i 0),.nil],.b false]) (rs':=[.agg [.d (.i 0),.d (.raw (.slice none 0 0))],.b false]) (Ln:=[(jh 25 [],.slice none 0 0)]) (Or.inr rfl) (by simp[Tryz.results63]) (by simp[DV.kD]) (vv _) ⟨.slice none 0 0,by simp[Nh,one,iV],by simp[gO]⟩)
 |true=>
  rw[hc]at h1;cases hv:aS e with
  |false=>
   rw[show bV ctx e=none by simp[bV,hv]];rw[hv]at h2;refine aU.ob Tryz.func63 Tryz.ntmps63 rfl ?_;repeat' first|(refine aA (hK _ _ ?_);clear hK K)|((first|refine aH ?_|refine b5 rfl (h1) ?_|refine b5 rfl (h2) ?_);simp;(try(refine J2 ?_ ?_<;>intro hq<;>try simp at hq)))|refine TJ.rs (fun _=>false) fun K hK=>?_|refine TJ.cond rfl (fun aq=>?_) (fun aq=>absurd aq (by decide))|refine TJ.seq ?_
   refine TJ.ret ?_;(repeat first|refine oI.ret ?_|refine fG.ret ?_);refine(bJ.ua (rs:=[.agg [.d (.i 0),.nil],.b false]) (rs':=[.agg [.d (.i 0),.d (.raw (.slice none 0 0))],.b false]) (Ln:=[(jh 25 [],.slice none 0 0)]) (Or.inr rfl) (by simp[Tryz.results63]) (by simp[DV.kD]) (vv _) ⟨.slice none 0 0,by simp[Nh,one,iV],by simp[gO]⟩)
  |true=>
   rw[hv]at h2;have eT:iD ctx:=fun b hb=>by
    simp only[rl,adG,List.all_eq_true]at hc;exact(hc.1 b hb).2
   have jK:bg 14 12 e=true:=by simp only[aS,adG]at hv;exact hv.1
   have h3:=CB ctx e 12 jK (by omega) eT hn;rw[show bV ctx e=bO ctx e by simp[bV,hc,hv]];cases hr:bO ctx e with
   |none=>
    rw[hr]at h3;simp only[fN]at h3⊢;refine aU.ob Tryz.func63 Tryz.ntmps63 rfl ?_;repeat' first|(refine aA (hK _ _ ?_);clear hK K)|((first|refine aH ?_|refine b5 rfl (h1) ?_|refine b5 rfl (h2) ?_|refine b5 rfl (h3) ?_);simp;(try(refine J2 ?_ ?_<;>intro hq<;>try simp at hq)))|refine TJ.rs (fun _=>false) fun K hK=>?_|refine TJ.cond rfl (fun aq=>?_) (fun aq=>absurd aq (by decide))|refine TJ.cond rfl (fun aq=>absurd aq (by decide)) (fun aq=>?_)|refine TJ.seq ?_|refine TJ.skip ?_
    refine TJ.ret ?_;(repeat first|refine oI.ret ?_|refine fG.ret ?_);refine(bJ.ua (rs:=[.agg [.d (.i 0),.nil],.b false]) (rs':=[.agg [.d (.i 0),.d (.raw (.slice none 0 0))],.b false]) (Ln:=[(jh 25 [],.slice none 0 0)]) (Or.inr rfl) (by simp[Tryz.results63]) (by simp[DV.kD]) (vv _) ⟨.slice none 0 0,by simp[Nh,one,iV],by simp[gO]⟩)
   |some t=>
    rw[hr]at h3;have h4:=lr t (by have:=dp (cN e 12 14 ctx t jK eT hr);omega);simp only[fN]at h3⊢;refine aU.ob Tryz.func63 Tryz.ntmps63 rfl ?_;repeat' first|(refine aA (hK _ _ ?_);clear hK K)|((first|refine aH ?_|refine b5 rfl (h1) ?_|refine b5 rfl (h2) ?_|refine b5 rfl (h3) ?_|(refine eR ?_ (h4) ?_;(focus(solve|(repeat' first|exact iQ.nil|apply iQ.cons|apply vg.c|apply vg.agg|exact v8.nil|apply v8.cons|exact ju.d|exact ju.nil|exact ju.np|exact ju.fn|(refine ju.kX ?_ (lK _ _);(focus(solve|simp)))|(refine ju.kX ?_ (pP _ _ _);(focus(solve|simp))))));rintro _ _ ⟨v,rfl,rfl⟩));simp;(try(refine J2 ?_ ?_<;>intro hq<;>try simp at hq)))|refine TJ.rs (fun _=>false) fun K hK=>?_|refine TJ.cond rfl (fun aq=>absurd aq (by decide)) (fun aq=>?_)|refine TJ.seq ?_|refine TJ.skip ?_
    refine TJ.ret (bJ.a8 (rs:=[.agg [.d (.i t.kind),.d (.raw v)],.b true]) (rs':=[.agg [.d (.i t.kind),.d (.raw v)],.b true]) (L':=[(jh 25 t.kids,v)]) (M:=[]) (Or.inr rfl) (by simp[Tryz.results63]) (by simp[DV.kD]) (by simp) ⟨v,rfl,rfl⟩)
theorem CT (e:al) (hn:e9 e<=1073741824):aU adq 23 [cL e] [] fun r L'=>∃v,r=Nh (bV [] e) v/\L'=[(jh 25 ((bV [] e).getD aW).kids,v)]:=by
 have h:=CS [] e (by simp) (by simp) hn;generalize bV [] e=o at*;generalize (o.getD aW).kids=K at*;generalize hk:(o.getD aW).kind=k at*;simp only[Nh,hk]at h⊢;generalize o.isSome=bo at*;refine aU.ob Tryz.func23 Tryz.ntmps23 rfl ?_;repeat' first|(refine aA (hK _ _ ?_);clear hK K)|((first|refine aH ?_|(refine eR ?_ (h) ?_;(focus(solve|(repeat' first|exact iQ.nil|apply iQ.cons|apply vg.c|apply vg.agg|exact v8.nil|apply v8.cons|exact ju.d|exact ju.nil|exact ju.np|exact ju.fn|(refine ju.kX ?_ (lK _ _);(focus(solve|simp)))|(refine ju.kX ?_ (pP _ _ _);(focus(solve|simp))))));rintro _ _ ⟨v,rfl,rfl⟩));simp)|refine TJ.rs (fun _=>false) fun K hK=>?_
 refine TJ.ret (bJ.a8 (rs:=[.agg [.d (.i k),.d (.raw v)],.b bo]) (rs':=[.agg [.d (.i k),.d (.raw v)],.b bo]) (L':=[(jh 25 K,v)]) (M:=[]) (Or.inr rfl) (by simp[Tryz.results23]) (by simp[DV.kD]) (by simp) ⟨v,rfl,rfl⟩)
end Go.Proofs.YtloolmchekcmeaaGreat
