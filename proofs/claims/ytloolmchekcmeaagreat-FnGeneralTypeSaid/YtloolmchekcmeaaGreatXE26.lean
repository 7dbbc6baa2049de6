/- A part. -/
import Derived.Test.YtloolmchekcmeaaGreatXE25
set_option linter.unusedVariables false
set_option linter.unusedSimpArgs false
open Go.Proofs.Tryz renaming prog->acZ
open List renaming zipWith->ac0,length_append->ac1,perm_append_comm->ac2,append_nil->ac3,sizeOf_lt_of_mem->ac4,set_cons_zero->ac5,set_cons_succ->ac6,nil_append->ac7,mem_of_getElem?->ac8,map_nil->ac9,map_cons->ada,getElem?_eq_getElem->adb,getD_cons_zero->ade,getD_cons_succ->adf,cons_append->adg
open Bool renaming and_eq_true->adh
namespace Go.Proofs.YtloolmchekcmeaaGreat
attribute [-simp] Go.Av.IT.og Go.Av.IT.gU Go.Av.IT.gV Go.Av.IT.mA Go.Av.IT.oh Go.Av.IT.om Go.Av.IT.oo Go.Av.IT.ot Go.Av.IT.jF Go.Av.kY
open Go Go.Av
attribute [local irreducible] T ah TX EX LX bw dh bR cA gA aE.kind aE.kids ao.kind ao.name ao.num ao.ty ao.fr ao.label ao.kids
attribute [local simp] aQ ax
set_option maxHeartbeats 16000000
set_option maxRecDepth 8000
attribute [local irreducible] TJ aR iP c8
theorem sY (t:aE) (hn:t.kids.length<=1099511627776) (h:∀u∈t.kids,aR acZ 104 [eu u] [] fun r L'=>∃v,r=.agg [.d (.i u.kind),.d (.raw v)]/\L'=[(iP 25 u.kids,v)]):
  aR acZ 104 [eu t] [] fun r L'=>∃v,r=.agg [.d (.i t.kind),.d (.raw v)]/\L'=[(iP 25 t.kids,v)]:=by
 refine aR.ob Tryz.func104 Tryz.ntmps104 rfl ?_;repeat' first|(refine au (hK _ _ ?_);clear hK K)|(refine ay ?_;simp;(try(refine J2 ?_ ?_<;>intro hq<;>try simp at hq)))|refine TJ.rs (fun _=>false) fun K hK=>?_|refine TJ.seq ?_|refine TJ.block ?_
 refine TJ.dM 2 1 2 25 (row:=[.d (.i t.kind),.nil]) (by simp) (by simp) ?_;refine TJ.dA (α:=List Value×List (List CV)) [2,3,10,11] (fun x=>[(12,.i x.1.length)]) (fun x=>[(2,[.d (.i t.kind),.own 0 x.1.length])]) (fun x=>x.2) (fun x _=>[{sz:=2,eJ:=25,rows:=ac0 Rf t.kids x.1,wr:=true}]) (fun x=>(t.kids.map fun t=>iP 25 t.kids).zip x.1) (fun x=>t.kids.length+1-x.1.length) (fun x=>x.1.length<=t.kids.length) (by simp;rfl) (fun x hx=>?_) ([],[]) (by simp) (by simp) (by simp) (by simp) (M:=[]) (by simp);obtain⟨vs,G⟩:=x;dsimp only at hx⊢;simp only[gi,ac5,ac6,adg,ac7];by_cases az:vs.length<t.kids.length
 ·obtain⟨u,hu⟩:=bX az;have RT:u∈t.kids:=ac8 hu;have a8:t.kids[vs.length]=u:=by rw[adb az]at hu;exact Option.some.inj hu
  have hc:=h u RT;have rJ:(ac0 Rf t.kids vs).length=vs.length:=by simp;omega
  have eg:min t.kids.length vs.length=vs.length:=by omega
  repeat' first|(refine au (hK _ _ ?_);clear hK K)|(refine ay ?_;simp[az,a8,rJ,eg];(try simp(disch:=omega)only[wrap64]);(try(refine J2 ?_ ?_<;>intro hq<;>try simp[az,a8,rJ,eg]at hq)))|(refine zw (hK _ _ ?_);clear hK K)|(refine BY rfl ?_;simp[az,a8,rJ,eg];(try simp(disch:=omega)only[wrap64]);(try(refine J2 ?_ ?_<;>intro hq<;>try simp[az,a8,rJ,eg]at hq)))|(refine xv rfl ?_;simp[az,a8,rJ,eg];(try simp(disch:=omega)only[wrap64]);(try(refine J2 ?_ ?_<;>intro hq<;>try simp[az,a8,rJ,eg]at hq)))|(refine mb ?_ (hc) ?_;(focus(solve|(repeat' first|exact gR.nil|apply gR.cons|apply tf.c|apply tf.agg|exact vk.nil|apply vk.cons|exact gK.d|exact gK.nil|exact gK.np|(refine gK.jd ?_ (kG _ _);(focus(solve|simp)))|(refine gK.jd ?_ (nU _ _ _);(focus(solve|simp))))));rintro _ _ ⟨v,rfl,rfl⟩;simp[az,a8,rJ,eg];(try simp(disch:=omega)only[wrap64]);(try(refine J2 ?_ ?_<;>intro hq<;>try simp[az,a8,rJ,eg]at hq)))|(refine⟨by omega,by omega,?_⟩)|(refine TJ.Rj (id:=5) mixed [0,1,2,3,4,5,6,7] (fun _=>false) [5,7] [3] (by kernel_rfl) (by kernel_rfl) (by kernel_rfl) fun K hK=>?_;simp only[eA,ada,ac9,ade,adf])|refine TJ.rs (fun _=>false) fun K hK=>?_|refine TJ.eH (fun _=>false) fun K hK=>?_|refine TJ.cond rfl (fun al=>?_) (fun al=>absurd al (by decide))|refine TJ.seq ?_|refine TJ.block ?_|refine TJ.skip ?_
  refine⟨(vs++[v],G++[[.d (.i u.kind),.d (.sl (u.kids.map cA))]]),[],by dsimp only;rw[ac1];simp;omega,by dsimp only;rw[ac1];simp;omega,?_,?_⟩
  ·simp(disch:=omega) [wrap64,sM hu]
  ·dsimp only;rw[HX hu,ac3];exact ac2 (l₁:=[_])
 ·have fX:vs.length=t.kids.length:=by omega
  repeat' first|(refine au (hK _ _ ?_);clear hK K)|(refine ay ?_;simp[az];(try(refine J2 ?_ ?_<;>intro hq<;>try simp[az]at hq)))|refine TJ.rs (fun _=>false) fun K hK=>?_|refine TJ.cond rfl (fun al=>absurd al (by decide)) (fun al=>?_)|refine TJ.seq ?_|refine TJ.exit ?_
  refine TJ.ret (bt.LP (k:=0) (n:=vs.length) (rs:=[.agg [.d (.i t.kind),.own 0 vs.length]]) (rs':=fun v=>[.agg [.d (.i t.kind),.d (.raw v)]]) (Or.inr rfl) (by simp[Tryz.results104]) rfl rfl ?_ (qh 25 fX) (L2:=[]) (by simp) (fun v=>by simp[DV.jA]) (fun v=>⟨[(iP 25 t.kids,v)],[],?_,v,rfl,rfl⟩))
  ·rw[List.length_zipWith];omega
  ·rw[fX,jV];exact .refl _
theorem ld:(t:aE)->gl t<=1099511627776->aR acZ 104 [eu t] [] fun r L'=>∃v,r=.agg [.d (.i t.kind),.d (.raw v)]/\L'=[(iP 25 t.kids,v)]
 |.mk k l,hn=>sY (.mk k l) (by rw[gG]at hn;simp only[aE.bQ]at hn⊢;have:=ie l;omega) (by
  rw[gG]at hn;simp only[aE.bQ]at hn⊢;exact fun t ht=>ld t (by have:=ig ht;omega))
termination_by t=>SizeOf.sizeOf t
decreasing_by have:=ac4 ht;simp;omega
end Go.Proofs.YtloolmchekcmeaaGreat
namespace Go.Proofs.YtloolmchekcmeaaGreat
attribute [-simp] Go.Av.IT.og Go.Av.IT.gU Go.Av.IT.gV Go.Av.IT.mA Go.Av.IT.oh Go.Av.IT.om Go.Av.IT.oo Go.Av.IT.ot Go.Av.IT.jF Go.Av.kY
open Go Go.Av
attribute [local irreducible] T ah TX EX LX bw dh bR cA gA aE.kind aE.kids ao.kind ao.name ao.num ao.ty ao.fr ao.label ao.kids
attribute [local simp] aQ ax
set_option maxHeartbeats 16000000
set_option maxRecDepth 8000
attribute [local irreducible] TJ aR iP c8 Dz iC
theorem Mr (k n tk fk b:Int) (s:List UInt8) (v1 v2:Value) (rows:List (List DV)) (m:Nat) (hm:m=rows.length):
  eO acZ 110 [.agg [.d (.i k),.d (.str s),.d (.i n),.d (.i tk),.d (.raw v1),.d (.i fk),.d (.raw v2),.d (.i b),.own 0 m]] [] [{sz:=9,eJ:=28,rows:=rows,wr:=true}] (.agg [.d (.i k),.d (.str s),.d (.i n),.d (.i tk),.d (.raw v1),.d (.i fk),.d (.raw v2),.d (.i b),.own 0 m]) [] [{sz:=9,eJ:=28,rows:=rows,wr:=true}]:=by
 subst hm;refine eO.cx Tryz.func110 (by kernel_rfl) rfl (by kernel_rfl) (by simp[Tryz.ntmps110]) (by simp) ?_;rw[Tryz.ntmps110];repeat' first|(refine ab (hK _ ?_);clear hK K)|(refine af ?_;simp)|refine T.r0 fun K hK=>?_
 all_goals(refine T.ret (qJ.one (Or.inr rfl) ?_ ?_)<;>simp[aF,Tryz.results110])
theorem vX (e:ao) (hn:fy e<=1099511627776) (h:∀u∈e.kids,aR acZ 46 [c6 u,.c (.fn 110 [])] [] fun r L'=>∃v:V3,r=.agg ((An u v).map CV.d)/\L'=vS 25 28 u v):
  aR acZ 46 [c6 e,.c (.fn 110 [])] [] fun r L'=>∃v:V3,r=.agg ((An e v).map CV.d)/\L'=vS 25 28 e v:=by
 obtain⟨kp,qd,CP,tc⟩:=c4 hn;have h1:=ld e.ty kp;have h2:=ld e.fr qd;refine aR.ob Tryz.func46 Tryz.ntmps46 rfl ?_;repeat' first|(refine au (hK _ _ ?_);clear hK K)|(refine ay ?_;simp;(try(refine J2 ?_ ?_<;>intro hq<;>try simp at hq)))|refine TJ.rs (fun _=>false) fun K hK=>?_|refine TJ.seq ?_|refine TJ.block ?_
 refine TJ.qX 5 9 28 (by simp) ?_;refine TJ.dA (α:=List V3×List (List CV)) [1,2,4,9,10] (fun x=>[(5,.c (.own 0 x.1.length)),(11,.i x.1.length)]) (fun x=>[]) (fun x=>x.2) (fun x _=>[{sz:=9,eJ:=28,rows:=ac0 An e.kids x.1,wr:=true}]) (fun x=>yP 25 28 e.kids x.1) (fun x=>e.kids.length+1-x.1.length) (fun x=>x.1.length<=e.kids.length) (by simp;rfl) (fun x hx=>?_) ([],[]) (by simp) (by simp) (by simp) (by simp) (M:=[]) (by simp[H0]);obtain⟨vs,G⟩:=x;dsimp only at hx⊢;simp only[gi,ac5,ac6,adg,ac7];by_cases az:vs.length<e.kids.length
 ·obtain⟨u,hu⟩:=bX az;have RT:u∈e.kids:=ac8 hu;have a8:e.kids[vs.length]=u:=by rw[adb az]at hu;exact Option.some.inj hu
  have hc:=h u RT;have rJ:(ac0 An e.kids vs).length=vs.length:=by simp;omega
  have eg:min e.kids.length vs.length=vs.length:=by omega
  repeat' first|(refine au (hK _ _ ?_);clear hK K)|(refine ay ?_;simp[az,a8,rJ,eg];(try simp(disch:=omega)only[wrap64]);(try(refine J2 ?_ ?_<;>intro hq<;>try simp[az,a8,rJ,eg]at hq)))|(refine dH ?_ (hc) ?_;(focus(solve|(repeat' first|exact gR.nil|apply gR.cons|apply tf.c|apply tf.agg|exact vk.nil|apply vk.cons|exact gK.d|exact gK.nil|exact gK.np|exact gK.fn|(refine gK.jd ?_ (kG _ _);(focus(solve|simp)))|(refine gK.jd ?_ (nU _ _ _);(focus(solve|simp))))));rintro _ _ ⟨⟨v1,v2,v3⟩,rfl,rfl⟩;simp[az,a8,rJ,eg];(try simp(disch:=omega)only[wrap64]);(try(refine J2 ?_ ?_<;>intro hq<;>try simp[az,a8,rJ,eg]at hq)))|(refine⟨by omega,by omega,?_⟩)|refine TJ.rs (fun _=>false) fun K hK=>?_|refine TJ.eH (fun _=>false) fun K hK=>?_|refine TJ.cond rfl (fun al=>?_) (fun al=>absurd al (by decide))|refine TJ.seq ?_|refine TJ.block ?_|refine TJ.skip ?_
  refine⟨(vs++[(v1,v2,v3)],G++[[.d (.i u.kind),.d (.str u.name),.d (.i u.num),.d (.i u.ty.kind),.d (.sl (u.ty.kids.map cA)),.d (.i u.fr.kind),.d (.sl (u.fr.kids.map cA)),.d (.i u.label),.d (.sl (u.kids.map gA))]]),[],by dsimp only;rw[ac1];simp;omega,by dsimp only;rw[ac1];simp;omega,?_,?_⟩
  ·simp(disch:=omega) [wrap64,sM hu]
  ·dsimp only;rw[F0 _ _ hu,ac3];exact ac2 (l₁:=vS _ _ u (v1,v2,v3))
 ·have fX:vs.length=e.kids.length:=by omega
  have rJ:(ac0 An e.kids vs).length=vs.length:=by simp;omega
  obtain⟨R,hR⟩:∃R,R=ac0 An e.kids vs:=⟨_,rfl⟩;have HS:=zx 25 28 fX;rw[<-hR]at rJ HS⊢;have kJ:=Mr e.kind e.num e.ty.kind e.fr.kind e.label e.name;repeat' first|(refine au (hK _ _ ?_);clear hK K)|(refine zw (hK _ _ ?_);clear hK K)|((first|refine ay ?_|refine BY rfl ?_|refine xv rfl ?_|(refine mb ?_ (h1) ?_;(focus(solve|(repeat' first|exact gR.nil|apply gR.cons|apply tf.c|apply tf.agg|exact vk.nil|apply vk.cons|exact gK.d|exact gK.nil|exact gK.np|exact gK.fn|(refine gK.jd ?_ (kG _ _);(focus(solve|simp)))|(refine gK.jd ?_ (nU _ _ _);(focus(solve|simp))))));rintro _ _ ⟨v1,rfl,rfl⟩)|(refine mb ?_ (h2) ?_;(focus(solve|(repeat' first|exact gR.nil|apply gR.cons|apply tf.c|apply tf.agg|exact vk.nil|apply vk.cons|exact gK.d|exact gK.nil|exact gK.np|exact gK.fn|(refine gK.jd ?_ (kG _ _);(focus(solve|simp)))|(refine gK.jd ?_ (nU _ _ _);(focus(solve|simp))))));rintro _ _ ⟨v2,rfl,rfl⟩));simp[az];(try(refine J2 ?_ ?_<;>intro hq<;>try simp[az]at hq)))|(refine FV (j8 0 (kJ v1 v2 R vs.length rJ.symm) rfl rfl rfl rfl ?_);simp[back])|(refine TJ.UG (id:=7) mixed [0,1,3,4,6,2,7,5,8,9,10,11,12] (fun _=>false) [8,10,12] [5,7] (by kernel_rfl) (by kernel_rfl) (by kernel_rfl) fun K hK=>?_;simp only[eA,ada,ac9,ade,adf])|refine TJ.rs (fun _=>false) fun K hK=>?_|refine TJ.cond rfl (fun al=>absurd al (by decide)) (fun al=>?_)|refine TJ.seq ?_|refine TJ.exit ?_
  refine TJ.ret (bt.LP (k:=0) (n:=vs.length) (rs:=[.agg [.d (.i e.kind),.d (.str e.name),.d (.i e.num),.d (.i e.ty.kind),.d (.raw v1),.d (.i e.fr.kind),.d (.raw v2),.d (.i e.label),.own 0 vs.length]]) (rs':=fun v=>[.agg ((An e (v1,v2,v)).map CV.d)]) (Or.inr rfl) (by simp[Tryz.results46]) rfl rfl rJ.symm HS (L2:=[(iP 25 e.fr.kids,v2),(iP 25 e.ty.kids,v1)]) (ac2 (l₁:=[_,_])) (fun v=>by simp[DV.jA]) (fun v=>⟨vS 25 28 e (v1,v2,v),[],?_,(v1,v2,v),rfl,rfl⟩));rw[fX,ac3,vS,ER];exact(List.reverse_perm [_,_,_]).symm
theorem oO:(e:ao)->fy e<=1099511627776->aR acZ 46 [c6 e,.c (.fn 110 [])] [] fun r L'=>∃v:V3,r=.agg ((An e v).map CV.d)/\L'=vS 25 28 e v
 |.mk k s n t f b l,hn=>vX _ hn (by
  obtain⟨kp,qd,CP,tc⟩:=c4 hn;simp only[ao.bQ]at tc⊢;exact fun t ht=>oO t (tc t ht))
termination_by t=>SizeOf.sizeOf t
decreasing_by have:=ac4 ht;simp;omega
theorem IH (e:ao) (hn:fy e<=1099511627776):aR acZ 59 [c6 e] [] fun r L'=>∃v:V3,r=.agg ((An e v).map CV.d)/\L'=vS 25 28 e v:=by
 have h:=oO e hn;refine aR.ob Tryz.func59 Tryz.ntmps59 rfl ?_;repeat' first|(refine au (hK _ _ ?_);clear hK K)|((first|refine ay ?_|(refine dH ?_ (h) ?_;(focus(solve|(repeat' first|exact gR.nil|apply gR.cons|apply tf.c|apply tf.agg|exact vk.nil|apply vk.cons|exact gK.d|exact gK.nil|exact gK.np|exact gK.fn|(refine gK.jd ?_ (kG _ _);(focus(solve|simp)))|(refine gK.jd ?_ (nU _ _ _);(focus(solve|simp))))));rintro _ _ ⟨⟨v1,v2,v3⟩,rfl,rfl⟩));simp;(try(refine J2 ?_ ?_<;>intro hq<;>try simp at hq)))|refine TJ.rs (fun _=>false) fun K hK=>?_
 refine TJ.ret (bt.agg (Or.inr rfl) (L':=vS 25 28 e (v1,v2,v3)) (r:=.agg ((An e (v1,v2,v3)).map CV.d)) (by simp[Tryz.results59]) (by simp[DV.jA]) (M:=[]) (by simp) ⟨(v1,v2,v3),rfl,rfl⟩)
abbrev Na (o:Option aE) (v:Value):AV:=.bq [.agg [.d (.i (o.getD bx).kind),.d (.raw v)],.b o.isSome]
theorem vD (e:TypeId):ri [(iP e [],.slice none 0 0)]:=fun p hp=>by
 simp at hp;subst hp;exact⟨e,2,by rw[jV];simp[c8]⟩
theorem gz:bx.kids=[]:=aE.bQ _ _
theorem iE:bx.kind=0:=aE.b4 _ _
theorem Cw (ctx:List ea) (e:ao) (hl:ctx.length<=1073741800) (GZ:∀b∈ctx,gl b.ty<=1099511627776) (hn:fy e<=1073741824):
  aR acZ 63 [kS ctx,c6 e] [] fun r L'=>∃v,r=Na (gg ctx e) v/\L'=[(iP 25 ((gg ctx e).getD bx).kids,v)]:=by
 have h1:=B7 ctx (by omega) GZ;have h2:=nX e (by omega);cases hc:Dc ctx with
 |false=>
  rw[show gg ctx e=none by simp[gg,hc]];rw[hc]at h1;refine aR.ob Tryz.func63 Tryz.ntmps63 rfl ?_;repeat' first|(refine au (hK _ _ ?_);clear hK K)|((first|refine ay ?_|refine bJ rfl (h1) ?_);simp;(try(refine J2 ?_ ?_<;>intro hq<;>try simp at hq)))|refine TJ.rs (fun _=>false) fun K hK=>?_|refine TJ.cond rfl (fun al=>?_) (fun al=>absurd al (by decide))|refine TJ.seq ?_
  refine TJ.ret ?_;(repeat first|refine oK.ret ?_|refine fi.ret ?_);refine(bt.sD (rs:=[.agg [.d (.i 0),.nil],.b false]) (rs':=[.agg [.d (.i 0),.d (.raw (.slice none 0 0))],.b false]) (Ln:=[(iP 25 [],.slice none 0 0)]) (Or.inr rfl) (by simp[Tryz.results63]) (by simp[DV.jA]) (vD _) ⟨.slice none 0 0,by simp[Na,one,iE],by simp[gz]⟩)
 |true=>
  rw[hc]at h1;cases hv:a6 e with
  |false=>
   rw[show gg ctx e=none by simp[gg,hv]];rw[hv]at h2;refine aR.ob Tryz.func63 Tryz.ntmps63 rfl ?_;repeat' first|(refine au (hK _ _ ?_);clear hK K)|((first|refine ay ?_|refine bJ rfl (h1) ?_|refine bJ rfl (h2) ?_);simp;(try(refine J2 ?_ ?_<;>intro hq<;>try simp at hq)))|refine TJ.rs (fun _=>false) fun K hK=>?_|refine TJ.cond rfl (fun al=>?_) (fun al=>absurd al (by decide))|refine TJ.seq ?_
   refine TJ.ret ?_;(repeat first|refine oK.ret ?_|refine fi.ret ?_);refine(bt.sD (rs:=[.agg [.d (.i 0),.nil],.b false]) (rs':=[.agg [.d (.i 0),.d (.raw (.slice none 0 0))],.b false]) (Ln:=[(iP 25 [],.slice none 0 0)]) (Or.inr rfl) (by simp[Tryz.results63]) (by simp[DV.jA]) (vD _) ⟨.slice none 0 0,by simp[Na,one,iE],by simp[gz]⟩)
  |true=>
   rw[hv]at h2;have eK:kO ctx:=fun b hb=>by
    simp only[Dc,adh,List.all_eq_true]at hc;exact(hc.1 b hb).2
   have jh:bj 14 12 e=true:=by simp only[a6,adh]at hv;exact hv.1
   have h3:=Ic ctx e 12 jh (by omega) eK hn;rw[show gg ctx e=cO ctx e by simp[gg,hc,hv]];cases hr:cO ctx e with
   |none=>
    rw[hr]at h3;simp only[BK]at h3⊢;refine aR.ob Tryz.func63 Tryz.ntmps63 rfl ?_;repeat' first|(refine au (hK _ _ ?_);clear hK K)|((first|refine ay ?_|refine bJ rfl (h1) ?_|refine bJ rfl (h2) ?_|refine bJ rfl (h3) ?_);simp;(try(refine J2 ?_ ?_<;>intro hq<;>try simp at hq)))|refine TJ.rs (fun _=>false) fun K hK=>?_|refine TJ.cond rfl (fun al=>?_) (fun al=>absurd al (by decide))|refine TJ.cond rfl (fun al=>absurd al (by decide)) (fun al=>?_)|refine TJ.seq ?_|refine TJ.skip ?_
    refine TJ.ret ?_;(repeat first|refine oK.ret ?_|refine fi.ret ?_);refine(bt.sD (rs:=[.agg [.d (.i 0),.nil],.b false]) (rs':=[.agg [.d (.i 0),.d (.raw (.slice none 0 0))],.b false]) (Ln:=[(iP 25 [],.slice none 0 0)]) (Or.inr rfl) (by simp[Tryz.results63]) (by simp[DV.jA]) (vD _) ⟨.slice none 0 0,by simp[Na,one,iE],by simp[gz]⟩)
   |some t=>
    rw[hr]at h3;have h4:=ld t (by have:=fY (lY e 12 14 ctx t jh eK hr);omega);simp only[BK]at h3⊢;refine aR.ob Tryz.func63 Tryz.ntmps63 rfl ?_;repeat' first|(refine au (hK _ _ ?_);clear hK K)|((first|refine ay ?_|refine bJ rfl (h1) ?_|refine bJ rfl (h2) ?_|refine bJ rfl (h3) ?_|(refine dH ?_ (h4) ?_;(focus(solve|(repeat' first|exact gR.nil|apply gR.cons|apply tf.c|apply tf.agg|exact vk.nil|apply vk.cons|exact gK.d|exact gK.nil|exact gK.np|exact gK.fn|(refine gK.jd ?_ (kG _ _);(focus(solve|simp)))|(refine gK.jd ?_ (nU _ _ _);(focus(solve|simp))))));rintro _ _ ⟨v,rfl,rfl⟩));simp;(try(refine J2 ?_ ?_<;>intro hq<;>try simp at hq)))|refine TJ.rs (fun _=>false) fun K hK=>?_|refine TJ.cond rfl (fun al=>absurd al (by decide)) (fun al=>?_)|refine TJ.seq ?_|refine TJ.skip ?_
    refine TJ.ret (bt.bq (rs:=[.agg [.d (.i t.kind),.d (.raw v)],.b true]) (rs':=[.agg [.d (.i t.kind),.d (.raw v)],.b true]) (L':=[(iP 25 t.kids,v)]) (M:=[]) (Or.inr rfl) (by simp[Tryz.results63]) (by simp[DV.jA]) (by simp) ⟨v,rfl,rfl⟩)
theorem Cx (e:ao) (hn:fy e<=1073741824):aR acZ 23 [c6 e] [] fun r L'=>∃v,r=Na (gg [] e) v/\L'=[(iP 25 ((gg [] e).getD bx).kids,v)]:=by
 have h:=Cw [] e (by simp) (by simp) hn;generalize gg [] e=o at*;generalize (o.getD bx).kids=K at*;generalize hk:(o.getD bx).kind=k at*;simp only[Na,hk]at h⊢;generalize o.isSome=bo at*;refine aR.ob Tryz.func23 Tryz.ntmps23 rfl ?_;repeat' first|(refine au (hK _ _ ?_);clear hK K)|((first|refine ay ?_|(refine dH ?_ (h) ?_;(focus(solve|(repeat' first|exact gR.nil|apply gR.cons|apply tf.c|apply tf.agg|exact vk.nil|apply vk.cons|exact gK.d|exact gK.nil|exact gK.np|exact gK.fn|(refine gK.jd ?_ (kG _ _);(focus(solve|simp)))|(refine gK.jd ?_ (nU _ _ _);(focus(solve|simp))))));rintro _ _ ⟨v,rfl,rfl⟩));simp)|refine TJ.rs (fun _=>false) fun K hK=>?_
 refine TJ.ret (bt.bq (rs:=[.agg [.d (.i k),.d (.raw v)],.b bo]) (rs':=[.agg [.d (.i k),.d (.raw v)],.b bo]) (L':=[(iP 25 K,v)]) (M:=[]) (Or.inr rfl) (by simp[Tryz.results23]) (by simp[DV.jA]) (by simp) ⟨v,rfl,rfl⟩)
end Go.Proofs.YtloolmchekcmeaaGreat
