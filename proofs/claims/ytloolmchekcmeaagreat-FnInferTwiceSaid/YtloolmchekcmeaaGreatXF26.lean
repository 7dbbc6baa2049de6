/- A part. -/
import Derived.Test.YtloolmchekcmeaaGreatXF25
set_option linter.unusedVariables false
set_option linter.unusedSimpArgs false
open Go.Proofs.Tryz renaming prog->ac0
open List renaming zipWith->ac1,length_append->ac2,perm_append_comm->ac3,append_nil->ac4,sizeOf_lt_of_mem->ac5,set_cons_zero->ac6,set_cons_succ->ac7,nil_append->ac8,mem_of_getElem?->ac9,map_nil->ada,map_cons->adb,getElem?_eq_getElem->ade,getD_cons_zero->adf,getD_cons_succ->adg,cons_append->adh
open Bool renaming and_eq_true->adi
namespace Go.Proofs.YtloolmchekcmeaaGreat
attribute [-simp] Go.Av.IT.mE Go.Av.IT.gO Go.Av.IT.gl Go.Av.IT.lM Go.Av.IT.mF Go.Av.IT.mG Go.Av.IT.mH Go.Av.IT.mI Go.Av.IT.iS Go.Av.j6
open Go Go.Av
attribute [local irreducible] T ah TX EX LX bC dk bV ck gp aI.kind aI.kids ao.kind ao.name ao.num ao.ty ao.fr ao.label ao.kids
attribute [local simp] aJ al
set_option maxHeartbeats 16000000
set_option maxRecDepth 8000
attribute [local irreducible] TJ aT jf df
theorem sU (t:aI) (hn:t.kids.length<=1099511627776) (h:∀u∈t.kids,aT ac0 104 [dE u] [] fun r L'=>∃v,r=.agg [.d (.i u.kind),.d (.raw v)]/\L'=[(jf 25 u.kids,v)]):
  aT ac0 104 [dE t] [] fun r L'=>∃v,r=.agg [.d (.i t.kind),.d (.raw v)]/\L'=[(jf 25 t.kids,v)]:=by
 refine aT.ob Tryz.func104 Tryz.ntmps104 rfl ?_;repeat' first|(refine ax (hK _ _ ?_);clear hK K)|(refine aC ?_;simp;(try(refine J2 ?_ ?_<;>intro hq<;>try simp at hq)))|refine TJ.rs (fun _=>false) fun K hK=>?_|refine TJ.seq ?_|refine TJ.block ?_
 refine TJ.dq 2 1 2 25 (row:=[.d (.i t.kind),.nil]) (by simp) (by simp) ?_;refine TJ.dD (α:=List Value×List (List CV)) [2,3,10,11] (fun x=>[(12,.i x.1.length)]) (fun x=>[(2,[.d (.i t.kind),.own 0 x.1.length])]) (fun x=>x.2) (fun x _=>[{sz:=2,ev:=25,rows:=ac1 Rt t.kids x.1,wr:=true}]) (fun x=>(t.kids.map fun t=>jf 25 t.kids).zip x.1) (fun x=>t.kids.length+1-x.1.length) (fun x=>x.1.length<=t.kids.length) (by simp;rfl) (fun x hx=>?_) ([],[]) (by simp) (by simp) (by simp) (by simp) (M:=[]) (by simp);obtain⟨vs,G⟩:=x;dsimp only at hx⊢;simp only[gy,ac6,ac7,adh,ac8];by_cases ay:vs.length<t.kids.length
 ·obtain⟨u,hu⟩:=bM ay;have Sb:u∈t.kids:=ac9 hu;have aX:t.kids[vs.length]=u:=by rw[ade ay]at hu;exact Option.some.inj hu
  have hc:=h u Sb;have qG:(ac1 Rt t.kids vs).length=vs.length:=by simp;omega
  have eU:min t.kids.length vs.length=vs.length:=by omega
  repeat' first|(refine ax (hK _ _ ?_);clear hK K)|(refine aC ?_;simp[ay,aX,qG,eU];(try simp(disch:=omega)only[wrap64]);(try(refine J2 ?_ ?_<;>intro hq<;>try simp[ay,aX,qG,eU]at hq)))|(refine y0 (hK _ _ ?_);clear hK K)|(refine BK rfl ?_;simp[ay,aX,qG,eU];(try simp(disch:=omega)only[wrap64]);(try(refine J2 ?_ ?_<;>intro hq<;>try simp[ay,aX,qG,eU]at hq)))|(refine wY rfl ?_;simp[ay,aX,qG,eU];(try simp(disch:=omega)only[wrap64]);(try(refine J2 ?_ ?_<;>intro hq<;>try simp[ay,aX,qG,eU]at hq)))|(refine mg ?_ (hc) ?_;(focus(solve|(repeat' first|exact iw.nil|apply iw.cons|apply s7.c|apply s7.agg|exact uW.nil|apply uW.cons|exact iq.d|exact iq.nil|exact iq.np|(refine iq.jv ?_ (kO _ _);(focus(solve|simp)))|(refine iq.jv ?_ (om _ _ _);(focus(solve|simp))))));rintro _ _ ⟨v,rfl,rfl⟩;simp[ay,aX,qG,eU];(try simp(disch:=omega)only[wrap64]);(try(refine J2 ?_ ?_<;>intro hq<;>try simp[ay,aX,qG,eU]at hq)))|(refine⟨by omega,by omega,?_⟩)|(refine TJ.Rx (id:=5) mixed [0,1,2,3,4,5,6,7] (fun _=>false) [5,7] [3] (by kernel_rfl) (by kernel_rfl) (by kernel_rfl) fun K hK=>?_;simp only[eJ,adb,ada,adf,adg])|refine TJ.rs (fun _=>false) fun K hK=>?_|refine TJ.eQ (fun _=>false) fun K hK=>?_|refine TJ.cond rfl (fun an=>?_) (fun an=>absurd an (by decide))|refine TJ.seq ?_|refine TJ.block ?_|refine TJ.skip ?_
  refine⟨(vs++[v],G++[[.d (.i u.kind),.d (.sl (u.kids.map ck))]]),[],by dsimp only;rw[ac2];simp;omega,by dsimp only;rw[ac2];simp;omega,?_,?_⟩
  ·simp(disch:=omega) [wrap64,sM hu]
  ·dsimp only;rw[HK hu,ac4];exact ac3 (l₁:=[_])
 ·have fa:vs.length=t.kids.length:=by omega
  repeat' first|(refine ax (hK _ _ ?_);clear hK K)|(refine aC ?_;simp[ay];(try(refine J2 ?_ ?_<;>intro hq<;>try simp[ay]at hq)))|refine TJ.rs (fun _=>false) fun K hK=>?_|refine TJ.cond rfl (fun an=>absurd an (by decide)) (fun an=>?_)|refine TJ.seq ?_|refine TJ.exit ?_
  refine TJ.ret (bA.LZ (k:=0) (n:=vs.length) (rs:=[.agg [.d (.i t.kind),.own 0 vs.length]]) (rs':=fun v=>[.agg [.d (.i t.kind),.d (.raw v)]]) (Or.inr rfl) (by simp[Tryz.results104]) rfl rfl ?_ (qi 25 fa) (L2:=[]) (by simp) (fun v=>by simp[DV.jN]) (fun v=>⟨[(jf 25 t.kids,v)],[],?_,v,rfl,rfl⟩))
  ·rw[List.length_zipWith];omega
  ·rw[fa,j5];exact .refl _
theorem lq:(t:aI)->fA t<=1099511627776->aT ac0 104 [dE t] [] fun r L'=>∃v,r=.agg [.d (.i t.kind),.d (.raw v)]/\L'=[(jf 25 t.kids,v)]
 |.mk k l,hn=>sU (.mk k l) (by rw[eI]at hn;simp only[aI.bQ]at hn⊢;have:=fX l;omega) (by
  rw[eI]at hn;simp only[aI.bQ]at hn⊢;exact fun t ht=>lq t (by have:=fE ht;omega))
termination_by t=>SizeOf.sizeOf t
decreasing_by have:=ac5 ht;simp;omega
end Go.Proofs.YtloolmchekcmeaaGreat
namespace Go.Proofs.YtloolmchekcmeaaGreat
attribute [-simp] Go.Av.IT.mE Go.Av.IT.gO Go.Av.IT.gl Go.Av.IT.lM Go.Av.IT.mF Go.Av.IT.mG Go.Av.IT.mH Go.Av.IT.mI Go.Av.IT.iS Go.Av.j6
open Go Go.Av
attribute [local irreducible] T ah TX EX LX bC dk bV ck gp aI.kind aI.kids ao.kind ao.name ao.num ao.ty ao.fr ao.label ao.kids
attribute [local simp] aJ al
set_option maxHeartbeats 16000000
set_option maxRecDepth 8000
attribute [local irreducible] TJ aT jf df Dg iR
theorem Mv (k n tk fk b:Int) (s:List UInt8) (v1 v2:Value) (rows:List (List DV)) (m:Nat) (hm:m=rows.length):
  e8 ac0 110 [.agg [.d (.i k),.d (.str s),.d (.i n),.d (.i tk),.d (.raw v1),.d (.i fk),.d (.raw v2),.d (.i b),.own 0 m]] [] [{sz:=9,ev:=28,rows:=rows,wr:=true}] (.agg [.d (.i k),.d (.str s),.d (.i n),.d (.i tk),.d (.raw v1),.d (.i fk),.d (.raw v2),.d (.i b),.own 0 m]) [] [{sz:=9,ev:=28,rows:=rows,wr:=true}]:=by
 subst hm;refine e8.cD Tryz.func110 (by kernel_rfl) rfl (by kernel_rfl) (by simp[Tryz.ntmps110]) (by simp) ?_;rw[Tryz.ntmps110];repeat' first|(refine ab (hK _ ?_);clear hK K)|(refine ae ?_;simp)|refine T.r0 fun K hK=>?_
 all_goals(refine T.ret (qI.one (Or.inr rfl) ?_ ?_)<;>simp[aA,Tryz.results110])
theorem vC (e:ao) (hn:eR e<=1099511627776) (h:∀u∈e.kids,aT ac0 46 [cM u,.c (.fn 110 [])] [] fun r L'=>∃v:V3,r=.agg ((zX u v).map CV.d)/\L'=vz 25 28 u v):
  aT ac0 46 [cM e,.c (.fn 110 [])] [] fun r L'=>∃v:V3,r=.agg ((zX e v).map CV.d)/\L'=vz 25 28 e v:=by
 obtain⟨jo,nE,yl,o6⟩:=cB hn;have h1:=lq e.ty jo;have h2:=lq e.fr nE;refine aT.ob Tryz.func46 Tryz.ntmps46 rfl ?_;repeat' first|(refine ax (hK _ _ ?_);clear hK K)|(refine aC ?_;simp;(try(refine J2 ?_ ?_<;>intro hq<;>try simp at hq)))|refine TJ.rs (fun _=>false) fun K hK=>?_|refine TJ.seq ?_|refine TJ.block ?_
 refine TJ.px 5 9 28 (by simp) ?_;refine TJ.dD (α:=List V3×List (List CV)) [1,2,4,9,10] (fun x=>[(5,.c (.own 0 x.1.length)),(11,.i x.1.length)]) (fun x=>[]) (fun x=>x.2) (fun x _=>[{sz:=9,ev:=28,rows:=ac1 zX e.kids x.1,wr:=true}]) (fun x=>yp 25 28 e.kids x.1) (fun x=>e.kids.length+1-x.1.length) (fun x=>x.1.length<=e.kids.length) (by simp;rfl) (fun x hx=>?_) ([],[]) (by simp) (by simp) (by simp) (by simp) (M:=[]) (by simp[HN]);obtain⟨vs,G⟩:=x;dsimp only at hx⊢;simp only[gy,ac6,ac7,adh,ac8];by_cases ay:vs.length<e.kids.length
 ·obtain⟨u,hu⟩:=bM ay;have Sb:u∈e.kids:=ac9 hu;have aX:e.kids[vs.length]=u:=by rw[ade ay]at hu;exact Option.some.inj hu
  have hc:=h u Sb;have qG:(ac1 zX e.kids vs).length=vs.length:=by simp;omega
  have eU:min e.kids.length vs.length=vs.length:=by omega
  repeat' first|(refine ax (hK _ _ ?_);clear hK K)|(refine aC ?_;simp[ay,aX,qG,eU];(try simp(disch:=omega)only[wrap64]);(try(refine J2 ?_ ?_<;>intro hq<;>try simp[ay,aX,qG,eU]at hq)))|(refine dP ?_ (hc) ?_;(focus(solve|(repeat' first|exact iw.nil|apply iw.cons|apply s7.c|apply s7.agg|exact uW.nil|apply uW.cons|exact iq.d|exact iq.nil|exact iq.np|exact iq.fn|(refine iq.jv ?_ (kO _ _);(focus(solve|simp)))|(refine iq.jv ?_ (om _ _ _);(focus(solve|simp))))));rintro _ _ ⟨⟨v1,v2,v3⟩,rfl,rfl⟩;simp[ay,aX,qG,eU];(try simp(disch:=omega)only[wrap64]);(try(refine J2 ?_ ?_<;>intro hq<;>try simp[ay,aX,qG,eU]at hq)))|(refine⟨by omega,by omega,?_⟩)|refine TJ.rs (fun _=>false) fun K hK=>?_|refine TJ.eQ (fun _=>false) fun K hK=>?_|refine TJ.cond rfl (fun an=>?_) (fun an=>absurd an (by decide))|refine TJ.seq ?_|refine TJ.block ?_|refine TJ.skip ?_
  refine⟨(vs++[(v1,v2,v3)],G++[[.d (.i u.kind),.d (.str u.name),.d (.i u.num),.d (.i u.ty.kind),.d (.sl (u.ty.kids.map ck)),.d (.i u.fr.kind),.d (.sl (u.fr.kids.map ck)),.d (.i u.label),.d (.sl (u.kids.map gp))]]),[],by dsimp only;rw[ac2];simp;omega,by dsimp only;rw[ac2];simp;omega,?_,?_⟩
  ·simp(disch:=omega) [wrap64,sM hu]
  ·dsimp only;rw[FC _ _ hu,ac4];exact ac3 (l₁:=vz _ _ u (v1,v2,v3))
 ·have fa:vs.length=e.kids.length:=by omega
  have qG:(ac1 zX e.kids vs).length=vs.length:=by simp;omega
  obtain⟨R,hR⟩:∃R,R=ac1 zX e.kids vs:=⟨_,rfl⟩;have HF:=y3 25 28 fa;rw[<-hR]at qG HF⊢;have kS:=Mv e.kind e.num e.ty.kind e.fr.kind e.label e.name;repeat' first|(refine ax (hK _ _ ?_);clear hK K)|(refine y0 (hK _ _ ?_);clear hK K)|((first|refine aC ?_|refine BK rfl ?_|refine wY rfl ?_|(refine mg ?_ (h1) ?_;(focus(solve|(repeat' first|exact iw.nil|apply iw.cons|apply s7.c|apply s7.agg|exact uW.nil|apply uW.cons|exact iq.d|exact iq.nil|exact iq.np|exact iq.fn|(refine iq.jv ?_ (kO _ _);(focus(solve|simp)))|(refine iq.jv ?_ (om _ _ _);(focus(solve|simp))))));rintro _ _ ⟨v1,rfl,rfl⟩)|(refine mg ?_ (h2) ?_;(focus(solve|(repeat' first|exact iw.nil|apply iw.cons|apply s7.c|apply s7.agg|exact uW.nil|apply uW.cons|exact iq.d|exact iq.nil|exact iq.np|exact iq.fn|(refine iq.jv ?_ (kO _ _);(focus(solve|simp)))|(refine iq.jv ?_ (om _ _ _);(focus(solve|simp))))));rintro _ _ ⟨v2,rfl,rfl⟩));simp[ay];(try(refine J2 ?_ ?_<;>intro hq<;>try simp[ay]at hq)))|(refine Fx (kB 0 (kS v1 v2 R vs.length qG.symm) rfl rfl rfl rfl ?_);simp[back])|(refine TJ.UW (id:=7) mixed [0,1,3,4,6,2,7,5,8,9,10,11,12] (fun _=>false) [8,10,12] [5,7] (by kernel_rfl) (by kernel_rfl) (by kernel_rfl) fun K hK=>?_;simp only[eJ,adb,ada,adf,adg])|refine TJ.rs (fun _=>false) fun K hK=>?_|refine TJ.cond rfl (fun an=>absurd an (by decide)) (fun an=>?_)|refine TJ.seq ?_|refine TJ.exit ?_
  refine TJ.ret (bA.LZ (k:=0) (n:=vs.length) (rs:=[.agg [.d (.i e.kind),.d (.str e.name),.d (.i e.num),.d (.i e.ty.kind),.d (.raw v1),.d (.i e.fr.kind),.d (.raw v2),.d (.i e.label),.own 0 vs.length]]) (rs':=fun v=>[.agg ((zX e (v1,v2,v)).map CV.d)]) (Or.inr rfl) (by simp[Tryz.results46]) rfl rfl qG.symm HF (L2:=[(jf 25 e.fr.kids,v2),(jf 25 e.ty.kids,v1)]) (ac3 (l₁:=[_,_])) (fun v=>by simp[DV.jN]) (fun v=>⟨vz 25 28 e (v1,v2,v),[],?_,(v1,v2,v),rfl,rfl⟩));rw[fa,ac4,vz,Ey];exact(List.reverse_perm [_,_,_]).symm
theorem oR:(e:ao)->eR e<=1099511627776->aT ac0 46 [cM e,.c (.fn 110 [])] [] fun r L'=>∃v:V3,r=.agg ((zX e v).map CV.d)/\L'=vz 25 28 e v
 |.mk k s n t f b l,hn=>vC _ hn (by
  obtain⟨jo,nE,yl,o6⟩:=cB hn;simp only[ao.bQ]at o6⊢;exact fun t ht=>oR t (o6 t ht))
termination_by t=>SizeOf.sizeOf t
decreasing_by have:=ac5 ht;simp;omega
theorem Iz (e:ao) (hn:eR e<=1099511627776):aT ac0 59 [cM e] [] fun r L'=>∃v:V3,r=.agg ((zX e v).map CV.d)/\L'=vz 25 28 e v:=by
 have h:=oR e hn;refine aT.ob Tryz.func59 Tryz.ntmps59 rfl ?_;repeat' first|(refine ax (hK _ _ ?_);clear hK K)|((first|refine aC ?_|(refine dP ?_ (h) ?_;(focus(solve|(repeat' first|exact iw.nil|apply iw.cons|apply s7.c|apply s7.agg|exact uW.nil|apply uW.cons|exact iq.d|exact iq.nil|exact iq.np|exact iq.fn|(refine iq.jv ?_ (kO _ _);(focus(solve|simp)))|(refine iq.jv ?_ (om _ _ _);(focus(solve|simp))))));rintro _ _ ⟨⟨v1,v2,v3⟩,rfl,rfl⟩));simp;(try(refine J2 ?_ ?_<;>intro hq<;>try simp at hq)))|refine TJ.rs (fun _=>false) fun K hK=>?_
 refine TJ.ret (bA.agg (Or.inr rfl) (L':=vz 25 28 e (v1,v2,v3)) (r:=.agg ((zX e (v1,v2,v3)).map CV.d)) (by simp[Tryz.results59]) (by simp[DV.jN]) (M:=[]) (by simp) ⟨(v1,v2,v3),rfl,rfl⟩)
abbrev Nf (o:Option aI) (v:Value):AV:=.a8 [.agg [.d (.i (o.getD bk).kind),.d (.raw v)],.b o.isSome]
theorem vd (e:TypeId):rm [(jf e [],.slice none 0 0)]:=fun p hp=>by
 simp at hp;subst hp;exact⟨e,2,by rw[j5];simp[df]⟩
theorem gQ:bk.kids=[]:=aI.bQ _ _
theorem iT:bk.kind=0:=aI.bX _ _
theorem Cg (ctx:List dF) (e:ao) (hl:ctx.length<=1073741800) (CB:∀b∈ctx,fA b.ty<=1099511627776) (hn:eR e<=1073741824):
  aT ac0 63 [kL ctx,cM e] [] fun r L'=>∃v,r=Nf (b5 ctx e) v/\L'=[(jf 25 ((b5 ctx e).getD bk).kids,v)]:=by
 have h1:=uZ ctx (by omega) CB;have h2:=ib e (by omega);cases hc:rf ctx with
 |false=>
  rw[show b5 ctx e=none by simp[b5,hc]];rw[hc]at h1;refine aT.ob Tryz.func63 Tryz.ntmps63 rfl ?_;repeat' first|(refine ax (hK _ _ ?_);clear hK K)|((first|refine aC ?_|refine bL rfl (h1) ?_);simp;(try(refine J2 ?_ ?_<;>intro hq<;>try simp at hq)))|refine TJ.rs (fun _=>false) fun K hK=>?_|refine TJ.cond rfl (fun an=>?_) (fun an=>absurd an (by decide))|refine TJ.seq ?_
  refine TJ.ret ?_;(repeat first|refine oK.ret ?_|refine fF.ret ?_);refine(bA.sE (rs:=[.agg [.d (.i 0),.nil],.b false]) (rs':=[.agg [.d (.i 0),.d (.raw (.slice none 0 0))],.b false]) (Ln:=[(jf 25 [],.slice none 0 0)]) (Or.inr rfl) (by simp[Tryz.results63]) (by simp[DV.jN]) (vd _) ⟨.slice none 0 0,by simp[Nf,one,iT],by simp[gQ]⟩)
 |true=>
  rw[hc]at h1;cases hv:aQ e with
  |false=>
   rw[show b5 ctx e=none by simp[b5,hv]];rw[hv]at h2;refine aT.ob Tryz.func63 Tryz.ntmps63 rfl ?_;repeat' first|(refine ax (hK _ _ ?_);clear hK K)|((first|refine aC ?_|refine bL rfl (h1) ?_|refine bL rfl (h2) ?_);simp;(try(refine J2 ?_ ?_<;>intro hq<;>try simp at hq)))|refine TJ.rs (fun _=>false) fun K hK=>?_|refine TJ.cond rfl (fun an=>?_) (fun an=>absurd an (by decide))|refine TJ.seq ?_
   refine TJ.ret ?_;(repeat first|refine oK.ret ?_|refine fF.ret ?_);refine(bA.sE (rs:=[.agg [.d (.i 0),.nil],.b false]) (rs':=[.agg [.d (.i 0),.d (.raw (.slice none 0 0))],.b false]) (Ln:=[(jf 25 [],.slice none 0 0)]) (Or.inr rfl) (by simp[Tryz.results63]) (by simp[DV.jN]) (vd _) ⟨.slice none 0 0,by simp[Nf,one,iT],by simp[gQ]⟩)
  |true=>
   rw[hv]at h2;have eP:iF ctx:=fun b hb=>by
    simp only[rf,adi,List.all_eq_true]at hc;exact(hc.1 b hb).2
   have jY:bm 14 12 e=true:=by simp only[aQ,adi]at hv;exact hv.1
   have h3:=BS ctx e 12 jY (by omega) eP hn;rw[show b5 ctx e=eM ctx e by simp[b5,hc,hv]];cases hr:eM ctx e with
   |none=>
    rw[hr]at h3;simp only[fY]at h3⊢;refine aT.ob Tryz.func63 Tryz.ntmps63 rfl ?_;repeat' first|(refine ax (hK _ _ ?_);clear hK K)|((first|refine aC ?_|refine bL rfl (h1) ?_|refine bL rfl (h2) ?_|refine bL rfl (h3) ?_);simp;(try(refine J2 ?_ ?_<;>intro hq<;>try simp at hq)))|refine TJ.rs (fun _=>false) fun K hK=>?_|refine TJ.cond rfl (fun an=>?_) (fun an=>absurd an (by decide))|refine TJ.cond rfl (fun an=>absurd an (by decide)) (fun an=>?_)|refine TJ.seq ?_|refine TJ.skip ?_
    refine TJ.ret ?_;(repeat first|refine oK.ret ?_|refine fF.ret ?_);refine(bA.sE (rs:=[.agg [.d (.i 0),.nil],.b false]) (rs':=[.agg [.d (.i 0),.d (.raw (.slice none 0 0))],.b false]) (Ln:=[(jf 25 [],.slice none 0 0)]) (Or.inr rfl) (by simp[Tryz.results63]) (by simp[DV.jN]) (vd _) ⟨.slice none 0 0,by simp[Nf,one,iT],by simp[gQ]⟩)
   |some t=>
    rw[hr]at h3;have h4:=lq t (by have:=dc (gI e 12 14 ctx t jY eP hr);omega);simp only[fY]at h3⊢;refine aT.ob Tryz.func63 Tryz.ntmps63 rfl ?_;repeat' first|(refine ax (hK _ _ ?_);clear hK K)|((first|refine aC ?_|refine bL rfl (h1) ?_|refine bL rfl (h2) ?_|refine bL rfl (h3) ?_|(refine dP ?_ (h4) ?_;(focus(solve|(repeat' first|exact iw.nil|apply iw.cons|apply s7.c|apply s7.agg|exact uW.nil|apply uW.cons|exact iq.d|exact iq.nil|exact iq.np|exact iq.fn|(refine iq.jv ?_ (kO _ _);(focus(solve|simp)))|(refine iq.jv ?_ (om _ _ _);(focus(solve|simp))))));rintro _ _ ⟨v,rfl,rfl⟩));simp;(try(refine J2 ?_ ?_<;>intro hq<;>try simp at hq)))|refine TJ.rs (fun _=>false) fun K hK=>?_|refine TJ.cond rfl (fun an=>absurd an (by decide)) (fun an=>?_)|refine TJ.seq ?_|refine TJ.skip ?_
    refine TJ.ret (bA.a8 (rs:=[.agg [.d (.i t.kind),.d (.raw v)],.b true]) (rs':=[.agg [.d (.i t.kind),.d (.raw v)],.b true]) (L':=[(jf 25 t.kids,v)]) (M:=[]) (Or.inr rfl) (by simp[Tryz.results63]) (by simp[DV.jN]) (by simp) ⟨v,rfl,rfl⟩)
theorem Ch (e:ao) (hn:eR e<=1073741824):aT ac0 23 [cM e] [] fun r L'=>∃v,r=Nf (b5 [] e) v/\L'=[(jf 25 ((b5 [] e).getD bk).kids,v)]:=by
 have h:=Cg [] e (by simp) (by simp) hn;generalize b5 [] e=o at*;generalize (o.getD bk).kids=K at*;generalize hk:(o.getD bk).kind=k at*;simp only[Nf,hk]at h⊢;generalize o.isSome=bo at*;refine aT.ob Tryz.func23 Tryz.ntmps23 rfl ?_;repeat' first|(refine ax (hK _ _ ?_);clear hK K)|((first|refine aC ?_|(refine dP ?_ (h) ?_;(focus(solve|(repeat' first|exact iw.nil|apply iw.cons|apply s7.c|apply s7.agg|exact uW.nil|apply uW.cons|exact iq.d|exact iq.nil|exact iq.np|exact iq.fn|(refine iq.jv ?_ (kO _ _);(focus(solve|simp)))|(refine iq.jv ?_ (om _ _ _);(focus(solve|simp))))));rintro _ _ ⟨v,rfl,rfl⟩));simp)|refine TJ.rs (fun _=>false) fun K hK=>?_
 refine TJ.ret (bA.a8 (rs:=[.agg [.d (.i k),.d (.raw v)],.b bo]) (rs':=[.agg [.d (.i k),.d (.raw v)],.b bo]) (L':=[(jf 25 K,v)]) (M:=[]) (Or.inr rfl) (by simp[Tryz.results23]) (by simp[DV.jN]) (by simp) ⟨v,rfl,rfl⟩)
end Go.Proofs.YtloolmchekcmeaaGreat
