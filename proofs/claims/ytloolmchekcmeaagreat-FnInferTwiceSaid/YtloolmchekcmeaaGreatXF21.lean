/- A part. -/
import Derived.Test.YtloolmchekcmeaaGreatXF20
set_option linter.unusedVariables false
set_option linter.unusedSimpArgs false
open Go.Proofs.Tryz renaming prog->abA
open Option renaming bind->abB
open List renaming getElem?_eq_getElem->abC,set_cons_zero->abD,set_cons_succ->abE,nil_append->abF,drop_eq_getElem_cons->abG,cons_append->abH,mem_of_getElem?->abI,take_add_one->abJ,length_append->abK,take_length->abL,getElem?_map->abM,append_nil->abN,take_of_length_le->abO,map_cons->abP,length_take->abQ,getElem?_eq_some_iff->abR
namespace Go.Proofs.YtloolmchekcmeaaGreat
attribute [-simp] Go.Av.ch Go.Av.eY Go.Av.fw Go.Av.fi Go.Av.cY Go.Av.cb
open Go Go.Av
attribute [local irreducible] T ah TX EX LX bC dk bV ck gp aI.kind aI.kids ao.kind ao.name ao.num ao.ty ao.fr ao.label ao.kids
attribute [local simp] aJ al
set_option maxHeartbeats 16000000
set_option maxRecDepth 8000
@[simp] theorem OY:td abA 132=some {ag:=true,sz:=26,lR:=26,zero:=some (RG U1),el:=none,ar:=some (26,4),fl:=[],ik:=none,cS:=false,nC:=false}:=dR (by kernel_rfl)
end Go.Proofs.YtloolmchekcmeaaGreat
namespace Go.Proofs.YtloolmchekcmeaaGreat
attribute [-simp] Go.Av.ch Go.Av.eY Go.Av.fw Go.Av.fi Go.Av.cY Go.Av.cb
open Go Go.Av
attribute [local irreducible] T ah TX EX LX bC dk bV ck gp aI.kind aI.kids ao.kind ao.name ao.num ao.ty ao.fr ao.label ao.kids
attribute [local simp] aJ al
set_option maxHeartbeats 16000000
set_option maxRecDepth 8000
attribute [local simp] abB
abbrev Tw (o:Option ao):List AV:=match o with
 |some x=>[cM x,.i 1]
 |none=>[cM ee,.i 3]
end Go.Proofs.YtloolmchekcmeaaGreat
namespace Go.Proofs.YtloolmchekcmeaaGreat
attribute [-simp] Go.Av.ch Go.Av.eY Go.Av.fw Go.Av.fi Go.Av.cY Go.Av.cb
open Go Go.Av
attribute [local irreducible] T ah TX EX LX bC dk bV ck gp aI.kind aI.kids ao.kind ao.name ao.num ao.ty ao.fr ao.label ao.kids
attribute [local simp] aJ al
set_option maxHeartbeats 16000000
set_option maxRecDepth 8000
theorem ma {α:Type} (f:α->Nat):∀(l:List α) (p:Nat),((l.take p).map f).sum<=(l.map f).sum
 |[],p=>by simp
 |x::r,0=>by simp
 |x::r,p+1=>by have:=ma f r p;simp only[List.take_succ_cons,abP,List.sum_cons];omega
theorem Ae {α:Type} (f:α->Nat) {l:List α} {p:Nat} {u:α} (h:l[p]? =some u):((l.take (p+1)).map f).sum=((l.take p).map f).sum+f u:=by
 rw[abJ,h];simp
def yr (l:List aI) (p:Nat):Nat:=((l.take p).map iy).sum
theorem zf (l:List aI):yr l 0=0:=by simp[yr]
theorem Ia {l:List aI} {p:Nat} {u:aI} (h:l[p]? =some u):yr l (p+1)=yr l p+iy u:=Ae iy h
theorem Ka (l:List aI) (p:Nat):yr l p<=(l.map iy).sum:=ma iy l p
theorem Ib (l:List aI):yr l l.length=(l.map iy).sum:=by rw[yr,abL]
theorem Kb:∀(e:aI),fA e<=1099511627776->ah abA 67 [dE e] [] (.i (iy e)) [] []:=by
 intro e;induction e using aI.ind with
 |h e ih=>
  intro hn;have hle:=J7 e;rw[BW]at hle⊢;by_cases h1:e.kind=1
  ·simp only[h1,if_true];refine ah.ob Tryz.func67 Tryz.ntmps67 rfl ?_;repeat' first|(refine ab (hK _ ?_);clear hK K)|(refine ae ?_;simp[h1];(try(refine gen2 ?_ ?_<;>intro hq<;>try simp[h1]at hq)))|(refine T.ret (aB.data (Or.inr rfl) ?_ ?_)<;>simp[Tryz.results67]<;>omega)|refine T.r0 fun K hK=>?_|refine T.ct rfl ?_|refine T.seq ?_
  rw[if_neg h1]at hle⊢;have Ct:e.kids.length<=1099511627776:=by have:=fX e.kids;rw[eI]at hn;omega
  refine ah.ob Tryz.func67 Tryz.ntmps67 rfl ?_;repeat' first|(refine ab (hK _ ?_);clear hK K)|(refine ae ?_;simp[h1];(try(refine gen2 ?_ ?_<;>intro hq<;>try simp[h1]at hq)))|refine T.r0 fun K hK=>?_|refine T.cf rfl ?_|refine T.seq ?_|refine T.block ?_|refine T.skip ?_
  refine T.dD (α:=Nat×List (List CV)) [2,10,11] (fun x=>[(3,.i (yr e.kids x.1)),(12,.i x.1)]) (fun x=>[]) (fun x=>x.2) (fun x A=>A) (fun x=>e.kids.length+1-x.1) (fun x=>x.1<=e.kids.length) (by simp;rfl) (fun x hx=>?_) (0,[]) (by simp) (by simp) (by simp[zf]) (by simp[zf]);obtain⟨p,G⟩:=x;dsimp only at hx⊢;simp only[gy,abD,abE,abH,abF];by_cases ay:p<e.kids.length
  ·obtain⟨u,ht⟩:=bM ay;have eA:u∈e.kids:=abI ht;have aX:e.kids[p]=u:=by rw[abC ay]at ht;exact Option.some.inj ht
   have gz:e.kids.drop p=u::e.kids.drop (p+1):=by rw[abG ay,aX]
   have hu:=ih u eA (by have:=fE eA;rw[eI]at hn;omega);have hs:=Ia ht;have hb:=Ka e.kids (p+1);generalize yr e.kids p=S at*;have OZ:(yr e.kids (p+1):Int)=S+iy u:=by omega
   repeat' first|(refine ab (hK _ ?_);clear hK K)|((first|refine ae ?_|refine aa rfl (hu) ?_);simp[ay,aX];(try simp(disch:=omega)only[wrap64]);(try(refine gen2 ?_ ?_<;>intro hq<;>try simp[ay,aX]at hq)))|(refine⟨(p+1,_),by dsimp only;omega,by dsimp only;omega,rfl,?_,?_⟩<;>simp(disch:=omega) [wrap64,OZ])|refine T.r0 fun K hK=>?_|refine T.r1 fun K hK=>?_|refine T.ct rfl ?_|refine T.seq ?_|refine T.block ?_|refine T.skip ?_
  ·have fa:p=e.kids.length:=by omega
   subst fa;rw[Ib];repeat' first|(refine ab (hK _ ?_);clear hK K)|(refine ae ?_;simp[ay];(try(refine gen2 ?_ ?_<;>intro hq<;>try simp[ay]at hq)))|(refine T.ret (aB.val (Or.inr rfl) ?_)<;>simp[aA,Tryz.results67]<;>omega)|refine T.r0 fun K hK=>?_|refine T.cf rfl ?_|refine T.seq ?_|refine T.exit ?_
theorem Dx (t:aI) (hn:fA t<=1099511627776):ah abA 66 [dE t] [] (.b (decide (0<iy t))) [] []:=by
 have h2:=Kb t hn;have e:decide (0<iy t)=decide ((0:Int)<iy t):=decide_eq_decide.2 (by omega);rw[e];generalize iy t=n at*;refine ah.ob Tryz.func66 Tryz.ntmps66 rfl ?_;repeat' first|(refine ab (hK _ ?_);clear hK K)|((first|refine ae ?_|refine aa rfl (h2) ?_);simp)|(refine T.ret (aB.data (Or.inr rfl) ?_ ?_)<;>simp[Tryz.results66, *]<;>omega)|refine T.r0 fun K hK=>?_
theorem FP (e:ao) (hh:bx e.kind=true) (hn:eR e<=1099511627776)
  (ih:∀u∈e.kids,ah abA 65 [cM u] [] (.c (.own 0 (aF u).length)) [] [{sz:=2,ev:=25,rows:=(aF u).map ck,wr:=true}]):
  ah abA 65 [cM e] [] (.c (.own 0 ([e.ty]++az e.kids).length)) [] [{sz:=2,ev:=25,rows:=([e.ty]++az e.kids).map ck,wr:=true}]:=by
 obtain⟨jo,nE,yl,o6⟩:=cB hn;have h1:=eB e.ty jo;have h2:=ot e;rw[hh]at h2;have SZ:(az e.kids).length<=1099511627777:=by have:=(ju e).2;rw[fh]at this;simp only[abK]at this;omega
 refine ah.ob Tryz.func65 Tryz.ntmps65 rfl ?_;repeat' first|(refine ab (hK _ ?_);clear hK K)|((first|refine ae ?_|refine aa rfl (h2) ?_|refine aa rfl (h1) ?_);simp;(try(refine gen2 ?_ ?_<;>intro hq<;>try simp at hq)))|refine T.r0 fun K hK=>?_|refine T.r1 fun K hK=>?_|refine T.ct rfl ?_|refine T.seq ?_|refine T.block ?_
 refine T.dD (α:=Nat×List (List CV)×List bz) [2,15,16] (fun x=>[(3,.c (.own 0 ([e.ty]++az (e.kids.take x.1)).length)),(17,.i x.1)]) (fun x=>[]) (fun x=>x.2.1) (fun x _=>{sz:=2,ev:=25,rows:=([e.ty]++az (e.kids.take x.1)).map ck,wr:=true}::x.2.2) (fun x=>e.kids.length+1-x.1) (fun x=>x.1<=e.kids.length) (by simp;rfl) (fun x hx=>?_) (0,[],[]) (by simp) (by simp) (by simp[az,aJ]) (by simp[az]);obtain⟨p,G,GA⟩:=x;dsimp only at hx⊢;simp only[gy,abD,abE,abH,abF];by_cases ay:p<e.kids.length
 ·obtain⟨u,ht⟩:=bM ay;have eA:u∈e.kids:=abI ht;have aX:e.kids[p]=u:=by rw[abC ay]at ht;exact Option.some.inj ht
  have gz:e.kids.drop p=u::e.kids.drop (p+1):=by rw[abG ay,aX]
  have hu:=ih u eA;have mN:az (e.kids.take (p+1))=az (e.kids.take p)++aF u:=cr ht;have hle:=gi e.kids (p+1);rw[mN,abK]at hle;generalize az (e.kids.take p)=Z at*;generalize aF u=tu at*;repeat' first|(refine ab (hK _ ?_);clear hK K)|(refine ae ?_;simp[ay,aX];(try simp(disch:=omega)only[wrap64]);(try(refine gen2 ?_ ?_<;>intro hq<;>try simp[ay,aX]at hq)))|(refine ff rfl (hu) ?_;simp[ay,aX];(try simp(disch:=omega)only[wrap64]);(try(refine gen2 ?_ ?_<;>intro hq<;>try simp[ay,aX]at hq)))|(refine⟨by omega,by omega,?_⟩)|(refine⟨(p+1,_,GA++[{sz:=2,ev:=25,rows:=tu.map ck,wr:=true}]),by dsimp only;omega,by dsimp only;omega,rfl,?_,?_⟩<;>simp(disch:=omega) [wrap64,mN,aJ]<;>omega)|refine T.r0 fun K hK=>?_|refine T.r1 fun K hK=>?_|refine T.ct rfl ?_|refine T.seq ?_|refine T.block ?_|refine T.skip ?_
 ·have fa:p=e.kids.length:=by omega
  subst fa;rw[abL];repeat' first|(refine ab (hK _ ?_);clear hK K)|(refine ae ?_;simp[ay];(try(refine gen2 ?_ ?_<;>intro hq<;>try simp[ay]at hq)))|refine T.r0 fun K hK=>?_|refine T.cf rfl ?_|refine T.seq ?_|refine T.exit ?_
  all_goals(refine T.ret (aB.CT 0 (Or.inr rfl) (ys:=[_]) ?_ rfl ?_)<;>simp[aA,Tryz.results65])
theorem Ic (e:ao) (hh:bx e.kind=false) (hn:eR e<=1099511627776)
  (ih:∀u∈e.kids,ah abA 65 [cM u] [] (.c (.own 0 (aF u).length)) [] [{sz:=2,ev:=25,rows:=(aF u).map ck,wr:=true}]):
  ah abA 65 [cM e] [] (.c (.own 0 ([]++az e.kids).length)) [] [{sz:=2,ev:=25,rows:=([]++az e.kids).map ck,wr:=true}]:=by
 obtain⟨jo,nE,yl,o6⟩:=cB hn;have h1:=eB e.ty jo;have h2:=ot e;rw[hh]at h2;have SZ:(az e.kids).length<=1099511627777:=by have:=(ju e).2;rw[fh]at this;simp only[abK]at this;omega
 refine ah.ob Tryz.func65 Tryz.ntmps65 rfl ?_;repeat' first|(refine ab (hK _ ?_);clear hK K)|((first|refine ae ?_|refine aa rfl (h2) ?_);simp;(try(refine gen2 ?_ ?_<;>intro hq<;>try simp at hq)))|refine T.r0 fun K hK=>?_|refine T.cf rfl ?_|refine T.seq ?_|refine T.block ?_|refine T.skip ?_
 refine T.px 3 2 25 (by simp) ?_;refine T.dD (α:=Nat×List (List CV)×List bz) [2,15,16] (fun x=>[(3,.c (.own 0 ([]++az (e.kids.take x.1)).length)),(17,.i x.1)]) (fun x=>[]) (fun x=>x.2.1) (fun x _=>{sz:=2,ev:=25,rows:=([]++az (e.kids.take x.1)).map ck,wr:=true}::x.2.2) (fun x=>e.kids.length+1-x.1) (fun x=>x.1<=e.kids.length) (by simp;rfl) (fun x hx=>?_) (0,[],[]) (by simp) (by simp) (by simp[az,aJ]) (by simp[az]);obtain⟨p,G,GA⟩:=x;dsimp only at hx⊢;simp only[gy,abD,abE,abH,abF];by_cases ay:p<e.kids.length
 ·obtain⟨u,ht⟩:=bM ay;have eA:u∈e.kids:=abI ht;have aX:e.kids[p]=u:=by rw[abC ay]at ht;exact Option.some.inj ht
  have gz:e.kids.drop p=u::e.kids.drop (p+1):=by rw[abG ay,aX]
  have hu:=ih u eA;have mN:az (e.kids.take (p+1))=az (e.kids.take p)++aF u:=cr ht;have hle:=gi e.kids (p+1);rw[mN,abK]at hle;generalize az (e.kids.take p)=Z at*;generalize aF u=tu at*;repeat' first|(refine ab (hK _ ?_);clear hK K)|(refine ae ?_;simp[ay,aX];(try simp(disch:=omega)only[wrap64]);(try(refine gen2 ?_ ?_<;>intro hq<;>try simp[ay,aX]at hq)))|(refine ff rfl (hu) ?_;simp[ay,aX];(try simp(disch:=omega)only[wrap64]);(try(refine gen2 ?_ ?_<;>intro hq<;>try simp[ay,aX]at hq)))|(refine⟨by omega,by omega,?_⟩)|(refine⟨(p+1,_,GA++[{sz:=2,ev:=25,rows:=tu.map ck,wr:=true}]),by dsimp only;omega,by dsimp only;omega,rfl,?_,?_⟩<;>simp(disch:=omega) [wrap64,mN,aJ]<;>omega)|refine T.r0 fun K hK=>?_|refine T.r1 fun K hK=>?_|refine T.ct rfl ?_|refine T.seq ?_|refine T.block ?_|refine T.skip ?_
 ·have fa:p=e.kids.length:=by omega
  subst fa;rw[abL];repeat' first|(refine ab (hK _ ?_);clear hK K)|(refine ae ?_;simp[ay];(try(refine gen2 ?_ ?_<;>intro hq<;>try simp[ay]at hq)))|refine T.r0 fun K hK=>?_|refine T.cf rfl ?_|refine T.seq ?_|refine T.exit ?_
  all_goals(refine T.ret (aB.CT 0 (Or.inr rfl) (ys:=[_]) ?_ rfl ?_)<;>simp[aA,Tryz.results65])
theorem FQ:∀(e:ao),eR e<=1099511627776->ah abA 65 [cM e] [] (.c (.own 0 (aF e).length)) [] [{sz:=2,ev:=25,rows:=(aF e).map ck,wr:=true}]:=by
 intro e;induction e using ao.ind with
 |h e ih=>
  intro hn;obtain⟨_,_,_,o6⟩:=cB hn;have ih':=fun u hu=>ih u hu (o6 u hu)
  rw[fh];cases hh:bx e.kind with
  |true=>rw[if_pos rfl];exact FP e hh hn ih'
  |false=>rw[if_neg (by simp)];exact Ic e hh hn ih'
theorem yt (e:ao) (hn:eR e<=1073741824):ah abA 24 [cM e] [] (.b (sL e)) [] []:=by
 have h1:=ib e (by omega);simp only[sL];cases hv:aQ e with
 |false=>
  rw[hv]at h1;refine ah.ob Tryz.func24 Tryz.ntmps24 rfl ?_;repeat' first|(refine ab (hK _ ?_);clear hK K)|((first|refine ae ?_|refine aa rfl (h1) ?_);simp;(try(refine gen2 ?_ ?_<;>intro hq<;>try simp at hq)))|(refine T.ret (aB.data (Or.inr rfl) ?_ ?_)<;>simp[Tryz.results24]<;>omega)|refine T.r0 fun K hK=>?_
 |true=>
  rw[hv]at h1;have h2:=FQ e (by omega);have hs:=fun t ht=>dc ((c6.1 hv).1.types.1 t ht)
  have hl:=(c6.1 hv).1.types.2;have Ny:=(c6.1 hv).2;have h3:=tP 66 (aF e) (fun t=>decide (0<iy t)) (by omega) (fun t ht=>Dx t (by have:=hs t ht;omega));generalize (aF e).any (fun t=>decide (0<iy t))=R at*;generalize aF e=ts at*;refine ah.ob Tryz.func24 Tryz.ntmps24 rfl ?_;repeat' first|(refine ab (hK _ ?_);clear hK K)|((first|(first|refine ae ?_|refine aa rfl (h1) ?_|(refine aa ?_ (h3) ?_;(focus(solve|simp))))|refine ff rfl (h2) ?_);simp;(try(refine gen2 ?_ ?_<;>intro hq<;>try simp at hq)))|(refine T.ret (aB.data (Or.inr rfl) ?_ ?_)<;>simp[Tryz.results24, *]<;>omega)|refine T.r0 fun K hK=>?_
@[simp] theorem P5:td abA 188=some {ag:=false,sz:=1,lR:=8,zero:=some [.d (.int .u64 0)],el:=none,ar:=none,fl:=[],ik:=some .u64,cS:=false,nC:=false}:=dR (by kernel_rfl)
@[simp] theorem O0:td abA 77=some {ag:=false,sz:=1,lR:=24,zero:=some [.nil],el:=some 3,ar:=none,fl:=[],ik:=none,cS:=false,nC:=false}:=dR (by kernel_rfl)
def U8 (e:ao):Int:=if eS e=true then((Dq e).length:Int)-(Dq (K3 e)).length else 0
abbrev Tx (e:ao):AV:=.agg [.d (.i e.kind),.d (.str e.name),.d (.i e.num),.d (.i e.ty.kind),.d (.sl (e.ty.kids.map ck)),.d (.i e.fr.kind),.d (.sl (e.fr.kids.map ck)),.d (.i e.label),.own 0 e.kids.length]
def U9 (l:List ao) (p:Nat):List ao:=(l.map K3).take p++l.drop p
end Go.Proofs.YtloolmchekcmeaaGreat
namespace Go.Proofs.YtloolmchekcmeaaGreat
attribute [-simp] Go.Av.ch Go.Av.eY Go.Av.fw Go.Av.fi Go.Av.cY Go.Av.cb
open Go Go.Av
attribute [local irreducible] T ah TX EX LX bC dk bV ck gp aI.kind aI.kids ao.kind ao.name ao.num ao.ty ao.fr ao.label ao.kids
attribute [local simp] aJ al
set_option maxHeartbeats 16000000
set_option maxRecDepth 8000
attribute [local simp] abB
abbrev Ty (p:ao×Int×Int):List AV:=[cM p.1,.i p.2.1,.i p.2.2]
abbrev Va (p:ao×Int×Int×Int):List AV:=[cM p.1,.i p.2.1,.i p.2.2.1,.i p.2.2.2]
abbrev Vb (e:ao):List AV:=match K5 e with
 |some x=>[cM x,.i 1,.i 0]
 |none=>[cM ee,.i 2,.i (H7 e.kind)]
def Tz (p:ao×Int×Int):ao×Int×Int:=if p.2.1=1 then(p.1,1,0)else(ee,p.2.1,p.2.2)
def VX (p:ao×Int×Int×Int):ao×Int×Int×Int:=if p.2.1=1 then(ee,5,0,p.2.2.2)else p
end Go.Proofs.YtloolmchekcmeaaGreat
namespace Go.Proofs.YtloolmchekcmeaaGreat
attribute [-simp] Go.Av.ch Go.Av.eY Go.Av.fw Go.Av.fi Go.Av.cY Go.Av.cb
open Go Go.Av
attribute [local irreducible] T ah TX EX LX bC dk bV ck gp aI.kind aI.kids ao.kind ao.name ao.num ao.ty ao.fr ao.label ao.kids
attribute [local simp] aJ al
set_option maxHeartbeats 16000000
set_option maxRecDepth 8000
def TA (e:ao) (f t:aI) (l:Int):ao:=if dS f t=true then e else Ee e f t l
theorem Dy (e:ao) (dG:¬e.kind=13) (gA:¬e.kind=14) (h5:e.kind=5) (hn:eR e<=1073741824)
  (ih:∀u∈e.kids,ah abA 43 [cM u] [] (cM (mapM aM u)) [] []):ah abA 43 [cM e] [] (cM (.mk e.kind e.name e.num lg bk 0 (e.kids.map (mapM aM)))) [] []:=by
 have RP:e.kids.length<=1073741824:=by have:=pE e.kids;rw[iJ]at hn;omega
 have oZ:=lG;refine ah.ob Tryz.func43 Tryz.ntmps43 rfl ?_;repeat' first|(refine ab (hK _ ?_);clear hK K)|((first|refine ae ?_|refine aa rfl (oZ) ?_);simp[dG,gA,h5];(try(refine gen2 ?_ ?_<;>intro hq<;>try simp[dG,gA,h5]at hq)))|refine T.r0 fun K hK=>?_|refine T.r1 fun K hK=>?_|refine T.ct rfl ?_|refine T.cf rfl ?_|refine T.seq ?_|refine T.block ?_|refine T.skip ?_
 refine T.dq 2 8 9 28 (row:=[.d (.i 5),.d (.str e.name),.d (.i e.num),.d (.i 1),.d (.sl []),.d (.i 0),.nil,.d (.i 0),.nil]) (by simp) (by simp) ?_;refine T.dD (α:=Nat) [1,2,3] (fun x=>[(4,.i x)]) (fun x=>[(2,[.d (.i 5),.d (.str e.name),.d (.i e.num),.d (.i 1),.d (.sl []),.d (.i 0),.nil,.d (.i 0),.own 0 x])]) (fun x=>[]) (fun p _=>[{sz:=9,ev:=28,rows:=((e.kids.map (mapM aM)).take p).map gp,wr:=true}]) (fun x=>e.kids.length+1-x) (fun x=>x<=e.kids.length) (by simp;rfl) (fun p hp=>?_) 0 (by simp) (by simp) (by simp) (by simp);dsimp only at hp⊢;simp only[gy,abD,abE,abH,abF,abN];by_cases ay:p<e.kids.length
 ·obtain⟨u,ht⟩:=bM ay;have eA:u∈e.kids:=abI ht;have aX:e.kids[p]=u:=by rw[abC ay]at ht;exact Option.some.inj ht
  have gz:e.kids.drop p=u::e.kids.drop (p+1):=by rw[abG ay,aX]
  have hu:=ih u eA;have mN:(e.kids.map (mapM aM)).take (p+1)=(e.kids.map (mapM aM)).take p++[mapM aM u]:=by rw[abJ,abM,ht];rfl
  have mz:min p (e.kids.map (mapM aM)).length=p:=by simp;omega
  generalize e.kids.map (mapM aM)=Z at*;generalize mapM aM u=su at*;repeat' first|((first|refine ab (hK _ ?_)|refine aD (hK _ ?_));clear hK K)|((first|refine ae ?_|refine aH ?_|refine aa rfl (hu) ?_);simp[ay,aX,mz];(try simp(disch:=omega)only[wrap64]);(try(refine gen2 ?_ ?_<;>intro hq<;>try simp[ay,aX,mz]at hq)))|(refine⟨by omega,by omega,?_⟩)|(refine⟨p+1,by dsimp only;omega,by dsimp only;omega,?_,?_,?_⟩<;>simp(disch:=omega) [gy,wrap64,mN,al,mz])|refine T.yd (id:=9) mixed (fun _=>false) [9,11] (by kernel_rfl) fun K hK=>?_|refine T.r0 fun K hK=>?_|refine T.r1 fun K hK=>?_|refine T.ct rfl ?_|refine T.seq ?_|refine T.block ?_|refine T.skip ?_
 ·have fa:p=e.kids.length:=by omega
  subst fa;have mz:(e.kids.map (mapM aM)).length=e.kids.length:=by simp
  rw[abO (by omega)];generalize e.kids.map (mapM aM)=Z at*;repeat' first|(refine ab (hK _ ?_);clear hK K)|(refine ae ?_;simp[ay,mz];(try(refine gen2 ?_ ?_<;>intro hq<;>try simp[ay,mz]at hq)))|(refine T.ret (aB.val (Or.inr rfl) ?_)<;>simp[aA,Tryz.results43,mz,h5]<;>omega)|refine T.r0 fun K hK=>?_|refine T.cf rfl ?_|refine T.seq ?_|refine T.exit ?_
theorem Dz (e:ao) (dG:¬e.kind=13) (gA:¬e.kind=14) (h5:¬e.kind=5) (hn:eR e<=1073741824)
  (ih:∀u∈e.kids,ah abA 43 [cM u] [] (cM (mapM aM u)) [] []):ah abA 43 [cM e] [] (cM (.mk e.kind e.name e.num bk bk 0 (e.kids.map (mapM aM)))) [] []:=by
 have RP:e.kids.length<=1073741824:=by have:=pE e.kids;rw[iJ]at hn;omega
 have oZ:=lG;refine ah.ob Tryz.func43 Tryz.ntmps43 rfl ?_;repeat' first|(refine ab (hK _ ?_);clear hK K)|(refine ae ?_;simp[dG,gA,h5];(try(refine gen2 ?_ ?_<;>intro hq<;>try simp[dG,gA,h5]at hq)))|refine T.r0 fun K hK=>?_|refine T.cf rfl ?_|refine T.seq ?_|refine T.block ?_|refine T.skip ?_
 refine T.dq 2 8 9 28 (row:=[.d (.i e.kind),.d (.str e.name),.d (.i e.num),.d (.i 0),.nil,.d (.i 0),.nil,.d (.i 0),.nil]) (by simp) (by simp) ?_;refine T.dD (α:=Nat) [1,2,3] (fun x=>[(4,.i x)]) (fun x=>[(2,[.d (.i e.kind),.d (.str e.name),.d (.i e.num),.d (.i 0),.nil,.d (.i 0),.nil,.d (.i 0),.own 0 x])]) (fun x=>[]) (fun p _=>[{sz:=9,ev:=28,rows:=((e.kids.map (mapM aM)).take p).map gp,wr:=true}]) (fun x=>e.kids.length+1-x) (fun x=>x<=e.kids.length) (by simp;rfl) (fun p hp=>?_) 0 (by simp) (by simp) (by simp) (by simp);dsimp only at hp⊢;simp only[gy,abD,abE,abH,abF,abN];by_cases ay:p<e.kids.length
 ·obtain⟨u,ht⟩:=bM ay;have eA:u∈e.kids:=abI ht;have aX:e.kids[p]=u:=by rw[abC ay]at ht;exact Option.some.inj ht
  have gz:e.kids.drop p=u::e.kids.drop (p+1):=by rw[abG ay,aX]
  have hu:=ih u eA;have mN:(e.kids.map (mapM aM)).take (p+1)=(e.kids.map (mapM aM)).take p++[mapM aM u]:=by rw[abJ,abM,ht];rfl
  have mz:min p (e.kids.map (mapM aM)).length=p:=by simp;omega
  generalize e.kids.map (mapM aM)=Z at*;generalize mapM aM u=su at*;repeat' first|((first|refine ab (hK _ ?_)|refine aD (hK _ ?_));clear hK K)|((first|refine ae ?_|refine aH ?_|refine aa rfl (hu) ?_);simp[ay,aX,mz];(try simp(disch:=omega)only[wrap64]);(try(refine gen2 ?_ ?_<;>intro hq<;>try simp[ay,aX,mz]at hq)))|(refine⟨by omega,by omega,?_⟩)|(refine⟨p+1,by dsimp only;omega,by dsimp only;omega,?_,?_,?_⟩<;>simp(disch:=omega) [gy,wrap64,mN,al,mz])|refine T.yd (id:=9) mixed (fun _=>false) [9,11] (by kernel_rfl) fun K hK=>?_|refine T.r0 fun K hK=>?_|refine T.r1 fun K hK=>?_|refine T.ct rfl ?_|refine T.seq ?_|refine T.block ?_|refine T.skip ?_
 ·have fa:p=e.kids.length:=by omega
  subst fa;have mz:(e.kids.map (mapM aM)).length=e.kids.length:=by simp
  rw[abO (by omega)];generalize e.kids.map (mapM aM)=Z at*;repeat' first|(refine ab (hK _ ?_);clear hK K)|(refine ae ?_;simp[ay,mz];(try(refine gen2 ?_ ?_<;>intro hq<;>try simp[ay,mz]at hq)))|(refine T.ret (aB.val (Or.inr rfl) ?_)<;>simp[aA,Tryz.results43,mz,h5]<;>omega)|refine T.r0 fun K hK=>?_|refine T.cf rfl ?_|refine T.seq ?_|refine T.exit ?_
theorem FR (nt:Int):∀(e:ao) (d:Nat),kG nt d e->eR e<=1073741824->ah abA 43 [cM e] [] (cM (mapM aM e)) [] []:=by
 intro e;induction e using ao.ind with
 |h e ih=>
  intro d hv hn;obtain⟨dO,zK⟩:=hv.plain;obtain⟨d',rfl,_,_,_,hk⟩:=fQ hv.shape;have ih':∀u∈e.kids,ah abA 43 [cM u] [] (cM (mapM aM u)) [] []:=fun u hu=>ih u hu d' (kG.of (hk u hu)) (by have:=wo hu;rw[iJ]at hn;omega)
  by_cases hh:e.kind=13\/e.kind=14
  ·obtain⟨x,hx⟩:=dO hh;have h1:=ih' x (by simp[hx]);rw[show mapM aM e=mapM aM x by rw[sA];simp[aM,hh,hx]];generalize mapM aM x=R at*;rcases hh with hh|hh
   ·refine ah.ob Tryz.func43 Tryz.ntmps43 rfl ?_;repeat' first|(refine ab (hK _ ?_);clear hK K)|((first|refine ae ?_|(refine aa ?_ (h1) ?_;(focus(solve|simp[hh,hx,al]))));simp[hh,hx,al];(try(refine gen2 ?_ ?_<;>intro hq<;>try simp[hh,hx,al]at hq)))|(refine T.ret (aB.val (Or.inr rfl) ?_)<;>simp[aA,Tryz.results43]<;>omega)|refine T.r0 fun K hK=>?_|refine T.ct rfl ?_|refine T.seq ?_
   ·refine ah.ob Tryz.func43 Tryz.ntmps43 rfl ?_;repeat' first|(refine ab (hK _ ?_);clear hK K)|((first|refine ae ?_|(refine aa ?_ (h1) ?_;(focus(solve|simp[hh,hx,al]))));simp[hh,hx,al];(try(refine gen2 ?_ ?_<;>intro hq<;>try simp[hh,hx,al]at hq)))|(refine T.ret (aB.val (Or.inr rfl) ?_)<;>simp[aA,Tryz.results43]<;>omega)|refine T.r0 fun K hK=>?_|refine T.ct rfl ?_|refine T.seq ?_
  ·obtain⟨hf,hl,ht⟩:=zK hh;have dG:¬e.kind=13:=fun h=>hh (.inl h)
   have gA:¬e.kind=14:=fun h=>hh (.inr h)
   by_cases h5:e.kind=5
   ·rw[show mapM aM e=.mk e.kind e.name e.num lg bk 0 (e.kids.map (mapM aM)) by rw[sA];simp[aM,h5,hf,hl]];exact Dy e dG gA h5 hn ih'
   ·rw[show mapM aM e=.mk e.kind e.name e.num bk bk 0 (e.kids.map (mapM aM)) by rw[sA];simp[aM,hh,h5,hf,hl,ht h5]];exact Dz e dG gA h5 hn ih'
end Go.Proofs.YtloolmchekcmeaaGreat
namespace Go.Proofs.YtloolmchekcmeaaGreat
attribute [-simp] Go.Av.ch Go.Av.eY Go.Av.fw Go.Av.fi Go.Av.cY Go.Av.cb
open Go Go.Av
attribute [local irreducible] T ah TX EX LX bC dk bV ck gp aI.kind aI.kids ao.kind ao.name ao.num ao.ty ao.fr ao.label ao.kids
attribute [local simp] aJ al
set_option maxHeartbeats 16000000
set_option maxRecDepth 8000
attribute [local simp] abB
def sN (l:List aI):List aI:=l.map fun t=>if t.kind=1 then bw else t
theorem xh (l:List aI):(sN l).length=l.length:=by simp[sN]
def lJ (l:List aI) (j:Nat):List (List DV):=(sN (l.take j)++l.drop j).map ck
theorem FT (l:List aI) (j:Nat) (h:j<=l.length):(lJ l j).length=l.length:=by simp[lJ,sN];omega
theorem B5 {l:List aI} {j:Nat} {u:aI} (h:l[j]? =some u):(lJ l j)[j]? =some (ck u):=by
 have ay:=(abR.1 h).1;have hl:(sN (l.take j)).length=j:=by rw[xh,abQ];omega
 rw[lJ,abM,List.getElem?_append_right (by omega),hl,Nat.sub_self,List.getElem?_drop,Nat.add_zero,h]
 rfl
theorem xi {l:List aI} {j:Nat} {u:aI} (h:l[j]? =some u):lJ l (j+1)=(lJ l j).set j (ck (if u.kind=1 then bw else u)):=by
 have ay:=(abR.1 h).1;have hl:(sN (l.take j)).length=j:=by rw[xh,abQ];omega
 have hd:l.drop j=u::l.drop (j+1):=by rw[abG ay];congr 1;rw[abC ay]at h;exact Option.some.inj h
 have ht:sN (l.take (j+1))=sN (l.take j)++[if u.kind=1 then bw else u]:=by rw[abJ,h];simp[sN]
 simp only[lJ,ht,List.map_append,hd,abP];rw[List.set_append_right _ _ (by simp[hl])];simp[hl]
theorem DA {l:List aI} {j:Nat} {u:aI} (h:l[j]? =some u) (hk:¬u.kind=1):lJ l (j+1)=lJ l j:=by
 rw[xi h,if_neg hk];apply List.ext_getElem?;intro i;rw[List.getElem?_set];split
 ·rename_i e;subst e;split
  ·rw[B5 h]
  ·rename_i hn;rw[List.getElem?_eq_none (by omega)]
 ·rfl
theorem DB (l:List aI):lJ l 0=l.map ck:=by simp[lJ,sN]
theorem FU (l:List aI):lJ l l.length=(sN l).map ck:=by simp[lJ]
theorem DC (b:List Int) (hb:okB b) (p:Nat) (hp:p+20000000<=1099511627776):bC abA 37 [] b p 20000000 (RV cM vp fun e=>eR e<=2000000):=by
 refine bC.cD Tryz.func37 (by kernel_rfl) rfl (by kernel_rfl) (by simp[Tryz.ntmps37]) ?_;rw[Tryz.ntmps37];repeat' first|(refine ab (hK _ ?_);clear hK K)|(refine ae ?_;simp;(try simp(disch:=omega)only[wrap64]);(try(refine gen2 ?_ ?_<;>intro hq<;>try simp at hq)))|(refine ff rfl (pS _ (by omega)) ?_;simp;(try simp(disch:=omega)only[wrap64]);(try(refine gen2 ?_ ?_<;>intro hq<;>try simp at hq)))|((first|refine aE 0 rfl rfl (jM b hb 1 (by omega) _ (by omega)) (fun t p1 ht dO cc=>?_)|(refine aE 0 rfl rfl (iP b hb _ (by omega) [3,4,2,5] (by simp) (by simp)) (fun z p1 hz dO cc=>?_);simp at hz)|refine aE 0 rfl rfl (Dc b hb [] (by simp) (by simp) _ (by assumption) _ (by omega) (by omega) _ (by omega)) (fun e p1 he dO cc=>?_));simp)|refine TX.rs (id:=0) (fun _=>false) fun K hK=>?_|refine TX.rs (id:=1) (fun _=>false) fun K hK=>?_|refine TX.rs (id:=2) (fun _=>false) fun K hK=>?_|refine TX.rs (id:=3) (fun _=>false) fun K hK=>?_|refine TX.seq ?_|refine TX.block ?_
 have O5:(ec e).length<=2000001:=by
  rw[ec];split
  ·have:=(ju e).2;omega
  ·simp
 have hi:=nc;have fB:∀t∈ec e,fA t<=2000001:=fun t ht=>by
  rw[ec]at ht;split at ht
  ·have:=(ju e).1;have:=fE ht;omega
  ·cases ht
 have kW:=qS e (sN (ec e)) (by omega) (fun t ht=>by
  obtain⟨u,hu,rfl⟩:=List.mem_map.1 ht;have:=fB u hu;split
  ·simp[bw,cA,cP]
  ·omega) (by rw[xh];omega)
 have Vd:∀x,gK e (sN (ec e))=some x->eR x<=9000:=fun x h=>uU (wP h).2.1
 generalize gK e (sN (ec e))=W at*;generalize ec e=l at*;refine TX.dD (α:=Nat) [0,2,3,4] (fun j=>[(5,.i j)]) (fun _=>[]) (fun _=>[]) (fun j _=>[{sz:=2,ev:=25,rows:=lJ l j,wr:=true}]) (fun j=>l.length-j) (fun j=>j<=l.length) (by simp;rfl) (fun j hj=>?_) 0 (by simp) (by simp) (by simp[DB]) (by simp);dsimp only at hj⊢;simp only[gy,abD,abE,abH,abF,abN];have nB:=FT l j hj;by_cases ay:j<l.length
 ·obtain⟨u,hu⟩:=bM ay;have h1:=B5 hu;have aX:∀h,(lJ l j)[j]'h=ck u:=fun h=>by rw[abC h]at h1;exact Option.some.inj h1
  by_cases hk:u.kind=1
  ·have hn:=xi hu;rw[if_pos hk,show ck bw=[.i 2,.sl []] by simp[aJ,bw]]at hn;repeat' first|(refine ab (hK _ ?_);clear hK K)|((first|refine ae ?_|refine aa rfl (hi) ?_);simp[ay,nB,aX,aJ u,hk];(try simp(disch:=omega)only[wrap64]);(try(refine gen2 ?_ ?_<;>intro hq<;>try simp[ay,nB,aX,aJ u,hk]at hq)))|(refine EX.next (j+1) (by omega) (by omega) ⟨by simp,by rw[hn],?_⟩;simp(disch:=omega) [wrap64])|refine TX.rs (fun _=>false) fun K hK=>?_|refine TX.eQ (fun _=>false) fun K hK=>?_|refine TX.cond rfl (fun an=>?_) (fun an=>absurd an (by decide))|refine TX.seq ?_|refine TX.block ?_|refine TX.skip ?_|refine EX.iG ?_|refine EX.iv ?_
  ·have hn:=DA hu hk;repeat' first|(refine ab (hK _ ?_);clear hK K)|(refine ae ?_;simp[ay,nB,aX,aJ u,hk];(try simp(disch:=omega)only[wrap64]);(try(refine gen2 ?_ ?_<;>intro hq<;>try simp[ay,nB,aX,aJ u,hk]at hq)))|(refine EX.next (j+1) (by omega) (by omega) ⟨by simp,by simp[hn],?_⟩;simp(disch:=omega) [wrap64])|refine TX.rs (fun _=>false) fun K hK=>?_|refine TX.eQ (fun _=>false) fun K hK=>?_|refine TX.cond rfl (fun an=>?_) (fun an=>absurd an (by decide))|refine TX.cond rfl (fun an=>absurd an (by decide)) (fun an=>?_)|refine TX.seq ?_|refine TX.block ?_|refine TX.skip ?_|refine EX.iG ?_|refine EX.iv ?_
 ·have jk:j=l.length:=by omega
  subst jk;rw[FU]at nB⊢;rw[List.length_map]at nB;cases W with
  |none=>
   simp only[uT]at kW;repeat' first|(refine ab (hK _ ?_);clear hK K)|((first|refine ae ?_|(refine aa ?_ (kW) ?_;(focus(solve|simp[ay,nB,al e]))));simp[ay,nB,al e];(try simp(disch:=omega)only[wrap64]);(try(refine gen2 ?_ ?_<;>intro hq<;>try simp[ay,nB,al e]at hq)))|(refine aE 0 rfl rfl (uV b hb _ (by omega)) (fun x1 p1 dB dO cc=>?_);simp[ay,nB,al e];(try simp(disch:=omega)only[wrap64]);(try(refine gen2 ?_ ?_<;>intro hq<;>try simp[ay,nB,al e]at hq)))|refine TX.rs (fun _=>false) fun K hK=>?_|refine TX.cond rfl (fun an=>absurd an (by decide)) (fun an=>?_)|refine TX.seq ?_|refine TX.skip ?_|refine TX.exit ?_|refine EX.iG ?_|refine EX.oJ ?_|refine EX.kK ?_|refine EX.Fg ?_
   all_goals(
    refine TX.ret ?_;repeat' first|refine EX.lU ?_|refine EX.il ?_|refine EX.e0 ?_|refine EX.lV ?_
    apply EX.yH (ks:=[])
    case he=>exact Or.inr rfl
    case mK=>simp[aA,dW,Tryz.results37]<;>rfl
    case hv=>first|(dsimp only[Av.one];exact rfl)|dsimp only[Av.one]
    case hx=>repeat' first|exact eb.var _|exact bp.xN _|exact cT.var _|exact eH.row _|exact cT.row _|exact bg.nil|exact bf.nil|exact bh.nil|exact bg.map _|exact bf.map _|exact bh.map _|exact bp.int _|exact bp.str _|exact bp.bool _|apply bp.p2|apply bp.p3|apply bp.tm|apply bp.ty|apply cT.node|apply eH.of|apply bg.cons|apply bf.cons|apply bh.cons|apply bp.wz|apply bp.xO|apply bp.xP|apply eb.node|apply bg.app|apply bf.app|apply bh.app|exact IsCos.map _|exact IsCos.nil|apply bp.co|apply IsCos.cons|apply IsCos.app|apply bp.ops|exact IsOps.map _|exact IsOps.nil|apply IsOps.cons|apply IsOps.app|apply IsOps.set|apply IsOps.take
    case hA=>exact rfl
    case l3=>simp
    case hV=>exact rfl
    case h1=>omega
    case h2=>omega
    case hg=>omega)
  |some x=>
   have hx:=Vd x rfl;simp only[uT]at kW;repeat' first|(refine ab (hK _ ?_);clear hK K)|((first|refine ae ?_|(refine aa ?_ (kW) ?_;(focus(solve|simp[ay,nB,al e,al x]))));simp[ay,nB,al e,al x];(try simp(disch:=omega)only[wrap64]);(try(refine gen2 ?_ ?_<;>intro hq<;>try simp[ay,nB,al e,al x]at hq)))|(refine aE 0 rfl rfl (eh b hb _ (by omega) 3 (by omega)) (fun x1 p1 dB dO cc=>?_);simp[ay,nB,al e,al x];(try simp(disch:=omega)only[wrap64]);(try(refine gen2 ?_ ?_<;>intro hq<;>try simp[ay,nB,al e,al x]at hq)))|(refine aE 0 rfl rfl (uV b hb _ (by omega)) (fun x1 p1 dB dO cc=>?_);simp[ay,nB,al e,al x];(try simp(disch:=omega)only[wrap64]);(try(refine gen2 ?_ ?_<;>intro hq<;>try simp[ay,nB,al e,al x]at hq)))|refine TX.rs (fun _=>false) fun K hK=>?_|refine TX.cond rfl (fun an=>?_) (fun an=>absurd an (by decide))|refine TX.cond rfl (fun an=>absurd an (by decide)) (fun an=>?_)|refine TX.seq ?_|refine TX.skip ?_|refine TX.exit ?_|refine EX.iG ?_|refine EX.oJ ?_|refine EX.kK ?_|refine EX.Fg ?_
   all_goals(
    refine TX.ret ?_;repeat' first|refine EX.lU ?_|refine EX.il ?_|refine EX.e0 ?_|refine EX.lV ?_
    apply EX.yH (ks:=[])
    case he=>exact Or.inr rfl
    case mK=>simp[aA,dW,Tryz.results37]<;>rfl
    case hv=>first|(dsimp only[Av.one];exact rfl)|dsimp only[Av.one]
    case hx=>repeat' first|exact eb.var _|exact bp.xN _|exact cT.var _|exact eH.row _|exact cT.row _|exact bg.nil|exact bf.nil|exact bh.nil|exact bg.map _|exact bf.map _|exact bh.map _|exact bp.int _|exact bp.str _|exact bp.bool _|apply bp.p2|apply bp.p3|apply bp.tm|apply bp.ty|apply cT.node|apply eH.of|apply bg.cons|apply bf.cons|apply bh.cons|apply bp.wz|apply bp.xO|apply bp.xP|apply eb.node|apply bg.app|apply bf.app|apply bh.app|exact IsCos.map _|exact IsCos.nil|apply bp.co|apply IsCos.cons|apply IsCos.app|apply bp.ops|exact IsOps.map _|exact IsOps.nil|apply IsOps.cons|apply IsOps.app|apply IsOps.set|apply IsOps.take
    case hA=>exact rfl
    case l3=>simp
    case hV=>exact rfl
    case h1=>omega
    case h2=>omega
    case hg=>omega)
theorem rz (b:List Int) (hb:∀n∈b,0<=n/\n<=255):dk abA 10 [.l (rB b)] (RV cM vp fun e=>eR e<=3000000):=by
 obtain⟨b,p,hb,hp,hc⟩:=C6 b hb;refine dk.cD Tryz.func10 (by kernel_rfl) rfl (by kernel_rfl) (by simp[Tryz.ntmps10]) ?_;rw[Tryz.ntmps10];repeat' first|(refine ab (hK _ ?_);clear hK K)|(refine ae ?_;simp;(try simp(disch:=omega)only[wrap64]);(try(refine gen2 ?_ ?_<;>intro hq<;>try simp at hq)))|(refine aE 1 rfl rfl (DC b hb _ (by omega)) (fun x1 p1 dB dO cc=>?_);simp;(try simp(disch:=omega)only[wrap64]);(try(refine gen2 ?_ ?_<;>intro hq<;>try simp at hq)))|(refine aE 1 rfl rfl (BB b hb _ (by omega) _ (by omega)) (fun x1 p1 dB dO cc=>?_);simp;(try simp(disch:=omega)only[wrap64]);(try(refine gen2 ?_ ?_<;>intro hq<;>try simp at hq)))|(refine Bf rfl hc ?_;simp[back])|refine TX.rs (fun _=>false) fun K hK=>?_
 all_goals(
  refine TX.ret ?_;repeat' first|refine EX.lU ?_|refine EX.il ?_|refine EX.e0 ?_|refine EX.lV ?_
  apply EX.KQ (ks:=[])
  case he=>exact Or.inr rfl
  case mK=>simp[aA,dW,Tryz.results10]<;>rfl
  case hv=>first|(dsimp only[Av.one];exact rfl)|dsimp only[Av.one]
  case hx=>repeat' first|exact eb.var _|exact bp.xN _|exact cT.var _|exact eH.row _|exact cT.row _|exact bg.nil|exact bf.nil|exact bh.nil|exact bg.map _|exact bf.map _|exact bh.map _|exact bp.int _|exact bp.str _|exact bp.bool _|apply bp.p2|apply bp.p3|apply bp.tm|apply bp.ty|apply cT.node|apply eH.of|apply bg.cons|apply bf.cons|apply bh.cons|apply bp.wz|apply bp.xO|apply bp.xP|apply eb.node|apply bg.app|apply bf.app|apply bh.app|exact IsCos.map _|exact IsCos.nil|apply bp.co|apply IsCos.cons|apply IsCos.app|apply bp.ops|exact IsOps.map _|exact IsOps.nil|apply IsOps.cons|apply IsOps.app|apply IsOps.set|apply IsOps.take
  case hA=>exact rfl
  case l3=>simp
  case hg=>omega)
theorem lK (b:List Int) (hb:∀n∈b,0<=n/\n<=255):dk abA 25 [.l (rB b)] (RV cM vp fun e=>eR e<=3000000):=by
 have hc:=rz b hb;refine dk.cD Tryz.func25 (by kernel_rfl) rfl (by kernel_rfl) (by simp[Tryz.ntmps25]) ?_;rw[Tryz.ntmps25];repeat' first|(refine ab (hK _ ?_);clear hK K)|((first|refine ae ?_|refine Be rfl (hc) (fun _ _=>?_));simp;(try(refine gen2 ?_ ?_<;>intro hq<;>try simp at hq)))|refine TX.rs (fun _=>false) fun K hK=>?_
 all_goals(
  refine TX.ret ?_;repeat' first|refine EX.lU ?_|refine EX.il ?_|refine EX.e0 ?_|refine EX.lV ?_
  apply EX.KQ (ks:=[])
  case he=>exact Or.inr rfl
  case mK=>simp[aA,dW,Tryz.results25]<;>rfl
  case hv=>first|(dsimp only[Av.one];exact rfl)|dsimp only[Av.one]
  case hx=>repeat' first|exact eb.var _|exact bp.xN _|exact cT.var _|exact eH.row _|exact cT.row _|exact bg.nil|exact bf.nil|exact bh.nil|exact bg.map _|exact bf.map _|exact bh.map _|exact bp.int _|exact bp.str _|exact bp.bool _|apply bp.p2|apply bp.p3|apply bp.tm|apply bp.ty|apply cT.node|apply eH.of|apply bg.cons|apply bf.cons|apply bh.cons|apply bp.wz|apply bp.xO|apply bp.xP|apply eb.node|apply bg.app|apply bf.app|apply bh.app|exact IsCos.map _|exact IsCos.nil|apply bp.co|apply IsCos.cons|apply IsCos.app|apply bp.ops|exact IsOps.map _|exact IsOps.nil|apply IsOps.cons|apply IsOps.app|apply IsOps.set|apply IsOps.take
  case hA=>exact rfl
  case l3=>simp
  case hg=>assumption)
end Go.Proofs.YtloolmchekcmeaaGreat
