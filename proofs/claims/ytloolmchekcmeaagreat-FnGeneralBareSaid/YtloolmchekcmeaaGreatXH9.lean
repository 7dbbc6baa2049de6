/- A part. -/
import Derived.Test.YtloolmchekcmeaaGreatXH8
set_option linter.unusedVariables false
set_option linter.unusedSimpArgs false
open Go.Proofs.Tryz renaming prog->Vm
open List renaming map_nil->Vn,map_cons->Vo
namespace Go.Proofs.YtloolmchekcmeaaGreat
attribute [-simp] Go.Av.b7 Go.Av.fb Go.Av.bQ Go.Av.bw Go.Av.back Go.Av.ev Go.Av.one Go.Av.cK Go.Av.xv Go.Av.dS Go.Av.AV.dp Go.Av.CV.dp Go.Av.fS Go.Av.AV.cO Go.Av.CV.cO
open Go Go.Av
attribute [local irreducible] T ah TX EX LX bo cE bF cD fZ aH.kind aH.kids an.kind an.name an.num an.ty an.fr an.label an.kids
attribute [local simp] aX ax
set_option maxHeartbeats 16000000
set_option maxRecDepth 8000
theorem ry (b:List Int) (hb:okB b) (p:Nat) (hp:p+500000<=1099511627776):bo Vm 90 [] b p 500000 (RV cw ss fun e=>fO e<=500000):=by
 have yn:=tJ;refine bo.bW Tryz.func90 (by kernel_rfl) rfl (by kernel_rfl) (by simp[Tryz.ntmps90]) ?_;rw[Tryz.ntmps90];repeat' first|(refine ab (hK _ ?_);clear hK K)|((first|refine ae ?_|refine aa rfl (yn _) ?_|refine aa rfl (ia _ (by omega)) ?_);simp;(try simp(disch:=omega)only[wrap64]);(try(refine gen2 ?_ ?_<;>intro hq<;>try simp at hq)))|(refine au 0 rfl rfl (fR b hb _ (by omega) [4,3,5,4,2] (by simp) (by simp)) (fun x p1 hx cY bL=>?_);simp at hx;(have gA:x=4\/x=3\/x=5\/x=2:=by omega);clear hx;rcases gA with rfl|rfl|rfl|rfl<;>(simp;(try simp(disch:=omega)only[wrap64])))|(refine au 0 rfl rfl (nf b hb 5 [] _ (by omega) (by simp) (by omega)) (fun x1 p1 cJ cY bL=>?_);simp;(try simp(disch:=omega)only[wrap64]);(try(refine gen2 ?_ ?_<;>intro hq<;>try simp at hq)))|(refine au 0 rfl rfl (nf b hb 4 [] _ (by omega) (by simp) (by omega)) (fun x1 p1 cJ cY bL=>?_);simp;(try simp(disch:=omega)only[wrap64]);(try(refine gen2 ?_ ?_<;>intro hq<;>try simp at hq)))|(refine au 0 rfl rfl (nf b hb 3 [] _ (by omega) (by simp) (by omega)) (fun x1 p1 cJ cY bL=>?_);simp;(try simp(disch:=omega)only[wrap64]);(try(refine gen2 ?_ ?_<;>intro hq<;>try simp at hq)))|(refine au 0 rfl rfl (nf b hb 2 [] _ (by omega) (by simp) (by omega)) (fun x1 p1 cJ cY bL=>?_);simp;(try simp(disch:=omega)only[wrap64]);(try(refine gen2 ?_ ?_<;>intro hq<;>try simp at hq)))|refine TX.rs (fun _=>false) fun K hK=>?_|refine TX.cond rfl (fun ao=>?_) (fun ao=>absurd ao (by decide))|refine TX.cond rfl (fun ao=>absurd ao (by decide)) (fun ao=>?_)|refine TX.seq ?_|refine TX.skip ?_|refine EX.fB ?_
 all_goals(
  refine TX.ret ?_;repeat' first|refine EX.jW ?_|refine EX.fC ?_|refine EX.dT ?_|refine EX.jX ?_
  apply EX.vt (ks:=[])
  case he=>exact Or.inr rfl
  case kn=>simp[aI,c5,Tryz.results90]<;>rfl
  case hv=>first|(dsimp only[Av.one];exact rfl)|dsimp only[Av.one]
  case hx=>repeat' first|exact da.var _|exact bh.uS _|exact cc.var _|exact dE.row _|exact cc.row _|exact aZ.nil|exact aY.nil|exact a6.nil|exact aZ.map _|exact aY.map _|exact a6.map _|exact bh.int _|exact bh.str _|exact bh.bool _|apply bh.p2|apply bh.p3|apply bh.tm|apply bh.ty|apply cc.node|apply dE.of|apply aZ.cons|apply aY.cons|apply a6.cons|apply bh.uB|apply bh.uT|apply bh.uU|apply da.node|apply aZ.app|apply aY.app|apply a6.app
  case hA=>exact rfl
  case jS=>simp
  case hV=>exact rfl
  case h1=>omega
  case h2=>omega
  case hg=>(try simp[dU,cI,cF,eS])<;>omega)
theorem yo (b:List Int) (hb:okB b) (e:an) (hn:fO e<=1000000000) (p:Nat) (hp:p+400<=1099511627776):bo Vm 36 [cw e] b p 400 (RV cw ss fun u=>fO u<=fO e+100):=by
 have pE:=kr;have yl:=BZ e (by omega);have CL:=hn;rw[kX]at CL;refine bo.bW Tryz.func36 (by kernel_rfl) rfl (by kernel_rfl) (by simp[Tryz.ntmps36]) ?_;rw[Tryz.ntmps36];repeat' first|(refine ab (hK _ ?_);clear hK K)|((first|refine ae ?_|refine aa rfl (pE) ?_|refine aa rfl (yl) ?_);simp;(try simp(disch:=omega)only[wrap64]);(try(refine gen2 ?_ ?_<;>intro hq<;>try simp at hq)))|(refine au 0 rfl rfl (c9 b hb _ (by omega) 50 (by omega)) (fun x1 p1 cJ cY bL=>?_);simp;(try simp(disch:=omega)only[wrap64]);(try(refine gen2 ?_ ?_<;>intro hq<;>try simp at hq)))|(refine au 0 rfl rfl (fR b hb _ (by omega) [0,15,1,6,14,-1] (by simp) (by simp)) (fun x1 p1 cJ cY bL=>?_);simp;(try simp(disch:=omega)only[wrap64]);(try(refine gen2 ?_ ?_<;>intro hq<;>try simp at hq)))|(refine au 0 rfl rfl (fR b hb _ (by omega) [1000,-1,9223372036854775807,5] (by simp) (by simp)) (fun x1 p1 cJ cY bL=>?_);simp;(try simp(disch:=omega)only[wrap64]);(try(refine gen2 ?_ ?_<;>intro hq<;>try simp at hq)))|(refine au 0 rfl rfl (ym b hb _ (by omega) _ (by omega)) (fun x1 p1 cJ cY bL=>?_);simp;(try simp(disch:=omega)only[wrap64]);(try(refine gen2 ?_ ?_<;>intro hq<;>try simp at hq)))|((first|(refine au 0 rfl rfl (DF b hb _ (by omega) [[88],[120,121],[],[120]] (by simp) (by simp)) (fun x p1 hx cY bL=>?_);(have EZ:x.length<=2:=by simp at hx;rcases hx with rfl|rfl|rfl|rfl<;>simp))|(refine au 0 rfl rfl (BY b hb _ (by omega)) (fun t p1 ht cY bL=>?_);replace ht:=wG ht));simp)|refine TX.rs (fun _=>false) fun K hK=>?_|refine TX.ef (fun _=>false) fun K hK=>?_|refine TX.cond rfl (fun ao=>?_) (fun ao=>absurd ao (by decide))|refine TX.cond rfl (fun ao=>absurd ao (by decide)) (fun ao=>?_)|refine TX.seq ?_|refine TX.block ?_|refine TX.skip ?_|refine EX.fB ?_|refine EX.fm ?_
 all_goals(
  refine TX.ret ?_;repeat' first|refine EX.jW ?_|refine EX.fC ?_|refine EX.dT ?_|refine EX.jX ?_
  apply EX.vt (ks:=[])
  case he=>exact Or.inr rfl
  case kn=>simp[aI,c5,Tryz.results36]<;>rfl
  case hv=>first|(dsimp only[Av.one];exact rfl)|dsimp only[Av.one]
  case hx=>repeat' first|exact da.var _|exact bh.uS _|exact cc.var _|exact dE.row _|exact cc.row _|exact aZ.nil|exact aY.nil|exact a6.nil|exact aZ.map _|exact aY.map _|exact a6.map _|exact bh.int _|exact bh.str _|exact bh.bool _|apply bh.p2|apply bh.p3|apply bh.tm|apply bh.ty|apply cc.node|apply dE.of|apply aZ.cons|apply aY.cons|apply a6.cons|apply bh.uB|apply bh.uT|apply bh.uU|apply da.node|apply aZ.app|apply aY.app|apply a6.app
  case hA=>exact rfl
  case jS=>simp
  case hV=>exact rfl
  case h1=>omega
  case h2=>omega
  case hg=>simp[dU,cI,cF,kX]<;>omega)
end Go.Proofs.YtloolmchekcmeaaGreat
namespace Go.Proofs.YtloolmchekcmeaaGreat
attribute [-simp] Go.Av.fb Go.Av.bQ Go.Av.bw Go.Av.back Go.Av.ev Go.Av.one Go.Av.cK Go.Av.xv Go.Av.dS Go.Av.AV.dp Go.Av.CV.dp Go.Av.fS Go.Av.AV.cO Go.Av.CV.cO
open Go Go.Av
attribute [local irreducible] T ah TX EX LX bo cE bF cD fZ aH.kind aH.kids an.kind an.name an.num an.ty an.fr an.label an.kids
attribute [local simp] aX ax
set_option maxHeartbeats 16000000
set_option maxRecDepth 8000
theorem zJ (k:Int) (l:List (List DV)):ah Vm 124 [.i k,.l l] [] (.agg [.d (.i k),.d (.str []),.d (.i 0),.d (.i 0),.d (.sl []),.d (.i 0),.d (.sl []),.d (.i 0),.d (.sl l)]) [] []:=by
 refine ah.ob Tryz.func124 Tryz.ntmps124 rfl ?_;repeat' first|(refine ab (hK _ ?_);clear hK K)|(refine ae ?_;simp;(try(refine gen2 ?_ ?_<;>intro hq<;>try simp at hq)))|(refine T.ret (aG.val (Or.inr rfl) ?_)<;>simp[aI,Tryz.results124]<;>omega)|refine T.r0 fun K hK=>?_
theorem DI (b:List Int) (hb:okB b) (ctx:List gj) (s t:aH) (hs:iK s<=100) (hl:ctx.length<=1000) (d:Int) (hd:-1000<=d) (Nb:d<=1000) (N B p:Nat) (hp:p+N+1<=1099511627776)
  (hm:∀(c:UInt8) (p:Nat),p+N<=1099511627776->bo Vm 86 [.l (ctx.map mr++[mr ⟨[c],s⟩]),ep t,.i d] b p N (RV cw ss fun e=>fO e<=B)):
  bo Vm 126 [qt ctx,ep s,ep t,.i d] b p (N+1) (RV cw ss fun e=>fO e<=B+102):=by
 have yl:=b9 s (by omega);refine bo.bW Tryz.func126 (by kernel_rfl) rfl (by kernel_rfl) (by simp[Tryz.ntmps126]) ?_;rw[Tryz.ntmps126];repeat' first|((first|refine ab (hK _ ?_)|refine aq (hK _ ?_));clear hK K)|((first|refine ae ?_|refine aA ?_|refine aa rfl (yl) ?_|refine aa rfl (BX ctx _ s (by omega)) ?_);simp;(try simp(disch:=omega)only[wrap64]);(try(refine gen2 ?_ ?_<;>intro hq<;>try simp at hq)))|(refine au 0 rfl rfl (hm _ _ (by omega)) (fun x1 p1 cJ cY bL=>?_);simp;(try simp(disch:=omega)only[wrap64]);(try(refine gen2 ?_ ?_<;>intro hq<;>try simp at hq)))|(refine au 0 rfl rfl (DF b hb _ (by omega) [[120],[121],[122],[102]] (by simp) (by simp)) (fun x p1 hx cY bL=>?_);(obtain⟨c,rfl⟩:∃c,x=[c]:=by simp at hx;rcases hx with rfl|rfl|rfl|rfl<;>exact⟨_,rfl⟩);simp)|refine TX.rd (id:=2) mixed (fun _=>false) [10,13] (by kernel_rfl) fun K hK=>?_|refine TX.rs (fun _=>false) fun K hK=>?_
 have CL:=hU s
 all_goals(
  refine TX.ret ?_;repeat' first|refine EX.jW ?_|refine EX.fC ?_|refine EX.dT ?_|refine EX.jX ?_
  apply EX.vt (ks:=[])
  case he=>exact Or.inr rfl
  case kn=>simp[aI,c5,Tryz.results126]<;>rfl
  case hv=>first|(dsimp only[Av.one];exact rfl)|dsimp only[Av.one]
  case hx=>repeat' first|exact da.var _|exact bh.uS _|exact cc.var _|exact dE.row _|exact cc.row _|exact aZ.nil|exact aY.nil|exact a6.nil|exact aZ.map _|exact aY.map _|exact a6.map _|exact bh.int _|exact bh.str _|exact bh.bool _|apply bh.p2|apply bh.p3|apply bh.tm|apply bh.ty|apply cc.node|apply dE.of|apply aZ.cons|apply aY.cons|apply a6.cons|apply bh.uB|apply bh.uT|apply bh.uU|apply da.node|apply aZ.app|apply aY.app|apply a6.app
  case hA=>exact rfl
  case jS=>simp
  case hV=>exact rfl
  case h1=>omega
  case h2=>omega
  case hg=>simp[dU,cI,cF,eS, *]<;>omega)
theorem yp (b:List Int) (hb:okB b) (ctx:List gj) (hl:ctx.length<=1000) (EO:∀u∈ctx,u.name.length<=10/\iK u.ty<=1000) (t:aH) (dY:ay 4 t=true) (d:Int) (hd:-1000<=d) (Nb:d<=1000) (N B p:Nat) (hp:p+3*N+3000<=1099511627776)
  (h1:1<d->∀(t':aH),ay 4 t'=true->∀p,p+N<=1099511627776->bo Vm 86 [qt ctx,ep t',.i (d-1)] b p N (RV cw ss fun e=>fO e<=B))
  (OQ:1<d->∀(s t':aH),ay 4 s=true->ay 4 t'=true->∀p,p+N<=1099511627776->bo Vm 126 [qt ctx,ep s,ep t',.i (d-1)] b p N (RV cw ss fun e=>fO e<=B))
  (h2:∀u∈t.kids,∀p,p+N<=1099511627776->bo Vm 86 [qt ctx,ep u,.i (d-1)] b p N (RV cw ss fun e=>fO e<=B))
  (OR:∀u∈t.kids,∀v∈t.kids,∀p,p+N<=1099511627776->bo Vm 126 [qt ctx,ep u,ep v,.i (d-1)] b p N (RV cw ss fun e=>fO e<=B)):
  bo Vm 86 [qt ctx,ep t,.i d] b p (3*N+3000) (RV cw ss fun e=>fO e<=3*B+100):=by
 have jd:=wG dY;have HM:=fun p hp=>gO b hb 4 dD p qu hp
 simp only[ep,aH.bT,aH.bU,Vn]at HM;have hint:=yk;have GJ:=BV;have pE:=kr;have yn:=tJ;have rr:=zJ;refine bo.bW Tryz.func86 (by kernel_rfl) rfl (by kernel_rfl) (by simp[Tryz.ntmps86]) ?_;rw[Tryz.ntmps86];repeat' first|(refine ab (hK _ ?_);clear hK K)|(refine ae ?_;simp;(try simp(disch:=omega)only[wrap64]);(try(refine gen2 ?_ ?_<;>intro hq<;>try simp at hq)))|refine TX.rs (fun _=>false) fun K hK=>?_|refine TX.seq ?_|refine TX.block ?_
 refine TX.gq (fun x:Nat×Nat×List (List CV)=>⟨[(0,.c (.ptr 0 0)),(1,qt ctx),(3,.i d),(6,.c (.ptr 1 0)),(8,.c (.ptr 2 0)),(9,.i ((x.1:Int)-1))],(rd b x.2.1).map CV.d::(ep t).cells::[.d (.i 0),.d (.str []),.d (.i 0),.d (.i 0),.nil,.d (.i 0),.nil,.d (.i 0),.nil]::x.2.2,[]⟩) (fun x=>x.1) (fun x=>x.1<=ctx.length/\p<=x.2.1/\x.2.1+x.1<=p+ctx.length) (fun x hx=>?_) (ctx.length,p,[]) (by simp) (by simp);obtain⟨j,q1,G⟩:=x;obtain⟨hj,zK,Qx⟩:=hx;dsimp only at hj zK Qx⊢;cases j with
 |succ k=>
  have hk:k<ctx.length:=by omega
  have e1:((k:Int)+1-1)=k:=by omega
  have e2:¬((k:Int)<0):=by omega
  obtain⟨u,ht⟩:=bV hk;have eN:u∈ctx:=List.mem_of_getElem? ht;have bn:ctx[k]=u:=by rw[List.getElem?_eq_getElem hk]at ht;exact Option.some.inj ht
  have iA:ctx.drop k=u::ctx.drop (k+1):=by rw[List.drop_eq_getElem_cons hk,bn]
  have hu:=EO u eN;have rU:=BW ctx u.name (by omega) (fun v hv=>by have:=EO v hv;omega);cases hr:ff ctx u.name with
  |none=>
   rw[hr]at rU;dsimp only at rU;have hv:=hY cy (by simp[cI,cF]);rw[zy]at hv;repeat' first|(refine ab (hK _ ?_);clear hK K)|((first|refine ae ?_|refine aa rfl (rU) ?_|(refine aa ?_ (hv) ?_;(focus(solve|simp[hk,bn,e1,e2,mr]))));simp[hk,bn,e1,e2,mr];(try simp(disch:=omega)only[wrap64]);(try(refine gen2 ?_ ?_<;>intro hq<;>try simp[hk,bn,e1,e2,mr]at hq)))|(refine au 0 rfl rfl (c9 b hb _ (by omega) 3 (by omega)) (fun x1 p1 cJ cY bL=>?_);simp[hk,bn,e1,e2,mr];(try simp(disch:=omega)only[wrap64]);(try(refine gen2 ?_ ?_<;>intro hq<;>try simp[hk,bn,e1,e2,mr]at hq)))|(refine EX.next (k,_,_) (by dsimp only;omega) ⟨by dsimp only;omega,by dsimp only;omega,by dsimp only;omega⟩ ⟨rfl,rfl,?_⟩;simp(disch:=omega) [wrap64])|refine TX.rs (fun _=>false) fun K hK=>?_|refine TX.ef (fun _=>false) fun K hK=>?_|refine TX.cond rfl (fun ao=>?_) (fun ao=>absurd ao (by decide))|refine TX.cond rfl (fun ao=>absurd ao (by decide)) (fun ao=>?_)|refine TX.seq ?_|refine TX.block ?_|refine TX.skip ?_|refine EX.fB ?_|refine EX.fm ?_
  |some tu=>
   rw[hr]at rU;dsimp only at rU;obtain⟨bd,Qy,rfl,_⟩:=x8 hr;have y7:=EO bd Qy;have hv:=hY bd.ty (by omega);cases Nc:ay 4 bd.ty with
   |false=>
    rw[Nc]at hv;repeat' first|(refine ab (hK _ ?_);clear hK K)|((first|refine ae ?_|refine aa rfl (rU) ?_|refine aa rfl (hv) ?_);simp[hk,bn,e1,e2,mr];(try simp(disch:=omega)only[wrap64]);(try(refine gen2 ?_ ?_<;>intro hq<;>try simp[hk,bn,e1,e2,mr]at hq)))|(refine au 0 rfl rfl (c9 b hb _ (by omega) 3 (by omega)) (fun x1 p1 cJ cY bL=>?_);simp[hk,bn,e1,e2,mr];(try simp(disch:=omega)only[wrap64]);(try(refine gen2 ?_ ?_<;>intro hq<;>try simp[hk,bn,e1,e2,mr]at hq)))|(refine EX.next (k,_,_) (by dsimp only;omega) ⟨by dsimp only;omega,by dsimp only;omega,by dsimp only;omega⟩ ⟨rfl,rfl,?_⟩;simp(disch:=omega) [wrap64])|refine TX.rs (fun _=>false) fun K hK=>?_|refine TX.ef (fun _=>false) fun K hK=>?_|refine TX.cond rfl (fun ao=>?_) (fun ao=>absurd ao (by decide))|refine TX.cond rfl (fun ao=>absurd ao (by decide)) (fun ao=>?_)|refine TX.seq ?_|refine TX.block ?_|refine TX.skip ?_|refine EX.fB ?_|refine EX.fm ?_
   |true=>
    rw[Nc]at hv;have xw:=lL 4 bd.ty t (by omega) Nc dY;cases OS:bN bd.ty t with
    |false=>
     rw[OS]at xw;repeat' first|(refine ab (hK _ ?_);clear hK K)|((first|refine ae ?_|refine aa rfl (rU) ?_|refine aa rfl (hv) ?_|refine aa rfl (xw) ?_);simp[hk,bn,e1,e2,mr];(try simp(disch:=omega)only[wrap64]);(try(refine gen2 ?_ ?_<;>intro hq<;>try simp[hk,bn,e1,e2,mr]at hq)))|(refine au 0 rfl rfl (c9 b hb _ (by omega) 3 (by omega)) (fun x1 p1 cJ cY bL=>?_);simp[hk,bn,e1,e2,mr];(try simp(disch:=omega)only[wrap64]);(try(refine gen2 ?_ ?_<;>intro hq<;>try simp[hk,bn,e1,e2,mr]at hq)))|(refine EX.next (k,_,_) (by dsimp only;omega) ⟨by dsimp only;omega,by dsimp only;omega,by dsimp only;omega⟩ ⟨rfl,rfl,?_⟩;simp(disch:=omega) [wrap64])|refine TX.rs (fun _=>false) fun K hK=>?_|refine TX.ef (fun _=>false) fun K hK=>?_|refine TX.cond rfl (fun ao=>?_) (fun ao=>absurd ao (by decide))|refine TX.cond rfl (fun ao=>absurd ao (by decide)) (fun ao=>?_)|refine TX.seq ?_|refine TX.block ?_|refine TX.skip ?_|refine EX.fB ?_|refine EX.fm ?_
    |true=>
     rw[OS]at xw;repeat' first|(refine ab (hK _ ?_);clear hK K)|((first|refine ae ?_|refine aa rfl (rU) ?_|refine aa rfl (hv) ?_|refine aa rfl (xw) ?_);simp[hk,bn,e1,e2,mr];(try simp(disch:=omega)only[wrap64]);(try(refine gen2 ?_ ?_<;>intro hq<;>try simp[hk,bn,e1,e2,mr]at hq)))|(refine au 0 rfl rfl (c9 b hb _ (by omega) 3 (by omega)) (fun x1 p1 cJ cY bL=>?_);simp[hk,bn,e1,e2,mr];(try simp(disch:=omega)only[wrap64]);(try(refine gen2 ?_ ?_<;>intro hq<;>try simp[hk,bn,e1,e2,mr]at hq)))|(refine EX.next (k,_,_) (by dsimp only;omega) ⟨by dsimp only;omega,by dsimp only;omega,by dsimp only;omega⟩ ⟨rfl,rfl,?_⟩;simp(disch:=omega) [wrap64])|refine TX.rs (fun _=>false) fun K hK=>?_|refine TX.ef (fun _=>false) fun K hK=>?_|refine TX.cond rfl (fun ao=>?_) (fun ao=>absurd ao (by decide))|refine TX.cond rfl (fun ao=>absurd ao (by decide)) (fun ao=>?_)|refine TX.seq ?_|refine TX.block ?_|refine TX.skip ?_|refine EX.fB ?_|refine EX.fm ?_
     all_goals(
      refine TX.ret ?_;repeat' first|refine EX.jW ?_|refine EX.fC ?_|refine EX.dT ?_|refine EX.jX ?_
      apply EX.vt (ks:=[])
      case he=>exact Or.inr rfl
      case kn=>simp[aI,c5,Tryz.results86]<;>rfl
      case hv=>first|(dsimp only[Av.one];exact rfl)|dsimp only[Av.one]
      case hx=>repeat' first|exact da.var _|exact bh.uS _|exact cc.var _|exact dE.row _|exact cc.row _|exact aZ.nil|exact aY.nil|exact a6.nil|exact aZ.map _|exact aY.map _|exact a6.map _|exact bh.int _|exact bh.str _|exact bh.bool _|apply bh.p2|apply bh.p3|apply bh.tm|apply bh.ty|apply cc.node|apply dE.of|apply aZ.cons|apply aY.cons|apply a6.cons|apply bh.uB|apply bh.uT|apply bh.uU|apply da.node|apply aZ.app|apply aY.app|apply a6.app
      case hA=>exact rfl
      case jS=>simp
      case hV=>exact rfl
      case h1=>omega
      case h2=>omega
      case hg=>(try simp[dU,cI,cF,eS])<;>omega)
 |zero=>
  obtain⟨tk,tl⟩:=t;obtain⟨_,_,sA,BE,jS⟩:=dR dY;simp only[aH.bU,aH.bT]at sA BE jS h2 OR;cases tl with
  |nil=>
   have lN:¬tk=4:=fun h=>by rw[h]at sA;simp[cx]at sA
   have lW:¬tk=5:=fun h=>by rw[h]at sA;simp[cx]at sA
   by_cases dP:1<d
   ·have lT:=h1 dP;have HN:=OQ dP;have J8:=lT eT tt;have J9:=lT dD qu;simp only[ep,aH.bT,aH.bU,Vn]at J8 J9;have yl:=b9 (.mk tk []) (by omega);have rX:=fun p hp=>gO b hb 4 (.mk tk []) p dY hp
    simp only[ep,aH.bT,aH.bU,Vo,Vn,aX]at yl rX;have Ka:=lT (.mk tk []) dY;have DJ:=fun a ha=>HN a (.mk tk []) ha dY
    simp only[ep,aH.bT,aH.bU,Vo,Vn,aX]at Ka DJ;repeat' first|((first|refine ab (hK _ ?_)|refine aq (hK _ ?_)|refine aJ (hK _ ?_));clear hK K)|((first|refine ae ?_|refine aA ?_|refine aQ ?_|refine aa rfl (yl) ?_|refine aa rfl (hint) ?_|refine aa rfl (GJ) ?_|refine aa rfl (pE) ?_|refine aa rfl (yn _) ?_|refine aa rfl (rr _ _) ?_);simp[dP,lN,lW];(try simp(disch:=omega)only[wrap64]);(try(refine gen2 ?_ ?_<;>intro hq<;>try simp[dP,lN,lW]at hq)))|(refine au 0 rfl rfl (c9 b hb _ (by omega) 9 (by omega)) (fun x1 p1 cJ cY bL=>?_);simp[dP,lN,lW];(try simp(disch:=omega)only[wrap64]);(try(refine gen2 ?_ ?_<;>intro hq<;>try simp[dP,lN,lW]at hq)))|(refine au 0 rfl rfl (c9 b hb _ (by omega) 3 (by omega)) (fun x1 p1 cJ cY bL=>?_);simp[dP,lN,lW];(try simp(disch:=omega)only[wrap64]);(try(refine gen2 ?_ ?_<;>intro hq<;>try simp[dP,lN,lW]at hq)))|(refine au 0 rfl rfl (c9 b hb _ (by omega) 2 (by omega)) (fun x1 p1 cJ cY bL=>?_);simp[dP,lN,lW];(try simp(disch:=omega)only[wrap64]);(try(refine gen2 ?_ ?_<;>intro hq<;>try simp[dP,lN,lW]at hq)))|(refine au 0 rfl rfl (gP b hb 1 (by omega) _ (by omega)) (fun x1 p1 cJ cY bL=>?_);simp[dP,lN,lW];(try simp(disch:=omega)only[wrap64]);(try(refine gen2 ?_ ?_<;>intro hq<;>try simp[dP,lN,lW]at hq)))|(refine au 0 rfl rfl (gP b hb 2 (by omega) _ (by omega)) (fun x1 p1 cJ cY bL=>?_);simp[dP,lN,lW];(try simp(disch:=omega)only[wrap64]);(try(refine gen2 ?_ ?_<;>intro hq<;>try simp[dP,lN,lW]at hq)))|(refine au 0 rfl rfl (rX _ (by omega)) (fun x1 p1 cJ cY bL=>?_);simp[dP,lN,lW];(try simp(disch:=omega)only[wrap64]);(try(refine gen2 ?_ ?_<;>intro hq<;>try simp[dP,lN,lW]at hq)))|(refine au 0 rfl rfl (HM _ (by omega)) (fun x1 p1 cJ cY bL=>?_);simp[dP,lN,lW];(try simp(disch:=omega)only[wrap64]);(try(refine gen2 ?_ ?_<;>intro hq<;>try simp[dP,lN,lW]at hq)))|(refine au 0 rfl rfl (gO b hb 4 _ _ (by assumption) (by omega)) (fun x1 p1 cJ cY bL=>?_);simp[dP,lN,lW];(try simp(disch:=omega)only[wrap64]);(try(refine gen2 ?_ ?_<;>intro hq<;>try simp[dP,lN,lW]at hq)))|(refine au 0 rfl rfl (fR b hb _ (by omega) [1,2,0,999,5] (by simp) (by simp)) (fun x1 p1 cJ cY bL=>?_);simp[dP,lN,lW];(try simp(disch:=omega)only[wrap64]);(try(refine gen2 ?_ ?_<;>intro hq<;>try simp[dP,lN,lW]at hq)))|(refine au 0 rfl rfl (J8 _ (by omega)) (fun x1 p1 cJ cY bL=>?_);simp[dP,lN,lW];(try simp(disch:=omega)only[wrap64]);(try(refine gen2 ?_ ?_<;>intro hq<;>try simp[dP,lN,lW]at hq)))|(refine au 0 rfl rfl (J9 _ (by omega)) (fun x1 p1 cJ cY bL=>?_);simp[dP,lN,lW];(try simp(disch:=omega)only[wrap64]);(try(refine gen2 ?_ ?_<;>intro hq<;>try simp[dP,lN,lW]at hq)))|(refine au 0 rfl rfl (Ka _ (by omega)) (fun x1 p1 cJ cY bL=>?_);simp[dP,lN,lW];(try simp(disch:=omega)only[wrap64]);(try(refine gen2 ?_ ?_<;>intro hq<;>try simp[dP,lN,lW]at hq)))|(refine au 0 rfl rfl (lT _ (by assumption) _ (by omega)) (fun x1 p1 cJ cY bL=>?_);simp[dP,lN,lW];(try simp(disch:=omega)only[wrap64]);(try(refine gen2 ?_ ?_<;>intro hq<;>try simp[dP,lN,lW]at hq)))|(refine au 0 rfl rfl (DJ _ (by assumption) _ (by omega)) (fun x1 p1 cJ cY bL=>?_);simp[dP,lN,lW];(try simp(disch:=omega)only[wrap64]);(try(refine gen2 ?_ ?_<;>intro hq<;>try simp[dP,lN,lW]at hq)))|refine TX.rd (id:=10) mixed (fun _=>false) [6,9,12] (by kernel_rfl) fun K hK=>?_|refine TX.nI (id:=12) mixed (fun _=>false) [5,11,17,20] [8,14] 12 [0] (by kernel_rfl) fun K hK=>?_|refine TX.nI (id:=15) mixed (fun _=>false) [6,11,14,17] [10] 7 [0] (by kernel_rfl) fun K hK=>?_|refine TX.rs (fun _=>false) fun K hK=>?_|refine TX.cond rfl (fun ao=>?_) (fun ao=>absurd ao (by decide))|refine TX.cond rfl (fun ao=>absurd ao (by decide)) (fun ao=>?_)|refine TX.seq ?_|refine TX.block ?_|refine TX.skip ?_|refine TX.exit ?_|refine EX.fB ?_|refine EX.lK ?_|refine EX.fm ?_|refine EX.iE ?_|refine EX.BM ?_
    all_goals(
     refine TX.ret ?_;repeat' first|refine EX.jW ?_|refine EX.fC ?_|refine EX.dT ?_|refine EX.jX ?_
     apply EX.vt (ks:=[])
     case he=>exact Or.inr rfl
     case kn=>simp[aI,c5,Tryz.results86]<;>rfl
     case hv=>first|(dsimp only[Av.one];exact rfl)|dsimp only[Av.one]
     case hx=>repeat' first|exact da.var _|exact bh.uS _|exact cc.var _|exact dE.row _|exact cc.row _|exact aZ.nil|exact aY.nil|exact a6.nil|exact aZ.map _|exact aY.map _|exact a6.map _|exact bh.int _|exact bh.str _|exact bh.bool _|apply bh.p2|apply bh.p3|apply bh.tm|apply bh.ty|apply cc.node|apply dE.of|apply aZ.cons|apply aY.cons|apply a6.cons|apply bh.uB|apply bh.uT|apply bh.uU|apply da.node|apply aZ.app|apply aY.app|apply a6.app
     case hA=>exact rfl
     case jS=>simp
     case hV=>exact rfl
     case h1=>omega
     case h2=>omega
     case hg=>(try simp[dU,cI,cF,eS])<;>omega)
   ·have yl:=b9 (.mk tk []) (by omega);have rX:=fun p hp=>gO b hb 4 (.mk tk []) p dY hp
    simp only[ep,aH.bT,aH.bU,Vo,Vn,aX]at yl rX;repeat' first|(refine ab (hK _ ?_);clear hK K)|((first|refine ae ?_|refine aa rfl (pE) ?_|refine aa rfl (yn _) ?_);simp[dP,lN,lW];(try simp(disch:=omega)only[wrap64]);(try(refine gen2 ?_ ?_<;>intro hq<;>try simp[dP,lN,lW]at hq)))|(refine au 0 rfl rfl (c9 b hb _ (by omega) 3 (by omega)) (fun x1 p1 cJ cY bL=>?_);simp[dP,lN,lW];(try simp(disch:=omega)only[wrap64]);(try(refine gen2 ?_ ?_<;>intro hq<;>try simp[dP,lN,lW]at hq)))|(refine au 0 rfl rfl (fR b hb _ (by omega) [1,2,0,999,5] (by simp) (by simp)) (fun x1 p1 cJ cY bL=>?_);simp[dP,lN,lW];(try simp(disch:=omega)only[wrap64]);(try(refine gen2 ?_ ?_<;>intro hq<;>try simp[dP,lN,lW]at hq)))|refine TX.rs (fun _=>false) fun K hK=>?_|refine TX.cond rfl (fun ao=>?_) (fun ao=>absurd ao (by decide))|refine TX.cond rfl (fun ao=>absurd ao (by decide)) (fun ao=>?_)|refine TX.seq ?_|refine TX.block ?_|refine TX.skip ?_|refine TX.exit ?_|refine EX.fB ?_|refine EX.lK ?_|refine EX.fm ?_|refine EX.iE ?_|refine EX.BM ?_
    all_goals(
     refine TX.ret ?_;repeat' first|refine EX.jW ?_|refine EX.fC ?_|refine EX.dT ?_|refine EX.jX ?_
     apply EX.vt (ks:=[])
     case he=>exact Or.inr rfl
     case kn=>simp[aI,c5,Tryz.results86]<;>rfl
     case hv=>first|(dsimp only[Av.one];exact rfl)|dsimp only[Av.one]
     case hx=>repeat' first|exact da.var _|exact bh.uS _|exact cc.var _|exact dE.row _|exact cc.row _|exact aZ.nil|exact aY.nil|exact a6.nil|exact aZ.map _|exact aY.map _|exact a6.map _|exact bh.int _|exact bh.str _|exact bh.bool _|apply bh.p2|apply bh.p3|apply bh.tm|apply bh.ty|apply cc.node|apply dE.of|apply aZ.cons|apply aY.cons|apply a6.cons|apply bh.uB|apply bh.uT|apply bh.uU|apply da.node|apply aZ.app|apply aY.app|apply a6.app
     case hA=>exact rfl
     case jS=>simp
     case hV=>exact rfl
     case h1=>omega
     case h2=>omega
     case hg=>(try simp[dU,cI,cF,eS])<;>omega)
  |cons s tl=>
   cases tl with
   |nil=>
    exfalso
    simp only[cx]at sA;split at sA
    ·simp at sA
    ·split at sA<;>simp at sA
   |cons v tl=>
    cases tl with
    |cons _ _=>exact absurd BE (by simp)
    |nil=>
     have Nf:=jd;simp only[cI,cF]at Nf;have OT:=h2 s (by simp);have OU:=h2 v (by simp);have OV:=OR s (by simp) v (by simp);by_cases dP:1<d
     ·have lT:=h1 dP;have HN:=OQ dP;have J8:=lT eT tt;have J9:=lT dD qu;simp only[ep,aH.bT,aH.bU,Vn]at J8 J9;have yl:=b9 (.mk tk [s,v]) (by omega);have rX:=fun p hp=>gO b hb 4 (.mk tk [s,v]) p dY hp
      simp only[ep,aH.bT,aH.bU,Vo,Vn,aX]at yl rX;have Ka:=lT (.mk tk [s,v]) dY;have DJ:=fun a ha=>HN a (.mk tk [s,v]) ha dY
      simp only[ep,aH.bT,aH.bU,Vo,Vn,aX]at Ka DJ;repeat' first|((first|refine ab (hK _ ?_)|refine aq (hK _ ?_)|refine aJ (hK _ ?_));clear hK K)|((first|refine ae ?_|refine aA ?_|refine aQ ?_|refine aa rfl (yl) ?_|refine aa rfl (hint) ?_|refine aa rfl (GJ) ?_|refine aa rfl (pE) ?_|refine aa rfl (yn _) ?_|refine aa rfl (rr _ _) ?_);simp[dP];(try simp(disch:=omega)only[wrap64]);(try(refine gen2 ?_ ?_<;>intro hq<;>try simp[dP]at hq)))|(refine au 0 rfl rfl (c9 b hb _ (by omega) 9 (by omega)) (fun x1 p1 cJ cY bL=>?_);simp[dP];(try simp(disch:=omega)only[wrap64]);(try(refine gen2 ?_ ?_<;>intro hq<;>try simp[dP]at hq)))|(refine au 0 rfl rfl (c9 b hb _ (by omega) 3 (by omega)) (fun x1 p1 cJ cY bL=>?_);simp[dP];(try simp(disch:=omega)only[wrap64]);(try(refine gen2 ?_ ?_<;>intro hq<;>try simp[dP]at hq)))|(refine au 0 rfl rfl (c9 b hb _ (by omega) 2 (by omega)) (fun x1 p1 cJ cY bL=>?_);simp[dP];(try simp(disch:=omega)only[wrap64]);(try(refine gen2 ?_ ?_<;>intro hq<;>try simp[dP]at hq)))|(refine au 0 rfl rfl (gP b hb 1 (by omega) _ (by omega)) (fun x1 p1 cJ cY bL=>?_);simp[dP];(try simp(disch:=omega)only[wrap64]);(try(refine gen2 ?_ ?_<;>intro hq<;>try simp[dP]at hq)))|(refine au 0 rfl rfl (gP b hb 2 (by omega) _ (by omega)) (fun x1 p1 cJ cY bL=>?_);simp[dP];(try simp(disch:=omega)only[wrap64]);(try(refine gen2 ?_ ?_<;>intro hq<;>try simp[dP]at hq)))|(refine au 0 rfl rfl (rX _ (by omega)) (fun x1 p1 cJ cY bL=>?_);simp[dP];(try simp(disch:=omega)only[wrap64]);(try(refine gen2 ?_ ?_<;>intro hq<;>try simp[dP]at hq)))|(refine au 0 rfl rfl (HM _ (by omega)) (fun x1 p1 cJ cY bL=>?_);simp[dP];(try simp(disch:=omega)only[wrap64]);(try(refine gen2 ?_ ?_<;>intro hq<;>try simp[dP]at hq)))|(refine au 0 rfl rfl (gO b hb 4 _ _ (by assumption) (by omega)) (fun x1 p1 cJ cY bL=>?_);simp[dP];(try simp(disch:=omega)only[wrap64]);(try(refine gen2 ?_ ?_<;>intro hq<;>try simp[dP]at hq)))|(refine au 0 rfl rfl (fR b hb _ (by omega) [1,2,0,999,5] (by simp) (by simp)) (fun x1 p1 cJ cY bL=>?_);simp[dP];(try simp(disch:=omega)only[wrap64]);(try(refine gen2 ?_ ?_<;>intro hq<;>try simp[dP]at hq)))|(refine au 0 rfl rfl (OT _ (by omega)) (fun x1 p1 cJ cY bL=>?_);simp[dP];(try simp(disch:=omega)only[wrap64]);(try(refine gen2 ?_ ?_<;>intro hq<;>try simp[dP]at hq)))|(refine au 0 rfl rfl (OU _ (by omega)) (fun x1 p1 cJ cY bL=>?_);simp[dP];(try simp(disch:=omega)only[wrap64]);(try(refine gen2 ?_ ?_<;>intro hq<;>try simp[dP]at hq)))|(refine au 0 rfl rfl (OV _ (by omega)) (fun x1 p1 cJ cY bL=>?_);simp[dP];(try simp(disch:=omega)only[wrap64]);(try(refine gen2 ?_ ?_<;>intro hq<;>try simp[dP]at hq)))|(refine au 0 rfl rfl (J8 _ (by omega)) (fun x1 p1 cJ cY bL=>?_);simp[dP];(try simp(disch:=omega)only[wrap64]);(try(refine gen2 ?_ ?_<;>intro hq<;>try simp[dP]at hq)))|(refine au 0 rfl rfl (J9 _ (by omega)) (fun x1 p1 cJ cY bL=>?_);simp[dP];(try simp(disch:=omega)only[wrap64]);(try(refine gen2 ?_ ?_<;>intro hq<;>try simp[dP]at hq)))|(refine au 0 rfl rfl (Ka _ (by omega)) (fun x1 p1 cJ cY bL=>?_);simp[dP];(try simp(disch:=omega)only[wrap64]);(try(refine gen2 ?_ ?_<;>intro hq<;>try simp[dP]at hq)))|(refine au 0 rfl rfl (lT _ (by assumption) _ (by omega)) (fun x1 p1 cJ cY bL=>?_);simp[dP];(try simp(disch:=omega)only[wrap64]);(try(refine gen2 ?_ ?_<;>intro hq<;>try simp[dP]at hq)))|(refine au 0 rfl rfl (DJ _ (by assumption) _ (by omega)) (fun x1 p1 cJ cY bL=>?_);simp[dP];(try simp(disch:=omega)only[wrap64]);(try(refine gen2 ?_ ?_<;>intro hq<;>try simp[dP]at hq)))|refine TX.rd (id:=10) mixed (fun _=>false) [6,9,12] (by kernel_rfl) fun K hK=>?_|refine TX.nI (id:=12) mixed (fun _=>false) [5,11,17,20] [8,14] 12 [0] (by kernel_rfl) fun K hK=>?_|refine TX.nI (id:=15) mixed (fun _=>false) [6,11,14,17] [10] 7 [0] (by kernel_rfl) fun K hK=>?_|refine TX.rd (id:=24) mixed (fun _=>false) [12,13] (by kernel_rfl) fun K hK=>?_|refine TX.nI (id:=26) mixed (fun _=>false) [8,17,20] [12,13,14] 9 [0] (by kernel_rfl) fun K hK=>?_|refine TX.rs (fun _=>false) fun K hK=>?_|refine TX.cond rfl (fun ao=>?_) (fun ao=>absurd ao (by decide))|refine TX.cond rfl (fun ao=>absurd ao (by decide)) (fun ao=>?_)|refine TX.seq ?_|refine TX.block ?_|refine TX.skip ?_|refine TX.exit ?_|refine EX.fB ?_|refine EX.lK ?_|refine EX.fm ?_|refine EX.iE ?_|refine EX.BM ?_
      all_goals(
       refine TX.ret ?_;repeat' first|refine EX.jW ?_|refine EX.fC ?_|refine EX.dT ?_|refine EX.jX ?_
       apply EX.vt (ks:=[])
       case he=>exact Or.inr rfl
       case kn=>simp[aI,c5,Tryz.results86]<;>rfl
       case hv=>first|(dsimp only[Av.one];exact rfl)|dsimp only[Av.one]
       case hx=>repeat' first|exact da.var _|exact bh.uS _|exact cc.var _|exact dE.row _|exact cc.row _|exact aZ.nil|exact aY.nil|exact a6.nil|exact aZ.map _|exact aY.map _|exact a6.map _|exact bh.int _|exact bh.str _|exact bh.bool _|apply bh.p2|apply bh.p3|apply bh.tm|apply bh.ty|apply cc.node|apply dE.of|apply aZ.cons|apply aY.cons|apply a6.cons|apply bh.uB|apply bh.uT|apply bh.uU|apply da.node|apply aZ.app|apply aY.app|apply a6.app
       case hA=>exact rfl
       case jS=>simp
       case hV=>exact rfl
       case h1=>omega
       case h2=>omega
       case hg=>(try simp[dU,cI,cF,eS])<;>omega)
     ·have yl:=b9 (.mk tk [s,v]) (by omega);have rX:=fun p hp=>gO b hb 4 (.mk tk [s,v]) p dY hp
      simp only[ep,aH.bT,aH.bU,Vo,Vn,aX]at yl rX;repeat' first|((first|refine ab (hK _ ?_)|refine aq (hK _ ?_)|refine aJ (hK _ ?_));clear hK K)|((first|refine ae ?_|refine aA ?_|refine aQ ?_|refine aa rfl (pE) ?_|refine aa rfl (yn _) ?_|refine aa rfl (rr _ _) ?_);simp[dP];(try simp(disch:=omega)only[wrap64]);(try(refine gen2 ?_ ?_<;>intro hq<;>try simp[dP]at hq)))|(refine au 0 rfl rfl (c9 b hb _ (by omega) 3 (by omega)) (fun x1 p1 cJ cY bL=>?_);simp[dP];(try simp(disch:=omega)only[wrap64]);(try(refine gen2 ?_ ?_<;>intro hq<;>try simp[dP]at hq)))|(refine au 0 rfl rfl (fR b hb _ (by omega) [1,2,0,999,5] (by simp) (by simp)) (fun x1 p1 cJ cY bL=>?_);simp[dP];(try simp(disch:=omega)only[wrap64]);(try(refine gen2 ?_ ?_<;>intro hq<;>try simp[dP]at hq)))|(refine au 0 rfl rfl (OT _ (by omega)) (fun x1 p1 cJ cY bL=>?_);simp[dP];(try simp(disch:=omega)only[wrap64]);(try(refine gen2 ?_ ?_<;>intro hq<;>try simp[dP]at hq)))|(refine au 0 rfl rfl (OU _ (by omega)) (fun x1 p1 cJ cY bL=>?_);simp[dP];(try simp(disch:=omega)only[wrap64]);(try(refine gen2 ?_ ?_<;>intro hq<;>try simp[dP]at hq)))|(refine au 0 rfl rfl (OV _ (by omega)) (fun x1 p1 cJ cY bL=>?_);simp[dP];(try simp(disch:=omega)only[wrap64]);(try(refine gen2 ?_ ?_<;>intro hq<;>try simp[dP]at hq)))|refine TX.rd (id:=24) mixed (fun _=>false) [12,13] (by kernel_rfl) fun K hK=>?_|refine TX.nI (id:=26) mixed (fun _=>false) [8,17,20] [12,13,14] 9 [0] (by kernel_rfl) fun K hK=>?_|refine TX.rs (fun _=>false) fun K hK=>?_|refine TX.cond rfl (fun ao=>?_) (fun ao=>absurd ao (by decide))|refine TX.cond rfl (fun ao=>absurd ao (by decide)) (fun ao=>?_)|refine TX.seq ?_|refine TX.block ?_|refine TX.skip ?_|refine TX.exit ?_|refine EX.fB ?_|refine EX.lK ?_|refine EX.fm ?_|refine EX.iE ?_|refine EX.BM ?_
      all_goals(
       refine TX.ret ?_;repeat' first|refine EX.jW ?_|refine EX.fC ?_|refine EX.dT ?_|refine EX.jX ?_
       apply EX.vt (ks:=[])
       case he=>exact Or.inr rfl
       case kn=>simp[aI,c5,Tryz.results86]<;>rfl
       case hv=>first|(dsimp only[Av.one];exact rfl)|dsimp only[Av.one]
       case hx=>repeat' first|exact da.var _|exact bh.uS _|exact cc.var _|exact dE.row _|exact cc.row _|exact aZ.nil|exact aY.nil|exact a6.nil|exact aZ.map _|exact aY.map _|exact a6.map _|exact bh.int _|exact bh.str _|exact bh.bool _|apply bh.p2|apply bh.p3|apply bh.tm|apply bh.ty|apply cc.node|apply dE.of|apply aZ.cons|apply aY.cons|apply a6.cons|apply bh.uB|apply bh.uT|apply bh.uU|apply da.node|apply aZ.app|apply aY.app|apply a6.app
       case hA=>exact rfl
       case jS=>simp
       case hV=>exact rfl
       case h1=>omega
       case h2=>omega
       case hg=>(try simp[dU,cI,cF,eS])<;>omega)
def FB:Nat->Nat|0=>0|m+1=>3*(FB m+1)+3000
def HO:Nat->Nat|0=>0|m+1=>3*(HO m+102)+100
theorem oC {m n:Nat} {t:aH} (h:m<=n) (ht:ay m t=true):ay n t=true:=by
 induction n with
 |zero=>have:m=0:=by omega
        subst this;exact ht
 |succ n ih=>
  by_cases e:m=n+1
  ·subst e;exact ht
  ·exact b6 (ih (by omega))
theorem B5 (b:List Int) (hb:okB b):∀(k:Nat) (ctx:List gj) (t:aH) (d:Int) (p:Nat),ctx.length+k<=900->(∀u∈ctx,u.name.length<=10/\iK u.ty<=1000)->-900+(k:Int)<=d->d<=900->
  ((d<=1/\k<=4/\ay k t=true)\/(ay 4 t=true/\d<=(k:Int)-3/\4<=k))->p+FB k<=1099511627776->bo Vm 86 [qt ctx,ep t,.i d] b p (FB k) (RV cw ss fun e=>fO e<=HO k):=by
 intro k;induction k with
 |zero=>
  intro ctx t d p _ _ _ _ h _;rcases h with⟨_,_,h⟩|⟨_,_,h⟩
  ·simp[ay]at h
  ·omega
 |succ k ih=>
  intro ctx t d p hl EO hd Nb h hp;have dY:ay 4 t=true:=by
   rcases h with⟨_,h1,h2⟩|⟨h,_,_⟩
   ·exact oC (by omega) h2
   ·exact h
  have hN:FB (k+1)=3*(FB k+1)+3000:=rfl;have hB:HO (k+1)=3*(HO k+102)+100:=rfl;rw[hN]at hp⊢;rw[hB];have Kb:∀(s u:aH),ay 4 s=true->((d-1<=1/\k<=4/\ay k u=true)\/(ay 4 u=true/\d-1<=(k:Int)-3/\4<=k))->∀p,p+(FB k+1)<=1099511627776->bo Vm 126 [qt ctx,ep s,ep u,.i (d-1)] b p (FB k+1) (RV cw ss fun e=>fO e<=HO k+102):=by
   intro s u hs hu p hp;have RP:=wG hs;refine DI b hb ctx s u (by omega) (by omega) (d-1) (by omega) (by omega) (FB k) (HO k) p (by omega) fun c q hq=>?_
   have:=ih (ctx++[⟨[c],s⟩]) u (d-1) q (by simp;omega) (by
    intro v hv;rcases List.mem_append.1 hv with hv|hv
    ·exact EO v hv
    ·simp at hv;subst hv;exact⟨by simp,by show iK s<=1000;omega⟩) (by omega) (by omega) hu hq
   rw[qt,List.map_append]at this;exact this
  have kq:∀u∈t.kids,(d-1<=1/\k<=4/\ay k u=true)\/(ay 4 u=true/\d-1<=(k:Int)-3/\4<=k):=by
   intro u hu;rcases h with⟨h1,h2,h3⟩|⟨h1,h2,h3⟩
   ·obtain⟨e,he,_,_,hs⟩:=dR h3;obtain rfl:k=e:=by omega
    exact .inl ⟨by omega,by omega,hs u hu⟩
   ·obtain⟨e,he,_,_,hs⟩:=dR h1;obtain rfl:e=3:=by omega
    by_cases hk:k=3
    ·subst hk;exact .inl ⟨by omega,by omega,hs u hu⟩
    ·exact .inr ⟨oC (by omega) (hs u hu),by omega,by omega⟩
  have lN:∀u∈t.kids,ay 4 u=true:=by
   intro u hu;obtain⟨e,he,_,_,hs⟩:=dR dY;exact oC (by omega) (hs u hu)
  refine(yp b hb ctx (by omega) EO t dY d (by omega) (by omega) (FB k+1) (HO k+102) p (by omega) ?_ ?_ ?_ ?_).mono (by omega) (fun _ h=>h)
  ·intro Qz t' HP q hq;have GK:4<=k:=by
    rcases h with⟨h1,_,_⟩|⟨_,h2,h3⟩
    ·omega
    ·omega
   refine(ih ctx t' (d-1) q (by omega) EO (by omega) (by omega) (.inr ⟨HP,?_,GK⟩) (by omega)).mono (by omega) (fun e h=>by omega);rcases h with⟨h1,_,_⟩|⟨_,h2,_⟩<;>omega
  ·intro Qz s t' hs HP q hq;have GK:4<=k:=by
    rcases h with⟨h1,_,_⟩|⟨_,h2,h3⟩
    ·omega
    ·omega
   refine Kb s t' hs (.inr ⟨HP,?_,GK⟩) q hq;rcases h with⟨h1,_,_⟩|⟨_,h2,_⟩<;>omega
  ·intro u hu q hq;exact(ih ctx u (d-1) q (by omega) EO (by omega) (by omega) (kq u hu) (by omega)).mono (by omega) (fun e h=>by omega)
  ·intro u hu v hv q hq;exact Kb u v (lN u hu) (kq v hv) q hq
theorem zL (b:List Int) (hb:okB b) (ctx:List gj) (hl:ctx.length<=100) (EO:∀u∈ctx,u.name.length<=10/\iK u.ty<=1000) (t:aH) (ht:ay 4 t=true) (d:Int) (hd:1<=d) (Nb:d<=5) (p:Nat) (hp:p+9849840<=1099511627776):
  bo Vm 86 [qt ctx,ep t,.i d] b p 9849840 (RV cw ss fun e=>fO e<=2000000):=
 (B5 b hb 8 ctx t d p (by omega) EO (by omega) (by omega) (.inr ⟨ht,by omega,by omega⟩) hp).mono (by decide) (fun e h=>Nat.le_trans h (by decide))
end Go.Proofs.YtloolmchekcmeaaGreat
