/- A part. -/
import Derived.Test.YtloolmchekcmeaaGreatXB8
set_option linter.unusedVariables false
set_option linter.unusedSimpArgs false
open Go.Proofs.Tryz renaming prog->ZA
open List renaming map_nil->ZB,map_cons->ZC
namespace Go.Proofs.YtloolmchekcmeaaGreat
attribute [-simp] Go.Av.cU Go.Av.ic Go.Av.ck Go.Av.bK Go.Av.back Go.Av.fD Go.Av.one Go.Av.dJ Go.Av.yH Go.Av.fb Go.Av.AV.eH Go.Av.CV.eH Go.Av.iX Go.Av.AV.dO Go.Av.CV.dO
open Go Go.Av
attribute [local irreducible] T ah TX EX LX bB dn bW cx ie aG.kind aG.kids al.kind al.name al.num al.ty al.fr al.label al.kids
attribute [local simp] aL au
set_option maxHeartbeats 16000000
set_option maxRecDepth 8000
theorem vf (b:List Int) (hb:okB b) (p:Nat) (hp:p+500000<=1099511627776):bB ZA 90 [] b p 500000 (RV cL vJ fun e=>e9 e<=500000):=by
 have Ce:=xj;refine bB.cA Tryz.func90 (by kernel_rfl) rfl (by kernel_rfl) (by simp[Tryz.ntmps90]) ?_;rw[Tryz.ntmps90];repeat' first|(refine ab (hK _ ?_);clear hK K)|((first|refine ae ?_|refine aa rfl (Ce _) ?_|refine aa rfl (iF _ (by omega)) ?_);simp;(try simp(disch:=omega)only[wrap64]);(try(refine gen2 ?_ ?_<;>intro hq<;>try simp at hq)))|(refine aD 0 rfl rfl (iq b hb _ (by omega) [4,3,5,4,2] (by simp) (by simp)) (fun x p1 hx dM ca=>?_);simp at hx;(have kR:x=4\/x=3\/x=5\/x=2:=by omega);clear hx;rcases kR with rfl|rfl|rfl|rfl<;>(simp;(try simp(disch:=omega)only[wrap64])))|(refine aD 0 rfl rfl (qe b hb 5 [] _ (by omega) (by simp) (by omega)) (fun x1 p1 dC dM ca=>?_);simp;(try simp(disch:=omega)only[wrap64]);(try(refine gen2 ?_ ?_<;>intro hq<;>try simp at hq)))|(refine aD 0 rfl rfl (qe b hb 4 [] _ (by omega) (by simp) (by omega)) (fun x1 p1 dC dM ca=>?_);simp;(try simp(disch:=omega)only[wrap64]);(try(refine gen2 ?_ ?_<;>intro hq<;>try simp at hq)))|(refine aD 0 rfl rfl (qe b hb 3 [] _ (by omega) (by simp) (by omega)) (fun x1 p1 dC dM ca=>?_);simp;(try simp(disch:=omega)only[wrap64]);(try(refine gen2 ?_ ?_<;>intro hq<;>try simp at hq)))|(refine aD 0 rfl rfl (qe b hb 2 [] _ (by omega) (by simp) (by omega)) (fun x1 p1 dC dM ca=>?_);simp;(try simp(disch:=omega)only[wrap64]);(try(refine gen2 ?_ ?_<;>intro hq<;>try simp at hq)))|refine TX.rs (fun _=>false) fun K hK=>?_|refine TX.cond rfl (fun aq=>?_) (fun aq=>absurd aq (by decide))|refine TX.cond rfl (fun aq=>absurd aq (by decide)) (fun aq=>?_)|refine TX.seq ?_|refine TX.skip ?_|refine EX.jd ?_
 all_goals(
  refine TX.ret ?_;repeat' first|refine EX.lW ?_|refine EX.ig ?_|refine EX.eZ ?_|refine EX.lX ?_
  apply EX.y9 (ks:=[])
  case he=>exact Or.inr rfl
  case mJ=>simp[ay,dS,Tryz.results90]<;>rfl
  case hv=>first|(dsimp only[Av.one];exact rfl)|dsimp only[Av.one]
  case hx=>repeat' first|exact ea.var _|exact bk.yd _|exact cP.var _|exact eJ.row _|exact cP.row _|exact aZ.nil|exact aY.nil|exact a6.nil|exact aZ.map _|exact aY.map _|exact a6.map _|exact bk.int _|exact bk.str _|exact bk.bool _|apply bk.p2|apply bk.p3|apply bk.tm|apply bk.ty|apply cP.node|apply eJ.of|apply aZ.cons|apply aY.cons|apply a6.cons|apply bk.wP|apply bk.ye|apply bk.yf|apply ea.node|apply aZ.app|apply aY.app|apply a6.app
  case hA=>exact rfl
  case l7=>simp
  case hV=>exact rfl
  case h1=>omega
  case h2=>omega
  case hg=>(try simp[fg,cQ,cS,fa])<;>omega)
theorem Cf (b:List Int) (hb:okB b) (e:al) (hn:e9 e<=1000000000) (p:Nat) (hp:p+400<=1099511627776):bB ZA 36 [cL e] b p 400 (RV cL vJ fun u=>e9 u<=e9 e+100):=by
 have oT:=lJ;have B5:=FW e (by omega);have GQ:=hn;rw[j7]at GQ;refine bB.cA Tryz.func36 (by kernel_rfl) rfl (by kernel_rfl) (by simp[Tryz.ntmps36]) ?_;rw[Tryz.ntmps36];repeat' first|(refine ab (hK _ ?_);clear hK K)|((first|refine ae ?_|refine aa rfl (oT) ?_|refine aa rfl (B5) ?_);simp;(try simp(disch:=omega)only[wrap64]);(try(refine gen2 ?_ ?_<;>intro hq<;>try simp at hq)))|(refine aD 0 rfl rfl (eh b hb _ (by omega) 50 (by omega)) (fun x1 p1 dC dM ca=>?_);simp;(try simp(disch:=omega)only[wrap64]);(try(refine gen2 ?_ ?_<;>intro hq<;>try simp at hq)))|(refine aD 0 rfl rfl (iq b hb _ (by omega) [0,15,1,6,14,-1] (by simp) (by simp)) (fun x1 p1 dC dM ca=>?_);simp;(try simp(disch:=omega)only[wrap64]);(try(refine gen2 ?_ ?_<;>intro hq<;>try simp at hq)))|(refine aD 0 rfl rfl (iq b hb _ (by omega) [1000,-1,9223372036854775807,5] (by simp) (by simp)) (fun x1 p1 dC dM ca=>?_);simp;(try simp(disch:=omega)only[wrap64]);(try(refine gen2 ?_ ?_<;>intro hq<;>try simp at hq)))|(refine aD 0 rfl rfl (Cd b hb _ (by omega) _ (by omega)) (fun x1 p1 dC dM ca=>?_);simp;(try simp(disch:=omega)only[wrap64]);(try(refine gen2 ?_ ?_<;>intro hq<;>try simp at hq)))|((first|(refine aD 0 rfl rfl (HQ b hb _ (by omega) [[88],[120,121],[],[120]] (by simp) (by simp)) (fun x p1 hx dM ca=>?_);(have Jj:x.length<=2:=by simp at hx;rcases hx with rfl|rfl|rfl|rfl<;>simp))|(refine aD 0 rfl rfl (FV b hb _ (by omega)) (fun t p1 ht dM ca=>?_);replace ht:=dp ht));simp)|refine TX.rs (fun _=>false) fun K hK=>?_|refine TX.fm (fun _=>false) fun K hK=>?_|refine TX.cond rfl (fun aq=>?_) (fun aq=>absurd aq (by decide))|refine TX.cond rfl (fun aq=>absurd aq (by decide)) (fun aq=>?_)|refine TX.seq ?_|refine TX.block ?_|refine TX.skip ?_|refine EX.jd ?_|refine EX.iN ?_
 all_goals(
  refine TX.ret ?_;repeat' first|refine EX.lW ?_|refine EX.ig ?_|refine EX.eZ ?_|refine EX.lX ?_
  apply EX.y9 (ks:=[])
  case he=>exact Or.inr rfl
  case mJ=>simp[ay,dS,Tryz.results36]<;>rfl
  case hv=>first|(dsimp only[Av.one];exact rfl)|dsimp only[Av.one]
  case hx=>repeat' first|exact ea.var _|exact bk.yd _|exact cP.var _|exact eJ.row _|exact cP.row _|exact aZ.nil|exact aY.nil|exact a6.nil|exact aZ.map _|exact aY.map _|exact a6.map _|exact bk.int _|exact bk.str _|exact bk.bool _|apply bk.p2|apply bk.p3|apply bk.tm|apply bk.ty|apply cP.node|apply eJ.of|apply aZ.cons|apply aY.cons|apply a6.cons|apply bk.wP|apply bk.ye|apply bk.yf|apply ea.node|apply aZ.app|apply aY.app|apply a6.app
  case hA=>exact rfl
  case l7=>simp
  case hV=>exact rfl
  case h1=>omega
  case h2=>omega
  case hg=>simp[fg,cQ,cS,j7]<;>omega)
end Go.Proofs.YtloolmchekcmeaaGreat
namespace Go.Proofs.YtloolmchekcmeaaGreat
attribute [-simp] Go.Av.ic Go.Av.ck Go.Av.bK Go.Av.back Go.Av.fD Go.Av.one Go.Av.dJ Go.Av.yH Go.Av.fb Go.Av.AV.eH Go.Av.CV.eH Go.Av.iX Go.Av.AV.dO Go.Av.CV.dO
open Go Go.Av
attribute [local irreducible] T ah TX EX LX bB dn bW cx ie aG.kind aG.kids al.kind al.name al.num al.ty al.fr al.label al.kids
attribute [local simp] aL au
set_option maxHeartbeats 16000000
set_option maxRecDepth 8000
theorem DQ (k:Int) (l:List (List DV)):ah ZA 124 [.i k,.l l] [] (.agg [.d (.i k),.d (.str []),.d (.i 0),.d (.i 0),.d (.sl []),.d (.i 0),.d (.sl []),.d (.i 0),.d (.sl l)]) [] []:=by
 refine ah.ob Tryz.func124 Tryz.ntmps124 rfl ?_;repeat' first|(refine ab (hK _ ?_);clear hK K)|(refine ae ?_;simp;(try(refine gen2 ?_ ?_<;>intro hq<;>try simp at hq)))|(refine T.ret (aB.val (Or.inr rfl) ?_)<;>simp[ay,Tryz.results124]<;>omega)|refine T.r0 fun K hK=>?_
theorem HT (b:List Int) (hb:okB b) (ctx:List dt) (s t:aG) (hs:fE s<=100) (hl:ctx.length<=1000) (d:Int) (hd:-1000<=d) (Ro:d<=1000) (N B p:Nat) (hp:p+N+1<=1099511627776)
  (hm:∀(c:UInt8) (p:Nat),p+N<=1099511627776->bB ZA 86 [.l (ctx.map iC++[iC ⟨[c],s⟩]),dF t,.i d] b p N (RV cL vJ fun e=>e9 e<=B)):
  bB ZA 126 [kN ctx,dF s,dF t,.i d] b p (N+1) (RV cL vJ fun e=>e9 e<=B+102):=by
 have B5:=bX s (by omega);refine bB.cA Tryz.func126 (by kernel_rfl) rfl (by kernel_rfl) (by simp[Tryz.ntmps126]) ?_;rw[Tryz.ntmps126];repeat' first|((first|refine ab (hK _ ?_)|refine aC (hK _ ?_));clear hK K)|((first|refine ae ?_|refine aI ?_|refine aa rfl (B5) ?_|refine aa rfl (zx ctx _ s (by omega)) ?_);simp;(try simp(disch:=omega)only[wrap64]);(try(refine gen2 ?_ ?_<;>intro hq<;>try simp at hq)))|(refine aD 0 rfl rfl (hm _ _ (by omega)) (fun x1 p1 dC dM ca=>?_);simp;(try simp(disch:=omega)only[wrap64]);(try(refine gen2 ?_ ?_<;>intro hq<;>try simp at hq)))|(refine aD 0 rfl rfl (HQ b hb _ (by omega) [[120],[121],[122],[102]] (by simp) (by simp)) (fun x p1 hx dM ca=>?_);(obtain⟨c,rfl⟩:∃c,x=[c]:=by simp at hx;rcases hx with rfl|rfl|rfl|rfl<;>exact⟨_,rfl⟩);simp)|refine TX.rd (id:=2) mixed (fun _=>false) [10,13] (by kernel_rfl) fun K hK=>?_|refine TX.rs (fun _=>false) fun K hK=>?_
 have GQ:=eK s
 all_goals(
  refine TX.ret ?_;repeat' first|refine EX.lW ?_|refine EX.ig ?_|refine EX.eZ ?_|refine EX.lX ?_
  apply EX.y9 (ks:=[])
  case he=>exact Or.inr rfl
  case mJ=>simp[ay,dS,Tryz.results126]<;>rfl
  case hv=>first|(dsimp only[Av.one];exact rfl)|dsimp only[Av.one]
  case hx=>repeat' first|exact ea.var _|exact bk.yd _|exact cP.var _|exact eJ.row _|exact cP.row _|exact aZ.nil|exact aY.nil|exact a6.nil|exact aZ.map _|exact aY.map _|exact a6.map _|exact bk.int _|exact bk.str _|exact bk.bool _|apply bk.p2|apply bk.p3|apply bk.tm|apply bk.ty|apply cP.node|apply eJ.of|apply aZ.cons|apply aY.cons|apply a6.cons|apply bk.wP|apply bk.ye|apply bk.yf|apply ea.node|apply aZ.app|apply aY.app|apply a6.app
  case hA=>exact rfl
  case l7=>simp
  case hV=>exact rfl
  case h1=>omega
  case h2=>omega
  case hg=>simp[fg,cQ,cS,fa, *]<;>omega)
theorem Cg (b:List Int) (hb:okB b) (ctx:List dt) (hl:ctx.length<=1000) (Jf:∀u∈ctx,u.name.length<=10/\fE u.ty<=1000) (t:aG) (bM:ak 4 t=true) (d:Int) (hd:-1000<=d) (Ro:d<=1000) (N B p:Nat) (hp:p+3*N+3000<=1099511627776)
  (h1:1<d->∀(t':aG),ak 4 t'=true->∀p,p+N<=1099511627776->bB ZA 86 [kN ctx,dF t',.i (d-1)] b p N (RV cL vJ fun e=>e9 e<=B))
  (Te:1<d->∀(s t':aG),ak 4 s=true->ak 4 t'=true->∀p,p+N<=1099511627776->bB ZA 126 [kN ctx,dF s,dF t',.i (d-1)] b p N (RV cL vJ fun e=>e9 e<=B))
  (h2:∀u∈t.kids,∀p,p+N<=1099511627776->bB ZA 86 [kN ctx,dF u,.i (d-1)] b p N (RV cL vJ fun e=>e9 e<=B))
  (Tf:∀u∈t.kids,∀v∈t.kids,∀p,p+N<=1099511627776->bB ZA 126 [kN ctx,dF u,dF v,.i (d-1)] b p N (RV cL vJ fun e=>e9 e<=B)):
  bB ZA 86 [kN ctx,dF t,.i d] b p (3*N+3000) (RV cL vJ fun e=>e9 e<=3*B+100):=by
 have jE:=dp bM;have LP:=fun p hp=>jM b hb 4 bt p tM hp
 simp only[dF,aG.b4,aG.bP,ZB]at LP;have hint:=pJ;have ew:=na;have oT:=lJ;have Ce:=xj;have vd:=DQ;refine bB.cA Tryz.func86 (by kernel_rfl) rfl (by kernel_rfl) (by simp[Tryz.ntmps86]) ?_;rw[Tryz.ntmps86];repeat' first|(refine ab (hK _ ?_);clear hK K)|(refine ae ?_;simp;(try simp(disch:=omega)only[wrap64]);(try(refine gen2 ?_ ?_<;>intro hq<;>try simp at hq)))|refine TX.rs (fun _=>false) fun K hK=>?_|refine TX.seq ?_|refine TX.block ?_
 refine TX.gy (fun x:Nat×Nat×List (List CV)=>⟨[(0,.c (.ptr 0 0)),(1,kN ctx),(3,.i d),(6,.c (.ptr 1 0)),(8,.c (.ptr 2 0)),(9,.i ((x.1:Int)-1))],(rd b x.2.1).map CV.d::(dF t).cells::[.d (.i 0),.d (.str []),.d (.i 0),.d (.i 0),.nil,.d (.i 0),.nil,.d (.i 0),.nil]::x.2.2,[]⟩) (fun x=>x.1) (fun x=>x.1<=ctx.length/\p<=x.2.1/\x.2.1+x.1<=p+ctx.length) (fun x hx=>?_) (ctx.length,p,[]) (by simp) (by simp);obtain⟨j,q1,G⟩:=x;obtain⟨hj,v7,PY⟩:=hx;dsimp only at hj v7 PY⊢;cases j with
 |succ k=>
  have hk:k<ctx.length:=by omega
  have e1:((k:Int)+1-1)=k:=by omega
  have e2:¬((k:Int)<0):=by omega
  obtain⟨u,ht⟩:=bR hk;have eQ:u∈ctx:=List.mem_of_getElem? ht;have bf:ctx[k]=u:=by rw[List.getElem?_eq_getElem hk]at ht;exact Option.some.inj ht
  have gP:ctx.drop k=u::ctx.drop (k+1):=by rw[List.drop_eq_getElem_cons hk,bf]
  have hu:=Jf u eQ;have ld:=zw ctx u.name (by omega) (fun v hv=>by have:=Jf v hv;omega);cases hr:cK ctx u.name with
  |none=>
   rw[hr]at ld;dsimp only at ld;have hv:=gp aW (by simp[cQ,cS]);rw[DA]at hv;repeat' first|(refine ab (hK _ ?_);clear hK K)|((first|refine ae ?_|refine aa rfl (ld) ?_|(refine aa ?_ (hv) ?_;(focus(solve|simp[hk,bf,e1,e2,iC]))));simp[hk,bf,e1,e2,iC];(try simp(disch:=omega)only[wrap64]);(try(refine gen2 ?_ ?_<;>intro hq<;>try simp[hk,bf,e1,e2,iC]at hq)))|(refine aD 0 rfl rfl (eh b hb _ (by omega) 3 (by omega)) (fun x1 p1 dC dM ca=>?_);simp[hk,bf,e1,e2,iC];(try simp(disch:=omega)only[wrap64]);(try(refine gen2 ?_ ?_<;>intro hq<;>try simp[hk,bf,e1,e2,iC]at hq)))|(refine EX.next (k,_,_) (by dsimp only;omega) ⟨by dsimp only;omega,by dsimp only;omega,by dsimp only;omega⟩ ⟨rfl,rfl,?_⟩;simp(disch:=omega) [wrap64])|refine TX.rs (fun _=>false) fun K hK=>?_|refine TX.fm (fun _=>false) fun K hK=>?_|refine TX.cond rfl (fun aq=>?_) (fun aq=>absurd aq (by decide))|refine TX.cond rfl (fun aq=>absurd aq (by decide)) (fun aq=>?_)|refine TX.seq ?_|refine TX.block ?_|refine TX.skip ?_|refine EX.jd ?_|refine EX.iN ?_
  |some tu=>
   rw[hr]at ld;dsimp only at ld;obtain⟨bd,N9,rfl,_⟩:=pC hr;have PZ:=Jf bd N9;have hv:=gp bd.ty (by omega);cases Rq:ak 4 bd.ty with
   |false=>
    rw[Rq]at hv;repeat' first|(refine ab (hK _ ?_);clear hK K)|((first|refine ae ?_|refine aa rfl (ld) ?_|refine aa rfl (hv) ?_);simp[hk,bf,e1,e2,iC];(try simp(disch:=omega)only[wrap64]);(try(refine gen2 ?_ ?_<;>intro hq<;>try simp[hk,bf,e1,e2,iC]at hq)))|(refine aD 0 rfl rfl (eh b hb _ (by omega) 3 (by omega)) (fun x1 p1 dC dM ca=>?_);simp[hk,bf,e1,e2,iC];(try simp(disch:=omega)only[wrap64]);(try(refine gen2 ?_ ?_<;>intro hq<;>try simp[hk,bf,e1,e2,iC]at hq)))|(refine EX.next (k,_,_) (by dsimp only;omega) ⟨by dsimp only;omega,by dsimp only;omega,by dsimp only;omega⟩ ⟨rfl,rfl,?_⟩;simp(disch:=omega) [wrap64])|refine TX.rs (fun _=>false) fun K hK=>?_|refine TX.fm (fun _=>false) fun K hK=>?_|refine TX.cond rfl (fun aq=>?_) (fun aq=>absurd aq (by decide))|refine TX.cond rfl (fun aq=>absurd aq (by decide)) (fun aq=>?_)|refine TX.seq ?_|refine TX.block ?_|refine TX.skip ?_|refine EX.jd ?_|refine EX.iN ?_
   |true=>
    rw[Rq]at hv;have oZ:=c6 4 bd.ty t (by omega) Rq bM;cases Tg:aE bd.ty t with
    |false=>
     rw[Tg]at oZ;repeat' first|(refine ab (hK _ ?_);clear hK K)|((first|refine ae ?_|refine aa rfl (ld) ?_|refine aa rfl (hv) ?_|refine aa rfl (oZ) ?_);simp[hk,bf,e1,e2,iC];(try simp(disch:=omega)only[wrap64]);(try(refine gen2 ?_ ?_<;>intro hq<;>try simp[hk,bf,e1,e2,iC]at hq)))|(refine aD 0 rfl rfl (eh b hb _ (by omega) 3 (by omega)) (fun x1 p1 dC dM ca=>?_);simp[hk,bf,e1,e2,iC];(try simp(disch:=omega)only[wrap64]);(try(refine gen2 ?_ ?_<;>intro hq<;>try simp[hk,bf,e1,e2,iC]at hq)))|(refine EX.next (k,_,_) (by dsimp only;omega) ⟨by dsimp only;omega,by dsimp only;omega,by dsimp only;omega⟩ ⟨rfl,rfl,?_⟩;simp(disch:=omega) [wrap64])|refine TX.rs (fun _=>false) fun K hK=>?_|refine TX.fm (fun _=>false) fun K hK=>?_|refine TX.cond rfl (fun aq=>?_) (fun aq=>absurd aq (by decide))|refine TX.cond rfl (fun aq=>absurd aq (by decide)) (fun aq=>?_)|refine TX.seq ?_|refine TX.block ?_|refine TX.skip ?_|refine EX.jd ?_|refine EX.iN ?_
    |true=>
     rw[Tg]at oZ;repeat' first|(refine ab (hK _ ?_);clear hK K)|((first|refine ae ?_|refine aa rfl (ld) ?_|refine aa rfl (hv) ?_|refine aa rfl (oZ) ?_);simp[hk,bf,e1,e2,iC];(try simp(disch:=omega)only[wrap64]);(try(refine gen2 ?_ ?_<;>intro hq<;>try simp[hk,bf,e1,e2,iC]at hq)))|(refine aD 0 rfl rfl (eh b hb _ (by omega) 3 (by omega)) (fun x1 p1 dC dM ca=>?_);simp[hk,bf,e1,e2,iC];(try simp(disch:=omega)only[wrap64]);(try(refine gen2 ?_ ?_<;>intro hq<;>try simp[hk,bf,e1,e2,iC]at hq)))|(refine EX.next (k,_,_) (by dsimp only;omega) ⟨by dsimp only;omega,by dsimp only;omega,by dsimp only;omega⟩ ⟨rfl,rfl,?_⟩;simp(disch:=omega) [wrap64])|refine TX.rs (fun _=>false) fun K hK=>?_|refine TX.fm (fun _=>false) fun K hK=>?_|refine TX.cond rfl (fun aq=>?_) (fun aq=>absurd aq (by decide))|refine TX.cond rfl (fun aq=>absurd aq (by decide)) (fun aq=>?_)|refine TX.seq ?_|refine TX.block ?_|refine TX.skip ?_|refine EX.jd ?_|refine EX.iN ?_
     all_goals(
      refine TX.ret ?_;repeat' first|refine EX.lW ?_|refine EX.ig ?_|refine EX.eZ ?_|refine EX.lX ?_
      apply EX.y9 (ks:=[])
      case he=>exact Or.inr rfl
      case mJ=>simp[ay,dS,Tryz.results86]<;>rfl
      case hv=>first|(dsimp only[Av.one];exact rfl)|dsimp only[Av.one]
      case hx=>repeat' first|exact ea.var _|exact bk.yd _|exact cP.var _|exact eJ.row _|exact cP.row _|exact aZ.nil|exact aY.nil|exact a6.nil|exact aZ.map _|exact aY.map _|exact a6.map _|exact bk.int _|exact bk.str _|exact bk.bool _|apply bk.p2|apply bk.p3|apply bk.tm|apply bk.ty|apply cP.node|apply eJ.of|apply aZ.cons|apply aY.cons|apply a6.cons|apply bk.wP|apply bk.ye|apply bk.yf|apply ea.node|apply aZ.app|apply aY.app|apply a6.app
      case hA=>exact rfl
      case l7=>simp
      case hV=>exact rfl
      case h1=>omega
      case h2=>omega
      case hg=>(try simp[fg,cQ,cS,fa])<;>omega)
 |zero=>
  obtain⟨tk,tl⟩:=t;obtain⟨_,_,Bg,C5,l7⟩:=eg bM;simp only[aG.bP,aG.b4]at Bg C5 l7 h2 Tf;cases tl with
  |nil=>
   have nc:¬tk=4:=fun h=>by rw[h]at Bg;simp[cy]at Bg
   have nf:¬tk=5:=fun h=>by rw[h]at Bg;simp[cy]at Bg
   by_cases e6:1<d
   ·have mB:=h1 e6;have LQ:=Te e6;have Of:=mB cm wR;have Og:=mB bt tM;simp only[dF,aG.b4,aG.bP,ZB]at Of Og;have B5:=bX (.mk tk []) (by omega);have yi:=fun p hp=>jM b hb 4 (.mk tk []) p bM hp
    simp only[dF,aG.b4,aG.bP,ZC,ZB,aL]at B5 yi;have Oh:=mB (.mk tk []) bM;have HU:=fun a ha=>LQ a (.mk tk []) ha bM
    simp only[dF,aG.b4,aG.bP,ZC,ZB,aL]at Oh HU;repeat' first|((first|refine ab (hK _ ?_)|refine aC (hK _ ?_)|refine bc (hK _ ?_));clear hK K)|((first|refine ae ?_|refine aI ?_|refine bw ?_|refine aa rfl (B5) ?_|refine aa rfl (hint) ?_|refine aa rfl (ew) ?_|refine aa rfl (oT) ?_|refine aa rfl (Ce _) ?_|refine aa rfl (vd _ _) ?_);simp[e6,nc,nf];(try simp(disch:=omega)only[wrap64]);(try(refine gen2 ?_ ?_<;>intro hq<;>try simp[e6,nc,nf]at hq)))|(refine aD 0 rfl rfl (eh b hb _ (by omega) 9 (by omega)) (fun x1 p1 dC dM ca=>?_);simp[e6,nc,nf];(try simp(disch:=omega)only[wrap64]);(try(refine gen2 ?_ ?_<;>intro hq<;>try simp[e6,nc,nf]at hq)))|(refine aD 0 rfl rfl (eh b hb _ (by omega) 3 (by omega)) (fun x1 p1 dC dM ca=>?_);simp[e6,nc,nf];(try simp(disch:=omega)only[wrap64]);(try(refine gen2 ?_ ?_<;>intro hq<;>try simp[e6,nc,nf]at hq)))|(refine aD 0 rfl rfl (eh b hb _ (by omega) 2 (by omega)) (fun x1 p1 dC dM ca=>?_);simp[e6,nc,nf];(try simp(disch:=omega)only[wrap64]);(try(refine gen2 ?_ ?_<;>intro hq<;>try simp[e6,nc,nf]at hq)))|(refine aD 0 rfl rfl (jN b hb 1 (by omega) _ (by omega)) (fun x1 p1 dC dM ca=>?_);simp[e6,nc,nf];(try simp(disch:=omega)only[wrap64]);(try(refine gen2 ?_ ?_<;>intro hq<;>try simp[e6,nc,nf]at hq)))|(refine aD 0 rfl rfl (jN b hb 2 (by omega) _ (by omega)) (fun x1 p1 dC dM ca=>?_);simp[e6,nc,nf];(try simp(disch:=omega)only[wrap64]);(try(refine gen2 ?_ ?_<;>intro hq<;>try simp[e6,nc,nf]at hq)))|(refine aD 0 rfl rfl (yi _ (by omega)) (fun x1 p1 dC dM ca=>?_);simp[e6,nc,nf];(try simp(disch:=omega)only[wrap64]);(try(refine gen2 ?_ ?_<;>intro hq<;>try simp[e6,nc,nf]at hq)))|(refine aD 0 rfl rfl (LP _ (by omega)) (fun x1 p1 dC dM ca=>?_);simp[e6,nc,nf];(try simp(disch:=omega)only[wrap64]);(try(refine gen2 ?_ ?_<;>intro hq<;>try simp[e6,nc,nf]at hq)))|(refine aD 0 rfl rfl (jM b hb 4 _ _ (by assumption) (by omega)) (fun x1 p1 dC dM ca=>?_);simp[e6,nc,nf];(try simp(disch:=omega)only[wrap64]);(try(refine gen2 ?_ ?_<;>intro hq<;>try simp[e6,nc,nf]at hq)))|(refine aD 0 rfl rfl (iq b hb _ (by omega) [1,2,0,999,5] (by simp) (by simp)) (fun x1 p1 dC dM ca=>?_);simp[e6,nc,nf];(try simp(disch:=omega)only[wrap64]);(try(refine gen2 ?_ ?_<;>intro hq<;>try simp[e6,nc,nf]at hq)))|(refine aD 0 rfl rfl (Of _ (by omega)) (fun x1 p1 dC dM ca=>?_);simp[e6,nc,nf];(try simp(disch:=omega)only[wrap64]);(try(refine gen2 ?_ ?_<;>intro hq<;>try simp[e6,nc,nf]at hq)))|(refine aD 0 rfl rfl (Og _ (by omega)) (fun x1 p1 dC dM ca=>?_);simp[e6,nc,nf];(try simp(disch:=omega)only[wrap64]);(try(refine gen2 ?_ ?_<;>intro hq<;>try simp[e6,nc,nf]at hq)))|(refine aD 0 rfl rfl (Oh _ (by omega)) (fun x1 p1 dC dM ca=>?_);simp[e6,nc,nf];(try simp(disch:=omega)only[wrap64]);(try(refine gen2 ?_ ?_<;>intro hq<;>try simp[e6,nc,nf]at hq)))|(refine aD 0 rfl rfl (mB _ (by assumption) _ (by omega)) (fun x1 p1 dC dM ca=>?_);simp[e6,nc,nf];(try simp(disch:=omega)only[wrap64]);(try(refine gen2 ?_ ?_<;>intro hq<;>try simp[e6,nc,nf]at hq)))|(refine aD 0 rfl rfl (HU _ (by assumption) _ (by omega)) (fun x1 p1 dC dM ca=>?_);simp[e6,nc,nf];(try simp(disch:=omega)only[wrap64]);(try(refine gen2 ?_ ?_<;>intro hq<;>try simp[e6,nc,nf]at hq)))|refine TX.rd (id:=10) mixed (fun _=>false) [6,9,12] (by kernel_rfl) fun K hK=>?_|refine TX.mK (id:=12) mixed (fun _=>false) [5,11,17,20] [8,14] 12 [0] (by kernel_rfl) fun K hK=>?_|refine TX.mK (id:=15) mixed (fun _=>false) [6,11,14,17] [10] 7 [0] (by kernel_rfl) fun K hK=>?_|refine TX.rs (fun _=>false) fun K hK=>?_|refine TX.cond rfl (fun aq=>?_) (fun aq=>absurd aq (by decide))|refine TX.cond rfl (fun aq=>absurd aq (by decide)) (fun aq=>?_)|refine TX.seq ?_|refine TX.block ?_|refine TX.skip ?_|refine TX.exit ?_|refine EX.jd ?_|refine EX.pE ?_|refine EX.iN ?_|refine EX.lG ?_|refine EX.HA ?_
    all_goals(
     refine TX.ret ?_;repeat' first|refine EX.lW ?_|refine EX.ig ?_|refine EX.eZ ?_|refine EX.lX ?_
     apply EX.y9 (ks:=[])
     case he=>exact Or.inr rfl
     case mJ=>simp[ay,dS,Tryz.results86]<;>rfl
     case hv=>first|(dsimp only[Av.one];exact rfl)|dsimp only[Av.one]
     case hx=>repeat' first|exact ea.var _|exact bk.yd _|exact cP.var _|exact eJ.row _|exact cP.row _|exact aZ.nil|exact aY.nil|exact a6.nil|exact aZ.map _|exact aY.map _|exact a6.map _|exact bk.int _|exact bk.str _|exact bk.bool _|apply bk.p2|apply bk.p3|apply bk.tm|apply bk.ty|apply cP.node|apply eJ.of|apply aZ.cons|apply aY.cons|apply a6.cons|apply bk.wP|apply bk.ye|apply bk.yf|apply ea.node|apply aZ.app|apply aY.app|apply a6.app
     case hA=>exact rfl
     case l7=>simp
     case hV=>exact rfl
     case h1=>omega
     case h2=>omega
     case hg=>(try simp[fg,cQ,cS,fa])<;>omega)
   ·have B5:=bX (.mk tk []) (by omega);have yi:=fun p hp=>jM b hb 4 (.mk tk []) p bM hp
    simp only[dF,aG.b4,aG.bP,ZC,ZB,aL]at B5 yi;repeat' first|(refine ab (hK _ ?_);clear hK K)|((first|refine ae ?_|refine aa rfl (oT) ?_|refine aa rfl (Ce _) ?_);simp[e6,nc,nf];(try simp(disch:=omega)only[wrap64]);(try(refine gen2 ?_ ?_<;>intro hq<;>try simp[e6,nc,nf]at hq)))|(refine aD 0 rfl rfl (eh b hb _ (by omega) 3 (by omega)) (fun x1 p1 dC dM ca=>?_);simp[e6,nc,nf];(try simp(disch:=omega)only[wrap64]);(try(refine gen2 ?_ ?_<;>intro hq<;>try simp[e6,nc,nf]at hq)))|(refine aD 0 rfl rfl (iq b hb _ (by omega) [1,2,0,999,5] (by simp) (by simp)) (fun x1 p1 dC dM ca=>?_);simp[e6,nc,nf];(try simp(disch:=omega)only[wrap64]);(try(refine gen2 ?_ ?_<;>intro hq<;>try simp[e6,nc,nf]at hq)))|refine TX.rs (fun _=>false) fun K hK=>?_|refine TX.cond rfl (fun aq=>?_) (fun aq=>absurd aq (by decide))|refine TX.cond rfl (fun aq=>absurd aq (by decide)) (fun aq=>?_)|refine TX.seq ?_|refine TX.block ?_|refine TX.skip ?_|refine TX.exit ?_|refine EX.jd ?_|refine EX.pE ?_|refine EX.iN ?_|refine EX.lG ?_|refine EX.HA ?_
    all_goals(
     refine TX.ret ?_;repeat' first|refine EX.lW ?_|refine EX.ig ?_|refine EX.eZ ?_|refine EX.lX ?_
     apply EX.y9 (ks:=[])
     case he=>exact Or.inr rfl
     case mJ=>simp[ay,dS,Tryz.results86]<;>rfl
     case hv=>first|(dsimp only[Av.one];exact rfl)|dsimp only[Av.one]
     case hx=>repeat' first|exact ea.var _|exact bk.yd _|exact cP.var _|exact eJ.row _|exact cP.row _|exact aZ.nil|exact aY.nil|exact a6.nil|exact aZ.map _|exact aY.map _|exact a6.map _|exact bk.int _|exact bk.str _|exact bk.bool _|apply bk.p2|apply bk.p3|apply bk.tm|apply bk.ty|apply cP.node|apply eJ.of|apply aZ.cons|apply aY.cons|apply a6.cons|apply bk.wP|apply bk.ye|apply bk.yf|apply ea.node|apply aZ.app|apply aY.app|apply a6.app
     case hA=>exact rfl
     case l7=>simp
     case hV=>exact rfl
     case h1=>omega
     case h2=>omega
     case hg=>(try simp[fg,cQ,cS,fa])<;>omega)
  |cons s tl=>
   cases tl with
   |nil=>
    exfalso
    simp only[cy]at Bg;split at Bg
    ·simp at Bg
    ·split at Bg<;>simp at Bg
   |cons v tl=>
    cases tl with
    |cons _ _=>exact absurd C5 (by simp)
    |nil=>
     have Rr:=jE;simp only[cQ,cS]at Rr;have Th:=h2 s (by simp);have Ti:=h2 v (by simp);have Tj:=Tf s (by simp) v (by simp);by_cases e6:1<d
     ·have mB:=h1 e6;have LQ:=Te e6;have Of:=mB cm wR;have Og:=mB bt tM;simp only[dF,aG.b4,aG.bP,ZB]at Of Og;have B5:=bX (.mk tk [s,v]) (by omega);have yi:=fun p hp=>jM b hb 4 (.mk tk [s,v]) p bM hp
      simp only[dF,aG.b4,aG.bP,ZC,ZB,aL]at B5 yi;have Oh:=mB (.mk tk [s,v]) bM;have HU:=fun a ha=>LQ a (.mk tk [s,v]) ha bM
      simp only[dF,aG.b4,aG.bP,ZC,ZB,aL]at Oh HU;repeat' first|((first|refine ab (hK _ ?_)|refine aC (hK _ ?_)|refine bc (hK _ ?_));clear hK K)|((first|refine ae ?_|refine aI ?_|refine bw ?_|refine aa rfl (B5) ?_|refine aa rfl (hint) ?_|refine aa rfl (ew) ?_|refine aa rfl (oT) ?_|refine aa rfl (Ce _) ?_|refine aa rfl (vd _ _) ?_);simp[e6];(try simp(disch:=omega)only[wrap64]);(try(refine gen2 ?_ ?_<;>intro hq<;>try simp[e6]at hq)))|(refine aD 0 rfl rfl (eh b hb _ (by omega) 9 (by omega)) (fun x1 p1 dC dM ca=>?_);simp[e6];(try simp(disch:=omega)only[wrap64]);(try(refine gen2 ?_ ?_<;>intro hq<;>try simp[e6]at hq)))|(refine aD 0 rfl rfl (eh b hb _ (by omega) 3 (by omega)) (fun x1 p1 dC dM ca=>?_);simp[e6];(try simp(disch:=omega)only[wrap64]);(try(refine gen2 ?_ ?_<;>intro hq<;>try simp[e6]at hq)))|(refine aD 0 rfl rfl (eh b hb _ (by omega) 2 (by omega)) (fun x1 p1 dC dM ca=>?_);simp[e6];(try simp(disch:=omega)only[wrap64]);(try(refine gen2 ?_ ?_<;>intro hq<;>try simp[e6]at hq)))|(refine aD 0 rfl rfl (jN b hb 1 (by omega) _ (by omega)) (fun x1 p1 dC dM ca=>?_);simp[e6];(try simp(disch:=omega)only[wrap64]);(try(refine gen2 ?_ ?_<;>intro hq<;>try simp[e6]at hq)))|(refine aD 0 rfl rfl (jN b hb 2 (by omega) _ (by omega)) (fun x1 p1 dC dM ca=>?_);simp[e6];(try simp(disch:=omega)only[wrap64]);(try(refine gen2 ?_ ?_<;>intro hq<;>try simp[e6]at hq)))|(refine aD 0 rfl rfl (yi _ (by omega)) (fun x1 p1 dC dM ca=>?_);simp[e6];(try simp(disch:=omega)only[wrap64]);(try(refine gen2 ?_ ?_<;>intro hq<;>try simp[e6]at hq)))|(refine aD 0 rfl rfl (LP _ (by omega)) (fun x1 p1 dC dM ca=>?_);simp[e6];(try simp(disch:=omega)only[wrap64]);(try(refine gen2 ?_ ?_<;>intro hq<;>try simp[e6]at hq)))|(refine aD 0 rfl rfl (jM b hb 4 _ _ (by assumption) (by omega)) (fun x1 p1 dC dM ca=>?_);simp[e6];(try simp(disch:=omega)only[wrap64]);(try(refine gen2 ?_ ?_<;>intro hq<;>try simp[e6]at hq)))|(refine aD 0 rfl rfl (iq b hb _ (by omega) [1,2,0,999,5] (by simp) (by simp)) (fun x1 p1 dC dM ca=>?_);simp[e6];(try simp(disch:=omega)only[wrap64]);(try(refine gen2 ?_ ?_<;>intro hq<;>try simp[e6]at hq)))|(refine aD 0 rfl rfl (Th _ (by omega)) (fun x1 p1 dC dM ca=>?_);simp[e6];(try simp(disch:=omega)only[wrap64]);(try(refine gen2 ?_ ?_<;>intro hq<;>try simp[e6]at hq)))|(refine aD 0 rfl rfl (Ti _ (by omega)) (fun x1 p1 dC dM ca=>?_);simp[e6];(try simp(disch:=omega)only[wrap64]);(try(refine gen2 ?_ ?_<;>intro hq<;>try simp[e6]at hq)))|(refine aD 0 rfl rfl (Tj _ (by omega)) (fun x1 p1 dC dM ca=>?_);simp[e6];(try simp(disch:=omega)only[wrap64]);(try(refine gen2 ?_ ?_<;>intro hq<;>try simp[e6]at hq)))|(refine aD 0 rfl rfl (Of _ (by omega)) (fun x1 p1 dC dM ca=>?_);simp[e6];(try simp(disch:=omega)only[wrap64]);(try(refine gen2 ?_ ?_<;>intro hq<;>try simp[e6]at hq)))|(refine aD 0 rfl rfl (Og _ (by omega)) (fun x1 p1 dC dM ca=>?_);simp[e6];(try simp(disch:=omega)only[wrap64]);(try(refine gen2 ?_ ?_<;>intro hq<;>try simp[e6]at hq)))|(refine aD 0 rfl rfl (Oh _ (by omega)) (fun x1 p1 dC dM ca=>?_);simp[e6];(try simp(disch:=omega)only[wrap64]);(try(refine gen2 ?_ ?_<;>intro hq<;>try simp[e6]at hq)))|(refine aD 0 rfl rfl (mB _ (by assumption) _ (by omega)) (fun x1 p1 dC dM ca=>?_);simp[e6];(try simp(disch:=omega)only[wrap64]);(try(refine gen2 ?_ ?_<;>intro hq<;>try simp[e6]at hq)))|(refine aD 0 rfl rfl (HU _ (by assumption) _ (by omega)) (fun x1 p1 dC dM ca=>?_);simp[e6];(try simp(disch:=omega)only[wrap64]);(try(refine gen2 ?_ ?_<;>intro hq<;>try simp[e6]at hq)))|refine TX.rd (id:=10) mixed (fun _=>false) [6,9,12] (by kernel_rfl) fun K hK=>?_|refine TX.mK (id:=12) mixed (fun _=>false) [5,11,17,20] [8,14] 12 [0] (by kernel_rfl) fun K hK=>?_|refine TX.mK (id:=15) mixed (fun _=>false) [6,11,14,17] [10] 7 [0] (by kernel_rfl) fun K hK=>?_|refine TX.rd (id:=24) mixed (fun _=>false) [12,13] (by kernel_rfl) fun K hK=>?_|refine TX.mK (id:=26) mixed (fun _=>false) [8,17,20] [12,13,14] 9 [0] (by kernel_rfl) fun K hK=>?_|refine TX.rs (fun _=>false) fun K hK=>?_|refine TX.cond rfl (fun aq=>?_) (fun aq=>absurd aq (by decide))|refine TX.cond rfl (fun aq=>absurd aq (by decide)) (fun aq=>?_)|refine TX.seq ?_|refine TX.block ?_|refine TX.skip ?_|refine TX.exit ?_|refine EX.jd ?_|refine EX.pE ?_|refine EX.iN ?_|refine EX.lG ?_|refine EX.HA ?_
      all_goals(
       refine TX.ret ?_;repeat' first|refine EX.lW ?_|refine EX.ig ?_|refine EX.eZ ?_|refine EX.lX ?_
       apply EX.y9 (ks:=[])
       case he=>exact Or.inr rfl
       case mJ=>simp[ay,dS,Tryz.results86]<;>rfl
       case hv=>first|(dsimp only[Av.one];exact rfl)|dsimp only[Av.one]
       case hx=>repeat' first|exact ea.var _|exact bk.yd _|exact cP.var _|exact eJ.row _|exact cP.row _|exact aZ.nil|exact aY.nil|exact a6.nil|exact aZ.map _|exact aY.map _|exact a6.map _|exact bk.int _|exact bk.str _|exact bk.bool _|apply bk.p2|apply bk.p3|apply bk.tm|apply bk.ty|apply cP.node|apply eJ.of|apply aZ.cons|apply aY.cons|apply a6.cons|apply bk.wP|apply bk.ye|apply bk.yf|apply ea.node|apply aZ.app|apply aY.app|apply a6.app
       case hA=>exact rfl
       case l7=>simp
       case hV=>exact rfl
       case h1=>omega
       case h2=>omega
       case hg=>(try simp[fg,cQ,cS,fa])<;>omega)
     ·have B5:=bX (.mk tk [s,v]) (by omega);have yi:=fun p hp=>jM b hb 4 (.mk tk [s,v]) p bM hp
      simp only[dF,aG.b4,aG.bP,ZC,ZB,aL]at B5 yi;repeat' first|((first|refine ab (hK _ ?_)|refine aC (hK _ ?_)|refine bc (hK _ ?_));clear hK K)|((first|refine ae ?_|refine aI ?_|refine bw ?_|refine aa rfl (oT) ?_|refine aa rfl (Ce _) ?_|refine aa rfl (vd _ _) ?_);simp[e6];(try simp(disch:=omega)only[wrap64]);(try(refine gen2 ?_ ?_<;>intro hq<;>try simp[e6]at hq)))|(refine aD 0 rfl rfl (eh b hb _ (by omega) 3 (by omega)) (fun x1 p1 dC dM ca=>?_);simp[e6];(try simp(disch:=omega)only[wrap64]);(try(refine gen2 ?_ ?_<;>intro hq<;>try simp[e6]at hq)))|(refine aD 0 rfl rfl (iq b hb _ (by omega) [1,2,0,999,5] (by simp) (by simp)) (fun x1 p1 dC dM ca=>?_);simp[e6];(try simp(disch:=omega)only[wrap64]);(try(refine gen2 ?_ ?_<;>intro hq<;>try simp[e6]at hq)))|(refine aD 0 rfl rfl (Th _ (by omega)) (fun x1 p1 dC dM ca=>?_);simp[e6];(try simp(disch:=omega)only[wrap64]);(try(refine gen2 ?_ ?_<;>intro hq<;>try simp[e6]at hq)))|(refine aD 0 rfl rfl (Ti _ (by omega)) (fun x1 p1 dC dM ca=>?_);simp[e6];(try simp(disch:=omega)only[wrap64]);(try(refine gen2 ?_ ?_<;>intro hq<;>try simp[e6]at hq)))|(refine aD 0 rfl rfl (Tj _ (by omega)) (fun x1 p1 dC dM ca=>?_);simp[e6];(try simp(disch:=omega)only[wrap64]);(try(refine gen2 ?_ ?_<;>intro hq<;>try simp[e6]at hq)))|refine TX.rd (id:=24) mixed (fun _=>false) [12,13] (by kernel_rfl) fun K hK=>?_|refine TX.mK (id:=26) mixed (fun _=>false) [8,17,20] [12,13,14] 9 [0] (by kernel_rfl) fun K hK=>?_|refine TX.rs (fun _=>false) fun K hK=>?_|refine TX.cond rfl (fun aq=>?_) (fun aq=>absurd aq (by decide))|refine TX.cond rfl (fun aq=>absurd aq (by decide)) (fun aq=>?_)|refine TX.seq ?_|refine TX.block ?_|refine TX.skip ?_|refine TX.exit ?_|refine EX.jd ?_|refine EX.pE ?_|refine EX.iN ?_|refine EX.lG ?_|refine EX.HA ?_
      all_goals(
       refine TX.ret ?_;repeat' first|refine EX.lW ?_|refine EX.ig ?_|refine EX.eZ ?_|refine EX.lX ?_
       apply EX.y9 (ks:=[])
       case he=>exact Or.inr rfl
       case mJ=>simp[ay,dS,Tryz.results86]<;>rfl
       case hv=>first|(dsimp only[Av.one];exact rfl)|dsimp only[Av.one]
       case hx=>repeat' first|exact ea.var _|exact bk.yd _|exact cP.var _|exact eJ.row _|exact cP.row _|exact aZ.nil|exact aY.nil|exact a6.nil|exact aZ.map _|exact aY.map _|exact a6.map _|exact bk.int _|exact bk.str _|exact bk.bool _|apply bk.p2|apply bk.p3|apply bk.tm|apply bk.ty|apply cP.node|apply eJ.of|apply aZ.cons|apply aY.cons|apply a6.cons|apply bk.wP|apply bk.ye|apply bk.yf|apply ea.node|apply aZ.app|apply aY.app|apply a6.app
       case hA=>exact rfl
       case l7=>simp
       case hV=>exact rfl
       case h1=>omega
       case h2=>omega
       case hg=>(try simp[fg,cQ,cS,fa])<;>omega)
def JQ:Nat->Nat|0=>0|m+1=>3*(JQ m+1)+3000
def LR:Nat->Nat|0=>0|m+1=>3*(LR m+102)+100
theorem rv {m n:Nat} {t:aG} (h:m<=n) (ht:ak m t=true):ak n t=true:=by
 induction n with
 |zero=>have:m=0:=by omega
        subst this;exact ht
 |succ n ih=>
  by_cases e:m=n+1
  ·subst e;exact ht
  ·exact cc (ih (by omega))
theorem FX (b:List Int) (hb:okB b):∀(k:Nat) (ctx:List dt) (t:aG) (d:Int) (p:Nat),ctx.length+k<=900->(∀u∈ctx,u.name.length<=10/\fE u.ty<=1000)->-900+(k:Int)<=d->d<=900->
  ((d<=1/\k<=4/\ak k t=true)\/(ak 4 t=true/\d<=(k:Int)-3/\4<=k))->p+JQ k<=1099511627776->bB ZA 86 [kN ctx,dF t,.i d] b p (JQ k) (RV cL vJ fun e=>e9 e<=LR k):=by
 intro k;induction k with
 |zero=>
  intro ctx t d p _ _ _ _ h _;rcases h with⟨_,_,h⟩|⟨_,_,h⟩
  ·simp[ak]at h
  ·omega
 |succ k ih=>
  intro ctx t d p hl Jf hd Ro h hp;have bM:ak 4 t=true:=by
   rcases h with⟨_,h1,h2⟩|⟨h,_,_⟩
   ·exact rv (by omega) h2
   ·exact h
  have hN:JQ (k+1)=3*(JQ k+1)+3000:=rfl;have hB:LR (k+1)=3*(LR k+102)+100:=rfl;rw[hN]at hp⊢;rw[hB];have Oi:∀(s u:aG),ak 4 s=true->((d-1<=1/\k<=4/\ak k u=true)\/(ak 4 u=true/\d-1<=(k:Int)-3/\4<=k))->∀p,p+(JQ k+1)<=1099511627776->bB ZA 126 [kN ctx,dF s,dF u,.i (d-1)] b p (JQ k+1) (RV cL vJ fun e=>e9 e<=LR k+102):=by
   intro s u hs hu p hp;have V1:=dp hs;refine HT b hb ctx s u (by omega) (by omega) (d-1) (by omega) (by omega) (JQ k) (LR k) p (by omega) fun c q hq=>?_
   have:=ih (ctx++[⟨[c],s⟩]) u (d-1) q (by simp;omega) (by
    intro v hv;rcases List.mem_append.1 hv with hv|hv
    ·exact Jf v hv
    ·simp at hv;subst hv;exact⟨by simp,by show fE s<=1000;omega⟩) (by omega) (by omega) hu hq
   rw[kN,List.map_append]at this;exact this
  have mD:∀u∈t.kids,(d-1<=1/\k<=4/\ak k u=true)\/(ak 4 u=true/\d-1<=(k:Int)-3/\4<=k):=by
   intro u hu;rcases h with⟨h1,h2,h3⟩|⟨h1,h2,h3⟩
   ·obtain⟨e,he,_,_,hs⟩:=eg h3;obtain rfl:k=e:=by omega
    exact .inl ⟨by omega,by omega,hs u hu⟩
   ·obtain⟨e,he,_,_,hs⟩:=eg h1;obtain rfl:e=3:=by omega
    by_cases hk:k=3
    ·subst hk;exact .inl ⟨by omega,by omega,hs u hu⟩
    ·exact .inr ⟨rv (by omega) (hs u hu),by omega,by omega⟩
  have nc:∀u∈t.kids,ak 4 u=true:=by
   intro u hu;obtain⟨e,he,_,_,hs⟩:=eg bM;exact rv (by omega) (hs u hu)
  refine(Cg b hb ctx (by omega) Jf t bM d (by omega) (by omega) (JQ k+1) (LR k+102) p (by omega) ?_ ?_ ?_ ?_).mono (by omega) (fun _ h=>h)
  ·intro UW t' LS q hq;have M6:4<=k:=by
    rcases h with⟨h1,_,_⟩|⟨_,h2,h3⟩
    ·omega
    ·omega
   refine(ih ctx t' (d-1) q (by omega) Jf (by omega) (by omega) (.inr ⟨LS,?_,M6⟩) (by omega)).mono (by omega) (fun e h=>by omega);rcases h with⟨h1,_,_⟩|⟨_,h2,_⟩<;>omega
  ·intro UW s t' hs LS q hq;have M6:4<=k:=by
    rcases h with⟨h1,_,_⟩|⟨_,h2,h3⟩
    ·omega
    ·omega
   refine Oi s t' hs (.inr ⟨LS,?_,M6⟩) q hq;rcases h with⟨h1,_,_⟩|⟨_,h2,_⟩<;>omega
  ·intro u hu q hq;exact(ih ctx u (d-1) q (by omega) Jf (by omega) (by omega) (mD u hu) (by omega)).mono (by omega) (fun e h=>by omega)
  ·intro u hu v hv q hq;exact Oi u v (nc u hu) (mD v hv) q hq
theorem DR (b:List Int) (hb:okB b) (ctx:List dt) (hl:ctx.length<=100) (Jf:∀u∈ctx,u.name.length<=10/\fE u.ty<=1000) (t:aG) (ht:ak 4 t=true) (d:Int) (hd:1<=d) (Ro:d<=5) (p:Nat) (hp:p+9849840<=1099511627776):
  bB ZA 86 [kN ctx,dF t,.i d] b p 9849840 (RV cL vJ fun e=>e9 e<=2000000):=
 (FX b hb 8 ctx t d p (by omega) Jf (by omega) (by omega) (.inr ⟨ht,by omega,by omega⟩) hp).mono (by decide) (fun e h=>Nat.le_trans h (by decide))
theorem DT (b:List Int) (hb:okB b) (p:Nat) (hp:p+60000000<=1099511627776):bB ZA 112 [] b p 60000000 (RV cL vJ fun e=>e9 e<=2000000):=by
 obtain⟨N,hN⟩:∃N:Nat,N=9900000:=⟨_,rfl⟩;have UX:N*4=39600000:=by rw[hN]
 refine bB.cA Tryz.func112 (by kernel_rfl) rfl (by kernel_rfl) (by simp[Tryz.ntmps112]) ?_;rw[Tryz.ntmps112];repeat' first|(refine ab (hK _ ?_);clear hK K)|(refine ae ?_;simp;(try simp(disch:=omega)only[wrap64]);(try(refine gen2 ?_ ?_<;>intro hq<;>try simp at hq)))|refine TX.rs (fun _=>false) fun K hK=>?_|refine TX.seq ?_|refine TX.block ?_
 refine TX.gy (fun x:Nat×Nat×List (List CV)=>⟨[(0,.c (.ptr 0 0)),(2,.c (.ptr 1 0)),(3,.i x.1)],(rd b x.2.1).map CV.d::[.d (.i 0),.d (.str []),.d (.i 0),.d (.i 0),.nil,.d (.i 0),.nil,.d (.i 0),.nil]::x.2.2,[]⟩) (fun x=>4-x.1) (fun x=>x.1<=4/\p<=x.2.1/\x.2.1<=p+N*x.1) (fun x hx=>?_) (0,p,[]) (by simp) (by simp);obtain⟨j,q1,G⟩:=x;obtain⟨hj,v7,PY⟩:=hx;dsimp only at hj v7 PY⊢;have UY:N*j<=39600000:=by have:=Nat.mul_le_mul_left N hj;omega
 have Tk:N*(j+1)=N*j+N:=Nat.mul_succ N j;generalize N*j=M at UY Tk PY;generalize UZ:N*(j+1)=M2 at Tk;clear UX;by_cases ax:j<4
 ·have h1:(j:Int)<4:=by omega
  repeat' first|(refine ab (hK _ ?_);clear hK K)|(refine ae ?_;simp[h1];(try simp(disch:=omega)only[wrap64]);(try(refine gen2 ?_ ?_<;>intro hq<;>try simp[h1]at hq)))|((first|(refine aD 0 rfl rfl (iq b hb _ (by omega) [1,2,2,3] (by simp) (by simp)) (fun y p1 hy dM ca=>?_);simp at hy)|refine aD 0 rfl rfl (jN b hb _ (by omega) _ (by omega)) (fun t p1 ht dM ca=>?_)|(refine aD 0 rfl rfl (iq b hb _ (by omega) [4,3,5,4] (by simp) (by simp)) (fun z p1 hz dM ca=>?_);simp at hz)|refine aD 0 rfl rfl (DR b hb [] (by simp) (by simp) _ (by assumption) _ (by omega) (by omega) _ (by omega)) (fun e p1 he dM ca=>?_));simp)|(refine aa rfl (xh _ (by omega)) ?_;cases bV [] e<;>simp)|(refine EX.next (j+1,p1,G++[(cL e).cells,[.d (.i 0),.d (.sl [])]]) (by dsimp only;omega) ?_ ⟨by simp,rfl,?_⟩;(exact⟨by show j+1<=4;omega,by show p<=p1;omega,by show p1<=p+N*(j+1);rw[UZ];omega⟩);simp(disch:=omega) [wrap64])|refine TX.rs (fun _=>false) fun K hK=>?_|refine TX.fm (fun _=>false) fun K hK=>?_|refine TX.cond rfl (fun aq=>?_) (fun aq=>absurd aq (by decide))|refine TX.cond rfl (fun aq=>absurd aq (by decide)) (fun aq=>?_)|refine TX.seq ?_|refine TX.block ?_|refine TX.skip ?_|refine EX.jd ?_|refine EX.iN ?_
  all_goals(
   refine TX.ret ?_;repeat' first|refine EX.lW ?_|refine EX.ig ?_|refine EX.eZ ?_|refine EX.lX ?_
   apply EX.y9 (ks:=[])
   case he=>exact Or.inr rfl
   case mJ=>simp[ay,dS,Tryz.results112]<;>rfl
   case hv=>first|(dsimp only[Av.one];exact rfl)|dsimp only[Av.one]
   case hx=>repeat' first|exact ea.var _|exact bk.yd _|exact cP.var _|exact eJ.row _|exact cP.row _|exact aZ.nil|exact aY.nil|exact a6.nil|exact aZ.map _|exact aY.map _|exact a6.map _|exact bk.int _|exact bk.str _|exact bk.bool _|apply bk.p2|apply bk.p3|apply bk.tm|apply bk.ty|apply cP.node|apply eJ.of|apply aZ.cons|apply aY.cons|apply a6.cons|apply bk.wP|apply bk.ye|apply bk.yf|apply ea.node|apply aZ.app|apply aY.app|apply a6.app
   case hA=>exact rfl
   case l7=>simp
   case hV=>exact rfl
   case h1=>omega
   case h2=>omega
   case hg=>omega)
 ·have h1:¬(j:Int)<4:=by omega
  repeat' first|(refine ab (hK _ ?_);clear hK K)|(refine ae ?_;simp[h1];(try simp(disch:=omega)only[wrap64]);(try(refine gen2 ?_ ?_<;>intro hq<;>try simp[h1]at hq)))|(refine aD 0 rfl rfl (vf b hb _ (by omega)) (fun x1 p1 dC dM ca=>?_);simp[h1];(try simp(disch:=omega)only[wrap64]);(try(refine gen2 ?_ ?_<;>intro hq<;>try simp[h1]at hq)))|refine TX.rs (fun _=>false) fun K hK=>?_|refine TX.cond rfl (fun aq=>absurd aq (by decide)) (fun aq=>?_)|refine TX.seq ?_|refine TX.exit ?_|refine EX.jd ?_|refine EX.pE ?_|refine EX.lG ?_|refine EX.HA ?_
  all_goals(
   refine TX.ret ?_;repeat' first|refine EX.lW ?_|refine EX.ig ?_|refine EX.eZ ?_|refine EX.lX ?_
   apply EX.y9 (ks:=[])
   case he=>exact Or.inr rfl
   case mJ=>simp[ay,dS,Tryz.results112]<;>rfl
   case hv=>first|(dsimp only[Av.one];exact rfl)|dsimp only[Av.one]
   case hx=>repeat' first|exact ea.var _|exact bk.yd _|exact cP.var _|exact eJ.row _|exact cP.row _|exact aZ.nil|exact aY.nil|exact a6.nil|exact aZ.map _|exact aY.map _|exact a6.map _|exact bk.int _|exact bk.str _|exact bk.bool _|apply bk.p2|apply bk.p3|apply bk.tm|apply bk.ty|apply cP.node|apply eJ.of|apply aZ.cons|apply aY.cons|apply a6.cons|apply bk.wP|apply bk.ye|apply bk.yf|apply ea.node|apply aZ.app|apply aY.app|apply a6.app
   case hA=>exact rfl
   case l7=>simp
   case hV=>exact rfl
   case h1=>omega
   case h2=>omega
   case hg=>omega)
theorem yI (b:List Int) (hb:∀n∈b,0<=n/\n<=255):dn ZA 62 [.l (rB b)] (RV cL vJ fun e=>e9 e<=3000000):=by
 obtain⟨b,p,hb,hp,hc⟩:=DO b hb;refine dn.cA Tryz.func62 (by kernel_rfl) rfl (by kernel_rfl) (by simp[Tryz.ntmps62]) ?_;rw[Tryz.ntmps62];repeat' first|(refine ab (hK _ ?_);clear hK K)|(refine ae ?_;simp;(try simp(disch:=omega)only[wrap64]);(try(refine gen2 ?_ ?_<;>intro hq<;>try simp at hq)))|(refine aD 1 rfl rfl (eh b hb _ (by omega) 4 (by omega)) (fun x1 p1 dC dM ca=>?_);simp;(try simp(disch:=omega)only[wrap64]);(try(refine gen2 ?_ ?_<;>intro hq<;>try simp at hq)))|(refine aD 1 rfl rfl (vf b hb _ (by omega)) (fun x1 p1 dC dM ca=>?_);simp;(try simp(disch:=omega)only[wrap64]);(try(refine gen2 ?_ ?_<;>intro hq<;>try simp at hq)))|(refine aD 1 rfl rfl (DT b hb _ (by omega)) (fun x1 p1 dC dM ca=>?_);simp;(try simp(disch:=omega)only[wrap64]);(try(refine gen2 ?_ ?_<;>intro hq<;>try simp at hq)))|(refine aD 1 rfl rfl (Cf b hb _ (by omega) _ (by omega)) (fun x1 p1 dC dM ca=>?_);simp;(try simp(disch:=omega)only[wrap64]);(try(refine gen2 ?_ ?_<;>intro hq<;>try simp at hq)))|(refine BL rfl hc ?_;simp[back])|refine TX.rs (fun _=>false) fun K hK=>?_|refine TX.cond rfl (fun aq=>?_) (fun aq=>absurd aq (by decide))|refine TX.cond rfl (fun aq=>absurd aq (by decide)) (fun aq=>?_)|refine TX.seq ?_|refine TX.skip ?_|refine EX.jd ?_
 all_goals(
  refine TX.ret ?_;repeat' first|refine EX.lW ?_|refine EX.ig ?_|refine EX.eZ ?_|refine EX.lX ?_
  apply EX.KP (ks:=[])
  case he=>exact Or.inr rfl
  case mJ=>simp[ay,dS,Tryz.results62]<;>rfl
  case hv=>first|(dsimp only[Av.one];exact rfl)|dsimp only[Av.one]
  case hx=>repeat' first|exact ea.var _|exact bk.yd _|exact cP.var _|exact eJ.row _|exact cP.row _|exact aZ.nil|exact aY.nil|exact a6.nil|exact aZ.map _|exact aY.map _|exact a6.map _|exact bk.int _|exact bk.str _|exact bk.bool _|apply bk.p2|apply bk.p3|apply bk.tm|apply bk.ty|apply cP.node|apply eJ.of|apply aZ.cons|apply aY.cons|apply a6.cons|apply bk.wP|apply bk.ye|apply bk.yf|apply ea.node|apply aZ.app|apply aY.app|apply a6.app
  case hA=>exact rfl
  case l7=>simp
  case hg=>omega)
end Go.Proofs.YtloolmchekcmeaaGreat
