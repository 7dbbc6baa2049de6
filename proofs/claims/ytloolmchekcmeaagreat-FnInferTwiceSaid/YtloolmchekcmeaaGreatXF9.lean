/- A part. -/
import Derived.Test.YtloolmchekcmeaaGreatXF8
set_option linter.unusedVariables false
set_option linter.unusedSimpArgs false
open Go.Proofs.Tryz renaming prog->Zy
open List renaming map_nil->Zz,map_cons->ZA
namespace Go.Proofs.YtloolmchekcmeaaGreat
attribute [-simp] Go.Av.cW Go.Av.ij Go.Av.cl Go.Av.bO Go.Av.back Go.Av.fD Go.Av.one Go.Av.dt Go.Av.xQ Go.Av.fb Go.Av.AV.eF Go.Av.CV.eF Go.Av.iW Go.Av.AV.dN Go.Av.CV.dN
open Go Go.Av
attribute [local irreducible] T ah TX EX LX bC dk bV ck gp aI.kind aI.kids ao.kind ao.name ao.num ao.ty ao.fr ao.label ao.kids
attribute [local simp] aJ al
set_option maxHeartbeats 16000000
set_option maxRecDepth 8000
theorem uV (b:List Int) (hb:okB b) (p:Nat) (hp:p+500000<=1099511627776):bC Zy 90 [] b p 500000 (RV cM vp fun e=>eR e<=500000):=by
 have BA:=wN;refine bC.cD Tryz.func90 (by kernel_rfl) rfl (by kernel_rfl) (by simp[Tryz.ntmps90]) ?_;rw[Tryz.ntmps90];repeat' first|(refine ab (hK _ ?_);clear hK K)|((first|refine ae ?_|refine aa rfl (BA _) ?_|refine aa rfl (iH _ (by omega)) ?_);simp;(try simp(disch:=omega)only[wrap64]);(try(refine gen2 ?_ ?_<;>intro hq<;>try simp at hq)))|(refine aE 0 rfl rfl (iP b hb _ (by omega) [4,3,5,4,2] (by simp) (by simp)) (fun x p1 hx dO cc=>?_);simp at hx;(have j8:x=4\/x=3\/x=5\/x=2:=by omega);clear hx;rcases j8 with rfl|rfl|rfl|rfl<;>(simp;(try simp(disch:=omega)only[wrap64])))|(refine aE 0 rfl rfl (qg b hb 5 [] _ (by omega) (by simp) (by omega)) (fun x1 p1 dB dO cc=>?_);simp;(try simp(disch:=omega)only[wrap64]);(try(refine gen2 ?_ ?_<;>intro hq<;>try simp at hq)))|(refine aE 0 rfl rfl (qg b hb 4 [] _ (by omega) (by simp) (by omega)) (fun x1 p1 dB dO cc=>?_);simp;(try simp(disch:=omega)only[wrap64]);(try(refine gen2 ?_ ?_<;>intro hq<;>try simp at hq)))|(refine aE 0 rfl rfl (qg b hb 3 [] _ (by omega) (by simp) (by omega)) (fun x1 p1 dB dO cc=>?_);simp;(try simp(disch:=omega)only[wrap64]);(try(refine gen2 ?_ ?_<;>intro hq<;>try simp at hq)))|(refine aE 0 rfl rfl (qg b hb 2 [] _ (by omega) (by simp) (by omega)) (fun x1 p1 dB dO cc=>?_);simp;(try simp(disch:=omega)only[wrap64]);(try(refine gen2 ?_ ?_<;>intro hq<;>try simp at hq)))|refine TX.rs (fun _=>false) fun K hK=>?_|refine TX.cond rfl (fun an=>?_) (fun an=>absurd an (by decide))|refine TX.cond rfl (fun an=>absurd an (by decide)) (fun an=>?_)|refine TX.seq ?_|refine TX.skip ?_|refine EX.iG ?_
 all_goals(
  refine TX.ret ?_;repeat' first|refine EX.lU ?_|refine EX.il ?_|refine EX.e0 ?_|refine EX.lV ?_
  apply EX.yH (ks:=[])
  case he=>exact Or.inr rfl
  case mK=>simp[aA,dW,Tryz.results90]<;>rfl
  case hv=>first|(dsimp only[Av.one];exact rfl)|dsimp only[Av.one]
  case hx=>repeat' first|exact eb.var _|exact bp.xN _|exact cT.var _|exact eH.row _|exact cT.row _|exact bg.nil|exact bf.nil|exact bh.nil|exact bg.map _|exact bf.map _|exact bh.map _|exact bp.int _|exact bp.str _|exact bp.bool _|apply bp.p2|apply bp.p3|apply bp.tm|apply bp.ty|apply cT.node|apply eH.of|apply bg.cons|apply bf.cons|apply bh.cons|apply bp.wz|apply bp.xO|apply bp.xP|apply eb.node|apply bg.app|apply bf.app|apply bh.app
  case hA=>exact rfl
  case l3=>simp
  case hV=>exact rfl
  case h1=>omega
  case h2=>omega
  case hg=>(try simp[fg,cA,cP,eW])<;>omega)
theorem BB (b:List Int) (hb:okB b) (e:ao) (hn:eR e<=1000000000) (p:Nat) (hp:p+400<=1099511627776):bC Zy 36 [cM e] b p 400 (RV cM vp fun u=>eR u<=eR e+100):=by
 have oZ:=lG;have Br:=Ft e (by omega);have Gu:=hn;rw[iJ]at Gu;refine bC.cD Tryz.func36 (by kernel_rfl) rfl (by kernel_rfl) (by simp[Tryz.ntmps36]) ?_;rw[Tryz.ntmps36];repeat' first|(refine ab (hK _ ?_);clear hK K)|((first|refine ae ?_|refine aa rfl (oZ) ?_|refine aa rfl (Br) ?_);simp;(try simp(disch:=omega)only[wrap64]);(try(refine gen2 ?_ ?_<;>intro hq<;>try simp at hq)))|(refine aE 0 rfl rfl (eh b hb _ (by omega) 50 (by omega)) (fun x1 p1 dB dO cc=>?_);simp;(try simp(disch:=omega)only[wrap64]);(try(refine gen2 ?_ ?_<;>intro hq<;>try simp at hq)))|(refine aE 0 rfl rfl (iP b hb _ (by omega) [0,15,1,6,14,-1] (by simp) (by simp)) (fun x1 p1 dB dO cc=>?_);simp;(try simp(disch:=omega)only[wrap64]);(try(refine gen2 ?_ ?_<;>intro hq<;>try simp at hq)))|(refine aE 0 rfl rfl (iP b hb _ (by omega) [1000,-1,9223372036854775807,5] (by simp) (by simp)) (fun x1 p1 dB dO cc=>?_);simp;(try simp(disch:=omega)only[wrap64]);(try(refine gen2 ?_ ?_<;>intro hq<;>try simp at hq)))|(refine aE 0 rfl rfl (Bz b hb _ (by omega) _ (by omega)) (fun x1 p1 dB dO cc=>?_);simp;(try simp(disch:=omega)only[wrap64]);(try(refine gen2 ?_ ?_<;>intro hq<;>try simp at hq)))|((first|(refine aE 0 rfl rfl (Hx b hb _ (by omega) [[88],[120,121],[],[120]] (by simp) (by simp)) (fun x p1 hx dO cc=>?_);(have Jd:x.length<=2:=by simp at hx;rcases hx with rfl|rfl|rfl|rfl<;>simp))|(refine aE 0 rfl rfl (Fs b hb _ (by omega)) (fun t p1 ht dO cc=>?_);replace ht:=dc ht));simp)|refine TX.rs (fun _=>false) fun K hK=>?_|refine TX.eQ (fun _=>false) fun K hK=>?_|refine TX.cond rfl (fun an=>?_) (fun an=>absurd an (by decide))|refine TX.cond rfl (fun an=>absurd an (by decide)) (fun an=>?_)|refine TX.seq ?_|refine TX.block ?_|refine TX.skip ?_|refine EX.iG ?_|refine EX.iv ?_
 all_goals(
  refine TX.ret ?_;repeat' first|refine EX.lU ?_|refine EX.il ?_|refine EX.e0 ?_|refine EX.lV ?_
  apply EX.yH (ks:=[])
  case he=>exact Or.inr rfl
  case mK=>simp[aA,dW,Tryz.results36]<;>rfl
  case hv=>first|(dsimp only[Av.one];exact rfl)|dsimp only[Av.one]
  case hx=>repeat' first|exact eb.var _|exact bp.xN _|exact cT.var _|exact eH.row _|exact cT.row _|exact bg.nil|exact bf.nil|exact bh.nil|exact bg.map _|exact bf.map _|exact bh.map _|exact bp.int _|exact bp.str _|exact bp.bool _|apply bp.p2|apply bp.p3|apply bp.tm|apply bp.ty|apply cT.node|apply eH.of|apply bg.cons|apply bf.cons|apply bh.cons|apply bp.wz|apply bp.xO|apply bp.xP|apply eb.node|apply bg.app|apply bf.app|apply bh.app
  case hA=>exact rfl
  case l3=>simp
  case hV=>exact rfl
  case h1=>omega
  case h2=>omega
  case hg=>simp[fg,cA,cP,iJ]<;>omega)
end Go.Proofs.YtloolmchekcmeaaGreat
namespace Go.Proofs.YtloolmchekcmeaaGreat
attribute [-simp] Go.Av.ij Go.Av.cl Go.Av.bO Go.Av.back Go.Av.fD Go.Av.one Go.Av.dt Go.Av.xQ Go.Av.fb Go.Av.AV.eF Go.Av.CV.eF Go.Av.iW Go.Av.AV.dN Go.Av.CV.dN
open Go Go.Av
attribute [local irreducible] T ah TX EX LX bC dk bV ck gp aI.kind aI.kids ao.kind ao.name ao.num ao.ty ao.fr ao.label ao.kids
attribute [local simp] aJ al
set_option maxHeartbeats 16000000
set_option maxRecDepth 8000
theorem Db (k:Int) (l:List (List DV)):ah Zy 124 [.i k,.l l] [] (.agg [.d (.i k),.d (.str []),.d (.i 0),.d (.i 0),.d (.sl []),.d (.i 0),.d (.sl []),.d (.i 0),.d (.sl l)]) [] []:=by
 refine ah.ob Tryz.func124 Tryz.ntmps124 rfl ?_;repeat' first|(refine ab (hK _ ?_);clear hK K)|(refine ae ?_;simp;(try(refine gen2 ?_ ?_<;>intro hq<;>try simp at hq)))|(refine T.ret (aB.val (Or.inr rfl) ?_)<;>simp[aA,Tryz.results124]<;>omega)|refine T.r0 fun K hK=>?_
theorem HB (b:List Int) (hb:okB b) (ctx:List dF) (s t:aI) (hs:fA s<=100) (hl:ctx.length<=1000) (d:Int) (hd:-1000<=d) (Rk:d<=1000) (N B p:Nat) (hp:p+N+1<=1099511627776)
  (hm:∀(c:UInt8) (p:Nat),p+N<=1099511627776->bC Zy 86 [.l (ctx.map iE++[iE ⟨[c],s⟩]),dE t,.i d] b p N (RV cM vp fun e=>eR e<=B)):
  bC Zy 126 [kL ctx,dE s,dE t,.i d] b p (N+1) (RV cM vp fun e=>eR e<=B+102):=by
 have Br:=bY s (by omega);refine bC.cD Tryz.func126 (by kernel_rfl) rfl (by kernel_rfl) (by simp[Tryz.ntmps126]) ?_;rw[Tryz.ntmps126];repeat' first|((first|refine ab (hK _ ?_)|refine aD (hK _ ?_));clear hK K)|((first|refine ae ?_|refine aH ?_|refine aa rfl (Br) ?_|refine aa rfl (yS ctx _ s (by omega)) ?_);simp;(try simp(disch:=omega)only[wrap64]);(try(refine gen2 ?_ ?_<;>intro hq<;>try simp at hq)))|(refine aE 0 rfl rfl (hm _ _ (by omega)) (fun x1 p1 dB dO cc=>?_);simp;(try simp(disch:=omega)only[wrap64]);(try(refine gen2 ?_ ?_<;>intro hq<;>try simp at hq)))|(refine aE 0 rfl rfl (Hx b hb _ (by omega) [[120],[121],[122],[102]] (by simp) (by simp)) (fun x p1 hx dO cc=>?_);(obtain⟨c,rfl⟩:∃c,x=[c]:=by simp at hx;rcases hx with rfl|rfl|rfl|rfl<;>exact⟨_,rfl⟩);simp)|refine TX.rd (id:=2) mixed (fun _=>false) [10,13] (by kernel_rfl) fun K hK=>?_|refine TX.rs (fun _=>false) fun K hK=>?_
 have Gu:=eI s
 all_goals(
  refine TX.ret ?_;repeat' first|refine EX.lU ?_|refine EX.il ?_|refine EX.e0 ?_|refine EX.lV ?_
  apply EX.yH (ks:=[])
  case he=>exact Or.inr rfl
  case mK=>simp[aA,dW,Tryz.results126]<;>rfl
  case hv=>first|(dsimp only[Av.one];exact rfl)|dsimp only[Av.one]
  case hx=>repeat' first|exact eb.var _|exact bp.xN _|exact cT.var _|exact eH.row _|exact cT.row _|exact bg.nil|exact bf.nil|exact bh.nil|exact bg.map _|exact bf.map _|exact bh.map _|exact bp.int _|exact bp.str _|exact bp.bool _|apply bp.p2|apply bp.p3|apply bp.tm|apply bp.ty|apply cT.node|apply eH.of|apply bg.cons|apply bf.cons|apply bh.cons|apply bp.wz|apply bp.xO|apply bp.xP|apply eb.node|apply bg.app|apply bf.app|apply bh.app
  case hA=>exact rfl
  case l3=>simp
  case hV=>exact rfl
  case h1=>omega
  case h2=>omega
  case hg=>simp[fg,cA,cP,eW, *]<;>omega)
theorem BC (b:List Int) (hb:okB b) (ctx:List dF) (hl:ctx.length<=1000) (I4:∀u∈ctx,u.name.length<=10/\fA u.ty<=1000) (t:aI) (bZ:ak 4 t=true) (d:Int) (hd:-1000<=d) (Rk:d<=1000) (N B p:Nat) (hp:p+3*N+3000<=1099511627776)
  (h1:1<d->∀(t':aI),ak 4 t'=true->∀p,p+N<=1099511627776->bC Zy 86 [kL ctx,dE t',.i (d-1)] b p N (RV cM vp fun e=>eR e<=B))
  (Ta:1<d->∀(s t':aI),ak 4 s=true->ak 4 t'=true->∀p,p+N<=1099511627776->bC Zy 126 [kL ctx,dE s,dE t',.i (d-1)] b p N (RV cM vp fun e=>eR e<=B))
  (h2:∀u∈t.kids,∀p,p+N<=1099511627776->bC Zy 86 [kL ctx,dE u,.i (d-1)] b p N (RV cM vp fun e=>eR e<=B))
  (Tb:∀u∈t.kids,∀v∈t.kids,∀p,p+N<=1099511627776->bC Zy 126 [kL ctx,dE u,dE v,.i (d-1)] b p N (RV cM vp fun e=>eR e<=B)):
  bC Zy 86 [kL ctx,dE t,.i d] b p (3*N+3000) (RV cM vp fun e=>eR e<=3*B+100):=by
 have jo:=dc bZ;have LO:=fun p hp=>jL b hb 4 bw p tI hp
 simp only[dE,aI.bX,aI.bQ,Zz]at LO;have hint:=nc;have er:=nf;have oZ:=lG;have BA:=wN;have uP:=Db;refine bC.cD Tryz.func86 (by kernel_rfl) rfl (by kernel_rfl) (by simp[Tryz.ntmps86]) ?_;rw[Tryz.ntmps86];repeat' first|(refine ab (hK _ ?_);clear hK K)|(refine ae ?_;simp;(try simp(disch:=omega)only[wrap64]);(try(refine gen2 ?_ ?_<;>intro hq<;>try simp at hq)))|refine TX.rs (fun _=>false) fun K hK=>?_|refine TX.seq ?_|refine TX.block ?_
 refine TX.fW (fun x:Nat×Nat×List (List CV)=>⟨[(0,.c (.ptr 0 0)),(1,kL ctx),(3,.i d),(6,.c (.ptr 1 0)),(8,.c (.ptr 2 0)),(9,.i ((x.1:Int)-1))],(rd b x.2.1).map CV.d::(dE t).cells::[.d (.i 0),.d (.str []),.d (.i 0),.d (.i 0),.nil,.d (.i 0),.nil,.d (.i 0),.nil]::x.2.2,[]⟩) (fun x=>x.1) (fun x=>x.1<=ctx.length/\p<=x.2.1/\x.2.1+x.1<=p+ctx.length) (fun x hx=>?_) (ctx.length,p,[]) (by simp) (by simp);obtain⟨j,q1,G⟩:=x;obtain⟨hj,xS,UQ⟩:=hx;dsimp only at hj xS UQ⊢;cases j with
 |succ k=>
  have hk:k<ctx.length:=by omega
  have e1:((k:Int)+1-1)=k:=by omega
  have e2:¬((k:Int)<0):=by omega
  obtain⟨u,ht⟩:=bM hk;have eA:u∈ctx:=List.mem_of_getElem? ht;have aX:ctx[k]=u:=by rw[List.getElem?_eq_getElem hk]at ht;exact Option.some.inj ht
  have gz:ctx.drop k=u::ctx.drop (k+1):=by rw[List.drop_eq_getElem_cons hk,aX]
  have hu:=I4 u eA;have ld:=yR ctx u.name (by omega) (fun v hv=>by have:=I4 v hv;omega);cases hr:dY ctx u.name with
  |none=>
   rw[hr]at ld;dsimp only at ld;have hv:=gh bk (by simp[cA,cP]);rw[CU]at hv;repeat' first|(refine ab (hK _ ?_);clear hK K)|((first|refine ae ?_|refine aa rfl (ld) ?_|(refine aa ?_ (hv) ?_;(focus(solve|simp[hk,aX,e1,e2,iE]))));simp[hk,aX,e1,e2,iE];(try simp(disch:=omega)only[wrap64]);(try(refine gen2 ?_ ?_<;>intro hq<;>try simp[hk,aX,e1,e2,iE]at hq)))|(refine aE 0 rfl rfl (eh b hb _ (by omega) 3 (by omega)) (fun x1 p1 dB dO cc=>?_);simp[hk,aX,e1,e2,iE];(try simp(disch:=omega)only[wrap64]);(try(refine gen2 ?_ ?_<;>intro hq<;>try simp[hk,aX,e1,e2,iE]at hq)))|(refine EX.next (k,_,_) (by dsimp only;omega) ⟨by dsimp only;omega,by dsimp only;omega,by dsimp only;omega⟩ ⟨rfl,rfl,?_⟩;simp(disch:=omega) [wrap64])|refine TX.rs (fun _=>false) fun K hK=>?_|refine TX.eQ (fun _=>false) fun K hK=>?_|refine TX.cond rfl (fun an=>?_) (fun an=>absurd an (by decide))|refine TX.cond rfl (fun an=>absurd an (by decide)) (fun an=>?_)|refine TX.seq ?_|refine TX.block ?_|refine TX.skip ?_|refine EX.iG ?_|refine EX.iv ?_
  |some tu=>
   rw[hr]at ld;dsimp only at ld;obtain⟨bd,N7,rfl,_⟩:=pG hr;have yW:=I4 bd N7;have hv:=gh bd.ty (by omega);cases Rl:ak 4 bd.ty with
   |false=>
    rw[Rl]at hv;repeat' first|(refine ab (hK _ ?_);clear hK K)|((first|refine ae ?_|refine aa rfl (ld) ?_|refine aa rfl (hv) ?_);simp[hk,aX,e1,e2,iE];(try simp(disch:=omega)only[wrap64]);(try(refine gen2 ?_ ?_<;>intro hq<;>try simp[hk,aX,e1,e2,iE]at hq)))|(refine aE 0 rfl rfl (eh b hb _ (by omega) 3 (by omega)) (fun x1 p1 dB dO cc=>?_);simp[hk,aX,e1,e2,iE];(try simp(disch:=omega)only[wrap64]);(try(refine gen2 ?_ ?_<;>intro hq<;>try simp[hk,aX,e1,e2,iE]at hq)))|(refine EX.next (k,_,_) (by dsimp only;omega) ⟨by dsimp only;omega,by dsimp only;omega,by dsimp only;omega⟩ ⟨rfl,rfl,?_⟩;simp(disch:=omega) [wrap64])|refine TX.rs (fun _=>false) fun K hK=>?_|refine TX.eQ (fun _=>false) fun K hK=>?_|refine TX.cond rfl (fun an=>?_) (fun an=>absurd an (by decide))|refine TX.cond rfl (fun an=>absurd an (by decide)) (fun an=>?_)|refine TX.seq ?_|refine TX.block ?_|refine TX.skip ?_|refine EX.iG ?_|refine EX.iv ?_
   |true=>
    rw[Rl]at hv;have rK:=c7 4 bd.ty t (by omega) Rl bZ;cases Tc:aG bd.ty t with
    |false=>
     rw[Tc]at rK;repeat' first|(refine ab (hK _ ?_);clear hK K)|((first|refine ae ?_|refine aa rfl (ld) ?_|refine aa rfl (hv) ?_|refine aa rfl (rK) ?_);simp[hk,aX,e1,e2,iE];(try simp(disch:=omega)only[wrap64]);(try(refine gen2 ?_ ?_<;>intro hq<;>try simp[hk,aX,e1,e2,iE]at hq)))|(refine aE 0 rfl rfl (eh b hb _ (by omega) 3 (by omega)) (fun x1 p1 dB dO cc=>?_);simp[hk,aX,e1,e2,iE];(try simp(disch:=omega)only[wrap64]);(try(refine gen2 ?_ ?_<;>intro hq<;>try simp[hk,aX,e1,e2,iE]at hq)))|(refine EX.next (k,_,_) (by dsimp only;omega) ⟨by dsimp only;omega,by dsimp only;omega,by dsimp only;omega⟩ ⟨rfl,rfl,?_⟩;simp(disch:=omega) [wrap64])|refine TX.rs (fun _=>false) fun K hK=>?_|refine TX.eQ (fun _=>false) fun K hK=>?_|refine TX.cond rfl (fun an=>?_) (fun an=>absurd an (by decide))|refine TX.cond rfl (fun an=>absurd an (by decide)) (fun an=>?_)|refine TX.seq ?_|refine TX.block ?_|refine TX.skip ?_|refine EX.iG ?_|refine EX.iv ?_
    |true=>
     rw[Tc]at rK;repeat' first|(refine ab (hK _ ?_);clear hK K)|((first|refine ae ?_|refine aa rfl (ld) ?_|refine aa rfl (hv) ?_|refine aa rfl (rK) ?_);simp[hk,aX,e1,e2,iE];(try simp(disch:=omega)only[wrap64]);(try(refine gen2 ?_ ?_<;>intro hq<;>try simp[hk,aX,e1,e2,iE]at hq)))|(refine aE 0 rfl rfl (eh b hb _ (by omega) 3 (by omega)) (fun x1 p1 dB dO cc=>?_);simp[hk,aX,e1,e2,iE];(try simp(disch:=omega)only[wrap64]);(try(refine gen2 ?_ ?_<;>intro hq<;>try simp[hk,aX,e1,e2,iE]at hq)))|(refine EX.next (k,_,_) (by dsimp only;omega) ⟨by dsimp only;omega,by dsimp only;omega,by dsimp only;omega⟩ ⟨rfl,rfl,?_⟩;simp(disch:=omega) [wrap64])|refine TX.rs (fun _=>false) fun K hK=>?_|refine TX.eQ (fun _=>false) fun K hK=>?_|refine TX.cond rfl (fun an=>?_) (fun an=>absurd an (by decide))|refine TX.cond rfl (fun an=>absurd an (by decide)) (fun an=>?_)|refine TX.seq ?_|refine TX.block ?_|refine TX.skip ?_|refine EX.iG ?_|refine EX.iv ?_
     all_goals(
      refine TX.ret ?_;repeat' first|refine EX.lU ?_|refine EX.il ?_|refine EX.e0 ?_|refine EX.lV ?_
      apply EX.yH (ks:=[])
      case he=>exact Or.inr rfl
      case mK=>simp[aA,dW,Tryz.results86]<;>rfl
      case hv=>first|(dsimp only[Av.one];exact rfl)|dsimp only[Av.one]
      case hx=>repeat' first|exact eb.var _|exact bp.xN _|exact cT.var _|exact eH.row _|exact cT.row _|exact bg.nil|exact bf.nil|exact bh.nil|exact bg.map _|exact bf.map _|exact bh.map _|exact bp.int _|exact bp.str _|exact bp.bool _|apply bp.p2|apply bp.p3|apply bp.tm|apply bp.ty|apply cT.node|apply eH.of|apply bg.cons|apply bf.cons|apply bh.cons|apply bp.wz|apply bp.xO|apply bp.xP|apply eb.node|apply bg.app|apply bf.app|apply bh.app
      case hA=>exact rfl
      case l3=>simp
      case hV=>exact rfl
      case h1=>omega
      case h2=>omega
      case hg=>(try simp[fg,cA,cP,eW])<;>omega)
 |zero=>
  obtain⟨tk,tl⟩:=t;obtain⟨_,_,AH,Ct,l3⟩:=eg bZ;simp only[aI.bQ,aI.bX]at AH Ct l3 h2 Tb;cases tl with
  |nil=>
   have ng:¬tk=4:=fun h=>by rw[h]at AH;simp[cz]at AH
   have nh:¬tk=5:=fun h=>by rw[h]at AH;simp[cz]at AH
   by_cases e7:1<d
   ·have mu:=h1 e7;have LP:=Ta e7;have Oe:=mu cF wB;have Of:=mu bw tI;simp only[dE,aI.bX,aI.bQ,Zz]at Oe Of;have Br:=bY (.mk tk []) (by omega);have xR:=fun p hp=>jL b hb 4 (.mk tk []) p bZ hp
    simp only[dE,aI.bX,aI.bQ,ZA,Zz,aJ]at Br xR;have Og:=mu (.mk tk []) bZ;have HC:=fun a ha=>LP a (.mk tk []) ha bZ
    simp only[dE,aI.bX,aI.bQ,ZA,Zz,aJ]at Og HC;repeat' first|((first|refine ab (hK _ ?_)|refine aD (hK _ ?_)|refine bj (hK _ ?_));clear hK K)|((first|refine ae ?_|refine aH ?_|refine bB ?_|refine aa rfl (Br) ?_|refine aa rfl (hint) ?_|refine aa rfl (er) ?_|refine aa rfl (oZ) ?_|refine aa rfl (BA _) ?_|refine aa rfl (uP _ _) ?_);simp[e7,ng,nh];(try simp(disch:=omega)only[wrap64]);(try(refine gen2 ?_ ?_<;>intro hq<;>try simp[e7,ng,nh]at hq)))|(refine aE 0 rfl rfl (eh b hb _ (by omega) 9 (by omega)) (fun x1 p1 dB dO cc=>?_);simp[e7,ng,nh];(try simp(disch:=omega)only[wrap64]);(try(refine gen2 ?_ ?_<;>intro hq<;>try simp[e7,ng,nh]at hq)))|(refine aE 0 rfl rfl (eh b hb _ (by omega) 3 (by omega)) (fun x1 p1 dB dO cc=>?_);simp[e7,ng,nh];(try simp(disch:=omega)only[wrap64]);(try(refine gen2 ?_ ?_<;>intro hq<;>try simp[e7,ng,nh]at hq)))|(refine aE 0 rfl rfl (eh b hb _ (by omega) 2 (by omega)) (fun x1 p1 dB dO cc=>?_);simp[e7,ng,nh];(try simp(disch:=omega)only[wrap64]);(try(refine gen2 ?_ ?_<;>intro hq<;>try simp[e7,ng,nh]at hq)))|(refine aE 0 rfl rfl (jM b hb 1 (by omega) _ (by omega)) (fun x1 p1 dB dO cc=>?_);simp[e7,ng,nh];(try simp(disch:=omega)only[wrap64]);(try(refine gen2 ?_ ?_<;>intro hq<;>try simp[e7,ng,nh]at hq)))|(refine aE 0 rfl rfl (jM b hb 2 (by omega) _ (by omega)) (fun x1 p1 dB dO cc=>?_);simp[e7,ng,nh];(try simp(disch:=omega)only[wrap64]);(try(refine gen2 ?_ ?_<;>intro hq<;>try simp[e7,ng,nh]at hq)))|(refine aE 0 rfl rfl (xR _ (by omega)) (fun x1 p1 dB dO cc=>?_);simp[e7,ng,nh];(try simp(disch:=omega)only[wrap64]);(try(refine gen2 ?_ ?_<;>intro hq<;>try simp[e7,ng,nh]at hq)))|(refine aE 0 rfl rfl (LO _ (by omega)) (fun x1 p1 dB dO cc=>?_);simp[e7,ng,nh];(try simp(disch:=omega)only[wrap64]);(try(refine gen2 ?_ ?_<;>intro hq<;>try simp[e7,ng,nh]at hq)))|(refine aE 0 rfl rfl (jL b hb 4 _ _ (by assumption) (by omega)) (fun x1 p1 dB dO cc=>?_);simp[e7,ng,nh];(try simp(disch:=omega)only[wrap64]);(try(refine gen2 ?_ ?_<;>intro hq<;>try simp[e7,ng,nh]at hq)))|(refine aE 0 rfl rfl (iP b hb _ (by omega) [1,2,0,999,5] (by simp) (by simp)) (fun x1 p1 dB dO cc=>?_);simp[e7,ng,nh];(try simp(disch:=omega)only[wrap64]);(try(refine gen2 ?_ ?_<;>intro hq<;>try simp[e7,ng,nh]at hq)))|(refine aE 0 rfl rfl (Oe _ (by omega)) (fun x1 p1 dB dO cc=>?_);simp[e7,ng,nh];(try simp(disch:=omega)only[wrap64]);(try(refine gen2 ?_ ?_<;>intro hq<;>try simp[e7,ng,nh]at hq)))|(refine aE 0 rfl rfl (Of _ (by omega)) (fun x1 p1 dB dO cc=>?_);simp[e7,ng,nh];(try simp(disch:=omega)only[wrap64]);(try(refine gen2 ?_ ?_<;>intro hq<;>try simp[e7,ng,nh]at hq)))|(refine aE 0 rfl rfl (Og _ (by omega)) (fun x1 p1 dB dO cc=>?_);simp[e7,ng,nh];(try simp(disch:=omega)only[wrap64]);(try(refine gen2 ?_ ?_<;>intro hq<;>try simp[e7,ng,nh]at hq)))|(refine aE 0 rfl rfl (mu _ (by assumption) _ (by omega)) (fun x1 p1 dB dO cc=>?_);simp[e7,ng,nh];(try simp(disch:=omega)only[wrap64]);(try(refine gen2 ?_ ?_<;>intro hq<;>try simp[e7,ng,nh]at hq)))|(refine aE 0 rfl rfl (HC _ (by assumption) _ (by omega)) (fun x1 p1 dB dO cc=>?_);simp[e7,ng,nh];(try simp(disch:=omega)only[wrap64]);(try(refine gen2 ?_ ?_<;>intro hq<;>try simp[e7,ng,nh]at hq)))|refine TX.rd (id:=10) mixed (fun _=>false) [6,9,12] (by kernel_rfl) fun K hK=>?_|refine TX.mL (id:=12) mixed (fun _=>false) [5,11,17,20] [8,14] 12 [0] (by kernel_rfl) fun K hK=>?_|refine TX.mL (id:=15) mixed (fun _=>false) [6,11,14,17] [10] 7 [0] (by kernel_rfl) fun K hK=>?_|refine TX.rs (fun _=>false) fun K hK=>?_|refine TX.cond rfl (fun an=>?_) (fun an=>absurd an (by decide))|refine TX.cond rfl (fun an=>absurd an (by decide)) (fun an=>?_)|refine TX.seq ?_|refine TX.block ?_|refine TX.skip ?_|refine TX.exit ?_|refine EX.iG ?_|refine EX.oJ ?_|refine EX.iv ?_|refine EX.kK ?_|refine EX.Fg ?_
    all_goals(
     refine TX.ret ?_;repeat' first|refine EX.lU ?_|refine EX.il ?_|refine EX.e0 ?_|refine EX.lV ?_
     apply EX.yH (ks:=[])
     case he=>exact Or.inr rfl
     case mK=>simp[aA,dW,Tryz.results86]<;>rfl
     case hv=>first|(dsimp only[Av.one];exact rfl)|dsimp only[Av.one]
     case hx=>repeat' first|exact eb.var _|exact bp.xN _|exact cT.var _|exact eH.row _|exact cT.row _|exact bg.nil|exact bf.nil|exact bh.nil|exact bg.map _|exact bf.map _|exact bh.map _|exact bp.int _|exact bp.str _|exact bp.bool _|apply bp.p2|apply bp.p3|apply bp.tm|apply bp.ty|apply cT.node|apply eH.of|apply bg.cons|apply bf.cons|apply bh.cons|apply bp.wz|apply bp.xO|apply bp.xP|apply eb.node|apply bg.app|apply bf.app|apply bh.app
     case hA=>exact rfl
     case l3=>simp
     case hV=>exact rfl
     case h1=>omega
     case h2=>omega
     case hg=>(try simp[fg,cA,cP,eW])<;>omega)
   ·have Br:=bY (.mk tk []) (by omega);have xR:=fun p hp=>jL b hb 4 (.mk tk []) p bZ hp
    simp only[dE,aI.bX,aI.bQ,ZA,Zz,aJ]at Br xR;repeat' first|(refine ab (hK _ ?_);clear hK K)|((first|refine ae ?_|refine aa rfl (oZ) ?_|refine aa rfl (BA _) ?_);simp[e7,ng,nh];(try simp(disch:=omega)only[wrap64]);(try(refine gen2 ?_ ?_<;>intro hq<;>try simp[e7,ng,nh]at hq)))|(refine aE 0 rfl rfl (eh b hb _ (by omega) 3 (by omega)) (fun x1 p1 dB dO cc=>?_);simp[e7,ng,nh];(try simp(disch:=omega)only[wrap64]);(try(refine gen2 ?_ ?_<;>intro hq<;>try simp[e7,ng,nh]at hq)))|(refine aE 0 rfl rfl (iP b hb _ (by omega) [1,2,0,999,5] (by simp) (by simp)) (fun x1 p1 dB dO cc=>?_);simp[e7,ng,nh];(try simp(disch:=omega)only[wrap64]);(try(refine gen2 ?_ ?_<;>intro hq<;>try simp[e7,ng,nh]at hq)))|refine TX.rs (fun _=>false) fun K hK=>?_|refine TX.cond rfl (fun an=>?_) (fun an=>absurd an (by decide))|refine TX.cond rfl (fun an=>absurd an (by decide)) (fun an=>?_)|refine TX.seq ?_|refine TX.block ?_|refine TX.skip ?_|refine TX.exit ?_|refine EX.iG ?_|refine EX.oJ ?_|refine EX.iv ?_|refine EX.kK ?_|refine EX.Fg ?_
    all_goals(
     refine TX.ret ?_;repeat' first|refine EX.lU ?_|refine EX.il ?_|refine EX.e0 ?_|refine EX.lV ?_
     apply EX.yH (ks:=[])
     case he=>exact Or.inr rfl
     case mK=>simp[aA,dW,Tryz.results86]<;>rfl
     case hv=>first|(dsimp only[Av.one];exact rfl)|dsimp only[Av.one]
     case hx=>repeat' first|exact eb.var _|exact bp.xN _|exact cT.var _|exact eH.row _|exact cT.row _|exact bg.nil|exact bf.nil|exact bh.nil|exact bg.map _|exact bf.map _|exact bh.map _|exact bp.int _|exact bp.str _|exact bp.bool _|apply bp.p2|apply bp.p3|apply bp.tm|apply bp.ty|apply cT.node|apply eH.of|apply bg.cons|apply bf.cons|apply bh.cons|apply bp.wz|apply bp.xO|apply bp.xP|apply eb.node|apply bg.app|apply bf.app|apply bh.app
     case hA=>exact rfl
     case l3=>simp
     case hV=>exact rfl
     case h1=>omega
     case h2=>omega
     case hg=>(try simp[fg,cA,cP,eW])<;>omega)
  |cons s tl=>
   cases tl with
   |nil=>
    exfalso
    simp only[cz]at AH;split at AH
    ·simp at AH
    ·split at AH<;>simp at AH
   |cons v tl=>
    cases tl with
    |cons _ _=>exact absurd Ct (by simp)
    |nil=>
     have Rm:=jo;simp only[cA,cP]at Rm;have Td:=h2 s (by simp);have Te:=h2 v (by simp);have Tf:=Tb s (by simp) v (by simp);by_cases e7:1<d
     ·have mu:=h1 e7;have LP:=Ta e7;have Oe:=mu cF wB;have Of:=mu bw tI;simp only[dE,aI.bX,aI.bQ,Zz]at Oe Of;have Br:=bY (.mk tk [s,v]) (by omega);have xR:=fun p hp=>jL b hb 4 (.mk tk [s,v]) p bZ hp
      simp only[dE,aI.bX,aI.bQ,ZA,Zz,aJ]at Br xR;have Og:=mu (.mk tk [s,v]) bZ;have HC:=fun a ha=>LP a (.mk tk [s,v]) ha bZ
      simp only[dE,aI.bX,aI.bQ,ZA,Zz,aJ]at Og HC;repeat' first|((first|refine ab (hK _ ?_)|refine aD (hK _ ?_)|refine bj (hK _ ?_));clear hK K)|((first|refine ae ?_|refine aH ?_|refine bB ?_|refine aa rfl (Br) ?_|refine aa rfl (hint) ?_|refine aa rfl (er) ?_|refine aa rfl (oZ) ?_|refine aa rfl (BA _) ?_|refine aa rfl (uP _ _) ?_);simp[e7];(try simp(disch:=omega)only[wrap64]);(try(refine gen2 ?_ ?_<;>intro hq<;>try simp[e7]at hq)))|(refine aE 0 rfl rfl (eh b hb _ (by omega) 9 (by omega)) (fun x1 p1 dB dO cc=>?_);simp[e7];(try simp(disch:=omega)only[wrap64]);(try(refine gen2 ?_ ?_<;>intro hq<;>try simp[e7]at hq)))|(refine aE 0 rfl rfl (eh b hb _ (by omega) 3 (by omega)) (fun x1 p1 dB dO cc=>?_);simp[e7];(try simp(disch:=omega)only[wrap64]);(try(refine gen2 ?_ ?_<;>intro hq<;>try simp[e7]at hq)))|(refine aE 0 rfl rfl (eh b hb _ (by omega) 2 (by omega)) (fun x1 p1 dB dO cc=>?_);simp[e7];(try simp(disch:=omega)only[wrap64]);(try(refine gen2 ?_ ?_<;>intro hq<;>try simp[e7]at hq)))|(refine aE 0 rfl rfl (jM b hb 1 (by omega) _ (by omega)) (fun x1 p1 dB dO cc=>?_);simp[e7];(try simp(disch:=omega)only[wrap64]);(try(refine gen2 ?_ ?_<;>intro hq<;>try simp[e7]at hq)))|(refine aE 0 rfl rfl (jM b hb 2 (by omega) _ (by omega)) (fun x1 p1 dB dO cc=>?_);simp[e7];(try simp(disch:=omega)only[wrap64]);(try(refine gen2 ?_ ?_<;>intro hq<;>try simp[e7]at hq)))|(refine aE 0 rfl rfl (xR _ (by omega)) (fun x1 p1 dB dO cc=>?_);simp[e7];(try simp(disch:=omega)only[wrap64]);(try(refine gen2 ?_ ?_<;>intro hq<;>try simp[e7]at hq)))|(refine aE 0 rfl rfl (LO _ (by omega)) (fun x1 p1 dB dO cc=>?_);simp[e7];(try simp(disch:=omega)only[wrap64]);(try(refine gen2 ?_ ?_<;>intro hq<;>try simp[e7]at hq)))|(refine aE 0 rfl rfl (jL b hb 4 _ _ (by assumption) (by omega)) (fun x1 p1 dB dO cc=>?_);simp[e7];(try simp(disch:=omega)only[wrap64]);(try(refine gen2 ?_ ?_<;>intro hq<;>try simp[e7]at hq)))|(refine aE 0 rfl rfl (iP b hb _ (by omega) [1,2,0,999,5] (by simp) (by simp)) (fun x1 p1 dB dO cc=>?_);simp[e7];(try simp(disch:=omega)only[wrap64]);(try(refine gen2 ?_ ?_<;>intro hq<;>try simp[e7]at hq)))|(refine aE 0 rfl rfl (Td _ (by omega)) (fun x1 p1 dB dO cc=>?_);simp[e7];(try simp(disch:=omega)only[wrap64]);(try(refine gen2 ?_ ?_<;>intro hq<;>try simp[e7]at hq)))|(refine aE 0 rfl rfl (Te _ (by omega)) (fun x1 p1 dB dO cc=>?_);simp[e7];(try simp(disch:=omega)only[wrap64]);(try(refine gen2 ?_ ?_<;>intro hq<;>try simp[e7]at hq)))|(refine aE 0 rfl rfl (Tf _ (by omega)) (fun x1 p1 dB dO cc=>?_);simp[e7];(try simp(disch:=omega)only[wrap64]);(try(refine gen2 ?_ ?_<;>intro hq<;>try simp[e7]at hq)))|(refine aE 0 rfl rfl (Oe _ (by omega)) (fun x1 p1 dB dO cc=>?_);simp[e7];(try simp(disch:=omega)only[wrap64]);(try(refine gen2 ?_ ?_<;>intro hq<;>try simp[e7]at hq)))|(refine aE 0 rfl rfl (Of _ (by omega)) (fun x1 p1 dB dO cc=>?_);simp[e7];(try simp(disch:=omega)only[wrap64]);(try(refine gen2 ?_ ?_<;>intro hq<;>try simp[e7]at hq)))|(refine aE 0 rfl rfl (Og _ (by omega)) (fun x1 p1 dB dO cc=>?_);simp[e7];(try simp(disch:=omega)only[wrap64]);(try(refine gen2 ?_ ?_<;>intro hq<;>try simp[e7]at hq)))|(refine aE 0 rfl rfl (mu _ (by assumption) _ (by omega)) (fun x1 p1 dB dO cc=>?_);simp[e7];(try simp(disch:=omega)only[wrap64]);(try(refine gen2 ?_ ?_<;>intro hq<;>try simp[e7]at hq)))|(refine aE 0 rfl rfl (HC _ (by assumption) _ (by omega)) (fun x1 p1 dB dO cc=>?_);simp[e7];(try simp(disch:=omega)only[wrap64]);(try(refine gen2 ?_ ?_<;>intro hq<;>try simp[e7]at hq)))|refine TX.rd (id:=10) mixed (fun _=>false) [6,9,12] (by kernel_rfl) fun K hK=>?_|refine TX.mL (id:=12) mixed (fun _=>false) [5,11,17,20] [8,14] 12 [0] (by kernel_rfl) fun K hK=>?_|refine TX.mL (id:=15) mixed (fun _=>false) [6,11,14,17] [10] 7 [0] (by kernel_rfl) fun K hK=>?_|refine TX.rd (id:=24) mixed (fun _=>false) [12,13] (by kernel_rfl) fun K hK=>?_|refine TX.mL (id:=26) mixed (fun _=>false) [8,17,20] [12,13,14] 9 [0] (by kernel_rfl) fun K hK=>?_|refine TX.rs (fun _=>false) fun K hK=>?_|refine TX.cond rfl (fun an=>?_) (fun an=>absurd an (by decide))|refine TX.cond rfl (fun an=>absurd an (by decide)) (fun an=>?_)|refine TX.seq ?_|refine TX.block ?_|refine TX.skip ?_|refine TX.exit ?_|refine EX.iG ?_|refine EX.oJ ?_|refine EX.iv ?_|refine EX.kK ?_|refine EX.Fg ?_
      all_goals(
       refine TX.ret ?_;repeat' first|refine EX.lU ?_|refine EX.il ?_|refine EX.e0 ?_|refine EX.lV ?_
       apply EX.yH (ks:=[])
       case he=>exact Or.inr rfl
       case mK=>simp[aA,dW,Tryz.results86]<;>rfl
       case hv=>first|(dsimp only[Av.one];exact rfl)|dsimp only[Av.one]
       case hx=>repeat' first|exact eb.var _|exact bp.xN _|exact cT.var _|exact eH.row _|exact cT.row _|exact bg.nil|exact bf.nil|exact bh.nil|exact bg.map _|exact bf.map _|exact bh.map _|exact bp.int _|exact bp.str _|exact bp.bool _|apply bp.p2|apply bp.p3|apply bp.tm|apply bp.ty|apply cT.node|apply eH.of|apply bg.cons|apply bf.cons|apply bh.cons|apply bp.wz|apply bp.xO|apply bp.xP|apply eb.node|apply bg.app|apply bf.app|apply bh.app
       case hA=>exact rfl
       case l3=>simp
       case hV=>exact rfl
       case h1=>omega
       case h2=>omega
       case hg=>(try simp[fg,cA,cP,eW])<;>omega)
     ·have Br:=bY (.mk tk [s,v]) (by omega);have xR:=fun p hp=>jL b hb 4 (.mk tk [s,v]) p bZ hp
      simp only[dE,aI.bX,aI.bQ,ZA,Zz,aJ]at Br xR;repeat' first|((first|refine ab (hK _ ?_)|refine aD (hK _ ?_)|refine bj (hK _ ?_));clear hK K)|((first|refine ae ?_|refine aH ?_|refine bB ?_|refine aa rfl (oZ) ?_|refine aa rfl (BA _) ?_|refine aa rfl (uP _ _) ?_);simp[e7];(try simp(disch:=omega)only[wrap64]);(try(refine gen2 ?_ ?_<;>intro hq<;>try simp[e7]at hq)))|(refine aE 0 rfl rfl (eh b hb _ (by omega) 3 (by omega)) (fun x1 p1 dB dO cc=>?_);simp[e7];(try simp(disch:=omega)only[wrap64]);(try(refine gen2 ?_ ?_<;>intro hq<;>try simp[e7]at hq)))|(refine aE 0 rfl rfl (iP b hb _ (by omega) [1,2,0,999,5] (by simp) (by simp)) (fun x1 p1 dB dO cc=>?_);simp[e7];(try simp(disch:=omega)only[wrap64]);(try(refine gen2 ?_ ?_<;>intro hq<;>try simp[e7]at hq)))|(refine aE 0 rfl rfl (Td _ (by omega)) (fun x1 p1 dB dO cc=>?_);simp[e7];(try simp(disch:=omega)only[wrap64]);(try(refine gen2 ?_ ?_<;>intro hq<;>try simp[e7]at hq)))|(refine aE 0 rfl rfl (Te _ (by omega)) (fun x1 p1 dB dO cc=>?_);simp[e7];(try simp(disch:=omega)only[wrap64]);(try(refine gen2 ?_ ?_<;>intro hq<;>try simp[e7]at hq)))|(refine aE 0 rfl rfl (Tf _ (by omega)) (fun x1 p1 dB dO cc=>?_);simp[e7];(try simp(disch:=omega)only[wrap64]);(try(refine gen2 ?_ ?_<;>intro hq<;>try simp[e7]at hq)))|refine TX.rd (id:=24) mixed (fun _=>false) [12,13] (by kernel_rfl) fun K hK=>?_|refine TX.mL (id:=26) mixed (fun _=>false) [8,17,20] [12,13,14] 9 [0] (by kernel_rfl) fun K hK=>?_|refine TX.rs (fun _=>false) fun K hK=>?_|refine TX.cond rfl (fun an=>?_) (fun an=>absurd an (by decide))|refine TX.cond rfl (fun an=>absurd an (by decide)) (fun an=>?_)|refine TX.seq ?_|refine TX.block ?_|refine TX.skip ?_|refine TX.exit ?_|refine EX.iG ?_|refine EX.oJ ?_|refine EX.iv ?_|refine EX.kK ?_|refine EX.Fg ?_
      all_goals(
       refine TX.ret ?_;repeat' first|refine EX.lU ?_|refine EX.il ?_|refine EX.e0 ?_|refine EX.lV ?_
       apply EX.yH (ks:=[])
       case he=>exact Or.inr rfl
       case mK=>simp[aA,dW,Tryz.results86]<;>rfl
       case hv=>first|(dsimp only[Av.one];exact rfl)|dsimp only[Av.one]
       case hx=>repeat' first|exact eb.var _|exact bp.xN _|exact cT.var _|exact eH.row _|exact cT.row _|exact bg.nil|exact bf.nil|exact bh.nil|exact bg.map _|exact bf.map _|exact bh.map _|exact bp.int _|exact bp.str _|exact bp.bool _|apply bp.p2|apply bp.p3|apply bp.tm|apply bp.ty|apply cT.node|apply eH.of|apply bg.cons|apply bf.cons|apply bh.cons|apply bp.wz|apply bp.xO|apply bp.xP|apply eb.node|apply bg.app|apply bf.app|apply bh.app
       case hA=>exact rfl
       case l3=>simp
       case hV=>exact rfl
       case h1=>omega
       case h2=>omega
       case hg=>(try simp[fg,cA,cP,eW])<;>omega)
def JK:Nat->Nat|0=>0|m+1=>3*(JK m+1)+3000
def LQ:Nat->Nat|0=>0|m+1=>3*(LQ m+102)+100
theorem rk {m n:Nat} {t:aI} (h:m<=n) (ht:ak m t=true):ak n t=true:=by
 induction n with
 |zero=>have:m=0:=by omega
        subst this;exact ht
 |succ n ih=>
  by_cases e:m=n+1
  ·subst e;exact ht
  ·exact cy (ih (by omega))
theorem Fu (b:List Int) (hb:okB b):∀(k:Nat) (ctx:List dF) (t:aI) (d:Int) (p:Nat),ctx.length+k<=900->(∀u∈ctx,u.name.length<=10/\fA u.ty<=1000)->-900+(k:Int)<=d->d<=900->
  ((d<=1/\k<=4/\ak k t=true)\/(ak 4 t=true/\d<=(k:Int)-3/\4<=k))->p+JK k<=1099511627776->bC Zy 86 [kL ctx,dE t,.i d] b p (JK k) (RV cM vp fun e=>eR e<=LQ k):=by
 intro k;induction k with
 |zero=>
  intro ctx t d p _ _ _ _ h _;rcases h with⟨_,_,h⟩|⟨_,_,h⟩
  ·simp[ak]at h
  ·omega
 |succ k ih=>
  intro ctx t d p hl I4 hd Rk h hp;have bZ:ak 4 t=true:=by
   rcases h with⟨_,h1,h2⟩|⟨h,_,_⟩
   ·exact rk (by omega) h2
   ·exact h
  have hN:JK (k+1)=3*(JK k+1)+3000:=rfl;have hB:LQ (k+1)=3*(LQ k+102)+100:=rfl;rw[hN]at hp⊢;rw[hB];have Oh:∀(s u:aI),ak 4 s=true->((d-1<=1/\k<=4/\ak k u=true)\/(ak 4 u=true/\d-1<=(k:Int)-3/\4<=k))->∀p,p+(JK k+1)<=1099511627776->bC Zy 126 [kL ctx,dE s,dE u,.i (d-1)] b p (JK k+1) (RV cM vp fun e=>eR e<=LQ k+102):=by
   intro s u hs hu p hp;have VT:=dc hs;refine HB b hb ctx s u (by omega) (by omega) (d-1) (by omega) (by omega) (JK k) (LQ k) p (by omega) fun c q hq=>?_
   have:=ih (ctx++[⟨[c],s⟩]) u (d-1) q (by simp;omega) (by
    intro v hv;rcases List.mem_append.1 hv with hv|hv
    ·exact I4 v hv
    ·simp at hv;subst hv;exact⟨by simp,by show fA s<=1000;omega⟩) (by omega) (by omega) hu hq
   rw[kL,List.map_append]at this;exact this
  have lF:∀u∈t.kids,(d-1<=1/\k<=4/\ak k u=true)\/(ak 4 u=true/\d-1<=(k:Int)-3/\4<=k):=by
   intro u hu;rcases h with⟨h1,h2,h3⟩|⟨h1,h2,h3⟩
   ·obtain⟨e,he,_,_,hs⟩:=eg h3;obtain rfl:k=e:=by omega
    exact .inl ⟨by omega,by omega,hs u hu⟩
   ·obtain⟨e,he,_,_,hs⟩:=eg h1;obtain rfl:e=3:=by omega
    by_cases hk:k=3
    ·subst hk;exact .inl ⟨by omega,by omega,hs u hu⟩
    ·exact .inr ⟨rk (by omega) (hs u hu),by omega,by omega⟩
  have ng:∀u∈t.kids,ak 4 u=true:=by
   intro u hu;obtain⟨e,he,_,_,hs⟩:=eg bZ;exact rk (by omega) (hs u hu)
  refine(BC b hb ctx (by omega) I4 t bZ d (by omega) (by omega) (JK k+1) (LQ k+102) p (by omega) ?_ ?_ ?_ ?_).mono (by omega) (fun _ h=>h)
  ·intro UR t' LR q hq;have M4:4<=k:=by
    rcases h with⟨h1,_,_⟩|⟨_,h2,h3⟩
    ·omega
    ·omega
   refine(ih ctx t' (d-1) q (by omega) I4 (by omega) (by omega) (.inr ⟨LR,?_,M4⟩) (by omega)).mono (by omega) (fun e h=>by omega);rcases h with⟨h1,_,_⟩|⟨_,h2,_⟩<;>omega
  ·intro UR s t' hs LR q hq;have M4:4<=k:=by
    rcases h with⟨h1,_,_⟩|⟨_,h2,h3⟩
    ·omega
    ·omega
   refine Oh s t' hs (.inr ⟨LR,?_,M4⟩) q hq;rcases h with⟨h1,_,_⟩|⟨_,h2,_⟩<;>omega
  ·intro u hu q hq;exact(ih ctx u (d-1) q (by omega) I4 (by omega) (by omega) (lF u hu) (by omega)).mono (by omega) (fun e h=>by omega)
  ·intro u hu v hv q hq;exact Oh u v (ng u hu) (lF v hv) q hq
theorem Dc (b:List Int) (hb:okB b) (ctx:List dF) (hl:ctx.length<=100) (I4:∀u∈ctx,u.name.length<=10/\fA u.ty<=1000) (t:aI) (ht:ak 4 t=true) (d:Int) (hd:1<=d) (Rk:d<=5) (p:Nat) (hp:p+9849840<=1099511627776):
  bC Zy 86 [kL ctx,dE t,.i d] b p 9849840 (RV cM vp fun e=>eR e<=2000000):=
 (Fu b hb 8 ctx t d p (by omega) I4 (by omega) (by omega) (.inr ⟨ht,by omega,by omega⟩) hp).mono (by decide) (fun e h=>Nat.le_trans h (by decide))
end Go.Proofs.YtloolmchekcmeaaGreat
