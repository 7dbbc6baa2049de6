/- A part. -/
import Derived.Test.YtloolmchekcmeaaGreatXE8
set_option linter.unusedVariables false
set_option linter.unusedSimpArgs false
open Go.Proofs.Tryz renaming prog->Zl
open List renaming map_nil->Zm,map_cons->Zn
namespace Go.Proofs.YtloolmchekcmeaaGreat
attribute [-simp] Go.Av.cP Go.Av.gJ Go.Av.cc Go.Av.bK Go.Av.back Go.Av.fg Go.Av.one Go.Av.di Go.Av.yl Go.Av.eS Go.Av.AV.ew Go.Av.CV.ew Go.Av.iG Go.Av.AV.dF Go.Av.CV.dF
open Go Go.Av
attribute [local irreducible] T ah TX EX LX bw dh bR cA gA aE.kind aE.kids ao.kind ao.name ao.num ao.ty ao.fr ao.label ao.kids
attribute [local simp] aQ ax
set_option maxHeartbeats 16000000
set_option maxRecDepth 8000
theorem vj (b:List Int) (hb:okB b) (p:Nat) (hp:p+500000<=1099511627776):bw Zl 90 [] b p 500000 (RV c6 wc fun e=>fy e<=500000):=by
 have BO:=xi;refine bw.cx Tryz.func90 (by kernel_rfl) rfl (by kernel_rfl) (by simp[Tryz.ntmps90]) ?_;rw[Tryz.ntmps90];repeat' first|(refine ab (hK _ ?_);clear hK K)|((first|refine af ?_|refine aa rfl (BO _) ?_|refine aa rfl (jT _ (by omega)) ?_);simp;(try simp(disch:=omega)only[wrap64]);(try(refine gen2 ?_ ?_<;>intro hq<;>try simp at hq)))|(refine aB 0 rfl rfl (iA b hb _ (by omega) [4,3,5,4,2] (by simp) (by simp)) (fun x p1 hx dG b8=>?_);simp at hx;(have ji:x=4\/x=3\/x=5\/x=2:=by omega);clear hx;rcases ji with rfl|rfl|rfl|rfl<;>(simp;(try simp(disch:=omega)only[wrap64])))|(refine aB 0 rfl rfl (qf b hb 5 [] _ (by omega) (by simp) (by omega)) (fun x1 p1 dn dG b8=>?_);simp;(try simp(disch:=omega)only[wrap64]);(try(refine gen2 ?_ ?_<;>intro hq<;>try simp at hq)))|(refine aB 0 rfl rfl (qf b hb 4 [] _ (by omega) (by simp) (by omega)) (fun x1 p1 dn dG b8=>?_);simp;(try simp(disch:=omega)only[wrap64]);(try(refine gen2 ?_ ?_<;>intro hq<;>try simp at hq)))|(refine aB 0 rfl rfl (qf b hb 3 [] _ (by omega) (by simp) (by omega)) (fun x1 p1 dn dG b8=>?_);simp;(try simp(disch:=omega)only[wrap64]);(try(refine gen2 ?_ ?_<;>intro hq<;>try simp at hq)))|(refine aB 0 rfl rfl (qf b hb 2 [] _ (by omega) (by simp) (by omega)) (fun x1 p1 dn dG b8=>?_);simp;(try simp(disch:=omega)only[wrap64]);(try(refine gen2 ?_ ?_<;>intro hq<;>try simp at hq)))|refine TX.rs (fun _=>false) fun K hK=>?_|refine TX.cond rfl (fun al=>?_) (fun al=>absurd al (by decide))|refine TX.cond rfl (fun al=>absurd al (by decide)) (fun al=>?_)|refine TX.seq ?_|refine TX.skip ?_|refine EX.ij ?_
 all_goals(
  refine TX.ret ?_;repeat' first|refine EX.mq ?_|refine EX.il ?_|refine EX.eV ?_|refine EX.mr ?_
  apply EX.ze (ks:=[])
  case he=>exact Or.inr rfl
  case mL=>simp[aF,dQ,Tryz.results90]<;>rfl
  case hv=>first|(dsimp only[Av.one];exact rfl)|dsimp only[Av.one]
  case hx=>repeat' first|exact ec.var _|exact bn.yD _|exact cU.var _|exact eE.row _|exact cU.row _|exact bf.nil|exact bc.nil|exact bg.nil|exact bf.map _|exact bc.map _|exact bg.map _|exact bn.int _|exact bn.str _|exact bn.bool _|apply bn.p2|apply bn.p3|apply bn.tm|apply bn.ty|apply cU.node|apply eE.of|apply bf.cons|apply bc.cons|apply bg.cons|apply bn.yk|apply bn.yE|apply bn.yF|apply ec.node|apply bf.app|apply bc.app|apply bg.app
  case hA=>exact rfl
  case ml=>simp
  case hV=>exact rfl
  case h1=>omega
  case h2=>omega
  case hg=>(try simp[eW,cH,cY,eQ])<;>omega)
theorem BP (b:List Int) (hb:okB b) (e:ao) (hn:fy e<=1000000000) (p:Nat) (hp:p+400<=1099511627776):bw Zl 36 [c6 e] b p 400 (RV c6 wc fun u=>fy u<=fy e+100):=by
 have qC:=mU;have BJ:=FQ e (by omega);have GL:=hn;rw[jO]at GL;refine bw.cx Tryz.func36 (by kernel_rfl) rfl (by kernel_rfl) (by simp[Tryz.ntmps36]) ?_;rw[Tryz.ntmps36];repeat' first|(refine ab (hK _ ?_);clear hK K)|((first|refine af ?_|refine aa rfl (qC) ?_|refine aa rfl (BJ) ?_);simp;(try simp(disch:=omega)only[wrap64]);(try(refine gen2 ?_ ?_<;>intro hq<;>try simp at hq)))|(refine aB 0 rfl rfl (dU b hb _ (by omega) 50 (by omega)) (fun x1 p1 dn dG b8=>?_);simp;(try simp(disch:=omega)only[wrap64]);(try(refine gen2 ?_ ?_<;>intro hq<;>try simp at hq)))|(refine aB 0 rfl rfl (iA b hb _ (by omega) [0,15,1,6,14,-1] (by simp) (by simp)) (fun x1 p1 dn dG b8=>?_);simp;(try simp(disch:=omega)only[wrap64]);(try(refine gen2 ?_ ?_<;>intro hq<;>try simp at hq)))|(refine aB 0 rfl rfl (iA b hb _ (by omega) [1000,-1,9223372036854775807,5] (by simp) (by simp)) (fun x1 p1 dn dG b8=>?_);simp;(try simp(disch:=omega)only[wrap64]);(try(refine gen2 ?_ ?_<;>intro hq<;>try simp at hq)))|(refine aB 0 rfl rfl (BN b hb _ (by omega) _ (by omega)) (fun x1 p1 dn dG b8=>?_);simp;(try simp(disch:=omega)only[wrap64]);(try(refine gen2 ?_ ?_<;>intro hq<;>try simp at hq)))|((first|(refine aB 0 rfl rfl (HL b hb _ (by omega) [[88],[120,121],[],[120]] (by simp) (by simp)) (fun x p1 hx dG b8=>?_);(have Jj:x.length<=2:=by simp at hx;rcases hx with rfl|rfl|rfl|rfl<;>simp))|(refine aB 0 rfl rfl (FP b hb _ (by omega)) (fun t p1 ht dG b8=>?_);replace ht:=fY ht));simp)|refine TX.rs (fun _=>false) fun K hK=>?_|refine TX.eH (fun _=>false) fun K hK=>?_|refine TX.cond rfl (fun al=>?_) (fun al=>absurd al (by decide))|refine TX.cond rfl (fun al=>absurd al (by decide)) (fun al=>?_)|refine TX.seq ?_|refine TX.block ?_|refine TX.skip ?_|refine EX.ij ?_|refine EX.gQ ?_
 all_goals(
  refine TX.ret ?_;repeat' first|refine EX.mq ?_|refine EX.il ?_|refine EX.eV ?_|refine EX.mr ?_
  apply EX.ze (ks:=[])
  case he=>exact Or.inr rfl
  case mL=>simp[aF,dQ,Tryz.results36]<;>rfl
  case hv=>first|(dsimp only[Av.one];exact rfl)|dsimp only[Av.one]
  case hx=>repeat' first|exact ec.var _|exact bn.yD _|exact cU.var _|exact eE.row _|exact cU.row _|exact bf.nil|exact bc.nil|exact bg.nil|exact bf.map _|exact bc.map _|exact bg.map _|exact bn.int _|exact bn.str _|exact bn.bool _|apply bn.p2|apply bn.p3|apply bn.tm|apply bn.ty|apply cU.node|apply eE.of|apply bf.cons|apply bc.cons|apply bg.cons|apply bn.yk|apply bn.yE|apply bn.yF|apply ec.node|apply bf.app|apply bc.app|apply bg.app
  case hA=>exact rfl
  case ml=>simp
  case hV=>exact rfl
  case h1=>omega
  case h2=>omega
  case hg=>simp[eW,cH,cY,jO]<;>omega)
end Go.Proofs.YtloolmchekcmeaaGreat
namespace Go.Proofs.YtloolmchekcmeaaGreat
attribute [-simp] Go.Av.gJ Go.Av.cc Go.Av.bK Go.Av.back Go.Av.fg Go.Av.one Go.Av.di Go.Av.yl Go.Av.eS Go.Av.AV.ew Go.Av.CV.ew Go.Av.iG Go.Av.AV.dF Go.Av.CV.dF
open Go Go.Av
attribute [local irreducible] T ah TX EX LX bw dh bR cA gA aE.kind aE.kids ao.kind ao.name ao.num ao.ty ao.fr ao.label ao.kids
attribute [local simp] aQ ax
set_option maxHeartbeats 16000000
set_option maxRecDepth 8000
theorem Du (k:Int) (l:List (List DV)):ah Zl 124 [.i k,.l l] [] (.agg [.d (.i k),.d (.str []),.d (.i 0),.d (.i 0),.d (.sl []),.d (.i 0),.d (.sl []),.d (.i 0),.d (.sl l)]) [] []:=by
 refine ah.ob Tryz.func124 Tryz.ntmps124 rfl ?_;repeat' first|(refine ab (hK _ ?_);clear hK K)|(refine af ?_;simp;(try(refine gen2 ?_ ?_<;>intro hq<;>try simp at hq)))|(refine T.ret (aD.val (Or.inr rfl) ?_)<;>simp[aF,Tryz.results124]<;>omega)|refine T.r0 fun K hK=>?_
theorem HO (b:List Int) (hb:okB b) (ctx:List ea) (s t:aE) (hs:gl s<=100) (hl:ctx.length<=1000) (d:Int) (hd:-1000<=d) (Q7:d<=1000) (N B p:Nat) (hp:p+N+1<=1099511627776)
  (hm:∀(c:UInt8) (p:Nat),p+N<=1099511627776->bw Zl 86 [.l (ctx.map jP++[jP ⟨[c],s⟩]),eu t,.i d] b p N (RV c6 wc fun e=>fy e<=B)):
  bw Zl 126 [kS ctx,eu s,eu t,.i d] b p (N+1) (RV c6 wc fun e=>fy e<=B+102):=by
 have BJ:=cS s (by omega);refine bw.cx Tryz.func126 (by kernel_rfl) rfl (by kernel_rfl) (by simp[Tryz.ntmps126]) ?_;rw[Tryz.ntmps126];repeat' first|((first|refine ab (hK _ ?_)|refine aA (hK _ ?_));clear hK K)|((first|refine af ?_|refine aG ?_|refine aa rfl (BJ) ?_|refine aa rfl (FO ctx _ s (by omega)) ?_);simp;(try simp(disch:=omega)only[wrap64]);(try(refine gen2 ?_ ?_<;>intro hq<;>try simp at hq)))|(refine aB 0 rfl rfl (hm _ _ (by omega)) (fun x1 p1 dn dG b8=>?_);simp;(try simp(disch:=omega)only[wrap64]);(try(refine gen2 ?_ ?_<;>intro hq<;>try simp at hq)))|(refine aB 0 rfl rfl (HL b hb _ (by omega) [[120],[121],[122],[102]] (by simp) (by simp)) (fun x p1 hx dG b8=>?_);(obtain⟨c,rfl⟩:∃c,x=[c]:=by simp at hx;rcases hx with rfl|rfl|rfl|rfl<;>exact⟨_,rfl⟩);simp)|refine TX.rd (id:=2) mixed (fun _=>false) [10,13] (by kernel_rfl) fun K hK=>?_|refine TX.rs (fun _=>false) fun K hK=>?_
 have GL:=gG s
 all_goals(
  refine TX.ret ?_;repeat' first|refine EX.mq ?_|refine EX.il ?_|refine EX.eV ?_|refine EX.mr ?_
  apply EX.ze (ks:=[])
  case he=>exact Or.inr rfl
  case mL=>simp[aF,dQ,Tryz.results126]<;>rfl
  case hv=>first|(dsimp only[Av.one];exact rfl)|dsimp only[Av.one]
  case hx=>repeat' first|exact ec.var _|exact bn.yD _|exact cU.var _|exact eE.row _|exact cU.row _|exact bf.nil|exact bc.nil|exact bg.nil|exact bf.map _|exact bc.map _|exact bg.map _|exact bn.int _|exact bn.str _|exact bn.bool _|apply bn.p2|apply bn.p3|apply bn.tm|apply bn.ty|apply cU.node|apply eE.of|apply bf.cons|apply bc.cons|apply bg.cons|apply bn.yk|apply bn.yE|apply bn.yF|apply ec.node|apply bf.app|apply bc.app|apply bg.app
  case hA=>exact rfl
  case ml=>simp
  case hV=>exact rfl
  case h1=>omega
  case h2=>omega
  case hg=>simp[eW,cH,cY,eQ, *]<;>omega)
theorem BQ (b:List Int) (hb:okB b) (ctx:List ea) (hl:ctx.length<=1000) (Ja:∀u∈ctx,u.name.length<=10/\gl u.ty<=1000) (t:aE) (b7:ak 4 t=true) (d:Int) (hd:-1000<=d) (Q7:d<=1000) (N B p:Nat) (hp:p+3*N+3000<=1099511627776)
  (h1:1<d->∀(t':aE),ak 4 t'=true->∀p,p+N<=1099511627776->bw Zl 86 [kS ctx,eu t',.i (d-1)] b p N (RV c6 wc fun e=>fy e<=B))
  (SO:1<d->∀(s t':aE),ak 4 s=true->ak 4 t'=true->∀p,p+N<=1099511627776->bw Zl 126 [kS ctx,eu s,eu t',.i (d-1)] b p N (RV c6 wc fun e=>fy e<=B))
  (h2:∀u∈t.kids,∀p,p+N<=1099511627776->bw Zl 86 [kS ctx,eu u,.i (d-1)] b p N (RV c6 wc fun e=>fy e<=B))
  (SP:∀u∈t.kids,∀v∈t.kids,∀p,p+N<=1099511627776->bw Zl 126 [kS ctx,eu u,eu v,.i (d-1)] b p N (RV c6 wc fun e=>fy e<=B)):
  bw Zl 86 [kS ctx,eu t,.i d] b p (3*N+3000) (RV c6 wc fun e=>fy e<=3*B+100):=by
 have kp:=fY b7;have LG:=fun p hp=>jx b hb 4 bP p tK hp
 simp only[eu,aE.b4,aE.bQ,Zm]at LG;have hint:=BI;have ed:=FM;have qC:=mU;have BO:=xi;have vg:=Du;refine bw.cx Tryz.func86 (by kernel_rfl) rfl (by kernel_rfl) (by simp[Tryz.ntmps86]) ?_;rw[Tryz.ntmps86];repeat' first|(refine ab (hK _ ?_);clear hK K)|(refine af ?_;simp;(try simp(disch:=omega)only[wrap64]);(try(refine gen2 ?_ ?_<;>intro hq<;>try simp at hq)))|refine TX.rs (fun _=>false) fun K hK=>?_|refine TX.seq ?_|refine TX.block ?_
 refine TX.iI (fun x:Nat×Nat×List (List CV)=>⟨[(0,.c (.ptr 0 0)),(1,kS ctx),(3,.i d),(6,.c (.ptr 1 0)),(8,.c (.ptr 2 0)),(9,.i ((x.1:Int)-1))],(rd b x.2.1).map CV.d::(eu t).cells::[.d (.i 0),.d (.str []),.d (.i 0),.d (.i 0),.nil,.d (.i 0),.nil,.d (.i 0),.nil]::x.2.2,[]⟩) (fun x=>x.1) (fun x=>x.1<=ctx.length/\p<=x.2.1/\x.2.1+x.1<=p+ctx.length) (fun x hx=>?_) (ctx.length,p,[]) (by simp) (by simp);obtain⟨j,q1,G⟩:=x;obtain⟨hj,yn,UA⟩:=hx;dsimp only at hj yn UA⊢;cases j with
 |succ k=>
  have hk:k<ctx.length:=by omega
  have e1:((k:Int)+1-1)=k:=by omega
  have e2:¬((k:Int)<0):=by omega
  obtain⟨u,ht⟩:=bX hk;have fz:u∈ctx:=List.mem_of_getElem? ht;have a8:ctx[k]=u:=by rw[List.getElem?_eq_getElem hk]at ht;exact Option.some.inj ht
  have jb:ctx.drop k=u::ctx.drop (k+1):=by rw[List.drop_eq_getElem_cons hk,a8]
  have hu:=Ja u fz;have mD:=FN ctx u.name (by omega) (fun v hv=>by have:=Ja v hv;omega);cases hr:cX ctx u.name with
  |none=>
   rw[hr]at mD;dsimp only at mD;have hv:=jS bx (by simp[cH,cY]);rw[Dg]at hv;repeat' first|(refine ab (hK _ ?_);clear hK K)|((first|refine af ?_|refine aa rfl (mD) ?_|(refine aa ?_ (hv) ?_;(focus(solve|simp[hk,a8,e1,e2,jP]))));simp[hk,a8,e1,e2,jP];(try simp(disch:=omega)only[wrap64]);(try(refine gen2 ?_ ?_<;>intro hq<;>try simp[hk,a8,e1,e2,jP]at hq)))|(refine aB 0 rfl rfl (dU b hb _ (by omega) 3 (by omega)) (fun x1 p1 dn dG b8=>?_);simp[hk,a8,e1,e2,jP];(try simp(disch:=omega)only[wrap64]);(try(refine gen2 ?_ ?_<;>intro hq<;>try simp[hk,a8,e1,e2,jP]at hq)))|(refine EX.next (k,_,_) (by dsimp only;omega) ⟨by dsimp only;omega,by dsimp only;omega,by dsimp only;omega⟩ ⟨rfl,rfl,?_⟩;simp(disch:=omega) [wrap64])|refine TX.rs (fun _=>false) fun K hK=>?_|refine TX.eH (fun _=>false) fun K hK=>?_|refine TX.cond rfl (fun al=>?_) (fun al=>absurd al (by decide))|refine TX.cond rfl (fun al=>absurd al (by decide)) (fun al=>?_)|refine TX.seq ?_|refine TX.block ?_|refine TX.skip ?_|refine EX.ij ?_|refine EX.gQ ?_
  |some tu=>
   rw[hr]at mD;dsimp only at mD;obtain⟨bd,UB,rfl,_⟩:=pz hr;have CQ:=Ja bd UB;have hv:=jS bd.ty (by omega);cases Q8:ak 4 bd.ty with
   |false=>
    rw[Q8]at hv;repeat' first|(refine ab (hK _ ?_);clear hK K)|((first|refine af ?_|refine aa rfl (mD) ?_|refine aa rfl (hv) ?_);simp[hk,a8,e1,e2,jP];(try simp(disch:=omega)only[wrap64]);(try(refine gen2 ?_ ?_<;>intro hq<;>try simp[hk,a8,e1,e2,jP]at hq)))|(refine aB 0 rfl rfl (dU b hb _ (by omega) 3 (by omega)) (fun x1 p1 dn dG b8=>?_);simp[hk,a8,e1,e2,jP];(try simp(disch:=omega)only[wrap64]);(try(refine gen2 ?_ ?_<;>intro hq<;>try simp[hk,a8,e1,e2,jP]at hq)))|(refine EX.next (k,_,_) (by dsimp only;omega) ⟨by dsimp only;omega,by dsimp only;omega,by dsimp only;omega⟩ ⟨rfl,rfl,?_⟩;simp(disch:=omega) [wrap64])|refine TX.rs (fun _=>false) fun K hK=>?_|refine TX.eH (fun _=>false) fun K hK=>?_|refine TX.cond rfl (fun al=>?_) (fun al=>absurd al (by decide))|refine TX.cond rfl (fun al=>absurd al (by decide)) (fun al=>?_)|refine TX.seq ?_|refine TX.block ?_|refine TX.skip ?_|refine EX.ij ?_|refine EX.gQ ?_
   |true=>
    rw[Q8]at hv;have pH:=oI 4 bd.ty t (by omega) Q8 b7;cases SQ:aM bd.ty t with
    |false=>
     rw[SQ]at pH;repeat' first|(refine ab (hK _ ?_);clear hK K)|((first|refine af ?_|refine aa rfl (mD) ?_|refine aa rfl (hv) ?_|refine aa rfl (pH) ?_);simp[hk,a8,e1,e2,jP];(try simp(disch:=omega)only[wrap64]);(try(refine gen2 ?_ ?_<;>intro hq<;>try simp[hk,a8,e1,e2,jP]at hq)))|(refine aB 0 rfl rfl (dU b hb _ (by omega) 3 (by omega)) (fun x1 p1 dn dG b8=>?_);simp[hk,a8,e1,e2,jP];(try simp(disch:=omega)only[wrap64]);(try(refine gen2 ?_ ?_<;>intro hq<;>try simp[hk,a8,e1,e2,jP]at hq)))|(refine EX.next (k,_,_) (by dsimp only;omega) ⟨by dsimp only;omega,by dsimp only;omega,by dsimp only;omega⟩ ⟨rfl,rfl,?_⟩;simp(disch:=omega) [wrap64])|refine TX.rs (fun _=>false) fun K hK=>?_|refine TX.eH (fun _=>false) fun K hK=>?_|refine TX.cond rfl (fun al=>?_) (fun al=>absurd al (by decide))|refine TX.cond rfl (fun al=>absurd al (by decide)) (fun al=>?_)|refine TX.seq ?_|refine TX.block ?_|refine TX.skip ?_|refine EX.ij ?_|refine EX.gQ ?_
    |true=>
     rw[SQ]at pH;repeat' first|(refine ab (hK _ ?_);clear hK K)|((first|refine af ?_|refine aa rfl (mD) ?_|refine aa rfl (hv) ?_|refine aa rfl (pH) ?_);simp[hk,a8,e1,e2,jP];(try simp(disch:=omega)only[wrap64]);(try(refine gen2 ?_ ?_<;>intro hq<;>try simp[hk,a8,e1,e2,jP]at hq)))|(refine aB 0 rfl rfl (dU b hb _ (by omega) 3 (by omega)) (fun x1 p1 dn dG b8=>?_);simp[hk,a8,e1,e2,jP];(try simp(disch:=omega)only[wrap64]);(try(refine gen2 ?_ ?_<;>intro hq<;>try simp[hk,a8,e1,e2,jP]at hq)))|(refine EX.next (k,_,_) (by dsimp only;omega) ⟨by dsimp only;omega,by dsimp only;omega,by dsimp only;omega⟩ ⟨rfl,rfl,?_⟩;simp(disch:=omega) [wrap64])|refine TX.rs (fun _=>false) fun K hK=>?_|refine TX.eH (fun _=>false) fun K hK=>?_|refine TX.cond rfl (fun al=>?_) (fun al=>absurd al (by decide))|refine TX.cond rfl (fun al=>absurd al (by decide)) (fun al=>?_)|refine TX.seq ?_|refine TX.block ?_|refine TX.skip ?_|refine EX.ij ?_|refine EX.gQ ?_
     all_goals(
      refine TX.ret ?_;repeat' first|refine EX.mq ?_|refine EX.il ?_|refine EX.eV ?_|refine EX.mr ?_
      apply EX.ze (ks:=[])
      case he=>exact Or.inr rfl
      case mL=>simp[aF,dQ,Tryz.results86]<;>rfl
      case hv=>first|(dsimp only[Av.one];exact rfl)|dsimp only[Av.one]
      case hx=>repeat' first|exact ec.var _|exact bn.yD _|exact cU.var _|exact eE.row _|exact cU.row _|exact bf.nil|exact bc.nil|exact bg.nil|exact bf.map _|exact bc.map _|exact bg.map _|exact bn.int _|exact bn.str _|exact bn.bool _|apply bn.p2|apply bn.p3|apply bn.tm|apply bn.ty|apply cU.node|apply eE.of|apply bf.cons|apply bc.cons|apply bg.cons|apply bn.yk|apply bn.yE|apply bn.yF|apply ec.node|apply bf.app|apply bc.app|apply bg.app
      case hA=>exact rfl
      case ml=>simp
      case hV=>exact rfl
      case h1=>omega
      case h2=>omega
      case hg=>(try simp[eW,cH,cY,eQ])<;>omega)
 |zero=>
  obtain⟨tk,tl⟩:=t;obtain⟨_,_,wg,C8,ml⟩:=dT b7;simp only[aE.bQ,aE.b4]at wg C8 ml h2 SP;cases tl with
  |nil=>
   have oJ:¬tk=4:=fun h=>by rw[h]at wg;simp[cF]at wg
   have oY:¬tk=5:=fun h=>by rw[h]at wg;simp[cF]at wg
   by_cases eN:1<d
   ·have lH:=h1 eN;have LH:=SO eN;have N4:=lH c3 wX;have N5:=lH bP tK;simp only[eu,aE.b4,aE.bQ,Zm]at N4 N5;have BJ:=cS (.mk tk []) (by omega);have ym:=fun p hp=>jx b hb 4 (.mk tk []) p b7 hp
    simp only[eu,aE.b4,aE.bQ,Zn,Zm,aQ]at BJ ym;have N6:=lH (.mk tk []) b7;have HP:=fun a ha=>LH a (.mk tk []) ha b7
    simp only[eu,aE.b4,aE.bQ,Zn,Zm,aQ]at N6 HP;repeat' first|((first|refine ab (hK _ ?_)|refine aA (hK _ ?_)|refine bz (hK _ ?_));clear hK K)|((first|refine af ?_|refine aG ?_|refine bO ?_|refine aa rfl (BJ) ?_|refine aa rfl (hint) ?_|refine aa rfl (ed) ?_|refine aa rfl (qC) ?_|refine aa rfl (BO _) ?_|refine aa rfl (vg _ _) ?_);simp[eN,oJ,oY];(try simp(disch:=omega)only[wrap64]);(try(refine gen2 ?_ ?_<;>intro hq<;>try simp[eN,oJ,oY]at hq)))|(refine aB 0 rfl rfl (dU b hb _ (by omega) 9 (by omega)) (fun x1 p1 dn dG b8=>?_);simp[eN,oJ,oY];(try simp(disch:=omega)only[wrap64]);(try(refine gen2 ?_ ?_<;>intro hq<;>try simp[eN,oJ,oY]at hq)))|(refine aB 0 rfl rfl (dU b hb _ (by omega) 3 (by omega)) (fun x1 p1 dn dG b8=>?_);simp[eN,oJ,oY];(try simp(disch:=omega)only[wrap64]);(try(refine gen2 ?_ ?_<;>intro hq<;>try simp[eN,oJ,oY]at hq)))|(refine aB 0 rfl rfl (dU b hb _ (by omega) 2 (by omega)) (fun x1 p1 dn dG b8=>?_);simp[eN,oJ,oY];(try simp(disch:=omega)only[wrap64]);(try(refine gen2 ?_ ?_<;>intro hq<;>try simp[eN,oJ,oY]at hq)))|(refine aB 0 rfl rfl (jy b hb 1 (by omega) _ (by omega)) (fun x1 p1 dn dG b8=>?_);simp[eN,oJ,oY];(try simp(disch:=omega)only[wrap64]);(try(refine gen2 ?_ ?_<;>intro hq<;>try simp[eN,oJ,oY]at hq)))|(refine aB 0 rfl rfl (jy b hb 2 (by omega) _ (by omega)) (fun x1 p1 dn dG b8=>?_);simp[eN,oJ,oY];(try simp(disch:=omega)only[wrap64]);(try(refine gen2 ?_ ?_<;>intro hq<;>try simp[eN,oJ,oY]at hq)))|(refine aB 0 rfl rfl (ym _ (by omega)) (fun x1 p1 dn dG b8=>?_);simp[eN,oJ,oY];(try simp(disch:=omega)only[wrap64]);(try(refine gen2 ?_ ?_<;>intro hq<;>try simp[eN,oJ,oY]at hq)))|(refine aB 0 rfl rfl (LG _ (by omega)) (fun x1 p1 dn dG b8=>?_);simp[eN,oJ,oY];(try simp(disch:=omega)only[wrap64]);(try(refine gen2 ?_ ?_<;>intro hq<;>try simp[eN,oJ,oY]at hq)))|(refine aB 0 rfl rfl (jx b hb 4 _ _ (by assumption) (by omega)) (fun x1 p1 dn dG b8=>?_);simp[eN,oJ,oY];(try simp(disch:=omega)only[wrap64]);(try(refine gen2 ?_ ?_<;>intro hq<;>try simp[eN,oJ,oY]at hq)))|(refine aB 0 rfl rfl (iA b hb _ (by omega) [1,2,0,999,5] (by simp) (by simp)) (fun x1 p1 dn dG b8=>?_);simp[eN,oJ,oY];(try simp(disch:=omega)only[wrap64]);(try(refine gen2 ?_ ?_<;>intro hq<;>try simp[eN,oJ,oY]at hq)))|(refine aB 0 rfl rfl (N4 _ (by omega)) (fun x1 p1 dn dG b8=>?_);simp[eN,oJ,oY];(try simp(disch:=omega)only[wrap64]);(try(refine gen2 ?_ ?_<;>intro hq<;>try simp[eN,oJ,oY]at hq)))|(refine aB 0 rfl rfl (N5 _ (by omega)) (fun x1 p1 dn dG b8=>?_);simp[eN,oJ,oY];(try simp(disch:=omega)only[wrap64]);(try(refine gen2 ?_ ?_<;>intro hq<;>try simp[eN,oJ,oY]at hq)))|(refine aB 0 rfl rfl (N6 _ (by omega)) (fun x1 p1 dn dG b8=>?_);simp[eN,oJ,oY];(try simp(disch:=omega)only[wrap64]);(try(refine gen2 ?_ ?_<;>intro hq<;>try simp[eN,oJ,oY]at hq)))|(refine aB 0 rfl rfl (lH _ (by assumption) _ (by omega)) (fun x1 p1 dn dG b8=>?_);simp[eN,oJ,oY];(try simp(disch:=omega)only[wrap64]);(try(refine gen2 ?_ ?_<;>intro hq<;>try simp[eN,oJ,oY]at hq)))|(refine aB 0 rfl rfl (HP _ (by assumption) _ (by omega)) (fun x1 p1 dn dG b8=>?_);simp[eN,oJ,oY];(try simp(disch:=omega)only[wrap64]);(try(refine gen2 ?_ ?_<;>intro hq<;>try simp[eN,oJ,oY]at hq)))|refine TX.rd (id:=10) mixed (fun _=>false) [6,9,12] (by kernel_rfl) fun K hK=>?_|refine TX.pB (id:=12) mixed (fun _=>false) [5,11,17,20] [8,14] 12 [0] (by kernel_rfl) fun K hK=>?_|refine TX.pB (id:=15) mixed (fun _=>false) [6,11,14,17] [10] 7 [0] (by kernel_rfl) fun K hK=>?_|refine TX.rs (fun _=>false) fun K hK=>?_|refine TX.cond rfl (fun al=>?_) (fun al=>absurd al (by decide))|refine TX.cond rfl (fun al=>absurd al (by decide)) (fun al=>?_)|refine TX.seq ?_|refine TX.block ?_|refine TX.skip ?_|refine TX.exit ?_|refine EX.ij ?_|refine EX.oH ?_|refine EX.gQ ?_|refine EX.kE ?_|refine EX.FB ?_
    all_goals(
     refine TX.ret ?_;repeat' first|refine EX.mq ?_|refine EX.il ?_|refine EX.eV ?_|refine EX.mr ?_
     apply EX.ze (ks:=[])
     case he=>exact Or.inr rfl
     case mL=>simp[aF,dQ,Tryz.results86]<;>rfl
     case hv=>first|(dsimp only[Av.one];exact rfl)|dsimp only[Av.one]
     case hx=>repeat' first|exact ec.var _|exact bn.yD _|exact cU.var _|exact eE.row _|exact cU.row _|exact bf.nil|exact bc.nil|exact bg.nil|exact bf.map _|exact bc.map _|exact bg.map _|exact bn.int _|exact bn.str _|exact bn.bool _|apply bn.p2|apply bn.p3|apply bn.tm|apply bn.ty|apply cU.node|apply eE.of|apply bf.cons|apply bc.cons|apply bg.cons|apply bn.yk|apply bn.yE|apply bn.yF|apply ec.node|apply bf.app|apply bc.app|apply bg.app
     case hA=>exact rfl
     case ml=>simp
     case hV=>exact rfl
     case h1=>omega
     case h2=>omega
     case hg=>(try simp[eW,cH,cY,eQ])<;>omega)
   ·have BJ:=cS (.mk tk []) (by omega);have ym:=fun p hp=>jx b hb 4 (.mk tk []) p b7 hp
    simp only[eu,aE.b4,aE.bQ,Zn,Zm,aQ]at BJ ym;repeat' first|(refine ab (hK _ ?_);clear hK K)|((first|refine af ?_|refine aa rfl (qC) ?_|refine aa rfl (BO _) ?_);simp[eN,oJ,oY];(try simp(disch:=omega)only[wrap64]);(try(refine gen2 ?_ ?_<;>intro hq<;>try simp[eN,oJ,oY]at hq)))|(refine aB 0 rfl rfl (dU b hb _ (by omega) 3 (by omega)) (fun x1 p1 dn dG b8=>?_);simp[eN,oJ,oY];(try simp(disch:=omega)only[wrap64]);(try(refine gen2 ?_ ?_<;>intro hq<;>try simp[eN,oJ,oY]at hq)))|(refine aB 0 rfl rfl (iA b hb _ (by omega) [1,2,0,999,5] (by simp) (by simp)) (fun x1 p1 dn dG b8=>?_);simp[eN,oJ,oY];(try simp(disch:=omega)only[wrap64]);(try(refine gen2 ?_ ?_<;>intro hq<;>try simp[eN,oJ,oY]at hq)))|refine TX.rs (fun _=>false) fun K hK=>?_|refine TX.cond rfl (fun al=>?_) (fun al=>absurd al (by decide))|refine TX.cond rfl (fun al=>absurd al (by decide)) (fun al=>?_)|refine TX.seq ?_|refine TX.block ?_|refine TX.skip ?_|refine TX.exit ?_|refine EX.ij ?_|refine EX.oH ?_|refine EX.gQ ?_|refine EX.kE ?_|refine EX.FB ?_
    all_goals(
     refine TX.ret ?_;repeat' first|refine EX.mq ?_|refine EX.il ?_|refine EX.eV ?_|refine EX.mr ?_
     apply EX.ze (ks:=[])
     case he=>exact Or.inr rfl
     case mL=>simp[aF,dQ,Tryz.results86]<;>rfl
     case hv=>first|(dsimp only[Av.one];exact rfl)|dsimp only[Av.one]
     case hx=>repeat' first|exact ec.var _|exact bn.yD _|exact cU.var _|exact eE.row _|exact cU.row _|exact bf.nil|exact bc.nil|exact bg.nil|exact bf.map _|exact bc.map _|exact bg.map _|exact bn.int _|exact bn.str _|exact bn.bool _|apply bn.p2|apply bn.p3|apply bn.tm|apply bn.ty|apply cU.node|apply eE.of|apply bf.cons|apply bc.cons|apply bg.cons|apply bn.yk|apply bn.yE|apply bn.yF|apply ec.node|apply bf.app|apply bc.app|apply bg.app
     case hA=>exact rfl
     case ml=>simp
     case hV=>exact rfl
     case h1=>omega
     case h2=>omega
     case hg=>(try simp[eW,cH,cY,eQ])<;>omega)
  |cons s tl=>
   cases tl with
   |nil=>
    exfalso
    simp only[cF]at wg;split at wg
    ·simp at wg
    ·split at wg<;>simp at wg
   |cons v tl=>
    cases tl with
    |cons _ _=>exact absurd C8 (by simp)
    |nil=>
     have Q9:=kp;simp only[cH,cY]at Q9;have SR:=h2 s (by simp);have SS:=h2 v (by simp);have SU:=SP s (by simp) v (by simp);by_cases eN:1<d
     ·have lH:=h1 eN;have LH:=SO eN;have N4:=lH c3 wX;have N5:=lH bP tK;simp only[eu,aE.b4,aE.bQ,Zm]at N4 N5;have BJ:=cS (.mk tk [s,v]) (by omega);have ym:=fun p hp=>jx b hb 4 (.mk tk [s,v]) p b7 hp
      simp only[eu,aE.b4,aE.bQ,Zn,Zm,aQ]at BJ ym;have N6:=lH (.mk tk [s,v]) b7;have HP:=fun a ha=>LH a (.mk tk [s,v]) ha b7
      simp only[eu,aE.b4,aE.bQ,Zn,Zm,aQ]at N6 HP;repeat' first|((first|refine ab (hK _ ?_)|refine aA (hK _ ?_)|refine bz (hK _ ?_));clear hK K)|((first|refine af ?_|refine aG ?_|refine bO ?_|refine aa rfl (BJ) ?_|refine aa rfl (hint) ?_|refine aa rfl (ed) ?_|refine aa rfl (qC) ?_|refine aa rfl (BO _) ?_|refine aa rfl (vg _ _) ?_);simp[eN];(try simp(disch:=omega)only[wrap64]);(try(refine gen2 ?_ ?_<;>intro hq<;>try simp[eN]at hq)))|(refine aB 0 rfl rfl (dU b hb _ (by omega) 9 (by omega)) (fun x1 p1 dn dG b8=>?_);simp[eN];(try simp(disch:=omega)only[wrap64]);(try(refine gen2 ?_ ?_<;>intro hq<;>try simp[eN]at hq)))|(refine aB 0 rfl rfl (dU b hb _ (by omega) 3 (by omega)) (fun x1 p1 dn dG b8=>?_);simp[eN];(try simp(disch:=omega)only[wrap64]);(try(refine gen2 ?_ ?_<;>intro hq<;>try simp[eN]at hq)))|(refine aB 0 rfl rfl (dU b hb _ (by omega) 2 (by omega)) (fun x1 p1 dn dG b8=>?_);simp[eN];(try simp(disch:=omega)only[wrap64]);(try(refine gen2 ?_ ?_<;>intro hq<;>try simp[eN]at hq)))|(refine aB 0 rfl rfl (jy b hb 1 (by omega) _ (by omega)) (fun x1 p1 dn dG b8=>?_);simp[eN];(try simp(disch:=omega)only[wrap64]);(try(refine gen2 ?_ ?_<;>intro hq<;>try simp[eN]at hq)))|(refine aB 0 rfl rfl (jy b hb 2 (by omega) _ (by omega)) (fun x1 p1 dn dG b8=>?_);simp[eN];(try simp(disch:=omega)only[wrap64]);(try(refine gen2 ?_ ?_<;>intro hq<;>try simp[eN]at hq)))|(refine aB 0 rfl rfl (ym _ (by omega)) (fun x1 p1 dn dG b8=>?_);simp[eN];(try simp(disch:=omega)only[wrap64]);(try(refine gen2 ?_ ?_<;>intro hq<;>try simp[eN]at hq)))|(refine aB 0 rfl rfl (LG _ (by omega)) (fun x1 p1 dn dG b8=>?_);simp[eN];(try simp(disch:=omega)only[wrap64]);(try(refine gen2 ?_ ?_<;>intro hq<;>try simp[eN]at hq)))|(refine aB 0 rfl rfl (jx b hb 4 _ _ (by assumption) (by omega)) (fun x1 p1 dn dG b8=>?_);simp[eN];(try simp(disch:=omega)only[wrap64]);(try(refine gen2 ?_ ?_<;>intro hq<;>try simp[eN]at hq)))|(refine aB 0 rfl rfl (iA b hb _ (by omega) [1,2,0,999,5] (by simp) (by simp)) (fun x1 p1 dn dG b8=>?_);simp[eN];(try simp(disch:=omega)only[wrap64]);(try(refine gen2 ?_ ?_<;>intro hq<;>try simp[eN]at hq)))|(refine aB 0 rfl rfl (SR _ (by omega)) (fun x1 p1 dn dG b8=>?_);simp[eN];(try simp(disch:=omega)only[wrap64]);(try(refine gen2 ?_ ?_<;>intro hq<;>try simp[eN]at hq)))|(refine aB 0 rfl rfl (SS _ (by omega)) (fun x1 p1 dn dG b8=>?_);simp[eN];(try simp(disch:=omega)only[wrap64]);(try(refine gen2 ?_ ?_<;>intro hq<;>try simp[eN]at hq)))|(refine aB 0 rfl rfl (SU _ (by omega)) (fun x1 p1 dn dG b8=>?_);simp[eN];(try simp(disch:=omega)only[wrap64]);(try(refine gen2 ?_ ?_<;>intro hq<;>try simp[eN]at hq)))|(refine aB 0 rfl rfl (N4 _ (by omega)) (fun x1 p1 dn dG b8=>?_);simp[eN];(try simp(disch:=omega)only[wrap64]);(try(refine gen2 ?_ ?_<;>intro hq<;>try simp[eN]at hq)))|(refine aB 0 rfl rfl (N5 _ (by omega)) (fun x1 p1 dn dG b8=>?_);simp[eN];(try simp(disch:=omega)only[wrap64]);(try(refine gen2 ?_ ?_<;>intro hq<;>try simp[eN]at hq)))|(refine aB 0 rfl rfl (N6 _ (by omega)) (fun x1 p1 dn dG b8=>?_);simp[eN];(try simp(disch:=omega)only[wrap64]);(try(refine gen2 ?_ ?_<;>intro hq<;>try simp[eN]at hq)))|(refine aB 0 rfl rfl (lH _ (by assumption) _ (by omega)) (fun x1 p1 dn dG b8=>?_);simp[eN];(try simp(disch:=omega)only[wrap64]);(try(refine gen2 ?_ ?_<;>intro hq<;>try simp[eN]at hq)))|(refine aB 0 rfl rfl (HP _ (by assumption) _ (by omega)) (fun x1 p1 dn dG b8=>?_);simp[eN];(try simp(disch:=omega)only[wrap64]);(try(refine gen2 ?_ ?_<;>intro hq<;>try simp[eN]at hq)))|refine TX.rd (id:=10) mixed (fun _=>false) [6,9,12] (by kernel_rfl) fun K hK=>?_|refine TX.pB (id:=12) mixed (fun _=>false) [5,11,17,20] [8,14] 12 [0] (by kernel_rfl) fun K hK=>?_|refine TX.pB (id:=15) mixed (fun _=>false) [6,11,14,17] [10] 7 [0] (by kernel_rfl) fun K hK=>?_|refine TX.rd (id:=24) mixed (fun _=>false) [12,13] (by kernel_rfl) fun K hK=>?_|refine TX.pB (id:=26) mixed (fun _=>false) [8,17,20] [12,13,14] 9 [0] (by kernel_rfl) fun K hK=>?_|refine TX.rs (fun _=>false) fun K hK=>?_|refine TX.cond rfl (fun al=>?_) (fun al=>absurd al (by decide))|refine TX.cond rfl (fun al=>absurd al (by decide)) (fun al=>?_)|refine TX.seq ?_|refine TX.block ?_|refine TX.skip ?_|refine TX.exit ?_|refine EX.ij ?_|refine EX.oH ?_|refine EX.gQ ?_|refine EX.kE ?_|refine EX.FB ?_
      all_goals(
       refine TX.ret ?_;repeat' first|refine EX.mq ?_|refine EX.il ?_|refine EX.eV ?_|refine EX.mr ?_
       apply EX.ze (ks:=[])
       case he=>exact Or.inr rfl
       case mL=>simp[aF,dQ,Tryz.results86]<;>rfl
       case hv=>first|(dsimp only[Av.one];exact rfl)|dsimp only[Av.one]
       case hx=>repeat' first|exact ec.var _|exact bn.yD _|exact cU.var _|exact eE.row _|exact cU.row _|exact bf.nil|exact bc.nil|exact bg.nil|exact bf.map _|exact bc.map _|exact bg.map _|exact bn.int _|exact bn.str _|exact bn.bool _|apply bn.p2|apply bn.p3|apply bn.tm|apply bn.ty|apply cU.node|apply eE.of|apply bf.cons|apply bc.cons|apply bg.cons|apply bn.yk|apply bn.yE|apply bn.yF|apply ec.node|apply bf.app|apply bc.app|apply bg.app
       case hA=>exact rfl
       case ml=>simp
       case hV=>exact rfl
       case h1=>omega
       case h2=>omega
       case hg=>(try simp[eW,cH,cY,eQ])<;>omega)
     ·have BJ:=cS (.mk tk [s,v]) (by omega);have ym:=fun p hp=>jx b hb 4 (.mk tk [s,v]) p b7 hp
      simp only[eu,aE.b4,aE.bQ,Zn,Zm,aQ]at BJ ym;repeat' first|((first|refine ab (hK _ ?_)|refine aA (hK _ ?_)|refine bz (hK _ ?_));clear hK K)|((first|refine af ?_|refine aG ?_|refine bO ?_|refine aa rfl (qC) ?_|refine aa rfl (BO _) ?_|refine aa rfl (vg _ _) ?_);simp[eN];(try simp(disch:=omega)only[wrap64]);(try(refine gen2 ?_ ?_<;>intro hq<;>try simp[eN]at hq)))|(refine aB 0 rfl rfl (dU b hb _ (by omega) 3 (by omega)) (fun x1 p1 dn dG b8=>?_);simp[eN];(try simp(disch:=omega)only[wrap64]);(try(refine gen2 ?_ ?_<;>intro hq<;>try simp[eN]at hq)))|(refine aB 0 rfl rfl (iA b hb _ (by omega) [1,2,0,999,5] (by simp) (by simp)) (fun x1 p1 dn dG b8=>?_);simp[eN];(try simp(disch:=omega)only[wrap64]);(try(refine gen2 ?_ ?_<;>intro hq<;>try simp[eN]at hq)))|(refine aB 0 rfl rfl (SR _ (by omega)) (fun x1 p1 dn dG b8=>?_);simp[eN];(try simp(disch:=omega)only[wrap64]);(try(refine gen2 ?_ ?_<;>intro hq<;>try simp[eN]at hq)))|(refine aB 0 rfl rfl (SS _ (by omega)) (fun x1 p1 dn dG b8=>?_);simp[eN];(try simp(disch:=omega)only[wrap64]);(try(refine gen2 ?_ ?_<;>intro hq<;>try simp[eN]at hq)))|(refine aB 0 rfl rfl (SU _ (by omega)) (fun x1 p1 dn dG b8=>?_);simp[eN];(try simp(disch:=omega)only[wrap64]);(try(refine gen2 ?_ ?_<;>intro hq<;>try simp[eN]at hq)))|refine TX.rd (id:=24) mixed (fun _=>false) [12,13] (by kernel_rfl) fun K hK=>?_|refine TX.pB (id:=26) mixed (fun _=>false) [8,17,20] [12,13,14] 9 [0] (by kernel_rfl) fun K hK=>?_|refine TX.rs (fun _=>false) fun K hK=>?_|refine TX.cond rfl (fun al=>?_) (fun al=>absurd al (by decide))|refine TX.cond rfl (fun al=>absurd al (by decide)) (fun al=>?_)|refine TX.seq ?_|refine TX.block ?_|refine TX.skip ?_|refine TX.exit ?_|refine EX.ij ?_|refine EX.oH ?_|refine EX.gQ ?_|refine EX.kE ?_|refine EX.FB ?_
      all_goals(
       refine TX.ret ?_;repeat' first|refine EX.mq ?_|refine EX.il ?_|refine EX.eV ?_|refine EX.mr ?_
       apply EX.ze (ks:=[])
       case he=>exact Or.inr rfl
       case mL=>simp[aF,dQ,Tryz.results86]<;>rfl
       case hv=>first|(dsimp only[Av.one];exact rfl)|dsimp only[Av.one]
       case hx=>repeat' first|exact ec.var _|exact bn.yD _|exact cU.var _|exact eE.row _|exact cU.row _|exact bf.nil|exact bc.nil|exact bg.nil|exact bf.map _|exact bc.map _|exact bg.map _|exact bn.int _|exact bn.str _|exact bn.bool _|apply bn.p2|apply bn.p3|apply bn.tm|apply bn.ty|apply cU.node|apply eE.of|apply bf.cons|apply bc.cons|apply bg.cons|apply bn.yk|apply bn.yE|apply bn.yF|apply ec.node|apply bf.app|apply bc.app|apply bg.app
       case hA=>exact rfl
       case ml=>simp
       case hV=>exact rfl
       case h1=>omega
       case h2=>omega
       case hg=>(try simp[eW,cH,cY,eQ])<;>omega)
def JP:Nat->Nat|0=>0|m+1=>3*(JP m+1)+3000
def LI:Nat->Nat|0=>0|m+1=>3*(LI m+102)+100
theorem rf {m n:Nat} {t:aE} (h:m<=n) (ht:ak m t=true):ak n t=true:=by
 induction n with
 |zero=>have:m=0:=by omega
        subst this;exact ht
 |succ n ih=>
  by_cases e:m=n+1
  ·subst e;exact ht
  ·exact cl (ih (by omega))
theorem FR (b:List Int) (hb:okB b):∀(k:Nat) (ctx:List ea) (t:aE) (d:Int) (p:Nat),ctx.length+k<=900->(∀u∈ctx,u.name.length<=10/\gl u.ty<=1000)->-900+(k:Int)<=d->d<=900->
  ((d<=1/\k<=4/\ak k t=true)\/(ak 4 t=true/\d<=(k:Int)-3/\4<=k))->p+JP k<=1099511627776->bw Zl 86 [kS ctx,eu t,.i d] b p (JP k) (RV c6 wc fun e=>fy e<=LI k):=by
 intro k;induction k with
 |zero=>
  intro ctx t d p _ _ _ _ h _;rcases h with⟨_,_,h⟩|⟨_,_,h⟩
  ·simp[ak]at h
  ·omega
 |succ k ih=>
  intro ctx t d p hl Ja hd Q7 h hp;have b7:ak 4 t=true:=by
   rcases h with⟨_,h1,h2⟩|⟨h,_,_⟩
   ·exact rf (by omega) h2
   ·exact h
  have hN:JP (k+1)=3*(JP k+1)+3000:=rfl;have hB:LI (k+1)=3*(LI k+102)+100:=rfl;rw[hN]at hp⊢;rw[hB];have N7:∀(s u:aE),ak 4 s=true->((d-1<=1/\k<=4/\ak k u=true)\/(ak 4 u=true/\d-1<=(k:Int)-3/\4<=k))->∀p,p+(JP k+1)<=1099511627776->bw Zl 126 [kS ctx,eu s,eu u,.i (d-1)] b p (JP k+1) (RV c6 wc fun e=>fy e<=LI k+102):=by
   intro s u hs hu p hp;have VM:=fY hs;refine HO b hb ctx s u (by omega) (by omega) (d-1) (by omega) (by omega) (JP k) (LI k) p (by omega) fun c q hq=>?_
   have:=ih (ctx++[⟨[c],s⟩]) u (d-1) q (by simp;omega) (by
    intro v hv;rcases List.mem_append.1 hv with hv|hv
    ·exact Ja v hv
    ·simp at hv;subst hv;exact⟨by simp,by show gl s<=1000;omega⟩) (by omega) (by omega) hu hq
   rw[kS,List.map_append]at this;exact this
  have mS:∀u∈t.kids,(d-1<=1/\k<=4/\ak k u=true)\/(ak 4 u=true/\d-1<=(k:Int)-3/\4<=k):=by
   intro u hu;rcases h with⟨h1,h2,h3⟩|⟨h1,h2,h3⟩
   ·obtain⟨e,he,_,_,hs⟩:=dT h3;obtain rfl:k=e:=by omega
    exact .inl ⟨by omega,by omega,hs u hu⟩
   ·obtain⟨e,he,_,_,hs⟩:=dT h1;obtain rfl:e=3:=by omega
    by_cases hk:k=3
    ·subst hk;exact .inl ⟨by omega,by omega,hs u hu⟩
    ·exact .inr ⟨rf (by omega) (hs u hu),by omega,by omega⟩
  have oJ:∀u∈t.kids,ak 4 u=true:=by
   intro u hu;obtain⟨e,he,_,_,hs⟩:=dT b7;exact rf (by omega) (hs u hu)
  refine(BQ b hb ctx (by omega) Ja t b7 d (by omega) (by omega) (JP k+1) (LI k+102) p (by omega) ?_ ?_ ?_ ?_).mono (by omega) (fun _ h=>h)
  ·intro UC t' LJ q hq;have Ra:4<=k:=by
    rcases h with⟨h1,_,_⟩|⟨_,h2,h3⟩
    ·omega
    ·omega
   refine(ih ctx t' (d-1) q (by omega) Ja (by omega) (by omega) (.inr ⟨LJ,?_,Ra⟩) (by omega)).mono (by omega) (fun e h=>by omega);rcases h with⟨h1,_,_⟩|⟨_,h2,_⟩<;>omega
  ·intro UC s t' hs LJ q hq;have Ra:4<=k:=by
    rcases h with⟨h1,_,_⟩|⟨_,h2,h3⟩
    ·omega
    ·omega
   refine N7 s t' hs (.inr ⟨LJ,?_,Ra⟩) q hq;rcases h with⟨h1,_,_⟩|⟨_,h2,_⟩<;>omega
  ·intro u hu q hq;exact(ih ctx u (d-1) q (by omega) Ja (by omega) (by omega) (mS u hu) (by omega)).mono (by omega) (fun e h=>by omega)
  ·intro u hu v hv q hq;exact N7 u v (oJ u hu) (mS v hv) q hq
theorem Dv (b:List Int) (hb:okB b) (ctx:List ea) (hl:ctx.length<=100) (Ja:∀u∈ctx,u.name.length<=10/\gl u.ty<=1000) (t:aE) (ht:ak 4 t=true) (d:Int) (hd:1<=d) (Q7:d<=5) (p:Nat) (hp:p+9849840<=1099511627776):
  bw Zl 86 [kS ctx,eu t,.i d] b p 9849840 (RV c6 wc fun e=>fy e<=2000000):=
 (FR b hb 8 ctx t d p (by omega) Ja (by omega) (by omega) (.inr ⟨ht,by omega,by omega⟩) hp).mono (by decide) (fun e h=>Nat.le_trans h (by decide))
end Go.Proofs.YtloolmchekcmeaaGreat
