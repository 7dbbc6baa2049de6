/- A part. -/
import Derived.Test.YtloolmchekcmeaaGreatXB21
set_option linter.unusedVariables false
set_option linter.unusedSimpArgs false
open Go.Proofs.Tryz renaming prog->abw
open List renaming length_append->abx,take_length->aby,set_cons_zero->abz,set_cons_succ->abA,nil_append->abB,mem_of_getElem?->abC,getElem?_eq_getElem->abD,drop_eq_getElem_cons->abE,cons_append->abF
namespace Go.Proofs.YtloolmchekcmeaaGreat
attribute [-simp] Go.Av.cj Go.Av.e0 Go.Av.fH Go.Av.fy Go.Av.cW Go.Av.cg
open Go Go.Av
attribute [local irreducible] T ah TX EX LX bB dn bW cx ie aG.kind aG.kids al.kind al.name al.num al.ty al.fr al.label al.kids
attribute [local simp] aL au
set_option maxHeartbeats 16000000
set_option maxRecDepth 8000
@[simp] theorem O5:td abw 132=some {ag:=true,sz:=26,lS:=26,zero:=some (RE U7),el:=none,ar:=some (26,4),fl:=[],ik:=none,cO:=false,nz:=false}:=dQ (by kernel_rfl)
theorem mg {α:Type} (f:α->Nat):∀(l:List α) (p:Nat),((l.take p).map f).sum<=(l.map f).sum
 |[],p=>by simp
 |x::r,0=>by simp
 |x::r,p+1=>by have:=mg f r p;simp only[List.take_succ_cons,List.map_cons,List.sum_cons];omega
theorem AF {α:Type} (f:α->Nat) {l:List α} {p:Nat} {u:α} (h:l[p]? =some u):((l.take (p+1)).map f).sum=((l.take p).map f).sum+f u:=by
 rw[List.take_add_one,h];simp
def yO (l:List aG) (p:Nat):Nat:=((l.take p).map eN).sum
theorem zM (l:List aG):yO l 0=0:=by simp[yO]
theorem Iw {l:List aG} {p:Nat} {u:aG} (h:l[p]? =some u):yO l (p+1)=yO l p+eN u:=AF eN h
theorem Ke (l:List aG) (p:Nat):yO l p<=(l.map eN).sum:=mg eN l p
theorem Ix (l:List aG):yO l l.length=(l.map eN).sum:=by rw[yO,aby]
theorem Kf:∀(e:aG),fE e<=1099511627776->ah abw 67 [dF e] [] (.i (eN e)) [] []:=by
 intro e;induction e using aG.ind with
 |h e ih=>
  intro hn;have hle:=JW e;rw[Cu]at hle⊢;by_cases h1:e.kind=1
  ·simp only[h1,if_true];refine ah.ob Tryz.func67 Tryz.ntmps67 rfl ?_;repeat' first|(refine ab (hK _ ?_);clear hK K)|(refine ae ?_;simp[h1];(try(refine gen2 ?_ ?_<;>intro hq<;>try simp[h1]at hq)))|(refine T.ret (aB.data (Or.inr rfl) ?_ ?_)<;>simp[Tryz.results67]<;>omega)|refine T.r0 fun K hK=>?_|refine T.ct rfl ?_|refine T.seq ?_
  rw[if_neg h1]at hle⊢;have C5:e.kids.length<=1099511627776:=by have:=gg e.kids;rw[eK]at hn;omega
  refine ah.ob Tryz.func67 Tryz.ntmps67 rfl ?_;repeat' first|(refine ab (hK _ ?_);clear hK K)|(refine ae ?_;simp[h1];(try(refine gen2 ?_ ?_<;>intro hq<;>try simp[h1]at hq)))|refine T.r0 fun K hK=>?_|refine T.cf rfl ?_|refine T.seq ?_|refine T.block ?_|refine T.skip ?_
  refine T.dU (α:=Nat×List (List CV)) [2,10,11] (fun x=>[(3,.i (yO e.kids x.1)),(12,.i x.1)]) (fun x=>[]) (fun x=>x.2) (fun x A=>A) (fun x=>e.kids.length+1-x.1) (fun x=>x.1<=e.kids.length) (by simp;rfl) (fun x hx=>?_) (0,[]) (by simp) (by simp) (by simp[zM]) (by simp[zM]);obtain⟨p,G⟩:=x;dsimp only at hx⊢;simp only[iy,abz,abA,abF,abB];by_cases ax:p<e.kids.length
  ·obtain⟨u,ht⟩:=bR ax;have eQ:u∈e.kids:=abC ht;have bf:e.kids[p]=u:=by rw[abD ax]at ht;exact Option.some.inj ht
   have gP:e.kids.drop p=u::e.kids.drop (p+1):=by rw[abE ax,bf]
   have hu:=ih u eQ (by have:=gh eQ;rw[eK]at hn;omega);have hs:=Iw ht;have hb:=Ke e.kids (p+1);generalize yO e.kids p=S at*;have Vg:(yO e.kids (p+1):Int)=S+eN u:=by omega
   repeat' first|(refine ab (hK _ ?_);clear hK K)|((first|refine ae ?_|refine aa rfl (hu) ?_);simp[ax,bf];(try simp(disch:=omega)only[wrap64]);(try(refine gen2 ?_ ?_<;>intro hq<;>try simp[ax,bf]at hq)))|(refine⟨(p+1,_),by dsimp only;omega,by dsimp only;omega,rfl,?_,?_⟩<;>simp(disch:=omega) [wrap64,Vg])|refine T.r0 fun K hK=>?_|refine T.r1 fun K hK=>?_|refine T.ct rfl ?_|refine T.seq ?_|refine T.block ?_|refine T.skip ?_
  ·have ff:p=e.kids.length:=by omega
   subst ff;rw[Ix];repeat' first|(refine ab (hK _ ?_);clear hK K)|(refine ae ?_;simp[ax];(try(refine gen2 ?_ ?_<;>intro hq<;>try simp[ax]at hq)))|(refine T.ret (aB.val (Or.inr rfl) ?_)<;>simp[ay,Tryz.results67]<;>omega)|refine T.r0 fun K hK=>?_|refine T.cf rfl ?_|refine T.seq ?_|refine T.exit ?_
theorem Ed (t:aG) (hn:fE t<=1099511627776):ah abw 66 [dF t] [] (.b (decide (0<eN t))) [] []:=by
 have h2:=Kf t hn;have e:decide (0<eN t)=decide ((0:Int)<eN t):=decide_eq_decide.2 (by omega);rw[e];generalize eN t=n at*;refine ah.ob Tryz.func66 Tryz.ntmps66 rfl ?_;repeat' first|(refine ab (hK _ ?_);clear hK K)|((first|refine ae ?_|refine aa rfl (h2) ?_);simp)|(refine T.ret (aB.data (Or.inr rfl) ?_ ?_)<;>simp[Tryz.results66, *]<;>omega)|refine T.r0 fun K hK=>?_
theorem Gl (e:al) (hh:br e.kind=true) (hn:e9 e<=1099511627776)
  (ih:∀u∈e.kids,ah abw 65 [cL u] [] (.c (.own 0 (aF u).length)) [] [{sz:=2,eA:=25,rows:=(aF u).map cx,wr:=true}]):
  ah abw 65 [cL e] [] (.c (.own 0 ([e.ty]++az e.kids).length)) [] [{sz:=2,eA:=25,rows:=([e.ty]++az e.kids).map cx,wr:=true}]:=by
 obtain⟨jE,oY,xf,qP⟩:=cE hn;have h1:=eD e.ty jE;have h2:=oo e;rw[hh]at h2;have S9:(az e.kids).length<=1099511627777:=by have:=(od e).2;rw[iP]at this;simp only[abx]at this;omega
 refine ah.ob Tryz.func65 Tryz.ntmps65 rfl ?_;repeat' first|(refine ab (hK _ ?_);clear hK K)|((first|refine ae ?_|refine aa rfl (h2) ?_|refine aa rfl (h1) ?_);simp;(try(refine gen2 ?_ ?_<;>intro hq<;>try simp at hq)))|refine T.r0 fun K hK=>?_|refine T.r1 fun K hK=>?_|refine T.ct rfl ?_|refine T.seq ?_|refine T.block ?_
 refine T.dU (α:=Nat×List (List CV)×List bu) [2,15,16] (fun x=>[(3,.c (.own 0 ([e.ty]++az (e.kids.take x.1)).length)),(17,.i x.1)]) (fun x=>[]) (fun x=>x.2.1) (fun x _=>{sz:=2,eA:=25,rows:=([e.ty]++az (e.kids.take x.1)).map cx,wr:=true}::x.2.2) (fun x=>e.kids.length+1-x.1) (fun x=>x.1<=e.kids.length) (by simp;rfl) (fun x hx=>?_) (0,[],[]) (by simp) (by simp) (by simp[az,aL]) (by simp[az]);obtain⟨p,G,GA⟩:=x;dsimp only at hx⊢;simp only[iy,abz,abA,abF,abB];by_cases ax:p<e.kids.length
 ·obtain⟨u,ht⟩:=bR ax;have eQ:u∈e.kids:=abC ht;have bf:e.kids[p]=u:=by rw[abD ax]at ht;exact Option.some.inj ht
  have gP:e.kids.drop p=u::e.kids.drop (p+1):=by rw[abE ax,bf]
  have hu:=ih u eQ;have mL:az (e.kids.take (p+1))=az (e.kids.take p)++aF u:=cq ht;have hle:=gn e.kids (p+1);rw[mL,abx]at hle;generalize az (e.kids.take p)=Z at*;generalize aF u=tu at*;repeat' first|(refine ab (hK _ ?_);clear hK K)|(refine ae ?_;simp[ax,bf];(try simp(disch:=omega)only[wrap64]);(try(refine gen2 ?_ ?_<;>intro hq<;>try simp[ax,bf]at hq)))|(refine fX rfl (hu) ?_;simp[ax,bf];(try simp(disch:=omega)only[wrap64]);(try(refine gen2 ?_ ?_<;>intro hq<;>try simp[ax,bf]at hq)))|(refine⟨by omega,by omega,?_⟩)|(refine⟨(p+1,_,GA++[{sz:=2,eA:=25,rows:=tu.map cx,wr:=true}]),by dsimp only;omega,by dsimp only;omega,rfl,?_,?_⟩<;>simp(disch:=omega) [wrap64,mL,aL]<;>omega)|refine T.r0 fun K hK=>?_|refine T.r1 fun K hK=>?_|refine T.ct rfl ?_|refine T.seq ?_|refine T.block ?_|refine T.skip ?_
 ·have ff:p=e.kids.length:=by omega
  subst ff;rw[aby];repeat' first|(refine ab (hK _ ?_);clear hK K)|(refine ae ?_;simp[ax];(try(refine gen2 ?_ ?_<;>intro hq<;>try simp[ax]at hq)))|refine T.r0 fun K hK=>?_|refine T.cf rfl ?_|refine T.seq ?_|refine T.exit ?_
  all_goals(refine T.ret (aB.Dz 0 (Or.inr rfl) (ys:=[_]) ?_ rfl ?_)<;>simp[ay,Tryz.results65])
theorem Iy (e:al) (hh:br e.kind=false) (hn:e9 e<=1099511627776)
  (ih:∀u∈e.kids,ah abw 65 [cL u] [] (.c (.own 0 (aF u).length)) [] [{sz:=2,eA:=25,rows:=(aF u).map cx,wr:=true}]):
  ah abw 65 [cL e] [] (.c (.own 0 ([]++az e.kids).length)) [] [{sz:=2,eA:=25,rows:=([]++az e.kids).map cx,wr:=true}]:=by
 obtain⟨jE,oY,xf,qP⟩:=cE hn;have h1:=eD e.ty jE;have h2:=oo e;rw[hh]at h2;have S9:(az e.kids).length<=1099511627777:=by have:=(od e).2;rw[iP]at this;simp only[abx]at this;omega
 refine ah.ob Tryz.func65 Tryz.ntmps65 rfl ?_;repeat' first|(refine ab (hK _ ?_);clear hK K)|((first|refine ae ?_|refine aa rfl (h2) ?_);simp;(try(refine gen2 ?_ ?_<;>intro hq<;>try simp at hq)))|refine T.r0 fun K hK=>?_|refine T.cf rfl ?_|refine T.seq ?_|refine T.block ?_|refine T.skip ?_
 refine T.pq 3 2 25 (by simp) ?_;refine T.dU (α:=Nat×List (List CV)×List bu) [2,15,16] (fun x=>[(3,.c (.own 0 ([]++az (e.kids.take x.1)).length)),(17,.i x.1)]) (fun x=>[]) (fun x=>x.2.1) (fun x _=>{sz:=2,eA:=25,rows:=([]++az (e.kids.take x.1)).map cx,wr:=true}::x.2.2) (fun x=>e.kids.length+1-x.1) (fun x=>x.1<=e.kids.length) (by simp;rfl) (fun x hx=>?_) (0,[],[]) (by simp) (by simp) (by simp[az,aL]) (by simp[az]);obtain⟨p,G,GA⟩:=x;dsimp only at hx⊢;simp only[iy,abz,abA,abF,abB];by_cases ax:p<e.kids.length
 ·obtain⟨u,ht⟩:=bR ax;have eQ:u∈e.kids:=abC ht;have bf:e.kids[p]=u:=by rw[abD ax]at ht;exact Option.some.inj ht
  have gP:e.kids.drop p=u::e.kids.drop (p+1):=by rw[abE ax,bf]
  have hu:=ih u eQ;have mL:az (e.kids.take (p+1))=az (e.kids.take p)++aF u:=cq ht;have hle:=gn e.kids (p+1);rw[mL,abx]at hle;generalize az (e.kids.take p)=Z at*;generalize aF u=tu at*;repeat' first|(refine ab (hK _ ?_);clear hK K)|(refine ae ?_;simp[ax,bf];(try simp(disch:=omega)only[wrap64]);(try(refine gen2 ?_ ?_<;>intro hq<;>try simp[ax,bf]at hq)))|(refine fX rfl (hu) ?_;simp[ax,bf];(try simp(disch:=omega)only[wrap64]);(try(refine gen2 ?_ ?_<;>intro hq<;>try simp[ax,bf]at hq)))|(refine⟨by omega,by omega,?_⟩)|(refine⟨(p+1,_,GA++[{sz:=2,eA:=25,rows:=tu.map cx,wr:=true}]),by dsimp only;omega,by dsimp only;omega,rfl,?_,?_⟩<;>simp(disch:=omega) [wrap64,mL,aL]<;>omega)|refine T.r0 fun K hK=>?_|refine T.r1 fun K hK=>?_|refine T.ct rfl ?_|refine T.seq ?_|refine T.block ?_|refine T.skip ?_
 ·have ff:p=e.kids.length:=by omega
  subst ff;rw[aby];repeat' first|(refine ab (hK _ ?_);clear hK K)|(refine ae ?_;simp[ax];(try(refine gen2 ?_ ?_<;>intro hq<;>try simp[ax]at hq)))|refine T.r0 fun K hK=>?_|refine T.cf rfl ?_|refine T.seq ?_|refine T.exit ?_
  all_goals(refine T.ret (aB.Dz 0 (Or.inr rfl) (ys:=[_]) ?_ rfl ?_)<;>simp[ay,Tryz.results65])
theorem Gm:∀(e:al),e9 e<=1099511627776->ah abw 65 [cL e] [] (.c (.own 0 (aF e).length)) [] [{sz:=2,eA:=25,rows:=(aF e).map cx,wr:=true}]:=by
 intro e;induction e using al.ind with
 |h e ih=>
  intro hn;obtain⟨_,_,_,qP⟩:=cE hn;have ih':=fun u hu=>ih u hu (qP u hu)
  rw[iP];cases hh:br e.kind with
  |true=>rw[if_pos rfl];exact Gl e hh hn ih'
  |false=>rw[if_neg (by simp)];exact Iy e hh hn ih'
theorem yP (e:al) (hn:e9 e<=1073741824):ah abw 24 [cL e] [] (.b (qk e)) [] []:=by
 have h1:=lj e (by omega);simp only[qk];cases hv:aS e with
 |false=>
  rw[hv]at h1;refine ah.ob Tryz.func24 Tryz.ntmps24 rfl ?_;repeat' first|(refine ab (hK _ ?_);clear hK K)|((first|refine ae ?_|refine aa rfl (h1) ?_);simp;(try(refine gen2 ?_ ?_<;>intro hq<;>try simp at hq)))|(refine T.ret (aB.data (Or.inr rfl) ?_ ?_)<;>simp[Tryz.results24]<;>omega)|refine T.r0 fun K hK=>?_
 |true=>
  rw[hv]at h1;have h2:=Gm e (by omega);have hs:=fun t ht=>dp ((eu.1 hv).1.types.1 t ht)
  have hl:=(eu.1 hv).1.types.2;have QG:=(eu.1 hv).2;have h3:=tU 66 (aF e) (fun t=>decide (0<eN t)) (by omega) (fun t ht=>Ed t (by have:=hs t ht;omega));generalize (aF e).any (fun t=>decide (0<eN t))=R at*;generalize aF e=ts at*;refine ah.ob Tryz.func24 Tryz.ntmps24 rfl ?_;repeat' first|(refine ab (hK _ ?_);clear hK K)|((first|(first|refine ae ?_|refine aa rfl (h1) ?_|(refine aa ?_ (h3) ?_;(focus(solve|simp))))|refine fX rfl (h2) ?_);simp;(try(refine gen2 ?_ ?_<;>intro hq<;>try simp at hq)))|(refine T.ret (aB.data (Or.inr rfl) ?_ ?_)<;>simp[Tryz.results24, *]<;>omega)|refine T.r0 fun K hK=>?_
@[simp] theorem P5:td abw 188=some {ag:=false,sz:=1,lS:=8,zero:=some [.d (.int .u64 0)],el:=none,ar:=none,fl:=[],ik:=some .u64,cO:=false,nz:=false}:=dQ (by kernel_rfl)
@[simp] theorem O6:td abw 77=some {ag:=false,sz:=1,lS:=24,zero:=some [.nil],el:=some 3,ar:=none,fl:=[],ik:=none,cO:=false,nz:=false}:=dQ (by kernel_rfl)
end Go.Proofs.YtloolmchekcmeaaGreat
