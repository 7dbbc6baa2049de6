/- A part. -/
import Derived.Test.YtloolmchekcmeaaGreatXF4
import Derived.Test.YtloolmchekcmeaaGreatChecked
set_option linter.unusedVariables false
set_option linter.unusedSimpArgs false
open Go.Proofs.Tryz renaming prog->YI
open Bool renaming not_eq_true->YJ,and_eq_true->YK
open List renaming getElem?_eq_getElem->YL,mem_of_getElem?->YM,drop_eq_getElem_cons->YN,zipWith->YO,drop_length->YP,take_add_one->YQ,all_cons->YR,mem_append->YS
open Option renaming isSome_some->YT,isSome_none->YU
namespace Go.Proofs.YtloolmchekcmeaaGreat
attribute [-simp] Go.Av.iY Go.Av.gY Go.Av.iZ Go.Av.gZ Go.Av.dI Go.Av.rJ Go.Av.gJ Go.Av.gy Go.Av.cW Go.Av.ij Go.Av.cl Go.Av.bO Go.Av.back Go.Av.fD Go.Av.one
open Go Go.Av
attribute [local irreducible] T
attribute [local simp] aJ al
@[simp] theorem cQ:td YI 3=some {ag:=false,sz:=1,lR:=8,zero:=some [.d (.int .i64 0)],el:=none,ar:=none,fl:=[],ik:=some .i64,cS:=false,nC:=false}:=dR (by kernel_rfl)
@[simp] theorem PS:td YI 4=some {ag:=false,sz:=1,lR:=1,zero:=some [.d (.bool false)],el:=none,ar:=none,fl:=[],ik:=none,cS:=false,nC:=true}:=dR (by kernel_rfl)
@[simp] theorem bK:td YI 9=some {ag:=false,sz:=1,lR:=16,zero:=some [.d (.str [])],el:=none,ar:=none,fl:=[],ik:=none,cS:=true,nC:=false}:=dR (by kernel_rfl)
@[simp] theorem JC:td YI 36=some {ag:=false,sz:=1,lR:=24,zero:=some [.nil],el:=some 38,ar:=none,fl:=[],ik:=none,cS:=false,nC:=false}:=dR (by kernel_rfl)
@[simp] theorem KT:td YI 38=some {ag:=true,sz:=2,lR:=32,zero:=some [.d (.int .i64 0),.nil],el:=none,ar:=none,fl:=[(0,1),(1,1)],ik:=none,cS:=false,nC:=false}:=dR (by kernel_rfl)
@[simp] theorem JD:td YI 39=some {ag:=false,sz:=1,lR:=24,zero:=some [.nil],el:=some 41,ar:=none,fl:=[],ik:=none,cS:=false,nC:=false}:=dR (by kernel_rfl)
@[simp] theorem KU:td YI 41=some {ag:=true,sz:=9,lR:=128,zero:=some [.d (.int .i64 0),.d (.str []),.d (.int .i64 0),.d (.int .i64 0),.nil,.d (.int .i64 0),.nil,.d (.int .i64 0),.nil],el:=none,ar:=none,fl:=[(0,1),(1,1),(2,1),(3,2),(5,2),(7,1),(8,1)],ik:=none,cS:=false,nC:=false}:=dR (by kernel_rfl)
@[simp] theorem zP:td YI 23=some {ag:=false,sz:=1,lR:=24,zero:=some [.nil],el:=some 25,ar:=none,fl:=[],ik:=none,cS:=false,nC:=false}:=dR (by kernel_rfl)
@[simp] theorem Bo:td YI 25=some {ag:=true,sz:=2,lR:=32,zero:=some [.d (.int .i64 0),.nil],el:=none,ar:=none,fl:=[(0,1),(1,1)],ik:=none,cS:=false,nC:=false}:=dR (by kernel_rfl)
@[simp] theorem JE:td YI 26=some {ag:=false,sz:=1,lR:=24,zero:=some [.nil],el:=some 28,ar:=none,fl:=[],ik:=none,cS:=false,nC:=false}:=dR (by kernel_rfl)
@[simp] theorem KV:td YI 28=some {ag:=true,sz:=9,lR:=128,zero:=some [.d (.int .i64 0),.d (.str []),.d (.int .i64 0),.d (.int .i64 0),.nil,.d (.int .i64 0),.nil,.d (.int .i64 0),.nil],el:=none,ar:=none,fl:=[(0,1),(1,1),(2,1),(3,2),(5,2),(7,1),(8,1)],ik:=none,cS:=false,nC:=false}:=dR (by kernel_rfl)
theorem mixed:Tryz.prog.follows .mixedOrders=true:=by kernel_rfl
end Go.Proofs.YtloolmchekcmeaaGreat
namespace Go.Proofs.YtloolmchekcmeaaGreat
attribute [-simp] Go.Av.dI Go.Av.rJ Go.Av.gJ Go.Av.gy Go.Av.cW Go.Av.ij Go.Av.cl Go.Av.bO Go.Av.back Go.Av.fD Go.Av.one
open Go Go.Av
attribute [local irreducible] T
attribute [local simp] aJ al
theorem wH (x lo hi:Int):ah YI 151 [.i x,.i lo,.i hi] [] (.b (nD x lo hi)) [] []:=by
 refine ah.ob Tryz.func151 Tryz.ntmps151 rfl ?_;repeat' first|(refine ab (hK _ ?_);clear hK K)|(refine ae ?_;simp;(try(refine gen fun q hq=>?_;cases q<;>(try simp at hq))))|refine T.r0 fun K hK=>?_|refine T.r1 fun K hK=>?_|refine T.cond rfl (fun hc=>?_) (fun hc=>absurd hc (by decide))|refine T.cond rfl (fun hc=>absurd hc (by decide)) (fun hc=>?_)|refine T.seq ?_|refine T.block ?_|refine T.skip ?_|refine T.exit ?_
 all_goals(refine T.ret (aB.data (Or.inr rfl) ?_ ?_)<;>simp[Tryz.results151,nD, *]<;>omega)
theorem yM (s:List UInt8):ah YI 141 [.s s] [] (.b (dX s)) [] []:=by
 refine ah.ob Tryz.func141 Tryz.ntmps141 rfl ?_
 match s with
 |[]=>
  repeat' first|(refine ab (hK _ ?_);clear hK K)|(refine ae ?_;simp;(try(refine gen fun q hq=>?_;cases q<;>(try simp at hq))))|refine T.r0 fun K hK=>?_|refine T.r1 fun K hK=>?_|refine T.cond rfl (fun hc=>?_) (fun hc=>absurd hc (by decide))|refine T.cond rfl (fun hc=>absurd hc (by decide)) (fun hc=>?_)|refine T.seq ?_|refine T.block ?_|refine T.skip ?_|refine T.exit ?_
  all_goals(refine T.ret (aB.data (Or.inr rfl) ?_ ?_)<;>simp[Tryz.results141,dX])
 |[c]=>
  repeat' first|(refine ab (hK _ ?_);clear hK K)|(refine ae ?_;simp;(try(refine gen fun q hq=>?_;cases q<;>(try simp at hq))))|refine T.r0 fun K hK=>?_|refine T.r1 fun K hK=>?_|refine T.cond rfl (fun hc=>?_) (fun hc=>absurd hc (by decide))|refine T.cond rfl (fun hc=>absurd hc (by decide)) (fun hc=>?_)|refine T.seq ?_|refine T.block ?_|refine T.skip ?_|refine T.exit ?_
  all_goals(refine T.ret (aB.data (Or.inr rfl) ?_ ?_)<;>simp[Tryz.results141,dX, *]<;>omega)
 |c::d::r=>
  have h2:¬((r.length:Int)+1+1=1):=by omega
  repeat' first|(refine ab (hK _ ?_);clear hK K)|(refine ae ?_;simp[h2,Ea h2];(try(refine gen fun q hq=>?_;cases q<;>(try simp[h2]at hq))))|refine T.r0 fun K hK=>?_|refine T.r1 fun K hK=>?_|refine T.cond rfl (fun hc=>?_) (fun hc=>absurd hc (by decide))|refine T.cond rfl (fun hc=>absurd hc (by decide)) (fun hc=>?_)|refine T.seq ?_|refine T.block ?_|refine T.skip ?_|refine T.exit ?_
  all_goals(refine T.ret (aB.data (Or.inr rfl) ?_ ?_)<;>simp[Tryz.results141,dX])
theorem yN (s:List UInt8):ah YI 156 [.s s] [] (.b (dX s)) [] []:=by
 refine ah.ob Tryz.func156 Tryz.ntmps156 rfl ?_
 match s with
 |[]=>
  repeat' first|(refine ab (hK _ ?_);clear hK K)|(refine ae ?_;simp;(try(refine gen fun q hq=>?_;cases q<;>(try simp at hq))))|refine T.r0 fun K hK=>?_|refine T.r1 fun K hK=>?_|refine T.cond rfl (fun hc=>?_) (fun hc=>absurd hc (by decide))|refine T.cond rfl (fun hc=>absurd hc (by decide)) (fun hc=>?_)|refine T.seq ?_|refine T.block ?_|refine T.skip ?_|refine T.exit ?_
  all_goals(refine T.ret (aB.data (Or.inr rfl) ?_ ?_)<;>simp[Tryz.results156,dX])
 |[c]=>
  repeat' first|(refine ab (hK _ ?_);clear hK K)|(refine ae ?_;simp;(try(refine gen fun q hq=>?_;cases q<;>(try simp at hq))))|refine T.r0 fun K hK=>?_|refine T.r1 fun K hK=>?_|refine T.cond rfl (fun hc=>?_) (fun hc=>absurd hc (by decide))|refine T.cond rfl (fun hc=>absurd hc (by decide)) (fun hc=>?_)|refine T.seq ?_|refine T.block ?_|refine T.skip ?_|refine T.exit ?_
  all_goals(refine T.ret (aB.data (Or.inr rfl) ?_ ?_)<;>simp[Tryz.results156,dX, *]<;>omega)
 |c::d::r=>
  have h2:¬((r.length:Int)+1+1=1):=by omega
  repeat' first|(refine ab (hK _ ?_);clear hK K)|(refine ae ?_;simp[h2,Ea h2];(try(refine gen fun q hq=>?_;cases q<;>(try simp[h2]at hq))))|refine T.r0 fun K hK=>?_|refine T.r1 fun K hK=>?_|refine T.cond rfl (fun hc=>?_) (fun hc=>absurd hc (by decide))|refine T.cond rfl (fun hc=>absurd hc (by decide)) (fun hc=>?_)|refine T.seq ?_|refine T.block ?_|refine T.skip ?_|refine T.exit ?_
  all_goals(refine T.ret (aB.data (Or.inr rfl) ?_ ?_)<;>simp[Tryz.results156,dX])
theorem uN (t:aI):ah YI 152 [dE t] [] (.b (ed t)) [] []:=by
 refine ah.ob Tryz.func152 Tryz.ntmps152 rfl ?_;repeat' first|(refine ab (hK _ ?_);clear hK K)|(refine ae ?_;simp;(try(refine gen fun q hq=>?_;cases q<;>(try simp at hq))))|refine T.r0 fun K hK=>?_|refine T.r1 fun K hK=>?_|refine T.cond rfl (fun hc=>?_) (fun hc=>absurd hc (by decide))|refine T.cond rfl (fun hc=>absurd hc (by decide)) (fun hc=>?_)|refine T.seq ?_|refine T.block ?_|refine T.skip ?_|refine T.exit ?_
 all_goals(refine T.ret (aB.data (Or.inr rfl) ?_ ?_)<;>simp[Tryz.results152,ed, *])
theorem yO (t:aI):ah YI 157 [dE t] [] (.b (ed t)) [] []:=by
 refine ah.ob Tryz.func157 Tryz.ntmps157 rfl ?_;repeat' first|(refine ab (hK _ ?_);clear hK K)|(refine ae ?_;simp;(try(refine gen fun q hq=>?_;cases q<;>(try simp at hq))))|refine T.r0 fun K hK=>?_|refine T.r1 fun K hK=>?_|refine T.cond rfl (fun hc=>?_) (fun hc=>absurd hc (by decide))|refine T.cond rfl (fun hc=>absurd hc (by decide)) (fun hc=>?_)|refine T.seq ?_|refine T.block ?_|refine T.skip ?_|refine T.exit ?_
 all_goals(refine T.ret (aB.data (Or.inr rfl) ?_ ?_)<;>simp[Tryz.results157,ed, *])
theorem C1 (n:Int):ah YI 154 [.i n] [] (.b (CP n)) [] []:=by
 refine ah.ob Tryz.func154 Tryz.ntmps154 rfl ?_;repeat' first|(refine T.rs (fun _=>false) fun K hK=>?_;(repeat (refine ae ?_;simp));refine ab (hK _ ?_);clear hK K)|(refine T.eQ (fun _=>false) fun K hK=>?_;(repeat (refine ae ?_;simp));refine ab (hK _ ?_);clear hK K)|refine T.cond rfl (fun hc=>?_) (fun hc=>absurd hc (by decide))|refine T.cond rfl (fun hc=>absurd hc (by decide)) (fun hc=>?_)|refine T.seq ?_|refine T.block ?_|refine T.skip ?_|refine T.exit ?_
 refine T.eQ (fun _=>false) fun K hK=>?_
 repeat (refine ae ?_;simp)
 refine aa (by simp) (wH n 1 99) ?_;simp;refine Cv.gen fun q hq=>?_
 cases q
 ·repeat (refine ae ?_;simp)
  refine aa (by simp) (wH n (-99) (-1)) ?_;simp;repeat' first|(refine ab (hK _ ?_);clear hK K)|(refine ae ?_;simp;(try(refine gen fun q hq=>?_;cases q<;>(try simp at hq))))|refine T.r0 fun K hK=>?_|refine T.r1 fun K hK=>?_|refine T.cond rfl (fun hc=>?_) (fun hc=>absurd hc (by decide))|refine T.cond rfl (fun hc=>absurd hc (by decide)) (fun hc=>?_)|refine T.seq ?_|refine T.block ?_|refine T.skip ?_|refine T.exit ?_
  all_goals(refine T.ret (aB.data (Or.inr rfl) ?_ ?_)<;>simp[Tryz.results154,CP, *])
 ·repeat' first|(refine ab (hK _ ?_);clear hK K)|(refine ae ?_;simp;(try(refine gen fun q hq=>?_;cases q<;>(try simp at hq))))|refine T.r0 fun K hK=>?_|refine T.r1 fun K hK=>?_|refine T.cond rfl (fun hc=>?_) (fun hc=>absurd hc (by decide))|refine T.cond rfl (fun hc=>absurd hc (by decide)) (fun hc=>?_)|refine T.seq ?_|refine T.block ?_|refine T.skip ?_|refine T.exit ?_
  all_goals(refine T.ret (aB.data (Or.inr rfl) ?_ ?_)<;>simp[Tryz.results154,CP, *])
theorem yP (k:Int):ah YI 133 [.i k] [] (.i (cm k)) [] []:=by
 refine ah.ob Tryz.func133 Tryz.ntmps133 rfl ?_;repeat' first|(refine ab (hK _ ?_);clear hK K)|(refine ae ?_;simp;(try(refine gen fun q hq=>?_;cases q<;>(try simp at hq))))|refine T.r0 fun K hK=>?_|refine T.r1 fun K hK=>?_|refine T.cond rfl (fun hc=>?_) (fun hc=>absurd hc (by decide))|refine T.cond rfl (fun hc=>absurd hc (by decide)) (fun hc=>?_)|refine T.seq ?_|refine T.block ?_|refine T.skip ?_|refine T.exit ?_
 all_goals(refine T.ret (aB.data (Or.inr rfl) ?_ ?_)<;>simp[Tryz.results133,cm, *])
@[simp] theorem PT:td YI 77=some {ag:=false,sz:=1,lR:=24,zero:=some [.nil],el:=some 3,ar:=none,fl:=[],ik:=none,cS:=false,nC:=false}:=dR (by kernel_rfl)
theorem Bp (k:Int):ah YI 150 [.i k] [] (.i (cm k)) [] []:=by
 refine ah.ob Tryz.func150 Tryz.ntmps150 rfl ?_;repeat' first|(refine T.rs (fun _=>false) fun K hK=>?_;(repeat (refine ae ?_;simp));refine ab (hK _ ?_);clear hK K)|(refine T.eQ (fun _=>false) fun K hK=>?_;(repeat (refine ae ?_;simp));refine ab (hK _ ?_);clear hK K)|refine T.cond rfl (fun hc=>?_) (fun hc=>absurd hc (by decide))|refine T.cond rfl (fun hc=>absurd hc (by decide)) (fun hc=>?_)|refine T.seq ?_|refine T.block ?_|refine T.skip ?_|refine T.exit ?_
 refine T.eQ (fun _=>false) fun K hK=>?_
 repeat (refine ae ?_;simp)
 refine aa (by simp) (wH k 1 14) ?_;simp;by_cases h:nD k 1 14=true
 ·have hr:k=1\/k=2\/k=3\/k=4\/k=5\/k=6\/k=7\/k=8\/k=9\/k=10\/k=11\/k=12\/k=13\/k=14:=by
   simp[nD]at h;omega
  rcases hr with rfl|rfl|rfl|rfl|rfl|rfl|rfl|rfl|rfl|rfl|rfl|rfl|rfl|rfl
  all_goals
   simp[nD]at h;have hw:∀n:Int,0<=n->n<=20->IntKind.i64.wrap n=n:=fun n h1 h2=>wrap64 (by omega) (by omega)
   repeat' first|(refine ab (hK _ ?_);clear hK K)|(refine ae ?_;simp[nD,hw];(try(refine gen fun q hq=>?_;cases q<;>(try simp at hq))))|refine T.r0 fun K hK=>?_|refine T.r1 fun K hK=>?_|refine T.cond rfl (fun hc=>?_) (fun hc=>absurd hc (by decide))|refine T.cond rfl (fun hc=>absurd hc (by decide)) (fun hc=>?_)|refine T.seq ?_|refine T.block ?_|refine T.skip ?_|refine T.exit ?_
   all_goals(refine T.ret (aB.data (Or.inr rfl) ?_ ?_)<;>simp[Tryz.results150,cm])
 ·have hk:cm k=-1:=by
   simp only[nD,YJ,Bool.and_eq_false_iff,decide_eq_false_iff_not]at h;have:k<1\/14<k:=by omega
   simp only[cm]
   repeat (rw[if_neg (by omega)])
  simp only[YJ]at h;repeat' first|(refine ab (hK _ ?_);clear hK K)|(refine ae ?_;simp[h];(try(refine gen fun q hq=>?_;cases q<;>(try simp at hq))))|refine T.r0 fun K hK=>?_|refine T.r1 fun K hK=>?_|refine T.cond rfl (fun hc=>?_) (fun hc=>absurd hc (by decide))|refine T.cond rfl (fun hc=>absurd hc (by decide)) (fun hc=>?_)|refine T.seq ?_|refine T.block ?_|refine T.skip ?_|refine T.exit ?_
  all_goals(refine T.ret (aB.data (Or.inr rfl) ?_ ?_)<;>simp[Tryz.results150,hk])
end Go.Proofs.YtloolmchekcmeaaGreat
namespace Go.Proofs.YtloolmchekcmeaaGreat
attribute [-simp] Go.Av.dI Go.Av.rJ Go.Av.gJ Go.Av.gy Go.Av.cW Go.Av.ij Go.Av.cl Go.Av.bO Go.Av.back Go.Av.fD Go.Av.one
open Go Go.Av
attribute [local irreducible] T ah ck gp aI.kind aI.kids ao.kind ao.name ao.num ao.ty ao.fr ao.label ao.kids
attribute [local simp] aJ al
set_option maxHeartbeats 4000000
theorem tO (k:Int):ah YI 128 [.i k] [] (.i (cz k)) [] []:=by
 refine ah.ob Tryz.func128 Tryz.ntmps128 rfl ?_;repeat' first|(refine ab (hK _ ?_);clear hK K)|(refine ae ?_;simp;(try(refine gen2 ?_ ?_<;>intro hq<;>try simp at hq)))|(refine T.ret (aB.data (Or.inr rfl) ?_ ?_)<;>simp[Tryz.results128,cz, *]<;>omega)|refine T.r0 fun K hK=>?_|refine T.r1 fun K hK=>?_|refine T.ct rfl ?_|refine T.cf rfl ?_|refine T.seq ?_|refine T.block ?_|refine T.skip ?_
theorem wI:∀(d:Nat) (t:aI),d<=1000->fA t<=1099511627776->ah YI 143 [dE t,.i d] [] (.b (ak d t)) [] []
 |0,t,_,_=>by
  refine ah.ob Tryz.func143 Tryz.ntmps143 rfl ?_;repeat' first|((first|refine ab (hK _ ?_)|refine aD (hK _ ?_));clear hK K)|((first|refine ae ?_|refine aH ?_);simp;(try(refine gen2 ?_ ?_<;>intro hq<;>(try simp at hq)<;>try(have:True:=hq;clear this hq))))|(refine T.ret (aB.data (Or.inr rfl) ?_ ?_)<;>simp[Tryz.results143,ak]<;>omega)|refine T.r0 fun K hK=>?_|refine T.rd mixed (fun _=>false) [] (by kernel_rfl) fun K hK=>?_|refine T.ct rfl ?_|refine T.seq ?_
 |d+1,t,hd,hn=>by
  rw[eI]at hn;have hlen:=fX t.kids;have gR:¬((d:Int)+1<1):=by omega
  refine ah.ob Tryz.func143 Tryz.ntmps143 rfl ?_;repeat' first|((first|refine ab (hK _ ?_)|refine aD (hK _ ?_));clear hK K)|((first|(first|refine ae ?_|refine aH ?_)|refine aa rfl (tO _) ?_);simp[gR];(try(refine gen2 ?_ ?_<;>intro hq<;>(try simp[gR]at hq)<;>try(have:True:=hq;clear this hq))))|(refine T.ret (aB.data (Or.inr rfl) ?_ ?_)<;>simp[Tryz.results143,ak, *]<;>omega)|refine T.r0 fun K hK=>?_|refine T.rd mixed (fun _=>false) [] (by kernel_rfl) fun K hK=>?_|refine T.ct rfl ?_|refine T.cf rfl ?_|refine T.seq ?_|refine T.block ?_|refine T.skip ?_
  obtain⟨R,hR⟩:∃R,t.kids.all (ak d)=R:=⟨_,rfl⟩;rw[show ak (d+1) t=R by simp[ak,hq,hR]];refine T.fW (fun p:Nat=>⟨[(1,.i (d+1)),(2,.c (.ptr 0 0)),(5,.i p)],[(dE t).cells],[]⟩) (fun p=>t.kids.length+1-p) (fun p=>p<=t.kids.length/\(t.kids.drop p).all (ak d)=R) (fun p hp=>?_) 0 (by simpa using hR) (by simp);obtain⟨hi,he⟩:=hp;by_cases ay:p<t.kids.length
  ·obtain⟨u,ht⟩:=bM ay;have eA:u∈t.kids:=YM ht;have aX:t.kids[p]=u:=by rw[YL ay]at ht;exact Option.some.inj ht
   have gz:t.kids.drop p=u::t.kids.drop (p+1):=by rw[YN ay,aX]
   have hu:=wI d u (by omega) (by have:=fE eA;omega);rw[gz,YR]at he;cases hb:ak d u<;>rw[hb]at hu he
   ·repeat' first|(refine ab (hK _ ?_);clear hK K)|(refine ae ?_;simp[ay,aX];(try simp(disch:=omega)only[wrap64]);(try(refine gen2 ?_ ?_<;>intro hq<;>(try simp[ay,aX]at hq)<;>try(have:True:=hq;clear this hq))))|(refine aa rfl (hu) ?_;simp[ay,aX];(try simp(disch:=omega)only[wrap64]);(try(refine gen2 ?_ ?_<;>intro hq<;>(try simp[ay,aX]at hq)<;>try(have:True:=hq;clear this hq))))|(refine T.ret (aB.data (Or.inr rfl) ?_ ?_)<;>simp[Tryz.results143,<-he]<;>omega)|refine T.r0 fun K hK=>?_|refine T.ct rfl ?_|refine T.seq ?_|refine T.block ?_|refine T.skip ?_
   ·repeat' first|(refine ab (hK _ ?_);clear hK K)|(refine ae ?_;simp[ay,aX];(try simp(disch:=omega)only[wrap64]);(try(refine gen2 ?_ ?_<;>intro hq<;>(try simp[ay,aX]at hq)<;>try(have:True:=hq;clear this hq))))|(refine aa rfl (hu) ?_;simp[ay,aX];(try simp(disch:=omega)only[wrap64]);(try(refine gen2 ?_ ?_<;>intro hq<;>(try simp[ay,aX]at hq)<;>try(have:True:=hq;clear this hq))))|(refine⟨p+1,by dsimp only;omega,⟨by omega,by simpa using he⟩,?_⟩;simp(disch:=omega) [wrap64])|refine T.r0 fun K hK=>?_|refine T.r1 fun K hK=>?_|refine T.ct rfl ?_|refine T.cf rfl ?_|refine T.seq ?_|refine T.block ?_|refine T.skip ?_
  ·have fa:p=t.kids.length:=by omega
   subst fa;simp at he;repeat' first|(refine ab (hK _ ?_);clear hK K)|(refine ae ?_;simp[ay];(try(refine gen2 ?_ ?_<;>intro hq<;>(try simp[ay]at hq)<;>try(have:True:=hq;clear this hq))))|(refine T.ret (aB.data (Or.inr rfl) ?_ ?_)<;>simp[Tryz.results143,he]<;>omega)|refine T.r0 fun K hK=>?_|refine T.cf rfl ?_|refine T.seq ?_|refine T.exit ?_
theorem yg (f:FuncId) (l:List aI) (q:aI->Bool) (hl:l.length<=4611686018427387904) (hf:∀t∈l,ah YI f [dE t] [] (.b (q t)) [] []):
  ah YI 115 [.l (l.map ck),.c (.fn f [])] [] (.i (ew q l 0)) [] []:=by
 refine ah.ob Tryz.func115 Tryz.ntmps115 rfl ?_;repeat' first|(refine ab (hK _ ?_);clear hK K)|(refine ae ?_;simp;(try(refine gen2 ?_ ?_<;>intro hq<;>try simp at hq)))|refine T.r0 fun K hK=>?_|refine T.seq ?_|refine T.block ?_
 obtain⟨R,hR⟩:∃R,ew q l 0=R:=⟨_,rfl⟩;rw[hR];refine T.fW (fun p:Nat=>⟨[(0,.l (l.map ck)),(1,.c (.fn f [])),(7,.i l.length),(8,.i p)],[],[]⟩) (fun p=>l.length+1-p) (fun p=>p<=l.length/\ew q (l.drop p) p=R) (fun p hp=>?_) 0 (by simpa using hR) (by simp);obtain⟨hi,he⟩:=hp;by_cases ay:p<l.length
 ·obtain⟨u,ht⟩:=bM ay;have eA:u∈l:=YM ht;have aX:l[p]=u:=by rw[YL ay]at ht;exact Option.some.inj ht
  have gz:l.drop p=u::l.drop (p+1):=by rw[YN ay,aX]
  have hu:=hf u eA;rw[gz,ew]at he;cases hb:q u<;>rw[hb]at hu he
  ·repeat' first|(refine ab (hK _ ?_);clear hK K)|(refine ae ?_;simp[ay,aX];(try simp(disch:=omega)only[wrap64]);(try(refine gen2 ?_ ?_<;>intro hq<;>try simp[ay,aX]at hq)))|(refine aa rfl (hu) ?_;simp[ay,aX];(try simp(disch:=omega)only[wrap64]);(try(refine gen2 ?_ ?_<;>intro hq<;>try simp[ay,aX]at hq)))|(refine⟨p+1,by dsimp only;omega,⟨by omega,by simpa using he⟩,?_⟩;simp(disch:=omega) [wrap64])|refine T.r0 fun K hK=>?_|refine T.r1 fun K hK=>?_|refine T.ct rfl ?_|refine T.cf rfl ?_|refine T.seq ?_|refine T.block ?_|refine T.skip ?_
  ·repeat' first|(refine ab (hK _ ?_);clear hK K)|(refine ae ?_;simp[ay,aX];(try simp(disch:=omega)only[wrap64]);(try(refine gen2 ?_ ?_<;>intro hq<;>try simp[ay,aX]at hq)))|(refine aa rfl (hu) ?_;simp[ay,aX];(try simp(disch:=omega)only[wrap64]);(try(refine gen2 ?_ ?_<;>intro hq<;>try simp[ay,aX]at hq)))|(refine T.ret (aB.data (Or.inr rfl) ?_ ?_)<;>simp[Tryz.results115,<-he]<;>omega)|refine T.r0 fun K hK=>?_|refine T.ct rfl ?_|refine T.seq ?_|refine T.block ?_|refine T.skip ?_
 ·have fa:p=l.length:=by omega
  subst fa;simp[ew]at he;repeat' first|(refine ab (hK _ ?_);clear hK K)|(refine ae ?_;simp[ay];(try(refine gen2 ?_ ?_<;>intro hq<;>try simp[ay]at hq)))|(refine T.ret (aB.data (Or.inr rfl) ?_ ?_)<;>simp[Tryz.results115,he]<;>omega)|refine T.r0 fun K hK=>?_|refine T.cf rfl ?_|refine T.seq ?_|refine T.exit ?_
theorem tP (f:FuncId) (l:List aI) (q:aI->Bool) (hl:l.length<=4611686018427387904) (hf:∀t∈l,ah YI f [dE t] [] (.b (q t)) [] []):
  ah YI 64 [.l (l.map ck),.c (.fn f [])] [] (.b (l.any q)) [] []:=by
 refine ah.ob Tryz.func64 Tryz.ntmps64 rfl ?_;rw[<-l8 (i:=0) (by omega)];repeat' first|(refine ab (hK _ ?_);clear hK K)|((first|refine ae ?_|refine aa rfl (yg f l q hl hf) ?_);simp;(try(refine gen2 ?_ ?_<;>intro hq<;>try simp at hq)))|(refine T.ret (aB.data (Or.inr rfl) ?_ ?_)<;>simp[Tryz.results64, *]<;>omega)|refine T.r0 fun K hK=>?_
theorem yh (f:FuncId) (d:DV) (l:List aI) (q:aI->Bool) (hl:l.length<=4611686018427387904) (hf:∀t∈l,ah YI f [dE t,.c (.ptr 0 0)] (dV [[d]]) (.b (q t)) (dV [[d]]) []):
  ah YI 115 [.l (l.map ck),.c (.fn f [0])] (dV [[d]]) (.i (ew q l 0)) (dV [[d]]) []:=by
 refine ah.ob Tryz.func115 Tryz.ntmps115 rfl ?_;repeat' first|(refine ab (hK _ ?_);clear hK K)|(refine ae ?_;simp;(try(refine gen2 ?_ ?_<;>intro hq<;>try simp at hq)))|refine T.r0 fun K hK=>?_|refine T.seq ?_|refine T.block ?_
 obtain⟨R,hR⟩:∃R,ew q l 0=R:=⟨_,rfl⟩;rw[hR];refine T.fW (fun p:Nat=>⟨[(0,.l (l.map ck)),(1,.c (.fn f [0])),(7,.i l.length),(8,.i p)],[[.d d]],[]⟩) (fun p=>l.length+1-p) (fun p=>p<=l.length/\ew q (l.drop p) p=R) (fun p hp=>?_) 0 (by simpa using hR) (by simp);obtain⟨hi,he⟩:=hp;by_cases ay:p<l.length
 ·obtain⟨u,ht⟩:=bM ay;have eA:u∈l:=YM ht;have aX:l[p]=u:=by rw[YL ay]at ht;exact Option.some.inj ht
  have gz:l.drop p=u::l.drop (p+1):=by rw[YN ay,aX]
  have hu:=hf u eA;rw[gz,ew]at he;cases hb:q u<;>rw[hb]at hu he
  ·repeat' first|(refine ab (hK _ ?_);clear hK K)|(refine ae ?_;simp[ay,aX];(try simp(disch:=omega)only[wrap64]);(try(refine gen2 ?_ ?_<;>intro hq<;>try simp[ay,aX]at hq)))|(refine l9 0 [d] rfl rfl hu ?_;simp)|(refine⟨p+1,by dsimp only;omega,⟨by omega,by simpa using he⟩,?_⟩;simp(disch:=omega) [wrap64])|refine T.r0 fun K hK=>?_|refine T.r1 fun K hK=>?_|refine T.ct rfl ?_|refine T.cf rfl ?_|refine T.seq ?_|refine T.block ?_|refine T.skip ?_
  ·repeat' first|(refine ab (hK _ ?_);clear hK K)|(refine ae ?_;simp[ay,aX];(try simp(disch:=omega)only[wrap64]);(try(refine gen2 ?_ ?_<;>intro hq<;>try simp[ay,aX]at hq)))|(refine l9 0 [d] rfl rfl hu ?_;simp)|refine T.r0 fun K hK=>?_|refine T.ct rfl ?_|refine T.seq ?_|refine T.block ?_|refine T.skip ?_
   refine T.ret (aB.oY (Or.inr rfl) ?_ ?_ ?_)<;>simp[Tryz.results115,<-he]
 ·have fa:p=l.length:=by omega
  subst fa;simp[ew]at he;repeat' first|(refine ab (hK _ ?_);clear hK K)|(refine ae ?_;simp[ay];(try(refine gen2 ?_ ?_<;>intro hq<;>try simp[ay]at hq)))|refine T.r0 fun K hK=>?_|refine T.cf rfl ?_|refine T.seq ?_|refine T.exit ?_
  refine T.ret (aB.oY (Or.inr rfl) ?_ ?_ ?_)<;>simp[Tryz.results115,he]
theorem tQ (f:FuncId) (d:DV) (l:List aI) (q:aI->Bool) (hl:l.length<=4611686018427387904) (hf:∀t∈l,ah YI f [dE t,.c (.ptr 0 0)] (dV [[d]]) (.b (q t)) (dV [[d]]) []):
  ah YI 64 [.l (l.map ck),.c (.fn f [0])] (dV [[d]]) (.b (l.any q)) (dV [[d]]) []:=by
 refine ah.ob Tryz.func64 Tryz.ntmps64 rfl ?_;rw[<-l8 (i:=0) (by omega)];repeat' first|(refine ab (hK _ ?_);clear hK K)|((first|refine ae ?_|refine l9 0 [d] rfl rfl (yh f d l q hl hf) ?_);simp;(try(refine gen2 ?_ ?_<;>intro hq<;>try simp at hq)))|refine T.r0 fun K hK=>?_
 all_goals(refine T.ret (aB.oY (Or.inr rfl) ?_ ?_ ?_)<;>simp[Tryz.results64, *])
theorem qM (f:FuncId) (l m:List aI) (q:aI->aI->Bool) (hl:l.length<=4611686018427387904) (hf:∀a∈l,∀b∈m,ah YI f [dE a,dE b] [] (.b (q a b)) [] []):
  ah YI 72 [.l (l.map ck),.l (m.map ck),.c (.fn f [])] [] (.b (gk q l m)) [] []:=by
 refine ah.ob Tryz.func72 Tryz.ntmps72 rfl ?_;by_cases mz:l.length=m.length
 rotate_left
 ·have di:¬(l.length:Int)=m.length:=by omega
  repeat' first|(refine ab (hK _ ?_);clear hK K)|(refine ae ?_;simp[di];(try(refine gen2 ?_ ?_<;>intro hq<;>try simp[di]at hq)))|(refine T.ret (aB.data (Or.inr rfl) ?_ ?_)<;>simp[Tryz.results72,Eb mz]<;>omega)|refine T.r0 fun K hK=>?_|refine T.ct rfl ?_|refine T.seq ?_
 repeat' first|(refine ab (hK _ ?_);clear hK K)|(refine ae ?_;simp[mz];(try(refine gen2 ?_ ?_<;>intro hq<;>try simp[mz]at hq)))|refine T.r0 fun K hK=>?_|refine T.cf rfl ?_|refine T.seq ?_|refine T.block ?_|refine T.skip ?_
 obtain⟨R,hR⟩:∃R,gk q l m=R:=⟨_,rfl⟩;rw[hR];refine T.fW (fun x:Nat×List (List CV)=>⟨[(0,.l (l.map ck)),(1,.l (m.map ck)),(2,.c (.fn f [])),(15,.l (l.map ck)),(16,.i m.length),(17,.i x.1)],x.2,[]⟩) (fun x=>l.length+1-x.1) (fun x=>x.1<=l.length/\gk q (l.drop x.1) (m.drop x.1)=R) (fun x hp=>?_) (0,[]) (by simpa using hR) (by simp);obtain⟨p,G⟩:=x;obtain⟨hi,he⟩:=hp;dsimp only at hi he⊢;by_cases ay:p<l.length
 ·have eX:p<m.length:=by omega
  obtain⟨u,ht⟩:=bM ay;have eA:u∈l:=YM ht;have aX:l[p]=u:=by rw[YL ay]at ht;exact Option.some.inj ht
  have gz:l.drop p=u::l.drop (p+1):=by rw[YN ay,aX]
  obtain⟨v,hv⟩:=bM eX;have LJ:v∈m:=YM hv;have og:m[p]=v:=by rw[YL eX]at hv;exact Option.some.inj hv
  have hu:=hf u eA v LJ;rw[gz,drop_cons eX,og,tF]at he;cases hb:q u v<;>rw[hb]at hu he
  ·repeat' first|(refine ab (hK _ ?_);clear hK K)|(refine ae ?_;simp[ay,eX,aX,og];(try simp(disch:=omega)only[wrap64]);(try(refine gen2 ?_ ?_<;>intro hq<;>try simp[ay,eX,aX,og]at hq)))|(refine aa rfl (hu) ?_;simp[ay,eX,aX,og];(try simp(disch:=omega)only[wrap64]);(try(refine gen2 ?_ ?_<;>intro hq<;>try simp[ay,eX,aX,og]at hq)))|(refine T.ret (aB.data (Or.inr rfl) ?_ ?_)<;>simp[Tryz.results72,<-he]<;>omega)|refine T.r0 fun K hK=>?_|refine T.ct rfl ?_|refine T.seq ?_|refine T.block ?_|refine T.skip ?_
  ·repeat' first|(refine ab (hK _ ?_);clear hK K)|(refine ae ?_;simp[ay,eX,aX,og];(try simp(disch:=omega)only[wrap64]);(try(refine gen2 ?_ ?_<;>intro hq<;>try simp[ay,eX,aX,og]at hq)))|(refine aa rfl (hu) ?_;simp[ay,eX,aX,og];(try simp(disch:=omega)only[wrap64]);(try(refine gen2 ?_ ?_<;>intro hq<;>try simp[ay,eX,aX,og]at hq)))|(refine⟨(p+1,_),by dsimp only;omega,⟨by dsimp only;omega,by simpa using he⟩,rfl,rfl,?_⟩;simp(disch:=omega) [wrap64])|refine T.r0 fun K hK=>?_|refine T.r1 fun K hK=>?_|refine T.ct rfl ?_|refine T.cf rfl ?_|refine T.seq ?_|refine T.block ?_|refine T.skip ?_
 ·have fa:p=l.length:=by omega
  subst fa;rw[YP,mz,YP,wm]at he;repeat' first|(refine ab (hK _ ?_);clear hK K)|(refine ae ?_;simp[ay,mz];(try(refine gen2 ?_ ?_<;>intro hq<;>try simp[ay,mz]at hq)))|(refine T.ret (aB.data (Or.inr rfl) ?_ ?_)<;>simp[Tryz.results72,<-he]<;>omega)|refine T.r0 fun K hK=>?_|refine T.cf rfl ?_|refine T.seq ?_|refine T.exit ?_
theorem yi (f:FuncId) (l m:List ao) (q:ao->ao->Bool) (hl:l.length<=4611686018427387904) (hf:∀a∈l,∀b∈m,ah YI f [cM a,cM b] [] (.b (q a b)) [] []):
  ah YI 71 [.l (l.map gp),.l (m.map gp),.c (.fn f [])] [] (.b (gk q l m)) [] []:=by
 refine ah.ob Tryz.func71 Tryz.ntmps71 rfl ?_;by_cases mz:l.length=m.length
 rotate_left
 ·have di:¬(l.length:Int)=m.length:=by omega
  repeat' first|(refine ab (hK _ ?_);clear hK K)|(refine ae ?_;simp[di];(try(refine gen2 ?_ ?_<;>intro hq<;>try simp[di]at hq)))|(refine T.ret (aB.data (Or.inr rfl) ?_ ?_)<;>simp[Tryz.results71,Eb mz]<;>omega)|refine T.r0 fun K hK=>?_|refine T.ct rfl ?_|refine T.seq ?_
 repeat' first|(refine ab (hK _ ?_);clear hK K)|(refine ae ?_;simp[mz];(try(refine gen2 ?_ ?_<;>intro hq<;>try simp[mz]at hq)))|refine T.r0 fun K hK=>?_|refine T.cf rfl ?_|refine T.seq ?_|refine T.block ?_|refine T.skip ?_
 obtain⟨R,hR⟩:∃R,gk q l m=R:=⟨_,rfl⟩;rw[hR];refine T.fW (fun x:Nat×List (List CV)=>⟨[(0,.l (l.map gp)),(1,.l (m.map gp)),(2,.c (.fn f [])),(15,.l (l.map gp)),(16,.i m.length),(17,.i x.1)],x.2,[]⟩) (fun x=>l.length+1-x.1) (fun x=>x.1<=l.length/\gk q (l.drop x.1) (m.drop x.1)=R) (fun x hp=>?_) (0,[]) (by simpa using hR) (by simp);obtain⟨p,G⟩:=x;obtain⟨hi,he⟩:=hp;dsimp only at hi he⊢;by_cases ay:p<l.length
 ·have eX:p<m.length:=by omega
  obtain⟨u,ht⟩:=bM ay;have eA:u∈l:=YM ht;have aX:l[p]=u:=by rw[YL ay]at ht;exact Option.some.inj ht
  have gz:l.drop p=u::l.drop (p+1):=by rw[YN ay,aX]
  obtain⟨v,hv⟩:=bM eX;have LJ:v∈m:=YM hv;have og:m[p]=v:=by rw[YL eX]at hv;exact Option.some.inj hv
  have hu:=hf u eA v LJ;rw[gz,drop_cons eX,og,tF]at he;cases hb:q u v<;>rw[hb]at hu he
  ·repeat' first|(refine ab (hK _ ?_);clear hK K)|(refine ae ?_;simp[ay,eX,aX,og];(try simp(disch:=omega)only[wrap64]);(try(refine gen2 ?_ ?_<;>intro hq<;>try simp[ay,eX,aX,og]at hq)))|(refine aa rfl (hu) ?_;simp[ay,eX,aX,og];(try simp(disch:=omega)only[wrap64]);(try(refine gen2 ?_ ?_<;>intro hq<;>try simp[ay,eX,aX,og]at hq)))|(refine T.ret (aB.data (Or.inr rfl) ?_ ?_)<;>simp[Tryz.results71,<-he]<;>omega)|refine T.r0 fun K hK=>?_|refine T.ct rfl ?_|refine T.seq ?_|refine T.block ?_|refine T.skip ?_
  ·repeat' first|(refine ab (hK _ ?_);clear hK K)|(refine ae ?_;simp[ay,eX,aX,og];(try simp(disch:=omega)only[wrap64]);(try(refine gen2 ?_ ?_<;>intro hq<;>try simp[ay,eX,aX,og]at hq)))|(refine aa rfl (hu) ?_;simp[ay,eX,aX,og];(try simp(disch:=omega)only[wrap64]);(try(refine gen2 ?_ ?_<;>intro hq<;>try simp[ay,eX,aX,og]at hq)))|(refine⟨(p+1,_),by dsimp only;omega,⟨by dsimp only;omega,by simpa using he⟩,rfl,rfl,?_⟩;simp(disch:=omega) [wrap64])|refine T.r0 fun K hK=>?_|refine T.r1 fun K hK=>?_|refine T.ct rfl ?_|refine T.cf rfl ?_|refine T.seq ?_|refine T.block ?_|refine T.skip ?_
 ·have fa:p=l.length:=by omega
  subst fa;rw[YP,mz,YP,wm]at he;repeat' first|(refine ab (hK _ ?_);clear hK K)|(refine ae ?_;simp[ay,mz];(try(refine gen2 ?_ ?_<;>intro hq<;>try simp[ay,mz]at hq)))|(refine T.ret (aB.data (Or.inr rfl) ?_ ?_)<;>simp[Tryz.results71,<-he]<;>omega)|refine T.r0 fun K hK=>?_|refine T.cf rfl ?_|refine T.seq ?_|refine T.exit ?_
theorem gh (t:aI) (hn:fA t<=1099511627776):ah YI 116 [dE t] [] (.b (ak 4 t)) [] []:=by
 refine ah.ob Tryz.func116 Tryz.ntmps116 rfl ?_;repeat' first|(refine ab (hK _ ?_);clear hK K)|((first|refine ae ?_|refine aa rfl (wI 4 t (by omega) hn) ?_);simp)|(refine T.ret (aB.data (Or.inr rfl) ?_ ?_)<;>simp[Tryz.results116]<;>omega)|refine T.r0 fun K hK=>?_
theorem zQ (d:Int) (hd:0<=d/\d<=1000) (t:aI) (q:Bool) (h:ah YI 111 [dE t,.i (d+1)] [] (.b q) [] []):
  ah YI 138 [dE t,.c (.ptr 0 0)] (dV [[.i d]]) (.b (!q)) (dV [[.i d]]) []:=by
 refine ah.ob Tryz.func138 Tryz.ntmps138 rfl ?_;repeat' first|(refine ab (hK _ ?_);clear hK K)|((first|refine ae ?_|refine aa rfl (h) ?_);simp;(try simp(disch:=omega)only[wrap64]))|refine T.r0 fun K hK=>?_
 refine T.ret (aB.oY (Or.inr rfl) ?_ ?_ ?_)<;>simp[Tryz.results138]
theorem uO:∀(d:Nat) (t:aI),d<=4->fA t<=1099511627776->ah YI 111 [dE t,.i (5-d)] [] (.b (ak d t)) [] []
 |0,t,_,_=>by
  refine ah.ob Tryz.func111 Tryz.ntmps111 rfl ?_;repeat' first|(refine ab (hK _ ?_);clear hK K)|(refine ae ?_;simp;(try(refine gen2 ?_ ?_<;>intro hq<;>try simp at hq)))|(refine T.ret (aB.data (Or.inr rfl) ?_ ?_)<;>simp[Tryz.results111,ak]<;>omega)|refine T.r0 fun K hK=>?_|refine T.r1 fun K hK=>?_|refine T.ct rfl ?_|refine T.cf rfl ?_|refine T.seq ?_|refine T.block ?_|refine T.skip ?_
 |d+1,t,hd,hn=>by
  rw[eI]at hn;have hlen:=fX t.kids;have gR:(5:Int)-(d+1)<=4:=by omega
  have hc:=tQ 138 (.i (5-(d+1))) t.kids (fun t=> !ak d t) (by omega) (fun u hu=>zQ (5-(d+1)) (by omega) u _ (by
   have:=uO d u (by omega) (by have:=fE hu;omega);rwa[show(5:Int)-(d+1)+1=5-d by omega]))
  have dm:(!t.kids.any fun t=> !ak d t)=t.kids.all (ak d):=pC _ _;rw[show ak (d+1) t=(decide (cz t.kind=t.kids.length)&& t.kids.all (ak d))from rfl,<-dm];generalize (t.kids.any fun t=> !ak d t)=R at hc⊢;refine ah.ob Tryz.func111 Tryz.ntmps111 rfl ?_;repeat' first|(refine ab (hK _ ?_);clear hK K)|(refine ae ?_;simp[gR];(try(refine gen2 ?_ ?_<;>intro hq<;>try simp[gR]at hq)))|(refine l9 1 [.i (5-(d+1))] rfl (by simp) hc ?_;simp)|(refine T.ret (aB.data (Or.inr rfl) ?_ ?_)<;>simp[Tryz.results111,cz, *]<;>omega)|refine T.r0 fun K hK=>?_|refine T.r1 fun K hK=>?_|refine T.ct rfl ?_|refine T.cf rfl ?_|refine T.seq ?_|refine T.block ?_|refine T.skip ?_
theorem hP (t:aI) (hn:fA t<=1099511627776):ah YI 60 [dE t] [] (.b (ak 4 t)) [] []:=by
 refine ah.ob Tryz.func60 Tryz.ntmps60 rfl ?_;repeat' first|(refine ab (hK _ ?_);clear hK K)|((first|refine ae ?_|refine aa rfl (uO 4 t (by omega) hn) ?_);simp)|(refine T.ret (aB.data (Or.inr rfl) ?_ ?_)<;>simp[Tryz.results60]<;>omega)|refine T.r0 fun K hK=>?_
theorem dH:(a b:aI)->fA a<=1099511627776->ah YI 166 [dE a,dE b] [] (.b (aG a b)) [] []
 |.mk k l,b,hn=>by
  rw[eI]at hn;have hlen:=fX l;have hc:=qM 166 l b.kids aG (by simp at hn;omega) (fun u hu v hv=>dH u v (by have:=fE hu;simp at hn;omega));rw[nU];simp only[aI.bQ,aI.bX];generalize gk aG l b.kids=R at hc⊢;refine ah.ob Tryz.func166 Tryz.ntmps166 rfl ?_;repeat' first|(refine ab (hK _ ?_);clear hK K)|((first|refine ae ?_|refine aa rfl (hc) ?_);simp;(try(refine gen2 ?_ ?_<;>intro hq<;>try simp at hq)))|(refine T.ret (aB.data (Or.inr rfl) ?_ ?_)<;>simp[Tryz.results166, *]<;>omega)|refine T.r0 fun K hK=>?_
termination_by a=>SizeOf.sizeOf a
decreasing_by have:=List.sizeOf_lt_of_mem hu;simp;omega
theorem yj (a b:aI) (ha:fA a<=1099511627776) (hb:fA b<=1099511627776):ah YI 153 [dE a,dE b] [] (.b (ak 4 a && ak 4 b && aG a b)) [] []:=by
 refine ah.ob Tryz.func153 Tryz.ntmps153 rfl ?_;repeat' first|(refine ab (hK _ ?_);clear hK K)|((first|refine ae ?_|refine aa rfl (hP a ha) ?_|refine aa rfl (hP b hb) ?_|refine aa rfl (dH a b ha) ?_);simp;(try(refine gen2 ?_ ?_<;>intro hq<;>try simp at hq)))|(refine T.ret (aB.data (Or.inr rfl) ?_ ?_)<;>simp[Tryz.results153, *]<;>omega)|refine T.r0 fun K hK=>?_
theorem c7:∀(d:Nat) (a b:aI),d<=1000->ak d a=true->ak d b=true->ah YI 122 [dE a,dE b] [] (.b (aG a b)) [] []
 |0,a,b,_,ha,_=>by simp[ak]at ha
 |d+1,a,b,hd,ha,hb=>by
  obtain⟨e,he,Fm,VM,Hp⟩:=eg ha;obtain⟨e',KW,M3,VN,Bk⟩:=eg hb;obtain rfl:d=e:=by omega
  obtain rfl:d=e':=by omega
  rw[nU];refine ah.ob Tryz.func122 Tryz.ntmps122 rfl ?_;by_cases jn:a.kind=1
  ·repeat' first|(refine ab (hK _ ?_);clear hK K)|(refine ae ?_;simp[jn];(try(refine gen2 ?_ ?_<;>intro hq<;>try simp[jn]at hq)))|(refine T.ret (aB.data (Or.inr rfl) ?_ ?_)<;>simp[Tryz.results122,jn]<;>omega)|refine T.r0 fun K hK=>?_|refine T.ct rfl ?_|refine T.seq ?_
  by_cases ku:b.kind=1
  ·repeat' first|(refine ab (hK _ ?_);clear hK K)|(refine ae ?_;simp[jn,ku,Ea jn];(try(refine gen2 ?_ ?_<;>intro hq<;>try simp[jn,ku,Ea jn]at hq)))|(refine T.ret (aB.data (Or.inr rfl) ?_ ?_)<;>simp[Tryz.results122,jn,ku]<;>omega)|refine T.r0 fun K hK=>?_|refine T.ct rfl ?_|refine T.seq ?_
  by_cases hk:a.kind=b.kind
  rotate_left
  ·repeat' first|(refine ab (hK _ ?_);clear hK K)|(refine ae ?_;simp[jn,ku,hk];(try(refine gen2 ?_ ?_<;>intro hq<;>try simp[jn,ku,hk]at hq)))|(refine T.ret (aB.data (Or.inr rfl) ?_ ?_)<;>simp[Tryz.results122,jn,ku,hk]<;>omega)|refine T.r0 fun K hK=>?_|refine T.ct rfl ?_|refine T.cf rfl ?_|refine T.seq ?_|refine T.skip ?_
  have mz:a.kids.length=b.kids.length:=by rw[hk]at Fm;omega
  repeat' first|(refine ab (hK _ ?_);clear hK K)|(refine ae ?_;simp[jn,ku,hk];(try(refine gen2 ?_ ?_<;>intro hq<;>try simp[jn,ku,hk]at hq)))|refine T.r0 fun K hK=>?_|refine T.cf rfl ?_|refine T.seq ?_|refine T.block ?_|refine T.skip ?_
  obtain⟨R,hR⟩:∃R,gk aG a.kids b.kids=R:=⟨_,rfl⟩;rw[show(decide (a.kind=1)||decide (b.kind=1)||(decide (a.kind=b.kind)&& gk aG a.kids b.kids))=R by simp[jn,ku,hk,hR]];refine T.fW (fun p:Nat=>⟨[(2,.c (.ptr 0 0)),(3,.c (.ptr 1 0)),(5,.i p)],[(dE a).cells,(dE b).cells],[]⟩) (fun p=>a.kids.length+1-p) (fun p=>p<=a.kids.length/\gk aG (a.kids.drop p) (b.kids.drop p)=R) (fun p hp=>?_) 0 (by simpa using hR) (by simp[hk]);obtain⟨hi,he⟩:=hp;by_cases ay:p<a.kids.length
  ·have eX:p<b.kids.length:=by omega
   obtain⟨u,ht⟩:=bM ay;have eA:u∈a.kids:=YM ht;have aX:a.kids[p]=u:=by rw[YL ay]at ht;exact Option.some.inj ht
   have gz:a.kids.drop p=u::a.kids.drop (p+1):=by rw[YN ay,aX]
   obtain⟨v,hv⟩:=bM eX;have LJ:v∈b.kids:=YM hv;have og:b.kids[p]=v:=by rw[YL eX]at hv;exact Option.some.inj hv
   have hu:=c7 d u v (by omega) (Hp u eA) (Bk v LJ);rw[gz,drop_cons eX,og,tF]at he;cases hb:aG u v<;>rw[hb]at hu he
   ·repeat' first|((first|refine ab (hK _ ?_)|refine aD (hK _ ?_));clear hK K)|((first|refine ae ?_|refine aH ?_);simp[ay,eX,aX,og];(try simp(disch:=omega)only[wrap64]);(try(refine gen2 ?_ ?_<;>intro hq<;>try simp[ay,eX,aX,og]at hq)))|(refine aa rfl (hu) ?_;simp[ay,eX,aX,og];(try simp(disch:=omega)only[wrap64]);(try(refine gen2 ?_ ?_<;>intro hq<;>try simp[ay,eX,aX,og]at hq)))|(refine T.ret (aB.data (Or.inr rfl) ?_ ?_)<;>simp[Tryz.results122,<-he]<;>omega)|refine T.r0 fun K hK=>?_|refine T.rd mixed (fun _=>false) [] (by kernel_rfl) fun K hK=>?_|refine T.ct rfl ?_|refine T.seq ?_|refine T.block ?_|refine T.skip ?_
   ·repeat' first|((first|refine ab (hK _ ?_)|refine aD (hK _ ?_));clear hK K)|((first|refine ae ?_|refine aH ?_);simp[ay,eX,aX,og];(try simp(disch:=omega)only[wrap64]);(try(refine gen2 ?_ ?_<;>intro hq<;>try simp[ay,eX,aX,og]at hq)))|(refine aa rfl (hu) ?_;simp[ay,eX,aX,og];(try simp(disch:=omega)only[wrap64]);(try(refine gen2 ?_ ?_<;>intro hq<;>try simp[ay,eX,aX,og]at hq)))|(refine⟨p+1,by dsimp only;omega,⟨by omega,by simpa using he⟩,rfl,rfl,?_⟩;simp(disch:=omega) [wrap64])|refine T.r0 fun K hK=>?_|refine T.r1 fun K hK=>?_|refine T.rd mixed (fun _=>false) [] (by kernel_rfl) fun K hK=>?_|refine T.ct rfl ?_|refine T.cf rfl ?_|refine T.seq ?_|refine T.block ?_|refine T.skip ?_
  ·have fa:p=a.kids.length:=by omega
   subst fa;rw[YP,mz,YP,wm]at he;repeat' first|(refine ab (hK _ ?_);clear hK K)|(refine ae ?_;simp[ay,mz];(try(refine gen2 ?_ ?_<;>intro hq<;>try simp[ay,mz]at hq)))|(refine T.ret (aB.data (Or.inr rfl) ?_ ?_)<;>simp[Tryz.results122,<-he]<;>omega)|refine T.r0 fun K hK=>?_|refine T.cf rfl ?_|refine T.seq ?_|refine T.exit ?_
theorem wJ (k:Int):k=1\/k=5\/k=13\/k=14\/k=2\/(¬k=1/\¬k=5/\¬k=13/\¬k=14/\¬k=2):=by omega
theorem JF (n:Int):nD n 0 0=decide (n=0):=by simp only[nD,<-Bool.decide_and];exact decide_eq_decide.2 (by omega)
theorem Hq (e:ao) (hk:e.kind≠14) (ht:fA e.ty<=1099511627776):ah YI 134 [cM e] [] (.b (fu e)) [] []:=by
 have s6:=yN e.name;have zR:=gh e.ty ht;have jo:=yO e.ty;have nE:=yO e.fr;rcases wJ e.kind with h1|h1|h1|h1|h1|⟨h1,h2,h3,h4,h5⟩
 ·have hr:fu e=(dX e.name && decide (e.num=0)&& ed e.ty &&(ed e.fr && decide (e.label=0))):=by simp[fu,h1,ea,cg,JF]
  rw[hr];refine ah.ob Tryz.func134 Tryz.ntmps134 rfl ?_;repeat' first|(refine ab (hK _ ?_);clear hK K)|((first|refine ae ?_|refine aa rfl (s6) ?_|refine aa rfl (jo) ?_|refine aa rfl (nE) ?_);simp[h1];(try(refine gen2 ?_ ?_<;>intro hq<;>try simp[h1]at hq)))|(refine T.ret (aB.data (Or.inr rfl) ?_ ?_)<;>simp[Tryz.results134, *]<;>omega)|refine T.r0 fun K hK=>?_|refine T.ct rfl ?_|refine T.cf rfl ?_|refine T.seq ?_|refine T.skip ?_
 ·have hr:fu e=(dX e.name && decide (e.num=0)&& ak 4 e.ty &&(ed e.fr && decide (e.label=0))):=by simp[fu,h1,ea,cg,JF]
  rw[hr];refine ah.ob Tryz.func134 Tryz.ntmps134 rfl ?_;repeat' first|(refine ab (hK _ ?_);clear hK K)|((first|refine ae ?_|refine aa rfl (s6) ?_|refine aa rfl (zR) ?_|refine aa rfl (nE) ?_);simp[h1];(try(refine gen2 ?_ ?_<;>intro hq<;>try simp[h1]at hq)))|(refine T.ret (aB.data (Or.inr rfl) ?_ ?_)<;>simp[Tryz.results134, *]<;>omega)|refine T.r0 fun K hK=>?_|refine T.ct rfl ?_|refine T.cf rfl ?_|refine T.seq ?_|refine T.skip ?_
 ·have hr:fu e=(decide (e.name=[])&& decide (e.num=0)&& ak 4 e.ty &&(ed e.fr && decide (e.label=0))):=by simp[fu,h1,ea,cg,JF]
  have Gp:e.name=[]->dX e.name=false:=fun h=>by rw[h];rfl
  rw[hr];by_cases di:e.name=[]
  ·rw[Gp di,di]at s6;refine ah.ob Tryz.func134 Tryz.ntmps134 rfl ?_;repeat' first|(refine ab (hK _ ?_);clear hK K)|((first|refine ae ?_|refine aa rfl (s6) ?_|refine aa rfl (zR) ?_|refine aa rfl (nE) ?_);simp[h1,di];(try(refine gen2 ?_ ?_<;>intro hq<;>try simp[h1,di]at hq)))|(refine T.ret (aB.data (Or.inr rfl) ?_ ?_)<;>simp[Tryz.results134, *]<;>omega)|refine T.r0 fun K hK=>?_|refine T.ct rfl ?_|refine T.cf rfl ?_|refine T.seq ?_|refine T.skip ?_
  ·generalize dX e.name=nb at s6;refine ah.ob Tryz.func134 Tryz.ntmps134 rfl ?_;repeat' first|(refine ab (hK _ ?_);clear hK K)|((first|refine ae ?_|refine aa rfl (s6) ?_);simp[h1,di];(try(refine gen2 ?_ ?_<;>intro hq<;>try simp[h1,di]at hq)))|(refine T.ret (aB.data (Or.inr rfl) ?_ ?_)<;>simp[Tryz.results134, *]<;>omega)|refine T.r0 fun K hK=>?_|refine T.ct rfl ?_|refine T.seq ?_
 ·exact absurd h1 hk
 ·have hr:fu e=(decide (e.name=[])&&(decide (0<=e.num)&& decide (e.num<=999))&& ed e.ty &&(ed e.fr && decide (e.label=0))):=by simp[fu,h1,ea,cg,nD]
  have Gp:e.name=[]->dX e.name=false:=fun h=>by rw[h];rfl
  rw[hr];by_cases di:e.name=[]
  ·rw[Gp di,di]at s6;refine ah.ob Tryz.func134 Tryz.ntmps134 rfl ?_;repeat' first|(refine ab (hK _ ?_);clear hK K)|((first|refine ae ?_|refine aa rfl (s6) ?_|refine aa rfl (jo) ?_|refine aa rfl (nE) ?_);simp[h1,di];(try(refine gen2 ?_ ?_<;>intro hq<;>try simp[h1,di]at hq)))|(refine T.ret (aB.data (Or.inr rfl) ?_ ?_)<;>simp[Tryz.results134, *]<;>omega)|refine T.r0 fun K hK=>?_|refine T.ct rfl ?_|refine T.cf rfl ?_|refine T.seq ?_|refine T.skip ?_
  ·generalize dX e.name=nb at s6;refine ah.ob Tryz.func134 Tryz.ntmps134 rfl ?_;repeat' first|(refine ab (hK _ ?_);clear hK K)|((first|refine ae ?_|refine aa rfl (s6) ?_);simp[h1,di];(try(refine gen2 ?_ ?_<;>intro hq<;>try simp[h1,di]at hq)))|(refine T.ret (aB.data (Or.inr rfl) ?_ ?_)<;>simp[Tryz.results134, *]<;>omega)|refine T.r0 fun K hK=>?_|refine T.ct rfl ?_|refine T.seq ?_
 ·have hr:fu e=(decide (e.name=[])&& decide (e.num=0)&& ed e.ty &&(ed e.fr && decide (e.label=0))):=by simp[fu,h1,h2,h3,h4,h5,ea,cg,JF]
  have Gp:e.name=[]->dX e.name=false:=fun h=>by rw[h];rfl
  rw[hr];by_cases di:e.name=[]
  ·rw[Gp di,di]at s6;refine ah.ob Tryz.func134 Tryz.ntmps134 rfl ?_;repeat' first|(refine ab (hK _ ?_);clear hK K)|((first|refine ae ?_|refine aa rfl (s6) ?_|refine aa rfl (jo) ?_|refine aa rfl (nE) ?_);simp[h1,h2,h3,h4,h5,di];(try(refine gen2 ?_ ?_<;>intro hq<;>try simp[h1,h2,h3,h4,h5,di]at hq)))|(refine T.ret (aB.data (Or.inr rfl) ?_ ?_)<;>simp[Tryz.results134, *]<;>omega)|refine T.r0 fun K hK=>?_|refine T.ct rfl ?_|refine T.cf rfl ?_|refine T.seq ?_|refine T.skip ?_
  ·generalize dX e.name=nb at s6;refine ah.ob Tryz.func134 Tryz.ntmps134 rfl ?_;repeat' first|(refine ab (hK _ ?_);clear hK K)|((first|refine ae ?_|refine aa rfl (s6) ?_);simp[h1,h2,h3,h4,h5,di];(try(refine gen2 ?_ ?_<;>intro hq<;>try simp[h1,h2,h3,h4,h5,di]at hq)))|(refine T.ret (aB.data (Or.inr rfl) ?_ ?_)<;>simp[Tryz.results134, *]<;>omega)|refine T.r0 fun K hK=>?_|refine T.ct rfl ?_|refine T.seq ?_
theorem Fo (e:ao) (hl:e.kids.length<=1099511627776) (ht:fA e.ty<=1099511627776) (hf:fA e.fr<=1099511627776):ah YI 131 [cM e] [] (.b (gq e)) [] []:=by
 have gG:=Bp e.kind;have s6:=yM e.name;have zR:=hP e.ty ht;have jo:=uN e.ty;have nE:=uN e.fr;have JG:=yj e.fr e.ty hf ht;have NX:=C1 e.label;have yk:=wH e.num 0 0;have NY:=wH e.num 0 999;by_cases lF:cm e.kind=e.kids.length
 rotate_left
 ·rw[show gq e=false by simp[gq,lF]];refine ah.ob Tryz.func131 Tryz.ntmps131 rfl ?_;repeat' first|((first|refine ab (hK _ ?_)|refine aD (hK _ ?_));clear hK K)|((first|(first|refine ae ?_|refine aH ?_)|refine aa rfl (gG) ?_);simp[lF];(try(refine gen2 ?_ ?_<;>intro hq<;>try simp[lF]at hq)))|(refine T.ret (aB.data (Or.inr rfl) ?_ ?_)<;>simp[Tryz.results131]<;>omega)|refine T.r0 fun K hK=>?_|refine T.rd mixed (fun _=>false) [] (by kernel_rfl) fun K hK=>?_|refine T.ct rfl ?_|refine T.seq ?_
 rw[show gq e=fu e by simp[gq,lF]];rw[lF]at gG;rcases wJ e.kind with h1|h1|h1|h1|h1|⟨h1,h2,h3,h4,h5⟩
 ·have hr:fu e=(dX e.name && nD e.num 0 0 && ed e.ty &&(ed e.fr && decide (e.label=0))):=by simp[fu,h1,ea,cg]
  rw[hr];rw[h1]at gG;generalize nD e.num 0 0=i0 at yk;refine ah.ob Tryz.func131 Tryz.ntmps131 rfl ?_;repeat' first|((first|refine ab (hK _ ?_)|refine aD (hK _ ?_));clear hK K)|((first|(first|refine ae ?_|refine aH ?_)|refine aa rfl (gG) ?_|refine aa rfl (s6) ?_|refine aa rfl (yk) ?_|refine aa rfl (jo) ?_|refine aa rfl (nE) ?_);simp[h1];(try(refine gen2 ?_ ?_<;>intro hq<;>try simp[h1]at hq)))|(refine T.ret (aB.data (Or.inr rfl) ?_ ?_)<;>simp[Tryz.results131, *]<;>omega)|refine T.r0 fun K hK=>?_|refine T.r1 fun K hK=>?_|refine T.rd mixed (fun _=>false) [] (by kernel_rfl) fun K hK=>?_|refine T.ct rfl ?_|refine T.cf rfl ?_|refine T.seq ?_|refine T.block ?_|refine T.skip ?_
 ·have hr:fu e=(dX e.name && nD e.num 0 0 && ak 4 e.ty &&(ed e.fr && decide (e.label=0))):=by simp[fu,h1,ea,cg]
  rw[hr];rw[h1]at gG;generalize nD e.num 0 0=i0 at yk;refine ah.ob Tryz.func131 Tryz.ntmps131 rfl ?_;repeat' first|((first|refine ab (hK _ ?_)|refine aD (hK _ ?_));clear hK K)|((first|(first|refine ae ?_|refine aH ?_)|refine aa rfl (gG) ?_|refine aa rfl (s6) ?_|refine aa rfl (yk) ?_|refine aa rfl (zR) ?_|refine aa rfl (nE) ?_);simp[h1];(try(refine gen2 ?_ ?_<;>intro hq<;>try simp[h1]at hq)))|(refine T.ret (aB.data (Or.inr rfl) ?_ ?_)<;>simp[Tryz.results131, *]<;>omega)|refine T.r0 fun K hK=>?_|refine T.r1 fun K hK=>?_|refine T.rd mixed (fun _=>false) [] (by kernel_rfl) fun K hK=>?_|refine T.ct rfl ?_|refine T.cf rfl ?_|refine T.seq ?_|refine T.block ?_|refine T.skip ?_
 ·have hr:fu e=(decide (e.name=[])&& nD e.num 0 0 && ak 4 e.ty &&(ed e.fr && decide (e.label=0))):=by simp[fu,h1,ea,cg]
  rw[hr];rw[h1]at gG;generalize nD e.num 0 0=i0 at yk;refine ah.ob Tryz.func131 Tryz.ntmps131 rfl ?_;repeat' first|((first|refine ab (hK _ ?_)|refine aD (hK _ ?_));clear hK K)|((first|(first|refine ae ?_|refine aH ?_)|refine aa rfl (gG) ?_|refine aa rfl (yk) ?_|refine aa rfl (zR) ?_|refine aa rfl (nE) ?_);simp[h1];(try(refine gen2 ?_ ?_<;>intro hq<;>try simp[h1]at hq)))|(refine T.ret (aB.data (Or.inr rfl) ?_ ?_)<;>simp[Tryz.results131, *]<;>omega)|refine T.r0 fun K hK=>?_|refine T.r1 fun K hK=>?_|refine T.rd mixed (fun _=>false) [] (by kernel_rfl) fun K hK=>?_|refine T.ct rfl ?_|refine T.cf rfl ?_|refine T.seq ?_|refine T.block ?_|refine T.skip ?_
 ·have hr:fu e=(decide (e.name=[])&& nD e.num 0 0 && ak 4 e.ty &&((ak 4 e.fr && ak 4 e.ty && aG e.fr e.ty)&& CP e.label)):=by simp[fu,h1,ea,cg,pF]
  rw[hr];rw[h1]at gG;generalize nD e.num 0 0=i0 at yk;generalize vf:(ak 4 e.fr && ak 4 e.ty && aG e.fr e.ty)=g1 at JG;generalize CP e.label=g2 at NX;refine ah.ob Tryz.func131 Tryz.ntmps131 rfl ?_;repeat' first|((first|refine ab (hK _ ?_)|refine aD (hK _ ?_));clear hK K)|((first|(first|refine ae ?_|refine aH ?_)|refine aa rfl (gG) ?_|refine aa rfl (yk) ?_|refine aa rfl (zR) ?_|refine aa rfl (JG) ?_|refine aa rfl (NX) ?_);simp[h1];(try(refine gen2 ?_ ?_<;>intro hq<;>try simp[h1]at hq)))|(refine T.ret (aB.data (Or.inr rfl) ?_ ?_)<;>simp[Tryz.results131, *]<;>omega)|refine T.r0 fun K hK=>?_|refine T.r1 fun K hK=>?_|refine T.rd mixed (fun _=>false) [] (by kernel_rfl) fun K hK=>?_|refine T.ct rfl ?_|refine T.cf rfl ?_|refine T.seq ?_|refine T.block ?_|refine T.skip ?_
 ·have hr:fu e=(decide (e.name=[])&& nD e.num 0 999 && ed e.ty &&(ed e.fr && decide (e.label=0))):=by simp[fu,h1,ea,cg]
  rw[hr];rw[h1]at gG;generalize nD e.num 0 999=i0 at NY;refine ah.ob Tryz.func131 Tryz.ntmps131 rfl ?_;repeat' first|((first|refine ab (hK _ ?_)|refine aD (hK _ ?_));clear hK K)|((first|(first|refine ae ?_|refine aH ?_)|refine aa rfl (gG) ?_|refine aa rfl (NY) ?_|refine aa rfl (jo) ?_|refine aa rfl (nE) ?_);simp[h1];(try(refine gen2 ?_ ?_<;>intro hq<;>try simp[h1]at hq)))|(refine T.ret (aB.data (Or.inr rfl) ?_ ?_)<;>simp[Tryz.results131, *]<;>omega)|refine T.r0 fun K hK=>?_|refine T.r1 fun K hK=>?_|refine T.rd mixed (fun _=>false) [] (by kernel_rfl) fun K hK=>?_|refine T.ct rfl ?_|refine T.cf rfl ?_|refine T.seq ?_|refine T.block ?_|refine T.skip ?_
 ·have hr:fu e=(decide (e.name=[])&& nD e.num 0 0 && ed e.ty &&(ed e.fr && decide (e.label=0))):=by simp[fu,h1,h2,h3,h4,h5,ea,cg]
  rw[hr];generalize nD e.num 0 0=i0 at yk;refine ah.ob Tryz.func131 Tryz.ntmps131 rfl ?_;repeat' first|((first|refine ab (hK _ ?_)|refine aD (hK _ ?_));clear hK K)|((first|(first|refine ae ?_|refine aH ?_)|refine aa rfl (gG) ?_|refine aa rfl (yk) ?_|refine aa rfl (jo) ?_|refine aa rfl (nE) ?_);simp[h1,h2,h3,h4,h5];(try(refine gen2 ?_ ?_<;>intro hq<;>try simp[h1,h2,h3,h4,h5]at hq)))|(refine T.ret (aB.data (Or.inr rfl) ?_ ?_)<;>simp[Tryz.results131, *]<;>omega)|refine T.r0 fun K hK=>?_|refine T.r1 fun K hK=>?_|refine T.rd mixed (fun _=>false) [] (by kernel_rfl) fun K hK=>?_|refine T.ct rfl ?_|refine T.cf rfl ?_|refine T.seq ?_|refine T.block ?_|refine T.skip ?_
theorem cB {e:ao} (h:eR e<=1099511627776):fA e.ty<=1099511627776/\fA e.fr<=1099511627776/\e.kids.length<=1099511627776/\∀u∈e.kids,eR u<=1099511627776:=by
 rw[iJ]at h;have:=pE e.kids;exact⟨by omega,by omega,by omega,fun u hu=>by have:=wo hu;omega⟩
theorem wK:∀(d:Nat) (e:ao),d<=1000->eR e<=1099511627776->ah YI 97 [cM e,.i d] [] (.i (cV d e)) [] []
 |0,e,_,hn=>by
  obtain⟨jo,nE,yl,o6⟩:=cB hn;refine ah.ob Tryz.func97 Tryz.ntmps97 rfl ?_;repeat' first|(refine ab (hK _ ?_);clear hK K)|(refine ae ?_;simp;(try(refine gen2 ?_ ?_<;>intro hq<;>try simp at hq)))|refine T.r0 fun K hK=>?_|refine T.seq ?_|refine T.block ?_
  refine T.fW (fun _:Unit=>⟨[(1,.i 0),(2,.c (.ptr 0 0)),(5,.i 1),(6,.i 0)],[(cM e).cells],[]⟩) (fun _=>0) (fun _=>True) (fun _ _=>?_) () trivial (by simp);repeat' first|(refine ab (hK _ ?_);clear hK K)|(refine ae ?_;simp;(try simp(disch:=omega)only[wrap64]);(try(refine gen2 ?_ ?_<;>intro hq<;>try simp at hq)))|(refine T.ret (aB.data (Or.inr rfl) ?_ ?_)<;>simp[Tryz.results97,cV]<;>omega)|refine T.r0 fun K hK=>?_|refine T.cf rfl ?_|refine T.seq ?_|refine T.exit ?_
 |d+1,e,hd,hn=>by
  obtain⟨jo,nE,yl,o6⟩:=cB hn;have gR:(0:Int)<(d:Int)+1:=by omega
  have kS:=wq (d+1) e;obtain⟨R,hR⟩:∃R,cV (d+1) e=R:=⟨_,rfl⟩;rw[hR]at kS⊢;refine ah.ob Tryz.func97 Tryz.ntmps97 rfl ?_;repeat' first|(refine ab (hK _ ?_);clear hK K)|(refine ae ?_;simp;(try(refine gen2 ?_ ?_<;>intro hq<;>try simp at hq)))|refine T.r0 fun K hK=>?_|refine T.seq ?_|refine T.block ?_
  refine T.fW (fun x:Nat×Nat=>⟨[(1,.i (d+1)),(2,.c (.ptr 0 0)),(5,.i x.2),(6,.i x.1)],[(cM e).cells],[]⟩) (fun x=>e.kids.length+1-x.1) (fun x=>x.1<=e.kids.length/\x.2+((e.kids.drop x.1).map (cV d)).sum=R) (fun x hx=>?_) (0,1) (by simpa[cV]using hR) (by simp);obtain⟨p,k⟩:=x;obtain⟨hi,he⟩:=hx;dsimp only at hi he⊢;by_cases ay:p<e.kids.length
  ·obtain⟨u,ht⟩:=bM ay;have eA:u∈e.kids:=YM ht;have aX:e.kids[p]=u:=by rw[YL ay]at ht;exact Option.some.inj ht
   have gz:e.kids.drop p=u::e.kids.drop (p+1):=by rw[YN ay,aX]
   have hu:=wK d u (by omega) (o6 u eA);rw[gz,List.map_cons,List.sum_cons]at he;generalize cV d u=cu at hu he;repeat' first|(refine ab (hK _ ?_);clear hK K)|(refine ae ?_;simp[ay,aX,gR];(try simp(disch:=omega)only[wrap64]);(try(refine gen2 ?_ ?_<;>intro hq<;>try simp[ay,aX,gR]at hq)))|(refine aa rfl (hu) ?_;simp[ay,aX,gR];(try simp(disch:=omega)only[wrap64]);(try(refine gen2 ?_ ?_<;>intro hq<;>try simp[ay,aX,gR]at hq)))|(refine⟨(p+1,k+cu),by dsimp only;omega,⟨by dsimp only;omega,by dsimp only;omega⟩,rfl,rfl,?_⟩;simp(disch:=omega) [wrap64])|refine T.r0 fun K hK=>?_|refine T.r1 fun K hK=>?_|refine T.ct rfl ?_|refine T.seq ?_|refine T.block ?_|refine T.skip ?_
  ·have fa:p=e.kids.length:=by omega
   subst fa;simp at he;repeat' first|(refine ab (hK _ ?_);clear hK K)|(refine ae ?_;simp[ay];(try(refine gen2 ?_ ?_<;>intro hq<;>try simp[ay]at hq)))|(refine T.ret (aB.data (Or.inr rfl) ?_ ?_)<;>simp[Tryz.results97,he]<;>omega)|refine T.r0 fun K hK=>?_|refine T.cf rfl ?_|refine T.seq ?_|refine T.exit ?_
theorem Ei (mn md nt:Int) (Q8:mn<=1000) (VO:md<=1000):∀(e:ao),eR e<=1099511627776->∀(deep c:Int),0<=c->c<=1000->0<=deep->
  ah YI 91 [cM e,.i deep,.i mn,.i md,.i nt,.c (.ptr 0 0)] (dV [[.i c]]) (.b (jD mn md nt deep e c).1) (dV [[.i (jD mn md nt deep e c).2]]) []:=by
 intro e;induction e using ao.ind with
 |h e ih=>
  intro hn deep c h0 hc e7;obtain⟨jo,nE,yl,o6⟩:=cB hn;have uP:=Fo e yl jo nE;rw[tG];by_cases q1:mn<c+1
  ·rw[if_pos (by simp[q1])];refine ah.ob Tryz.func91 Tryz.ntmps91 rfl ?_;repeat' first|(refine ab (hK _ ?_);clear hK K)|(refine ae ?_;simp[q1];(try simp(disch:=omega)only[wrap64]);(try(refine gen2 ?_ ?_<;>intro hq<;>try simp[q1]at hq)))|(refine T.ret (aB.oY (Or.inr rfl) ?_ ?_ ?_)<;>simp[Tryz.results91]<;>omega)|refine T.r0 fun K hK=>?_|refine T.ct rfl ?_|refine T.seq ?_
  by_cases q2:md<deep
  ·rw[if_pos (by simp[q2])];refine ah.ob Tryz.func91 Tryz.ntmps91 rfl ?_;repeat' first|(refine ab (hK _ ?_);clear hK K)|(refine ae ?_;simp[q1,q2];(try simp(disch:=omega)only[wrap64]);(try(refine gen2 ?_ ?_<;>intro hq<;>try simp[q1,q2]at hq)))|(refine T.ret (aB.oY (Or.inr rfl) ?_ ?_ ?_)<;>simp[Tryz.results91]<;>omega)|refine T.r0 fun K hK=>?_|refine T.ct rfl ?_|refine T.seq ?_
  by_cases q3:e.kind=nt
  ·rw[if_pos (by simp[q3])];refine ah.ob Tryz.func91 Tryz.ntmps91 rfl ?_;repeat' first|(refine ab (hK _ ?_);clear hK K)|(refine ae ?_;simp[q1,q2,q3];(try simp(disch:=omega)only[wrap64]);(try(refine gen2 ?_ ?_<;>intro hq<;>try simp[q1,q2,q3]at hq)))|(refine T.ret (aB.oY (Or.inr rfl) ?_ ?_ ?_)<;>simp[Tryz.results91]<;>omega)|refine T.r0 fun K hK=>?_|refine T.ct rfl ?_|refine T.seq ?_
  cases hN:gq e
  ·rw[if_pos (by simp)];rw[hN]at uP;refine ah.ob Tryz.func91 Tryz.ntmps91 rfl ?_;repeat' first|(refine ab (hK _ ?_);clear hK K)|(refine ae ?_;simp[q1,q2,q3];(try simp(disch:=omega)only[wrap64]);(try(refine gen2 ?_ ?_<;>intro hq<;>try simp[q1,q2,q3]at hq)))|(refine aa rfl (uP) ?_;simp[q1,q2,q3];(try simp(disch:=omega)only[wrap64]);(try(refine gen2 ?_ ?_<;>intro hq<;>try simp[q1,q2,q3]at hq)))|(refine T.ret (aB.oY (Or.inr rfl) ?_ ?_ ?_)<;>simp[Tryz.results91]<;>omega)|refine T.r0 fun K hK=>?_|refine T.ct rfl ?_|refine T.seq ?_
  rw[hN]at uP;rw[if_neg (by simp[q1,q2,q3])];obtain⟨R,hR⟩:∃R,lE mn md nt (deep+1) e.kids (c+1)=R:=⟨_,rfl⟩;rw[hR];refine ah.ob Tryz.func91 Tryz.ntmps91 rfl ?_;repeat' first|(refine ab (hK _ ?_);clear hK K)|(refine ae ?_;simp[q1,q2,q3];(try simp(disch:=omega)only[wrap64]);(try(refine gen2 ?_ ?_<;>intro hq<;>try simp[q1,q2,q3]at hq)))|(refine aa rfl (uP) ?_;simp[q1,q2,q3];(try simp(disch:=omega)only[wrap64]);(try(refine gen2 ?_ ?_<;>intro hq<;>try simp[q1,q2,q3]at hq)))|refine T.r0 fun K hK=>?_|refine T.cf rfl ?_|refine T.seq ?_|refine T.block ?_|refine T.skip ?_
  refine T.fW (fun x:Nat×Int×List (List CV)=>⟨[(1,.i deep),(2,.i mn),(3,.i md),(4,.i nt),(5,.c (.ptr 0 0)),(6,.c (.ptr 1 0)),(42,.l (e.kids.map gp)),(43,.i e.kids.length),(44,.i x.1)],[.d (.i x.2.1)]::(cM e).cells::x.2.2,[]⟩) (fun x=>e.kids.length+1-x.1) (fun x=>x.1<=e.kids.length/\0<=x.2.1/\x.2.1<=mn/\lE mn md nt (deep+1) (e.kids.drop x.1) x.2.1=R) (fun x hx=>?_) (0,c+1,[]) (by simpa using⟨by omega,by omega,hR⟩) (by simp);obtain⟨p,k,G⟩:=x;obtain⟨hi,gv,jn,he⟩:=hx;dsimp only at hi gv jn he⊢;by_cases ay:p<e.kids.length
  ·obtain⟨u,ht⟩:=bM ay;have eA:u∈e.kids:=YM ht;have aX:e.kids[p]=u:=by rw[YL ay]at ht;exact Option.some.inj ht
   have gz:e.kids.drop p=u::e.kids.drop (p+1):=by rw[YN ay,aX]
   have hu:=ih u eA (o6 u eA) (deep+1) k gv (by omega) (by omega);have hle:=Hg mn md nt u (deep+1) k gv;rw[gz,lE]at he;generalize jD mn md nt (deep+1) u k=r at hu hle he;obtain⟨b,k'⟩:=r;dsimp only at hu hle he;cases b
   ·repeat' first|(refine ab (hK _ ?_);clear hK K)|(refine ae ?_;simp[ay,aX];(try simp(disch:=omega)only[wrap64]);(try(refine gen2 ?_ ?_<;>intro hq<;>try simp[ay,aX]at hq)))|(refine ja 0 [.i k] [.i k'] rfl rfl hu ?_;simp)|(refine T.ret (aB.oY (Or.inr rfl) ?_ ?_ ?_)<;>simp[Tryz.results91,<-he]<;>omega)|refine T.r0 fun K hK=>?_|refine T.ct rfl ?_|refine T.seq ?_|refine T.block ?_|refine T.skip ?_
   ·obtain⟨Q9,Ra⟩:=hle rfl;repeat' first|(refine ab (hK _ ?_);clear hK K)|(refine ae ?_;simp[ay,aX];(try simp(disch:=omega)only[wrap64]);(try(refine gen2 ?_ ?_<;>intro hq<;>try simp[ay,aX]at hq)))|(refine ja 0 [.i k] [.i k'] rfl rfl hu ?_;simp)|(refine⟨(p+1,k',_),by dsimp only;omega,⟨by dsimp only;omega,Q9,Ra,by simpa using he⟩,rfl,rfl,?_⟩;simp(disch:=omega) [wrap64])|refine T.r0 fun K hK=>?_|refine T.r1 fun K hK=>?_|refine T.ct rfl ?_|refine T.cf rfl ?_|refine T.seq ?_|refine T.block ?_|refine T.skip ?_
  ·have fa:p=e.kids.length:=by omega
   subst fa;simp[lE]at he;repeat' first|(refine ab (hK _ ?_);clear hK K)|(refine ae ?_;simp[ay];(try(refine gen2 ?_ ?_<;>intro hq<;>try simp[ay]at hq)))|(refine T.ret (aB.oY (Or.inr rfl) ?_ ?_ ?_)<;>simp[Tryz.results91,<-he]<;>omega)|refine T.r0 fun K hK=>?_|refine T.cf rfl ?_|refine T.seq ?_|refine T.exit ?_
theorem zS (e:ao) (hn:eR e<=1099511627776):ah YI 73 [cM e] [] (.b (eS e)) [] []:=by
 have h:=Ei 200 40 13 (by omega) (by omega) e hn 1 0 (by omega) (by omega) (by omega);have hl:=(yF 200 40 13 e 40 0 (by omega) (by omega)).1;have hr:(jD 200 40 13 1 e 0).1=eS e:=by
  rw[show((40:Int)+1-((40:Nat):Int))=1 by omega]at hl;rw[hl,eS]
  congr 1
  exact decide_eq_decide.2 (by omega)
 rw[hr]at h;refine ah.ob Tryz.func73 Tryz.ntmps73 rfl ?_;repeat' first|(refine ab (hK _ ?_);clear hK K)|((first|refine ae ?_|refine ja 1 [.i 0] [.i (jD 200 40 13 1 e 0).2] rfl rfl h ?_);simp)|(refine T.ret (aB.data (Or.inr rfl) ?_ ?_)<;>simp[Tryz.results73]<;>omega)|refine T.r0 fun K hK=>?_
end Go.Proofs.YtloolmchekcmeaaGreat
namespace Go.Proofs.YtloolmchekcmeaaGreat
attribute [-simp] Go.Av.gJ Go.Av.gy Go.Av.cW Go.Av.ij Go.Av.cl Go.Av.bO Go.Av.back Go.Av.fD Go.Av.one
open Go Go.Av
attribute [local irreducible] T ah ck gp aI.kind aI.kids ao.kind ao.name ao.num ao.ty ao.fr ao.label ao.kids
attribute [local simp] aJ al
set_option maxHeartbeats 4000000
attribute [local simp] Option.bind
theorem lG:ah YI 85 [] [] (dE lg) [] []:=by
 refine ah.ob Tryz.func85 Tryz.ntmps85 rfl ?_;repeat' first|(refine ab (hK _ ?_);clear hK K)|(refine ae ?_;simp;(try(refine gen2 ?_ ?_<;>intro hq<;>try simp at hq)))|(refine T.ret (aB.val (Or.inr rfl) ?_)<;>simp[aA,Tryz.results85]<;>omega)|refine T.r0 fun K hK=>?_
theorem nc:ah YI 89 [] [] (dE bw) [] []:=by
 refine ah.ob Tryz.func89 Tryz.ntmps89 rfl ?_;repeat' first|(refine ab (hK _ ?_);clear hK K)|(refine ae ?_;simp;(try(refine gen2 ?_ ?_<;>intro hq<;>try simp at hq)))|(refine T.ret (aB.val (Or.inr rfl) ?_)<;>simp[aA,Tryz.results89]<;>omega)|refine T.r0 fun K hK=>?_
theorem nf:ah YI 125 [] [] (dE cF) [] []:=by
 refine ah.ob Tryz.func125 Tryz.ntmps125 rfl ?_;repeat' first|(refine ab (hK _ ?_);clear hK K)|(refine ae ?_;simp;(try(refine gen2 ?_ ?_<;>intro hq<;>try simp at hq)))|(refine T.ret (aB.val (Or.inr rfl) ?_)<;>simp[aA,Tryz.results125]<;>omega)|refine T.r0 fun K hK=>?_
theorem bY:∀(t:aI),fA t<=1099511627776->ah YI 120 [dE t] [] (dE t) [] []:=by
 intro t;induction t using aI.ind with
 |h t ih=>
  intro hn;rw[eI]at hn;have hlen:=fX t.kids;refine ah.ob Tryz.func120 Tryz.ntmps120 rfl ?_;repeat' first|(refine ab (hK _ ?_);clear hK K)|(refine ae ?_;simp;(try(refine gen2 ?_ ?_<;>intro hq<;>try simp at hq)))|refine T.r0 fun K hK=>?_|refine T.seq ?_|refine T.block ?_
  refine T.dq 2 1 2 25 (row:=[.d (.i t.kind),.nil]) (by simp) (by simp) ?_;refine T.fW (fun p:Nat=>⟨[(1,.c (.ptr 0 0)),(2,.c (.ptr 1 0)),(3,.c (.ptr 2 0)),(4,.i p)],[(dE t).cells,[.d (.i 0),.nil],[.d (.i t.kind),.own 0 p]],[{sz:=2,ev:=25,rows:=(t.kids.take p).map ck,wr:=true}]⟩) (fun p=>t.kids.length+1-p) (fun p=>p<=t.kids.length) (fun p hi=>?_) 0 (by simp) (by simp);by_cases ay:p<t.kids.length
  ·obtain⟨u,ht⟩:=bM ay;have eA:u∈t.kids:=YM ht;have aX:t.kids[p]=u:=by rw[YL ay]at ht;exact Option.some.inj ht
   have gz:t.kids.drop p=u::t.kids.drop (p+1):=by rw[YN ay,aX]
   have hu:=ih u eA (by have:=fE eA;omega);have mN:t.kids.take (p+1)=t.kids.take p++[u]:=by rw[YQ,ht];rfl
   have eU:min p t.kids.length=p:=by omega
   repeat' first|((first|refine ab (hK _ ?_)|refine aD (hK _ ?_));clear hK K)|((first|refine ae ?_|refine aH ?_|refine aa rfl (hu) ?_);simp[ay,aX,eU];(try simp(disch:=omega)only[wrap64]);(try(refine gen2 ?_ ?_<;>intro hq<;>try simp[ay,aX,eU]at hq)))|(refine⟨by omega,by omega,?_⟩)|(refine⟨p+1,by dsimp only;omega,by omega,?_,?_,?_⟩<;>simp(disch:=omega) [wrap64,mN,aJ])|refine T.yd (id:=5) mixed (fun _=>false) [9,11] (by kernel_rfl) fun K hK=>?_|refine T.r0 fun K hK=>?_|refine T.r1 fun K hK=>?_|refine T.ct rfl ?_|refine T.seq ?_|refine T.block ?_|refine T.skip ?_
  ·have fa:p=t.kids.length:=by omega
   subst fa;repeat' first|(refine ab (hK _ ?_);clear hK K)|(refine ae ?_;simp[ay];(try(refine gen2 ?_ ?_<;>intro hq<;>try simp[ay]at hq)))|(refine T.ret (aB.val (Or.inr rfl) ?_)<;>simp[aA,Tryz.results120,aJ]<;>omega)|refine T.r0 fun K hK=>?_|refine T.cf rfl ?_|refine T.seq ?_|refine T.exit ?_
theorem Fp:∀(a b:aI),fA a<=1099511627776->fA b<=1099511627776->aG a b=true->ah YI 173 [dE a,dE b] [] (dE (bN a b)) [] []:=by
 intro a;induction a using aI.ind with
 |h a ih=>
  intro b hn hm JG;have PU:=bY a hn;have I1:=bY b hm;rw[eI]at hn hm;have hlen:=fX a.kids;by_cases jn:a.kind=1
  ·rw[show bN a b=b by rw[gH,if_pos jn]];refine ah.ob Tryz.func173 Tryz.ntmps173 rfl ?_;repeat' first|(refine ab (hK _ ?_);clear hK K)|((first|refine ae ?_|refine aa rfl (I1) ?_);simp[jn];(try(refine gen2 ?_ ?_<;>intro hq<;>(try simp[jn]at hq)<;>try(have:True:=hq;clear this hq))))|(refine T.ret (aB.val (Or.inr rfl) ?_)<;>simp[aA,Tryz.results173]<;>omega)|refine T.r0 fun K hK=>?_|refine T.ct rfl ?_|refine T.seq ?_
  by_cases ku:b.kind=1
  ·rw[show bN a b=a by rw[gH,if_neg jn,if_pos ku]];refine ah.ob Tryz.func173 Tryz.ntmps173 rfl ?_;repeat' first|(refine ab (hK _ ?_);clear hK K)|((first|refine ae ?_|(refine aa ?_ (PU) ?_;(focus(solve|simp[jn,ku]))));simp[jn,ku];(try(refine gen2 ?_ ?_<;>intro hq<;>(try simp[jn,ku]at hq)<;>try(have:True:=hq;clear this hq))))|(refine T.ret (aB.val (Or.inr rfl) ?_)<;>simp[aA,Tryz.results173]<;>omega)|refine T.r0 fun K hK=>?_|refine T.ct rfl ?_|refine T.cf rfl ?_|refine T.seq ?_|refine T.skip ?_
  obtain⟨hk,hq⟩:=uI JG jn ku;have mz:=r7 hq;rw[show bN a b=.mk a.kind (YO bN a.kids b.kids) by rw[gH,if_neg jn,if_neg ku]];refine ah.ob Tryz.func173 Tryz.ntmps173 rfl ?_;repeat' first|(refine ab (hK _ ?_);clear hK K)|(refine ae ?_;simp[jn,ku];(try(refine gen2 ?_ ?_<;>intro hq<;>(try simp[jn,ku]at hq)<;>try(have:True:=hq;clear this hq))))|refine T.r0 fun K hK=>?_|refine T.cf rfl ?_|refine T.seq ?_|refine T.block ?_|refine T.skip ?_
  refine T.dq 3 1 2 25 (row:=[.d (.i a.kind),.nil]) (by simp) (by simp) ?_;refine T.fW (fun p:Nat=>⟨[(2,.c (.ptr 0 0)),(3,.c (.ptr 1 0)),(4,.c (.ptr 2 0)),(5,.c (.ptr 3 0)),(6,.i p)],[(dE a).cells,(dE b).cells,[.d (.i 0),.nil],[.d (.i a.kind),.own 0 p]],[{sz:=2,ev:=25,rows:=((YO bN a.kids b.kids).take p).map ck,wr:=true}]⟩) (fun p=>a.kids.length+1-p) (fun p=>p<=a.kids.length) (fun p hi=>?_) 0 (by simp) (by simp);have qG:(YO bN a.kids b.kids).length=a.kids.length:=by simp[mz]
  by_cases ay:p<a.kids.length
  ·obtain⟨u,ht⟩:=bM ay;have eA:u∈a.kids:=YM ht;have aX:a.kids[p]=u:=by rw[YL ay]at ht;exact Option.some.inj ht
   have gz:a.kids.drop p=u::a.kids.drop (p+1):=by rw[YN ay,aX]
   have eX:p<b.kids.length:=by omega
   obtain⟨v,hv⟩:=bM eX;have LJ:v∈b.kids:=YM hv;have og:b.kids[p]=v:=by rw[YL eX]at hv;exact Option.some.inj hv
   have hu:=ih u eA v (by have:=fE eA;omega) (by have:=fE LJ;omega) (zI hq ht hv);have hz:(YO bN a.kids b.kids)[p]? =some (bN u v):=by rw[List.getElem?_zipWith,ht,hv]
   have mN:(YO bN a.kids b.kids).take (p+1)=(YO bN a.kids b.kids).take p++[bN u v]:=by rw[YQ,hz];rfl
   have eU:min p a.kids.length=p:=by omega
   have SX:min p b.kids.length=p:=by omega
   generalize hZ:YO bN a.kids b.kids=Z at*;have Hr:min p Z.length=p:=by omega
   generalize bN u v=mm at*;repeat' first|((first|refine ab (hK _ ?_)|refine aD (hK _ ?_));clear hK K)|((first|refine ae ?_|refine aH ?_|refine aa rfl (hu) ?_);simp[ay,aX,eX,og,Hr];(try simp(disch:=omega)only[wrap64]);(try(refine gen2 ?_ ?_<;>intro hq<;>(try simp[ay,aX,eX,og,Hr]at hq)<;>try(have:True:=hq;clear this hq))))|(refine⟨by omega,by omega,?_⟩)|(refine⟨p+1,by dsimp only;omega,by omega,?_,?_,?_⟩<;>simp(disch:=omega) [wrap64,mN,aJ,Hr])|refine T.yd (id:=9) mixed (fun _=>false) [14,16] (by kernel_rfl) fun K hK=>?_|refine T.r0 fun K hK=>?_|refine T.r1 fun K hK=>?_|refine T.ct rfl ?_|refine T.seq ?_|refine T.block ?_|refine T.skip ?_
  ·have fa:p=a.kids.length:=by omega
   subst fa;rw[List.take_of_length_le (by omega)];generalize hZ:YO bN a.kids b.kids=Z at*;repeat' first|(refine ab (hK _ ?_);clear hK K)|(refine ae ?_;simp[ay];(try(refine gen2 ?_ ?_<;>intro hq<;>(try simp[ay]at hq)<;>try(have:True:=hq;clear this hq))))|(refine T.ret (aB.val (Or.inr rfl) ?_)<;>simp[aA,Tryz.results173,qG,aJ]<;>omega)|refine T.r0 fun K hK=>?_|refine T.cf rfl ?_|refine T.seq ?_|refine T.exit ?_
theorem yQ (t:aI) (ok:Bool):ah YI 145 [dE t,.b ok] [] (.a8 [dE (if ok=true then t else bk),.b ok]) [] []:=by
 cases ok
 ·refine ah.ob Tryz.func145 Tryz.ntmps145 rfl ?_;repeat' first|(refine ab (hK _ ?_);clear hK K)|(refine ae ?_;simp;(try(refine gen2 ?_ ?_<;>intro hq<;>try simp at hq)))|(refine T.ret (aB.a8 (Or.inr rfl) ?_)<;>simp[aA,Tryz.results145]<;>omega)|refine T.r0 fun K hK=>?_|refine T.ct rfl ?_|refine T.seq ?_
 ·refine ah.ob Tryz.func145 Tryz.ntmps145 rfl ?_;repeat' first|(refine ab (hK _ ?_);clear hK K)|(refine ae ?_;simp;(try(refine gen2 ?_ ?_<;>intro hq<;>try simp at hq)))|(refine T.ret (aB.a8 (Or.inr rfl) ?_)<;>simp[aA,Tryz.results145]<;>omega)|refine T.r0 fun K hK=>?_|refine T.cf rfl ?_|refine T.seq ?_|refine T.skip ?_
theorem ri (k:Int) (t:aI) (hn:fA t<=1099511627776) (hl:t.kind=k->2<=t.kids.length):
  ah YI 172 [.i k,dE t] [] (.a8 (match db k t with|some (a,b)=>[dE a,dE b,.b true]|none=>[dE bk,dE bk,.b false])) [] []:=by
 have oZ:=lG;simp only[db];by_cases jn:t.kind=1
 ·rw[if_pos jn];dsimp only;refine ah.ob Tryz.func172 Tryz.ntmps172 rfl ?_;repeat' first|(refine ab (hK _ ?_);clear hK K)|((first|refine ae ?_|refine aa rfl (oZ) ?_);simp[jn];(try(refine gen2 ?_ ?_<;>intro hq<;>try simp[jn]at hq)))|(refine T.ret (aB.a8 (Or.inr rfl) ?_)<;>simp[aA,Tryz.results172]<;>omega)|refine T.r0 fun K hK=>?_|refine T.ct rfl ?_|refine T.seq ?_
 rw[if_neg jn];by_cases hk:t.kind=k
 rotate_left
 ·rw[if_neg hk];dsimp only;refine ah.ob Tryz.func172 Tryz.ntmps172 rfl ?_;repeat' first|(refine ab (hK _ ?_);clear hK K)|(refine ae ?_;simp[jn,hk];(try(refine gen2 ?_ ?_<;>intro hq<;>try simp[jn,hk]at hq)))|(refine T.ret (aB.a8 (Or.inr rfl) ?_)<;>simp[aA,Tryz.results172]<;>omega)|refine T.r0 fun K hK=>?_|refine T.ct rfl ?_|refine T.cf rfl ?_|refine T.seq ?_|refine T.skip ?_
 rw[if_pos hk];have uQ:=hl hk
 match ia:t.kids,uQ with
 |a::b::r,_=>
  dsimp only;rw[eI,ia]at hn;have NZ:¬k=1:=by rw[<-hk];exact jn
  have ha:=bY a (by simp[cP]at hn;omega);have hb:=bY b (by simp[cP]at hn;omega);refine ah.ob Tryz.func172 Tryz.ntmps172 rfl ?_;repeat' first|((first|refine ab (hK _ ?_)|refine aD (hK _ ?_));clear hK K)|((first|refine ae ?_|refine aH ?_|refine aa rfl (ha) ?_|refine aa rfl (hb) ?_);simp[NZ,hk,ia];(try(refine gen2 ?_ ?_<;>intro hq<;>try simp[NZ,hk,ia]at hq)))|(refine T.ret (aB.a8 (Or.inr rfl) ?_)<;>simp[aA,Tryz.results172]<;>omega)|refine T.rd (id:=5) mixed (fun _=>false) [10,11] (by kernel_rfl) fun K hK=>?_|refine T.r0 fun K hK=>?_|refine T.cf rfl ?_|refine T.seq ?_|refine T.skip ?_
theorem Bq (k:Int) (a b:aI) (ha:fA a<=549755813888) (hb:fA b<=549755813885):
  ah YI 164 [.i k,dE a,dE b] [] (.a8 [dE (.mk k [a,b]),.b (ak 4 (.mk k [a,b]))]) [] []:=by
 have PU:=bY a (by omega);have I1:=bY b (by omega);have hv:=gh (.mk k [a,b]) (by rw[eI];simp[cP];omega);generalize ak 4 (.mk k [a,b])=ok at*;refine ah.ob Tryz.func164 Tryz.ntmps164 rfl ?_;repeat' first|((first|refine ab (hK _ ?_)|refine aD (hK _ ?_)|refine bj (hK _ ?_));clear hK K)|((first|refine ae ?_|refine aH ?_|refine bB ?_|refine aa rfl (PU) ?_|refine aa rfl (I1) ?_|(refine aa ?_ (hv) ?_;(focus(solve|simp))));simp)|(refine T.ret (aB.a8 (Or.inr rfl) ?_)<;>simp[aA,Tryz.results164,aJ]<;>omega)|refine T.mL (id:=1) mixed (fun _=>false) [7,8] [1,2,3,4,5,6] 8 [] (by kernel_rfl) fun K hK=>?_|(refine⟨?_,?_⟩;(focus(intros;refine aa rfl (PU) ?_;simp;done)))|(refine⟨?_,?_⟩;(focus(intros;refine aa rfl (I1) ?_;simp;done)))|refine T.rd (id:=2) mixed (fun _=>false) [3] (by kernel_rfl) fun K hK=>?_|refine T.r0 fun K hK=>?_
end Go.Proofs.YtloolmchekcmeaaGreat
namespace Go.Proofs.YtloolmchekcmeaaGreat
attribute [-simp] Go.Av.gJ Go.Av.gy Go.Av.cW Go.Av.ij Go.Av.cl Go.Av.bO Go.Av.back Go.Av.fD Go.Av.one
open Go Go.Av
attribute [local irreducible] T ah ck gp aI.kind aI.kids ao.kind ao.name ao.num ao.ty ao.fr ao.label ao.kids
attribute [local simp] aJ al
set_option maxHeartbeats 4000000
@[simp] theorem Hs:td YI 139=some {ag:=false,sz:=1,lR:=24,zero:=some [.nil],el:=some 146,ar:=none,fl:=[],ik:=none,cS:=false,nC:=false}:=dR (by kernel_rfl)
@[simp] theorem PV:td YI 146=some {ag:=true,sz:=3,lR:=48,zero:=some [.d (.str []),.d (.int .i64 0),.nil],el:=none,ar:=none,fl:=[(0,1),(1,2)],ik:=none,cS:=false,nC:=false}:=dR (by kernel_rfl)
theorem yR (ctx:List dF) (s:List UInt8) (hl:ctx.length<=1099511627776) (hn:∀b∈ctx,fA b.ty<=1099511627776):
  ah YI 121 [.l (ctx.map iE),.s s] [] (.a8 (match dY ctx s with|some t=>[dE t,.b true]|none=>[dE bk,.b false])) [] []:=by
 have Ht:∀p,p<ctx.length->dY (ctx.take (p+1)) s=if(ctx[p]?.map dF.name)=some s then ctx[p]?.map dF.ty else dY (ctx.take p) s:=by
  have GQ:∀(l:List dF) (b:dF),dY (l++[b]) s=if b.name=s then some b.ty else dY l s:=by
   intro l;induction l with
   |nil=>intro b;simp[dY]
   |cons x r ih=>
    intro b;simp only[List.cons_append,dY,ih b];by_cases hb:b.name=s
    ·simp[hb]
    ·simp[hb]
  intro p hp;rw[YQ,YL hp];simp only[Option.toList_some,GQ,Option.map_some,Option.some.injEq]
 refine ah.ob Tryz.func121 Tryz.ntmps121 rfl ?_;repeat' first|(refine ab (hK _ ?_);clear hK K)|(refine ae ?_;simp;(try simp(disch:=omega)only[wrap64]);(try(refine gen2 ?_ ?_<;>intro hq<;>try simp at hq)))|refine T.r0 fun K hK=>?_|refine T.seq ?_|refine T.block ?_
 obtain⟨R,hR⟩:∃R,dY ctx s=R:=⟨_,rfl⟩;rw[hR];refine T.fW (fun p:Nat=>⟨[(0,.l (ctx.map iE)),(1,.s s),(4,.c (.ptr 0 0)),(6,.i ((p:Int)-1))],[[.d (.i 0),.nil]],[]⟩) (fun p=>p) (fun p=>p<=ctx.length/\dY (ctx.take p) s=R) (fun p hp=>?_) ctx.length (by simpa using hR) (by simp);obtain⟨hi,he⟩:=hp;cases p with
 |zero=>
  simp[dY]at he;subst he;repeat' first|(refine ab (hK _ ?_);clear hK K)|(refine ae ?_;simp;(try(refine gen2 ?_ ?_<;>intro hq<;>try simp at hq)))|(refine T.ret (aB.a8 (Or.inr rfl) ?_)<;>simp[aA,Tryz.results121]<;>omega)|refine T.r0 fun K hK=>?_|refine T.cf rfl ?_|refine T.seq ?_|refine T.exit ?_
 |succ p=>
  rw[Ht p (by omega)]at he;have ay:p<ctx.length:=by omega
  obtain⟨b,ht⟩:=bM ay;have eA:b∈ctx:=YM ht;have aX:ctx[p]=b:=by rw[YL ay]at ht;exact Option.some.inj ht
  have pc:(0:Int)<=(p:Int)+1-1:=by omega
  have Hu:((p:Int)+1-1)=p:=by omega
  have Br:=bY b.ty (hn b eA);rw[ht]at he;by_cases hb:b.name=s
  ·simp[hb]at he;subst he;repeat' first|(refine ab (hK _ ?_);clear hK K)|((first|refine ae ?_|refine aa rfl (Br) ?_);simp[ay,aX,pc,Hu,hb,iE];(try simp(disch:=omega)only[wrap64]);(try(refine gen2 ?_ ?_<;>intro hq<;>try simp[ay,aX,pc,Hu,hb,iE]at hq)))|(refine T.ret (aB.a8 (Or.inr rfl) ?_)<;>simp[aA,Tryz.results121]<;>omega)|refine T.r0 fun K hK=>?_|refine T.ct rfl ?_|refine T.seq ?_|refine T.block ?_|refine T.skip ?_
  ·simp[hb]at he;repeat' first|(refine ab (hK _ ?_);clear hK K)|(refine ae ?_;simp[ay,aX,pc,Hu,hb,iE];(try simp(disch:=omega)only[wrap64]);(try(refine gen2 ?_ ?_<;>intro hq<;>try simp[ay,aX,pc,Hu,hb,iE]at hq)))|(refine⟨p,by dsimp only;omega,⟨by omega,he⟩,rfl,rfl,?_⟩;simp(disch:=omega) [wrap64])|refine T.r0 fun K hK=>?_|refine T.r1 fun K hK=>?_|refine T.ct rfl ?_|refine T.cf rfl ?_|refine T.seq ?_|refine T.block ?_|refine T.skip ?_
theorem yS (ctx:List dF) (s:List UInt8) (t:aI) (hl:ctx.length<=1099511627776):
  ah YI 147 [.l (ctx.map iE),.s s,dE t] [] (.l ((ctx++[dF.mk s t]).map iE)) [] []:=by
 refine ah.ob Tryz.func147 Tryz.ntmps147 rfl ?_;repeat' first|((first|refine ab (hK _ ?_)|refine bj (hK _ ?_));clear hK K)|((first|refine ae ?_|refine bB ?_);simp[iE];(try(refine gen2 ?_ ?_<;>intro hq<;>try simp[iE]at hq)))|(refine⟨by omega,by omega,?_⟩)|(refine T.ret (aB.val (Or.inr rfl) ?_)<;>simp[aA,Tryz.results147,iE]<;>omega)|refine T.mL (id:=1) mixed (fun i=>i==0) [0,2,7] [4,5,6] 3 [] (by kernel_rfl) fun K hK=>?_|refine T.rs (id:=0) (fun _=>false) fun K hK=>?_
theorem zT (ctx:List dF) (hl:ctx.length<=1099511627776) (hn:∀b∈ctx,fA b.ty<=1099511627776):ah YI 144 [.l (ctx.map iE)] [] (.b (rf ctx)) [] []:=by
 simp only[rf];obtain⟨R,hR⟩:∃R,ctx.all (fun b=>dX b.name && ak 4 b.ty)=R:=⟨_,rfl⟩;rw[hR];refine ah.ob Tryz.func144 Tryz.ntmps144 rfl ?_;repeat' first|(refine ab (hK _ ?_);clear hK K)|(refine ae ?_;simp;(try(refine gen2 ?_ ?_<;>intro hq<;>try simp at hq)))|refine T.r0 fun K hK=>?_|refine T.seq ?_|refine T.block ?_
 refine T.fW (fun p:Nat=>⟨[(0,.l (ctx.map iE)),(3,.i p)],[],[]⟩) (fun p=>ctx.length+1-p) (fun p=>p<=ctx.length/\(ctx.drop p).all (fun b=>dX b.name && ak 4 b.ty)=R) (fun p hp=>?_) 0 (by simpa using hR) (by simp);obtain⟨hi,he⟩:=hp;by_cases ay:p<ctx.length
 ·obtain⟨b,ht⟩:=bM ay;have eA:b∈ctx:=YM ht;have aX:ctx[p]=b:=by rw[YL ay]at ht;exact Option.some.inj ht
  have gz:ctx.drop p=b::ctx.drop (p+1):=by rw[YN ay,aX]
  have h1:=yN b.name;have h2:=gh b.ty (hn b eA);rw[gz,YR]at he;cases uR:dX b.name<;>rw[uR]at h1 he
  ·repeat' first|(refine ab (hK _ ?_);clear hK K)|((first|refine ae ?_|refine aa rfl (h1) ?_);simp[ay,aX,iE];(try simp(disch:=omega)only[wrap64]);(try(refine gen2 ?_ ?_<;>intro hq<;>try simp[ay,aX,iE]at hq)))|(refine T.ret (aB.data (Or.inr rfl) ?_ ?_)<;>simp[Tryz.results144,<-he]<;>omega)|refine T.r0 fun K hK=>?_|refine T.ct rfl ?_|refine T.seq ?_|refine T.block ?_|refine T.skip ?_
  ·cases JH:ak 4 b.ty<;>rw[JH]at h2 he
   ·repeat' first|(refine ab (hK _ ?_);clear hK K)|((first|refine ae ?_|refine aa rfl (h1) ?_|refine aa rfl (h2) ?_);simp[ay,aX,iE];(try simp(disch:=omega)only[wrap64]);(try(refine gen2 ?_ ?_<;>intro hq<;>try simp[ay,aX,iE]at hq)))|(refine T.ret (aB.data (Or.inr rfl) ?_ ?_)<;>simp[Tryz.results144,<-he]<;>omega)|refine T.r0 fun K hK=>?_|refine T.ct rfl ?_|refine T.seq ?_|refine T.block ?_|refine T.skip ?_
   ·repeat' first|(refine ab (hK _ ?_);clear hK K)|((first|refine ae ?_|refine aa rfl (h1) ?_|refine aa rfl (h2) ?_);simp[ay,aX,iE];(try simp(disch:=omega)only[wrap64]);(try(refine gen2 ?_ ?_<;>intro hq<;>try simp[ay,aX,iE]at hq)))|(refine⟨p+1,by dsimp only;omega,⟨by omega,by simpa using he⟩,rfl,rfl,?_⟩;simp(disch:=omega) [wrap64])|refine T.r0 fun K hK=>?_|refine T.r1 fun K hK=>?_|refine T.ct rfl ?_|refine T.cf rfl ?_|refine T.seq ?_|refine T.block ?_|refine T.skip ?_
 ·have fa:p=ctx.length:=by omega
  subst fa;simp at he;subst he;repeat' first|(refine ab (hK _ ?_);clear hK K)|(refine ae ?_;simp[ay];(try(refine gen2 ?_ ?_<;>intro hq<;>try simp[ay]at hq)))|(refine T.ret (aB.data (Or.inr rfl) ?_ ?_)<;>simp[Tryz.results144, *]<;>omega)|refine T.r0 fun K hK=>?_|refine T.cf rfl ?_|refine T.seq ?_|refine T.exit ?_
theorem jK:∀(d:Nat) (t:aI),ak d t=true->fA t+2<=2 ^ d
 |0,t,h=>by simp[ak]at h
 |d+1,t,h=>by
  obtain⟨e,he,_,hl,hs⟩:=eg h;obtain rfl:d=e:=by omega
  rw[eI];have hp:1<=2 ^ d:=Nat.one_le_two_pow;have UK:2 ^(d+1)=2*2 ^ d:=by rw[Nat.pow_succ];omega
  match hk:t.kids,hl with
  |[],_=>simp[cP];omega
  |[a],_=>have:=jK d a (hs a (by simp[hk]));simp[cP];omega
  |[a,b],_=>
   have h1:=jK d a (hs a (by simp[hk]));have h2:=jK d b (hs b (by simp[hk]));simp[cP];omega
theorem dc {t:aI} (h:ak 4 t=true):fA t<=14:=by have:=jK 4 t h;omega
theorem lu {k:Int} {t:aI} (hk:k=4\/k=5) (h:ak 4 t=true):t.kind=k->2<=t.kids.length:=by
 intro he;obtain⟨_,_,hl,_,_⟩:=eg h;rw[he]at hl;rcases hk with rfl|rfl<;>simp[cz]at hl<;>omega
theorem wL:∀(d:Nat) (e:ao),d<=1000->eR e<=1099511627776->ah YI 96 [cM e,.i d] [] (.b (bm 14 d e)) [] []
 |0,e,_,_=>by
  refine ah.ob Tryz.func96 Tryz.ntmps96 rfl ?_;repeat' first|((first|refine ab (hK _ ?_)|refine aD (hK _ ?_));clear hK K)|((first|refine ae ?_|refine aH ?_);simp;(try(refine gen2 ?_ ?_<;>intro hq<;>try simp at hq)))|(refine T.ret (aB.data (Or.inr rfl) ?_ ?_)<;>simp[Tryz.results96,bm]<;>omega)|refine T.rd (id:=1) mixed (fun _=>false) [] (by kernel_rfl) fun K hK=>?_|refine T.r0 fun K hK=>?_|refine T.ct rfl ?_|refine T.seq ?_
 |d+1,e,hd,hn=>by
  obtain⟨jo,nE,yl,o6⟩:=cB hn;have jb:=yP e.kind;have gR:¬((d:Int)+1<1):=by omega
  have jY:bm 14 (d+1) e=(decide (e.kind≠14)&&(decide (cm e.kind=e.kids.length)&& fu e)&& e.kids.all (bm 14 d)):=rfl;by_cases ym:e.kind=14
  ·rw[ym]at jb;rw[show bm 14 (d+1) e=false by rw[jY];simp[ym]];refine ah.ob Tryz.func96 Tryz.ntmps96 rfl ?_;repeat' first|((first|refine ab (hK _ ?_)|refine aD (hK _ ?_));clear hK K)|((first|refine ae ?_|refine aH ?_|refine aa rfl (jb) ?_);simp[gR,ym];(try(refine gen2 ?_ ?_<;>intro hq<;>try simp[gR,ym]at hq)))|(refine T.ret (aB.data (Or.inr rfl) ?_ ?_)<;>simp[Tryz.results96]<;>omega)|refine T.rd (id:=1) mixed (fun _=>false) [] (by kernel_rfl) fun K hK=>?_|refine T.r0 fun K hK=>?_|refine T.ct rfl ?_|refine T.seq ?_
  by_cases hlen:cm e.kind=e.kids.length
  rotate_left
  ·rw[show bm 14 (d+1) e=false by rw[jY];simp[hlen]];refine ah.ob Tryz.func96 Tryz.ntmps96 rfl ?_;repeat' first|((first|refine ab (hK _ ?_)|refine aD (hK _ ?_));clear hK K)|((first|refine ae ?_|refine aH ?_|refine aa rfl (jb) ?_);simp[gR,hlen];(try(refine gen2 ?_ ?_<;>intro hq<;>try simp[gR,hlen]at hq)))|(refine T.ret (aB.data (Or.inr rfl) ?_ ?_)<;>simp[Tryz.results96]<;>omega)|refine T.rd (id:=1) mixed (fun _=>false) [] (by kernel_rfl) fun K hK=>?_|refine T.r0 fun K hK=>?_|refine T.ct rfl ?_|refine T.seq ?_
  rw[hlen]at jb;have N0:bm 14 (d+1) e=(fu e && e.kids.all (bm 14 d)):=by rw[jY];simp[ym,hlen]
  have dQ:=Hq e ym jo;obtain⟨R,hR⟩:∃R,e.kids.all (bm 14 d)=R:=⟨_,rfl⟩;rw[N0,hR];generalize fu e=O at dQ;clear jY N0;cases O
  ·refine ah.ob Tryz.func96 Tryz.ntmps96 rfl ?_;repeat' first|((first|refine ab (hK _ ?_)|refine aD (hK _ ?_));clear hK K)|((first|refine ae ?_|refine aH ?_|refine aa rfl (jb) ?_|refine aa rfl (dQ) ?_);simp[gR,ym];(try(refine gen2 ?_ ?_<;>intro hq<;>try simp[gR,ym]at hq)))|(refine T.ret (aB.data (Or.inr rfl) ?_ ?_)<;>simp[Tryz.results96]<;>omega)|refine T.rd (id:=1) mixed (fun _=>false) [] (by kernel_rfl) fun K hK=>?_|refine T.r0 fun K hK=>?_|refine T.ct rfl ?_|refine T.seq ?_
  refine ah.ob Tryz.func96 Tryz.ntmps96 rfl ?_;repeat' first|((first|refine ab (hK _ ?_)|refine aD (hK _ ?_));clear hK K)|((first|refine ae ?_|refine aH ?_|refine aa rfl (jb) ?_|refine aa rfl (dQ) ?_);simp[gR,ym];(try(refine gen2 ?_ ?_<;>intro hq<;>try simp[gR,ym]at hq)))|refine T.rd (id:=1) mixed (fun _=>false) [] (by kernel_rfl) fun K hK=>?_|refine T.r0 fun K hK=>?_|refine T.cf rfl ?_|refine T.seq ?_|refine T.block ?_|refine T.skip ?_
  rw[Bool.true_and];refine T.fW (fun p:Nat=>⟨[(1,.i (d+1)),(2,.c (.ptr 0 0)),(5,.i p)],[(cM e).cells],[]⟩) (fun p=>e.kids.length+1-p) (fun p=>p<=e.kids.length/\(e.kids.drop p).all (bm 14 d)=R) (fun p hp=>?_) 0 (by simpa using hR) (by simp);obtain⟨hi,he⟩:=hp;by_cases ay:p<e.kids.length
  ·obtain⟨u,ht⟩:=bM ay;have eA:u∈e.kids:=YM ht;have aX:e.kids[p]=u:=by rw[YL ay]at ht;exact Option.some.inj ht
   have gz:e.kids.drop p=u::e.kids.drop (p+1):=by rw[YN ay,aX]
   have hu:=wL d u (by omega) (o6 u eA);rw[gz,YR]at he;cases hb:bm 14 d u<;>rw[hb]at hu he
   ·repeat' first|(refine ab (hK _ ?_);clear hK K)|((first|refine ae ?_|refine aa rfl (hu) ?_);simp[ay,aX];(try simp(disch:=omega)only[wrap64]);(try(refine gen2 ?_ ?_<;>intro hq<;>try simp[ay,aX]at hq)))|(refine T.ret (aB.data (Or.inr rfl) ?_ ?_)<;>simp[Tryz.results96,<-he]<;>omega)|refine T.r0 fun K hK=>?_|refine T.ct rfl ?_|refine T.seq ?_|refine T.block ?_|refine T.skip ?_
   ·repeat' first|(refine ab (hK _ ?_);clear hK K)|((first|refine ae ?_|refine aa rfl (hu) ?_);simp[ay,aX];(try simp(disch:=omega)only[wrap64]);(try(refine gen2 ?_ ?_<;>intro hq<;>try simp[ay,aX]at hq)))|(refine⟨p+1,by dsimp only;omega,⟨by omega,by simpa using he⟩,rfl,rfl,?_⟩;simp(disch:=omega) [wrap64])|refine T.r0 fun K hK=>?_|refine T.r1 fun K hK=>?_|refine T.ct rfl ?_|refine T.cf rfl ?_|refine T.seq ?_|refine T.block ?_|refine T.skip ?_
  ·have fa:p=e.kids.length:=by omega
   subst fa;simp at he;repeat' first|(refine ab (hK _ ?_);clear hK K)|(refine ae ?_;simp[ay];(try(refine gen2 ?_ ?_<;>intro hq<;>try simp[ay]at hq)))|(refine T.ret (aB.data (Or.inr rfl) ?_ ?_)<;>simp[Tryz.results96,he]<;>omega)|refine T.r0 fun K hK=>?_|refine T.cf rfl ?_|refine T.seq ?_|refine T.exit ?_
theorem iH (e:ao) (hn:eR e<=1099511627776):ah YI 41 [cM e] [] (.b (aQ e)) [] []:=by
 have h1:=wL 12 e (by omega) hn;have h2:=wK 12 e (by omega) hn;rw[show aQ e=(bm 14 12 e && decide (cV 12 e<=30))from rfl];generalize bm 14 12 e=a at*;generalize cV 12 e=b at*;refine ah.ob Tryz.func41 Tryz.ntmps41 rfl ?_;repeat' first|(refine ab (hK _ ?_);clear hK K)|((first|refine ae ?_|refine aa rfl (h1) ?_|refine aa rfl (h2) ?_);simp;(try(refine gen2 ?_ ?_<;>intro hq<;>try simp at hq)))|(refine T.ret (aB.data (Or.inr rfl) ?_ ?_)<;>simp[Tryz.results41, *]<;>omega)|refine T.r0 fun K hK=>?_
def JI (e:ao) (ts:List aI) (r:Option aI):Prop:=∃t',(∀t,r=some t->t'=t)/\ah YI 165 [cM e,.l (ts.map ck)] [] (.a8 [dE t',.b r.isSome]) [] []
theorem Rb (e:ao) (a b:aI) (hk:e.kind=6) (ha:ak 4 a=true) (hb:ak 4 b=true):
  JI e [a,b] (match db 4 a with|some (x,y)=>if aG b x=true then some y else none|none=>none):=by
 have hm:=ri 4 a (by have:=dc ha;omega) (lu (.inl rfl) ha);cases hr:db 4 a with
 |none=>
  rw[hr]at hm;refine⟨bk,by simp,?_⟩;refine ah.ob Tryz.func165 Tryz.ntmps165 rfl ?_;repeat' first|((first|refine ab (hK _ ?_)|refine aD (hK _ ?_));clear hK K)|((first|refine ae ?_|refine aH ?_|refine aa rfl (hm) ?_);simp[hk];(try(refine gen2 ?_ ?_<;>intro hq<;>try simp[hk]at hq)))|(refine T.ret (aB.a8 (Or.inr rfl) ?_)<;>simp[aA,Tryz.results165]<;>omega)|refine T.rd (id:=4) mixed (fun _=>false) [9] (by kernel_rfl) fun K hK=>?_|refine T.r0 fun K hK=>?_|refine T.ct rfl ?_|refine T.seq ?_|refine T.block ?_
 |some p=>
  obtain⟨x,y⟩:=p;rw[hr]at hm;obtain⟨hx,hy⟩:=eN hr ha;have hc:=c7 4 b x (by omega) hb hx;refine⟨y,?_,?_⟩
  ·intro t h;dsimp only at h;split at h<;>simp at h;exact h
  dsimp only at hm⊢;rw[show(if aG b x=true then some y else none).isSome=aG b x by cases aG b x<;>rfl];generalize aG b x=c at hc;refine ah.ob Tryz.func165 Tryz.ntmps165 rfl ?_;repeat' first|((first|refine ab (hK _ ?_)|refine aD (hK _ ?_));clear hK K)|((first|refine ae ?_|refine aH ?_|refine aa rfl (hm) ?_|refine aa rfl (hc) ?_);simp[hk];(try(refine gen2 ?_ ?_<;>intro hq<;>try simp[hk]at hq)))|(refine T.ret (aB.a8 (Or.inr rfl) ?_)<;>simp[aA,Tryz.results165, *]<;>omega)|refine T.rd (id:=4) mixed (fun _=>false) [9] (by kernel_rfl) fun K hK=>?_|refine T.r0 fun K hK=>?_|refine T.ct rfl ?_|refine T.seq ?_|refine T.block ?_
theorem Rc (e:ao) (a b:aI) (hk:e.kind=7) (ha:ak 4 a=true) (hb:ak 4 b=true):
  JI e [a,b] (if aG a bw=true/\aG b bw=true then some bw else none):=by
 have hi:ak 4 bw=true:=by simp[ak,cz]
 have h1:=c7 4 a bw (by omega) ha hi;have h2:=c7 4 b bw (by omega) hb hi;have h3:=nc;have h4:=nf;refine⟨bw,?_,?_⟩
 ·intro t h;split at h<;>simp at h;exact h
 rw[show(if aG a bw=true/\aG b bw=true then some bw else none).isSome=(aG a bw && aG b bw) by cases aG a bw<;>cases aG b bw<;>rfl];generalize aG a bw=c1 at h1⊢;generalize aG b bw=c2 at h2⊢;refine ah.ob Tryz.func165 Tryz.ntmps165 rfl ?_;repeat' first|((first|refine ab (hK _ ?_)|refine aD (hK _ ?_));clear hK K)|((first|refine ae ?_|refine aH ?_|refine aa rfl (h3) ?_|(refine aa ?_ (h1) ?_;(focus(solve|simp[hk])))|(refine aa ?_ (h2) ?_;(focus(solve|simp[hk]))));simp[hk];(try(refine gen2 ?_ ?_<;>intro hq<;>try simp[hk]at hq)))|(refine T.ret (aB.a8 (Or.inr rfl) ?_)<;>simp[aA,Tryz.results165, *]<;>omega)|refine T.rd (id:=6) mixed (fun _=>false) [13] (by kernel_rfl) fun K hK=>?_|refine T.r0 fun K hK=>?_|refine T.ct rfl ?_|refine T.cf rfl ?_|refine T.seq ?_|refine T.block ?_
theorem Rd (e:ao) (a b:aI) (hk:e.kind=8) (ha:ak 4 a=true) (hb:ak 4 b=true):
  JI e [a,b] (if aG a bw=true/\aG b bw=true then some cF else none):=by
 have hi:ak 4 bw=true:=by simp[ak,cz]
 have h1:=c7 4 a bw (by omega) ha hi;have h2:=c7 4 b bw (by omega) hb hi;have h3:=nc;have h4:=nf;refine⟨cF,?_,?_⟩
 ·intro t h;split at h<;>simp at h;exact h
 rw[show(if aG a bw=true/\aG b bw=true then some cF else none).isSome=(aG a bw && aG b bw) by cases aG a bw<;>cases aG b bw<;>rfl];generalize aG a bw=c1 at h1⊢;generalize aG b bw=c2 at h2⊢;refine ah.ob Tryz.func165 Tryz.ntmps165 rfl ?_;repeat' first|((first|refine ab (hK _ ?_)|refine aD (hK _ ?_));clear hK K)|((first|refine ae ?_|refine aH ?_|refine aa rfl (h3) ?_|refine aa rfl (h4) ?_|(refine aa ?_ (h1) ?_;(focus(solve|simp[hk])))|(refine aa ?_ (h2) ?_;(focus(solve|simp[hk]))));simp[hk];(try(refine gen2 ?_ ?_<;>intro hq<;>try simp[hk]at hq)))|(refine T.ret (aB.a8 (Or.inr rfl) ?_)<;>simp[aA,Tryz.results165, *]<;>omega)|refine T.rd (id:=8) mixed (fun _=>false) [13] (by kernel_rfl) fun K hK=>?_|refine T.r0 fun K hK=>?_|refine T.ct rfl ?_|refine T.cf rfl ?_|refine T.seq ?_|refine T.block ?_
theorem Re (e:ao) (a b c:aI) (hk:e.kind=9) (ha:ak 4 a=true) (hb:ak 4 b=true) (hc:ak 4 c=true):
  JI e [a,b,c] (if aG b c=true/\aG a cF=true then some (bN b c)else none):=by
 have hi:ak 4 cF=true:=by simp[ak,cz]
 have h1:=c7 4 b c (by omega) hb hc;have h2:=c7 4 a cF (by omega) ha hi;have h4:=nf;by_cases PW:aG b c=true
 rotate_left
 ·have LK:aG b c=false:=by simpa using PW
  rw[LK]at h1;refine⟨bk,by simp[LK],?_⟩;rw[if_neg (by simp[LK])];refine ah.ob Tryz.func165 Tryz.ntmps165 rfl ?_;repeat' first|((first|refine ab (hK _ ?_)|refine aD (hK _ ?_));clear hK K)|((first|refine ae ?_|refine aH ?_|refine aa rfl (h1) ?_);simp[hk];(try(refine gen2 ?_ ?_<;>intro hq<;>try simp[hk]at hq)))|(refine T.ret (aB.a8 (Or.inr rfl) ?_)<;>simp[aA,Tryz.results165]<;>omega)|refine T.rd (id:=10) mixed (fun _=>false) [] (by kernel_rfl) fun K hK=>?_|refine T.r0 fun K hK=>?_|refine T.ct rfl ?_|refine T.cf rfl ?_|refine T.seq ?_|refine T.block ?_
 have h5:=Fp b c (by have:=dc hb;omega) (by have:=dc hc;omega) PW;rw[PW]at h1;refine⟨bN b c,?_,?_⟩
 ·intro t h;split at h<;>simp at h;exact h
 rw[show(if aG b c=true/\aG a cF=true then some (bN b c)else none).isSome=aG a cF by rw[PW];cases aG a cF<;>rfl];generalize aG a cF=c2 at h2⊢;generalize bN b c=mt at h5⊢;refine ah.ob Tryz.func165 Tryz.ntmps165 rfl ?_;repeat' first|((first|refine ab (hK _ ?_)|refine aD (hK _ ?_));clear hK K)|((first|refine ae ?_|refine aH ?_|refine aa rfl (h1) ?_|refine aa rfl (h5) ?_|refine aa rfl (h4) ?_|(refine aa ?_ (h2) ?_;(focus(solve|simp[hk]))));simp[hk];(try(refine gen2 ?_ ?_<;>intro hq<;>try simp[hk]at hq)))|(refine T.ret (aB.a8 (Or.inr rfl) ?_)<;>simp[aA,Tryz.results165, *]<;>omega)|refine T.rd (id:=10) mixed (fun _=>false) [] (by kernel_rfl) fun K hK=>?_|refine T.rd (id:=12) mixed (fun _=>false) [12] (by kernel_rfl) fun K hK=>?_|refine T.r0 fun K hK=>?_|refine T.ct rfl ?_|refine T.cf rfl ?_|refine T.seq ?_|refine T.block ?_|refine T.skip ?_
theorem N1 (e:ao) (a b:aI) (hk:e.kind=10) (ha:ak 4 a=true) (hb:ak 4 b=true):JI e [a,b] (r9 5 a b):=by
 have h1:=Bq 5 a b (by have:=dc ha;omega) (by have:=dc hb;omega);refine⟨.mk 5 [a,b],?_,?_⟩
 ·intro t h;simp only[r9]at h;split at h<;>simp at h;exact h
 rw[show(r9 5 a b).isSome=ak 4 (.mk 5 [a,b]) by simp only[r9];split<;>simp[*]];generalize ak 4 (.mk 5 [a,b])=c at h1⊢;refine ah.ob Tryz.func165 Tryz.ntmps165 rfl ?_;repeat' first|((first|refine ab (hK _ ?_)|refine aD (hK _ ?_));clear hK K)|((first|refine ae ?_|refine aH ?_|refine aa rfl (h1) ?_);simp[hk];(try(refine gen2 ?_ ?_<;>intro hq<;>try simp[hk]at hq)))|(refine T.ret (aB.a8 (Or.inr rfl) ?_)<;>simp[aA,Tryz.results165, *]<;>omega)|refine T.rd (id:=14) mixed (fun _=>false) [9] (by kernel_rfl) fun K hK=>?_|refine T.r0 fun K hK=>?_|refine T.ct rfl ?_|refine T.cf rfl ?_|refine T.seq ?_|refine T.block ?_
theorem N2 (e:ao) (a:aI) (hk:e.kind=11) (ha:ak 4 a=true):JI e [a] ((db 5 a).map (·.1)):=by
 have hm:=ri 5 a (by have:=dc ha;omega) (lu (.inr rfl) ha);cases hr:db 5 a with
 |none=>
  rw[hr]at hm;refine⟨bk,by simp,?_⟩;refine ah.ob Tryz.func165 Tryz.ntmps165 rfl ?_;repeat' first|(refine ab (hK _ ?_);clear hK K)|((first|refine ae ?_|refine aa rfl (hm) ?_);simp[hk];(try(refine gen2 ?_ ?_<;>intro hq<;>try simp[hk]at hq)))|(refine T.ret (aB.a8 (Or.inr rfl) ?_)<;>simp[aA,Tryz.results165]<;>omega)|refine T.r0 fun K hK=>?_|refine T.ct rfl ?_|refine T.cf rfl ?_|refine T.seq ?_|refine T.block ?_
 |some p=>
  obtain⟨x,y⟩:=p;rw[hr]at hm;refine⟨(x,y).1,by simp,?_⟩;dsimp only at hm⊢;refine ah.ob Tryz.func165 Tryz.ntmps165 rfl ?_;repeat' first|(refine ab (hK _ ?_);clear hK K)|((first|refine ae ?_|refine aa rfl (hm) ?_);simp[hk];(try(refine gen2 ?_ ?_<;>intro hq<;>try simp[hk]at hq)))|(refine T.ret (aB.a8 (Or.inr rfl) ?_)<;>simp[aA,Tryz.results165]<;>omega)|refine T.r0 fun K hK=>?_|refine T.ct rfl ?_|refine T.cf rfl ?_|refine T.seq ?_|refine T.block ?_
theorem N3 (e:ao) (a:aI) (hk:e.kind=12) (ha:ak 4 a=true):JI e [a] ((db 5 a).map (·.2)):=by
 have hm:=ri 5 a (by have:=dc ha;omega) (lu (.inr rfl) ha);cases hr:db 5 a with
 |none=>
  rw[hr]at hm;refine⟨bk,by simp,?_⟩;refine ah.ob Tryz.func165 Tryz.ntmps165 rfl ?_;repeat' first|(refine ab (hK _ ?_);clear hK K)|((first|refine ae ?_|refine aa rfl (hm) ?_);simp[hk];(try(refine gen2 ?_ ?_<;>intro hq<;>try simp[hk]at hq)))|(refine T.ret (aB.a8 (Or.inr rfl) ?_)<;>simp[aA,Tryz.results165]<;>omega)|refine T.r0 fun K hK=>?_|refine T.ct rfl ?_|refine T.cf rfl ?_|refine T.seq ?_|refine T.block ?_
 |some p=>
  obtain⟨x,y⟩:=p;rw[hr]at hm;refine⟨(x,y).2,by simp,?_⟩;dsimp only at hm⊢;refine ah.ob Tryz.func165 Tryz.ntmps165 rfl ?_;repeat' first|(refine ab (hK _ ?_);clear hK K)|((first|refine ae ?_|refine aa rfl (hm) ?_);simp[hk];(try(refine gen2 ?_ ?_<;>intro hq<;>try simp[hk]at hq)))|(refine T.ret (aB.a8 (Or.inr rfl) ?_)<;>simp[aA,Tryz.results165]<;>omega)|refine T.r0 fun K hK=>?_|refine T.ct rfl ?_|refine T.cf rfl ?_|refine T.seq ?_|refine T.block ?_
theorem N4 (e:ao) (a:aI) (hk:e.kind=13) (ha:ak 4 a=true) (he:ak 4 e.ty=true):JI e [a] (if aG a e.ty=true then some e.ty else none):=by
 have h1:=bY e.ty (by have:=dc he;omega);have h2:=c7 4 a e.ty (by omega) ha he;refine⟨e.ty,?_,?_⟩
 ·intro t h;split at h<;>simp at h;exact h
 rw[show(if aG a e.ty=true then some e.ty else none).isSome=aG a e.ty by cases aG a e.ty<;>rfl];generalize aG a e.ty=c at h2⊢;refine ah.ob Tryz.func165 Tryz.ntmps165 rfl ?_;repeat' first|((first|refine ab (hK _ ?_)|refine aD (hK _ ?_));clear hK K)|((first|refine ae ?_|refine aH ?_|refine aa rfl (h1) ?_|refine aa rfl (h2) ?_);simp[hk];(try(refine gen2 ?_ ?_<;>intro hq<;>try simp[hk]at hq)))|(refine T.ret (aB.a8 (Or.inr rfl) ?_)<;>simp[aA,Tryz.results165, *]<;>omega)|refine T.rd (id:=22) mixed (fun _=>false) [9] (by kernel_rfl) fun K hK=>?_|refine T.r0 fun K hK=>?_|refine T.ct rfl ?_|refine T.cf rfl ?_|refine T.seq ?_|refine T.block ?_
theorem Bs (ctx:List dF) (e:ao) (ts:List aI) (hk:5<e.kind/\e.kind<14) (hlen:(ts.length:Int)=cm e.kind) (bZ:∀u∈ts,ak 4 u=true) (he:cg e.kind=true->ak 4 e.ty=true):
  JI e ts (dp ctx e.kind e.name e.ty ts):=by
 have C2:e.kind=6\/e.kind=7\/e.kind=8\/e.kind=9\/e.kind=10\/e.kind=11\/e.kind=12\/e.kind=13:=by omega
 rcases C2 with h|h|h|h|h|h|h|h
 ·rw[h]at hlen
  match ts,hlen with
  |[a,b],_=>
   have e1:dp ctx e.kind e.name e.ty [a,b]=(match db 4 a with|some (x,y)=>if aG b x=true then some y else none|none=>none):=by rw[h];rfl
   rw[e1];exact Rb e a b h (bZ a (by simp)) (bZ b (by simp))
 ·rw[h]at hlen
  match ts,hlen with
  |[a,b],_=>have:=Rc e a b h (bZ a (by simp)) (bZ b (by simp));simpa[dp,h]using this
 ·rw[h]at hlen
  match ts,hlen with
  |[a,b],_=>have:=Rd e a b h (bZ a (by simp)) (bZ b (by simp));simpa[dp,h]using this
 ·rw[h]at hlen
  match ts,hlen with
  |[a,b,c],_=>have:=Re e a b c h (bZ a (by simp)) (bZ b (by simp)) (bZ c (by simp));simpa[dp,h]using this
 ·rw[h]at hlen
  match ts,hlen with
  |[a,b],_=>have:=N1 e a b h (bZ a (by simp)) (bZ b (by simp));simpa[dp,h]using this
 ·rw[h]at hlen
  match ts,hlen with
  |[a],_=>have:=N2 e a h (bZ a (by simp));simpa[dp,h]using this
 ·rw[h]at hlen
  match ts,hlen with
  |[a],_=>have:=N3 e a h (bZ a (by simp));simpa[dp,h]using this
 ·rw[h]at hlen
  match ts,hlen with
  |[a],_=>have:=N4 e a h (bZ a (by simp)) (he (by simp[cg,h]));simpa[dp,h]using this
def I2 (ctx:List dF) (e:ao):Prop:=∃t',(∀t,eM ctx e=some t->t'=t)/\ah YI 146 [.l (ctx.map iE),cM e] [] (.a8 [dE t',.b (eM ctx e).isSome]) [] []
theorem Bt (ctx:List dF) (e:ao) (hl:ctx.length<=1099511627776) (hc:iF ctx) (hlen:cm e.kind=e.kids.length) (hk:e.kind=1\/e.kind=2\/e.kind=3\/e.kind=4):I2 ctx e:=by
 have la:e.kids=[]:=by
  have:e.kids.length=0:=by
   rcases hk with h|h|h|h<;>rw[h]at hlen<;>simp[cm]at hlen<;>omega
  exact List.eq_nil_of_length_eq_zero this
 have ht:eM ctx e=dp ctx e.kind e.name e.ty []:=by rw[na,la];simp[ez]
 simp only[I2,ht];have h3:=nc;have h4:=nf;rcases hk with h|h|h|h
 ·have ld:=yR ctx e.name hl (fun b hb=>by have:=dc (hc b hb);omega);rw[show dp ctx e.kind e.name e.ty []=dY ctx e.name by simp[dp,h]];cases hr:dY ctx e.name with
  |none=>
   rw[hr]at ld;refine⟨bk,by simp,?_⟩;dsimp only at ld⊢;refine ah.ob Tryz.func146 Tryz.ntmps146 rfl ?_;repeat' first|(refine ab (hK _ ?_);clear hK K)|((first|refine ae ?_|refine aa rfl (ld) ?_);simp[h];(try(refine gen2 ?_ ?_<;>intro hq<;>try simp[h]at hq)))|(refine T.ret (aB.a8 (Or.inr rfl) ?_)<;>simp[aA,Tryz.results146]<;>omega)|refine T.r0 fun K hK=>?_|refine T.ct rfl ?_|refine T.seq ?_|refine T.block ?_
  |some t=>
   rw[hr]at ld;refine⟨t,by simp,?_⟩;dsimp only at ld⊢;refine ah.ob Tryz.func146 Tryz.ntmps146 rfl ?_;repeat' first|(refine ab (hK _ ?_);clear hK K)|((first|refine ae ?_|refine aa rfl (ld) ?_);simp[h];(try(refine gen2 ?_ ?_<;>intro hq<;>try simp[h]at hq)))|(refine T.ret (aB.a8 (Or.inr rfl) ?_)<;>simp[aA,Tryz.results146]<;>omega)|refine T.r0 fun K hK=>?_|refine T.ct rfl ?_|refine T.seq ?_|refine T.block ?_
 ·refine⟨bw,by simp[dp,h],?_⟩;rw[show(dp ctx e.kind e.name e.ty []).isSome=true by simp[dp,h]];refine ah.ob Tryz.func146 Tryz.ntmps146 rfl ?_;repeat' first|(refine ab (hK _ ?_);clear hK K)|((first|refine ae ?_|refine aa rfl (h3) ?_);simp[h];(try(refine gen2 ?_ ?_<;>intro hq<;>try simp[h]at hq)))|(refine T.ret (aB.a8 (Or.inr rfl) ?_)<;>simp[aA,Tryz.results146]<;>omega)|refine T.r0 fun K hK=>?_|refine T.ct rfl ?_|refine T.cf rfl ?_|refine T.seq ?_|refine T.block ?_
 ·refine⟨cF,by simp[dp,h],?_⟩;rw[show(dp ctx e.kind e.name e.ty []).isSome=true by simp[dp,h]];refine ah.ob Tryz.func146 Tryz.ntmps146 rfl ?_;repeat' first|(refine ab (hK _ ?_);clear hK K)|((first|refine ae ?_|refine aa rfl (h4) ?_);simp[h];(try(refine gen2 ?_ ?_<;>intro hq<;>try simp[h]at hq)))|(refine T.ret (aB.a8 (Or.inr rfl) ?_)<;>simp[aA,Tryz.results146]<;>omega)|refine T.r0 fun K hK=>?_|refine T.ct rfl ?_|refine T.cf rfl ?_|refine T.seq ?_|refine T.block ?_|refine T.skip ?_
 ·refine⟨cF,by simp[dp,h],?_⟩;rw[show(dp ctx e.kind e.name e.ty []).isSome=true by simp[dp,h]];refine ah.ob Tryz.func146 Tryz.ntmps146 rfl ?_;repeat' first|(refine ab (hK _ ?_);clear hK K)|((first|refine ae ?_|refine aa rfl (h4) ?_);simp[h];(try(refine gen2 ?_ ?_<;>intro hq<;>try simp[h]at hq)))|(refine T.ret (aB.a8 (Or.inr rfl) ?_)<;>simp[aA,Tryz.results146]<;>omega)|refine T.r0 fun K hK=>?_|refine T.r1 fun K hK=>?_|refine T.ct rfl ?_|refine T.cf rfl ?_|refine T.seq ?_|refine T.block ?_
theorem C3 (ctx:List dF) (e b:ao) (hl:ctx.length<=1099511627776) (hk:e.kind=5) (hb:e.kids=[b]) (zR:ak 4 e.ty=true)
  (hs:∀t,eM (ctx++[dF.mk e.name e.ty]) b=some t->ak 4 t=true) (ih:I2 (ctx++[dF.mk e.name e.ty]) b):I2 ctx e:=by
 have ht:eM ctx e=match eM (ctx++[dF.mk e.name e.ty]) b with|some t=>r9 4 e.ty t|none=>none:=by
  rw[na,hb];simp only[cx,hk,ez,if_true];cases eM (ctx++[dF.mk e.name e.ty]) b with
  |none=>rfl
  |some t=>simp[dp]
 obtain⟨t',h1,h2⟩:=ih;have hm:=yS ctx e.name e.ty hl;generalize ctx++[dF.mk e.name e.ty]=ctx' at*;simp only[I2,ht];cases hr:eM ctx' b with
 |none=>
  rw[hr]at h2;refine⟨bk,by simp,?_⟩;dsimp only[Option.isSome]at h2⊢;refine ah.ob Tryz.func146 Tryz.ntmps146 rfl ?_;repeat' first|((first|refine ab (hK _ ?_)|refine bj (hK _ ?_));clear hK K)|((first|refine ae ?_|refine bB ?_|refine aa rfl (hm) ?_|refine aa rfl (h2) ?_);simp[hk,hb];(try(refine gen2 ?_ ?_<;>intro hq<;>try simp[hk,hb]at hq)))|(refine T.ret (aB.a8 (Or.inr rfl) ?_)<;>simp[aA,Tryz.results146]<;>omega)|refine T.mL (id:=10) mixed (fun _=>false) [14,15] [2,4,5,7,8,9,10] 15 [] (by kernel_rfl) fun K hK=>?_|(refine⟨?_,?_⟩;(focus(intros;refine aa rfl (hm) ?_;simp;done)))|(refine⟨?_,?_⟩;(focus(intros;refine aa rfl (h2) ?_;simp;done)))|refine T.r0 fun K hK=>?_|refine T.r1 fun K hK=>?_|refine T.ct rfl ?_|refine T.cf rfl ?_|refine T.seq ?_|refine T.block ?_
 |some t=>
  rw[hr]at h2;obtain rfl:=h1 t hr;have SY:=Bq 4 e.ty t' (by have:=dc zR;omega) (by have:=dc (hs t' hr);omega);refine⟨.mk 4 [e.ty,t'],?_,?_⟩
  ·intro u h;simp only[r9]at h;split at h<;>simp at h;exact h
  simp only[YT]at h2;dsimp only;rw[show(r9 4 e.ty t').isSome=ak 4 (.mk 4 [e.ty,t']) by simp only[r9];split<;>simp[*]];generalize ak 4 (.mk 4 [e.ty,t'])=c at SY;refine ah.ob Tryz.func146 Tryz.ntmps146 rfl ?_;repeat' first|((first|refine ab (hK _ ?_)|refine bj (hK _ ?_));clear hK K)|((first|refine ae ?_|refine bB ?_|refine aa rfl (hm) ?_|refine aa rfl (h2) ?_|refine aa rfl (SY) ?_);simp[hk,hb];(try(refine gen2 ?_ ?_<;>intro hq<;>try simp[hk,hb]at hq)))|(refine T.ret (aB.a8 (Or.inr rfl) ?_)<;>simp[aA,Tryz.results146,aJ]<;>omega)|refine T.mL (id:=10) mixed (fun _=>false) [14,15] [2,4,5,7,8,9,10] 15 [] (by kernel_rfl) fun K hK=>?_|(refine⟨?_,?_⟩;(focus(intros;refine aa rfl (hm) ?_;simp;done)))|(refine⟨?_,?_⟩;(focus(intros;refine aa rfl (h2) ?_;simp;done)))|refine T.r0 fun K hK=>?_|refine T.r1 fun K hK=>?_|refine T.ct rfl ?_|refine T.cf rfl ?_|refine T.seq ?_|refine T.block ?_|refine T.skip ?_
theorem uS (ctx:List dF) (e:ao) (R:Option (List aI)) (t':aI) (ok:Bool) (hl:ctx.length<=1099511627776) (hk:5<e.kind/\e.kind<14) (hlen:e.kids.length<=3) (hR:ez ctx e.kids=R)
  (hs:∀u∈e.kids,∀t,eM ctx u=some t->ak 4 t=true) (ih:∀u∈e.kids,I2 ctx u) (N5:R=none->t'=bk/\ok=false)
  (N6:∀ts,R=some ts->(∀u∈ts,ak 4 u=true)->ah YI 165 [cM e,.l (ts.map ck)] [] (.a8 [dE t',.b ok]) [] []):
  ah YI 146 [.l (ctx.map iE),cM e] [] (.a8 [dE t',.b ok]) [] []:=by
 have jn:¬e.kind=1:=by omega
 have ku:¬e.kind=2:=by omega
 have M4:¬e.kind=3:=by omega
 have ng:¬e.kind=4:=by omega
 have nh:¬e.kind=5:=by omega
 refine ah.ob Tryz.func146 Tryz.ntmps146 rfl ?_;repeat' first|(refine ab (hK _ ?_);clear hK K)|(refine ae ?_;simp[jn,ku,M4,ng,nh];(try(refine gen2 ?_ ?_<;>intro hq<;>try simp[jn,ku,M4,ng,nh]at hq)))|refine T.rs (id:=14) (fun i=>i==0) fun K hK=>?_|refine T.rs (id:=0) (fun _=>false) fun K hK=>?_|refine T.rs (id:=1) (fun _=>false) fun K hK=>?_|refine T.rs (id:=2) (fun _=>false) fun K hK=>?_|refine T.rs (id:=4) (fun _=>false) fun K hK=>?_|refine T.rs (id:=6) (fun _=>false) fun K hK=>?_|refine T.eQ (id:=7) (fun _=>false) fun K hK=>?_|refine T.rs (id:=9) (fun _=>false) fun K hK=>?_|refine T.rs (id:=15) (fun _=>false) fun K hK=>?_|refine T.cf rfl ?_|refine T.seq ?_|refine T.block ?_|refine T.skip ?_
 refine T.fW (fun x:Nat×List aI×List (List CV)=>⟨[(0,.l (ctx.map iE)),(3,.c (.ptr 0 0)),(4,.c (.ptr 1 0)),(8,.c (.own 0 x.1)),(9,.i x.1)],(cM e).cells::[.d (.i 0),.nil]::x.2.2,[{sz:=2,ev:=25,rows:=x.2.1.map ck,wr:=true}]⟩) (fun x=>e.kids.length+1-x.1) (fun x=>x.1<=e.kids.length/\x.2.1.length=x.1/\(∀u∈x.2.1,ak 4 u=true)/\(ez ctx (e.kids.drop x.1)).map (x.2.1++·)=R) (fun x hx=>?_) (0,[],[]) (by simp[hR]) (by simp);obtain⟨p,ts,G⟩:=x;obtain⟨hi,hp,jY,he⟩:=hx;dsimp only at hi hp jY he⊢;by_cases ay:p<e.kids.length
 ·obtain⟨u,ht⟩:=bM ay;have eA:u∈e.kids:=YM ht;have aX:e.kids[p]=u:=by rw[YL ay]at ht;exact Option.some.inj ht
  have gz:e.kids.drop p=u::e.kids.drop (p+1):=by rw[YN ay,aX]
  obtain⟨tu,h1,h2⟩:=ih u eA;have UL:=hs u eA;rw[gz]at he;simp only[ez]at he;cases hb:eM ctx u with
  |none=>
   rw[hb]at h2 he;simp only[YU]at h2;obtain⟨rfl,rfl⟩:=N5 (by simpa using he.symm);repeat' first|(refine ab (hK _ ?_);clear hK K)|((first|refine ae ?_|refine aa rfl (h2) ?_);simp[ay,aX,hp];(try simp(disch:=omega)only[wrap64]);(try(refine gen2 ?_ ?_<;>intro hq<;>try simp[ay,aX,hp]at hq)))|(refine T.ret (aB.a8 (Or.inr rfl) ?_)<;>simp[aA,Tryz.results146]<;>omega)|refine T.rs (id:=16) (fun _=>false) fun K hK=>?_|refine T.rs (id:=18) (fun _=>false) fun K hK=>?_|refine T.rs (id:=19) (fun _=>false) fun K hK=>?_|refine T.rs (id:=20) (fun _=>false) fun K hK=>?_|refine T.ct rfl ?_|refine T.seq ?_|refine T.block ?_|refine T.skip ?_
  |some t=>
   obtain rfl:=h1 t hb;rw[hb]at h2 he;simp only[YT]at h2;have KW:(ez ctx (e.kids.drop (p+1))).map ((ts++[tu])++·)=R:=by
    rw[<-he];cases ez ctx (e.kids.drop (p+1))<;>simp
   have Rf:∀v∈ts++[tu],ak 4 v=true:=fun v hv=>by
    rcases YS.1 hv with h|h
    ·exact jY v h
    ·simp at h;subst h;exact UL _ hb
   repeat' first|(refine ab (hK _ ?_);clear hK K)|((first|refine ae ?_|refine aa rfl (h2) ?_);simp[ay,aX,hp];(try simp(disch:=omega)only[wrap64]);(try(refine gen2 ?_ ?_<;>intro hq<;>try simp[ay,aX,hp]at hq)))|(refine⟨by omega,by omega,?_⟩)|(refine⟨(p+1,ts++[tu],_),by dsimp only;omega,⟨by dsimp only;omega,by simp[hp],Rf,KW⟩,rfl,?_,?_⟩<;>simp(disch:=omega) [wrap64,aJ])|refine T.rs (id:=16) (fun _=>false) fun K hK=>?_|refine T.rs (id:=18) (fun _=>false) fun K hK=>?_|refine T.rs (id:=19) (fun _=>false) fun K hK=>?_|refine T.eQ (id:=21) (fun _=>false) fun K hK=>?_|refine T.eQ (id:=17) (fun _=>false) fun K hK=>?_|refine T.ct rfl ?_|refine T.cf rfl ?_|refine T.seq ?_|refine T.block ?_|refine T.skip ?_
 ·have fa:p=e.kids.length:=by omega
  subst fa;simp[ez]at he;have dZ:=N6 ts he.symm jY;repeat' first|(refine ab (hK _ ?_);clear hK K)|((first|refine ae ?_|(refine aa ?_ (dZ) ?_;(focus(solve|simp[ay,hp]))));simp[ay,hp];(try(refine gen2 ?_ ?_<;>intro hq<;>try simp[ay,hp]at hq)))|(refine T.ret (aB.a8 (Or.inr rfl) ?_)<;>simp[aA,Tryz.results146]<;>omega)|refine T.rs (id:=16) (fun _=>false) fun K hK=>?_|refine T.rs (id:=22) (fun _=>false) fun K hK=>?_|refine T.cf rfl ?_|refine T.seq ?_|refine T.exit ?_
theorem Bu (ctx:List dF) (e:ao) (hl:ctx.length<=1099511627776) (hk:5<e.kind/\e.kind<14) (hlen:cm e.kind=e.kids.length) (zR:cg e.kind=true->ak 4 e.ty=true)
  (hs:∀u∈e.kids,∀t,eM ctx u=some t->ak 4 t=true) (ih:∀u∈e.kids,I2 ctx u):I2 ctx e:=by
 have nh:¬e.kind=5:=by omega
 have VP:=sd e.kind;have ht:eM ctx e=(ez ctx e.kids).bind (dp ctx e.kind e.name e.ty):=by
  rw[na,cx,if_neg nh];cases ez ctx e.kids<;>rfl
 simp only[I2,ht];cases hr:ez ctx e.kids with
 |none=>
  refine⟨bk,by simp,?_⟩;exact uS ctx e none bk false hl hk (by omega) hr hs ih (fun _=>⟨rfl,rfl⟩) (fun ts h=>by simp at h)
 |some ts=>
  have ay:=wx hr;have Rg:∀u∈ts,ak 4 u=true:=by
   have hl:∀(l:List ao) (ts:List aI),(∀u∈l,u∈e.kids)->ez ctx l=some ts->∀u∈ts,ak 4 u=true:=by
    intro l;induction l with
    |nil=>intro ts _ h;simp[ez]at h;subst h;simp
    |cons x r ihl=>
     intro ts hm h;simp only[ez]at h;split at h
     ·simp at h
     ·rename_i tx QV;split at h
      ·simp at h
      ·rename_i us NO;simp at h;subst h;intro u hu;simp only[List.mem_cons]at hu;rcases hu with rfl|hu
       ·exact hs x (hm x (by simp)) _ QV
       ·exact ihl us (fun v hv=>hm v (by simp[hv])) NO u hu
   exact hl e.kids ts (fun _ h=>h) hr
  obtain⟨t',h1,h2⟩:=Bs ctx e ts hk (by rw[ay];exact hlen.symm) Rg zR;refine⟨t',by simpa using h1,?_⟩;rw[show((some ts).bind (dp ctx e.kind e.name e.ty))=dp ctx e.kind e.name e.ty ts from rfl];exact uS ctx e (some ts) t' _ hl hk (by omega) hr hs ih (fun h=>by simp at h) (fun us h _=>by simp at h;subst h;exact h2)
theorem Bv (k:Int) (n:Nat) (h:cm k=n):0<k/\k<15:=by
 simp only[cm]at h;split at h
 ·omega
 ·split at h
  ·omega
  ·split at h
   ·omega
   ·split at h<;>omega
theorem Fq:∀(e:ao) (d:Nat) (ctx:List dF),bm 14 d e=true->ctx.length+d<=1099511627776->iF ctx->I2 ctx e:=by
 intro e;induction e using ao.ind with
 |h e ih=>
  intro d ctx hs hl hc;obtain⟨d',rfl,di,hlen,dQ,jb⟩:=fQ hs;have hb:=Bv e.kind _ hlen;by_cases h5:e.kind=5
  ·have zR:ak 4 e.ty=true:=hM dQ (by simp[cg,h5]);have Hv:e.kids.length=1:=by rw[h5]at hlen;simp[cm]at hlen;omega
   match hk:e.kids,Hv with
   |[b],_=>
    have N7:b∈e.kids:=by simp[hk]
    have AP:iF (ctx++[dF.mk e.name e.ty]):=by
     intro x hx;rcases YS.1 hx with h|h
     ·exact hc x h
     ·simp at h;subst h;exact zR
    exact C3 ctx e b (by omega) h5 hk zR (fun t h=>gI b d' 14 _ t (jb b N7) AP h) (ih b N7 d' _ (jb b N7) (by simp;omega) AP)
  ·by_cases SZ:e.kind<5
   ·exact Bt ctx e (by omega) hc hlen (by omega)
   ·exact Bu ctx e (by omega) ⟨by omega,by omega⟩ hlen (hM dQ) (fun u hu t h=>gI u d' 14 ctx t (jb u hu) hc h) (fun u hu=>ih u hu d' ctx (jb u hu) (by omega) hc)
def b5 (ctx:List dF) (e:ao):Option aI:=if rf ctx=true/\aQ e=true then eM ctx e else none
abbrev fY:Option aI->List AV
 |some t=>[dE t,.b true]
 |none=>[dE bk,.b false]
theorem C4 (ctx:List dF) (e:ao) (hl:ctx.length<=1073741824) (CB:∀b∈ctx,fA b.ty<=1099511627776) (hn:eR e<=1099511627776):ah YI 118 [.l (ctx.map iE),cM e] [] (.a8 (fY (b5 ctx e))) [] []:=by
 have h1:=zT ctx (by omega) CB;have h2:=iH e hn;cases hc:rf ctx with
 |false=>
  rw[show b5 ctx e=none by simp[b5,hc]];rw[hc]at h1;refine ah.ob Tryz.func118 Tryz.ntmps118 rfl ?_;repeat' first|(refine ab (hK _ ?_);clear hK K)|((first|refine ae ?_|refine aa rfl (h1) ?_);simp;(try(refine gen2 ?_ ?_<;>intro hq<;>try simp at hq)))|(refine T.ret (aB.a8 (Or.inr rfl) ?_)<;>simp[aA,Tryz.results118]<;>omega)|refine T.r0 fun K hK=>?_|refine T.ct rfl ?_|refine T.seq ?_
 |true=>
  rw[hc]at h1;cases hv:aQ e with
  |false=>
   rw[show b5 ctx e=none by simp[b5,hv]];rw[hv]at h2;refine ah.ob Tryz.func118 Tryz.ntmps118 rfl ?_;repeat' first|(refine ab (hK _ ?_);clear hK K)|((first|refine ae ?_|refine aa rfl (h1) ?_|refine aa rfl (h2) ?_);simp;(try(refine gen2 ?_ ?_<;>intro hq<;>try simp at hq)))|(refine T.ret (aB.a8 (Or.inr rfl) ?_)<;>simp[aA,Tryz.results118]<;>omega)|refine T.r0 fun K hK=>?_|refine T.ct rfl ?_|refine T.seq ?_
  |true=>
   rw[hv]at h2;have eP:iF ctx:=fun b hb=>by
    simp only[rf,YK,List.all_eq_true]at hc;exact(hc.1 b hb).2
   have jY:bm 14 12 e=true:=by simp only[aQ,YK]at hv;exact hv.1
   obtain⟨t',h3,h4⟩:=Fq e 12 ctx jY (by omega) eP;rw[show b5 ctx e=eM ctx e by simp[b5,hc,hv]];cases hr:eM ctx e with
   |none=>
    rw[hr]at h4;have h5:=yQ t' false;simp only[YU]at h4;refine ah.ob Tryz.func118 Tryz.ntmps118 rfl ?_;repeat' first|(refine ab (hK _ ?_);clear hK K)|((first|refine ae ?_|refine aa rfl (h1) ?_|refine aa rfl (h2) ?_|refine aa rfl (h4) ?_|refine aa rfl (h5) ?_);simp;(try(refine gen2 ?_ ?_<;>intro hq<;>try simp at hq)))|(refine T.ret (aB.a8 (Or.inr rfl) ?_)<;>simp[aA,Tryz.results118]<;>omega)|refine T.r0 fun K hK=>?_|refine T.cf rfl ?_|refine T.seq ?_|refine T.skip ?_
   |some t=>
    obtain rfl:=h3 t hr;rw[hr]at h4;have h5:=yQ t' true;simp only[YT]at h4;refine ah.ob Tryz.func118 Tryz.ntmps118 rfl ?_;repeat' first|(refine ab (hK _ ?_);clear hK K)|((first|refine ae ?_|refine aa rfl (h1) ?_|refine aa rfl (h2) ?_|refine aa rfl (h4) ?_|refine aa rfl (h5) ?_);simp;(try(refine gen2 ?_ ?_<;>intro hq<;>try simp at hq)))|(refine T.ret (aB.a8 (Or.inr rfl) ?_)<;>simp[aA,Tryz.results118]<;>omega)|refine T.r0 fun K hK=>?_|refine T.cf rfl ?_|refine T.seq ?_|refine T.skip ?_
theorem C5 (e:ao) (hn:eR e<=1099511627776):ah YI 70 [cM e] [] (.a8 (fY (b5 [] e))) [] []:=by
 have h:=C4 [] e (by simp) (by simp) hn;cases hr:b5 [] e with
 |none=>
  rw[hr]at h;refine ah.ob Tryz.func70 Tryz.ntmps70 rfl ?_;repeat' first|(refine ab (hK _ ?_);clear hK K)|((first|refine ae ?_|(refine aa ?_ (h) ?_;(focus(solve|simp))));simp)|(refine T.ret (aB.a8 (Or.inr rfl) ?_)<;>simp[aA,Tryz.results70]<;>omega)|refine T.r0 fun K hK=>?_
 |some t=>
  rw[hr]at h;refine ah.ob Tryz.func70 Tryz.ntmps70 rfl ?_;repeat' first|(refine ab (hK _ ?_);clear hK K)|((first|refine ae ?_|(refine aa ?_ (h) ?_;(focus(solve|simp))));simp)|(refine T.ret (aB.a8 (Or.inr rfl) ?_)<;>simp[aA,Tryz.results70]<;>omega)|refine T.r0 fun K hK=>?_
end Go.Proofs.YtloolmchekcmeaaGreat
