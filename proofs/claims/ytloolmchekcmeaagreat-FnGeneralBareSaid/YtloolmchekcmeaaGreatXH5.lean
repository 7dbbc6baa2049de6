/- A part. -/
import Derived.Test.YtloolmchekcmeaaGreatXH4
import Derived.Test.YtloolmchekcmeaaGreatChecked
set_option linter.unusedVariables false
set_option linter.unusedSimpArgs false
open Go.Proofs.Tryz renaming prog->US
open Bool renaming not_eq_true->UT
open List renaming getElem?_eq_getElem->UU,mem_of_getElem?->UW,drop_eq_getElem_cons->UX,drop_length->UY,take_add_one->UZ,all_cons->U0
namespace Go.Proofs.YtloolmchekcmeaaGreat
attribute [-simp] Go.Av.fX Go.Av.e7 Go.Av.fY Go.Av.e8 Go.Av.cW Go.Av.rh Go.Av.eU Go.Av.fP Go.Av.b7 Go.Av.fb Go.Av.bQ Go.Av.bw Go.Av.back Go.Av.ev Go.Av.one
open Go Go.Av
attribute [local irreducible] T
attribute [local simp] aX ax
@[simp] theorem cm:td US 3=some {ag:=false,sz:=1,jy:=8,zero:=some [.d (.int .i64 0)],el:=none,ar:=none,fl:=[],ik:=some .i64,cG:=false,kJ:=false}:=di (by kernel_rfl)
@[simp] theorem Lv:td US 4=some {ag:=false,sz:=1,jy:=1,zero:=some [.d (.bool false)],el:=none,ar:=none,fl:=[],ik:=none,cG:=false,kJ:=true}:=di (by kernel_rfl)
@[simp] theorem bI:td US 9=some {ag:=false,sz:=1,jy:=16,zero:=some [.d (.str [])],el:=none,ar:=none,fl:=[],ik:=none,cG:=true,kJ:=false}:=di (by kernel_rfl)
@[simp] theorem Ft:td US 36=some {ag:=false,sz:=1,jy:=24,zero:=some [.nil],el:=some 38,ar:=none,fl:=[],ik:=none,cG:=false,kJ:=false}:=di (by kernel_rfl)
@[simp] theorem GF:td US 38=some {ag:=true,sz:=2,jy:=32,zero:=some [.d (.int .i64 0),.nil],el:=none,ar:=none,fl:=[(0,1),(1,1)],ik:=none,cG:=false,kJ:=false}:=di (by kernel_rfl)
@[simp] theorem Fu:td US 39=some {ag:=false,sz:=1,jy:=24,zero:=some [.nil],el:=some 41,ar:=none,fl:=[],ik:=none,cG:=false,kJ:=false}:=di (by kernel_rfl)
@[simp] theorem GG:td US 41=some {ag:=true,sz:=9,jy:=128,zero:=some [.d (.int .i64 0),.d (.str []),.d (.int .i64 0),.d (.int .i64 0),.nil,.d (.int .i64 0),.nil,.d (.int .i64 0),.nil],el:=none,ar:=none,fl:=[(0,1),(1,1),(2,1),(3,2),(5,2),(7,1),(8,1)],ik:=none,cG:=false,kJ:=false}:=di (by kernel_rfl)
@[simp] theorem Fv:td US 23=some {ag:=false,sz:=1,jy:=24,zero:=some [.nil],el:=some 25,ar:=none,fl:=[],ik:=none,cG:=false,kJ:=false}:=di (by kernel_rfl)
@[simp] theorem GH:td US 25=some {ag:=true,sz:=2,jy:=32,zero:=some [.d (.int .i64 0),.nil],el:=none,ar:=none,fl:=[(0,1),(1,1)],ik:=none,cG:=false,kJ:=false}:=di (by kernel_rfl)
@[simp] theorem Fw:td US 26=some {ag:=false,sz:=1,jy:=24,zero:=some [.nil],el:=some 28,ar:=none,fl:=[],ik:=none,cG:=false,kJ:=false}:=di (by kernel_rfl)
@[simp] theorem GI:td US 28=some {ag:=true,sz:=9,jy:=128,zero:=some [.d (.int .i64 0),.d (.str []),.d (.int .i64 0),.d (.int .i64 0),.nil,.d (.int .i64 0),.nil,.d (.int .i64 0),.nil],el:=none,ar:=none,fl:=[(0,1),(1,1),(2,1),(3,2),(5,2),(7,1),(8,1)],ik:=none,cG:=false,kJ:=false}:=di (by kernel_rfl)
theorem mixed:Tryz.prog.follows .mixedOrders=true:=by kernel_rfl
end Go.Proofs.YtloolmchekcmeaaGreat
namespace Go.Proofs.YtloolmchekcmeaaGreat
attribute [-simp] Go.Av.cW Go.Av.rh Go.Av.eU Go.Av.fP Go.Av.b7 Go.Av.fb Go.Av.bQ Go.Av.bw Go.Av.back Go.Av.ev Go.Av.one
open Go Go.Av
attribute [local irreducible] T
attribute [local simp] aX ax
theorem tE (x lo hi:Int):ah US 151 [.i x,.i lo,.i hi] [] (.b (kK x lo hi)) [] []:=by
 refine ah.ob Tryz.func151 Tryz.ntmps151 rfl ?_;repeat' first|(refine ab (hK _ ?_);clear hK K)|(refine ae ?_;simp;(try(refine gen fun q hq=>?_;cases q<;>(try simp at hq))))|refine T.r0 fun K hK=>?_|refine T.r1 fun K hK=>?_|refine T.cond rfl (fun hc=>?_) (fun hc=>absurd hc (by decide))|refine T.cond rfl (fun hc=>absurd hc (by decide)) (fun hc=>?_)|refine T.seq ?_|refine T.block ?_|refine T.skip ?_|refine T.exit ?_
 all_goals(refine T.ret (aG.data (Or.inr rfl) ?_ ?_)<;>simp[Tryz.results151,kK, *]<;>omega)
theorem BR (s:List UInt8):ah US 141 [.s s] [] (.b (dL s)) [] []:=by
 refine ah.ob Tryz.func141 Tryz.ntmps141 rfl ?_
 match s with
 |[]=>
  repeat' first|(refine ab (hK _ ?_);clear hK K)|(refine ae ?_;simp;(try(refine gen fun q hq=>?_;cases q<;>(try simp at hq))))|refine T.r0 fun K hK=>?_|refine T.r1 fun K hK=>?_|refine T.cond rfl (fun hc=>?_) (fun hc=>absurd hc (by decide))|refine T.cond rfl (fun hc=>absurd hc (by decide)) (fun hc=>?_)|refine T.seq ?_|refine T.block ?_|refine T.skip ?_|refine T.exit ?_
  all_goals(refine T.ret (aG.data (Or.inr rfl) ?_ ?_)<;>simp[Tryz.results141,dL])
 |[c]=>
  repeat' first|(refine ab (hK _ ?_);clear hK K)|(refine ae ?_;simp;(try(refine gen fun q hq=>?_;cases q<;>(try simp at hq))))|refine T.r0 fun K hK=>?_|refine T.r1 fun K hK=>?_|refine T.cond rfl (fun hc=>?_) (fun hc=>absurd hc (by decide))|refine T.cond rfl (fun hc=>absurd hc (by decide)) (fun hc=>?_)|refine T.seq ?_|refine T.block ?_|refine T.skip ?_|refine T.exit ?_
  all_goals(refine T.ret (aG.data (Or.inr rfl) ?_ ?_)<;>simp[Tryz.results141,dL, *]<;>omega)
 |c::d::r=>
  have h2:¬((r.length:Int)+1+1=1):=by omega
  repeat' first|(refine ab (hK _ ?_);clear hK K)|(refine ae ?_;simp[h2,AM h2];(try(refine gen fun q hq=>?_;cases q<;>(try simp[h2]at hq))))|refine T.r0 fun K hK=>?_|refine T.r1 fun K hK=>?_|refine T.cond rfl (fun hc=>?_) (fun hc=>absurd hc (by decide))|refine T.cond rfl (fun hc=>absurd hc (by decide)) (fun hc=>?_)|refine T.seq ?_|refine T.block ?_|refine T.skip ?_|refine T.exit ?_
  all_goals(refine T.ret (aG.data (Or.inr rfl) ?_ ?_)<;>simp[Tryz.results141,dL])
theorem BS (s:List UInt8):ah US 156 [.s s] [] (.b (dL s)) [] []:=by
 refine ah.ob Tryz.func156 Tryz.ntmps156 rfl ?_
 match s with
 |[]=>
  repeat' first|(refine ab (hK _ ?_);clear hK K)|(refine ae ?_;simp;(try(refine gen fun q hq=>?_;cases q<;>(try simp at hq))))|refine T.r0 fun K hK=>?_|refine T.r1 fun K hK=>?_|refine T.cond rfl (fun hc=>?_) (fun hc=>absurd hc (by decide))|refine T.cond rfl (fun hc=>absurd hc (by decide)) (fun hc=>?_)|refine T.seq ?_|refine T.block ?_|refine T.skip ?_|refine T.exit ?_
  all_goals(refine T.ret (aG.data (Or.inr rfl) ?_ ?_)<;>simp[Tryz.results156,dL])
 |[c]=>
  repeat' first|(refine ab (hK _ ?_);clear hK K)|(refine ae ?_;simp;(try(refine gen fun q hq=>?_;cases q<;>(try simp at hq))))|refine T.r0 fun K hK=>?_|refine T.r1 fun K hK=>?_|refine T.cond rfl (fun hc=>?_) (fun hc=>absurd hc (by decide))|refine T.cond rfl (fun hc=>absurd hc (by decide)) (fun hc=>?_)|refine T.seq ?_|refine T.block ?_|refine T.skip ?_|refine T.exit ?_
  all_goals(refine T.ret (aG.data (Or.inr rfl) ?_ ?_)<;>simp[Tryz.results156,dL, *]<;>omega)
 |c::d::r=>
  have h2:¬((r.length:Int)+1+1=1):=by omega
  repeat' first|(refine ab (hK _ ?_);clear hK K)|(refine ae ?_;simp[h2,AM h2];(try(refine gen fun q hq=>?_;cases q<;>(try simp[h2]at hq))))|refine T.r0 fun K hK=>?_|refine T.r1 fun K hK=>?_|refine T.cond rfl (fun hc=>?_) (fun hc=>absurd hc (by decide))|refine T.cond rfl (fun hc=>absurd hc (by decide)) (fun hc=>?_)|refine T.seq ?_|refine T.block ?_|refine T.skip ?_|refine T.exit ?_
  all_goals(refine T.ret (aG.data (Or.inr rfl) ?_ ?_)<;>simp[Tryz.results156,dL])
theorem rl (t:aH):ah US 152 [ep t] [] (.b (c6 t)) [] []:=by
 refine ah.ob Tryz.func152 Tryz.ntmps152 rfl ?_;repeat' first|(refine ab (hK _ ?_);clear hK K)|(refine ae ?_;simp;(try(refine gen fun q hq=>?_;cases q<;>(try simp at hq))))|refine T.r0 fun K hK=>?_|refine T.r1 fun K hK=>?_|refine T.cond rfl (fun hc=>?_) (fun hc=>absurd hc (by decide))|refine T.cond rfl (fun hc=>absurd hc (by decide)) (fun hc=>?_)|refine T.seq ?_|refine T.block ?_|refine T.skip ?_|refine T.exit ?_
 all_goals(refine T.ret (aG.data (Or.inr rfl) ?_ ?_)<;>simp[Tryz.results152,c6, *])
theorem vB (t:aH):ah US 157 [ep t] [] (.b (c6 t)) [] []:=by
 refine ah.ob Tryz.func157 Tryz.ntmps157 rfl ?_;repeat' first|(refine ab (hK _ ?_);clear hK K)|(refine ae ?_;simp;(try(refine gen fun q hq=>?_;cases q<;>(try simp at hq))))|refine T.r0 fun K hK=>?_|refine T.r1 fun K hK=>?_|refine T.cond rfl (fun hc=>?_) (fun hc=>absurd hc (by decide))|refine T.cond rfl (fun hc=>absurd hc (by decide)) (fun hc=>?_)|refine T.seq ?_|refine T.block ?_|refine T.skip ?_|refine T.exit ?_
 all_goals(refine T.ret (aG.data (Or.inr rfl) ?_ ?_)<;>simp[Tryz.results157,c6, *])
theorem zD (n:Int):ah US 154 [.i n] [] (.b (zx n)) [] []:=by
 refine ah.ob Tryz.func154 Tryz.ntmps154 rfl ?_;repeat' first|(refine T.rs (fun _=>false) fun K hK=>?_;(repeat (refine ae ?_;simp));refine ab (hK _ ?_);clear hK K)|(refine T.ef (fun _=>false) fun K hK=>?_;(repeat (refine ae ?_;simp));refine ab (hK _ ?_);clear hK K)|refine T.cond rfl (fun hc=>?_) (fun hc=>absurd hc (by decide))|refine T.cond rfl (fun hc=>absurd hc (by decide)) (fun hc=>?_)|refine T.seq ?_|refine T.block ?_|refine T.skip ?_|refine T.exit ?_
 refine T.ef (fun _=>false) fun K hK=>?_
 repeat (refine ae ?_;simp)
 refine aa (by simp) (tE n 1 99) ?_;simp;refine y4.gen fun q hq=>?_
 cases q
 ·repeat (refine ae ?_;simp)
  refine aa (by simp) (tE n (-99) (-1)) ?_;simp;repeat' first|(refine ab (hK _ ?_);clear hK K)|(refine ae ?_;simp;(try(refine gen fun q hq=>?_;cases q<;>(try simp at hq))))|refine T.r0 fun K hK=>?_|refine T.r1 fun K hK=>?_|refine T.cond rfl (fun hc=>?_) (fun hc=>absurd hc (by decide))|refine T.cond rfl (fun hc=>absurd hc (by decide)) (fun hc=>?_)|refine T.seq ?_|refine T.block ?_|refine T.skip ?_|refine T.exit ?_
  all_goals(refine T.ret (aG.data (Or.inr rfl) ?_ ?_)<;>simp[Tryz.results154,zx, *])
 ·repeat' first|(refine ab (hK _ ?_);clear hK K)|(refine ae ?_;simp;(try(refine gen fun q hq=>?_;cases q<;>(try simp at hq))))|refine T.r0 fun K hK=>?_|refine T.r1 fun K hK=>?_|refine T.cond rfl (fun hc=>?_) (fun hc=>absurd hc (by decide))|refine T.cond rfl (fun hc=>absurd hc (by decide)) (fun hc=>?_)|refine T.seq ?_|refine T.block ?_|refine T.skip ?_|refine T.exit ?_
  all_goals(refine T.ret (aG.data (Or.inr rfl) ?_ ?_)<;>simp[Tryz.results154,zx, *])
theorem vC (k:Int):ah US 133 [.i k] [] (.i (cv k)) [] []:=by
 refine ah.ob Tryz.func133 Tryz.ntmps133 rfl ?_;repeat' first|(refine ab (hK _ ?_);clear hK K)|(refine ae ?_;simp;(try(refine gen fun q hq=>?_;cases q<;>(try simp at hq))))|refine T.r0 fun K hK=>?_|refine T.r1 fun K hK=>?_|refine T.cond rfl (fun hc=>?_) (fun hc=>absurd hc (by decide))|refine T.cond rfl (fun hc=>absurd hc (by decide)) (fun hc=>?_)|refine T.seq ?_|refine T.block ?_|refine T.skip ?_|refine T.exit ?_
 all_goals(refine T.ret (aG.data (Or.inr rfl) ?_ ?_)<;>simp[Tryz.results133,cv, *])
@[simp] theorem Lw:td US 77=some {ag:=false,sz:=1,jy:=24,zero:=some [.nil],el:=some 3,ar:=none,fl:=[],ik:=none,cG:=false,kJ:=false}:=di (by kernel_rfl)
theorem yj (k:Int):ah US 150 [.i k] [] (.i (cv k)) [] []:=by
 refine ah.ob Tryz.func150 Tryz.ntmps150 rfl ?_;repeat' first|(refine T.rs (fun _=>false) fun K hK=>?_;(repeat (refine ae ?_;simp));refine ab (hK _ ?_);clear hK K)|(refine T.ef (fun _=>false) fun K hK=>?_;(repeat (refine ae ?_;simp));refine ab (hK _ ?_);clear hK K)|refine T.cond rfl (fun hc=>?_) (fun hc=>absurd hc (by decide))|refine T.cond rfl (fun hc=>absurd hc (by decide)) (fun hc=>?_)|refine T.seq ?_|refine T.block ?_|refine T.skip ?_|refine T.exit ?_
 refine T.ef (fun _=>false) fun K hK=>?_
 repeat (refine ae ?_;simp)
 refine aa (by simp) (tE k 1 14) ?_;simp;by_cases h:kK k 1 14=true
 ·have hr:k=1\/k=2\/k=3\/k=4\/k=5\/k=6\/k=7\/k=8\/k=9\/k=10\/k=11\/k=12\/k=13\/k=14:=by
   simp[kK]at h;omega
  rcases hr with rfl|rfl|rfl|rfl|rfl|rfl|rfl|rfl|rfl|rfl|rfl|rfl|rfl|rfl
  all_goals
   simp[kK]at h;have hw:∀n:Int,0<=n->n<=20->IntKind.i64.wrap n=n:=fun n h1 h2=>wrap64 (by omega) (by omega)
   repeat' first|(refine ab (hK _ ?_);clear hK K)|(refine ae ?_;simp[kK,hw];(try(refine gen fun q hq=>?_;cases q<;>(try simp at hq))))|refine T.r0 fun K hK=>?_|refine T.r1 fun K hK=>?_|refine T.cond rfl (fun hc=>?_) (fun hc=>absurd hc (by decide))|refine T.cond rfl (fun hc=>absurd hc (by decide)) (fun hc=>?_)|refine T.seq ?_|refine T.block ?_|refine T.skip ?_|refine T.exit ?_
   all_goals(refine T.ret (aG.data (Or.inr rfl) ?_ ?_)<;>simp[Tryz.results150,cv])
 ·have hk:cv k=-1:=by
   simp only[kK,UT,Bool.and_eq_false_iff,decide_eq_false_iff_not]at h;have:k<1\/14<k:=by omega
   simp only[cv]
   repeat (rw[if_neg (by omega)])
  simp only[UT]at h;repeat' first|(refine ab (hK _ ?_);clear hK K)|(refine ae ?_;simp[h];(try(refine gen fun q hq=>?_;cases q<;>(try simp at hq))))|refine T.r0 fun K hK=>?_|refine T.r1 fun K hK=>?_|refine T.cond rfl (fun hc=>?_) (fun hc=>absurd hc (by decide))|refine T.cond rfl (fun hc=>absurd hc (by decide)) (fun hc=>?_)|refine T.seq ?_|refine T.block ?_|refine T.skip ?_|refine T.exit ?_
  all_goals(refine T.ret (aG.data (Or.inr rfl) ?_ ?_)<;>simp[Tryz.results150,hk])
end Go.Proofs.YtloolmchekcmeaaGreat
namespace Go.Proofs.YtloolmchekcmeaaGreat
attribute [-simp] Go.Av.cW Go.Av.rh Go.Av.eU Go.Av.fP Go.Av.b7 Go.Av.fb Go.Av.bQ Go.Av.bw Go.Av.back Go.Av.ev Go.Av.one
open Go Go.Av
attribute [local irreducible] T ah cD fZ aH.kind aH.kids an.kind an.name an.num an.ty an.fr an.label an.kids
attribute [local simp] aX ax
set_option maxHeartbeats 4000000
theorem qy (k:Int):ah US 128 [.i k] [] (.i (cx k)) [] []:=by
 refine ah.ob Tryz.func128 Tryz.ntmps128 rfl ?_;repeat' first|(refine ab (hK _ ?_);clear hK K)|(refine ae ?_;simp;(try(refine gen2 ?_ ?_<;>intro hq<;>try simp at hq)))|(refine T.ret (aG.data (Or.inr rfl) ?_ ?_)<;>simp[Tryz.results128,cx, *]<;>omega)|refine T.r0 fun K hK=>?_|refine T.r1 fun K hK=>?_|refine T.ct rfl ?_|refine T.cf rfl ?_|refine T.seq ?_|refine T.block ?_|refine T.skip ?_
theorem tF:∀(d:Nat) (t:aH),d<=1000->iK t<=1099511627776->ah US 143 [ep t,.i d] [] (.b (ay d t)) [] []
 |0,t,_,_=>by
  refine ah.ob Tryz.func143 Tryz.ntmps143 rfl ?_;repeat' first|((first|refine ab (hK _ ?_)|refine aq (hK _ ?_));clear hK K)|((first|refine ae ?_|refine aA ?_);simp;(try(refine gen2 ?_ ?_<;>intro hq<;>(try simp at hq)<;>try(have:True:=hq;clear this hq))))|(refine T.ret (aG.data (Or.inr rfl) ?_ ?_)<;>simp[Tryz.results143,ay]<;>omega)|refine T.r0 fun K hK=>?_|refine T.rd mixed (fun _=>false) [] (by kernel_rfl) fun K hK=>?_|refine T.ct rfl ?_|refine T.seq ?_
 |d+1,t,hd,hn=>by
  rw[hU]at hn;have hlen:=iw t.kids;have ij:¬((d:Int)+1<1):=by omega
  refine ah.ob Tryz.func143 Tryz.ntmps143 rfl ?_;repeat' first|((first|refine ab (hK _ ?_)|refine aq (hK _ ?_));clear hK K)|((first|(first|refine ae ?_|refine aA ?_)|refine aa rfl (qy _) ?_);simp[ij];(try(refine gen2 ?_ ?_<;>intro hq<;>(try simp[ij]at hq)<;>try(have:True:=hq;clear this hq))))|(refine T.ret (aG.data (Or.inr rfl) ?_ ?_)<;>simp[Tryz.results143,ay, *]<;>omega)|refine T.r0 fun K hK=>?_|refine T.rd mixed (fun _=>false) [] (by kernel_rfl) fun K hK=>?_|refine T.ct rfl ?_|refine T.cf rfl ?_|refine T.seq ?_|refine T.block ?_|refine T.skip ?_
  obtain⟨R,hR⟩:∃R,t.kids.all (ay d)=R:=⟨_,rfl⟩;rw[show ay (d+1) t=R by simp[ay,hq,hR]];refine T.gq (fun p:Nat=>⟨[(1,.i (d+1)),(2,.c (.ptr 0 0)),(5,.i p)],[(ep t).cells],[]⟩) (fun p=>t.kids.length+1-p) (fun p=>p<=t.kids.length/\(t.kids.drop p).all (ay d)=R) (fun p hp=>?_) 0 (by simpa using hR) (by simp);obtain⟨hi,he⟩:=hp;by_cases aC:p<t.kids.length
  ·obtain⟨u,ht⟩:=bV aC;have eN:u∈t.kids:=UW ht;have bn:t.kids[p]=u:=by rw[UU aC]at ht;exact Option.some.inj ht
   have iA:t.kids.drop p=u::t.kids.drop (p+1):=by rw[UX aC,bn]
   have hu:=tF d u (by omega) (by have:=iy eN;omega);rw[iA,U0]at he;cases hb:ay d u<;>rw[hb]at hu he
   ·repeat' first|(refine ab (hK _ ?_);clear hK K)|(refine ae ?_;simp[aC,bn];(try simp(disch:=omega)only[wrap64]);(try(refine gen2 ?_ ?_<;>intro hq<;>(try simp[aC,bn]at hq)<;>try(have:True:=hq;clear this hq))))|(refine aa rfl (hu) ?_;simp[aC,bn];(try simp(disch:=omega)only[wrap64]);(try(refine gen2 ?_ ?_<;>intro hq<;>(try simp[aC,bn]at hq)<;>try(have:True:=hq;clear this hq))))|(refine T.ret (aG.data (Or.inr rfl) ?_ ?_)<;>simp[Tryz.results143,<-he]<;>omega)|refine T.r0 fun K hK=>?_|refine T.ct rfl ?_|refine T.seq ?_|refine T.block ?_|refine T.skip ?_
   ·repeat' first|(refine ab (hK _ ?_);clear hK K)|(refine ae ?_;simp[aC,bn];(try simp(disch:=omega)only[wrap64]);(try(refine gen2 ?_ ?_<;>intro hq<;>(try simp[aC,bn]at hq)<;>try(have:True:=hq;clear this hq))))|(refine aa rfl (hu) ?_;simp[aC,bn];(try simp(disch:=omega)only[wrap64]);(try(refine gen2 ?_ ?_<;>intro hq<;>(try simp[aC,bn]at hq)<;>try(have:True:=hq;clear this hq))))|(refine⟨p+1,by dsimp only;omega,⟨by omega,by simpa using he⟩,?_⟩;simp(disch:=omega) [wrap64])|refine T.r0 fun K hK=>?_|refine T.r1 fun K hK=>?_|refine T.ct rfl ?_|refine T.cf rfl ?_|refine T.seq ?_|refine T.block ?_|refine T.skip ?_
  ·have fj:p=t.kids.length:=by omega
   subst fj;simp at he;repeat' first|(refine ab (hK _ ?_);clear hK K)|(refine ae ?_;simp[aC];(try(refine gen2 ?_ ?_<;>intro hq<;>(try simp[aC]at hq)<;>try(have:True:=hq;clear this hq))))|(refine T.ret (aG.data (Or.inr rfl) ?_ ?_)<;>simp[Tryz.results143,he]<;>omega)|refine T.r0 fun K hK=>?_|refine T.cf rfl ?_|refine T.seq ?_|refine T.exit ?_
theorem uX (f:FuncId) (d:DV) (l:List aH) (q:aH->Bool) (hl:l.length<=4611686018427387904) (hf:∀t∈l,ah US f [ep t,.c (.ptr 0 0)] (dV [[d]]) (.b (q t)) (dV [[d]]) []):
  ah US 115 [.l (l.map cD),.c (.fn f [0])] (dV [[d]]) (.i (hP q l 0)) (dV [[d]]) []:=by
 refine ah.ob Tryz.func115 Tryz.ntmps115 rfl ?_;repeat' first|(refine ab (hK _ ?_);clear hK K)|(refine ae ?_;simp;(try(refine gen2 ?_ ?_<;>intro hq<;>try simp at hq)))|refine T.r0 fun K hK=>?_|refine T.seq ?_|refine T.block ?_
 obtain⟨R,hR⟩:∃R,hP q l 0=R:=⟨_,rfl⟩;rw[hR];refine T.gq (fun p:Nat=>⟨[(0,.l (l.map cD)),(1,.c (.fn f [0])),(7,.i l.length),(8,.i p)],[[.d d]],[]⟩) (fun p=>l.length+1-p) (fun p=>p<=l.length/\hP q (l.drop p) p=R) (fun p hp=>?_) 0 (by simpa using hR) (by simp);obtain⟨hi,he⟩:=hp;by_cases aC:p<l.length
 ·obtain⟨u,ht⟩:=bV aC;have eN:u∈l:=UW ht;have bn:l[p]=u:=by rw[UU aC]at ht;exact Option.some.inj ht
  have iA:l.drop p=u::l.drop (p+1):=by rw[UX aC,bn]
  have hu:=hf u eN;rw[iA,hP]at he;cases hb:q u<;>rw[hb]at hu he
  ·repeat' first|(refine ab (hK _ ?_);clear hK K)|(refine ae ?_;simp[aC,bn];(try simp(disch:=omega)only[wrap64]);(try(refine gen2 ?_ ?_<;>intro hq<;>try simp[aC,bn]at hq)))|(refine jF 0 [d] rfl rfl hu ?_;simp)|(refine⟨p+1,by dsimp only;omega,⟨by omega,by simpa using he⟩,?_⟩;simp(disch:=omega) [wrap64])|refine T.r0 fun K hK=>?_|refine T.r1 fun K hK=>?_|refine T.ct rfl ?_|refine T.cf rfl ?_|refine T.seq ?_|refine T.block ?_|refine T.skip ?_
  ·repeat' first|(refine ab (hK _ ?_);clear hK K)|(refine ae ?_;simp[aC,bn];(try simp(disch:=omega)only[wrap64]);(try(refine gen2 ?_ ?_<;>intro hq<;>try simp[aC,bn]at hq)))|(refine jF 0 [d] rfl rfl hu ?_;simp)|refine T.r0 fun K hK=>?_|refine T.ct rfl ?_|refine T.seq ?_|refine T.block ?_|refine T.skip ?_
   refine T.ret (aG.nH (Or.inr rfl) ?_ ?_ ?_)<;>simp[Tryz.results115,<-he]
 ·have fj:p=l.length:=by omega
  subst fj;simp[hP]at he;repeat' first|(refine ab (hK _ ?_);clear hK K)|(refine ae ?_;simp[aC];(try(refine gen2 ?_ ?_<;>intro hq<;>try simp[aC]at hq)))|refine T.r0 fun K hK=>?_|refine T.cf rfl ?_|refine T.seq ?_|refine T.exit ?_
  refine T.ret (aG.nH (Or.inr rfl) ?_ ?_ ?_)<;>simp[Tryz.results115,he]
theorem qz (f:FuncId) (d:DV) (l:List aH) (q:aH->Bool) (hl:l.length<=4611686018427387904) (hf:∀t∈l,ah US f [ep t,.c (.ptr 0 0)] (dV [[d]]) (.b (q t)) (dV [[d]]) []):
  ah US 64 [.l (l.map cD),.c (.fn f [0])] (dV [[d]]) (.b (l.any q)) (dV [[d]]) []:=by
 refine ah.ob Tryz.func64 Tryz.ntmps64 rfl ?_;rw[<-q8 (i:=0) (by omega)];repeat' first|(refine ab (hK _ ?_);clear hK K)|((first|refine ae ?_|refine jF 0 [d] rfl rfl (uX f d l q hl hf) ?_);simp;(try(refine gen2 ?_ ?_<;>intro hq<;>try simp at hq)))|refine T.r0 fun K hK=>?_
 all_goals(refine T.ret (aG.nH (Or.inr rfl) ?_ ?_ ?_)<;>simp[Tryz.results64, *])
theorem uY (f:FuncId) (l m:List aH) (q:aH->aH->Bool) (hl:l.length<=4611686018427387904) (hf:∀a∈l,∀b∈m,ah US f [ep a,ep b] [] (.b (q a b)) [] []):
  ah US 72 [.l (l.map cD),.l (m.map cD),.c (.fn f [])] [] (.b (jg q l m)) [] []:=by
 refine ah.ob Tryz.func72 Tryz.ntmps72 rfl ?_;by_cases na:l.length=m.length
 rotate_left
 ·have cN:¬(l.length:Int)=m.length:=by omega
  repeat' first|(refine ab (hK _ ?_);clear hK K)|(refine ae ?_;simp[cN];(try(refine gen2 ?_ ?_<;>intro hq<;>try simp[cN]at hq)))|(refine T.ret (aG.data (Or.inr rfl) ?_ ?_)<;>simp[Tryz.results72,Fi na]<;>omega)|refine T.r0 fun K hK=>?_|refine T.ct rfl ?_|refine T.seq ?_
 repeat' first|(refine ab (hK _ ?_);clear hK K)|(refine ae ?_;simp[na];(try(refine gen2 ?_ ?_<;>intro hq<;>try simp[na]at hq)))|refine T.r0 fun K hK=>?_|refine T.cf rfl ?_|refine T.seq ?_|refine T.block ?_|refine T.skip ?_
 obtain⟨R,hR⟩:∃R,jg q l m=R:=⟨_,rfl⟩;rw[hR];refine T.gq (fun x:Nat×List (List CV)=>⟨[(0,.l (l.map cD)),(1,.l (m.map cD)),(2,.c (.fn f [])),(15,.l (l.map cD)),(16,.i m.length),(17,.i x.1)],x.2,[]⟩) (fun x=>l.length+1-x.1) (fun x=>x.1<=l.length/\jg q (l.drop x.1) (m.drop x.1)=R) (fun x hp=>?_) (0,[]) (by simpa using hR) (by simp);obtain⟨p,G⟩:=x;obtain⟨hi,he⟩:=hp;dsimp only at hi he⊢;by_cases aC:p<l.length
 ·have jl:p<m.length:=by omega
  obtain⟨u,ht⟩:=bV aC;have eN:u∈l:=UW ht;have bn:l[p]=u:=by rw[UU aC]at ht;exact Option.some.inj ht
  have iA:l.drop p=u::l.drop (p+1):=by rw[UX aC,bn]
  obtain⟨v,hv⟩:=bV jl;have M5:v∈m:=UW hv;have rm:m[p]=v:=by rw[UU jl]at hv;exact Option.some.inj hv
  have hu:=hf u eN v M5;rw[iA,drop_cons jl,rm,vq]at he;cases hb:q u v<;>rw[hb]at hu he
  ·repeat' first|(refine ab (hK _ ?_);clear hK K)|(refine ae ?_;simp[aC,jl,bn,rm];(try simp(disch:=omega)only[wrap64]);(try(refine gen2 ?_ ?_<;>intro hq<;>try simp[aC,jl,bn,rm]at hq)))|(refine aa rfl (hu) ?_;simp[aC,jl,bn,rm];(try simp(disch:=omega)only[wrap64]);(try(refine gen2 ?_ ?_<;>intro hq<;>try simp[aC,jl,bn,rm]at hq)))|(refine T.ret (aG.data (Or.inr rfl) ?_ ?_)<;>simp[Tryz.results72,<-he]<;>omega)|refine T.r0 fun K hK=>?_|refine T.ct rfl ?_|refine T.seq ?_|refine T.block ?_|refine T.skip ?_
  ·repeat' first|(refine ab (hK _ ?_);clear hK K)|(refine ae ?_;simp[aC,jl,bn,rm];(try simp(disch:=omega)only[wrap64]);(try(refine gen2 ?_ ?_<;>intro hq<;>try simp[aC,jl,bn,rm]at hq)))|(refine aa rfl (hu) ?_;simp[aC,jl,bn,rm];(try simp(disch:=omega)only[wrap64]);(try(refine gen2 ?_ ?_<;>intro hq<;>try simp[aC,jl,bn,rm]at hq)))|(refine⟨(p+1,_),by dsimp only;omega,⟨by dsimp only;omega,by simpa using he⟩,rfl,rfl,?_⟩;simp(disch:=omega) [wrap64])|refine T.r0 fun K hK=>?_|refine T.r1 fun K hK=>?_|refine T.ct rfl ?_|refine T.cf rfl ?_|refine T.seq ?_|refine T.block ?_|refine T.skip ?_
 ·have fj:p=l.length:=by omega
  subst fj;rw[UY,na,UY,x5]at he;repeat' first|(refine ab (hK _ ?_);clear hK K)|(refine ae ?_;simp[aC,na];(try(refine gen2 ?_ ?_<;>intro hq<;>try simp[aC,na]at hq)))|(refine T.ret (aG.data (Or.inr rfl) ?_ ?_)<;>simp[Tryz.results72,<-he]<;>omega)|refine T.r0 fun K hK=>?_|refine T.cf rfl ?_|refine T.seq ?_|refine T.exit ?_
theorem hY (t:aH) (hn:iK t<=1099511627776):ah US 116 [ep t] [] (.b (ay 4 t)) [] []:=by
 refine ah.ob Tryz.func116 Tryz.ntmps116 rfl ?_;repeat' first|(refine ab (hK _ ?_);clear hK K)|((first|refine ae ?_|refine aa rfl (tF 4 t (by omega) hn) ?_);simp)|(refine T.ret (aG.data (Or.inr rfl) ?_ ?_)<;>simp[Tryz.results116]<;>omega)|refine T.r0 fun K hK=>?_
theorem wF (d:Int) (hd:0<=d/\d<=1000) (t:aH) (q:Bool) (h:ah US 111 [ep t,.i (d+1)] [] (.b q) [] []):
  ah US 138 [ep t,.c (.ptr 0 0)] (dV [[.i d]]) (.b (!q)) (dV [[.i d]]) []:=by
 refine ah.ob Tryz.func138 Tryz.ntmps138 rfl ?_;repeat' first|(refine ab (hK _ ?_);clear hK K)|((first|refine ae ?_|refine aa rfl (h) ?_);simp;(try simp(disch:=omega)only[wrap64]))|refine T.r0 fun K hK=>?_
 refine T.ret (aG.nH (Or.inr rfl) ?_ ?_ ?_)<;>simp[Tryz.results138]
theorem rq:∀(d:Nat) (t:aH),d<=4->iK t<=1099511627776->ah US 111 [ep t,.i (5-d)] [] (.b (ay d t)) [] []
 |0,t,_,_=>by
  refine ah.ob Tryz.func111 Tryz.ntmps111 rfl ?_;repeat' first|(refine ab (hK _ ?_);clear hK K)|(refine ae ?_;simp;(try(refine gen2 ?_ ?_<;>intro hq<;>try simp at hq)))|(refine T.ret (aG.data (Or.inr rfl) ?_ ?_)<;>simp[Tryz.results111,ay]<;>omega)|refine T.r0 fun K hK=>?_|refine T.r1 fun K hK=>?_|refine T.ct rfl ?_|refine T.cf rfl ?_|refine T.seq ?_|refine T.block ?_|refine T.skip ?_
 |d+1,t,hd,hn=>by
  rw[hU]at hn;have hlen:=iw t.kids;have ij:(5:Int)-(d+1)<=4:=by omega
  have hc:=qz 138 (.i (5-(d+1))) t.kids (fun t=> !ay d t) (by omega) (fun u hu=>wF (5-(d+1)) (by omega) u _ (by
   have:=rq d u (by omega) (by have:=iy hu;omega);rwa[show(5:Int)-(d+1)+1=5-d by omega]))
  have dc:(!t.kids.any fun t=> !ay d t)=t.kids.all (ay d):=q9 _ _;rw[show ay (d+1) t=(decide (cx t.kind=t.kids.length)&& t.kids.all (ay d))from rfl,<-dc];generalize (t.kids.any fun t=> !ay d t)=R at hc⊢;refine ah.ob Tryz.func111 Tryz.ntmps111 rfl ?_;repeat' first|(refine ab (hK _ ?_);clear hK K)|(refine ae ?_;simp[ij];(try(refine gen2 ?_ ?_<;>intro hq<;>try simp[ij]at hq)))|(refine jF 1 [.i (5-(d+1))] rfl (by simp) hc ?_;simp)|(refine T.ret (aG.data (Or.inr rfl) ?_ ?_)<;>simp[Tryz.results111,cx, *]<;>omega)|refine T.r0 fun K hK=>?_|refine T.r1 fun K hK=>?_|refine T.ct rfl ?_|refine T.cf rfl ?_|refine T.seq ?_|refine T.block ?_|refine T.skip ?_
theorem lg (t:aH) (hn:iK t<=1099511627776):ah US 60 [ep t] [] (.b (ay 4 t)) [] []:=by
 refine ah.ob Tryz.func60 Tryz.ntmps60 rfl ?_;repeat' first|(refine ab (hK _ ?_);clear hK K)|((first|refine ae ?_|refine aa rfl (rq 4 t (by omega) hn) ?_);simp)|(refine T.ret (aG.data (Or.inr rfl) ?_ ?_)<;>simp[Tryz.results60]<;>omega)|refine T.r0 fun K hK=>?_
theorem nU:(a b:aH)->iK a<=1099511627776->ah US 166 [ep a,ep b] [] (.b (bN a b)) [] []
 |.mk k l,b,hn=>by
  rw[hU]at hn;have hlen:=iw l;have hc:=uY 166 l b.kids bN (by simp at hn;omega) (fun u hu v hv=>nU u v (by have:=iy hu;simp at hn;omega));rw[tg];simp only[aH.bU,aH.bT];generalize jg bN l b.kids=R at hc⊢;refine ah.ob Tryz.func166 Tryz.ntmps166 rfl ?_;repeat' first|(refine ab (hK _ ?_);clear hK K)|((first|refine ae ?_|refine aa rfl (hc) ?_);simp;(try(refine gen2 ?_ ?_<;>intro hq<;>try simp at hq)))|(refine T.ret (aG.data (Or.inr rfl) ?_ ?_)<;>simp[Tryz.results166, *]<;>omega)|refine T.r0 fun K hK=>?_
termination_by a=>SizeOf.sizeOf a
decreasing_by have:=List.sizeOf_lt_of_mem hu;simp;omega
theorem uZ (a b:aH) (ha:iK a<=1099511627776) (hb:iK b<=1099511627776):ah US 153 [ep a,ep b] [] (.b (ay 4 a && ay 4 b && bN a b)) [] []:=by
 refine ah.ob Tryz.func153 Tryz.ntmps153 rfl ?_;repeat' first|(refine ab (hK _ ?_);clear hK K)|((first|refine ae ?_|refine aa rfl (lg a ha) ?_|refine aa rfl (lg b hb) ?_|refine aa rfl (nU a b ha) ?_);simp;(try(refine gen2 ?_ ?_<;>intro hq<;>try simp at hq)))|(refine T.ret (aG.data (Or.inr rfl) ?_ ?_)<;>simp[Tryz.results153, *]<;>omega)|refine T.r0 fun K hK=>?_
theorem lL:∀(d:Nat) (a b:aH),d<=1000->ay d a=true->ay d b=true->ah US 122 [ep a,ep b] [] (.b (bN a b)) [] []
 |0,a,b,_,ha,_=>by simp[ay]at ha
 |d+1,a,b,hd,ha,hb=>by
  obtain⟨e,he,BT,RG,DC⟩:=dR ha;obtain⟨e',IZ,I0,RH,yf⟩:=dR hb;obtain rfl:d=e:=by omega
  obtain rfl:d=e':=by omega
  rw[tg];refine ah.ob Tryz.func122 Tryz.ntmps122 rfl ?_;by_cases uz:a.kind=1
  ·repeat' first|(refine ab (hK _ ?_);clear hK K)|(refine ae ?_;simp[uz];(try(refine gen2 ?_ ?_<;>intro hq<;>try simp[uz]at hq)))|(refine T.ret (aG.data (Or.inr rfl) ?_ ?_)<;>simp[Tryz.results122,uz]<;>omega)|refine T.r0 fun K hK=>?_|refine T.ct rfl ?_|refine T.seq ?_
  by_cases kp:b.kind=1
  ·repeat' first|(refine ab (hK _ ?_);clear hK K)|(refine ae ?_;simp[uz,kp,AM uz];(try(refine gen2 ?_ ?_<;>intro hq<;>try simp[uz,kp,AM uz]at hq)))|(refine T.ret (aG.data (Or.inr rfl) ?_ ?_)<;>simp[Tryz.results122,uz,kp]<;>omega)|refine T.r0 fun K hK=>?_|refine T.ct rfl ?_|refine T.seq ?_
  by_cases hk:a.kind=b.kind
  rotate_left
  ·repeat' first|(refine ab (hK _ ?_);clear hK K)|(refine ae ?_;simp[uz,kp,hk];(try(refine gen2 ?_ ?_<;>intro hq<;>try simp[uz,kp,hk]at hq)))|(refine T.ret (aG.data (Or.inr rfl) ?_ ?_)<;>simp[Tryz.results122,uz,kp,hk]<;>omega)|refine T.r0 fun K hK=>?_|refine T.ct rfl ?_|refine T.cf rfl ?_|refine T.seq ?_|refine T.skip ?_
  have na:a.kids.length=b.kids.length:=by rw[hk]at BT;omega
  repeat' first|(refine ab (hK _ ?_);clear hK K)|(refine ae ?_;simp[uz,kp,hk];(try(refine gen2 ?_ ?_<;>intro hq<;>try simp[uz,kp,hk]at hq)))|refine T.r0 fun K hK=>?_|refine T.cf rfl ?_|refine T.seq ?_|refine T.block ?_|refine T.skip ?_
  obtain⟨R,hR⟩:∃R,jg bN a.kids b.kids=R:=⟨_,rfl⟩;rw[show(decide (a.kind=1)||decide (b.kind=1)||(decide (a.kind=b.kind)&& jg bN a.kids b.kids))=R by simp[uz,kp,hk,hR]];refine T.gq (fun p:Nat=>⟨[(2,.c (.ptr 0 0)),(3,.c (.ptr 1 0)),(5,.i p)],[(ep a).cells,(ep b).cells],[]⟩) (fun p=>a.kids.length+1-p) (fun p=>p<=a.kids.length/\jg bN (a.kids.drop p) (b.kids.drop p)=R) (fun p hp=>?_) 0 (by simpa using hR) (by simp[hk]);obtain⟨hi,he⟩:=hp;by_cases aC:p<a.kids.length
  ·have jl:p<b.kids.length:=by omega
   obtain⟨u,ht⟩:=bV aC;have eN:u∈a.kids:=UW ht;have bn:a.kids[p]=u:=by rw[UU aC]at ht;exact Option.some.inj ht
   have iA:a.kids.drop p=u::a.kids.drop (p+1):=by rw[UX aC,bn]
   obtain⟨v,hv⟩:=bV jl;have M5:v∈b.kids:=UW hv;have rm:b.kids[p]=v:=by rw[UU jl]at hv;exact Option.some.inj hv
   have hu:=lL d u v (by omega) (DC u eN) (yf v M5);rw[iA,drop_cons jl,rm,vq]at he;cases hb:bN u v<;>rw[hb]at hu he
   ·repeat' first|((first|refine ab (hK _ ?_)|refine aq (hK _ ?_));clear hK K)|((first|refine ae ?_|refine aA ?_);simp[aC,jl,bn,rm];(try simp(disch:=omega)only[wrap64]);(try(refine gen2 ?_ ?_<;>intro hq<;>try simp[aC,jl,bn,rm]at hq)))|(refine aa rfl (hu) ?_;simp[aC,jl,bn,rm];(try simp(disch:=omega)only[wrap64]);(try(refine gen2 ?_ ?_<;>intro hq<;>try simp[aC,jl,bn,rm]at hq)))|(refine T.ret (aG.data (Or.inr rfl) ?_ ?_)<;>simp[Tryz.results122,<-he]<;>omega)|refine T.r0 fun K hK=>?_|refine T.rd mixed (fun _=>false) [] (by kernel_rfl) fun K hK=>?_|refine T.ct rfl ?_|refine T.seq ?_|refine T.block ?_|refine T.skip ?_
   ·repeat' first|((first|refine ab (hK _ ?_)|refine aq (hK _ ?_));clear hK K)|((first|refine ae ?_|refine aA ?_);simp[aC,jl,bn,rm];(try simp(disch:=omega)only[wrap64]);(try(refine gen2 ?_ ?_<;>intro hq<;>try simp[aC,jl,bn,rm]at hq)))|(refine aa rfl (hu) ?_;simp[aC,jl,bn,rm];(try simp(disch:=omega)only[wrap64]);(try(refine gen2 ?_ ?_<;>intro hq<;>try simp[aC,jl,bn,rm]at hq)))|(refine⟨p+1,by dsimp only;omega,⟨by omega,by simpa using he⟩,rfl,rfl,?_⟩;simp(disch:=omega) [wrap64])|refine T.r0 fun K hK=>?_|refine T.r1 fun K hK=>?_|refine T.rd mixed (fun _=>false) [] (by kernel_rfl) fun K hK=>?_|refine T.ct rfl ?_|refine T.cf rfl ?_|refine T.seq ?_|refine T.block ?_|refine T.skip ?_
  ·have fj:p=a.kids.length:=by omega
   subst fj;rw[UY,na,UY,x5]at he;repeat' first|(refine ab (hK _ ?_);clear hK K)|(refine ae ?_;simp[aC,na];(try(refine gen2 ?_ ?_<;>intro hq<;>try simp[aC,na]at hq)))|(refine T.ret (aG.data (Or.inr rfl) ?_ ?_)<;>simp[Tryz.results122,<-he]<;>omega)|refine T.r0 fun K hK=>?_|refine T.cf rfl ?_|refine T.seq ?_|refine T.exit ?_
theorem tG (k:Int):k=1\/k=5\/k=13\/k=14\/k=2\/(¬k=1/\¬k=5/\¬k=13/\¬k=14/\¬k=2):=by omega
theorem Fx (n:Int):kK n 0 0=decide (n=0):=by simp only[kK,<-Bool.decide_and];exact decide_eq_decide.2 (by omega)
theorem DD (e:an) (hk:e.kind≠14) (ht:iK e.ty<=1099511627776):ah US 134 [cw e] [] (.b (eb e)) [] []:=by
 have qo:=BS e.name;have EN:=hY e.ty ht;have jd:=vB e.ty;have pD:=vB e.fr;rcases tG e.kind with h1|h1|h1|h1|h1|⟨h1,h2,h3,h4,h5⟩
 ·have hr:eb e=(dL e.name && decide (e.num=0)&& c6 e.ty &&(c6 e.fr && decide (e.label=0))):=by simp[eb,h1,cB,cZ,Fx]
  rw[hr];refine ah.ob Tryz.func134 Tryz.ntmps134 rfl ?_;repeat' first|(refine ab (hK _ ?_);clear hK K)|((first|refine ae ?_|refine aa rfl (qo) ?_|refine aa rfl (jd) ?_|refine aa rfl (pD) ?_);simp[h1];(try(refine gen2 ?_ ?_<;>intro hq<;>try simp[h1]at hq)))|(refine T.ret (aG.data (Or.inr rfl) ?_ ?_)<;>simp[Tryz.results134, *]<;>omega)|refine T.r0 fun K hK=>?_|refine T.ct rfl ?_|refine T.cf rfl ?_|refine T.seq ?_|refine T.skip ?_
 ·have hr:eb e=(dL e.name && decide (e.num=0)&& ay 4 e.ty &&(c6 e.fr && decide (e.label=0))):=by simp[eb,h1,cB,cZ,Fx]
  rw[hr];refine ah.ob Tryz.func134 Tryz.ntmps134 rfl ?_;repeat' first|(refine ab (hK _ ?_);clear hK K)|((first|refine ae ?_|refine aa rfl (qo) ?_|refine aa rfl (EN) ?_|refine aa rfl (pD) ?_);simp[h1];(try(refine gen2 ?_ ?_<;>intro hq<;>try simp[h1]at hq)))|(refine T.ret (aG.data (Or.inr rfl) ?_ ?_)<;>simp[Tryz.results134, *]<;>omega)|refine T.r0 fun K hK=>?_|refine T.ct rfl ?_|refine T.cf rfl ?_|refine T.seq ?_|refine T.skip ?_
 ·have hr:eb e=(decide (e.name=[])&& decide (e.num=0)&& ay 4 e.ty &&(c6 e.fr && decide (e.label=0))):=by simp[eb,h1,cB,cZ,Fx]
  have CH:e.name=[]->dL e.name=false:=fun h=>by rw[h];rfl
  rw[hr];by_cases cN:e.name=[]
  ·rw[CH cN,cN]at qo;refine ah.ob Tryz.func134 Tryz.ntmps134 rfl ?_;repeat' first|(refine ab (hK _ ?_);clear hK K)|((first|refine ae ?_|refine aa rfl (qo) ?_|refine aa rfl (EN) ?_|refine aa rfl (pD) ?_);simp[h1,cN];(try(refine gen2 ?_ ?_<;>intro hq<;>try simp[h1,cN]at hq)))|(refine T.ret (aG.data (Or.inr rfl) ?_ ?_)<;>simp[Tryz.results134, *]<;>omega)|refine T.r0 fun K hK=>?_|refine T.ct rfl ?_|refine T.cf rfl ?_|refine T.seq ?_|refine T.skip ?_
  ·generalize dL e.name=nb at qo;refine ah.ob Tryz.func134 Tryz.ntmps134 rfl ?_;repeat' first|(refine ab (hK _ ?_);clear hK K)|((first|refine ae ?_|refine aa rfl (qo) ?_);simp[h1,cN];(try(refine gen2 ?_ ?_<;>intro hq<;>try simp[h1,cN]at hq)))|(refine T.ret (aG.data (Or.inr rfl) ?_ ?_)<;>simp[Tryz.results134, *]<;>omega)|refine T.r0 fun K hK=>?_|refine T.ct rfl ?_|refine T.seq ?_
 ·exact absurd h1 hk
 ·have hr:eb e=(decide (e.name=[])&&(decide (0<=e.num)&& decide (e.num<=999))&& c6 e.ty &&(c6 e.fr && decide (e.label=0))):=by simp[eb,h1,cB,cZ,kK]
  have CH:e.name=[]->dL e.name=false:=fun h=>by rw[h];rfl
  rw[hr];by_cases cN:e.name=[]
  ·rw[CH cN,cN]at qo;refine ah.ob Tryz.func134 Tryz.ntmps134 rfl ?_;repeat' first|(refine ab (hK _ ?_);clear hK K)|((first|refine ae ?_|refine aa rfl (qo) ?_|refine aa rfl (jd) ?_|refine aa rfl (pD) ?_);simp[h1,cN];(try(refine gen2 ?_ ?_<;>intro hq<;>try simp[h1,cN]at hq)))|(refine T.ret (aG.data (Or.inr rfl) ?_ ?_)<;>simp[Tryz.results134, *]<;>omega)|refine T.r0 fun K hK=>?_|refine T.ct rfl ?_|refine T.cf rfl ?_|refine T.seq ?_|refine T.skip ?_
  ·generalize dL e.name=nb at qo;refine ah.ob Tryz.func134 Tryz.ntmps134 rfl ?_;repeat' first|(refine ab (hK _ ?_);clear hK K)|((first|refine ae ?_|refine aa rfl (qo) ?_);simp[h1,cN];(try(refine gen2 ?_ ?_<;>intro hq<;>try simp[h1,cN]at hq)))|(refine T.ret (aG.data (Or.inr rfl) ?_ ?_)<;>simp[Tryz.results134, *]<;>omega)|refine T.r0 fun K hK=>?_|refine T.ct rfl ?_|refine T.seq ?_
 ·have hr:eb e=(decide (e.name=[])&& decide (e.num=0)&& c6 e.ty &&(c6 e.fr && decide (e.label=0))):=by simp[eb,h1,h2,h3,h4,h5,cB,cZ,Fx]
  have CH:e.name=[]->dL e.name=false:=fun h=>by rw[h];rfl
  rw[hr];by_cases cN:e.name=[]
  ·rw[CH cN,cN]at qo;refine ah.ob Tryz.func134 Tryz.ntmps134 rfl ?_;repeat' first|(refine ab (hK _ ?_);clear hK K)|((first|refine ae ?_|refine aa rfl (qo) ?_|refine aa rfl (jd) ?_|refine aa rfl (pD) ?_);simp[h1,h2,h3,h4,h5,cN];(try(refine gen2 ?_ ?_<;>intro hq<;>try simp[h1,h2,h3,h4,h5,cN]at hq)))|(refine T.ret (aG.data (Or.inr rfl) ?_ ?_)<;>simp[Tryz.results134, *]<;>omega)|refine T.r0 fun K hK=>?_|refine T.ct rfl ?_|refine T.cf rfl ?_|refine T.seq ?_|refine T.skip ?_
  ·generalize dL e.name=nb at qo;refine ah.ob Tryz.func134 Tryz.ntmps134 rfl ?_;repeat' first|(refine ab (hK _ ?_);clear hK K)|((first|refine ae ?_|refine aa rfl (qo) ?_);simp[h1,h2,h3,h4,h5,cN];(try(refine gen2 ?_ ?_<;>intro hq<;>try simp[h1,h2,h3,h4,h5,cN]at hq)))|(refine T.ret (aG.data (Or.inr rfl) ?_ ?_)<;>simp[Tryz.results134, *]<;>omega)|refine T.r0 fun K hK=>?_|refine T.ct rfl ?_|refine T.seq ?_
theorem BU (e:an) (hl:e.kids.length<=1099511627776) (ht:iK e.ty<=1099511627776) (hf:iK e.fr<=1099511627776):ah US 131 [cw e] [] (.b (eL e)) [] []:=by
 have jf:=yj e.kind;have qo:=BR e.name;have EN:=lg e.ty ht;have jd:=rl e.ty;have pD:=rl e.fr;have JU:=uZ e.fr e.ty hf ht;have JV:=zD e.label;have u5:=tE e.num 0 0;have JW:=tE e.num 0 999;by_cases kq:cv e.kind=e.kids.length
 rotate_left
 ·rw[show eL e=false by simp[eL,kq]];refine ah.ob Tryz.func131 Tryz.ntmps131 rfl ?_;repeat' first|((first|refine ab (hK _ ?_)|refine aq (hK _ ?_));clear hK K)|((first|(first|refine ae ?_|refine aA ?_)|refine aa rfl (jf) ?_);simp[kq];(try(refine gen2 ?_ ?_<;>intro hq<;>try simp[kq]at hq)))|(refine T.ret (aG.data (Or.inr rfl) ?_ ?_)<;>simp[Tryz.results131]<;>omega)|refine T.r0 fun K hK=>?_|refine T.rd mixed (fun _=>false) [] (by kernel_rfl) fun K hK=>?_|refine T.ct rfl ?_|refine T.seq ?_
 rw[show eL e=eb e by simp[eL,kq]];rw[kq]at jf;rcases tG e.kind with h1|h1|h1|h1|h1|⟨h1,h2,h3,h4,h5⟩
 ·have hr:eb e=(dL e.name && kK e.num 0 0 && c6 e.ty &&(c6 e.fr && decide (e.label=0))):=by simp[eb,h1,cB,cZ]
  rw[hr];rw[h1]at jf;generalize kK e.num 0 0=i0 at u5;refine ah.ob Tryz.func131 Tryz.ntmps131 rfl ?_;repeat' first|((first|refine ab (hK _ ?_)|refine aq (hK _ ?_));clear hK K)|((first|(first|refine ae ?_|refine aA ?_)|refine aa rfl (jf) ?_|refine aa rfl (qo) ?_|refine aa rfl (u5) ?_|refine aa rfl (jd) ?_|refine aa rfl (pD) ?_);simp[h1];(try(refine gen2 ?_ ?_<;>intro hq<;>try simp[h1]at hq)))|(refine T.ret (aG.data (Or.inr rfl) ?_ ?_)<;>simp[Tryz.results131, *]<;>omega)|refine T.r0 fun K hK=>?_|refine T.r1 fun K hK=>?_|refine T.rd mixed (fun _=>false) [] (by kernel_rfl) fun K hK=>?_|refine T.ct rfl ?_|refine T.cf rfl ?_|refine T.seq ?_|refine T.block ?_|refine T.skip ?_
 ·have hr:eb e=(dL e.name && kK e.num 0 0 && ay 4 e.ty &&(c6 e.fr && decide (e.label=0))):=by simp[eb,h1,cB,cZ]
  rw[hr];rw[h1]at jf;generalize kK e.num 0 0=i0 at u5;refine ah.ob Tryz.func131 Tryz.ntmps131 rfl ?_;repeat' first|((first|refine ab (hK _ ?_)|refine aq (hK _ ?_));clear hK K)|((first|(first|refine ae ?_|refine aA ?_)|refine aa rfl (jf) ?_|refine aa rfl (qo) ?_|refine aa rfl (u5) ?_|refine aa rfl (EN) ?_|refine aa rfl (pD) ?_);simp[h1];(try(refine gen2 ?_ ?_<;>intro hq<;>try simp[h1]at hq)))|(refine T.ret (aG.data (Or.inr rfl) ?_ ?_)<;>simp[Tryz.results131, *]<;>omega)|refine T.r0 fun K hK=>?_|refine T.r1 fun K hK=>?_|refine T.rd mixed (fun _=>false) [] (by kernel_rfl) fun K hK=>?_|refine T.ct rfl ?_|refine T.cf rfl ?_|refine T.seq ?_|refine T.block ?_|refine T.skip ?_
 ·have hr:eb e=(decide (e.name=[])&& kK e.num 0 0 && ay 4 e.ty &&(c6 e.fr && decide (e.label=0))):=by simp[eb,h1,cB,cZ]
  rw[hr];rw[h1]at jf;generalize kK e.num 0 0=i0 at u5;refine ah.ob Tryz.func131 Tryz.ntmps131 rfl ?_;repeat' first|((first|refine ab (hK _ ?_)|refine aq (hK _ ?_));clear hK K)|((first|(first|refine ae ?_|refine aA ?_)|refine aa rfl (jf) ?_|refine aa rfl (u5) ?_|refine aa rfl (EN) ?_|refine aa rfl (pD) ?_);simp[h1];(try(refine gen2 ?_ ?_<;>intro hq<;>try simp[h1]at hq)))|(refine T.ret (aG.data (Or.inr rfl) ?_ ?_)<;>simp[Tryz.results131, *]<;>omega)|refine T.r0 fun K hK=>?_|refine T.r1 fun K hK=>?_|refine T.rd mixed (fun _=>false) [] (by kernel_rfl) fun K hK=>?_|refine T.ct rfl ?_|refine T.cf rfl ?_|refine T.seq ?_|refine T.block ?_|refine T.skip ?_
 ·have hr:eb e=(decide (e.name=[])&& kK e.num 0 0 && ay 4 e.ty &&((ay 4 e.fr && ay 4 e.ty && bN e.fr e.ty)&& zx e.label)):=by simp[eb,h1,cB,cZ,mq]
  rw[hr];rw[h1]at jf;generalize kK e.num 0 0=i0 at u5;generalize ve:(ay 4 e.fr && ay 4 e.ty && bN e.fr e.ty)=g1 at JU;generalize zx e.label=g2 at JV;refine ah.ob Tryz.func131 Tryz.ntmps131 rfl ?_;repeat' first|((first|refine ab (hK _ ?_)|refine aq (hK _ ?_));clear hK K)|((first|(first|refine ae ?_|refine aA ?_)|refine aa rfl (jf) ?_|refine aa rfl (u5) ?_|refine aa rfl (EN) ?_|refine aa rfl (JU) ?_|refine aa rfl (JV) ?_);simp[h1];(try(refine gen2 ?_ ?_<;>intro hq<;>try simp[h1]at hq)))|(refine T.ret (aG.data (Or.inr rfl) ?_ ?_)<;>simp[Tryz.results131, *]<;>omega)|refine T.r0 fun K hK=>?_|refine T.r1 fun K hK=>?_|refine T.rd mixed (fun _=>false) [] (by kernel_rfl) fun K hK=>?_|refine T.ct rfl ?_|refine T.cf rfl ?_|refine T.seq ?_|refine T.block ?_|refine T.skip ?_
 ·have hr:eb e=(decide (e.name=[])&& kK e.num 0 999 && c6 e.ty &&(c6 e.fr && decide (e.label=0))):=by simp[eb,h1,cB,cZ]
  rw[hr];rw[h1]at jf;generalize kK e.num 0 999=i0 at JW;refine ah.ob Tryz.func131 Tryz.ntmps131 rfl ?_;repeat' first|((first|refine ab (hK _ ?_)|refine aq (hK _ ?_));clear hK K)|((first|(first|refine ae ?_|refine aA ?_)|refine aa rfl (jf) ?_|refine aa rfl (JW) ?_|refine aa rfl (jd) ?_|refine aa rfl (pD) ?_);simp[h1];(try(refine gen2 ?_ ?_<;>intro hq<;>try simp[h1]at hq)))|(refine T.ret (aG.data (Or.inr rfl) ?_ ?_)<;>simp[Tryz.results131, *]<;>omega)|refine T.r0 fun K hK=>?_|refine T.r1 fun K hK=>?_|refine T.rd mixed (fun _=>false) [] (by kernel_rfl) fun K hK=>?_|refine T.ct rfl ?_|refine T.cf rfl ?_|refine T.seq ?_|refine T.block ?_|refine T.skip ?_
 ·have hr:eb e=(decide (e.name=[])&& kK e.num 0 0 && c6 e.ty &&(c6 e.fr && decide (e.label=0))):=by simp[eb,h1,h2,h3,h4,h5,cB,cZ]
  rw[hr];generalize kK e.num 0 0=i0 at u5;refine ah.ob Tryz.func131 Tryz.ntmps131 rfl ?_;repeat' first|((first|refine ab (hK _ ?_)|refine aq (hK _ ?_));clear hK K)|((first|(first|refine ae ?_|refine aA ?_)|refine aa rfl (jf) ?_|refine aa rfl (u5) ?_|refine aa rfl (jd) ?_|refine aa rfl (pD) ?_);simp[h1,h2,h3,h4,h5];(try(refine gen2 ?_ ?_<;>intro hq<;>try simp[h1,h2,h3,h4,h5]at hq)))|(refine T.ret (aG.data (Or.inr rfl) ?_ ?_)<;>simp[Tryz.results131, *]<;>omega)|refine T.r0 fun K hK=>?_|refine T.r1 fun K hK=>?_|refine T.rd mixed (fun _=>false) [] (by kernel_rfl) fun K hK=>?_|refine T.ct rfl ?_|refine T.cf rfl ?_|refine T.seq ?_|refine T.block ?_|refine T.skip ?_
theorem dh {e:an} (h:fO e<=1099511627776):iK e.ty<=1099511627776/\iK e.fr<=1099511627776/\e.kids.length<=1099511627776/\∀u∈e.kids,fO u<=1099511627776:=by
 rw[kX]at h;have:=pg e.kids;exact⟨by omega,by omega,by omega,fun u hu=>by have:=tf hu;omega⟩
theorem tH:∀(d:Nat) (e:an),d<=1000->fO e<=1099511627776->ah US 97 [cw e,.i d] [] (.i (b5 d e)) [] []
 |0,e,_,hn=>by
  obtain⟨jd,pD,CK,vD⟩:=dh hn;refine ah.ob Tryz.func97 Tryz.ntmps97 rfl ?_;repeat' first|(refine ab (hK _ ?_);clear hK K)|(refine ae ?_;simp;(try(refine gen2 ?_ ?_<;>intro hq<;>try simp at hq)))|refine T.r0 fun K hK=>?_|refine T.seq ?_|refine T.block ?_
  refine T.gq (fun _:Unit=>⟨[(1,.i 0),(2,.c (.ptr 0 0)),(5,.i 1),(6,.i 0)],[(cw e).cells],[]⟩) (fun _=>0) (fun _=>True) (fun _ _=>?_) () trivial (by simp);repeat' first|(refine ab (hK _ ?_);clear hK K)|(refine ae ?_;simp;(try simp(disch:=omega)only[wrap64]);(try(refine gen2 ?_ ?_<;>intro hq<;>try simp at hq)))|(refine T.ret (aG.data (Or.inr rfl) ?_ ?_)<;>simp[Tryz.results97,b5]<;>omega)|refine T.r0 fun K hK=>?_|refine T.cf rfl ?_|refine T.seq ?_|refine T.exit ?_
 |d+1,e,hd,hn=>by
  obtain⟨jd,pD,CK,vD⟩:=dh hn;have ij:(0:Int)<(d:Int)+1:=by omega
  have sQ:=th (d+1) e;obtain⟨R,hR⟩:∃R,b5 (d+1) e=R:=⟨_,rfl⟩;rw[hR]at sQ⊢;refine ah.ob Tryz.func97 Tryz.ntmps97 rfl ?_;repeat' first|(refine ab (hK _ ?_);clear hK K)|(refine ae ?_;simp;(try(refine gen2 ?_ ?_<;>intro hq<;>try simp at hq)))|refine T.r0 fun K hK=>?_|refine T.seq ?_|refine T.block ?_
  refine T.gq (fun x:Nat×Nat=>⟨[(1,.i (d+1)),(2,.c (.ptr 0 0)),(5,.i x.2),(6,.i x.1)],[(cw e).cells],[]⟩) (fun x=>e.kids.length+1-x.1) (fun x=>x.1<=e.kids.length/\x.2+((e.kids.drop x.1).map (b5 d)).sum=R) (fun x hx=>?_) (0,1) (by simpa[b5]using hR) (by simp);obtain⟨p,k⟩:=x;obtain⟨hi,he⟩:=hx;dsimp only at hi he⊢;by_cases aC:p<e.kids.length
  ·obtain⟨u,ht⟩:=bV aC;have eN:u∈e.kids:=UW ht;have bn:e.kids[p]=u:=by rw[UU aC]at ht;exact Option.some.inj ht
   have iA:e.kids.drop p=u::e.kids.drop (p+1):=by rw[UX aC,bn]
   have hu:=tH d u (by omega) (vD u eN);rw[iA,List.map_cons,List.sum_cons]at he;generalize b5 d u=cu at hu he;repeat' first|(refine ab (hK _ ?_);clear hK K)|(refine ae ?_;simp[aC,bn,ij];(try simp(disch:=omega)only[wrap64]);(try(refine gen2 ?_ ?_<;>intro hq<;>try simp[aC,bn,ij]at hq)))|(refine aa rfl (hu) ?_;simp[aC,bn,ij];(try simp(disch:=omega)only[wrap64]);(try(refine gen2 ?_ ?_<;>intro hq<;>try simp[aC,bn,ij]at hq)))|(refine⟨(p+1,k+cu),by dsimp only;omega,⟨by dsimp only;omega,by dsimp only;omega⟩,rfl,rfl,?_⟩;simp(disch:=omega) [wrap64])|refine T.r0 fun K hK=>?_|refine T.r1 fun K hK=>?_|refine T.ct rfl ?_|refine T.seq ?_|refine T.block ?_|refine T.skip ?_
  ·have fj:p=e.kids.length:=by omega
   subst fj;simp at he;repeat' first|(refine ab (hK _ ?_);clear hK K)|(refine ae ?_;simp[aC];(try(refine gen2 ?_ ?_<;>intro hq<;>try simp[aC]at hq)))|(refine T.ret (aG.data (Or.inr rfl) ?_ ?_)<;>simp[Tryz.results97,he]<;>omega)|refine T.r0 fun K hK=>?_|refine T.cf rfl ?_|refine T.seq ?_|refine T.exit ?_
theorem Fy (mn md nt:Int) (M6:mn<=1000) (RJ:md<=1000):∀(e:an),fO e<=1099511627776->∀(deep c:Int),0<=c->c<=1000->0<=deep->
  ah US 91 [cw e,.i deep,.i mn,.i md,.i nt,.c (.ptr 0 0)] (dV [[.i c]]) (.b (iL mn md nt deep e c).1) (dV [[.i (iL mn md nt deep e c).2]]) []:=by
 intro e;induction e using an.ind with
 |h e ih=>
  intro hn deep c h0 hc dP;obtain⟨jd,pD,CK,vD⟩:=dh hn;have rr:=BU e CK jd pD;rw[qn];by_cases q1:mn<c+1
  ·rw[if_pos (by simp[q1])];refine ah.ob Tryz.func91 Tryz.ntmps91 rfl ?_;repeat' first|(refine ab (hK _ ?_);clear hK K)|(refine ae ?_;simp[q1];(try simp(disch:=omega)only[wrap64]);(try(refine gen2 ?_ ?_<;>intro hq<;>try simp[q1]at hq)))|(refine T.ret (aG.nH (Or.inr rfl) ?_ ?_ ?_)<;>simp[Tryz.results91]<;>omega)|refine T.r0 fun K hK=>?_|refine T.ct rfl ?_|refine T.seq ?_
  by_cases q2:md<deep
  ·rw[if_pos (by simp[q2])];refine ah.ob Tryz.func91 Tryz.ntmps91 rfl ?_;repeat' first|(refine ab (hK _ ?_);clear hK K)|(refine ae ?_;simp[q1,q2];(try simp(disch:=omega)only[wrap64]);(try(refine gen2 ?_ ?_<;>intro hq<;>try simp[q1,q2]at hq)))|(refine T.ret (aG.nH (Or.inr rfl) ?_ ?_ ?_)<;>simp[Tryz.results91]<;>omega)|refine T.r0 fun K hK=>?_|refine T.ct rfl ?_|refine T.seq ?_
  by_cases q3:e.kind=nt
  ·rw[if_pos (by simp[q3])];refine ah.ob Tryz.func91 Tryz.ntmps91 rfl ?_;repeat' first|(refine ab (hK _ ?_);clear hK K)|(refine ae ?_;simp[q1,q2,q3];(try simp(disch:=omega)only[wrap64]);(try(refine gen2 ?_ ?_<;>intro hq<;>try simp[q1,q2,q3]at hq)))|(refine T.ret (aG.nH (Or.inr rfl) ?_ ?_ ?_)<;>simp[Tryz.results91]<;>omega)|refine T.r0 fun K hK=>?_|refine T.ct rfl ?_|refine T.seq ?_
  cases hN:eL e
  ·rw[if_pos (by simp)];rw[hN]at rr;refine ah.ob Tryz.func91 Tryz.ntmps91 rfl ?_;repeat' first|(refine ab (hK _ ?_);clear hK K)|(refine ae ?_;simp[q1,q2,q3];(try simp(disch:=omega)only[wrap64]);(try(refine gen2 ?_ ?_<;>intro hq<;>try simp[q1,q2,q3]at hq)))|(refine aa rfl (rr) ?_;simp[q1,q2,q3];(try simp(disch:=omega)only[wrap64]);(try(refine gen2 ?_ ?_<;>intro hq<;>try simp[q1,q2,q3]at hq)))|(refine T.ret (aG.nH (Or.inr rfl) ?_ ?_ ?_)<;>simp[Tryz.results91]<;>omega)|refine T.r0 fun K hK=>?_|refine T.ct rfl ?_|refine T.seq ?_
  rw[hN]at rr;rw[if_neg (by simp[q1,q2,q3])];obtain⟨R,hR⟩:∃R,ji mn md nt (deep+1) e.kids (c+1)=R:=⟨_,rfl⟩;rw[hR];refine ah.ob Tryz.func91 Tryz.ntmps91 rfl ?_;repeat' first|(refine ab (hK _ ?_);clear hK K)|(refine ae ?_;simp[q1,q2,q3];(try simp(disch:=omega)only[wrap64]);(try(refine gen2 ?_ ?_<;>intro hq<;>try simp[q1,q2,q3]at hq)))|(refine aa rfl (rr) ?_;simp[q1,q2,q3];(try simp(disch:=omega)only[wrap64]);(try(refine gen2 ?_ ?_<;>intro hq<;>try simp[q1,q2,q3]at hq)))|refine T.r0 fun K hK=>?_|refine T.cf rfl ?_|refine T.seq ?_|refine T.block ?_|refine T.skip ?_
  refine T.gq (fun x:Nat×Int×List (List CV)=>⟨[(1,.i deep),(2,.i mn),(3,.i md),(4,.i nt),(5,.c (.ptr 0 0)),(6,.c (.ptr 1 0)),(42,.l (e.kids.map fZ)),(43,.i e.kids.length),(44,.i x.1)],[.d (.i x.2.1)]::(cw e).cells::x.2.2,[]⟩) (fun x=>e.kids.length+1-x.1) (fun x=>x.1<=e.kids.length/\0<=x.2.1/\x.2.1<=mn/\ji mn md nt (deep+1) (e.kids.drop x.1) x.2.1=R) (fun x hx=>?_) (0,c+1,[]) (by simpa using⟨by omega,by omega,hR⟩) (by simp);obtain⟨p,k,G⟩:=x;obtain⟨hi,iT,uz,he⟩:=hx;dsimp only at hi iT uz he⊢;by_cases aC:p<e.kids.length
  ·obtain⟨u,ht⟩:=bV aC;have eN:u∈e.kids:=UW ht;have bn:e.kids[p]=u:=by rw[UU aC]at ht;exact Option.some.inj ht
   have iA:e.kids.drop p=u::e.kids.drop (p+1):=by rw[UX aC,bn]
   have hu:=ih u eN (vD u eN) (deep+1) k iT (by omega) (by omega);have hle:=Dr mn md nt u (deep+1) k iT;rw[iA,ji]at he;generalize iL mn md nt (deep+1) u k=r at hu hle he;obtain⟨b,k'⟩:=r;dsimp only at hu hle he;cases b
   ·repeat' first|(refine ab (hK _ ?_);clear hK K)|(refine ae ?_;simp[aC,bn];(try simp(disch:=omega)only[wrap64]);(try(refine gen2 ?_ ?_<;>intro hq<;>try simp[aC,bn]at hq)))|(refine iv 0 [.i k] [.i k'] rfl rfl hu ?_;simp)|(refine T.ret (aG.nH (Or.inr rfl) ?_ ?_ ?_)<;>simp[Tryz.results91,<-he]<;>omega)|refine T.r0 fun K hK=>?_|refine T.ct rfl ?_|refine T.seq ?_|refine T.block ?_|refine T.skip ?_
   ·obtain⟨M7,M8⟩:=hle rfl;repeat' first|(refine ab (hK _ ?_);clear hK K)|(refine ae ?_;simp[aC,bn];(try simp(disch:=omega)only[wrap64]);(try(refine gen2 ?_ ?_<;>intro hq<;>try simp[aC,bn]at hq)))|(refine iv 0 [.i k] [.i k'] rfl rfl hu ?_;simp)|(refine⟨(p+1,k',_),by dsimp only;omega,⟨by dsimp only;omega,M7,M8,by simpa using he⟩,rfl,rfl,?_⟩;simp(disch:=omega) [wrap64])|refine T.r0 fun K hK=>?_|refine T.r1 fun K hK=>?_|refine T.ct rfl ?_|refine T.cf rfl ?_|refine T.seq ?_|refine T.block ?_|refine T.skip ?_
  ·have fj:p=e.kids.length:=by omega
   subst fj;simp[ji]at he;repeat' first|(refine ab (hK _ ?_);clear hK K)|(refine ae ?_;simp[aC];(try(refine gen2 ?_ ?_<;>intro hq<;>try simp[aC]at hq)))|(refine T.ret (aG.nH (Or.inr rfl) ?_ ?_ ?_)<;>simp[Tryz.results91,<-he]<;>omega)|refine T.r0 fun K hK=>?_|refine T.cf rfl ?_|refine T.seq ?_|refine T.exit ?_
end Go.Proofs.YtloolmchekcmeaaGreat
namespace Go.Proofs.YtloolmchekcmeaaGreat
attribute [-simp] Go.Av.eU Go.Av.fP Go.Av.b7 Go.Av.fb Go.Av.bQ Go.Av.bw Go.Av.back Go.Av.ev Go.Av.one
open Go Go.Av
attribute [local irreducible] T ah cD fZ aH.kind aH.kids an.kind an.name an.num an.ty an.fr an.label an.kids
attribute [local simp] aX ax
set_option maxHeartbeats 4000000
attribute [local simp] Option.bind
theorem kr:ah US 85 [] [] (ep iN) [] []:=by
 refine ah.ob Tryz.func85 Tryz.ntmps85 rfl ?_;repeat' first|(refine ab (hK _ ?_);clear hK K)|(refine ae ?_;simp;(try(refine gen2 ?_ ?_<;>intro hq<;>try simp at hq)))|(refine T.ret (aG.val (Or.inr rfl) ?_)<;>simp[aI,Tryz.results85]<;>omega)|refine T.r0 fun K hK=>?_
theorem yk:ah US 89 [] [] (ep dD) [] []:=by
 refine ah.ob Tryz.func89 Tryz.ntmps89 rfl ?_;repeat' first|(refine ab (hK _ ?_);clear hK K)|(refine ae ?_;simp;(try(refine gen2 ?_ ?_<;>intro hq<;>try simp at hq)))|(refine T.ret (aG.val (Or.inr rfl) ?_)<;>simp[aI,Tryz.results89]<;>omega)|refine T.r0 fun K hK=>?_
theorem BV:ah US 125 [] [] (ep eT) [] []:=by
 refine ah.ob Tryz.func125 Tryz.ntmps125 rfl ?_;repeat' first|(refine ab (hK _ ?_);clear hK K)|(refine ae ?_;simp;(try(refine gen2 ?_ ?_<;>intro hq<;>try simp at hq)))|(refine T.ret (aG.val (Or.inr rfl) ?_)<;>simp[aI,Tryz.results125]<;>omega)|refine T.r0 fun K hK=>?_
theorem b9:∀(t:aH),iK t<=1099511627776->ah US 120 [ep t] [] (ep t) [] []:=by
 intro t;induction t using aH.ind with
 |h t ih=>
  intro hn;rw[hU]at hn;have hlen:=iw t.kids;refine ah.ob Tryz.func120 Tryz.ntmps120 rfl ?_;repeat' first|(refine ab (hK _ ?_);clear hK K)|(refine ae ?_;simp;(try(refine gen2 ?_ ?_<;>intro hq<;>try simp at hq)))|refine T.r0 fun K hK=>?_|refine T.seq ?_|refine T.block ?_
  refine T.e6 2 1 2 25 (row:=[.d (.i t.kind),.nil]) (by simp) (by simp) ?_;refine T.gq (fun p:Nat=>⟨[(1,.c (.ptr 0 0)),(2,.c (.ptr 1 0)),(3,.c (.ptr 2 0)),(4,.i p)],[(ep t).cells,[.d (.i 0),.nil],[.d (.i t.kind),.own 0 p]],[{sz:=2,eO:=25,rows:=(t.kids.take p).map cD,wr:=true}]⟩) (fun p=>t.kids.length+1-p) (fun p=>p<=t.kids.length) (fun p hi=>?_) 0 (by simp) (by simp);by_cases aC:p<t.kids.length
  ·obtain⟨u,ht⟩:=bV aC;have eN:u∈t.kids:=UW ht;have bn:t.kids[p]=u:=by rw[UU aC]at ht;exact Option.some.inj ht
   have iA:t.kids.drop p=u::t.kids.drop (p+1):=by rw[UX aC,bn]
   have hu:=ih u eN (by have:=iy eN;omega);have j6:t.kids.take (p+1)=t.kids.take p++[u]:=by rw[UZ,ht];rfl
   have fD:min p t.kids.length=p:=by omega
   repeat' first|((first|refine ab (hK _ ?_)|refine aq (hK _ ?_));clear hK K)|((first|refine ae ?_|refine aA ?_|refine aa rfl (hu) ?_);simp[aC,bn,fD];(try simp(disch:=omega)only[wrap64]);(try(refine gen2 ?_ ?_<;>intro hq<;>try simp[aC,bn,fD]at hq)))|(refine⟨by omega,by omega,?_⟩)|(refine⟨p+1,by dsimp only;omega,by omega,?_,?_,?_⟩<;>simp(disch:=omega) [wrap64,j6,aX])|refine T.mW (id:=5) mixed (fun _=>false) [9,11] (by kernel_rfl) fun K hK=>?_|refine T.r0 fun K hK=>?_|refine T.r1 fun K hK=>?_|refine T.ct rfl ?_|refine T.seq ?_|refine T.block ?_|refine T.skip ?_
  ·have fj:p=t.kids.length:=by omega
   subst fj;repeat' first|(refine ab (hK _ ?_);clear hK K)|(refine ae ?_;simp[aC];(try(refine gen2 ?_ ?_<;>intro hq<;>try simp[aC]at hq)))|(refine T.ret (aG.val (Or.inr rfl) ?_)<;>simp[aI,Tryz.results120,aX]<;>omega)|refine T.r0 fun K hK=>?_|refine T.cf rfl ?_|refine T.seq ?_|refine T.exit ?_
end Go.Proofs.YtloolmchekcmeaaGreat
namespace Go.Proofs.YtloolmchekcmeaaGreat
attribute [-simp] Go.Av.eU Go.Av.fP Go.Av.b7 Go.Av.fb Go.Av.bQ Go.Av.bw Go.Av.back Go.Av.ev Go.Av.one
open Go Go.Av
attribute [local irreducible] T ah cD fZ aH.kind aH.kids an.kind an.name an.num an.ty an.fr an.label an.kids
attribute [local simp] aX ax
set_option maxHeartbeats 4000000
@[simp] theorem JX:td US 139=some {ag:=false,sz:=1,jy:=24,zero:=some [.nil],el:=some 146,ar:=none,fl:=[],ik:=none,cG:=false,kJ:=false}:=di (by kernel_rfl)
@[simp] theorem Lx:td US 146=some {ag:=true,sz:=3,jy:=48,zero:=some [.d (.str []),.d (.int .i64 0),.nil],el:=none,ar:=none,fl:=[(0,1),(1,2)],ik:=none,cG:=false,kJ:=false}:=di (by kernel_rfl)
theorem BW (ctx:List gj) (s:List UInt8) (hl:ctx.length<=1099511627776) (hn:∀b∈ctx,iK b.ty<=1099511627776):
  ah US 121 [.l (ctx.map mr),.s s] [] (.bu (match ff ctx s with|some t=>[ep t,.b true]|none=>[ep cy,.b false])) [] []:=by
 have JY:∀p,p<ctx.length->ff (ctx.take (p+1)) s=if(ctx[p]?.map gj.name)=some s then ctx[p]?.map gj.ty else ff (ctx.take p) s:=by
  have C6:∀(l:List gj) (b:gj),ff (l++[b]) s=if b.name=s then some b.ty else ff l s:=by
   intro l;induction l with
   |nil=>intro b;simp[ff]
   |cons x r ih=>
    intro b;simp only[List.cons_append,ff,ih b];by_cases hb:b.name=s
    ·simp[hb]
    ·simp[hb]
  intro p hp;rw[UZ,UU hp];simp only[Option.toList_some,C6,Option.map_some,Option.some.injEq]
 refine ah.ob Tryz.func121 Tryz.ntmps121 rfl ?_;repeat' first|(refine ab (hK _ ?_);clear hK K)|(refine ae ?_;simp;(try simp(disch:=omega)only[wrap64]);(try(refine gen2 ?_ ?_<;>intro hq<;>try simp at hq)))|refine T.r0 fun K hK=>?_|refine T.seq ?_|refine T.block ?_
 obtain⟨R,hR⟩:∃R,ff ctx s=R:=⟨_,rfl⟩;rw[hR];refine T.gq (fun p:Nat=>⟨[(0,.l (ctx.map mr)),(1,.s s),(4,.c (.ptr 0 0)),(6,.i ((p:Int)-1))],[[.d (.i 0),.nil]],[]⟩) (fun p=>p) (fun p=>p<=ctx.length/\ff (ctx.take p) s=R) (fun p hp=>?_) ctx.length (by simpa using hR) (by simp);obtain⟨hi,he⟩:=hp;cases p with
 |zero=>
  simp[ff]at he;subst he;repeat' first|(refine ab (hK _ ?_);clear hK K)|(refine ae ?_;simp;(try(refine gen2 ?_ ?_<;>intro hq<;>try simp at hq)))|(refine T.ret (aG.bu (Or.inr rfl) ?_)<;>simp[aI,Tryz.results121]<;>omega)|refine T.r0 fun K hK=>?_|refine T.cf rfl ?_|refine T.seq ?_|refine T.exit ?_
 |succ p=>
  rw[JY p (by omega)]at he;have aC:p<ctx.length:=by omega
  obtain⟨b,ht⟩:=bV aC;have eN:b∈ctx:=UW ht;have bn:ctx[p]=b:=by rw[UU aC]at ht;exact Option.some.inj ht
  have lR:(0:Int)<=(p:Int)+1-1:=by omega
  have I1:((p:Int)+1-1)=p:=by omega
  have yl:=b9 b.ty (hn b eN);rw[ht]at he;by_cases hb:b.name=s
  ·simp[hb]at he;subst he;repeat' first|(refine ab (hK _ ?_);clear hK K)|((first|refine ae ?_|refine aa rfl (yl) ?_);simp[aC,bn,lR,I1,hb,mr];(try simp(disch:=omega)only[wrap64]);(try(refine gen2 ?_ ?_<;>intro hq<;>try simp[aC,bn,lR,I1,hb,mr]at hq)))|(refine T.ret (aG.bu (Or.inr rfl) ?_)<;>simp[aI,Tryz.results121]<;>omega)|refine T.r0 fun K hK=>?_|refine T.ct rfl ?_|refine T.seq ?_|refine T.block ?_|refine T.skip ?_
  ·simp[hb]at he;repeat' first|(refine ab (hK _ ?_);clear hK K)|(refine ae ?_;simp[aC,bn,lR,I1,hb,mr];(try simp(disch:=omega)only[wrap64]);(try(refine gen2 ?_ ?_<;>intro hq<;>try simp[aC,bn,lR,I1,hb,mr]at hq)))|(refine⟨p,by dsimp only;omega,⟨by omega,he⟩,rfl,rfl,?_⟩;simp(disch:=omega) [wrap64])|refine T.r0 fun K hK=>?_|refine T.r1 fun K hK=>?_|refine T.ct rfl ?_|refine T.cf rfl ?_|refine T.seq ?_|refine T.block ?_|refine T.skip ?_
theorem BX (ctx:List gj) (s:List UInt8) (t:aH) (hl:ctx.length<=1099511627776):
  ah US 147 [.l (ctx.map mr),.s s,ep t] [] (.l ((ctx++[gj.mk s t]).map mr)) [] []:=by
 refine ah.ob Tryz.func147 Tryz.ntmps147 rfl ?_;repeat' first|((first|refine ab (hK _ ?_)|refine aJ (hK _ ?_));clear hK K)|((first|refine ae ?_|refine aQ ?_);simp[mr];(try(refine gen2 ?_ ?_<;>intro hq<;>try simp[mr]at hq)))|(refine⟨by omega,by omega,?_⟩)|(refine T.ret (aG.val (Or.inr rfl) ?_)<;>simp[aI,Tryz.results147,mr]<;>omega)|refine T.nI (id:=1) mixed (fun i=>i==0) [0,2,7] [4,5,6] 3 [] (by kernel_rfl) fun K hK=>?_|refine T.rs (id:=0) (fun _=>false) fun K hK=>?_
theorem nc:∀(d:Nat) (t:aH),ay d t=true->iK t+2<=2 ^ d
 |0,t,h=>by simp[ay]at h
 |d+1,t,h=>by
  obtain⟨e,he,_,hl,hs⟩:=dR h;obtain rfl:d=e:=by omega
  rw[hU];have hp:1<=2 ^ d:=Nat.one_le_two_pow;have Qs:2 ^(d+1)=2*2 ^ d:=by rw[Nat.pow_succ];omega
  match hk:t.kids,hl with
  |[],_=>simp[cF];omega
  |[a],_=>have:=nc d a (hs a (by simp[hk]));simp[cF];omega
  |[a,b],_=>
   have h1:=nc d a (hs a (by simp[hk]));have h2:=nc d b (hs b (by simp[hk]));simp[cF];omega
theorem wG {t:aH} (h:ay 4 t=true):iK t<=14:=by have:=nc 4 t h;omega
theorem tI:∀(d:Nat) (e:an),d<=1000->fO e<=1099511627776->ah US 96 [cw e,.i d] [] (.b (bm 14 d e)) [] []
 |0,e,_,_=>by
  refine ah.ob Tryz.func96 Tryz.ntmps96 rfl ?_;repeat' first|((first|refine ab (hK _ ?_)|refine aq (hK _ ?_));clear hK K)|((first|refine ae ?_|refine aA ?_);simp;(try(refine gen2 ?_ ?_<;>intro hq<;>try simp at hq)))|(refine T.ret (aG.data (Or.inr rfl) ?_ ?_)<;>simp[Tryz.results96,bm]<;>omega)|refine T.rd (id:=1) mixed (fun _=>false) [] (by kernel_rfl) fun K hK=>?_|refine T.r0 fun K hK=>?_|refine T.ct rfl ?_|refine T.seq ?_
 |d+1,e,hd,hn=>by
  obtain⟨jd,pD,CK,vD⟩:=dh hn;have ru:=vC e.kind;have ij:¬((d:Int)+1<1):=by omega
  have BJ:bm 14 (d+1) e=(decide (e.kind≠14)&&(decide (cv e.kind=e.kids.length)&& eb e)&& e.kids.all (bm 14 d)):=rfl;by_cases u6:e.kind=14
  ·rw[u6]at ru;rw[show bm 14 (d+1) e=false by rw[BJ];simp[u6]];refine ah.ob Tryz.func96 Tryz.ntmps96 rfl ?_;repeat' first|((first|refine ab (hK _ ?_)|refine aq (hK _ ?_));clear hK K)|((first|refine ae ?_|refine aA ?_|refine aa rfl (ru) ?_);simp[ij,u6];(try(refine gen2 ?_ ?_<;>intro hq<;>try simp[ij,u6]at hq)))|(refine T.ret (aG.data (Or.inr rfl) ?_ ?_)<;>simp[Tryz.results96]<;>omega)|refine T.rd (id:=1) mixed (fun _=>false) [] (by kernel_rfl) fun K hK=>?_|refine T.r0 fun K hK=>?_|refine T.ct rfl ?_|refine T.seq ?_
  by_cases hlen:cv e.kind=e.kids.length
  rotate_left
  ·rw[show bm 14 (d+1) e=false by rw[BJ];simp[hlen]];refine ah.ob Tryz.func96 Tryz.ntmps96 rfl ?_;repeat' first|((first|refine ab (hK _ ?_)|refine aq (hK _ ?_));clear hK K)|((first|refine ae ?_|refine aA ?_|refine aa rfl (ru) ?_);simp[ij,hlen];(try(refine gen2 ?_ ?_<;>intro hq<;>try simp[ij,hlen]at hq)))|(refine T.ret (aG.data (Or.inr rfl) ?_ ?_)<;>simp[Tryz.results96]<;>omega)|refine T.rd (id:=1) mixed (fun _=>false) [] (by kernel_rfl) fun K hK=>?_|refine T.r0 fun K hK=>?_|refine T.ct rfl ?_|refine T.seq ?_
  rw[hlen]at ru;have JZ:bm 14 (d+1) e=(eb e && e.kids.all (bm 14 d)):=by rw[BJ];simp[u6,hlen]
  have dM:=DD e u6 jd;obtain⟨R,hR⟩:∃R,e.kids.all (bm 14 d)=R:=⟨_,rfl⟩;rw[JZ,hR];generalize eb e=O at dM;clear BJ JZ;cases O
  ·refine ah.ob Tryz.func96 Tryz.ntmps96 rfl ?_;repeat' first|((first|refine ab (hK _ ?_)|refine aq (hK _ ?_));clear hK K)|((first|refine ae ?_|refine aA ?_|refine aa rfl (ru) ?_|refine aa rfl (dM) ?_);simp[ij,u6];(try(refine gen2 ?_ ?_<;>intro hq<;>try simp[ij,u6]at hq)))|(refine T.ret (aG.data (Or.inr rfl) ?_ ?_)<;>simp[Tryz.results96]<;>omega)|refine T.rd (id:=1) mixed (fun _=>false) [] (by kernel_rfl) fun K hK=>?_|refine T.r0 fun K hK=>?_|refine T.ct rfl ?_|refine T.seq ?_
  refine ah.ob Tryz.func96 Tryz.ntmps96 rfl ?_;repeat' first|((first|refine ab (hK _ ?_)|refine aq (hK _ ?_));clear hK K)|((first|refine ae ?_|refine aA ?_|refine aa rfl (ru) ?_|refine aa rfl (dM) ?_);simp[ij,u6];(try(refine gen2 ?_ ?_<;>intro hq<;>try simp[ij,u6]at hq)))|refine T.rd (id:=1) mixed (fun _=>false) [] (by kernel_rfl) fun K hK=>?_|refine T.r0 fun K hK=>?_|refine T.cf rfl ?_|refine T.seq ?_|refine T.block ?_|refine T.skip ?_
  rw[Bool.true_and];refine T.gq (fun p:Nat=>⟨[(1,.i (d+1)),(2,.c (.ptr 0 0)),(5,.i p)],[(cw e).cells],[]⟩) (fun p=>e.kids.length+1-p) (fun p=>p<=e.kids.length/\(e.kids.drop p).all (bm 14 d)=R) (fun p hp=>?_) 0 (by simpa using hR) (by simp);obtain⟨hi,he⟩:=hp;by_cases aC:p<e.kids.length
  ·obtain⟨u,ht⟩:=bV aC;have eN:u∈e.kids:=UW ht;have bn:e.kids[p]=u:=by rw[UU aC]at ht;exact Option.some.inj ht
   have iA:e.kids.drop p=u::e.kids.drop (p+1):=by rw[UX aC,bn]
   have hu:=tI d u (by omega) (vD u eN);rw[iA,U0]at he;cases hb:bm 14 d u<;>rw[hb]at hu he
   ·repeat' first|(refine ab (hK _ ?_);clear hK K)|((first|refine ae ?_|refine aa rfl (hu) ?_);simp[aC,bn];(try simp(disch:=omega)only[wrap64]);(try(refine gen2 ?_ ?_<;>intro hq<;>try simp[aC,bn]at hq)))|(refine T.ret (aG.data (Or.inr rfl) ?_ ?_)<;>simp[Tryz.results96,<-he]<;>omega)|refine T.r0 fun K hK=>?_|refine T.ct rfl ?_|refine T.seq ?_|refine T.block ?_|refine T.skip ?_
   ·repeat' first|(refine ab (hK _ ?_);clear hK K)|((first|refine ae ?_|refine aa rfl (hu) ?_);simp[aC,bn];(try simp(disch:=omega)only[wrap64]);(try(refine gen2 ?_ ?_<;>intro hq<;>try simp[aC,bn]at hq)))|(refine⟨p+1,by dsimp only;omega,⟨by omega,by simpa using he⟩,rfl,rfl,?_⟩;simp(disch:=omega) [wrap64])|refine T.r0 fun K hK=>?_|refine T.r1 fun K hK=>?_|refine T.ct rfl ?_|refine T.cf rfl ?_|refine T.seq ?_|refine T.block ?_|refine T.skip ?_
  ·have fj:p=e.kids.length:=by omega
   subst fj;simp at he;repeat' first|(refine ab (hK _ ?_);clear hK K)|(refine ae ?_;simp[aC];(try(refine gen2 ?_ ?_<;>intro hq<;>try simp[aC]at hq)))|(refine T.ret (aG.data (Or.inr rfl) ?_ ?_)<;>simp[Tryz.results96,he]<;>omega)|refine T.r0 fun K hK=>?_|refine T.cf rfl ?_|refine T.seq ?_|refine T.exit ?_
theorem ia (e:an) (hn:fO e<=1099511627776):ah US 41 [cw e] [] (.b (aR e)) [] []:=by
 have h1:=tI 12 e (by omega) hn;have h2:=tH 12 e (by omega) hn;rw[show aR e=(bm 14 12 e && decide (b5 12 e<=30))from rfl];generalize bm 14 12 e=a at*;generalize b5 12 e=b at*;refine ah.ob Tryz.func41 Tryz.ntmps41 rfl ?_;repeat' first|(refine ab (hK _ ?_);clear hK K)|((first|refine ae ?_|refine aa rfl (h1) ?_|refine aa rfl (h2) ?_);simp;(try(refine gen2 ?_ ?_<;>intro hq<;>try simp at hq)))|(refine T.ret (aG.data (Or.inr rfl) ?_ ?_)<;>simp[Tryz.results41, *]<;>omega)|refine T.r0 fun K hK=>?_
def RK (e:an) (ts:List aH) (r:Option aH):Prop:=∃t',(∀t,r=some t->t'=t)/\ah US 165 [cw e,.l (ts.map cD)] [] (.bu [ep t',.b r.isSome]) [] []
def RL (ctx:List gj) (e:an):Prop:=∃t',(∀t,ti ctx e=some t->t'=t)/\ah US 146 [.l (ctx.map mr),cw e] [] (.bu [ep t',.b (ti ctx e).isSome]) [] []
def Ly (ctx:List gj) (e:an):Option aH:=if MQ ctx=true/\aR e=true then ti ctx e else none
abbrev OL:Option aH->List AV
 |some t=>[ep t,.b true]
 |none=>[ep cy,.b false]
end Go.Proofs.YtloolmchekcmeaaGreat
