/- A part. -/
import Derived.Test.YtloolmchekcmeaaGreatXB4
import Derived.Test.YtloolmchekcmeaaGreatChecked
set_option linter.unusedVariables false
set_option linter.unusedSimpArgs false
open Go.Proofs.Tryz renaming prog->YS
open Bool renaming not_eq_true->YT,and_eq_true->YU
open List renaming getElem?_eq_getElem->YV,mem_of_getElem?->YW,drop_eq_getElem_cons->YX,zipWith->YY,drop_length->YZ,take_add_one->Y0,all_cons->Y1,mem_append->Y2
open Option renaming isSome_some->Y3,isSome_none->Y4
namespace Go.Proofs.YtloolmchekcmeaaGreat
attribute [-simp] Go.Av.ja Go.Av.gV Go.Av.jb Go.Av.gW Go.Av.dI Go.Av.rS Go.Av.iE Go.Av.iy Go.Av.cU Go.Av.ic Go.Av.ck Go.Av.bK Go.Av.back Go.Av.fD Go.Av.one
open Go Go.Av
attribute [local irreducible] T
attribute [local simp] aL au
@[simp] theorem ev:td YS 3=some {ag:=false,sz:=1,lS:=8,zero:=some [.d (.int .i64 0)],el:=none,ar:=none,fl:=[],ik:=some .i64,cO:=false,nz:=false}:=dQ (by kernel_rfl)
@[simp] theorem PS:td YS 4=some {ag:=false,sz:=1,lS:=1,zero:=some [.d (.bool false)],el:=none,ar:=none,fl:=[],ik:=none,cO:=false,nz:=true}:=dQ (by kernel_rfl)
@[simp] theorem b6:td YS 9=some {ag:=false,sz:=1,lS:=16,zero:=some [.d (.str [])],el:=none,ar:=none,fl:=[],ik:=none,cO:=true,nz:=false}:=dQ (by kernel_rfl)
@[simp] theorem JI:td YS 36=some {ag:=false,sz:=1,lS:=24,zero:=some [.nil],el:=some 38,ar:=none,fl:=[],ik:=none,cO:=false,nz:=false}:=dQ (by kernel_rfl)
@[simp] theorem KT:td YS 38=some {ag:=true,sz:=2,lS:=32,zero:=some [.d (.int .i64 0),.nil],el:=none,ar:=none,fl:=[(0,1),(1,1)],ik:=none,cO:=false,nz:=false}:=dQ (by kernel_rfl)
@[simp] theorem JJ:td YS 39=some {ag:=false,sz:=1,lS:=24,zero:=some [.nil],el:=some 41,ar:=none,fl:=[],ik:=none,cO:=false,nz:=false}:=dQ (by kernel_rfl)
@[simp] theorem KU:td YS 41=some {ag:=true,sz:=9,lS:=128,zero:=some [.d (.int .i64 0),.d (.str []),.d (.int .i64 0),.d (.int .i64 0),.nil,.d (.int .i64 0),.nil,.d (.int .i64 0),.nil],el:=none,ar:=none,fl:=[(0,1),(1,1),(2,1),(3,2),(5,2),(7,1),(8,1)],ik:=none,cO:=false,nz:=false}:=dQ (by kernel_rfl)
@[simp] theorem Ap:td YS 23=some {ag:=false,sz:=1,lS:=24,zero:=some [.nil],el:=some 25,ar:=none,fl:=[],ik:=none,cO:=false,nz:=false}:=dQ (by kernel_rfl)
@[simp] theorem BX:td YS 25=some {ag:=true,sz:=2,lS:=32,zero:=some [.d (.int .i64 0),.nil],el:=none,ar:=none,fl:=[(0,1),(1,1)],ik:=none,cO:=false,nz:=false}:=dQ (by kernel_rfl)
@[simp] theorem JK:td YS 26=some {ag:=false,sz:=1,lS:=24,zero:=some [.nil],el:=some 28,ar:=none,fl:=[],ik:=none,cO:=false,nz:=false}:=dQ (by kernel_rfl)
@[simp] theorem KV:td YS 28=some {ag:=true,sz:=9,lS:=128,zero:=some [.d (.int .i64 0),.d (.str []),.d (.int .i64 0),.d (.int .i64 0),.nil,.d (.int .i64 0),.nil,.d (.int .i64 0),.nil],el:=none,ar:=none,fl:=[(0,1),(1,1),(2,1),(3,2),(5,2),(7,1),(8,1)],ik:=none,cO:=false,nz:=false}:=dQ (by kernel_rfl)
theorem mixed:Tryz.prog.follows .mixedOrders=true:=by kernel_rfl
end Go.Proofs.YtloolmchekcmeaaGreat
namespace Go.Proofs.YtloolmchekcmeaaGreat
attribute [-simp] Go.Av.dI Go.Av.rS Go.Av.iE Go.Av.iy Go.Av.cU Go.Av.ic Go.Av.ck Go.Av.bK Go.Av.back Go.Av.fD Go.Av.one
open Go Go.Av
attribute [local irreducible] T
attribute [local simp] aL au
theorem w9 (x lo hi:Int):ah YS 151 [.i x,.i lo,.i hi] [] (.b (nB x lo hi)) [] []:=by
 refine ah.ob Tryz.func151 Tryz.ntmps151 rfl ?_;repeat' first|(refine ab (hK _ ?_);clear hK K)|(refine ae ?_;simp;(try(refine gen fun q hq=>?_;cases q<;>(try simp at hq))))|refine T.r0 fun K hK=>?_|refine T.r1 fun K hK=>?_|refine T.cond rfl (fun hc=>?_) (fun hc=>absurd hc (by decide))|refine T.cond rfl (fun hc=>absurd hc (by decide)) (fun hc=>?_)|refine T.seq ?_|refine T.block ?_|refine T.skip ?_|refine T.exit ?_
 all_goals(refine T.ret (aB.data (Or.inr rfl) ?_ ?_)<;>simp[Tryz.results151,nB, *]<;>omega)
theorem zp (s:List UInt8):ah YS 141 [.s s] [] (.b (dT s)) [] []:=by
 refine ah.ob Tryz.func141 Tryz.ntmps141 rfl ?_
 match s with
 |[]=>
  repeat' first|(refine ab (hK _ ?_);clear hK K)|(refine ae ?_;simp;(try(refine gen fun q hq=>?_;cases q<;>(try simp at hq))))|refine T.r0 fun K hK=>?_|refine T.r1 fun K hK=>?_|refine T.cond rfl (fun hc=>?_) (fun hc=>absurd hc (by decide))|refine T.cond rfl (fun hc=>absurd hc (by decide)) (fun hc=>?_)|refine T.seq ?_|refine T.block ?_|refine T.skip ?_|refine T.exit ?_
  all_goals(refine T.ret (aB.data (Or.inr rfl) ?_ ?_)<;>simp[Tryz.results141,dT])
 |[c]=>
  repeat' first|(refine ab (hK _ ?_);clear hK K)|(refine ae ?_;simp;(try(refine gen fun q hq=>?_;cases q<;>(try simp at hq))))|refine T.r0 fun K hK=>?_|refine T.r1 fun K hK=>?_|refine T.cond rfl (fun hc=>?_) (fun hc=>absurd hc (by decide))|refine T.cond rfl (fun hc=>absurd hc (by decide)) (fun hc=>?_)|refine T.seq ?_|refine T.block ?_|refine T.skip ?_|refine T.exit ?_
  all_goals(refine T.ret (aB.data (Or.inr rfl) ?_ ?_)<;>simp[Tryz.results141,dT, *]<;>omega)
 |c::d::r=>
  have h2:¬((r.length:Int)+1+1=1):=by omega
  repeat' first|(refine ab (hK _ ?_);clear hK K)|(refine ae ?_;simp[h2,EK h2];(try(refine gen fun q hq=>?_;cases q<;>(try simp[h2]at hq))))|refine T.r0 fun K hK=>?_|refine T.r1 fun K hK=>?_|refine T.cond rfl (fun hc=>?_) (fun hc=>absurd hc (by decide))|refine T.cond rfl (fun hc=>absurd hc (by decide)) (fun hc=>?_)|refine T.seq ?_|refine T.block ?_|refine T.skip ?_|refine T.exit ?_
  all_goals(refine T.ret (aB.data (Or.inr rfl) ?_ ?_)<;>simp[Tryz.results141,dT])
theorem zq (s:List UInt8):ah YS 156 [.s s] [] (.b (dT s)) [] []:=by
 refine ah.ob Tryz.func156 Tryz.ntmps156 rfl ?_
 match s with
 |[]=>
  repeat' first|(refine ab (hK _ ?_);clear hK K)|(refine ae ?_;simp;(try(refine gen fun q hq=>?_;cases q<;>(try simp at hq))))|refine T.r0 fun K hK=>?_|refine T.r1 fun K hK=>?_|refine T.cond rfl (fun hc=>?_) (fun hc=>absurd hc (by decide))|refine T.cond rfl (fun hc=>absurd hc (by decide)) (fun hc=>?_)|refine T.seq ?_|refine T.block ?_|refine T.skip ?_|refine T.exit ?_
  all_goals(refine T.ret (aB.data (Or.inr rfl) ?_ ?_)<;>simp[Tryz.results156,dT])
 |[c]=>
  repeat' first|(refine ab (hK _ ?_);clear hK K)|(refine ae ?_;simp;(try(refine gen fun q hq=>?_;cases q<;>(try simp at hq))))|refine T.r0 fun K hK=>?_|refine T.r1 fun K hK=>?_|refine T.cond rfl (fun hc=>?_) (fun hc=>absurd hc (by decide))|refine T.cond rfl (fun hc=>absurd hc (by decide)) (fun hc=>?_)|refine T.seq ?_|refine T.block ?_|refine T.skip ?_|refine T.exit ?_
  all_goals(refine T.ret (aB.data (Or.inr rfl) ?_ ?_)<;>simp[Tryz.results156,dT, *]<;>omega)
 |c::d::r=>
  have h2:¬((r.length:Int)+1+1=1):=by omega
  repeat' first|(refine ab (hK _ ?_);clear hK K)|(refine ae ?_;simp[h2,EK h2];(try(refine gen fun q hq=>?_;cases q<;>(try simp[h2]at hq))))|refine T.r0 fun K hK=>?_|refine T.r1 fun K hK=>?_|refine T.cond rfl (fun hc=>?_) (fun hc=>absurd hc (by decide))|refine T.cond rfl (fun hc=>absurd hc (by decide)) (fun hc=>?_)|refine T.seq ?_|refine T.block ?_|refine T.skip ?_|refine T.exit ?_
  all_goals(refine T.ret (aB.data (Or.inr rfl) ?_ ?_)<;>simp[Tryz.results156,dT])
theorem u7 (t:aG):ah YS 152 [dF t] [] (.b (ed t)) [] []:=by
 refine ah.ob Tryz.func152 Tryz.ntmps152 rfl ?_;repeat' first|(refine ab (hK _ ?_);clear hK K)|(refine ae ?_;simp;(try(refine gen fun q hq=>?_;cases q<;>(try simp at hq))))|refine T.r0 fun K hK=>?_|refine T.r1 fun K hK=>?_|refine T.cond rfl (fun hc=>?_) (fun hc=>absurd hc (by decide))|refine T.cond rfl (fun hc=>absurd hc (by decide)) (fun hc=>?_)|refine T.seq ?_|refine T.block ?_|refine T.skip ?_|refine T.exit ?_
 all_goals(refine T.ret (aB.data (Or.inr rfl) ?_ ?_)<;>simp[Tryz.results152,ed, *])
theorem zr (t:aG):ah YS 157 [dF t] [] (.b (ed t)) [] []:=by
 refine ah.ob Tryz.func157 Tryz.ntmps157 rfl ?_;repeat' first|(refine ab (hK _ ?_);clear hK K)|(refine ae ?_;simp;(try(refine gen fun q hq=>?_;cases q<;>(try simp at hq))))|refine T.r0 fun K hK=>?_|refine T.r1 fun K hK=>?_|refine T.cond rfl (fun hc=>?_) (fun hc=>absurd hc (by decide))|refine T.cond rfl (fun hc=>absurd hc (by decide)) (fun hc=>?_)|refine T.seq ?_|refine T.block ?_|refine T.skip ?_|refine T.exit ?_
 all_goals(refine T.ret (aB.data (Or.inr rfl) ?_ ?_)<;>simp[Tryz.results157,ed, *])
theorem DJ (n:Int):ah YS 154 [.i n] [] (.b (Dv n)) [] []:=by
 refine ah.ob Tryz.func154 Tryz.ntmps154 rfl ?_;repeat' first|(refine T.rs (fun _=>false) fun K hK=>?_;(repeat (refine ae ?_;simp));refine ab (hK _ ?_);clear hK K)|(refine T.fm (fun _=>false) fun K hK=>?_;(repeat (refine ae ?_;simp));refine ab (hK _ ?_);clear hK K)|refine T.cond rfl (fun hc=>?_) (fun hc=>absurd hc (by decide))|refine T.cond rfl (fun hc=>absurd hc (by decide)) (fun hc=>?_)|refine T.seq ?_|refine T.block ?_|refine T.skip ?_|refine T.exit ?_
 refine T.fm (fun _=>false) fun K hK=>?_
 repeat (refine ae ?_;simp)
 refine aa (by simp) (w9 n 1 99) ?_;simp;refine C7.gen fun q hq=>?_
 cases q
 ·repeat (refine ae ?_;simp)
  refine aa (by simp) (w9 n (-99) (-1)) ?_;simp;repeat' first|(refine ab (hK _ ?_);clear hK K)|(refine ae ?_;simp;(try(refine gen fun q hq=>?_;cases q<;>(try simp at hq))))|refine T.r0 fun K hK=>?_|refine T.r1 fun K hK=>?_|refine T.cond rfl (fun hc=>?_) (fun hc=>absurd hc (by decide))|refine T.cond rfl (fun hc=>absurd hc (by decide)) (fun hc=>?_)|refine T.seq ?_|refine T.block ?_|refine T.skip ?_|refine T.exit ?_
  all_goals(refine T.ret (aB.data (Or.inr rfl) ?_ ?_)<;>simp[Tryz.results154,Dv, *])
 ·repeat' first|(refine ab (hK _ ?_);clear hK K)|(refine ae ?_;simp;(try(refine gen fun q hq=>?_;cases q<;>(try simp at hq))))|refine T.r0 fun K hK=>?_|refine T.r1 fun K hK=>?_|refine T.cond rfl (fun hc=>?_) (fun hc=>absurd hc (by decide))|refine T.cond rfl (fun hc=>absurd hc (by decide)) (fun hc=>?_)|refine T.seq ?_|refine T.block ?_|refine T.skip ?_|refine T.exit ?_
  all_goals(refine T.ret (aB.data (Or.inr rfl) ?_ ?_)<;>simp[Tryz.results154,Dv, *])
theorem zt (k:Int):ah YS 133 [.i k] [] (.i (cl k)) [] []:=by
 refine ah.ob Tryz.func133 Tryz.ntmps133 rfl ?_;repeat' first|(refine ab (hK _ ?_);clear hK K)|(refine ae ?_;simp;(try(refine gen fun q hq=>?_;cases q<;>(try simp at hq))))|refine T.r0 fun K hK=>?_|refine T.r1 fun K hK=>?_|refine T.cond rfl (fun hc=>?_) (fun hc=>absurd hc (by decide))|refine T.cond rfl (fun hc=>absurd hc (by decide)) (fun hc=>?_)|refine T.seq ?_|refine T.block ?_|refine T.skip ?_|refine T.exit ?_
 all_goals(refine T.ret (aB.data (Or.inr rfl) ?_ ?_)<;>simp[Tryz.results133,cl, *])
@[simp] theorem PT:td YS 77=some {ag:=false,sz:=1,lS:=24,zero:=some [.nil],el:=some 3,ar:=none,fl:=[],ik:=none,cO:=false,nz:=false}:=dQ (by kernel_rfl)
theorem BY (k:Int):ah YS 150 [.i k] [] (.i (cl k)) [] []:=by
 refine ah.ob Tryz.func150 Tryz.ntmps150 rfl ?_;repeat' first|(refine T.rs (fun _=>false) fun K hK=>?_;(repeat (refine ae ?_;simp));refine ab (hK _ ?_);clear hK K)|(refine T.fm (fun _=>false) fun K hK=>?_;(repeat (refine ae ?_;simp));refine ab (hK _ ?_);clear hK K)|refine T.cond rfl (fun hc=>?_) (fun hc=>absurd hc (by decide))|refine T.cond rfl (fun hc=>absurd hc (by decide)) (fun hc=>?_)|refine T.seq ?_|refine T.block ?_|refine T.skip ?_|refine T.exit ?_
 refine T.fm (fun _=>false) fun K hK=>?_
 repeat (refine ae ?_;simp)
 refine aa (by simp) (w9 k 1 14) ?_;simp;by_cases h:nB k 1 14=true
 ·have hr:k=1\/k=2\/k=3\/k=4\/k=5\/k=6\/k=7\/k=8\/k=9\/k=10\/k=11\/k=12\/k=13\/k=14:=by
   simp[nB]at h;omega
  rcases hr with rfl|rfl|rfl|rfl|rfl|rfl|rfl|rfl|rfl|rfl|rfl|rfl|rfl|rfl
  all_goals
   simp[nB]at h;have hw:∀n:Int,0<=n->n<=20->IntKind.i64.wrap n=n:=fun n h1 h2=>wrap64 (by omega) (by omega)
   repeat' first|(refine ab (hK _ ?_);clear hK K)|(refine ae ?_;simp[nB,hw];(try(refine gen fun q hq=>?_;cases q<;>(try simp at hq))))|refine T.r0 fun K hK=>?_|refine T.r1 fun K hK=>?_|refine T.cond rfl (fun hc=>?_) (fun hc=>absurd hc (by decide))|refine T.cond rfl (fun hc=>absurd hc (by decide)) (fun hc=>?_)|refine T.seq ?_|refine T.block ?_|refine T.skip ?_|refine T.exit ?_
   all_goals(refine T.ret (aB.data (Or.inr rfl) ?_ ?_)<;>simp[Tryz.results150,cl])
 ·have hk:cl k=-1:=by
   simp only[nB,YT,Bool.and_eq_false_iff,decide_eq_false_iff_not]at h;have:k<1\/14<k:=by omega
   simp only[cl]
   repeat (rw[if_neg (by omega)])
  simp only[YT]at h;repeat' first|(refine ab (hK _ ?_);clear hK K)|(refine ae ?_;simp[h];(try(refine gen fun q hq=>?_;cases q<;>(try simp at hq))))|refine T.r0 fun K hK=>?_|refine T.r1 fun K hK=>?_|refine T.cond rfl (fun hc=>?_) (fun hc=>absurd hc (by decide))|refine T.cond rfl (fun hc=>absurd hc (by decide)) (fun hc=>?_)|refine T.seq ?_|refine T.block ?_|refine T.skip ?_|refine T.exit ?_
  all_goals(refine T.ret (aB.data (Or.inr rfl) ?_ ?_)<;>simp[Tryz.results150,hk])
end Go.Proofs.YtloolmchekcmeaaGreat
namespace Go.Proofs.YtloolmchekcmeaaGreat
attribute [-simp] Go.Av.dI Go.Av.rS Go.Av.iE Go.Av.iy Go.Av.cU Go.Av.ic Go.Av.ck Go.Av.bK Go.Av.back Go.Av.fD Go.Av.one
open Go Go.Av
attribute [local irreducible] T ah cx ie aG.kind aG.kids al.kind al.name al.num al.ty al.fr al.label al.kids
attribute [local simp] aL au
set_option maxHeartbeats 4000000
theorem tT (k:Int):ah YS 128 [.i k] [] (.i (cy k)) [] []:=by
 refine ah.ob Tryz.func128 Tryz.ntmps128 rfl ?_;repeat' first|(refine ab (hK _ ?_);clear hK K)|(refine ae ?_;simp;(try(refine gen2 ?_ ?_<;>intro hq<;>try simp at hq)))|(refine T.ret (aB.data (Or.inr rfl) ?_ ?_)<;>simp[Tryz.results128,cy, *]<;>omega)|refine T.r0 fun K hK=>?_|refine T.r1 fun K hK=>?_|refine T.ct rfl ?_|refine T.cf rfl ?_|refine T.seq ?_|refine T.block ?_|refine T.skip ?_
theorem xc:∀(d:Nat) (t:aG),d<=1000->fE t<=1099511627776->ah YS 143 [dF t,.i d] [] (.b (ak d t)) [] []
 |0,t,_,_=>by
  refine ah.ob Tryz.func143 Tryz.ntmps143 rfl ?_;repeat' first|((first|refine ab (hK _ ?_)|refine aC (hK _ ?_));clear hK K)|((first|refine ae ?_|refine aI ?_);simp;(try(refine gen2 ?_ ?_<;>intro hq<;>(try simp at hq)<;>try(have:True:=hq;clear this hq))))|(refine T.ret (aB.data (Or.inr rfl) ?_ ?_)<;>simp[Tryz.results143,ak]<;>omega)|refine T.r0 fun K hK=>?_|refine T.rd mixed (fun _=>false) [] (by kernel_rfl) fun K hK=>?_|refine T.ct rfl ?_|refine T.seq ?_
 |d+1,t,hd,hn=>by
  rw[eK]at hn;have hlen:=gg t.kids;have gk:¬((d:Int)+1<1):=by omega
  refine ah.ob Tryz.func143 Tryz.ntmps143 rfl ?_;repeat' first|((first|refine ab (hK _ ?_)|refine aC (hK _ ?_));clear hK K)|((first|(first|refine ae ?_|refine aI ?_)|refine aa rfl (tT _) ?_);simp[gk];(try(refine gen2 ?_ ?_<;>intro hq<;>(try simp[gk]at hq)<;>try(have:True:=hq;clear this hq))))|(refine T.ret (aB.data (Or.inr rfl) ?_ ?_)<;>simp[Tryz.results143,ak, *]<;>omega)|refine T.r0 fun K hK=>?_|refine T.rd mixed (fun _=>false) [] (by kernel_rfl) fun K hK=>?_|refine T.ct rfl ?_|refine T.cf rfl ?_|refine T.seq ?_|refine T.block ?_|refine T.skip ?_
  obtain⟨R,hR⟩:∃R,t.kids.all (ak d)=R:=⟨_,rfl⟩;rw[show ak (d+1) t=R by simp[ak,hq,hR]];refine T.gy (fun p:Nat=>⟨[(1,.i (d+1)),(2,.c (.ptr 0 0)),(5,.i p)],[(dF t).cells],[]⟩) (fun p=>t.kids.length+1-p) (fun p=>p<=t.kids.length/\(t.kids.drop p).all (ak d)=R) (fun p hp=>?_) 0 (by simpa using hR) (by simp);obtain⟨hi,he⟩:=hp;by_cases ax:p<t.kids.length
  ·obtain⟨u,ht⟩:=bR ax;have eQ:u∈t.kids:=YW ht;have bf:t.kids[p]=u:=by rw[YV ax]at ht;exact Option.some.inj ht
   have gP:t.kids.drop p=u::t.kids.drop (p+1):=by rw[YX ax,bf]
   have hu:=xc d u (by omega) (by have:=gh eQ;omega);rw[gP,Y1]at he;cases hb:ak d u<;>rw[hb]at hu he
   ·repeat' first|(refine ab (hK _ ?_);clear hK K)|(refine ae ?_;simp[ax,bf];(try simp(disch:=omega)only[wrap64]);(try(refine gen2 ?_ ?_<;>intro hq<;>(try simp[ax,bf]at hq)<;>try(have:True:=hq;clear this hq))))|(refine aa rfl (hu) ?_;simp[ax,bf];(try simp(disch:=omega)only[wrap64]);(try(refine gen2 ?_ ?_<;>intro hq<;>(try simp[ax,bf]at hq)<;>try(have:True:=hq;clear this hq))))|(refine T.ret (aB.data (Or.inr rfl) ?_ ?_)<;>simp[Tryz.results143,<-he]<;>omega)|refine T.r0 fun K hK=>?_|refine T.ct rfl ?_|refine T.seq ?_|refine T.block ?_|refine T.skip ?_
   ·repeat' first|(refine ab (hK _ ?_);clear hK K)|(refine ae ?_;simp[ax,bf];(try simp(disch:=omega)only[wrap64]);(try(refine gen2 ?_ ?_<;>intro hq<;>(try simp[ax,bf]at hq)<;>try(have:True:=hq;clear this hq))))|(refine aa rfl (hu) ?_;simp[ax,bf];(try simp(disch:=omega)only[wrap64]);(try(refine gen2 ?_ ?_<;>intro hq<;>(try simp[ax,bf]at hq)<;>try(have:True:=hq;clear this hq))))|(refine⟨p+1,by dsimp only;omega,⟨by omega,by simpa using he⟩,?_⟩;simp(disch:=omega) [wrap64])|refine T.r0 fun K hK=>?_|refine T.r1 fun K hK=>?_|refine T.ct rfl ?_|refine T.cf rfl ?_|refine T.seq ?_|refine T.block ?_|refine T.skip ?_
  ·have ff:p=t.kids.length:=by omega
   subst ff;simp at he;repeat' first|(refine ab (hK _ ?_);clear hK K)|(refine ae ?_;simp[ax];(try(refine gen2 ?_ ?_<;>intro hq<;>(try simp[ax]at hq)<;>try(have:True:=hq;clear this hq))))|(refine T.ret (aB.data (Or.inr rfl) ?_ ?_)<;>simp[Tryz.results143,he]<;>omega)|refine T.r0 fun K hK=>?_|refine T.cf rfl ?_|refine T.seq ?_|refine T.exit ?_
theorem yC (f:FuncId) (l:List aG) (q:aG->Bool) (hl:l.length<=4611686018427387904) (hf:∀t∈l,ah YS f [dF t] [] (.b (q t)) [] []):
  ah YS 115 [.l (l.map cx),.c (.fn f [])] [] (.i (eB q l 0)) [] []:=by
 refine ah.ob Tryz.func115 Tryz.ntmps115 rfl ?_;repeat' first|(refine ab (hK _ ?_);clear hK K)|(refine ae ?_;simp;(try(refine gen2 ?_ ?_<;>intro hq<;>try simp at hq)))|refine T.r0 fun K hK=>?_|refine T.seq ?_|refine T.block ?_
 obtain⟨R,hR⟩:∃R,eB q l 0=R:=⟨_,rfl⟩;rw[hR];refine T.gy (fun p:Nat=>⟨[(0,.l (l.map cx)),(1,.c (.fn f [])),(7,.i l.length),(8,.i p)],[],[]⟩) (fun p=>l.length+1-p) (fun p=>p<=l.length/\eB q (l.drop p) p=R) (fun p hp=>?_) 0 (by simpa using hR) (by simp);obtain⟨hi,he⟩:=hp;by_cases ax:p<l.length
 ·obtain⟨u,ht⟩:=bR ax;have eQ:u∈l:=YW ht;have bf:l[p]=u:=by rw[YV ax]at ht;exact Option.some.inj ht
  have gP:l.drop p=u::l.drop (p+1):=by rw[YX ax,bf]
  have hu:=hf u eQ;rw[gP,eB]at he;cases hb:q u<;>rw[hb]at hu he
  ·repeat' first|(refine ab (hK _ ?_);clear hK K)|(refine ae ?_;simp[ax,bf];(try simp(disch:=omega)only[wrap64]);(try(refine gen2 ?_ ?_<;>intro hq<;>try simp[ax,bf]at hq)))|(refine aa rfl (hu) ?_;simp[ax,bf];(try simp(disch:=omega)only[wrap64]);(try(refine gen2 ?_ ?_<;>intro hq<;>try simp[ax,bf]at hq)))|(refine⟨p+1,by dsimp only;omega,⟨by omega,by simpa using he⟩,?_⟩;simp(disch:=omega) [wrap64])|refine T.r0 fun K hK=>?_|refine T.r1 fun K hK=>?_|refine T.ct rfl ?_|refine T.cf rfl ?_|refine T.seq ?_|refine T.block ?_|refine T.skip ?_
  ·repeat' first|(refine ab (hK _ ?_);clear hK K)|(refine ae ?_;simp[ax,bf];(try simp(disch:=omega)only[wrap64]);(try(refine gen2 ?_ ?_<;>intro hq<;>try simp[ax,bf]at hq)))|(refine aa rfl (hu) ?_;simp[ax,bf];(try simp(disch:=omega)only[wrap64]);(try(refine gen2 ?_ ?_<;>intro hq<;>try simp[ax,bf]at hq)))|(refine T.ret (aB.data (Or.inr rfl) ?_ ?_)<;>simp[Tryz.results115,<-he]<;>omega)|refine T.r0 fun K hK=>?_|refine T.ct rfl ?_|refine T.seq ?_|refine T.block ?_|refine T.skip ?_
 ·have ff:p=l.length:=by omega
  subst ff;simp[eB]at he;repeat' first|(refine ab (hK _ ?_);clear hK K)|(refine ae ?_;simp[ax];(try(refine gen2 ?_ ?_<;>intro hq<;>try simp[ax]at hq)))|(refine T.ret (aB.data (Or.inr rfl) ?_ ?_)<;>simp[Tryz.results115,he]<;>omega)|refine T.r0 fun K hK=>?_|refine T.cf rfl ?_|refine T.seq ?_|refine T.exit ?_
theorem tU (f:FuncId) (l:List aG) (q:aG->Bool) (hl:l.length<=4611686018427387904) (hf:∀t∈l,ah YS f [dF t] [] (.b (q t)) [] []):
  ah YS 64 [.l (l.map cx),.c (.fn f [])] [] (.b (l.any q)) [] []:=by
 refine ah.ob Tryz.func64 Tryz.ntmps64 rfl ?_;rw[<-mc (i:=0) (by omega)];repeat' first|(refine ab (hK _ ?_);clear hK K)|((first|refine ae ?_|refine aa rfl (yC f l q hl hf) ?_);simp;(try(refine gen2 ?_ ?_<;>intro hq<;>try simp at hq)))|(refine T.ret (aB.data (Or.inr rfl) ?_ ?_)<;>simp[Tryz.results64, *]<;>omega)|refine T.r0 fun K hK=>?_
theorem yD (f:FuncId) (d:DV) (l:List aG) (q:aG->Bool) (hl:l.length<=4611686018427387904) (hf:∀t∈l,ah YS f [dF t,.c (.ptr 0 0)] (dV [[d]]) (.b (q t)) (dV [[d]]) []):
  ah YS 115 [.l (l.map cx),.c (.fn f [0])] (dV [[d]]) (.i (eB q l 0)) (dV [[d]]) []:=by
 refine ah.ob Tryz.func115 Tryz.ntmps115 rfl ?_;repeat' first|(refine ab (hK _ ?_);clear hK K)|(refine ae ?_;simp;(try(refine gen2 ?_ ?_<;>intro hq<;>try simp at hq)))|refine T.r0 fun K hK=>?_|refine T.seq ?_|refine T.block ?_
 obtain⟨R,hR⟩:∃R,eB q l 0=R:=⟨_,rfl⟩;rw[hR];refine T.gy (fun p:Nat=>⟨[(0,.l (l.map cx)),(1,.c (.fn f [0])),(7,.i l.length),(8,.i p)],[[.d d]],[]⟩) (fun p=>l.length+1-p) (fun p=>p<=l.length/\eB q (l.drop p) p=R) (fun p hp=>?_) 0 (by simpa using hR) (by simp);obtain⟨hi,he⟩:=hp;by_cases ax:p<l.length
 ·obtain⟨u,ht⟩:=bR ax;have eQ:u∈l:=YW ht;have bf:l[p]=u:=by rw[YV ax]at ht;exact Option.some.inj ht
  have gP:l.drop p=u::l.drop (p+1):=by rw[YX ax,bf]
  have hu:=hf u eQ;rw[gP,eB]at he;cases hb:q u<;>rw[hb]at hu he
  ·repeat' first|(refine ab (hK _ ?_);clear hK K)|(refine ae ?_;simp[ax,bf];(try simp(disch:=omega)only[wrap64]);(try(refine gen2 ?_ ?_<;>intro hq<;>try simp[ax,bf]at hq)))|(refine me 0 [d] rfl rfl hu ?_;simp)|(refine⟨p+1,by dsimp only;omega,⟨by omega,by simpa using he⟩,?_⟩;simp(disch:=omega) [wrap64])|refine T.r0 fun K hK=>?_|refine T.r1 fun K hK=>?_|refine T.ct rfl ?_|refine T.cf rfl ?_|refine T.seq ?_|refine T.block ?_|refine T.skip ?_
  ·repeat' first|(refine ab (hK _ ?_);clear hK K)|(refine ae ?_;simp[ax,bf];(try simp(disch:=omega)only[wrap64]);(try(refine gen2 ?_ ?_<;>intro hq<;>try simp[ax,bf]at hq)))|(refine me 0 [d] rfl rfl hu ?_;simp)|refine T.r0 fun K hK=>?_|refine T.ct rfl ?_|refine T.seq ?_|refine T.block ?_|refine T.skip ?_
   refine T.ret (aB.oS (Or.inr rfl) ?_ ?_ ?_)<;>simp[Tryz.results115,<-he]
 ·have ff:p=l.length:=by omega
  subst ff;simp[eB]at he;repeat' first|(refine ab (hK _ ?_);clear hK K)|(refine ae ?_;simp[ax];(try(refine gen2 ?_ ?_<;>intro hq<;>try simp[ax]at hq)))|refine T.r0 fun K hK=>?_|refine T.cf rfl ?_|refine T.seq ?_|refine T.exit ?_
  refine T.ret (aB.oS (Or.inr rfl) ?_ ?_ ?_)<;>simp[Tryz.results115,he]
theorem tV (f:FuncId) (d:DV) (l:List aG) (q:aG->Bool) (hl:l.length<=4611686018427387904) (hf:∀t∈l,ah YS f [dF t,.c (.ptr 0 0)] (dV [[d]]) (.b (q t)) (dV [[d]]) []):
  ah YS 64 [.l (l.map cx),.c (.fn f [0])] (dV [[d]]) (.b (l.any q)) (dV [[d]]) []:=by
 refine ah.ob Tryz.func64 Tryz.ntmps64 rfl ?_;rw[<-mc (i:=0) (by omega)];repeat' first|(refine ab (hK _ ?_);clear hK K)|((first|refine ae ?_|refine me 0 [d] rfl rfl (yD f d l q hl hf) ?_);simp;(try(refine gen2 ?_ ?_<;>intro hq<;>try simp at hq)))|refine T.r0 fun K hK=>?_
 all_goals(refine T.ret (aB.oS (Or.inr rfl) ?_ ?_ ?_)<;>simp[Tryz.results64, *])
theorem qO (f:FuncId) (l m:List aG) (q:aG->aG->Bool) (hl:l.length<=4611686018427387904) (hf:∀a∈l,∀b∈m,ah YS f [dF a,dF b] [] (.b (q a b)) [] []):
  ah YS 72 [.l (l.map cx),.l (m.map cx),.c (.fn f [])] [] (.b (jm q l m)) [] []:=by
 refine ah.ob Tryz.func72 Tryz.ntmps72 rfl ?_;by_cases oX:l.length=m.length
 rotate_left
 ·have dj:¬(l.length:Int)=m.length:=by omega
  repeat' first|(refine ab (hK _ ?_);clear hK K)|(refine ae ?_;simp[dj];(try(refine gen2 ?_ ?_<;>intro hq<;>try simp[dj]at hq)))|(refine T.ret (aB.data (Or.inr rfl) ?_ ?_)<;>simp[Tryz.results72,Jy oX]<;>omega)|refine T.r0 fun K hK=>?_|refine T.ct rfl ?_|refine T.seq ?_
 repeat' first|(refine ab (hK _ ?_);clear hK K)|(refine ae ?_;simp[oX];(try(refine gen2 ?_ ?_<;>intro hq<;>try simp[oX]at hq)))|refine T.r0 fun K hK=>?_|refine T.cf rfl ?_|refine T.seq ?_|refine T.block ?_|refine T.skip ?_
 obtain⟨R,hR⟩:∃R,jm q l m=R:=⟨_,rfl⟩;rw[hR];refine T.gy (fun x:Nat×List (List CV)=>⟨[(0,.l (l.map cx)),(1,.l (m.map cx)),(2,.c (.fn f [])),(15,.l (l.map cx)),(16,.i m.length),(17,.i x.1)],x.2,[]⟩) (fun x=>l.length+1-x.1) (fun x=>x.1<=l.length/\jm q (l.drop x.1) (m.drop x.1)=R) (fun x hp=>?_) (0,[]) (by simpa using hR) (by simp);obtain⟨p,G⟩:=x;obtain⟨hi,he⟩:=hp;dsimp only at hi he⊢;by_cases ax:p<l.length
 ·have gu:p<m.length:=by omega
  obtain⟨u,ht⟩:=bR ax;have eQ:u∈l:=YW ht;have bf:l[p]=u:=by rw[YV ax]at ht;exact Option.some.inj ht
  have gP:l.drop p=u::l.drop (p+1):=by rw[YX ax,bf]
  obtain⟨v,hv⟩:=bR gu;have NY:v∈m:=YW hv;have sI:m[p]=v:=by rw[YV gu]at hv;exact Option.some.inj hv
  have hu:=hf u eQ v NY;rw[gP,drop_cons gu,sI,y7]at he;cases hb:q u v<;>rw[hb]at hu he
  ·repeat' first|(refine ab (hK _ ?_);clear hK K)|(refine ae ?_;simp[ax,gu,bf,sI];(try simp(disch:=omega)only[wrap64]);(try(refine gen2 ?_ ?_<;>intro hq<;>try simp[ax,gu,bf,sI]at hq)))|(refine aa rfl (hu) ?_;simp[ax,gu,bf,sI];(try simp(disch:=omega)only[wrap64]);(try(refine gen2 ?_ ?_<;>intro hq<;>try simp[ax,gu,bf,sI]at hq)))|(refine T.ret (aB.data (Or.inr rfl) ?_ ?_)<;>simp[Tryz.results72,<-he]<;>omega)|refine T.r0 fun K hK=>?_|refine T.ct rfl ?_|refine T.seq ?_|refine T.block ?_|refine T.skip ?_
  ·repeat' first|(refine ab (hK _ ?_);clear hK K)|(refine ae ?_;simp[ax,gu,bf,sI];(try simp(disch:=omega)only[wrap64]);(try(refine gen2 ?_ ?_<;>intro hq<;>try simp[ax,gu,bf,sI]at hq)))|(refine aa rfl (hu) ?_;simp[ax,gu,bf,sI];(try simp(disch:=omega)only[wrap64]);(try(refine gen2 ?_ ?_<;>intro hq<;>try simp[ax,gu,bf,sI]at hq)))|(refine⟨(p+1,_),by dsimp only;omega,⟨by dsimp only;omega,by simpa using he⟩,rfl,rfl,?_⟩;simp(disch:=omega) [wrap64])|refine T.r0 fun K hK=>?_|refine T.r1 fun K hK=>?_|refine T.ct rfl ?_|refine T.cf rfl ?_|refine T.seq ?_|refine T.block ?_|refine T.skip ?_
 ·have ff:p=l.length:=by omega
  subst ff;rw[YZ,oX,YZ,BF]at he;repeat' first|(refine ab (hK _ ?_);clear hK K)|(refine ae ?_;simp[ax,oX];(try(refine gen2 ?_ ?_<;>intro hq<;>try simp[ax,oX]at hq)))|(refine T.ret (aB.data (Or.inr rfl) ?_ ?_)<;>simp[Tryz.results72,<-he]<;>omega)|refine T.r0 fun K hK=>?_|refine T.cf rfl ?_|refine T.seq ?_|refine T.exit ?_
theorem gp (t:aG) (hn:fE t<=1099511627776):ah YS 116 [dF t] [] (.b (ak 4 t)) [] []:=by
 refine ah.ob Tryz.func116 Tryz.ntmps116 rfl ?_;repeat' first|(refine ab (hK _ ?_);clear hK K)|((first|refine ae ?_|refine aa rfl (xc 4 t (by omega) hn) ?_);simp)|(refine T.ret (aB.data (Or.inr rfl) ?_ ?_)<;>simp[Tryz.results116]<;>omega)|refine T.r0 fun K hK=>?_
theorem Aq (d:Int) (hd:0<=d/\d<=1000) (t:aG) (q:Bool) (h:ah YS 111 [dF t,.i (d+1)] [] (.b q) [] []):
  ah YS 138 [dF t,.c (.ptr 0 0)] (dV [[.i d]]) (.b (!q)) (dV [[.i d]]) []:=by
 refine ah.ob Tryz.func138 Tryz.ntmps138 rfl ?_;repeat' first|(refine ab (hK _ ?_);clear hK K)|((first|refine ae ?_|refine aa rfl (h) ?_);simp;(try simp(disch:=omega)only[wrap64]))|refine T.r0 fun K hK=>?_
 refine T.ret (aB.oS (Or.inr rfl) ?_ ?_ ?_)<;>simp[Tryz.results138]
theorem u9:∀(d:Nat) (t:aG),d<=4->fE t<=1099511627776->ah YS 111 [dF t,.i (5-d)] [] (.b (ak d t)) [] []
 |0,t,_,_=>by
  refine ah.ob Tryz.func111 Tryz.ntmps111 rfl ?_;repeat' first|(refine ab (hK _ ?_);clear hK K)|(refine ae ?_;simp;(try(refine gen2 ?_ ?_<;>intro hq<;>try simp at hq)))|(refine T.ret (aB.data (Or.inr rfl) ?_ ?_)<;>simp[Tryz.results111,ak]<;>omega)|refine T.r0 fun K hK=>?_|refine T.r1 fun K hK=>?_|refine T.ct rfl ?_|refine T.cf rfl ?_|refine T.seq ?_|refine T.block ?_|refine T.skip ?_
 |d+1,t,hd,hn=>by
  rw[eK]at hn;have hlen:=gg t.kids;have gk:(5:Int)-(d+1)<=4:=by omega
  have hc:=tV 138 (.i (5-(d+1))) t.kids (fun t=> !ak d t) (by omega) (fun u hu=>Aq (5-(d+1)) (by omega) u _ (by
   have:=u9 d u (by omega) (by have:=gh hu;omega);rwa[show(5:Int)-(d+1)+1=5-d by omega]))
  have dh:(!t.kids.any fun t=> !ak d t)=t.kids.all (ak d):=pz _ _;rw[show ak (d+1) t=(decide (cy t.kind=t.kids.length)&& t.kids.all (ak d))from rfl,<-dh];generalize (t.kids.any fun t=> !ak d t)=R at hc⊢;refine ah.ob Tryz.func111 Tryz.ntmps111 rfl ?_;repeat' first|(refine ab (hK _ ?_);clear hK K)|(refine ae ?_;simp[gk];(try(refine gen2 ?_ ?_<;>intro hq<;>try simp[gk]at hq)))|(refine me 1 [.i (5-(d+1))] rfl (by simp) hc ?_;simp)|(refine T.ret (aB.data (Or.inr rfl) ?_ ?_)<;>simp[Tryz.results111,cy, *]<;>omega)|refine T.r0 fun K hK=>?_|refine T.r1 fun K hK=>?_|refine T.ct rfl ?_|refine T.cf rfl ?_|refine T.seq ?_|refine T.block ?_|refine T.skip ?_
theorem gY (t:aG) (hn:fE t<=1099511627776):ah YS 60 [dF t] [] (.b (ak 4 t)) [] []:=by
 refine ah.ob Tryz.func60 Tryz.ntmps60 rfl ?_;repeat' first|(refine ab (hK _ ?_);clear hK K)|((first|refine ae ?_|refine aa rfl (u9 4 t (by omega) hn) ?_);simp)|(refine T.ret (aB.data (Or.inr rfl) ?_ ?_)<;>simp[Tryz.results60]<;>omega)|refine T.r0 fun K hK=>?_
theorem dH:(a b:aG)->fE a<=1099511627776->ah YS 166 [dF a,dF b] [] (.b (aE a b)) [] []
 |.mk k l,b,hn=>by
  rw[eK]at hn;have hlen:=gg l;have hc:=qO 166 l b.kids aE (by simp at hn;omega) (fun u hu v hv=>dH u v (by have:=gh hu;simp at hn;omega));rw[nR];simp only[aG.bP,aG.b4];generalize jm aE l b.kids=R at hc⊢;refine ah.ob Tryz.func166 Tryz.ntmps166 rfl ?_;repeat' first|(refine ab (hK _ ?_);clear hK K)|((first|refine ae ?_|refine aa rfl (hc) ?_);simp;(try(refine gen2 ?_ ?_<;>intro hq<;>try simp at hq)))|(refine T.ret (aB.data (Or.inr rfl) ?_ ?_)<;>simp[Tryz.results166, *]<;>omega)|refine T.r0 fun K hK=>?_
termination_by a=>SizeOf.sizeOf a
decreasing_by have:=List.sizeOf_lt_of_mem hu;simp;omega
theorem yE (a b:aG) (ha:fE a<=1099511627776) (hb:fE b<=1099511627776):ah YS 153 [dF a,dF b] [] (.b (ak 4 a && ak 4 b && aE a b)) [] []:=by
 refine ah.ob Tryz.func153 Tryz.ntmps153 rfl ?_;repeat' first|(refine ab (hK _ ?_);clear hK K)|((first|refine ae ?_|refine aa rfl (gY a ha) ?_|refine aa rfl (gY b hb) ?_|refine aa rfl (dH a b ha) ?_);simp;(try(refine gen2 ?_ ?_<;>intro hq<;>try simp at hq)))|(refine T.ret (aB.data (Or.inr rfl) ?_ ?_)<;>simp[Tryz.results153, *]<;>omega)|refine T.r0 fun K hK=>?_
theorem c6:∀(d:Nat) (a b:aG),d<=1000->ak d a=true->ak d b=true->ah YS 122 [dF a,dF b] [] (.b (aE a b)) [] []
 |0,a,b,_,ha,_=>by simp[ak]at ha
 |d+1,a,b,hd,ha,hb=>by
  obtain⟨e,he,FQ,VV,BZ⟩:=eg ha;obtain⟨e',KW,M5,VW,vZ⟩:=eg hb;obtain rfl:d=e:=by omega
  obtain rfl:d=e':=by omega
  rw[nR];refine ah.ob Tryz.func122 Tryz.ntmps122 rfl ?_;by_cases jl:a.kind=1
  ·repeat' first|(refine ab (hK _ ?_);clear hK K)|(refine ae ?_;simp[jl];(try(refine gen2 ?_ ?_<;>intro hq<;>try simp[jl]at hq)))|(refine T.ret (aB.data (Or.inr rfl) ?_ ?_)<;>simp[Tryz.results122,jl]<;>omega)|refine T.r0 fun K hK=>?_|refine T.ct rfl ?_|refine T.seq ?_
  by_cases kA:b.kind=1
  ·repeat' first|(refine ab (hK _ ?_);clear hK K)|(refine ae ?_;simp[jl,kA,EK jl];(try(refine gen2 ?_ ?_<;>intro hq<;>try simp[jl,kA,EK jl]at hq)))|(refine T.ret (aB.data (Or.inr rfl) ?_ ?_)<;>simp[Tryz.results122,jl,kA]<;>omega)|refine T.r0 fun K hK=>?_|refine T.ct rfl ?_|refine T.seq ?_
  by_cases hk:a.kind=b.kind
  rotate_left
  ·repeat' first|(refine ab (hK _ ?_);clear hK K)|(refine ae ?_;simp[jl,kA,hk];(try(refine gen2 ?_ ?_<;>intro hq<;>try simp[jl,kA,hk]at hq)))|(refine T.ret (aB.data (Or.inr rfl) ?_ ?_)<;>simp[Tryz.results122,jl,kA,hk]<;>omega)|refine T.r0 fun K hK=>?_|refine T.ct rfl ?_|refine T.cf rfl ?_|refine T.seq ?_|refine T.skip ?_
  have oX:a.kids.length=b.kids.length:=by rw[hk]at FQ;omega
  repeat' first|(refine ab (hK _ ?_);clear hK K)|(refine ae ?_;simp[jl,kA,hk];(try(refine gen2 ?_ ?_<;>intro hq<;>try simp[jl,kA,hk]at hq)))|refine T.r0 fun K hK=>?_|refine T.cf rfl ?_|refine T.seq ?_|refine T.block ?_|refine T.skip ?_
  obtain⟨R,hR⟩:∃R,jm aE a.kids b.kids=R:=⟨_,rfl⟩;rw[show(decide (a.kind=1)||decide (b.kind=1)||(decide (a.kind=b.kind)&& jm aE a.kids b.kids))=R by simp[jl,kA,hk,hR]];refine T.gy (fun p:Nat=>⟨[(2,.c (.ptr 0 0)),(3,.c (.ptr 1 0)),(5,.i p)],[(dF a).cells,(dF b).cells],[]⟩) (fun p=>a.kids.length+1-p) (fun p=>p<=a.kids.length/\jm aE (a.kids.drop p) (b.kids.drop p)=R) (fun p hp=>?_) 0 (by simpa using hR) (by simp[hk]);obtain⟨hi,he⟩:=hp;by_cases ax:p<a.kids.length
  ·have gu:p<b.kids.length:=by omega
   obtain⟨u,ht⟩:=bR ax;have eQ:u∈a.kids:=YW ht;have bf:a.kids[p]=u:=by rw[YV ax]at ht;exact Option.some.inj ht
   have gP:a.kids.drop p=u::a.kids.drop (p+1):=by rw[YX ax,bf]
   obtain⟨v,hv⟩:=bR gu;have NY:v∈b.kids:=YW hv;have sI:b.kids[p]=v:=by rw[YV gu]at hv;exact Option.some.inj hv
   have hu:=c6 d u v (by omega) (BZ u eQ) (vZ v NY);rw[gP,drop_cons gu,sI,y7]at he;cases hb:aE u v<;>rw[hb]at hu he
   ·repeat' first|((first|refine ab (hK _ ?_)|refine aC (hK _ ?_));clear hK K)|((first|refine ae ?_|refine aI ?_);simp[ax,gu,bf,sI];(try simp(disch:=omega)only[wrap64]);(try(refine gen2 ?_ ?_<;>intro hq<;>try simp[ax,gu,bf,sI]at hq)))|(refine aa rfl (hu) ?_;simp[ax,gu,bf,sI];(try simp(disch:=omega)only[wrap64]);(try(refine gen2 ?_ ?_<;>intro hq<;>try simp[ax,gu,bf,sI]at hq)))|(refine T.ret (aB.data (Or.inr rfl) ?_ ?_)<;>simp[Tryz.results122,<-he]<;>omega)|refine T.r0 fun K hK=>?_|refine T.rd mixed (fun _=>false) [] (by kernel_rfl) fun K hK=>?_|refine T.ct rfl ?_|refine T.seq ?_|refine T.block ?_|refine T.skip ?_
   ·repeat' first|((first|refine ab (hK _ ?_)|refine aC (hK _ ?_));clear hK K)|((first|refine ae ?_|refine aI ?_);simp[ax,gu,bf,sI];(try simp(disch:=omega)only[wrap64]);(try(refine gen2 ?_ ?_<;>intro hq<;>try simp[ax,gu,bf,sI]at hq)))|(refine aa rfl (hu) ?_;simp[ax,gu,bf,sI];(try simp(disch:=omega)only[wrap64]);(try(refine gen2 ?_ ?_<;>intro hq<;>try simp[ax,gu,bf,sI]at hq)))|(refine⟨p+1,by dsimp only;omega,⟨by omega,by simpa using he⟩,rfl,rfl,?_⟩;simp(disch:=omega) [wrap64])|refine T.r0 fun K hK=>?_|refine T.r1 fun K hK=>?_|refine T.rd mixed (fun _=>false) [] (by kernel_rfl) fun K hK=>?_|refine T.ct rfl ?_|refine T.cf rfl ?_|refine T.seq ?_|refine T.block ?_|refine T.skip ?_
  ·have ff:p=a.kids.length:=by omega
   subst ff;rw[YZ,oX,YZ,BF]at he;repeat' first|(refine ab (hK _ ?_);clear hK K)|(refine ae ?_;simp[ax,oX];(try(refine gen2 ?_ ?_<;>intro hq<;>try simp[ax,oX]at hq)))|(refine T.ret (aB.data (Or.inr rfl) ?_ ?_)<;>simp[Tryz.results122,<-he]<;>omega)|refine T.r0 fun K hK=>?_|refine T.cf rfl ?_|refine T.seq ?_|refine T.exit ?_
theorem xd (k:Int):k=1\/k=5\/k=13\/k=14\/k=2\/(¬k=1/\¬k=5/\¬k=13/\¬k=14/\¬k=2):=by omega
theorem JL (n:Int):nB n 0 0=decide (n=0):=by simp only[nB,<-Bool.decide_and];exact decide_eq_decide.2 (by omega)
theorem HJ (e:al) (hk:e.kind≠14) (ht:fE e.ty<=1099511627776):ah YS 134 [cL e] [] (.b (fw e)) [] []:=by
 have tf:=zq e.name;have yh:=gp e.ty ht;have jE:=zr e.ty;have oY:=zr e.fr;rcases xd e.kind with h1|h1|h1|h1|h1|⟨h1,h2,h3,h4,h5⟩
 ·have hr:fw e=(dT e.name && decide (e.num=0)&& ed e.ty &&(ed e.fr && decide (e.label=0))):=by simp[fw,h1,dZ,cb,JL]
  rw[hr];refine ah.ob Tryz.func134 Tryz.ntmps134 rfl ?_;repeat' first|(refine ab (hK _ ?_);clear hK K)|((first|refine ae ?_|refine aa rfl (tf) ?_|refine aa rfl (jE) ?_|refine aa rfl (oY) ?_);simp[h1];(try(refine gen2 ?_ ?_<;>intro hq<;>try simp[h1]at hq)))|(refine T.ret (aB.data (Or.inr rfl) ?_ ?_)<;>simp[Tryz.results134, *]<;>omega)|refine T.r0 fun K hK=>?_|refine T.ct rfl ?_|refine T.cf rfl ?_|refine T.seq ?_|refine T.skip ?_
 ·have hr:fw e=(dT e.name && decide (e.num=0)&& ak 4 e.ty &&(ed e.fr && decide (e.label=0))):=by simp[fw,h1,dZ,cb,JL]
  rw[hr];refine ah.ob Tryz.func134 Tryz.ntmps134 rfl ?_;repeat' first|(refine ab (hK _ ?_);clear hK K)|((first|refine ae ?_|refine aa rfl (tf) ?_|refine aa rfl (yh) ?_|refine aa rfl (oY) ?_);simp[h1];(try(refine gen2 ?_ ?_<;>intro hq<;>try simp[h1]at hq)))|(refine T.ret (aB.data (Or.inr rfl) ?_ ?_)<;>simp[Tryz.results134, *]<;>omega)|refine T.r0 fun K hK=>?_|refine T.ct rfl ?_|refine T.cf rfl ?_|refine T.seq ?_|refine T.skip ?_
 ·have hr:fw e=(decide (e.name=[])&& decide (e.num=0)&& ak 4 e.ty &&(ed e.fr && decide (e.label=0))):=by simp[fw,h1,dZ,cb,JL]
  have GK:e.name=[]->dT e.name=false:=fun h=>by rw[h];rfl
  rw[hr];by_cases dj:e.name=[]
  ·rw[GK dj,dj]at tf;refine ah.ob Tryz.func134 Tryz.ntmps134 rfl ?_;repeat' first|(refine ab (hK _ ?_);clear hK K)|((first|refine ae ?_|refine aa rfl (tf) ?_|refine aa rfl (yh) ?_|refine aa rfl (oY) ?_);simp[h1,dj];(try(refine gen2 ?_ ?_<;>intro hq<;>try simp[h1,dj]at hq)))|(refine T.ret (aB.data (Or.inr rfl) ?_ ?_)<;>simp[Tryz.results134, *]<;>omega)|refine T.r0 fun K hK=>?_|refine T.ct rfl ?_|refine T.cf rfl ?_|refine T.seq ?_|refine T.skip ?_
  ·generalize dT e.name=nb at tf;refine ah.ob Tryz.func134 Tryz.ntmps134 rfl ?_;repeat' first|(refine ab (hK _ ?_);clear hK K)|((first|refine ae ?_|refine aa rfl (tf) ?_);simp[h1,dj];(try(refine gen2 ?_ ?_<;>intro hq<;>try simp[h1,dj]at hq)))|(refine T.ret (aB.data (Or.inr rfl) ?_ ?_)<;>simp[Tryz.results134, *]<;>omega)|refine T.r0 fun K hK=>?_|refine T.ct rfl ?_|refine T.seq ?_
 ·exact absurd h1 hk
 ·have hr:fw e=(decide (e.name=[])&&(decide (0<=e.num)&& decide (e.num<=999))&& ed e.ty &&(ed e.fr && decide (e.label=0))):=by simp[fw,h1,dZ,cb,nB]
  have GK:e.name=[]->dT e.name=false:=fun h=>by rw[h];rfl
  rw[hr];by_cases dj:e.name=[]
  ·rw[GK dj,dj]at tf;refine ah.ob Tryz.func134 Tryz.ntmps134 rfl ?_;repeat' first|(refine ab (hK _ ?_);clear hK K)|((first|refine ae ?_|refine aa rfl (tf) ?_|refine aa rfl (jE) ?_|refine aa rfl (oY) ?_);simp[h1,dj];(try(refine gen2 ?_ ?_<;>intro hq<;>try simp[h1,dj]at hq)))|(refine T.ret (aB.data (Or.inr rfl) ?_ ?_)<;>simp[Tryz.results134, *]<;>omega)|refine T.r0 fun K hK=>?_|refine T.ct rfl ?_|refine T.cf rfl ?_|refine T.seq ?_|refine T.skip ?_
  ·generalize dT e.name=nb at tf;refine ah.ob Tryz.func134 Tryz.ntmps134 rfl ?_;repeat' first|(refine ab (hK _ ?_);clear hK K)|((first|refine ae ?_|refine aa rfl (tf) ?_);simp[h1,dj];(try(refine gen2 ?_ ?_<;>intro hq<;>try simp[h1,dj]at hq)))|(refine T.ret (aB.data (Or.inr rfl) ?_ ?_)<;>simp[Tryz.results134, *]<;>omega)|refine T.r0 fun K hK=>?_|refine T.ct rfl ?_|refine T.seq ?_
 ·have hr:fw e=(decide (e.name=[])&& decide (e.num=0)&& ed e.ty &&(ed e.fr && decide (e.label=0))):=by simp[fw,h1,h2,h3,h4,h5,dZ,cb,JL]
  have GK:e.name=[]->dT e.name=false:=fun h=>by rw[h];rfl
  rw[hr];by_cases dj:e.name=[]
  ·rw[GK dj,dj]at tf;refine ah.ob Tryz.func134 Tryz.ntmps134 rfl ?_;repeat' first|(refine ab (hK _ ?_);clear hK K)|((first|refine ae ?_|refine aa rfl (tf) ?_|refine aa rfl (jE) ?_|refine aa rfl (oY) ?_);simp[h1,h2,h3,h4,h5,dj];(try(refine gen2 ?_ ?_<;>intro hq<;>try simp[h1,h2,h3,h4,h5,dj]at hq)))|(refine T.ret (aB.data (Or.inr rfl) ?_ ?_)<;>simp[Tryz.results134, *]<;>omega)|refine T.r0 fun K hK=>?_|refine T.ct rfl ?_|refine T.cf rfl ?_|refine T.seq ?_|refine T.skip ?_
  ·generalize dT e.name=nb at tf;refine ah.ob Tryz.func134 Tryz.ntmps134 rfl ?_;repeat' first|(refine ab (hK _ ?_);clear hK K)|((first|refine ae ?_|refine aa rfl (tf) ?_);simp[h1,h2,h3,h4,h5,dj];(try(refine gen2 ?_ ?_<;>intro hq<;>try simp[h1,h2,h3,h4,h5,dj]at hq)))|(refine T.ret (aB.data (Or.inr rfl) ?_ ?_)<;>simp[Tryz.results134, *]<;>omega)|refine T.r0 fun K hK=>?_|refine T.ct rfl ?_|refine T.seq ?_
theorem FR (e:al) (hl:e.kids.length<=1099511627776) (ht:fE e.ty<=1099511627776) (hf:fE e.fr<=1099511627776):ah YS 131 [cL e] [] (.b (gA e)) [] []:=by
 have gL:=BY e.kind;have tf:=zp e.name;have yh:=gY e.ty ht;have jE:=u7 e.ty;have oY:=u7 e.fr;have JM:=yE e.fr e.ty hf ht;have NZ:=DJ e.label;have yF:=w9 e.num 0 0;have N0:=w9 e.num 0 999;by_cases mD:cl e.kind=e.kids.length
 rotate_left
 ·rw[show gA e=false by simp[gA,mD]];refine ah.ob Tryz.func131 Tryz.ntmps131 rfl ?_;repeat' first|((first|refine ab (hK _ ?_)|refine aC (hK _ ?_));clear hK K)|((first|(first|refine ae ?_|refine aI ?_)|refine aa rfl (gL) ?_);simp[mD];(try(refine gen2 ?_ ?_<;>intro hq<;>try simp[mD]at hq)))|(refine T.ret (aB.data (Or.inr rfl) ?_ ?_)<;>simp[Tryz.results131]<;>omega)|refine T.r0 fun K hK=>?_|refine T.rd mixed (fun _=>false) [] (by kernel_rfl) fun K hK=>?_|refine T.ct rfl ?_|refine T.seq ?_
 rw[show gA e=fw e by simp[gA,mD]];rw[mD]at gL;rcases xd e.kind with h1|h1|h1|h1|h1|⟨h1,h2,h3,h4,h5⟩
 ·have hr:fw e=(dT e.name && nB e.num 0 0 && ed e.ty &&(ed e.fr && decide (e.label=0))):=by simp[fw,h1,dZ,cb]
  rw[hr];rw[h1]at gL;generalize nB e.num 0 0=i0 at yF;refine ah.ob Tryz.func131 Tryz.ntmps131 rfl ?_;repeat' first|((first|refine ab (hK _ ?_)|refine aC (hK _ ?_));clear hK K)|((first|(first|refine ae ?_|refine aI ?_)|refine aa rfl (gL) ?_|refine aa rfl (tf) ?_|refine aa rfl (yF) ?_|refine aa rfl (jE) ?_|refine aa rfl (oY) ?_);simp[h1];(try(refine gen2 ?_ ?_<;>intro hq<;>try simp[h1]at hq)))|(refine T.ret (aB.data (Or.inr rfl) ?_ ?_)<;>simp[Tryz.results131, *]<;>omega)|refine T.r0 fun K hK=>?_|refine T.r1 fun K hK=>?_|refine T.rd mixed (fun _=>false) [] (by kernel_rfl) fun K hK=>?_|refine T.ct rfl ?_|refine T.cf rfl ?_|refine T.seq ?_|refine T.block ?_|refine T.skip ?_
 ·have hr:fw e=(dT e.name && nB e.num 0 0 && ak 4 e.ty &&(ed e.fr && decide (e.label=0))):=by simp[fw,h1,dZ,cb]
  rw[hr];rw[h1]at gL;generalize nB e.num 0 0=i0 at yF;refine ah.ob Tryz.func131 Tryz.ntmps131 rfl ?_;repeat' first|((first|refine ab (hK _ ?_)|refine aC (hK _ ?_));clear hK K)|((first|(first|refine ae ?_|refine aI ?_)|refine aa rfl (gL) ?_|refine aa rfl (tf) ?_|refine aa rfl (yF) ?_|refine aa rfl (yh) ?_|refine aa rfl (oY) ?_);simp[h1];(try(refine gen2 ?_ ?_<;>intro hq<;>try simp[h1]at hq)))|(refine T.ret (aB.data (Or.inr rfl) ?_ ?_)<;>simp[Tryz.results131, *]<;>omega)|refine T.r0 fun K hK=>?_|refine T.r1 fun K hK=>?_|refine T.rd mixed (fun _=>false) [] (by kernel_rfl) fun K hK=>?_|refine T.ct rfl ?_|refine T.cf rfl ?_|refine T.seq ?_|refine T.block ?_|refine T.skip ?_
 ·have hr:fw e=(decide (e.name=[])&& nB e.num 0 0 && ak 4 e.ty &&(ed e.fr && decide (e.label=0))):=by simp[fw,h1,dZ,cb]
  rw[hr];rw[h1]at gL;generalize nB e.num 0 0=i0 at yF;refine ah.ob Tryz.func131 Tryz.ntmps131 rfl ?_;repeat' first|((first|refine ab (hK _ ?_)|refine aC (hK _ ?_));clear hK K)|((first|(first|refine ae ?_|refine aI ?_)|refine aa rfl (gL) ?_|refine aa rfl (yF) ?_|refine aa rfl (yh) ?_|refine aa rfl (oY) ?_);simp[h1];(try(refine gen2 ?_ ?_<;>intro hq<;>try simp[h1]at hq)))|(refine T.ret (aB.data (Or.inr rfl) ?_ ?_)<;>simp[Tryz.results131, *]<;>omega)|refine T.r0 fun K hK=>?_|refine T.r1 fun K hK=>?_|refine T.rd mixed (fun _=>false) [] (by kernel_rfl) fun K hK=>?_|refine T.ct rfl ?_|refine T.cf rfl ?_|refine T.seq ?_|refine T.block ?_|refine T.skip ?_
 ·have hr:fw e=(decide (e.name=[])&& nB e.num 0 0 && ak 4 e.ty &&((ak 4 e.fr && ak 4 e.ty && aE e.fr e.ty)&& Dv e.label)):=by simp[fw,h1,dZ,cb,pB]
  rw[hr];rw[h1]at gL;generalize nB e.num 0 0=i0 at yF;generalize vB:(ak 4 e.fr && ak 4 e.ty && aE e.fr e.ty)=g1 at JM;generalize Dv e.label=g2 at NZ;refine ah.ob Tryz.func131 Tryz.ntmps131 rfl ?_;repeat' first|((first|refine ab (hK _ ?_)|refine aC (hK _ ?_));clear hK K)|((first|(first|refine ae ?_|refine aI ?_)|refine aa rfl (gL) ?_|refine aa rfl (yF) ?_|refine aa rfl (yh) ?_|refine aa rfl (JM) ?_|refine aa rfl (NZ) ?_);simp[h1];(try(refine gen2 ?_ ?_<;>intro hq<;>try simp[h1]at hq)))|(refine T.ret (aB.data (Or.inr rfl) ?_ ?_)<;>simp[Tryz.results131, *]<;>omega)|refine T.r0 fun K hK=>?_|refine T.r1 fun K hK=>?_|refine T.rd mixed (fun _=>false) [] (by kernel_rfl) fun K hK=>?_|refine T.ct rfl ?_|refine T.cf rfl ?_|refine T.seq ?_|refine T.block ?_|refine T.skip ?_
 ·have hr:fw e=(decide (e.name=[])&& nB e.num 0 999 && ed e.ty &&(ed e.fr && decide (e.label=0))):=by simp[fw,h1,dZ,cb]
  rw[hr];rw[h1]at gL;generalize nB e.num 0 999=i0 at N0;refine ah.ob Tryz.func131 Tryz.ntmps131 rfl ?_;repeat' first|((first|refine ab (hK _ ?_)|refine aC (hK _ ?_));clear hK K)|((first|(first|refine ae ?_|refine aI ?_)|refine aa rfl (gL) ?_|refine aa rfl (N0) ?_|refine aa rfl (jE) ?_|refine aa rfl (oY) ?_);simp[h1];(try(refine gen2 ?_ ?_<;>intro hq<;>try simp[h1]at hq)))|(refine T.ret (aB.data (Or.inr rfl) ?_ ?_)<;>simp[Tryz.results131, *]<;>omega)|refine T.r0 fun K hK=>?_|refine T.r1 fun K hK=>?_|refine T.rd mixed (fun _=>false) [] (by kernel_rfl) fun K hK=>?_|refine T.ct rfl ?_|refine T.cf rfl ?_|refine T.seq ?_|refine T.block ?_|refine T.skip ?_
 ·have hr:fw e=(decide (e.name=[])&& nB e.num 0 0 && ed e.ty &&(ed e.fr && decide (e.label=0))):=by simp[fw,h1,h2,h3,h4,h5,dZ,cb]
  rw[hr];generalize nB e.num 0 0=i0 at yF;refine ah.ob Tryz.func131 Tryz.ntmps131 rfl ?_;repeat' first|((first|refine ab (hK _ ?_)|refine aC (hK _ ?_));clear hK K)|((first|(first|refine ae ?_|refine aI ?_)|refine aa rfl (gL) ?_|refine aa rfl (yF) ?_|refine aa rfl (jE) ?_|refine aa rfl (oY) ?_);simp[h1,h2,h3,h4,h5];(try(refine gen2 ?_ ?_<;>intro hq<;>try simp[h1,h2,h3,h4,h5]at hq)))|(refine T.ret (aB.data (Or.inr rfl) ?_ ?_)<;>simp[Tryz.results131, *]<;>omega)|refine T.r0 fun K hK=>?_|refine T.r1 fun K hK=>?_|refine T.rd mixed (fun _=>false) [] (by kernel_rfl) fun K hK=>?_|refine T.ct rfl ?_|refine T.cf rfl ?_|refine T.seq ?_|refine T.block ?_|refine T.skip ?_
theorem cE {e:al} (h:e9 e<=1099511627776):fE e.ty<=1099511627776/\fE e.fr<=1099511627776/\e.kids.length<=1099511627776/\∀u∈e.kids,e9 u<=1099511627776:=by
 rw[j7]at h;have:=pA e.kids;exact⟨by omega,by omega,by omega,fun u hu=>by have:=wM hu;omega⟩
theorem xe:∀(d:Nat) (e:al),d<=1000->e9 e<=1099511627776->ah YS 97 [cL e,.i d] [] (.i (cT d e)) [] []
 |0,e,_,hn=>by
  obtain⟨jE,oY,xf,qP⟩:=cE hn;refine ah.ob Tryz.func97 Tryz.ntmps97 rfl ?_;repeat' first|(refine ab (hK _ ?_);clear hK K)|(refine ae ?_;simp;(try(refine gen2 ?_ ?_<;>intro hq<;>try simp at hq)))|refine T.r0 fun K hK=>?_|refine T.seq ?_|refine T.block ?_
  refine T.gy (fun _:Unit=>⟨[(1,.i 0),(2,.c (.ptr 0 0)),(5,.i 1),(6,.i 0)],[(cL e).cells],[]⟩) (fun _=>0) (fun _=>True) (fun _ _=>?_) () trivial (by simp);repeat' first|(refine ab (hK _ ?_);clear hK K)|(refine ae ?_;simp;(try simp(disch:=omega)only[wrap64]);(try(refine gen2 ?_ ?_<;>intro hq<;>try simp at hq)))|(refine T.ret (aB.data (Or.inr rfl) ?_ ?_)<;>simp[Tryz.results97,cT]<;>omega)|refine T.r0 fun K hK=>?_|refine T.cf rfl ?_|refine T.seq ?_|refine T.exit ?_
 |d+1,e,hd,hn=>by
  obtain⟨jE,oY,xf,qP⟩:=cE hn;have gk:(0:Int)<(d:Int)+1:=by omega
  have kS:=wN (d+1) e;obtain⟨R,hR⟩:∃R,cT (d+1) e=R:=⟨_,rfl⟩;rw[hR]at kS⊢;refine ah.ob Tryz.func97 Tryz.ntmps97 rfl ?_;repeat' first|(refine ab (hK _ ?_);clear hK K)|(refine ae ?_;simp;(try(refine gen2 ?_ ?_<;>intro hq<;>try simp at hq)))|refine T.r0 fun K hK=>?_|refine T.seq ?_|refine T.block ?_
  refine T.gy (fun x:Nat×Nat=>⟨[(1,.i (d+1)),(2,.c (.ptr 0 0)),(5,.i x.2),(6,.i x.1)],[(cL e).cells],[]⟩) (fun x=>e.kids.length+1-x.1) (fun x=>x.1<=e.kids.length/\x.2+((e.kids.drop x.1).map (cT d)).sum=R) (fun x hx=>?_) (0,1) (by simpa[cT]using hR) (by simp);obtain⟨p,k⟩:=x;obtain⟨hi,he⟩:=hx;dsimp only at hi he⊢;by_cases ax:p<e.kids.length
  ·obtain⟨u,ht⟩:=bR ax;have eQ:u∈e.kids:=YW ht;have bf:e.kids[p]=u:=by rw[YV ax]at ht;exact Option.some.inj ht
   have gP:e.kids.drop p=u::e.kids.drop (p+1):=by rw[YX ax,bf]
   have hu:=xe d u (by omega) (qP u eQ);rw[gP,List.map_cons,List.sum_cons]at he;generalize cT d u=cu at hu he;repeat' first|(refine ab (hK _ ?_);clear hK K)|(refine ae ?_;simp[ax,bf,gk];(try simp(disch:=omega)only[wrap64]);(try(refine gen2 ?_ ?_<;>intro hq<;>try simp[ax,bf,gk]at hq)))|(refine aa rfl (hu) ?_;simp[ax,bf,gk];(try simp(disch:=omega)only[wrap64]);(try(refine gen2 ?_ ?_<;>intro hq<;>try simp[ax,bf,gk]at hq)))|(refine⟨(p+1,k+cu),by dsimp only;omega,⟨by dsimp only;omega,by dsimp only;omega⟩,rfl,rfl,?_⟩;simp(disch:=omega) [wrap64])|refine T.r0 fun K hK=>?_|refine T.r1 fun K hK=>?_|refine T.ct rfl ?_|refine T.seq ?_|refine T.block ?_|refine T.skip ?_
  ·have ff:p=e.kids.length:=by omega
   subst ff;simp at he;repeat' first|(refine ab (hK _ ?_);clear hK K)|(refine ae ?_;simp[ax];(try(refine gen2 ?_ ?_<;>intro hq<;>try simp[ax]at hq)))|(refine T.ret (aB.data (Or.inr rfl) ?_ ?_)<;>simp[Tryz.results97,he]<;>omega)|refine T.r0 fun K hK=>?_|refine T.cf rfl ?_|refine T.seq ?_|refine T.exit ?_
theorem JN (mn md nt:Int) (Rb:mn<=1000) (VX:md<=1000):∀(e:al),e9 e<=1099511627776->∀(deep c:Int),0<=c->c<=1000->0<=deep->
  ah YS 91 [cL e,.i deep,.i mn,.i md,.i nt,.c (.ptr 0 0)] (dV [[.i c]]) (.b (kW mn md nt deep e c).1) (dV [[.i (kW mn md nt deep e c).2]]) []:=by
 intro e;induction e using al.ind with
 |h e ih=>
  intro hn deep c h0 hc e6;obtain⟨jE,oY,xf,qP⟩:=cE hn;have vd:=FR e xf jE oY;rw[tK];by_cases q1:mn<c+1
  ·rw[if_pos (by simp[q1])];refine ah.ob Tryz.func91 Tryz.ntmps91 rfl ?_;repeat' first|(refine ab (hK _ ?_);clear hK K)|(refine ae ?_;simp[q1];(try simp(disch:=omega)only[wrap64]);(try(refine gen2 ?_ ?_<;>intro hq<;>try simp[q1]at hq)))|(refine T.ret (aB.oS (Or.inr rfl) ?_ ?_ ?_)<;>simp[Tryz.results91]<;>omega)|refine T.r0 fun K hK=>?_|refine T.ct rfl ?_|refine T.seq ?_
  by_cases q2:md<deep
  ·rw[if_pos (by simp[q2])];refine ah.ob Tryz.func91 Tryz.ntmps91 rfl ?_;repeat' first|(refine ab (hK _ ?_);clear hK K)|(refine ae ?_;simp[q1,q2];(try simp(disch:=omega)only[wrap64]);(try(refine gen2 ?_ ?_<;>intro hq<;>try simp[q1,q2]at hq)))|(refine T.ret (aB.oS (Or.inr rfl) ?_ ?_ ?_)<;>simp[Tryz.results91]<;>omega)|refine T.r0 fun K hK=>?_|refine T.ct rfl ?_|refine T.seq ?_
  by_cases q3:e.kind=nt
  ·rw[if_pos (by simp[q3])];refine ah.ob Tryz.func91 Tryz.ntmps91 rfl ?_;repeat' first|(refine ab (hK _ ?_);clear hK K)|(refine ae ?_;simp[q1,q2,q3];(try simp(disch:=omega)only[wrap64]);(try(refine gen2 ?_ ?_<;>intro hq<;>try simp[q1,q2,q3]at hq)))|(refine T.ret (aB.oS (Or.inr rfl) ?_ ?_ ?_)<;>simp[Tryz.results91]<;>omega)|refine T.r0 fun K hK=>?_|refine T.ct rfl ?_|refine T.seq ?_
  cases hN:gA e
  ·rw[if_pos (by simp)];rw[hN]at vd;refine ah.ob Tryz.func91 Tryz.ntmps91 rfl ?_;repeat' first|(refine ab (hK _ ?_);clear hK K)|(refine ae ?_;simp[q1,q2,q3];(try simp(disch:=omega)only[wrap64]);(try(refine gen2 ?_ ?_<;>intro hq<;>try simp[q1,q2,q3]at hq)))|(refine aa rfl (vd) ?_;simp[q1,q2,q3];(try simp(disch:=omega)only[wrap64]);(try(refine gen2 ?_ ?_<;>intro hq<;>try simp[q1,q2,q3]at hq)))|(refine T.ret (aB.oS (Or.inr rfl) ?_ ?_ ?_)<;>simp[Tryz.results91]<;>omega)|refine T.r0 fun K hK=>?_|refine T.ct rfl ?_|refine T.seq ?_
  rw[hN]at vd;rw[if_neg (by simp[q1,q2,q3])];obtain⟨R,hR⟩:∃R,lE mn md nt (deep+1) e.kids (c+1)=R:=⟨_,rfl⟩;rw[hR];refine ah.ob Tryz.func91 Tryz.ntmps91 rfl ?_;repeat' first|(refine ab (hK _ ?_);clear hK K)|(refine ae ?_;simp[q1,q2,q3];(try simp(disch:=omega)only[wrap64]);(try(refine gen2 ?_ ?_<;>intro hq<;>try simp[q1,q2,q3]at hq)))|(refine aa rfl (vd) ?_;simp[q1,q2,q3];(try simp(disch:=omega)only[wrap64]);(try(refine gen2 ?_ ?_<;>intro hq<;>try simp[q1,q2,q3]at hq)))|refine T.r0 fun K hK=>?_|refine T.cf rfl ?_|refine T.seq ?_|refine T.block ?_|refine T.skip ?_
  refine T.gy (fun x:Nat×Int×List (List CV)=>⟨[(1,.i deep),(2,.i mn),(3,.i md),(4,.i nt),(5,.c (.ptr 0 0)),(6,.c (.ptr 1 0)),(42,.l (e.kids.map ie)),(43,.i e.kids.length),(44,.i x.1)],[.d (.i x.2.1)]::(cL e).cells::x.2.2,[]⟩) (fun x=>e.kids.length+1-x.1) (fun x=>x.1<=e.kids.length/\0<=x.2.1/\x.2.1<=mn/\lE mn md nt (deep+1) (e.kids.drop x.1) x.2.1=R) (fun x hx=>?_) (0,c+1,[]) (by simpa using⟨by omega,by omega,hR⟩) (by simp);obtain⟨p,k,G⟩:=x;obtain⟨hi,gC,jl,he⟩:=hx;dsimp only at hi gC jl he⊢;by_cases ax:p<e.kids.length
  ·obtain⟨u,ht⟩:=bR ax;have eQ:u∈e.kids:=YW ht;have bf:e.kids[p]=u:=by rw[YV ax]at ht;exact Option.some.inj ht
   have gP:e.kids.drop p=u::e.kids.drop (p+1):=by rw[YX ax,bf]
   have hu:=ih u eQ (qP u eQ) (deep+1) k gC (by omega) (by omega);have hle:=Hx mn md nt u (deep+1) k gC;rw[gP,lE]at he;generalize kW mn md nt (deep+1) u k=r at hu hle he;obtain⟨b,k'⟩:=r;dsimp only at hu hle he;cases b
   ·repeat' first|(refine ab (hK _ ?_);clear hK K)|(refine ae ?_;simp[ax,bf];(try simp(disch:=omega)only[wrap64]);(try(refine gen2 ?_ ?_<;>intro hq<;>try simp[ax,bf]at hq)))|(refine kq 0 [.i k] [.i k'] rfl rfl hu ?_;simp)|(refine T.ret (aB.oS (Or.inr rfl) ?_ ?_ ?_)<;>simp[Tryz.results91,<-he]<;>omega)|refine T.r0 fun K hK=>?_|refine T.ct rfl ?_|refine T.seq ?_|refine T.block ?_|refine T.skip ?_
   ·obtain⟨Rc,Rd⟩:=hle rfl;repeat' first|(refine ab (hK _ ?_);clear hK K)|(refine ae ?_;simp[ax,bf];(try simp(disch:=omega)only[wrap64]);(try(refine gen2 ?_ ?_<;>intro hq<;>try simp[ax,bf]at hq)))|(refine kq 0 [.i k] [.i k'] rfl rfl hu ?_;simp)|(refine⟨(p+1,k',_),by dsimp only;omega,⟨by dsimp only;omega,Rc,Rd,by simpa using he⟩,rfl,rfl,?_⟩;simp(disch:=omega) [wrap64])|refine T.r0 fun K hK=>?_|refine T.r1 fun K hK=>?_|refine T.ct rfl ?_|refine T.cf rfl ?_|refine T.seq ?_|refine T.block ?_|refine T.skip ?_
  ·have ff:p=e.kids.length:=by omega
   subst ff;simp[lE]at he;repeat' first|(refine ab (hK _ ?_);clear hK K)|(refine ae ?_;simp[ax];(try(refine gen2 ?_ ?_<;>intro hq<;>try simp[ax]at hq)))|(refine T.ret (aB.oS (Or.inr rfl) ?_ ?_ ?_)<;>simp[Tryz.results91,<-he]<;>omega)|refine T.r0 fun K hK=>?_|refine T.cf rfl ?_|refine T.seq ?_|refine T.exit ?_
end Go.Proofs.YtloolmchekcmeaaGreat
namespace Go.Proofs.YtloolmchekcmeaaGreat
attribute [-simp] Go.Av.iE Go.Av.iy Go.Av.cU Go.Av.ic Go.Av.ck Go.Av.bK Go.Av.back Go.Av.fD Go.Av.one
open Go Go.Av
attribute [local irreducible] T ah cx ie aG.kind aG.kids al.kind al.name al.num al.ty al.fr al.label al.kids
attribute [local simp] aL au
set_option maxHeartbeats 4000000
attribute [local simp] Option.bind
theorem lJ:ah YS 85 [] [] (dF kM) [] []:=by
 refine ah.ob Tryz.func85 Tryz.ntmps85 rfl ?_;repeat' first|(refine ab (hK _ ?_);clear hK K)|(refine ae ?_;simp;(try(refine gen2 ?_ ?_<;>intro hq<;>try simp at hq)))|(refine T.ret (aB.val (Or.inr rfl) ?_)<;>simp[ay,Tryz.results85]<;>omega)|refine T.r0 fun K hK=>?_
theorem pJ:ah YS 89 [] [] (dF bt) [] []:=by
 refine ah.ob Tryz.func89 Tryz.ntmps89 rfl ?_;repeat' first|(refine ab (hK _ ?_);clear hK K)|(refine ae ?_;simp;(try(refine gen2 ?_ ?_<;>intro hq<;>try simp at hq)))|(refine T.ret (aB.val (Or.inr rfl) ?_)<;>simp[ay,Tryz.results89]<;>omega)|refine T.r0 fun K hK=>?_
theorem na:ah YS 125 [] [] (dF cm) [] []:=by
 refine ah.ob Tryz.func125 Tryz.ntmps125 rfl ?_;repeat' first|(refine ab (hK _ ?_);clear hK K)|(refine ae ?_;simp;(try(refine gen2 ?_ ?_<;>intro hq<;>try simp at hq)))|(refine T.ret (aB.val (Or.inr rfl) ?_)<;>simp[ay,Tryz.results125]<;>omega)|refine T.r0 fun K hK=>?_
theorem bX:∀(t:aG),fE t<=1099511627776->ah YS 120 [dF t] [] (dF t) [] []:=by
 intro t;induction t using aG.ind with
 |h t ih=>
  intro hn;rw[eK]at hn;have hlen:=gg t.kids;refine ah.ob Tryz.func120 Tryz.ntmps120 rfl ?_;repeat' first|(refine ab (hK _ ?_);clear hK K)|(refine ae ?_;simp;(try(refine gen2 ?_ ?_<;>intro hq<;>try simp at hq)))|refine T.r0 fun K hK=>?_|refine T.seq ?_|refine T.block ?_
  refine T.dq 2 1 2 25 (row:=[.d (.i t.kind),.nil]) (by simp) (by simp) ?_;refine T.gy (fun p:Nat=>⟨[(1,.c (.ptr 0 0)),(2,.c (.ptr 1 0)),(3,.c (.ptr 2 0)),(4,.i p)],[(dF t).cells,[.d (.i 0),.nil],[.d (.i t.kind),.own 0 p]],[{sz:=2,eA:=25,rows:=(t.kids.take p).map cx,wr:=true}]⟩) (fun p=>t.kids.length+1-p) (fun p=>p<=t.kids.length) (fun p hi=>?_) 0 (by simp) (by simp);by_cases ax:p<t.kids.length
  ·obtain⟨u,ht⟩:=bR ax;have eQ:u∈t.kids:=YW ht;have bf:t.kids[p]=u:=by rw[YV ax]at ht;exact Option.some.inj ht
   have gP:t.kids.drop p=u::t.kids.drop (p+1):=by rw[YX ax,bf]
   have hu:=ih u eQ (by have:=gh eQ;omega);have mL:t.kids.take (p+1)=t.kids.take p++[u]:=by rw[Y0,ht];rfl
   have eX:min p t.kids.length=p:=by omega
   repeat' first|((first|refine ab (hK _ ?_)|refine aC (hK _ ?_));clear hK K)|((first|refine ae ?_|refine aI ?_|refine aa rfl (hu) ?_);simp[ax,bf,eX];(try simp(disch:=omega)only[wrap64]);(try(refine gen2 ?_ ?_<;>intro hq<;>try simp[ax,bf,eX]at hq)))|(refine⟨by omega,by omega,?_⟩)|(refine⟨p+1,by dsimp only;omega,by omega,?_,?_,?_⟩<;>simp(disch:=omega) [wrap64,mL,aL])|refine T.yA (id:=5) mixed (fun _=>false) [9,11] (by kernel_rfl) fun K hK=>?_|refine T.r0 fun K hK=>?_|refine T.r1 fun K hK=>?_|refine T.ct rfl ?_|refine T.seq ?_|refine T.block ?_|refine T.skip ?_
  ·have ff:p=t.kids.length:=by omega
   subst ff;repeat' first|(refine ab (hK _ ?_);clear hK K)|(refine ae ?_;simp[ax];(try(refine gen2 ?_ ?_<;>intro hq<;>try simp[ax]at hq)))|(refine T.ret (aB.val (Or.inr rfl) ?_)<;>simp[ay,Tryz.results120,aL]<;>omega)|refine T.r0 fun K hK=>?_|refine T.cf rfl ?_|refine T.seq ?_|refine T.exit ?_
theorem FT:∀(a b:aG),fE a<=1099511627776->fE b<=1099511627776->aE a b=true->ah YS 173 [dF a,dF b] [] (dF (bG a b)) [] []:=by
 intro a;induction a using aG.ind with
 |h a ih=>
  intro b hn hm JM;have PU:=bX a hn;have Jd:=bX b hm;rw[eK]at hn hm;have hlen:=gg a.kids;by_cases jl:a.kind=1
  ·rw[show bG a b=b by rw[gM,if_pos jl]];refine ah.ob Tryz.func173 Tryz.ntmps173 rfl ?_;repeat' first|(refine ab (hK _ ?_);clear hK K)|((first|refine ae ?_|refine aa rfl (Jd) ?_);simp[jl];(try(refine gen2 ?_ ?_<;>intro hq<;>(try simp[jl]at hq)<;>try(have:True:=hq;clear this hq))))|(refine T.ret (aB.val (Or.inr rfl) ?_)<;>simp[ay,Tryz.results173]<;>omega)|refine T.r0 fun K hK=>?_|refine T.ct rfl ?_|refine T.seq ?_
  by_cases kA:b.kind=1
  ·rw[show bG a b=a by rw[gM,if_neg jl,if_pos kA]];refine ah.ob Tryz.func173 Tryz.ntmps173 rfl ?_;repeat' first|(refine ab (hK _ ?_);clear hK K)|((first|refine ae ?_|(refine aa ?_ (PU) ?_;(focus(solve|simp[jl,kA]))));simp[jl,kA];(try(refine gen2 ?_ ?_<;>intro hq<;>(try simp[jl,kA]at hq)<;>try(have:True:=hq;clear this hq))))|(refine T.ret (aB.val (Or.inr rfl) ?_)<;>simp[ay,Tryz.results173]<;>omega)|refine T.r0 fun K hK=>?_|refine T.ct rfl ?_|refine T.cf rfl ?_|refine T.seq ?_|refine T.skip ?_
  obtain⟨hk,hq⟩:=uX JM jl kA;have oX:=si hq;rw[show bG a b=.mk a.kind (YY bG a.kids b.kids) by rw[gM,if_neg jl,if_neg kA]];refine ah.ob Tryz.func173 Tryz.ntmps173 rfl ?_;repeat' first|(refine ab (hK _ ?_);clear hK K)|(refine ae ?_;simp[jl,kA];(try(refine gen2 ?_ ?_<;>intro hq<;>(try simp[jl,kA]at hq)<;>try(have:True:=hq;clear this hq))))|refine T.r0 fun K hK=>?_|refine T.cf rfl ?_|refine T.seq ?_|refine T.block ?_|refine T.skip ?_
  refine T.dq 3 1 2 25 (row:=[.d (.i a.kind),.nil]) (by simp) (by simp) ?_;refine T.gy (fun p:Nat=>⟨[(2,.c (.ptr 0 0)),(3,.c (.ptr 1 0)),(4,.c (.ptr 2 0)),(5,.c (.ptr 3 0)),(6,.i p)],[(dF a).cells,(dF b).cells,[.d (.i 0),.nil],[.d (.i a.kind),.own 0 p]],[{sz:=2,eA:=25,rows:=((YY bG a.kids b.kids).take p).map cx,wr:=true}]⟩) (fun p=>a.kids.length+1-p) (fun p=>p<=a.kids.length) (fun p hi=>?_) 0 (by simp) (by simp);have qK:(YY bG a.kids b.kids).length=a.kids.length:=by simp[oX]
  by_cases ax:p<a.kids.length
  ·obtain⟨u,ht⟩:=bR ax;have eQ:u∈a.kids:=YW ht;have bf:a.kids[p]=u:=by rw[YV ax]at ht;exact Option.some.inj ht
   have gP:a.kids.drop p=u::a.kids.drop (p+1):=by rw[YX ax,bf]
   have gu:p<b.kids.length:=by omega
   obtain⟨v,hv⟩:=bR gu;have NY:v∈b.kids:=YW hv;have sI:b.kids[p]=v:=by rw[YV gu]at hv;exact Option.some.inj hv
   have hu:=ih u eQ v (by have:=gh eQ;omega) (by have:=gh NY;omega) (Ag hq ht hv);have hz:(YY bG a.kids b.kids)[p]? =some (bG u v):=by rw[List.getElem?_zipWith,ht,hv]
   have mL:(YY bG a.kids b.kids).take (p+1)=(YY bG a.kids b.kids).take p++[bG u v]:=by rw[Y0,hz];rfl
   have eX:min p a.kids.length=p:=by omega
   have S7:min p b.kids.length=p:=by omega
   generalize hZ:YY bG a.kids b.kids=Z at*;have HK:min p Z.length=p:=by omega
   generalize bG u v=mm at*;repeat' first|((first|refine ab (hK _ ?_)|refine aC (hK _ ?_));clear hK K)|((first|refine ae ?_|refine aI ?_|refine aa rfl (hu) ?_);simp[ax,bf,gu,sI,HK];(try simp(disch:=omega)only[wrap64]);(try(refine gen2 ?_ ?_<;>intro hq<;>(try simp[ax,bf,gu,sI,HK]at hq)<;>try(have:True:=hq;clear this hq))))|(refine⟨by omega,by omega,?_⟩)|(refine⟨p+1,by dsimp only;omega,by omega,?_,?_,?_⟩<;>simp(disch:=omega) [wrap64,mL,aL,HK])|refine T.yA (id:=9) mixed (fun _=>false) [14,16] (by kernel_rfl) fun K hK=>?_|refine T.r0 fun K hK=>?_|refine T.r1 fun K hK=>?_|refine T.ct rfl ?_|refine T.seq ?_|refine T.block ?_|refine T.skip ?_
  ·have ff:p=a.kids.length:=by omega
   subst ff;rw[List.take_of_length_le (by omega)];generalize hZ:YY bG a.kids b.kids=Z at*;repeat' first|(refine ab (hK _ ?_);clear hK K)|(refine ae ?_;simp[ax];(try(refine gen2 ?_ ?_<;>intro hq<;>(try simp[ax]at hq)<;>try(have:True:=hq;clear this hq))))|(refine T.ret (aB.val (Or.inr rfl) ?_)<;>simp[ay,Tryz.results173,qK,aL]<;>omega)|refine T.r0 fun K hK=>?_|refine T.cf rfl ?_|refine T.seq ?_|refine T.exit ?_
theorem zu (t:aG) (ok:Bool):ah YS 145 [dF t,.b ok] [] (.a8 [dF (if ok=true then t else aW),.b ok]) [] []:=by
 cases ok
 ·refine ah.ob Tryz.func145 Tryz.ntmps145 rfl ?_;repeat' first|(refine ab (hK _ ?_);clear hK K)|(refine ae ?_;simp;(try(refine gen2 ?_ ?_<;>intro hq<;>try simp at hq)))|(refine T.ret (aB.a8 (Or.inr rfl) ?_)<;>simp[ay,Tryz.results145]<;>omega)|refine T.r0 fun K hK=>?_|refine T.ct rfl ?_|refine T.seq ?_
 ·refine ah.ob Tryz.func145 Tryz.ntmps145 rfl ?_;repeat' first|(refine ab (hK _ ?_);clear hK K)|(refine ae ?_;simp;(try(refine gen2 ?_ ?_<;>intro hq<;>try simp at hq)))|(refine T.ret (aB.a8 (Or.inr rfl) ?_)<;>simp[ay,Tryz.results145]<;>omega)|refine T.r0 fun K hK=>?_|refine T.cf rfl ?_|refine T.seq ?_|refine T.skip ?_
theorem ru (k:Int) (t:aG) (hn:fE t<=1099511627776) (hl:t.kind=k->2<=t.kids.length):
  ah YS 172 [.i k,dF t] [] (.a8 (match ch k t with|some (a,b)=>[dF a,dF b,.b true]|none=>[dF aW,dF aW,.b false])) [] []:=by
 have oT:=lJ;simp only[ch];by_cases jl:t.kind=1
 ·rw[if_pos jl];dsimp only;refine ah.ob Tryz.func172 Tryz.ntmps172 rfl ?_;repeat' first|(refine ab (hK _ ?_);clear hK K)|((first|refine ae ?_|refine aa rfl (oT) ?_);simp[jl];(try(refine gen2 ?_ ?_<;>intro hq<;>try simp[jl]at hq)))|(refine T.ret (aB.a8 (Or.inr rfl) ?_)<;>simp[ay,Tryz.results172]<;>omega)|refine T.r0 fun K hK=>?_|refine T.ct rfl ?_|refine T.seq ?_
 rw[if_neg jl];by_cases hk:t.kind=k
 rotate_left
 ·rw[if_neg hk];dsimp only;refine ah.ob Tryz.func172 Tryz.ntmps172 rfl ?_;repeat' first|(refine ab (hK _ ?_);clear hK K)|(refine ae ?_;simp[jl,hk];(try(refine gen2 ?_ ?_<;>intro hq<;>try simp[jl,hk]at hq)))|(refine T.ret (aB.a8 (Or.inr rfl) ?_)<;>simp[ay,Tryz.results172]<;>omega)|refine T.r0 fun K hK=>?_|refine T.ct rfl ?_|refine T.cf rfl ?_|refine T.seq ?_|refine T.skip ?_
 rw[if_pos hk];have tg:=hl hk
 match fx:t.kids,tg with
 |a::b::r,_=>
  dsimp only;rw[eK,fx]at hn;have N1:¬k=1:=by rw[<-hk];exact jl
  have ha:=bX a (by simp[cS]at hn;omega);have hb:=bX b (by simp[cS]at hn;omega);refine ah.ob Tryz.func172 Tryz.ntmps172 rfl ?_;repeat' first|((first|refine ab (hK _ ?_)|refine aC (hK _ ?_));clear hK K)|((first|refine ae ?_|refine aI ?_|refine aa rfl (ha) ?_|refine aa rfl (hb) ?_);simp[N1,hk,fx];(try(refine gen2 ?_ ?_<;>intro hq<;>try simp[N1,hk,fx]at hq)))|(refine T.ret (aB.a8 (Or.inr rfl) ?_)<;>simp[ay,Tryz.results172]<;>omega)|refine T.rd (id:=5) mixed (fun _=>false) [10,11] (by kernel_rfl) fun K hK=>?_|refine T.r0 fun K hK=>?_|refine T.cf rfl ?_|refine T.seq ?_|refine T.skip ?_
theorem B0 (k:Int) (a b:aG) (ha:fE a<=549755813888) (hb:fE b<=549755813885):
  ah YS 164 [.i k,dF a,dF b] [] (.a8 [dF (.mk k [a,b]),.b (ak 4 (.mk k [a,b]))]) [] []:=by
 have PU:=bX a (by omega);have Jd:=bX b (by omega);have hv:=gp (.mk k [a,b]) (by rw[eK];simp[cS];omega);generalize ak 4 (.mk k [a,b])=ok at*;refine ah.ob Tryz.func164 Tryz.ntmps164 rfl ?_;repeat' first|((first|refine ab (hK _ ?_)|refine aC (hK _ ?_)|refine bc (hK _ ?_));clear hK K)|((first|refine ae ?_|refine aI ?_|refine bw ?_|refine aa rfl (PU) ?_|refine aa rfl (Jd) ?_|(refine aa ?_ (hv) ?_;(focus(solve|simp))));simp)|(refine T.ret (aB.a8 (Or.inr rfl) ?_)<;>simp[ay,Tryz.results164,aL]<;>omega)|refine T.mK (id:=1) mixed (fun _=>false) [7,8] [1,2,3,4,5,6] 8 [] (by kernel_rfl) fun K hK=>?_|(refine⟨?_,?_⟩;(focus(intros;refine aa rfl (PU) ?_;simp;done)))|(refine⟨?_,?_⟩;(focus(intros;refine aa rfl (Jd) ?_;simp;done)))|refine T.rd (id:=2) mixed (fun _=>false) [3] (by kernel_rfl) fun K hK=>?_|refine T.r0 fun K hK=>?_
end Go.Proofs.YtloolmchekcmeaaGreat
namespace Go.Proofs.YtloolmchekcmeaaGreat
attribute [-simp] Go.Av.iE Go.Av.iy Go.Av.cU Go.Av.ic Go.Av.ck Go.Av.bK Go.Av.back Go.Av.fD Go.Av.one
open Go Go.Av
attribute [local irreducible] T ah cx ie aG.kind aG.kids al.kind al.name al.num al.ty al.fr al.label al.kids
attribute [local simp] aL au
set_option maxHeartbeats 4000000
@[simp] theorem HL:td YS 139=some {ag:=false,sz:=1,lS:=24,zero:=some [.nil],el:=some 146,ar:=none,fl:=[],ik:=none,cO:=false,nz:=false}:=dQ (by kernel_rfl)
@[simp] theorem PV:td YS 146=some {ag:=true,sz:=3,lS:=48,zero:=some [.d (.str []),.d (.int .i64 0),.nil],el:=none,ar:=none,fl:=[(0,1),(1,2)],ik:=none,cO:=false,nz:=false}:=dQ (by kernel_rfl)
theorem zw (ctx:List dt) (s:List UInt8) (hl:ctx.length<=1099511627776) (hn:∀b∈ctx,fE b.ty<=1099511627776):
  ah YS 121 [.l (ctx.map iC),.s s] [] (.a8 (match cK ctx s with|some t=>[dF t,.b true]|none=>[dF aW,.b false])) [] []:=by
 have HM:∀p,p<ctx.length->cK (ctx.take (p+1)) s=if(ctx[p]?.map dt.name)=some s then ctx[p]?.map dt.ty else cK (ctx.take p) s:=by
  have Hh:∀(l:List dt) (b:dt),cK (l++[b]) s=if b.name=s then some b.ty else cK l s:=by
   intro l;induction l with
   |nil=>intro b;simp[cK]
   |cons x r ih=>
    intro b;simp only[List.cons_append,cK,ih b];by_cases hb:b.name=s
    ·simp[hb]
    ·simp[hb]
  intro p hp;rw[Y0,YV hp];simp only[Option.toList_some,Hh,Option.map_some,Option.some.injEq]
 refine ah.ob Tryz.func121 Tryz.ntmps121 rfl ?_;repeat' first|(refine ab (hK _ ?_);clear hK K)|(refine ae ?_;simp;(try simp(disch:=omega)only[wrap64]);(try(refine gen2 ?_ ?_<;>intro hq<;>try simp at hq)))|refine T.r0 fun K hK=>?_|refine T.seq ?_|refine T.block ?_
 obtain⟨R,hR⟩:∃R,cK ctx s=R:=⟨_,rfl⟩;rw[hR];refine T.gy (fun p:Nat=>⟨[(0,.l (ctx.map iC)),(1,.s s),(4,.c (.ptr 0 0)),(6,.i ((p:Int)-1))],[[.d (.i 0),.nil]],[]⟩) (fun p=>p) (fun p=>p<=ctx.length/\cK (ctx.take p) s=R) (fun p hp=>?_) ctx.length (by simpa using hR) (by simp);obtain⟨hi,he⟩:=hp;cases p with
 |zero=>
  simp[cK]at he;subst he;repeat' first|(refine ab (hK _ ?_);clear hK K)|(refine ae ?_;simp;(try(refine gen2 ?_ ?_<;>intro hq<;>try simp at hq)))|(refine T.ret (aB.a8 (Or.inr rfl) ?_)<;>simp[ay,Tryz.results121]<;>omega)|refine T.r0 fun K hK=>?_|refine T.cf rfl ?_|refine T.seq ?_|refine T.exit ?_
 |succ p=>
  rw[HM p (by omega)]at he;have ax:p<ctx.length:=by omega
  obtain⟨b,ht⟩:=bR ax;have eQ:b∈ctx:=YW ht;have bf:ctx[p]=b:=by rw[YV ax]at ht;exact Option.some.inj ht
  have oC:(0:Int)<=(p:Int)+1-1:=by omega
  have HN:((p:Int)+1-1)=p:=by omega
  have B5:=bX b.ty (hn b eQ);rw[ht]at he;by_cases hb:b.name=s
  ·simp[hb]at he;subst he;repeat' first|(refine ab (hK _ ?_);clear hK K)|((first|refine ae ?_|refine aa rfl (B5) ?_);simp[ax,bf,oC,HN,hb,iC];(try simp(disch:=omega)only[wrap64]);(try(refine gen2 ?_ ?_<;>intro hq<;>try simp[ax,bf,oC,HN,hb,iC]at hq)))|(refine T.ret (aB.a8 (Or.inr rfl) ?_)<;>simp[ay,Tryz.results121]<;>omega)|refine T.r0 fun K hK=>?_|refine T.ct rfl ?_|refine T.seq ?_|refine T.block ?_|refine T.skip ?_
  ·simp[hb]at he;repeat' first|(refine ab (hK _ ?_);clear hK K)|(refine ae ?_;simp[ax,bf,oC,HN,hb,iC];(try simp(disch:=omega)only[wrap64]);(try(refine gen2 ?_ ?_<;>intro hq<;>try simp[ax,bf,oC,HN,hb,iC]at hq)))|(refine⟨p,by dsimp only;omega,⟨by omega,he⟩,rfl,rfl,?_⟩;simp(disch:=omega) [wrap64])|refine T.r0 fun K hK=>?_|refine T.r1 fun K hK=>?_|refine T.ct rfl ?_|refine T.cf rfl ?_|refine T.seq ?_|refine T.block ?_|refine T.skip ?_
theorem zx (ctx:List dt) (s:List UInt8) (t:aG) (hl:ctx.length<=1099511627776):
  ah YS 147 [.l (ctx.map iC),.s s,dF t] [] (.l ((ctx++[dt.mk s t]).map iC)) [] []:=by
 refine ah.ob Tryz.func147 Tryz.ntmps147 rfl ?_;repeat' first|((first|refine ab (hK _ ?_)|refine bc (hK _ ?_));clear hK K)|((first|refine ae ?_|refine bw ?_);simp[iC];(try(refine gen2 ?_ ?_<;>intro hq<;>try simp[iC]at hq)))|(refine⟨by omega,by omega,?_⟩)|(refine T.ret (aB.val (Or.inr rfl) ?_)<;>simp[ay,Tryz.results147,iC]<;>omega)|refine T.mK (id:=1) mixed (fun i=>i==0) [0,2,7] [4,5,6] 3 [] (by kernel_rfl) fun K hK=>?_|refine T.rs (id:=0) (fun _=>false) fun K hK=>?_
theorem Ar (ctx:List dt) (hl:ctx.length<=1099511627776) (hn:∀b∈ctx,fE b.ty<=1099511627776):ah YS 144 [.l (ctx.map iC)] [] (.b (rl ctx)) [] []:=by
 simp only[rl];obtain⟨R,hR⟩:∃R,ctx.all (fun b=>dT b.name && ak 4 b.ty)=R:=⟨_,rfl⟩;rw[hR];refine ah.ob Tryz.func144 Tryz.ntmps144 rfl ?_;repeat' first|(refine ab (hK _ ?_);clear hK K)|(refine ae ?_;simp;(try(refine gen2 ?_ ?_<;>intro hq<;>try simp at hq)))|refine T.r0 fun K hK=>?_|refine T.seq ?_|refine T.block ?_
 refine T.gy (fun p:Nat=>⟨[(0,.l (ctx.map iC)),(3,.i p)],[],[]⟩) (fun p=>ctx.length+1-p) (fun p=>p<=ctx.length/\(ctx.drop p).all (fun b=>dT b.name && ak 4 b.ty)=R) (fun p hp=>?_) 0 (by simpa using hR) (by simp);obtain⟨hi,he⟩:=hp;by_cases ax:p<ctx.length
 ·obtain⟨b,ht⟩:=bR ax;have eQ:b∈ctx:=YW ht;have bf:ctx[p]=b:=by rw[YV ax]at ht;exact Option.some.inj ht
  have gP:ctx.drop p=b::ctx.drop (p+1):=by rw[YX ax,bf]
  have h1:=zq b.name;have h2:=gp b.ty (hn b eQ);rw[gP,Y1]at he;cases th:dT b.name<;>rw[th]at h1 he
  ·repeat' first|(refine ab (hK _ ?_);clear hK K)|((first|refine ae ?_|refine aa rfl (h1) ?_);simp[ax,bf,iC];(try simp(disch:=omega)only[wrap64]);(try(refine gen2 ?_ ?_<;>intro hq<;>try simp[ax,bf,iC]at hq)))|(refine T.ret (aB.data (Or.inr rfl) ?_ ?_)<;>simp[Tryz.results144,<-he]<;>omega)|refine T.r0 fun K hK=>?_|refine T.ct rfl ?_|refine T.seq ?_|refine T.block ?_|refine T.skip ?_
  ·cases HO:ak 4 b.ty<;>rw[HO]at h2 he
   ·repeat' first|(refine ab (hK _ ?_);clear hK K)|((first|refine ae ?_|refine aa rfl (h1) ?_|refine aa rfl (h2) ?_);simp[ax,bf,iC];(try simp(disch:=omega)only[wrap64]);(try(refine gen2 ?_ ?_<;>intro hq<;>try simp[ax,bf,iC]at hq)))|(refine T.ret (aB.data (Or.inr rfl) ?_ ?_)<;>simp[Tryz.results144,<-he]<;>omega)|refine T.r0 fun K hK=>?_|refine T.ct rfl ?_|refine T.seq ?_|refine T.block ?_|refine T.skip ?_
   ·repeat' first|(refine ab (hK _ ?_);clear hK K)|((first|refine ae ?_|refine aa rfl (h1) ?_|refine aa rfl (h2) ?_);simp[ax,bf,iC];(try simp(disch:=omega)only[wrap64]);(try(refine gen2 ?_ ?_<;>intro hq<;>try simp[ax,bf,iC]at hq)))|(refine⟨p+1,by dsimp only;omega,⟨by omega,by simpa using he⟩,rfl,rfl,?_⟩;simp(disch:=omega) [wrap64])|refine T.r0 fun K hK=>?_|refine T.r1 fun K hK=>?_|refine T.ct rfl ?_|refine T.cf rfl ?_|refine T.seq ?_|refine T.block ?_|refine T.skip ?_
 ·have ff:p=ctx.length:=by omega
  subst ff;simp at he;subst he;repeat' first|(refine ab (hK _ ?_);clear hK K)|(refine ae ?_;simp[ax];(try(refine gen2 ?_ ?_<;>intro hq<;>try simp[ax]at hq)))|(refine T.ret (aB.data (Or.inr rfl) ?_ ?_)<;>simp[Tryz.results144, *]<;>omega)|refine T.r0 fun K hK=>?_|refine T.cf rfl ?_|refine T.seq ?_|refine T.exit ?_
theorem jL:∀(d:Nat) (t:aG),ak d t=true->fE t+2<=2 ^ d
 |0,t,h=>by simp[ak]at h
 |d+1,t,h=>by
  obtain⟨e,he,_,hl,hs⟩:=eg h;obtain rfl:d=e:=by omega
  rw[eK];have hp:1<=2 ^ d:=Nat.one_le_two_pow;have UP:2 ^(d+1)=2*2 ^ d:=by rw[Nat.pow_succ];omega
  match hk:t.kids,hl with
  |[],_=>simp[cS];omega
  |[a],_=>have:=jL d a (hs a (by simp[hk]));simp[cS];omega
  |[a,b],_=>
   have h1:=jL d a (hs a (by simp[hk]));have h2:=jL d b (hs b (by simp[hk]));simp[cS];omega
theorem dp {t:aG} (h:ak 4 t=true):fE t<=14:=by have:=jL 4 t h;omega
theorem lx {k:Int} {t:aG} (hk:k=4\/k=5) (h:ak 4 t=true):t.kind=k->2<=t.kids.length:=by
 intro he;obtain⟨_,_,hl,_,_⟩:=eg h;rw[he]at hl;rcases hk with rfl|rfl<;>simp[cy]at hl<;>omega
theorem xg:∀(d:Nat) (e:al),d<=1000->e9 e<=1099511627776->ah YS 96 [cL e,.i d] [] (.b (bg 14 d e)) [] []
 |0,e,_,_=>by
  refine ah.ob Tryz.func96 Tryz.ntmps96 rfl ?_;repeat' first|((first|refine ab (hK _ ?_)|refine aC (hK _ ?_));clear hK K)|((first|refine ae ?_|refine aI ?_);simp;(try(refine gen2 ?_ ?_<;>intro hq<;>try simp at hq)))|(refine T.ret (aB.data (Or.inr rfl) ?_ ?_)<;>simp[Tryz.results96,bg]<;>omega)|refine T.rd (id:=1) mixed (fun _=>false) [] (by kernel_rfl) fun K hK=>?_|refine T.r0 fun K hK=>?_|refine T.ct rfl ?_|refine T.seq ?_
 |d+1,e,hd,hn=>by
  obtain⟨jE,oY,xf,qP⟩:=cE hn;have jc:=zt e.kind;have gk:¬((d:Int)+1<1):=by omega
  have jK:bg 14 (d+1) e=(decide (e.kind≠14)&&(decide (cl e.kind=e.kids.length)&& fw e)&& e.kids.all (bg 14 d)):=rfl;by_cases yG:e.kind=14
  ·rw[yG]at jc;rw[show bg 14 (d+1) e=false by rw[jK];simp[yG]];refine ah.ob Tryz.func96 Tryz.ntmps96 rfl ?_;repeat' first|((first|refine ab (hK _ ?_)|refine aC (hK _ ?_));clear hK K)|((first|refine ae ?_|refine aI ?_|refine aa rfl (jc) ?_);simp[gk,yG];(try(refine gen2 ?_ ?_<;>intro hq<;>try simp[gk,yG]at hq)))|(refine T.ret (aB.data (Or.inr rfl) ?_ ?_)<;>simp[Tryz.results96]<;>omega)|refine T.rd (id:=1) mixed (fun _=>false) [] (by kernel_rfl) fun K hK=>?_|refine T.r0 fun K hK=>?_|refine T.ct rfl ?_|refine T.seq ?_
  by_cases hlen:cl e.kind=e.kids.length
  rotate_left
  ·rw[show bg 14 (d+1) e=false by rw[jK];simp[hlen]];refine ah.ob Tryz.func96 Tryz.ntmps96 rfl ?_;repeat' first|((first|refine ab (hK _ ?_)|refine aC (hK _ ?_));clear hK K)|((first|refine ae ?_|refine aI ?_|refine aa rfl (jc) ?_);simp[gk,hlen];(try(refine gen2 ?_ ?_<;>intro hq<;>try simp[gk,hlen]at hq)))|(refine T.ret (aB.data (Or.inr rfl) ?_ ?_)<;>simp[Tryz.results96]<;>omega)|refine T.rd (id:=1) mixed (fun _=>false) [] (by kernel_rfl) fun K hK=>?_|refine T.r0 fun K hK=>?_|refine T.ct rfl ?_|refine T.seq ?_
  rw[hlen]at jc;have N2:bg 14 (d+1) e=(fw e && e.kids.all (bg 14 d)):=by rw[jK];simp[yG,hlen]
  have dP:=HJ e yG jE;obtain⟨R,hR⟩:∃R,e.kids.all (bg 14 d)=R:=⟨_,rfl⟩;rw[N2,hR];generalize fw e=O at dP;clear jK N2;cases O
  ·refine ah.ob Tryz.func96 Tryz.ntmps96 rfl ?_;repeat' first|((first|refine ab (hK _ ?_)|refine aC (hK _ ?_));clear hK K)|((first|refine ae ?_|refine aI ?_|refine aa rfl (jc) ?_|refine aa rfl (dP) ?_);simp[gk,yG];(try(refine gen2 ?_ ?_<;>intro hq<;>try simp[gk,yG]at hq)))|(refine T.ret (aB.data (Or.inr rfl) ?_ ?_)<;>simp[Tryz.results96]<;>omega)|refine T.rd (id:=1) mixed (fun _=>false) [] (by kernel_rfl) fun K hK=>?_|refine T.r0 fun K hK=>?_|refine T.ct rfl ?_|refine T.seq ?_
  refine ah.ob Tryz.func96 Tryz.ntmps96 rfl ?_;repeat' first|((first|refine ab (hK _ ?_)|refine aC (hK _ ?_));clear hK K)|((first|refine ae ?_|refine aI ?_|refine aa rfl (jc) ?_|refine aa rfl (dP) ?_);simp[gk,yG];(try(refine gen2 ?_ ?_<;>intro hq<;>try simp[gk,yG]at hq)))|refine T.rd (id:=1) mixed (fun _=>false) [] (by kernel_rfl) fun K hK=>?_|refine T.r0 fun K hK=>?_|refine T.cf rfl ?_|refine T.seq ?_|refine T.block ?_|refine T.skip ?_
  rw[Bool.true_and];refine T.gy (fun p:Nat=>⟨[(1,.i (d+1)),(2,.c (.ptr 0 0)),(5,.i p)],[(cL e).cells],[]⟩) (fun p=>e.kids.length+1-p) (fun p=>p<=e.kids.length/\(e.kids.drop p).all (bg 14 d)=R) (fun p hp=>?_) 0 (by simpa using hR) (by simp);obtain⟨hi,he⟩:=hp;by_cases ax:p<e.kids.length
  ·obtain⟨u,ht⟩:=bR ax;have eQ:u∈e.kids:=YW ht;have bf:e.kids[p]=u:=by rw[YV ax]at ht;exact Option.some.inj ht
   have gP:e.kids.drop p=u::e.kids.drop (p+1):=by rw[YX ax,bf]
   have hu:=xg d u (by omega) (qP u eQ);rw[gP,Y1]at he;cases hb:bg 14 d u<;>rw[hb]at hu he
   ·repeat' first|(refine ab (hK _ ?_);clear hK K)|((first|refine ae ?_|refine aa rfl (hu) ?_);simp[ax,bf];(try simp(disch:=omega)only[wrap64]);(try(refine gen2 ?_ ?_<;>intro hq<;>try simp[ax,bf]at hq)))|(refine T.ret (aB.data (Or.inr rfl) ?_ ?_)<;>simp[Tryz.results96,<-he]<;>omega)|refine T.r0 fun K hK=>?_|refine T.ct rfl ?_|refine T.seq ?_|refine T.block ?_|refine T.skip ?_
   ·repeat' first|(refine ab (hK _ ?_);clear hK K)|((first|refine ae ?_|refine aa rfl (hu) ?_);simp[ax,bf];(try simp(disch:=omega)only[wrap64]);(try(refine gen2 ?_ ?_<;>intro hq<;>try simp[ax,bf]at hq)))|(refine⟨p+1,by dsimp only;omega,⟨by omega,by simpa using he⟩,rfl,rfl,?_⟩;simp(disch:=omega) [wrap64])|refine T.r0 fun K hK=>?_|refine T.r1 fun K hK=>?_|refine T.ct rfl ?_|refine T.cf rfl ?_|refine T.seq ?_|refine T.block ?_|refine T.skip ?_
  ·have ff:p=e.kids.length:=by omega
   subst ff;simp at he;repeat' first|(refine ab (hK _ ?_);clear hK K)|(refine ae ?_;simp[ax];(try(refine gen2 ?_ ?_<;>intro hq<;>try simp[ax]at hq)))|(refine T.ret (aB.data (Or.inr rfl) ?_ ?_)<;>simp[Tryz.results96,he]<;>omega)|refine T.r0 fun K hK=>?_|refine T.cf rfl ?_|refine T.seq ?_|refine T.exit ?_
theorem iF (e:al) (hn:e9 e<=1099511627776):ah YS 41 [cL e] [] (.b (aS e)) [] []:=by
 have h1:=xg 12 e (by omega) hn;have h2:=xe 12 e (by omega) hn;rw[show aS e=(bg 14 12 e && decide (cT 12 e<=30))from rfl];generalize bg 14 12 e=a at*;generalize cT 12 e=b at*;refine ah.ob Tryz.func41 Tryz.ntmps41 rfl ?_;repeat' first|(refine ab (hK _ ?_);clear hK K)|((first|refine ae ?_|refine aa rfl (h1) ?_|refine aa rfl (h2) ?_);simp;(try(refine gen2 ?_ ?_<;>intro hq<;>try simp at hq)))|(refine T.ret (aB.data (Or.inr rfl) ?_ ?_)<;>simp[Tryz.results41, *]<;>omega)|refine T.r0 fun K hK=>?_
def JO (e:al) (ts:List aG) (r:Option aG):Prop:=∃t',(∀t,r=some t->t'=t)/\ah YS 165 [cL e,.l (ts.map cx)] [] (.a8 [dF t',.b r.isSome]) [] []
theorem Re (e:al) (a b:aG) (hk:e.kind=6) (ha:ak 4 a=true) (hb:ak 4 b=true):
  JO e [a,b] (match ch 4 a with|some (x,y)=>if aE b x=true then some y else none|none=>none):=by
 have hm:=ru 4 a (by have:=dp ha;omega) (lx (.inl rfl) ha);cases hr:ch 4 a with
 |none=>
  rw[hr]at hm;refine⟨aW,by simp,?_⟩;refine ah.ob Tryz.func165 Tryz.ntmps165 rfl ?_;repeat' first|((first|refine ab (hK _ ?_)|refine aC (hK _ ?_));clear hK K)|((first|refine ae ?_|refine aI ?_|refine aa rfl (hm) ?_);simp[hk];(try(refine gen2 ?_ ?_<;>intro hq<;>try simp[hk]at hq)))|(refine T.ret (aB.a8 (Or.inr rfl) ?_)<;>simp[ay,Tryz.results165]<;>omega)|refine T.rd (id:=4) mixed (fun _=>false) [9] (by kernel_rfl) fun K hK=>?_|refine T.r0 fun K hK=>?_|refine T.ct rfl ?_|refine T.seq ?_|refine T.block ?_
 |some p=>
  obtain⟨x,y⟩:=p;rw[hr]at hm;obtain⟨hx,hy⟩:=eP hr ha;have hc:=c6 4 b x (by omega) hb hx;refine⟨y,?_,?_⟩
  ·intro t h;dsimp only at h;split at h<;>simp at h;exact h
  dsimp only at hm⊢;rw[show(if aE b x=true then some y else none).isSome=aE b x by cases aE b x<;>rfl];generalize aE b x=c at hc;refine ah.ob Tryz.func165 Tryz.ntmps165 rfl ?_;repeat' first|((first|refine ab (hK _ ?_)|refine aC (hK _ ?_));clear hK K)|((first|refine ae ?_|refine aI ?_|refine aa rfl (hm) ?_|refine aa rfl (hc) ?_);simp[hk];(try(refine gen2 ?_ ?_<;>intro hq<;>try simp[hk]at hq)))|(refine T.ret (aB.a8 (Or.inr rfl) ?_)<;>simp[ay,Tryz.results165, *]<;>omega)|refine T.rd (id:=4) mixed (fun _=>false) [9] (by kernel_rfl) fun K hK=>?_|refine T.r0 fun K hK=>?_|refine T.ct rfl ?_|refine T.seq ?_|refine T.block ?_
theorem Rf (e:al) (a b:aG) (hk:e.kind=7) (ha:ak 4 a=true) (hb:ak 4 b=true):
  JO e [a,b] (if aE a bt=true/\aE b bt=true then some bt else none):=by
 have hi:ak 4 bt=true:=by simp[ak,cy]
 have h1:=c6 4 a bt (by omega) ha hi;have h2:=c6 4 b bt (by omega) hb hi;have h3:=pJ;have h4:=na;refine⟨bt,?_,?_⟩
 ·intro t h;split at h<;>simp at h;exact h
 rw[show(if aE a bt=true/\aE b bt=true then some bt else none).isSome=(aE a bt && aE b bt) by cases aE a bt<;>cases aE b bt<;>rfl];generalize aE a bt=c1 at h1⊢;generalize aE b bt=c2 at h2⊢;refine ah.ob Tryz.func165 Tryz.ntmps165 rfl ?_;repeat' first|((first|refine ab (hK _ ?_)|refine aC (hK _ ?_));clear hK K)|((first|refine ae ?_|refine aI ?_|refine aa rfl (h3) ?_|(refine aa ?_ (h1) ?_;(focus(solve|simp[hk])))|(refine aa ?_ (h2) ?_;(focus(solve|simp[hk]))));simp[hk];(try(refine gen2 ?_ ?_<;>intro hq<;>try simp[hk]at hq)))|(refine T.ret (aB.a8 (Or.inr rfl) ?_)<;>simp[ay,Tryz.results165, *]<;>omega)|refine T.rd (id:=6) mixed (fun _=>false) [13] (by kernel_rfl) fun K hK=>?_|refine T.r0 fun K hK=>?_|refine T.ct rfl ?_|refine T.cf rfl ?_|refine T.seq ?_|refine T.block ?_
theorem Rg (e:al) (a b:aG) (hk:e.kind=8) (ha:ak 4 a=true) (hb:ak 4 b=true):
  JO e [a,b] (if aE a bt=true/\aE b bt=true then some cm else none):=by
 have hi:ak 4 bt=true:=by simp[ak,cy]
 have h1:=c6 4 a bt (by omega) ha hi;have h2:=c6 4 b bt (by omega) hb hi;have h3:=pJ;have h4:=na;refine⟨cm,?_,?_⟩
 ·intro t h;split at h<;>simp at h;exact h
 rw[show(if aE a bt=true/\aE b bt=true then some cm else none).isSome=(aE a bt && aE b bt) by cases aE a bt<;>cases aE b bt<;>rfl];generalize aE a bt=c1 at h1⊢;generalize aE b bt=c2 at h2⊢;refine ah.ob Tryz.func165 Tryz.ntmps165 rfl ?_;repeat' first|((first|refine ab (hK _ ?_)|refine aC (hK _ ?_));clear hK K)|((first|refine ae ?_|refine aI ?_|refine aa rfl (h3) ?_|refine aa rfl (h4) ?_|(refine aa ?_ (h1) ?_;(focus(solve|simp[hk])))|(refine aa ?_ (h2) ?_;(focus(solve|simp[hk]))));simp[hk];(try(refine gen2 ?_ ?_<;>intro hq<;>try simp[hk]at hq)))|(refine T.ret (aB.a8 (Or.inr rfl) ?_)<;>simp[ay,Tryz.results165, *]<;>omega)|refine T.rd (id:=8) mixed (fun _=>false) [13] (by kernel_rfl) fun K hK=>?_|refine T.r0 fun K hK=>?_|refine T.ct rfl ?_|refine T.cf rfl ?_|refine T.seq ?_|refine T.block ?_
theorem Rh (e:al) (a b c:aG) (hk:e.kind=9) (ha:ak 4 a=true) (hb:ak 4 b=true) (hc:ak 4 c=true):
  JO e [a,b,c] (if aE b c=true/\aE a cm=true then some (bG b c)else none):=by
 have hi:ak 4 cm=true:=by simp[ak,cy]
 have h1:=c6 4 b c (by omega) hb hc;have h2:=c6 4 a cm (by omega) ha hi;have h4:=na;by_cases KX:aE b c=true
 rotate_left
 ·have LM:aE b c=false:=by simpa using KX
  rw[LM]at h1;refine⟨aW,by simp[LM],?_⟩;rw[if_neg (by simp[LM])];refine ah.ob Tryz.func165 Tryz.ntmps165 rfl ?_;repeat' first|((first|refine ab (hK _ ?_)|refine aC (hK _ ?_));clear hK K)|((first|refine ae ?_|refine aI ?_|refine aa rfl (h1) ?_);simp[hk];(try(refine gen2 ?_ ?_<;>intro hq<;>try simp[hk]at hq)))|(refine T.ret (aB.a8 (Or.inr rfl) ?_)<;>simp[ay,Tryz.results165]<;>omega)|refine T.rd (id:=10) mixed (fun _=>false) [] (by kernel_rfl) fun K hK=>?_|refine T.r0 fun K hK=>?_|refine T.ct rfl ?_|refine T.cf rfl ?_|refine T.seq ?_|refine T.block ?_
 have h5:=FT b c (by have:=dp hb;omega) (by have:=dp hc;omega) KX;rw[KX]at h1;refine⟨bG b c,?_,?_⟩
 ·intro t h;split at h<;>simp at h;exact h
 rw[show(if aE b c=true/\aE a cm=true then some (bG b c)else none).isSome=aE a cm by rw[KX];cases aE a cm<;>rfl];generalize aE a cm=c2 at h2⊢;generalize bG b c=mt at h5⊢;refine ah.ob Tryz.func165 Tryz.ntmps165 rfl ?_;repeat' first|((first|refine ab (hK _ ?_)|refine aC (hK _ ?_));clear hK K)|((first|refine ae ?_|refine aI ?_|refine aa rfl (h1) ?_|refine aa rfl (h5) ?_|refine aa rfl (h4) ?_|(refine aa ?_ (h2) ?_;(focus(solve|simp[hk]))));simp[hk];(try(refine gen2 ?_ ?_<;>intro hq<;>try simp[hk]at hq)))|(refine T.ret (aB.a8 (Or.inr rfl) ?_)<;>simp[ay,Tryz.results165, *]<;>omega)|refine T.rd (id:=10) mixed (fun _=>false) [] (by kernel_rfl) fun K hK=>?_|refine T.rd (id:=12) mixed (fun _=>false) [12] (by kernel_rfl) fun K hK=>?_|refine T.r0 fun K hK=>?_|refine T.ct rfl ?_|refine T.cf rfl ?_|refine T.seq ?_|refine T.block ?_|refine T.skip ?_
theorem N3 (e:al) (a b:aG) (hk:e.kind=10) (ha:ak 4 a=true) (hb:ak 4 b=true):JO e [a,b] (nS 5 a b):=by
 have h1:=B0 5 a b (by have:=dp ha;omega) (by have:=dp hb;omega);refine⟨.mk 5 [a,b],?_,?_⟩
 ·intro t h;simp only[nS]at h;split at h<;>simp at h;exact h
 rw[show(nS 5 a b).isSome=ak 4 (.mk 5 [a,b]) by simp only[nS];split<;>simp[*]];generalize ak 4 (.mk 5 [a,b])=c at h1⊢;refine ah.ob Tryz.func165 Tryz.ntmps165 rfl ?_;repeat' first|((first|refine ab (hK _ ?_)|refine aC (hK _ ?_));clear hK K)|((first|refine ae ?_|refine aI ?_|refine aa rfl (h1) ?_);simp[hk];(try(refine gen2 ?_ ?_<;>intro hq<;>try simp[hk]at hq)))|(refine T.ret (aB.a8 (Or.inr rfl) ?_)<;>simp[ay,Tryz.results165, *]<;>omega)|refine T.rd (id:=14) mixed (fun _=>false) [9] (by kernel_rfl) fun K hK=>?_|refine T.r0 fun K hK=>?_|refine T.ct rfl ?_|refine T.cf rfl ?_|refine T.seq ?_|refine T.block ?_
theorem N4 (e:al) (a:aG) (hk:e.kind=11) (ha:ak 4 a=true):JO e [a] ((ch 5 a).map (·.1)):=by
 have hm:=ru 5 a (by have:=dp ha;omega) (lx (.inr rfl) ha);cases hr:ch 5 a with
 |none=>
  rw[hr]at hm;refine⟨aW,by simp,?_⟩;refine ah.ob Tryz.func165 Tryz.ntmps165 rfl ?_;repeat' first|(refine ab (hK _ ?_);clear hK K)|((first|refine ae ?_|refine aa rfl (hm) ?_);simp[hk];(try(refine gen2 ?_ ?_<;>intro hq<;>try simp[hk]at hq)))|(refine T.ret (aB.a8 (Or.inr rfl) ?_)<;>simp[ay,Tryz.results165]<;>omega)|refine T.r0 fun K hK=>?_|refine T.ct rfl ?_|refine T.cf rfl ?_|refine T.seq ?_|refine T.block ?_
 |some p=>
  obtain⟨x,y⟩:=p;rw[hr]at hm;refine⟨(x,y).1,by simp,?_⟩;dsimp only at hm⊢;refine ah.ob Tryz.func165 Tryz.ntmps165 rfl ?_;repeat' first|(refine ab (hK _ ?_);clear hK K)|((first|refine ae ?_|refine aa rfl (hm) ?_);simp[hk];(try(refine gen2 ?_ ?_<;>intro hq<;>try simp[hk]at hq)))|(refine T.ret (aB.a8 (Or.inr rfl) ?_)<;>simp[ay,Tryz.results165]<;>omega)|refine T.r0 fun K hK=>?_|refine T.ct rfl ?_|refine T.cf rfl ?_|refine T.seq ?_|refine T.block ?_
theorem N5 (e:al) (a:aG) (hk:e.kind=12) (ha:ak 4 a=true):JO e [a] ((ch 5 a).map (·.2)):=by
 have hm:=ru 5 a (by have:=dp ha;omega) (lx (.inr rfl) ha);cases hr:ch 5 a with
 |none=>
  rw[hr]at hm;refine⟨aW,by simp,?_⟩;refine ah.ob Tryz.func165 Tryz.ntmps165 rfl ?_;repeat' first|(refine ab (hK _ ?_);clear hK K)|((first|refine ae ?_|refine aa rfl (hm) ?_);simp[hk];(try(refine gen2 ?_ ?_<;>intro hq<;>try simp[hk]at hq)))|(refine T.ret (aB.a8 (Or.inr rfl) ?_)<;>simp[ay,Tryz.results165]<;>omega)|refine T.r0 fun K hK=>?_|refine T.ct rfl ?_|refine T.cf rfl ?_|refine T.seq ?_|refine T.block ?_
 |some p=>
  obtain⟨x,y⟩:=p;rw[hr]at hm;refine⟨(x,y).2,by simp,?_⟩;dsimp only at hm⊢;refine ah.ob Tryz.func165 Tryz.ntmps165 rfl ?_;repeat' first|(refine ab (hK _ ?_);clear hK K)|((first|refine ae ?_|refine aa rfl (hm) ?_);simp[hk];(try(refine gen2 ?_ ?_<;>intro hq<;>try simp[hk]at hq)))|(refine T.ret (aB.a8 (Or.inr rfl) ?_)<;>simp[ay,Tryz.results165]<;>omega)|refine T.r0 fun K hK=>?_|refine T.ct rfl ?_|refine T.cf rfl ?_|refine T.seq ?_|refine T.block ?_
theorem N6 (e:al) (a:aG) (hk:e.kind=13) (ha:ak 4 a=true) (he:ak 4 e.ty=true):JO e [a] (if aE a e.ty=true then some e.ty else none):=by
 have h1:=bX e.ty (by have:=dp he;omega);have h2:=c6 4 a e.ty (by omega) ha he;refine⟨e.ty,?_,?_⟩
 ·intro t h;split at h<;>simp at h;exact h
 rw[show(if aE a e.ty=true then some e.ty else none).isSome=aE a e.ty by cases aE a e.ty<;>rfl];generalize aE a e.ty=c at h2⊢;refine ah.ob Tryz.func165 Tryz.ntmps165 rfl ?_;repeat' first|((first|refine ab (hK _ ?_)|refine aC (hK _ ?_));clear hK K)|((first|refine ae ?_|refine aI ?_|refine aa rfl (h1) ?_|refine aa rfl (h2) ?_);simp[hk];(try(refine gen2 ?_ ?_<;>intro hq<;>try simp[hk]at hq)))|(refine T.ret (aB.a8 (Or.inr rfl) ?_)<;>simp[ay,Tryz.results165, *]<;>omega)|refine T.rd (id:=22) mixed (fun _=>false) [9] (by kernel_rfl) fun K hK=>?_|refine T.r0 fun K hK=>?_|refine T.ct rfl ?_|refine T.cf rfl ?_|refine T.seq ?_|refine T.block ?_
theorem B6 (ctx:List dt) (e:al) (ts:List aG) (hk:5<e.kind/\e.kind<14) (hlen:(ts.length:Int)=cl e.kind) (bM:∀u∈ts,ak 4 u=true) (he:cb e.kind=true->ak 4 e.ty=true):
  JO e ts (bH ctx e.kind e.name e.ty ts):=by
 have DK:e.kind=6\/e.kind=7\/e.kind=8\/e.kind=9\/e.kind=10\/e.kind=11\/e.kind=12\/e.kind=13:=by omega
 rcases DK with h|h|h|h|h|h|h|h
 ·rw[h]at hlen
  match ts,hlen with
  |[a,b],_=>
   have e1:bH ctx e.kind e.name e.ty [a,b]=(match ch 4 a with|some (x,y)=>if aE b x=true then some y else none|none=>none):=by rw[h];rfl
   rw[e1];exact Re e a b h (bM a (by simp)) (bM b (by simp))
 ·rw[h]at hlen
  match ts,hlen with
  |[a,b],_=>have:=Rf e a b h (bM a (by simp)) (bM b (by simp));simpa[bH,h]using this
 ·rw[h]at hlen
  match ts,hlen with
  |[a,b],_=>have:=Rg e a b h (bM a (by simp)) (bM b (by simp));simpa[bH,h]using this
 ·rw[h]at hlen
  match ts,hlen with
  |[a,b,c],_=>have:=Rh e a b c h (bM a (by simp)) (bM b (by simp)) (bM c (by simp));simpa[bH,h]using this
 ·rw[h]at hlen
  match ts,hlen with
  |[a,b],_=>have:=N3 e a b h (bM a (by simp)) (bM b (by simp));simpa[bH,h]using this
 ·rw[h]at hlen
  match ts,hlen with
  |[a],_=>have:=N4 e a h (bM a (by simp));simpa[bH,h]using this
 ·rw[h]at hlen
  match ts,hlen with
  |[a],_=>have:=N5 e a h (bM a (by simp));simpa[bH,h]using this
 ·rw[h]at hlen
  match ts,hlen with
  |[a],_=>have:=N6 e a h (bM a (by simp)) (he (by simp[cb,h]));simpa[bH,h]using this
def Je (ctx:List dt) (e:al):Prop:=∃t',(∀t,bO ctx e=some t->t'=t)/\ah YS 146 [.l (ctx.map iC),cL e] [] (.a8 [dF t',.b (bO ctx e).isSome]) [] []
theorem B7 (ctx:List dt) (e:al) (hl:ctx.length<=1099511627776) (hc:iD ctx) (hlen:cl e.kind=e.kids.length) (hk:e.kind=1\/e.kind=2\/e.kind=3\/e.kind=4):Je ctx e:=by
 have la:e.kids=[]:=by
  have:e.kids.length=0:=by
   rcases hk with h|h|h|h<;>rw[h]at hlen<;>simp[cl]at hlen<;>omega
  exact List.eq_nil_of_length_eq_zero this
 have ht:bO ctx e=bH ctx e.kind e.name e.ty []:=by rw[mZ,la];simp[c5]
 simp only[Je,ht];have h3:=pJ;have h4:=na;rcases hk with h|h|h|h
 ·have ld:=zw ctx e.name hl (fun b hb=>by have:=dp (hc b hb);omega);rw[show bH ctx e.kind e.name e.ty []=cK ctx e.name by simp[bH,h]];cases hr:cK ctx e.name with
  |none=>
   rw[hr]at ld;refine⟨aW,by simp,?_⟩;dsimp only at ld⊢;refine ah.ob Tryz.func146 Tryz.ntmps146 rfl ?_;repeat' first|(refine ab (hK _ ?_);clear hK K)|((first|refine ae ?_|refine aa rfl (ld) ?_);simp[h];(try(refine gen2 ?_ ?_<;>intro hq<;>try simp[h]at hq)))|(refine T.ret (aB.a8 (Or.inr rfl) ?_)<;>simp[ay,Tryz.results146]<;>omega)|refine T.r0 fun K hK=>?_|refine T.ct rfl ?_|refine T.seq ?_|refine T.block ?_
  |some t=>
   rw[hr]at ld;refine⟨t,by simp,?_⟩;dsimp only at ld⊢;refine ah.ob Tryz.func146 Tryz.ntmps146 rfl ?_;repeat' first|(refine ab (hK _ ?_);clear hK K)|((first|refine ae ?_|refine aa rfl (ld) ?_);simp[h];(try(refine gen2 ?_ ?_<;>intro hq<;>try simp[h]at hq)))|(refine T.ret (aB.a8 (Or.inr rfl) ?_)<;>simp[ay,Tryz.results146]<;>omega)|refine T.r0 fun K hK=>?_|refine T.ct rfl ?_|refine T.seq ?_|refine T.block ?_
 ·refine⟨bt,by simp[bH,h],?_⟩;rw[show(bH ctx e.kind e.name e.ty []).isSome=true by simp[bH,h]];refine ah.ob Tryz.func146 Tryz.ntmps146 rfl ?_;repeat' first|(refine ab (hK _ ?_);clear hK K)|((first|refine ae ?_|refine aa rfl (h3) ?_);simp[h];(try(refine gen2 ?_ ?_<;>intro hq<;>try simp[h]at hq)))|(refine T.ret (aB.a8 (Or.inr rfl) ?_)<;>simp[ay,Tryz.results146]<;>omega)|refine T.r0 fun K hK=>?_|refine T.ct rfl ?_|refine T.cf rfl ?_|refine T.seq ?_|refine T.block ?_
 ·refine⟨cm,by simp[bH,h],?_⟩;rw[show(bH ctx e.kind e.name e.ty []).isSome=true by simp[bH,h]];refine ah.ob Tryz.func146 Tryz.ntmps146 rfl ?_;repeat' first|(refine ab (hK _ ?_);clear hK K)|((first|refine ae ?_|refine aa rfl (h4) ?_);simp[h];(try(refine gen2 ?_ ?_<;>intro hq<;>try simp[h]at hq)))|(refine T.ret (aB.a8 (Or.inr rfl) ?_)<;>simp[ay,Tryz.results146]<;>omega)|refine T.r0 fun K hK=>?_|refine T.ct rfl ?_|refine T.cf rfl ?_|refine T.seq ?_|refine T.block ?_|refine T.skip ?_
 ·refine⟨cm,by simp[bH,h],?_⟩;rw[show(bH ctx e.kind e.name e.ty []).isSome=true by simp[bH,h]];refine ah.ob Tryz.func146 Tryz.ntmps146 rfl ?_;repeat' first|(refine ab (hK _ ?_);clear hK K)|((first|refine ae ?_|refine aa rfl (h4) ?_);simp[h];(try(refine gen2 ?_ ?_<;>intro hq<;>try simp[h]at hq)))|(refine T.ret (aB.a8 (Or.inr rfl) ?_)<;>simp[ay,Tryz.results146]<;>omega)|refine T.r0 fun K hK=>?_|refine T.r1 fun K hK=>?_|refine T.ct rfl ?_|refine T.cf rfl ?_|refine T.seq ?_|refine T.block ?_
theorem DM (ctx:List dt) (e b:al) (hl:ctx.length<=1099511627776) (hk:e.kind=5) (hb:e.kids=[b]) (yh:ak 4 e.ty=true)
  (hs:∀t,bO (ctx++[dt.mk e.name e.ty]) b=some t->ak 4 t=true) (ih:Je (ctx++[dt.mk e.name e.ty]) b):Je ctx e:=by
 have ht:bO ctx e=match bO (ctx++[dt.mk e.name e.ty]) b with|some t=>nS 4 e.ty t|none=>none:=by
  rw[mZ,hb];simp only[cw,hk,c5,if_true];cases bO (ctx++[dt.mk e.name e.ty]) b with
  |none=>rfl
  |some t=>simp[bH]
 obtain⟨t',h1,h2⟩:=ih;have hm:=zx ctx e.name e.ty hl;generalize ctx++[dt.mk e.name e.ty]=ctx' at*;simp only[Je,ht];cases hr:bO ctx' b with
 |none=>
  rw[hr]at h2;refine⟨aW,by simp,?_⟩;dsimp only[Option.isSome]at h2⊢;refine ah.ob Tryz.func146 Tryz.ntmps146 rfl ?_;repeat' first|((first|refine ab (hK _ ?_)|refine bc (hK _ ?_));clear hK K)|((first|refine ae ?_|refine bw ?_|refine aa rfl (hm) ?_|refine aa rfl (h2) ?_);simp[hk,hb];(try(refine gen2 ?_ ?_<;>intro hq<;>try simp[hk,hb]at hq)))|(refine T.ret (aB.a8 (Or.inr rfl) ?_)<;>simp[ay,Tryz.results146]<;>omega)|refine T.mK (id:=10) mixed (fun _=>false) [14,15] [2,4,5,7,8,9,10] 15 [] (by kernel_rfl) fun K hK=>?_|(refine⟨?_,?_⟩;(focus(intros;refine aa rfl (hm) ?_;simp;done)))|(refine⟨?_,?_⟩;(focus(intros;refine aa rfl (h2) ?_;simp;done)))|refine T.r0 fun K hK=>?_|refine T.r1 fun K hK=>?_|refine T.ct rfl ?_|refine T.cf rfl ?_|refine T.seq ?_|refine T.block ?_
 |some t=>
  rw[hr]at h2;obtain rfl:=h1 t hr;have S8:=B0 4 e.ty t' (by have:=dp yh;omega) (by have:=dp (hs t' hr);omega);refine⟨.mk 4 [e.ty,t'],?_,?_⟩
  ·intro u h;simp only[nS]at h;split at h<;>simp at h;exact h
  simp only[Y3]at h2;dsimp only;rw[show(nS 4 e.ty t').isSome=ak 4 (.mk 4 [e.ty,t']) by simp only[nS];split<;>simp[*]];generalize ak 4 (.mk 4 [e.ty,t'])=c at S8;refine ah.ob Tryz.func146 Tryz.ntmps146 rfl ?_;repeat' first|((first|refine ab (hK _ ?_)|refine bc (hK _ ?_));clear hK K)|((first|refine ae ?_|refine bw ?_|refine aa rfl (hm) ?_|refine aa rfl (h2) ?_|refine aa rfl (S8) ?_);simp[hk,hb];(try(refine gen2 ?_ ?_<;>intro hq<;>try simp[hk,hb]at hq)))|(refine T.ret (aB.a8 (Or.inr rfl) ?_)<;>simp[ay,Tryz.results146,aL]<;>omega)|refine T.mK (id:=10) mixed (fun _=>false) [14,15] [2,4,5,7,8,9,10] 15 [] (by kernel_rfl) fun K hK=>?_|(refine⟨?_,?_⟩;(focus(intros;refine aa rfl (hm) ?_;simp;done)))|(refine⟨?_,?_⟩;(focus(intros;refine aa rfl (h2) ?_;simp;done)))|refine T.r0 fun K hK=>?_|refine T.r1 fun K hK=>?_|refine T.ct rfl ?_|refine T.cf rfl ?_|refine T.seq ?_|refine T.block ?_|refine T.skip ?_
theorem ve (ctx:List dt) (e:al) (R:Option (List aG)) (t':aG) (ok:Bool) (hl:ctx.length<=1099511627776) (hk:5<e.kind/\e.kind<14) (hlen:e.kids.length<=3) (hR:c5 ctx e.kids=R)
  (hs:∀u∈e.kids,∀t,bO ctx u=some t->ak 4 t=true) (ih:∀u∈e.kids,Je ctx u) (N7:R=none->t'=aW/\ok=false)
  (N8:∀ts,R=some ts->(∀u∈ts,ak 4 u=true)->ah YS 165 [cL e,.l (ts.map cx)] [] (.a8 [dF t',.b ok]) [] []):
  ah YS 146 [.l (ctx.map iC),cL e] [] (.a8 [dF t',.b ok]) [] []:=by
 have jl:¬e.kind=1:=by omega
 have kA:¬e.kind=2:=by omega
 have M6:¬e.kind=3:=by omega
 have nc:¬e.kind=4:=by omega
 have nf:¬e.kind=5:=by omega
 refine ah.ob Tryz.func146 Tryz.ntmps146 rfl ?_;repeat' first|(refine ab (hK _ ?_);clear hK K)|(refine ae ?_;simp[jl,kA,M6,nc,nf];(try(refine gen2 ?_ ?_<;>intro hq<;>try simp[jl,kA,M6,nc,nf]at hq)))|refine T.rs (id:=14) (fun i=>i==0) fun K hK=>?_|refine T.rs (id:=0) (fun _=>false) fun K hK=>?_|refine T.rs (id:=1) (fun _=>false) fun K hK=>?_|refine T.rs (id:=2) (fun _=>false) fun K hK=>?_|refine T.rs (id:=4) (fun _=>false) fun K hK=>?_|refine T.rs (id:=6) (fun _=>false) fun K hK=>?_|refine T.fm (id:=7) (fun _=>false) fun K hK=>?_|refine T.rs (id:=9) (fun _=>false) fun K hK=>?_|refine T.rs (id:=15) (fun _=>false) fun K hK=>?_|refine T.cf rfl ?_|refine T.seq ?_|refine T.block ?_|refine T.skip ?_
 refine T.gy (fun x:Nat×List aG×List (List CV)=>⟨[(0,.l (ctx.map iC)),(3,.c (.ptr 0 0)),(4,.c (.ptr 1 0)),(8,.c (.own 0 x.1)),(9,.i x.1)],(cL e).cells::[.d (.i 0),.nil]::x.2.2,[{sz:=2,eA:=25,rows:=x.2.1.map cx,wr:=true}]⟩) (fun x=>e.kids.length+1-x.1) (fun x=>x.1<=e.kids.length/\x.2.1.length=x.1/\(∀u∈x.2.1,ak 4 u=true)/\(c5 ctx (e.kids.drop x.1)).map (x.2.1++·)=R) (fun x hx=>?_) (0,[],[]) (by simp[hR]) (by simp);obtain⟨p,ts,G⟩:=x;obtain⟨hi,hp,jK,he⟩:=hx;dsimp only at hi hp jK he⊢;by_cases ax:p<e.kids.length
 ·obtain⟨u,ht⟩:=bR ax;have eQ:u∈e.kids:=YW ht;have bf:e.kids[p]=u:=by rw[YV ax]at ht;exact Option.some.inj ht
  have gP:e.kids.drop p=u::e.kids.drop (p+1):=by rw[YX ax,bf]
  obtain⟨tu,h1,h2⟩:=ih u eQ;have UQ:=hs u eQ;rw[gP]at he;simp only[c5]at he;cases hb:bO ctx u with
  |none=>
   rw[hb]at h2 he;simp only[Y4]at h2;obtain⟨rfl,rfl⟩:=N7 (by simpa using he.symm);repeat' first|(refine ab (hK _ ?_);clear hK K)|((first|refine ae ?_|refine aa rfl (h2) ?_);simp[ax,bf,hp];(try simp(disch:=omega)only[wrap64]);(try(refine gen2 ?_ ?_<;>intro hq<;>try simp[ax,bf,hp]at hq)))|(refine T.ret (aB.a8 (Or.inr rfl) ?_)<;>simp[ay,Tryz.results146]<;>omega)|refine T.rs (id:=16) (fun _=>false) fun K hK=>?_|refine T.rs (id:=18) (fun _=>false) fun K hK=>?_|refine T.rs (id:=19) (fun _=>false) fun K hK=>?_|refine T.rs (id:=20) (fun _=>false) fun K hK=>?_|refine T.ct rfl ?_|refine T.seq ?_|refine T.block ?_|refine T.skip ?_
  |some t=>
   obtain rfl:=h1 t hb;rw[hb]at h2 he;simp only[Y3]at h2;have KW:(c5 ctx (e.kids.drop (p+1))).map ((ts++[tu])++·)=R:=by
    rw[<-he];cases c5 ctx (e.kids.drop (p+1))<;>simp
   have Ri:∀v∈ts++[tu],ak 4 v=true:=fun v hv=>by
    rcases Y2.1 hv with h|h
    ·exact jK v h
    ·simp at h;subst h;exact UQ _ hb
   repeat' first|(refine ab (hK _ ?_);clear hK K)|((first|refine ae ?_|refine aa rfl (h2) ?_);simp[ax,bf,hp];(try simp(disch:=omega)only[wrap64]);(try(refine gen2 ?_ ?_<;>intro hq<;>try simp[ax,bf,hp]at hq)))|(refine⟨by omega,by omega,?_⟩)|(refine⟨(p+1,ts++[tu],_),by dsimp only;omega,⟨by dsimp only;omega,by simp[hp],Ri,KW⟩,rfl,?_,?_⟩<;>simp(disch:=omega) [wrap64,aL])|refine T.rs (id:=16) (fun _=>false) fun K hK=>?_|refine T.rs (id:=18) (fun _=>false) fun K hK=>?_|refine T.rs (id:=19) (fun _=>false) fun K hK=>?_|refine T.fm (id:=21) (fun _=>false) fun K hK=>?_|refine T.fm (id:=17) (fun _=>false) fun K hK=>?_|refine T.ct rfl ?_|refine T.cf rfl ?_|refine T.seq ?_|refine T.block ?_|refine T.skip ?_
 ·have ff:p=e.kids.length:=by omega
  subst ff;simp[c5]at he;have dY:=N8 ts he.symm jK;repeat' first|(refine ab (hK _ ?_);clear hK K)|((first|refine ae ?_|(refine aa ?_ (dY) ?_;(focus(solve|simp[ax,hp]))));simp[ax,hp];(try(refine gen2 ?_ ?_<;>intro hq<;>try simp[ax,hp]at hq)))|(refine T.ret (aB.a8 (Or.inr rfl) ?_)<;>simp[ay,Tryz.results146]<;>omega)|refine T.rs (id:=16) (fun _=>false) fun K hK=>?_|refine T.rs (id:=22) (fun _=>false) fun K hK=>?_|refine T.cf rfl ?_|refine T.seq ?_|refine T.exit ?_
theorem B8 (ctx:List dt) (e:al) (hl:ctx.length<=1099511627776) (hk:5<e.kind/\e.kind<14) (hlen:cl e.kind=e.kids.length) (yh:cb e.kind=true->ak 4 e.ty=true)
  (hs:∀u∈e.kids,∀t,bO ctx u=some t->ak 4 t=true) (ih:∀u∈e.kids,Je ctx u):Je ctx e:=by
 have nf:¬e.kind=5:=by omega
 have VY:=so e.kind;have ht:bO ctx e=(c5 ctx e.kids).bind (bH ctx e.kind e.name e.ty):=by
  rw[mZ,cw,if_neg nf];cases c5 ctx e.kids<;>rfl
 simp only[Je,ht];cases hr:c5 ctx e.kids with
 |none=>
  refine⟨aW,by simp,?_⟩;exact ve ctx e none aW false hl hk (by omega) hr hs ih (fun _=>⟨rfl,rfl⟩) (fun ts h=>by simp at h)
 |some ts=>
  have ax:=wO hr;have Rj:∀u∈ts,ak 4 u=true:=by
   have hl:∀(l:List al) (ts:List aG),(∀u∈l,u∈e.kids)->c5 ctx l=some ts->∀u∈ts,ak 4 u=true:=by
    intro l;induction l with
    |nil=>intro ts _ h;simp[c5]at h;subst h;simp
    |cons x r ihl=>
     intro ts hm h;simp only[c5]at h;split at h
     ·simp at h
     ·rename_i tx QZ;split at h
      ·simp at h
      ·rename_i us NQ;simp at h;subst h;intro u hu;simp only[List.mem_cons]at hu;rcases hu with rfl|hu
       ·exact hs x (hm x (by simp)) _ QZ
       ·exact ihl us (fun v hv=>hm v (by simp[hv])) NQ u hu
   exact hl e.kids ts (fun _ h=>h) hr
  obtain⟨t',h1,h2⟩:=B6 ctx e ts hk (by rw[ax];exact hlen.symm) Rj yh;refine⟨t',by simpa using h1,?_⟩;rw[show((some ts).bind (bH ctx e.kind e.name e.ty))=bH ctx e.kind e.name e.ty ts from rfl];exact ve ctx e (some ts) t' _ hl hk (by omega) hr hs ih (fun h=>by simp at h) (fun us h _=>by simp at h;subst h;exact h2)
theorem B9 (k:Int) (n:Nat) (h:cl k=n):0<k/\k<15:=by
 simp only[cl]at h;split at h
 ·omega
 ·split at h
  ·omega
  ·split at h
   ·omega
   ·split at h<;>omega
theorem FU:∀(e:al) (d:Nat) (ctx:List dt),bg 14 d e=true->ctx.length+d<=1099511627776->iD ctx->Je ctx e:=by
 intro e;induction e using al.ind with
 |h e ih=>
  intro d ctx hs hl hc;obtain⟨d',rfl,dj,hlen,dP,jc⟩:=fV hs;have hb:=B9 e.kind _ hlen;by_cases h5:e.kind=5
  ·have yh:ak 4 e.ty=true:=gX dP (by simp[cb,h5]);have ES:e.kids.length=1:=by rw[h5]at hlen;simp[cl]at hlen;omega
   match hk:e.kids,ES with
   |[b],_=>
    have N9:b∈e.kids:=by simp[hk]
    have z7:iD (ctx++[dt.mk e.name e.ty]):=by
     intro x hx;rcases Y2.1 hx with h|h
     ·exact hc x h
     ·simp at h;subst h;exact yh
    exact DM ctx e b (by omega) h5 hk yh (fun t h=>cN b d' 14 _ t (jc b N9) z7 h) (ih b N9 d' _ (jc b N9) (by simp;omega) z7)
  ·by_cases S9:e.kind<5
   ·exact B7 ctx e (by omega) hc hlen (by omega)
   ·exact B8 ctx e (by omega) ⟨by omega,by omega⟩ hlen (gX dP) (fun u hu t h=>cN u d' 14 ctx t (jc u hu) hc h) (fun u hu=>ih u hu d' ctx (jc u hu) (by omega) hc)
def bV (ctx:List dt) (e:al):Option aG:=if rl ctx=true/\aS e=true then bO ctx e else none
abbrev fN:Option aG->List AV
 |some t=>[dF t,.b true]
 |none=>[dF aW,.b false]
theorem DN (ctx:List dt) (e:al) (hl:ctx.length<=1073741824) (Df:∀b∈ctx,fE b.ty<=1099511627776) (hn:e9 e<=1099511627776):ah YS 118 [.l (ctx.map iC),cL e] [] (.a8 (fN (bV ctx e))) [] []:=by
 have h1:=Ar ctx (by omega) Df;have h2:=iF e hn;cases hc:rl ctx with
 |false=>
  rw[show bV ctx e=none by simp[bV,hc]];rw[hc]at h1;refine ah.ob Tryz.func118 Tryz.ntmps118 rfl ?_;repeat' first|(refine ab (hK _ ?_);clear hK K)|((first|refine ae ?_|refine aa rfl (h1) ?_);simp;(try(refine gen2 ?_ ?_<;>intro hq<;>try simp at hq)))|(refine T.ret (aB.a8 (Or.inr rfl) ?_)<;>simp[ay,Tryz.results118]<;>omega)|refine T.r0 fun K hK=>?_|refine T.ct rfl ?_|refine T.seq ?_
 |true=>
  rw[hc]at h1;cases hv:aS e with
  |false=>
   rw[show bV ctx e=none by simp[bV,hv]];rw[hv]at h2;refine ah.ob Tryz.func118 Tryz.ntmps118 rfl ?_;repeat' first|(refine ab (hK _ ?_);clear hK K)|((first|refine ae ?_|refine aa rfl (h1) ?_|refine aa rfl (h2) ?_);simp;(try(refine gen2 ?_ ?_<;>intro hq<;>try simp at hq)))|(refine T.ret (aB.a8 (Or.inr rfl) ?_)<;>simp[ay,Tryz.results118]<;>omega)|refine T.r0 fun K hK=>?_|refine T.ct rfl ?_|refine T.seq ?_
  |true=>
   rw[hv]at h2;have eT:iD ctx:=fun b hb=>by
    simp only[rl,YU,List.all_eq_true]at hc;exact(hc.1 b hb).2
   have jK:bg 14 12 e=true:=by simp only[aS,YU]at hv;exact hv.1
   obtain⟨t',h3,h4⟩:=FU e 12 ctx jK (by omega) eT;rw[show bV ctx e=bO ctx e by simp[bV,hc,hv]];cases hr:bO ctx e with
   |none=>
    rw[hr]at h4;have h5:=zu t' false;simp only[Y4]at h4;refine ah.ob Tryz.func118 Tryz.ntmps118 rfl ?_;repeat' first|(refine ab (hK _ ?_);clear hK K)|((first|refine ae ?_|refine aa rfl (h1) ?_|refine aa rfl (h2) ?_|refine aa rfl (h4) ?_|refine aa rfl (h5) ?_);simp;(try(refine gen2 ?_ ?_<;>intro hq<;>try simp at hq)))|(refine T.ret (aB.a8 (Or.inr rfl) ?_)<;>simp[ay,Tryz.results118]<;>omega)|refine T.r0 fun K hK=>?_|refine T.cf rfl ?_|refine T.seq ?_|refine T.skip ?_
   |some t=>
    obtain rfl:=h3 t hr;rw[hr]at h4;have h5:=zu t' true;simp only[Y3]at h4;refine ah.ob Tryz.func118 Tryz.ntmps118 rfl ?_;repeat' first|(refine ab (hK _ ?_);clear hK K)|((first|refine ae ?_|refine aa rfl (h1) ?_|refine aa rfl (h2) ?_|refine aa rfl (h4) ?_|refine aa rfl (h5) ?_);simp;(try(refine gen2 ?_ ?_<;>intro hq<;>try simp at hq)))|(refine T.ret (aB.a8 (Or.inr rfl) ?_)<;>simp[ay,Tryz.results118]<;>omega)|refine T.r0 fun K hK=>?_|refine T.cf rfl ?_|refine T.seq ?_|refine T.skip ?_
theorem xh (e:al) (hn:e9 e<=1099511627776):ah YS 70 [cL e] [] (.a8 (fN (bV [] e))) [] []:=by
 have h:=DN [] e (by simp) (by simp) hn;cases hr:bV [] e with
 |none=>
  rw[hr]at h;refine ah.ob Tryz.func70 Tryz.ntmps70 rfl ?_;repeat' first|(refine ab (hK _ ?_);clear hK K)|((first|refine ae ?_|(refine aa ?_ (h) ?_;(focus(solve|simp))));simp)|(refine T.ret (aB.a8 (Or.inr rfl) ?_)<;>simp[ay,Tryz.results70]<;>omega)|refine T.r0 fun K hK=>?_
 |some t=>
  rw[hr]at h;refine ah.ob Tryz.func70 Tryz.ntmps70 rfl ?_;repeat' first|(refine ab (hK _ ?_);clear hK K)|((first|refine ae ?_|(refine aa ?_ (h) ?_;(focus(solve|simp))));simp)|(refine T.ret (aB.a8 (Or.inr rfl) ?_)<;>simp[ay,Tryz.results70]<;>omega)|refine T.r0 fun K hK=>?_
end Go.Proofs.YtloolmchekcmeaaGreat
