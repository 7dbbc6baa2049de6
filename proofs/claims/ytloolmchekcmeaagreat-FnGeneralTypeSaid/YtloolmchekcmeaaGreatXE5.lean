/- A part. -/
import Derived.Test.YtloolmchekcmeaaGreatXE4
import Derived.Test.YtloolmchekcmeaaGreatChecked
set_option linter.unusedVariables false
set_option linter.unusedSimpArgs false
open Go.Proofs.Tryz renaming prog->YA
open Bool renaming not_eq_true->YB
open List renaming getElem?_eq_getElem->YC,mem_of_getElem?->YD,drop_eq_getElem_cons->YE,drop_length->YF,take_add_one->YG,all_cons->YH
namespace Go.Proofs.YtloolmchekcmeaaGreat
attribute [-simp] Go.Av.iJ Go.Av.gE Go.Av.iK Go.Av.gF Go.Av.dw Go.Av.rN Go.Av.gv Go.Av.gi Go.Av.cP Go.Av.gJ Go.Av.cc Go.Av.bK Go.Av.back Go.Av.fg Go.Av.one
open Go Go.Av
attribute [local irreducible] T
attribute [local simp] aQ ax
@[simp] theorem cI:td YA 3=some {ag:=false,sz:=1,lG:=8,zero:=some [.d (.int .i64 0)],el:=none,ar:=none,fl:=[],ik:=some .i64,cL:=false,nj:=false}:=dI (by kernel_rfl)
@[simp] theorem PG:td YA 4=some {ag:=false,sz:=1,lG:=1,zero:=some [.d (.bool false)],el:=none,ar:=none,fl:=[],ik:=none,cL:=false,nj:=true}:=dI (by kernel_rfl)
@[simp] theorem bI:td YA 9=some {ag:=false,sz:=1,lG:=16,zero:=some [.d (.str [])],el:=none,ar:=none,fl:=[],ik:=none,cL:=true,nj:=false}:=dI (by kernel_rfl)
@[simp] theorem JJ:td YA 36=some {ag:=false,sz:=1,lG:=24,zero:=some [.nil],el:=some 38,ar:=none,fl:=[],ik:=none,cL:=false,nj:=false}:=dI (by kernel_rfl)
@[simp] theorem KR:td YA 38=some {ag:=true,sz:=2,lG:=32,zero:=some [.d (.int .i64 0),.nil],el:=none,ar:=none,fl:=[(0,1),(1,1)],ik:=none,cL:=false,nj:=false}:=dI (by kernel_rfl)
@[simp] theorem JK:td YA 39=some {ag:=false,sz:=1,lG:=24,zero:=some [.nil],el:=some 41,ar:=none,fl:=[],ik:=none,cL:=false,nj:=false}:=dI (by kernel_rfl)
@[simp] theorem KS:td YA 41=some {ag:=true,sz:=9,lG:=128,zero:=some [.d (.int .i64 0),.d (.str []),.d (.int .i64 0),.d (.int .i64 0),.nil,.d (.int .i64 0),.nil,.d (.int .i64 0),.nil],el:=none,ar:=none,fl:=[(0,1),(1,1),(2,1),(3,2),(5,2),(7,1),(8,1)],ik:=none,cL:=false,nj:=false}:=dI (by kernel_rfl)
@[simp] theorem Aj:td YA 23=some {ag:=false,sz:=1,lG:=24,zero:=some [.nil],el:=some 25,ar:=none,fl:=[],ik:=none,cL:=false,nj:=false}:=dI (by kernel_rfl)
@[simp] theorem BF:td YA 25=some {ag:=true,sz:=2,lG:=32,zero:=some [.d (.int .i64 0),.nil],el:=none,ar:=none,fl:=[(0,1),(1,1)],ik:=none,cL:=false,nj:=false}:=dI (by kernel_rfl)
@[simp] theorem JL:td YA 26=some {ag:=false,sz:=1,lG:=24,zero:=some [.nil],el:=some 28,ar:=none,fl:=[],ik:=none,cL:=false,nj:=false}:=dI (by kernel_rfl)
@[simp] theorem KT:td YA 28=some {ag:=true,sz:=9,lG:=128,zero:=some [.d (.int .i64 0),.d (.str []),.d (.int .i64 0),.d (.int .i64 0),.nil,.d (.int .i64 0),.nil,.d (.int .i64 0),.nil],el:=none,ar:=none,fl:=[(0,1),(1,1),(2,1),(3,2),(5,2),(7,1),(8,1)],ik:=none,cL:=false,nj:=false}:=dI (by kernel_rfl)
theorem mixed:Tryz.prog.follows .mixedOrders=true:=by kernel_rfl
end Go.Proofs.YtloolmchekcmeaaGreat
namespace Go.Proofs.YtloolmchekcmeaaGreat
attribute [-simp] Go.Av.dw Go.Av.rN Go.Av.gv Go.Av.gi Go.Av.cP Go.Av.gJ Go.Av.cc Go.Av.bK Go.Av.back Go.Av.fg Go.Av.one
open Go Go.Av
attribute [local irreducible] T
attribute [local simp] aQ ax
theorem xc (x lo hi:Int):ah YA 151 [.i x,.i lo,.i hi] [] (.b (nk x lo hi)) [] []:=by
 refine ah.ob Tryz.func151 Tryz.ntmps151 rfl ?_;repeat' first|(refine ab (hK _ ?_);clear hK K)|(refine af ?_;simp;(try(refine gen fun q hq=>?_;cases q<;>(try simp at hq))))|refine T.r0 fun K hK=>?_|refine T.r1 fun K hK=>?_|refine T.cond rfl (fun hc=>?_) (fun hc=>absurd hc (by decide))|refine T.cond rfl (fun hc=>absurd hc (by decide)) (fun hc=>?_)|refine T.seq ?_|refine T.block ?_|refine T.skip ?_|refine T.exit ?_
 all_goals(refine T.ret (aD.data (Or.inr rfl) ?_ ?_)<;>simp[Tryz.results151,nk, *]<;>omega)
theorem zj (s:List UInt8):ah YA 141 [.s s] [] (.b (eh s)) [] []:=by
 refine ah.ob Tryz.func141 Tryz.ntmps141 rfl ?_
 match s with
 |[]=>
  repeat' first|(refine ab (hK _ ?_);clear hK K)|(refine af ?_;simp;(try(refine gen fun q hq=>?_;cases q<;>(try simp at hq))))|refine T.r0 fun K hK=>?_|refine T.r1 fun K hK=>?_|refine T.cond rfl (fun hc=>?_) (fun hc=>absurd hc (by decide))|refine T.cond rfl (fun hc=>absurd hc (by decide)) (fun hc=>?_)|refine T.seq ?_|refine T.block ?_|refine T.skip ?_|refine T.exit ?_
  all_goals(refine T.ret (aD.data (Or.inr rfl) ?_ ?_)<;>simp[Tryz.results141,eh])
 |[c]=>
  repeat' first|(refine ab (hK _ ?_);clear hK K)|(refine af ?_;simp;(try(refine gen fun q hq=>?_;cases q<;>(try simp at hq))))|refine T.r0 fun K hK=>?_|refine T.r1 fun K hK=>?_|refine T.cond rfl (fun hc=>?_) (fun hc=>absurd hc (by decide))|refine T.cond rfl (fun hc=>absurd hc (by decide)) (fun hc=>?_)|refine T.seq ?_|refine T.block ?_|refine T.skip ?_|refine T.exit ?_
  all_goals(refine T.ret (aD.data (Or.inr rfl) ?_ ?_)<;>simp[Tryz.results141,eh, *]<;>omega)
 |c::d::r=>
  have h2:¬((r.length:Int)+1+1=1):=by omega
  repeat' first|(refine ab (hK _ ?_);clear hK K)|(refine af ?_;simp[h2,Eu h2];(try(refine gen fun q hq=>?_;cases q<;>(try simp[h2]at hq))))|refine T.r0 fun K hK=>?_|refine T.r1 fun K hK=>?_|refine T.cond rfl (fun hc=>?_) (fun hc=>absurd hc (by decide))|refine T.cond rfl (fun hc=>absurd hc (by decide)) (fun hc=>?_)|refine T.seq ?_|refine T.block ?_|refine T.skip ?_|refine T.exit ?_
  all_goals(refine T.ret (aD.data (Or.inr rfl) ?_ ?_)<;>simp[Tryz.results141,eh])
theorem FJ (s:List UInt8):ah YA 156 [.s s] [] (.b (eh s)) [] []:=by
 refine ah.ob Tryz.func156 Tryz.ntmps156 rfl ?_
 match s with
 |[]=>
  repeat' first|(refine ab (hK _ ?_);clear hK K)|(refine af ?_;simp;(try(refine gen fun q hq=>?_;cases q<;>(try simp at hq))))|refine T.r0 fun K hK=>?_|refine T.r1 fun K hK=>?_|refine T.cond rfl (fun hc=>?_) (fun hc=>absurd hc (by decide))|refine T.cond rfl (fun hc=>absurd hc (by decide)) (fun hc=>?_)|refine T.seq ?_|refine T.block ?_|refine T.skip ?_|refine T.exit ?_
  all_goals(refine T.ret (aD.data (Or.inr rfl) ?_ ?_)<;>simp[Tryz.results156,eh])
 |[c]=>
  repeat' first|(refine ab (hK _ ?_);clear hK K)|(refine af ?_;simp;(try(refine gen fun q hq=>?_;cases q<;>(try simp at hq))))|refine T.r0 fun K hK=>?_|refine T.r1 fun K hK=>?_|refine T.cond rfl (fun hc=>?_) (fun hc=>absurd hc (by decide))|refine T.cond rfl (fun hc=>absurd hc (by decide)) (fun hc=>?_)|refine T.seq ?_|refine T.block ?_|refine T.skip ?_|refine T.exit ?_
  all_goals(refine T.ret (aD.data (Or.inr rfl) ?_ ?_)<;>simp[Tryz.results156,eh, *]<;>omega)
 |c::d::r=>
  have h2:¬((r.length:Int)+1+1=1):=by omega
  repeat' first|(refine ab (hK _ ?_);clear hK K)|(refine af ?_;simp[h2,Eu h2];(try(refine gen fun q hq=>?_;cases q<;>(try simp[h2]at hq))))|refine T.r0 fun K hK=>?_|refine T.r1 fun K hK=>?_|refine T.cond rfl (fun hc=>?_) (fun hc=>absurd hc (by decide))|refine T.cond rfl (fun hc=>absurd hc (by decide)) (fun hc=>?_)|refine T.seq ?_|refine T.block ?_|refine T.skip ?_|refine T.exit ?_
  all_goals(refine T.ret (aD.data (Or.inr rfl) ?_ ?_)<;>simp[Tryz.results156,eh])
theorem vd (t:aE):ah YA 152 [eu t] [] (.b (dR t)) [] []:=by
 refine ah.ob Tryz.func152 Tryz.ntmps152 rfl ?_;repeat' first|(refine ab (hK _ ?_);clear hK K)|(refine af ?_;simp;(try(refine gen fun q hq=>?_;cases q<;>(try simp at hq))))|refine T.r0 fun K hK=>?_|refine T.r1 fun K hK=>?_|refine T.cond rfl (fun hc=>?_) (fun hc=>absurd hc (by decide))|refine T.cond rfl (fun hc=>absurd hc (by decide)) (fun hc=>?_)|refine T.seq ?_|refine T.block ?_|refine T.skip ?_|refine T.exit ?_
 all_goals(refine T.ret (aD.data (Or.inr rfl) ?_ ?_)<;>simp[Tryz.results152,dR, *])
theorem zk (t:aE):ah YA 157 [eu t] [] (.b (dR t)) [] []:=by
 refine ah.ob Tryz.func157 Tryz.ntmps157 rfl ?_;repeat' first|(refine ab (hK _ ?_);clear hK K)|(refine af ?_;simp;(try(refine gen fun q hq=>?_;cases q<;>(try simp at hq))))|refine T.r0 fun K hK=>?_|refine T.r1 fun K hK=>?_|refine T.cond rfl (fun hc=>?_) (fun hc=>absurd hc (by decide))|refine T.cond rfl (fun hc=>absurd hc (by decide)) (fun hc=>?_)|refine T.seq ?_|refine T.block ?_|refine T.skip ?_|refine T.exit ?_
 all_goals(refine T.ret (aD.data (Or.inr rfl) ?_ ?_)<;>simp[Tryz.results157,dR, *])
theorem Dn (n:Int):ah YA 154 [.i n] [] (.b (Db n)) [] []:=by
 refine ah.ob Tryz.func154 Tryz.ntmps154 rfl ?_;repeat' first|(refine T.rs (fun _=>false) fun K hK=>?_;(repeat (refine af ?_;simp));refine ab (hK _ ?_);clear hK K)|(refine T.eH (fun _=>false) fun K hK=>?_;(repeat (refine af ?_;simp));refine ab (hK _ ?_);clear hK K)|refine T.cond rfl (fun hc=>?_) (fun hc=>absurd hc (by decide))|refine T.cond rfl (fun hc=>absurd hc (by decide)) (fun hc=>?_)|refine T.seq ?_|refine T.block ?_|refine T.skip ?_|refine T.exit ?_
 refine T.eH (fun _=>false) fun K hK=>?_
 repeat (refine af ?_;simp)
 refine aa (by simp) (xc n 1 99) ?_;simp;refine CO.gen fun q hq=>?_
 cases q
 ·repeat (refine af ?_;simp)
  refine aa (by simp) (xc n (-99) (-1)) ?_;simp;repeat' first|(refine ab (hK _ ?_);clear hK K)|(refine af ?_;simp;(try(refine gen fun q hq=>?_;cases q<;>(try simp at hq))))|refine T.r0 fun K hK=>?_|refine T.r1 fun K hK=>?_|refine T.cond rfl (fun hc=>?_) (fun hc=>absurd hc (by decide))|refine T.cond rfl (fun hc=>absurd hc (by decide)) (fun hc=>?_)|refine T.seq ?_|refine T.block ?_|refine T.skip ?_|refine T.exit ?_
  all_goals(refine T.ret (aD.data (Or.inr rfl) ?_ ?_)<;>simp[Tryz.results154,Db, *])
 ·repeat' first|(refine ab (hK _ ?_);clear hK K)|(refine af ?_;simp;(try(refine gen fun q hq=>?_;cases q<;>(try simp at hq))))|refine T.r0 fun K hK=>?_|refine T.r1 fun K hK=>?_|refine T.cond rfl (fun hc=>?_) (fun hc=>absurd hc (by decide))|refine T.cond rfl (fun hc=>absurd hc (by decide)) (fun hc=>?_)|refine T.seq ?_|refine T.block ?_|refine T.skip ?_|refine T.exit ?_
  all_goals(refine T.ret (aD.data (Or.inr rfl) ?_ ?_)<;>simp[Tryz.results154,Db, *])
theorem zl (k:Int):ah YA 133 [.i k] [] (.i (cD k)) [] []:=by
 refine ah.ob Tryz.func133 Tryz.ntmps133 rfl ?_;repeat' first|(refine ab (hK _ ?_);clear hK K)|(refine af ?_;simp;(try(refine gen fun q hq=>?_;cases q<;>(try simp at hq))))|refine T.r0 fun K hK=>?_|refine T.r1 fun K hK=>?_|refine T.cond rfl (fun hc=>?_) (fun hc=>absurd hc (by decide))|refine T.cond rfl (fun hc=>absurd hc (by decide)) (fun hc=>?_)|refine T.seq ?_|refine T.block ?_|refine T.skip ?_|refine T.exit ?_
 all_goals(refine T.ret (aD.data (Or.inr rfl) ?_ ?_)<;>simp[Tryz.results133,cD, *])
@[simp] theorem PH:td YA 77=some {ag:=false,sz:=1,lG:=24,zero:=some [.nil],el:=some 3,ar:=none,fl:=[],ik:=none,cL:=false,nj:=false}:=dI (by kernel_rfl)
theorem BG (k:Int):ah YA 150 [.i k] [] (.i (cD k)) [] []:=by
 refine ah.ob Tryz.func150 Tryz.ntmps150 rfl ?_;repeat' first|(refine T.rs (fun _=>false) fun K hK=>?_;(repeat (refine af ?_;simp));refine ab (hK _ ?_);clear hK K)|(refine T.eH (fun _=>false) fun K hK=>?_;(repeat (refine af ?_;simp));refine ab (hK _ ?_);clear hK K)|refine T.cond rfl (fun hc=>?_) (fun hc=>absurd hc (by decide))|refine T.cond rfl (fun hc=>absurd hc (by decide)) (fun hc=>?_)|refine T.seq ?_|refine T.block ?_|refine T.skip ?_|refine T.exit ?_
 refine T.eH (fun _=>false) fun K hK=>?_
 repeat (refine af ?_;simp)
 refine aa (by simp) (xc k 1 14) ?_;simp;by_cases h:nk k 1 14=true
 ·have hr:k=1\/k=2\/k=3\/k=4\/k=5\/k=6\/k=7\/k=8\/k=9\/k=10\/k=11\/k=12\/k=13\/k=14:=by
   simp[nk]at h;omega
  rcases hr with rfl|rfl|rfl|rfl|rfl|rfl|rfl|rfl|rfl|rfl|rfl|rfl|rfl|rfl
  all_goals
   simp[nk]at h;have hw:∀n:Int,0<=n->n<=20->IntKind.i64.wrap n=n:=fun n h1 h2=>wrap64 (by omega) (by omega)
   repeat' first|(refine ab (hK _ ?_);clear hK K)|(refine af ?_;simp[nk,hw];(try(refine gen fun q hq=>?_;cases q<;>(try simp at hq))))|refine T.r0 fun K hK=>?_|refine T.r1 fun K hK=>?_|refine T.cond rfl (fun hc=>?_) (fun hc=>absurd hc (by decide))|refine T.cond rfl (fun hc=>absurd hc (by decide)) (fun hc=>?_)|refine T.seq ?_|refine T.block ?_|refine T.skip ?_|refine T.exit ?_
   all_goals(refine T.ret (aD.data (Or.inr rfl) ?_ ?_)<;>simp[Tryz.results150,cD])
 ·have hk:cD k=-1:=by
   simp only[nk,YB,Bool.and_eq_false_iff,decide_eq_false_iff_not]at h;have:k<1\/14<k:=by omega
   simp only[cD]
   repeat (rw[if_neg (by omega)])
  simp only[YB]at h;repeat' first|(refine ab (hK _ ?_);clear hK K)|(refine af ?_;simp[h];(try(refine gen fun q hq=>?_;cases q<;>(try simp at hq))))|refine T.r0 fun K hK=>?_|refine T.r1 fun K hK=>?_|refine T.cond rfl (fun hc=>?_) (fun hc=>absurd hc (by decide))|refine T.cond rfl (fun hc=>absurd hc (by decide)) (fun hc=>?_)|refine T.seq ?_|refine T.block ?_|refine T.skip ?_|refine T.exit ?_
  all_goals(refine T.ret (aD.data (Or.inr rfl) ?_ ?_)<;>simp[Tryz.results150,hk])
end Go.Proofs.YtloolmchekcmeaaGreat
namespace Go.Proofs.YtloolmchekcmeaaGreat
attribute [-simp] Go.Av.dw Go.Av.rN Go.Av.gv Go.Av.gi Go.Av.cP Go.Av.gJ Go.Av.cc Go.Av.bK Go.Av.back Go.Av.fg Go.Av.one
open Go Go.Av
attribute [local irreducible] T ah cA gA aE.kind aE.kids ao.kind ao.name ao.num ao.ty ao.fr ao.label ao.kids
attribute [local simp] aQ ax
set_option maxHeartbeats 4000000
theorem tT (k:Int):ah YA 128 [.i k] [] (.i (cF k)) [] []:=by
 refine ah.ob Tryz.func128 Tryz.ntmps128 rfl ?_;repeat' first|(refine ab (hK _ ?_);clear hK K)|(refine af ?_;simp;(try(refine gen2 ?_ ?_<;>intro hq<;>try simp at hq)))|(refine T.ret (aD.data (Or.inr rfl) ?_ ?_)<;>simp[Tryz.results128,cF, *]<;>omega)|refine T.r0 fun K hK=>?_|refine T.r1 fun K hK=>?_|refine T.ct rfl ?_|refine T.cf rfl ?_|refine T.seq ?_|refine T.block ?_|refine T.skip ?_
theorem xd:∀(d:Nat) (t:aE),d<=1000->gl t<=1099511627776->ah YA 143 [eu t,.i d] [] (.b (ak d t)) [] []
 |0,t,_,_=>by
  refine ah.ob Tryz.func143 Tryz.ntmps143 rfl ?_;repeat' first|((first|refine ab (hK _ ?_)|refine aA (hK _ ?_));clear hK K)|((first|refine af ?_|refine aG ?_);simp;(try(refine gen2 ?_ ?_<;>intro hq<;>(try simp at hq)<;>try(have:True:=hq;clear this hq))))|(refine T.ret (aD.data (Or.inr rfl) ?_ ?_)<;>simp[Tryz.results143,ak]<;>omega)|refine T.r0 fun K hK=>?_|refine T.rd mixed (fun _=>false) [] (by kernel_rfl) fun K hK=>?_|refine T.ct rfl ?_|refine T.seq ?_
 |d+1,t,hd,hn=>by
  rw[gG]at hn;have hlen:=ie t.kids;have hP:¬((d:Int)+1<1):=by omega
  refine ah.ob Tryz.func143 Tryz.ntmps143 rfl ?_;repeat' first|((first|refine ab (hK _ ?_)|refine aA (hK _ ?_));clear hK K)|((first|(first|refine af ?_|refine aG ?_)|refine aa rfl (tT _) ?_);simp[hP];(try(refine gen2 ?_ ?_<;>intro hq<;>(try simp[hP]at hq)<;>try(have:True:=hq;clear this hq))))|(refine T.ret (aD.data (Or.inr rfl) ?_ ?_)<;>simp[Tryz.results143,ak, *]<;>omega)|refine T.r0 fun K hK=>?_|refine T.rd mixed (fun _=>false) [] (by kernel_rfl) fun K hK=>?_|refine T.ct rfl ?_|refine T.cf rfl ?_|refine T.seq ?_|refine T.block ?_|refine T.skip ?_
  obtain⟨R,hR⟩:∃R,t.kids.all (ak d)=R:=⟨_,rfl⟩;rw[show ak (d+1) t=R by simp[ak,hq,hR]];refine T.iI (fun p:Nat=>⟨[(1,.i (d+1)),(2,.c (.ptr 0 0)),(5,.i p)],[(eu t).cells],[]⟩) (fun p=>t.kids.length+1-p) (fun p=>p<=t.kids.length/\(t.kids.drop p).all (ak d)=R) (fun p hp=>?_) 0 (by simpa using hR) (by simp);obtain⟨hi,he⟩:=hp;by_cases az:p<t.kids.length
  ·obtain⟨u,ht⟩:=bX az;have fz:u∈t.kids:=YD ht;have a8:t.kids[p]=u:=by rw[YC az]at ht;exact Option.some.inj ht
   have jb:t.kids.drop p=u::t.kids.drop (p+1):=by rw[YE az,a8]
   have hu:=xd d u (by omega) (by have:=ig fz;omega);rw[jb,YH]at he;cases hb:ak d u<;>rw[hb]at hu he
   ·repeat' first|(refine ab (hK _ ?_);clear hK K)|(refine af ?_;simp[az,a8];(try simp(disch:=omega)only[wrap64]);(try(refine gen2 ?_ ?_<;>intro hq<;>(try simp[az,a8]at hq)<;>try(have:True:=hq;clear this hq))))|(refine aa rfl (hu) ?_;simp[az,a8];(try simp(disch:=omega)only[wrap64]);(try(refine gen2 ?_ ?_<;>intro hq<;>(try simp[az,a8]at hq)<;>try(have:True:=hq;clear this hq))))|(refine T.ret (aD.data (Or.inr rfl) ?_ ?_)<;>simp[Tryz.results143,<-he]<;>omega)|refine T.r0 fun K hK=>?_|refine T.ct rfl ?_|refine T.seq ?_|refine T.block ?_|refine T.skip ?_
   ·repeat' first|(refine ab (hK _ ?_);clear hK K)|(refine af ?_;simp[az,a8];(try simp(disch:=omega)only[wrap64]);(try(refine gen2 ?_ ?_<;>intro hq<;>(try simp[az,a8]at hq)<;>try(have:True:=hq;clear this hq))))|(refine aa rfl (hu) ?_;simp[az,a8];(try simp(disch:=omega)only[wrap64]);(try(refine gen2 ?_ ?_<;>intro hq<;>(try simp[az,a8]at hq)<;>try(have:True:=hq;clear this hq))))|(refine⟨p+1,by dsimp only;omega,⟨by omega,by simpa using he⟩,?_⟩;simp(disch:=omega) [wrap64])|refine T.r0 fun K hK=>?_|refine T.r1 fun K hK=>?_|refine T.ct rfl ?_|refine T.cf rfl ?_|refine T.seq ?_|refine T.block ?_|refine T.skip ?_
  ·have fX:p=t.kids.length:=by omega
   subst fX;simp at he;repeat' first|(refine ab (hK _ ?_);clear hK K)|(refine af ?_;simp[az];(try(refine gen2 ?_ ?_<;>intro hq<;>(try simp[az]at hq)<;>try(have:True:=hq;clear this hq))))|(refine T.ret (aD.data (Or.inr rfl) ?_ ?_)<;>simp[Tryz.results143,he]<;>omega)|refine T.r0 fun K hK=>?_|refine T.cf rfl ?_|refine T.seq ?_|refine T.exit ?_
theorem yH (f:FuncId) (d:DV) (l:List aE) (q:aE->Bool) (hl:l.length<=4611686018427387904) (hf:∀t∈l,ah YA f [eu t,.c (.ptr 0 0)] (dV [[d]]) (.b (q t)) (dV [[d]]) []):
  ah YA 115 [.l (l.map cA),.c (.fn f [0])] (dV [[d]]) (.i (fH q l 0)) (dV [[d]]) []:=by
 refine ah.ob Tryz.func115 Tryz.ntmps115 rfl ?_;repeat' first|(refine ab (hK _ ?_);clear hK K)|(refine af ?_;simp;(try(refine gen2 ?_ ?_<;>intro hq<;>try simp at hq)))|refine T.r0 fun K hK=>?_|refine T.seq ?_|refine T.block ?_
 obtain⟨R,hR⟩:∃R,fH q l 0=R:=⟨_,rfl⟩;rw[hR];refine T.iI (fun p:Nat=>⟨[(0,.l (l.map cA)),(1,.c (.fn f [0])),(7,.i l.length),(8,.i p)],[[.d d]],[]⟩) (fun p=>l.length+1-p) (fun p=>p<=l.length/\fH q (l.drop p) p=R) (fun p hp=>?_) 0 (by simpa using hR) (by simp);obtain⟨hi,he⟩:=hp;by_cases az:p<l.length
 ·obtain⟨u,ht⟩:=bX az;have fz:u∈l:=YD ht;have a8:l[p]=u:=by rw[YC az]at ht;exact Option.some.inj ht
  have jb:l.drop p=u::l.drop (p+1):=by rw[YE az,a8]
  have hu:=hf u fz;rw[jb,fH]at he;cases hb:q u<;>rw[hb]at hu he
  ·repeat' first|(refine ab (hK _ ?_);clear hK K)|(refine af ?_;simp[az,a8];(try simp(disch:=omega)only[wrap64]);(try(refine gen2 ?_ ?_<;>intro hq<;>try simp[az,a8]at hq)))|(refine lW 0 [d] rfl rfl hu ?_;simp)|(refine⟨p+1,by dsimp only;omega,⟨by omega,by simpa using he⟩,?_⟩;simp(disch:=omega) [wrap64])|refine T.r0 fun K hK=>?_|refine T.r1 fun K hK=>?_|refine T.ct rfl ?_|refine T.cf rfl ?_|refine T.seq ?_|refine T.block ?_|refine T.skip ?_
  ·repeat' first|(refine ab (hK _ ?_);clear hK K)|(refine af ?_;simp[az,a8];(try simp(disch:=omega)only[wrap64]);(try(refine gen2 ?_ ?_<;>intro hq<;>try simp[az,a8]at hq)))|(refine lW 0 [d] rfl rfl hu ?_;simp)|refine T.r0 fun K hK=>?_|refine T.ct rfl ?_|refine T.seq ?_|refine T.block ?_|refine T.skip ?_
   refine T.ret (aD.oU (Or.inr rfl) ?_ ?_ ?_)<;>simp[Tryz.results115,<-he]
 ·have fX:p=l.length:=by omega
  subst fX;simp[fH]at he;repeat' first|(refine ab (hK _ ?_);clear hK K)|(refine af ?_;simp[az];(try(refine gen2 ?_ ?_<;>intro hq<;>try simp[az]at hq)))|refine T.r0 fun K hK=>?_|refine T.cf rfl ?_|refine T.seq ?_|refine T.exit ?_
  refine T.ret (aD.oU (Or.inr rfl) ?_ ?_ ?_)<;>simp[Tryz.results115,he]
theorem tU (f:FuncId) (d:DV) (l:List aE) (q:aE->Bool) (hl:l.length<=4611686018427387904) (hf:∀t∈l,ah YA f [eu t,.c (.ptr 0 0)] (dV [[d]]) (.b (q t)) (dV [[d]]) []):
  ah YA 64 [.l (l.map cA),.c (.fn f [0])] (dV [[d]]) (.b (l.any q)) (dV [[d]]) []:=by
 refine ah.ob Tryz.func64 Tryz.ntmps64 rfl ?_;rw[<-pr (i:=0) (by omega)];repeat' first|(refine ab (hK _ ?_);clear hK K)|((first|refine af ?_|refine lW 0 [d] rfl rfl (yH f d l q hl hf) ?_);simp;(try(refine gen2 ?_ ?_<;>intro hq<;>try simp at hq)))|refine T.r0 fun K hK=>?_
 all_goals(refine T.ret (aD.oU (Or.inr rfl) ?_ ?_ ?_)<;>simp[Tryz.results64, *])
theorem qL (f:FuncId) (l m:List aE) (q:aE->aE->Bool) (hl:l.length<=4611686018427387904) (hf:∀a∈l,∀b∈m,ah YA f [eu a,eu b] [] (.b (q a b)) [] []):
  ah YA 72 [.l (l.map cA),.l (m.map cA),.c (.fn f [])] [] (.b (iT q l m)) [] []:=by
 refine ah.ob Tryz.func72 Tryz.ntmps72 rfl ?_;by_cases qc:l.length=m.length
 rotate_left
 ·have dc:¬(l.length:Int)=m.length:=by omega
  repeat' first|(refine ab (hK _ ?_);clear hK K)|(refine af ?_;simp[dc];(try(refine gen2 ?_ ?_<;>intro hq<;>try simp[dc]at hq)))|(refine T.ret (aD.data (Or.inr rfl) ?_ ?_)<;>simp[Tryz.results72,Jz qc]<;>omega)|refine T.r0 fun K hK=>?_|refine T.ct rfl ?_|refine T.seq ?_
 repeat' first|(refine ab (hK _ ?_);clear hK K)|(refine af ?_;simp[qc];(try(refine gen2 ?_ ?_<;>intro hq<;>try simp[qc]at hq)))|refine T.r0 fun K hK=>?_|refine T.cf rfl ?_|refine T.seq ?_|refine T.block ?_|refine T.skip ?_
 obtain⟨R,hR⟩:∃R,iT q l m=R:=⟨_,rfl⟩;rw[hR];refine T.iI (fun x:Nat×List (List CV)=>⟨[(0,.l (l.map cA)),(1,.l (m.map cA)),(2,.c (.fn f [])),(15,.l (l.map cA)),(16,.i m.length),(17,.i x.1)],x.2,[]⟩) (fun x=>l.length+1-x.1) (fun x=>x.1<=l.length/\iT q (l.drop x.1) (m.drop x.1)=R) (fun x hp=>?_) (0,[]) (by simpa using hR) (by simp);obtain⟨p,G⟩:=x;obtain⟨hi,he⟩:=hp;dsimp only at hi he⊢;by_cases az:p<l.length
 ·have jc:p<m.length:=by omega
  obtain⟨u,ht⟩:=bX az;have fz:u∈l:=YD ht;have a8:l[p]=u:=by rw[YC az]at ht;exact Option.some.inj ht
  have jb:l.drop p=u::l.drop (p+1):=by rw[YE az,a8]
  obtain⟨v,hv⟩:=bX jc;have Q1:v∈m:=YD hv;have ve:m[p]=v:=by rw[YC jc]at hv;exact Option.some.inj hv
  have hu:=hf u fz v Q1;rw[jb,drop_cons jc,ve,y9]at he;cases hb:q u v<;>rw[hb]at hu he
  ·repeat' first|(refine ab (hK _ ?_);clear hK K)|(refine af ?_;simp[az,jc,a8,ve];(try simp(disch:=omega)only[wrap64]);(try(refine gen2 ?_ ?_<;>intro hq<;>try simp[az,jc,a8,ve]at hq)))|(refine aa rfl (hu) ?_;simp[az,jc,a8,ve];(try simp(disch:=omega)only[wrap64]);(try(refine gen2 ?_ ?_<;>intro hq<;>try simp[az,jc,a8,ve]at hq)))|(refine T.ret (aD.data (Or.inr rfl) ?_ ?_)<;>simp[Tryz.results72,<-he]<;>omega)|refine T.r0 fun K hK=>?_|refine T.ct rfl ?_|refine T.seq ?_|refine T.block ?_|refine T.skip ?_
  ·repeat' first|(refine ab (hK _ ?_);clear hK K)|(refine af ?_;simp[az,jc,a8,ve];(try simp(disch:=omega)only[wrap64]);(try(refine gen2 ?_ ?_<;>intro hq<;>try simp[az,jc,a8,ve]at hq)))|(refine aa rfl (hu) ?_;simp[az,jc,a8,ve];(try simp(disch:=omega)only[wrap64]);(try(refine gen2 ?_ ?_<;>intro hq<;>try simp[az,jc,a8,ve]at hq)))|(refine⟨(p+1,_),by dsimp only;omega,⟨by dsimp only;omega,by simpa using he⟩,rfl,rfl,?_⟩;simp(disch:=omega) [wrap64])|refine T.r0 fun K hK=>?_|refine T.r1 fun K hK=>?_|refine T.ct rfl ?_|refine T.cf rfl ?_|refine T.seq ?_|refine T.block ?_|refine T.skip ?_
 ·have fX:p=l.length:=by omega
  subst fX;rw[YF,qc,YF,Bp]at he;repeat' first|(refine ab (hK _ ?_);clear hK K)|(refine af ?_;simp[az,qc];(try(refine gen2 ?_ ?_<;>intro hq<;>try simp[az,qc]at hq)))|(refine T.ret (aD.data (Or.inr rfl) ?_ ?_)<;>simp[Tryz.results72,<-he]<;>omega)|refine T.r0 fun K hK=>?_|refine T.cf rfl ?_|refine T.seq ?_|refine T.exit ?_
theorem jS (t:aE) (hn:gl t<=1099511627776):ah YA 116 [eu t] [] (.b (ak 4 t)) [] []:=by
 refine ah.ob Tryz.func116 Tryz.ntmps116 rfl ?_;repeat' first|(refine ab (hK _ ?_);clear hK K)|((first|refine af ?_|refine aa rfl (xd 4 t (by omega) hn) ?_);simp)|(refine T.ret (aD.data (Or.inr rfl) ?_ ?_)<;>simp[Tryz.results116]<;>omega)|refine T.r0 fun K hK=>?_
theorem Ak (d:Int) (hd:0<=d/\d<=1000) (t:aE) (q:Bool) (h:ah YA 111 [eu t,.i (d+1)] [] (.b q) [] []):
  ah YA 138 [eu t,.c (.ptr 0 0)] (dV [[.i d]]) (.b (!q)) (dV [[.i d]]) []:=by
 refine ah.ob Tryz.func138 Tryz.ntmps138 rfl ?_;repeat' first|(refine ab (hK _ ?_);clear hK K)|((first|refine af ?_|refine aa rfl (h) ?_);simp;(try simp(disch:=omega)only[wrap64]))|refine T.r0 fun K hK=>?_
 refine T.ret (aD.oU (Or.inr rfl) ?_ ?_ ?_)<;>simp[Tryz.results138]
theorem vf:∀(d:Nat) (t:aE),d<=4->gl t<=1099511627776->ah YA 111 [eu t,.i (5-d)] [] (.b (ak d t)) [] []
 |0,t,_,_=>by
  refine ah.ob Tryz.func111 Tryz.ntmps111 rfl ?_;repeat' first|(refine ab (hK _ ?_);clear hK K)|(refine af ?_;simp;(try(refine gen2 ?_ ?_<;>intro hq<;>try simp at hq)))|(refine T.ret (aD.data (Or.inr rfl) ?_ ?_)<;>simp[Tryz.results111,ak]<;>omega)|refine T.r0 fun K hK=>?_|refine T.r1 fun K hK=>?_|refine T.ct rfl ?_|refine T.cf rfl ?_|refine T.seq ?_|refine T.block ?_|refine T.skip ?_
 |d+1,t,hd,hn=>by
  rw[gG]at hn;have hlen:=ie t.kids;have hP:(5:Int)-(d+1)<=4:=by omega
  have hc:=tU 138 (.i (5-(d+1))) t.kids (fun t=> !ak d t) (by omega) (fun u hu=>Ak (5-(d+1)) (by omega) u _ (by
   have:=vf d u (by omega) (by have:=ig hu;omega);rwa[show(5:Int)-(d+1)+1=5-d by omega]))
  have df:(!t.kids.any fun t=> !ak d t)=t.kids.all (ak d):=pw _ _;rw[show ak (d+1) t=(decide (cF t.kind=t.kids.length)&& t.kids.all (ak d))from rfl,<-df];generalize (t.kids.any fun t=> !ak d t)=R at hc⊢;refine ah.ob Tryz.func111 Tryz.ntmps111 rfl ?_;repeat' first|(refine ab (hK _ ?_);clear hK K)|(refine af ?_;simp[hP];(try(refine gen2 ?_ ?_<;>intro hq<;>try simp[hP]at hq)))|(refine lW 1 [.i (5-(d+1))] rfl (by simp) hc ?_;simp)|(refine T.ret (aD.data (Or.inr rfl) ?_ ?_)<;>simp[Tryz.results111,cF, *]<;>omega)|refine T.r0 fun K hK=>?_|refine T.r1 fun K hK=>?_|refine T.ct rfl ?_|refine T.cf rfl ?_|refine T.seq ?_|refine T.block ?_|refine T.skip ?_
theorem fJ (t:aE) (hn:gl t<=1099511627776):ah YA 60 [eu t] [] (.b (ak 4 t)) [] []:=by
 refine ah.ob Tryz.func60 Tryz.ntmps60 rfl ?_;repeat' first|(refine ab (hK _ ?_);clear hK K)|((first|refine af ?_|refine aa rfl (vf 4 t (by omega) hn) ?_);simp)|(refine T.ret (aD.data (Or.inr rfl) ?_ ?_)<;>simp[Tryz.results60]<;>omega)|refine T.r0 fun K hK=>?_
theorem du:(a b:aE)->gl a<=1099511627776->ah YA 166 [eu a,eu b] [] (.b (aM a b)) [] []
 |.mk k l,b,hn=>by
  rw[gG]at hn;have hlen:=ie l;have hc:=qL 166 l b.kids aM (by simp at hn;omega) (fun u hu v hv=>du u v (by have:=ig hu;simp at hn;omega));rw[nK];simp only[aE.bQ,aE.b4];generalize iT aM l b.kids=R at hc⊢;refine ah.ob Tryz.func166 Tryz.ntmps166 rfl ?_;repeat' first|(refine ab (hK _ ?_);clear hK K)|((first|refine af ?_|refine aa rfl (hc) ?_);simp;(try(refine gen2 ?_ ?_<;>intro hq<;>try simp at hq)))|(refine T.ret (aD.data (Or.inr rfl) ?_ ?_)<;>simp[Tryz.results166, *]<;>omega)|refine T.r0 fun K hK=>?_
termination_by a=>SizeOf.sizeOf a
decreasing_by have:=List.sizeOf_lt_of_mem hu;simp;omega
theorem yI (a b:aE) (ha:gl a<=1099511627776) (hb:gl b<=1099511627776):ah YA 153 [eu a,eu b] [] (.b (ak 4 a && ak 4 b && aM a b)) [] []:=by
 refine ah.ob Tryz.func153 Tryz.ntmps153 rfl ?_;repeat' first|(refine ab (hK _ ?_);clear hK K)|((first|refine af ?_|refine aa rfl (fJ a ha) ?_|refine aa rfl (fJ b hb) ?_|refine aa rfl (du a b ha) ?_);simp;(try(refine gen2 ?_ ?_<;>intro hq<;>try simp at hq)))|(refine T.ret (aD.data (Or.inr rfl) ?_ ?_)<;>simp[Tryz.results153, *]<;>omega)|refine T.r0 fun K hK=>?_
theorem oI:∀(d:Nat) (a b:aE),d<=1000->ak d a=true->ak d b=true->ah YA 122 [eu a,eu b] [] (.b (aM a b)) [] []
 |0,a,b,_,ha,_=>by simp[ak]at ha
 |d+1,a,b,hd,ha,hb=>by
  obtain⟨e,he,FK,VE,BH⟩:=dT ha;obtain⟨e',MY,MZ,VF,we⟩:=dT hb;obtain rfl:d=e:=by omega
  obtain rfl:d=e':=by omega
  rw[nK];refine ah.ob Tryz.func122 Tryz.ntmps122 rfl ?_;by_cases oD:a.kind=1
  ·repeat' first|(refine ab (hK _ ?_);clear hK K)|(refine af ?_;simp[oD];(try(refine gen2 ?_ ?_<;>intro hq<;>try simp[oD]at hq)))|(refine T.ret (aD.data (Or.inr rfl) ?_ ?_)<;>simp[Tryz.results122,oD]<;>omega)|refine T.r0 fun K hK=>?_|refine T.ct rfl ?_|refine T.seq ?_
  by_cases kQ:b.kind=1
  ·repeat' first|(refine ab (hK _ ?_);clear hK K)|(refine af ?_;simp[oD,kQ,Eu oD];(try(refine gen2 ?_ ?_<;>intro hq<;>try simp[oD,kQ,Eu oD]at hq)))|(refine T.ret (aD.data (Or.inr rfl) ?_ ?_)<;>simp[Tryz.results122,oD,kQ]<;>omega)|refine T.r0 fun K hK=>?_|refine T.ct rfl ?_|refine T.seq ?_
  by_cases hk:a.kind=b.kind
  rotate_left
  ·repeat' first|(refine ab (hK _ ?_);clear hK K)|(refine af ?_;simp[oD,kQ,hk];(try(refine gen2 ?_ ?_<;>intro hq<;>try simp[oD,kQ,hk]at hq)))|(refine T.ret (aD.data (Or.inr rfl) ?_ ?_)<;>simp[Tryz.results122,oD,kQ,hk]<;>omega)|refine T.r0 fun K hK=>?_|refine T.ct rfl ?_|refine T.cf rfl ?_|refine T.seq ?_|refine T.skip ?_
  have qc:a.kids.length=b.kids.length:=by rw[hk]at FK;omega
  repeat' first|(refine ab (hK _ ?_);clear hK K)|(refine af ?_;simp[oD,kQ,hk];(try(refine gen2 ?_ ?_<;>intro hq<;>try simp[oD,kQ,hk]at hq)))|refine T.r0 fun K hK=>?_|refine T.cf rfl ?_|refine T.seq ?_|refine T.block ?_|refine T.skip ?_
  obtain⟨R,hR⟩:∃R,iT aM a.kids b.kids=R:=⟨_,rfl⟩;rw[show(decide (a.kind=1)||decide (b.kind=1)||(decide (a.kind=b.kind)&& iT aM a.kids b.kids))=R by simp[oD,kQ,hk,hR]];refine T.iI (fun p:Nat=>⟨[(2,.c (.ptr 0 0)),(3,.c (.ptr 1 0)),(5,.i p)],[(eu a).cells,(eu b).cells],[]⟩) (fun p=>a.kids.length+1-p) (fun p=>p<=a.kids.length/\iT aM (a.kids.drop p) (b.kids.drop p)=R) (fun p hp=>?_) 0 (by simpa using hR) (by simp[hk]);obtain⟨hi,he⟩:=hp;by_cases az:p<a.kids.length
  ·have jc:p<b.kids.length:=by omega
   obtain⟨u,ht⟩:=bX az;have fz:u∈a.kids:=YD ht;have a8:a.kids[p]=u:=by rw[YC az]at ht;exact Option.some.inj ht
   have jb:a.kids.drop p=u::a.kids.drop (p+1):=by rw[YE az,a8]
   obtain⟨v,hv⟩:=bX jc;have Q1:v∈b.kids:=YD hv;have ve:b.kids[p]=v:=by rw[YC jc]at hv;exact Option.some.inj hv
   have hu:=oI d u v (by omega) (BH u fz) (we v Q1);rw[jb,drop_cons jc,ve,y9]at he;cases hb:aM u v<;>rw[hb]at hu he
   ·repeat' first|((first|refine ab (hK _ ?_)|refine aA (hK _ ?_));clear hK K)|((first|refine af ?_|refine aG ?_);simp[az,jc,a8,ve];(try simp(disch:=omega)only[wrap64]);(try(refine gen2 ?_ ?_<;>intro hq<;>try simp[az,jc,a8,ve]at hq)))|(refine aa rfl (hu) ?_;simp[az,jc,a8,ve];(try simp(disch:=omega)only[wrap64]);(try(refine gen2 ?_ ?_<;>intro hq<;>try simp[az,jc,a8,ve]at hq)))|(refine T.ret (aD.data (Or.inr rfl) ?_ ?_)<;>simp[Tryz.results122,<-he]<;>omega)|refine T.r0 fun K hK=>?_|refine T.rd mixed (fun _=>false) [] (by kernel_rfl) fun K hK=>?_|refine T.ct rfl ?_|refine T.seq ?_|refine T.block ?_|refine T.skip ?_
   ·repeat' first|((first|refine ab (hK _ ?_)|refine aA (hK _ ?_));clear hK K)|((first|refine af ?_|refine aG ?_);simp[az,jc,a8,ve];(try simp(disch:=omega)only[wrap64]);(try(refine gen2 ?_ ?_<;>intro hq<;>try simp[az,jc,a8,ve]at hq)))|(refine aa rfl (hu) ?_;simp[az,jc,a8,ve];(try simp(disch:=omega)only[wrap64]);(try(refine gen2 ?_ ?_<;>intro hq<;>try simp[az,jc,a8,ve]at hq)))|(refine⟨p+1,by dsimp only;omega,⟨by omega,by simpa using he⟩,rfl,rfl,?_⟩;simp(disch:=omega) [wrap64])|refine T.r0 fun K hK=>?_|refine T.r1 fun K hK=>?_|refine T.rd mixed (fun _=>false) [] (by kernel_rfl) fun K hK=>?_|refine T.ct rfl ?_|refine T.cf rfl ?_|refine T.seq ?_|refine T.block ?_|refine T.skip ?_
  ·have fX:p=a.kids.length:=by omega
   subst fX;rw[YF,qc,YF,Bp]at he;repeat' first|(refine ab (hK _ ?_);clear hK K)|(refine af ?_;simp[az,qc];(try(refine gen2 ?_ ?_<;>intro hq<;>try simp[az,qc]at hq)))|(refine T.ret (aD.data (Or.inr rfl) ?_ ?_)<;>simp[Tryz.results122,<-he]<;>omega)|refine T.r0 fun K hK=>?_|refine T.cf rfl ?_|refine T.seq ?_|refine T.exit ?_
theorem xe (k:Int):k=1\/k=5\/k=13\/k=14\/k=2\/(¬k=1/\¬k=5/\¬k=13/\¬k=14/\¬k=2):=by omega
theorem JM (n:Int):nk n 0 0=decide (n=0):=by simp only[nk,<-Bool.decide_and];exact decide_eq_decide.2 (by omega)
theorem HF (e:ao) (hk:e.kind≠14) (ht:gl e.ty<=1099511627776):ah YA 134 [c6 e] [] (.b (e9 e)) [] []:=by
 have s9:=FJ e.name;have I8:=jS e.ty ht;have kp:=zk e.ty;have qd:=zk e.fr;rcases xe e.kind with h1|h1|h1|h1|h1|⟨h1,h2,h3,h4,h5⟩
 ·have hr:e9 e=(eh e.name && decide (e.num=0)&& dR e.ty &&(dR e.fr && decide (e.label=0))):=by simp[e9,h1,dN,cr,JM]
  rw[hr];refine ah.ob Tryz.func134 Tryz.ntmps134 rfl ?_;repeat' first|(refine ab (hK _ ?_);clear hK K)|((first|refine af ?_|refine aa rfl (s9) ?_|refine aa rfl (kp) ?_|refine aa rfl (qd) ?_);simp[h1];(try(refine gen2 ?_ ?_<;>intro hq<;>try simp[h1]at hq)))|(refine T.ret (aD.data (Or.inr rfl) ?_ ?_)<;>simp[Tryz.results134, *]<;>omega)|refine T.r0 fun K hK=>?_|refine T.ct rfl ?_|refine T.cf rfl ?_|refine T.seq ?_|refine T.skip ?_
 ·have hr:e9 e=(eh e.name && decide (e.num=0)&& ak 4 e.ty &&(dR e.fr && decide (e.label=0))):=by simp[e9,h1,dN,cr,JM]
  rw[hr];refine ah.ob Tryz.func134 Tryz.ntmps134 rfl ?_;repeat' first|(refine ab (hK _ ?_);clear hK K)|((first|refine af ?_|refine aa rfl (s9) ?_|refine aa rfl (I8) ?_|refine aa rfl (qd) ?_);simp[h1];(try(refine gen2 ?_ ?_<;>intro hq<;>try simp[h1]at hq)))|(refine T.ret (aD.data (Or.inr rfl) ?_ ?_)<;>simp[Tryz.results134, *]<;>omega)|refine T.r0 fun K hK=>?_|refine T.ct rfl ?_|refine T.cf rfl ?_|refine T.seq ?_|refine T.skip ?_
 ·have hr:e9 e=(decide (e.name=[])&& decide (e.num=0)&& ak 4 e.ty &&(dR e.fr && decide (e.label=0))):=by simp[e9,h1,dN,cr,JM]
  have GG:e.name=[]->eh e.name=false:=fun h=>by rw[h];rfl
  rw[hr];by_cases dc:e.name=[]
  ·rw[GG dc,dc]at s9;refine ah.ob Tryz.func134 Tryz.ntmps134 rfl ?_;repeat' first|(refine ab (hK _ ?_);clear hK K)|((first|refine af ?_|refine aa rfl (s9) ?_|refine aa rfl (I8) ?_|refine aa rfl (qd) ?_);simp[h1,dc];(try(refine gen2 ?_ ?_<;>intro hq<;>try simp[h1,dc]at hq)))|(refine T.ret (aD.data (Or.inr rfl) ?_ ?_)<;>simp[Tryz.results134, *]<;>omega)|refine T.r0 fun K hK=>?_|refine T.ct rfl ?_|refine T.cf rfl ?_|refine T.seq ?_|refine T.skip ?_
  ·generalize eh e.name=nb at s9;refine ah.ob Tryz.func134 Tryz.ntmps134 rfl ?_;repeat' first|(refine ab (hK _ ?_);clear hK K)|((first|refine af ?_|refine aa rfl (s9) ?_);simp[h1,dc];(try(refine gen2 ?_ ?_<;>intro hq<;>try simp[h1,dc]at hq)))|(refine T.ret (aD.data (Or.inr rfl) ?_ ?_)<;>simp[Tryz.results134, *]<;>omega)|refine T.r0 fun K hK=>?_|refine T.ct rfl ?_|refine T.seq ?_
 ·exact absurd h1 hk
 ·have hr:e9 e=(decide (e.name=[])&&(decide (0<=e.num)&& decide (e.num<=999))&& dR e.ty &&(dR e.fr && decide (e.label=0))):=by simp[e9,h1,dN,cr,nk]
  have GG:e.name=[]->eh e.name=false:=fun h=>by rw[h];rfl
  rw[hr];by_cases dc:e.name=[]
  ·rw[GG dc,dc]at s9;refine ah.ob Tryz.func134 Tryz.ntmps134 rfl ?_;repeat' first|(refine ab (hK _ ?_);clear hK K)|((first|refine af ?_|refine aa rfl (s9) ?_|refine aa rfl (kp) ?_|refine aa rfl (qd) ?_);simp[h1,dc];(try(refine gen2 ?_ ?_<;>intro hq<;>try simp[h1,dc]at hq)))|(refine T.ret (aD.data (Or.inr rfl) ?_ ?_)<;>simp[Tryz.results134, *]<;>omega)|refine T.r0 fun K hK=>?_|refine T.ct rfl ?_|refine T.cf rfl ?_|refine T.seq ?_|refine T.skip ?_
  ·generalize eh e.name=nb at s9;refine ah.ob Tryz.func134 Tryz.ntmps134 rfl ?_;repeat' first|(refine ab (hK _ ?_);clear hK K)|((first|refine af ?_|refine aa rfl (s9) ?_);simp[h1,dc];(try(refine gen2 ?_ ?_<;>intro hq<;>try simp[h1,dc]at hq)))|(refine T.ret (aD.data (Or.inr rfl) ?_ ?_)<;>simp[Tryz.results134, *]<;>omega)|refine T.r0 fun K hK=>?_|refine T.ct rfl ?_|refine T.seq ?_
 ·have hr:e9 e=(decide (e.name=[])&& decide (e.num=0)&& dR e.ty &&(dR e.fr && decide (e.label=0))):=by simp[e9,h1,h2,h3,h4,h5,dN,cr,JM]
  have GG:e.name=[]->eh e.name=false:=fun h=>by rw[h];rfl
  rw[hr];by_cases dc:e.name=[]
  ·rw[GG dc,dc]at s9;refine ah.ob Tryz.func134 Tryz.ntmps134 rfl ?_;repeat' first|(refine ab (hK _ ?_);clear hK K)|((first|refine af ?_|refine aa rfl (s9) ?_|refine aa rfl (kp) ?_|refine aa rfl (qd) ?_);simp[h1,h2,h3,h4,h5,dc];(try(refine gen2 ?_ ?_<;>intro hq<;>try simp[h1,h2,h3,h4,h5,dc]at hq)))|(refine T.ret (aD.data (Or.inr rfl) ?_ ?_)<;>simp[Tryz.results134, *]<;>omega)|refine T.r0 fun K hK=>?_|refine T.ct rfl ?_|refine T.cf rfl ?_|refine T.seq ?_|refine T.skip ?_
  ·generalize eh e.name=nb at s9;refine ah.ob Tryz.func134 Tryz.ntmps134 rfl ?_;repeat' first|(refine ab (hK _ ?_);clear hK K)|((first|refine af ?_|refine aa rfl (s9) ?_);simp[h1,h2,h3,h4,h5,dc];(try(refine gen2 ?_ ?_<;>intro hq<;>try simp[h1,h2,h3,h4,h5,dc]at hq)))|(refine T.ret (aD.data (Or.inr rfl) ?_ ?_)<;>simp[Tryz.results134, *]<;>omega)|refine T.r0 fun K hK=>?_|refine T.ct rfl ?_|refine T.seq ?_
theorem FL (e:ao) (hl:e.kids.length<=1099511627776) (ht:gl e.ty<=1099511627776) (hf:gl e.fr<=1099511627776):ah YA 131 [c6 e] [] (.b (ga e)) [] []:=by
 have gu:=BG e.kind;have s9:=zj e.name;have I8:=fJ e.ty ht;have kp:=vd e.ty;have qd:=vd e.fr;have NU:=yI e.fr e.ty hf ht;have NV:=Dn e.label;have yJ:=xc e.num 0 0;have NW:=xc e.num 0 999;by_cases mS:cD e.kind=e.kids.length
 rotate_left
 ·rw[show ga e=false by simp[ga,mS]];refine ah.ob Tryz.func131 Tryz.ntmps131 rfl ?_;repeat' first|((first|refine ab (hK _ ?_)|refine aA (hK _ ?_));clear hK K)|((first|(first|refine af ?_|refine aG ?_)|refine aa rfl (gu) ?_);simp[mS];(try(refine gen2 ?_ ?_<;>intro hq<;>try simp[mS]at hq)))|(refine T.ret (aD.data (Or.inr rfl) ?_ ?_)<;>simp[Tryz.results131]<;>omega)|refine T.r0 fun K hK=>?_|refine T.rd mixed (fun _=>false) [] (by kernel_rfl) fun K hK=>?_|refine T.ct rfl ?_|refine T.seq ?_
 rw[show ga e=e9 e by simp[ga,mS]];rw[mS]at gu;rcases xe e.kind with h1|h1|h1|h1|h1|⟨h1,h2,h3,h4,h5⟩
 ·have hr:e9 e=(eh e.name && nk e.num 0 0 && dR e.ty &&(dR e.fr && decide (e.label=0))):=by simp[e9,h1,dN,cr]
  rw[hr];rw[h1]at gu;generalize nk e.num 0 0=i0 at yJ;refine ah.ob Tryz.func131 Tryz.ntmps131 rfl ?_;repeat' first|((first|refine ab (hK _ ?_)|refine aA (hK _ ?_));clear hK K)|((first|(first|refine af ?_|refine aG ?_)|refine aa rfl (gu) ?_|refine aa rfl (s9) ?_|refine aa rfl (yJ) ?_|refine aa rfl (kp) ?_|refine aa rfl (qd) ?_);simp[h1];(try(refine gen2 ?_ ?_<;>intro hq<;>try simp[h1]at hq)))|(refine T.ret (aD.data (Or.inr rfl) ?_ ?_)<;>simp[Tryz.results131, *]<;>omega)|refine T.r0 fun K hK=>?_|refine T.r1 fun K hK=>?_|refine T.rd mixed (fun _=>false) [] (by kernel_rfl) fun K hK=>?_|refine T.ct rfl ?_|refine T.cf rfl ?_|refine T.seq ?_|refine T.block ?_|refine T.skip ?_
 ·have hr:e9 e=(eh e.name && nk e.num 0 0 && ak 4 e.ty &&(dR e.fr && decide (e.label=0))):=by simp[e9,h1,dN,cr]
  rw[hr];rw[h1]at gu;generalize nk e.num 0 0=i0 at yJ;refine ah.ob Tryz.func131 Tryz.ntmps131 rfl ?_;repeat' first|((first|refine ab (hK _ ?_)|refine aA (hK _ ?_));clear hK K)|((first|(first|refine af ?_|refine aG ?_)|refine aa rfl (gu) ?_|refine aa rfl (s9) ?_|refine aa rfl (yJ) ?_|refine aa rfl (I8) ?_|refine aa rfl (qd) ?_);simp[h1];(try(refine gen2 ?_ ?_<;>intro hq<;>try simp[h1]at hq)))|(refine T.ret (aD.data (Or.inr rfl) ?_ ?_)<;>simp[Tryz.results131, *]<;>omega)|refine T.r0 fun K hK=>?_|refine T.r1 fun K hK=>?_|refine T.rd mixed (fun _=>false) [] (by kernel_rfl) fun K hK=>?_|refine T.ct rfl ?_|refine T.cf rfl ?_|refine T.seq ?_|refine T.block ?_|refine T.skip ?_
 ·have hr:e9 e=(decide (e.name=[])&& nk e.num 0 0 && ak 4 e.ty &&(dR e.fr && decide (e.label=0))):=by simp[e9,h1,dN,cr]
  rw[hr];rw[h1]at gu;generalize nk e.num 0 0=i0 at yJ;refine ah.ob Tryz.func131 Tryz.ntmps131 rfl ?_;repeat' first|((first|refine ab (hK _ ?_)|refine aA (hK _ ?_));clear hK K)|((first|(first|refine af ?_|refine aG ?_)|refine aa rfl (gu) ?_|refine aa rfl (yJ) ?_|refine aa rfl (I8) ?_|refine aa rfl (qd) ?_);simp[h1];(try(refine gen2 ?_ ?_<;>intro hq<;>try simp[h1]at hq)))|(refine T.ret (aD.data (Or.inr rfl) ?_ ?_)<;>simp[Tryz.results131, *]<;>omega)|refine T.r0 fun K hK=>?_|refine T.r1 fun K hK=>?_|refine T.rd mixed (fun _=>false) [] (by kernel_rfl) fun K hK=>?_|refine T.ct rfl ?_|refine T.cf rfl ?_|refine T.seq ?_|refine T.block ?_|refine T.skip ?_
 ·have hr:e9 e=(decide (e.name=[])&& nk e.num 0 0 && ak 4 e.ty &&((ak 4 e.fr && ak 4 e.ty && aM e.fr e.ty)&& Db e.label)):=by simp[e9,h1,dN,cr,py]
  rw[hr];rw[h1]at gu;generalize nk e.num 0 0=i0 at yJ;generalize vF:(ak 4 e.fr && ak 4 e.ty && aM e.fr e.ty)=g1 at NU;generalize Db e.label=g2 at NV;refine ah.ob Tryz.func131 Tryz.ntmps131 rfl ?_;repeat' first|((first|refine ab (hK _ ?_)|refine aA (hK _ ?_));clear hK K)|((first|(first|refine af ?_|refine aG ?_)|refine aa rfl (gu) ?_|refine aa rfl (yJ) ?_|refine aa rfl (I8) ?_|refine aa rfl (NU) ?_|refine aa rfl (NV) ?_);simp[h1];(try(refine gen2 ?_ ?_<;>intro hq<;>try simp[h1]at hq)))|(refine T.ret (aD.data (Or.inr rfl) ?_ ?_)<;>simp[Tryz.results131, *]<;>omega)|refine T.r0 fun K hK=>?_|refine T.r1 fun K hK=>?_|refine T.rd mixed (fun _=>false) [] (by kernel_rfl) fun K hK=>?_|refine T.ct rfl ?_|refine T.cf rfl ?_|refine T.seq ?_|refine T.block ?_|refine T.skip ?_
 ·have hr:e9 e=(decide (e.name=[])&& nk e.num 0 999 && dR e.ty &&(dR e.fr && decide (e.label=0))):=by simp[e9,h1,dN,cr]
  rw[hr];rw[h1]at gu;generalize nk e.num 0 999=i0 at NW;refine ah.ob Tryz.func131 Tryz.ntmps131 rfl ?_;repeat' first|((first|refine ab (hK _ ?_)|refine aA (hK _ ?_));clear hK K)|((first|(first|refine af ?_|refine aG ?_)|refine aa rfl (gu) ?_|refine aa rfl (NW) ?_|refine aa rfl (kp) ?_|refine aa rfl (qd) ?_);simp[h1];(try(refine gen2 ?_ ?_<;>intro hq<;>try simp[h1]at hq)))|(refine T.ret (aD.data (Or.inr rfl) ?_ ?_)<;>simp[Tryz.results131, *]<;>omega)|refine T.r0 fun K hK=>?_|refine T.r1 fun K hK=>?_|refine T.rd mixed (fun _=>false) [] (by kernel_rfl) fun K hK=>?_|refine T.ct rfl ?_|refine T.cf rfl ?_|refine T.seq ?_|refine T.block ?_|refine T.skip ?_
 ·have hr:e9 e=(decide (e.name=[])&& nk e.num 0 0 && dR e.ty &&(dR e.fr && decide (e.label=0))):=by simp[e9,h1,h2,h3,h4,h5,dN,cr]
  rw[hr];generalize nk e.num 0 0=i0 at yJ;refine ah.ob Tryz.func131 Tryz.ntmps131 rfl ?_;repeat' first|((first|refine ab (hK _ ?_)|refine aA (hK _ ?_));clear hK K)|((first|(first|refine af ?_|refine aG ?_)|refine aa rfl (gu) ?_|refine aa rfl (yJ) ?_|refine aa rfl (kp) ?_|refine aa rfl (qd) ?_);simp[h1,h2,h3,h4,h5];(try(refine gen2 ?_ ?_<;>intro hq<;>try simp[h1,h2,h3,h4,h5]at hq)))|(refine T.ret (aD.data (Or.inr rfl) ?_ ?_)<;>simp[Tryz.results131, *]<;>omega)|refine T.r0 fun K hK=>?_|refine T.r1 fun K hK=>?_|refine T.rd mixed (fun _=>false) [] (by kernel_rfl) fun K hK=>?_|refine T.ct rfl ?_|refine T.cf rfl ?_|refine T.seq ?_|refine T.block ?_|refine T.skip ?_
theorem c4 {e:ao} (h:fy e<=1099511627776):gl e.ty<=1099511627776/\gl e.fr<=1099511627776/\e.kids.length<=1099511627776/\∀u∈e.kids,fy u<=1099511627776:=by
 rw[jO]at h;have:=px e.kids;exact⟨by omega,by omega,by omega,fun u hu=>by have:=wR hu;omega⟩
theorem xf:∀(d:Nat) (e:ao),d<=1000->fy e<=1099511627776->ah YA 97 [c6 e,.i d] [] (.i (cN d e)) [] []
 |0,e,_,hn=>by
  obtain⟨kp,qd,CP,tc⟩:=c4 hn;refine ah.ob Tryz.func97 Tryz.ntmps97 rfl ?_;repeat' first|(refine ab (hK _ ?_);clear hK K)|(refine af ?_;simp;(try(refine gen2 ?_ ?_<;>intro hq<;>try simp at hq)))|refine T.r0 fun K hK=>?_|refine T.seq ?_|refine T.block ?_
  refine T.iI (fun _:Unit=>⟨[(1,.i 0),(2,.c (.ptr 0 0)),(5,.i 1),(6,.i 0)],[(c6 e).cells],[]⟩) (fun _=>0) (fun _=>True) (fun _ _=>?_) () trivial (by simp);repeat' first|(refine ab (hK _ ?_);clear hK K)|(refine af ?_;simp;(try simp(disch:=omega)only[wrap64]);(try(refine gen2 ?_ ?_<;>intro hq<;>try simp at hq)))|(refine T.ret (aD.data (Or.inr rfl) ?_ ?_)<;>simp[Tryz.results97,cN]<;>omega)|refine T.r0 fun K hK=>?_|refine T.cf rfl ?_|refine T.seq ?_|refine T.exit ?_
 |d+1,e,hd,hn=>by
  obtain⟨kp,qd,CP,tc⟩:=c4 hn;have hP:(0:Int)<(d:Int)+1:=by omega
  have kJ:=wS (d+1) e;obtain⟨R,hR⟩:∃R,cN (d+1) e=R:=⟨_,rfl⟩;rw[hR]at kJ⊢;refine ah.ob Tryz.func97 Tryz.ntmps97 rfl ?_;repeat' first|(refine ab (hK _ ?_);clear hK K)|(refine af ?_;simp;(try(refine gen2 ?_ ?_<;>intro hq<;>try simp at hq)))|refine T.r0 fun K hK=>?_|refine T.seq ?_|refine T.block ?_
  refine T.iI (fun x:Nat×Nat=>⟨[(1,.i (d+1)),(2,.c (.ptr 0 0)),(5,.i x.2),(6,.i x.1)],[(c6 e).cells],[]⟩) (fun x=>e.kids.length+1-x.1) (fun x=>x.1<=e.kids.length/\x.2+((e.kids.drop x.1).map (cN d)).sum=R) (fun x hx=>?_) (0,1) (by simpa[cN]using hR) (by simp);obtain⟨p,k⟩:=x;obtain⟨hi,he⟩:=hx;dsimp only at hi he⊢;by_cases az:p<e.kids.length
  ·obtain⟨u,ht⟩:=bX az;have fz:u∈e.kids:=YD ht;have a8:e.kids[p]=u:=by rw[YC az]at ht;exact Option.some.inj ht
   have jb:e.kids.drop p=u::e.kids.drop (p+1):=by rw[YE az,a8]
   have hu:=xf d u (by omega) (tc u fz);rw[jb,List.map_cons,List.sum_cons]at he;generalize cN d u=cu at hu he;repeat' first|(refine ab (hK _ ?_);clear hK K)|(refine af ?_;simp[az,a8,hP];(try simp(disch:=omega)only[wrap64]);(try(refine gen2 ?_ ?_<;>intro hq<;>try simp[az,a8,hP]at hq)))|(refine aa rfl (hu) ?_;simp[az,a8,hP];(try simp(disch:=omega)only[wrap64]);(try(refine gen2 ?_ ?_<;>intro hq<;>try simp[az,a8,hP]at hq)))|(refine⟨(p+1,k+cu),by dsimp only;omega,⟨by dsimp only;omega,by dsimp only;omega⟩,rfl,rfl,?_⟩;simp(disch:=omega) [wrap64])|refine T.r0 fun K hK=>?_|refine T.r1 fun K hK=>?_|refine T.ct rfl ?_|refine T.seq ?_|refine T.block ?_|refine T.skip ?_
  ·have fX:p=e.kids.length:=by omega
   subst fX;simp at he;repeat' first|(refine ab (hK _ ?_);clear hK K)|(refine af ?_;simp[az];(try(refine gen2 ?_ ?_<;>intro hq<;>try simp[az]at hq)))|(refine T.ret (aD.data (Or.inr rfl) ?_ ?_)<;>simp[Tryz.results97,he]<;>omega)|refine T.r0 fun K hK=>?_|refine T.cf rfl ?_|refine T.seq ?_|refine T.exit ?_
theorem JN (mn md nt:Int) (Q2:mn<=1000) (VG:md<=1000):∀(e:ao),fy e<=1099511627776->∀(deep c:Int),0<=c->c<=1000->0<=deep->
  ah YA 91 [c6 e,.i deep,.i mn,.i md,.i nt,.c (.ptr 0 0)] (dV [[.i c]]) (.b (kN mn md nt deep e c).1) (dV [[.i (kN mn md nt deep e c).2]]) []:=by
 intro e;induction e using ao.ind with
 |h e ih=>
  intro hn deep c h0 hc eN;obtain⟨kp,qd,CP,tc⟩:=c4 hn;have vg:=FL e CP kp qd;rw[tH];by_cases q1:mn<c+1
  ·rw[if_pos (by simp[q1])];refine ah.ob Tryz.func91 Tryz.ntmps91 rfl ?_;repeat' first|(refine ab (hK _ ?_);clear hK K)|(refine af ?_;simp[q1];(try simp(disch:=omega)only[wrap64]);(try(refine gen2 ?_ ?_<;>intro hq<;>try simp[q1]at hq)))|(refine T.ret (aD.oU (Or.inr rfl) ?_ ?_ ?_)<;>simp[Tryz.results91]<;>omega)|refine T.r0 fun K hK=>?_|refine T.ct rfl ?_|refine T.seq ?_
  by_cases q2:md<deep
  ·rw[if_pos (by simp[q2])];refine ah.ob Tryz.func91 Tryz.ntmps91 rfl ?_;repeat' first|(refine ab (hK _ ?_);clear hK K)|(refine af ?_;simp[q1,q2];(try simp(disch:=omega)only[wrap64]);(try(refine gen2 ?_ ?_<;>intro hq<;>try simp[q1,q2]at hq)))|(refine T.ret (aD.oU (Or.inr rfl) ?_ ?_ ?_)<;>simp[Tryz.results91]<;>omega)|refine T.r0 fun K hK=>?_|refine T.ct rfl ?_|refine T.seq ?_
  by_cases q3:e.kind=nt
  ·rw[if_pos (by simp[q3])];refine ah.ob Tryz.func91 Tryz.ntmps91 rfl ?_;repeat' first|(refine ab (hK _ ?_);clear hK K)|(refine af ?_;simp[q1,q2,q3];(try simp(disch:=omega)only[wrap64]);(try(refine gen2 ?_ ?_<;>intro hq<;>try simp[q1,q2,q3]at hq)))|(refine T.ret (aD.oU (Or.inr rfl) ?_ ?_ ?_)<;>simp[Tryz.results91]<;>omega)|refine T.r0 fun K hK=>?_|refine T.ct rfl ?_|refine T.seq ?_
  cases hN:ga e
  ·rw[if_pos (by simp)];rw[hN]at vg;refine ah.ob Tryz.func91 Tryz.ntmps91 rfl ?_;repeat' first|(refine ab (hK _ ?_);clear hK K)|(refine af ?_;simp[q1,q2,q3];(try simp(disch:=omega)only[wrap64]);(try(refine gen2 ?_ ?_<;>intro hq<;>try simp[q1,q2,q3]at hq)))|(refine aa rfl (vg) ?_;simp[q1,q2,q3];(try simp(disch:=omega)only[wrap64]);(try(refine gen2 ?_ ?_<;>intro hq<;>try simp[q1,q2,q3]at hq)))|(refine T.ret (aD.oU (Or.inr rfl) ?_ ?_ ?_)<;>simp[Tryz.results91]<;>omega)|refine T.r0 fun K hK=>?_|refine T.ct rfl ?_|refine T.seq ?_
  rw[hN]at vg;rw[if_neg (by simp[q1,q2,q3])];obtain⟨R,hR⟩:∃R,lq mn md nt (deep+1) e.kids (c+1)=R:=⟨_,rfl⟩;rw[hR];refine ah.ob Tryz.func91 Tryz.ntmps91 rfl ?_;repeat' first|(refine ab (hK _ ?_);clear hK K)|(refine af ?_;simp[q1,q2,q3];(try simp(disch:=omega)only[wrap64]);(try(refine gen2 ?_ ?_<;>intro hq<;>try simp[q1,q2,q3]at hq)))|(refine aa rfl (vg) ?_;simp[q1,q2,q3];(try simp(disch:=omega)only[wrap64]);(try(refine gen2 ?_ ?_<;>intro hq<;>try simp[q1,q2,q3]at hq)))|refine T.r0 fun K hK=>?_|refine T.cf rfl ?_|refine T.seq ?_|refine T.block ?_|refine T.skip ?_
  refine T.iI (fun x:Nat×Int×List (List CV)=>⟨[(1,.i deep),(2,.i mn),(3,.i md),(4,.i nt),(5,.c (.ptr 0 0)),(6,.c (.ptr 1 0)),(42,.l (e.kids.map gA)),(43,.i e.kids.length),(44,.i x.1)],[.d (.i x.2.1)]::(c6 e).cells::x.2.2,[]⟩) (fun x=>e.kids.length+1-x.1) (fun x=>x.1<=e.kids.length/\0<=x.2.1/\x.2.1<=mn/\lq mn md nt (deep+1) (e.kids.drop x.1) x.2.1=R) (fun x hx=>?_) (0,c+1,[]) (by simpa using⟨by omega,by omega,hR⟩) (by simp);obtain⟨p,k,G⟩:=x;obtain⟨hi,gx,oD,he⟩:=hx;dsimp only at hi gx oD he⊢;by_cases az:p<e.kids.length
  ·obtain⟨u,ht⟩:=bX az;have fz:u∈e.kids:=YD ht;have a8:e.kids[p]=u:=by rw[YC az]at ht;exact Option.some.inj ht
   have jb:e.kids.drop p=u::e.kids.drop (p+1):=by rw[YE az,a8]
   have hu:=ih u fz (tc u fz) (deep+1) k gx (by omega) (by omega);have hle:=Hs mn md nt u (deep+1) k gx;rw[jb,lq]at he;generalize kN mn md nt (deep+1) u k=r at hu hle he;obtain⟨b,k'⟩:=r;dsimp only at hu hle he;cases b
   ·repeat' first|(refine ab (hK _ ?_);clear hK K)|(refine af ?_;simp[az,a8];(try simp(disch:=omega)only[wrap64]);(try(refine gen2 ?_ ?_<;>intro hq<;>try simp[az,a8]at hq)))|(refine j5 0 [.i k] [.i k'] rfl rfl hu ?_;simp)|(refine T.ret (aD.oU (Or.inr rfl) ?_ ?_ ?_)<;>simp[Tryz.results91,<-he]<;>omega)|refine T.r0 fun K hK=>?_|refine T.ct rfl ?_|refine T.seq ?_|refine T.block ?_|refine T.skip ?_
   ·obtain⟨Q3,Q4⟩:=hle rfl;repeat' first|(refine ab (hK _ ?_);clear hK K)|(refine af ?_;simp[az,a8];(try simp(disch:=omega)only[wrap64]);(try(refine gen2 ?_ ?_<;>intro hq<;>try simp[az,a8]at hq)))|(refine j5 0 [.i k] [.i k'] rfl rfl hu ?_;simp)|(refine⟨(p+1,k',_),by dsimp only;omega,⟨by dsimp only;omega,Q3,Q4,by simpa using he⟩,rfl,rfl,?_⟩;simp(disch:=omega) [wrap64])|refine T.r0 fun K hK=>?_|refine T.r1 fun K hK=>?_|refine T.ct rfl ?_|refine T.cf rfl ?_|refine T.seq ?_|refine T.block ?_|refine T.skip ?_
  ·have fX:p=e.kids.length:=by omega
   subst fX;simp[lq]at he;repeat' first|(refine ab (hK _ ?_);clear hK K)|(refine af ?_;simp[az];(try(refine gen2 ?_ ?_<;>intro hq<;>try simp[az]at hq)))|(refine T.ret (aD.oU (Or.inr rfl) ?_ ?_ ?_)<;>simp[Tryz.results91,<-he]<;>omega)|refine T.r0 fun K hK=>?_|refine T.cf rfl ?_|refine T.seq ?_|refine T.exit ?_
end Go.Proofs.YtloolmchekcmeaaGreat
namespace Go.Proofs.YtloolmchekcmeaaGreat
attribute [-simp] Go.Av.gv Go.Av.gi Go.Av.cP Go.Av.gJ Go.Av.cc Go.Av.bK Go.Av.back Go.Av.fg Go.Av.one
open Go Go.Av
attribute [local irreducible] T ah cA gA aE.kind aE.kids ao.kind ao.name ao.num ao.ty ao.fr ao.label ao.kids
attribute [local simp] aQ ax
set_option maxHeartbeats 4000000
attribute [local simp] Option.bind
theorem mU:ah YA 85 [] [] (eu kD) [] []:=by
 refine ah.ob Tryz.func85 Tryz.ntmps85 rfl ?_;repeat' first|(refine ab (hK _ ?_);clear hK K)|(refine af ?_;simp;(try(refine gen2 ?_ ?_<;>intro hq<;>try simp at hq)))|(refine T.ret (aD.val (Or.inr rfl) ?_)<;>simp[aF,Tryz.results85]<;>omega)|refine T.r0 fun K hK=>?_
theorem BI:ah YA 89 [] [] (eu bP) [] []:=by
 refine ah.ob Tryz.func89 Tryz.ntmps89 rfl ?_;repeat' first|(refine ab (hK _ ?_);clear hK K)|(refine af ?_;simp;(try(refine gen2 ?_ ?_<;>intro hq<;>try simp at hq)))|(refine T.ret (aD.val (Or.inr rfl) ?_)<;>simp[aF,Tryz.results89]<;>omega)|refine T.r0 fun K hK=>?_
theorem FM:ah YA 125 [] [] (eu c3) [] []:=by
 refine ah.ob Tryz.func125 Tryz.ntmps125 rfl ?_;repeat' first|(refine ab (hK _ ?_);clear hK K)|(refine af ?_;simp;(try(refine gen2 ?_ ?_<;>intro hq<;>try simp at hq)))|(refine T.ret (aD.val (Or.inr rfl) ?_)<;>simp[aF,Tryz.results125]<;>omega)|refine T.r0 fun K hK=>?_
theorem cS:∀(t:aE),gl t<=1099511627776->ah YA 120 [eu t] [] (eu t) [] []:=by
 intro t;induction t using aE.ind with
 |h t ih=>
  intro hn;rw[gG]at hn;have hlen:=ie t.kids;refine ah.ob Tryz.func120 Tryz.ntmps120 rfl ?_;repeat' first|(refine ab (hK _ ?_);clear hK K)|(refine af ?_;simp;(try(refine gen2 ?_ ?_<;>intro hq<;>try simp at hq)))|refine T.r0 fun K hK=>?_|refine T.seq ?_|refine T.block ?_
  refine T.dM 2 1 2 25 (row:=[.d (.i t.kind),.nil]) (by simp) (by simp) ?_;refine T.iI (fun p:Nat=>⟨[(1,.c (.ptr 0 0)),(2,.c (.ptr 1 0)),(3,.c (.ptr 2 0)),(4,.i p)],[(eu t).cells,[.d (.i 0),.nil],[.d (.i t.kind),.own 0 p]],[{sz:=2,eJ:=25,rows:=(t.kids.take p).map cA,wr:=true}]⟩) (fun p=>t.kids.length+1-p) (fun p=>p<=t.kids.length) (fun p hi=>?_) 0 (by simp) (by simp);by_cases az:p<t.kids.length
  ·obtain⟨u,ht⟩:=bX az;have fz:u∈t.kids:=YD ht;have a8:t.kids[p]=u:=by rw[YC az]at ht;exact Option.some.inj ht
   have jb:t.kids.drop p=u::t.kids.drop (p+1):=by rw[YE az,a8]
   have hu:=ih u fz (by have:=ig fz;omega);have qe:t.kids.take (p+1)=t.kids.take p++[u]:=by rw[YG,ht];rfl
   have eg:min p t.kids.length=p:=by omega
   repeat' first|((first|refine ab (hK _ ?_)|refine aA (hK _ ?_));clear hK K)|((first|refine af ?_|refine aG ?_|refine aa rfl (hu) ?_);simp[az,a8,eg];(try simp(disch:=omega)only[wrap64]);(try(refine gen2 ?_ ?_<;>intro hq<;>try simp[az,a8,eg]at hq)))|(refine⟨by omega,by omega,?_⟩)|(refine⟨p+1,by dsimp only;omega,by omega,?_,?_,?_⟩<;>simp(disch:=omega) [wrap64,qe,aQ])|refine T.yi (id:=5) mixed (fun _=>false) [9,11] (by kernel_rfl) fun K hK=>?_|refine T.r0 fun K hK=>?_|refine T.r1 fun K hK=>?_|refine T.ct rfl ?_|refine T.seq ?_|refine T.block ?_|refine T.skip ?_
  ·have fX:p=t.kids.length:=by omega
   subst fX;repeat' first|(refine ab (hK _ ?_);clear hK K)|(refine af ?_;simp[az];(try(refine gen2 ?_ ?_<;>intro hq<;>try simp[az]at hq)))|(refine T.ret (aD.val (Or.inr rfl) ?_)<;>simp[aF,Tryz.results120,aQ]<;>omega)|refine T.r0 fun K hK=>?_|refine T.cf rfl ?_|refine T.seq ?_|refine T.exit ?_
end Go.Proofs.YtloolmchekcmeaaGreat
namespace Go.Proofs.YtloolmchekcmeaaGreat
attribute [-simp] Go.Av.gv Go.Av.gi Go.Av.cP Go.Av.gJ Go.Av.cc Go.Av.bK Go.Av.back Go.Av.fg Go.Av.one
open Go Go.Av
attribute [local irreducible] T ah cA gA aE.kind aE.kids ao.kind ao.name ao.num ao.ty ao.fr ao.label ao.kids
attribute [local simp] aQ ax
set_option maxHeartbeats 4000000
@[simp] theorem HG:td YA 139=some {ag:=false,sz:=1,lG:=24,zero:=some [.nil],el:=some 146,ar:=none,fl:=[],ik:=none,cL:=false,nj:=false}:=dI (by kernel_rfl)
@[simp] theorem PI:td YA 146=some {ag:=true,sz:=3,lG:=48,zero:=some [.d (.str []),.d (.int .i64 0),.nil],el:=none,ar:=none,fl:=[(0,1),(1,2)],ik:=none,cL:=false,nj:=false}:=dI (by kernel_rfl)
theorem FN (ctx:List ea) (s:List UInt8) (hl:ctx.length<=1099511627776) (hn:∀b∈ctx,gl b.ty<=1099511627776):
  ah YA 121 [.l (ctx.map jP),.s s] [] (.bq (match cX ctx s with|some t=>[eu t,.b true]|none=>[eu bx,.b false])) [] []:=by
 have HH:∀p,p<ctx.length->cX (ctx.take (p+1)) s=if(ctx[p]?.map ea.name)=some s then ctx[p]?.map ea.ty else cX (ctx.take p) s:=by
  have C1:∀(l:List ea) (b:ea),cX (l++[b]) s=if b.name=s then some b.ty else cX l s:=by
   intro l;induction l with
   |nil=>intro b;simp[cX]
   |cons x r ih=>
    intro b;simp only[List.cons_append,cX,ih b];by_cases hb:b.name=s
    ·simp[hb]
    ·simp[hb]
  intro p hp;rw[YG,YC hp];simp only[Option.toList_some,C1,Option.map_some,Option.some.injEq]
 refine ah.ob Tryz.func121 Tryz.ntmps121 rfl ?_;repeat' first|(refine ab (hK _ ?_);clear hK K)|(refine af ?_;simp;(try simp(disch:=omega)only[wrap64]);(try(refine gen2 ?_ ?_<;>intro hq<;>try simp at hq)))|refine T.r0 fun K hK=>?_|refine T.seq ?_|refine T.block ?_
 obtain⟨R,hR⟩:∃R,cX ctx s=R:=⟨_,rfl⟩;rw[hR];refine T.iI (fun p:Nat=>⟨[(0,.l (ctx.map jP)),(1,.s s),(4,.c (.ptr 0 0)),(6,.i ((p:Int)-1))],[[.d (.i 0),.nil]],[]⟩) (fun p=>p) (fun p=>p<=ctx.length/\cX (ctx.take p) s=R) (fun p hp=>?_) ctx.length (by simpa using hR) (by simp);obtain⟨hi,he⟩:=hp;cases p with
 |zero=>
  simp[cX]at he;subst he;repeat' first|(refine ab (hK _ ?_);clear hK K)|(refine af ?_;simp;(try(refine gen2 ?_ ?_<;>intro hq<;>try simp at hq)))|(refine T.ret (aD.bq (Or.inr rfl) ?_)<;>simp[aF,Tryz.results121]<;>omega)|refine T.r0 fun K hK=>?_|refine T.cf rfl ?_|refine T.seq ?_|refine T.exit ?_
 |succ p=>
  rw[HH p (by omega)]at he;have az:p<ctx.length:=by omega
  obtain⟨b,ht⟩:=bX az;have fz:b∈ctx:=YD ht;have a8:ctx[p]=b:=by rw[YC az]at ht;exact Option.some.inj ht
  have mB:(0:Int)<=(p:Int)+1-1:=by omega
  have HI:((p:Int)+1-1)=p:=by omega
  have BJ:=cS b.ty (hn b fz);rw[ht]at he;by_cases hb:b.name=s
  ·simp[hb]at he;subst he;repeat' first|(refine ab (hK _ ?_);clear hK K)|((first|refine af ?_|refine aa rfl (BJ) ?_);simp[az,a8,mB,HI,hb,jP];(try simp(disch:=omega)only[wrap64]);(try(refine gen2 ?_ ?_<;>intro hq<;>try simp[az,a8,mB,HI,hb,jP]at hq)))|(refine T.ret (aD.bq (Or.inr rfl) ?_)<;>simp[aF,Tryz.results121]<;>omega)|refine T.r0 fun K hK=>?_|refine T.ct rfl ?_|refine T.seq ?_|refine T.block ?_|refine T.skip ?_
  ·simp[hb]at he;repeat' first|(refine ab (hK _ ?_);clear hK K)|(refine af ?_;simp[az,a8,mB,HI,hb,jP];(try simp(disch:=omega)only[wrap64]);(try(refine gen2 ?_ ?_<;>intro hq<;>try simp[az,a8,mB,HI,hb,jP]at hq)))|(refine⟨p,by dsimp only;omega,⟨by omega,he⟩,rfl,rfl,?_⟩;simp(disch:=omega) [wrap64])|refine T.r0 fun K hK=>?_|refine T.r1 fun K hK=>?_|refine T.ct rfl ?_|refine T.cf rfl ?_|refine T.seq ?_|refine T.block ?_|refine T.skip ?_
theorem FO (ctx:List ea) (s:List UInt8) (t:aE) (hl:ctx.length<=1099511627776):
  ah YA 147 [.l (ctx.map jP),.s s,eu t] [] (.l ((ctx++[ea.mk s t]).map jP)) [] []:=by
 refine ah.ob Tryz.func147 Tryz.ntmps147 rfl ?_;repeat' first|((first|refine ab (hK _ ?_)|refine bz (hK _ ?_));clear hK K)|((first|refine af ?_|refine bO ?_);simp[jP];(try(refine gen2 ?_ ?_<;>intro hq<;>try simp[jP]at hq)))|(refine⟨by omega,by omega,?_⟩)|(refine T.ret (aD.val (Or.inr rfl) ?_)<;>simp[aF,Tryz.results147,jP]<;>omega)|refine T.pB (id:=1) mixed (fun i=>i==0) [0,2,7] [4,5,6] 3 [] (by kernel_rfl) fun K hK=>?_|refine T.rs (id:=0) (fun _=>false) fun K hK=>?_
theorem jv:∀(d:Nat) (t:aE),ak d t=true->gl t+2<=2 ^ d
 |0,t,h=>by simp[ak]at h
 |d+1,t,h=>by
  obtain⟨e,he,_,hl,hs⟩:=dT h;obtain rfl:d=e:=by omega
  rw[gG];have hp:1<=2 ^ d:=Nat.one_le_two_pow;have Uv:2 ^(d+1)=2*2 ^ d:=by rw[Nat.pow_succ];omega
  match hk:t.kids,hl with
  |[],_=>simp[cY];omega
  |[a],_=>have:=jv d a (hs a (by simp[hk]));simp[cY];omega
  |[a,b],_=>
   have h1:=jv d a (hs a (by simp[hk]));have h2:=jv d b (hs b (by simp[hk]));simp[cY];omega
theorem fY {t:aE} (h:ak 4 t=true):gl t<=14:=by have:=jv 4 t h;omega
theorem tV {k:Int} {t:aE} (hk:k=4\/k=5) (h:ak 4 t=true):t.kind=k->2<=t.kids.length:=by
 intro he;obtain⟨_,_,hl,_,_⟩:=dT h;rw[he]at hl;rcases hk with rfl|rfl<;>simp[cF]at hl<;>omega
theorem xg:∀(d:Nat) (e:ao),d<=1000->fy e<=1099511627776->ah YA 96 [c6 e,.i d] [] (.b (bj 14 d e)) [] []
 |0,e,_,_=>by
  refine ah.ob Tryz.func96 Tryz.ntmps96 rfl ?_;repeat' first|((first|refine ab (hK _ ?_)|refine aA (hK _ ?_));clear hK K)|((first|refine af ?_|refine aG ?_);simp;(try(refine gen2 ?_ ?_<;>intro hq<;>try simp at hq)))|(refine T.ret (aD.data (Or.inr rfl) ?_ ?_)<;>simp[Tryz.results96,bj]<;>omega)|refine T.rd (id:=1) mixed (fun _=>false) [] (by kernel_rfl) fun K hK=>?_|refine T.r0 fun K hK=>?_|refine T.ct rfl ?_|refine T.seq ?_
 |d+1,e,hd,hn=>by
  obtain⟨kp,qd,CP,tc⟩:=c4 hn;have lx:=zl e.kind;have hP:¬((d:Int)+1<1):=by omega
  have jh:bj 14 (d+1) e=(decide (e.kind≠14)&&(decide (cD e.kind=e.kids.length)&& e9 e)&& e.kids.all (bj 14 d)):=rfl;by_cases yK:e.kind=14
  ·rw[yK]at lx;rw[show bj 14 (d+1) e=false by rw[jh];simp[yK]];refine ah.ob Tryz.func96 Tryz.ntmps96 rfl ?_;repeat' first|((first|refine ab (hK _ ?_)|refine aA (hK _ ?_));clear hK K)|((first|refine af ?_|refine aG ?_|refine aa rfl (lx) ?_);simp[hP,yK];(try(refine gen2 ?_ ?_<;>intro hq<;>try simp[hP,yK]at hq)))|(refine T.ret (aD.data (Or.inr rfl) ?_ ?_)<;>simp[Tryz.results96]<;>omega)|refine T.rd (id:=1) mixed (fun _=>false) [] (by kernel_rfl) fun K hK=>?_|refine T.r0 fun K hK=>?_|refine T.ct rfl ?_|refine T.seq ?_
  by_cases hlen:cD e.kind=e.kids.length
  rotate_left
  ·rw[show bj 14 (d+1) e=false by rw[jh];simp[hlen]];refine ah.ob Tryz.func96 Tryz.ntmps96 rfl ?_;repeat' first|((first|refine ab (hK _ ?_)|refine aA (hK _ ?_));clear hK K)|((first|refine af ?_|refine aG ?_|refine aa rfl (lx) ?_);simp[hP,hlen];(try(refine gen2 ?_ ?_<;>intro hq<;>try simp[hP,hlen]at hq)))|(refine T.ret (aD.data (Or.inr rfl) ?_ ?_)<;>simp[Tryz.results96]<;>omega)|refine T.rd (id:=1) mixed (fun _=>false) [] (by kernel_rfl) fun K hK=>?_|refine T.r0 fun K hK=>?_|refine T.ct rfl ?_|refine T.seq ?_
  rw[hlen]at lx;have NX:bj 14 (d+1) e=(e9 e && e.kids.all (bj 14 d)):=by rw[jh];simp[yK,hlen]
  have dS:=HF e yK kp;obtain⟨R,hR⟩:∃R,e.kids.all (bj 14 d)=R:=⟨_,rfl⟩;rw[NX,hR];generalize e9 e=O at dS;clear jh NX;cases O
  ·refine ah.ob Tryz.func96 Tryz.ntmps96 rfl ?_;repeat' first|((first|refine ab (hK _ ?_)|refine aA (hK _ ?_));clear hK K)|((first|refine af ?_|refine aG ?_|refine aa rfl (lx) ?_|refine aa rfl (dS) ?_);simp[hP,yK];(try(refine gen2 ?_ ?_<;>intro hq<;>try simp[hP,yK]at hq)))|(refine T.ret (aD.data (Or.inr rfl) ?_ ?_)<;>simp[Tryz.results96]<;>omega)|refine T.rd (id:=1) mixed (fun _=>false) [] (by kernel_rfl) fun K hK=>?_|refine T.r0 fun K hK=>?_|refine T.ct rfl ?_|refine T.seq ?_
  refine ah.ob Tryz.func96 Tryz.ntmps96 rfl ?_;repeat' first|((first|refine ab (hK _ ?_)|refine aA (hK _ ?_));clear hK K)|((first|refine af ?_|refine aG ?_|refine aa rfl (lx) ?_|refine aa rfl (dS) ?_);simp[hP,yK];(try(refine gen2 ?_ ?_<;>intro hq<;>try simp[hP,yK]at hq)))|refine T.rd (id:=1) mixed (fun _=>false) [] (by kernel_rfl) fun K hK=>?_|refine T.r0 fun K hK=>?_|refine T.cf rfl ?_|refine T.seq ?_|refine T.block ?_|refine T.skip ?_
  rw[Bool.true_and];refine T.iI (fun p:Nat=>⟨[(1,.i (d+1)),(2,.c (.ptr 0 0)),(5,.i p)],[(c6 e).cells],[]⟩) (fun p=>e.kids.length+1-p) (fun p=>p<=e.kids.length/\(e.kids.drop p).all (bj 14 d)=R) (fun p hp=>?_) 0 (by simpa using hR) (by simp);obtain⟨hi,he⟩:=hp;by_cases az:p<e.kids.length
  ·obtain⟨u,ht⟩:=bX az;have fz:u∈e.kids:=YD ht;have a8:e.kids[p]=u:=by rw[YC az]at ht;exact Option.some.inj ht
   have jb:e.kids.drop p=u::e.kids.drop (p+1):=by rw[YE az,a8]
   have hu:=xg d u (by omega) (tc u fz);rw[jb,YH]at he;cases hb:bj 14 d u<;>rw[hb]at hu he
   ·repeat' first|(refine ab (hK _ ?_);clear hK K)|((first|refine af ?_|refine aa rfl (hu) ?_);simp[az,a8];(try simp(disch:=omega)only[wrap64]);(try(refine gen2 ?_ ?_<;>intro hq<;>try simp[az,a8]at hq)))|(refine T.ret (aD.data (Or.inr rfl) ?_ ?_)<;>simp[Tryz.results96,<-he]<;>omega)|refine T.r0 fun K hK=>?_|refine T.ct rfl ?_|refine T.seq ?_|refine T.block ?_|refine T.skip ?_
   ·repeat' first|(refine ab (hK _ ?_);clear hK K)|((first|refine af ?_|refine aa rfl (hu) ?_);simp[az,a8];(try simp(disch:=omega)only[wrap64]);(try(refine gen2 ?_ ?_<;>intro hq<;>try simp[az,a8]at hq)))|(refine⟨p+1,by dsimp only;omega,⟨by omega,by simpa using he⟩,rfl,rfl,?_⟩;simp(disch:=omega) [wrap64])|refine T.r0 fun K hK=>?_|refine T.r1 fun K hK=>?_|refine T.ct rfl ?_|refine T.cf rfl ?_|refine T.seq ?_|refine T.block ?_|refine T.skip ?_
  ·have fX:p=e.kids.length:=by omega
   subst fX;simp at he;repeat' first|(refine ab (hK _ ?_);clear hK K)|(refine af ?_;simp[az];(try(refine gen2 ?_ ?_<;>intro hq<;>try simp[az]at hq)))|(refine T.ret (aD.data (Or.inr rfl) ?_ ?_)<;>simp[Tryz.results96,he]<;>omega)|refine T.r0 fun K hK=>?_|refine T.cf rfl ?_|refine T.seq ?_|refine T.exit ?_
theorem jT (e:ao) (hn:fy e<=1099511627776):ah YA 41 [c6 e] [] (.b (a6 e)) [] []:=by
 have h1:=xg 12 e (by omega) hn;have h2:=xf 12 e (by omega) hn;rw[show a6 e=(bj 14 12 e && decide (cN 12 e<=30))from rfl];generalize bj 14 12 e=a at*;generalize cN 12 e=b at*;refine ah.ob Tryz.func41 Tryz.ntmps41 rfl ?_;repeat' first|(refine ab (hK _ ?_);clear hK K)|((first|refine af ?_|refine aa rfl (h1) ?_|refine aa rfl (h2) ?_);simp;(try(refine gen2 ?_ ?_<;>intro hq<;>try simp at hq)))|(refine T.ret (aD.data (Or.inr rfl) ?_ ?_)<;>simp[Tryz.results41, *]<;>omega)|refine T.r0 fun K hK=>?_
def VH (e:ao) (ts:List aE) (r:Option aE):Prop:=∃t',(∀t,r=some t->t'=t)/\ah YA 165 [c6 e,.l (ts.map cA)] [] (.bq [eu t',.b r.isSome]) [] []
def VI (ctx:List ea) (e:ao):Prop:=∃t',(∀t,cO ctx e=some t->t'=t)/\ah YA 146 [.l (ctx.map jP),c6 e] [] (.bq [eu t',.b (cO ctx e).isSome]) [] []
theorem HJ (k:Int) (n:Nat) (h:cD k=n):0<k/\k<15:=by
 simp only[cD]at h;split at h
 ·omega
 ·split at h
  ·omega
  ·split at h
   ·omega
   ·split at h<;>omega
def gg (ctx:List ea) (e:ao):Option aE:=if Dc ctx=true/\a6 e=true then cO ctx e else none
abbrev BK:Option aE->List AV
 |some t=>[eu t,.b true]
 |none=>[eu bx,.b false]
end Go.Proofs.YtloolmchekcmeaaGreat
