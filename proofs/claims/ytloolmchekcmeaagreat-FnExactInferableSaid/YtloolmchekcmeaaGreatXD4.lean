/- A part. -/
import Derived.Test.YtloolmchekcmeaaGreatXD3
import Derived.Test.YtloolmchekcmeaaGreatChecked
set_option linter.unusedVariables false
set_option linter.unusedSimpArgs false
open Go.Proofs.Tryz renaming prog->YC
open List renaming mem_of_getElem?->YD,getElem?_eq_getElem->YE,zipWith->YF,drop_eq_getElem_cons->YG,sizeOf_lt_of_mem->YH,drop_length->YI,take_length->YJ,take_add_one->YK
open Nat renaming le_of_lt->YL
open Bool renaming not_eq_true->YM
namespace Go.Proofs.YtloolmchekcmeaaGreat
attribute [-simp] Go.Av.il Go.Av.gp Go.Av.iq Go.Av.gq Go.Av.c8 Go.Av.qW Go.Av.iw Go.Av.gI Go.Av.cZ
open Go Go.Av
attribute [local irreducible] T
attribute [local simp] aN au
@[simp] theorem dY:td YC 3=some {ag:=false,sz:=1,kI:=8,zero:=some [.d (.int .i64 0)],el:=none,ar:=none,fl:=[],ik:=some .i64,cy:=false,l6:=false}:=dq (by kernel_rfl)
@[simp] theorem Po:td YC 4=some {ag:=false,sz:=1,kI:=1,zero:=some [.d (.bool false)],el:=none,ar:=none,fl:=[],ik:=none,cy:=false,l6:=true}:=dq (by kernel_rfl)
@[simp] theorem bS:td YC 9=some {ag:=false,sz:=1,kI:=16,zero:=some [.d (.str [])],el:=none,ar:=none,fl:=[],ik:=none,cy:=true,l6:=false}:=dq (by kernel_rfl)
@[simp] theorem Jh:td YC 36=some {ag:=false,sz:=1,kI:=24,zero:=some [.nil],el:=some 38,ar:=none,fl:=[],ik:=none,cy:=false,l6:=false}:=dq (by kernel_rfl)
@[simp] theorem Ku:td YC 38=some {ag:=true,sz:=2,kI:=32,zero:=some [.d (.int .i64 0),.nil],el:=none,ar:=none,fl:=[(0,1),(1,1)],ik:=none,cy:=false,l6:=false}:=dq (by kernel_rfl)
@[simp] theorem Ji:td YC 39=some {ag:=false,sz:=1,kI:=24,zero:=some [.nil],el:=some 41,ar:=none,fl:=[],ik:=none,cy:=false,l6:=false}:=dq (by kernel_rfl)
@[simp] theorem Kv:td YC 41=some {ag:=true,sz:=9,kI:=128,zero:=some [.d (.int .i64 0),.d (.str []),.d (.int .i64 0),.d (.int .i64 0),.nil,.d (.int .i64 0),.nil,.d (.int .i64 0),.nil],el:=none,ar:=none,fl:=[(0,1),(1,1),(2,1),(3,2),(5,2),(7,1),(8,1)],ik:=none,cy:=false,l6:=false}:=dq (by kernel_rfl)
@[simp] theorem zE:td YC 23=some {ag:=false,sz:=1,kI:=24,zero:=some [.nil],el:=some 25,ar:=none,fl:=[],ik:=none,cy:=false,l6:=false}:=dq (by kernel_rfl)
@[simp] theorem Be:td YC 25=some {ag:=true,sz:=2,kI:=32,zero:=some [.d (.int .i64 0),.nil],el:=none,ar:=none,fl:=[(0,1),(1,1)],ik:=none,cy:=false,l6:=false}:=dq (by kernel_rfl)
@[simp] theorem Jj:td YC 26=some {ag:=false,sz:=1,kI:=24,zero:=some [.nil],el:=some 28,ar:=none,fl:=[],ik:=none,cy:=false,l6:=false}:=dq (by kernel_rfl)
@[simp] theorem Kw:td YC 28=some {ag:=true,sz:=9,kI:=128,zero:=some [.d (.int .i64 0),.d (.str []),.d (.int .i64 0),.d (.int .i64 0),.nil,.d (.int .i64 0),.nil,.d (.int .i64 0),.nil],el:=none,ar:=none,fl:=[(0,1),(1,1),(2,1),(3,2),(5,2),(7,1),(8,1)],ik:=none,cy:=false,l6:=false}:=dq (by kernel_rfl)
theorem mixed:Tryz.prog.follows .mixedOrders=true:=by kernel_rfl
theorem zF (l:List aF) (hl:l.length<=9223372036854775807) (h:∀t∈l,∀left:Int,0<=left->left<=1048576->ah YC 51 [ec t,.i left] [] (.i (ju (dF t) left)) [] []) (left:Int) (h0:0<=left) (h1:left<=1048576):
  ah YC 106 [.l (l.map b5),.i left] [] (.i (ju (aL l) left)) [] []:=by
 refine ah.ob Tryz.func106 Tryz.ntmps106 rfl ?_;have hw:IntKind.i64.wrap (left-(l.length:Int))=left-l.length:=wrap64 (by omega) (by omega);have QK:=AZ l;by_cases hlen:left-(l.length:Int)<0
 ·repeat' first|(refine T.rs (fun _=>false) fun K hK=>?_;(repeat (refine ae ?_;simp[hw,hlen]));refine ab (hK _ ?_);clear hK K)|(refine T.cw (fun _=>false) fun K hK=>?_;(repeat (refine ae ?_;simp[hw,hlen]));refine ab (hK _ ?_);clear hK K)|refine T.cond rfl (fun hc=>?_) (fun hc=>absurd hc (by decide))|refine T.cond rfl (fun hc=>absurd hc (by decide)) (fun hc=>?_)|refine T.seq ?_|refine T.block ?_|refine T.skip ?_|refine T.exit ?_
  have qj:¬(aL l:Int)<=left:=by omega
  refine T.ret (az.data (Or.inr rfl) ?_ ?_)<;>simp[Tryz.results106,ju,qj]
 have Bf:¬left<(l.length:Int):=by omega
 repeat' first|(refine T.rs (fun _=>false) fun K hK=>?_;(repeat (refine ae ?_;simp[hw,hlen,Bf]));refine ab (hK _ ?_);clear hK K)|(refine T.cw (fun _=>false) fun K hK=>?_;(repeat (refine ae ?_;simp[hw,hlen,Bf]));refine ab (hK _ ?_);clear hK K)|refine T.cond rfl (fun hc=>?_) (fun hc=>absurd hc (by decide))|refine T.cond rfl (fun hc=>absurd hc (by decide)) (fun hc=>?_)|refine T.seq ?_|refine T.block ?_|refine T.skip ?_|refine T.exit ?_
 refine T.fJ (fun p:Nat=>⟨[(0,.l (l.map b5)),(1,.i (left-l.length-j6 (l.take p))),(5,.i p)],[],[]⟩) (fun p=>l.length+1-p) (fun p=>p<=l.length/\0<=left-l.length-j6 (l.take p)) (fun p hp=>?_) 0 (by simp[j6];omega) (by simp[hw,j6]);obtain⟨hi,he⟩:=hp;by_cases ax:p<l.length
 ·obtain⟨t,ht⟩:=bz ax;have eJ:t∈l:=YD ht;have qA:=CE ht;have hle:=GW l (p+1);have bg:l[p]=t:=by rw[YE ax]at ht;exact Option.some.inj ht
  repeat' first|(refine T.rs (fun _=>false) fun K hK=>?_;(repeat (refine ae ?_;simp[ax]));refine ab (hK _ ?_);clear hK K)|(refine T.cw (fun _=>false) fun K hK=>?_;(repeat (refine ae ?_;simp[ax]));refine ab (hK _ ?_);clear hK K)|refine T.cond rfl (fun hc=>?_) (fun hc=>absurd hc (by decide))|refine T.cond rfl (fun hc=>absurd hc (by decide)) (fun hc=>?_)|refine T.seq ?_|refine T.block ?_|refine T.skip ?_|refine T.exit ?_
  refine T.cw (fun _=>false) fun K hK=>?_
  repeat (refine ae ?_;simp[ax,bg])
  refine aa (by simp) (h t eJ _ he (by omega)) ?_;simp
  repeat (refine ae ?_;simp)
  refine ab (hK _ ?_);clear hK K;by_cases hq:ju (dF t) (left-l.length-j6 (l.take p))<0
  ·repeat' first|(refine T.rs (fun _=>false) fun K hK=>?_;(repeat (refine ae ?_;simp[hq]));refine ab (hK _ ?_);clear hK K)|(refine T.cw (fun _=>false) fun K hK=>?_;(repeat (refine ae ?_;simp[hq]));refine ab (hK _ ?_);clear hK K)|refine T.cond rfl (fun hc=>?_) (fun hc=>absurd hc (by decide))|refine T.cond rfl (fun hc=>absurd hc (by decide)) (fun hc=>?_)|refine T.seq ?_|refine T.block ?_|refine T.skip ?_|refine T.exit ?_
   have qj:¬(aL l:Int)<=left:=by
    simp only[ju]at hq;split at hq<;>omega
   refine T.ret (az.data (Or.inr rfl) ?_ ?_)<;>simp[Tryz.results106,ju,qj]
  ·have Ny:ju (dF t) (left-l.length-j6 (l.take p))=left-l.length-j6 (l.take (p+1)):=by
    simp only[ju]at hq⊢;split at hq<;>split<;>omega
   repeat' first|(refine T.rs (fun _=>false) fun K hK=>?_;(repeat (refine ae ?_;simp[hq]));refine ab (hK _ ?_);clear hK K)|(refine T.cw (fun _=>false) fun K hK=>?_;(repeat (refine ae ?_;simp[hq]));refine ab (hK _ ?_);clear hK K)|refine T.cond rfl (fun hc=>?_) (fun hc=>absurd hc (by decide))|refine T.cond rfl (fun hc=>absurd hc (by decide)) (fun hc=>?_)|refine T.seq ?_|refine T.block ?_|refine T.skip ?_|refine T.exit ?_
   refine⟨p+1,by dsimp only;omega,⟨by omega,by rw[<-Ny];omega⟩,?_⟩;have oY:IntKind.i64.wrap ((p:Int)+1)=p+1:=wrap64 (by omega) (by omega);simp[oY,Ny]
 ·have eb:p=l.length:=by omega
  subst eb;repeat' first|(refine T.rs (fun _=>false) fun K hK=>?_;(repeat (refine ae ?_;simp[ax]));refine ab (hK _ ?_);clear hK K)|(refine T.cw (fun _=>false) fun K hK=>?_;(repeat (refine ae ?_;simp[ax]));refine ab (hK _ ?_);clear hK K)|refine T.cond rfl (fun hc=>?_) (fun hc=>absurd hc (by decide))|refine T.cond rfl (fun hc=>absurd hc (by decide)) (fun hc=>?_)|refine T.seq ?_|refine T.block ?_|refine T.skip ?_|refine T.exit ?_
  have fP:(aL l:Int)<=left:=by rw[YJ]at he;omega
  refine T.ret (az.data (Or.inr rfl) ?_ ?_)<;>simp[Tryz.results106,ju,fP];omega
theorem zG (l:List ak) (hl:l.length<=9223372036854775807) (h:∀t∈l,∀left:Int,0<=left->left<=1048576->ah YC 15 [cE t,.i left] [] (.i (ju (fa t) left)) [] []) (left:Int) (h0:0<=left) (h1:left<=1048576):
  ah YC 52 [.l (l.map eK),.i left] [] (.i (ju (dW l) left)) [] []:=by
 refine ah.ob Tryz.func52 Tryz.ntmps52 rfl ?_;have hw:IntKind.i64.wrap (left-(l.length:Int))=left-l.length:=wrap64 (by omega) (by omega);have QK:=A1 l;by_cases hlen:left-(l.length:Int)<0
 ·repeat' first|(refine T.rs (fun _=>false) fun K hK=>?_;(repeat (refine ae ?_;simp[hw,hlen]));refine ab (hK _ ?_);clear hK K)|(refine T.cw (fun _=>false) fun K hK=>?_;(repeat (refine ae ?_;simp[hw,hlen]));refine ab (hK _ ?_);clear hK K)|refine T.cond rfl (fun hc=>?_) (fun hc=>absurd hc (by decide))|refine T.cond rfl (fun hc=>absurd hc (by decide)) (fun hc=>?_)|refine T.seq ?_|refine T.block ?_|refine T.skip ?_|refine T.exit ?_
  have qj:¬(dW l:Int)<=left:=by omega
  refine T.ret (az.data (Or.inr rfl) ?_ ?_)<;>simp[Tryz.results52,ju,qj]
 have Bf:¬left<(l.length:Int):=by omega
 repeat' first|(refine T.rs (fun _=>false) fun K hK=>?_;(repeat (refine ae ?_;simp[hw,hlen,Bf]));refine ab (hK _ ?_);clear hK K)|(refine T.cw (fun _=>false) fun K hK=>?_;(repeat (refine ae ?_;simp[hw,hlen,Bf]));refine ab (hK _ ?_);clear hK K)|refine T.cond rfl (fun hc=>?_) (fun hc=>absurd hc (by decide))|refine T.cond rfl (fun hc=>absurd hc (by decide)) (fun hc=>?_)|refine T.seq ?_|refine T.block ?_|refine T.skip ?_|refine T.exit ?_
 refine T.fJ (fun p:Nat=>⟨[(0,.l (l.map eK)),(1,.i (left-l.length-j7 (l.take p))),(5,.i p)],[],[]⟩) (fun p=>l.length+1-p) (fun p=>p<=l.length/\0<=left-l.length-j7 (l.take p)) (fun p hp=>?_) 0 (by simp[j7];omega) (by simp[hw,j7]);obtain⟨hi,he⟩:=hp;by_cases ax:p<l.length
 ·obtain⟨t,ht⟩:=bz ax;have eJ:t∈l:=YD ht;have qA:=CF ht;have hle:=GX l (p+1);have bg:l[p]=t:=by rw[YE ax]at ht;exact Option.some.inj ht
  repeat' first|(refine T.rs (fun _=>false) fun K hK=>?_;(repeat (refine ae ?_;simp[ax]));refine ab (hK _ ?_);clear hK K)|(refine T.cw (fun _=>false) fun K hK=>?_;(repeat (refine ae ?_;simp[ax]));refine ab (hK _ ?_);clear hK K)|refine T.cond rfl (fun hc=>?_) (fun hc=>absurd hc (by decide))|refine T.cond rfl (fun hc=>absurd hc (by decide)) (fun hc=>?_)|refine T.seq ?_|refine T.block ?_|refine T.skip ?_|refine T.exit ?_
  refine T.cw (fun _=>false) fun K hK=>?_
  repeat (refine ae ?_;simp[ax,bg])
  refine aa (by simp) (h t eJ _ he (by omega)) ?_;simp
  repeat (refine ae ?_;simp)
  refine ab (hK _ ?_);clear hK K;by_cases hq:ju (fa t) (left-l.length-j7 (l.take p))<0
  ·repeat' first|(refine T.rs (fun _=>false) fun K hK=>?_;(repeat (refine ae ?_;simp[hq]));refine ab (hK _ ?_);clear hK K)|(refine T.cw (fun _=>false) fun K hK=>?_;(repeat (refine ae ?_;simp[hq]));refine ab (hK _ ?_);clear hK K)|refine T.cond rfl (fun hc=>?_) (fun hc=>absurd hc (by decide))|refine T.cond rfl (fun hc=>absurd hc (by decide)) (fun hc=>?_)|refine T.seq ?_|refine T.block ?_|refine T.skip ?_|refine T.exit ?_
   have qj:¬(dW l:Int)<=left:=by
    simp only[ju]at hq;split at hq<;>omega
   refine T.ret (az.data (Or.inr rfl) ?_ ?_)<;>simp[Tryz.results52,ju,qj]
  ·have Ny:ju (fa t) (left-l.length-j7 (l.take p))=left-l.length-j7 (l.take (p+1)):=by
    simp only[ju]at hq⊢;split at hq<;>split<;>omega
   repeat' first|(refine T.rs (fun _=>false) fun K hK=>?_;(repeat (refine ae ?_;simp[hq]));refine ab (hK _ ?_);clear hK K)|(refine T.cw (fun _=>false) fun K hK=>?_;(repeat (refine ae ?_;simp[hq]));refine ab (hK _ ?_);clear hK K)|refine T.cond rfl (fun hc=>?_) (fun hc=>absurd hc (by decide))|refine T.cond rfl (fun hc=>absurd hc (by decide)) (fun hc=>?_)|refine T.seq ?_|refine T.block ?_|refine T.skip ?_|refine T.exit ?_
   refine⟨p+1,by dsimp only;omega,⟨by omega,by rw[<-Ny];omega⟩,?_⟩;have oY:IntKind.i64.wrap ((p:Int)+1)=p+1:=wrap64 (by omega) (by omega);simp[oY,Ny]
 ·have eb:p=l.length:=by omega
  subst eb;repeat' first|(refine T.rs (fun _=>false) fun K hK=>?_;(repeat (refine ae ?_;simp[ax]));refine ab (hK _ ?_);clear hK K)|(refine T.cw (fun _=>false) fun K hK=>?_;(repeat (refine ae ?_;simp[ax]));refine ab (hK _ ?_);clear hK K)|refine T.cond rfl (fun hc=>?_) (fun hc=>absurd hc (by decide))|refine T.cond rfl (fun hc=>absurd hc (by decide)) (fun hc=>?_)|refine T.seq ?_|refine T.block ?_|refine T.skip ?_|refine T.exit ?_
  have fP:(dW l:Int)<=left:=by rw[YJ]at he;omega
  refine T.ret (az.data (Or.inr rfl) ?_ ?_)<;>simp[Tryz.results52,ju,fP];omega
theorem Bg (t:aF) (left:Int) (h:ah YC 106 [.l (t.kids.map b5),.i left] [] (.i (ju (aL t.kids) left)) [] []):ah YC 51 [ec t,.i left] [] (.i (ju (dF t) left)) [] []:=by
 refine ah.ob Tryz.func51 Tryz.ntmps51 rfl ?_;rw[ed];repeat' first|(refine T.rs (fun _=>false) fun K hK=>?_;(repeat (refine ae ?_;simp));refine ab (hK _ ?_);clear hK K)|(refine T.cw (fun _=>false) fun K hK=>?_;(repeat (refine ae ?_;simp));refine ab (hK _ ?_);clear hK K)|refine T.cond rfl (fun hc=>?_) (fun hc=>absurd hc (by decide))|refine T.cond rfl (fun hc=>absurd hc (by decide)) (fun hc=>?_)|refine T.seq ?_|refine T.block ?_|refine T.skip ?_|refine T.exit ?_
 refine T.cw (fun _=>false) fun K hK=>?_
 repeat (refine ae ?_;simp)
 refine aa (by simp) (h) ?_;simp
 repeat (refine ae ?_;simp)
 refine ab (hK _ ?_);clear hK K;by_cases hq:ju (aL t.kids) left<0
 ·have qj:ju (aL t.kids) left=-1:=by simp only[ju]at hq⊢;split at hq<;>split<;>omega
  repeat' first|(refine T.rs (fun _=>false) fun K hK=>?_;(repeat (refine ae ?_;simp[hq]));refine ab (hK _ ?_);clear hK K)|(refine T.cw (fun _=>false) fun K hK=>?_;(repeat (refine ae ?_;simp[hq]));refine ab (hK _ ?_);clear hK K)|refine T.cond rfl (fun hc=>?_) (fun hc=>absurd hc (by decide))|refine T.cond rfl (fun hc=>absurd hc (by decide)) (fun hc=>?_)|refine T.seq ?_|refine T.block ?_|refine T.skip ?_|refine T.exit ?_
  refine T.ret (az.data (Or.inr rfl) ?_ ?_)<;>simp[Tryz.results51,qj]
 ·repeat' first|(refine T.rs (fun _=>false) fun K hK=>?_;(repeat (refine ae ?_;simp[hq]));refine ab (hK _ ?_);clear hK K)|(refine T.cw (fun _=>false) fun K hK=>?_;(repeat (refine ae ?_;simp[hq]));refine ab (hK _ ?_);clear hK K)|refine T.cond rfl (fun hc=>?_) (fun hc=>absurd hc (by decide))|refine T.cond rfl (fun hc=>absurd hc (by decide)) (fun hc=>?_)|refine T.seq ?_|refine T.block ?_|refine T.skip ?_|refine T.exit ?_
  refine T.ret (az.data (Or.inr rfl) ?_ ?_)<;>simp[Tryz.results51]
theorem tl:(t:aF)->GY t->∀left:Int,0<=left->left<=1048576->ah YC 51 [ec t,.i left] [] (.i (ju (dF t) left)) [] []
 |.mk k l,hw,left,h0,h1=>by
  rw[pL]at hw;exact Bg _ _ (zF l hw.1 (fun t ht left h0 h1=>tl t (A3 hw.2 ht) left h0 h1) left h0 h1)
termination_by t=>SizeOf.sizeOf t
decreasing_by have:=YH ht;simp;omega
theorem Bh (e:ak) (hw:GZ e) (left:Int) (h0:0<=left) (h1:left<=1048576) (h:∀left:Int,0<=left->left<=1048576->ah YC 52 [.l (e.kids.map eK),.i left] [] (.i (ju (dW e.kids) left)) [] []):ah YC 15 [cE e,.i left] [] (.i (ju (fa e) left)) [] []:=by
 refine ah.ob Tryz.func15 Tryz.ntmps15 rfl ?_;rw[vq]at hw;obtain⟨hs,ht,hf,_,_⟩:=hw;rw[fS];have vn:IntKind.i64.wrap (left-(e.name.length:Int))=left-e.name.length:=wrap64 (by omega) (by omega);by_cases q1:left-(e.name.length:Int)<0
 ·have qj:¬((e.name.length+dF e.ty+dF e.fr+dW e.kids:Nat):Int)<=left:=by omega
  have q1':left<(e.name.length:Int):=by omega
  repeat' first|(refine T.rs (fun _=>false) fun K hK=>?_;(repeat (refine ae ?_;simp[vn,q1,q1']));refine ab (hK _ ?_);clear hK K)|(refine T.cw (fun _=>false) fun K hK=>?_;(repeat (refine ae ?_;simp[vn,q1,q1']));refine ab (hK _ ?_);clear hK K)|refine T.cond rfl (fun hc=>?_) (fun hc=>absurd hc (by decide))|refine T.cond rfl (fun hc=>absurd hc (by decide)) (fun hc=>?_)|refine T.seq ?_|refine T.block ?_|refine T.skip ?_|refine T.exit ?_
  refine T.ret (az.data (Or.inr rfl) ?_ ?_)<;>simp[Tryz.results15,ju]<;>(try(intro hh;omega))
 have q1':¬left<(e.name.length:Int):=by omega
 repeat' first|(refine T.rs (fun _=>false) fun K hK=>?_;(repeat (refine ae ?_;simp[vn,q1,q1']));refine ab (hK _ ?_);clear hK K)|(refine T.cw (fun _=>false) fun K hK=>?_;(repeat (refine ae ?_;simp[vn,q1,q1']));refine ab (hK _ ?_);clear hK K)|refine T.cond rfl (fun hc=>?_) (fun hc=>absurd hc (by decide))|refine T.cond rfl (fun hc=>absurd hc (by decide)) (fun hc=>?_)|refine T.seq ?_|refine T.block ?_|refine T.skip ?_|refine T.exit ?_
 refine T.cw (fun _=>false) fun K hK=>?_
 repeat (refine ae ?_;simp)
 refine aa (by simp) (tl e.ty ht (left-e.name.length) (by omega) (by omega)) ?_;simp
 repeat (refine ae ?_;simp)
 refine ab (hK _ ?_);clear hK K;by_cases q2:ju (dF e.ty) (left-e.name.length)<0
 ·have qj:¬((e.name.length+dF e.ty+dF e.fr+dW e.kids:Nat):Int)<=left:=by
   simp only[ju]at q2;split at q2<;>omega
  repeat' first|(refine T.rs (fun _=>false) fun K hK=>?_;(repeat (refine ae ?_;simp[q2]));refine ab (hK _ ?_);clear hK K)|(refine T.cw (fun _=>false) fun K hK=>?_;(repeat (refine ae ?_;simp[q2]));refine ab (hK _ ?_);clear hK K)|refine T.cond rfl (fun hc=>?_) (fun hc=>absurd hc (by decide))|refine T.cond rfl (fun hc=>absurd hc (by decide)) (fun hc=>?_)|refine T.seq ?_|refine T.block ?_|refine T.skip ?_|refine T.exit ?_
  refine T.ret (az.data (Or.inr rfl) ?_ ?_)<;>simp[Tryz.results15,ju]<;>(try(intro hh;omega))
 have e2:ju (dF e.ty) (left-e.name.length)=left-e.name.length-dF e.ty/\0<=left-(e.name.length:Int)-dF e.ty:=by
  simp only[ju]at q2⊢;split at q2<;>(try(rename_i hh;rw[if_pos hh]))<;>omega
 repeat' first|(refine T.rs (fun _=>false) fun K hK=>?_;(repeat (refine ae ?_;simp[q2]));refine ab (hK _ ?_);clear hK K)|(refine T.cw (fun _=>false) fun K hK=>?_;(repeat (refine ae ?_;simp[q2]));refine ab (hK _ ?_);clear hK K)|refine T.cond rfl (fun hc=>?_) (fun hc=>absurd hc (by decide))|refine T.cond rfl (fun hc=>absurd hc (by decide)) (fun hc=>?_)|refine T.seq ?_|refine T.block ?_|refine T.skip ?_|refine T.exit ?_
 rw[e2.1];refine T.cw (fun _=>false) fun K hK=>?_
 repeat (refine ae ?_;simp)
 refine aa (by simp) (tl e.fr hf (left-e.name.length-dF e.ty) (by omega) (by omega)) ?_;simp
 repeat (refine ae ?_;simp)
 refine ab (hK _ ?_);clear hK K;by_cases q3:ju (dF e.fr) (left-e.name.length-dF e.ty)<0
 ·have qj:¬((e.name.length+dF e.ty+dF e.fr+dW e.kids:Nat):Int)<=left:=by
   simp only[ju]at q3;split at q3<;>omega
  repeat' first|(refine T.rs (fun _=>false) fun K hK=>?_;(repeat (refine ae ?_;simp[q3]));refine ab (hK _ ?_);clear hK K)|(refine T.cw (fun _=>false) fun K hK=>?_;(repeat (refine ae ?_;simp[q3]));refine ab (hK _ ?_);clear hK K)|refine T.cond rfl (fun hc=>?_) (fun hc=>absurd hc (by decide))|refine T.cond rfl (fun hc=>absurd hc (by decide)) (fun hc=>?_)|refine T.seq ?_|refine T.block ?_|refine T.skip ?_|refine T.exit ?_
  refine T.ret (az.data (Or.inr rfl) ?_ ?_)<;>simp[Tryz.results15,ju]<;>(try(intro hh;omega))
 have e3:ju (dF e.fr) (left-e.name.length-dF e.ty)=left-e.name.length-dF e.ty-dF e.fr/\0<=left-(e.name.length:Int)-dF e.ty-dF e.fr:=by
  simp only[ju]at q3⊢;split at q3<;>(try(rename_i hh;rw[if_pos hh]))<;>omega
 repeat' first|(refine T.rs (fun _=>false) fun K hK=>?_;(repeat (refine ae ?_;simp[q3]));refine ab (hK _ ?_);clear hK K)|(refine T.cw (fun _=>false) fun K hK=>?_;(repeat (refine ae ?_;simp[q3]));refine ab (hK _ ?_);clear hK K)|refine T.cond rfl (fun hc=>?_) (fun hc=>absurd hc (by decide))|refine T.cond rfl (fun hc=>absurd hc (by decide)) (fun hc=>?_)|refine T.seq ?_|refine T.block ?_|refine T.skip ?_|refine T.exit ?_
 rw[e3.1];refine T.cw (fun _=>false) fun K hK=>?_
 repeat (refine ae ?_;simp)
 refine aa (by simp) (h (left-e.name.length-dF e.ty-dF e.fr) (by omega) (by omega)) ?_;simp
 repeat (refine ae ?_;simp)
 refine ab (hK _ ?_);clear hK K;by_cases q4:ju (dW e.kids) (left-e.name.length-dF e.ty-dF e.fr)<0
 ·have qj:¬((e.name.length+dF e.ty+dF e.fr+dW e.kids:Nat):Int)<=left:=by
   simp only[ju]at q4;split at q4<;>omega
  repeat' first|(refine T.rs (fun _=>false) fun K hK=>?_;(repeat (refine ae ?_;simp[q4]));refine ab (hK _ ?_);clear hK K)|(refine T.cw (fun _=>false) fun K hK=>?_;(repeat (refine ae ?_;simp[q4]));refine ab (hK _ ?_);clear hK K)|refine T.cond rfl (fun hc=>?_) (fun hc=>absurd hc (by decide))|refine T.cond rfl (fun hc=>absurd hc (by decide)) (fun hc=>?_)|refine T.seq ?_|refine T.block ?_|refine T.skip ?_|refine T.exit ?_
  refine T.ret (az.data (Or.inr rfl) ?_ ?_)<;>simp[Tryz.results15,ju]<;>(try(intro hh;omega))
 have e4:ju (dW e.kids) (left-e.name.length-dF e.ty-dF e.fr)=ju (e.name.length+dF e.ty+dF e.fr+dW e.kids) left:=by
  simp only[ju]at q4⊢;split at q4<;>split<;>omega
 repeat' first|(refine T.rs (fun _=>false) fun K hK=>?_;(repeat (refine ae ?_;simp[q4]));refine ab (hK _ ?_);clear hK K)|(refine T.cw (fun _=>false) fun K hK=>?_;(repeat (refine ae ?_;simp[q4]));refine ab (hK _ ?_);clear hK K)|refine T.cond rfl (fun hc=>?_) (fun hc=>absurd hc (by decide))|refine T.cond rfl (fun hc=>absurd hc (by decide)) (fun hc=>?_)|refine T.seq ?_|refine T.block ?_|refine T.skip ?_|refine T.exit ?_
 refine T.ret (az.data (Or.inr rfl) ?_ ?_)<;>simp[Tryz.results15,e4]
theorem tm:(e:ak)->GZ e->∀left:Int,0<=left->left<=1048576->ah YC 15 [cE e,.i left] [] (.i (ju (fa e) left)) [] []
 |.mk k s n t f b l,hw,left,h0,h1=>by
  have Uo:=hw;rw[vq]at hw;exact Bh _ Uo _ h0 h1 (fun left h0 h1=>zG l hw.2.2.2.1 (fun t ht left h0 h1=>tm t (A4 hw.2.2.2.2 ht) left h0 h1) left h0 h1)
termination_by e=>SizeOf.sizeOf e
decreasing_by have:=YH ht;simp;omega
theorem zH (l:List aF) (hl:l.length<=1048576) (h:∀t∈l,ah YC 53 [ec t] [] (ec t) [] []):ah YC 107 [.l (l.map b5)] [] (.l (l.map b5)) [] []:=by
 refine ah.ob Tryz.func107 Tryz.ntmps107 rfl ?_;repeat' first|(refine T.rs (fun _=>false) fun K hK=>?_;(repeat (refine ae ?_;simp));refine ab (hK _ ?_);clear hK K)|(refine T.cw (fun _=>false) fun K hK=>?_;(repeat (refine ae ?_;simp));refine ab (hK _ ?_);clear hK K)|refine T.cond rfl (fun hc=>?_) (fun hc=>absurd hc (by decide))|refine T.cond rfl (fun hc=>absurd hc (by decide)) (fun hc=>?_)|refine T.seq ?_|refine T.block ?_|refine T.skip ?_|refine T.exit ?_
 refine T.cw (fun _=>false) fun K hK=>?_
 repeat (refine ae ?_;simp)
 refine⟨by omega,by omega,?_⟩
 repeat (refine ae ?_;simp)
 refine ab (hK _ ?_);clear hK K;repeat' first|(refine T.rs (fun _=>false) fun K hK=>?_;(repeat (refine ae ?_;simp));refine ab (hK _ ?_);clear hK K)|(refine T.cw (fun _=>false) fun K hK=>?_;(repeat (refine ae ?_;simp));refine ab (hK _ ?_);clear hK K)|refine T.cond rfl (fun hc=>?_) (fun hc=>absurd hc (by decide))|refine T.cond rfl (fun hc=>absurd hc (by decide)) (fun hc=>?_)|refine T.seq ?_|refine T.block ?_|refine T.skip ?_|refine T.exit ?_
 refine T.fJ (fun p:Nat=>⟨[(0,.l (l.map b5)),(3,.c (.own 0 l.length)),(4,.i p)],[],[{sz:=2,dE:=25,rows:=jb b5 [.i 0,.sl []] l p,wr:=true}]⟩) (fun p=>l.length+1-p) (fun p=>p<=l.length) (fun p hp=>?_) 0 (by simp) (by simp[wc]);by_cases ax:p<l.length
 ·obtain⟨t,ht⟩:=bz ax;have eJ:t∈l:=YD ht;have bg:l[p]=t:=by rw[YE ax]at ht;exact Option.some.inj ht
  repeat' first|(refine T.rs (fun _=>false) fun K hK=>?_;(repeat (refine ae ?_;simp[ax]));refine ab (hK _ ?_);clear hK K)|(refine T.cw (fun _=>false) fun K hK=>?_;(repeat (refine ae ?_;simp[ax]));refine ab (hK _ ?_);clear hK K)|refine T.cond rfl (fun hc=>?_) (fun hc=>absurd hc (by decide))|refine T.cond rfl (fun hc=>absurd hc (by decide)) (fun hc=>?_)|refine T.seq ?_|refine T.block ?_|refine T.skip ?_|refine T.exit ?_
  refine T.cw (fun _=>false) fun K hK=>?_
  repeat (refine ae ?_;simp[ax,bg])
  refine aa (by simp) (h t eJ) ?_;simp
  repeat (refine ae ?_;simp[yz (YL ax),ax,AT ax])
  refine ab (hK _ ?_);clear hK K;repeat' first|(refine T.rs (fun _=>false) fun K hK=>?_;(repeat (refine ae ?_;simp));refine ab (hK _ ?_);clear hK K)|(refine T.cw (fun _=>false) fun K hK=>?_;(repeat (refine ae ?_;simp));refine ab (hK _ ?_);clear hK K)|refine T.cond rfl (fun hc=>?_) (fun hc=>absurd hc (by decide))|refine T.cond rfl (fun hc=>absurd hc (by decide)) (fun hc=>?_)|refine T.seq ?_|refine T.block ?_|refine T.skip ?_|refine T.exit ?_
  refine⟨p+1,by dsimp only;omega,by omega,?_⟩;have oY:IntKind.i64.wrap ((p:Int)+1)=p+1:=wrap64 (by omega) (by omega);have Kg:=wg (f:=b5) (z:=[.i 0,.sl []]) ht;rw[aN]at Kg;simp[oY,<-Kg]
 ·have eb:p=l.length:=by omega
  subst eb;repeat' first|(refine T.rs (fun _=>false) fun K hK=>?_;(repeat (refine ae ?_;simp[ax]));refine ab (hK _ ?_);clear hK K)|(refine T.cw (fun _=>false) fun K hK=>?_;(repeat (refine ae ?_;simp[ax]));refine ab (hK _ ?_);clear hK K)|refine T.cond rfl (fun hc=>?_) (fun hc=>absurd hc (by decide))|refine T.cond rfl (fun hc=>absurd hc (by decide)) (fun hc=>?_)|refine T.seq ?_|refine T.block ?_|refine T.skip ?_|refine T.exit ?_
  refine T.ret (az.pure (Or.inr rfl) (x:=.c (.own 0 l.length)) ?_ ?_)<;>simp[Tryz.results107,we]
theorem zI (l:List ak) (hl:l.length<=1048576) (h:∀t∈l,ah YC 17 [cE t] [] (cE t) [] []):ah YC 54 [.l (l.map eK)] [] (.l (l.map eK)) [] []:=by
 refine ah.ob Tryz.func54 Tryz.ntmps54 rfl ?_;repeat' first|(refine T.rs (fun _=>false) fun K hK=>?_;(repeat (refine ae ?_;simp));refine ab (hK _ ?_);clear hK K)|(refine T.cw (fun _=>false) fun K hK=>?_;(repeat (refine ae ?_;simp));refine ab (hK _ ?_);clear hK K)|refine T.cond rfl (fun hc=>?_) (fun hc=>absurd hc (by decide))|refine T.cond rfl (fun hc=>absurd hc (by decide)) (fun hc=>?_)|refine T.seq ?_|refine T.block ?_|refine T.skip ?_|refine T.exit ?_
 refine T.cw (fun _=>false) fun K hK=>?_
 repeat (refine ae ?_;simp)
 refine⟨by omega,by omega,?_⟩
 repeat (refine ae ?_;simp)
 refine ab (hK _ ?_);clear hK K;repeat' first|(refine T.rs (fun _=>false) fun K hK=>?_;(repeat (refine ae ?_;simp));refine ab (hK _ ?_);clear hK K)|(refine T.cw (fun _=>false) fun K hK=>?_;(repeat (refine ae ?_;simp));refine ab (hK _ ?_);clear hK K)|refine T.cond rfl (fun hc=>?_) (fun hc=>absurd hc (by decide))|refine T.cond rfl (fun hc=>absurd hc (by decide)) (fun hc=>?_)|refine T.seq ?_|refine T.block ?_|refine T.skip ?_|refine T.exit ?_
 refine T.fJ (fun p:Nat=>⟨[(0,.l (l.map eK)),(3,.c (.own 0 l.length)),(4,.i p)],[],[{sz:=9,dE:=28,rows:=jb eK [.i 0,.str [],.i 0,.i 0,.sl [],.i 0,.sl [],.i 0,.sl []] l p,wr:=true}]⟩) (fun p=>l.length+1-p) (fun p=>p<=l.length) (fun p hp=>?_) 0 (by simp) (by simp[wc]);by_cases ax:p<l.length
 ·obtain⟨t,ht⟩:=bz ax;have eJ:t∈l:=YD ht;have bg:l[p]=t:=by rw[YE ax]at ht;exact Option.some.inj ht
  repeat' first|(refine T.rs (fun _=>false) fun K hK=>?_;(repeat (refine ae ?_;simp[ax]));refine ab (hK _ ?_);clear hK K)|(refine T.cw (fun _=>false) fun K hK=>?_;(repeat (refine ae ?_;simp[ax]));refine ab (hK _ ?_);clear hK K)|refine T.cond rfl (fun hc=>?_) (fun hc=>absurd hc (by decide))|refine T.cond rfl (fun hc=>absurd hc (by decide)) (fun hc=>?_)|refine T.seq ?_|refine T.block ?_|refine T.skip ?_|refine T.exit ?_
  refine T.cw (fun _=>false) fun K hK=>?_
  repeat (refine ae ?_;simp[ax,bg])
  refine aa (by simp) (h t eJ) ?_;simp
  repeat (refine ae ?_;simp[yz (YL ax),ax,AT ax])
  refine ab (hK _ ?_);clear hK K;repeat' first|(refine T.rs (fun _=>false) fun K hK=>?_;(repeat (refine ae ?_;simp));refine ab (hK _ ?_);clear hK K)|(refine T.cw (fun _=>false) fun K hK=>?_;(repeat (refine ae ?_;simp));refine ab (hK _ ?_);clear hK K)|refine T.cond rfl (fun hc=>?_) (fun hc=>absurd hc (by decide))|refine T.cond rfl (fun hc=>absurd hc (by decide)) (fun hc=>?_)|refine T.seq ?_|refine T.block ?_|refine T.skip ?_|refine T.exit ?_
  refine⟨p+1,by dsimp only;omega,by omega,?_⟩;have oY:IntKind.i64.wrap ((p:Int)+1)=p+1:=wrap64 (by omega) (by omega);have Kg:=wg (f:=eK) (z:=[.i 0,.str [],.i 0,.i 0,.sl [],.i 0,.sl [],.i 0,.sl []]) ht;rw[au]at Kg;simp[oY,<-Kg]
 ·have eb:p=l.length:=by omega
  subst eb;repeat' first|(refine T.rs (fun _=>false) fun K hK=>?_;(repeat (refine ae ?_;simp[ax]));refine ab (hK _ ?_);clear hK K)|(refine T.cw (fun _=>false) fun K hK=>?_;(repeat (refine ae ?_;simp[ax]));refine ab (hK _ ?_);clear hK K)|refine T.cond rfl (fun hc=>?_) (fun hc=>absurd hc (by decide))|refine T.cond rfl (fun hc=>absurd hc (by decide)) (fun hc=>?_)|refine T.seq ?_|refine T.block ?_|refine T.skip ?_|refine T.exit ?_
  refine T.ret (az.pure (Or.inr rfl) (x:=.c (.own 0 l.length)) ?_ ?_)<;>simp[Tryz.results54,we]
theorem Bi (t:aF) (h:ah YC 107 [.l (t.kids.map b5)] [] (.l (t.kids.map b5)) [] []):ah YC 53 [ec t] [] (ec t) [] []:=by
 refine ah.ob Tryz.func53 Tryz.ntmps53 rfl ?_;repeat' first|(refine T.rs (fun _=>false) fun K hK=>?_;(repeat (refine ae ?_;simp));refine ab (hK _ ?_);clear hK K)|(refine T.cw (fun _=>false) fun K hK=>?_;(repeat (refine ae ?_;simp));refine ab (hK _ ?_);clear hK K)|refine T.cond rfl (fun hc=>?_) (fun hc=>absurd hc (by decide))|refine T.cond rfl (fun hc=>absurd hc (by decide)) (fun hc=>?_)|refine T.seq ?_|refine T.block ?_|refine T.skip ?_|refine T.exit ?_
 refine T.cw (fun _=>false) fun K hK=>?_
 repeat (refine ae ?_;simp)
 refine aa (by simp) (h) ?_;simp
 repeat (refine ae ?_;simp)
 refine ab (hK _ ?_);clear hK K;repeat' first|(refine T.rs (fun _=>false) fun K hK=>?_;(repeat (refine ae ?_;simp));refine ab (hK _ ?_);clear hK K)|(refine T.cw (fun _=>false) fun K hK=>?_;(repeat (refine ae ?_;simp));refine ab (hK _ ?_);clear hK K)|refine T.cond rfl (fun hc=>?_) (fun hc=>absurd hc (by decide))|refine T.cond rfl (fun hc=>absurd hc (by decide)) (fun hc=>?_)|refine T.seq ?_|refine T.block ?_|refine T.skip ?_|refine T.exit ?_
 refine T.ret (az.data (Or.inr rfl) ?_ ?_)<;>simp[Tryz.results53]
theorem tn:(t:aF)->dF t<=1048576->ah YC 53 [ec t] [] (ec t) [] []
 |.mk k l,hn=>by
  rw[ed]at hn;have hl:=eY l;exact Bi _ (zH l (by simp at hn;omega) (fun t ht=>tn t (by have:=fi ht;simp at hn;omega)))
termination_by t=>SizeOf.sizeOf t
decreasing_by have:=YH ht;simp;omega
theorem Bj (e:ak) (ht:dF e.ty<=1048576) (hf:dF e.fr<=1048576) (h:ah YC 54 [.l (e.kids.map eK)] [] (.l (e.kids.map eK)) [] []):ah YC 17 [cE e] [] (cE e) [] []:=by
 refine ah.ob Tryz.func17 Tryz.ntmps17 rfl ?_;repeat' first|(refine T.rs (fun _=>false) fun K hK=>?_;(repeat (refine ae ?_;simp));refine ab (hK _ ?_);clear hK K)|(refine T.cw (fun _=>false) fun K hK=>?_;(repeat (refine ae ?_;simp));refine ab (hK _ ?_);clear hK K)|refine T.cond rfl (fun hc=>?_) (fun hc=>absurd hc (by decide))|refine T.cond rfl (fun hc=>absurd hc (by decide)) (fun hc=>?_)|refine T.seq ?_|refine T.block ?_|refine T.skip ?_|refine T.exit ?_
 refine T.cw (fun _=>false) fun K hK=>?_
 repeat (refine ae ?_;simp)
 refine aa (by simp) (tn e.ty ht) ?_;simp
 repeat (refine ae ?_;simp)
 refine ab (hK _ ?_);clear hK K;repeat' first|(refine T.rs (fun _=>false) fun K hK=>?_;(repeat (refine ae ?_;simp));refine ab (hK _ ?_);clear hK K)|(refine T.cw (fun _=>false) fun K hK=>?_;(repeat (refine ae ?_;simp));refine ab (hK _ ?_);clear hK K)|refine T.cond rfl (fun hc=>?_) (fun hc=>absurd hc (by decide))|refine T.cond rfl (fun hc=>absurd hc (by decide)) (fun hc=>?_)|refine T.seq ?_|refine T.block ?_|refine T.skip ?_|refine T.exit ?_
 refine T.cw (fun _=>false) fun K hK=>?_
 repeat (refine ae ?_;simp)
 refine aa (by simp) (tn e.fr hf) ?_;simp
 repeat (refine ae ?_;simp)
 refine ab (hK _ ?_);clear hK K;repeat' first|(refine T.rs (fun _=>false) fun K hK=>?_;(repeat (refine ae ?_;simp));refine ab (hK _ ?_);clear hK K)|(refine T.cw (fun _=>false) fun K hK=>?_;(repeat (refine ae ?_;simp));refine ab (hK _ ?_);clear hK K)|refine T.cond rfl (fun hc=>?_) (fun hc=>absurd hc (by decide))|refine T.cond rfl (fun hc=>absurd hc (by decide)) (fun hc=>?_)|refine T.seq ?_|refine T.block ?_|refine T.skip ?_|refine T.exit ?_
 refine T.cw (fun _=>false) fun K hK=>?_
 repeat (refine ae ?_;simp)
 refine aa (by simp) (h) ?_;simp
 repeat (refine ae ?_;simp)
 refine ab (hK _ ?_);clear hK K;repeat' first|(refine T.rs (fun _=>false) fun K hK=>?_;(repeat (refine ae ?_;simp));refine ab (hK _ ?_);clear hK K)|(refine T.cw (fun _=>false) fun K hK=>?_;(repeat (refine ae ?_;simp));refine ab (hK _ ?_);clear hK K)|refine T.cond rfl (fun hc=>?_) (fun hc=>absurd hc (by decide))|refine T.cond rfl (fun hc=>absurd hc (by decide)) (fun hc=>?_)|refine T.seq ?_|refine T.block ?_|refine T.skip ?_|refine T.exit ?_
 refine T.ret (az.data (Or.inr rfl) ?_ ?_)<;>simp[Tryz.results17]
theorem tq:(e:ak)->fa e<=1048576->ah YC 17 [cE e] [] (cE e) [] []
 |.mk k s n t f b l,hn=>by
  rw[fS]at hn;have hl:=jK l;simp only[ak.gu,ak.jI,ak.jJ,ak.bD]at hn;exact Bj _ (by simp;omega) (by simp;omega) (zI l (by omega) (fun t ht=>tq t (by have:=mq ht;omega)))
termination_by e=>SizeOf.sizeOf e
decreasing_by have:=YH ht;simp;omega
theorem zJ (l:List aF) (hl:l.length<=1048576) (h:∀t∈l,ah YC 30 [ec t,ec t] [] (.b true) [] []):ah YC 74 [.l (l.map b5),.l (l.map b5)] [] (.b true) [] []:=by
 refine ah.ob Tryz.func74 Tryz.ntmps74 rfl ?_;repeat' first|(refine T.rs (fun _=>false) fun K hK=>?_;(repeat (refine ae ?_;simp));refine ab (hK _ ?_);clear hK K)|(refine T.cw (fun _=>false) fun K hK=>?_;(repeat (refine ae ?_;simp));refine ab (hK _ ?_);clear hK K)|refine T.cond rfl (fun hc=>?_) (fun hc=>absurd hc (by decide))|refine T.cond rfl (fun hc=>absurd hc (by decide)) (fun hc=>?_)|refine T.seq ?_|refine T.block ?_|refine T.skip ?_|refine T.exit ?_
 refine T.fJ (fun p:Nat=>⟨[(0,.l (l.map b5)),(1,.l (l.map b5)),(5,.i p)],[],[]⟩) (fun p=>l.length+1-p) (fun p=>p<=l.length) (fun p hp=>?_) 0 (by simp) (by simp);by_cases ax:p<l.length
 ·obtain⟨t,ht⟩:=bz ax;have eJ:t∈l:=YD ht;have bg:l[p]=t:=by rw[YE ax]at ht;exact Option.some.inj ht
  repeat' first|(refine T.rs (fun _=>false) fun K hK=>?_;(repeat (refine ae ?_;simp[ax]));refine ab (hK _ ?_);clear hK K)|(refine T.cw (fun _=>false) fun K hK=>?_;(repeat (refine ae ?_;simp[ax]));refine ab (hK _ ?_);clear hK K)|refine T.cond rfl (fun hc=>?_) (fun hc=>absurd hc (by decide))|refine T.cond rfl (fun hc=>absurd hc (by decide)) (fun hc=>?_)|refine T.seq ?_|refine T.block ?_|refine T.skip ?_|refine T.exit ?_
  refine T.AS mixed (fun _=>false) [] (by kernel_rfl) fun K hK=>?_
  repeat (refine aG ?_;simp[ax,bg])
  refine aa (by simp) (h t eJ) ?_;simp
  repeat (refine aG ?_;simp)
  refine aB (hK _ ?_);clear hK K;repeat' first|(refine T.rs (fun _=>false) fun K hK=>?_;(repeat (refine ae ?_;simp));refine ab (hK _ ?_);clear hK K)|(refine T.cw (fun _=>false) fun K hK=>?_;(repeat (refine ae ?_;simp));refine ab (hK _ ?_);clear hK K)|refine T.cond rfl (fun hc=>?_) (fun hc=>absurd hc (by decide))|refine T.cond rfl (fun hc=>absurd hc (by decide)) (fun hc=>?_)|refine T.seq ?_|refine T.block ?_|refine T.skip ?_|refine T.exit ?_
  refine⟨p+1,by dsimp only;omega,by omega,?_⟩;have oY:IntKind.i64.wrap ((p:Int)+1)=p+1:=wrap64 (by omega) (by omega);simp[oY]
 ·have eb:p=l.length:=by omega
  subst eb;repeat' first|(refine T.rs (fun _=>false) fun K hK=>?_;(repeat (refine ae ?_;simp[ax]));refine ab (hK _ ?_);clear hK K)|(refine T.cw (fun _=>false) fun K hK=>?_;(repeat (refine ae ?_;simp[ax]));refine ab (hK _ ?_);clear hK K)|refine T.cond rfl (fun hc=>?_) (fun hc=>absurd hc (by decide))|refine T.cond rfl (fun hc=>absurd hc (by decide)) (fun hc=>?_)|refine T.seq ?_|refine T.block ?_|refine T.skip ?_|refine T.exit ?_
  refine T.ret (az.data (Or.inr rfl) ?_ ?_)<;>simp[Tryz.results74]
theorem zK (l:List ak) (hl:l.length<=1048576) (h:∀t∈l,ah YC 19 [cE t,cE t] [] (.b true) [] []):ah YC 55 [.l (l.map eK),.l (l.map eK)] [] (.b true) [] []:=by
 refine ah.ob Tryz.func55 Tryz.ntmps55 rfl ?_;repeat' first|(refine T.rs (fun _=>false) fun K hK=>?_;(repeat (refine ae ?_;simp));refine ab (hK _ ?_);clear hK K)|(refine T.cw (fun _=>false) fun K hK=>?_;(repeat (refine ae ?_;simp));refine ab (hK _ ?_);clear hK K)|refine T.cond rfl (fun hc=>?_) (fun hc=>absurd hc (by decide))|refine T.cond rfl (fun hc=>absurd hc (by decide)) (fun hc=>?_)|refine T.seq ?_|refine T.block ?_|refine T.skip ?_|refine T.exit ?_
 refine T.fJ (fun p:Nat=>⟨[(0,.l (l.map eK)),(1,.l (l.map eK)),(5,.i p)],[],[]⟩) (fun p=>l.length+1-p) (fun p=>p<=l.length) (fun p hp=>?_) 0 (by simp) (by simp);by_cases ax:p<l.length
 ·obtain⟨t,ht⟩:=bz ax;have eJ:t∈l:=YD ht;have bg:l[p]=t:=by rw[YE ax]at ht;exact Option.some.inj ht
  repeat' first|(refine T.rs (fun _=>false) fun K hK=>?_;(repeat (refine ae ?_;simp[ax]));refine ab (hK _ ?_);clear hK K)|(refine T.cw (fun _=>false) fun K hK=>?_;(repeat (refine ae ?_;simp[ax]));refine ab (hK _ ?_);clear hK K)|refine T.cond rfl (fun hc=>?_) (fun hc=>absurd hc (by decide))|refine T.cond rfl (fun hc=>absurd hc (by decide)) (fun hc=>?_)|refine T.seq ?_|refine T.block ?_|refine T.skip ?_|refine T.exit ?_
  refine T.AS mixed (fun _=>false) [] (by kernel_rfl) fun K hK=>?_
  repeat (refine aG ?_;simp[ax,bg])
  refine aa (by simp) (h t eJ) ?_;simp
  repeat (refine aG ?_;simp)
  refine aB (hK _ ?_);clear hK K;repeat' first|(refine T.rs (fun _=>false) fun K hK=>?_;(repeat (refine ae ?_;simp));refine ab (hK _ ?_);clear hK K)|(refine T.cw (fun _=>false) fun K hK=>?_;(repeat (refine ae ?_;simp));refine ab (hK _ ?_);clear hK K)|refine T.cond rfl (fun hc=>?_) (fun hc=>absurd hc (by decide))|refine T.cond rfl (fun hc=>absurd hc (by decide)) (fun hc=>?_)|refine T.seq ?_|refine T.block ?_|refine T.skip ?_|refine T.exit ?_
  refine⟨p+1,by dsimp only;omega,by omega,?_⟩;have oY:IntKind.i64.wrap ((p:Int)+1)=p+1:=wrap64 (by omega) (by omega);simp[oY]
 ·have eb:p=l.length:=by omega
  subst eb;repeat' first|(refine T.rs (fun _=>false) fun K hK=>?_;(repeat (refine ae ?_;simp[ax]));refine ab (hK _ ?_);clear hK K)|(refine T.cw (fun _=>false) fun K hK=>?_;(repeat (refine ae ?_;simp[ax]));refine ab (hK _ ?_);clear hK K)|refine T.cond rfl (fun hc=>?_) (fun hc=>absurd hc (by decide))|refine T.cond rfl (fun hc=>absurd hc (by decide)) (fun hc=>?_)|refine T.seq ?_|refine T.block ?_|refine T.skip ?_|refine T.exit ?_
  refine T.ret (az.data (Or.inr rfl) ?_ ?_)<;>simp[Tryz.results55]
theorem Bk (t:aF) (h:ah YC 74 [.l (t.kids.map b5),.l (t.kids.map b5)] [] (.b true) [] []):ah YC 30 [ec t,ec t] [] (.b true) [] []:=by
 refine ah.ob Tryz.func30 Tryz.ntmps30 rfl ?_;repeat' first|(refine T.rs (fun _=>false) fun K hK=>?_;(repeat (refine ae ?_;simp));refine ab (hK _ ?_);clear hK K)|(refine T.cw (fun _=>false) fun K hK=>?_;(repeat (refine ae ?_;simp));refine ab (hK _ ?_);clear hK K)|refine T.cond rfl (fun hc=>?_) (fun hc=>absurd hc (by decide))|refine T.cond rfl (fun hc=>absurd hc (by decide)) (fun hc=>?_)|refine T.seq ?_|refine T.block ?_|refine T.skip ?_|refine T.exit ?_
 refine T.cw (fun _=>false) fun K hK=>?_
 repeat (refine ae ?_;simp)
 refine aa (by simp) (h) ?_;simp
 repeat (refine ae ?_;simp)
 refine ab (hK _ ?_);clear hK K;repeat' first|(refine T.rs (fun _=>false) fun K hK=>?_;(repeat (refine ae ?_;simp));refine ab (hK _ ?_);clear hK K)|(refine T.cw (fun _=>false) fun K hK=>?_;(repeat (refine ae ?_;simp));refine ab (hK _ ?_);clear hK K)|refine T.cond rfl (fun hc=>?_) (fun hc=>absurd hc (by decide))|refine T.cond rfl (fun hc=>absurd hc (by decide)) (fun hc=>?_)|refine T.seq ?_|refine T.block ?_|refine T.skip ?_|refine T.exit ?_
 refine T.ret (az.data (Or.inr rfl) ?_ ?_)<;>simp[Tryz.results30]
theorem pO:(t:aF)->dF t<=1048576->ah YC 30 [ec t,ec t] [] (.b true) [] []
 |.mk k l,hn=>by
  rw[ed]at hn;have hl:=eY l;exact Bk _ (zJ l (by simp at hn;omega) (fun t ht=>pO t (by have:=fi ht;simp at hn;omega)))
termination_by t=>SizeOf.sizeOf t
decreasing_by have:=YH ht;simp;omega
theorem Bl (e:ak) (ht:dF e.ty<=1048576) (hf:dF e.fr<=1048576) (h:ah YC 55 [.l (e.kids.map eK),.l (e.kids.map eK)] [] (.b true) [] []):ah YC 19 [cE e,cE e] [] (.b true) [] []:=by
 refine ah.ob Tryz.func19 Tryz.ntmps19 rfl ?_;repeat' first|(refine T.rs (fun _=>false) fun K hK=>?_;(repeat (refine ae ?_;simp));refine ab (hK _ ?_);clear hK K)|(refine T.cw (fun _=>false) fun K hK=>?_;(repeat (refine ae ?_;simp));refine ab (hK _ ?_);clear hK K)|refine T.cond rfl (fun hc=>?_) (fun hc=>absurd hc (by decide))|refine T.cond rfl (fun hc=>absurd hc (by decide)) (fun hc=>?_)|refine T.seq ?_|refine T.block ?_|refine T.skip ?_|refine T.exit ?_
 refine T.cw (fun _=>false) fun K hK=>?_
 repeat (refine ae ?_;simp)
 refine aa (by simp) (pO e.ty ht) ?_;simp
 repeat (refine ae ?_;simp)
 refine ab (hK _ ?_);clear hK K;repeat' first|(refine T.rs (fun _=>false) fun K hK=>?_;(repeat (refine ae ?_;simp));refine ab (hK _ ?_);clear hK K)|(refine T.cw (fun _=>false) fun K hK=>?_;(repeat (refine ae ?_;simp));refine ab (hK _ ?_);clear hK K)|refine T.cond rfl (fun hc=>?_) (fun hc=>absurd hc (by decide))|refine T.cond rfl (fun hc=>absurd hc (by decide)) (fun hc=>?_)|refine T.seq ?_|refine T.block ?_|refine T.skip ?_|refine T.exit ?_
 refine T.cw (fun _=>false) fun K hK=>?_
 repeat (refine ae ?_;simp)
 refine aa (by simp) (pO e.fr hf) ?_;simp
 repeat (refine ae ?_;simp)
 refine ab (hK _ ?_);clear hK K;repeat' first|(refine T.rs (fun _=>false) fun K hK=>?_;(repeat (refine ae ?_;simp));refine ab (hK _ ?_);clear hK K)|(refine T.cw (fun _=>false) fun K hK=>?_;(repeat (refine ae ?_;simp));refine ab (hK _ ?_);clear hK K)|refine T.cond rfl (fun hc=>?_) (fun hc=>absurd hc (by decide))|refine T.cond rfl (fun hc=>absurd hc (by decide)) (fun hc=>?_)|refine T.seq ?_|refine T.block ?_|refine T.skip ?_|refine T.exit ?_
 refine T.cw (fun _=>false) fun K hK=>?_
 repeat (refine ae ?_;simp)
 refine aa (by simp) (h) ?_;simp
 repeat (refine ae ?_;simp)
 refine ab (hK _ ?_);clear hK K;repeat' first|(refine T.rs (fun _=>false) fun K hK=>?_;(repeat (refine ae ?_;simp));refine ab (hK _ ?_);clear hK K)|(refine T.cw (fun _=>false) fun K hK=>?_;(repeat (refine ae ?_;simp));refine ab (hK _ ?_);clear hK K)|refine T.cond rfl (fun hc=>?_) (fun hc=>absurd hc (by decide))|refine T.cond rfl (fun hc=>absurd hc (by decide)) (fun hc=>?_)|refine T.seq ?_|refine T.block ?_|refine T.skip ?_|refine T.exit ?_
 refine T.ret (az.data (Or.inr rfl) ?_ ?_)<;>simp[Tryz.results19]
theorem pP:(e:ak)->fa e<=1048576->ah YC 19 [cE e,cE e] [] (.b true) [] []
 |.mk k s n t f b l,hn=>by
  rw[fS]at hn;have hl:=jK l;simp only[ak.gu,ak.jI,ak.jJ,ak.bD]at hn;exact Bl _ (by simp;omega) (by simp;omega) (zK l (by omega) (fun t ht=>pP t (by have:=mq ht;omega)))
termination_by e=>SizeOf.sizeOf e
decreasing_by have:=YH ht;simp;omega
end Go.Proofs.YtloolmchekcmeaaGreat
namespace Go.Proofs.YtloolmchekcmeaaGreat
attribute [-simp] Go.Av.c8 Go.Av.qW Go.Av.iw Go.Av.gI Go.Av.cZ
open Go Go.Av
attribute [local irreducible] T
attribute [local simp] aN au
theorem wy (x lo hi:Int):ah YC 151 [.i x,.i lo,.i hi] [] (.b (mK x lo hi)) [] []:=by
 refine ah.ob Tryz.func151 Tryz.ntmps151 rfl ?_;repeat' first|(refine ab (hK _ ?_);clear hK K)|(refine ae ?_;simp;(try(refine gen fun q hq=>?_;cases q<;>(try simp at hq))))|refine T.r0 fun K hK=>?_|refine T.r1 fun K hK=>?_|refine T.cond rfl (fun hc=>?_) (fun hc=>absurd hc (by decide))|refine T.cond rfl (fun hc=>absurd hc (by decide)) (fun hc=>?_)|refine T.seq ?_|refine T.block ?_|refine T.skip ?_|refine T.exit ?_
 all_goals(refine T.ret (az.data (Or.inr rfl) ?_ ?_)<;>simp[Tryz.results151,mK, *]<;>omega)
theorem yG (s:List UInt8):ah YC 141 [.s s] [] (.b (dG s)) [] []:=by
 refine ah.ob Tryz.func141 Tryz.ntmps141 rfl ?_
 match s with
 |[]=>
  repeat' first|(refine ab (hK _ ?_);clear hK K)|(refine ae ?_;simp;(try(refine gen fun q hq=>?_;cases q<;>(try simp at hq))))|refine T.r0 fun K hK=>?_|refine T.r1 fun K hK=>?_|refine T.cond rfl (fun hc=>?_) (fun hc=>absurd hc (by decide))|refine T.cond rfl (fun hc=>absurd hc (by decide)) (fun hc=>?_)|refine T.seq ?_|refine T.block ?_|refine T.skip ?_|refine T.exit ?_
  all_goals(refine T.ret (az.data (Or.inr rfl) ?_ ?_)<;>simp[Tryz.results141,dG])
 |[c]=>
  repeat' first|(refine ab (hK _ ?_);clear hK K)|(refine ae ?_;simp;(try(refine gen fun q hq=>?_;cases q<;>(try simp at hq))))|refine T.r0 fun K hK=>?_|refine T.r1 fun K hK=>?_|refine T.cond rfl (fun hc=>?_) (fun hc=>absurd hc (by decide))|refine T.cond rfl (fun hc=>absurd hc (by decide)) (fun hc=>?_)|refine T.seq ?_|refine T.block ?_|refine T.skip ?_|refine T.exit ?_
  all_goals(refine T.ret (az.data (Or.inr rfl) ?_ ?_)<;>simp[Tryz.results141,dG, *]<;>omega)
 |c::d::r=>
  have h2:¬((r.length:Int)+1+1=1):=by omega
  repeat' first|(refine ab (hK _ ?_);clear hK K)|(refine ae ?_;simp[h2,DU h2];(try(refine gen fun q hq=>?_;cases q<;>(try simp[h2]at hq))))|refine T.r0 fun K hK=>?_|refine T.r1 fun K hK=>?_|refine T.cond rfl (fun hc=>?_) (fun hc=>absurd hc (by decide))|refine T.cond rfl (fun hc=>absurd hc (by decide)) (fun hc=>?_)|refine T.seq ?_|refine T.block ?_|refine T.skip ?_|refine T.exit ?_
  all_goals(refine T.ret (az.data (Or.inr rfl) ?_ ?_)<;>simp[Tryz.results141,dG])
theorem yH (s:List UInt8):ah YC 156 [.s s] [] (.b (dG s)) [] []:=by
 refine ah.ob Tryz.func156 Tryz.ntmps156 rfl ?_
 match s with
 |[]=>
  repeat' first|(refine ab (hK _ ?_);clear hK K)|(refine ae ?_;simp;(try(refine gen fun q hq=>?_;cases q<;>(try simp at hq))))|refine T.r0 fun K hK=>?_|refine T.r1 fun K hK=>?_|refine T.cond rfl (fun hc=>?_) (fun hc=>absurd hc (by decide))|refine T.cond rfl (fun hc=>absurd hc (by decide)) (fun hc=>?_)|refine T.seq ?_|refine T.block ?_|refine T.skip ?_|refine T.exit ?_
  all_goals(refine T.ret (az.data (Or.inr rfl) ?_ ?_)<;>simp[Tryz.results156,dG])
 |[c]=>
  repeat' first|(refine ab (hK _ ?_);clear hK K)|(refine ae ?_;simp;(try(refine gen fun q hq=>?_;cases q<;>(try simp at hq))))|refine T.r0 fun K hK=>?_|refine T.r1 fun K hK=>?_|refine T.cond rfl (fun hc=>?_) (fun hc=>absurd hc (by decide))|refine T.cond rfl (fun hc=>absurd hc (by decide)) (fun hc=>?_)|refine T.seq ?_|refine T.block ?_|refine T.skip ?_|refine T.exit ?_
  all_goals(refine T.ret (az.data (Or.inr rfl) ?_ ?_)<;>simp[Tryz.results156,dG, *]<;>omega)
 |c::d::r=>
  have h2:¬((r.length:Int)+1+1=1):=by omega
  repeat' first|(refine ab (hK _ ?_);clear hK K)|(refine ae ?_;simp[h2,DU h2];(try(refine gen fun q hq=>?_;cases q<;>(try simp[h2]at hq))))|refine T.r0 fun K hK=>?_|refine T.r1 fun K hK=>?_|refine T.cond rfl (fun hc=>?_) (fun hc=>absurd hc (by decide))|refine T.cond rfl (fun hc=>absurd hc (by decide)) (fun hc=>?_)|refine T.seq ?_|refine T.block ?_|refine T.skip ?_|refine T.exit ?_
  all_goals(refine T.ret (az.data (Or.inr rfl) ?_ ?_)<;>simp[Tryz.results156,dG])
theorem uu (t:aF):ah YC 152 [ec t] [] (.b (dN t)) [] []:=by
 refine ah.ob Tryz.func152 Tryz.ntmps152 rfl ?_;repeat' first|(refine ab (hK _ ?_);clear hK K)|(refine ae ?_;simp;(try(refine gen fun q hq=>?_;cases q<;>(try simp at hq))))|refine T.r0 fun K hK=>?_|refine T.r1 fun K hK=>?_|refine T.cond rfl (fun hc=>?_) (fun hc=>absurd hc (by decide))|refine T.cond rfl (fun hc=>absurd hc (by decide)) (fun hc=>?_)|refine T.seq ?_|refine T.block ?_|refine T.skip ?_|refine T.exit ?_
 all_goals(refine T.ret (az.data (Or.inr rfl) ?_ ?_)<;>simp[Tryz.results152,dN, *])
theorem yI (t:aF):ah YC 157 [ec t] [] (.b (dN t)) [] []:=by
 refine ah.ob Tryz.func157 Tryz.ntmps157 rfl ?_;repeat' first|(refine ab (hK _ ?_);clear hK K)|(refine ae ?_;simp;(try(refine gen fun q hq=>?_;cases q<;>(try simp at hq))))|refine T.r0 fun K hK=>?_|refine T.r1 fun K hK=>?_|refine T.cond rfl (fun hc=>?_) (fun hc=>absurd hc (by decide))|refine T.cond rfl (fun hc=>absurd hc (by decide)) (fun hc=>?_)|refine T.seq ?_|refine T.block ?_|refine T.skip ?_|refine T.exit ?_
 all_goals(refine T.ret (az.data (Or.inr rfl) ?_ ?_)<;>simp[Tryz.results157,dN, *])
theorem CQ (n:Int):ah YC 154 [.i n] [] (.b (CI n)) [] []:=by
 refine ah.ob Tryz.func154 Tryz.ntmps154 rfl ?_;repeat' first|(refine T.rs (fun _=>false) fun K hK=>?_;(repeat (refine ae ?_;simp));refine ab (hK _ ?_);clear hK K)|(refine T.cw (fun _=>false) fun K hK=>?_;(repeat (refine ae ?_;simp));refine ab (hK _ ?_);clear hK K)|refine T.cond rfl (fun hc=>?_) (fun hc=>absurd hc (by decide))|refine T.cond rfl (fun hc=>absurd hc (by decide)) (fun hc=>?_)|refine T.seq ?_|refine T.block ?_|refine T.skip ?_|refine T.exit ?_
 refine T.cw (fun _=>false) fun K hK=>?_
 repeat (refine ae ?_;simp)
 refine aa (by simp) (wy n 1 99) ?_;simp;refine DT.gen fun q hq=>?_
 cases q
 ·repeat (refine ae ?_;simp)
  refine aa (by simp) (wy n (-99) (-1)) ?_;simp;repeat' first|(refine ab (hK _ ?_);clear hK K)|(refine ae ?_;simp;(try(refine gen fun q hq=>?_;cases q<;>(try simp at hq))))|refine T.r0 fun K hK=>?_|refine T.r1 fun K hK=>?_|refine T.cond rfl (fun hc=>?_) (fun hc=>absurd hc (by decide))|refine T.cond rfl (fun hc=>absurd hc (by decide)) (fun hc=>?_)|refine T.seq ?_|refine T.block ?_|refine T.skip ?_|refine T.exit ?_
  all_goals(refine T.ret (az.data (Or.inr rfl) ?_ ?_)<;>simp[Tryz.results154,CI, *])
 ·repeat' first|(refine ab (hK _ ?_);clear hK K)|(refine ae ?_;simp;(try(refine gen fun q hq=>?_;cases q<;>(try simp at hq))))|refine T.r0 fun K hK=>?_|refine T.r1 fun K hK=>?_|refine T.cond rfl (fun hc=>?_) (fun hc=>absurd hc (by decide))|refine T.cond rfl (fun hc=>absurd hc (by decide)) (fun hc=>?_)|refine T.seq ?_|refine T.block ?_|refine T.skip ?_|refine T.exit ?_
  all_goals(refine T.ret (az.data (Or.inr rfl) ?_ ?_)<;>simp[Tryz.results154,CI, *])
theorem Fa (k:Int):ah YC 133 [.i k] [] (.i (cL k)) [] []:=by
 refine ah.ob Tryz.func133 Tryz.ntmps133 rfl ?_;repeat' first|(refine ab (hK _ ?_);clear hK K)|(refine ae ?_;simp;(try(refine gen fun q hq=>?_;cases q<;>(try simp at hq))))|refine T.r0 fun K hK=>?_|refine T.r1 fun K hK=>?_|refine T.cond rfl (fun hc=>?_) (fun hc=>absurd hc (by decide))|refine T.cond rfl (fun hc=>absurd hc (by decide)) (fun hc=>?_)|refine T.seq ?_|refine T.block ?_|refine T.skip ?_|refine T.exit ?_
 all_goals(refine T.ret (az.data (Or.inr rfl) ?_ ?_)<;>simp[Tryz.results133,cL, *])
@[simp] theorem Pp:td YC 77=some {ag:=false,sz:=1,kI:=24,zero:=some [.nil],el:=some 3,ar:=none,fl:=[],ik:=none,cy:=false,l6:=false}:=dq (by kernel_rfl)
theorem Bm (k:Int):ah YC 150 [.i k] [] (.i (cL k)) [] []:=by
 refine ah.ob Tryz.func150 Tryz.ntmps150 rfl ?_;repeat' first|(refine T.rs (fun _=>false) fun K hK=>?_;(repeat (refine ae ?_;simp));refine ab (hK _ ?_);clear hK K)|(refine T.cw (fun _=>false) fun K hK=>?_;(repeat (refine ae ?_;simp));refine ab (hK _ ?_);clear hK K)|refine T.cond rfl (fun hc=>?_) (fun hc=>absurd hc (by decide))|refine T.cond rfl (fun hc=>absurd hc (by decide)) (fun hc=>?_)|refine T.seq ?_|refine T.block ?_|refine T.skip ?_|refine T.exit ?_
 refine T.cw (fun _=>false) fun K hK=>?_
 repeat (refine ae ?_;simp)
 refine aa (by simp) (wy k 1 14) ?_;simp;by_cases h:mK k 1 14=true
 ·have hr:k=1\/k=2\/k=3\/k=4\/k=5\/k=6\/k=7\/k=8\/k=9\/k=10\/k=11\/k=12\/k=13\/k=14:=by
   simp[mK]at h;omega
  rcases hr with rfl|rfl|rfl|rfl|rfl|rfl|rfl|rfl|rfl|rfl|rfl|rfl|rfl|rfl
  all_goals
   simp[mK]at h;have hw:∀n:Int,0<=n->n<=20->IntKind.i64.wrap n=n:=fun n h1 h2=>wrap64 (by omega) (by omega)
   repeat' first|(refine ab (hK _ ?_);clear hK K)|(refine ae ?_;simp[mK,hw];(try(refine gen fun q hq=>?_;cases q<;>(try simp at hq))))|refine T.r0 fun K hK=>?_|refine T.r1 fun K hK=>?_|refine T.cond rfl (fun hc=>?_) (fun hc=>absurd hc (by decide))|refine T.cond rfl (fun hc=>absurd hc (by decide)) (fun hc=>?_)|refine T.seq ?_|refine T.block ?_|refine T.skip ?_|refine T.exit ?_
   all_goals(refine T.ret (az.data (Or.inr rfl) ?_ ?_)<;>simp[Tryz.results150,cL])
 ·have hk:cL k=-1:=by
   simp only[mK,YM,Bool.and_eq_false_iff,decide_eq_false_iff_not]at h;have:k<1\/14<k:=by omega
   simp only[cL]
   repeat (rw[if_neg (by omega)])
  simp only[YM]at h;repeat' first|(refine ab (hK _ ?_);clear hK K)|(refine ae ?_;simp[h];(try(refine gen fun q hq=>?_;cases q<;>(try simp at hq))))|refine T.r0 fun K hK=>?_|refine T.r1 fun K hK=>?_|refine T.cond rfl (fun hc=>?_) (fun hc=>absurd hc (by decide))|refine T.cond rfl (fun hc=>absurd hc (by decide)) (fun hc=>?_)|refine T.seq ?_|refine T.block ?_|refine T.skip ?_|refine T.exit ?_
  all_goals(refine T.ret (az.data (Or.inr rfl) ?_ ?_)<;>simp[Tryz.results150,hk])
end Go.Proofs.YtloolmchekcmeaaGreat
namespace Go.Proofs.YtloolmchekcmeaaGreat
attribute [-simp] Go.Av.c8 Go.Av.qW Go.Av.iw Go.Av.gI Go.Av.cZ
open Go Go.Av
attribute [local irreducible] T ah b5 eK aF.kind aF.kids ak.kind ak.name ak.num ak.ty ak.fr ak.label ak.kids
attribute [local simp] aN au
set_option maxHeartbeats 4000000
theorem Fb (k:Int):ah YC 128 [.i k] [] (.i (e7 k)) [] []:=by
 refine ah.ob Tryz.func128 Tryz.ntmps128 rfl ?_;repeat' first|(refine ab (hK _ ?_);clear hK K)|(refine ae ?_;simp;(try(refine gen2 ?_ ?_<;>intro hq<;>try simp at hq)))|(refine T.ret (az.data (Or.inr rfl) ?_ ?_)<;>simp[Tryz.results128,e7, *]<;>omega)|refine T.r0 fun K hK=>?_|refine T.r1 fun K hK=>?_|refine T.ct rfl ?_|refine T.cf rfl ?_|refine T.seq ?_|refine T.block ?_|refine T.skip ?_
theorem wz:∀(d:Nat) (t:aF),d<=1000->dF t<=1099511627776->ah YC 143 [ec t,.i d] [] (.b (al d t)) [] []
 |0,t,_,_=>by
  refine ah.ob Tryz.func143 Tryz.ntmps143 rfl ?_;repeat' first|((first|refine ab (hK _ ?_)|refine aB (hK _ ?_));clear hK K)|((first|refine ae ?_|refine aG ?_);simp;(try(refine gen2 ?_ ?_<;>intro hq<;>(try simp at hq)<;>try(have:True:=hq;clear this hq))))|(refine T.ret (az.data (Or.inr rfl) ?_ ?_)<;>simp[Tryz.results143,al]<;>omega)|refine T.r0 fun K hK=>?_|refine T.rd mixed (fun _=>false) [] (by kernel_rfl) fun K hK=>?_|refine T.ct rfl ?_|refine T.seq ?_
 |d+1,t,hd,hn=>by
  rw[ed]at hn;have hlen:=eY t.kids;have gE:¬((d:Int)+1<1):=by omega
  refine ah.ob Tryz.func143 Tryz.ntmps143 rfl ?_;repeat' first|((first|refine ab (hK _ ?_)|refine aB (hK _ ?_));clear hK K)|((first|(first|refine ae ?_|refine aG ?_)|refine aa rfl (Fb _) ?_);simp[gE];(try(refine gen2 ?_ ?_<;>intro hq<;>(try simp[gE]at hq)<;>try(have:True:=hq;clear this hq))))|(refine T.ret (az.data (Or.inr rfl) ?_ ?_)<;>simp[Tryz.results143,al, *]<;>omega)|refine T.r0 fun K hK=>?_|refine T.rd mixed (fun _=>false) [] (by kernel_rfl) fun K hK=>?_|refine T.ct rfl ?_|refine T.cf rfl ?_|refine T.seq ?_|refine T.block ?_|refine T.skip ?_
  obtain⟨R,hR⟩:∃R,t.kids.all (al d)=R:=⟨_,rfl⟩;rw[show al (d+1) t=R by simp[al,hq,hR]];refine T.fJ (fun p:Nat=>⟨[(1,.i (d+1)),(2,.c (.ptr 0 0)),(5,.i p)],[(ec t).cells],[]⟩) (fun p=>t.kids.length+1-p) (fun p=>p<=t.kids.length/\(t.kids.drop p).all (al d)=R) (fun p hp=>?_) 0 (by simpa using hR) (by simp);obtain⟨hi,he⟩:=hp;by_cases ax:p<t.kids.length
  ·obtain⟨u,ht⟩:=bz ax;have eJ:u∈t.kids:=YD ht;have bg:t.kids[p]=u:=by rw[YE ax]at ht;exact Option.some.inj ht
   have iY:t.kids.drop p=u::t.kids.drop (p+1):=by rw[YG ax,bg]
   have hu:=wz d u (by omega) (by have:=fi eJ;omega);rw[iY,List.all_cons]at he;cases hb:al d u<;>rw[hb]at hu he
   ·repeat' first|(refine ab (hK _ ?_);clear hK K)|(refine ae ?_;simp[ax,bg];(try simp(disch:=omega)only[wrap64]);(try(refine gen2 ?_ ?_<;>intro hq<;>(try simp[ax,bg]at hq)<;>try(have:True:=hq;clear this hq))))|(refine aa rfl (hu) ?_;simp[ax,bg];(try simp(disch:=omega)only[wrap64]);(try(refine gen2 ?_ ?_<;>intro hq<;>(try simp[ax,bg]at hq)<;>try(have:True:=hq;clear this hq))))|(refine T.ret (az.data (Or.inr rfl) ?_ ?_)<;>simp[Tryz.results143,<-he]<;>omega)|refine T.r0 fun K hK=>?_|refine T.ct rfl ?_|refine T.seq ?_|refine T.block ?_|refine T.skip ?_
   ·repeat' first|(refine ab (hK _ ?_);clear hK K)|(refine ae ?_;simp[ax,bg];(try simp(disch:=omega)only[wrap64]);(try(refine gen2 ?_ ?_<;>intro hq<;>(try simp[ax,bg]at hq)<;>try(have:True:=hq;clear this hq))))|(refine aa rfl (hu) ?_;simp[ax,bg];(try simp(disch:=omega)only[wrap64]);(try(refine gen2 ?_ ?_<;>intro hq<;>(try simp[ax,bg]at hq)<;>try(have:True:=hq;clear this hq))))|(refine⟨p+1,by dsimp only;omega,⟨by omega,by simpa using he⟩,?_⟩;simp(disch:=omega) [wrap64])|refine T.r0 fun K hK=>?_|refine T.r1 fun K hK=>?_|refine T.ct rfl ?_|refine T.cf rfl ?_|refine T.seq ?_|refine T.block ?_|refine T.skip ?_
  ·have eb:p=t.kids.length:=by omega
   subst eb;simp at he;repeat' first|(refine ab (hK _ ?_);clear hK K)|(refine ae ?_;simp[ax];(try(refine gen2 ?_ ?_<;>intro hq<;>(try simp[ax]at hq)<;>try(have:True:=hq;clear this hq))))|(refine T.ret (az.data (Or.inr rfl) ?_ ?_)<;>simp[Tryz.results143,he]<;>omega)|refine T.r0 fun K hK=>?_|refine T.cf rfl ?_|refine T.seq ?_|refine T.exit ?_
theorem yg (f:FuncId) (d:DV) (l:List aF) (q:aF->Bool) (hl:l.length<=4611686018427387904) (hf:∀t∈l,ah YC f [ec t,.c (.ptr 0 0)] (dV [[d]]) (.b (q t)) (dV [[d]]) []):
  ah YC 115 [.l (l.map b5),.c (.fn f [0])] (dV [[d]]) (.i (fB q l 0)) (dV [[d]]) []:=by
 refine ah.ob Tryz.func115 Tryz.ntmps115 rfl ?_;repeat' first|(refine ab (hK _ ?_);clear hK K)|(refine ae ?_;simp;(try(refine gen2 ?_ ?_<;>intro hq<;>try simp at hq)))|refine T.r0 fun K hK=>?_|refine T.seq ?_|refine T.block ?_
 obtain⟨R,hR⟩:∃R,fB q l 0=R:=⟨_,rfl⟩;rw[hR];refine T.fJ (fun p:Nat=>⟨[(0,.l (l.map b5)),(1,.c (.fn f [0])),(7,.i l.length),(8,.i p)],[[.d d]],[]⟩) (fun p=>l.length+1-p) (fun p=>p<=l.length/\fB q (l.drop p) p=R) (fun p hp=>?_) 0 (by simpa using hR) (by simp);obtain⟨hi,he⟩:=hp;by_cases ax:p<l.length
 ·obtain⟨u,ht⟩:=bz ax;have eJ:u∈l:=YD ht;have bg:l[p]=u:=by rw[YE ax]at ht;exact Option.some.inj ht
  have iY:l.drop p=u::l.drop (p+1):=by rw[YG ax,bg]
  have hu:=hf u eJ;rw[iY,fB]at he;cases hb:q u<;>rw[hb]at hu he
  ·repeat' first|(refine ab (hK _ ?_);clear hK K)|(refine ae ?_;simp[ax,bg];(try simp(disch:=omega)only[wrap64]);(try(refine gen2 ?_ ?_<;>intro hq<;>try simp[ax,bg]at hq)))|(refine lG 0 [d] rfl rfl hu ?_;simp)|(refine⟨p+1,by dsimp only;omega,⟨by omega,by simpa using he⟩,?_⟩;simp(disch:=omega) [wrap64])|refine T.r0 fun K hK=>?_|refine T.r1 fun K hK=>?_|refine T.ct rfl ?_|refine T.cf rfl ?_|refine T.seq ?_|refine T.block ?_|refine T.skip ?_
  ·repeat' first|(refine ab (hK _ ?_);clear hK K)|(refine ae ?_;simp[ax,bg];(try simp(disch:=omega)only[wrap64]);(try(refine gen2 ?_ ?_<;>intro hq<;>try simp[ax,bg]at hq)))|(refine lG 0 [d] rfl rfl hu ?_;simp)|refine T.r0 fun K hK=>?_|refine T.ct rfl ?_|refine T.seq ?_|refine T.block ?_|refine T.skip ?_
   refine T.ret (az.uX (Or.inr rfl) ?_ ?_ ?_)<;>simp[Tryz.results115,<-he]
 ·have eb:p=l.length:=by omega
  subst eb;simp[fB]at he;repeat' first|(refine ab (hK _ ?_);clear hK K)|(refine ae ?_;simp[ax];(try(refine gen2 ?_ ?_<;>intro hq<;>try simp[ax]at hq)))|refine T.r0 fun K hK=>?_|refine T.cf rfl ?_|refine T.seq ?_|refine T.exit ?_
  refine T.ret (az.uX (Or.inr rfl) ?_ ?_ ?_)<;>simp[Tryz.results115,he]
theorem tt (f:FuncId) (d:DV) (l:List aF) (q:aF->Bool) (hl:l.length<=4611686018427387904) (hf:∀t∈l,ah YC f [ec t,.c (.ptr 0 0)] (dV [[d]]) (.b (q t)) (dV [[d]]) []):
  ah YC 64 [.l (l.map b5),.c (.fn f [0])] (dV [[d]]) (.b (l.any q)) (dV [[d]]) []:=by
 refine ah.ob Tryz.func64 Tryz.ntmps64 rfl ?_;rw[<-oR (i:=0) (by omega)];repeat' first|(refine ab (hK _ ?_);clear hK K)|((first|refine ae ?_|refine lG 0 [d] rfl rfl (yg f d l q hl hf) ?_);simp;(try(refine gen2 ?_ ?_<;>intro hq<;>try simp at hq)))|refine T.r0 fun K hK=>?_
 all_goals(refine T.ret (az.uX (Or.inr rfl) ?_ ?_ ?_)<;>simp[Tryz.results64, *])
theorem qB (f:FuncId) (l m:List aF) (q:aF->aF->Bool) (hl:l.length<=4611686018427387904) (hf:∀a∈l,∀b∈m,ah YC f [ec a,ec b] [] (.b (q a b)) [] []):
  ah YC 72 [.l (l.map b5),.l (m.map b5),.c (.fn f [])] [] (.b (iH q l m)) [] []:=by
 refine ah.ob Tryz.func72 Tryz.ntmps72 rfl ?_;by_cases oB:l.length=m.length
 rotate_left
 ·have cY:¬(l.length:Int)=m.length:=by omega
  repeat' first|(refine ab (hK _ ?_);clear hK K)|(refine ae ?_;simp[cY];(try(refine gen2 ?_ ?_<;>intro hq<;>try simp[cY]at hq)))|(refine T.ret (az.data (Or.inr rfl) ?_ ?_)<;>simp[Tryz.results72,I5 oB]<;>omega)|refine T.r0 fun K hK=>?_|refine T.ct rfl ?_|refine T.seq ?_
 repeat' first|(refine ab (hK _ ?_);clear hK K)|(refine ae ?_;simp[oB];(try(refine gen2 ?_ ?_<;>intro hq<;>try simp[oB]at hq)))|refine T.r0 fun K hK=>?_|refine T.cf rfl ?_|refine T.seq ?_|refine T.block ?_|refine T.skip ?_
 obtain⟨R,hR⟩:∃R,iH q l m=R:=⟨_,rfl⟩;rw[hR];refine T.fJ (fun x:Nat×List (List CV)=>⟨[(0,.l (l.map b5)),(1,.l (m.map b5)),(2,.c (.fn f [])),(15,.l (l.map b5)),(16,.i m.length),(17,.i x.1)],x.2,[]⟩) (fun x=>l.length+1-x.1) (fun x=>x.1<=l.length/\iH q (l.drop x.1) (m.drop x.1)=R) (fun x hp=>?_) (0,[]) (by simpa using hR) (by simp);obtain⟨p,G⟩:=x;obtain⟨hi,he⟩:=hp;dsimp only at hi he⊢;by_cases ax:p<l.length
 ·have eR:p<m.length:=by omega
  obtain⟨u,ht⟩:=bz ax;have eJ:u∈l:=YD ht;have bg:l[p]=u:=by rw[YE ax]at ht;exact Option.some.inj ht
  have iY:l.drop p=u::l.drop (p+1):=by rw[YG ax,bg]
  obtain⟨v,hv⟩:=bz eR;have Nz:v∈m:=YD hv;have qC:m[p]=v:=by rw[YE eR]at hv;exact Option.some.inj hv
  have hu:=hf u eJ v Nz;rw[iY,drop_cons eR,qC,yA]at he;cases hb:q u v<;>rw[hb]at hu he
  ·repeat' first|(refine ab (hK _ ?_);clear hK K)|(refine ae ?_;simp[ax,eR,bg,qC];(try simp(disch:=omega)only[wrap64]);(try(refine gen2 ?_ ?_<;>intro hq<;>try simp[ax,eR,bg,qC]at hq)))|(refine aa rfl (hu) ?_;simp[ax,eR,bg,qC];(try simp(disch:=omega)only[wrap64]);(try(refine gen2 ?_ ?_<;>intro hq<;>try simp[ax,eR,bg,qC]at hq)))|(refine T.ret (az.data (Or.inr rfl) ?_ ?_)<;>simp[Tryz.results72,<-he]<;>omega)|refine T.r0 fun K hK=>?_|refine T.ct rfl ?_|refine T.seq ?_|refine T.block ?_|refine T.skip ?_
  ·repeat' first|(refine ab (hK _ ?_);clear hK K)|(refine ae ?_;simp[ax,eR,bg,qC];(try simp(disch:=omega)only[wrap64]);(try(refine gen2 ?_ ?_<;>intro hq<;>try simp[ax,eR,bg,qC]at hq)))|(refine aa rfl (hu) ?_;simp[ax,eR,bg,qC];(try simp(disch:=omega)only[wrap64]);(try(refine gen2 ?_ ?_<;>intro hq<;>try simp[ax,eR,bg,qC]at hq)))|(refine⟨(p+1,_),by dsimp only;omega,⟨by dsimp only;omega,by simpa using he⟩,rfl,rfl,?_⟩;simp(disch:=omega) [wrap64])|refine T.r0 fun K hK=>?_|refine T.r1 fun K hK=>?_|refine T.ct rfl ?_|refine T.cf rfl ?_|refine T.seq ?_|refine T.block ?_|refine T.skip ?_
 ·have eb:p=l.length:=by omega
  subst eb;rw[YI,oB,YI,AW]at he;repeat' first|(refine ab (hK _ ?_);clear hK K)|(refine ae ?_;simp[ax,oB];(try(refine gen2 ?_ ?_<;>intro hq<;>try simp[ax,oB]at hq)))|(refine T.ret (az.data (Or.inr rfl) ?_ ?_)<;>simp[Tryz.results72,<-he]<;>omega)|refine T.r0 fun K hK=>?_|refine T.cf rfl ?_|refine T.seq ?_|refine T.exit ?_
theorem jz (t:aF) (hn:dF t<=1099511627776):ah YC 116 [ec t] [] (.b (al 4 t)) [] []:=by
 refine ah.ob Tryz.func116 Tryz.ntmps116 rfl ?_;repeat' first|(refine ab (hK _ ?_);clear hK K)|((first|refine ae ?_|refine aa rfl (wz 4 t (by omega) hn) ?_);simp)|(refine T.ret (az.data (Or.inr rfl) ?_ ?_)<;>simp[Tryz.results116]<;>omega)|refine T.r0 fun K hK=>?_
theorem zL (d:Int) (hd:0<=d/\d<=1000) (t:aF) (q:Bool) (h:ah YC 111 [ec t,.i (d+1)] [] (.b q) [] []):
  ah YC 138 [ec t,.c (.ptr 0 0)] (dV [[.i d]]) (.b (!q)) (dV [[.i d]]) []:=by
 refine ah.ob Tryz.func138 Tryz.ntmps138 rfl ?_;repeat' first|(refine ab (hK _ ?_);clear hK K)|((first|refine ae ?_|refine aa rfl (h) ?_);simp;(try simp(disch:=omega)only[wrap64]))|refine T.r0 fun K hK=>?_
 refine T.ret (az.uX (Or.inr rfl) ?_ ?_ ?_)<;>simp[Tryz.results138]
theorem uv:∀(d:Nat) (t:aF),d<=4->dF t<=1099511627776->ah YC 111 [ec t,.i (5-d)] [] (.b (al d t)) [] []
 |0,t,_,_=>by
  refine ah.ob Tryz.func111 Tryz.ntmps111 rfl ?_;repeat' first|(refine ab (hK _ ?_);clear hK K)|(refine ae ?_;simp;(try(refine gen2 ?_ ?_<;>intro hq<;>try simp at hq)))|(refine T.ret (az.data (Or.inr rfl) ?_ ?_)<;>simp[Tryz.results111,al]<;>omega)|refine T.r0 fun K hK=>?_|refine T.r1 fun K hK=>?_|refine T.ct rfl ?_|refine T.cf rfl ?_|refine T.seq ?_|refine T.block ?_|refine T.skip ?_
 |d+1,t,hd,hn=>by
  rw[ed]at hn;have hlen:=eY t.kids;have gE:(5:Int)-(d+1)<=4:=by omega
  have hc:=tt 138 (.i (5-(d+1))) t.kids (fun t=> !al d t) (by omega) (fun u hu=>zL (5-(d+1)) (by omega) u _ (by
   have:=uv d u (by omega) (by have:=fi hu;omega);rwa[show(5:Int)-(d+1)+1=5-d by omega]))
  have cX:(!t.kids.any fun t=> !al d t)=t.kids.all (al d):=oS _ _;rw[show al (d+1) t=(decide (e7 t.kind=t.kids.length)&& t.kids.all (al d))from rfl,<-cX];generalize (t.kids.any fun t=> !al d t)=R at hc⊢;refine ah.ob Tryz.func111 Tryz.ntmps111 rfl ?_;repeat' first|(refine ab (hK _ ?_);clear hK K)|(refine ae ?_;simp[gE];(try(refine gen2 ?_ ?_<;>intro hq<;>try simp[gE]at hq)))|(refine lG 1 [.i (5-(d+1))] rfl (by simp) hc ?_;simp)|(refine T.ret (az.data (Or.inr rfl) ?_ ?_)<;>simp[Tryz.results111,e7, *]<;>omega)|refine T.r0 fun K hK=>?_|refine T.r1 fun K hK=>?_|refine T.ct rfl ?_|refine T.cf rfl ?_|refine T.seq ?_|refine T.block ?_|refine T.skip ?_
theorem gy (t:aF) (hn:dF t<=1099511627776):ah YC 60 [ec t] [] (.b (al 4 t)) [] []:=by
 refine ah.ob Tryz.func60 Tryz.ntmps60 rfl ?_;repeat' first|(refine ab (hK _ ?_);clear hK K)|((first|refine ae ?_|refine aa rfl (uv 4 t (by omega) hn) ?_);simp)|(refine T.ret (az.data (Or.inr rfl) ?_ ?_)<;>simp[Tryz.results60]<;>omega)|refine T.r0 fun K hK=>?_
theorem dp:(a b:aF)->dF a<=1099511627776->ah YC 166 [ec a,ec b] [] (.b (aD a b)) [] []
 |.mk k l,b,hn=>by
  rw[ed]at hn;have hlen:=eY l;have hc:=qB 166 l b.kids aD (by simp at hn;omega) (fun u hu v hv=>dp u v (by have:=fi hu;simp at hn;omega));rw[nh];simp only[aF.bD,aF.cb];generalize iH aD l b.kids=R at hc⊢;refine ah.ob Tryz.func166 Tryz.ntmps166 rfl ?_;repeat' first|(refine ab (hK _ ?_);clear hK K)|((first|refine ae ?_|refine aa rfl (hc) ?_);simp;(try(refine gen2 ?_ ?_<;>intro hq<;>try simp at hq)))|(refine T.ret (az.data (Or.inr rfl) ?_ ?_)<;>simp[Tryz.results166, *]<;>omega)|refine T.r0 fun K hK=>?_
termination_by a=>SizeOf.sizeOf a
decreasing_by have:=YH hu;simp;omega
theorem yh (a b:aF) (ha:dF a<=1099511627776) (hb:dF b<=1099511627776):ah YC 153 [ec a,ec b] [] (.b (al 4 a && al 4 b && aD a b)) [] []:=by
 refine ah.ob Tryz.func153 Tryz.ntmps153 rfl ?_;repeat' first|(refine ab (hK _ ?_);clear hK K)|((first|refine ae ?_|refine aa rfl (gy a ha) ?_|refine aa rfl (gy b hb) ?_|refine aa rfl (dp a b ha) ?_);simp;(try(refine gen2 ?_ ?_<;>intro hq<;>try simp at hq)))|(refine T.ret (az.data (Or.inr rfl) ?_ ?_)<;>simp[Tryz.results153, *]<;>omega)|refine T.r0 fun K hK=>?_
theorem c3:∀(d:Nat) (a b:aF),d<=1000->al d a=true->al d b=true->ah YC 122 [ec a,ec b] [] (.b (aD a b)) [] []
 |0,a,b,_,ha,_=>by simp[al]at ha
 |d+1,a,b,hd,ha,hb=>by
  obtain⟨e,he,Fc,Vx,Hh⟩:=iS ha;obtain⟨e',SI,MI,Vy,Bc⟩:=iS hb;obtain rfl:d=e:=by omega
  obtain rfl:d=e':=by omega
  rw[nh];refine ah.ob Tryz.func122 Tryz.ntmps122 rfl ?_;by_cases gF:a.kind=1
  ·repeat' first|(refine ab (hK _ ?_);clear hK K)|(refine ae ?_;simp[gF];(try(refine gen2 ?_ ?_<;>intro hq<;>try simp[gF]at hq)))|(refine T.ret (az.data (Or.inr rfl) ?_ ?_)<;>simp[Tryz.results122,gF]<;>omega)|refine T.r0 fun K hK=>?_|refine T.ct rfl ?_|refine T.seq ?_
  by_cases kn:b.kind=1
  ·repeat' first|(refine ab (hK _ ?_);clear hK K)|(refine ae ?_;simp[gF,kn,DU gF];(try(refine gen2 ?_ ?_<;>intro hq<;>try simp[gF,kn,DU gF]at hq)))|(refine T.ret (az.data (Or.inr rfl) ?_ ?_)<;>simp[Tryz.results122,gF,kn]<;>omega)|refine T.r0 fun K hK=>?_|refine T.ct rfl ?_|refine T.seq ?_
  by_cases hk:a.kind=b.kind
  rotate_left
  ·repeat' first|(refine ab (hK _ ?_);clear hK K)|(refine ae ?_;simp[gF,kn,hk];(try(refine gen2 ?_ ?_<;>intro hq<;>try simp[gF,kn,hk]at hq)))|(refine T.ret (az.data (Or.inr rfl) ?_ ?_)<;>simp[Tryz.results122,gF,kn,hk]<;>omega)|refine T.r0 fun K hK=>?_|refine T.ct rfl ?_|refine T.cf rfl ?_|refine T.seq ?_|refine T.skip ?_
  have oB:a.kids.length=b.kids.length:=by rw[hk]at Fc;omega
  repeat' first|(refine ab (hK _ ?_);clear hK K)|(refine ae ?_;simp[gF,kn,hk];(try(refine gen2 ?_ ?_<;>intro hq<;>try simp[gF,kn,hk]at hq)))|refine T.r0 fun K hK=>?_|refine T.cf rfl ?_|refine T.seq ?_|refine T.block ?_|refine T.skip ?_
  obtain⟨R,hR⟩:∃R,iH aD a.kids b.kids=R:=⟨_,rfl⟩;rw[show(decide (a.kind=1)||decide (b.kind=1)||(decide (a.kind=b.kind)&& iH aD a.kids b.kids))=R by simp[gF,kn,hk,hR]];refine T.fJ (fun p:Nat=>⟨[(2,.c (.ptr 0 0)),(3,.c (.ptr 1 0)),(5,.i p)],[(ec a).cells,(ec b).cells],[]⟩) (fun p=>a.kids.length+1-p) (fun p=>p<=a.kids.length/\iH aD (a.kids.drop p) (b.kids.drop p)=R) (fun p hp=>?_) 0 (by simpa using hR) (by simp[hk]);obtain⟨hi,he⟩:=hp;by_cases ax:p<a.kids.length
  ·have eR:p<b.kids.length:=by omega
   obtain⟨u,ht⟩:=bz ax;have eJ:u∈a.kids:=YD ht;have bg:a.kids[p]=u:=by rw[YE ax]at ht;exact Option.some.inj ht
   have iY:a.kids.drop p=u::a.kids.drop (p+1):=by rw[YG ax,bg]
   obtain⟨v,hv⟩:=bz eR;have Nz:v∈b.kids:=YD hv;have qC:b.kids[p]=v:=by rw[YE eR]at hv;exact Option.some.inj hv
   have hu:=c3 d u v (by omega) (Hh u eJ) (Bc v Nz);rw[iY,drop_cons eR,qC,yA]at he;cases hb:aD u v<;>rw[hb]at hu he
   ·repeat' first|((first|refine ab (hK _ ?_)|refine aB (hK _ ?_));clear hK K)|((first|refine ae ?_|refine aG ?_);simp[ax,eR,bg,qC];(try simp(disch:=omega)only[wrap64]);(try(refine gen2 ?_ ?_<;>intro hq<;>try simp[ax,eR,bg,qC]at hq)))|(refine aa rfl (hu) ?_;simp[ax,eR,bg,qC];(try simp(disch:=omega)only[wrap64]);(try(refine gen2 ?_ ?_<;>intro hq<;>try simp[ax,eR,bg,qC]at hq)))|(refine T.ret (az.data (Or.inr rfl) ?_ ?_)<;>simp[Tryz.results122,<-he]<;>omega)|refine T.r0 fun K hK=>?_|refine T.rd mixed (fun _=>false) [] (by kernel_rfl) fun K hK=>?_|refine T.ct rfl ?_|refine T.seq ?_|refine T.block ?_|refine T.skip ?_
   ·repeat' first|((first|refine ab (hK _ ?_)|refine aB (hK _ ?_));clear hK K)|((first|refine ae ?_|refine aG ?_);simp[ax,eR,bg,qC];(try simp(disch:=omega)only[wrap64]);(try(refine gen2 ?_ ?_<;>intro hq<;>try simp[ax,eR,bg,qC]at hq)))|(refine aa rfl (hu) ?_;simp[ax,eR,bg,qC];(try simp(disch:=omega)only[wrap64]);(try(refine gen2 ?_ ?_<;>intro hq<;>try simp[ax,eR,bg,qC]at hq)))|(refine⟨p+1,by dsimp only;omega,⟨by omega,by simpa using he⟩,rfl,rfl,?_⟩;simp(disch:=omega) [wrap64])|refine T.r0 fun K hK=>?_|refine T.r1 fun K hK=>?_|refine T.rd mixed (fun _=>false) [] (by kernel_rfl) fun K hK=>?_|refine T.ct rfl ?_|refine T.cf rfl ?_|refine T.seq ?_|refine T.block ?_|refine T.skip ?_
  ·have eb:p=a.kids.length:=by omega
   subst eb;rw[YI,oB,YI,AW]at he;repeat' first|(refine ab (hK _ ?_);clear hK K)|(refine ae ?_;simp[ax,oB];(try(refine gen2 ?_ ?_<;>intro hq<;>try simp[ax,oB]at hq)))|(refine T.ret (az.data (Or.inr rfl) ?_ ?_)<;>simp[Tryz.results122,<-he]<;>omega)|refine T.r0 fun K hK=>?_|refine T.cf rfl ?_|refine T.seq ?_|refine T.exit ?_
theorem wA (k:Int):k=1\/k=5\/k=13\/k=14\/k=2\/(¬k=1/\¬k=5/\¬k=13/\¬k=14/\¬k=2):=by omega
theorem Jk (n:Int):mK n 0 0=decide (n=0):=by simp only[mK,<-Bool.decide_and];exact decide_eq_decide.2 (by omega)
theorem Hi (e:ak) (hk:e.kind≠14) (ht:dF e.ty<=1099511627776):ah YC 134 [cE e] [] (.b (fe e)) [] []:=by
 have sK:=yH e.name;have Bn:=jz e.ty ht;have kJ:=yI e.ty;have qD:=yI e.fr;rcases wA e.kind with h1|h1|h1|h1|h1|⟨h1,h2,h3,h4,h5⟩
 ·have hr:fe e=(dG e.name && decide (e.num=0)&& dN e.ty &&(dN e.fr && decide (e.label=0))):=by simp[fe,h1,dL,bY,Jk]
  rw[hr];refine ah.ob Tryz.func134 Tryz.ntmps134 rfl ?_;repeat' first|(refine ab (hK _ ?_);clear hK K)|((first|refine ae ?_|refine aa rfl (sK) ?_|refine aa rfl (kJ) ?_|refine aa rfl (qD) ?_);simp[h1];(try(refine gen2 ?_ ?_<;>intro hq<;>try simp[h1]at hq)))|(refine T.ret (az.data (Or.inr rfl) ?_ ?_)<;>simp[Tryz.results134, *]<;>omega)|refine T.r0 fun K hK=>?_|refine T.ct rfl ?_|refine T.cf rfl ?_|refine T.seq ?_|refine T.skip ?_
 ·have hr:fe e=(dG e.name && decide (e.num=0)&& al 4 e.ty &&(dN e.fr && decide (e.label=0))):=by simp[fe,h1,dL,bY,Jk]
  rw[hr];refine ah.ob Tryz.func134 Tryz.ntmps134 rfl ?_;repeat' first|(refine ab (hK _ ?_);clear hK K)|((first|refine ae ?_|refine aa rfl (sK) ?_|refine aa rfl (Bn) ?_|refine aa rfl (qD) ?_);simp[h1];(try(refine gen2 ?_ ?_<;>intro hq<;>try simp[h1]at hq)))|(refine T.ret (az.data (Or.inr rfl) ?_ ?_)<;>simp[Tryz.results134, *]<;>omega)|refine T.r0 fun K hK=>?_|refine T.ct rfl ?_|refine T.cf rfl ?_|refine T.seq ?_|refine T.skip ?_
 ·have hr:fe e=(decide (e.name=[])&& decide (e.num=0)&& al 4 e.ty &&(dN e.fr && decide (e.label=0))):=by simp[fe,h1,dL,bY,Jk]
  have Ka:e.name=[]->dG e.name=false:=fun h=>by rw[h];rfl
  rw[hr];by_cases cY:e.name=[]
  ·rw[Ka cY,cY]at sK;refine ah.ob Tryz.func134 Tryz.ntmps134 rfl ?_;repeat' first|(refine ab (hK _ ?_);clear hK K)|((first|refine ae ?_|refine aa rfl (sK) ?_|refine aa rfl (Bn) ?_|refine aa rfl (qD) ?_);simp[h1,cY];(try(refine gen2 ?_ ?_<;>intro hq<;>try simp[h1,cY]at hq)))|(refine T.ret (az.data (Or.inr rfl) ?_ ?_)<;>simp[Tryz.results134, *]<;>omega)|refine T.r0 fun K hK=>?_|refine T.ct rfl ?_|refine T.cf rfl ?_|refine T.seq ?_|refine T.skip ?_
  ·generalize dG e.name=nb at sK;refine ah.ob Tryz.func134 Tryz.ntmps134 rfl ?_;repeat' first|(refine ab (hK _ ?_);clear hK K)|((first|refine ae ?_|refine aa rfl (sK) ?_);simp[h1,cY];(try(refine gen2 ?_ ?_<;>intro hq<;>try simp[h1,cY]at hq)))|(refine T.ret (az.data (Or.inr rfl) ?_ ?_)<;>simp[Tryz.results134, *]<;>omega)|refine T.r0 fun K hK=>?_|refine T.ct rfl ?_|refine T.seq ?_
 ·exact absurd h1 hk
 ·have hr:fe e=(decide (e.name=[])&&(decide (0<=e.num)&& decide (e.num<=999))&& dN e.ty &&(dN e.fr && decide (e.label=0))):=by simp[fe,h1,dL,bY,mK]
  have Ka:e.name=[]->dG e.name=false:=fun h=>by rw[h];rfl
  rw[hr];by_cases cY:e.name=[]
  ·rw[Ka cY,cY]at sK;refine ah.ob Tryz.func134 Tryz.ntmps134 rfl ?_;repeat' first|(refine ab (hK _ ?_);clear hK K)|((first|refine ae ?_|refine aa rfl (sK) ?_|refine aa rfl (kJ) ?_|refine aa rfl (qD) ?_);simp[h1,cY];(try(refine gen2 ?_ ?_<;>intro hq<;>try simp[h1,cY]at hq)))|(refine T.ret (az.data (Or.inr rfl) ?_ ?_)<;>simp[Tryz.results134, *]<;>omega)|refine T.r0 fun K hK=>?_|refine T.ct rfl ?_|refine T.cf rfl ?_|refine T.seq ?_|refine T.skip ?_
  ·generalize dG e.name=nb at sK;refine ah.ob Tryz.func134 Tryz.ntmps134 rfl ?_;repeat' first|(refine ab (hK _ ?_);clear hK K)|((first|refine ae ?_|refine aa rfl (sK) ?_);simp[h1,cY];(try(refine gen2 ?_ ?_<;>intro hq<;>try simp[h1,cY]at hq)))|(refine T.ret (az.data (Or.inr rfl) ?_ ?_)<;>simp[Tryz.results134, *]<;>omega)|refine T.r0 fun K hK=>?_|refine T.ct rfl ?_|refine T.seq ?_
 ·have hr:fe e=(decide (e.name=[])&& decide (e.num=0)&& dN e.ty &&(dN e.fr && decide (e.label=0))):=by simp[fe,h1,h2,h3,h4,h5,dL,bY,Jk]
  have Ka:e.name=[]->dG e.name=false:=fun h=>by rw[h];rfl
  rw[hr];by_cases cY:e.name=[]
  ·rw[Ka cY,cY]at sK;refine ah.ob Tryz.func134 Tryz.ntmps134 rfl ?_;repeat' first|(refine ab (hK _ ?_);clear hK K)|((first|refine ae ?_|refine aa rfl (sK) ?_|refine aa rfl (kJ) ?_|refine aa rfl (qD) ?_);simp[h1,h2,h3,h4,h5,cY];(try(refine gen2 ?_ ?_<;>intro hq<;>try simp[h1,h2,h3,h4,h5,cY]at hq)))|(refine T.ret (az.data (Or.inr rfl) ?_ ?_)<;>simp[Tryz.results134, *]<;>omega)|refine T.r0 fun K hK=>?_|refine T.ct rfl ?_|refine T.cf rfl ?_|refine T.seq ?_|refine T.skip ?_
  ·generalize dG e.name=nb at sK;refine ah.ob Tryz.func134 Tryz.ntmps134 rfl ?_;repeat' first|(refine ab (hK _ ?_);clear hK K)|((first|refine ae ?_|refine aa rfl (sK) ?_);simp[h1,h2,h3,h4,h5,cY];(try(refine gen2 ?_ ?_<;>intro hq<;>try simp[h1,h2,h3,h4,h5,cY]at hq)))|(refine T.ret (az.data (Or.inr rfl) ?_ ?_)<;>simp[Tryz.results134, *]<;>omega)|refine T.r0 fun K hK=>?_|refine T.ct rfl ?_|refine T.seq ?_
theorem Fe (e:ak) (hl:e.kids.length<=1099511627776) (ht:dF e.ty<=1099511627776) (hf:dF e.fr<=1099511627776):ah YC 131 [cE e] [] (.b (fT e)) [] []:=by
 have gd:=Bm e.kind;have sK:=yG e.name;have Bn:=gy e.ty ht;have kJ:=uu e.ty;have qD:=uu e.fr;have Jl:=yh e.fr e.ty hf ht;have NA:=CQ e.label;have yi:=wy e.num 0 0;have NB:=wy e.num 0 999;by_cases ov:cL e.kind=e.kids.length
 rotate_left
 ·rw[show fT e=false by simp[fT,ov]];refine ah.ob Tryz.func131 Tryz.ntmps131 rfl ?_;repeat' first|((first|refine ab (hK _ ?_)|refine aB (hK _ ?_));clear hK K)|((first|(first|refine ae ?_|refine aG ?_)|refine aa rfl (gd) ?_);simp[ov];(try(refine gen2 ?_ ?_<;>intro hq<;>try simp[ov]at hq)))|(refine T.ret (az.data (Or.inr rfl) ?_ ?_)<;>simp[Tryz.results131]<;>omega)|refine T.r0 fun K hK=>?_|refine T.rd mixed (fun _=>false) [] (by kernel_rfl) fun K hK=>?_|refine T.ct rfl ?_|refine T.seq ?_
 rw[show fT e=fe e by simp[fT,ov]];rw[ov]at gd;rcases wA e.kind with h1|h1|h1|h1|h1|⟨h1,h2,h3,h4,h5⟩
 ·have hr:fe e=(dG e.name && mK e.num 0 0 && dN e.ty &&(dN e.fr && decide (e.label=0))):=by simp[fe,h1,dL,bY]
  rw[hr];rw[h1]at gd;generalize mK e.num 0 0=i0 at yi;refine ah.ob Tryz.func131 Tryz.ntmps131 rfl ?_;repeat' first|((first|refine ab (hK _ ?_)|refine aB (hK _ ?_));clear hK K)|((first|(first|refine ae ?_|refine aG ?_)|refine aa rfl (gd) ?_|refine aa rfl (sK) ?_|refine aa rfl (yi) ?_|refine aa rfl (kJ) ?_|refine aa rfl (qD) ?_);simp[h1];(try(refine gen2 ?_ ?_<;>intro hq<;>try simp[h1]at hq)))|(refine T.ret (az.data (Or.inr rfl) ?_ ?_)<;>simp[Tryz.results131, *]<;>omega)|refine T.r0 fun K hK=>?_|refine T.r1 fun K hK=>?_|refine T.rd mixed (fun _=>false) [] (by kernel_rfl) fun K hK=>?_|refine T.ct rfl ?_|refine T.cf rfl ?_|refine T.seq ?_|refine T.block ?_|refine T.skip ?_
 ·have hr:fe e=(dG e.name && mK e.num 0 0 && al 4 e.ty &&(dN e.fr && decide (e.label=0))):=by simp[fe,h1,dL,bY]
  rw[hr];rw[h1]at gd;generalize mK e.num 0 0=i0 at yi;refine ah.ob Tryz.func131 Tryz.ntmps131 rfl ?_;repeat' first|((first|refine ab (hK _ ?_)|refine aB (hK _ ?_));clear hK K)|((first|(first|refine ae ?_|refine aG ?_)|refine aa rfl (gd) ?_|refine aa rfl (sK) ?_|refine aa rfl (yi) ?_|refine aa rfl (Bn) ?_|refine aa rfl (qD) ?_);simp[h1];(try(refine gen2 ?_ ?_<;>intro hq<;>try simp[h1]at hq)))|(refine T.ret (az.data (Or.inr rfl) ?_ ?_)<;>simp[Tryz.results131, *]<;>omega)|refine T.r0 fun K hK=>?_|refine T.r1 fun K hK=>?_|refine T.rd mixed (fun _=>false) [] (by kernel_rfl) fun K hK=>?_|refine T.ct rfl ?_|refine T.cf rfl ?_|refine T.seq ?_|refine T.block ?_|refine T.skip ?_
 ·have hr:fe e=(decide (e.name=[])&& mK e.num 0 0 && al 4 e.ty &&(dN e.fr && decide (e.label=0))):=by simp[fe,h1,dL,bY]
  rw[hr];rw[h1]at gd;generalize mK e.num 0 0=i0 at yi;refine ah.ob Tryz.func131 Tryz.ntmps131 rfl ?_;repeat' first|((first|refine ab (hK _ ?_)|refine aB (hK _ ?_));clear hK K)|((first|(first|refine ae ?_|refine aG ?_)|refine aa rfl (gd) ?_|refine aa rfl (yi) ?_|refine aa rfl (Bn) ?_|refine aa rfl (qD) ?_);simp[h1];(try(refine gen2 ?_ ?_<;>intro hq<;>try simp[h1]at hq)))|(refine T.ret (az.data (Or.inr rfl) ?_ ?_)<;>simp[Tryz.results131, *]<;>omega)|refine T.r0 fun K hK=>?_|refine T.r1 fun K hK=>?_|refine T.rd mixed (fun _=>false) [] (by kernel_rfl) fun K hK=>?_|refine T.ct rfl ?_|refine T.cf rfl ?_|refine T.seq ?_|refine T.block ?_|refine T.skip ?_
 ·have hr:fe e=(decide (e.name=[])&& mK e.num 0 0 && al 4 e.ty &&((al 4 e.fr && al 4 e.ty && aD e.fr e.ty)&& CI e.label)):=by simp[fe,h1,dL,bY,oU]
  rw[hr];rw[h1]at gd;generalize mK e.num 0 0=i0 at yi;generalize uP:(al 4 e.fr && al 4 e.ty && aD e.fr e.ty)=g1 at Jl;generalize CI e.label=g2 at NA;refine ah.ob Tryz.func131 Tryz.ntmps131 rfl ?_;repeat' first|((first|refine ab (hK _ ?_)|refine aB (hK _ ?_));clear hK K)|((first|(first|refine ae ?_|refine aG ?_)|refine aa rfl (gd) ?_|refine aa rfl (yi) ?_|refine aa rfl (Bn) ?_|refine aa rfl (Jl) ?_|refine aa rfl (NA) ?_);simp[h1];(try(refine gen2 ?_ ?_<;>intro hq<;>try simp[h1]at hq)))|(refine T.ret (az.data (Or.inr rfl) ?_ ?_)<;>simp[Tryz.results131, *]<;>omega)|refine T.r0 fun K hK=>?_|refine T.r1 fun K hK=>?_|refine T.rd mixed (fun _=>false) [] (by kernel_rfl) fun K hK=>?_|refine T.ct rfl ?_|refine T.cf rfl ?_|refine T.seq ?_|refine T.block ?_|refine T.skip ?_
 ·have hr:fe e=(decide (e.name=[])&& mK e.num 0 999 && dN e.ty &&(dN e.fr && decide (e.label=0))):=by simp[fe,h1,dL,bY]
  rw[hr];rw[h1]at gd;generalize mK e.num 0 999=i0 at NB;refine ah.ob Tryz.func131 Tryz.ntmps131 rfl ?_;repeat' first|((first|refine ab (hK _ ?_)|refine aB (hK _ ?_));clear hK K)|((first|(first|refine ae ?_|refine aG ?_)|refine aa rfl (gd) ?_|refine aa rfl (NB) ?_|refine aa rfl (kJ) ?_|refine aa rfl (qD) ?_);simp[h1];(try(refine gen2 ?_ ?_<;>intro hq<;>try simp[h1]at hq)))|(refine T.ret (az.data (Or.inr rfl) ?_ ?_)<;>simp[Tryz.results131, *]<;>omega)|refine T.r0 fun K hK=>?_|refine T.r1 fun K hK=>?_|refine T.rd mixed (fun _=>false) [] (by kernel_rfl) fun K hK=>?_|refine T.ct rfl ?_|refine T.cf rfl ?_|refine T.seq ?_|refine T.block ?_|refine T.skip ?_
 ·have hr:fe e=(decide (e.name=[])&& mK e.num 0 0 && dN e.ty &&(dN e.fr && decide (e.label=0))):=by simp[fe,h1,h2,h3,h4,h5,dL,bY]
  rw[hr];generalize mK e.num 0 0=i0 at yi;refine ah.ob Tryz.func131 Tryz.ntmps131 rfl ?_;repeat' first|((first|refine ab (hK _ ?_)|refine aB (hK _ ?_));clear hK K)|((first|(first|refine ae ?_|refine aG ?_)|refine aa rfl (gd) ?_|refine aa rfl (yi) ?_|refine aa rfl (kJ) ?_|refine aa rfl (qD) ?_);simp[h1,h2,h3,h4,h5];(try(refine gen2 ?_ ?_<;>intro hq<;>try simp[h1,h2,h3,h4,h5]at hq)))|(refine T.ret (az.data (Or.inr rfl) ?_ ?_)<;>simp[Tryz.results131, *]<;>omega)|refine T.r0 fun K hK=>?_|refine T.r1 fun K hK=>?_|refine T.rd mixed (fun _=>false) [] (by kernel_rfl) fun K hK=>?_|refine T.ct rfl ?_|refine T.cf rfl ?_|refine T.seq ?_|refine T.block ?_|refine T.skip ?_
theorem cU {e:ak} (h:fa e<=1099511627776):dF e.ty<=1099511627776/\dF e.fr<=1099511627776/\e.kids.length<=1099511627776/\∀u∈e.kids,fa u<=1099511627776:=by
 rw[fS]at h;have:=jK e.kids;exact⟨by omega,by omega,by omega,fun u hu=>by have:=mq hu;omega⟩
theorem wB:∀(d:Nat) (e:ak),d<=1000->fa e<=1099511627776->ah YC 97 [cE e,.i d] [] (.i (cC d e)) [] []
 |0,e,_,hn=>by
  obtain⟨kJ,qD,CR,uw⟩:=cU hn;refine ah.ob Tryz.func97 Tryz.ntmps97 rfl ?_;repeat' first|(refine ab (hK _ ?_);clear hK K)|(refine ae ?_;simp;(try(refine gen2 ?_ ?_<;>intro hq<;>try simp at hq)))|refine T.r0 fun K hK=>?_|refine T.seq ?_|refine T.block ?_
  refine T.fJ (fun _:Unit=>⟨[(1,.i 0),(2,.c (.ptr 0 0)),(5,.i 1),(6,.i 0)],[(cE e).cells],[]⟩) (fun _=>0) (fun _=>True) (fun _ _=>?_) () trivial (by simp);repeat' first|(refine ab (hK _ ?_);clear hK K)|(refine ae ?_;simp;(try simp(disch:=omega)only[wrap64]);(try(refine gen2 ?_ ?_<;>intro hq<;>try simp at hq)))|(refine T.ret (az.data (Or.inr rfl) ?_ ?_)<;>simp[Tryz.results97,cC]<;>omega)|refine T.r0 fun K hK=>?_|refine T.cf rfl ?_|refine T.seq ?_|refine T.exit ?_
 |d+1,e,hd,hn=>by
  obtain⟨kJ,qD,CR,uw⟩:=cU hn;have gE:(0:Int)<(d:Int)+1:=by omega
  have j3:=wi (d+1) e;obtain⟨R,hR⟩:∃R,cC (d+1) e=R:=⟨_,rfl⟩;rw[hR]at j3⊢;refine ah.ob Tryz.func97 Tryz.ntmps97 rfl ?_;repeat' first|(refine ab (hK _ ?_);clear hK K)|(refine ae ?_;simp;(try(refine gen2 ?_ ?_<;>intro hq<;>try simp at hq)))|refine T.r0 fun K hK=>?_|refine T.seq ?_|refine T.block ?_
  refine T.fJ (fun x:Nat×Nat=>⟨[(1,.i (d+1)),(2,.c (.ptr 0 0)),(5,.i x.2),(6,.i x.1)],[(cE e).cells],[]⟩) (fun x=>e.kids.length+1-x.1) (fun x=>x.1<=e.kids.length/\x.2+((e.kids.drop x.1).map (cC d)).sum=R) (fun x hx=>?_) (0,1) (by simpa[cC]using hR) (by simp);obtain⟨p,k⟩:=x;obtain⟨hi,he⟩:=hx;dsimp only at hi he⊢;by_cases ax:p<e.kids.length
  ·obtain⟨u,ht⟩:=bz ax;have eJ:u∈e.kids:=YD ht;have bg:e.kids[p]=u:=by rw[YE ax]at ht;exact Option.some.inj ht
   have iY:e.kids.drop p=u::e.kids.drop (p+1):=by rw[YG ax,bg]
   have hu:=wB d u (by omega) (uw u eJ);rw[iY,List.map_cons,List.sum_cons]at he;generalize cC d u=cu at hu he;repeat' first|(refine ab (hK _ ?_);clear hK K)|(refine ae ?_;simp[ax,bg,gE];(try simp(disch:=omega)only[wrap64]);(try(refine gen2 ?_ ?_<;>intro hq<;>try simp[ax,bg,gE]at hq)))|(refine aa rfl (hu) ?_;simp[ax,bg,gE];(try simp(disch:=omega)only[wrap64]);(try(refine gen2 ?_ ?_<;>intro hq<;>try simp[ax,bg,gE]at hq)))|(refine⟨(p+1,k+cu),by dsimp only;omega,⟨by dsimp only;omega,by dsimp only;omega⟩,rfl,rfl,?_⟩;simp(disch:=omega) [wrap64])|refine T.r0 fun K hK=>?_|refine T.r1 fun K hK=>?_|refine T.ct rfl ?_|refine T.seq ?_|refine T.block ?_|refine T.skip ?_
  ·have eb:p=e.kids.length:=by omega
   subst eb;simp at he;repeat' first|(refine ab (hK _ ?_);clear hK K)|(refine ae ?_;simp[ax];(try(refine gen2 ?_ ?_<;>intro hq<;>try simp[ax]at hq)))|(refine T.ret (az.data (Or.inr rfl) ?_ ?_)<;>simp[Tryz.results97,he]<;>omega)|refine T.r0 fun K hK=>?_|refine T.cf rfl ?_|refine T.seq ?_|refine T.exit ?_
theorem Jm (mn md nt:Int) (QL:mn<=1000) (Vz:md<=1000):∀(e:ak),fa e<=1099511627776->∀(deep c:Int),0<=c->c<=1000->0<=deep->
  ah YC 91 [cE e,.i deep,.i mn,.i md,.i nt,.c (.ptr 0 0)] (dV [[.i c]]) (.b (j8 mn md nt deep e c).1) (dV [[.i (j8 mn md nt deep e c).2]]) []:=by
 intro e;induction e using ak.ind with
 |h e ih=>
  intro hn deep c h0 hc VB;obtain⟨kJ,qD,CR,uw⟩:=cU hn;have D0:=Fe e CR kJ qD;rw[s6];by_cases q1:mn<c+1
  ·rw[if_pos (by simp[q1])];refine ah.ob Tryz.func91 Tryz.ntmps91 rfl ?_;repeat' first|(refine ab (hK _ ?_);clear hK K)|(refine ae ?_;simp[q1];(try simp(disch:=omega)only[wrap64]);(try(refine gen2 ?_ ?_<;>intro hq<;>try simp[q1]at hq)))|(refine T.ret (az.uX (Or.inr rfl) ?_ ?_ ?_)<;>simp[Tryz.results91]<;>omega)|refine T.r0 fun K hK=>?_|refine T.ct rfl ?_|refine T.seq ?_
  by_cases q2:md<deep
  ·rw[if_pos (by simp[q2])];refine ah.ob Tryz.func91 Tryz.ntmps91 rfl ?_;repeat' first|(refine ab (hK _ ?_);clear hK K)|(refine ae ?_;simp[q1,q2];(try simp(disch:=omega)only[wrap64]);(try(refine gen2 ?_ ?_<;>intro hq<;>try simp[q1,q2]at hq)))|(refine T.ret (az.uX (Or.inr rfl) ?_ ?_ ?_)<;>simp[Tryz.results91]<;>omega)|refine T.r0 fun K hK=>?_|refine T.ct rfl ?_|refine T.seq ?_
  by_cases q3:e.kind=nt
  ·rw[if_pos (by simp[q3])];refine ah.ob Tryz.func91 Tryz.ntmps91 rfl ?_;repeat' first|(refine ab (hK _ ?_);clear hK K)|(refine ae ?_;simp[q1,q2,q3];(try simp(disch:=omega)only[wrap64]);(try(refine gen2 ?_ ?_<;>intro hq<;>try simp[q1,q2,q3]at hq)))|(refine T.ret (az.uX (Or.inr rfl) ?_ ?_ ?_)<;>simp[Tryz.results91]<;>omega)|refine T.r0 fun K hK=>?_|refine T.ct rfl ?_|refine T.seq ?_
  cases hN:fT e
  ·rw[if_pos (by simp)];rw[hN]at D0;refine ah.ob Tryz.func91 Tryz.ntmps91 rfl ?_;repeat' first|(refine ab (hK _ ?_);clear hK K)|(refine ae ?_;simp[q1,q2,q3];(try simp(disch:=omega)only[wrap64]);(try(refine gen2 ?_ ?_<;>intro hq<;>try simp[q1,q2,q3]at hq)))|(refine aa rfl (D0) ?_;simp[q1,q2,q3];(try simp(disch:=omega)only[wrap64]);(try(refine gen2 ?_ ?_<;>intro hq<;>try simp[q1,q2,q3]at hq)))|(refine T.ret (az.uX (Or.inr rfl) ?_ ?_ ?_)<;>simp[Tryz.results91]<;>omega)|refine T.r0 fun K hK=>?_|refine T.ct rfl ?_|refine T.seq ?_
  rw[hN]at D0;rw[if_neg (by simp[q1,q2,q3])];obtain⟨R,hR⟩:∃R,kW mn md nt (deep+1) e.kids (c+1)=R:=⟨_,rfl⟩;rw[hR];refine ah.ob Tryz.func91 Tryz.ntmps91 rfl ?_;repeat' first|(refine ab (hK _ ?_);clear hK K)|(refine ae ?_;simp[q1,q2,q3];(try simp(disch:=omega)only[wrap64]);(try(refine gen2 ?_ ?_<;>intro hq<;>try simp[q1,q2,q3]at hq)))|(refine aa rfl (D0) ?_;simp[q1,q2,q3];(try simp(disch:=omega)only[wrap64]);(try(refine gen2 ?_ ?_<;>intro hq<;>try simp[q1,q2,q3]at hq)))|refine T.r0 fun K hK=>?_|refine T.cf rfl ?_|refine T.seq ?_|refine T.block ?_|refine T.skip ?_
  refine T.fJ (fun x:Nat×Int×List (List CV)=>⟨[(1,.i deep),(2,.i mn),(3,.i md),(4,.i nt),(5,.c (.ptr 0 0)),(6,.c (.ptr 1 0)),(42,.l (e.kids.map eK)),(43,.i e.kids.length),(44,.i x.1)],[.d (.i x.2.1)]::(cE e).cells::x.2.2,[]⟩) (fun x=>e.kids.length+1-x.1) (fun x=>x.1<=e.kids.length/\0<=x.2.1/\x.2.1<=mn/\kW mn md nt (deep+1) (e.kids.drop x.1) x.2.1=R) (fun x hx=>?_) (0,c+1,[]) (by simpa using⟨by omega,by omega,hR⟩) (by simp);obtain⟨p,k,G⟩:=x;obtain⟨hi,gx,gF,he⟩:=hx;dsimp only at hi gx gF he⊢;by_cases ax:p<e.kids.length
  ·obtain⟨u,ht⟩:=bz ax;have eJ:u∈e.kids:=YD ht;have bg:e.kids[p]=u:=by rw[YE ax]at ht;exact Option.some.inj ht
   have iY:e.kids.drop p=u::e.kids.drop (p+1):=by rw[YG ax,bg]
   have hu:=ih u eJ (uw u eJ) (deep+1) k gx (by omega) (by omega);have hle:=G6 mn md nt u (deep+1) k gx;rw[iY,kW]at he;generalize j8 mn md nt (deep+1) u k=r at hu hle he;obtain⟨b,k'⟩:=r;dsimp only at hu hle he;cases b
   ·repeat' first|(refine ab (hK _ ?_);clear hK K)|(refine ae ?_;simp[ax,bg];(try simp(disch:=omega)only[wrap64]);(try(refine gen2 ?_ ?_<;>intro hq<;>try simp[ax,bg]at hq)))|(refine oT 0 [.i k] [.i k'] rfl rfl hu ?_;simp)|(refine T.ret (az.uX (Or.inr rfl) ?_ ?_ ?_)<;>simp[Tryz.results91,<-he]<;>omega)|refine T.r0 fun K hK=>?_|refine T.ct rfl ?_|refine T.seq ?_|refine T.block ?_|refine T.skip ?_
   ·obtain⟨QM,QN⟩:=hle rfl;repeat' first|(refine ab (hK _ ?_);clear hK K)|(refine ae ?_;simp[ax,bg];(try simp(disch:=omega)only[wrap64]);(try(refine gen2 ?_ ?_<;>intro hq<;>try simp[ax,bg]at hq)))|(refine oT 0 [.i k] [.i k'] rfl rfl hu ?_;simp)|(refine⟨(p+1,k',_),by dsimp only;omega,⟨by dsimp only;omega,QM,QN,by simpa using he⟩,rfl,rfl,?_⟩;simp(disch:=omega) [wrap64])|refine T.r0 fun K hK=>?_|refine T.r1 fun K hK=>?_|refine T.ct rfl ?_|refine T.cf rfl ?_|refine T.seq ?_|refine T.block ?_|refine T.skip ?_
  ·have eb:p=e.kids.length:=by omega
   subst eb;simp[kW]at he;repeat' first|(refine ab (hK _ ?_);clear hK K)|(refine ae ?_;simp[ax];(try(refine gen2 ?_ ?_<;>intro hq<;>try simp[ax]at hq)))|(refine T.ret (az.uX (Or.inr rfl) ?_ ?_ ?_)<;>simp[Tryz.results91,<-he]<;>omega)|refine T.r0 fun K hK=>?_|refine T.cf rfl ?_|refine T.seq ?_|refine T.exit ?_
end Go.Proofs.YtloolmchekcmeaaGreat
namespace Go.Proofs.YtloolmchekcmeaaGreat
attribute [-simp] Go.Av.iw Go.Av.gI Go.Av.cZ
open Go Go.Av
attribute [local irreducible] T ah b5 eK aF.kind aF.kids ak.kind ak.name ak.num ak.ty ak.fr ak.label ak.kids
attribute [local simp] aN au
set_option maxHeartbeats 4000000
attribute [local simp] Option.bind
theorem wC:ah YC 85 [] [] (ec km) [] []:=by
 refine ah.ob Tryz.func85 Tryz.ntmps85 rfl ?_;repeat' first|(refine ab (hK _ ?_);clear hK K)|(refine ae ?_;simp;(try(refine gen2 ?_ ?_<;>intro hq<;>try simp at hq)))|(refine T.ret (az.val (Or.inr rfl) ?_)<;>simp[aE,Tryz.results85]<;>omega)|refine T.r0 fun K hK=>?_
theorem rZ:ah YC 89 [] [] (ec bp) [] []:=by
 refine ah.ob Tryz.func89 Tryz.ntmps89 rfl ?_;repeat' first|(refine ab (hK _ ?_);clear hK K)|(refine ae ?_;simp;(try(refine gen2 ?_ ?_<;>intro hq<;>try simp at hq)))|(refine T.ret (az.val (Or.inr rfl) ?_)<;>simp[aE,Tryz.results89]<;>omega)|refine T.r0 fun K hK=>?_
theorem pQ:ah YC 125 [] [] (ec cx) [] []:=by
 refine ah.ob Tryz.func125 Tryz.ntmps125 rfl ?_;repeat' first|(refine ab (hK _ ?_);clear hK K)|(refine ae ?_;simp;(try(refine gen2 ?_ ?_<;>intro hq<;>try simp at hq)))|(refine T.ret (az.val (Or.inr rfl) ?_)<;>simp[aE,Tryz.results125]<;>omega)|refine T.r0 fun K hK=>?_
theorem cM:∀(t:aF),dF t<=1099511627776->ah YC 120 [ec t] [] (ec t) [] []:=by
 intro t;induction t using aF.ind with
 |h t ih=>
  intro hn;rw[ed]at hn;have hlen:=eY t.kids;refine ah.ob Tryz.func120 Tryz.ntmps120 rfl ?_;repeat' first|(refine ab (hK _ ?_);clear hK K)|(refine ae ?_;simp;(try(refine gen2 ?_ ?_<;>intro hq<;>try simp at hq)))|refine T.r0 fun K hK=>?_|refine T.seq ?_|refine T.block ?_
  refine T.dK 2 1 2 25 (row:=[.d (.i t.kind),.nil]) (by simp) (by simp) ?_;refine T.fJ (fun p:Nat=>⟨[(1,.c (.ptr 0 0)),(2,.c (.ptr 1 0)),(3,.c (.ptr 2 0)),(4,.i p)],[(ec t).cells,[.d (.i 0),.nil],[.d (.i t.kind),.own 0 p]],[{sz:=2,dE:=25,rows:=(t.kids.take p).map b5,wr:=true}]⟩) (fun p=>t.kids.length+1-p) (fun p=>p<=t.kids.length) (fun p hi=>?_) 0 (by simp) (by simp);by_cases ax:p<t.kids.length
  ·obtain⟨u,ht⟩:=bz ax;have eJ:u∈t.kids:=YD ht;have bg:t.kids[p]=u:=by rw[YE ax]at ht;exact Option.some.inj ht
   have iY:t.kids.drop p=u::t.kids.drop (p+1):=by rw[YG ax,bg]
   have hu:=ih u eJ (by have:=fi eJ;omega);have qA:t.kids.take (p+1)=t.kids.take p++[u]:=by rw[YK,ht];rfl
   have fK:min p t.kids.length=p:=by omega
   repeat' first|((first|refine ab (hK _ ?_)|refine aB (hK _ ?_));clear hK K)|((first|refine ae ?_|refine aG ?_|refine aa rfl (hu) ?_);simp[ax,bg,fK];(try simp(disch:=omega)only[wrap64]);(try(refine gen2 ?_ ?_<;>intro hq<;>try simp[ax,bg,fK]at hq)))|(refine⟨by omega,by omega,?_⟩)|(refine⟨p+1,by dsimp only;omega,by omega,?_,?_,?_⟩<;>simp(disch:=omega) [wrap64,qA,aN])|refine T.AS (id:=5) mixed (fun _=>false) [9,11] (by kernel_rfl) fun K hK=>?_|refine T.r0 fun K hK=>?_|refine T.r1 fun K hK=>?_|refine T.ct rfl ?_|refine T.seq ?_|refine T.block ?_|refine T.skip ?_
  ·have eb:p=t.kids.length:=by omega
   subst eb;repeat' first|(refine ab (hK _ ?_);clear hK K)|(refine ae ?_;simp[ax];(try(refine gen2 ?_ ?_<;>intro hq<;>try simp[ax]at hq)))|(refine T.ret (az.val (Or.inr rfl) ?_)<;>simp[aE,Tryz.results120,aN]<;>omega)|refine T.r0 fun K hK=>?_|refine T.cf rfl ?_|refine T.seq ?_|refine T.exit ?_
theorem Ff:∀(a b:aF),dF a<=1099511627776->dF b<=1099511627776->aD a b=true->ah YC 173 [ec a,ec b] [] (ec (bC a b)) [] []:=by
 intro a;induction a using aF.ind with
 |h a ih=>
  intro b hn hm Jl;have Pq:=cM a hn;have IF:=cM b hm;rw[ed]at hn hm;have hlen:=eY a.kids;by_cases gF:a.kind=1
  ·rw[show bC a b=b by rw[gh,if_pos gF]];refine ah.ob Tryz.func173 Tryz.ntmps173 rfl ?_;repeat' first|(refine ab (hK _ ?_);clear hK K)|((first|refine ae ?_|refine aa rfl (IF) ?_);simp[gF];(try(refine gen2 ?_ ?_<;>intro hq<;>(try simp[gF]at hq)<;>try(have:True:=hq;clear this hq))))|(refine T.ret (az.val (Or.inr rfl) ?_)<;>simp[aE,Tryz.results173]<;>omega)|refine T.r0 fun K hK=>?_|refine T.ct rfl ?_|refine T.seq ?_
  by_cases kn:b.kind=1
  ·rw[show bC a b=a by rw[gh,if_neg gF,if_pos kn]];refine ah.ob Tryz.func173 Tryz.ntmps173 rfl ?_;repeat' first|(refine ab (hK _ ?_);clear hK K)|((first|refine ae ?_|(refine aa ?_ (Pq) ?_;(focus(solve|simp[gF,kn]))));simp[gF,kn];(try(refine gen2 ?_ ?_<;>intro hq<;>(try simp[gF,kn]at hq)<;>try(have:True:=hq;clear this hq))))|(refine T.ret (az.val (Or.inr rfl) ?_)<;>simp[aE,Tryz.results173]<;>omega)|refine T.r0 fun K hK=>?_|refine T.ct rfl ?_|refine T.cf rfl ?_|refine T.seq ?_|refine T.skip ?_
  obtain⟨hk,hq⟩:=uo Jl gF kn;have oB:=rQ hq;rw[show bC a b=.mk a.kind (YF bC a.kids b.kids) by rw[gh,if_neg gF,if_neg kn]];refine ah.ob Tryz.func173 Tryz.ntmps173 rfl ?_;repeat' first|(refine ab (hK _ ?_);clear hK K)|(refine ae ?_;simp[gF,kn];(try(refine gen2 ?_ ?_<;>intro hq<;>(try simp[gF,kn]at hq)<;>try(have:True:=hq;clear this hq))))|refine T.r0 fun K hK=>?_|refine T.cf rfl ?_|refine T.seq ?_|refine T.block ?_|refine T.skip ?_
  refine T.dK 3 1 2 25 (row:=[.d (.i a.kind),.nil]) (by simp) (by simp) ?_;refine T.fJ (fun p:Nat=>⟨[(2,.c (.ptr 0 0)),(3,.c (.ptr 1 0)),(4,.c (.ptr 2 0)),(5,.c (.ptr 3 0)),(6,.i p)],[(ec a).cells,(ec b).cells,[.d (.i 0),.nil],[.d (.i a.kind),.own 0 p]],[{sz:=2,dE:=25,rows:=((YF bC a.kids b.kids).take p).map b5,wr:=true}]⟩) (fun p=>a.kids.length+1-p) (fun p=>p<=a.kids.length) (fun p hi=>?_) 0 (by simp) (by simp);have qt:(YF bC a.kids b.kids).length=a.kids.length:=by simp[oB]
  by_cases ax:p<a.kids.length
  ·obtain⟨u,ht⟩:=bz ax;have eJ:u∈a.kids:=YD ht;have bg:a.kids[p]=u:=by rw[YE ax]at ht;exact Option.some.inj ht
   have iY:a.kids.drop p=u::a.kids.drop (p+1):=by rw[YG ax,bg]
   have eR:p<b.kids.length:=by omega
   obtain⟨v,hv⟩:=bz eR;have Nz:v∈b.kids:=YD hv;have qC:b.kids[p]=v:=by rw[YE eR]at hv;exact Option.some.inj hv
   have hu:=ih u eJ v (by have:=fi eJ;omega) (by have:=fi Nz;omega) (zy hq ht hv);have hz:(YF bC a.kids b.kids)[p]? =some (bC u v):=by rw[List.getElem?_zipWith,ht,hv]
   have qA:(YF bC a.kids b.kids).take (p+1)=(YF bC a.kids b.kids).take p++[bC u v]:=by rw[YK,hz];rfl
   have fK:min p a.kids.length=p:=by omega
   have SJ:min p b.kids.length=p:=by omega
   generalize hZ:YF bC a.kids b.kids=Z at*;have Hj:min p Z.length=p:=by omega
   generalize bC u v=mm at*;repeat' first|((first|refine ab (hK _ ?_)|refine aB (hK _ ?_));clear hK K)|((first|refine ae ?_|refine aG ?_|refine aa rfl (hu) ?_);simp[ax,bg,eR,qC,Hj];(try simp(disch:=omega)only[wrap64]);(try(refine gen2 ?_ ?_<;>intro hq<;>(try simp[ax,bg,eR,qC,Hj]at hq)<;>try(have:True:=hq;clear this hq))))|(refine⟨by omega,by omega,?_⟩)|(refine⟨p+1,by dsimp only;omega,by omega,?_,?_,?_⟩<;>simp(disch:=omega) [wrap64,qA,aN,Hj])|refine T.AS (id:=9) mixed (fun _=>false) [14,16] (by kernel_rfl) fun K hK=>?_|refine T.r0 fun K hK=>?_|refine T.r1 fun K hK=>?_|refine T.ct rfl ?_|refine T.seq ?_|refine T.block ?_|refine T.skip ?_
  ·have eb:p=a.kids.length:=by omega
   subst eb;rw[List.take_of_length_le (by omega)];generalize hZ:YF bC a.kids b.kids=Z at*;repeat' first|(refine ab (hK _ ?_);clear hK K)|(refine ae ?_;simp[ax];(try(refine gen2 ?_ ?_<;>intro hq<;>(try simp[ax]at hq)<;>try(have:True:=hq;clear this hq))))|(refine T.ret (az.val (Or.inr rfl) ?_)<;>simp[aE,Tryz.results173,qt,aN]<;>omega)|refine T.r0 fun K hK=>?_|refine T.cf rfl ?_|refine T.seq ?_|refine T.exit ?_
theorem yJ (t:aF) (ok:Bool):ah YC 145 [ec t,.b ok] [] (.aZ [ec (if ok=true then t else aX),.b ok]) [] []:=by
 cases ok
 ·refine ah.ob Tryz.func145 Tryz.ntmps145 rfl ?_;repeat' first|(refine ab (hK _ ?_);clear hK K)|(refine ae ?_;simp;(try(refine gen2 ?_ ?_<;>intro hq<;>try simp at hq)))|(refine T.ret (az.aZ (Or.inr rfl) ?_)<;>simp[aE,Tryz.results145]<;>omega)|refine T.r0 fun K hK=>?_|refine T.ct rfl ?_|refine T.seq ?_
 ·refine ah.ob Tryz.func145 Tryz.ntmps145 rfl ?_;repeat' first|(refine ab (hK _ ?_);clear hK K)|(refine ae ?_;simp;(try(refine gen2 ?_ ?_<;>intro hq<;>try simp at hq)))|(refine T.ret (az.aZ (Or.inr rfl) ?_)<;>simp[aE,Tryz.results145]<;>omega)|refine T.r0 fun K hK=>?_|refine T.cf rfl ?_|refine T.seq ?_|refine T.skip ?_
theorem qY (k:Int) (t:aF) (hn:dF t<=1099511627776) (hl:t.kind=k->2<=t.kids.length):
  ah YC 172 [.i k,ec t] [] (.aZ (match cQ k t with|some (a,b)=>[ec a,ec b,.b true]|none=>[ec aX,ec aX,.b false])) [] []:=by
 have Fg:=wC;simp only[cQ];by_cases gF:t.kind=1
 ·rw[if_pos gF];dsimp only;refine ah.ob Tryz.func172 Tryz.ntmps172 rfl ?_;repeat' first|(refine ab (hK _ ?_);clear hK K)|((first|refine ae ?_|refine aa rfl (Fg) ?_);simp[gF];(try(refine gen2 ?_ ?_<;>intro hq<;>try simp[gF]at hq)))|(refine T.ret (az.aZ (Or.inr rfl) ?_)<;>simp[aE,Tryz.results172]<;>omega)|refine T.r0 fun K hK=>?_|refine T.ct rfl ?_|refine T.seq ?_
 rw[if_neg gF];by_cases hk:t.kind=k
 rotate_left
 ·rw[if_neg hk];dsimp only;refine ah.ob Tryz.func172 Tryz.ntmps172 rfl ?_;repeat' first|(refine ab (hK _ ?_);clear hK K)|(refine ae ?_;simp[gF,hk];(try(refine gen2 ?_ ?_<;>intro hq<;>try simp[gF,hk]at hq)))|(refine T.ret (az.aZ (Or.inr rfl) ?_)<;>simp[aE,Tryz.results172]<;>omega)|refine T.r0 fun K hK=>?_|refine T.ct rfl ?_|refine T.cf rfl ?_|refine T.seq ?_|refine T.skip ?_
 rw[if_pos hk];have rA:=hl hk
 match kp:t.kids,rA with
 |a::b::r,_=>
  dsimp only;rw[ed,kp]at hn;have NC:¬k=1:=by rw[<-hk];exact gF
  have ha:=cM a (by simp[aL]at hn;omega);have hb:=cM b (by simp[aL]at hn;omega);refine ah.ob Tryz.func172 Tryz.ntmps172 rfl ?_;repeat' first|((first|refine ab (hK _ ?_)|refine aB (hK _ ?_));clear hK K)|((first|refine ae ?_|refine aG ?_|refine aa rfl (ha) ?_|refine aa rfl (hb) ?_);simp[NC,hk,kp];(try(refine gen2 ?_ ?_<;>intro hq<;>try simp[NC,hk,kp]at hq)))|(refine T.ret (az.aZ (Or.inr rfl) ?_)<;>simp[aE,Tryz.results172]<;>omega)|refine T.rd (id:=5) mixed (fun _=>false) [10,11] (by kernel_rfl) fun K hK=>?_|refine T.r0 fun K hK=>?_|refine T.cf rfl ?_|refine T.seq ?_|refine T.skip ?_
theorem Bo (k:Int) (a b:aF) (ha:dF a<=549755813888) (hb:dF b<=549755813885):
  ah YC 164 [.i k,ec a,ec b] [] (.aZ [ec (.mk k [a,b]),.b (al 4 (.mk k [a,b]))]) [] []:=by
 have Pq:=cM a (by omega);have IF:=cM b (by omega);have hv:=jz (.mk k [a,b]) (by rw[ed];simp[aL];omega);generalize al 4 (.mk k [a,b])=ok at*;refine ah.ob Tryz.func164 Tryz.ntmps164 rfl ?_;repeat' first|((first|refine ab (hK _ ?_)|refine aB (hK _ ?_)|refine bm (hK _ ?_));clear hK K)|((first|refine ae ?_|refine aG ?_|refine bF ?_|refine aa rfl (Pq) ?_|refine aa rfl (IF) ?_|(refine aa ?_ (hv) ?_;(focus(solve|simp))));simp)|(refine T.ret (az.aZ (Or.inr rfl) ?_)<;>simp[aE,Tryz.results164,aN]<;>omega)|refine T.pN (id:=1) mixed (fun _=>false) [7,8] [1,2,3,4,5,6] 8 [] (by kernel_rfl) fun K hK=>?_|(refine⟨?_,?_⟩;(focus(intros;refine aa rfl (Pq) ?_;simp;done)))|(refine⟨?_,?_⟩;(focus(intros;refine aa rfl (IF) ?_;simp;done)))|refine T.rd (id:=2) mixed (fun _=>false) [3] (by kernel_rfl) fun K hK=>?_|refine T.r0 fun K hK=>?_
end Go.Proofs.YtloolmchekcmeaaGreat
