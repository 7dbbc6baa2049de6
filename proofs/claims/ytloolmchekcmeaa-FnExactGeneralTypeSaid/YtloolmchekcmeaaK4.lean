/- A part of the library of this seat. -/
import Derived.Test.YtloolmchekcmeaaK3
import Derived.Test.YtloolmchekcmeaaChecked
set_option linter.unusedVariables false
set_option linter.unusedSimpArgs false
namespace Go.Proofs.Ytloolmchekcmeaa
attribute [-simp] Go.Av.get_app_len Go.Av.get_app_len0 Go.Av.set_app_len Go.Av.set_app_len0 Go.Av.freeStep Go.Av.exV Go.Av.keepL Go.Av.ups Go.Av.take_app_len
open Go Go.Av
attribute [local irreducible] T
attribute [local simp] eTy_def eTm_def

@[simp] theorem td_int : td Try.prog 3 = some { ag := false, sz := 1, by_ := 8, zero := some [.d (.int .i64 0)], el := none, ar := none, fl := [], ik := some .i64, isS := false, isB := false } := keep (by kernel_rfl)
@[simp] theorem td_bool : td Try.prog 4 = some { ag := false, sz := 1, by_ := 1, zero := some [.d (.bool false)], el := none, ar := none, fl := [], ik := none, isS := false, isB := true } := keep (by kernel_rfl)
@[simp] theorem td_string : td Try.prog 9 = some { ag := false, sz := 1, by_ := 16, zero := some [.d (.str [])], el := none, ar := none, fl := [], ik := none, isS := true, isB := false } := keep (by kernel_rfl)
@[simp] theorem td_lawsTypeS : td Try.prog 22 = some { ag := false, sz := 1, by_ := 24, zero := some [.nil], el := some 24, ar := none, fl := [], ik := none, isS := false, isB := false } := keep (by kernel_rfl)
@[simp] theorem td_lawsType : td Try.prog 24 = some { ag := true, sz := 2, by_ := 32, zero := some [.d (.int .i64 0), .nil], el := none, ar := none, fl := [(0, 1), (1, 1)], ik := none, isS := false, isB := false } := keep (by kernel_rfl)
@[simp] theorem td_lawsTermS : td Try.prog 25 = some { ag := false, sz := 1, by_ := 24, zero := some [.nil], el := some 27, ar := none, fl := [], ik := none, isS := false, isB := false } := keep (by kernel_rfl)
@[simp] theorem td_lawsTerm : td Try.prog 27 = some { ag := true, sz := 9, by_ := 128, zero := some [.d (.int .i64 0), .d (.str []), .d (.int .i64 0), .d (.int .i64 0), .nil, .d (.int .i64 0), .nil, .d (.int .i64 0), .nil], el := none, ar := none, fl := [(0, 1), (1, 1), (2, 1), (3, 2), (5, 2), (7, 1), (8, 1)], ik := none, isS := false, isB := false } := keep (by kernel_rfl)
@[simp] theorem td_implTypeS : td Try.prog 31 = some { ag := false, sz := 1, by_ := 24, zero := some [.nil], el := some 33, ar := none, fl := [], ik := none, isS := false, isB := false } := keep (by kernel_rfl)
@[simp] theorem td_implType : td Try.prog 33 = some { ag := true, sz := 2, by_ := 32, zero := some [.d (.int .i64 0), .nil], el := none, ar := none, fl := [(0, 1), (1, 1)], ik := none, isS := false, isB := false } := keep (by kernel_rfl)
@[simp] theorem td_implTermS : td Try.prog 34 = some { ag := false, sz := 1, by_ := 24, zero := some [.nil], el := some 36, ar := none, fl := [], ik := none, isS := false, isB := false } := keep (by kernel_rfl)
@[simp] theorem td_implTerm : td Try.prog 36 = some { ag := true, sz := 9, by_ := 128, zero := some [.d (.int .i64 0), .d (.str []), .d (.int .i64 0), .d (.int .i64 0), .nil, .d (.int .i64 0), .nil, .d (.int .i64 0), .nil], el := none, ar := none, fl := [(0, 1), (1, 1), (2, 1), (3, 2), (5, 2), (7, 1), (8, 1)], ik := none, isS := false, isB := false } := keep (by kernel_rfl)
theorem mixed : Try.prog.follows .mixedOrders = true := by kernel_rfl

theorem szTypeS_step (l : List MTy) (hl : l.length <= 9223372036854775807) (h : ∀ t ∈ l, ∀ left : Int, 0 <= left -> left <= 1048576 -> ACalls Try.prog 9 [aTy t, .i left] [] (.i (szM (nTy t) left)) [] []) (left : Int) (h0 : 0 <= left) (h1 : left <= 1048576) :
  ACalls Try.prog 23 [.l (l.map eTy), .i left] [] (.i (szM (nTyS l) left)) [] [] := by
 refine ACalls.of_body Try.func23 (by kernel_rfl) rfl (by kernel_rfl) (by simp [Try.ntmps23]) (by simp) ?_
 rw [Try.ntmps23]
 have hw : IntKind.i64.wrap (left - (l.length : Int)) = left - l.length := wrap64 (by omega) (by omega)
 have hsum := nTyS_sum l
 by_cases hlen : left - (l.length : Int) < 0
 ·repeat' first | (refine T.rs (fun _ => false) fun K hK => ?_; (repeat (refine aops_go ?_; simp [hw, hlen])); refine aops_end (hK _ ?_); clear hK K) | (refine T.rs1 (fun _ => false) fun K hK => ?_; (repeat (refine aops_go ?_; simp [hw, hlen])); refine aops_end (hK _ ?_); clear hK K) | refine T.cond rfl (fun hc => ?_) (fun hc => absurd hc (by decide)) | refine T.cond rfl (fun hc => absurd hc (by decide)) (fun hc => ?_) | refine T.seq ?_ | refine T.block ?_ | refine T.skip ?_ | refine T.exit ?_
  have hneg : ¬ (nTyS l : Int) <= left := by omega
  refine T.ret (Done.data (Or.inr rfl) ?_ ?_) <;> simp [Try.results23, szM, hneg]
 have hlen' : ¬ left < (l.length : Int) := by omega
 repeat' first | (refine T.rs (fun _ => false) fun K hK => ?_; (repeat (refine aops_go ?_; simp [hw, hlen, hlen'])); refine aops_end (hK _ ?_); clear hK K) | (refine T.rs1 (fun _ => false) fun K hK => ?_; (repeat (refine aops_go ?_; simp [hw, hlen, hlen'])); refine aops_end (hK _ ?_); clear hK K) | refine T.cond rfl (fun hc => ?_) (fun hc => absurd hc (by decide)) | refine T.cond rfl (fun hc => absurd hc (by decide)) (fun hc => ?_) | refine T.seq ?_ | refine T.block ?_ | refine T.skip ?_ | refine T.exit ?_
 refine T.loopF (fun p : Nat => ⟨[(0, .l (l.map eTy)), (1, .i (left - l.length - sumTy (l.take p))), (5, .i p)], [], []⟩) (fun p => l.length + 1 - p) (fun p => p <= l.length /\ 0 <= left - l.length - sumTy (l.take p)) (fun p hp => ?_) 0 (by simp [sumTy]; omega) (by simp [hw, sumTy])
 obtain ⟨hi, he⟩ := hp
 by_cases hlt : p < l.length
 ·obtain ⟨t, ht⟩ := get_lt hlt
  have htm : t ∈ l := List.mem_of_getElem? ht
  have htk := sumTy_take ht
  have hle := sumTy_le l (p + 1)
  have hgt : l[p] = t := by rw [List.getElem?_eq_getElem hlt] at ht; exact Option.some.inj ht
  repeat' first | (refine T.rs (fun _ => false) fun K hK => ?_; (repeat (refine aops_go ?_; simp [hlt])); refine aops_end (hK _ ?_); clear hK K) | (refine T.rs1 (fun _ => false) fun K hK => ?_; (repeat (refine aops_go ?_; simp [hlt])); refine aops_end (hK _ ?_); clear hK K) | refine T.cond rfl (fun hc => ?_) (fun hc => absurd hc (by decide)) | refine T.cond rfl (fun hc => absurd hc (by decide)) (fun hc => ?_) | refine T.seq ?_ | refine T.block ?_ | refine T.skip ?_ | refine T.exit ?_
  refine T.rs1 (fun _ => false) fun K hK => ?_
  repeat (refine aops_go ?_; simp [hlt, hgt])
  refine wpcall_pure (by simp) (h t htm _ he (by omega)) ?_
  simp
  repeat (refine aops_go ?_; simp)
  refine aops_end (hK _ ?_)
  clear hK K
  by_cases hq : szM (nTy t) (left - l.length - sumTy (l.take p)) < 0
  ·repeat' first | (refine T.rs (fun _ => false) fun K hK => ?_; (repeat (refine aops_go ?_; simp [hq])); refine aops_end (hK _ ?_); clear hK K) | (refine T.rs1 (fun _ => false) fun K hK => ?_; (repeat (refine aops_go ?_; simp [hq])); refine aops_end (hK _ ?_); clear hK K) | refine T.cond rfl (fun hc => ?_) (fun hc => absurd hc (by decide)) | refine T.cond rfl (fun hc => absurd hc (by decide)) (fun hc => ?_) | refine T.seq ?_ | refine T.block ?_ | refine T.skip ?_ | refine T.exit ?_
   have hneg : ¬ (nTyS l : Int) <= left := by
    simp only [szM] at hq
    split at hq <;> omega
   refine T.ret (Done.data (Or.inr rfl) ?_ ?_) <;> simp [Try.results23, szM, hneg]
  ·have hq2 : szM (nTy t) (left - l.length - sumTy (l.take p)) = left - l.length - sumTy (l.take (p + 1)) := by
    simp only [szM] at hq ⊢
    split at hq <;> split <;> omega
   repeat' first | (refine T.rs (fun _ => false) fun K hK => ?_; (repeat (refine aops_go ?_; simp [hq])); refine aops_end (hK _ ?_); clear hK K) | (refine T.rs1 (fun _ => false) fun K hK => ?_; (repeat (refine aops_go ?_; simp [hq])); refine aops_end (hK _ ?_); clear hK K) | refine T.cond rfl (fun hc => ?_) (fun hc => absurd hc (by decide)) | refine T.cond rfl (fun hc => absurd hc (by decide)) (fun hc => ?_) | refine T.seq ?_ | refine T.block ?_ | refine T.skip ?_ | refine T.exit ?_
   refine ⟨p + 1, by dsimp only; omega, ⟨by omega, by rw [<- hq2]; omega⟩, ?_⟩
   have hw2 : IntKind.i64.wrap ((p : Int) + 1) = p + 1 := wrap64 (by omega) (by omega)
   simp [hw2, hq2]
 ·have hp' : p = l.length := by omega
  subst hp'
  repeat' first | (refine T.rs (fun _ => false) fun K hK => ?_; (repeat (refine aops_go ?_; simp [hlt])); refine aops_end (hK _ ?_); clear hK K) | (refine T.rs1 (fun _ => false) fun K hK => ?_; (repeat (refine aops_go ?_; simp [hlt])); refine aops_end (hK _ ?_); clear hK K) | refine T.cond rfl (fun hc => ?_) (fun hc => absurd hc (by decide)) | refine T.cond rfl (fun hc => absurd hc (by decide)) (fun hc => ?_) | refine T.seq ?_ | refine T.block ?_ | refine T.skip ?_ | refine T.exit ?_
  have hpos : (nTyS l : Int) <= left := by rw [List.take_length] at he; omega
  refine T.ret (Done.data (Or.inr rfl) ?_ ?_) <;> simp [Try.results23, szM, hpos]
  omega

theorem szTermS_step (l : List MTm) (hl : l.length <= 9223372036854775807) (h : ∀ t ∈ l, ∀ left : Int, 0 <= left -> left <= 1048576 -> ACalls Try.prog 4 [aTm t, .i left] [] (.i (szM (nTm t) left)) [] []) (left : Int) (h0 : 0 <= left) (h1 : left <= 1048576) :
  ACalls Try.prog 10 [.l (l.map eTm), .i left] [] (.i (szM (nTmS l) left)) [] [] := by
 refine ACalls.of_body Try.func10 (by kernel_rfl) rfl (by kernel_rfl) (by simp [Try.ntmps10]) (by simp) ?_
 rw [Try.ntmps10]
 have hw : IntKind.i64.wrap (left - (l.length : Int)) = left - l.length := wrap64 (by omega) (by omega)
 have hsum := nTmS_sum l
 by_cases hlen : left - (l.length : Int) < 0
 ·repeat' first | (refine T.rs (fun _ => false) fun K hK => ?_; (repeat (refine aops_go ?_; simp [hw, hlen])); refine aops_end (hK _ ?_); clear hK K) | (refine T.rs1 (fun _ => false) fun K hK => ?_; (repeat (refine aops_go ?_; simp [hw, hlen])); refine aops_end (hK _ ?_); clear hK K) | refine T.cond rfl (fun hc => ?_) (fun hc => absurd hc (by decide)) | refine T.cond rfl (fun hc => absurd hc (by decide)) (fun hc => ?_) | refine T.seq ?_ | refine T.block ?_ | refine T.skip ?_ | refine T.exit ?_
  have hneg : ¬ (nTmS l : Int) <= left := by omega
  refine T.ret (Done.data (Or.inr rfl) ?_ ?_) <;> simp [Try.results10, szM, hneg]
 have hlen' : ¬ left < (l.length : Int) := by omega
 repeat' first | (refine T.rs (fun _ => false) fun K hK => ?_; (repeat (refine aops_go ?_; simp [hw, hlen, hlen'])); refine aops_end (hK _ ?_); clear hK K) | (refine T.rs1 (fun _ => false) fun K hK => ?_; (repeat (refine aops_go ?_; simp [hw, hlen, hlen'])); refine aops_end (hK _ ?_); clear hK K) | refine T.cond rfl (fun hc => ?_) (fun hc => absurd hc (by decide)) | refine T.cond rfl (fun hc => absurd hc (by decide)) (fun hc => ?_) | refine T.seq ?_ | refine T.block ?_ | refine T.skip ?_ | refine T.exit ?_
 refine T.loopF (fun p : Nat => ⟨[(0, .l (l.map eTm)), (1, .i (left - l.length - sumTm (l.take p))), (5, .i p)], [], []⟩) (fun p => l.length + 1 - p) (fun p => p <= l.length /\ 0 <= left - l.length - sumTm (l.take p)) (fun p hp => ?_) 0 (by simp [sumTm]; omega) (by simp [hw, sumTm])
 obtain ⟨hi, he⟩ := hp
 by_cases hlt : p < l.length
 ·obtain ⟨t, ht⟩ := get_lt hlt
  have htm : t ∈ l := List.mem_of_getElem? ht
  have htk := sumTm_take ht
  have hle := sumTm_le l (p + 1)
  have hgt : l[p] = t := by rw [List.getElem?_eq_getElem hlt] at ht; exact Option.some.inj ht
  repeat' first | (refine T.rs (fun _ => false) fun K hK => ?_; (repeat (refine aops_go ?_; simp [hlt])); refine aops_end (hK _ ?_); clear hK K) | (refine T.rs1 (fun _ => false) fun K hK => ?_; (repeat (refine aops_go ?_; simp [hlt])); refine aops_end (hK _ ?_); clear hK K) | refine T.cond rfl (fun hc => ?_) (fun hc => absurd hc (by decide)) | refine T.cond rfl (fun hc => absurd hc (by decide)) (fun hc => ?_) | refine T.seq ?_ | refine T.block ?_ | refine T.skip ?_ | refine T.exit ?_
  refine T.rs1 (fun _ => false) fun K hK => ?_
  repeat (refine aops_go ?_; simp [hlt, hgt])
  refine wpcall_pure (by simp) (h t htm _ he (by omega)) ?_
  simp
  repeat (refine aops_go ?_; simp)
  refine aops_end (hK _ ?_)
  clear hK K
  by_cases hq : szM (nTm t) (left - l.length - sumTm (l.take p)) < 0
  ·repeat' first | (refine T.rs (fun _ => false) fun K hK => ?_; (repeat (refine aops_go ?_; simp [hq])); refine aops_end (hK _ ?_); clear hK K) | (refine T.rs1 (fun _ => false) fun K hK => ?_; (repeat (refine aops_go ?_; simp [hq])); refine aops_end (hK _ ?_); clear hK K) | refine T.cond rfl (fun hc => ?_) (fun hc => absurd hc (by decide)) | refine T.cond rfl (fun hc => absurd hc (by decide)) (fun hc => ?_) | refine T.seq ?_ | refine T.block ?_ | refine T.skip ?_ | refine T.exit ?_
   have hneg : ¬ (nTmS l : Int) <= left := by
    simp only [szM] at hq
    split at hq <;> omega
   refine T.ret (Done.data (Or.inr rfl) ?_ ?_) <;> simp [Try.results10, szM, hneg]
  ·have hq2 : szM (nTm t) (left - l.length - sumTm (l.take p)) = left - l.length - sumTm (l.take (p + 1)) := by
    simp only [szM] at hq ⊢
    split at hq <;> split <;> omega
   repeat' first | (refine T.rs (fun _ => false) fun K hK => ?_; (repeat (refine aops_go ?_; simp [hq])); refine aops_end (hK _ ?_); clear hK K) | (refine T.rs1 (fun _ => false) fun K hK => ?_; (repeat (refine aops_go ?_; simp [hq])); refine aops_end (hK _ ?_); clear hK K) | refine T.cond rfl (fun hc => ?_) (fun hc => absurd hc (by decide)) | refine T.cond rfl (fun hc => absurd hc (by decide)) (fun hc => ?_) | refine T.seq ?_ | refine T.block ?_ | refine T.skip ?_ | refine T.exit ?_
   refine ⟨p + 1, by dsimp only; omega, ⟨by omega, by rw [<- hq2]; omega⟩, ?_⟩
   have hw2 : IntKind.i64.wrap ((p : Int) + 1) = p + 1 := wrap64 (by omega) (by omega)
   simp [hw2, hq2]
 ·have hp' : p = l.length := by omega
  subst hp'
  repeat' first | (refine T.rs (fun _ => false) fun K hK => ?_; (repeat (refine aops_go ?_; simp [hlt])); refine aops_end (hK _ ?_); clear hK K) | (refine T.rs1 (fun _ => false) fun K hK => ?_; (repeat (refine aops_go ?_; simp [hlt])); refine aops_end (hK _ ?_); clear hK K) | refine T.cond rfl (fun hc => ?_) (fun hc => absurd hc (by decide)) | refine T.cond rfl (fun hc => absurd hc (by decide)) (fun hc => ?_) | refine T.seq ?_ | refine T.block ?_ | refine T.skip ?_ | refine T.exit ?_
  have hpos : (nTmS l : Int) <= left := by rw [List.take_length] at he; omega
  refine T.ret (Done.data (Or.inr rfl) ?_ ?_) <;> simp [Try.results10, szM, hpos]
  omega

theorem szType_step (t : MTy) (left : Int) (h : ACalls Try.prog 23 [.l (t.kids.map eTy), .i left] [] (.i (szM (nTyS t.kids) left)) [] []) : ACalls Try.prog 9 [aTy t, .i left] [] (.i (szM (nTy t) left)) [] [] := by
 refine ACalls.of_body Try.func9 (by kernel_rfl) rfl (by kernel_rfl) (by simp [Try.ntmps9]) (by simp) ?_
 rw [Try.ntmps9]
 rw [nTy_def]
 repeat' first | (refine T.rs (fun _ => false) fun K hK => ?_; (repeat (refine aops_go ?_; simp)); refine aops_end (hK _ ?_); clear hK K) | (refine T.rs1 (fun _ => false) fun K hK => ?_; (repeat (refine aops_go ?_; simp)); refine aops_end (hK _ ?_); clear hK K) | refine T.cond rfl (fun hc => ?_) (fun hc => absurd hc (by decide)) | refine T.cond rfl (fun hc => absurd hc (by decide)) (fun hc => ?_) | refine T.seq ?_ | refine T.block ?_ | refine T.skip ?_ | refine T.exit ?_
 refine T.rs1 (fun _ => false) fun K hK => ?_
 repeat (refine aops_go ?_; simp)
 refine wpcall_pure (by simp) (h) ?_
 simp
 repeat (refine aops_go ?_; simp)
 refine aops_end (hK _ ?_)
 clear hK K
 by_cases hq : szM (nTyS t.kids) left < 0
 ·have hneg : szM (nTyS t.kids) left = -1 := by simp only [szM] at hq ⊢; split at hq <;> split <;> omega
  repeat' first | (refine T.rs (fun _ => false) fun K hK => ?_; (repeat (refine aops_go ?_; simp [hq])); refine aops_end (hK _ ?_); clear hK K) | (refine T.rs1 (fun _ => false) fun K hK => ?_; (repeat (refine aops_go ?_; simp [hq])); refine aops_end (hK _ ?_); clear hK K) | refine T.cond rfl (fun hc => ?_) (fun hc => absurd hc (by decide)) | refine T.cond rfl (fun hc => absurd hc (by decide)) (fun hc => ?_) | refine T.seq ?_ | refine T.block ?_ | refine T.skip ?_ | refine T.exit ?_
  refine T.ret (Done.data (Or.inr rfl) ?_ ?_) <;> simp [Try.results9, hneg]
 ·repeat' first | (refine T.rs (fun _ => false) fun K hK => ?_; (repeat (refine aops_go ?_; simp [hq])); refine aops_end (hK _ ?_); clear hK K) | (refine T.rs1 (fun _ => false) fun K hK => ?_; (repeat (refine aops_go ?_; simp [hq])); refine aops_end (hK _ ?_); clear hK K) | refine T.cond rfl (fun hc => ?_) (fun hc => absurd hc (by decide)) | refine T.cond rfl (fun hc => absurd hc (by decide)) (fun hc => ?_) | refine T.seq ?_ | refine T.block ?_ | refine T.skip ?_ | refine T.exit ?_
  refine T.ret (Done.data (Or.inr rfl) ?_ ?_) <;> simp [Try.results9]

theorem szType_ok : (t : MTy) -> wTy t -> ∀ left : Int, 0 <= left -> left <= 1048576 -> ACalls Try.prog 9 [aTy t, .i left] [] (.i (szM (nTy t) left)) [] []
 | .mk k l, hw, left, h0, h1 => by
  rw [wTy_def] at hw
  exact szType_step _ _ (szTypeS_step l hw.1 (fun t ht left h0 h1 => szType_ok t (wTyS_mem hw.2 ht) left h0 h1) left h0 h1)
termination_by t => SizeOf.sizeOf t
decreasing_by have := List.sizeOf_lt_of_mem ht; simp; omega

theorem szTerm_step (e : MTm) (hw : wTm e) (left : Int) (h0 : 0 <= left) (h1 : left <= 1048576) (h : ∀ left : Int, 0 <= left -> left <= 1048576 -> ACalls Try.prog 10 [.l (e.kids.map eTm), .i left] [] (.i (szM (nTmS e.kids) left)) [] []) : ACalls Try.prog 4 [aTm e, .i left] [] (.i (szM (nTm e) left)) [] [] := by
 refine ACalls.of_body Try.func4 (by kernel_rfl) rfl (by kernel_rfl) (by simp [Try.ntmps4]) (by simp) ?_
 rw [Try.ntmps4]
 rw [wTm_def] at hw
 obtain ⟨hs, ht, hf, _, _⟩ := hw
 rw [nTm_def]
 have hwr : IntKind.i64.wrap (left - (e.name.length : Int)) = left - e.name.length := wrap64 (by omega) (by omega)
 by_cases q1 : left - (e.name.length : Int) < 0
 ·have hneg : ¬ ((e.name.length + nTy e.ty + nTy e.fr + nTmS e.kids : Nat) : Int) <= left := by omega
  have q1' : left < (e.name.length : Int) := by omega
  repeat' first | (refine T.rs (fun _ => false) fun K hK => ?_; (repeat (refine aops_go ?_; simp [hwr, q1, q1'])); refine aops_end (hK _ ?_); clear hK K) | (refine T.rs1 (fun _ => false) fun K hK => ?_; (repeat (refine aops_go ?_; simp [hwr, q1, q1'])); refine aops_end (hK _ ?_); clear hK K) | refine T.cond rfl (fun hc => ?_) (fun hc => absurd hc (by decide)) | refine T.cond rfl (fun hc => absurd hc (by decide)) (fun hc => ?_) | refine T.seq ?_ | refine T.block ?_ | refine T.skip ?_ | refine T.exit ?_
  refine T.ret (Done.data (Or.inr rfl) ?_ ?_) <;> simp [Try.results4, szM] <;> (try (intro hh; omega))
 have q1' : ¬ left < (e.name.length : Int) := by omega
 repeat' first | (refine T.rs (fun _ => false) fun K hK => ?_; (repeat (refine aops_go ?_; simp [hwr, q1, q1'])); refine aops_end (hK _ ?_); clear hK K) | (refine T.rs1 (fun _ => false) fun K hK => ?_; (repeat (refine aops_go ?_; simp [hwr, q1, q1'])); refine aops_end (hK _ ?_); clear hK K) | refine T.cond rfl (fun hc => ?_) (fun hc => absurd hc (by decide)) | refine T.cond rfl (fun hc => absurd hc (by decide)) (fun hc => ?_) | refine T.seq ?_ | refine T.block ?_ | refine T.skip ?_ | refine T.exit ?_
 refine T.rs1 (fun _ => false) fun K hK => ?_
 repeat (refine aops_go ?_; simp)
 refine wpcall_pure (by simp) (szType_ok e.ty ht (left - e.name.length) (by omega) (by omega)) ?_
 simp
 repeat (refine aops_go ?_; simp)
 refine aops_end (hK _ ?_)
 clear hK K
 by_cases q2 : szM (nTy e.ty) (left - e.name.length) < 0
 ·have hneg : ¬ ((e.name.length + nTy e.ty + nTy e.fr + nTmS e.kids : Nat) : Int) <= left := by
   simp only [szM] at q2
   split at q2 <;> omega
  repeat' first | (refine T.rs (fun _ => false) fun K hK => ?_; (repeat (refine aops_go ?_; simp [q2])); refine aops_end (hK _ ?_); clear hK K) | (refine T.rs1 (fun _ => false) fun K hK => ?_; (repeat (refine aops_go ?_; simp [q2])); refine aops_end (hK _ ?_); clear hK K) | refine T.cond rfl (fun hc => ?_) (fun hc => absurd hc (by decide)) | refine T.cond rfl (fun hc => absurd hc (by decide)) (fun hc => ?_) | refine T.seq ?_ | refine T.block ?_ | refine T.skip ?_ | refine T.exit ?_
  refine T.ret (Done.data (Or.inr rfl) ?_ ?_) <;> simp [Try.results4, szM] <;> (try (intro hh; omega))
 have e2 : szM (nTy e.ty) (left - e.name.length) = left - e.name.length - nTy e.ty /\ 0 <= left - (e.name.length : Int) - nTy e.ty := by
  simp only [szM] at q2 ⊢
  split at q2 <;> (try (rename_i hh; rw [if_pos hh])) <;> omega
 repeat' first | (refine T.rs (fun _ => false) fun K hK => ?_; (repeat (refine aops_go ?_; simp [q2])); refine aops_end (hK _ ?_); clear hK K) | (refine T.rs1 (fun _ => false) fun K hK => ?_; (repeat (refine aops_go ?_; simp [q2])); refine aops_end (hK _ ?_); clear hK K) | refine T.cond rfl (fun hc => ?_) (fun hc => absurd hc (by decide)) | refine T.cond rfl (fun hc => absurd hc (by decide)) (fun hc => ?_) | refine T.seq ?_ | refine T.block ?_ | refine T.skip ?_ | refine T.exit ?_
 rw [e2.1]
 refine T.rs1 (fun _ => false) fun K hK => ?_
 repeat (refine aops_go ?_; simp)
 refine wpcall_pure (by simp) (szType_ok e.fr hf (left - e.name.length - nTy e.ty) (by omega) (by omega)) ?_
 simp
 repeat (refine aops_go ?_; simp)
 refine aops_end (hK _ ?_)
 clear hK K
 by_cases q3 : szM (nTy e.fr) (left - e.name.length - nTy e.ty) < 0
 ·have hneg : ¬ ((e.name.length + nTy e.ty + nTy e.fr + nTmS e.kids : Nat) : Int) <= left := by
   simp only [szM] at q3
   split at q3 <;> omega
  repeat' first | (refine T.rs (fun _ => false) fun K hK => ?_; (repeat (refine aops_go ?_; simp [q3])); refine aops_end (hK _ ?_); clear hK K) | (refine T.rs1 (fun _ => false) fun K hK => ?_; (repeat (refine aops_go ?_; simp [q3])); refine aops_end (hK _ ?_); clear hK K) | refine T.cond rfl (fun hc => ?_) (fun hc => absurd hc (by decide)) | refine T.cond rfl (fun hc => absurd hc (by decide)) (fun hc => ?_) | refine T.seq ?_ | refine T.block ?_ | refine T.skip ?_ | refine T.exit ?_
  refine T.ret (Done.data (Or.inr rfl) ?_ ?_) <;> simp [Try.results4, szM] <;> (try (intro hh; omega))
 have e3 : szM (nTy e.fr) (left - e.name.length - nTy e.ty) = left - e.name.length - nTy e.ty - nTy e.fr /\ 0 <= left - (e.name.length : Int) - nTy e.ty - nTy e.fr := by
  simp only [szM] at q3 ⊢
  split at q3 <;> (try (rename_i hh; rw [if_pos hh])) <;> omega
 repeat' first | (refine T.rs (fun _ => false) fun K hK => ?_; (repeat (refine aops_go ?_; simp [q3])); refine aops_end (hK _ ?_); clear hK K) | (refine T.rs1 (fun _ => false) fun K hK => ?_; (repeat (refine aops_go ?_; simp [q3])); refine aops_end (hK _ ?_); clear hK K) | refine T.cond rfl (fun hc => ?_) (fun hc => absurd hc (by decide)) | refine T.cond rfl (fun hc => absurd hc (by decide)) (fun hc => ?_) | refine T.seq ?_ | refine T.block ?_ | refine T.skip ?_ | refine T.exit ?_
 rw [e3.1]
 refine T.rs1 (fun _ => false) fun K hK => ?_
 repeat (refine aops_go ?_; simp)
 refine wpcall_pure (by simp) (h (left - e.name.length - nTy e.ty - nTy e.fr) (by omega) (by omega)) ?_
 simp
 repeat (refine aops_go ?_; simp)
 refine aops_end (hK _ ?_)
 clear hK K
 by_cases q4 : szM (nTmS e.kids) (left - e.name.length - nTy e.ty - nTy e.fr) < 0
 ·have hneg : ¬ ((e.name.length + nTy e.ty + nTy e.fr + nTmS e.kids : Nat) : Int) <= left := by
   simp only [szM] at q4
   split at q4 <;> omega
  repeat' first | (refine T.rs (fun _ => false) fun K hK => ?_; (repeat (refine aops_go ?_; simp [q4])); refine aops_end (hK _ ?_); clear hK K) | (refine T.rs1 (fun _ => false) fun K hK => ?_; (repeat (refine aops_go ?_; simp [q4])); refine aops_end (hK _ ?_); clear hK K) | refine T.cond rfl (fun hc => ?_) (fun hc => absurd hc (by decide)) | refine T.cond rfl (fun hc => absurd hc (by decide)) (fun hc => ?_) | refine T.seq ?_ | refine T.block ?_ | refine T.skip ?_ | refine T.exit ?_
  refine T.ret (Done.data (Or.inr rfl) ?_ ?_) <;> simp [Try.results4, szM] <;> (try (intro hh; omega))
 have e4 : szM (nTmS e.kids) (left - e.name.length - nTy e.ty - nTy e.fr) = szM (e.name.length + nTy e.ty + nTy e.fr + nTmS e.kids) left := by
  simp only [szM] at q4 ⊢
  split at q4 <;> split <;> omega
 repeat' first | (refine T.rs (fun _ => false) fun K hK => ?_; (repeat (refine aops_go ?_; simp [q4])); refine aops_end (hK _ ?_); clear hK K) | (refine T.rs1 (fun _ => false) fun K hK => ?_; (repeat (refine aops_go ?_; simp [q4])); refine aops_end (hK _ ?_); clear hK K) | refine T.cond rfl (fun hc => ?_) (fun hc => absurd hc (by decide)) | refine T.cond rfl (fun hc => absurd hc (by decide)) (fun hc => ?_) | refine T.seq ?_ | refine T.block ?_ | refine T.skip ?_ | refine T.exit ?_
 refine T.ret (Done.data (Or.inr rfl) ?_ ?_) <;> simp [Try.results4, e4]

theorem szTerm_ok : (e : MTm) -> wTm e -> ∀ left : Int, 0 <= left -> left <= 1048576 -> ACalls Try.prog 4 [aTm e, .i left] [] (.i (szM (nTm e) left)) [] []
 | .mk k s n t f b l, hw, left, h0, h1 => by
  have hw' := hw
  rw [wTm_def] at hw
  exact szTerm_step _ hw' _ h0 h1 (fun left h0 h1 => szTermS_step l hw.2.2.2.1 (fun t ht left h0 h1 => szTerm_ok t (wTmS_mem hw.2.2.2.2 ht) left h0 h1) left h0 h1)
termination_by e => SizeOf.sizeOf e
decreasing_by have := List.sizeOf_lt_of_mem ht; simp; omega

end Go.Proofs.Ytloolmchekcmeaa

namespace Go.Proofs.Ytloolmchekcmeaa
attribute [-simp] Go.Av.get_app_len Go.Av.get_app_len0 Go.Av.set_app_len Go.Av.set_app_len0 Go.Av.freeStep Go.Av.exV Go.Av.keepL Go.Av.ups Go.Av.take_app_len
open Go Go.Av
attribute [local irreducible] T
attribute [local simp] eTy_def eTm_def

theorem toTypeS_step (l : List MTy) (hl : l.length <= 1048576) (h : ∀ t ∈ l, ACalls Try.prog 16 [aTy t] [] (aTy t) [] []) : ACalls Try.prog 33 [.l (l.map eTy)] [] (.l (l.map eTy)) [] [] := by
 refine ACalls.of_body Try.func33 (by kernel_rfl) rfl (by kernel_rfl) (by simp [Try.ntmps33]) (by simp) ?_
 rw [Try.ntmps33]
 repeat' first | (refine T.rs (fun _ => false) fun K hK => ?_; (repeat (refine aops_go ?_; simp)); refine aops_end (hK _ ?_); clear hK K) | (refine T.rs1 (fun _ => false) fun K hK => ?_; (repeat (refine aops_go ?_; simp)); refine aops_end (hK _ ?_); clear hK K) | refine T.cond rfl (fun hc => ?_) (fun hc => absurd hc (by decide)) | refine T.cond rfl (fun hc => absurd hc (by decide)) (fun hc => ?_) | refine T.seq ?_ | refine T.block ?_ | refine T.skip ?_ | refine T.exit ?_
 refine T.rs1 (fun _ => false) fun K hK => ?_
 repeat (refine aops_go ?_; simp)
 refine ⟨by omega, by omega, ?_⟩
 repeat (refine aops_go ?_; simp)
 refine aops_end (hK _ ?_)
 clear hK K
 repeat' first | (refine T.rs (fun _ => false) fun K hK => ?_; (repeat (refine aops_go ?_; simp)); refine aops_end (hK _ ?_); clear hK K) | (refine T.rs1 (fun _ => false) fun K hK => ?_; (repeat (refine aops_go ?_; simp)); refine aops_end (hK _ ?_); clear hK K) | refine T.cond rfl (fun hc => ?_) (fun hc => absurd hc (by decide)) | refine T.cond rfl (fun hc => absurd hc (by decide)) (fun hc => ?_) | refine T.seq ?_ | refine T.block ?_ | refine T.skip ?_ | refine T.exit ?_
 refine T.loopF (fun p : Nat => ⟨[(0, .l (l.map eTy)), (3, .c (.own 0 l.length)), (4, .i p)], [], [{ sz := 2, ety := 33, rows := fillR eTy [.i 0, .sl []] l p, wr := true }]⟩) (fun p => l.length + 1 - p) (fun p => p <= l.length) (fun p hp => ?_) 0 (by simp) (by simp [fillR_zero])
 by_cases hlt : p < l.length
 ·obtain ⟨t, ht⟩ := get_lt hlt
  have htm : t ∈ l := List.mem_of_getElem? ht
  have hgt : l[p] = t := by rw [List.getElem?_eq_getElem hlt] at ht; exact Option.some.inj ht
  repeat' first | (refine T.rs (fun _ => false) fun K hK => ?_; (repeat (refine aops_go ?_; simp [hlt])); refine aops_end (hK _ ?_); clear hK K) | (refine T.rs1 (fun _ => false) fun K hK => ?_; (repeat (refine aops_go ?_; simp [hlt])); refine aops_end (hK _ ?_); clear hK K) | refine T.cond rfl (fun hc => ?_) (fun hc => absurd hc (by decide)) | refine T.cond rfl (fun hc => absurd hc (by decide)) (fun hc => ?_) | refine T.seq ?_ | refine T.block ?_ | refine T.skip ?_ | refine T.exit ?_
  refine T.rs1 (fun _ => false) fun K hK => ?_
  repeat (refine aops_go ?_; simp [hlt, hgt])
  refine wpcall_pure (by simp) (h t htm) ?_
  simp
  repeat (refine aops_go ?_; simp [fillR_len (Nat.le_of_lt hlt), hlt, fillR_at hlt])
  refine aops_end (hK _ ?_)
  clear hK K
  repeat' first | (refine T.rs (fun _ => false) fun K hK => ?_; (repeat (refine aops_go ?_; simp)); refine aops_end (hK _ ?_); clear hK K) | (refine T.rs1 (fun _ => false) fun K hK => ?_; (repeat (refine aops_go ?_; simp)); refine aops_end (hK _ ?_); clear hK K) | refine T.cond rfl (fun hc => ?_) (fun hc => absurd hc (by decide)) | refine T.cond rfl (fun hc => absurd hc (by decide)) (fun hc => ?_) | refine T.seq ?_ | refine T.block ?_ | refine T.skip ?_ | refine T.exit ?_
  refine ⟨p + 1, by dsimp only; omega, by omega, ?_⟩
  have hw2 : IntKind.i64.wrap ((p : Int) + 1) = p + 1 := wrap64 (by omega) (by omega)
  have hfs := fillR_set' (f := eTy) (z := [.i 0, .sl []]) ht
  rw [eTy_def] at hfs
  simp [hw2, <- hfs]
 ·have hp' : p = l.length := by omega
  subst hp'
  repeat' first | (refine T.rs (fun _ => false) fun K hK => ?_; (repeat (refine aops_go ?_; simp [hlt])); refine aops_end (hK _ ?_); clear hK K) | (refine T.rs1 (fun _ => false) fun K hK => ?_; (repeat (refine aops_go ?_; simp [hlt])); refine aops_end (hK _ ?_); clear hK K) | refine T.cond rfl (fun hc => ?_) (fun hc => absurd hc (by decide)) | refine T.cond rfl (fun hc => absurd hc (by decide)) (fun hc => ?_) | refine T.seq ?_ | refine T.block ?_ | refine T.skip ?_ | refine T.exit ?_
  refine T.ret (Done.pure (Or.inr rfl) (x := .c (.own 0 l.length)) ?_ ?_) <;> simp [Try.results33, fillR_full]

theorem toTermS_step (l : List MTm) (hl : l.length <= 1048576) (h : ∀ t ∈ l, ACalls Try.prog 6 [aTm t] [] (aTm t) [] []) : ACalls Try.prog 17 [.l (l.map eTm)] [] (.l (l.map eTm)) [] [] := by
 refine ACalls.of_body Try.func17 (by kernel_rfl) rfl (by kernel_rfl) (by simp [Try.ntmps17]) (by simp) ?_
 rw [Try.ntmps17]
 repeat' first | (refine T.rs (fun _ => false) fun K hK => ?_; (repeat (refine aops_go ?_; simp)); refine aops_end (hK _ ?_); clear hK K) | (refine T.rs1 (fun _ => false) fun K hK => ?_; (repeat (refine aops_go ?_; simp)); refine aops_end (hK _ ?_); clear hK K) | refine T.cond rfl (fun hc => ?_) (fun hc => absurd hc (by decide)) | refine T.cond rfl (fun hc => absurd hc (by decide)) (fun hc => ?_) | refine T.seq ?_ | refine T.block ?_ | refine T.skip ?_ | refine T.exit ?_
 refine T.rs1 (fun _ => false) fun K hK => ?_
 repeat (refine aops_go ?_; simp)
 refine ⟨by omega, by omega, ?_⟩
 repeat (refine aops_go ?_; simp)
 refine aops_end (hK _ ?_)
 clear hK K
 repeat' first | (refine T.rs (fun _ => false) fun K hK => ?_; (repeat (refine aops_go ?_; simp)); refine aops_end (hK _ ?_); clear hK K) | (refine T.rs1 (fun _ => false) fun K hK => ?_; (repeat (refine aops_go ?_; simp)); refine aops_end (hK _ ?_); clear hK K) | refine T.cond rfl (fun hc => ?_) (fun hc => absurd hc (by decide)) | refine T.cond rfl (fun hc => absurd hc (by decide)) (fun hc => ?_) | refine T.seq ?_ | refine T.block ?_ | refine T.skip ?_ | refine T.exit ?_
 refine T.loopF (fun p : Nat => ⟨[(0, .l (l.map eTm)), (3, .c (.own 0 l.length)), (4, .i p)], [], [{ sz := 9, ety := 36, rows := fillR eTm [.i 0, .str [], .i 0, .i 0, .sl [], .i 0, .sl [], .i 0, .sl []] l p, wr := true }]⟩) (fun p => l.length + 1 - p) (fun p => p <= l.length) (fun p hp => ?_) 0 (by simp) (by simp [fillR_zero])
 by_cases hlt : p < l.length
 ·obtain ⟨t, ht⟩ := get_lt hlt
  have htm : t ∈ l := List.mem_of_getElem? ht
  have hgt : l[p] = t := by rw [List.getElem?_eq_getElem hlt] at ht; exact Option.some.inj ht
  repeat' first | (refine T.rs (fun _ => false) fun K hK => ?_; (repeat (refine aops_go ?_; simp [hlt])); refine aops_end (hK _ ?_); clear hK K) | (refine T.rs1 (fun _ => false) fun K hK => ?_; (repeat (refine aops_go ?_; simp [hlt])); refine aops_end (hK _ ?_); clear hK K) | refine T.cond rfl (fun hc => ?_) (fun hc => absurd hc (by decide)) | refine T.cond rfl (fun hc => absurd hc (by decide)) (fun hc => ?_) | refine T.seq ?_ | refine T.block ?_ | refine T.skip ?_ | refine T.exit ?_
  refine T.rs1 (fun _ => false) fun K hK => ?_
  repeat (refine aops_go ?_; simp [hlt, hgt])
  refine wpcall_pure (by simp) (h t htm) ?_
  simp
  repeat (refine aops_go ?_; simp [fillR_len (Nat.le_of_lt hlt), hlt, fillR_at hlt])
  refine aops_end (hK _ ?_)
  clear hK K
  repeat' first | (refine T.rs (fun _ => false) fun K hK => ?_; (repeat (refine aops_go ?_; simp)); refine aops_end (hK _ ?_); clear hK K) | (refine T.rs1 (fun _ => false) fun K hK => ?_; (repeat (refine aops_go ?_; simp)); refine aops_end (hK _ ?_); clear hK K) | refine T.cond rfl (fun hc => ?_) (fun hc => absurd hc (by decide)) | refine T.cond rfl (fun hc => absurd hc (by decide)) (fun hc => ?_) | refine T.seq ?_ | refine T.block ?_ | refine T.skip ?_ | refine T.exit ?_
  refine ⟨p + 1, by dsimp only; omega, by omega, ?_⟩
  have hw2 : IntKind.i64.wrap ((p : Int) + 1) = p + 1 := wrap64 (by omega) (by omega)
  have hfs := fillR_set' (f := eTm) (z := [.i 0, .str [], .i 0, .i 0, .sl [], .i 0, .sl [], .i 0, .sl []]) ht
  rw [eTm_def] at hfs
  simp [hw2, <- hfs]
 ·have hp' : p = l.length := by omega
  subst hp'
  repeat' first | (refine T.rs (fun _ => false) fun K hK => ?_; (repeat (refine aops_go ?_; simp [hlt])); refine aops_end (hK _ ?_); clear hK K) | (refine T.rs1 (fun _ => false) fun K hK => ?_; (repeat (refine aops_go ?_; simp [hlt])); refine aops_end (hK _ ?_); clear hK K) | refine T.cond rfl (fun hc => ?_) (fun hc => absurd hc (by decide)) | refine T.cond rfl (fun hc => absurd hc (by decide)) (fun hc => ?_) | refine T.seq ?_ | refine T.block ?_ | refine T.skip ?_ | refine T.exit ?_
  refine T.ret (Done.pure (Or.inr rfl) (x := .c (.own 0 l.length)) ?_ ?_) <;> simp [Try.results17, fillR_full]

theorem toType_step (t : MTy) (h : ACalls Try.prog 33 [.l (t.kids.map eTy)] [] (.l (t.kids.map eTy)) [] []) : ACalls Try.prog 16 [aTy t] [] (aTy t) [] [] := by
 refine ACalls.of_body Try.func16 (by kernel_rfl) rfl (by kernel_rfl) (by simp [Try.ntmps16]) (by simp) ?_
 rw [Try.ntmps16]
 repeat' first | (refine T.rs (fun _ => false) fun K hK => ?_; (repeat (refine aops_go ?_; simp)); refine aops_end (hK _ ?_); clear hK K) | (refine T.rs1 (fun _ => false) fun K hK => ?_; (repeat (refine aops_go ?_; simp)); refine aops_end (hK _ ?_); clear hK K) | refine T.cond rfl (fun hc => ?_) (fun hc => absurd hc (by decide)) | refine T.cond rfl (fun hc => absurd hc (by decide)) (fun hc => ?_) | refine T.seq ?_ | refine T.block ?_ | refine T.skip ?_ | refine T.exit ?_
 refine T.rs1 (fun _ => false) fun K hK => ?_
 repeat (refine aops_go ?_; simp)
 refine wpcall_pure (by simp) (h) ?_
 simp
 repeat (refine aops_go ?_; simp)
 refine aops_end (hK _ ?_)
 clear hK K
 repeat' first | (refine T.rs (fun _ => false) fun K hK => ?_; (repeat (refine aops_go ?_; simp)); refine aops_end (hK _ ?_); clear hK K) | (refine T.rs1 (fun _ => false) fun K hK => ?_; (repeat (refine aops_go ?_; simp)); refine aops_end (hK _ ?_); clear hK K) | refine T.cond rfl (fun hc => ?_) (fun hc => absurd hc (by decide)) | refine T.cond rfl (fun hc => absurd hc (by decide)) (fun hc => ?_) | refine T.seq ?_ | refine T.block ?_ | refine T.skip ?_ | refine T.exit ?_
 refine T.ret (Done.data (Or.inr rfl) ?_ ?_) <;> simp [Try.results16]

theorem toType_ok : (t : MTy) -> nTy t <= 1048576 -> ACalls Try.prog 16 [aTy t] [] (aTy t) [] []
 | .mk k l, hn => by
  rw [nTy_def] at hn
  have hl := nTyS_len l
  exact toType_step _ (toTypeS_step l (by simp at hn; omega) (fun t ht => toType_ok t (by have := nTyS_mem ht; simp at hn; omega)))
termination_by t => SizeOf.sizeOf t
decreasing_by have := List.sizeOf_lt_of_mem ht; simp; omega

theorem toTerm_step (e : MTm) (ht : nTy e.ty <= 1048576) (hf : nTy e.fr <= 1048576) (h : ACalls Try.prog 17 [.l (e.kids.map eTm)] [] (.l (e.kids.map eTm)) [] []) : ACalls Try.prog 6 [aTm e] [] (aTm e) [] [] := by
 refine ACalls.of_body Try.func6 (by kernel_rfl) rfl (by kernel_rfl) (by simp [Try.ntmps6]) (by simp) ?_
 rw [Try.ntmps6]
 repeat' first | (refine T.rs (fun _ => false) fun K hK => ?_; (repeat (refine aops_go ?_; simp)); refine aops_end (hK _ ?_); clear hK K) | (refine T.rs1 (fun _ => false) fun K hK => ?_; (repeat (refine aops_go ?_; simp)); refine aops_end (hK _ ?_); clear hK K) | refine T.cond rfl (fun hc => ?_) (fun hc => absurd hc (by decide)) | refine T.cond rfl (fun hc => absurd hc (by decide)) (fun hc => ?_) | refine T.seq ?_ | refine T.block ?_ | refine T.skip ?_ | refine T.exit ?_
 refine T.rs1 (fun _ => false) fun K hK => ?_
 repeat (refine aops_go ?_; simp)
 refine wpcall_pure (by simp) (toType_ok e.ty ht) ?_
 simp
 repeat (refine aops_go ?_; simp)
 refine aops_end (hK _ ?_)
 clear hK K
 repeat' first | (refine T.rs (fun _ => false) fun K hK => ?_; (repeat (refine aops_go ?_; simp)); refine aops_end (hK _ ?_); clear hK K) | (refine T.rs1 (fun _ => false) fun K hK => ?_; (repeat (refine aops_go ?_; simp)); refine aops_end (hK _ ?_); clear hK K) | refine T.cond rfl (fun hc => ?_) (fun hc => absurd hc (by decide)) | refine T.cond rfl (fun hc => absurd hc (by decide)) (fun hc => ?_) | refine T.seq ?_ | refine T.block ?_ | refine T.skip ?_ | refine T.exit ?_
 refine T.rs1 (fun _ => false) fun K hK => ?_
 repeat (refine aops_go ?_; simp)
 refine wpcall_pure (by simp) (toType_ok e.fr hf) ?_
 simp
 repeat (refine aops_go ?_; simp)
 refine aops_end (hK _ ?_)
 clear hK K
 repeat' first | (refine T.rs (fun _ => false) fun K hK => ?_; (repeat (refine aops_go ?_; simp)); refine aops_end (hK _ ?_); clear hK K) | (refine T.rs1 (fun _ => false) fun K hK => ?_; (repeat (refine aops_go ?_; simp)); refine aops_end (hK _ ?_); clear hK K) | refine T.cond rfl (fun hc => ?_) (fun hc => absurd hc (by decide)) | refine T.cond rfl (fun hc => absurd hc (by decide)) (fun hc => ?_) | refine T.seq ?_ | refine T.block ?_ | refine T.skip ?_ | refine T.exit ?_
 refine T.rs1 (fun _ => false) fun K hK => ?_
 repeat (refine aops_go ?_; simp)
 refine wpcall_pure (by simp) (h) ?_
 simp
 repeat (refine aops_go ?_; simp)
 refine aops_end (hK _ ?_)
 clear hK K
 repeat' first | (refine T.rs (fun _ => false) fun K hK => ?_; (repeat (refine aops_go ?_; simp)); refine aops_end (hK _ ?_); clear hK K) | (refine T.rs1 (fun _ => false) fun K hK => ?_; (repeat (refine aops_go ?_; simp)); refine aops_end (hK _ ?_); clear hK K) | refine T.cond rfl (fun hc => ?_) (fun hc => absurd hc (by decide)) | refine T.cond rfl (fun hc => absurd hc (by decide)) (fun hc => ?_) | refine T.seq ?_ | refine T.block ?_ | refine T.skip ?_ | refine T.exit ?_
 refine T.ret (Done.data (Or.inr rfl) ?_ ?_) <;> simp [Try.results6]

theorem toTerm_ok : (e : MTm) -> nTm e <= 1048576 -> ACalls Try.prog 6 [aTm e] [] (aTm e) [] []
 | .mk k s n t f b l, hn => by
  rw [nTm_def] at hn
  have hl := nTmS_len l
  simp only [MTm.name_mk, MTm.ty_mk, MTm.fr_mk, MTm.kids_mk] at hn
  exact toTerm_step _ (by simp; omega) (by simp; omega) (toTermS_step l (by omega) (fun t ht => toTerm_ok t (by have := nTmS_mem ht; omega)))
termination_by e => SizeOf.sizeOf e
decreasing_by have := List.sizeOf_lt_of_mem ht; simp; omega

end Go.Proofs.Ytloolmchekcmeaa

namespace Go.Proofs.Ytloolmchekcmeaa
attribute [-simp] Go.Av.get_app_len Go.Av.get_app_len0 Go.Av.set_app_len Go.Av.set_app_len0 Go.Av.freeStep Go.Av.exV Go.Av.keepL Go.Av.ups Go.Av.take_app_len
open Go Go.Av
attribute [local irreducible] T
attribute [local simp] eTy_def eTm_def

theorem eqTypeS_step (l : List MTy) (hl : l.length <= 1048576) (h : ∀ t ∈ l, ACalls Try.prog 21 [aTy t, aTy t] [] (.b true) [] []) : ACalls Try.prog 40 [.l (l.map eTy), .l (l.map eTy)] [] (.b true) [] [] := by
 refine ACalls.of_body Try.func40 (by kernel_rfl) rfl (by kernel_rfl) (by simp [Try.ntmps40]) (by simp) ?_
 rw [Try.ntmps40]
 repeat' first | (refine T.rs (fun _ => false) fun K hK => ?_; (repeat (refine aops_go ?_; simp)); refine aops_end (hK _ ?_); clear hK K) | (refine T.rs1 (fun _ => false) fun K hK => ?_; (repeat (refine aops_go ?_; simp)); refine aops_end (hK _ ?_); clear hK K) | refine T.cond rfl (fun hc => ?_) (fun hc => absurd hc (by decide)) | refine T.cond rfl (fun hc => absurd hc (by decide)) (fun hc => ?_) | refine T.seq ?_ | refine T.block ?_ | refine T.skip ?_ | refine T.exit ?_
 refine T.loopF (fun p : Nat => ⟨[(0, .l (l.map eTy)), (1, .l (l.map eTy)), (5, .i p)], [], []⟩) (fun p => l.length + 1 - p) (fun p => p <= l.length) (fun p hp => ?_) 0 (by simp) (by simp)
 by_cases hlt : p < l.length
 ·obtain ⟨t, ht⟩ := get_lt hlt
  have htm : t ∈ l := List.mem_of_getElem? ht
  have hgt : l[p] = t := by rw [List.getElem?_eq_getElem hlt] at ht; exact Option.some.inj ht
  repeat' first | (refine T.rs (fun _ => false) fun K hK => ?_; (repeat (refine aops_go ?_; simp [hlt])); refine aops_end (hK _ ?_); clear hK K) | (refine T.rs1 (fun _ => false) fun K hK => ?_; (repeat (refine aops_go ?_; simp [hlt])); refine aops_end (hK _ ?_); clear hK K) | refine T.cond rfl (fun hc => ?_) (fun hc => absurd hc (by decide)) | refine T.cond rfl (fun hc => absurd hc (by decide)) (fun hc => ?_) | refine T.seq ?_ | refine T.block ?_ | refine T.skip ?_ | refine T.exit ?_
  refine T.rd1 mixed (fun _ => false) [] (by kernel_rfl) fun K hK => ?_
  repeat (refine aopsD_go ?_; simp [hlt, hgt])
  refine wpcall_pure (by simp) (h t htm) ?_
  simp
  repeat (refine aopsD_go ?_; simp)
  refine aopsD_end (hK _ ?_)
  clear hK K
  repeat' first | (refine T.rs (fun _ => false) fun K hK => ?_; (repeat (refine aops_go ?_; simp)); refine aops_end (hK _ ?_); clear hK K) | (refine T.rs1 (fun _ => false) fun K hK => ?_; (repeat (refine aops_go ?_; simp)); refine aops_end (hK _ ?_); clear hK K) | refine T.cond rfl (fun hc => ?_) (fun hc => absurd hc (by decide)) | refine T.cond rfl (fun hc => absurd hc (by decide)) (fun hc => ?_) | refine T.seq ?_ | refine T.block ?_ | refine T.skip ?_ | refine T.exit ?_
  refine ⟨p + 1, by dsimp only; omega, by omega, ?_⟩
  have hw2 : IntKind.i64.wrap ((p : Int) + 1) = p + 1 := wrap64 (by omega) (by omega)
  simp [hw2]
 ·have hp' : p = l.length := by omega
  subst hp'
  repeat' first | (refine T.rs (fun _ => false) fun K hK => ?_; (repeat (refine aops_go ?_; simp [hlt])); refine aops_end (hK _ ?_); clear hK K) | (refine T.rs1 (fun _ => false) fun K hK => ?_; (repeat (refine aops_go ?_; simp [hlt])); refine aops_end (hK _ ?_); clear hK K) | refine T.cond rfl (fun hc => ?_) (fun hc => absurd hc (by decide)) | refine T.cond rfl (fun hc => absurd hc (by decide)) (fun hc => ?_) | refine T.seq ?_ | refine T.block ?_ | refine T.skip ?_ | refine T.exit ?_
  refine T.ret (Done.data (Or.inr rfl) ?_ ?_) <;> simp [Try.results40]

theorem eqTermS_step (l : List MTm) (hl : l.length <= 1048576) (h : ∀ t ∈ l, ACalls Try.prog 8 [aTm t, aTm t] [] (.b true) [] []) : ACalls Try.prog 22 [.l (l.map eTm), .l (l.map eTm)] [] (.b true) [] [] := by
 refine ACalls.of_body Try.func22 (by kernel_rfl) rfl (by kernel_rfl) (by simp [Try.ntmps22]) (by simp) ?_
 rw [Try.ntmps22]
 repeat' first | (refine T.rs (fun _ => false) fun K hK => ?_; (repeat (refine aops_go ?_; simp)); refine aops_end (hK _ ?_); clear hK K) | (refine T.rs1 (fun _ => false) fun K hK => ?_; (repeat (refine aops_go ?_; simp)); refine aops_end (hK _ ?_); clear hK K) | refine T.cond rfl (fun hc => ?_) (fun hc => absurd hc (by decide)) | refine T.cond rfl (fun hc => absurd hc (by decide)) (fun hc => ?_) | refine T.seq ?_ | refine T.block ?_ | refine T.skip ?_ | refine T.exit ?_
 refine T.loopF (fun p : Nat => ⟨[(0, .l (l.map eTm)), (1, .l (l.map eTm)), (5, .i p)], [], []⟩) (fun p => l.length + 1 - p) (fun p => p <= l.length) (fun p hp => ?_) 0 (by simp) (by simp)
 by_cases hlt : p < l.length
 ·obtain ⟨t, ht⟩ := get_lt hlt
  have htm : t ∈ l := List.mem_of_getElem? ht
  have hgt : l[p] = t := by rw [List.getElem?_eq_getElem hlt] at ht; exact Option.some.inj ht
  repeat' first | (refine T.rs (fun _ => false) fun K hK => ?_; (repeat (refine aops_go ?_; simp [hlt])); refine aops_end (hK _ ?_); clear hK K) | (refine T.rs1 (fun _ => false) fun K hK => ?_; (repeat (refine aops_go ?_; simp [hlt])); refine aops_end (hK _ ?_); clear hK K) | refine T.cond rfl (fun hc => ?_) (fun hc => absurd hc (by decide)) | refine T.cond rfl (fun hc => absurd hc (by decide)) (fun hc => ?_) | refine T.seq ?_ | refine T.block ?_ | refine T.skip ?_ | refine T.exit ?_
  refine T.rd1 mixed (fun _ => false) [] (by kernel_rfl) fun K hK => ?_
  repeat (refine aopsD_go ?_; simp [hlt, hgt])
  refine wpcall_pure (by simp) (h t htm) ?_
  simp
  repeat (refine aopsD_go ?_; simp)
  refine aopsD_end (hK _ ?_)
  clear hK K
  repeat' first | (refine T.rs (fun _ => false) fun K hK => ?_; (repeat (refine aops_go ?_; simp)); refine aops_end (hK _ ?_); clear hK K) | (refine T.rs1 (fun _ => false) fun K hK => ?_; (repeat (refine aops_go ?_; simp)); refine aops_end (hK _ ?_); clear hK K) | refine T.cond rfl (fun hc => ?_) (fun hc => absurd hc (by decide)) | refine T.cond rfl (fun hc => absurd hc (by decide)) (fun hc => ?_) | refine T.seq ?_ | refine T.block ?_ | refine T.skip ?_ | refine T.exit ?_
  refine ⟨p + 1, by dsimp only; omega, by omega, ?_⟩
  have hw2 : IntKind.i64.wrap ((p : Int) + 1) = p + 1 := wrap64 (by omega) (by omega)
  simp [hw2]
 ·have hp' : p = l.length := by omega
  subst hp'
  repeat' first | (refine T.rs (fun _ => false) fun K hK => ?_; (repeat (refine aops_go ?_; simp [hlt])); refine aops_end (hK _ ?_); clear hK K) | (refine T.rs1 (fun _ => false) fun K hK => ?_; (repeat (refine aops_go ?_; simp [hlt])); refine aops_end (hK _ ?_); clear hK K) | refine T.cond rfl (fun hc => ?_) (fun hc => absurd hc (by decide)) | refine T.cond rfl (fun hc => absurd hc (by decide)) (fun hc => ?_) | refine T.seq ?_ | refine T.block ?_ | refine T.skip ?_ | refine T.exit ?_
  refine T.ret (Done.data (Or.inr rfl) ?_ ?_) <;> simp [Try.results22]

theorem eqType_step (t : MTy) (h : ACalls Try.prog 40 [.l (t.kids.map eTy), .l (t.kids.map eTy)] [] (.b true) [] []) : ACalls Try.prog 21 [aTy t, aTy t] [] (.b true) [] [] := by
 refine ACalls.of_body Try.func21 (by kernel_rfl) rfl (by kernel_rfl) (by simp [Try.ntmps21]) (by simp) ?_
 rw [Try.ntmps21]
 repeat' first | (refine T.rs (fun _ => false) fun K hK => ?_; (repeat (refine aops_go ?_; simp)); refine aops_end (hK _ ?_); clear hK K) | (refine T.rs1 (fun _ => false) fun K hK => ?_; (repeat (refine aops_go ?_; simp)); refine aops_end (hK _ ?_); clear hK K) | refine T.cond rfl (fun hc => ?_) (fun hc => absurd hc (by decide)) | refine T.cond rfl (fun hc => absurd hc (by decide)) (fun hc => ?_) | refine T.seq ?_ | refine T.block ?_ | refine T.skip ?_ | refine T.exit ?_
 refine T.rs1 (fun _ => false) fun K hK => ?_
 repeat (refine aops_go ?_; simp)
 refine wpcall_pure (by simp) (h) ?_
 simp
 repeat (refine aops_go ?_; simp)
 refine aops_end (hK _ ?_)
 clear hK K
 repeat' first | (refine T.rs (fun _ => false) fun K hK => ?_; (repeat (refine aops_go ?_; simp)); refine aops_end (hK _ ?_); clear hK K) | (refine T.rs1 (fun _ => false) fun K hK => ?_; (repeat (refine aops_go ?_; simp)); refine aops_end (hK _ ?_); clear hK K) | refine T.cond rfl (fun hc => ?_) (fun hc => absurd hc (by decide)) | refine T.cond rfl (fun hc => absurd hc (by decide)) (fun hc => ?_) | refine T.seq ?_ | refine T.block ?_ | refine T.skip ?_ | refine T.exit ?_
 refine T.ret (Done.data (Or.inr rfl) ?_ ?_) <;> simp [Try.results21]

theorem eqType_ok : (t : MTy) -> nTy t <= 1048576 -> ACalls Try.prog 21 [aTy t, aTy t] [] (.b true) [] []
 | .mk k l, hn => by
  rw [nTy_def] at hn
  have hl := nTyS_len l
  exact eqType_step _ (eqTypeS_step l (by simp at hn; omega) (fun t ht => eqType_ok t (by have := nTyS_mem ht; simp at hn; omega)))
termination_by t => SizeOf.sizeOf t
decreasing_by have := List.sizeOf_lt_of_mem ht; simp; omega

theorem eqTerm_step (e : MTm) (ht : nTy e.ty <= 1048576) (hf : nTy e.fr <= 1048576) (h : ACalls Try.prog 22 [.l (e.kids.map eTm), .l (e.kids.map eTm)] [] (.b true) [] []) : ACalls Try.prog 8 [aTm e, aTm e] [] (.b true) [] [] := by
 refine ACalls.of_body Try.func8 (by kernel_rfl) rfl (by kernel_rfl) (by simp [Try.ntmps8]) (by simp) ?_
 rw [Try.ntmps8]
 repeat' first | (refine T.rs (fun _ => false) fun K hK => ?_; (repeat (refine aops_go ?_; simp)); refine aops_end (hK _ ?_); clear hK K) | (refine T.rs1 (fun _ => false) fun K hK => ?_; (repeat (refine aops_go ?_; simp)); refine aops_end (hK _ ?_); clear hK K) | refine T.cond rfl (fun hc => ?_) (fun hc => absurd hc (by decide)) | refine T.cond rfl (fun hc => absurd hc (by decide)) (fun hc => ?_) | refine T.seq ?_ | refine T.block ?_ | refine T.skip ?_ | refine T.exit ?_
 refine T.rs1 (fun _ => false) fun K hK => ?_
 repeat (refine aops_go ?_; simp)
 refine wpcall_pure (by simp) (eqType_ok e.ty ht) ?_
 simp
 repeat (refine aops_go ?_; simp)
 refine aops_end (hK _ ?_)
 clear hK K
 repeat' first | (refine T.rs (fun _ => false) fun K hK => ?_; (repeat (refine aops_go ?_; simp)); refine aops_end (hK _ ?_); clear hK K) | (refine T.rs1 (fun _ => false) fun K hK => ?_; (repeat (refine aops_go ?_; simp)); refine aops_end (hK _ ?_); clear hK K) | refine T.cond rfl (fun hc => ?_) (fun hc => absurd hc (by decide)) | refine T.cond rfl (fun hc => absurd hc (by decide)) (fun hc => ?_) | refine T.seq ?_ | refine T.block ?_ | refine T.skip ?_ | refine T.exit ?_
 refine T.rs1 (fun _ => false) fun K hK => ?_
 repeat (refine aops_go ?_; simp)
 refine wpcall_pure (by simp) (eqType_ok e.fr hf) ?_
 simp
 repeat (refine aops_go ?_; simp)
 refine aops_end (hK _ ?_)
 clear hK K
 repeat' first | (refine T.rs (fun _ => false) fun K hK => ?_; (repeat (refine aops_go ?_; simp)); refine aops_end (hK _ ?_); clear hK K) | (refine T.rs1 (fun _ => false) fun K hK => ?_; (repeat (refine aops_go ?_; simp)); refine aops_end (hK _ ?_); clear hK K) | refine T.cond rfl (fun hc => ?_) (fun hc => absurd hc (by decide)) | refine T.cond rfl (fun hc => absurd hc (by decide)) (fun hc => ?_) | refine T.seq ?_ | refine T.block ?_ | refine T.skip ?_ | refine T.exit ?_
 refine T.rs1 (fun _ => false) fun K hK => ?_
 repeat (refine aops_go ?_; simp)
 refine wpcall_pure (by simp) (h) ?_
 simp
 repeat (refine aops_go ?_; simp)
 refine aops_end (hK _ ?_)
 clear hK K
 repeat' first | (refine T.rs (fun _ => false) fun K hK => ?_; (repeat (refine aops_go ?_; simp)); refine aops_end (hK _ ?_); clear hK K) | (refine T.rs1 (fun _ => false) fun K hK => ?_; (repeat (refine aops_go ?_; simp)); refine aops_end (hK _ ?_); clear hK K) | refine T.cond rfl (fun hc => ?_) (fun hc => absurd hc (by decide)) | refine T.cond rfl (fun hc => absurd hc (by decide)) (fun hc => ?_) | refine T.seq ?_ | refine T.block ?_ | refine T.skip ?_ | refine T.exit ?_
 refine T.ret (Done.data (Or.inr rfl) ?_ ?_) <;> simp [Try.results8]

theorem eqTerm_ok : (e : MTm) -> nTm e <= 1048576 -> ACalls Try.prog 8 [aTm e, aTm e] [] (.b true) [] []
 | .mk k s n t f b l, hn => by
  rw [nTm_def] at hn
  have hl := nTmS_len l
  simp only [MTm.name_mk, MTm.ty_mk, MTm.fr_mk, MTm.kids_mk] at hn
  exact eqTerm_step _ (by simp; omega) (by simp; omega) (eqTermS_step l (by omega) (fun t ht => eqTerm_ok t (by have := nTmS_mem ht; omega)))
termination_by e => SizeOf.sizeOf e
decreasing_by have := List.sizeOf_lt_of_mem ht; simp; omega

end Go.Proofs.Ytloolmchekcmeaa

namespace Go.Proofs.Ytloolmchekcmeaa
attribute [-simp] Go.Av.freeStep Go.Av.exV Go.Av.keepL Go.Av.ups Go.Av.take_app_len
open Go Go.Av
attribute [local irreducible] T
attribute [local simp] eTy_def eTm_def

theorem inM_ok (x lo hi : Int) : ACalls Try.prog 56 [.i x, .i lo, .i hi] [] (.b (inM x lo hi)) [] [] := by
 refine ACalls.of_body Try.func56 (by kernel_rfl) rfl (by kernel_rfl) (by simp [Try.ntmps56]) (by simp) ?_
 rw [Try.ntmps56]
 repeat' first | (refine aops_end (hK _ ?_); clear hK K) | (refine aops_go ?_; simp; (try (refine gen fun q hq => ?_; cases q <;> (try simp at hq)))) | refine T.r0 fun K hK => ?_ | refine T.r1 fun K hK => ?_ | refine T.cond rfl (fun hc => ?_) (fun hc => absurd hc (by decide)) | refine T.cond rfl (fun hc => absurd hc (by decide)) (fun hc => ?_) | refine T.seq ?_ | refine T.block ?_ | refine T.skip ?_ | refine T.exit ?_
 all_goals (refine T.ret (Done.data (Or.inr rfl) ?_ ?_) <;> simp [Try.results56, inM, *] <;> omega)

theorem isName_ok (s : List UInt8) : ACalls Try.prog 55 [.s s] [] (.b (nameM s)) [] [] := by
 refine ACalls.of_body Try.func55 (by kernel_rfl) rfl (by kernel_rfl) (by simp [Try.ntmps55]) (by simp) ?_
 rw [Try.ntmps55]
 match s with
 | [] =>
  repeat' first | (refine aops_end (hK _ ?_); clear hK K) | (refine aops_go ?_; simp; (try (refine gen fun q hq => ?_; cases q <;> (try simp at hq)))) | refine T.r0 fun K hK => ?_ | refine T.r1 fun K hK => ?_ | refine T.cond rfl (fun hc => ?_) (fun hc => absurd hc (by decide)) | refine T.cond rfl (fun hc => absurd hc (by decide)) (fun hc => ?_) | refine T.seq ?_ | refine T.block ?_ | refine T.skip ?_ | refine T.exit ?_
  all_goals (refine T.ret (Done.data (Or.inr rfl) ?_ ?_) <;> simp [Try.results55, nameM])
 | [c] =>
  repeat' first | (refine aops_end (hK _ ?_); clear hK K) | (refine aops_go ?_; simp; (try (refine gen fun q hq => ?_; cases q <;> (try simp at hq)))) | refine T.r0 fun K hK => ?_ | refine T.r1 fun K hK => ?_ | refine T.cond rfl (fun hc => ?_) (fun hc => absurd hc (by decide)) | refine T.cond rfl (fun hc => absurd hc (by decide)) (fun hc => ?_) | refine T.seq ?_ | refine T.block ?_ | refine T.skip ?_ | refine T.exit ?_
  all_goals (refine T.ret (Done.data (Or.inr rfl) ?_ ?_) <;> simp [Try.results55, nameM, *] <;> omega)
 | c :: d :: r =>
  have h2 : ¬ ((r.length : Int) + 1 + 1 = 1) := by omega
  repeat' first | (refine aops_end (hK _ ?_); clear hK K) | (refine aops_go ?_; simp [h2, beq_f h2]; (try (refine gen fun q hq => ?_; cases q <;> (try simp [h2] at hq)))) | refine T.r0 fun K hK => ?_ | refine T.r1 fun K hK => ?_ | refine T.cond rfl (fun hc => ?_) (fun hc => absurd hc (by decide)) | refine T.cond rfl (fun hc => absurd hc (by decide)) (fun hc => ?_) | refine T.seq ?_ | refine T.block ?_ | refine T.skip ?_ | refine T.exit ?_
  all_goals (refine T.ret (Done.data (Or.inr rfl) ?_ ?_) <;> simp [Try.results55, nameM])

theorem l2Name_ok (s : List UInt8) : ACalls Try.prog 50 [.s s] [] (.b (nameM s)) [] [] := by
 refine ACalls.of_body Try.func50 (by kernel_rfl) rfl (by kernel_rfl) (by simp [Try.ntmps50]) (by simp) ?_
 rw [Try.ntmps50]
 match s with
 | [] =>
  repeat' first | (refine aops_end (hK _ ?_); clear hK K) | (refine aops_go ?_; simp; (try (refine gen fun q hq => ?_; cases q <;> (try simp at hq)))) | refine T.r0 fun K hK => ?_ | refine T.r1 fun K hK => ?_ | refine T.cond rfl (fun hc => ?_) (fun hc => absurd hc (by decide)) | refine T.cond rfl (fun hc => absurd hc (by decide)) (fun hc => ?_) | refine T.seq ?_ | refine T.block ?_ | refine T.skip ?_ | refine T.exit ?_
  all_goals (refine T.ret (Done.data (Or.inr rfl) ?_ ?_) <;> simp [Try.results50, nameM])
 | [c] =>
  repeat' first | (refine aops_end (hK _ ?_); clear hK K) | (refine aops_go ?_; simp; (try (refine gen fun q hq => ?_; cases q <;> (try simp at hq)))) | refine T.r0 fun K hK => ?_ | refine T.r1 fun K hK => ?_ | refine T.cond rfl (fun hc => ?_) (fun hc => absurd hc (by decide)) | refine T.cond rfl (fun hc => absurd hc (by decide)) (fun hc => ?_) | refine T.seq ?_ | refine T.block ?_ | refine T.skip ?_ | refine T.exit ?_
  all_goals (refine T.ret (Done.data (Or.inr rfl) ?_ ?_) <;> simp [Try.results50, nameM, *] <;> omega)
 | c :: d :: r =>
  have h2 : ¬ ((r.length : Int) + 1 + 1 = 1) := by omega
  repeat' first | (refine aops_end (hK _ ?_); clear hK K) | (refine aops_go ?_; simp [h2, beq_f h2]; (try (refine gen fun q hq => ?_; cases q <;> (try simp [h2] at hq)))) | refine T.r0 fun K hK => ?_ | refine T.r1 fun K hK => ?_ | refine T.cond rfl (fun hc => ?_) (fun hc => absurd hc (by decide)) | refine T.cond rfl (fun hc => absurd hc (by decide)) (fun hc => ?_) | refine T.seq ?_ | refine T.block ?_ | refine T.skip ?_ | refine T.exit ?_
  all_goals (refine T.ret (Done.data (Or.inr rfl) ?_ ?_) <;> simp [Try.results50, nameM])

theorem isNoType_ok (t : MTy) : ACalls Try.prog 58 [aTy t] [] (.b (noTyM t)) [] [] := by
 refine ACalls.of_body Try.func58 (by kernel_rfl) rfl (by kernel_rfl) (by simp [Try.ntmps58]) (by simp) ?_
 rw [Try.ntmps58]
 repeat' first | (refine aops_end (hK _ ?_); clear hK K) | (refine aops_go ?_; simp; (try (refine gen fun q hq => ?_; cases q <;> (try simp at hq)))) | refine T.r0 fun K hK => ?_ | refine T.r1 fun K hK => ?_ | refine T.cond rfl (fun hc => ?_) (fun hc => absurd hc (by decide)) | refine T.cond rfl (fun hc => absurd hc (by decide)) (fun hc => ?_) | refine T.seq ?_ | refine T.block ?_ | refine T.skip ?_ | refine T.exit ?_
 all_goals (refine T.ret (Done.data (Or.inr rfl) ?_ ?_) <;> simp [Try.results58, noTyM, *])

theorem l2None_ok (t : MTy) : ACalls Try.prog 52 [aTy t] [] (.b (noTyM t)) [] [] := by
 refine ACalls.of_body Try.func52 (by kernel_rfl) rfl (by kernel_rfl) (by simp [Try.ntmps52]) (by simp) ?_
 rw [Try.ntmps52]
 repeat' first | (refine aops_end (hK _ ?_); clear hK K) | (refine aops_go ?_; simp; (try (refine gen fun q hq => ?_; cases q <;> (try simp at hq)))) | refine T.r0 fun K hK => ?_ | refine T.r1 fun K hK => ?_ | refine T.cond rfl (fun hc => ?_) (fun hc => absurd hc (by decide)) | refine T.cond rfl (fun hc => absurd hc (by decide)) (fun hc => ?_) | refine T.seq ?_ | refine T.block ?_ | refine T.skip ?_ | refine T.exit ?_
 all_goals (refine T.ret (Done.data (Or.inr rfl) ?_ ?_) <;> simp [Try.results52, noTyM, *])

theorem isLabel_ok (n : Int) : ACalls Try.prog 60 [.i n] [] (.b (labM n)) [] [] := by
 refine ACalls.of_body Try.func60 (by kernel_rfl) rfl (by kernel_rfl) (by simp [Try.ntmps60]) (by simp) ?_
 rw [Try.ntmps60]
 repeat' first | (refine T.rs (fun _ => false) fun K hK => ?_; (repeat (refine aops_go ?_; simp)); refine aops_end (hK _ ?_); clear hK K) | (refine T.rs1 (fun _ => false) fun K hK => ?_; (repeat (refine aops_go ?_; simp)); refine aops_end (hK _ ?_); clear hK K) | refine T.cond rfl (fun hc => ?_) (fun hc => absurd hc (by decide)) | refine T.cond rfl (fun hc => absurd hc (by decide)) (fun hc => ?_) | refine T.seq ?_ | refine T.block ?_ | refine T.skip ?_ | refine T.exit ?_
 refine T.rs1 (fun _ => false) fun K hK => ?_
 repeat (refine aops_go ?_; simp)
 refine wpcall_pure (by simp) (inM_ok n 1 99) ?_
 simp
 refine Ops.gen fun q hq => ?_
 cases q
 ·repeat (refine aops_go ?_; simp)
  refine wpcall_pure (by simp) (inM_ok n (-99) (-1)) ?_
  simp
  repeat' first | (refine aops_end (hK _ ?_); clear hK K) | (refine aops_go ?_; simp; (try (refine gen fun q hq => ?_; cases q <;> (try simp at hq)))) | refine T.r0 fun K hK => ?_ | refine T.r1 fun K hK => ?_ | refine T.cond rfl (fun hc => ?_) (fun hc => absurd hc (by decide)) | refine T.cond rfl (fun hc => absurd hc (by decide)) (fun hc => ?_) | refine T.seq ?_ | refine T.block ?_ | refine T.skip ?_ | refine T.exit ?_
  all_goals (refine T.ret (Done.data (Or.inr rfl) ?_ ?_) <;> simp [Try.results60, labM, *])
 ·repeat' first | (refine aops_end (hK _ ?_); clear hK K) | (refine aops_go ?_; simp; (try (refine gen fun q hq => ?_; cases q <;> (try simp at hq)))) | refine T.r0 fun K hK => ?_ | refine T.r1 fun K hK => ?_ | refine T.cond rfl (fun hc => ?_) (fun hc => absurd hc (by decide)) | refine T.cond rfl (fun hc => absurd hc (by decide)) (fun hc => ?_) | refine T.seq ?_ | refine T.block ?_ | refine T.skip ?_ | refine T.exit ?_
  all_goals (refine T.ret (Done.data (Or.inr rfl) ?_ ?_) <;> simp [Try.results60, labM, *])

theorem l2Kids_ok (k : Int) : ACalls Try.prog 41 [.i k] [] (.i (kidsM k)) [] [] := by
 refine ACalls.of_body Try.func41 (by kernel_rfl) rfl (by kernel_rfl) (by simp [Try.ntmps41]) (by simp) ?_
 rw [Try.ntmps41]
 repeat' first | (refine aops_end (hK _ ?_); clear hK K) | (refine aops_go ?_; simp; (try (refine gen fun q hq => ?_; cases q <;> (try simp at hq)))) | refine T.r0 fun K hK => ?_ | refine T.r1 fun K hK => ?_ | refine T.cond rfl (fun hc => ?_) (fun hc => absurd hc (by decide)) | refine T.cond rfl (fun hc => absurd hc (by decide)) (fun hc => ?_) | refine T.seq ?_ | refine T.block ?_ | refine T.skip ?_ | refine T.exit ?_
 all_goals (refine T.ret (Done.data (Or.inr rfl) ?_ ?_) <;> simp [Try.results41, kidsM, *])

@[simp] theorem td_intS : td Try.prog 52 = some { ag := false, sz := 1, by_ := 24, zero := some [.nil], el := some 3, ar := none, fl := [], ik := none, isS := false, isB := false } := keep (by kernel_rfl)

theorem operands_ok (k : Int) : ACalls Try.prog 54 [.i k] [] (.i (kidsM k)) [] [] := by
 refine ACalls.of_body Try.func54 (by kernel_rfl) rfl (by kernel_rfl) (by simp [Try.ntmps54]) (by simp) ?_
 rw [Try.ntmps54]
 repeat' first | (refine T.rs (fun _ => false) fun K hK => ?_; (repeat (refine aops_go ?_; simp)); refine aops_end (hK _ ?_); clear hK K) | (refine T.rs1 (fun _ => false) fun K hK => ?_; (repeat (refine aops_go ?_; simp)); refine aops_end (hK _ ?_); clear hK K) | refine T.cond rfl (fun hc => ?_) (fun hc => absurd hc (by decide)) | refine T.cond rfl (fun hc => absurd hc (by decide)) (fun hc => ?_) | refine T.seq ?_ | refine T.block ?_ | refine T.skip ?_ | refine T.exit ?_
 refine T.rs1 (fun _ => false) fun K hK => ?_
 repeat (refine aops_go ?_; simp)
 refine wpcall_pure (by simp) (inM_ok k 1 14) ?_
 simp
 by_cases h : inM k 1 14 = true
 ·have hr : k = 1 \/ k = 2 \/ k = 3 \/ k = 4 \/ k = 5 \/ k = 6 \/ k = 7 \/ k = 8 \/ k = 9 \/ k = 10 \/ k = 11 \/ k = 12 \/ k = 13 \/ k = 14 := by
   simp [inM] at h; omega
  rcases hr with rfl | rfl | rfl | rfl | rfl | rfl | rfl | rfl | rfl | rfl | rfl | rfl | rfl | rfl
  all_goals
   simp [inM] at h
   have hw : ∀ n : Int, 0 <= n -> n <= 20 -> IntKind.i64.wrap n = n := fun n h1 h2 => wrap64 (by omega) (by omega)
   repeat' first | (refine aops_end (hK _ ?_); clear hK K) | (refine aops_go ?_; simp [inM, hw]; (try (refine gen fun q hq => ?_; cases q <;> (try simp at hq)))) | refine T.r0 fun K hK => ?_ | refine T.r1 fun K hK => ?_ | refine T.cond rfl (fun hc => ?_) (fun hc => absurd hc (by decide)) | refine T.cond rfl (fun hc => absurd hc (by decide)) (fun hc => ?_) | refine T.seq ?_ | refine T.block ?_ | refine T.skip ?_ | refine T.exit ?_
   all_goals (refine T.ret (Done.data (Or.inr rfl) ?_ ?_) <;> simp [Try.results54, kidsM])
 ·have hk : kidsM k = -1 := by
   simp only [inM, Bool.not_eq_true, Bool.and_eq_false_iff, decide_eq_false_iff_not] at h
   have : k < 1 \/ 14 < k := by omega
   simp only [kidsM]
   repeat (rw [if_neg (by omega)])
  simp only [Bool.not_eq_true] at h
  repeat' first | (refine aops_end (hK _ ?_); clear hK K) | (refine aops_go ?_; simp [h]; (try (refine gen fun q hq => ?_; cases q <;> (try simp at hq)))) | refine T.r0 fun K hK => ?_ | refine T.r1 fun K hK => ?_ | refine T.cond rfl (fun hc => ?_) (fun hc => absurd hc (by decide)) | refine T.cond rfl (fun hc => absurd hc (by decide)) (fun hc => ?_) | refine T.seq ?_ | refine T.block ?_ | refine T.skip ?_ | refine T.exit ?_
  all_goals (refine T.ret (Done.data (Or.inr rfl) ?_ ?_) <;> simp [Try.results54, hk])

end Go.Proofs.Ytloolmchekcmeaa

namespace Go.Proofs.Ytloolmchekcmeaa
attribute [-simp] Go.Av.freeStep Go.Av.exV Go.Av.keepL Go.Av.ups Go.Av.take_app_len
open Go Go.Av
attribute [local irreducible] T ACalls eTy eTm MTy.kind MTy.kids MTm.kind MTm.name MTm.num MTm.ty MTm.fr MTm.label MTm.kids
attribute [local simp] eTy_def eTm_def
set_option maxHeartbeats 4000000

theorem l1Kids_ok (k : Int) : ACalls Try.prog 67 [.i k] [] (.i (tyKids k)) [] [] := by
 refine ACalls.of_body Try.func67 (by kernel_rfl) rfl (by kernel_rfl) (by simp [Try.ntmps67]) (by simp) ?_
 rw [Try.ntmps67]
 repeat' first | (refine aops_end (hK _ ?_); clear hK K) | (refine aops_go ?_; simp; (try (refine gen2 ?_ ?_ <;> intro hq <;> try simp at hq))) | (refine T.ret (Done.data (Or.inr rfl) ?_ ?_) <;> simp [Try.results67, tyKids, *] <;> omega) | refine T.r0 fun K hK => ?_ | refine T.r1 fun K hK => ?_ | refine T.ct rfl ?_ | refine T.cf rfl ?_ | refine T.seq ?_ | refine T.block ?_ | refine T.skip ?_

theorem l1Shape_ok : ∀ (d : Nat) (t : MTy), d <= 1000 -> nTy t <= 1099511627776 -> ACalls Try.prog 63 [aTy t, .i d] [] (.b (shapeTy d t)) [] []
 | 0, t, _, _ => by
  refine ACalls.of_body Try.func63 (by kernel_rfl) rfl (by kernel_rfl) (by simp [Try.ntmps63]) (by simp) ?_
  rw [Try.ntmps63]
  repeat' first | ((first | refine aops_end (hK _ ?_) | refine aopsD_end (hK _ ?_)); clear hK K) | ((first | refine aops_go ?_ | refine aopsD_go ?_); simp; (try (refine gen2 ?_ ?_ <;> intro hq <;> (try simp at hq) <;> try (have : True := hq; clear this hq)))) | (refine T.ret (Done.data (Or.inr rfl) ?_ ?_) <;> simp [Try.results63, shapeTy] <;> omega) | refine T.r0 fun K hK => ?_ | refine T.rd mixed (fun _ => false) [] (by kernel_rfl) fun K hK => ?_ | refine T.ct rfl ?_ | refine T.seq ?_
 | d + 1, t, hd, hn => by
  rw [nTy_def] at hn
  have hlen := nTyS_len t.kids
  have hd1 : ¬ ((d : Int) + 1 < 1) := by omega
  refine ACalls.of_body Try.func63 (by kernel_rfl) rfl (by kernel_rfl) (by simp [Try.ntmps63]) (by simp) ?_
  rw [Try.ntmps63]
  repeat' first | ((first | refine aops_end (hK _ ?_) | refine aopsD_end (hK _ ?_)); clear hK K) | ((first | (first | refine aops_go ?_ | refine aopsD_go ?_) | refine wpcall_pure rfl (l1Kids_ok _) ?_); simp [hd1]; (try (refine gen2 ?_ ?_ <;> intro hq <;> (try simp [hd1] at hq) <;> try (have : True := hq; clear this hq)))) | (refine T.ret (Done.data (Or.inr rfl) ?_ ?_) <;> simp [Try.results63, shapeTy, *] <;> omega) | refine T.r0 fun K hK => ?_ | refine T.rd mixed (fun _ => false) [] (by kernel_rfl) fun K hK => ?_ | refine T.ct rfl ?_ | refine T.cf rfl ?_ | refine T.seq ?_ | refine T.block ?_ | refine T.skip ?_
  obtain ⟨R, hR⟩ : ∃ R, t.kids.all (shapeTy d) = R := ⟨_, rfl⟩
  rw [show shapeTy (d + 1) t = R by simp [shapeTy, hq, hR]]
  refine T.loopF (fun p : Nat => ⟨[(1, .i (d + 1)), (2, .c (.ptr 0 0)), (5, .i p)], [(aTy t).cells], []⟩) (fun p => t.kids.length + 1 - p) (fun p => p <= t.kids.length /\ (t.kids.drop p).all (shapeTy d) = R) (fun p hp => ?_) 0 (by simpa using hR) (by simp)
  obtain ⟨hi, he⟩ := hp
  by_cases hlt : p < t.kids.length
  ·obtain ⟨u, ht⟩ := get_lt hlt
   have htm : u ∈ t.kids := List.mem_of_getElem? ht
   have hgt : t.kids[p] = u := by rw [List.getElem?_eq_getElem hlt] at ht; exact Option.some.inj ht
   have hdr : t.kids.drop p = u :: t.kids.drop (p + 1) := by rw [List.drop_eq_getElem_cons hlt, hgt]
   have hu := l1Shape_ok d u (by omega) (by have := nTyS_mem htm; omega)
   rw [hdr, List.all_cons] at he
   cases hb : shapeTy d u <;> rw [hb] at hu he
   ·repeat' first | (refine aops_end (hK _ ?_); clear hK K) | (refine aops_go ?_; simp [hlt, hgt]; (try simp (disch := omega) only [wrap64]); (try (refine gen2 ?_ ?_ <;> intro hq <;> (try simp [hlt, hgt] at hq) <;> try (have : True := hq; clear this hq)))) | (refine wpcall_pure rfl (hu) ?_; simp [hlt, hgt]; (try simp (disch := omega) only [wrap64]); (try (refine gen2 ?_ ?_ <;> intro hq <;> (try simp [hlt, hgt] at hq) <;> try (have : True := hq; clear this hq)))) | (refine T.ret (Done.data (Or.inr rfl) ?_ ?_) <;> simp [Try.results63, <- he] <;> omega) | refine T.r0 fun K hK => ?_ | refine T.ct rfl ?_ | refine T.seq ?_ | refine T.block ?_ | refine T.skip ?_
   ·repeat' first | (refine aops_end (hK _ ?_); clear hK K) | (refine aops_go ?_; simp [hlt, hgt]; (try simp (disch := omega) only [wrap64]); (try (refine gen2 ?_ ?_ <;> intro hq <;> (try simp [hlt, hgt] at hq) <;> try (have : True := hq; clear this hq)))) | (refine wpcall_pure rfl (hu) ?_; simp [hlt, hgt]; (try simp (disch := omega) only [wrap64]); (try (refine gen2 ?_ ?_ <;> intro hq <;> (try simp [hlt, hgt] at hq) <;> try (have : True := hq; clear this hq)))) | (refine ⟨p + 1, by dsimp only; omega, ⟨by omega, by simpa using he⟩, ?_⟩; simp (disch := omega) [wrap64]) | refine T.r0 fun K hK => ?_ | refine T.r1 fun K hK => ?_ | refine T.ct rfl ?_ | refine T.cf rfl ?_ | refine T.seq ?_ | refine T.block ?_ | refine T.skip ?_
  ·have hp' : p = t.kids.length := by omega
   subst hp'
   simp at he
   repeat' first | (refine aops_end (hK _ ?_); clear hK K) | (refine aops_go ?_; simp [hlt]; (try (refine gen2 ?_ ?_ <;> intro hq <;> (try simp [hlt] at hq) <;> try (have : True := hq; clear this hq)))) | (refine T.ret (Done.data (Or.inr rfl) ?_ ?_) <;> simp [Try.results63, he] <;> omega) | refine T.r0 fun K hK => ?_ | refine T.cf rfl ?_ | refine T.seq ?_ | refine T.exit ?_
end Go.Proofs.Ytloolmchekcmeaa

namespace Go.Proofs.Ytloolmchekcmeaa
attribute [-simp] Go.Av.freeStep Go.Av.exV Go.Av.keepL Go.Av.ups Go.Av.take_app_len
open Go Go.Av
attribute [local irreducible] T ACalls eTy eTm MTy.kind MTy.kids MTm.kind MTm.name MTm.num MTm.ty MTm.fr MTm.label MTm.kids
attribute [local simp] eTy_def eTm_def
set_option maxHeartbeats 4000000

theorem indexFuncTy_0 (f : FuncId) (l : List MTy) (q : MTy -> Bool) (hl : l.length <= 4611686018427387904) (hf : ∀ t ∈ l, ACalls Try.prog f [aTy t] [] (.b (q t)) [] []) :
  ACalls Try.prog 71 [.l (l.map eTy), .c (.fn f [])] [] (.i (firstIx q l 0)) [] [] := by
 refine ACalls.of_body Try.func71 (by kernel_rfl) rfl (by kernel_rfl) (by simp [Try.ntmps71]) (by simp) ?_
 rw [Try.ntmps71]
 repeat' first | (refine aops_end (hK _ ?_); clear hK K) | (refine aops_go ?_; simp; (try (refine gen2 ?_ ?_ <;> intro hq <;> try simp at hq))) | refine T.r0 fun K hK => ?_ | refine T.seq ?_ | refine T.block ?_
 obtain ⟨R, hR⟩ : ∃ R, firstIx q l 0 = R := ⟨_, rfl⟩
 rw [hR]
 refine T.loopF (fun p : Nat => ⟨[(0, .l (l.map eTy)), (1, .c (.fn f [])), (7, .i l.length), (8, .i p)], [], []⟩) (fun p => l.length + 1 - p) (fun p => p <= l.length /\ firstIx q (l.drop p) p = R) (fun p hp => ?_) 0 (by simpa using hR) (by simp)
 obtain ⟨hi, he⟩ := hp
 by_cases hlt : p < l.length
 ·obtain ⟨u, ht⟩ := get_lt hlt
  have htm : u ∈ l := List.mem_of_getElem? ht
  have hgt : l[p] = u := by rw [List.getElem?_eq_getElem hlt] at ht; exact Option.some.inj ht
  have hdr : l.drop p = u :: l.drop (p + 1) := by rw [List.drop_eq_getElem_cons hlt, hgt]
  have hu := hf u htm
  rw [hdr, firstIx] at he
  cases hb : q u <;> rw [hb] at hu he
  ·repeat' first | (refine aops_end (hK _ ?_); clear hK K) | (refine aops_go ?_; simp [hlt, hgt]; (try simp (disch := omega) only [wrap64]); (try (refine gen2 ?_ ?_ <;> intro hq <;> try simp [hlt, hgt] at hq))) | (refine wpcall_pure rfl (hu) ?_; simp [hlt, hgt]; (try simp (disch := omega) only [wrap64]); (try (refine gen2 ?_ ?_ <;> intro hq <;> try simp [hlt, hgt] at hq))) | (refine ⟨p + 1, by dsimp only; omega, ⟨by omega, by simpa using he⟩, ?_⟩; simp (disch := omega) [wrap64]) | refine T.r0 fun K hK => ?_ | refine T.r1 fun K hK => ?_ | refine T.ct rfl ?_ | refine T.cf rfl ?_ | refine T.seq ?_ | refine T.block ?_ | refine T.skip ?_
  ·repeat' first | (refine aops_end (hK _ ?_); clear hK K) | (refine aops_go ?_; simp [hlt, hgt]; (try simp (disch := omega) only [wrap64]); (try (refine gen2 ?_ ?_ <;> intro hq <;> try simp [hlt, hgt] at hq))) | (refine wpcall_pure rfl (hu) ?_; simp [hlt, hgt]; (try simp (disch := omega) only [wrap64]); (try (refine gen2 ?_ ?_ <;> intro hq <;> try simp [hlt, hgt] at hq))) | (refine T.ret (Done.data (Or.inr rfl) ?_ ?_) <;> simp [Try.results71, <- he] <;> omega) | refine T.r0 fun K hK => ?_ | refine T.ct rfl ?_ | refine T.seq ?_ | refine T.block ?_ | refine T.skip ?_
 ·have hp' : p = l.length := by omega
  subst hp'
  simp [firstIx] at he
  repeat' first | (refine aops_end (hK _ ?_); clear hK K) | (refine aops_go ?_; simp [hlt]; (try (refine gen2 ?_ ?_ <;> intro hq <;> try simp [hlt] at hq))) | (refine T.ret (Done.data (Or.inr rfl) ?_ ?_) <;> simp [Try.results71, he] <;> omega) | refine T.r0 fun K hK => ?_ | refine T.cf rfl ?_ | refine T.seq ?_ | refine T.exit ?_

theorem containsFuncTy_0 (f : FuncId) (l : List MTy) (q : MTy -> Bool) (hl : l.length <= 4611686018427387904) (hf : ∀ t ∈ l, ACalls Try.prog f [aTy t] [] (.b (q t)) [] []) :
  ACalls Try.prog 68 [.l (l.map eTy), .c (.fn f [])] [] (.b (l.any q)) [] [] := by
 refine ACalls.of_body Try.func68 (by kernel_rfl) rfl (by kernel_rfl) (by simp [Try.ntmps68]) (by simp) ?_
 rw [Try.ntmps68]
 rw [<- firstIx_any (i := 0) (by omega)]
 repeat' first | (refine aops_end (hK _ ?_); clear hK K) | ((first | refine aops_go ?_ | refine wpcall_pure rfl (indexFuncTy_0 f l q hl hf) ?_); simp; (try (refine gen2 ?_ ?_ <;> intro hq <;> try simp at hq))) | (refine T.ret (Done.data (Or.inr rfl) ?_ ?_) <;> simp [Try.results68, *] <;> omega) | refine T.r0 fun K hK => ?_

theorem indexFuncTy_1 (f : FuncId) (d : DV) (l : List MTy) (q : MTy -> Bool) (hl : l.length <= 4611686018427387904) (hf : ∀ t ∈ l, ACalls Try.prog f [aTy t, .c (.ptr 0 0)] (dV [[d]]) (.b (q t)) (dV [[d]]) []) :
  ACalls Try.prog 71 [.l (l.map eTy), .c (.fn f [0])] (dV [[d]]) (.i (firstIx q l 0)) (dV [[d]]) [] := by
 refine ACalls.of_body Try.func71 (by kernel_rfl) rfl (by kernel_rfl) (by simp [Try.ntmps71]) (by simp) ?_
 rw [Try.ntmps71]
 repeat' first | (refine aops_end (hK _ ?_); clear hK K) | (refine aops_go ?_; simp; (try (refine gen2 ?_ ?_ <;> intro hq <;> try simp at hq))) | refine T.r0 fun K hK => ?_ | refine T.seq ?_ | refine T.block ?_
 obtain ⟨R, hR⟩ : ∃ R, firstIx q l 0 = R := ⟨_, rfl⟩
 rw [hR]
 refine T.loopF (fun p : Nat => ⟨[(0, .l (l.map eTy)), (1, .c (.fn f [0])), (7, .i l.length), (8, .i p)], [[.d d]], []⟩) (fun p => l.length + 1 - p) (fun p => p <= l.length /\ firstIx q (l.drop p) p = R) (fun p hp => ?_) 0 (by simpa using hR) (by simp)
 obtain ⟨hi, he⟩ := hp
 by_cases hlt : p < l.length
 ·obtain ⟨u, ht⟩ := get_lt hlt
  have htm : u ∈ l := List.mem_of_getElem? ht
  have hgt : l[p] = u := by rw [List.getElem?_eq_getElem hlt] at ht; exact Option.some.inj ht
  have hdr : l.drop p = u :: l.drop (p + 1) := by rw [List.drop_eq_getElem_cons hlt, hgt]
  have hu := hf u htm
  rw [hdr, firstIx] at he
  cases hb : q u <;> rw [hb] at hu he
  ·repeat' first | (refine aops_end (hK _ ?_); clear hK K) | (refine aops_go ?_; simp [hlt, hgt]; (try simp (disch := omega) only [wrap64]); (try (refine gen2 ?_ ?_ <;> intro hq <;> try simp [hlt, hgt] at hq))) | (refine wpcall_obj1 0 [d] rfl rfl hu ?_; simp) | (refine ⟨p + 1, by dsimp only; omega, ⟨by omega, by simpa using he⟩, ?_⟩; simp (disch := omega) [wrap64]) | refine T.r0 fun K hK => ?_ | refine T.r1 fun K hK => ?_ | refine T.ct rfl ?_ | refine T.cf rfl ?_ | refine T.seq ?_ | refine T.block ?_ | refine T.skip ?_
  ·repeat' first | (refine aops_end (hK _ ?_); clear hK K) | (refine aops_go ?_; simp [hlt, hgt]; (try simp (disch := omega) only [wrap64]); (try (refine gen2 ?_ ?_ <;> intro hq <;> try simp [hlt, hgt] at hq))) | (refine wpcall_obj1 0 [d] rfl rfl hu ?_; simp) | refine T.r0 fun K hK => ?_ | refine T.ct rfl ?_ | refine T.seq ?_ | refine T.block ?_ | refine T.skip ?_
   refine T.ret (Done.obj1 (Or.inr rfl) ?_ ?_ ?_) <;> simp [Try.results71, <- he]
 ·have hp' : p = l.length := by omega
  subst hp'
  simp [firstIx] at he
  repeat' first | (refine aops_end (hK _ ?_); clear hK K) | (refine aops_go ?_; simp [hlt]; (try (refine gen2 ?_ ?_ <;> intro hq <;> try simp [hlt] at hq))) | refine T.r0 fun K hK => ?_ | refine T.cf rfl ?_ | refine T.seq ?_ | refine T.exit ?_
  refine T.ret (Done.obj1 (Or.inr rfl) ?_ ?_ ?_) <;> simp [Try.results71, he]

theorem containsFuncTy_1 (f : FuncId) (d : DV) (l : List MTy) (q : MTy -> Bool) (hl : l.length <= 4611686018427387904) (hf : ∀ t ∈ l, ACalls Try.prog f [aTy t, .c (.ptr 0 0)] (dV [[d]]) (.b (q t)) (dV [[d]]) []) :
  ACalls Try.prog 68 [.l (l.map eTy), .c (.fn f [0])] (dV [[d]]) (.b (l.any q)) (dV [[d]]) [] := by
 refine ACalls.of_body Try.func68 (by kernel_rfl) rfl (by kernel_rfl) (by simp [Try.ntmps68]) (by simp) ?_
 rw [Try.ntmps68]
 rw [<- firstIx_any (i := 0) (by omega)]
 repeat' first | (refine aops_end (hK _ ?_); clear hK K) | ((first | refine aops_go ?_ | refine wpcall_obj1 0 [d] rfl rfl (indexFuncTy_1 f d l q hl hf) ?_); simp; (try (refine gen2 ?_ ?_ <;> intro hq <;> try simp at hq))) | refine T.r0 fun K hK => ?_
 all_goals (refine T.ret (Done.obj1 (Or.inr rfl) ?_ ?_ ?_) <;> simp [Try.results68, *])

end Go.Proofs.Ytloolmchekcmeaa

namespace Go.Proofs.Ytloolmchekcmeaa
attribute [-simp] Go.Av.freeStep Go.Av.exV Go.Av.keepL Go.Av.ups Go.Av.take_app_len
open Go Go.Av
attribute [local irreducible] T ACalls eTy eTm MTy.kind MTy.kids MTm.kind MTm.name MTm.num MTm.ty MTm.fr MTm.label MTm.kids
attribute [local simp] eTy_def eTm_def
set_option maxHeartbeats 4000000

theorem equalFuncTy_0 (f : FuncId) (l m : List MTy) (q : MTy -> MTy -> Bool) (hl : l.length <= 4611686018427387904) (hf : ∀ a ∈ l, ∀ b ∈ m, ACalls Try.prog f [aTy a, aTy b] [] (.b (q a b)) [] []) :
  ACalls Try.prog 70 [.l (l.map eTy), .l (m.map eTy), .c (.fn f [])] [] (.b (all2 q l m)) [] [] := by
 refine ACalls.of_body Try.func70 (by kernel_rfl) rfl (by kernel_rfl) (by simp [Try.ntmps70]) (by simp) ?_
 rw [Try.ntmps70]
 by_cases hlm : l.length = m.length
 rotate_left
 ·have hne : ¬ (l.length : Int) = m.length := by omega
  repeat' first | (refine aops_end (hK _ ?_); clear hK K) | (refine aops_go ?_; simp [hne]; (try (refine gen2 ?_ ?_ <;> intro hq <;> try simp [hne] at hq))) | (refine T.ret (Done.data (Or.inr rfl) ?_ ?_) <;> simp [Try.results70, all2_ne hlm] <;> omega) | refine T.r0 fun K hK => ?_ | refine T.ct rfl ?_ | refine T.seq ?_
 repeat' first | (refine aops_end (hK _ ?_); clear hK K) | (refine aops_go ?_; simp [hlm]; (try (refine gen2 ?_ ?_ <;> intro hq <;> try simp [hlm] at hq))) | refine T.r0 fun K hK => ?_ | refine T.cf rfl ?_ | refine T.seq ?_ | refine T.block ?_ | refine T.skip ?_
 obtain ⟨R, hR⟩ : ∃ R, all2 q l m = R := ⟨_, rfl⟩
 rw [hR]
 refine T.loopF (fun x : Nat × List (List CV) => ⟨[(0, .l (l.map eTy)), (1, .l (m.map eTy)), (2, .c (.fn f [])), (15, .l (l.map eTy)), (16, .i m.length), (17, .i x.1)], x.2, []⟩) (fun x => l.length + 1 - x.1) (fun x => x.1 <= l.length /\ all2 q (l.drop x.1) (m.drop x.1) = R) (fun x hp => ?_) (0, []) (by simpa using hR) (by simp)
 obtain ⟨p, G⟩ := x
 obtain ⟨hi, he⟩ := hp
 dsimp only at hi he ⊢
 by_cases hlt : p < l.length
 ·have hlt2 : p < m.length := by omega
  obtain ⟨u, ht⟩ := get_lt hlt
  have htm : u ∈ l := List.mem_of_getElem? ht
  have hgt : l[p] = u := by rw [List.getElem?_eq_getElem hlt] at ht; exact Option.some.inj ht
  have hdr : l.drop p = u :: l.drop (p + 1) := by rw [List.drop_eq_getElem_cons hlt, hgt]
  obtain ⟨v, hv⟩ := get_lt hlt2
  have hvm : v ∈ m := List.mem_of_getElem? hv
  have hgv : m[p] = v := by rw [List.getElem?_eq_getElem hlt2] at hv; exact Option.some.inj hv
  have hu := hf u htm v hvm
  rw [hdr, drop_cons hlt2, hgv, all2_cons] at he
  cases hb : q u v <;> rw [hb] at hu he
  ·repeat' first | (refine aops_end (hK _ ?_); clear hK K) | (refine aops_go ?_; simp [hlt, hlt2, hgt, hgv]; (try simp (disch := omega) only [wrap64]); (try (refine gen2 ?_ ?_ <;> intro hq <;> try simp [hlt, hlt2, hgt, hgv] at hq))) | (refine wpcall_pure rfl (hu) ?_; simp [hlt, hlt2, hgt, hgv]; (try simp (disch := omega) only [wrap64]); (try (refine gen2 ?_ ?_ <;> intro hq <;> try simp [hlt, hlt2, hgt, hgv] at hq))) | (refine T.ret (Done.data (Or.inr rfl) ?_ ?_) <;> simp [Try.results70, <- he] <;> omega) | refine T.r0 fun K hK => ?_ | refine T.ct rfl ?_ | refine T.seq ?_ | refine T.block ?_ | refine T.skip ?_
  ·repeat' first | (refine aops_end (hK _ ?_); clear hK K) | (refine aops_go ?_; simp [hlt, hlt2, hgt, hgv]; (try simp (disch := omega) only [wrap64]); (try (refine gen2 ?_ ?_ <;> intro hq <;> try simp [hlt, hlt2, hgt, hgv] at hq))) | (refine wpcall_pure rfl (hu) ?_; simp [hlt, hlt2, hgt, hgv]; (try simp (disch := omega) only [wrap64]); (try (refine gen2 ?_ ?_ <;> intro hq <;> try simp [hlt, hlt2, hgt, hgv] at hq))) | (refine ⟨(p + 1, _), by dsimp only; omega, ⟨by dsimp only; omega, by simpa using he⟩, rfl, rfl, ?_⟩; simp (disch := omega) [wrap64]) | refine T.r0 fun K hK => ?_ | refine T.r1 fun K hK => ?_ | refine T.ct rfl ?_ | refine T.cf rfl ?_ | refine T.seq ?_ | refine T.block ?_ | refine T.skip ?_
 ·have hp' : p = l.length := by omega
  subst hp'
  rw [List.drop_length, hlm, List.drop_length, all2_nil] at he
  repeat' first | (refine aops_end (hK _ ?_); clear hK K) | (refine aops_go ?_; simp [hlt, hlm]; (try (refine gen2 ?_ ?_ <;> intro hq <;> try simp [hlt, hlm] at hq))) | (refine T.ret (Done.data (Or.inr rfl) ?_ ?_) <;> simp [Try.results70, <- he] <;> omega) | refine T.r0 fun K hK => ?_ | refine T.cf rfl ?_ | refine T.seq ?_ | refine T.exit ?_

end Go.Proofs.Ytloolmchekcmeaa

namespace Go.Proofs.Ytloolmchekcmeaa
attribute [-simp] Go.Av.freeStep Go.Av.exV Go.Av.keepL Go.Av.ups Go.Av.take_app_len
open Go Go.Av
attribute [local irreducible] T ACalls eTy eTm MTy.kind MTy.kids MTm.kind MTm.name MTm.num MTm.ty MTm.fr MTm.label MTm.kids
attribute [local simp] eTy_def eTm_def
set_option maxHeartbeats 4000000

theorem TypeValidS_ok (t : MTy) (hn : nTy t <= 1099511627776) : ACalls Try.prog 51 [aTy t] [] (.b (shapeTy 4 t)) [] [] := by
 refine ACalls.of_body Try.func51 (by kernel_rfl) rfl (by kernel_rfl) (by simp [Try.ntmps51]) (by simp) ?_
 rw [Try.ntmps51]
 repeat' first | (refine aops_end (hK _ ?_); clear hK K) | ((first | refine aops_go ?_ | refine wpcall_pure rfl (l1Shape_ok 4 t (by omega) hn) ?_); simp) | (refine T.ret (Done.data (Or.inr rfl) ?_ ?_) <;> simp [Try.results51] <;> omega) | refine T.r0 fun K hK => ?_

theorem typeScan1_ok (d : Int) (hd : 0 <= d /\ d <= 1000) (t : MTy) (q : Bool) (h : ACalls Try.prog 65 [aTy t, .i (d + 1)] [] (.b q) [] []) :
  ACalls Try.prog 69 [aTy t, .c (.ptr 0 0)] (dV [[.i d]]) (.b (!q)) (dV [[.i d]]) [] := by
 refine ACalls.of_body Try.func69 (by kernel_rfl) rfl (by kernel_rfl) (by simp [Try.ntmps69]) (by simp) ?_
 rw [Try.ntmps69]
 repeat' first | (refine aops_end (hK _ ?_); clear hK K) | ((first | refine aops_go ?_ | refine wpcall_pure rfl (h) ?_); simp; (try simp (disch := omega) only [wrap64])) | refine T.r0 fun K hK => ?_
 refine T.ret (Done.obj1 (Or.inr rfl) ?_ ?_ ?_) <;> simp [Try.results69]

theorem typeScan_ok : ∀ (d : Nat) (t : MTy), d <= 4 -> nTy t <= 1099511627776 -> ACalls Try.prog 65 [aTy t, .i (5 - d)] [] (.b (shapeTy d t)) [] []
 | 0, t, _, _ => by
  refine ACalls.of_body Try.func65 (by kernel_rfl) rfl (by kernel_rfl) (by simp [Try.ntmps65]) (by simp) ?_
  rw [Try.ntmps65]
  repeat' first | (refine aops_end (hK _ ?_); clear hK K) | (refine aops_go ?_; simp; (try (refine gen2 ?_ ?_ <;> intro hq <;> try simp at hq))) | (refine T.ret (Done.data (Or.inr rfl) ?_ ?_) <;> simp [Try.results65, shapeTy] <;> omega) | refine T.r0 fun K hK => ?_ | refine T.r1 fun K hK => ?_ | refine T.ct rfl ?_ | refine T.cf rfl ?_ | refine T.seq ?_ | refine T.block ?_ | refine T.skip ?_
 | d + 1, t, hd, hn => by
  rw [nTy_def] at hn
  have hlen := nTyS_len t.kids
  have hd1 : (5 : Int) - (d + 1) <= 4 := by omega
  have hc := containsFuncTy_1 69 (.i (5 - (d + 1))) t.kids (fun t => !shapeTy d t) (by omega) (fun u hu => typeScan1_ok (5 - (d + 1)) (by omega) u _ (by
   have := typeScan_ok d u (by omega) (by have := nTyS_mem hu; omega)
   rwa [show (5 : Int) - (d + 1) + 1 = 5 - d by omega]))
  have hall : (!t.kids.any fun t => !shapeTy d t) = t.kids.all (shapeTy d) := not_any_not _ _
  rw [show shapeTy (d + 1) t = (decide (tyKids t.kind = t.kids.length) && t.kids.all (shapeTy d)) from rfl, <- hall]
  generalize (t.kids.any fun t => !shapeTy d t) = R at hc ⊢
  refine ACalls.of_body Try.func65 (by kernel_rfl) rfl (by kernel_rfl) (by simp [Try.ntmps65]) (by simp) ?_
  rw [Try.ntmps65]
  repeat' first | (refine aops_end (hK _ ?_); clear hK K) | (refine aops_go ?_; simp [hd1]; (try (refine gen2 ?_ ?_ <;> intro hq <;> try simp [hd1] at hq))) | (refine wpcall_obj1 1 [.i (5 - (d + 1))] rfl (by simp) hc ?_; simp) | (refine T.ret (Done.data (Or.inr rfl) ?_ ?_) <;> simp [Try.results65, tyKids, *] <;> omega) | refine T.r0 fun K hK => ?_ | refine T.r1 fun K hK => ?_ | refine T.ct rfl ?_ | refine T.cf rfl ?_ | refine T.seq ?_ | refine T.block ?_ | refine T.skip ?_

theorem TypeValid_ok (t : MTy) (hn : nTy t <= 1099511627776) : ACalls Try.prog 57 [aTy t] [] (.b (shapeTy 4 t)) [] [] := by
 refine ACalls.of_body Try.func57 (by kernel_rfl) rfl (by kernel_rfl) (by simp [Try.ntmps57]) (by simp) ?_
 rw [Try.ntmps57]
 repeat' first | (refine aops_end (hK _ ?_); clear hK K) | ((first | refine aops_go ?_ | refine wpcall_pure rfl (typeScan_ok 4 t (by omega) hn) ?_); simp) | (refine T.ret (Done.data (Or.inr rfl) ?_ ?_) <;> simp [Try.results57] <;> omega) | refine T.r0 fun K hK => ?_

theorem consistent_ok : (a b : MTy) -> nTy a <= 1099511627776 -> ACalls Try.prog 66 [aTy a, aTy b] [] (.b (consTy a b)) [] []
 | .mk k l, b, hn => by
  rw [nTy_def] at hn
  have hlen := nTyS_len l
  have hc := equalFuncTy_0 66 l b.kids consTy (by simp at hn; omega) (fun u hu v hv => consistent_ok u v (by have := nTyS_mem hu; simp at hn; omega))
  rw [consTy_def]
  simp only [MTy.kids_mk, MTy.kind_mk]
  generalize all2 consTy l b.kids = R at hc ⊢
  refine ACalls.of_body Try.func66 (by kernel_rfl) rfl (by kernel_rfl) (by simp [Try.ntmps66]) (by simp) ?_
  rw [Try.ntmps66]
  repeat' first | (refine aops_end (hK _ ?_); clear hK K) | ((first | refine aops_go ?_ | refine wpcall_pure rfl (hc) ?_); simp; (try (refine gen2 ?_ ?_ <;> intro hq <;> try simp at hq))) | (refine T.ret (Done.data (Or.inr rfl) ?_ ?_) <;> simp [Try.results66, *] <;> omega) | refine T.r0 fun K hK => ?_
termination_by a => SizeOf.sizeOf a
decreasing_by have := List.sizeOf_lt_of_mem hu; simp; omega

theorem Consistent_ok (a b : MTy) (ha : nTy a <= 1099511627776) (hb : nTy b <= 1099511627776) : ACalls Try.prog 59 [aTy a, aTy b] [] (.b (shapeTy 4 a && shapeTy 4 b && consTy a b)) [] [] := by
 refine ACalls.of_body Try.func59 (by kernel_rfl) rfl (by kernel_rfl) (by simp [Try.ntmps59]) (by simp) ?_
 rw [Try.ntmps59]
 repeat' first | (refine aops_end (hK _ ?_); clear hK K) | ((first | refine aops_go ?_ | refine wpcall_pure rfl (TypeValid_ok a ha) ?_ | refine wpcall_pure rfl (TypeValid_ok b hb) ?_ | refine wpcall_pure rfl (consistent_ok a b ha) ?_); simp; (try (refine gen2 ?_ ?_ <;> intro hq <;> try simp at hq))) | (refine T.ret (Done.data (Or.inr rfl) ?_ ?_) <;> simp [Try.results59, *] <;> omega) | refine T.r0 fun K hK => ?_

end Go.Proofs.Ytloolmchekcmeaa

namespace Go.Proofs.Ytloolmchekcmeaa
attribute [-simp] Go.Av.freeStep Go.Av.exV Go.Av.keepL Go.Av.ups Go.Av.take_app_len
open Go Go.Av
attribute [local irreducible] T ACalls eTy eTm MTy.kind MTy.kids MTm.kind MTm.name MTm.num MTm.ty MTm.fr MTm.label MTm.kids
attribute [local simp] eTy_def eTm_def
set_option maxHeartbeats 4000000

theorem kind_cases (k : Int) : k = 1 \/ k = 5 \/ k = 13 \/ k = 14 \/ k = 2 \/ (¬ k = 1 /\ ¬ k = 5 /\ ¬ k = 13 /\ ¬ k = 14 /\ ¬ k = 2) := by omega

theorem in00 (n : Int) : inM n 0 0 = decide (n = 0) := by simp only [inM, <- Bool.decide_and]; exact decide_eq_decide.2 (by omega)

theorem l2Own_ok (e : MTm) (hk : e.kind ≠ 14) (ht : nTy e.ty <= 1099511627776) : ACalls Try.prog 42 [aTm e] [] (.b (ownM e)) [] [] := by
 have hnm := l2Name_ok e.name
 have hty := TypeValidS_ok e.ty ht
 have hnt := l2None_ok e.ty
 have hnf := l2None_ok e.fr
 rcases kind_cases e.kind with h1 | h1 | h1 | h1 | h1 | ⟨h1, h2, h3, h4, h5⟩
 ·have hr : ownM e = (nameM e.name && decide (e.num = 0) && noTyM e.ty && (noTyM e.fr && decide (e.label = 0))) := by simp [ownM, h1, namedM, typedM, in00]
  rw [hr]
  refine ACalls.of_body Try.func42 (by kernel_rfl) rfl (by kernel_rfl) (by simp [Try.ntmps42]) (by simp) ?_
  rw [Try.ntmps42]
  repeat' first | (refine aops_end (hK _ ?_); clear hK K) | ((first | refine aops_go ?_ | refine wpcall_pure rfl (hnm) ?_ | refine wpcall_pure rfl (hnt) ?_ | refine wpcall_pure rfl (hnf) ?_); simp [h1]; (try (refine gen2 ?_ ?_ <;> intro hq <;> try simp [h1] at hq))) | (refine T.ret (Done.data (Or.inr rfl) ?_ ?_) <;> simp [Try.results42, *] <;> omega) | refine T.r0 fun K hK => ?_ | refine T.ct rfl ?_ | refine T.cf rfl ?_ | refine T.seq ?_ | refine T.skip ?_
 ·have hr : ownM e = (nameM e.name && decide (e.num = 0) && shapeTy 4 e.ty && (noTyM e.fr && decide (e.label = 0))) := by simp [ownM, h1, namedM, typedM, in00]
  rw [hr]
  refine ACalls.of_body Try.func42 (by kernel_rfl) rfl (by kernel_rfl) (by simp [Try.ntmps42]) (by simp) ?_
  rw [Try.ntmps42]
  repeat' first | (refine aops_end (hK _ ?_); clear hK K) | ((first | refine aops_go ?_ | refine wpcall_pure rfl (hnm) ?_ | refine wpcall_pure rfl (hty) ?_ | refine wpcall_pure rfl (hnf) ?_); simp [h1]; (try (refine gen2 ?_ ?_ <;> intro hq <;> try simp [h1] at hq))) | (refine T.ret (Done.data (Or.inr rfl) ?_ ?_) <;> simp [Try.results42, *] <;> omega) | refine T.r0 fun K hK => ?_ | refine T.ct rfl ?_ | refine T.cf rfl ?_ | refine T.seq ?_ | refine T.skip ?_
 ·have hr : ownM e = (decide (e.name = []) && decide (e.num = 0) && shapeTy 4 e.ty && (noTyM e.fr && decide (e.label = 0))) := by simp [ownM, h1, namedM, typedM, in00]
  have hn0 : e.name = [] -> nameM e.name = false := fun h => by rw [h]; rfl
  rw [hr]
  by_cases hne : e.name = []
  ·rw [hn0 hne, hne] at hnm
   refine ACalls.of_body Try.func42 (by kernel_rfl) rfl (by kernel_rfl) (by simp [Try.ntmps42]) (by simp) ?_
   rw [Try.ntmps42]
   repeat' first | (refine aops_end (hK _ ?_); clear hK K) | ((first | refine aops_go ?_ | refine wpcall_pure rfl (hnm) ?_ | refine wpcall_pure rfl (hty) ?_ | refine wpcall_pure rfl (hnf) ?_); simp [h1, hne]; (try (refine gen2 ?_ ?_ <;> intro hq <;> try simp [h1, hne] at hq))) | (refine T.ret (Done.data (Or.inr rfl) ?_ ?_) <;> simp [Try.results42, *] <;> omega) | refine T.r0 fun K hK => ?_ | refine T.ct rfl ?_ | refine T.cf rfl ?_ | refine T.seq ?_ | refine T.skip ?_
  ·generalize nameM e.name = nb at hnm
   refine ACalls.of_body Try.func42 (by kernel_rfl) rfl (by kernel_rfl) (by simp [Try.ntmps42]) (by simp) ?_
   rw [Try.ntmps42]
   repeat' first | (refine aops_end (hK _ ?_); clear hK K) | ((first | refine aops_go ?_ | refine wpcall_pure rfl (hnm) ?_); simp [h1, hne]; (try (refine gen2 ?_ ?_ <;> intro hq <;> try simp [h1, hne] at hq))) | (refine T.ret (Done.data (Or.inr rfl) ?_ ?_) <;> simp [Try.results42, *] <;> omega) | refine T.r0 fun K hK => ?_ | refine T.ct rfl ?_ | refine T.seq ?_
 ·exact absurd h1 hk
 ·have hr : ownM e = (decide (e.name = []) && (decide (0 <= e.num) && decide (e.num <= 999)) && noTyM e.ty && (noTyM e.fr && decide (e.label = 0))) := by simp [ownM, h1, namedM, typedM, inM]
  have hn0 : e.name = [] -> nameM e.name = false := fun h => by rw [h]; rfl
  rw [hr]
  by_cases hne : e.name = []
  ·rw [hn0 hne, hne] at hnm
   refine ACalls.of_body Try.func42 (by kernel_rfl) rfl (by kernel_rfl) (by simp [Try.ntmps42]) (by simp) ?_
   rw [Try.ntmps42]
   repeat' first | (refine aops_end (hK _ ?_); clear hK K) | ((first | refine aops_go ?_ | refine wpcall_pure rfl (hnm) ?_ | refine wpcall_pure rfl (hnt) ?_ | refine wpcall_pure rfl (hnf) ?_); simp [h1, hne]; (try (refine gen2 ?_ ?_ <;> intro hq <;> try simp [h1, hne] at hq))) | (refine T.ret (Done.data (Or.inr rfl) ?_ ?_) <;> simp [Try.results42, *] <;> omega) | refine T.r0 fun K hK => ?_ | refine T.ct rfl ?_ | refine T.cf rfl ?_ | refine T.seq ?_ | refine T.skip ?_
  ·generalize nameM e.name = nb at hnm
   refine ACalls.of_body Try.func42 (by kernel_rfl) rfl (by kernel_rfl) (by simp [Try.ntmps42]) (by simp) ?_
   rw [Try.ntmps42]
   repeat' first | (refine aops_end (hK _ ?_); clear hK K) | ((first | refine aops_go ?_ | refine wpcall_pure rfl (hnm) ?_); simp [h1, hne]; (try (refine gen2 ?_ ?_ <;> intro hq <;> try simp [h1, hne] at hq))) | (refine T.ret (Done.data (Or.inr rfl) ?_ ?_) <;> simp [Try.results42, *] <;> omega) | refine T.r0 fun K hK => ?_ | refine T.ct rfl ?_ | refine T.seq ?_
 ·have hr : ownM e = (decide (e.name = []) && decide (e.num = 0) && noTyM e.ty && (noTyM e.fr && decide (e.label = 0))) := by simp [ownM, h1, h2, h3, h4, h5, namedM, typedM, in00]
  have hn0 : e.name = [] -> nameM e.name = false := fun h => by rw [h]; rfl
  rw [hr]
  by_cases hne : e.name = []
  ·rw [hn0 hne, hne] at hnm
   refine ACalls.of_body Try.func42 (by kernel_rfl) rfl (by kernel_rfl) (by simp [Try.ntmps42]) (by simp) ?_
   rw [Try.ntmps42]
   repeat' first | (refine aops_end (hK _ ?_); clear hK K) | ((first | refine aops_go ?_ | refine wpcall_pure rfl (hnm) ?_ | refine wpcall_pure rfl (hnt) ?_ | refine wpcall_pure rfl (hnf) ?_); simp [h1, h2, h3, h4, h5, hne]; (try (refine gen2 ?_ ?_ <;> intro hq <;> try simp [h1, h2, h3, h4, h5, hne] at hq))) | (refine T.ret (Done.data (Or.inr rfl) ?_ ?_) <;> simp [Try.results42, *] <;> omega) | refine T.r0 fun K hK => ?_ | refine T.ct rfl ?_ | refine T.cf rfl ?_ | refine T.seq ?_ | refine T.skip ?_
  ·generalize nameM e.name = nb at hnm
   refine ACalls.of_body Try.func42 (by kernel_rfl) rfl (by kernel_rfl) (by simp [Try.ntmps42]) (by simp) ?_
   rw [Try.ntmps42]
   repeat' first | (refine aops_end (hK _ ?_); clear hK K) | ((first | refine aops_go ?_ | refine wpcall_pure rfl (hnm) ?_); simp [h1, h2, h3, h4, h5, hne]; (try (refine gen2 ?_ ?_ <;> intro hq <;> try simp [h1, h2, h3, h4, h5, hne] at hq))) | (refine T.ret (Done.data (Or.inr rfl) ?_ ?_) <;> simp [Try.results42, *] <;> omega) | refine T.r0 fun K hK => ?_ | refine T.ct rfl ?_ | refine T.seq ?_

theorem nodeOk_ok (e : MTm) (hl : e.kids.length <= 1099511627776) (ht : nTy e.ty <= 1099511627776) (hf : nTy e.fr <= 1099511627776) : ACalls Try.prog 45 [aTm e] [] (.b (nodeM e)) [] [] := by
 have hop := operands_ok e.kind
 have hnm := isName_ok e.name
 have hty := TypeValid_ok e.ty ht
 have hnt := isNoType_ok e.ty
 have hnf := isNoType_ok e.fr
 have hcon := Consistent_ok e.fr e.ty hf ht
 have hlab := isLabel_ok e.label
 have hin0 := inM_ok e.num 0 0
 have hin9 := inM_ok e.num 0 999
 by_cases hkid : kidsM e.kind = e.kids.length
 rotate_left
 ·rw [show nodeM e = false by simp [nodeM, hkid]]
  refine ACalls.of_body Try.func45 (by kernel_rfl) rfl (by kernel_rfl) (by simp [Try.ntmps45]) (by simp) ?_
  rw [Try.ntmps45]
  repeat' first | ((first | refine aops_end (hK _ ?_) | refine aopsD_end (hK _ ?_)); clear hK K) | ((first | (first | refine aops_go ?_ | refine aopsD_go ?_) | refine wpcall_pure rfl (hop) ?_); simp [hkid]; (try (refine gen2 ?_ ?_ <;> intro hq <;> try simp [hkid] at hq))) | (refine T.ret (Done.data (Or.inr rfl) ?_ ?_) <;> simp [Try.results45] <;> omega) | refine T.r0 fun K hK => ?_ | refine T.rd mixed (fun _ => false) [] (by kernel_rfl) fun K hK => ?_ | refine T.ct rfl ?_ | refine T.seq ?_
 rw [show nodeM e = ownM e by simp [nodeM, hkid]]
 rw [hkid] at hop
 rcases kind_cases e.kind with h1 | h1 | h1 | h1 | h1 | ⟨h1, h2, h3, h4, h5⟩
 ·have hr : ownM e = (nameM e.name && inM e.num 0 0 && noTyM e.ty && (noTyM e.fr && decide (e.label = 0))) := by simp [ownM, h1, namedM, typedM]
  rw [hr]
  rw [h1] at hop
  generalize inM e.num 0 0 = i0 at hin0
  refine ACalls.of_body Try.func45 (by kernel_rfl) rfl (by kernel_rfl) (by simp [Try.ntmps45]) (by simp) ?_
  rw [Try.ntmps45]
  repeat' first | ((first | refine aops_end (hK _ ?_) | refine aopsD_end (hK _ ?_)); clear hK K) | ((first | (first | refine aops_go ?_ | refine aopsD_go ?_) | refine wpcall_pure rfl (hop) ?_ | refine wpcall_pure rfl (hnm) ?_ | refine wpcall_pure rfl (hin0) ?_ | refine wpcall_pure rfl (hnt) ?_ | refine wpcall_pure rfl (hnf) ?_); simp [h1]; (try (refine gen2 ?_ ?_ <;> intro hq <;> try simp [h1] at hq))) | (refine T.ret (Done.data (Or.inr rfl) ?_ ?_) <;> simp [Try.results45, *] <;> omega) | refine T.r0 fun K hK => ?_ | refine T.r1 fun K hK => ?_ | refine T.rd mixed (fun _ => false) [] (by kernel_rfl) fun K hK => ?_ | refine T.ct rfl ?_ | refine T.cf rfl ?_ | refine T.seq ?_ | refine T.block ?_ | refine T.skip ?_
 ·have hr : ownM e = (nameM e.name && inM e.num 0 0 && shapeTy 4 e.ty && (noTyM e.fr && decide (e.label = 0))) := by simp [ownM, h1, namedM, typedM]
  rw [hr]
  rw [h1] at hop
  generalize inM e.num 0 0 = i0 at hin0
  refine ACalls.of_body Try.func45 (by kernel_rfl) rfl (by kernel_rfl) (by simp [Try.ntmps45]) (by simp) ?_
  rw [Try.ntmps45]
  repeat' first | ((first | refine aops_end (hK _ ?_) | refine aopsD_end (hK _ ?_)); clear hK K) | ((first | (first | refine aops_go ?_ | refine aopsD_go ?_) | refine wpcall_pure rfl (hop) ?_ | refine wpcall_pure rfl (hnm) ?_ | refine wpcall_pure rfl (hin0) ?_ | refine wpcall_pure rfl (hty) ?_ | refine wpcall_pure rfl (hnf) ?_); simp [h1]; (try (refine gen2 ?_ ?_ <;> intro hq <;> try simp [h1] at hq))) | (refine T.ret (Done.data (Or.inr rfl) ?_ ?_) <;> simp [Try.results45, *] <;> omega) | refine T.r0 fun K hK => ?_ | refine T.r1 fun K hK => ?_ | refine T.rd mixed (fun _ => false) [] (by kernel_rfl) fun K hK => ?_ | refine T.ct rfl ?_ | refine T.cf rfl ?_ | refine T.seq ?_ | refine T.block ?_ | refine T.skip ?_
 ·have hr : ownM e = (decide (e.name = []) && inM e.num 0 0 && shapeTy 4 e.ty && (noTyM e.fr && decide (e.label = 0))) := by simp [ownM, h1, namedM, typedM]
  rw [hr]
  rw [h1] at hop
  generalize inM e.num 0 0 = i0 at hin0
  refine ACalls.of_body Try.func45 (by kernel_rfl) rfl (by kernel_rfl) (by simp [Try.ntmps45]) (by simp) ?_
  rw [Try.ntmps45]
  repeat' first | ((first | refine aops_end (hK _ ?_) | refine aopsD_end (hK _ ?_)); clear hK K) | ((first | (first | refine aops_go ?_ | refine aopsD_go ?_) | refine wpcall_pure rfl (hop) ?_ | refine wpcall_pure rfl (hin0) ?_ | refine wpcall_pure rfl (hty) ?_ | refine wpcall_pure rfl (hnf) ?_); simp [h1]; (try (refine gen2 ?_ ?_ <;> intro hq <;> try simp [h1] at hq))) | (refine T.ret (Done.data (Or.inr rfl) ?_ ?_) <;> simp [Try.results45, *] <;> omega) | refine T.r0 fun K hK => ?_ | refine T.r1 fun K hK => ?_ | refine T.rd mixed (fun _ => false) [] (by kernel_rfl) fun K hK => ?_ | refine T.ct rfl ?_ | refine T.cf rfl ?_ | refine T.seq ?_ | refine T.block ?_ | refine T.skip ?_
 ·have hr : ownM e = (decide (e.name = []) && inM e.num 0 0 && shapeTy 4 e.ty && ((shapeTy 4 e.fr && shapeTy 4 e.ty && consTy e.fr e.ty) && labM e.label)) := by simp [ownM, h1, namedM, typedM, castOwnM]
  rw [hr]
  rw [h1] at hop
  generalize inM e.num 0 0 = i0 at hin0
  generalize hg1 : (shapeTy 4 e.fr && shapeTy 4 e.ty && consTy e.fr e.ty) = g1 at hcon
  generalize labM e.label = g2 at hlab
  refine ACalls.of_body Try.func45 (by kernel_rfl) rfl (by kernel_rfl) (by simp [Try.ntmps45]) (by simp) ?_
  rw [Try.ntmps45]
  repeat' first | ((first | refine aops_end (hK _ ?_) | refine aopsD_end (hK _ ?_)); clear hK K) | ((first | (first | refine aops_go ?_ | refine aopsD_go ?_) | refine wpcall_pure rfl (hop) ?_ | refine wpcall_pure rfl (hin0) ?_ | refine wpcall_pure rfl (hty) ?_ | refine wpcall_pure rfl (hcon) ?_ | refine wpcall_pure rfl (hlab) ?_); simp [h1]; (try (refine gen2 ?_ ?_ <;> intro hq <;> try simp [h1] at hq))) | (refine T.ret (Done.data (Or.inr rfl) ?_ ?_) <;> simp [Try.results45, *] <;> omega) | refine T.r0 fun K hK => ?_ | refine T.r1 fun K hK => ?_ | refine T.rd mixed (fun _ => false) [] (by kernel_rfl) fun K hK => ?_ | refine T.ct rfl ?_ | refine T.cf rfl ?_ | refine T.seq ?_ | refine T.block ?_ | refine T.skip ?_
 ·have hr : ownM e = (decide (e.name = []) && inM e.num 0 999 && noTyM e.ty && (noTyM e.fr && decide (e.label = 0))) := by simp [ownM, h1, namedM, typedM]
  rw [hr]
  rw [h1] at hop
  generalize inM e.num 0 999 = i0 at hin9
  refine ACalls.of_body Try.func45 (by kernel_rfl) rfl (by kernel_rfl) (by simp [Try.ntmps45]) (by simp) ?_
  rw [Try.ntmps45]
  repeat' first | ((first | refine aops_end (hK _ ?_) | refine aopsD_end (hK _ ?_)); clear hK K) | ((first | (first | refine aops_go ?_ | refine aopsD_go ?_) | refine wpcall_pure rfl (hop) ?_ | refine wpcall_pure rfl (hin9) ?_ | refine wpcall_pure rfl (hnt) ?_ | refine wpcall_pure rfl (hnf) ?_); simp [h1]; (try (refine gen2 ?_ ?_ <;> intro hq <;> try simp [h1] at hq))) | (refine T.ret (Done.data (Or.inr rfl) ?_ ?_) <;> simp [Try.results45, *] <;> omega) | refine T.r0 fun K hK => ?_ | refine T.r1 fun K hK => ?_ | refine T.rd mixed (fun _ => false) [] (by kernel_rfl) fun K hK => ?_ | refine T.ct rfl ?_ | refine T.cf rfl ?_ | refine T.seq ?_ | refine T.block ?_ | refine T.skip ?_
 ·have hr : ownM e = (decide (e.name = []) && inM e.num 0 0 && noTyM e.ty && (noTyM e.fr && decide (e.label = 0))) := by simp [ownM, h1, h2, h3, h4, h5, namedM, typedM]
  rw [hr]
  generalize inM e.num 0 0 = i0 at hin0
  refine ACalls.of_body Try.func45 (by kernel_rfl) rfl (by kernel_rfl) (by simp [Try.ntmps45]) (by simp) ?_
  rw [Try.ntmps45]
  repeat' first | ((first | refine aops_end (hK _ ?_) | refine aopsD_end (hK _ ?_)); clear hK K) | ((first | (first | refine aops_go ?_ | refine aopsD_go ?_) | refine wpcall_pure rfl (hop) ?_ | refine wpcall_pure rfl (hin0) ?_ | refine wpcall_pure rfl (hnt) ?_ | refine wpcall_pure rfl (hnf) ?_); simp [h1, h2, h3, h4, h5]; (try (refine gen2 ?_ ?_ <;> intro hq <;> try simp [h1, h2, h3, h4, h5] at hq))) | (refine T.ret (Done.data (Or.inr rfl) ?_ ?_) <;> simp [Try.results45, *] <;> omega) | refine T.r0 fun K hK => ?_ | refine T.r1 fun K hK => ?_ | refine T.rd mixed (fun _ => false) [] (by kernel_rfl) fun K hK => ?_ | refine T.ct rfl ?_ | refine T.cf rfl ?_ | refine T.seq ?_ | refine T.block ?_ | refine T.skip ?_
end Go.Proofs.Ytloolmchekcmeaa

namespace Go.Proofs.Ytloolmchekcmeaa
attribute [-simp] Go.Av.freeStep Go.Av.exV Go.Av.keepL Go.Av.ups Go.Av.take_app_len
open Go Go.Av
attribute [local irreducible] T ACalls eTy eTm MTy.kind MTy.kids MTm.kind MTm.name MTm.num MTm.ty MTm.fr MTm.label MTm.kids
attribute [local simp] eTy_def eTm_def
set_option maxHeartbeats 4000000

theorem nTm_parts {e : MTm} (h : nTm e <= 1099511627776) : nTy e.ty <= 1099511627776 /\ nTy e.fr <= 1099511627776 /\ e.kids.length <= 1099511627776 /\ ∀ u ∈ e.kids, nTm u <= 1099511627776 := by
 rw [nTm_def] at h
 have := nTmS_len e.kids
 exact ⟨by omega, by omega, by omega, fun u hu => by have := nTmS_mem hu; omega⟩

theorem l2Count_ok : ∀ (d : Nat) (e : MTm), d <= 1000 -> nTm e <= 1099511627776 -> ACalls Try.prog 25 [aTm e, .i d] [] (.i (countTm d e)) [] []
 | 0, e, _, hn => by
  obtain ⟨hnt, hnf, hnk, hnu⟩ := nTm_parts hn
  refine ACalls.of_body Try.func25 (by kernel_rfl) rfl (by kernel_rfl) (by simp [Try.ntmps25]) (by simp) ?_
  rw [Try.ntmps25]
  repeat' first | (refine aops_end (hK _ ?_); clear hK K) | (refine aops_go ?_; simp; (try (refine gen2 ?_ ?_ <;> intro hq <;> try simp at hq))) | refine T.r0 fun K hK => ?_ | refine T.seq ?_ | refine T.block ?_
  refine T.loopF (fun _ : Unit => ⟨[(1, .i 0), (2, .c (.ptr 0 0)), (5, .i 1), (6, .i 0)], [(aTm e).cells], []⟩) (fun _ => 0) (fun _ => True) (fun _ _ => ?_) () trivial (by simp)
  repeat' first | (refine aops_end (hK _ ?_); clear hK K) | (refine aops_go ?_; simp; (try simp (disch := omega) only [wrap64]); (try (refine gen2 ?_ ?_ <;> intro hq <;> try simp at hq))) | (refine T.ret (Done.data (Or.inr rfl) ?_ ?_) <;> simp [Try.results25, countTm] <;> omega) | refine T.r0 fun K hK => ?_ | refine T.cf rfl ?_ | refine T.seq ?_ | refine T.exit ?_
 | d + 1, e, hd, hn => by
  obtain ⟨hnt, hnf, hnk, hnu⟩ := nTm_parts hn
  have hd1 : (0 : Int) < (d : Int) + 1 := by omega
  have hcl := countTm_le (d + 1) e
  obtain ⟨R, hR⟩ : ∃ R, countTm (d + 1) e = R := ⟨_, rfl⟩
  rw [hR] at hcl ⊢
  refine ACalls.of_body Try.func25 (by kernel_rfl) rfl (by kernel_rfl) (by simp [Try.ntmps25]) (by simp) ?_
  rw [Try.ntmps25]
  repeat' first | (refine aops_end (hK _ ?_); clear hK K) | (refine aops_go ?_; simp; (try (refine gen2 ?_ ?_ <;> intro hq <;> try simp at hq))) | refine T.r0 fun K hK => ?_ | refine T.seq ?_ | refine T.block ?_
  refine T.loopF (fun x : Nat × Nat => ⟨[(1, .i (d + 1)), (2, .c (.ptr 0 0)), (5, .i x.2), (6, .i x.1)], [(aTm e).cells], []⟩) (fun x => e.kids.length + 1 - x.1) (fun x => x.1 <= e.kids.length /\ x.2 + ((e.kids.drop x.1).map (countTm d)).sum = R) (fun x hx => ?_) (0, 1) (by simpa [countTm] using hR) (by simp)
  obtain ⟨p, k⟩ := x
  obtain ⟨hi, he⟩ := hx
  dsimp only at hi he ⊢
  by_cases hlt : p < e.kids.length
  ·obtain ⟨u, ht⟩ := get_lt hlt
   have htm : u ∈ e.kids := List.mem_of_getElem? ht
   have hgt : e.kids[p] = u := by rw [List.getElem?_eq_getElem hlt] at ht; exact Option.some.inj ht
   have hdr : e.kids.drop p = u :: e.kids.drop (p + 1) := by rw [List.drop_eq_getElem_cons hlt, hgt]
   have hu := l2Count_ok d u (by omega) (hnu u htm)
   rw [hdr, List.map_cons, List.sum_cons] at he
   generalize countTm d u = cu at hu he
   repeat' first | (refine aops_end (hK _ ?_); clear hK K) | (refine aops_go ?_; simp [hlt, hgt, hd1]; (try simp (disch := omega) only [wrap64]); (try (refine gen2 ?_ ?_ <;> intro hq <;> try simp [hlt, hgt, hd1] at hq))) | (refine wpcall_pure rfl (hu) ?_; simp [hlt, hgt, hd1]; (try simp (disch := omega) only [wrap64]); (try (refine gen2 ?_ ?_ <;> intro hq <;> try simp [hlt, hgt, hd1] at hq))) | (refine ⟨(p + 1, k + cu), by dsimp only; omega, ⟨by dsimp only; omega, by dsimp only; omega⟩, rfl, rfl, ?_⟩; simp (disch := omega) [wrap64]) | refine T.r0 fun K hK => ?_ | refine T.r1 fun K hK => ?_ | refine T.ct rfl ?_ | refine T.seq ?_ | refine T.block ?_ | refine T.skip ?_
  ·have hp' : p = e.kids.length := by omega
   subst hp'
   simp at he
   repeat' first | (refine aops_end (hK _ ?_); clear hK K) | (refine aops_go ?_; simp [hlt]; (try (refine gen2 ?_ ?_ <;> intro hq <;> try simp [hlt] at hq))) | (refine T.ret (Done.data (Or.inr rfl) ?_ ?_) <;> simp [Try.results25, he] <;> omega) | refine T.r0 fun K hK => ?_ | refine T.cf rfl ?_ | refine T.seq ?_ | refine T.exit ?_

theorem scan_ok (mn md nt : Int) (hmn : mn <= 1000) (hmd : md <= 1000) : ∀ (e : MTm), nTm e <= 1099511627776 -> ∀ (deep c : Int), 0 <= c -> c <= 1000 -> 0 <= deep ->
  ACalls Try.prog 34 [aTm e, .i deep, .i mn, .i md, .i nt, .c (.ptr 0 0)] (dV [[.i c]]) (.b (scanM mn md nt deep e c).1) (dV [[.i (scanM mn md nt deep e c).2]]) [] := by
 intro e
 induction e using MTm.ind with
 | h e ih =>
  intro hn deep c h0 hc hdp
  obtain ⟨hnt, hnf, hnk, hnu⟩ := nTm_parts hn
  have hnode := nodeOk_ok e hnk hnt hnf
  rw [scanM_def]
  by_cases q1 : mn < c + 1
  ·rw [if_pos (by simp [q1])]
   refine ACalls.of_body Try.func34 (by kernel_rfl) rfl (by kernel_rfl) (by simp [Try.ntmps34]) (by simp) ?_
   rw [Try.ntmps34]
   repeat' first | (refine aops_end (hK _ ?_); clear hK K) | (refine aops_go ?_; simp [q1]; (try simp (disch := omega) only [wrap64]); (try (refine gen2 ?_ ?_ <;> intro hq <;> try simp [q1] at hq))) | (refine T.ret (Done.obj1 (Or.inr rfl) ?_ ?_ ?_) <;> simp [Try.results34] <;> omega) | refine T.r0 fun K hK => ?_ | refine T.ct rfl ?_ | refine T.seq ?_
  by_cases q2 : md < deep
  ·rw [if_pos (by simp [q2])]
   refine ACalls.of_body Try.func34 (by kernel_rfl) rfl (by kernel_rfl) (by simp [Try.ntmps34]) (by simp) ?_
   rw [Try.ntmps34]
   repeat' first | (refine aops_end (hK _ ?_); clear hK K) | (refine aops_go ?_; simp [q1, q2]; (try simp (disch := omega) only [wrap64]); (try (refine gen2 ?_ ?_ <;> intro hq <;> try simp [q1, q2] at hq))) | (refine T.ret (Done.obj1 (Or.inr rfl) ?_ ?_ ?_) <;> simp [Try.results34] <;> omega) | refine T.r0 fun K hK => ?_ | refine T.ct rfl ?_ | refine T.seq ?_
  by_cases q3 : e.kind = nt
  ·rw [if_pos (by simp [q3])]
   refine ACalls.of_body Try.func34 (by kernel_rfl) rfl (by kernel_rfl) (by simp [Try.ntmps34]) (by simp) ?_
   rw [Try.ntmps34]
   repeat' first | (refine aops_end (hK _ ?_); clear hK K) | (refine aops_go ?_; simp [q1, q2, q3]; (try simp (disch := omega) only [wrap64]); (try (refine gen2 ?_ ?_ <;> intro hq <;> try simp [q1, q2, q3] at hq))) | (refine T.ret (Done.obj1 (Or.inr rfl) ?_ ?_ ?_) <;> simp [Try.results34] <;> omega) | refine T.r0 fun K hK => ?_ | refine T.ct rfl ?_ | refine T.seq ?_
  cases hN : nodeM e
  ·rw [if_pos (by simp)]
   rw [hN] at hnode
   refine ACalls.of_body Try.func34 (by kernel_rfl) rfl (by kernel_rfl) (by simp [Try.ntmps34]) (by simp) ?_
   rw [Try.ntmps34]
   repeat' first | (refine aops_end (hK _ ?_); clear hK K) | (refine aops_go ?_; simp [q1, q2, q3]; (try simp (disch := omega) only [wrap64]); (try (refine gen2 ?_ ?_ <;> intro hq <;> try simp [q1, q2, q3] at hq))) | (refine wpcall_pure rfl (hnode) ?_; simp [q1, q2, q3]; (try simp (disch := omega) only [wrap64]); (try (refine gen2 ?_ ?_ <;> intro hq <;> try simp [q1, q2, q3] at hq))) | (refine T.ret (Done.obj1 (Or.inr rfl) ?_ ?_ ?_) <;> simp [Try.results34] <;> omega) | refine T.r0 fun K hK => ?_ | refine T.ct rfl ?_ | refine T.seq ?_
  rw [hN] at hnode
  rw [if_neg (by simp [q1, q2, q3])]
  obtain ⟨R, hR⟩ : ∃ R, scanS mn md nt (deep + 1) e.kids (c + 1) = R := ⟨_, rfl⟩
  rw [hR]
  refine ACalls.of_body Try.func34 (by kernel_rfl) rfl (by kernel_rfl) (by simp [Try.ntmps34]) (by simp) ?_
  rw [Try.ntmps34]
  repeat' first | (refine aops_end (hK _ ?_); clear hK K) | (refine aops_go ?_; simp [q1, q2, q3]; (try simp (disch := omega) only [wrap64]); (try (refine gen2 ?_ ?_ <;> intro hq <;> try simp [q1, q2, q3] at hq))) | (refine wpcall_pure rfl (hnode) ?_; simp [q1, q2, q3]; (try simp (disch := omega) only [wrap64]); (try (refine gen2 ?_ ?_ <;> intro hq <;> try simp [q1, q2, q3] at hq))) | refine T.r0 fun K hK => ?_ | refine T.cf rfl ?_ | refine T.seq ?_ | refine T.block ?_ | refine T.skip ?_
  refine T.loopF (fun x : Nat × Int × List (List CV) => ⟨[(1, .i deep), (2, .i mn), (3, .i md), (4, .i nt), (5, .c (.ptr 0 0)), (6, .c (.ptr 1 0)), (42, .l (e.kids.map eTm)), (43, .i e.kids.length), (44, .i x.1)], [.d (.i x.2.1)] :: (aTm e).cells :: x.2.2, []⟩) (fun x => e.kids.length + 1 - x.1) (fun x => x.1 <= e.kids.length /\ 0 <= x.2.1 /\ x.2.1 <= mn /\ scanS mn md nt (deep + 1) (e.kids.drop x.1) x.2.1 = R) (fun x hx => ?_) (0, c + 1, []) (by simpa using ⟨by omega, by omega, hR⟩) (by simp)
  obtain ⟨p, k, G⟩ := x
  obtain ⟨hi, hk0, hk1, he⟩ := hx
  dsimp only at hi hk0 hk1 he ⊢
  by_cases hlt : p < e.kids.length
  ·obtain ⟨u, ht⟩ := get_lt hlt
   have htm : u ∈ e.kids := List.mem_of_getElem? ht
   have hgt : e.kids[p] = u := by rw [List.getElem?_eq_getElem hlt] at ht; exact Option.some.inj ht
   have hdr : e.kids.drop p = u :: e.kids.drop (p + 1) := by rw [List.drop_eq_getElem_cons hlt, hgt]
   have hu := ih u htm (hnu u htm) (deep + 1) k hk0 (by omega) (by omega)
   have hle := scanM_le mn md nt u (deep + 1) k hk0
   rw [hdr, scanS] at he
   generalize scanM mn md nt (deep + 1) u k = r at hu hle he
   obtain ⟨b, k'⟩ := r
   dsimp only at hu hle he
   cases b
   ·repeat' first | (refine aops_end (hK _ ?_); clear hK K) | (refine aops_go ?_; simp [hlt, hgt]; (try simp (disch := omega) only [wrap64]); (try (refine gen2 ?_ ?_ <;> intro hq <;> try simp [hlt, hgt] at hq))) | (refine wpcall_upd1 0 [.i k] [.i k'] rfl rfl hu ?_; simp) | (refine T.ret (Done.obj1 (Or.inr rfl) ?_ ?_ ?_) <;> simp [Try.results34, <- he] <;> omega) | refine T.r0 fun K hK => ?_ | refine T.ct rfl ?_ | refine T.seq ?_ | refine T.block ?_ | refine T.skip ?_
   ·obtain ⟨hle1, hle2⟩ := hle rfl
    repeat' first | (refine aops_end (hK _ ?_); clear hK K) | (refine aops_go ?_; simp [hlt, hgt]; (try simp (disch := omega) only [wrap64]); (try (refine gen2 ?_ ?_ <;> intro hq <;> try simp [hlt, hgt] at hq))) | (refine wpcall_upd1 0 [.i k] [.i k'] rfl rfl hu ?_; simp) | (refine ⟨(p + 1, k', _), by dsimp only; omega, ⟨by dsimp only; omega, hle1, hle2, by simpa using he⟩, rfl, rfl, ?_⟩; simp (disch := omega) [wrap64]) | refine T.r0 fun K hK => ?_ | refine T.r1 fun K hK => ?_ | refine T.ct rfl ?_ | refine T.cf rfl ?_ | refine T.seq ?_ | refine T.block ?_ | refine T.skip ?_
  ·have hp' : p = e.kids.length := by omega
   subst hp'
   simp [scanS] at he
   repeat' first | (refine aops_end (hK _ ?_); clear hK K) | (refine aops_go ?_; simp [hlt]; (try (refine gen2 ?_ ?_ <;> intro hq <;> try simp [hlt] at hq))) | (refine T.ret (Done.obj1 (Or.inr rfl) ?_ ?_ ?_) <;> simp [Try.results34, <- he] <;> omega) | refine T.r0 fun K hK => ?_ | refine T.cf rfl ?_ | refine T.seq ?_ | refine T.exit ?_

end Go.Proofs.Ytloolmchekcmeaa

namespace Go.Proofs.Ytloolmchekcmeaa
attribute [-simp] Go.Av.keepL Go.Av.ups Go.Av.take_app_len
open Go Go.Av
attribute [local irreducible] T ACalls eTy eTm MTy.kind MTy.kids MTm.kind MTm.name MTm.num MTm.ty MTm.fr MTm.label MTm.kids
attribute [local simp] eTy_def eTm_def
set_option maxHeartbeats 4000000
attribute [local simp] Option.bind

theorem l1Any_ok : ACalls Try.prog 30 [] [] (aTy anyT) [] [] := by
 refine ACalls.of_body Try.func30 (by kernel_rfl) rfl (by kernel_rfl) (by simp [Try.ntmps30]) (by simp) ?_
 rw [Try.ntmps30]
 repeat' first | (refine aops_end (hK _ ?_); clear hK K) | (refine aops_go ?_; simp; (try (refine gen2 ?_ ?_ <;> intro hq <;> try simp at hq))) | (refine T.ret (Done.val (Or.inr rfl) ?_) <;> simp [resAs, Try.results30] <;> omega) | refine T.r0 fun K hK => ?_

end Go.Proofs.Ytloolmchekcmeaa
