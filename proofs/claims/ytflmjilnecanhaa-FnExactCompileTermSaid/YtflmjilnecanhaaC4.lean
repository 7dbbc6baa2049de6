/- A part of the library of this seat. -/
import Derived.Test.YtflmjilnecanhaaC3
import Derived.Test.YtflmjilnecanhaaChecked
set_option linter.unusedVariables false
set_option linter.unusedSimpArgs false
namespace Go.Proofs.Ytflmjilnecanhaa
attribute [-simp] Go.Av.get_app_len Go.Av.get_app_len0 Go.Av.set_app_len Go.Av.set_app_len0 Go.Av.freeStep Go.Av.exV Go.Av.keepL Go.Av.ups Go.Av.take_app_len
open Go Go.Av
attribute [local irreducible] T
attribute [local simp] eTy_def eTm_def

@[simp] theorem td_int : td Try.prog 3 = some { ag := false, sz := 1, by_ := 8, zero := some [.d (.int .i64 0)], el := none, ar := none, fl := [], ik := some .i64, isS := false, isB := false } := keep (by kernel_rfl)
@[simp] theorem td_bool : td Try.prog 4 = some { ag := false, sz := 1, by_ := 1, zero := some [.d (.bool false)], el := none, ar := none, fl := [], ik := none, isS := false, isB := true } := keep (by kernel_rfl)
@[simp] theorem td_string : td Try.prog 9 = some { ag := false, sz := 1, by_ := 16, zero := some [.d (.str [])], el := none, ar := none, fl := [], ik := none, isS := true, isB := false } := keep (by kernel_rfl)
@[simp] theorem td_lawsTypeS : td Try.prog 28 = some { ag := false, sz := 1, by_ := 24, zero := some [.nil], el := some 30, ar := none, fl := [], ik := none, isS := false, isB := false } := keep (by kernel_rfl)
@[simp] theorem td_lawsType : td Try.prog 30 = some { ag := true, sz := 2, by_ := 32, zero := some [.d (.int .i64 0), .nil], el := none, ar := none, fl := [(0, 1), (1, 1)], ik := none, isS := false, isB := false } := keep (by kernel_rfl)
@[simp] theorem td_lawsTermS : td Try.prog 31 = some { ag := false, sz := 1, by_ := 24, zero := some [.nil], el := some 33, ar := none, fl := [], ik := none, isS := false, isB := false } := keep (by kernel_rfl)
@[simp] theorem td_lawsTerm : td Try.prog 33 = some { ag := true, sz := 9, by_ := 128, zero := some [.d (.int .i64 0), .d (.str []), .d (.int .i64 0), .d (.int .i64 0), .nil, .d (.int .i64 0), .nil, .d (.int .i64 0), .nil], el := none, ar := none, fl := [(0, 1), (1, 1), (2, 1), (3, 2), (5, 2), (7, 1), (8, 1)], ik := none, isS := false, isB := false } := keep (by kernel_rfl)
@[simp] theorem td_implTypeS : td Try.prog 37 = some { ag := false, sz := 1, by_ := 24, zero := some [.nil], el := some 39, ar := none, fl := [], ik := none, isS := false, isB := false } := keep (by kernel_rfl)
@[simp] theorem td_implType : td Try.prog 39 = some { ag := true, sz := 2, by_ := 32, zero := some [.d (.int .i64 0), .nil], el := none, ar := none, fl := [(0, 1), (1, 1)], ik := none, isS := false, isB := false } := keep (by kernel_rfl)
@[simp] theorem td_implTermS : td Try.prog 40 = some { ag := false, sz := 1, by_ := 24, zero := some [.nil], el := some 42, ar := none, fl := [], ik := none, isS := false, isB := false } := keep (by kernel_rfl)
@[simp] theorem td_implTerm : td Try.prog 42 = some { ag := true, sz := 9, by_ := 128, zero := some [.d (.int .i64 0), .d (.str []), .d (.int .i64 0), .d (.int .i64 0), .nil, .d (.int .i64 0), .nil, .d (.int .i64 0), .nil], el := none, ar := none, fl := [(0, 1), (1, 1), (2, 1), (3, 2), (5, 2), (7, 1), (8, 1)], ik := none, isS := false, isB := false } := keep (by kernel_rfl)
theorem mixed : Try.prog.follows .mixedOrders = true := by kernel_rfl

theorem szTypeS_step (l : List MTy) (hl : l.length <= 9223372036854775807) (h : ∀ t ∈ l, ∀ left : Int, 0 <= left -> left <= 1048576 -> ACalls Try.prog 21 [aTy t, .i left] [] (.i (szM (nTy t) left)) [] []) (left : Int) (h0 : 0 <= left) (h1 : left <= 1048576) :
  ACalls Try.prog 43 [.l (l.map eTy), .i left] [] (.i (szM (nTyS l) left)) [] [] := by
 refine ACalls.of_body Try.func43 (by kernel_rfl) rfl (by kernel_rfl) (by simp [Try.ntmps43]) (by simp) ?_
 rw [Try.ntmps43]
 have hw : IntKind.i64.wrap (left - (l.length : Int)) = left - l.length := wrap64 (by omega) (by omega)
 have hsum := nTyS_sum l
 by_cases hlen : left - (l.length : Int) < 0
 ·repeat' first | (refine T.rs (fun _ => false) fun K hK => ?_; (repeat (refine aops_go ?_; simp [hw, hlen])); refine aops_end (hK _ ?_); clear hK K) | (refine T.rs1 (fun _ => false) fun K hK => ?_; (repeat (refine aops_go ?_; simp [hw, hlen])); refine aops_end (hK _ ?_); clear hK K) | refine T.cond rfl (fun hc => ?_) (fun hc => absurd hc (by decide)) | refine T.cond rfl (fun hc => absurd hc (by decide)) (fun hc => ?_) | refine T.seq ?_ | refine T.block ?_ | refine T.skip ?_ | refine T.exit ?_
  have hneg : ¬ (nTyS l : Int) <= left := by omega
  refine T.ret (Done.data (Or.inr rfl) ?_ ?_) <;> simp [Try.results43, szM, hneg]
 have hlen' : ¬ left < (l.length : Int) := by omega
 repeat' first | (refine T.rs (fun _ => false) fun K hK => ?_; (repeat (refine aops_go ?_; simp [hw, hlen, hlen'])); refine aops_end (hK _ ?_); clear hK K) | (refine T.rs1 (fun _ => false) fun K hK => ?_; (repeat (refine aops_go ?_; simp [hw, hlen, hlen'])); refine aops_end (hK _ ?_); clear hK K) | refine T.cond rfl (fun hc => ?_) (fun hc => absurd hc (by decide)) | refine T.cond rfl (fun hc => absurd hc (by decide)) (fun hc => ?_) | refine T.seq ?_ | refine T.block ?_ | refine T.skip ?_ | refine T.exit ?_
 refine T.loopF (fun p : Nat => ⟨[(0, .l (l.map eTy)), (1, .i (left - l.length - sumTy (l.take p))), (5, .i p)], [], []⟩) (fun p => l.length + 1 - p) (fun p => p <= l.length /\ 0 <= left - l.length - sumTy (l.take p)) (fun p hp => ?_) 0 (by simp [sumTy]; omega) (by simp [hw, sumTy])
 obtain ⟨hi, he⟩ := hp
 by_cases hlt : p < l.length
 ·obtain ⟨t, ht⟩ := get_lt hlt
  have htm : t ∈ l := List.mem_of_getElem? ht
  have htk := sumTy_take ht
  have hle := sumTy_le l (p + 1)
  have hgt : l[p] = t := by rw [List.getElem?_eq_getElem hlt] at ht; exact Option.some.inj ht
  repeat' first | (refine T.rs (fun _ => false) fun K hK => ?_; (repeat (refine aops_go ?_; simp [hlt])); refine aops_end (hK _ ?_); clear hK K) | (refine T.rs1 (fun _ => false) fun K hK => ?_; (repeat (refine aops_go ?_; simp [hlt])); refine aops_end (hK _ ?_); clear hK K) | refine T.cond rfl (fun hc => ?_) (fun hc => absurd hc (by decide)) | refine T.cond rfl (fun hc => absurd hc (by decide)) (fun hc => ?_) | refine T.seq ?_ | refine T.block ?_ | refine T.skip ?_ | refine T.exit ?_
  refine T.rs1 (fun _ => false) fun K hK => ?_
  repeat (refine aops_go ?_; simp [hlt, hgt])
  refine wpcall_pure (by simp) (h t htm _ he (by omega)) ?_
  simp
  repeat (refine aops_go ?_; simp)
  refine aops_end (hK _ ?_)
  clear hK K
  by_cases hq : szM (nTy t) (left - l.length - sumTy (l.take p)) < 0
  ·repeat' first | (refine T.rs (fun _ => false) fun K hK => ?_; (repeat (refine aops_go ?_; simp [hq])); refine aops_end (hK _ ?_); clear hK K) | (refine T.rs1 (fun _ => false) fun K hK => ?_; (repeat (refine aops_go ?_; simp [hq])); refine aops_end (hK _ ?_); clear hK K) | refine T.cond rfl (fun hc => ?_) (fun hc => absurd hc (by decide)) | refine T.cond rfl (fun hc => absurd hc (by decide)) (fun hc => ?_) | refine T.seq ?_ | refine T.block ?_ | refine T.skip ?_ | refine T.exit ?_
   have hneg : ¬ (nTyS l : Int) <= left := by
    simp only [szM] at hq
    split at hq <;> omega
   refine T.ret (Done.data (Or.inr rfl) ?_ ?_) <;> simp [Try.results43, szM, hneg]
  ·have hq2 : szM (nTy t) (left - l.length - sumTy (l.take p)) = left - l.length - sumTy (l.take (p + 1)) := by
    simp only [szM] at hq ⊢
    split at hq <;> split <;> omega
   repeat' first | (refine T.rs (fun _ => false) fun K hK => ?_; (repeat (refine aops_go ?_; simp [hq])); refine aops_end (hK _ ?_); clear hK K) | (refine T.rs1 (fun _ => false) fun K hK => ?_; (repeat (refine aops_go ?_; simp [hq])); refine aops_end (hK _ ?_); clear hK K) | refine T.cond rfl (fun hc => ?_) (fun hc => absurd hc (by decide)) | refine T.cond rfl (fun hc => absurd hc (by decide)) (fun hc => ?_) | refine T.seq ?_ | refine T.block ?_ | refine T.skip ?_ | refine T.exit ?_
   refine ⟨p + 1, by dsimp only; omega, ⟨by omega, by rw [<- hq2]; omega⟩, ?_⟩
   have hw2 : IntKind.i64.wrap ((p : Int) + 1) = p + 1 := wrap64 (by omega) (by omega)
   simp [hw2, hq2]
 ·have hp' : p = l.length := by omega
  subst hp'
  repeat' first | (refine T.rs (fun _ => false) fun K hK => ?_; (repeat (refine aops_go ?_; simp [hlt])); refine aops_end (hK _ ?_); clear hK K) | (refine T.rs1 (fun _ => false) fun K hK => ?_; (repeat (refine aops_go ?_; simp [hlt])); refine aops_end (hK _ ?_); clear hK K) | refine T.cond rfl (fun hc => ?_) (fun hc => absurd hc (by decide)) | refine T.cond rfl (fun hc => absurd hc (by decide)) (fun hc => ?_) | refine T.seq ?_ | refine T.block ?_ | refine T.skip ?_ | refine T.exit ?_
  have hpos : (nTyS l : Int) <= left := by rw [List.take_length] at he; omega
  refine T.ret (Done.data (Or.inr rfl) ?_ ?_) <;> simp [Try.results43, szM, hpos]
  omega

theorem szTermS_step (l : List MTm) (hl : l.length <= 9223372036854775807) (h : ∀ t ∈ l, ∀ left : Int, 0 <= left -> left <= 1048576 -> ACalls Try.prog 8 [aTm t, .i left] [] (.i (szM (nTm t) left)) [] []) (left : Int) (h0 : 0 <= left) (h1 : left <= 1048576) :
  ACalls Try.prog 22 [.l (l.map eTm), .i left] [] (.i (szM (nTmS l) left)) [] [] := by
 refine ACalls.of_body Try.func22 (by kernel_rfl) rfl (by kernel_rfl) (by simp [Try.ntmps22]) (by simp) ?_
 rw [Try.ntmps22]
 have hw : IntKind.i64.wrap (left - (l.length : Int)) = left - l.length := wrap64 (by omega) (by omega)
 have hsum := nTmS_sum l
 by_cases hlen : left - (l.length : Int) < 0
 ·repeat' first | (refine T.rs (fun _ => false) fun K hK => ?_; (repeat (refine aops_go ?_; simp [hw, hlen])); refine aops_end (hK _ ?_); clear hK K) | (refine T.rs1 (fun _ => false) fun K hK => ?_; (repeat (refine aops_go ?_; simp [hw, hlen])); refine aops_end (hK _ ?_); clear hK K) | refine T.cond rfl (fun hc => ?_) (fun hc => absurd hc (by decide)) | refine T.cond rfl (fun hc => absurd hc (by decide)) (fun hc => ?_) | refine T.seq ?_ | refine T.block ?_ | refine T.skip ?_ | refine T.exit ?_
  have hneg : ¬ (nTmS l : Int) <= left := by omega
  refine T.ret (Done.data (Or.inr rfl) ?_ ?_) <;> simp [Try.results22, szM, hneg]
 have hlen' : ¬ left < (l.length : Int) := by omega
 repeat' first | (refine T.rs (fun _ => false) fun K hK => ?_; (repeat (refine aops_go ?_; simp [hw, hlen, hlen'])); refine aops_end (hK _ ?_); clear hK K) | (refine T.rs1 (fun _ => false) fun K hK => ?_; (repeat (refine aops_go ?_; simp [hw, hlen, hlen'])); refine aops_end (hK _ ?_); clear hK K) | refine T.cond rfl (fun hc => ?_) (fun hc => absurd hc (by decide)) | refine T.cond rfl (fun hc => absurd hc (by decide)) (fun hc => ?_) | refine T.seq ?_ | refine T.block ?_ | refine T.skip ?_ | refine T.exit ?_
 refine T.loopF (fun p : Nat => ⟨[(0, .l (l.map eTm)), (1, .i (left - l.length - sumTm (l.take p))), (5, .i p)], [], []⟩) (fun p => l.length + 1 - p) (fun p => p <= l.length /\ 0 <= left - l.length - sumTm (l.take p)) (fun p hp => ?_) 0 (by simp [sumTm]; omega) (by simp [hw, sumTm])
 obtain ⟨hi, he⟩ := hp
 by_cases hlt : p < l.length
 ·obtain ⟨t, ht⟩ := get_lt hlt
  have htm : t ∈ l := List.mem_of_getElem? ht
  have htk := sumTm_take ht
  have hle := sumTm_le l (p + 1)
  have hgt : l[p] = t := by rw [List.getElem?_eq_getElem hlt] at ht; exact Option.some.inj ht
  repeat' first | (refine T.rs (fun _ => false) fun K hK => ?_; (repeat (refine aops_go ?_; simp [hlt])); refine aops_end (hK _ ?_); clear hK K) | (refine T.rs1 (fun _ => false) fun K hK => ?_; (repeat (refine aops_go ?_; simp [hlt])); refine aops_end (hK _ ?_); clear hK K) | refine T.cond rfl (fun hc => ?_) (fun hc => absurd hc (by decide)) | refine T.cond rfl (fun hc => absurd hc (by decide)) (fun hc => ?_) | refine T.seq ?_ | refine T.block ?_ | refine T.skip ?_ | refine T.exit ?_
  refine T.rs1 (fun _ => false) fun K hK => ?_
  repeat (refine aops_go ?_; simp [hlt, hgt])
  refine wpcall_pure (by simp) (h t htm _ he (by omega)) ?_
  simp
  repeat (refine aops_go ?_; simp)
  refine aops_end (hK _ ?_)
  clear hK K
  by_cases hq : szM (nTm t) (left - l.length - sumTm (l.take p)) < 0
  ·repeat' first | (refine T.rs (fun _ => false) fun K hK => ?_; (repeat (refine aops_go ?_; simp [hq])); refine aops_end (hK _ ?_); clear hK K) | (refine T.rs1 (fun _ => false) fun K hK => ?_; (repeat (refine aops_go ?_; simp [hq])); refine aops_end (hK _ ?_); clear hK K) | refine T.cond rfl (fun hc => ?_) (fun hc => absurd hc (by decide)) | refine T.cond rfl (fun hc => absurd hc (by decide)) (fun hc => ?_) | refine T.seq ?_ | refine T.block ?_ | refine T.skip ?_ | refine T.exit ?_
   have hneg : ¬ (nTmS l : Int) <= left := by
    simp only [szM] at hq
    split at hq <;> omega
   refine T.ret (Done.data (Or.inr rfl) ?_ ?_) <;> simp [Try.results22, szM, hneg]
  ·have hq2 : szM (nTm t) (left - l.length - sumTm (l.take p)) = left - l.length - sumTm (l.take (p + 1)) := by
    simp only [szM] at hq ⊢
    split at hq <;> split <;> omega
   repeat' first | (refine T.rs (fun _ => false) fun K hK => ?_; (repeat (refine aops_go ?_; simp [hq])); refine aops_end (hK _ ?_); clear hK K) | (refine T.rs1 (fun _ => false) fun K hK => ?_; (repeat (refine aops_go ?_; simp [hq])); refine aops_end (hK _ ?_); clear hK K) | refine T.cond rfl (fun hc => ?_) (fun hc => absurd hc (by decide)) | refine T.cond rfl (fun hc => absurd hc (by decide)) (fun hc => ?_) | refine T.seq ?_ | refine T.block ?_ | refine T.skip ?_ | refine T.exit ?_
   refine ⟨p + 1, by dsimp only; omega, ⟨by omega, by rw [<- hq2]; omega⟩, ?_⟩
   have hw2 : IntKind.i64.wrap ((p : Int) + 1) = p + 1 := wrap64 (by omega) (by omega)
   simp [hw2, hq2]
 ·have hp' : p = l.length := by omega
  subst hp'
  repeat' first | (refine T.rs (fun _ => false) fun K hK => ?_; (repeat (refine aops_go ?_; simp [hlt])); refine aops_end (hK _ ?_); clear hK K) | (refine T.rs1 (fun _ => false) fun K hK => ?_; (repeat (refine aops_go ?_; simp [hlt])); refine aops_end (hK _ ?_); clear hK K) | refine T.cond rfl (fun hc => ?_) (fun hc => absurd hc (by decide)) | refine T.cond rfl (fun hc => absurd hc (by decide)) (fun hc => ?_) | refine T.seq ?_ | refine T.block ?_ | refine T.skip ?_ | refine T.exit ?_
  have hpos : (nTmS l : Int) <= left := by rw [List.take_length] at he; omega
  refine T.ret (Done.data (Or.inr rfl) ?_ ?_) <;> simp [Try.results22, szM, hpos]
  omega

theorem szType_step (t : MTy) (left : Int) (h : ACalls Try.prog 43 [.l (t.kids.map eTy), .i left] [] (.i (szM (nTyS t.kids) left)) [] []) : ACalls Try.prog 21 [aTy t, .i left] [] (.i (szM (nTy t) left)) [] [] := by
 refine ACalls.of_body Try.func21 (by kernel_rfl) rfl (by kernel_rfl) (by simp [Try.ntmps21]) (by simp) ?_
 rw [Try.ntmps21]
 rw [nTy_def]
 repeat' first | (refine T.rs (fun _ => false) fun K hK => ?_; (repeat (refine aops_go ?_; simp)); refine aops_end (hK _ ?_); clear hK K) | (refine T.rs1 (fun _ => false) fun K hK => ?_; (repeat (refine aops_go ?_; simp)); refine aops_end (hK _ ?_); clear hK K) | refine T.cond rfl (fun hc => ?_) (fun hc => absurd hc (by decide)) | refine T.cond rfl (fun hc => absurd hc (by decide)) (fun hc => ?_) | refine T.seq ?_ | refine T.block ?_ | refine T.skip ?_ | refine T.exit ?_
 refine T.rs1 (fun _ => false) fun K hK => ?_
 repeat (refine aops_go ?_; simp)
 refine wpcall_pure (by simp) (h) ?_
 simp
 repeat (refine aops_go ?_; simp)
 refine aops_end (hK _ ?_)
 clear hK K
 by_cases hq : szM (nTyS t.kids) left < 0
 ·have hneg : szM (nTyS t.kids) left = -1 := by simp only [szM] at hq ⊢; split at hq <;> split <;> omega
  repeat' first | (refine T.rs (fun _ => false) fun K hK => ?_; (repeat (refine aops_go ?_; simp [hq])); refine aops_end (hK _ ?_); clear hK K) | (refine T.rs1 (fun _ => false) fun K hK => ?_; (repeat (refine aops_go ?_; simp [hq])); refine aops_end (hK _ ?_); clear hK K) | refine T.cond rfl (fun hc => ?_) (fun hc => absurd hc (by decide)) | refine T.cond rfl (fun hc => absurd hc (by decide)) (fun hc => ?_) | refine T.seq ?_ | refine T.block ?_ | refine T.skip ?_ | refine T.exit ?_
  refine T.ret (Done.data (Or.inr rfl) ?_ ?_) <;> simp [Try.results21, hneg]
 ·repeat' first | (refine T.rs (fun _ => false) fun K hK => ?_; (repeat (refine aops_go ?_; simp [hq])); refine aops_end (hK _ ?_); clear hK K) | (refine T.rs1 (fun _ => false) fun K hK => ?_; (repeat (refine aops_go ?_; simp [hq])); refine aops_end (hK _ ?_); clear hK K) | refine T.cond rfl (fun hc => ?_) (fun hc => absurd hc (by decide)) | refine T.cond rfl (fun hc => absurd hc (by decide)) (fun hc => ?_) | refine T.seq ?_ | refine T.block ?_ | refine T.skip ?_ | refine T.exit ?_
  refine T.ret (Done.data (Or.inr rfl) ?_ ?_) <;> simp [Try.results21]

theorem szType_ok : (t : MTy) -> wTy t -> ∀ left : Int, 0 <= left -> left <= 1048576 -> ACalls Try.prog 21 [aTy t, .i left] [] (.i (szM (nTy t) left)) [] []
 | .mk k l, hw, left, h0, h1 => by
  rw [wTy_def] at hw
  exact szType_step _ _ (szTypeS_step l hw.1 (fun t ht left h0 h1 => szType_ok t (wTyS_mem hw.2 ht) left h0 h1) left h0 h1)
termination_by t => SizeOf.sizeOf t
decreasing_by have := List.sizeOf_lt_of_mem ht; simp; omega

theorem szTerm_step (e : MTm) (hw : wTm e) (left : Int) (h0 : 0 <= left) (h1 : left <= 1048576) (h : ∀ left : Int, 0 <= left -> left <= 1048576 -> ACalls Try.prog 22 [.l (e.kids.map eTm), .i left] [] (.i (szM (nTmS e.kids) left)) [] []) : ACalls Try.prog 8 [aTm e, .i left] [] (.i (szM (nTm e) left)) [] [] := by
 refine ACalls.of_body Try.func8 (by kernel_rfl) rfl (by kernel_rfl) (by simp [Try.ntmps8]) (by simp) ?_
 rw [Try.ntmps8]
 rw [wTm_def] at hw
 obtain ⟨hs, ht, hf, _, _⟩ := hw
 rw [nTm_def]
 have hwr : IntKind.i64.wrap (left - (e.name.length : Int)) = left - e.name.length := wrap64 (by omega) (by omega)
 by_cases q1 : left - (e.name.length : Int) < 0
 ·have hneg : ¬ ((e.name.length + nTy e.ty + nTy e.fr + nTmS e.kids : Nat) : Int) <= left := by omega
  have q1' : left < (e.name.length : Int) := by omega
  repeat' first | (refine T.rs (fun _ => false) fun K hK => ?_; (repeat (refine aops_go ?_; simp [hwr, q1, q1'])); refine aops_end (hK _ ?_); clear hK K) | (refine T.rs1 (fun _ => false) fun K hK => ?_; (repeat (refine aops_go ?_; simp [hwr, q1, q1'])); refine aops_end (hK _ ?_); clear hK K) | refine T.cond rfl (fun hc => ?_) (fun hc => absurd hc (by decide)) | refine T.cond rfl (fun hc => absurd hc (by decide)) (fun hc => ?_) | refine T.seq ?_ | refine T.block ?_ | refine T.skip ?_ | refine T.exit ?_
  refine T.ret (Done.data (Or.inr rfl) ?_ ?_) <;> simp [Try.results8, szM] <;> (try (intro hh; omega))
 have q1' : ¬ left < (e.name.length : Int) := by omega
 repeat' first | (refine T.rs (fun _ => false) fun K hK => ?_; (repeat (refine aops_go ?_; simp [hwr, q1, q1'])); refine aops_end (hK _ ?_); clear hK K) | (refine T.rs1 (fun _ => false) fun K hK => ?_; (repeat (refine aops_go ?_; simp [hwr, q1, q1'])); refine aops_end (hK _ ?_); clear hK K) | refine T.cond rfl (fun hc => ?_) (fun hc => absurd hc (by decide)) | refine T.cond rfl (fun hc => absurd hc (by decide)) (fun hc => ?_) | refine T.seq ?_ | refine T.block ?_ | refine T.skip ?_ | refine T.exit ?_
 refine T.rs1 (fun _ => false) fun K hK => ?_
 repeat (refine aops_go ?_; simp)
 refine wpcall_pure (by simp) (szType_ok e.ty ht (left - e.name.length) (by omega) (by omega)) ?_
 simp
 repeat (refine aops_go ?_; simp)
 refine aops_end (hK _ ?_)
 clear hK K
 by_cases q2 : szM (nTy e.ty) (left - e.name.length) < 0
 ·have hneg : ¬ ((e.name.length + nTy e.ty + nTy e.fr + nTmS e.kids : Nat) : Int) <= left := by
   simp only [szM] at q2
   split at q2 <;> omega
  repeat' first | (refine T.rs (fun _ => false) fun K hK => ?_; (repeat (refine aops_go ?_; simp [q2])); refine aops_end (hK _ ?_); clear hK K) | (refine T.rs1 (fun _ => false) fun K hK => ?_; (repeat (refine aops_go ?_; simp [q2])); refine aops_end (hK _ ?_); clear hK K) | refine T.cond rfl (fun hc => ?_) (fun hc => absurd hc (by decide)) | refine T.cond rfl (fun hc => absurd hc (by decide)) (fun hc => ?_) | refine T.seq ?_ | refine T.block ?_ | refine T.skip ?_ | refine T.exit ?_
  refine T.ret (Done.data (Or.inr rfl) ?_ ?_) <;> simp [Try.results8, szM] <;> (try (intro hh; omega))
 have e2 : szM (nTy e.ty) (left - e.name.length) = left - e.name.length - nTy e.ty /\ 0 <= left - (e.name.length : Int) - nTy e.ty := by
  simp only [szM] at q2 ⊢
  split at q2 <;> (try (rename_i hh; rw [if_pos hh])) <;> omega
 repeat' first | (refine T.rs (fun _ => false) fun K hK => ?_; (repeat (refine aops_go ?_; simp [q2])); refine aops_end (hK _ ?_); clear hK K) | (refine T.rs1 (fun _ => false) fun K hK => ?_; (repeat (refine aops_go ?_; simp [q2])); refine aops_end (hK _ ?_); clear hK K) | refine T.cond rfl (fun hc => ?_) (fun hc => absurd hc (by decide)) | refine T.cond rfl (fun hc => absurd hc (by decide)) (fun hc => ?_) | refine T.seq ?_ | refine T.block ?_ | refine T.skip ?_ | refine T.exit ?_
 rw [e2.1]
 refine T.rs1 (fun _ => false) fun K hK => ?_
 repeat (refine aops_go ?_; simp)
 refine wpcall_pure (by simp) (szType_ok e.fr hf (left - e.name.length - nTy e.ty) (by omega) (by omega)) ?_
 simp
 repeat (refine aops_go ?_; simp)
 refine aops_end (hK _ ?_)
 clear hK K
 by_cases q3 : szM (nTy e.fr) (left - e.name.length - nTy e.ty) < 0
 ·have hneg : ¬ ((e.name.length + nTy e.ty + nTy e.fr + nTmS e.kids : Nat) : Int) <= left := by
   simp only [szM] at q3
   split at q3 <;> omega
  repeat' first | (refine T.rs (fun _ => false) fun K hK => ?_; (repeat (refine aops_go ?_; simp [q3])); refine aops_end (hK _ ?_); clear hK K) | (refine T.rs1 (fun _ => false) fun K hK => ?_; (repeat (refine aops_go ?_; simp [q3])); refine aops_end (hK _ ?_); clear hK K) | refine T.cond rfl (fun hc => ?_) (fun hc => absurd hc (by decide)) | refine T.cond rfl (fun hc => absurd hc (by decide)) (fun hc => ?_) | refine T.seq ?_ | refine T.block ?_ | refine T.skip ?_ | refine T.exit ?_
  refine T.ret (Done.data (Or.inr rfl) ?_ ?_) <;> simp [Try.results8, szM] <;> (try (intro hh; omega))
 have e3 : szM (nTy e.fr) (left - e.name.length - nTy e.ty) = left - e.name.length - nTy e.ty - nTy e.fr /\ 0 <= left - (e.name.length : Int) - nTy e.ty - nTy e.fr := by
  simp only [szM] at q3 ⊢
  split at q3 <;> (try (rename_i hh; rw [if_pos hh])) <;> omega
 repeat' first | (refine T.rs (fun _ => false) fun K hK => ?_; (repeat (refine aops_go ?_; simp [q3])); refine aops_end (hK _ ?_); clear hK K) | (refine T.rs1 (fun _ => false) fun K hK => ?_; (repeat (refine aops_go ?_; simp [q3])); refine aops_end (hK _ ?_); clear hK K) | refine T.cond rfl (fun hc => ?_) (fun hc => absurd hc (by decide)) | refine T.cond rfl (fun hc => absurd hc (by decide)) (fun hc => ?_) | refine T.seq ?_ | refine T.block ?_ | refine T.skip ?_ | refine T.exit ?_
 rw [e3.1]
 refine T.rs1 (fun _ => false) fun K hK => ?_
 repeat (refine aops_go ?_; simp)
 refine wpcall_pure (by simp) (h (left - e.name.length - nTy e.ty - nTy e.fr) (by omega) (by omega)) ?_
 simp
 repeat (refine aops_go ?_; simp)
 refine aops_end (hK _ ?_)
 clear hK K
 by_cases q4 : szM (nTmS e.kids) (left - e.name.length - nTy e.ty - nTy e.fr) < 0
 ·have hneg : ¬ ((e.name.length + nTy e.ty + nTy e.fr + nTmS e.kids : Nat) : Int) <= left := by
   simp only [szM] at q4
   split at q4 <;> omega
  repeat' first | (refine T.rs (fun _ => false) fun K hK => ?_; (repeat (refine aops_go ?_; simp [q4])); refine aops_end (hK _ ?_); clear hK K) | (refine T.rs1 (fun _ => false) fun K hK => ?_; (repeat (refine aops_go ?_; simp [q4])); refine aops_end (hK _ ?_); clear hK K) | refine T.cond rfl (fun hc => ?_) (fun hc => absurd hc (by decide)) | refine T.cond rfl (fun hc => absurd hc (by decide)) (fun hc => ?_) | refine T.seq ?_ | refine T.block ?_ | refine T.skip ?_ | refine T.exit ?_
  refine T.ret (Done.data (Or.inr rfl) ?_ ?_) <;> simp [Try.results8, szM] <;> (try (intro hh; omega))
 have e4 : szM (nTmS e.kids) (left - e.name.length - nTy e.ty - nTy e.fr) = szM (e.name.length + nTy e.ty + nTy e.fr + nTmS e.kids) left := by
  simp only [szM] at q4 ⊢
  split at q4 <;> split <;> omega
 repeat' first | (refine T.rs (fun _ => false) fun K hK => ?_; (repeat (refine aops_go ?_; simp [q4])); refine aops_end (hK _ ?_); clear hK K) | (refine T.rs1 (fun _ => false) fun K hK => ?_; (repeat (refine aops_go ?_; simp [q4])); refine aops_end (hK _ ?_); clear hK K) | refine T.cond rfl (fun hc => ?_) (fun hc => absurd hc (by decide)) | refine T.cond rfl (fun hc => absurd hc (by decide)) (fun hc => ?_) | refine T.seq ?_ | refine T.block ?_ | refine T.skip ?_ | refine T.exit ?_
 refine T.ret (Done.data (Or.inr rfl) ?_ ?_) <;> simp [Try.results8, e4]

theorem szTerm_ok : (e : MTm) -> wTm e -> ∀ left : Int, 0 <= left -> left <= 1048576 -> ACalls Try.prog 8 [aTm e, .i left] [] (.i (szM (nTm e) left)) [] []
 | .mk k s n t f b l, hw, left, h0, h1 => by
  have hw' := hw
  rw [wTm_def] at hw
  exact szTerm_step _ hw' _ h0 h1 (fun left h0 h1 => szTermS_step l hw.2.2.2.1 (fun t ht left h0 h1 => szTerm_ok t (wTmS_mem hw.2.2.2.2 ht) left h0 h1) left h0 h1)
termination_by e => SizeOf.sizeOf e
decreasing_by have := List.sizeOf_lt_of_mem ht; simp; omega

end Go.Proofs.Ytflmjilnecanhaa

namespace Go.Proofs.Ytflmjilnecanhaa
attribute [-simp] Go.Av.get_app_len Go.Av.get_app_len0 Go.Av.set_app_len Go.Av.set_app_len0 Go.Av.freeStep Go.Av.exV Go.Av.keepL Go.Av.ups Go.Av.take_app_len
open Go Go.Av
attribute [local irreducible] T
attribute [local simp] eTy_def eTm_def

theorem toTypeS_step (l : List MTy) (hl : l.length <= 1048576) (h : ∀ t ∈ l, ACalls Try.prog 28 [aTy t] [] (aTy t) [] []) : ACalls Try.prog 51 [.l (l.map eTy)] [] (.l (l.map eTy)) [] [] := by
 refine ACalls.of_body Try.func51 (by kernel_rfl) rfl (by kernel_rfl) (by simp [Try.ntmps51]) (by simp) ?_
 rw [Try.ntmps51]
 repeat' first | (refine T.rs (fun _ => false) fun K hK => ?_; (repeat (refine aops_go ?_; simp)); refine aops_end (hK _ ?_); clear hK K) | (refine T.rs1 (fun _ => false) fun K hK => ?_; (repeat (refine aops_go ?_; simp)); refine aops_end (hK _ ?_); clear hK K) | refine T.cond rfl (fun hc => ?_) (fun hc => absurd hc (by decide)) | refine T.cond rfl (fun hc => absurd hc (by decide)) (fun hc => ?_) | refine T.seq ?_ | refine T.block ?_ | refine T.skip ?_ | refine T.exit ?_
 refine T.rs1 (fun _ => false) fun K hK => ?_
 repeat (refine aops_go ?_; simp)
 refine ⟨by omega, by omega, ?_⟩
 repeat (refine aops_go ?_; simp)
 refine aops_end (hK _ ?_)
 clear hK K
 repeat' first | (refine T.rs (fun _ => false) fun K hK => ?_; (repeat (refine aops_go ?_; simp)); refine aops_end (hK _ ?_); clear hK K) | (refine T.rs1 (fun _ => false) fun K hK => ?_; (repeat (refine aops_go ?_; simp)); refine aops_end (hK _ ?_); clear hK K) | refine T.cond rfl (fun hc => ?_) (fun hc => absurd hc (by decide)) | refine T.cond rfl (fun hc => absurd hc (by decide)) (fun hc => ?_) | refine T.seq ?_ | refine T.block ?_ | refine T.skip ?_ | refine T.exit ?_
 refine T.loopF (fun p : Nat => ⟨[(0, .l (l.map eTy)), (3, .c (.own 0 l.length)), (4, .i p)], [], [{ sz := 2, ety := 39, rows := fillR eTy [.i 0, .sl []] l p, wr := true }]⟩) (fun p => l.length + 1 - p) (fun p => p <= l.length) (fun p hp => ?_) 0 (by simp) (by simp [fillR_zero])
 by_cases hlt : p < l.length
 ·obtain ⟨t, ht⟩ := get_lt hlt
  have htm : t ∈ l := List.mem_of_getElem? ht
  have hgt : l[p] = t := by rw [List.getElem?_eq_getElem hlt] at ht; exact Option.some.inj ht
  repeat' first | (refine T.rs (fun _ => false) fun K hK => ?_; (repeat (refine aops_go ?_; simp [hlt])); refine aops_end (hK _ ?_); clear hK K) | (refine T.rs1 (fun _ => false) fun K hK => ?_; (repeat (refine aops_go ?_; simp [hlt])); refine aops_end (hK _ ?_); clear hK K) | refine T.cond rfl (fun hc => ?_) (fun hc => absurd hc (by decide)) | refine T.cond rfl (fun hc => absurd hc (by decide)) (fun hc => ?_) | refine T.seq ?_ | refine T.block ?_ | refine T.skip ?_ | refine T.exit ?_
  refine T.rs1 (fun _ => false) fun K hK => ?_
  repeat (refine aops_go ?_; simp [hlt, hgt])
  refine wpcall_pure (by simp) (h t htm) ?_
  simp
  repeat (refine aops_go ?_; simp [fillR_len (Nat.le_of_lt hlt), hlt, fillR_at hlt])
  refine aops_end (hK _ ?_)
  clear hK K
  repeat' first | (refine T.rs (fun _ => false) fun K hK => ?_; (repeat (refine aops_go ?_; simp)); refine aops_end (hK _ ?_); clear hK K) | (refine T.rs1 (fun _ => false) fun K hK => ?_; (repeat (refine aops_go ?_; simp)); refine aops_end (hK _ ?_); clear hK K) | refine T.cond rfl (fun hc => ?_) (fun hc => absurd hc (by decide)) | refine T.cond rfl (fun hc => absurd hc (by decide)) (fun hc => ?_) | refine T.seq ?_ | refine T.block ?_ | refine T.skip ?_ | refine T.exit ?_
  refine ⟨p + 1, by dsimp only; omega, by omega, ?_⟩
  have hw2 : IntKind.i64.wrap ((p : Int) + 1) = p + 1 := wrap64 (by omega) (by omega)
  have hfs := fillR_set' (f := eTy) (z := [.i 0, .sl []]) ht
  rw [eTy_def] at hfs
  simp [hw2, <- hfs]
 ·have hp' : p = l.length := by omega
  subst hp'
  repeat' first | (refine T.rs (fun _ => false) fun K hK => ?_; (repeat (refine aops_go ?_; simp [hlt])); refine aops_end (hK _ ?_); clear hK K) | (refine T.rs1 (fun _ => false) fun K hK => ?_; (repeat (refine aops_go ?_; simp [hlt])); refine aops_end (hK _ ?_); clear hK K) | refine T.cond rfl (fun hc => ?_) (fun hc => absurd hc (by decide)) | refine T.cond rfl (fun hc => absurd hc (by decide)) (fun hc => ?_) | refine T.seq ?_ | refine T.block ?_ | refine T.skip ?_ | refine T.exit ?_
  refine T.ret (Done.pure (Or.inr rfl) (x := .c (.own 0 l.length)) ?_ ?_) <;> simp [Try.results51, fillR_full]

theorem toTermS_step (l : List MTm) (hl : l.length <= 1048576) (h : ∀ t ∈ l, ACalls Try.prog 10 [aTm t] [] (aTm t) [] []) : ACalls Try.prog 29 [.l (l.map eTm)] [] (.l (l.map eTm)) [] [] := by
 refine ACalls.of_body Try.func29 (by kernel_rfl) rfl (by kernel_rfl) (by simp [Try.ntmps29]) (by simp) ?_
 rw [Try.ntmps29]
 repeat' first | (refine T.rs (fun _ => false) fun K hK => ?_; (repeat (refine aops_go ?_; simp)); refine aops_end (hK _ ?_); clear hK K) | (refine T.rs1 (fun _ => false) fun K hK => ?_; (repeat (refine aops_go ?_; simp)); refine aops_end (hK _ ?_); clear hK K) | refine T.cond rfl (fun hc => ?_) (fun hc => absurd hc (by decide)) | refine T.cond rfl (fun hc => absurd hc (by decide)) (fun hc => ?_) | refine T.seq ?_ | refine T.block ?_ | refine T.skip ?_ | refine T.exit ?_
 refine T.rs1 (fun _ => false) fun K hK => ?_
 repeat (refine aops_go ?_; simp)
 refine ⟨by omega, by omega, ?_⟩
 repeat (refine aops_go ?_; simp)
 refine aops_end (hK _ ?_)
 clear hK K
 repeat' first | (refine T.rs (fun _ => false) fun K hK => ?_; (repeat (refine aops_go ?_; simp)); refine aops_end (hK _ ?_); clear hK K) | (refine T.rs1 (fun _ => false) fun K hK => ?_; (repeat (refine aops_go ?_; simp)); refine aops_end (hK _ ?_); clear hK K) | refine T.cond rfl (fun hc => ?_) (fun hc => absurd hc (by decide)) | refine T.cond rfl (fun hc => absurd hc (by decide)) (fun hc => ?_) | refine T.seq ?_ | refine T.block ?_ | refine T.skip ?_ | refine T.exit ?_
 refine T.loopF (fun p : Nat => ⟨[(0, .l (l.map eTm)), (3, .c (.own 0 l.length)), (4, .i p)], [], [{ sz := 9, ety := 42, rows := fillR eTm [.i 0, .str [], .i 0, .i 0, .sl [], .i 0, .sl [], .i 0, .sl []] l p, wr := true }]⟩) (fun p => l.length + 1 - p) (fun p => p <= l.length) (fun p hp => ?_) 0 (by simp) (by simp [fillR_zero])
 by_cases hlt : p < l.length
 ·obtain ⟨t, ht⟩ := get_lt hlt
  have htm : t ∈ l := List.mem_of_getElem? ht
  have hgt : l[p] = t := by rw [List.getElem?_eq_getElem hlt] at ht; exact Option.some.inj ht
  repeat' first | (refine T.rs (fun _ => false) fun K hK => ?_; (repeat (refine aops_go ?_; simp [hlt])); refine aops_end (hK _ ?_); clear hK K) | (refine T.rs1 (fun _ => false) fun K hK => ?_; (repeat (refine aops_go ?_; simp [hlt])); refine aops_end (hK _ ?_); clear hK K) | refine T.cond rfl (fun hc => ?_) (fun hc => absurd hc (by decide)) | refine T.cond rfl (fun hc => absurd hc (by decide)) (fun hc => ?_) | refine T.seq ?_ | refine T.block ?_ | refine T.skip ?_ | refine T.exit ?_
  refine T.rs1 (fun _ => false) fun K hK => ?_
  repeat (refine aops_go ?_; simp [hlt, hgt])
  refine wpcall_pure (by simp) (h t htm) ?_
  simp
  repeat (refine aops_go ?_; simp [fillR_len (Nat.le_of_lt hlt), hlt, fillR_at hlt])
  refine aops_end (hK _ ?_)
  clear hK K
  repeat' first | (refine T.rs (fun _ => false) fun K hK => ?_; (repeat (refine aops_go ?_; simp)); refine aops_end (hK _ ?_); clear hK K) | (refine T.rs1 (fun _ => false) fun K hK => ?_; (repeat (refine aops_go ?_; simp)); refine aops_end (hK _ ?_); clear hK K) | refine T.cond rfl (fun hc => ?_) (fun hc => absurd hc (by decide)) | refine T.cond rfl (fun hc => absurd hc (by decide)) (fun hc => ?_) | refine T.seq ?_ | refine T.block ?_ | refine T.skip ?_ | refine T.exit ?_
  refine ⟨p + 1, by dsimp only; omega, by omega, ?_⟩
  have hw2 : IntKind.i64.wrap ((p : Int) + 1) = p + 1 := wrap64 (by omega) (by omega)
  have hfs := fillR_set' (f := eTm) (z := [.i 0, .str [], .i 0, .i 0, .sl [], .i 0, .sl [], .i 0, .sl []]) ht
  rw [eTm_def] at hfs
  simp [hw2, <- hfs]
 ·have hp' : p = l.length := by omega
  subst hp'
  repeat' first | (refine T.rs (fun _ => false) fun K hK => ?_; (repeat (refine aops_go ?_; simp [hlt])); refine aops_end (hK _ ?_); clear hK K) | (refine T.rs1 (fun _ => false) fun K hK => ?_; (repeat (refine aops_go ?_; simp [hlt])); refine aops_end (hK _ ?_); clear hK K) | refine T.cond rfl (fun hc => ?_) (fun hc => absurd hc (by decide)) | refine T.cond rfl (fun hc => absurd hc (by decide)) (fun hc => ?_) | refine T.seq ?_ | refine T.block ?_ | refine T.skip ?_ | refine T.exit ?_
  refine T.ret (Done.pure (Or.inr rfl) (x := .c (.own 0 l.length)) ?_ ?_) <;> simp [Try.results29, fillR_full]

theorem toType_step (t : MTy) (h : ACalls Try.prog 51 [.l (t.kids.map eTy)] [] (.l (t.kids.map eTy)) [] []) : ACalls Try.prog 28 [aTy t] [] (aTy t) [] [] := by
 refine ACalls.of_body Try.func28 (by kernel_rfl) rfl (by kernel_rfl) (by simp [Try.ntmps28]) (by simp) ?_
 rw [Try.ntmps28]
 repeat' first | (refine T.rs (fun _ => false) fun K hK => ?_; (repeat (refine aops_go ?_; simp)); refine aops_end (hK _ ?_); clear hK K) | (refine T.rs1 (fun _ => false) fun K hK => ?_; (repeat (refine aops_go ?_; simp)); refine aops_end (hK _ ?_); clear hK K) | refine T.cond rfl (fun hc => ?_) (fun hc => absurd hc (by decide)) | refine T.cond rfl (fun hc => absurd hc (by decide)) (fun hc => ?_) | refine T.seq ?_ | refine T.block ?_ | refine T.skip ?_ | refine T.exit ?_
 refine T.rs1 (fun _ => false) fun K hK => ?_
 repeat (refine aops_go ?_; simp)
 refine wpcall_pure (by simp) (h) ?_
 simp
 repeat (refine aops_go ?_; simp)
 refine aops_end (hK _ ?_)
 clear hK K
 repeat' first | (refine T.rs (fun _ => false) fun K hK => ?_; (repeat (refine aops_go ?_; simp)); refine aops_end (hK _ ?_); clear hK K) | (refine T.rs1 (fun _ => false) fun K hK => ?_; (repeat (refine aops_go ?_; simp)); refine aops_end (hK _ ?_); clear hK K) | refine T.cond rfl (fun hc => ?_) (fun hc => absurd hc (by decide)) | refine T.cond rfl (fun hc => absurd hc (by decide)) (fun hc => ?_) | refine T.seq ?_ | refine T.block ?_ | refine T.skip ?_ | refine T.exit ?_
 refine T.ret (Done.data (Or.inr rfl) ?_ ?_) <;> simp [Try.results28]

theorem toType_ok : (t : MTy) -> nTy t <= 1048576 -> ACalls Try.prog 28 [aTy t] [] (aTy t) [] []
 | .mk k l, hn => by
  rw [nTy_def] at hn
  have hl := nTyS_len l
  exact toType_step _ (toTypeS_step l (by simp at hn; omega) (fun t ht => toType_ok t (by have := nTyS_mem ht; simp at hn; omega)))
termination_by t => SizeOf.sizeOf t
decreasing_by have := List.sizeOf_lt_of_mem ht; simp; omega

theorem toTerm_step (e : MTm) (ht : nTy e.ty <= 1048576) (hf : nTy e.fr <= 1048576) (h : ACalls Try.prog 29 [.l (e.kids.map eTm)] [] (.l (e.kids.map eTm)) [] []) : ACalls Try.prog 10 [aTm e] [] (aTm e) [] [] := by
 refine ACalls.of_body Try.func10 (by kernel_rfl) rfl (by kernel_rfl) (by simp [Try.ntmps10]) (by simp) ?_
 rw [Try.ntmps10]
 repeat' first | (refine T.rs (fun _ => false) fun K hK => ?_; (repeat (refine aops_go ?_; simp)); refine aops_end (hK _ ?_); clear hK K) | (refine T.rs1 (fun _ => false) fun K hK => ?_; (repeat (refine aops_go ?_; simp)); refine aops_end (hK _ ?_); clear hK K) | refine T.cond rfl (fun hc => ?_) (fun hc => absurd hc (by decide)) | refine T.cond rfl (fun hc => absurd hc (by decide)) (fun hc => ?_) | refine T.seq ?_ | refine T.block ?_ | refine T.skip ?_ | refine T.exit ?_
 refine T.rs1 (fun _ => false) fun K hK => ?_
 repeat (refine aops_go ?_; simp)
 refine wpcall_pure (by simp) (toType_ok e.ty ht) ?_
 simp
 repeat (refine aops_go ?_; simp)
 refine aops_end (hK _ ?_)
 clear hK K
 repeat' first | (refine T.rs (fun _ => false) fun K hK => ?_; (repeat (refine aops_go ?_; simp)); refine aops_end (hK _ ?_); clear hK K) | (refine T.rs1 (fun _ => false) fun K hK => ?_; (repeat (refine aops_go ?_; simp)); refine aops_end (hK _ ?_); clear hK K) | refine T.cond rfl (fun hc => ?_) (fun hc => absurd hc (by decide)) | refine T.cond rfl (fun hc => absurd hc (by decide)) (fun hc => ?_) | refine T.seq ?_ | refine T.block ?_ | refine T.skip ?_ | refine T.exit ?_
 refine T.rs1 (fun _ => false) fun K hK => ?_
 repeat (refine aops_go ?_; simp)
 refine wpcall_pure (by simp) (toType_ok e.fr hf) ?_
 simp
 repeat (refine aops_go ?_; simp)
 refine aops_end (hK _ ?_)
 clear hK K
 repeat' first | (refine T.rs (fun _ => false) fun K hK => ?_; (repeat (refine aops_go ?_; simp)); refine aops_end (hK _ ?_); clear hK K) | (refine T.rs1 (fun _ => false) fun K hK => ?_; (repeat (refine aops_go ?_; simp)); refine aops_end (hK _ ?_); clear hK K) | refine T.cond rfl (fun hc => ?_) (fun hc => absurd hc (by decide)) | refine T.cond rfl (fun hc => absurd hc (by decide)) (fun hc => ?_) | refine T.seq ?_ | refine T.block ?_ | refine T.skip ?_ | refine T.exit ?_
 refine T.rs1 (fun _ => false) fun K hK => ?_
 repeat (refine aops_go ?_; simp)
 refine wpcall_pure (by simp) (h) ?_
 simp
 repeat (refine aops_go ?_; simp)
 refine aops_end (hK _ ?_)
 clear hK K
 repeat' first | (refine T.rs (fun _ => false) fun K hK => ?_; (repeat (refine aops_go ?_; simp)); refine aops_end (hK _ ?_); clear hK K) | (refine T.rs1 (fun _ => false) fun K hK => ?_; (repeat (refine aops_go ?_; simp)); refine aops_end (hK _ ?_); clear hK K) | refine T.cond rfl (fun hc => ?_) (fun hc => absurd hc (by decide)) | refine T.cond rfl (fun hc => absurd hc (by decide)) (fun hc => ?_) | refine T.seq ?_ | refine T.block ?_ | refine T.skip ?_ | refine T.exit ?_
 refine T.ret (Done.data (Or.inr rfl) ?_ ?_) <;> simp [Try.results10]

theorem toTerm_ok : (e : MTm) -> nTm e <= 1048576 -> ACalls Try.prog 10 [aTm e] [] (aTm e) [] []
 | .mk k s n t f b l, hn => by
  rw [nTm_def] at hn
  have hl := nTmS_len l
  simp only [MTm.name_mk, MTm.ty_mk, MTm.fr_mk, MTm.kids_mk] at hn
  exact toTerm_step _ (by simp; omega) (by simp; omega) (toTermS_step l (by omega) (fun t ht => toTerm_ok t (by have := nTmS_mem ht; omega)))
termination_by e => SizeOf.sizeOf e
decreasing_by have := List.sizeOf_lt_of_mem ht; simp; omega

end Go.Proofs.Ytflmjilnecanhaa

namespace Go.Proofs.Ytflmjilnecanhaa
attribute [-simp] Go.Av.get_app_len Go.Av.get_app_len0 Go.Av.set_app_len Go.Av.set_app_len0 Go.Av.freeStep Go.Av.exV Go.Av.keepL Go.Av.ups Go.Av.take_app_len
open Go Go.Av
attribute [local irreducible] T
attribute [local simp] eTy_def eTm_def

theorem eqTypeS_step (l : List MTy) (hl : l.length <= 1048576) (h : ∀ t ∈ l, ACalls Try.prog 36 [aTy t, aTy t] [] (.b true) [] []) : ACalls Try.prog 62 [.l (l.map eTy), .l (l.map eTy)] [] (.b true) [] [] := by
 refine ACalls.of_body Try.func62 (by kernel_rfl) rfl (by kernel_rfl) (by simp [Try.ntmps62]) (by simp) ?_
 rw [Try.ntmps62]
 repeat' first | (refine T.rs (fun _ => false) fun K hK => ?_; (repeat (refine aops_go ?_; simp)); refine aops_end (hK _ ?_); clear hK K) | (refine T.rs1 (fun _ => false) fun K hK => ?_; (repeat (refine aops_go ?_; simp)); refine aops_end (hK _ ?_); clear hK K) | refine T.cond rfl (fun hc => ?_) (fun hc => absurd hc (by decide)) | refine T.cond rfl (fun hc => absurd hc (by decide)) (fun hc => ?_) | refine T.seq ?_ | refine T.block ?_ | refine T.skip ?_ | refine T.exit ?_
 refine T.loopF (fun p : Nat => ⟨[(0, .l (l.map eTy)), (1, .l (l.map eTy)), (5, .i p)], [], []⟩) (fun p => l.length + 1 - p) (fun p => p <= l.length) (fun p hp => ?_) 0 (by simp) (by simp)
 by_cases hlt : p < l.length
 ·obtain ⟨t, ht⟩ := get_lt hlt
  have htm : t ∈ l := List.mem_of_getElem? ht
  have hgt : l[p] = t := by rw [List.getElem?_eq_getElem hlt] at ht; exact Option.some.inj ht
  repeat' first | (refine T.rs (fun _ => false) fun K hK => ?_; (repeat (refine aops_go ?_; simp [hlt])); refine aops_end (hK _ ?_); clear hK K) | (refine T.rs1 (fun _ => false) fun K hK => ?_; (repeat (refine aops_go ?_; simp [hlt])); refine aops_end (hK _ ?_); clear hK K) | refine T.cond rfl (fun hc => ?_) (fun hc => absurd hc (by decide)) | refine T.cond rfl (fun hc => absurd hc (by decide)) (fun hc => ?_) | refine T.seq ?_ | refine T.block ?_ | refine T.skip ?_ | refine T.exit ?_
  refine T.rd1 mixed (fun _ => false) [] (by kernel_rfl) fun K hK => ?_
  repeat (refine aopsD_go ?_; simp [hlt, hgt])
  refine wpcall_pure (by simp) (h t htm) ?_
  simp
  repeat (refine aopsD_go ?_; simp)
  refine aopsD_end (hK _ ?_)
  clear hK K
  repeat' first | (refine T.rs (fun _ => false) fun K hK => ?_; (repeat (refine aops_go ?_; simp)); refine aops_end (hK _ ?_); clear hK K) | (refine T.rs1 (fun _ => false) fun K hK => ?_; (repeat (refine aops_go ?_; simp)); refine aops_end (hK _ ?_); clear hK K) | refine T.cond rfl (fun hc => ?_) (fun hc => absurd hc (by decide)) | refine T.cond rfl (fun hc => absurd hc (by decide)) (fun hc => ?_) | refine T.seq ?_ | refine T.block ?_ | refine T.skip ?_ | refine T.exit ?_
  refine ⟨p + 1, by dsimp only; omega, by omega, ?_⟩
  have hw2 : IntKind.i64.wrap ((p : Int) + 1) = p + 1 := wrap64 (by omega) (by omega)
  simp [hw2]
 ·have hp' : p = l.length := by omega
  subst hp'
  repeat' first | (refine T.rs (fun _ => false) fun K hK => ?_; (repeat (refine aops_go ?_; simp [hlt])); refine aops_end (hK _ ?_); clear hK K) | (refine T.rs1 (fun _ => false) fun K hK => ?_; (repeat (refine aops_go ?_; simp [hlt])); refine aops_end (hK _ ?_); clear hK K) | refine T.cond rfl (fun hc => ?_) (fun hc => absurd hc (by decide)) | refine T.cond rfl (fun hc => absurd hc (by decide)) (fun hc => ?_) | refine T.seq ?_ | refine T.block ?_ | refine T.skip ?_ | refine T.exit ?_
  refine T.ret (Done.data (Or.inr rfl) ?_ ?_) <;> simp [Try.results62]

theorem eqTermS_step (l : List MTm) (hl : l.length <= 1048576) (h : ∀ t ∈ l, ACalls Try.prog 13 [aTm t, aTm t] [] (.b true) [] []) : ACalls Try.prog 37 [.l (l.map eTm), .l (l.map eTm)] [] (.b true) [] [] := by
 refine ACalls.of_body Try.func37 (by kernel_rfl) rfl (by kernel_rfl) (by simp [Try.ntmps37]) (by simp) ?_
 rw [Try.ntmps37]
 repeat' first | (refine T.rs (fun _ => false) fun K hK => ?_; (repeat (refine aops_go ?_; simp)); refine aops_end (hK _ ?_); clear hK K) | (refine T.rs1 (fun _ => false) fun K hK => ?_; (repeat (refine aops_go ?_; simp)); refine aops_end (hK _ ?_); clear hK K) | refine T.cond rfl (fun hc => ?_) (fun hc => absurd hc (by decide)) | refine T.cond rfl (fun hc => absurd hc (by decide)) (fun hc => ?_) | refine T.seq ?_ | refine T.block ?_ | refine T.skip ?_ | refine T.exit ?_
 refine T.loopF (fun p : Nat => ⟨[(0, .l (l.map eTm)), (1, .l (l.map eTm)), (5, .i p)], [], []⟩) (fun p => l.length + 1 - p) (fun p => p <= l.length) (fun p hp => ?_) 0 (by simp) (by simp)
 by_cases hlt : p < l.length
 ·obtain ⟨t, ht⟩ := get_lt hlt
  have htm : t ∈ l := List.mem_of_getElem? ht
  have hgt : l[p] = t := by rw [List.getElem?_eq_getElem hlt] at ht; exact Option.some.inj ht
  repeat' first | (refine T.rs (fun _ => false) fun K hK => ?_; (repeat (refine aops_go ?_; simp [hlt])); refine aops_end (hK _ ?_); clear hK K) | (refine T.rs1 (fun _ => false) fun K hK => ?_; (repeat (refine aops_go ?_; simp [hlt])); refine aops_end (hK _ ?_); clear hK K) | refine T.cond rfl (fun hc => ?_) (fun hc => absurd hc (by decide)) | refine T.cond rfl (fun hc => absurd hc (by decide)) (fun hc => ?_) | refine T.seq ?_ | refine T.block ?_ | refine T.skip ?_ | refine T.exit ?_
  refine T.rd1 mixed (fun _ => false) [] (by kernel_rfl) fun K hK => ?_
  repeat (refine aopsD_go ?_; simp [hlt, hgt])
  refine wpcall_pure (by simp) (h t htm) ?_
  simp
  repeat (refine aopsD_go ?_; simp)
  refine aopsD_end (hK _ ?_)
  clear hK K
  repeat' first | (refine T.rs (fun _ => false) fun K hK => ?_; (repeat (refine aops_go ?_; simp)); refine aops_end (hK _ ?_); clear hK K) | (refine T.rs1 (fun _ => false) fun K hK => ?_; (repeat (refine aops_go ?_; simp)); refine aops_end (hK _ ?_); clear hK K) | refine T.cond rfl (fun hc => ?_) (fun hc => absurd hc (by decide)) | refine T.cond rfl (fun hc => absurd hc (by decide)) (fun hc => ?_) | refine T.seq ?_ | refine T.block ?_ | refine T.skip ?_ | refine T.exit ?_
  refine ⟨p + 1, by dsimp only; omega, by omega, ?_⟩
  have hw2 : IntKind.i64.wrap ((p : Int) + 1) = p + 1 := wrap64 (by omega) (by omega)
  simp [hw2]
 ·have hp' : p = l.length := by omega
  subst hp'
  repeat' first | (refine T.rs (fun _ => false) fun K hK => ?_; (repeat (refine aops_go ?_; simp [hlt])); refine aops_end (hK _ ?_); clear hK K) | (refine T.rs1 (fun _ => false) fun K hK => ?_; (repeat (refine aops_go ?_; simp [hlt])); refine aops_end (hK _ ?_); clear hK K) | refine T.cond rfl (fun hc => ?_) (fun hc => absurd hc (by decide)) | refine T.cond rfl (fun hc => absurd hc (by decide)) (fun hc => ?_) | refine T.seq ?_ | refine T.block ?_ | refine T.skip ?_ | refine T.exit ?_
  refine T.ret (Done.data (Or.inr rfl) ?_ ?_) <;> simp [Try.results37]

theorem eqType_step (t : MTy) (h : ACalls Try.prog 62 [.l (t.kids.map eTy), .l (t.kids.map eTy)] [] (.b true) [] []) : ACalls Try.prog 36 [aTy t, aTy t] [] (.b true) [] [] := by
 refine ACalls.of_body Try.func36 (by kernel_rfl) rfl (by kernel_rfl) (by simp [Try.ntmps36]) (by simp) ?_
 rw [Try.ntmps36]
 repeat' first | (refine T.rs (fun _ => false) fun K hK => ?_; (repeat (refine aops_go ?_; simp)); refine aops_end (hK _ ?_); clear hK K) | (refine T.rs1 (fun _ => false) fun K hK => ?_; (repeat (refine aops_go ?_; simp)); refine aops_end (hK _ ?_); clear hK K) | refine T.cond rfl (fun hc => ?_) (fun hc => absurd hc (by decide)) | refine T.cond rfl (fun hc => absurd hc (by decide)) (fun hc => ?_) | refine T.seq ?_ | refine T.block ?_ | refine T.skip ?_ | refine T.exit ?_
 refine T.rs1 (fun _ => false) fun K hK => ?_
 repeat (refine aops_go ?_; simp)
 refine wpcall_pure (by simp) (h) ?_
 simp
 repeat (refine aops_go ?_; simp)
 refine aops_end (hK _ ?_)
 clear hK K
 repeat' first | (refine T.rs (fun _ => false) fun K hK => ?_; (repeat (refine aops_go ?_; simp)); refine aops_end (hK _ ?_); clear hK K) | (refine T.rs1 (fun _ => false) fun K hK => ?_; (repeat (refine aops_go ?_; simp)); refine aops_end (hK _ ?_); clear hK K) | refine T.cond rfl (fun hc => ?_) (fun hc => absurd hc (by decide)) | refine T.cond rfl (fun hc => absurd hc (by decide)) (fun hc => ?_) | refine T.seq ?_ | refine T.block ?_ | refine T.skip ?_ | refine T.exit ?_
 refine T.ret (Done.data (Or.inr rfl) ?_ ?_) <;> simp [Try.results36]

theorem eqType_ok : (t : MTy) -> nTy t <= 1048576 -> ACalls Try.prog 36 [aTy t, aTy t] [] (.b true) [] []
 | .mk k l, hn => by
  rw [nTy_def] at hn
  have hl := nTyS_len l
  exact eqType_step _ (eqTypeS_step l (by simp at hn; omega) (fun t ht => eqType_ok t (by have := nTyS_mem ht; simp at hn; omega)))
termination_by t => SizeOf.sizeOf t
decreasing_by have := List.sizeOf_lt_of_mem ht; simp; omega

theorem eqTerm_step (e : MTm) (ht : nTy e.ty <= 1048576) (hf : nTy e.fr <= 1048576) (h : ACalls Try.prog 37 [.l (e.kids.map eTm), .l (e.kids.map eTm)] [] (.b true) [] []) : ACalls Try.prog 13 [aTm e, aTm e] [] (.b true) [] [] := by
 refine ACalls.of_body Try.func13 (by kernel_rfl) rfl (by kernel_rfl) (by simp [Try.ntmps13]) (by simp) ?_
 rw [Try.ntmps13]
 repeat' first | (refine T.rs (fun _ => false) fun K hK => ?_; (repeat (refine aops_go ?_; simp)); refine aops_end (hK _ ?_); clear hK K) | (refine T.rs1 (fun _ => false) fun K hK => ?_; (repeat (refine aops_go ?_; simp)); refine aops_end (hK _ ?_); clear hK K) | refine T.cond rfl (fun hc => ?_) (fun hc => absurd hc (by decide)) | refine T.cond rfl (fun hc => absurd hc (by decide)) (fun hc => ?_) | refine T.seq ?_ | refine T.block ?_ | refine T.skip ?_ | refine T.exit ?_
 refine T.rs1 (fun _ => false) fun K hK => ?_
 repeat (refine aops_go ?_; simp)
 refine wpcall_pure (by simp) (eqType_ok e.ty ht) ?_
 simp
 repeat (refine aops_go ?_; simp)
 refine aops_end (hK _ ?_)
 clear hK K
 repeat' first | (refine T.rs (fun _ => false) fun K hK => ?_; (repeat (refine aops_go ?_; simp)); refine aops_end (hK _ ?_); clear hK K) | (refine T.rs1 (fun _ => false) fun K hK => ?_; (repeat (refine aops_go ?_; simp)); refine aops_end (hK _ ?_); clear hK K) | refine T.cond rfl (fun hc => ?_) (fun hc => absurd hc (by decide)) | refine T.cond rfl (fun hc => absurd hc (by decide)) (fun hc => ?_) | refine T.seq ?_ | refine T.block ?_ | refine T.skip ?_ | refine T.exit ?_
 refine T.rs1 (fun _ => false) fun K hK => ?_
 repeat (refine aops_go ?_; simp)
 refine wpcall_pure (by simp) (eqType_ok e.fr hf) ?_
 simp
 repeat (refine aops_go ?_; simp)
 refine aops_end (hK _ ?_)
 clear hK K
 repeat' first | (refine T.rs (fun _ => false) fun K hK => ?_; (repeat (refine aops_go ?_; simp)); refine aops_end (hK _ ?_); clear hK K) | (refine T.rs1 (fun _ => false) fun K hK => ?_; (repeat (refine aops_go ?_; simp)); refine aops_end (hK _ ?_); clear hK K) | refine T.cond rfl (fun hc => ?_) (fun hc => absurd hc (by decide)) | refine T.cond rfl (fun hc => absurd hc (by decide)) (fun hc => ?_) | refine T.seq ?_ | refine T.block ?_ | refine T.skip ?_ | refine T.exit ?_
 refine T.rs1 (fun _ => false) fun K hK => ?_
 repeat (refine aops_go ?_; simp)
 refine wpcall_pure (by simp) (h) ?_
 simp
 repeat (refine aops_go ?_; simp)
 refine aops_end (hK _ ?_)
 clear hK K
 repeat' first | (refine T.rs (fun _ => false) fun K hK => ?_; (repeat (refine aops_go ?_; simp)); refine aops_end (hK _ ?_); clear hK K) | (refine T.rs1 (fun _ => false) fun K hK => ?_; (repeat (refine aops_go ?_; simp)); refine aops_end (hK _ ?_); clear hK K) | refine T.cond rfl (fun hc => ?_) (fun hc => absurd hc (by decide)) | refine T.cond rfl (fun hc => absurd hc (by decide)) (fun hc => ?_) | refine T.seq ?_ | refine T.block ?_ | refine T.skip ?_ | refine T.exit ?_
 refine T.ret (Done.data (Or.inr rfl) ?_ ?_) <;> simp [Try.results13]

theorem eqTerm_ok : (e : MTm) -> nTm e <= 1048576 -> ACalls Try.prog 13 [aTm e, aTm e] [] (.b true) [] []
 | .mk k s n t f b l, hn => by
  rw [nTm_def] at hn
  have hl := nTmS_len l
  simp only [MTm.name_mk, MTm.ty_mk, MTm.fr_mk, MTm.kids_mk] at hn
  exact eqTerm_step _ (by simp; omega) (by simp; omega) (eqTermS_step l (by omega) (fun t ht => eqTerm_ok t (by have := nTmS_mem ht; omega)))
termination_by e => SizeOf.sizeOf e
decreasing_by have := List.sizeOf_lt_of_mem ht; simp; omega

end Go.Proofs.Ytflmjilnecanhaa
