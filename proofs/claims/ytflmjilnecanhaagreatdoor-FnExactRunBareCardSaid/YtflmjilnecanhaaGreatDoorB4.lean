/- A part of the library of this seat. -/
import Derived.Test.YtflmjilnecanhaaGreatDoorB3
import Derived.Test.YtflmjilnecanhaaGreatDoorChecked
set_option linter.unusedVariables false
set_option linter.unusedSimpArgs false
namespace Go.Proofs.YtflmjilnecanhaaGreatDoor
attribute [-simp] Go.Av.get_app_len Go.Av.get_app_len0 Go.Av.set_app_len Go.Av.set_app_len0 Go.Av.freeStep Go.Av.exV Go.Av.keepL Go.Av.ups Go.Av.take_app_len Go.Av.innVs Go.Av.putBack Go.Av.objCells Go.Av.back Go.Av.resVs Go.Av.one Go.Av.freeStepG Go.Av.exA Go.Av.innAsH Go.Av.AV.innH Go.Av.CV.innH Go.Av.innHs Go.Av.AV.outnH Go.Av.CV.outnH
open Go Go.Av
attribute [local irreducible] T
attribute [local simp] eTy_def eTm_def

@[simp] theorem td_int : td Tryz.prog 3 = some { ag := false, sz := 1, by_ := 8, zero := some [.d (.int .i64 0)], el := none, ar := none, fl := [], ik := some .i64, isS := false, isB := false } := keep (by kernel_rfl)
@[simp] theorem td_bool : td Tryz.prog 4 = some { ag := false, sz := 1, by_ := 1, zero := some [.d (.bool false)], el := none, ar := none, fl := [], ik := none, isS := false, isB := true } := keep (by kernel_rfl)
@[simp] theorem td_string : td Tryz.prog 9 = some { ag := false, sz := 1, by_ := 16, zero := some [.d (.str [])], el := none, ar := none, fl := [], ik := none, isS := true, isB := false } := keep (by kernel_rfl)
@[simp] theorem td_lawsTypeS : td Tryz.prog 54 = some { ag := false, sz := 1, by_ := 24, zero := some [.nil], el := some 56, ar := none, fl := [], ik := none, isS := false, isB := false } := keep (by kernel_rfl)
@[simp] theorem td_lawsType : td Tryz.prog 56 = some { ag := true, sz := 2, by_ := 32, zero := some [.d (.int .i64 0), .nil], el := none, ar := none, fl := [(0, 1), (1, 1)], ik := none, isS := false, isB := false } := keep (by kernel_rfl)
@[simp] theorem td_lawsTermS : td Tryz.prog 57 = some { ag := false, sz := 1, by_ := 24, zero := some [.nil], el := some 59, ar := none, fl := [], ik := none, isS := false, isB := false } := keep (by kernel_rfl)
@[simp] theorem td_lawsTerm : td Tryz.prog 59 = some { ag := true, sz := 9, by_ := 128, zero := some [.d (.int .i64 0), .d (.str []), .d (.int .i64 0), .d (.int .i64 0), .nil, .d (.int .i64 0), .nil, .d (.int .i64 0), .nil], el := none, ar := none, fl := [(0, 1), (1, 1), (2, 1), (3, 2), (5, 2), (7, 1), (8, 1)], ik := none, isS := false, isB := false } := keep (by kernel_rfl)
@[simp] theorem td_implTypeS : td Tryz.prog 41 = some { ag := false, sz := 1, by_ := 24, zero := some [.nil], el := some 43, ar := none, fl := [], ik := none, isS := false, isB := false } := keep (by kernel_rfl)
@[simp] theorem td_implType : td Tryz.prog 43 = some { ag := true, sz := 2, by_ := 32, zero := some [.d (.int .i64 0), .nil], el := none, ar := none, fl := [(0, 1), (1, 1)], ik := none, isS := false, isB := false } := keep (by kernel_rfl)
@[simp] theorem td_implTermS : td Tryz.prog 44 = some { ag := false, sz := 1, by_ := 24, zero := some [.nil], el := some 46, ar := none, fl := [], ik := none, isS := false, isB := false } := keep (by kernel_rfl)
@[simp] theorem td_implTerm : td Tryz.prog 46 = some { ag := true, sz := 9, by_ := 128, zero := some [.d (.int .i64 0), .d (.str []), .d (.int .i64 0), .d (.int .i64 0), .nil, .d (.int .i64 0), .nil, .d (.int .i64 0), .nil], el := none, ar := none, fl := [(0, 1), (1, 1), (2, 1), (3, 2), (5, 2), (7, 1), (8, 1)], ik := none, isS := false, isB := false } := keep (by kernel_rfl)
theorem mixed : Tryz.prog.follows .mixedOrders = true := by kernel_rfl

theorem szTypeS_step (l : List MTy) (hl : l.length <= 9223372036854775807) (h : ∀ t ∈ l, ∀ left : Int, 0 <= left -> left <= 1048576 -> ACalls Tryz.prog 88 [aTy t, .i left] [] (.i (szM (nTy t) left)) [] []) (left : Int) (h0 : 0 <= left) (h1 : left <= 1048576) :
  ACalls Tryz.prog 164 [.l (l.map eTy), .i left] [] (.i (szM (nTyS l) left)) [] [] := by
 refine ACalls.of_body Tryz.func164 (by kernel_rfl) rfl (by kernel_rfl) (by simp [Tryz.ntmps164]) (by simp) ?_
 rw [Tryz.ntmps164]
 have hw : IntKind.i64.wrap (left - (l.length : Int)) = left - l.length := wrap64 (by omega) (by omega)
 have hsum := nTyS_sum l
 by_cases hlen : left - (l.length : Int) < 0
 ·repeat' first | (refine T.rs (fun _ => false) fun K hK => ?_; (repeat (refine aops_go ?_; simp [hw, hlen])); refine aops_end (hK _ ?_); clear hK K) | (refine T.rs1 (fun _ => false) fun K hK => ?_; (repeat (refine aops_go ?_; simp [hw, hlen])); refine aops_end (hK _ ?_); clear hK K) | refine T.cond rfl (fun hc => ?_) (fun hc => absurd hc (by decide)) | refine T.cond rfl (fun hc => absurd hc (by decide)) (fun hc => ?_) | refine T.seq ?_ | refine T.block ?_ | refine T.skip ?_ | refine T.exit ?_
  have hneg : ¬ (nTyS l : Int) <= left := by omega
  refine T.ret (Done.data (Or.inr rfl) ?_ ?_) <;> simp [Tryz.results164, szM, hneg]
 have hlen' : ¬ left < (l.length : Int) := by omega
 repeat' first | (refine T.rs (fun _ => false) fun K hK => ?_; (repeat (refine aops_go ?_; simp [hw, hlen, hlen'])); refine aops_end (hK _ ?_); clear hK K) | (refine T.rs1 (fun _ => false) fun K hK => ?_; (repeat (refine aops_go ?_; simp [hw, hlen, hlen'])); refine aops_end (hK _ ?_); clear hK K) | refine T.cond rfl (fun hc => ?_) (fun hc => absurd hc (by decide)) | refine T.cond rfl (fun hc => absurd hc (by decide)) (fun hc => ?_) | refine T.seq ?_ | refine T.block ?_ | refine T.skip ?_ | refine T.exit ?_
 refine T.loopF (fun p : Nat => ⟨[(0, .l (l.map eTy)), (1, .i (left - l.length - sumTy (l.take p))), (5, .i p)], [], []⟩) (fun p => l.length + 1 - p) (fun p => p <= l.length /\ 0 <= left - l.length - sumTy (l.take p)) (fun p hp => ?_) 0 (by simp [sumTy]; omega) (by simp [hw, sumTy])
 obtain ⟨hi, he⟩ := hp
 by_cases hlt : p < l.length
 ·obtain ⟨t, ht⟩ := get_lt hlt
  have htm : t ∈ l := List.mem_of_getElem? ht
  have htk := sumTy_take ht
  have hle := sumTy_le l (p + 1)
  have hgt : l[p] = t := by rw [List.getElem?_eq_getElem hlt] at ht; exact Option.some.inj ht
  repeat' first | (refine T.rs (fun _ => false) fun K hK => ?_; (repeat (refine aops_go ?_; simp [hlt])); refine aops_end (hK _ ?_); clear hK K) | (refine T.rs1 (fun _ => false) fun K hK => ?_; (repeat (refine aops_go ?_; simp [hlt])); refine aops_end (hK _ ?_); clear hK K) | refine T.cond rfl (fun hc => ?_) (fun hc => absurd hc (by decide)) | refine T.cond rfl (fun hc => absurd hc (by decide)) (fun hc => ?_) | refine T.seq ?_ | refine T.block ?_ | refine T.skip ?_ | refine T.exit ?_
  refine T.rs1 (fun _ => false) fun K hK => ?_
  repeat (refine aops_go ?_; simp [hlt, hgt])
  refine wpcall_pure (by simp) (h t htm _ he (by omega)) ?_
  simp
  repeat (refine aops_go ?_; simp)
  refine aops_end (hK _ ?_)
  clear hK K
  by_cases hq : szM (nTy t) (left - l.length - sumTy (l.take p)) < 0
  ·repeat' first | (refine T.rs (fun _ => false) fun K hK => ?_; (repeat (refine aops_go ?_; simp [hq])); refine aops_end (hK _ ?_); clear hK K) | (refine T.rs1 (fun _ => false) fun K hK => ?_; (repeat (refine aops_go ?_; simp [hq])); refine aops_end (hK _ ?_); clear hK K) | refine T.cond rfl (fun hc => ?_) (fun hc => absurd hc (by decide)) | refine T.cond rfl (fun hc => absurd hc (by decide)) (fun hc => ?_) | refine T.seq ?_ | refine T.block ?_ | refine T.skip ?_ | refine T.exit ?_
   have hneg : ¬ (nTyS l : Int) <= left := by
    simp only [szM] at hq
    split at hq <;> omega
   refine T.ret (Done.data (Or.inr rfl) ?_ ?_) <;> simp [Tryz.results164, szM, hneg]
  ·have hq2 : szM (nTy t) (left - l.length - sumTy (l.take p)) = left - l.length - sumTy (l.take (p + 1)) := by
    simp only [szM] at hq ⊢
    split at hq <;> split <;> omega
   repeat' first | (refine T.rs (fun _ => false) fun K hK => ?_; (repeat (refine aops_go ?_; simp [hq])); refine aops_end (hK _ ?_); clear hK K) | (refine T.rs1 (fun _ => false) fun K hK => ?_; (repeat (refine aops_go ?_; simp [hq])); refine aops_end (hK _ ?_); clear hK K) | refine T.cond rfl (fun hc => ?_) (fun hc => absurd hc (by decide)) | refine T.cond rfl (fun hc => absurd hc (by decide)) (fun hc => ?_) | refine T.seq ?_ | refine T.block ?_ | refine T.skip ?_ | refine T.exit ?_
   refine ⟨p + 1, by dsimp only; omega, ⟨by omega, by rw [<- hq2]; omega⟩, ?_⟩
   have hw2 : IntKind.i64.wrap ((p : Int) + 1) = p + 1 := wrap64 (by omega) (by omega)
   simp [hw2, hq2]
 ·have hp' : p = l.length := by omega
  subst hp'
  repeat' first | (refine T.rs (fun _ => false) fun K hK => ?_; (repeat (refine aops_go ?_; simp [hlt])); refine aops_end (hK _ ?_); clear hK K) | (refine T.rs1 (fun _ => false) fun K hK => ?_; (repeat (refine aops_go ?_; simp [hlt])); refine aops_end (hK _ ?_); clear hK K) | refine T.cond rfl (fun hc => ?_) (fun hc => absurd hc (by decide)) | refine T.cond rfl (fun hc => absurd hc (by decide)) (fun hc => ?_) | refine T.seq ?_ | refine T.block ?_ | refine T.skip ?_ | refine T.exit ?_
  have hpos : (nTyS l : Int) <= left := by rw [List.take_length] at he; omega
  refine T.ret (Done.data (Or.inr rfl) ?_ ?_) <;> simp [Tryz.results164, szM, hpos]
  omega

theorem szTermS_step (l : List MTm) (hl : l.length <= 9223372036854775807) (h : ∀ t ∈ l, ∀ left : Int, 0 <= left -> left <= 1048576 -> ACalls Tryz.prog 31 [aTm t, .i left] [] (.i (szM (nTm t) left)) [] []) (left : Int) (h0 : 0 <= left) (h1 : left <= 1048576) :
  ACalls Tryz.prog 89 [.l (l.map eTm), .i left] [] (.i (szM (nTmS l) left)) [] [] := by
 refine ACalls.of_body Tryz.func89 (by kernel_rfl) rfl (by kernel_rfl) (by simp [Tryz.ntmps89]) (by simp) ?_
 rw [Tryz.ntmps89]
 have hw : IntKind.i64.wrap (left - (l.length : Int)) = left - l.length := wrap64 (by omega) (by omega)
 have hsum := nTmS_sum l
 by_cases hlen : left - (l.length : Int) < 0
 ·repeat' first | (refine T.rs (fun _ => false) fun K hK => ?_; (repeat (refine aops_go ?_; simp [hw, hlen])); refine aops_end (hK _ ?_); clear hK K) | (refine T.rs1 (fun _ => false) fun K hK => ?_; (repeat (refine aops_go ?_; simp [hw, hlen])); refine aops_end (hK _ ?_); clear hK K) | refine T.cond rfl (fun hc => ?_) (fun hc => absurd hc (by decide)) | refine T.cond rfl (fun hc => absurd hc (by decide)) (fun hc => ?_) | refine T.seq ?_ | refine T.block ?_ | refine T.skip ?_ | refine T.exit ?_
  have hneg : ¬ (nTmS l : Int) <= left := by omega
  refine T.ret (Done.data (Or.inr rfl) ?_ ?_) <;> simp [Tryz.results89, szM, hneg]
 have hlen' : ¬ left < (l.length : Int) := by omega
 repeat' first | (refine T.rs (fun _ => false) fun K hK => ?_; (repeat (refine aops_go ?_; simp [hw, hlen, hlen'])); refine aops_end (hK _ ?_); clear hK K) | (refine T.rs1 (fun _ => false) fun K hK => ?_; (repeat (refine aops_go ?_; simp [hw, hlen, hlen'])); refine aops_end (hK _ ?_); clear hK K) | refine T.cond rfl (fun hc => ?_) (fun hc => absurd hc (by decide)) | refine T.cond rfl (fun hc => absurd hc (by decide)) (fun hc => ?_) | refine T.seq ?_ | refine T.block ?_ | refine T.skip ?_ | refine T.exit ?_
 refine T.loopF (fun p : Nat => ⟨[(0, .l (l.map eTm)), (1, .i (left - l.length - sumTm (l.take p))), (5, .i p)], [], []⟩) (fun p => l.length + 1 - p) (fun p => p <= l.length /\ 0 <= left - l.length - sumTm (l.take p)) (fun p hp => ?_) 0 (by simp [sumTm]; omega) (by simp [hw, sumTm])
 obtain ⟨hi, he⟩ := hp
 by_cases hlt : p < l.length
 ·obtain ⟨t, ht⟩ := get_lt hlt
  have htm : t ∈ l := List.mem_of_getElem? ht
  have htk := sumTm_take ht
  have hle := sumTm_le l (p + 1)
  have hgt : l[p] = t := by rw [List.getElem?_eq_getElem hlt] at ht; exact Option.some.inj ht
  repeat' first | (refine T.rs (fun _ => false) fun K hK => ?_; (repeat (refine aops_go ?_; simp [hlt])); refine aops_end (hK _ ?_); clear hK K) | (refine T.rs1 (fun _ => false) fun K hK => ?_; (repeat (refine aops_go ?_; simp [hlt])); refine aops_end (hK _ ?_); clear hK K) | refine T.cond rfl (fun hc => ?_) (fun hc => absurd hc (by decide)) | refine T.cond rfl (fun hc => absurd hc (by decide)) (fun hc => ?_) | refine T.seq ?_ | refine T.block ?_ | refine T.skip ?_ | refine T.exit ?_
  refine T.rs1 (fun _ => false) fun K hK => ?_
  repeat (refine aops_go ?_; simp [hlt, hgt])
  refine wpcall_pure (by simp) (h t htm _ he (by omega)) ?_
  simp
  repeat (refine aops_go ?_; simp)
  refine aops_end (hK _ ?_)
  clear hK K
  by_cases hq : szM (nTm t) (left - l.length - sumTm (l.take p)) < 0
  ·repeat' first | (refine T.rs (fun _ => false) fun K hK => ?_; (repeat (refine aops_go ?_; simp [hq])); refine aops_end (hK _ ?_); clear hK K) | (refine T.rs1 (fun _ => false) fun K hK => ?_; (repeat (refine aops_go ?_; simp [hq])); refine aops_end (hK _ ?_); clear hK K) | refine T.cond rfl (fun hc => ?_) (fun hc => absurd hc (by decide)) | refine T.cond rfl (fun hc => absurd hc (by decide)) (fun hc => ?_) | refine T.seq ?_ | refine T.block ?_ | refine T.skip ?_ | refine T.exit ?_
   have hneg : ¬ (nTmS l : Int) <= left := by
    simp only [szM] at hq
    split at hq <;> omega
   refine T.ret (Done.data (Or.inr rfl) ?_ ?_) <;> simp [Tryz.results89, szM, hneg]
  ·have hq2 : szM (nTm t) (left - l.length - sumTm (l.take p)) = left - l.length - sumTm (l.take (p + 1)) := by
    simp only [szM] at hq ⊢
    split at hq <;> split <;> omega
   repeat' first | (refine T.rs (fun _ => false) fun K hK => ?_; (repeat (refine aops_go ?_; simp [hq])); refine aops_end (hK _ ?_); clear hK K) | (refine T.rs1 (fun _ => false) fun K hK => ?_; (repeat (refine aops_go ?_; simp [hq])); refine aops_end (hK _ ?_); clear hK K) | refine T.cond rfl (fun hc => ?_) (fun hc => absurd hc (by decide)) | refine T.cond rfl (fun hc => absurd hc (by decide)) (fun hc => ?_) | refine T.seq ?_ | refine T.block ?_ | refine T.skip ?_ | refine T.exit ?_
   refine ⟨p + 1, by dsimp only; omega, ⟨by omega, by rw [<- hq2]; omega⟩, ?_⟩
   have hw2 : IntKind.i64.wrap ((p : Int) + 1) = p + 1 := wrap64 (by omega) (by omega)
   simp [hw2, hq2]
 ·have hp' : p = l.length := by omega
  subst hp'
  repeat' first | (refine T.rs (fun _ => false) fun K hK => ?_; (repeat (refine aops_go ?_; simp [hlt])); refine aops_end (hK _ ?_); clear hK K) | (refine T.rs1 (fun _ => false) fun K hK => ?_; (repeat (refine aops_go ?_; simp [hlt])); refine aops_end (hK _ ?_); clear hK K) | refine T.cond rfl (fun hc => ?_) (fun hc => absurd hc (by decide)) | refine T.cond rfl (fun hc => absurd hc (by decide)) (fun hc => ?_) | refine T.seq ?_ | refine T.block ?_ | refine T.skip ?_ | refine T.exit ?_
  have hpos : (nTmS l : Int) <= left := by rw [List.take_length] at he; omega
  refine T.ret (Done.data (Or.inr rfl) ?_ ?_) <;> simp [Tryz.results89, szM, hpos]
  omega

theorem szType_step (t : MTy) (left : Int) (h : ACalls Tryz.prog 164 [.l (t.kids.map eTy), .i left] [] (.i (szM (nTyS t.kids) left)) [] []) : ACalls Tryz.prog 88 [aTy t, .i left] [] (.i (szM (nTy t) left)) [] [] := by
 refine ACalls.of_body Tryz.func88 (by kernel_rfl) rfl (by kernel_rfl) (by simp [Tryz.ntmps88]) (by simp) ?_
 rw [Tryz.ntmps88]
 rw [nTy_def]
 repeat' first | (refine T.rs (fun _ => false) fun K hK => ?_; (repeat (refine aops_go ?_; simp)); refine aops_end (hK _ ?_); clear hK K) | (refine T.rs1 (fun _ => false) fun K hK => ?_; (repeat (refine aops_go ?_; simp)); refine aops_end (hK _ ?_); clear hK K) | refine T.cond rfl (fun hc => ?_) (fun hc => absurd hc (by decide)) | refine T.cond rfl (fun hc => absurd hc (by decide)) (fun hc => ?_) | refine T.seq ?_ | refine T.block ?_ | refine T.skip ?_ | refine T.exit ?_
 refine T.rs1 (fun _ => false) fun K hK => ?_
 repeat (refine aops_go ?_; simp)
 refine wpcall_pure (by simp) (h) ?_
 simp
 repeat (refine aops_go ?_; simp)
 refine aops_end (hK _ ?_)
 clear hK K
 by_cases hq : szM (nTyS t.kids) left < 0
 ·have hneg : szM (nTyS t.kids) left = -1 := by simp only [szM] at hq ⊢; split at hq <;> split <;> omega
  repeat' first | (refine T.rs (fun _ => false) fun K hK => ?_; (repeat (refine aops_go ?_; simp [hq])); refine aops_end (hK _ ?_); clear hK K) | (refine T.rs1 (fun _ => false) fun K hK => ?_; (repeat (refine aops_go ?_; simp [hq])); refine aops_end (hK _ ?_); clear hK K) | refine T.cond rfl (fun hc => ?_) (fun hc => absurd hc (by decide)) | refine T.cond rfl (fun hc => absurd hc (by decide)) (fun hc => ?_) | refine T.seq ?_ | refine T.block ?_ | refine T.skip ?_ | refine T.exit ?_
  refine T.ret (Done.data (Or.inr rfl) ?_ ?_) <;> simp [Tryz.results88, hneg]
 ·repeat' first | (refine T.rs (fun _ => false) fun K hK => ?_; (repeat (refine aops_go ?_; simp [hq])); refine aops_end (hK _ ?_); clear hK K) | (refine T.rs1 (fun _ => false) fun K hK => ?_; (repeat (refine aops_go ?_; simp [hq])); refine aops_end (hK _ ?_); clear hK K) | refine T.cond rfl (fun hc => ?_) (fun hc => absurd hc (by decide)) | refine T.cond rfl (fun hc => absurd hc (by decide)) (fun hc => ?_) | refine T.seq ?_ | refine T.block ?_ | refine T.skip ?_ | refine T.exit ?_
  refine T.ret (Done.data (Or.inr rfl) ?_ ?_) <;> simp [Tryz.results88]

theorem szType_ok : (t : MTy) -> wTy t -> ∀ left : Int, 0 <= left -> left <= 1048576 -> ACalls Tryz.prog 88 [aTy t, .i left] [] (.i (szM (nTy t) left)) [] []
 | .mk k l, hw, left, h0, h1 => by
  rw [wTy_def] at hw
  exact szType_step _ _ (szTypeS_step l hw.1 (fun t ht left h0 h1 => szType_ok t (wTyS_mem hw.2 ht) left h0 h1) left h0 h1)
termination_by t => SizeOf.sizeOf t
decreasing_by have := List.sizeOf_lt_of_mem ht; simp; omega

theorem szTerm_step (e : MTm) (hw : wTm e) (left : Int) (h0 : 0 <= left) (h1 : left <= 1048576) (h : ∀ left : Int, 0 <= left -> left <= 1048576 -> ACalls Tryz.prog 89 [.l (e.kids.map eTm), .i left] [] (.i (szM (nTmS e.kids) left)) [] []) : ACalls Tryz.prog 31 [aTm e, .i left] [] (.i (szM (nTm e) left)) [] [] := by
 refine ACalls.of_body Tryz.func31 (by kernel_rfl) rfl (by kernel_rfl) (by simp [Tryz.ntmps31]) (by simp) ?_
 rw [Tryz.ntmps31]
 rw [wTm_def] at hw
 obtain ⟨hs, ht, hf, _, _⟩ := hw
 rw [nTm_def]
 have hwr : IntKind.i64.wrap (left - (e.name.length : Int)) = left - e.name.length := wrap64 (by omega) (by omega)
 by_cases q1 : left - (e.name.length : Int) < 0
 ·have hneg : ¬ ((e.name.length + nTy e.ty + nTy e.fr + nTmS e.kids : Nat) : Int) <= left := by omega
  have q1' : left < (e.name.length : Int) := by omega
  repeat' first | (refine T.rs (fun _ => false) fun K hK => ?_; (repeat (refine aops_go ?_; simp [hwr, q1, q1'])); refine aops_end (hK _ ?_); clear hK K) | (refine T.rs1 (fun _ => false) fun K hK => ?_; (repeat (refine aops_go ?_; simp [hwr, q1, q1'])); refine aops_end (hK _ ?_); clear hK K) | refine T.cond rfl (fun hc => ?_) (fun hc => absurd hc (by decide)) | refine T.cond rfl (fun hc => absurd hc (by decide)) (fun hc => ?_) | refine T.seq ?_ | refine T.block ?_ | refine T.skip ?_ | refine T.exit ?_
  refine T.ret (Done.data (Or.inr rfl) ?_ ?_) <;> simp [Tryz.results31, szM] <;> (try (intro hh; omega))
 have q1' : ¬ left < (e.name.length : Int) := by omega
 repeat' first | (refine T.rs (fun _ => false) fun K hK => ?_; (repeat (refine aops_go ?_; simp [hwr, q1, q1'])); refine aops_end (hK _ ?_); clear hK K) | (refine T.rs1 (fun _ => false) fun K hK => ?_; (repeat (refine aops_go ?_; simp [hwr, q1, q1'])); refine aops_end (hK _ ?_); clear hK K) | refine T.cond rfl (fun hc => ?_) (fun hc => absurd hc (by decide)) | refine T.cond rfl (fun hc => absurd hc (by decide)) (fun hc => ?_) | refine T.seq ?_ | refine T.block ?_ | refine T.skip ?_ | refine T.exit ?_
 refine T.rs1 (fun _ => false) fun K hK => ?_
 repeat (refine aops_go ?_; simp)
 refine wpcall_pure (by simp) (szType_ok e.ty ht (left - e.name.length) (by omega) (by omega)) ?_
 simp
 repeat (refine aops_go ?_; simp)
 refine aops_end (hK _ ?_)
 clear hK K
 by_cases q2 : szM (nTy e.ty) (left - e.name.length) < 0
 ·have hneg : ¬ ((e.name.length + nTy e.ty + nTy e.fr + nTmS e.kids : Nat) : Int) <= left := by
   simp only [szM] at q2
   split at q2 <;> omega
  repeat' first | (refine T.rs (fun _ => false) fun K hK => ?_; (repeat (refine aops_go ?_; simp [q2])); refine aops_end (hK _ ?_); clear hK K) | (refine T.rs1 (fun _ => false) fun K hK => ?_; (repeat (refine aops_go ?_; simp [q2])); refine aops_end (hK _ ?_); clear hK K) | refine T.cond rfl (fun hc => ?_) (fun hc => absurd hc (by decide)) | refine T.cond rfl (fun hc => absurd hc (by decide)) (fun hc => ?_) | refine T.seq ?_ | refine T.block ?_ | refine T.skip ?_ | refine T.exit ?_
  refine T.ret (Done.data (Or.inr rfl) ?_ ?_) <;> simp [Tryz.results31, szM] <;> (try (intro hh; omega))
 have e2 : szM (nTy e.ty) (left - e.name.length) = left - e.name.length - nTy e.ty /\ 0 <= left - (e.name.length : Int) - nTy e.ty := by
  simp only [szM] at q2 ⊢
  split at q2 <;> (try (rename_i hh; rw [if_pos hh])) <;> omega
 repeat' first | (refine T.rs (fun _ => false) fun K hK => ?_; (repeat (refine aops_go ?_; simp [q2])); refine aops_end (hK _ ?_); clear hK K) | (refine T.rs1 (fun _ => false) fun K hK => ?_; (repeat (refine aops_go ?_; simp [q2])); refine aops_end (hK _ ?_); clear hK K) | refine T.cond rfl (fun hc => ?_) (fun hc => absurd hc (by decide)) | refine T.cond rfl (fun hc => absurd hc (by decide)) (fun hc => ?_) | refine T.seq ?_ | refine T.block ?_ | refine T.skip ?_ | refine T.exit ?_
 rw [e2.1]
 refine T.rs1 (fun _ => false) fun K hK => ?_
 repeat (refine aops_go ?_; simp)
 refine wpcall_pure (by simp) (szType_ok e.fr hf (left - e.name.length - nTy e.ty) (by omega) (by omega)) ?_
 simp
 repeat (refine aops_go ?_; simp)
 refine aops_end (hK _ ?_)
 clear hK K
 by_cases q3 : szM (nTy e.fr) (left - e.name.length - nTy e.ty) < 0
 ·have hneg : ¬ ((e.name.length + nTy e.ty + nTy e.fr + nTmS e.kids : Nat) : Int) <= left := by
   simp only [szM] at q3
   split at q3 <;> omega
  repeat' first | (refine T.rs (fun _ => false) fun K hK => ?_; (repeat (refine aops_go ?_; simp [q3])); refine aops_end (hK _ ?_); clear hK K) | (refine T.rs1 (fun _ => false) fun K hK => ?_; (repeat (refine aops_go ?_; simp [q3])); refine aops_end (hK _ ?_); clear hK K) | refine T.cond rfl (fun hc => ?_) (fun hc => absurd hc (by decide)) | refine T.cond rfl (fun hc => absurd hc (by decide)) (fun hc => ?_) | refine T.seq ?_ | refine T.block ?_ | refine T.skip ?_ | refine T.exit ?_
  refine T.ret (Done.data (Or.inr rfl) ?_ ?_) <;> simp [Tryz.results31, szM] <;> (try (intro hh; omega))
 have e3 : szM (nTy e.fr) (left - e.name.length - nTy e.ty) = left - e.name.length - nTy e.ty - nTy e.fr /\ 0 <= left - (e.name.length : Int) - nTy e.ty - nTy e.fr := by
  simp only [szM] at q3 ⊢
  split at q3 <;> (try (rename_i hh; rw [if_pos hh])) <;> omega
 repeat' first | (refine T.rs (fun _ => false) fun K hK => ?_; (repeat (refine aops_go ?_; simp [q3])); refine aops_end (hK _ ?_); clear hK K) | (refine T.rs1 (fun _ => false) fun K hK => ?_; (repeat (refine aops_go ?_; simp [q3])); refine aops_end (hK _ ?_); clear hK K) | refine T.cond rfl (fun hc => ?_) (fun hc => absurd hc (by decide)) | refine T.cond rfl (fun hc => absurd hc (by decide)) (fun hc => ?_) | refine T.seq ?_ | refine T.block ?_ | refine T.skip ?_ | refine T.exit ?_
 rw [e3.1]
 refine T.rs1 (fun _ => false) fun K hK => ?_
 repeat (refine aops_go ?_; simp)
 refine wpcall_pure (by simp) (h (left - e.name.length - nTy e.ty - nTy e.fr) (by omega) (by omega)) ?_
 simp
 repeat (refine aops_go ?_; simp)
 refine aops_end (hK _ ?_)
 clear hK K
 by_cases q4 : szM (nTmS e.kids) (left - e.name.length - nTy e.ty - nTy e.fr) < 0
 ·have hneg : ¬ ((e.name.length + nTy e.ty + nTy e.fr + nTmS e.kids : Nat) : Int) <= left := by
   simp only [szM] at q4
   split at q4 <;> omega
  repeat' first | (refine T.rs (fun _ => false) fun K hK => ?_; (repeat (refine aops_go ?_; simp [q4])); refine aops_end (hK _ ?_); clear hK K) | (refine T.rs1 (fun _ => false) fun K hK => ?_; (repeat (refine aops_go ?_; simp [q4])); refine aops_end (hK _ ?_); clear hK K) | refine T.cond rfl (fun hc => ?_) (fun hc => absurd hc (by decide)) | refine T.cond rfl (fun hc => absurd hc (by decide)) (fun hc => ?_) | refine T.seq ?_ | refine T.block ?_ | refine T.skip ?_ | refine T.exit ?_
  refine T.ret (Done.data (Or.inr rfl) ?_ ?_) <;> simp [Tryz.results31, szM] <;> (try (intro hh; omega))
 have e4 : szM (nTmS e.kids) (left - e.name.length - nTy e.ty - nTy e.fr) = szM (e.name.length + nTy e.ty + nTy e.fr + nTmS e.kids) left := by
  simp only [szM] at q4 ⊢
  split at q4 <;> split <;> omega
 repeat' first | (refine T.rs (fun _ => false) fun K hK => ?_; (repeat (refine aops_go ?_; simp [q4])); refine aops_end (hK _ ?_); clear hK K) | (refine T.rs1 (fun _ => false) fun K hK => ?_; (repeat (refine aops_go ?_; simp [q4])); refine aops_end (hK _ ?_); clear hK K) | refine T.cond rfl (fun hc => ?_) (fun hc => absurd hc (by decide)) | refine T.cond rfl (fun hc => absurd hc (by decide)) (fun hc => ?_) | refine T.seq ?_ | refine T.block ?_ | refine T.skip ?_ | refine T.exit ?_
 refine T.ret (Done.data (Or.inr rfl) ?_ ?_) <;> simp [Tryz.results31, e4]

theorem szTerm_ok : (e : MTm) -> wTm e -> ∀ left : Int, 0 <= left -> left <= 1048576 -> ACalls Tryz.prog 31 [aTm e, .i left] [] (.i (szM (nTm e) left)) [] []
 | .mk k s n t f b l, hw, left, h0, h1 => by
  have hw' := hw
  rw [wTm_def] at hw
  exact szTerm_step _ hw' _ h0 h1 (fun left h0 h1 => szTermS_step l hw.2.2.2.1 (fun t ht left h0 h1 => szTerm_ok t (wTmS_mem hw.2.2.2.2 ht) left h0 h1) left h0 h1)
termination_by e => SizeOf.sizeOf e
decreasing_by have := List.sizeOf_lt_of_mem ht; simp; omega

end Go.Proofs.YtflmjilnecanhaaGreatDoor

namespace Go.Proofs.YtflmjilnecanhaaGreatDoor
attribute [-simp] Go.Av.get_app_len Go.Av.get_app_len0 Go.Av.set_app_len Go.Av.set_app_len0 Go.Av.freeStep Go.Av.exV Go.Av.keepL Go.Av.ups Go.Av.take_app_len Go.Av.innVs Go.Av.putBack Go.Av.objCells Go.Av.back Go.Av.resVs Go.Av.one Go.Av.freeStepG Go.Av.exA Go.Av.innAsH Go.Av.AV.innH Go.Av.CV.innH Go.Av.innHs Go.Av.AV.outnH Go.Av.CV.outnH
open Go Go.Av
attribute [local irreducible] T
attribute [local simp] eTy_def eTm_def

theorem toTypeS_step (l : List MTy) (hl : l.length <= 1048576) (h : ∀ t ∈ l, ACalls Tryz.prog 93 [aTy t] [] (aTy t) [] []) : ACalls Tryz.prog 170 [.l (l.map eTy)] [] (.l (l.map eTy)) [] [] := by
 refine ACalls.of_body Tryz.func170 (by kernel_rfl) rfl (by kernel_rfl) (by simp [Tryz.ntmps170]) (by simp) ?_
 rw [Tryz.ntmps170]
 repeat' first | (refine T.rs (fun _ => false) fun K hK => ?_; (repeat (refine aops_go ?_; simp)); refine aops_end (hK _ ?_); clear hK K) | (refine T.rs1 (fun _ => false) fun K hK => ?_; (repeat (refine aops_go ?_; simp)); refine aops_end (hK _ ?_); clear hK K) | refine T.cond rfl (fun hc => ?_) (fun hc => absurd hc (by decide)) | refine T.cond rfl (fun hc => absurd hc (by decide)) (fun hc => ?_) | refine T.seq ?_ | refine T.block ?_ | refine T.skip ?_ | refine T.exit ?_
 refine T.rs1 (fun _ => false) fun K hK => ?_
 repeat (refine aops_go ?_; simp)
 refine ⟨by omega, by omega, ?_⟩
 repeat (refine aops_go ?_; simp)
 refine aops_end (hK _ ?_)
 clear hK K
 repeat' first | (refine T.rs (fun _ => false) fun K hK => ?_; (repeat (refine aops_go ?_; simp)); refine aops_end (hK _ ?_); clear hK K) | (refine T.rs1 (fun _ => false) fun K hK => ?_; (repeat (refine aops_go ?_; simp)); refine aops_end (hK _ ?_); clear hK K) | refine T.cond rfl (fun hc => ?_) (fun hc => absurd hc (by decide)) | refine T.cond rfl (fun hc => absurd hc (by decide)) (fun hc => ?_) | refine T.seq ?_ | refine T.block ?_ | refine T.skip ?_ | refine T.exit ?_
 refine T.loopF (fun p : Nat => ⟨[(0, .l (l.map eTy)), (3, .c (.own 0 l.length)), (4, .i p)], [], [{ sz := 2, ety := 43, rows := fillR eTy [.i 0, .sl []] l p, wr := true }]⟩) (fun p => l.length + 1 - p) (fun p => p <= l.length) (fun p hp => ?_) 0 (by simp) (by simp [fillR_zero])
 by_cases hlt : p < l.length
 ·obtain ⟨t, ht⟩ := get_lt hlt
  have htm : t ∈ l := List.mem_of_getElem? ht
  have hgt : l[p] = t := by rw [List.getElem?_eq_getElem hlt] at ht; exact Option.some.inj ht
  repeat' first | (refine T.rs (fun _ => false) fun K hK => ?_; (repeat (refine aops_go ?_; simp [hlt])); refine aops_end (hK _ ?_); clear hK K) | (refine T.rs1 (fun _ => false) fun K hK => ?_; (repeat (refine aops_go ?_; simp [hlt])); refine aops_end (hK _ ?_); clear hK K) | refine T.cond rfl (fun hc => ?_) (fun hc => absurd hc (by decide)) | refine T.cond rfl (fun hc => absurd hc (by decide)) (fun hc => ?_) | refine T.seq ?_ | refine T.block ?_ | refine T.skip ?_ | refine T.exit ?_
  refine T.rs1 (fun _ => false) fun K hK => ?_
  repeat (refine aops_go ?_; simp [hlt, hgt])
  refine wpcall_pure (by simp) (h t htm) ?_
  simp
  repeat (refine aops_go ?_; simp [fillR_len (Nat.le_of_lt hlt), hlt, fillR_at hlt])
  refine aops_end (hK _ ?_)
  clear hK K
  repeat' first | (refine T.rs (fun _ => false) fun K hK => ?_; (repeat (refine aops_go ?_; simp)); refine aops_end (hK _ ?_); clear hK K) | (refine T.rs1 (fun _ => false) fun K hK => ?_; (repeat (refine aops_go ?_; simp)); refine aops_end (hK _ ?_); clear hK K) | refine T.cond rfl (fun hc => ?_) (fun hc => absurd hc (by decide)) | refine T.cond rfl (fun hc => absurd hc (by decide)) (fun hc => ?_) | refine T.seq ?_ | refine T.block ?_ | refine T.skip ?_ | refine T.exit ?_
  refine ⟨p + 1, by dsimp only; omega, by omega, ?_⟩
  have hw2 : IntKind.i64.wrap ((p : Int) + 1) = p + 1 := wrap64 (by omega) (by omega)
  have hfs := fillR_set' (f := eTy) (z := [.i 0, .sl []]) ht
  rw [eTy_def] at hfs
  simp [hw2, <- hfs]
 ·have hp' : p = l.length := by omega
  subst hp'
  repeat' first | (refine T.rs (fun _ => false) fun K hK => ?_; (repeat (refine aops_go ?_; simp [hlt])); refine aops_end (hK _ ?_); clear hK K) | (refine T.rs1 (fun _ => false) fun K hK => ?_; (repeat (refine aops_go ?_; simp [hlt])); refine aops_end (hK _ ?_); clear hK K) | refine T.cond rfl (fun hc => ?_) (fun hc => absurd hc (by decide)) | refine T.cond rfl (fun hc => absurd hc (by decide)) (fun hc => ?_) | refine T.seq ?_ | refine T.block ?_ | refine T.skip ?_ | refine T.exit ?_
  refine T.ret (Done.pure (Or.inr rfl) (x := .c (.own 0 l.length)) ?_ ?_) <;> simp [Tryz.results170, fillR_full]

theorem toTermS_step (l : List MTm) (hl : l.length <= 1048576) (h : ∀ t ∈ l, ACalls Tryz.prog 33 [aTm t] [] (aTm t) [] []) : ACalls Tryz.prog 94 [.l (l.map eTm)] [] (.l (l.map eTm)) [] [] := by
 refine ACalls.of_body Tryz.func94 (by kernel_rfl) rfl (by kernel_rfl) (by simp [Tryz.ntmps94]) (by simp) ?_
 rw [Tryz.ntmps94]
 repeat' first | (refine T.rs (fun _ => false) fun K hK => ?_; (repeat (refine aops_go ?_; simp)); refine aops_end (hK _ ?_); clear hK K) | (refine T.rs1 (fun _ => false) fun K hK => ?_; (repeat (refine aops_go ?_; simp)); refine aops_end (hK _ ?_); clear hK K) | refine T.cond rfl (fun hc => ?_) (fun hc => absurd hc (by decide)) | refine T.cond rfl (fun hc => absurd hc (by decide)) (fun hc => ?_) | refine T.seq ?_ | refine T.block ?_ | refine T.skip ?_ | refine T.exit ?_
 refine T.rs1 (fun _ => false) fun K hK => ?_
 repeat (refine aops_go ?_; simp)
 refine ⟨by omega, by omega, ?_⟩
 repeat (refine aops_go ?_; simp)
 refine aops_end (hK _ ?_)
 clear hK K
 repeat' first | (refine T.rs (fun _ => false) fun K hK => ?_; (repeat (refine aops_go ?_; simp)); refine aops_end (hK _ ?_); clear hK K) | (refine T.rs1 (fun _ => false) fun K hK => ?_; (repeat (refine aops_go ?_; simp)); refine aops_end (hK _ ?_); clear hK K) | refine T.cond rfl (fun hc => ?_) (fun hc => absurd hc (by decide)) | refine T.cond rfl (fun hc => absurd hc (by decide)) (fun hc => ?_) | refine T.seq ?_ | refine T.block ?_ | refine T.skip ?_ | refine T.exit ?_
 refine T.loopF (fun p : Nat => ⟨[(0, .l (l.map eTm)), (3, .c (.own 0 l.length)), (4, .i p)], [], [{ sz := 9, ety := 46, rows := fillR eTm [.i 0, .str [], .i 0, .i 0, .sl [], .i 0, .sl [], .i 0, .sl []] l p, wr := true }]⟩) (fun p => l.length + 1 - p) (fun p => p <= l.length) (fun p hp => ?_) 0 (by simp) (by simp [fillR_zero])
 by_cases hlt : p < l.length
 ·obtain ⟨t, ht⟩ := get_lt hlt
  have htm : t ∈ l := List.mem_of_getElem? ht
  have hgt : l[p] = t := by rw [List.getElem?_eq_getElem hlt] at ht; exact Option.some.inj ht
  repeat' first | (refine T.rs (fun _ => false) fun K hK => ?_; (repeat (refine aops_go ?_; simp [hlt])); refine aops_end (hK _ ?_); clear hK K) | (refine T.rs1 (fun _ => false) fun K hK => ?_; (repeat (refine aops_go ?_; simp [hlt])); refine aops_end (hK _ ?_); clear hK K) | refine T.cond rfl (fun hc => ?_) (fun hc => absurd hc (by decide)) | refine T.cond rfl (fun hc => absurd hc (by decide)) (fun hc => ?_) | refine T.seq ?_ | refine T.block ?_ | refine T.skip ?_ | refine T.exit ?_
  refine T.rs1 (fun _ => false) fun K hK => ?_
  repeat (refine aops_go ?_; simp [hlt, hgt])
  refine wpcall_pure (by simp) (h t htm) ?_
  simp
  repeat (refine aops_go ?_; simp [fillR_len (Nat.le_of_lt hlt), hlt, fillR_at hlt])
  refine aops_end (hK _ ?_)
  clear hK K
  repeat' first | (refine T.rs (fun _ => false) fun K hK => ?_; (repeat (refine aops_go ?_; simp)); refine aops_end (hK _ ?_); clear hK K) | (refine T.rs1 (fun _ => false) fun K hK => ?_; (repeat (refine aops_go ?_; simp)); refine aops_end (hK _ ?_); clear hK K) | refine T.cond rfl (fun hc => ?_) (fun hc => absurd hc (by decide)) | refine T.cond rfl (fun hc => absurd hc (by decide)) (fun hc => ?_) | refine T.seq ?_ | refine T.block ?_ | refine T.skip ?_ | refine T.exit ?_
  refine ⟨p + 1, by dsimp only; omega, by omega, ?_⟩
  have hw2 : IntKind.i64.wrap ((p : Int) + 1) = p + 1 := wrap64 (by omega) (by omega)
  have hfs := fillR_set' (f := eTm) (z := [.i 0, .str [], .i 0, .i 0, .sl [], .i 0, .sl [], .i 0, .sl []]) ht
  rw [eTm_def] at hfs
  simp [hw2, <- hfs]
 ·have hp' : p = l.length := by omega
  subst hp'
  repeat' first | (refine T.rs (fun _ => false) fun K hK => ?_; (repeat (refine aops_go ?_; simp [hlt])); refine aops_end (hK _ ?_); clear hK K) | (refine T.rs1 (fun _ => false) fun K hK => ?_; (repeat (refine aops_go ?_; simp [hlt])); refine aops_end (hK _ ?_); clear hK K) | refine T.cond rfl (fun hc => ?_) (fun hc => absurd hc (by decide)) | refine T.cond rfl (fun hc => absurd hc (by decide)) (fun hc => ?_) | refine T.seq ?_ | refine T.block ?_ | refine T.skip ?_ | refine T.exit ?_
  refine T.ret (Done.pure (Or.inr rfl) (x := .c (.own 0 l.length)) ?_ ?_) <;> simp [Tryz.results94, fillR_full]

theorem toType_step (t : MTy) (h : ACalls Tryz.prog 170 [.l (t.kids.map eTy)] [] (.l (t.kids.map eTy)) [] []) : ACalls Tryz.prog 93 [aTy t] [] (aTy t) [] [] := by
 refine ACalls.of_body Tryz.func93 (by kernel_rfl) rfl (by kernel_rfl) (by simp [Tryz.ntmps93]) (by simp) ?_
 rw [Tryz.ntmps93]
 repeat' first | (refine T.rs (fun _ => false) fun K hK => ?_; (repeat (refine aops_go ?_; simp)); refine aops_end (hK _ ?_); clear hK K) | (refine T.rs1 (fun _ => false) fun K hK => ?_; (repeat (refine aops_go ?_; simp)); refine aops_end (hK _ ?_); clear hK K) | refine T.cond rfl (fun hc => ?_) (fun hc => absurd hc (by decide)) | refine T.cond rfl (fun hc => absurd hc (by decide)) (fun hc => ?_) | refine T.seq ?_ | refine T.block ?_ | refine T.skip ?_ | refine T.exit ?_
 refine T.rs1 (fun _ => false) fun K hK => ?_
 repeat (refine aops_go ?_; simp)
 refine wpcall_pure (by simp) (h) ?_
 simp
 repeat (refine aops_go ?_; simp)
 refine aops_end (hK _ ?_)
 clear hK K
 repeat' first | (refine T.rs (fun _ => false) fun K hK => ?_; (repeat (refine aops_go ?_; simp)); refine aops_end (hK _ ?_); clear hK K) | (refine T.rs1 (fun _ => false) fun K hK => ?_; (repeat (refine aops_go ?_; simp)); refine aops_end (hK _ ?_); clear hK K) | refine T.cond rfl (fun hc => ?_) (fun hc => absurd hc (by decide)) | refine T.cond rfl (fun hc => absurd hc (by decide)) (fun hc => ?_) | refine T.seq ?_ | refine T.block ?_ | refine T.skip ?_ | refine T.exit ?_
 refine T.ret (Done.data (Or.inr rfl) ?_ ?_) <;> simp [Tryz.results93]

theorem toType_ok : (t : MTy) -> nTy t <= 1048576 -> ACalls Tryz.prog 93 [aTy t] [] (aTy t) [] []
 | .mk k l, hn => by
  rw [nTy_def] at hn
  have hl := nTyS_len l
  exact toType_step _ (toTypeS_step l (by simp at hn; omega) (fun t ht => toType_ok t (by have := nTyS_mem ht; simp at hn; omega)))
termination_by t => SizeOf.sizeOf t
decreasing_by have := List.sizeOf_lt_of_mem ht; simp; omega

theorem toTerm_step (e : MTm) (ht : nTy e.ty <= 1048576) (hf : nTy e.fr <= 1048576) (h : ACalls Tryz.prog 94 [.l (e.kids.map eTm)] [] (.l (e.kids.map eTm)) [] []) : ACalls Tryz.prog 33 [aTm e] [] (aTm e) [] [] := by
 refine ACalls.of_body Tryz.func33 (by kernel_rfl) rfl (by kernel_rfl) (by simp [Tryz.ntmps33]) (by simp) ?_
 rw [Tryz.ntmps33]
 repeat' first | (refine T.rs (fun _ => false) fun K hK => ?_; (repeat (refine aops_go ?_; simp)); refine aops_end (hK _ ?_); clear hK K) | (refine T.rs1 (fun _ => false) fun K hK => ?_; (repeat (refine aops_go ?_; simp)); refine aops_end (hK _ ?_); clear hK K) | refine T.cond rfl (fun hc => ?_) (fun hc => absurd hc (by decide)) | refine T.cond rfl (fun hc => absurd hc (by decide)) (fun hc => ?_) | refine T.seq ?_ | refine T.block ?_ | refine T.skip ?_ | refine T.exit ?_
 refine T.rs1 (fun _ => false) fun K hK => ?_
 repeat (refine aops_go ?_; simp)
 refine wpcall_pure (by simp) (toType_ok e.ty ht) ?_
 simp
 repeat (refine aops_go ?_; simp)
 refine aops_end (hK _ ?_)
 clear hK K
 repeat' first | (refine T.rs (fun _ => false) fun K hK => ?_; (repeat (refine aops_go ?_; simp)); refine aops_end (hK _ ?_); clear hK K) | (refine T.rs1 (fun _ => false) fun K hK => ?_; (repeat (refine aops_go ?_; simp)); refine aops_end (hK _ ?_); clear hK K) | refine T.cond rfl (fun hc => ?_) (fun hc => absurd hc (by decide)) | refine T.cond rfl (fun hc => absurd hc (by decide)) (fun hc => ?_) | refine T.seq ?_ | refine T.block ?_ | refine T.skip ?_ | refine T.exit ?_
 refine T.rs1 (fun _ => false) fun K hK => ?_
 repeat (refine aops_go ?_; simp)
 refine wpcall_pure (by simp) (toType_ok e.fr hf) ?_
 simp
 repeat (refine aops_go ?_; simp)
 refine aops_end (hK _ ?_)
 clear hK K
 repeat' first | (refine T.rs (fun _ => false) fun K hK => ?_; (repeat (refine aops_go ?_; simp)); refine aops_end (hK _ ?_); clear hK K) | (refine T.rs1 (fun _ => false) fun K hK => ?_; (repeat (refine aops_go ?_; simp)); refine aops_end (hK _ ?_); clear hK K) | refine T.cond rfl (fun hc => ?_) (fun hc => absurd hc (by decide)) | refine T.cond rfl (fun hc => absurd hc (by decide)) (fun hc => ?_) | refine T.seq ?_ | refine T.block ?_ | refine T.skip ?_ | refine T.exit ?_
 refine T.rs1 (fun _ => false) fun K hK => ?_
 repeat (refine aops_go ?_; simp)
 refine wpcall_pure (by simp) (h) ?_
 simp
 repeat (refine aops_go ?_; simp)
 refine aops_end (hK _ ?_)
 clear hK K
 repeat' first | (refine T.rs (fun _ => false) fun K hK => ?_; (repeat (refine aops_go ?_; simp)); refine aops_end (hK _ ?_); clear hK K) | (refine T.rs1 (fun _ => false) fun K hK => ?_; (repeat (refine aops_go ?_; simp)); refine aops_end (hK _ ?_); clear hK K) | refine T.cond rfl (fun hc => ?_) (fun hc => absurd hc (by decide)) | refine T.cond rfl (fun hc => absurd hc (by decide)) (fun hc => ?_) | refine T.seq ?_ | refine T.block ?_ | refine T.skip ?_ | refine T.exit ?_
 refine T.ret (Done.data (Or.inr rfl) ?_ ?_) <;> simp [Tryz.results33]

theorem toTerm_ok : (e : MTm) -> nTm e <= 1048576 -> ACalls Tryz.prog 33 [aTm e] [] (aTm e) [] []
 | .mk k s n t f b l, hn => by
  rw [nTm_def] at hn
  have hl := nTmS_len l
  simp only [MTm.name_mk, MTm.ty_mk, MTm.fr_mk, MTm.kids_mk] at hn
  exact toTerm_step _ (by simp; omega) (by simp; omega) (toTermS_step l (by omega) (fun t ht => toTerm_ok t (by have := nTmS_mem ht; omega)))
termination_by e => SizeOf.sizeOf e
decreasing_by have := List.sizeOf_lt_of_mem ht; simp; omega

end Go.Proofs.YtflmjilnecanhaaGreatDoor

namespace Go.Proofs.YtflmjilnecanhaaGreatDoor
attribute [-simp] Go.Av.get_app_len Go.Av.get_app_len0 Go.Av.set_app_len Go.Av.set_app_len0 Go.Av.freeStep Go.Av.exV Go.Av.keepL Go.Av.ups Go.Av.take_app_len Go.Av.innVs Go.Av.putBack Go.Av.objCells Go.Av.back Go.Av.resVs Go.Av.one Go.Av.freeStepG Go.Av.exA Go.Av.innAsH Go.Av.AV.innH Go.Av.CV.innH Go.Av.innHs Go.Av.AV.outnH Go.Av.CV.outnH
open Go Go.Av
attribute [local irreducible] T
attribute [local simp] eTy_def eTm_def

theorem eqTypeS_step (l : List MTy) (hl : l.length <= 1048576) (h : ∀ t ∈ l, ACalls Tryz.prog 97 [aTy t, aTy t] [] (.b true) [] []) : ACalls Tryz.prog 174 [.l (l.map eTy), .l (l.map eTy)] [] (.b true) [] [] := by
 refine ACalls.of_body Tryz.func174 (by kernel_rfl) rfl (by kernel_rfl) (by simp [Tryz.ntmps174]) (by simp) ?_
 rw [Tryz.ntmps174]
 repeat' first | (refine T.rs (fun _ => false) fun K hK => ?_; (repeat (refine aops_go ?_; simp)); refine aops_end (hK _ ?_); clear hK K) | (refine T.rs1 (fun _ => false) fun K hK => ?_; (repeat (refine aops_go ?_; simp)); refine aops_end (hK _ ?_); clear hK K) | refine T.cond rfl (fun hc => ?_) (fun hc => absurd hc (by decide)) | refine T.cond rfl (fun hc => absurd hc (by decide)) (fun hc => ?_) | refine T.seq ?_ | refine T.block ?_ | refine T.skip ?_ | refine T.exit ?_
 refine T.loopF (fun p : Nat => ⟨[(0, .l (l.map eTy)), (1, .l (l.map eTy)), (5, .i p)], [], []⟩) (fun p => l.length + 1 - p) (fun p => p <= l.length) (fun p hp => ?_) 0 (by simp) (by simp)
 by_cases hlt : p < l.length
 ·obtain ⟨t, ht⟩ := get_lt hlt
  have htm : t ∈ l := List.mem_of_getElem? ht
  have hgt : l[p] = t := by rw [List.getElem?_eq_getElem hlt] at ht; exact Option.some.inj ht
  repeat' first | (refine T.rs (fun _ => false) fun K hK => ?_; (repeat (refine aops_go ?_; simp [hlt])); refine aops_end (hK _ ?_); clear hK K) | (refine T.rs1 (fun _ => false) fun K hK => ?_; (repeat (refine aops_go ?_; simp [hlt])); refine aops_end (hK _ ?_); clear hK K) | refine T.cond rfl (fun hc => ?_) (fun hc => absurd hc (by decide)) | refine T.cond rfl (fun hc => absurd hc (by decide)) (fun hc => ?_) | refine T.seq ?_ | refine T.block ?_ | refine T.skip ?_ | refine T.exit ?_
  refine T.rd1 mixed (fun _ => false) [] (by kernel_rfl) fun K hK => ?_
  repeat (refine aopsD_go ?_; simp [hlt, hgt])
  refine wpcall_pure (by simp) (h t htm) ?_
  simp
  repeat (refine aopsD_go ?_; simp)
  refine aopsD_end (hK _ ?_)
  clear hK K
  repeat' first | (refine T.rs (fun _ => false) fun K hK => ?_; (repeat (refine aops_go ?_; simp)); refine aops_end (hK _ ?_); clear hK K) | (refine T.rs1 (fun _ => false) fun K hK => ?_; (repeat (refine aops_go ?_; simp)); refine aops_end (hK _ ?_); clear hK K) | refine T.cond rfl (fun hc => ?_) (fun hc => absurd hc (by decide)) | refine T.cond rfl (fun hc => absurd hc (by decide)) (fun hc => ?_) | refine T.seq ?_ | refine T.block ?_ | refine T.skip ?_ | refine T.exit ?_
  refine ⟨p + 1, by dsimp only; omega, by omega, ?_⟩
  have hw2 : IntKind.i64.wrap ((p : Int) + 1) = p + 1 := wrap64 (by omega) (by omega)
  simp [hw2]
 ·have hp' : p = l.length := by omega
  subst hp'
  repeat' first | (refine T.rs (fun _ => false) fun K hK => ?_; (repeat (refine aops_go ?_; simp [hlt])); refine aops_end (hK _ ?_); clear hK K) | (refine T.rs1 (fun _ => false) fun K hK => ?_; (repeat (refine aops_go ?_; simp [hlt])); refine aops_end (hK _ ?_); clear hK K) | refine T.cond rfl (fun hc => ?_) (fun hc => absurd hc (by decide)) | refine T.cond rfl (fun hc => absurd hc (by decide)) (fun hc => ?_) | refine T.seq ?_ | refine T.block ?_ | refine T.skip ?_ | refine T.exit ?_
  refine T.ret (Done.data (Or.inr rfl) ?_ ?_) <;> simp [Tryz.results174]

theorem eqTermS_step (l : List MTm) (hl : l.length <= 1048576) (h : ∀ t ∈ l, ACalls Tryz.prog 35 [aTm t, aTm t] [] (.b true) [] []) : ACalls Tryz.prog 98 [.l (l.map eTm), .l (l.map eTm)] [] (.b true) [] [] := by
 refine ACalls.of_body Tryz.func98 (by kernel_rfl) rfl (by kernel_rfl) (by simp [Tryz.ntmps98]) (by simp) ?_
 rw [Tryz.ntmps98]
 repeat' first | (refine T.rs (fun _ => false) fun K hK => ?_; (repeat (refine aops_go ?_; simp)); refine aops_end (hK _ ?_); clear hK K) | (refine T.rs1 (fun _ => false) fun K hK => ?_; (repeat (refine aops_go ?_; simp)); refine aops_end (hK _ ?_); clear hK K) | refine T.cond rfl (fun hc => ?_) (fun hc => absurd hc (by decide)) | refine T.cond rfl (fun hc => absurd hc (by decide)) (fun hc => ?_) | refine T.seq ?_ | refine T.block ?_ | refine T.skip ?_ | refine T.exit ?_
 refine T.loopF (fun p : Nat => ⟨[(0, .l (l.map eTm)), (1, .l (l.map eTm)), (5, .i p)], [], []⟩) (fun p => l.length + 1 - p) (fun p => p <= l.length) (fun p hp => ?_) 0 (by simp) (by simp)
 by_cases hlt : p < l.length
 ·obtain ⟨t, ht⟩ := get_lt hlt
  have htm : t ∈ l := List.mem_of_getElem? ht
  have hgt : l[p] = t := by rw [List.getElem?_eq_getElem hlt] at ht; exact Option.some.inj ht
  repeat' first | (refine T.rs (fun _ => false) fun K hK => ?_; (repeat (refine aops_go ?_; simp [hlt])); refine aops_end (hK _ ?_); clear hK K) | (refine T.rs1 (fun _ => false) fun K hK => ?_; (repeat (refine aops_go ?_; simp [hlt])); refine aops_end (hK _ ?_); clear hK K) | refine T.cond rfl (fun hc => ?_) (fun hc => absurd hc (by decide)) | refine T.cond rfl (fun hc => absurd hc (by decide)) (fun hc => ?_) | refine T.seq ?_ | refine T.block ?_ | refine T.skip ?_ | refine T.exit ?_
  refine T.rd1 mixed (fun _ => false) [] (by kernel_rfl) fun K hK => ?_
  repeat (refine aopsD_go ?_; simp [hlt, hgt])
  refine wpcall_pure (by simp) (h t htm) ?_
  simp
  repeat (refine aopsD_go ?_; simp)
  refine aopsD_end (hK _ ?_)
  clear hK K
  repeat' first | (refine T.rs (fun _ => false) fun K hK => ?_; (repeat (refine aops_go ?_; simp)); refine aops_end (hK _ ?_); clear hK K) | (refine T.rs1 (fun _ => false) fun K hK => ?_; (repeat (refine aops_go ?_; simp)); refine aops_end (hK _ ?_); clear hK K) | refine T.cond rfl (fun hc => ?_) (fun hc => absurd hc (by decide)) | refine T.cond rfl (fun hc => absurd hc (by decide)) (fun hc => ?_) | refine T.seq ?_ | refine T.block ?_ | refine T.skip ?_ | refine T.exit ?_
  refine ⟨p + 1, by dsimp only; omega, by omega, ?_⟩
  have hw2 : IntKind.i64.wrap ((p : Int) + 1) = p + 1 := wrap64 (by omega) (by omega)
  simp [hw2]
 ·have hp' : p = l.length := by omega
  subst hp'
  repeat' first | (refine T.rs (fun _ => false) fun K hK => ?_; (repeat (refine aops_go ?_; simp [hlt])); refine aops_end (hK _ ?_); clear hK K) | (refine T.rs1 (fun _ => false) fun K hK => ?_; (repeat (refine aops_go ?_; simp [hlt])); refine aops_end (hK _ ?_); clear hK K) | refine T.cond rfl (fun hc => ?_) (fun hc => absurd hc (by decide)) | refine T.cond rfl (fun hc => absurd hc (by decide)) (fun hc => ?_) | refine T.seq ?_ | refine T.block ?_ | refine T.skip ?_ | refine T.exit ?_
  refine T.ret (Done.data (Or.inr rfl) ?_ ?_) <;> simp [Tryz.results98]

theorem eqType_step (t : MTy) (h : ACalls Tryz.prog 174 [.l (t.kids.map eTy), .l (t.kids.map eTy)] [] (.b true) [] []) : ACalls Tryz.prog 97 [aTy t, aTy t] [] (.b true) [] [] := by
 refine ACalls.of_body Tryz.func97 (by kernel_rfl) rfl (by kernel_rfl) (by simp [Tryz.ntmps97]) (by simp) ?_
 rw [Tryz.ntmps97]
 repeat' first | (refine T.rs (fun _ => false) fun K hK => ?_; (repeat (refine aops_go ?_; simp)); refine aops_end (hK _ ?_); clear hK K) | (refine T.rs1 (fun _ => false) fun K hK => ?_; (repeat (refine aops_go ?_; simp)); refine aops_end (hK _ ?_); clear hK K) | refine T.cond rfl (fun hc => ?_) (fun hc => absurd hc (by decide)) | refine T.cond rfl (fun hc => absurd hc (by decide)) (fun hc => ?_) | refine T.seq ?_ | refine T.block ?_ | refine T.skip ?_ | refine T.exit ?_
 refine T.rs1 (fun _ => false) fun K hK => ?_
 repeat (refine aops_go ?_; simp)
 refine wpcall_pure (by simp) (h) ?_
 simp
 repeat (refine aops_go ?_; simp)
 refine aops_end (hK _ ?_)
 clear hK K
 repeat' first | (refine T.rs (fun _ => false) fun K hK => ?_; (repeat (refine aops_go ?_; simp)); refine aops_end (hK _ ?_); clear hK K) | (refine T.rs1 (fun _ => false) fun K hK => ?_; (repeat (refine aops_go ?_; simp)); refine aops_end (hK _ ?_); clear hK K) | refine T.cond rfl (fun hc => ?_) (fun hc => absurd hc (by decide)) | refine T.cond rfl (fun hc => absurd hc (by decide)) (fun hc => ?_) | refine T.seq ?_ | refine T.block ?_ | refine T.skip ?_ | refine T.exit ?_
 refine T.ret (Done.data (Or.inr rfl) ?_ ?_) <;> simp [Tryz.results97]

theorem eqType_ok : (t : MTy) -> nTy t <= 1048576 -> ACalls Tryz.prog 97 [aTy t, aTy t] [] (.b true) [] []
 | .mk k l, hn => by
  rw [nTy_def] at hn
  have hl := nTyS_len l
  exact eqType_step _ (eqTypeS_step l (by simp at hn; omega) (fun t ht => eqType_ok t (by have := nTyS_mem ht; simp at hn; omega)))
termination_by t => SizeOf.sizeOf t
decreasing_by have := List.sizeOf_lt_of_mem ht; simp; omega

theorem eqTerm_step (e : MTm) (ht : nTy e.ty <= 1048576) (hf : nTy e.fr <= 1048576) (h : ACalls Tryz.prog 98 [.l (e.kids.map eTm), .l (e.kids.map eTm)] [] (.b true) [] []) : ACalls Tryz.prog 35 [aTm e, aTm e] [] (.b true) [] [] := by
 refine ACalls.of_body Tryz.func35 (by kernel_rfl) rfl (by kernel_rfl) (by simp [Tryz.ntmps35]) (by simp) ?_
 rw [Tryz.ntmps35]
 repeat' first | (refine T.rs (fun _ => false) fun K hK => ?_; (repeat (refine aops_go ?_; simp)); refine aops_end (hK _ ?_); clear hK K) | (refine T.rs1 (fun _ => false) fun K hK => ?_; (repeat (refine aops_go ?_; simp)); refine aops_end (hK _ ?_); clear hK K) | refine T.cond rfl (fun hc => ?_) (fun hc => absurd hc (by decide)) | refine T.cond rfl (fun hc => absurd hc (by decide)) (fun hc => ?_) | refine T.seq ?_ | refine T.block ?_ | refine T.skip ?_ | refine T.exit ?_
 refine T.rs1 (fun _ => false) fun K hK => ?_
 repeat (refine aops_go ?_; simp)
 refine wpcall_pure (by simp) (eqType_ok e.ty ht) ?_
 simp
 repeat (refine aops_go ?_; simp)
 refine aops_end (hK _ ?_)
 clear hK K
 repeat' first | (refine T.rs (fun _ => false) fun K hK => ?_; (repeat (refine aops_go ?_; simp)); refine aops_end (hK _ ?_); clear hK K) | (refine T.rs1 (fun _ => false) fun K hK => ?_; (repeat (refine aops_go ?_; simp)); refine aops_end (hK _ ?_); clear hK K) | refine T.cond rfl (fun hc => ?_) (fun hc => absurd hc (by decide)) | refine T.cond rfl (fun hc => absurd hc (by decide)) (fun hc => ?_) | refine T.seq ?_ | refine T.block ?_ | refine T.skip ?_ | refine T.exit ?_
 refine T.rs1 (fun _ => false) fun K hK => ?_
 repeat (refine aops_go ?_; simp)
 refine wpcall_pure (by simp) (eqType_ok e.fr hf) ?_
 simp
 repeat (refine aops_go ?_; simp)
 refine aops_end (hK _ ?_)
 clear hK K
 repeat' first | (refine T.rs (fun _ => false) fun K hK => ?_; (repeat (refine aops_go ?_; simp)); refine aops_end (hK _ ?_); clear hK K) | (refine T.rs1 (fun _ => false) fun K hK => ?_; (repeat (refine aops_go ?_; simp)); refine aops_end (hK _ ?_); clear hK K) | refine T.cond rfl (fun hc => ?_) (fun hc => absurd hc (by decide)) | refine T.cond rfl (fun hc => absurd hc (by decide)) (fun hc => ?_) | refine T.seq ?_ | refine T.block ?_ | refine T.skip ?_ | refine T.exit ?_
 refine T.rs1 (fun _ => false) fun K hK => ?_
 repeat (refine aops_go ?_; simp)
 refine wpcall_pure (by simp) (h) ?_
 simp
 repeat (refine aops_go ?_; simp)
 refine aops_end (hK _ ?_)
 clear hK K
 repeat' first | (refine T.rs (fun _ => false) fun K hK => ?_; (repeat (refine aops_go ?_; simp)); refine aops_end (hK _ ?_); clear hK K) | (refine T.rs1 (fun _ => false) fun K hK => ?_; (repeat (refine aops_go ?_; simp)); refine aops_end (hK _ ?_); clear hK K) | refine T.cond rfl (fun hc => ?_) (fun hc => absurd hc (by decide)) | refine T.cond rfl (fun hc => absurd hc (by decide)) (fun hc => ?_) | refine T.seq ?_ | refine T.block ?_ | refine T.skip ?_ | refine T.exit ?_
 refine T.ret (Done.data (Or.inr rfl) ?_ ?_) <;> simp [Tryz.results35]

theorem eqTerm_ok : (e : MTm) -> nTm e <= 1048576 -> ACalls Tryz.prog 35 [aTm e, aTm e] [] (.b true) [] []
 | .mk k s n t f b l, hn => by
  rw [nTm_def] at hn
  have hl := nTmS_len l
  simp only [MTm.name_mk, MTm.ty_mk, MTm.fr_mk, MTm.kids_mk] at hn
  exact eqTerm_step _ (by simp; omega) (by simp; omega) (eqTermS_step l (by omega) (fun t ht => eqTerm_ok t (by have := nTmS_mem ht; omega)))
termination_by e => SizeOf.sizeOf e
decreasing_by have := List.sizeOf_lt_of_mem ht; simp; omega

end Go.Proofs.YtflmjilnecanhaaGreatDoor

namespace Go.Proofs.YtflmjilnecanhaaGreatDoor
attribute [-simp] Go.Av.freeStep Go.Av.exV Go.Av.keepL Go.Av.ups Go.Av.take_app_len Go.Av.innVs Go.Av.putBack Go.Av.objCells Go.Av.back Go.Av.resVs Go.Av.one Go.Av.freeStepG Go.Av.exA Go.Av.innAsH Go.Av.AV.innH Go.Av.CV.innH Go.Av.innHs Go.Av.AV.outnH Go.Av.CV.outnH
open Go Go.Av
attribute [local irreducible] T
attribute [local simp] eTy_def eTm_def

theorem inM_ok (x lo hi : Int) : ACalls Tryz.prog 52 [.i x, .i lo, .i hi] [] (.b (inM x lo hi)) [] [] := by
 refine ACalls.of_body Tryz.func52 (by kernel_rfl) rfl (by kernel_rfl) (by simp [Tryz.ntmps52]) (by simp) ?_
 rw [Tryz.ntmps52]
 repeat' first | (refine aops_end (hK _ ?_); clear hK K) | (refine aops_go ?_; simp; (try (refine gen fun q hq => ?_; cases q <;> (try simp at hq)))) | refine T.r0 fun K hK => ?_ | refine T.r1 fun K hK => ?_ | refine T.cond rfl (fun hc => ?_) (fun hc => absurd hc (by decide)) | refine T.cond rfl (fun hc => absurd hc (by decide)) (fun hc => ?_) | refine T.seq ?_ | refine T.block ?_ | refine T.skip ?_ | refine T.exit ?_
 all_goals (refine T.ret (Done.data (Or.inr rfl) ?_ ?_) <;> simp [Tryz.results52, inM, *] <;> omega)

theorem isName_ok (s : List UInt8) : ACalls Tryz.prog 221 [.s s] [] (.b (nameM s)) [] [] := by
 refine ACalls.of_body Tryz.func221 (by kernel_rfl) rfl (by kernel_rfl) (by simp [Tryz.ntmps221]) (by simp) ?_
 rw [Tryz.ntmps221]
 match s with
 | [] =>
  repeat' first | (refine aops_end (hK _ ?_); clear hK K) | (refine aops_go ?_; simp; (try (refine gen fun q hq => ?_; cases q <;> (try simp at hq)))) | refine T.r0 fun K hK => ?_ | refine T.r1 fun K hK => ?_ | refine T.cond rfl (fun hc => ?_) (fun hc => absurd hc (by decide)) | refine T.cond rfl (fun hc => absurd hc (by decide)) (fun hc => ?_) | refine T.seq ?_ | refine T.block ?_ | refine T.skip ?_ | refine T.exit ?_
  all_goals (refine T.ret (Done.data (Or.inr rfl) ?_ ?_) <;> simp [Tryz.results221, nameM])
 | [c] =>
  repeat' first | (refine aops_end (hK _ ?_); clear hK K) | (refine aops_go ?_; simp; (try (refine gen fun q hq => ?_; cases q <;> (try simp at hq)))) | refine T.r0 fun K hK => ?_ | refine T.r1 fun K hK => ?_ | refine T.cond rfl (fun hc => ?_) (fun hc => absurd hc (by decide)) | refine T.cond rfl (fun hc => absurd hc (by decide)) (fun hc => ?_) | refine T.seq ?_ | refine T.block ?_ | refine T.skip ?_ | refine T.exit ?_
  all_goals (refine T.ret (Done.data (Or.inr rfl) ?_ ?_) <;> simp [Tryz.results221, nameM, *] <;> omega)
 | c :: d :: r =>
  have h2 : ¬ ((r.length : Int) + 1 + 1 = 1) := by omega
  repeat' first | (refine aops_end (hK _ ?_); clear hK K) | (refine aops_go ?_; simp [h2, beq_f h2]; (try (refine gen fun q hq => ?_; cases q <;> (try simp [h2] at hq)))) | refine T.r0 fun K hK => ?_ | refine T.r1 fun K hK => ?_ | refine T.cond rfl (fun hc => ?_) (fun hc => absurd hc (by decide)) | refine T.cond rfl (fun hc => absurd hc (by decide)) (fun hc => ?_) | refine T.seq ?_ | refine T.block ?_ | refine T.skip ?_ | refine T.exit ?_
  all_goals (refine T.ret (Done.data (Or.inr rfl) ?_ ?_) <;> simp [Tryz.results221, nameM])

theorem l2Name_ok (s : List UInt8) : ACalls Tryz.prog 245 [.s s] [] (.b (nameM s)) [] [] := by
 refine ACalls.of_body Tryz.func245 (by kernel_rfl) rfl (by kernel_rfl) (by simp [Tryz.ntmps245]) (by simp) ?_
 rw [Tryz.ntmps245]
 match s with
 | [] =>
  repeat' first | (refine aops_end (hK _ ?_); clear hK K) | (refine aops_go ?_; simp; (try (refine gen fun q hq => ?_; cases q <;> (try simp at hq)))) | refine T.r0 fun K hK => ?_ | refine T.r1 fun K hK => ?_ | refine T.cond rfl (fun hc => ?_) (fun hc => absurd hc (by decide)) | refine T.cond rfl (fun hc => absurd hc (by decide)) (fun hc => ?_) | refine T.seq ?_ | refine T.block ?_ | refine T.skip ?_ | refine T.exit ?_
  all_goals (refine T.ret (Done.data (Or.inr rfl) ?_ ?_) <;> simp [Tryz.results245, nameM])
 | [c] =>
  repeat' first | (refine aops_end (hK _ ?_); clear hK K) | (refine aops_go ?_; simp; (try (refine gen fun q hq => ?_; cases q <;> (try simp at hq)))) | refine T.r0 fun K hK => ?_ | refine T.r1 fun K hK => ?_ | refine T.cond rfl (fun hc => ?_) (fun hc => absurd hc (by decide)) | refine T.cond rfl (fun hc => absurd hc (by decide)) (fun hc => ?_) | refine T.seq ?_ | refine T.block ?_ | refine T.skip ?_ | refine T.exit ?_
  all_goals (refine T.ret (Done.data (Or.inr rfl) ?_ ?_) <;> simp [Tryz.results245, nameM, *] <;> omega)
 | c :: d :: r =>
  have h2 : ¬ ((r.length : Int) + 1 + 1 = 1) := by omega
  repeat' first | (refine aops_end (hK _ ?_); clear hK K) | (refine aops_go ?_; simp [h2, beq_f h2]; (try (refine gen fun q hq => ?_; cases q <;> (try simp [h2] at hq)))) | refine T.r0 fun K hK => ?_ | refine T.r1 fun K hK => ?_ | refine T.cond rfl (fun hc => ?_) (fun hc => absurd hc (by decide)) | refine T.cond rfl (fun hc => absurd hc (by decide)) (fun hc => ?_) | refine T.seq ?_ | refine T.block ?_ | refine T.skip ?_ | refine T.exit ?_
  all_goals (refine T.ret (Done.data (Or.inr rfl) ?_ ?_) <;> simp [Tryz.results245, nameM])

theorem isNoType_ok (t : MTy) : ACalls Tryz.prog 243 [aTy t] [] (.b (noTyM t)) [] [] := by
 refine ACalls.of_body Tryz.func243 (by kernel_rfl) rfl (by kernel_rfl) (by simp [Tryz.ntmps243]) (by simp) ?_
 rw [Tryz.ntmps243]
 repeat' first | (refine aops_end (hK _ ?_); clear hK K) | (refine aops_go ?_; simp; (try (refine gen fun q hq => ?_; cases q <;> (try simp at hq)))) | refine T.r0 fun K hK => ?_ | refine T.r1 fun K hK => ?_ | refine T.cond rfl (fun hc => ?_) (fun hc => absurd hc (by decide)) | refine T.cond rfl (fun hc => absurd hc (by decide)) (fun hc => ?_) | refine T.seq ?_ | refine T.block ?_ | refine T.skip ?_ | refine T.exit ?_
 all_goals (refine T.ret (Done.data (Or.inr rfl) ?_ ?_) <;> simp [Tryz.results243, noTyM, *])

theorem l2None_ok (t : MTy) : ACalls Tryz.prog 246 [aTy t] [] (.b (noTyM t)) [] [] := by
 refine ACalls.of_body Tryz.func246 (by kernel_rfl) rfl (by kernel_rfl) (by simp [Tryz.ntmps246]) (by simp) ?_
 rw [Tryz.ntmps246]
 repeat' first | (refine aops_end (hK _ ?_); clear hK K) | (refine aops_go ?_; simp; (try (refine gen fun q hq => ?_; cases q <;> (try simp at hq)))) | refine T.r0 fun K hK => ?_ | refine T.r1 fun K hK => ?_ | refine T.cond rfl (fun hc => ?_) (fun hc => absurd hc (by decide)) | refine T.cond rfl (fun hc => absurd hc (by decide)) (fun hc => ?_) | refine T.seq ?_ | refine T.block ?_ | refine T.skip ?_ | refine T.exit ?_
 all_goals (refine T.ret (Done.data (Or.inr rfl) ?_ ?_) <;> simp [Tryz.results246, noTyM, *])

theorem isLabel_ok (n : Int) : ACalls Tryz.prog 127 [.i n] [] (.b (labM n)) [] [] := by
 refine ACalls.of_body Tryz.func127 (by kernel_rfl) rfl (by kernel_rfl) (by simp [Tryz.ntmps127]) (by simp) ?_
 rw [Tryz.ntmps127]
 repeat' first | (refine T.rs (fun _ => false) fun K hK => ?_; (repeat (refine aops_go ?_; simp)); refine aops_end (hK _ ?_); clear hK K) | (refine T.rs1 (fun _ => false) fun K hK => ?_; (repeat (refine aops_go ?_; simp)); refine aops_end (hK _ ?_); clear hK K) | refine T.cond rfl (fun hc => ?_) (fun hc => absurd hc (by decide)) | refine T.cond rfl (fun hc => absurd hc (by decide)) (fun hc => ?_) | refine T.seq ?_ | refine T.block ?_ | refine T.skip ?_ | refine T.exit ?_
 refine T.rs1 (fun _ => false) fun K hK => ?_
 repeat (refine aops_go ?_; simp)
 refine wpcall_pure (by simp) (inM_ok n 1 99) ?_
 simp
 refine Ops.gen fun q hq => ?_
 cases q
 ·repeat (refine aops_go ?_; simp)
  refine wpcall_pure (by simp) (inM_ok n (-99) (-1)) ?_
  simp
  repeat' first | (refine aops_end (hK _ ?_); clear hK K) | (refine aops_go ?_; simp; (try (refine gen fun q hq => ?_; cases q <;> (try simp at hq)))) | refine T.r0 fun K hK => ?_ | refine T.r1 fun K hK => ?_ | refine T.cond rfl (fun hc => ?_) (fun hc => absurd hc (by decide)) | refine T.cond rfl (fun hc => absurd hc (by decide)) (fun hc => ?_) | refine T.seq ?_ | refine T.block ?_ | refine T.skip ?_ | refine T.exit ?_
  all_goals (refine T.ret (Done.data (Or.inr rfl) ?_ ?_) <;> simp [Tryz.results127, labM, *])
 ·repeat' first | (refine aops_end (hK _ ?_); clear hK K) | (refine aops_go ?_; simp; (try (refine gen fun q hq => ?_; cases q <;> (try simp at hq)))) | refine T.r0 fun K hK => ?_ | refine T.r1 fun K hK => ?_ | refine T.cond rfl (fun hc => ?_) (fun hc => absurd hc (by decide)) | refine T.cond rfl (fun hc => absurd hc (by decide)) (fun hc => ?_) | refine T.seq ?_ | refine T.block ?_ | refine T.skip ?_ | refine T.exit ?_
  all_goals (refine T.ret (Done.data (Or.inr rfl) ?_ ?_) <;> simp [Tryz.results127, labM, *])

theorem l2Kids_ok (k : Int) : ACalls Tryz.prog 203 [.i k] [] (.i (kidsM k)) [] [] := by
 refine ACalls.of_body Tryz.func203 (by kernel_rfl) rfl (by kernel_rfl) (by simp [Tryz.ntmps203]) (by simp) ?_
 rw [Tryz.ntmps203]
 repeat' first | (refine aops_end (hK _ ?_); clear hK K) | (refine aops_go ?_; simp; (try (refine gen fun q hq => ?_; cases q <;> (try simp at hq)))) | refine T.r0 fun K hK => ?_ | refine T.r1 fun K hK => ?_ | refine T.cond rfl (fun hc => ?_) (fun hc => absurd hc (by decide)) | refine T.cond rfl (fun hc => absurd hc (by decide)) (fun hc => ?_) | refine T.seq ?_ | refine T.block ?_ | refine T.skip ?_ | refine T.exit ?_
 all_goals (refine T.ret (Done.data (Or.inr rfl) ?_ ?_) <;> simp [Tryz.results203, kidsM, *])

@[simp] theorem td_intS : td Tryz.prog 107 = some { ag := false, sz := 1, by_ := 24, zero := some [.nil], el := some 3, ar := none, fl := [], ik := none, isS := false, isB := false } := keep (by kernel_rfl)

theorem operands_ok (k : Int) : ACalls Tryz.prog 242 [.i k] [] (.i (kidsM k)) [] [] := by
 refine ACalls.of_body Tryz.func242 (by kernel_rfl) rfl (by kernel_rfl) (by simp [Tryz.ntmps242]) (by simp) ?_
 rw [Tryz.ntmps242]
 repeat' first | (refine T.rs (fun _ => false) fun K hK => ?_; (repeat (refine aops_go ?_; simp)); refine aops_end (hK _ ?_); clear hK K) | (refine T.rs1 (fun _ => false) fun K hK => ?_; (repeat (refine aops_go ?_; simp)); refine aops_end (hK _ ?_); clear hK K) | refine T.cond rfl (fun hc => ?_) (fun hc => absurd hc (by decide)) | refine T.cond rfl (fun hc => absurd hc (by decide)) (fun hc => ?_) | refine T.seq ?_ | refine T.block ?_ | refine T.skip ?_ | refine T.exit ?_
 refine T.rs1 (fun _ => false) fun K hK => ?_
 repeat (refine aops_go ?_; simp)
 refine wpcall_pure (by simp) (inM_ok k 1 14) ?_
 simp
 by_cases h : inM k 1 14 = true
 ·have hr : k = 1 \/ k = 2 \/ k = 3 \/ k = 4 \/ k = 5 \/ k = 6 \/ k = 7 \/ k = 8 \/ k = 9 \/ k = 10 \/ k = 11 \/ k = 12 \/ k = 13 \/ k = 14 := by
   simp [inM] at h; omega
  rcases hr with rfl | rfl | rfl | rfl | rfl | rfl | rfl | rfl | rfl | rfl | rfl | rfl | rfl | rfl
  all_goals
   simp [inM] at h
   have hw : ∀ n : Int, 0 <= n -> n <= 20 -> IntKind.i64.wrap n = n := fun n h1 h2 => wrap64 (by omega) (by omega)
   repeat' first | (refine aops_end (hK _ ?_); clear hK K) | (refine aops_go ?_; simp [inM, hw]; (try (refine gen fun q hq => ?_; cases q <;> (try simp at hq)))) | refine T.r0 fun K hK => ?_ | refine T.r1 fun K hK => ?_ | refine T.cond rfl (fun hc => ?_) (fun hc => absurd hc (by decide)) | refine T.cond rfl (fun hc => absurd hc (by decide)) (fun hc => ?_) | refine T.seq ?_ | refine T.block ?_ | refine T.skip ?_ | refine T.exit ?_
   all_goals (refine T.ret (Done.data (Or.inr rfl) ?_ ?_) <;> simp [Tryz.results242, kidsM])
 ·have hk : kidsM k = -1 := by
   simp only [inM, Bool.not_eq_true, Bool.and_eq_false_iff, decide_eq_false_iff_not] at h
   have : k < 1 \/ 14 < k := by omega
   simp only [kidsM]
   repeat (rw [if_neg (by omega)])
  simp only [Bool.not_eq_true] at h
  repeat' first | (refine aops_end (hK _ ?_); clear hK K) | (refine aops_go ?_; simp [h]; (try (refine gen fun q hq => ?_; cases q <;> (try simp at hq)))) | refine T.r0 fun K hK => ?_ | refine T.r1 fun K hK => ?_ | refine T.cond rfl (fun hc => ?_) (fun hc => absurd hc (by decide)) | refine T.cond rfl (fun hc => absurd hc (by decide)) (fun hc => ?_) | refine T.seq ?_ | refine T.block ?_ | refine T.skip ?_ | refine T.exit ?_
  all_goals (refine T.ret (Done.data (Or.inr rfl) ?_ ?_) <;> simp [Tryz.results242, hk])

end Go.Proofs.YtflmjilnecanhaaGreatDoor

namespace Go.Proofs.YtflmjilnecanhaaGreatDoor
attribute [-simp] Go.Av.freeStep Go.Av.exV Go.Av.keepL Go.Av.ups Go.Av.take_app_len Go.Av.innVs Go.Av.putBack Go.Av.objCells Go.Av.back Go.Av.resVs Go.Av.one Go.Av.freeStepG Go.Av.exA Go.Av.innAsH Go.Av.AV.innH Go.Av.CV.innH Go.Av.innHs Go.Av.AV.outnH Go.Av.CV.outnH
open Go Go.Av
attribute [local irreducible] T ACalls eTy eTm MTy.kind MTy.kids MTm.kind MTm.name MTm.num MTm.ty MTm.fr MTm.label MTm.kids
attribute [local simp] eTy_def eTm_def
set_option maxHeartbeats 4000000

theorem l1Kids_ok (k : Int) : ACalls Tryz.prog 151 [.i k] [] (.i (tyKids k)) [] [] := by
 refine ACalls.of_body Tryz.func151 (by kernel_rfl) rfl (by kernel_rfl) (by simp [Tryz.ntmps151]) (by simp) ?_
 rw [Tryz.ntmps151]
 repeat' first | (refine aops_end (hK _ ?_); clear hK K) | (refine aops_go ?_; simp; (try (refine gen fun q hq => ?_; cases q <;> (try simp at hq) <;> (try (have hh : True := hq; clear hh hq))))) | (refine T.ret (Done.data (Or.inr rfl) ?_ ?_) <;> simp [Tryz.results151, tyKids, *] <;> omega) | refine T.r0 fun K hK => ?_ | refine T.r1 fun K hK => ?_ | refine T.ct rfl ?_ | refine T.cf rfl ?_ | refine T.seq ?_ | refine T.block ?_ | refine T.skip ?_

theorem l1Shape_ok : ∀ (d : Nat) (t : MTy), d <= 1000 -> nTy t <= 1099511627776 -> ACalls Tryz.prog 204 [aTy t, .i d] [] (.b (shapeTy d t)) [] []
 | 0, t, _, _ => by
  refine ACalls.of_body Tryz.func204 (by kernel_rfl) rfl (by kernel_rfl) (by simp [Tryz.ntmps204]) (by simp) ?_
  rw [Tryz.ntmps204]
  repeat' first | ((first | refine aops_end (hK _ ?_) | refine aopsD_end (hK _ ?_)); clear hK K) | ((first | refine aops_go ?_ | refine aopsD_go ?_); simp; (try (refine gen fun q hq => ?_; cases q <;> (try simp at hq) <;> (try (have hh : True := hq; clear hh hq))))) | (refine T.ret (Done.data (Or.inr rfl) ?_ ?_) <;> simp [Tryz.results204, shapeTy] <;> omega) | refine T.r0 fun K hK => ?_ | refine T.rd mixed (fun _ => false) [] (by kernel_rfl) fun K hK => ?_ | refine T.ct rfl ?_ | refine T.seq ?_
 | d + 1, t, hd, hn => by
  rw [nTy_def] at hn
  have hlen := nTyS_len t.kids
  have hd1 : ¬ ((d : Int) + 1 < 1) := by omega
  refine ACalls.of_body Tryz.func204 (by kernel_rfl) rfl (by kernel_rfl) (by simp [Tryz.ntmps204]) (by simp) ?_
  rw [Tryz.ntmps204]
  repeat' first | ((first | refine aops_end (hK _ ?_) | refine aopsD_end (hK _ ?_)); clear hK K) | ((first | refine aops_go ?_ | refine aopsD_go ?_); simp [hd1]; (try (refine gen fun q hq => ?_; cases q <;> (try simp [hd1] at hq) <;> (try (have hh : True := hq; clear hh hq))))) | (refine wpcall_pure rfl (l1Kids_ok _) ?_; simp [hd1]; (try first | (refine Ops.gen fun q hq => ?_; cases q <;> (try simp [hd1] at hq) <;> (try (have hh : True := hq; clear hh hq))) | (refine OpsD.gen fun q hq => ?_; cases q <;> (try simp [hd1] at hq) <;> (try (have hh : True := hq; clear hh hq))))) | (refine T.ret (Done.data (Or.inr rfl) ?_ ?_) <;> simp [Tryz.results204, shapeTy, *] <;> omega) | refine T.r0 fun K hK => ?_ | refine T.rd mixed (fun _ => false) [] (by kernel_rfl) fun K hK => ?_ | refine T.ct rfl ?_ | refine T.cf rfl ?_ | refine T.seq ?_ | refine T.block ?_ | refine T.skip ?_
  obtain ⟨R, hR⟩ : ∃ R, t.kids.all (shapeTy d) = R := ⟨_, rfl⟩
  rw [show shapeTy (d + 1) t = R by simp [shapeTy, hq, hR]]
  refine T.loopF (fun p : Nat => ⟨[(1, .i (d + 1)), (2, .c (.ptr 0 0)), (5, .i p)], [(aTy t).cells], []⟩) (fun p => t.kids.length + 1 - p) (fun p => p <= t.kids.length /\ (t.kids.drop p).all (shapeTy d) = R) (fun p hp => ?_) 0 (by simpa using hR) (by simp)
  obtain ⟨hi, he⟩ := hp
  by_cases hlt : p < t.kids.length
  ·obtain ⟨u, ht⟩ := get_lt hlt
   have htm : u ∈ t.kids := List.mem_of_getElem? ht
   have hgt : t.kids[p] = u := by rw [List.getElem?_eq_getElem hlt] at ht; exact Option.some.inj ht
   have hdr : t.kids.drop p = u :: t.kids.drop (p + 1) := by rw [List.drop_eq_getElem_cons hlt, hgt]
   have hu := l1Shape_ok d u (by omega) (by have := nTyS_mem htm; omega)
   rw [hdr, List.all_cons] at he
   cases hb : shapeTy d u <;> rw [hb] at hu he
   ·repeat' first | (refine aops_end (hK _ ?_); clear hK K) | (refine aops_go ?_; simp [hlt, hgt]; (try simp (disch := omega) only [wrap64]); (try (refine gen fun q hq => ?_; cases q <;> (try simp [hlt, hgt] at hq) <;> (try (have hh : True := hq; clear hh hq))))) | (refine wpcall_pure rfl (hu) ?_; simp [hlt, hgt]; (try simp (disch := omega) only [wrap64]); (try first | (refine Ops.gen fun q hq => ?_; cases q <;> (try simp [hlt, hgt] at hq) <;> (try (have hh : True := hq; clear hh hq))) | (refine OpsD.gen fun q hq => ?_; cases q <;> (try simp [hlt, hgt] at hq) <;> (try (have hh : True := hq; clear hh hq))))) | (refine T.ret (Done.data (Or.inr rfl) ?_ ?_) <;> simp [Tryz.results204, <- he] <;> omega) | refine T.r0 fun K hK => ?_ | refine T.ct rfl ?_ | refine T.seq ?_ | refine T.block ?_ | refine T.skip ?_
   ·repeat' first | (refine aops_end (hK _ ?_); clear hK K) | (refine aops_go ?_; simp [hlt, hgt]; (try simp (disch := omega) only [wrap64]); (try (refine gen fun q hq => ?_; cases q <;> (try simp [hlt, hgt] at hq) <;> (try (have hh : True := hq; clear hh hq))))) | (refine wpcall_pure rfl (hu) ?_; simp [hlt, hgt]; (try simp (disch := omega) only [wrap64]); (try first | (refine Ops.gen fun q hq => ?_; cases q <;> (try simp [hlt, hgt] at hq) <;> (try (have hh : True := hq; clear hh hq))) | (refine OpsD.gen fun q hq => ?_; cases q <;> (try simp [hlt, hgt] at hq) <;> (try (have hh : True := hq; clear hh hq))))) | (refine ⟨p + 1, by dsimp only; omega, ⟨by omega, by simpa using he⟩, ?_⟩; simp (disch := omega) [wrap64]) | refine T.r0 fun K hK => ?_ | refine T.r1 fun K hK => ?_ | refine T.ct rfl ?_ | refine T.cf rfl ?_ | refine T.seq ?_ | refine T.block ?_ | refine T.skip ?_
  ·have hp' : p = t.kids.length := by omega
   subst hp'
   simp at he
   repeat' first | (refine aops_end (hK _ ?_); clear hK K) | (refine aops_go ?_; simp [hlt]; (try (refine gen fun q hq => ?_; cases q <;> (try simp [hlt] at hq) <;> (try (have hh : True := hq; clear hh hq))))) | (refine T.ret (Done.data (Or.inr rfl) ?_ ?_) <;> simp [Tryz.results204, he] <;> omega) | refine T.r0 fun K hK => ?_ | refine T.cf rfl ?_ | refine T.seq ?_ | refine T.exit ?_
end Go.Proofs.YtflmjilnecanhaaGreatDoor

namespace Go.Proofs.YtflmjilnecanhaaGreatDoor
attribute [-simp] Go.Av.freeStep Go.Av.exV Go.Av.keepL Go.Av.ups Go.Av.take_app_len Go.Av.innVs Go.Av.putBack Go.Av.objCells Go.Av.back Go.Av.resVs Go.Av.one Go.Av.freeStepG Go.Av.exA Go.Av.innAsH Go.Av.AV.innH Go.Av.CV.innH Go.Av.innHs Go.Av.AV.outnH Go.Av.CV.outnH
open Go Go.Av
attribute [local irreducible] T ACalls eTy eTm MTy.kind MTy.kids MTm.kind MTm.name MTm.num MTm.ty MTm.fr MTm.label MTm.kids
attribute [local simp] eTy_def eTm_def
set_option maxHeartbeats 4000000

theorem indexFuncTy_0 (f : FuncId) (l : List MTy) (q : MTy -> Bool) (hl : l.length <= 4611686018427387904) (hf : ∀ t ∈ l, ACalls Tryz.prog f [aTy t] [] (.b (q t)) [] []) :
  ACalls Tryz.prog 262 [.l (l.map eTy), .c (.fn f [])] [] (.i (firstIx q l 0)) [] [] := by
 refine ACalls.of_body Tryz.func262 (by kernel_rfl) rfl (by kernel_rfl) (by simp [Tryz.ntmps262]) (by simp) ?_
 rw [Tryz.ntmps262]
 repeat' first | (refine aops_end (hK _ ?_); clear hK K) | (refine aops_go ?_; simp; (try (refine gen fun q hq => ?_; cases q <;> (try simp at hq) <;> (try (have hh : True := hq; clear hh hq))))) | refine T.r0 fun K hK => ?_ | refine T.seq ?_ | refine T.block ?_
 obtain ⟨R, hR⟩ : ∃ R, firstIx q l 0 = R := ⟨_, rfl⟩
 rw [hR]
 refine T.loopF (fun p : Nat => ⟨[(0, .l (l.map eTy)), (1, .c (.fn f [])), (7, .i l.length), (8, .i p)], [], []⟩) (fun p => l.length + 1 - p) (fun p => p <= l.length /\ firstIx q (l.drop p) p = R) (fun p hp => ?_) 0 (by simpa using hR) (by simp)
 obtain ⟨hi, he⟩ := hp
 by_cases hlt : p < l.length
 ·obtain ⟨u, ht⟩ := get_lt hlt
  have htm : u ∈ l := List.mem_of_getElem? ht
  have hgt : l[p] = u := by rw [List.getElem?_eq_getElem hlt] at ht; exact Option.some.inj ht
  have hdr : l.drop p = u :: l.drop (p + 1) := by rw [List.drop_eq_getElem_cons hlt, hgt]
  have hu := hf u htm
  rw [hdr, firstIx] at he
  cases hb : q u <;> rw [hb] at hu he
  ·repeat' first | (refine aops_end (hK _ ?_); clear hK K) | (refine aops_go ?_; simp [hlt, hgt]; (try simp (disch := omega) only [wrap64]); (try (refine gen fun q hq => ?_; cases q <;> (try simp [hlt, hgt] at hq) <;> (try (have hh : True := hq; clear hh hq))))) | (refine wpcall_pure rfl (hu) ?_; simp [hlt, hgt]; (try simp (disch := omega) only [wrap64]); (try first | (refine Ops.gen fun q hq => ?_; cases q <;> (try simp [hlt, hgt] at hq) <;> (try (have hh : True := hq; clear hh hq))) | (refine OpsD.gen fun q hq => ?_; cases q <;> (try simp [hlt, hgt] at hq) <;> (try (have hh : True := hq; clear hh hq))))) | (refine ⟨p + 1, by dsimp only; omega, ⟨by omega, by simpa using he⟩, ?_⟩; simp (disch := omega) [wrap64]) | refine T.r0 fun K hK => ?_ | refine T.r1 fun K hK => ?_ | refine T.ct rfl ?_ | refine T.cf rfl ?_ | refine T.seq ?_ | refine T.block ?_ | refine T.skip ?_
  ·repeat' first | (refine aops_end (hK _ ?_); clear hK K) | (refine aops_go ?_; simp [hlt, hgt]; (try simp (disch := omega) only [wrap64]); (try (refine gen fun q hq => ?_; cases q <;> (try simp [hlt, hgt] at hq) <;> (try (have hh : True := hq; clear hh hq))))) | (refine wpcall_pure rfl (hu) ?_; simp [hlt, hgt]; (try simp (disch := omega) only [wrap64]); (try first | (refine Ops.gen fun q hq => ?_; cases q <;> (try simp [hlt, hgt] at hq) <;> (try (have hh : True := hq; clear hh hq))) | (refine OpsD.gen fun q hq => ?_; cases q <;> (try simp [hlt, hgt] at hq) <;> (try (have hh : True := hq; clear hh hq))))) | (refine T.ret (Done.data (Or.inr rfl) ?_ ?_) <;> simp [Tryz.results262, <- he] <;> omega) | refine T.r0 fun K hK => ?_ | refine T.ct rfl ?_ | refine T.seq ?_ | refine T.block ?_ | refine T.skip ?_
 ·have hp' : p = l.length := by omega
  subst hp'
  simp [firstIx] at he
  repeat' first | (refine aops_end (hK _ ?_); clear hK K) | (refine aops_go ?_; simp [hlt]; (try (refine gen fun q hq => ?_; cases q <;> (try simp [hlt] at hq) <;> (try (have hh : True := hq; clear hh hq))))) | (refine T.ret (Done.data (Or.inr rfl) ?_ ?_) <;> simp [Tryz.results262, he] <;> omega) | refine T.r0 fun K hK => ?_ | refine T.cf rfl ?_ | refine T.seq ?_ | refine T.exit ?_

theorem containsFuncTy_0 (f : FuncId) (l : List MTy) (q : MTy -> Bool) (hl : l.length <= 4611686018427387904) (hf : ∀ t ∈ l, ACalls Tryz.prog f [aTy t] [] (.b (q t)) [] []) :
  ACalls Tryz.prog 222 [.l (l.map eTy), .c (.fn f [])] [] (.b (l.any q)) [] [] := by
 refine ACalls.of_body Tryz.func222 (by kernel_rfl) rfl (by kernel_rfl) (by simp [Tryz.ntmps222]) (by simp) ?_
 rw [Tryz.ntmps222]
 rw [<- firstIx_any (i := 0) (by omega)]
 repeat' first | (refine aops_end (hK _ ?_); clear hK K) | (refine aops_go ?_; simp; (try (refine gen fun q hq => ?_; cases q <;> (try simp at hq) <;> (try (have hh : True := hq; clear hh hq))))) | (refine wpcall_pure rfl (indexFuncTy_0 f l q hl hf) ?_; simp; (try first | (refine Ops.gen fun q hq => ?_; cases q <;> (try simp at hq) <;> (try (have hh : True := hq; clear hh hq))) | (refine OpsD.gen fun q hq => ?_; cases q <;> (try simp at hq) <;> (try (have hh : True := hq; clear hh hq))))) | (refine T.ret (Done.data (Or.inr rfl) ?_ ?_) <;> simp [Tryz.results222, *] <;> omega) | refine T.r0 fun K hK => ?_

theorem indexFuncTy_1 (f : FuncId) (d : DV) (l : List MTy) (q : MTy -> Bool) (hl : l.length <= 4611686018427387904) (hf : ∀ t ∈ l, ACalls Tryz.prog f [aTy t, .c (.ptr 0 0)] (dV [[d]]) (.b (q t)) (dV [[d]]) []) :
  ACalls Tryz.prog 262 [.l (l.map eTy), .c (.fn f [0])] (dV [[d]]) (.i (firstIx q l 0)) (dV [[d]]) [] := by
 refine ACalls.of_body Tryz.func262 (by kernel_rfl) rfl (by kernel_rfl) (by simp [Tryz.ntmps262]) (by simp) ?_
 rw [Tryz.ntmps262]
 repeat' first | (refine aops_end (hK _ ?_); clear hK K) | (refine aops_go ?_; simp; (try (refine gen fun q hq => ?_; cases q <;> (try simp at hq) <;> (try (have hh : True := hq; clear hh hq))))) | refine T.r0 fun K hK => ?_ | refine T.seq ?_ | refine T.block ?_
 obtain ⟨R, hR⟩ : ∃ R, firstIx q l 0 = R := ⟨_, rfl⟩
 rw [hR]
 refine T.loopF (fun p : Nat => ⟨[(0, .l (l.map eTy)), (1, .c (.fn f [0])), (7, .i l.length), (8, .i p)], [[.d d]], []⟩) (fun p => l.length + 1 - p) (fun p => p <= l.length /\ firstIx q (l.drop p) p = R) (fun p hp => ?_) 0 (by simpa using hR) (by simp)
 obtain ⟨hi, he⟩ := hp
 by_cases hlt : p < l.length
 ·obtain ⟨u, ht⟩ := get_lt hlt
  have htm : u ∈ l := List.mem_of_getElem? ht
  have hgt : l[p] = u := by rw [List.getElem?_eq_getElem hlt] at ht; exact Option.some.inj ht
  have hdr : l.drop p = u :: l.drop (p + 1) := by rw [List.drop_eq_getElem_cons hlt, hgt]
  have hu := hf u htm
  rw [hdr, firstIx] at he
  cases hb : q u <;> rw [hb] at hu he
  ·repeat' first | (refine aops_end (hK _ ?_); clear hK K) | (refine aops_go ?_; simp [hlt, hgt]; (try simp (disch := omega) only [wrap64]); (try (refine gen fun q hq => ?_; cases q <;> (try simp [hlt, hgt] at hq) <;> (try (have hh : True := hq; clear hh hq))))) | (refine wpcall_obj1 0 [d] rfl rfl hu ?_; simp) | (refine ⟨p + 1, by dsimp only; omega, ⟨by omega, by simpa using he⟩, ?_⟩; simp (disch := omega) [wrap64]) | refine T.r0 fun K hK => ?_ | refine T.r1 fun K hK => ?_ | refine T.ct rfl ?_ | refine T.cf rfl ?_ | refine T.seq ?_ | refine T.block ?_ | refine T.skip ?_
  ·repeat' first | (refine aops_end (hK _ ?_); clear hK K) | (refine aops_go ?_; simp [hlt, hgt]; (try simp (disch := omega) only [wrap64]); (try (refine gen fun q hq => ?_; cases q <;> (try simp [hlt, hgt] at hq) <;> (try (have hh : True := hq; clear hh hq))))) | (refine wpcall_obj1 0 [d] rfl rfl hu ?_; simp) | refine T.r0 fun K hK => ?_ | refine T.ct rfl ?_ | refine T.seq ?_ | refine T.block ?_ | refine T.skip ?_
   refine T.ret (Done.obj1 (Or.inr rfl) ?_ ?_ ?_) <;> simp [Tryz.results262, <- he]
 ·have hp' : p = l.length := by omega
  subst hp'
  simp [firstIx] at he
  repeat' first | (refine aops_end (hK _ ?_); clear hK K) | (refine aops_go ?_; simp [hlt]; (try (refine gen fun q hq => ?_; cases q <;> (try simp [hlt] at hq) <;> (try (have hh : True := hq; clear hh hq))))) | refine T.r0 fun K hK => ?_ | refine T.cf rfl ?_ | refine T.seq ?_ | refine T.exit ?_
  refine T.ret (Done.obj1 (Or.inr rfl) ?_ ?_ ?_) <;> simp [Tryz.results262, he]

theorem containsFuncTy_1 (f : FuncId) (d : DV) (l : List MTy) (q : MTy -> Bool) (hl : l.length <= 4611686018427387904) (hf : ∀ t ∈ l, ACalls Tryz.prog f [aTy t, .c (.ptr 0 0)] (dV [[d]]) (.b (q t)) (dV [[d]]) []) :
  ACalls Tryz.prog 222 [.l (l.map eTy), .c (.fn f [0])] (dV [[d]]) (.b (l.any q)) (dV [[d]]) [] := by
 refine ACalls.of_body Tryz.func222 (by kernel_rfl) rfl (by kernel_rfl) (by simp [Tryz.ntmps222]) (by simp) ?_
 rw [Tryz.ntmps222]
 rw [<- firstIx_any (i := 0) (by omega)]
 repeat' first | (refine aops_end (hK _ ?_); clear hK K) | (refine aops_go ?_; simp; (try (refine gen fun q hq => ?_; cases q <;> (try simp at hq) <;> (try (have hh : True := hq; clear hh hq))))) | (refine wpcall_obj1 0 [d] rfl rfl (indexFuncTy_1 f d l q hl hf) ?_; simp) | refine T.r0 fun K hK => ?_
 all_goals (refine T.ret (Done.obj1 (Or.inr rfl) ?_ ?_ ?_) <;> simp [Tryz.results222, *])

theorem indexFuncTm_0 (f : FuncId) (l : List MTm) (q : MTm -> Bool) (hl : l.length <= 4611686018427387904) (hf : ∀ t ∈ l, ACalls Tryz.prog f [aTm t] [] (.b (q t)) [] []) :
  ACalls Tryz.prog 295 [.l (l.map eTm), .c (.fn f [])] [] (.i (firstIx q l 0)) [] [] := by
 refine ACalls.of_body Tryz.func295 (by kernel_rfl) rfl (by kernel_rfl) (by simp [Tryz.ntmps295]) (by simp) ?_
 rw [Tryz.ntmps295]
 repeat' first | ((first | refine aops_end (hK _ ?_) | refine aopsD_end (hK _ ?_)); clear hK K) | ((first | refine aops_go ?_ | refine aopsD_go ?_); simp; (try (refine gen fun q hq => ?_; cases q <;> (try simp at hq) <;> (try (have hh : True := hq; clear hh hq))))) | refine T.r0 fun K hK => ?_ | refine T.r1 fun K hK => ?_ | refine T.rd mixed (fun _ => false) [] (by kernel_rfl) fun K hK => ?_ | refine T.rd1 mixed (fun _ => false) [] (by kernel_rfl) fun K hK => ?_ | refine T.ct rfl ?_ | refine T.cf rfl ?_ | refine T.seq ?_ | refine T.block ?_ | refine T.skip ?_ | refine T.exit ?_
 obtain ⟨R, hR⟩ : ∃ R, firstIx q l 0 = R := ⟨_, rfl⟩
 rw [hR]
 refine T.loopF (fun p : Nat => ⟨[(0, .l (l.map eTm)), (1, .c (.fn f [])), (7, .i l.length), (8, .i p)], [], []⟩) (fun p => l.length + 1 - p) (fun p => p <= l.length /\ firstIx q (l.drop p) p = R) (fun p hp => ?_) 0 (by simpa using hR) (by simp)
 obtain ⟨hi, he⟩ := hp
 by_cases hlt : p < l.length
 ·obtain ⟨u, ht⟩ := get_lt hlt
  have htm : u ∈ l := List.mem_of_getElem? ht
  have hgt : l[p] = u := by rw [List.getElem?_eq_getElem hlt] at ht; exact Option.some.inj ht
  have hdr : l.drop p = u :: l.drop (p + 1) := by rw [List.drop_eq_getElem_cons hlt, hgt]
  have hu := hf u htm
  rw [hdr, firstIx] at he
  cases hb : q u <;> rw [hb] at hu he
  ·repeat' first | ((first | refine aops_end (hK _ ?_) | refine aopsD_end (hK _ ?_)); clear hK K) | ((first | refine aops_go ?_ | refine aopsD_go ?_); simp [hlt, hgt]; (try simp (disch := omega) only [wrap64]); (try (refine gen fun q hq => ?_; cases q <;> (try simp [hlt, hgt] at hq) <;> (try (have hh : True := hq; clear hh hq))))) | (refine wpcall_pure rfl (hu) ?_; simp [hlt, hgt]; (try simp (disch := omega) only [wrap64]); (try first | (refine Ops.gen fun q hq => ?_; cases q <;> (try simp [hlt, hgt] at hq) <;> (try (have hh : True := hq; clear hh hq))) | (refine OpsD.gen fun q hq => ?_; cases q <;> (try simp [hlt, hgt] at hq) <;> (try (have hh : True := hq; clear hh hq))))) | (refine ⟨p + 1, by dsimp only; omega, ⟨by omega, by simpa using he⟩, ?_⟩; simp (disch := omega) [wrap64]) | refine T.r0 fun K hK => ?_ | refine T.r1 fun K hK => ?_ | refine T.rd mixed (fun _ => false) [] (by kernel_rfl) fun K hK => ?_ | refine T.rd1 mixed (fun _ => false) [] (by kernel_rfl) fun K hK => ?_ | refine T.ct rfl ?_ | refine T.cf rfl ?_ | refine T.seq ?_ | refine T.block ?_ | refine T.skip ?_ | refine T.exit ?_
  ·repeat' first | ((first | refine aops_end (hK _ ?_) | refine aopsD_end (hK _ ?_)); clear hK K) | ((first | refine aops_go ?_ | refine aopsD_go ?_); simp [hlt, hgt]; (try simp (disch := omega) only [wrap64]); (try (refine gen fun q hq => ?_; cases q <;> (try simp [hlt, hgt] at hq) <;> (try (have hh : True := hq; clear hh hq))))) | (refine wpcall_pure rfl (hu) ?_; simp [hlt, hgt]; (try simp (disch := omega) only [wrap64]); (try first | (refine Ops.gen fun q hq => ?_; cases q <;> (try simp [hlt, hgt] at hq) <;> (try (have hh : True := hq; clear hh hq))) | (refine OpsD.gen fun q hq => ?_; cases q <;> (try simp [hlt, hgt] at hq) <;> (try (have hh : True := hq; clear hh hq))))) | (refine T.ret (Done.data (Or.inr rfl) ?_ ?_) <;> simp [Tryz.results295, <- he] <;> omega) | refine T.r0 fun K hK => ?_ | refine T.r1 fun K hK => ?_ | refine T.rd mixed (fun _ => false) [] (by kernel_rfl) fun K hK => ?_ | refine T.rd1 mixed (fun _ => false) [] (by kernel_rfl) fun K hK => ?_ | refine T.ct rfl ?_ | refine T.cf rfl ?_ | refine T.seq ?_ | refine T.block ?_ | refine T.skip ?_ | refine T.exit ?_
 ·have hp' : p = l.length := by omega
  subst hp'
  simp [firstIx] at he
  repeat' first | ((first | refine aops_end (hK _ ?_) | refine aopsD_end (hK _ ?_)); clear hK K) | ((first | refine aops_go ?_ | refine aopsD_go ?_); simp [hlt]; (try (refine gen fun q hq => ?_; cases q <;> (try simp [hlt] at hq) <;> (try (have hh : True := hq; clear hh hq))))) | (refine T.ret (Done.data (Or.inr rfl) ?_ ?_) <;> simp [Tryz.results295, he] <;> omega) | refine T.r0 fun K hK => ?_ | refine T.r1 fun K hK => ?_ | refine T.rd mixed (fun _ => false) [] (by kernel_rfl) fun K hK => ?_ | refine T.rd1 mixed (fun _ => false) [] (by kernel_rfl) fun K hK => ?_ | refine T.ct rfl ?_ | refine T.cf rfl ?_ | refine T.seq ?_ | refine T.block ?_ | refine T.skip ?_ | refine T.exit ?_

theorem containsFuncTm_0 (f : FuncId) (l : List MTm) (q : MTm -> Bool) (hl : l.length <= 4611686018427387904) (hf : ∀ t ∈ l, ACalls Tryz.prog f [aTm t] [] (.b (q t)) [] []) :
  ACalls Tryz.prog 276 [.l (l.map eTm), .c (.fn f [])] [] (.b (l.any q)) [] [] := by
 refine ACalls.of_body Tryz.func276 (by kernel_rfl) rfl (by kernel_rfl) (by simp [Tryz.ntmps276]) (by simp) ?_
 rw [Tryz.ntmps276]
 rw [<- firstIx_any (i := 0) (by omega)]
 repeat' first | ((first | refine aops_end (hK _ ?_) | refine aopsD_end (hK _ ?_)); clear hK K) | ((first | refine aops_go ?_ | refine aopsD_go ?_); simp; (try (refine gen fun q hq => ?_; cases q <;> (try simp at hq) <;> (try (have hh : True := hq; clear hh hq))))) | (refine wpcall_pure rfl (indexFuncTm_0 f l q hl hf) ?_; simp; (try first | (refine Ops.gen fun q hq => ?_; cases q <;> (try simp at hq) <;> (try (have hh : True := hq; clear hh hq))) | (refine OpsD.gen fun q hq => ?_; cases q <;> (try simp at hq) <;> (try (have hh : True := hq; clear hh hq))))) | (refine T.ret (Done.data (Or.inr rfl) ?_ ?_) <;> simp [Tryz.results276, *] <;> omega) | refine T.r0 fun K hK => ?_ | refine T.r1 fun K hK => ?_ | refine T.rd mixed (fun _ => false) [] (by kernel_rfl) fun K hK => ?_ | refine T.rd1 mixed (fun _ => false) [] (by kernel_rfl) fun K hK => ?_ | refine T.ct rfl ?_ | refine T.cf rfl ?_ | refine T.seq ?_ | refine T.block ?_ | refine T.skip ?_ | refine T.exit ?_

end Go.Proofs.YtflmjilnecanhaaGreatDoor

namespace Go.Proofs.YtflmjilnecanhaaGreatDoor
attribute [-simp] Go.Av.freeStep Go.Av.exV Go.Av.keepL Go.Av.ups Go.Av.take_app_len Go.Av.innVs Go.Av.putBack Go.Av.objCells Go.Av.back Go.Av.resVs Go.Av.one Go.Av.freeStepG Go.Av.exA Go.Av.innAsH Go.Av.AV.innH Go.Av.CV.innH Go.Av.innHs Go.Av.AV.outnH Go.Av.CV.outnH
open Go Go.Av
attribute [local irreducible] T ACalls eTy eTm MTy.kind MTy.kids MTm.kind MTm.name MTm.num MTm.ty MTm.fr MTm.label MTm.kids
attribute [local simp] eTy_def eTm_def
set_option maxHeartbeats 4000000

theorem equalFuncTy_0 (f : FuncId) (l m : List MTy) (q : MTy -> MTy -> Bool) (hl : l.length <= 4611686018427387904) (hf : ∀ a ∈ l, ∀ b ∈ m, ACalls Tryz.prog f [aTy a, aTy b] [] (.b (q a b)) [] []) :
  ACalls Tryz.prog 157 [.l (l.map eTy), .l (m.map eTy), .c (.fn f [])] [] (.b (all2 q l m)) [] [] := by
 refine ACalls.of_body Tryz.func157 (by kernel_rfl) rfl (by kernel_rfl) (by simp [Tryz.ntmps157]) (by simp) ?_
 rw [Tryz.ntmps157]
 by_cases hlm : l.length = m.length
 rotate_left
 ·have hne : ¬ (l.length : Int) = m.length := by omega
  repeat' first | (refine aops_end (hK _ ?_); clear hK K) | (refine aops_go ?_; simp [hne]; (try (refine gen fun q hq => ?_; cases q <;> (try simp [hne] at hq) <;> (try (have hh : True := hq; clear hh hq))))) | (refine T.ret (Done.data (Or.inr rfl) ?_ ?_) <;> simp [Tryz.results157, all2_ne hlm] <;> omega) | refine T.r0 fun K hK => ?_ | refine T.ct rfl ?_ | refine T.seq ?_
 repeat' first | (refine aops_end (hK _ ?_); clear hK K) | (refine aops_go ?_; simp [hlm]; (try (refine gen fun q hq => ?_; cases q <;> (try simp [hlm] at hq) <;> (try (have hh : True := hq; clear hh hq))))) | refine T.r0 fun K hK => ?_ | refine T.cf rfl ?_ | refine T.seq ?_ | refine T.block ?_ | refine T.skip ?_
 obtain ⟨R, hR⟩ : ∃ R, all2 q l m = R := ⟨_, rfl⟩
 rw [hR]
 refine T.loopF (fun x : Nat × List (List CV) => ⟨[(0, .l (l.map eTy)), (1, .l (m.map eTy)), (2, .c (.fn f [])), (15, .l (l.map eTy)), (16, .i m.length), (17, .i x.1)], x.2, []⟩) (fun x => l.length + 1 - x.1) (fun x => x.1 <= l.length /\ all2 q (l.drop x.1) (m.drop x.1) = R) (fun x hp => ?_) (0, []) (by simpa using hR) (by simp)
 obtain ⟨p, G⟩ := x
 obtain ⟨hi, he⟩ := hp
 dsimp only at hi he ⊢
 by_cases hlt : p < l.length
 ·have hlt2 : p < m.length := by omega
  obtain ⟨u, ht⟩ := get_lt hlt
  have htm : u ∈ l := List.mem_of_getElem? ht
  have hgt : l[p] = u := by rw [List.getElem?_eq_getElem hlt] at ht; exact Option.some.inj ht
  have hdr : l.drop p = u :: l.drop (p + 1) := by rw [List.drop_eq_getElem_cons hlt, hgt]
  obtain ⟨v, hv⟩ := get_lt hlt2
  have hvm : v ∈ m := List.mem_of_getElem? hv
  have hgv : m[p] = v := by rw [List.getElem?_eq_getElem hlt2] at hv; exact Option.some.inj hv
  have hu := hf u htm v hvm
  rw [hdr, drop_cons hlt2, hgv, all2_cons] at he
  cases hb : q u v <;> rw [hb] at hu he
  ·repeat' first | (refine aops_end (hK _ ?_); clear hK K) | (refine aops_go ?_; simp [hlt, hlt2, hgt, hgv]; (try simp (disch := omega) only [wrap64]); (try (refine gen fun q hq => ?_; cases q <;> (try simp [hlt, hlt2, hgt, hgv] at hq) <;> (try (have hh : True := hq; clear hh hq))))) | (refine wpcall_pure rfl (hu) ?_; simp [hlt, hlt2, hgt, hgv]; (try simp (disch := omega) only [wrap64]); (try first | (refine Ops.gen fun q hq => ?_; cases q <;> (try simp [hlt, hlt2, hgt, hgv] at hq) <;> (try (have hh : True := hq; clear hh hq))) | (refine OpsD.gen fun q hq => ?_; cases q <;> (try simp [hlt, hlt2, hgt, hgv] at hq) <;> (try (have hh : True := hq; clear hh hq))))) | (refine T.ret (Done.data (Or.inr rfl) ?_ ?_) <;> simp [Tryz.results157, <- he] <;> omega) | refine T.r0 fun K hK => ?_ | refine T.ct rfl ?_ | refine T.seq ?_ | refine T.block ?_ | refine T.skip ?_
  ·repeat' first | (refine aops_end (hK _ ?_); clear hK K) | (refine aops_go ?_; simp [hlt, hlt2, hgt, hgv]; (try simp (disch := omega) only [wrap64]); (try (refine gen fun q hq => ?_; cases q <;> (try simp [hlt, hlt2, hgt, hgv] at hq) <;> (try (have hh : True := hq; clear hh hq))))) | (refine wpcall_pure rfl (hu) ?_; simp [hlt, hlt2, hgt, hgv]; (try simp (disch := omega) only [wrap64]); (try first | (refine Ops.gen fun q hq => ?_; cases q <;> (try simp [hlt, hlt2, hgt, hgv] at hq) <;> (try (have hh : True := hq; clear hh hq))) | (refine OpsD.gen fun q hq => ?_; cases q <;> (try simp [hlt, hlt2, hgt, hgv] at hq) <;> (try (have hh : True := hq; clear hh hq))))) | (refine ⟨(p + 1, _), by dsimp only; omega, ⟨by dsimp only; omega, by simpa using he⟩, rfl, rfl, ?_⟩; simp (disch := omega) [wrap64]) | refine T.r0 fun K hK => ?_ | refine T.r1 fun K hK => ?_ | refine T.ct rfl ?_ | refine T.cf rfl ?_ | refine T.seq ?_ | refine T.block ?_ | refine T.skip ?_
 ·have hp' : p = l.length := by omega
  subst hp'
  rw [List.drop_length, hlm, List.drop_length, all2_nil] at he
  repeat' first | (refine aops_end (hK _ ?_); clear hK K) | (refine aops_go ?_; simp [hlt, hlm]; (try (refine gen fun q hq => ?_; cases q <;> (try simp [hlt, hlm] at hq) <;> (try (have hh : True := hq; clear hh hq))))) | (refine T.ret (Done.data (Or.inr rfl) ?_ ?_) <;> simp [Tryz.results157, <- he] <;> omega) | refine T.r0 fun K hK => ?_ | refine T.cf rfl ?_ | refine T.seq ?_ | refine T.exit ?_

end Go.Proofs.YtflmjilnecanhaaGreatDoor

namespace Go.Proofs.YtflmjilnecanhaaGreatDoor
attribute [-simp] Go.Av.freeStep Go.Av.exV Go.Av.keepL Go.Av.ups Go.Av.take_app_len Go.Av.innVs Go.Av.putBack Go.Av.objCells Go.Av.back Go.Av.resVs Go.Av.one Go.Av.freeStepG Go.Av.exA Go.Av.innAsH Go.Av.AV.innH Go.Av.CV.innH Go.Av.innHs Go.Av.AV.outnH Go.Av.CV.outnH
open Go Go.Av
attribute [local irreducible] T ACalls eTy eTm MTy.kind MTy.kids MTm.kind MTm.name MTm.num MTm.ty MTm.fr MTm.label MTm.kids
attribute [local simp] eTy_def eTm_def
set_option maxHeartbeats 4000000

theorem TypeValidS_ok (t : MTy) (hn : nTy t <= 1099511627776) : ACalls Tryz.prog 143 [aTy t] [] (.b (shapeTy 4 t)) [] [] := by
 refine ACalls.of_body Tryz.func143 (by kernel_rfl) rfl (by kernel_rfl) (by simp [Tryz.ntmps143]) (by simp) ?_
 rw [Tryz.ntmps143]
 repeat' first | (refine aops_end (hK _ ?_); clear hK K) | (refine aops_go ?_; simp) | (refine wpcall_pure rfl (l1Shape_ok 4 t (by omega) hn) ?_; simp) | (refine T.ret (Done.data (Or.inr rfl) ?_ ?_) <;> simp [Tryz.results143] <;> omega) | refine T.r0 fun K hK => ?_

theorem typeScan1_ok (d : Int) (hd : 0 <= d /\ d <= 1000) (t : MTy) (q : Bool) (h : ACalls Tryz.prog 177 [aTy t, .i (d + 1)] [] (.b q) [] []) :
  ACalls Tryz.prog 223 [aTy t, .c (.ptr 0 0)] (dV [[.i d]]) (.b (!q)) (dV [[.i d]]) [] := by
 refine ACalls.of_body Tryz.func223 (by kernel_rfl) rfl (by kernel_rfl) (by simp [Tryz.ntmps223]) (by simp) ?_
 rw [Tryz.ntmps223]
 repeat' first | (refine aops_end (hK _ ?_); clear hK K) | (refine aops_go ?_; simp; (try simp (disch := omega) only [wrap64])) | (refine wpcall_pure rfl (h) ?_; simp; (try simp (disch := omega) only [wrap64])) | refine T.r0 fun K hK => ?_
 refine T.ret (Done.obj1 (Or.inr rfl) ?_ ?_ ?_) <;> simp [Tryz.results223]

theorem typeScan_ok : ∀ (d : Nat) (t : MTy), d <= 4 -> nTy t <= 1099511627776 -> ACalls Tryz.prog 177 [aTy t, .i (5 - d)] [] (.b (shapeTy d t)) [] []
 | 0, t, _, _ => by
  refine ACalls.of_body Tryz.func177 (by kernel_rfl) rfl (by kernel_rfl) (by simp [Tryz.ntmps177]) (by simp) ?_
  rw [Tryz.ntmps177]
  repeat' first | (refine aops_end (hK _ ?_); clear hK K) | (refine aops_go ?_; simp; (try (refine gen fun q hq => ?_; cases q <;> (try simp at hq) <;> (try (have hh : True := hq; clear hh hq))))) | (refine T.ret (Done.data (Or.inr rfl) ?_ ?_) <;> simp [Tryz.results177, shapeTy] <;> omega) | refine T.r0 fun K hK => ?_ | refine T.r1 fun K hK => ?_ | refine T.ct rfl ?_ | refine T.cf rfl ?_ | refine T.seq ?_ | refine T.block ?_ | refine T.skip ?_
 | d + 1, t, hd, hn => by
  rw [nTy_def] at hn
  have hlen := nTyS_len t.kids
  have hd1 : (5 : Int) - (d + 1) <= 4 := by omega
  have hc := containsFuncTy_1 223 (.i (5 - (d + 1))) t.kids (fun t => !shapeTy d t) (by omega) (fun u hu => typeScan1_ok (5 - (d + 1)) (by omega) u _ (by
   have := typeScan_ok d u (by omega) (by have := nTyS_mem hu; omega)
   rwa [show (5 : Int) - (d + 1) + 1 = 5 - d by omega]))
  have hall : (!t.kids.any fun t => !shapeTy d t) = t.kids.all (shapeTy d) := not_any_not _ _
  rw [show shapeTy (d + 1) t = (decide (tyKids t.kind = t.kids.length) && t.kids.all (shapeTy d)) from rfl, <- hall]
  generalize (t.kids.any fun t => !shapeTy d t) = R at hc ⊢
  refine ACalls.of_body Tryz.func177 (by kernel_rfl) rfl (by kernel_rfl) (by simp [Tryz.ntmps177]) (by simp) ?_
  rw [Tryz.ntmps177]
  repeat' first | (refine aops_end (hK _ ?_); clear hK K) | (refine aops_go ?_; simp [hd1]; (try (refine gen fun q hq => ?_; cases q <;> (try simp [hd1] at hq) <;> (try (have hh : True := hq; clear hh hq))))) | (refine wpcall_obj1 1 [.i (5 - (d + 1))] rfl (by simp) hc ?_; simp) | (refine T.ret (Done.data (Or.inr rfl) ?_ ?_) <;> simp [Tryz.results177, tyKids, *] <;> omega) | refine T.r0 fun K hK => ?_ | refine T.r1 fun K hK => ?_ | refine T.ct rfl ?_ | refine T.cf rfl ?_ | refine T.seq ?_ | refine T.block ?_ | refine T.skip ?_

theorem TypeValid_ok (t : MTy) (hn : nTy t <= 1099511627776) : ACalls Tryz.prog 103 [aTy t] [] (.b (shapeTy 4 t)) [] [] := by
 refine ACalls.of_body Tryz.func103 (by kernel_rfl) rfl (by kernel_rfl) (by simp [Tryz.ntmps103]) (by simp) ?_
 rw [Tryz.ntmps103]
 repeat' first | (refine aops_end (hK _ ?_); clear hK K) | (refine aops_go ?_; simp) | (refine wpcall_pure rfl (typeScan_ok 4 t (by omega) hn) ?_; simp) | (refine T.ret (Done.data (Or.inr rfl) ?_ ?_) <;> simp [Tryz.results103] <;> omega) | refine T.r0 fun K hK => ?_

theorem consistent_ok : (a b : MTy) -> nTy a <= 1099511627776 -> ACalls Tryz.prog 250 [aTy a, aTy b] [] (.b (consTy a b)) [] []
 | .mk k l, b, hn => by
  rw [nTy_def] at hn
  have hlen := nTyS_len l
  have hc := equalFuncTy_0 250 l b.kids consTy (by simp at hn; omega) (fun u hu v hv => consistent_ok u v (by have := nTyS_mem hu; simp at hn; omega))
  rw [consTy_def]
  simp only [MTy.kids_mk, MTy.kind_mk]
  generalize all2 consTy l b.kids = R at hc ⊢
  refine ACalls.of_body Tryz.func250 (by kernel_rfl) rfl (by kernel_rfl) (by simp [Tryz.ntmps250]) (by simp) ?_
  rw [Tryz.ntmps250]
  repeat' first | (refine aops_end (hK _ ?_); clear hK K) | (refine aops_go ?_; simp; (try (refine gen fun q hq => ?_; cases q <;> (try simp at hq) <;> (try (have hh : True := hq; clear hh hq))))) | (refine wpcall_pure rfl (hc) ?_; simp; (try first | (refine Ops.gen fun q hq => ?_; cases q <;> (try simp at hq) <;> (try (have hh : True := hq; clear hh hq))) | (refine OpsD.gen fun q hq => ?_; cases q <;> (try simp at hq) <;> (try (have hh : True := hq; clear hh hq))))) | (refine T.ret (Done.data (Or.inr rfl) ?_ ?_) <;> simp [Tryz.results250, *] <;> omega) | refine T.r0 fun K hK => ?_
termination_by a => SizeOf.sizeOf a
decreasing_by have := List.sizeOf_lt_of_mem hu; simp; omega

theorem Consistent_ok (a b : MTy) (ha : nTy a <= 1099511627776) (hb : nTy b <= 1099511627776) : ACalls Tryz.prog 244 [aTy a, aTy b] [] (.b (shapeTy 4 a && shapeTy 4 b && consTy a b)) [] [] := by
 refine ACalls.of_body Tryz.func244 (by kernel_rfl) rfl (by kernel_rfl) (by simp [Tryz.ntmps244]) (by simp) ?_
 rw [Tryz.ntmps244]
 repeat' first | (refine aops_end (hK _ ?_); clear hK K) | (refine aops_go ?_; simp; (try (refine gen fun q hq => ?_; cases q <;> (try simp at hq) <;> (try (have hh : True := hq; clear hh hq))))) | (refine wpcall_pure rfl (TypeValid_ok a ha) ?_; simp; (try first | (refine Ops.gen fun q hq => ?_; cases q <;> (try simp at hq) <;> (try (have hh : True := hq; clear hh hq))) | (refine OpsD.gen fun q hq => ?_; cases q <;> (try simp at hq) <;> (try (have hh : True := hq; clear hh hq))))) | (refine wpcall_pure rfl (TypeValid_ok b hb) ?_; simp; (try first | (refine Ops.gen fun q hq => ?_; cases q <;> (try simp at hq) <;> (try (have hh : True := hq; clear hh hq))) | (refine OpsD.gen fun q hq => ?_; cases q <;> (try simp at hq) <;> (try (have hh : True := hq; clear hh hq))))) | (refine wpcall_pure rfl (consistent_ok a b ha) ?_; simp; (try first | (refine Ops.gen fun q hq => ?_; cases q <;> (try simp at hq) <;> (try (have hh : True := hq; clear hh hq))) | (refine OpsD.gen fun q hq => ?_; cases q <;> (try simp at hq) <;> (try (have hh : True := hq; clear hh hq))))) | (refine T.ret (Done.data (Or.inr rfl) ?_ ?_) <;> simp [Tryz.results244, *] <;> omega) | refine T.r0 fun K hK => ?_

theorem l1Consistent_ok : ∀ (d : Nat) (a b : MTy), d <= 1000 -> shapeTy d a = true -> shapeTy d b = true -> ACalls Tryz.prog 144 [aTy a, aTy b] [] (.b (consTy a b)) [] []
 | 0, a, b, _, ha, _ => by simp [shapeTy] at ha
 | d + 1, a, b, hd, ha, hb => by
  obtain ⟨e, he, hka, hla, hsa⟩ := shapeTy_kids ha
  obtain ⟨e', he', hkb, hlb, hsb⟩ := shapeTy_kids hb
  obtain rfl : d = e := by omega
  obtain rfl : d = e' := by omega
  rw [consTy_def]
  refine ACalls.of_body Tryz.func144 (by kernel_rfl) rfl (by kernel_rfl) (by simp [Tryz.ntmps144]) (by simp) ?_
  rw [Tryz.ntmps144]
  by_cases hk1 : a.kind = 1
  ·repeat' first | (refine aops_end (hK _ ?_); clear hK K) | (refine aops_go ?_; simp [hk1]; (try (refine gen fun q hq => ?_; cases q <;> (try simp [hk1] at hq) <;> (try (have hh : True := hq; clear hh hq))))) | (refine T.ret (Done.data (Or.inr rfl) ?_ ?_) <;> simp [Tryz.results144, hk1] <;> omega) | refine T.r0 fun K hK => ?_ | refine T.ct rfl ?_ | refine T.seq ?_
  by_cases hk2 : b.kind = 1
  ·repeat' first | (refine aops_end (hK _ ?_); clear hK K) | (refine aops_go ?_; simp [hk1, hk2, beq_f hk1]; (try (refine gen fun q hq => ?_; cases q <;> (try simp [hk1, hk2, beq_f hk1] at hq) <;> (try (have hh : True := hq; clear hh hq))))) | (refine T.ret (Done.data (Or.inr rfl) ?_ ?_) <;> simp [Tryz.results144, hk1, hk2] <;> omega) | refine T.r0 fun K hK => ?_ | refine T.ct rfl ?_ | refine T.seq ?_
  by_cases hk : a.kind = b.kind
  rotate_left
  ·repeat' first | (refine aops_end (hK _ ?_); clear hK K) | (refine aops_go ?_; simp [hk1, hk2, hk]; (try (refine gen fun q hq => ?_; cases q <;> (try simp [hk1, hk2, hk] at hq) <;> (try (have hh : True := hq; clear hh hq))))) | (refine T.ret (Done.data (Or.inr rfl) ?_ ?_) <;> simp [Tryz.results144, hk1, hk2, hk] <;> omega) | refine T.r0 fun K hK => ?_ | refine T.ct rfl ?_ | refine T.cf rfl ?_ | refine T.seq ?_ | refine T.skip ?_
  have hlm : a.kids.length = b.kids.length := by rw [hk] at hka; omega
  repeat' first | (refine aops_end (hK _ ?_); clear hK K) | (refine aops_go ?_; simp [hk1, hk2, hk]; (try (refine gen fun q hq => ?_; cases q <;> (try simp [hk1, hk2, hk] at hq) <;> (try (have hh : True := hq; clear hh hq))))) | refine T.r0 fun K hK => ?_ | refine T.cf rfl ?_ | refine T.seq ?_ | refine T.block ?_ | refine T.skip ?_
  obtain ⟨R, hR⟩ : ∃ R, all2 consTy a.kids b.kids = R := ⟨_, rfl⟩
  rw [show (decide (a.kind = 1) || decide (b.kind = 1) || (decide (a.kind = b.kind) && all2 consTy a.kids b.kids)) = R by simp [hk1, hk2, hk, hR]]
  refine T.loopF (fun p : Nat => ⟨[(2, .c (.ptr 0 0)), (3, .c (.ptr 1 0)), (5, .i p)], [(aTy a).cells, (aTy b).cells], []⟩) (fun p => a.kids.length + 1 - p) (fun p => p <= a.kids.length /\ all2 consTy (a.kids.drop p) (b.kids.drop p) = R) (fun p hp => ?_) 0 (by simpa using hR) (by simp [hk])
  obtain ⟨hi, he⟩ := hp
  by_cases hlt : p < a.kids.length
  ·have hlt2 : p < b.kids.length := by omega
   obtain ⟨u, ht⟩ := get_lt hlt
   have htm : u ∈ a.kids := List.mem_of_getElem? ht
   have hgt : a.kids[p] = u := by rw [List.getElem?_eq_getElem hlt] at ht; exact Option.some.inj ht
   have hdr : a.kids.drop p = u :: a.kids.drop (p + 1) := by rw [List.drop_eq_getElem_cons hlt, hgt]
   obtain ⟨v, hv⟩ := get_lt hlt2
   have hvm : v ∈ b.kids := List.mem_of_getElem? hv
   have hgv : b.kids[p] = v := by rw [List.getElem?_eq_getElem hlt2] at hv; exact Option.some.inj hv
   have hu := l1Consistent_ok d u v (by omega) (hsa u htm) (hsb v hvm)
   rw [hdr, drop_cons hlt2, hgv, all2_cons] at he
   cases hb : consTy u v <;> rw [hb] at hu he
   ·repeat' first | ((first | refine aops_end (hK _ ?_) | refine aopsD_end (hK _ ?_)); clear hK K) | ((first | refine aops_go ?_ | refine aopsD_go ?_); simp [hlt, hlt2, hgt, hgv]; (try simp (disch := omega) only [wrap64]); (try (refine gen fun q hq => ?_; cases q <;> (try simp [hlt, hlt2, hgt, hgv] at hq) <;> (try (have hh : True := hq; clear hh hq))))) | (refine wpcall_pure rfl (hu) ?_; simp [hlt, hlt2, hgt, hgv]; (try simp (disch := omega) only [wrap64]); (try first | (refine Ops.gen fun q hq => ?_; cases q <;> (try simp [hlt, hlt2, hgt, hgv] at hq) <;> (try (have hh : True := hq; clear hh hq))) | (refine OpsD.gen fun q hq => ?_; cases q <;> (try simp [hlt, hlt2, hgt, hgv] at hq) <;> (try (have hh : True := hq; clear hh hq))))) | (refine T.ret (Done.data (Or.inr rfl) ?_ ?_) <;> simp [Tryz.results144, <- he] <;> omega) | refine T.r0 fun K hK => ?_ | refine T.rd mixed (fun _ => false) [] (by kernel_rfl) fun K hK => ?_ | refine T.ct rfl ?_ | refine T.seq ?_ | refine T.block ?_ | refine T.skip ?_
   ·repeat' first | ((first | refine aops_end (hK _ ?_) | refine aopsD_end (hK _ ?_)); clear hK K) | ((first | refine aops_go ?_ | refine aopsD_go ?_); simp [hlt, hlt2, hgt, hgv]; (try simp (disch := omega) only [wrap64]); (try (refine gen fun q hq => ?_; cases q <;> (try simp [hlt, hlt2, hgt, hgv] at hq) <;> (try (have hh : True := hq; clear hh hq))))) | (refine wpcall_pure rfl (hu) ?_; simp [hlt, hlt2, hgt, hgv]; (try simp (disch := omega) only [wrap64]); (try first | (refine Ops.gen fun q hq => ?_; cases q <;> (try simp [hlt, hlt2, hgt, hgv] at hq) <;> (try (have hh : True := hq; clear hh hq))) | (refine OpsD.gen fun q hq => ?_; cases q <;> (try simp [hlt, hlt2, hgt, hgv] at hq) <;> (try (have hh : True := hq; clear hh hq))))) | (refine ⟨p + 1, by dsimp only; omega, ⟨by omega, by simpa using he⟩, rfl, rfl, ?_⟩; simp (disch := omega) [wrap64]) | refine T.r0 fun K hK => ?_ | refine T.r1 fun K hK => ?_ | refine T.rd mixed (fun _ => false) [] (by kernel_rfl) fun K hK => ?_ | refine T.ct rfl ?_ | refine T.cf rfl ?_ | refine T.seq ?_ | refine T.block ?_ | refine T.skip ?_
  ·have hp' : p = a.kids.length := by omega
   subst hp'
   rw [List.drop_length, hlm, List.drop_length, all2_nil] at he
   repeat' first | (refine aops_end (hK _ ?_); clear hK K) | (refine aops_go ?_; simp [hlt, hlm]; (try (refine gen fun q hq => ?_; cases q <;> (try simp [hlt, hlm] at hq) <;> (try (have hh : True := hq; clear hh hq))))) | (refine T.ret (Done.data (Or.inr rfl) ?_ ?_) <;> simp [Tryz.results144, <- he] <;> omega) | refine T.r0 fun K hK => ?_ | refine T.cf rfl ?_ | refine T.seq ?_ | refine T.exit ?_
end Go.Proofs.YtflmjilnecanhaaGreatDoor

namespace Go.Proofs.YtflmjilnecanhaaGreatDoor
attribute [-simp] Go.Av.freeStep Go.Av.exV Go.Av.keepL Go.Av.ups Go.Av.take_app_len Go.Av.innVs Go.Av.putBack Go.Av.objCells Go.Av.back Go.Av.resVs Go.Av.one Go.Av.freeStepG Go.Av.exA Go.Av.innAsH Go.Av.AV.innH Go.Av.CV.innH Go.Av.innHs Go.Av.AV.outnH Go.Av.CV.outnH
open Go Go.Av
attribute [local irreducible] T ACalls eTy eTm MTy.kind MTy.kids MTm.kind MTm.name MTm.num MTm.ty MTm.fr MTm.label MTm.kids
attribute [local simp] eTy_def eTm_def
set_option maxHeartbeats 4000000

theorem l1Abs_ok (k : Int) : ACalls Tryz.prog 196 [.i k] [] (.i (if k < -99 \/ 99 < k then 0 else if k < 0 then -k else k)) [] [] := by
 refine ACalls.of_body Tryz.func196 (by kernel_rfl) rfl (by kernel_rfl) (by simp [Tryz.ntmps196]) (by simp) ?_
 rw [Tryz.ntmps196]
 repeat' first | (refine aops_end (hK _ ?_); clear hK K) | (refine aops_go ?_; simp; (try simp (disch := omega) only [wrap64]); (try (refine gen fun q hq => ?_; cases q <;> (try simp at hq) <;> (try (have hh : True := hq; clear hh hq))))) | (refine T.ret (Done.data (Or.inr rfl) ?_ ?_) <;> simp [Tryz.results196, *] <;> omega) | refine T.r0 fun K hK => ?_ | refine T.ct rfl ?_ | refine T.cf rfl ?_ | refine T.seq ?_ | refine T.skip ?_

theorem l4Own_ok (e : MTm) (hk : e.kind = 14) (ht : nTy e.ty <= 1099511627776) (hf : nTy e.fr <= 1099511627776) : ACalls Tryz.prog 254 [aTm e] [] (.b (ownM e)) [] [] := by
 have hr : ownM e = (decide (e.name = []) && decide (e.num = 0) && labM e.label && shapeTy 4 e.ty && shapeTy 4 e.fr && consTy e.fr e.ty) := by
  have hz : inM e.num 0 0 = decide (e.num = 0) := by simp only [inM, <- Bool.decide_and]; exact decide_eq_decide.2 (by omega)
  simp only [ownM, hk, namedM, typedM, castOwnM]
  simp [hz]
  generalize shapeTy 4 e.ty = a; generalize shapeTy 4 e.fr = b; generalize consTy e.fr e.ty = c; generalize labM e.label = d
  cases a <;> cases b <;> cases c <;> cases d <;> simp
 rw [hr]
 generalize hm : (if e.label < -99 \/ 99 < e.label then 0 else if e.label < 0 then -e.label else e.label) = m
 have hl : labM e.label = (decide (1 <= m) && decide (m <= 99)) := by
  simp only [labM, inM, <- Bool.decide_and, <- Bool.decide_or]
  refine decide_eq_decide.2 ?_
  rw [<- hm]
  split <;> (try split) <;> omega
 have habs := l1Abs_ok e.label
 rw [hm] at habs
 rw [hl]
 have hty := TypeValidS_ok e.ty ht
 have hfr := TypeValidS_ok e.fr hf
 generalize hS : shapeTy 4 e.ty = S1 at *
 generalize hS' : shapeTy 4 e.fr = S2 at *
 cases S1 with
 | false => 
  refine ACalls.of_body Tryz.func254 (by kernel_rfl) rfl (by kernel_rfl) (by simp [Tryz.ntmps254]) (by simp) ?_
  rw [Tryz.ntmps254]
  repeat' first | (refine aops_end (hK _ ?_); clear hK K) | (refine aops_go ?_; simp; (try (refine gen fun q hq => ?_; cases q <;> (try simp at hq) <;> (try (have hh : True := hq; clear hh hq))))) | (refine wpcall_pure rfl (habs) ?_; simp; (try first | (refine Ops.gen fun q hq => ?_; cases q <;> (try simp at hq) <;> (try (have hh : True := hq; clear hh hq))) | (refine OpsD.gen fun q hq => ?_; cases q <;> (try simp at hq) <;> (try (have hh : True := hq; clear hh hq))))) | (refine wpcall_pure rfl (hty) ?_; simp; (try first | (refine Ops.gen fun q hq => ?_; cases q <;> (try simp at hq) <;> (try (have hh : True := hq; clear hh hq))) | (refine OpsD.gen fun q hq => ?_; cases q <;> (try simp at hq) <;> (try (have hh : True := hq; clear hh hq))))) | (refine T.ret (Done.data (Or.inr rfl) ?_ ?_) <;> simp [Tryz.results254, *] <;> omega) | refine T.r0 fun K hK => ?_
 | true =>
  cases S2 with
  | false =>
   refine ACalls.of_body Tryz.func254 (by kernel_rfl) rfl (by kernel_rfl) (by simp [Tryz.ntmps254]) (by simp) ?_
   rw [Tryz.ntmps254]
   repeat' first | (refine aops_end (hK _ ?_); clear hK K) | (refine aops_go ?_; simp; (try (refine gen fun q hq => ?_; cases q <;> (try simp at hq) <;> (try (have hh : True := hq; clear hh hq))))) | (refine wpcall_pure rfl (habs) ?_; simp; (try first | (refine Ops.gen fun q hq => ?_; cases q <;> (try simp at hq) <;> (try (have hh : True := hq; clear hh hq))) | (refine OpsD.gen fun q hq => ?_; cases q <;> (try simp at hq) <;> (try (have hh : True := hq; clear hh hq))))) | (refine wpcall_pure rfl (hty) ?_; simp; (try first | (refine Ops.gen fun q hq => ?_; cases q <;> (try simp at hq) <;> (try (have hh : True := hq; clear hh hq))) | (refine OpsD.gen fun q hq => ?_; cases q <;> (try simp at hq) <;> (try (have hh : True := hq; clear hh hq))))) | (refine wpcall_pure rfl (hfr) ?_; simp; (try first | (refine Ops.gen fun q hq => ?_; cases q <;> (try simp at hq) <;> (try (have hh : True := hq; clear hh hq))) | (refine OpsD.gen fun q hq => ?_; cases q <;> (try simp at hq) <;> (try (have hh : True := hq; clear hh hq))))) | (refine T.ret (Done.data (Or.inr rfl) ?_ ?_) <;> simp [Tryz.results254, *] <;> omega) | refine T.r0 fun K hK => ?_
  | true =>
   have hco := l1Consistent_ok 4 e.fr e.ty (by omega) hS' hS
   refine ACalls.of_body Tryz.func254 (by kernel_rfl) rfl (by kernel_rfl) (by simp [Tryz.ntmps254]) (by simp) ?_
   rw [Tryz.ntmps254]
   repeat' first | (refine aops_end (hK _ ?_); clear hK K) | (refine aops_go ?_; simp; (try (refine gen fun q hq => ?_; cases q <;> (try simp at hq) <;> (try (have hh : True := hq; clear hh hq))))) | (refine wpcall_pure rfl (habs) ?_; simp; (try first | (refine Ops.gen fun q hq => ?_; cases q <;> (try simp at hq) <;> (try (have hh : True := hq; clear hh hq))) | (refine OpsD.gen fun q hq => ?_; cases q <;> (try simp at hq) <;> (try (have hh : True := hq; clear hh hq))))) | (refine wpcall_pure rfl (hty) ?_; simp; (try first | (refine Ops.gen fun q hq => ?_; cases q <;> (try simp at hq) <;> (try (have hh : True := hq; clear hh hq))) | (refine OpsD.gen fun q hq => ?_; cases q <;> (try simp at hq) <;> (try (have hh : True := hq; clear hh hq))))) | (refine wpcall_pure rfl (hfr) ?_; simp; (try first | (refine Ops.gen fun q hq => ?_; cases q <;> (try simp at hq) <;> (try (have hh : True := hq; clear hh hq))) | (refine OpsD.gen fun q hq => ?_; cases q <;> (try simp at hq) <;> (try (have hh : True := hq; clear hh hq))))) | (refine wpcall_pure rfl (hco) ?_; simp; (try first | (refine Ops.gen fun q hq => ?_; cases q <;> (try simp at hq) <;> (try (have hh : True := hq; clear hh hq))) | (refine OpsD.gen fun q hq => ?_; cases q <;> (try simp at hq) <;> (try (have hh : True := hq; clear hh hq))))) | (refine T.ret (Done.data (Or.inr rfl) ?_ ?_) <;> simp [Tryz.results254, *] <;> omega) | refine T.r0 fun K hK => ?_

theorem kind_cases (k : Int) : k = 1 \/ k = 5 \/ k = 13 \/ k = 14 \/ k = 2 \/ (¬ k = 1 /\ ¬ k = 5 /\ ¬ k = 13 /\ ¬ k = 14 /\ ¬ k = 2) := by omega

theorem in00 (n : Int) : inM n 0 0 = decide (n = 0) := by simp only [inM, <- Bool.decide_and]; exact decide_eq_decide.2 (by omega)

theorem l2Own_ok (e : MTm) (hk : e.kind ≠ 14) (ht : nTy e.ty <= 1099511627776) : ACalls Tryz.prog 208 [aTm e] [] (.b (ownM e)) [] [] := by
 have hnm := l2Name_ok e.name
 have hty := TypeValidS_ok e.ty ht
 have hnt := l2None_ok e.ty
 have hnf := l2None_ok e.fr
 rcases kind_cases e.kind with h1 | h1 | h1 | h1 | h1 | ⟨h1, h2, h3, h4, h5⟩
 ·have hr : ownM e = (nameM e.name && decide (e.num = 0) && noTyM e.ty && (noTyM e.fr && decide (e.label = 0))) := by simp [ownM, h1, namedM, typedM, in00]
  rw [hr]
  refine ACalls.of_body Tryz.func208 (by kernel_rfl) rfl (by kernel_rfl) (by simp [Tryz.ntmps208]) (by simp) ?_
  rw [Tryz.ntmps208]
  repeat' first | (refine aops_end (hK _ ?_); clear hK K) | (refine aops_go ?_; simp [h1]; (try (refine gen fun q hq => ?_; cases q <;> (try simp [h1] at hq) <;> (try (have hh : True := hq; clear hh hq))))) | (refine wpcall_pure rfl (hnm) ?_; simp [h1]; (try first | (refine Ops.gen fun q hq => ?_; cases q <;> (try simp [h1] at hq) <;> (try (have hh : True := hq; clear hh hq))) | (refine OpsD.gen fun q hq => ?_; cases q <;> (try simp [h1] at hq) <;> (try (have hh : True := hq; clear hh hq))))) | (refine wpcall_pure rfl (hnt) ?_; simp [h1]; (try first | (refine Ops.gen fun q hq => ?_; cases q <;> (try simp [h1] at hq) <;> (try (have hh : True := hq; clear hh hq))) | (refine OpsD.gen fun q hq => ?_; cases q <;> (try simp [h1] at hq) <;> (try (have hh : True := hq; clear hh hq))))) | (refine wpcall_pure rfl (hnf) ?_; simp [h1]; (try first | (refine Ops.gen fun q hq => ?_; cases q <;> (try simp [h1] at hq) <;> (try (have hh : True := hq; clear hh hq))) | (refine OpsD.gen fun q hq => ?_; cases q <;> (try simp [h1] at hq) <;> (try (have hh : True := hq; clear hh hq))))) | (refine T.ret (Done.data (Or.inr rfl) ?_ ?_) <;> simp [Tryz.results208, *] <;> omega) | refine T.r0 fun K hK => ?_ | refine T.ct rfl ?_ | refine T.cf rfl ?_ | refine T.seq ?_ | refine T.skip ?_
 ·have hr : ownM e = (nameM e.name && decide (e.num = 0) && shapeTy 4 e.ty && (noTyM e.fr && decide (e.label = 0))) := by simp [ownM, h1, namedM, typedM, in00]
  rw [hr]
  refine ACalls.of_body Tryz.func208 (by kernel_rfl) rfl (by kernel_rfl) (by simp [Tryz.ntmps208]) (by simp) ?_
  rw [Tryz.ntmps208]
  repeat' first | (refine aops_end (hK _ ?_); clear hK K) | (refine aops_go ?_; simp [h1]; (try (refine gen fun q hq => ?_; cases q <;> (try simp [h1] at hq) <;> (try (have hh : True := hq; clear hh hq))))) | (refine wpcall_pure rfl (hnm) ?_; simp [h1]; (try first | (refine Ops.gen fun q hq => ?_; cases q <;> (try simp [h1] at hq) <;> (try (have hh : True := hq; clear hh hq))) | (refine OpsD.gen fun q hq => ?_; cases q <;> (try simp [h1] at hq) <;> (try (have hh : True := hq; clear hh hq))))) | (refine wpcall_pure rfl (hty) ?_; simp [h1]; (try first | (refine Ops.gen fun q hq => ?_; cases q <;> (try simp [h1] at hq) <;> (try (have hh : True := hq; clear hh hq))) | (refine OpsD.gen fun q hq => ?_; cases q <;> (try simp [h1] at hq) <;> (try (have hh : True := hq; clear hh hq))))) | (refine wpcall_pure rfl (hnf) ?_; simp [h1]; (try first | (refine Ops.gen fun q hq => ?_; cases q <;> (try simp [h1] at hq) <;> (try (have hh : True := hq; clear hh hq))) | (refine OpsD.gen fun q hq => ?_; cases q <;> (try simp [h1] at hq) <;> (try (have hh : True := hq; clear hh hq))))) | (refine T.ret (Done.data (Or.inr rfl) ?_ ?_) <;> simp [Tryz.results208, *] <;> omega) | refine T.r0 fun K hK => ?_ | refine T.ct rfl ?_ | refine T.cf rfl ?_ | refine T.seq ?_ | refine T.skip ?_
 ·have hr : ownM e = (decide (e.name = []) && decide (e.num = 0) && shapeTy 4 e.ty && (noTyM e.fr && decide (e.label = 0))) := by simp [ownM, h1, namedM, typedM, in00]
  have hn0 : e.name = [] -> nameM e.name = false := fun h => by rw [h]; rfl
  rw [hr]
  by_cases hne : e.name = []
  ·rw [hn0 hne, hne] at hnm
   refine ACalls.of_body Tryz.func208 (by kernel_rfl) rfl (by kernel_rfl) (by simp [Tryz.ntmps208]) (by simp) ?_
   rw [Tryz.ntmps208]
   repeat' first | (refine aops_end (hK _ ?_); clear hK K) | (refine aops_go ?_; simp [h1, hne]; (try (refine gen fun q hq => ?_; cases q <;> (try simp [h1, hne] at hq) <;> (try (have hh : True := hq; clear hh hq))))) | (refine wpcall_pure rfl (hnm) ?_; simp [h1, hne]; (try first | (refine Ops.gen fun q hq => ?_; cases q <;> (try simp [h1, hne] at hq) <;> (try (have hh : True := hq; clear hh hq))) | (refine OpsD.gen fun q hq => ?_; cases q <;> (try simp [h1, hne] at hq) <;> (try (have hh : True := hq; clear hh hq))))) | (refine wpcall_pure rfl (hty) ?_; simp [h1, hne]; (try first | (refine Ops.gen fun q hq => ?_; cases q <;> (try simp [h1, hne] at hq) <;> (try (have hh : True := hq; clear hh hq))) | (refine OpsD.gen fun q hq => ?_; cases q <;> (try simp [h1, hne] at hq) <;> (try (have hh : True := hq; clear hh hq))))) | (refine wpcall_pure rfl (hnf) ?_; simp [h1, hne]; (try first | (refine Ops.gen fun q hq => ?_; cases q <;> (try simp [h1, hne] at hq) <;> (try (have hh : True := hq; clear hh hq))) | (refine OpsD.gen fun q hq => ?_; cases q <;> (try simp [h1, hne] at hq) <;> (try (have hh : True := hq; clear hh hq))))) | (refine T.ret (Done.data (Or.inr rfl) ?_ ?_) <;> simp [Tryz.results208, *] <;> omega) | refine T.r0 fun K hK => ?_ | refine T.ct rfl ?_ | refine T.cf rfl ?_ | refine T.seq ?_ | refine T.skip ?_
  ·generalize nameM e.name = nb at hnm
   refine ACalls.of_body Tryz.func208 (by kernel_rfl) rfl (by kernel_rfl) (by simp [Tryz.ntmps208]) (by simp) ?_
   rw [Tryz.ntmps208]
   repeat' first | (refine aops_end (hK _ ?_); clear hK K) | (refine aops_go ?_; simp [h1, hne]; (try (refine gen fun q hq => ?_; cases q <;> (try simp [h1, hne] at hq) <;> (try (have hh : True := hq; clear hh hq))))) | (refine wpcall_pure rfl (hnm) ?_; simp [h1, hne]; (try first | (refine Ops.gen fun q hq => ?_; cases q <;> (try simp [h1, hne] at hq) <;> (try (have hh : True := hq; clear hh hq))) | (refine OpsD.gen fun q hq => ?_; cases q <;> (try simp [h1, hne] at hq) <;> (try (have hh : True := hq; clear hh hq))))) | (refine T.ret (Done.data (Or.inr rfl) ?_ ?_) <;> simp [Tryz.results208, *] <;> omega) | refine T.r0 fun K hK => ?_ | refine T.ct rfl ?_ | refine T.seq ?_
 ·exact absurd h1 hk
 ·have hr : ownM e = (decide (e.name = []) && (decide (0 <= e.num) && decide (e.num <= 999)) && noTyM e.ty && (noTyM e.fr && decide (e.label = 0))) := by simp [ownM, h1, namedM, typedM, inM]
  have hn0 : e.name = [] -> nameM e.name = false := fun h => by rw [h]; rfl
  rw [hr]
  by_cases hne : e.name = []
  ·rw [hn0 hne, hne] at hnm
   refine ACalls.of_body Tryz.func208 (by kernel_rfl) rfl (by kernel_rfl) (by simp [Tryz.ntmps208]) (by simp) ?_
   rw [Tryz.ntmps208]
   repeat' first | (refine aops_end (hK _ ?_); clear hK K) | (refine aops_go ?_; simp [h1, hne]; (try (refine gen fun q hq => ?_; cases q <;> (try simp [h1, hne] at hq) <;> (try (have hh : True := hq; clear hh hq))))) | (refine wpcall_pure rfl (hnm) ?_; simp [h1, hne]; (try first | (refine Ops.gen fun q hq => ?_; cases q <;> (try simp [h1, hne] at hq) <;> (try (have hh : True := hq; clear hh hq))) | (refine OpsD.gen fun q hq => ?_; cases q <;> (try simp [h1, hne] at hq) <;> (try (have hh : True := hq; clear hh hq))))) | (refine wpcall_pure rfl (hnt) ?_; simp [h1, hne]; (try first | (refine Ops.gen fun q hq => ?_; cases q <;> (try simp [h1, hne] at hq) <;> (try (have hh : True := hq; clear hh hq))) | (refine OpsD.gen fun q hq => ?_; cases q <;> (try simp [h1, hne] at hq) <;> (try (have hh : True := hq; clear hh hq))))) | (refine wpcall_pure rfl (hnf) ?_; simp [h1, hne]; (try first | (refine Ops.gen fun q hq => ?_; cases q <;> (try simp [h1, hne] at hq) <;> (try (have hh : True := hq; clear hh hq))) | (refine OpsD.gen fun q hq => ?_; cases q <;> (try simp [h1, hne] at hq) <;> (try (have hh : True := hq; clear hh hq))))) | (refine T.ret (Done.data (Or.inr rfl) ?_ ?_) <;> simp [Tryz.results208, *] <;> omega) | refine T.r0 fun K hK => ?_ | refine T.ct rfl ?_ | refine T.cf rfl ?_ | refine T.seq ?_ | refine T.skip ?_
  ·generalize nameM e.name = nb at hnm
   refine ACalls.of_body Tryz.func208 (by kernel_rfl) rfl (by kernel_rfl) (by simp [Tryz.ntmps208]) (by simp) ?_
   rw [Tryz.ntmps208]
   repeat' first | (refine aops_end (hK _ ?_); clear hK K) | (refine aops_go ?_; simp [h1, hne]; (try (refine gen fun q hq => ?_; cases q <;> (try simp [h1, hne] at hq) <;> (try (have hh : True := hq; clear hh hq))))) | (refine wpcall_pure rfl (hnm) ?_; simp [h1, hne]; (try first | (refine Ops.gen fun q hq => ?_; cases q <;> (try simp [h1, hne] at hq) <;> (try (have hh : True := hq; clear hh hq))) | (refine OpsD.gen fun q hq => ?_; cases q <;> (try simp [h1, hne] at hq) <;> (try (have hh : True := hq; clear hh hq))))) | (refine T.ret (Done.data (Or.inr rfl) ?_ ?_) <;> simp [Tryz.results208, *] <;> omega) | refine T.r0 fun K hK => ?_ | refine T.ct rfl ?_ | refine T.seq ?_
 ·have hr : ownM e = (decide (e.name = []) && decide (e.num = 0) && noTyM e.ty && (noTyM e.fr && decide (e.label = 0))) := by simp [ownM, h1, h2, h3, h4, h5, namedM, typedM, in00]
  have hn0 : e.name = [] -> nameM e.name = false := fun h => by rw [h]; rfl
  rw [hr]
  by_cases hne : e.name = []
  ·rw [hn0 hne, hne] at hnm
   refine ACalls.of_body Tryz.func208 (by kernel_rfl) rfl (by kernel_rfl) (by simp [Tryz.ntmps208]) (by simp) ?_
   rw [Tryz.ntmps208]
   repeat' first | (refine aops_end (hK _ ?_); clear hK K) | (refine aops_go ?_; simp [h1, h2, h3, h4, h5, hne]; (try (refine gen fun q hq => ?_; cases q <;> (try simp [h1, h2, h3, h4, h5, hne] at hq) <;> (try (have hh : True := hq; clear hh hq))))) | (refine wpcall_pure rfl (hnm) ?_; simp [h1, h2, h3, h4, h5, hne]; (try first | (refine Ops.gen fun q hq => ?_; cases q <;> (try simp [h1, h2, h3, h4, h5, hne] at hq) <;> (try (have hh : True := hq; clear hh hq))) | (refine OpsD.gen fun q hq => ?_; cases q <;> (try simp [h1, h2, h3, h4, h5, hne] at hq) <;> (try (have hh : True := hq; clear hh hq))))) | (refine wpcall_pure rfl (hnt) ?_; simp [h1, h2, h3, h4, h5, hne]; (try first | (refine Ops.gen fun q hq => ?_; cases q <;> (try simp [h1, h2, h3, h4, h5, hne] at hq) <;> (try (have hh : True := hq; clear hh hq))) | (refine OpsD.gen fun q hq => ?_; cases q <;> (try simp [h1, h2, h3, h4, h5, hne] at hq) <;> (try (have hh : True := hq; clear hh hq))))) | (refine wpcall_pure rfl (hnf) ?_; simp [h1, h2, h3, h4, h5, hne]; (try first | (refine Ops.gen fun q hq => ?_; cases q <;> (try simp [h1, h2, h3, h4, h5, hne] at hq) <;> (try (have hh : True := hq; clear hh hq))) | (refine OpsD.gen fun q hq => ?_; cases q <;> (try simp [h1, h2, h3, h4, h5, hne] at hq) <;> (try (have hh : True := hq; clear hh hq))))) | (refine T.ret (Done.data (Or.inr rfl) ?_ ?_) <;> simp [Tryz.results208, *] <;> omega) | refine T.r0 fun K hK => ?_ | refine T.ct rfl ?_ | refine T.cf rfl ?_ | refine T.seq ?_ | refine T.skip ?_
  ·generalize nameM e.name = nb at hnm
   refine ACalls.of_body Tryz.func208 (by kernel_rfl) rfl (by kernel_rfl) (by simp [Tryz.ntmps208]) (by simp) ?_
   rw [Tryz.ntmps208]
   repeat' first | (refine aops_end (hK _ ?_); clear hK K) | (refine aops_go ?_; simp [h1, h2, h3, h4, h5, hne]; (try (refine gen fun q hq => ?_; cases q <;> (try simp [h1, h2, h3, h4, h5, hne] at hq) <;> (try (have hh : True := hq; clear hh hq))))) | (refine wpcall_pure rfl (hnm) ?_; simp [h1, h2, h3, h4, h5, hne]; (try first | (refine Ops.gen fun q hq => ?_; cases q <;> (try simp [h1, h2, h3, h4, h5, hne] at hq) <;> (try (have hh : True := hq; clear hh hq))) | (refine OpsD.gen fun q hq => ?_; cases q <;> (try simp [h1, h2, h3, h4, h5, hne] at hq) <;> (try (have hh : True := hq; clear hh hq))))) | (refine T.ret (Done.data (Or.inr rfl) ?_ ?_) <;> simp [Tryz.results208, *] <;> omega) | refine T.r0 fun K hK => ?_ | refine T.ct rfl ?_ | refine T.seq ?_

theorem nodeOk_ok (e : MTm) (hl : e.kids.length <= 1099511627776) (ht : nTy e.ty <= 1099511627776) (hf : nTy e.fr <= 1099511627776) : ACalls Tryz.prog 206 [aTm e] [] (.b (nodeM e)) [] [] := by
 have hop := operands_ok e.kind
 have hnm := isName_ok e.name
 have hty := TypeValid_ok e.ty ht
 have hnt := isNoType_ok e.ty
 have hnf := isNoType_ok e.fr
 have hcon := Consistent_ok e.fr e.ty hf ht
 have hlab := isLabel_ok e.label
 have hin0 := inM_ok e.num 0 0
 have hin9 := inM_ok e.num 0 999
 by_cases hkid : kidsM e.kind = e.kids.length
 rotate_left
 ·rw [show nodeM e = false by simp [nodeM, hkid]]
  refine ACalls.of_body Tryz.func206 (by kernel_rfl) rfl (by kernel_rfl) (by simp [Tryz.ntmps206]) (by simp) ?_
  rw [Tryz.ntmps206]
  repeat' first | ((first | refine aops_end (hK _ ?_) | refine aopsD_end (hK _ ?_)); clear hK K) | ((first | refine aops_go ?_ | refine aopsD_go ?_); simp [hkid]; (try (refine gen fun q hq => ?_; cases q <;> (try simp [hkid] at hq) <;> (try (have hh : True := hq; clear hh hq))))) | (refine wpcall_pure rfl (hop) ?_; simp [hkid]; (try first | (refine Ops.gen fun q hq => ?_; cases q <;> (try simp [hkid] at hq) <;> (try (have hh : True := hq; clear hh hq))) | (refine OpsD.gen fun q hq => ?_; cases q <;> (try simp [hkid] at hq) <;> (try (have hh : True := hq; clear hh hq))))) | (refine T.ret (Done.data (Or.inr rfl) ?_ ?_) <;> simp [Tryz.results206] <;> omega) | refine T.r0 fun K hK => ?_ | refine T.rd mixed (fun _ => false) [] (by kernel_rfl) fun K hK => ?_ | refine T.ct rfl ?_ | refine T.seq ?_
 rw [show nodeM e = ownM e by simp [nodeM, hkid]]
 rw [hkid] at hop
 rcases kind_cases e.kind with h1 | h1 | h1 | h1 | h1 | ⟨h1, h2, h3, h4, h5⟩
 ·have hr : ownM e = (nameM e.name && inM e.num 0 0 && noTyM e.ty && (noTyM e.fr && decide (e.label = 0))) := by simp [ownM, h1, namedM, typedM]
  rw [hr]
  rw [h1] at hop
  generalize inM e.num 0 0 = i0 at hin0
  refine ACalls.of_body Tryz.func206 (by kernel_rfl) rfl (by kernel_rfl) (by simp [Tryz.ntmps206]) (by simp) ?_
  rw [Tryz.ntmps206]
  repeat' first | ((first | refine aops_end (hK _ ?_) | refine aopsD_end (hK _ ?_)); clear hK K) | ((first | refine aops_go ?_ | refine aopsD_go ?_); simp [h1]; (try (refine gen fun q hq => ?_; cases q <;> (try simp [h1] at hq) <;> (try (have hh : True := hq; clear hh hq))))) | (refine wpcall_pure rfl (hop) ?_; simp [h1]; (try first | (refine Ops.gen fun q hq => ?_; cases q <;> (try simp [h1] at hq) <;> (try (have hh : True := hq; clear hh hq))) | (refine OpsD.gen fun q hq => ?_; cases q <;> (try simp [h1] at hq) <;> (try (have hh : True := hq; clear hh hq))))) | (refine wpcall_pure rfl (hnm) ?_; simp [h1]; (try first | (refine Ops.gen fun q hq => ?_; cases q <;> (try simp [h1] at hq) <;> (try (have hh : True := hq; clear hh hq))) | (refine OpsD.gen fun q hq => ?_; cases q <;> (try simp [h1] at hq) <;> (try (have hh : True := hq; clear hh hq))))) | (refine wpcall_pure rfl (hin0) ?_; simp [h1]; (try first | (refine Ops.gen fun q hq => ?_; cases q <;> (try simp [h1] at hq) <;> (try (have hh : True := hq; clear hh hq))) | (refine OpsD.gen fun q hq => ?_; cases q <;> (try simp [h1] at hq) <;> (try (have hh : True := hq; clear hh hq))))) | (refine wpcall_pure rfl (hnt) ?_; simp [h1]; (try first | (refine Ops.gen fun q hq => ?_; cases q <;> (try simp [h1] at hq) <;> (try (have hh : True := hq; clear hh hq))) | (refine OpsD.gen fun q hq => ?_; cases q <;> (try simp [h1] at hq) <;> (try (have hh : True := hq; clear hh hq))))) | (refine wpcall_pure rfl (hnf) ?_; simp [h1]; (try first | (refine Ops.gen fun q hq => ?_; cases q <;> (try simp [h1] at hq) <;> (try (have hh : True := hq; clear hh hq))) | (refine OpsD.gen fun q hq => ?_; cases q <;> (try simp [h1] at hq) <;> (try (have hh : True := hq; clear hh hq))))) | (refine T.ret (Done.data (Or.inr rfl) ?_ ?_) <;> simp [Tryz.results206, *] <;> omega) | refine T.r0 fun K hK => ?_ | refine T.r1 fun K hK => ?_ | refine T.rd mixed (fun _ => false) [] (by kernel_rfl) fun K hK => ?_ | refine T.ct rfl ?_ | refine T.cf rfl ?_ | refine T.seq ?_ | refine T.block ?_ | refine T.skip ?_
 ·have hr : ownM e = (nameM e.name && inM e.num 0 0 && shapeTy 4 e.ty && (noTyM e.fr && decide (e.label = 0))) := by simp [ownM, h1, namedM, typedM]
  rw [hr]
  rw [h1] at hop
  generalize inM e.num 0 0 = i0 at hin0
  refine ACalls.of_body Tryz.func206 (by kernel_rfl) rfl (by kernel_rfl) (by simp [Tryz.ntmps206]) (by simp) ?_
  rw [Tryz.ntmps206]
  repeat' first | ((first | refine aops_end (hK _ ?_) | refine aopsD_end (hK _ ?_)); clear hK K) | ((first | refine aops_go ?_ | refine aopsD_go ?_); simp [h1]; (try (refine gen fun q hq => ?_; cases q <;> (try simp [h1] at hq) <;> (try (have hh : True := hq; clear hh hq))))) | (refine wpcall_pure rfl (hop) ?_; simp [h1]; (try first | (refine Ops.gen fun q hq => ?_; cases q <;> (try simp [h1] at hq) <;> (try (have hh : True := hq; clear hh hq))) | (refine OpsD.gen fun q hq => ?_; cases q <;> (try simp [h1] at hq) <;> (try (have hh : True := hq; clear hh hq))))) | (refine wpcall_pure rfl (hnm) ?_; simp [h1]; (try first | (refine Ops.gen fun q hq => ?_; cases q <;> (try simp [h1] at hq) <;> (try (have hh : True := hq; clear hh hq))) | (refine OpsD.gen fun q hq => ?_; cases q <;> (try simp [h1] at hq) <;> (try (have hh : True := hq; clear hh hq))))) | (refine wpcall_pure rfl (hin0) ?_; simp [h1]; (try first | (refine Ops.gen fun q hq => ?_; cases q <;> (try simp [h1] at hq) <;> (try (have hh : True := hq; clear hh hq))) | (refine OpsD.gen fun q hq => ?_; cases q <;> (try simp [h1] at hq) <;> (try (have hh : True := hq; clear hh hq))))) | (refine wpcall_pure rfl (hty) ?_; simp [h1]; (try first | (refine Ops.gen fun q hq => ?_; cases q <;> (try simp [h1] at hq) <;> (try (have hh : True := hq; clear hh hq))) | (refine OpsD.gen fun q hq => ?_; cases q <;> (try simp [h1] at hq) <;> (try (have hh : True := hq; clear hh hq))))) | (refine wpcall_pure rfl (hnf) ?_; simp [h1]; (try first | (refine Ops.gen fun q hq => ?_; cases q <;> (try simp [h1] at hq) <;> (try (have hh : True := hq; clear hh hq))) | (refine OpsD.gen fun q hq => ?_; cases q <;> (try simp [h1] at hq) <;> (try (have hh : True := hq; clear hh hq))))) | (refine T.ret (Done.data (Or.inr rfl) ?_ ?_) <;> simp [Tryz.results206, *] <;> omega) | refine T.r0 fun K hK => ?_ | refine T.r1 fun K hK => ?_ | refine T.rd mixed (fun _ => false) [] (by kernel_rfl) fun K hK => ?_ | refine T.ct rfl ?_ | refine T.cf rfl ?_ | refine T.seq ?_ | refine T.block ?_ | refine T.skip ?_
 ·have hr : ownM e = (decide (e.name = []) && inM e.num 0 0 && shapeTy 4 e.ty && (noTyM e.fr && decide (e.label = 0))) := by simp [ownM, h1, namedM, typedM]
  rw [hr]
  rw [h1] at hop
  generalize inM e.num 0 0 = i0 at hin0
  refine ACalls.of_body Tryz.func206 (by kernel_rfl) rfl (by kernel_rfl) (by simp [Tryz.ntmps206]) (by simp) ?_
  rw [Tryz.ntmps206]
  repeat' first | ((first | refine aops_end (hK _ ?_) | refine aopsD_end (hK _ ?_)); clear hK K) | ((first | refine aops_go ?_ | refine aopsD_go ?_); simp [h1]; (try (refine gen fun q hq => ?_; cases q <;> (try simp [h1] at hq) <;> (try (have hh : True := hq; clear hh hq))))) | (refine wpcall_pure rfl (hop) ?_; simp [h1]; (try first | (refine Ops.gen fun q hq => ?_; cases q <;> (try simp [h1] at hq) <;> (try (have hh : True := hq; clear hh hq))) | (refine OpsD.gen fun q hq => ?_; cases q <;> (try simp [h1] at hq) <;> (try (have hh : True := hq; clear hh hq))))) | (refine wpcall_pure rfl (hin0) ?_; simp [h1]; (try first | (refine Ops.gen fun q hq => ?_; cases q <;> (try simp [h1] at hq) <;> (try (have hh : True := hq; clear hh hq))) | (refine OpsD.gen fun q hq => ?_; cases q <;> (try simp [h1] at hq) <;> (try (have hh : True := hq; clear hh hq))))) | (refine wpcall_pure rfl (hty) ?_; simp [h1]; (try first | (refine Ops.gen fun q hq => ?_; cases q <;> (try simp [h1] at hq) <;> (try (have hh : True := hq; clear hh hq))) | (refine OpsD.gen fun q hq => ?_; cases q <;> (try simp [h1] at hq) <;> (try (have hh : True := hq; clear hh hq))))) | (refine wpcall_pure rfl (hnf) ?_; simp [h1]; (try first | (refine Ops.gen fun q hq => ?_; cases q <;> (try simp [h1] at hq) <;> (try (have hh : True := hq; clear hh hq))) | (refine OpsD.gen fun q hq => ?_; cases q <;> (try simp [h1] at hq) <;> (try (have hh : True := hq; clear hh hq))))) | (refine T.ret (Done.data (Or.inr rfl) ?_ ?_) <;> simp [Tryz.results206, *] <;> omega) | refine T.r0 fun K hK => ?_ | refine T.r1 fun K hK => ?_ | refine T.rd mixed (fun _ => false) [] (by kernel_rfl) fun K hK => ?_ | refine T.ct rfl ?_ | refine T.cf rfl ?_ | refine T.seq ?_ | refine T.block ?_ | refine T.skip ?_
 ·have hr : ownM e = (decide (e.name = []) && inM e.num 0 0 && shapeTy 4 e.ty && ((shapeTy 4 e.fr && shapeTy 4 e.ty && consTy e.fr e.ty) && labM e.label)) := by simp [ownM, h1, namedM, typedM, castOwnM]
  rw [hr]
  rw [h1] at hop
  generalize inM e.num 0 0 = i0 at hin0
  generalize hg1 : (shapeTy 4 e.fr && shapeTy 4 e.ty && consTy e.fr e.ty) = g1 at hcon
  generalize labM e.label = g2 at hlab
  refine ACalls.of_body Tryz.func206 (by kernel_rfl) rfl (by kernel_rfl) (by simp [Tryz.ntmps206]) (by simp) ?_
  rw [Tryz.ntmps206]
  repeat' first | ((first | refine aops_end (hK _ ?_) | refine aopsD_end (hK _ ?_)); clear hK K) | ((first | refine aops_go ?_ | refine aopsD_go ?_); simp [h1]; (try (refine gen fun q hq => ?_; cases q <;> (try simp [h1] at hq) <;> (try (have hh : True := hq; clear hh hq))))) | (refine wpcall_pure rfl (hop) ?_; simp [h1]; (try first | (refine Ops.gen fun q hq => ?_; cases q <;> (try simp [h1] at hq) <;> (try (have hh : True := hq; clear hh hq))) | (refine OpsD.gen fun q hq => ?_; cases q <;> (try simp [h1] at hq) <;> (try (have hh : True := hq; clear hh hq))))) | (refine wpcall_pure rfl (hin0) ?_; simp [h1]; (try first | (refine Ops.gen fun q hq => ?_; cases q <;> (try simp [h1] at hq) <;> (try (have hh : True := hq; clear hh hq))) | (refine OpsD.gen fun q hq => ?_; cases q <;> (try simp [h1] at hq) <;> (try (have hh : True := hq; clear hh hq))))) | (refine wpcall_pure rfl (hty) ?_; simp [h1]; (try first | (refine Ops.gen fun q hq => ?_; cases q <;> (try simp [h1] at hq) <;> (try (have hh : True := hq; clear hh hq))) | (refine OpsD.gen fun q hq => ?_; cases q <;> (try simp [h1] at hq) <;> (try (have hh : True := hq; clear hh hq))))) | (refine wpcall_pure rfl (hcon) ?_; simp [h1]; (try first | (refine Ops.gen fun q hq => ?_; cases q <;> (try simp [h1] at hq) <;> (try (have hh : True := hq; clear hh hq))) | (refine OpsD.gen fun q hq => ?_; cases q <;> (try simp [h1] at hq) <;> (try (have hh : True := hq; clear hh hq))))) | (refine wpcall_pure rfl (hlab) ?_; simp [h1]; (try first | (refine Ops.gen fun q hq => ?_; cases q <;> (try simp [h1] at hq) <;> (try (have hh : True := hq; clear hh hq))) | (refine OpsD.gen fun q hq => ?_; cases q <;> (try simp [h1] at hq) <;> (try (have hh : True := hq; clear hh hq))))) | (refine T.ret (Done.data (Or.inr rfl) ?_ ?_) <;> simp [Tryz.results206, *] <;> omega) | refine T.r0 fun K hK => ?_ | refine T.r1 fun K hK => ?_ | refine T.rd mixed (fun _ => false) [] (by kernel_rfl) fun K hK => ?_ | refine T.ct rfl ?_ | refine T.cf rfl ?_ | refine T.seq ?_ | refine T.block ?_ | refine T.skip ?_
 ·have hr : ownM e = (decide (e.name = []) && inM e.num 0 999 && noTyM e.ty && (noTyM e.fr && decide (e.label = 0))) := by simp [ownM, h1, namedM, typedM]
  rw [hr]
  rw [h1] at hop
  generalize inM e.num 0 999 = i0 at hin9
  refine ACalls.of_body Tryz.func206 (by kernel_rfl) rfl (by kernel_rfl) (by simp [Tryz.ntmps206]) (by simp) ?_
  rw [Tryz.ntmps206]
  repeat' first | ((first | refine aops_end (hK _ ?_) | refine aopsD_end (hK _ ?_)); clear hK K) | ((first | refine aops_go ?_ | refine aopsD_go ?_); simp [h1]; (try (refine gen fun q hq => ?_; cases q <;> (try simp [h1] at hq) <;> (try (have hh : True := hq; clear hh hq))))) | (refine wpcall_pure rfl (hop) ?_; simp [h1]; (try first | (refine Ops.gen fun q hq => ?_; cases q <;> (try simp [h1] at hq) <;> (try (have hh : True := hq; clear hh hq))) | (refine OpsD.gen fun q hq => ?_; cases q <;> (try simp [h1] at hq) <;> (try (have hh : True := hq; clear hh hq))))) | (refine wpcall_pure rfl (hin9) ?_; simp [h1]; (try first | (refine Ops.gen fun q hq => ?_; cases q <;> (try simp [h1] at hq) <;> (try (have hh : True := hq; clear hh hq))) | (refine OpsD.gen fun q hq => ?_; cases q <;> (try simp [h1] at hq) <;> (try (have hh : True := hq; clear hh hq))))) | (refine wpcall_pure rfl (hnt) ?_; simp [h1]; (try first | (refine Ops.gen fun q hq => ?_; cases q <;> (try simp [h1] at hq) <;> (try (have hh : True := hq; clear hh hq))) | (refine OpsD.gen fun q hq => ?_; cases q <;> (try simp [h1] at hq) <;> (try (have hh : True := hq; clear hh hq))))) | (refine wpcall_pure rfl (hnf) ?_; simp [h1]; (try first | (refine Ops.gen fun q hq => ?_; cases q <;> (try simp [h1] at hq) <;> (try (have hh : True := hq; clear hh hq))) | (refine OpsD.gen fun q hq => ?_; cases q <;> (try simp [h1] at hq) <;> (try (have hh : True := hq; clear hh hq))))) | (refine T.ret (Done.data (Or.inr rfl) ?_ ?_) <;> simp [Tryz.results206, *] <;> omega) | refine T.r0 fun K hK => ?_ | refine T.r1 fun K hK => ?_ | refine T.rd mixed (fun _ => false) [] (by kernel_rfl) fun K hK => ?_ | refine T.ct rfl ?_ | refine T.cf rfl ?_ | refine T.seq ?_ | refine T.block ?_ | refine T.skip ?_
 ·have hr : ownM e = (decide (e.name = []) && inM e.num 0 0 && noTyM e.ty && (noTyM e.fr && decide (e.label = 0))) := by simp [ownM, h1, h2, h3, h4, h5, namedM, typedM]
  rw [hr]
  generalize inM e.num 0 0 = i0 at hin0
  refine ACalls.of_body Tryz.func206 (by kernel_rfl) rfl (by kernel_rfl) (by simp [Tryz.ntmps206]) (by simp) ?_
  rw [Tryz.ntmps206]
  repeat' first | ((first | refine aops_end (hK _ ?_) | refine aopsD_end (hK _ ?_)); clear hK K) | ((first | refine aops_go ?_ | refine aopsD_go ?_); simp [h1, h2, h3, h4, h5]; (try (refine gen fun q hq => ?_; cases q <;> (try simp [h1, h2, h3, h4, h5] at hq) <;> (try (have hh : True := hq; clear hh hq))))) | (refine wpcall_pure rfl (hop) ?_; simp [h1, h2, h3, h4, h5]; (try first | (refine Ops.gen fun q hq => ?_; cases q <;> (try simp [h1, h2, h3, h4, h5] at hq) <;> (try (have hh : True := hq; clear hh hq))) | (refine OpsD.gen fun q hq => ?_; cases q <;> (try simp [h1, h2, h3, h4, h5] at hq) <;> (try (have hh : True := hq; clear hh hq))))) | (refine wpcall_pure rfl (hin0) ?_; simp [h1, h2, h3, h4, h5]; (try first | (refine Ops.gen fun q hq => ?_; cases q <;> (try simp [h1, h2, h3, h4, h5] at hq) <;> (try (have hh : True := hq; clear hh hq))) | (refine OpsD.gen fun q hq => ?_; cases q <;> (try simp [h1, h2, h3, h4, h5] at hq) <;> (try (have hh : True := hq; clear hh hq))))) | (refine wpcall_pure rfl (hnt) ?_; simp [h1, h2, h3, h4, h5]; (try first | (refine Ops.gen fun q hq => ?_; cases q <;> (try simp [h1, h2, h3, h4, h5] at hq) <;> (try (have hh : True := hq; clear hh hq))) | (refine OpsD.gen fun q hq => ?_; cases q <;> (try simp [h1, h2, h3, h4, h5] at hq) <;> (try (have hh : True := hq; clear hh hq))))) | (refine wpcall_pure rfl (hnf) ?_; simp [h1, h2, h3, h4, h5]; (try first | (refine Ops.gen fun q hq => ?_; cases q <;> (try simp [h1, h2, h3, h4, h5] at hq) <;> (try (have hh : True := hq; clear hh hq))) | (refine OpsD.gen fun q hq => ?_; cases q <;> (try simp [h1, h2, h3, h4, h5] at hq) <;> (try (have hh : True := hq; clear hh hq))))) | (refine T.ret (Done.data (Or.inr rfl) ?_ ?_) <;> simp [Tryz.results206, *] <;> omega) | refine T.r0 fun K hK => ?_ | refine T.r1 fun K hK => ?_ | refine T.rd mixed (fun _ => false) [] (by kernel_rfl) fun K hK => ?_ | refine T.ct rfl ?_ | refine T.cf rfl ?_ | refine T.seq ?_ | refine T.block ?_ | refine T.skip ?_
end Go.Proofs.YtflmjilnecanhaaGreatDoor

namespace Go.Proofs.YtflmjilnecanhaaGreatDoor
attribute [-simp] Go.Av.freeStep Go.Av.exV Go.Av.keepL Go.Av.ups Go.Av.take_app_len Go.Av.innVs Go.Av.putBack Go.Av.objCells Go.Av.back Go.Av.resVs Go.Av.one Go.Av.freeStepG Go.Av.exA Go.Av.innAsH Go.Av.AV.innH Go.Av.CV.innH Go.Av.innHs Go.Av.AV.outnH Go.Av.CV.outnH
open Go Go.Av
attribute [local irreducible] T ACalls eTy eTm MTy.kind MTy.kids MTm.kind MTm.name MTm.num MTm.ty MTm.fr MTm.label MTm.kids
attribute [local simp] eTy_def eTm_def
set_option maxHeartbeats 4000000

theorem nTm_parts {e : MTm} (h : nTm e <= 1099511627776) : nTy e.ty <= 1099511627776 /\ nTy e.fr <= 1099511627776 /\ e.kids.length <= 1099511627776 /\ ∀ u ∈ e.kids, nTm u <= 1099511627776 := by
 rw [nTm_def] at h
 have := nTmS_len e.kids
 exact ⟨by omega, by omega, by omega, fun u hu => by have := nTmS_mem hu; omega⟩

theorem l4Shape_ok : ∀ (d : Nat) (e : MTm), d <= 1000 -> nTm e <= 1099511627776 -> ACalls Tryz.prog 214 [aTm e, .i d] [] (.b (shapeTm 13 d e)) [] []
 | 0, e, _, _ => by
  refine ACalls.of_body Tryz.func214 (by kernel_rfl) rfl (by kernel_rfl) (by simp [Tryz.ntmps214]) (by simp) ?_
  rw [Tryz.ntmps214]
  repeat' first | ((first | refine aops_end (hK _ ?_) | refine aopsD_end (hK _ ?_)); clear hK K) | ((first | refine aops_go ?_ | refine aopsD_go ?_); simp; (try (refine gen fun q hq => ?_; cases q <;> (try simp at hq) <;> (try (have hh : True := hq; clear hh hq))))) | (refine T.ret (Done.data (Or.inr rfl) ?_ ?_) <;> simp [Tryz.results214, shapeTm] <;> omega) | refine T.r0 fun K hK => ?_ | refine T.rd mixed (fun _ => false) [] (by kernel_rfl) fun K hK => ?_ | refine T.ct rfl ?_ | refine T.seq ?_
 | d + 1, e, hd, hn => by
  obtain ⟨hnt, hnf, hnk, hnu⟩ := nTm_parts hn
  have hkids := l2Kids_ok e.kind
  have hd1 : ¬ ((d : Int) + 1 < 1) := by omega
  have hsh : shapeTm 13 (d + 1) e = (decide (e.kind ≠ 13) && (decide (kidsM e.kind = e.kids.length) && ownM e) && e.kids.all (shapeTm 13 d)) := rfl
  by_cases hk13 : e.kind = 13
  ·rw [hk13] at hkids
   rw [show shapeTm 13 (d + 1) e = false by rw [hsh]; simp [hk13]]
   refine ACalls.of_body Tryz.func214 (by kernel_rfl) rfl (by kernel_rfl) (by simp [Tryz.ntmps214]) (by simp) ?_
   rw [Tryz.ntmps214]
   repeat' first | ((first | refine aops_end (hK _ ?_) | refine aopsD_end (hK _ ?_)); clear hK K) | ((first | refine aops_go ?_ | refine aopsD_go ?_); simp [hd1, hk13]; (try (refine gen fun q hq => ?_; cases q <;> (try simp [hd1, hk13] at hq) <;> (try (have hh : True := hq; clear hh hq))))) | (refine wpcall_pure rfl (hkids) ?_; simp [hd1, hk13]; (try first | (refine Ops.gen fun q hq => ?_; cases q <;> (try simp [hd1, hk13] at hq) <;> (try (have hh : True := hq; clear hh hq))) | (refine OpsD.gen fun q hq => ?_; cases q <;> (try simp [hd1, hk13] at hq) <;> (try (have hh : True := hq; clear hh hq))))) | (refine T.ret (Done.data (Or.inr rfl) ?_ ?_) <;> simp [Tryz.results214] <;> omega) | refine T.r0 fun K hK => ?_ | refine T.rd mixed (fun _ => false) [] (by kernel_rfl) fun K hK => ?_ | refine T.ct rfl ?_ | refine T.seq ?_
  by_cases hlen : kidsM e.kind = e.kids.length
  rotate_left
  ·rw [show shapeTm 13 (d + 1) e = false by rw [hsh]; simp [hlen]]
   refine ACalls.of_body Tryz.func214 (by kernel_rfl) rfl (by kernel_rfl) (by simp [Tryz.ntmps214]) (by simp) ?_
   rw [Tryz.ntmps214]
   repeat' first | ((first | refine aops_end (hK _ ?_) | refine aopsD_end (hK _ ?_)); clear hK K) | ((first | refine aops_go ?_ | refine aopsD_go ?_); simp [hd1, hlen]; (try (refine gen fun q hq => ?_; cases q <;> (try simp [hd1, hlen] at hq) <;> (try (have hh : True := hq; clear hh hq))))) | (refine wpcall_pure rfl (hkids) ?_; simp [hd1, hlen]; (try first | (refine Ops.gen fun q hq => ?_; cases q <;> (try simp [hd1, hlen] at hq) <;> (try (have hh : True := hq; clear hh hq))) | (refine OpsD.gen fun q hq => ?_; cases q <;> (try simp [hd1, hlen] at hq) <;> (try (have hh : True := hq; clear hh hq))))) | (refine T.ret (Done.data (Or.inr rfl) ?_ ?_) <;> simp [Tryz.results214] <;> omega) | refine T.r0 fun K hK => ?_ | refine T.rd mixed (fun _ => false) [] (by kernel_rfl) fun K hK => ?_ | refine T.ct rfl ?_ | refine T.seq ?_
  rw [hlen] at hkids
  have hsh2 : shapeTm 13 (d + 1) e = (ownM e && e.kids.all (shapeTm 13 d)) := by rw [hsh]; simp [hk13, hlen]
  obtain ⟨R, hR⟩ : ∃ R, e.kids.all (shapeTm 13 d) = R := ⟨_, rfl⟩
  obtain ⟨O, hO⟩ : ∃ O, ownM e = O := ⟨_, rfl⟩
  rw [hsh2, hR, hO]
  have h14 : e.kind = 14 -> ACalls Tryz.prog 254 [aTm e] [] (.b O) [] [] := fun h => by rw [<- hO]; exact l4Own_ok e h hnt hnf
  have hno : ¬ e.kind = 14 -> ACalls Tryz.prog 208 [aTm e] [] (.b O) [] [] := fun h => by rw [<- hO]; exact l2Own_ok e h hnt
  clear hsh hsh2
  by_cases hk14 : e.kind = 14
  ·have hown := h14 hk14
   rw [hk14] at hkids
   cases O
   ·refine ACalls.of_body Tryz.func214 (by kernel_rfl) rfl (by kernel_rfl) (by simp [Tryz.ntmps214]) (by simp) ?_
    rw [Tryz.ntmps214]
    repeat' first | ((first | refine aops_end (hK _ ?_) | refine aopsD_end (hK _ ?_)); clear hK K) | ((first | refine aops_go ?_ | refine aopsD_go ?_); simp [hd1, hk13, hk14]; (try (refine gen fun q hq => ?_; cases q <;> (try simp [hd1, hk13, hk14] at hq) <;> (try (have hh : True := hq; clear hh hq))))) | (refine wpcall_pure rfl (hkids) ?_; simp [hd1, hk13, hk14]; (try first | (refine Ops.gen fun q hq => ?_; cases q <;> (try simp [hd1, hk13, hk14] at hq) <;> (try (have hh : True := hq; clear hh hq))) | (refine OpsD.gen fun q hq => ?_; cases q <;> (try simp [hd1, hk13, hk14] at hq) <;> (try (have hh : True := hq; clear hh hq))))) | (refine wpcall_pure (by simp [hd1, hk13, hk14]) (hown) ?_; simp [hd1, hk13, hk14]; (try first | (refine Ops.gen fun q hq => ?_; cases q <;> (try simp [hd1, hk13, hk14] at hq) <;> (try (have hh : True := hq; clear hh hq))) | (refine OpsD.gen fun q hq => ?_; cases q <;> (try simp [hd1, hk13, hk14] at hq) <;> (try (have hh : True := hq; clear hh hq))))) | (refine T.ret (Done.data (Or.inr rfl) ?_ ?_) <;> simp [Tryz.results214] <;> omega) | refine T.r0 fun K hK => ?_ | refine T.rd mixed (fun _ => false) [] (by kernel_rfl) fun K hK => ?_ | refine T.ct rfl ?_ | refine T.seq ?_
   refine ACalls.of_body Tryz.func214 (by kernel_rfl) rfl (by kernel_rfl) (by simp [Tryz.ntmps214]) (by simp) ?_
   rw [Tryz.ntmps214]
   repeat' first | ((first | refine aops_end (hK _ ?_) | refine aopsD_end (hK _ ?_)); clear hK K) | ((first | refine aops_go ?_ | refine aopsD_go ?_); simp [hd1, hk13, hk14]; (try (refine gen fun q hq => ?_; cases q <;> (try simp [hd1, hk13, hk14] at hq) <;> (try (have hh : True := hq; clear hh hq))))) | (refine wpcall_pure rfl (hkids) ?_; simp [hd1, hk13, hk14]; (try first | (refine Ops.gen fun q hq => ?_; cases q <;> (try simp [hd1, hk13, hk14] at hq) <;> (try (have hh : True := hq; clear hh hq))) | (refine OpsD.gen fun q hq => ?_; cases q <;> (try simp [hd1, hk13, hk14] at hq) <;> (try (have hh : True := hq; clear hh hq))))) | (refine wpcall_pure (by simp [hd1, hk13, hk14]) (hown) ?_; simp [hd1, hk13, hk14]; (try first | (refine Ops.gen fun q hq => ?_; cases q <;> (try simp [hd1, hk13, hk14] at hq) <;> (try (have hh : True := hq; clear hh hq))) | (refine OpsD.gen fun q hq => ?_; cases q <;> (try simp [hd1, hk13, hk14] at hq) <;> (try (have hh : True := hq; clear hh hq))))) | refine T.r0 fun K hK => ?_ | refine T.rd mixed (fun _ => false) [] (by kernel_rfl) fun K hK => ?_ | refine T.cf rfl ?_ | refine T.seq ?_ | refine T.block ?_ | refine T.skip ?_
   rw [Bool.true_and]
   refine T.loopF (fun p : Nat => ⟨[(1, .i (d + 1)), (2, .c (.ptr 0 0)), (5, .i p)], [(aTm e).cells], []⟩) (fun p => e.kids.length + 1 - p) (fun p => p <= e.kids.length /\ (e.kids.drop p).all (shapeTm 13 d) = R) (fun p hp => ?_) 0 (by simpa using hR) (by simp [hk14])
   obtain ⟨hi, he⟩ := hp
   by_cases hlt : p < e.kids.length
   ·obtain ⟨u, ht⟩ := get_lt hlt
    have htm : u ∈ e.kids := List.mem_of_getElem? ht
    have hgt : e.kids[p] = u := by rw [List.getElem?_eq_getElem hlt] at ht; exact Option.some.inj ht
    have hdr : e.kids.drop p = u :: e.kids.drop (p + 1) := by rw [List.drop_eq_getElem_cons hlt, hgt]
    have hu := l4Shape_ok d u (by omega) (hnu u htm)
    rw [hdr, List.all_cons] at he
    cases hb : shapeTm 13 d u <;> rw [hb] at hu he
    ·repeat' first | (refine aops_end (hK _ ?_); clear hK K) | (refine aops_go ?_; simp [hlt, hgt]; (try simp (disch := omega) only [wrap64]); (try (refine gen fun q hq => ?_; cases q <;> (try simp [hlt, hgt] at hq) <;> (try (have hh : True := hq; clear hh hq))))) | (refine wpcall_pure rfl (hu) ?_; simp [hlt, hgt]; (try simp (disch := omega) only [wrap64]); (try first | (refine Ops.gen fun q hq => ?_; cases q <;> (try simp [hlt, hgt] at hq) <;> (try (have hh : True := hq; clear hh hq))) | (refine OpsD.gen fun q hq => ?_; cases q <;> (try simp [hlt, hgt] at hq) <;> (try (have hh : True := hq; clear hh hq))))) | (refine T.ret (Done.data (Or.inr rfl) ?_ ?_) <;> simp [Tryz.results214, <- he] <;> omega) | refine T.r0 fun K hK => ?_ | refine T.ct rfl ?_ | refine T.seq ?_ | refine T.block ?_ | refine T.skip ?_
    ·repeat' first | (refine aops_end (hK _ ?_); clear hK K) | (refine aops_go ?_; simp [hlt, hgt]; (try simp (disch := omega) only [wrap64]); (try (refine gen fun q hq => ?_; cases q <;> (try simp [hlt, hgt] at hq) <;> (try (have hh : True := hq; clear hh hq))))) | (refine wpcall_pure rfl (hu) ?_; simp [hlt, hgt]; (try simp (disch := omega) only [wrap64]); (try first | (refine Ops.gen fun q hq => ?_; cases q <;> (try simp [hlt, hgt] at hq) <;> (try (have hh : True := hq; clear hh hq))) | (refine OpsD.gen fun q hq => ?_; cases q <;> (try simp [hlt, hgt] at hq) <;> (try (have hh : True := hq; clear hh hq))))) | (refine ⟨p + 1, by dsimp only; omega, ⟨by omega, by simpa using he⟩, rfl, rfl, ?_⟩; simp (disch := omega) [wrap64]) | refine T.r0 fun K hK => ?_ | refine T.r1 fun K hK => ?_ | refine T.ct rfl ?_ | refine T.cf rfl ?_ | refine T.seq ?_ | refine T.block ?_ | refine T.skip ?_
   ·have hp' : p = e.kids.length := by omega
    subst hp'
    simp at he
    repeat' first | (refine aops_end (hK _ ?_); clear hK K) | (refine aops_go ?_; simp [hlt]; (try (refine gen fun q hq => ?_; cases q <;> (try simp [hlt] at hq) <;> (try (have hh : True := hq; clear hh hq))))) | (refine T.ret (Done.data (Or.inr rfl) ?_ ?_) <;> simp [Tryz.results214, he] <;> omega) | refine T.r0 fun K hK => ?_ | refine T.cf rfl ?_ | refine T.seq ?_ | refine T.exit ?_
  ·have hown := hno hk14
   cases O
   ·refine ACalls.of_body Tryz.func214 (by kernel_rfl) rfl (by kernel_rfl) (by simp [Tryz.ntmps214]) (by simp) ?_
    rw [Tryz.ntmps214]
    repeat' first | ((first | refine aops_end (hK _ ?_) | refine aopsD_end (hK _ ?_)); clear hK K) | ((first | refine aops_go ?_ | refine aopsD_go ?_); simp [hd1, hk13, hk14]; (try (refine gen fun q hq => ?_; cases q <;> (try simp [hd1, hk13, hk14] at hq) <;> (try (have hh : True := hq; clear hh hq))))) | (refine wpcall_pure rfl (hkids) ?_; simp [hd1, hk13, hk14]; (try first | (refine Ops.gen fun q hq => ?_; cases q <;> (try simp [hd1, hk13, hk14] at hq) <;> (try (have hh : True := hq; clear hh hq))) | (refine OpsD.gen fun q hq => ?_; cases q <;> (try simp [hd1, hk13, hk14] at hq) <;> (try (have hh : True := hq; clear hh hq))))) | (refine wpcall_pure (by simp [hd1, hk13, hk14]) (hown) ?_; simp [hd1, hk13, hk14]; (try first | (refine Ops.gen fun q hq => ?_; cases q <;> (try simp [hd1, hk13, hk14] at hq) <;> (try (have hh : True := hq; clear hh hq))) | (refine OpsD.gen fun q hq => ?_; cases q <;> (try simp [hd1, hk13, hk14] at hq) <;> (try (have hh : True := hq; clear hh hq))))) | (refine T.ret (Done.data (Or.inr rfl) ?_ ?_) <;> simp [Tryz.results214] <;> omega) | refine T.r0 fun K hK => ?_ | refine T.rd mixed (fun _ => false) [] (by kernel_rfl) fun K hK => ?_ | refine T.ct rfl ?_ | refine T.seq ?_
   refine ACalls.of_body Tryz.func214 (by kernel_rfl) rfl (by kernel_rfl) (by simp [Tryz.ntmps214]) (by simp) ?_
   rw [Tryz.ntmps214]
   repeat' first | ((first | refine aops_end (hK _ ?_) | refine aopsD_end (hK _ ?_)); clear hK K) | ((first | refine aops_go ?_ | refine aopsD_go ?_); simp [hd1, hk13, hk14]; (try (refine gen fun q hq => ?_; cases q <;> (try simp [hd1, hk13, hk14] at hq) <;> (try (have hh : True := hq; clear hh hq))))) | (refine wpcall_pure rfl (hkids) ?_; simp [hd1, hk13, hk14]; (try first | (refine Ops.gen fun q hq => ?_; cases q <;> (try simp [hd1, hk13, hk14] at hq) <;> (try (have hh : True := hq; clear hh hq))) | (refine OpsD.gen fun q hq => ?_; cases q <;> (try simp [hd1, hk13, hk14] at hq) <;> (try (have hh : True := hq; clear hh hq))))) | (refine wpcall_pure (by simp [hd1, hk13, hk14]) (hown) ?_; simp [hd1, hk13, hk14]; (try first | (refine Ops.gen fun q hq => ?_; cases q <;> (try simp [hd1, hk13, hk14] at hq) <;> (try (have hh : True := hq; clear hh hq))) | (refine OpsD.gen fun q hq => ?_; cases q <;> (try simp [hd1, hk13, hk14] at hq) <;> (try (have hh : True := hq; clear hh hq))))) | refine T.r0 fun K hK => ?_ | refine T.rd mixed (fun _ => false) [] (by kernel_rfl) fun K hK => ?_ | refine T.cf rfl ?_ | refine T.seq ?_ | refine T.block ?_ | refine T.skip ?_
   rw [Bool.true_and]
   refine T.loopF (fun p : Nat => ⟨[(1, .i (d + 1)), (2, .c (.ptr 0 0)), (5, .i p)], [(aTm e).cells], []⟩) (fun p => e.kids.length + 1 - p) (fun p => p <= e.kids.length /\ (e.kids.drop p).all (shapeTm 13 d) = R) (fun p hp => ?_) 0 (by simpa using hR) (by simp)
   obtain ⟨hi, he⟩ := hp
   by_cases hlt : p < e.kids.length
   ·obtain ⟨u, ht⟩ := get_lt hlt
    have htm : u ∈ e.kids := List.mem_of_getElem? ht
    have hgt : e.kids[p] = u := by rw [List.getElem?_eq_getElem hlt] at ht; exact Option.some.inj ht
    have hdr : e.kids.drop p = u :: e.kids.drop (p + 1) := by rw [List.drop_eq_getElem_cons hlt, hgt]
    have hu := l4Shape_ok d u (by omega) (hnu u htm)
    rw [hdr, List.all_cons] at he
    cases hb : shapeTm 13 d u <;> rw [hb] at hu he
    ·repeat' first | (refine aops_end (hK _ ?_); clear hK K) | (refine aops_go ?_; simp [hlt, hgt]; (try simp (disch := omega) only [wrap64]); (try (refine gen fun q hq => ?_; cases q <;> (try simp [hlt, hgt] at hq) <;> (try (have hh : True := hq; clear hh hq))))) | (refine wpcall_pure rfl (hu) ?_; simp [hlt, hgt]; (try simp (disch := omega) only [wrap64]); (try first | (refine Ops.gen fun q hq => ?_; cases q <;> (try simp [hlt, hgt] at hq) <;> (try (have hh : True := hq; clear hh hq))) | (refine OpsD.gen fun q hq => ?_; cases q <;> (try simp [hlt, hgt] at hq) <;> (try (have hh : True := hq; clear hh hq))))) | (refine T.ret (Done.data (Or.inr rfl) ?_ ?_) <;> simp [Tryz.results214, <- he] <;> omega) | refine T.r0 fun K hK => ?_ | refine T.ct rfl ?_ | refine T.seq ?_ | refine T.block ?_ | refine T.skip ?_
    ·repeat' first | (refine aops_end (hK _ ?_); clear hK K) | (refine aops_go ?_; simp [hlt, hgt]; (try simp (disch := omega) only [wrap64]); (try (refine gen fun q hq => ?_; cases q <;> (try simp [hlt, hgt] at hq) <;> (try (have hh : True := hq; clear hh hq))))) | (refine wpcall_pure rfl (hu) ?_; simp [hlt, hgt]; (try simp (disch := omega) only [wrap64]); (try first | (refine Ops.gen fun q hq => ?_; cases q <;> (try simp [hlt, hgt] at hq) <;> (try (have hh : True := hq; clear hh hq))) | (refine OpsD.gen fun q hq => ?_; cases q <;> (try simp [hlt, hgt] at hq) <;> (try (have hh : True := hq; clear hh hq))))) | (refine ⟨p + 1, by dsimp only; omega, ⟨by omega, by simpa using he⟩, rfl, rfl, ?_⟩; simp (disch := omega) [wrap64]) | refine T.r0 fun K hK => ?_ | refine T.r1 fun K hK => ?_ | refine T.ct rfl ?_ | refine T.cf rfl ?_ | refine T.seq ?_ | refine T.block ?_ | refine T.skip ?_
   ·have hp' : p = e.kids.length := by omega
    subst hp'
    simp at he
    repeat' first | (refine aops_end (hK _ ?_); clear hK K) | (refine aops_go ?_; simp [hlt]; (try (refine gen fun q hq => ?_; cases q <;> (try simp [hlt] at hq) <;> (try (have hh : True := hq; clear hh hq))))) | (refine T.ret (Done.data (Or.inr rfl) ?_ ?_) <;> simp [Tryz.results214, he] <;> omega) | refine T.r0 fun K hK => ?_ | refine T.cf rfl ?_ | refine T.seq ?_ | refine T.exit ?_

theorem l2Count_ok : ∀ (d : Nat) (e : MTm), d <= 1000 -> nTm e <= 1099511627776 -> ACalls Tryz.prog 156 [aTm e, .i d] [] (.i (countTm d e)) [] []
 | 0, e, _, hn => by
  obtain ⟨hnt, hnf, hnk, hnu⟩ := nTm_parts hn
  refine ACalls.of_body Tryz.func156 (by kernel_rfl) rfl (by kernel_rfl) (by simp [Tryz.ntmps156]) (by simp) ?_
  rw [Tryz.ntmps156]
  repeat' first | (refine aops_end (hK _ ?_); clear hK K) | (refine aops_go ?_; simp; (try (refine gen fun q hq => ?_; cases q <;> (try simp at hq) <;> (try (have hh : True := hq; clear hh hq))))) | refine T.r0 fun K hK => ?_ | refine T.seq ?_ | refine T.block ?_
  refine T.loopF (fun _ : Unit => ⟨[(1, .i 0), (2, .c (.ptr 0 0)), (5, .i 1), (6, .i 0)], [(aTm e).cells], []⟩) (fun _ => 0) (fun _ => True) (fun _ _ => ?_) () trivial (by simp)
  repeat' first | (refine aops_end (hK _ ?_); clear hK K) | (refine aops_go ?_; simp; (try simp (disch := omega) only [wrap64]); (try (refine gen fun q hq => ?_; cases q <;> (try simp at hq) <;> (try (have hh : True := hq; clear hh hq))))) | (refine T.ret (Done.data (Or.inr rfl) ?_ ?_) <;> simp [Tryz.results156, countTm] <;> omega) | refine T.r0 fun K hK => ?_ | refine T.cf rfl ?_ | refine T.seq ?_ | refine T.exit ?_
 | d + 1, e, hd, hn => by
  obtain ⟨hnt, hnf, hnk, hnu⟩ := nTm_parts hn
  have hd1 : (0 : Int) < (d : Int) + 1 := by omega
  have hcl := countTm_le (d + 1) e
  obtain ⟨R, hR⟩ : ∃ R, countTm (d + 1) e = R := ⟨_, rfl⟩
  rw [hR] at hcl ⊢
  refine ACalls.of_body Tryz.func156 (by kernel_rfl) rfl (by kernel_rfl) (by simp [Tryz.ntmps156]) (by simp) ?_
  rw [Tryz.ntmps156]
  repeat' first | (refine aops_end (hK _ ?_); clear hK K) | (refine aops_go ?_; simp; (try (refine gen fun q hq => ?_; cases q <;> (try simp at hq) <;> (try (have hh : True := hq; clear hh hq))))) | refine T.r0 fun K hK => ?_ | refine T.seq ?_ | refine T.block ?_
  refine T.loopF (fun x : Nat × Nat => ⟨[(1, .i (d + 1)), (2, .c (.ptr 0 0)), (5, .i x.2), (6, .i x.1)], [(aTm e).cells], []⟩) (fun x => e.kids.length + 1 - x.1) (fun x => x.1 <= e.kids.length /\ x.2 + ((e.kids.drop x.1).map (countTm d)).sum = R) (fun x hx => ?_) (0, 1) (by simpa [countTm] using hR) (by simp)
  obtain ⟨p, k⟩ := x
  obtain ⟨hi, he⟩ := hx
  dsimp only at hi he ⊢
  by_cases hlt : p < e.kids.length
  ·obtain ⟨u, ht⟩ := get_lt hlt
   have htm : u ∈ e.kids := List.mem_of_getElem? ht
   have hgt : e.kids[p] = u := by rw [List.getElem?_eq_getElem hlt] at ht; exact Option.some.inj ht
   have hdr : e.kids.drop p = u :: e.kids.drop (p + 1) := by rw [List.drop_eq_getElem_cons hlt, hgt]
   have hu := l2Count_ok d u (by omega) (hnu u htm)
   rw [hdr, List.map_cons, List.sum_cons] at he
   generalize countTm d u = cu at hu he
   repeat' first | (refine aops_end (hK _ ?_); clear hK K) | (refine aops_go ?_; simp [hlt, hgt, hd1]; (try simp (disch := omega) only [wrap64]); (try (refine gen fun q hq => ?_; cases q <;> (try simp [hlt, hgt, hd1] at hq) <;> (try (have hh : True := hq; clear hh hq))))) | (refine wpcall_pure rfl (hu) ?_; simp [hlt, hgt, hd1]; (try simp (disch := omega) only [wrap64]); (try first | (refine Ops.gen fun q hq => ?_; cases q <;> (try simp [hlt, hgt, hd1] at hq) <;> (try (have hh : True := hq; clear hh hq))) | (refine OpsD.gen fun q hq => ?_; cases q <;> (try simp [hlt, hgt, hd1] at hq) <;> (try (have hh : True := hq; clear hh hq))))) | (refine ⟨(p + 1, k + cu), by dsimp only; omega, ⟨by dsimp only; omega, by dsimp only; omega⟩, rfl, rfl, ?_⟩; simp (disch := omega) [wrap64]) | refine T.r0 fun K hK => ?_ | refine T.r1 fun K hK => ?_ | refine T.ct rfl ?_ | refine T.seq ?_ | refine T.block ?_ | refine T.skip ?_
  ·have hp' : p = e.kids.length := by omega
   subst hp'
   simp at he
   repeat' first | (refine aops_end (hK _ ?_); clear hK K) | (refine aops_go ?_; simp [hlt]; (try (refine gen fun q hq => ?_; cases q <;> (try simp [hlt] at hq) <;> (try (have hh : True := hq; clear hh hq))))) | (refine T.ret (Done.data (Or.inr rfl) ?_ ?_) <;> simp [Tryz.results156, he] <;> omega) | refine T.r0 fun K hK => ?_ | refine T.cf rfl ?_ | refine T.seq ?_ | refine T.exit ?_

theorem CastValidS_ok (e : MTm) (hn : nTm e <= 1099511627776) : ACalls Tryz.prog 165 [aTm e] [] (.b (castValidM e)) [] [] := by
 have h1 := l4Shape_ok 40 e (by omega) hn
 have h2 := l2Count_ok 40 e (by omega) hn
 rw [show castValidM e = (shapeTm 13 40 e && decide (countTm 40 e <= 200)) from rfl]
 generalize shapeTm 13 40 e = a at *
 generalize countTm 40 e = b at *
 refine ACalls.of_body Tryz.func165 (by kernel_rfl) rfl (by kernel_rfl) (by simp [Tryz.ntmps165]) (by simp) ?_
 rw [Tryz.ntmps165]
 repeat' first | (refine aops_end (hK _ ?_); clear hK K) | (refine aops_go ?_; simp; (try (refine gen fun q hq => ?_; cases q <;> (try simp at hq) <;> (try (have hh : True := hq; clear hh hq))))) | (refine wpcall_pure rfl (h1) ?_; simp; (try first | (refine Ops.gen fun q hq => ?_; cases q <;> (try simp at hq) <;> (try (have hh : True := hq; clear hh hq))) | (refine OpsD.gen fun q hq => ?_; cases q <;> (try simp at hq) <;> (try (have hh : True := hq; clear hh hq))))) | (refine wpcall_pure rfl (h2) ?_; simp; (try first | (refine Ops.gen fun q hq => ?_; cases q <;> (try simp at hq) <;> (try (have hh : True := hq; clear hh hq))) | (refine OpsD.gen fun q hq => ?_; cases q <;> (try simp at hq) <;> (try (have hh : True := hq; clear hh hq))))) | (refine T.ret (Done.data (Or.inr rfl) ?_ ?_) <;> simp [Tryz.results165, *] <;> omega) | refine T.r0 fun K hK => ?_

theorem scan_ok (mn md nt : Int) (hmn : mn <= 1000) (hmd : md <= 1000) : ∀ (e : MTm), nTm e <= 1099511627776 -> ∀ (deep c : Int), 0 <= c -> c <= 1000 -> 0 <= deep ->
  ACalls Tryz.prog 152 [aTm e, .i deep, .i mn, .i md, .i nt, .c (.ptr 0 0)] (dV [[.i c]]) (.b (scanM mn md nt deep e c).1) (dV [[.i (scanM mn md nt deep e c).2]]) [] := by
 intro e
 induction e using MTm.ind with
 | h e ih =>
  intro hn deep c h0 hc hdp
  obtain ⟨hnt, hnf, hnk, hnu⟩ := nTm_parts hn
  have hnode := nodeOk_ok e hnk hnt hnf
  rw [scanM_def]
  by_cases q1 : mn < c + 1
  ·rw [if_pos (by simp [q1])]
   refine ACalls.of_body Tryz.func152 (by kernel_rfl) rfl (by kernel_rfl) (by simp [Tryz.ntmps152]) (by simp) ?_
   rw [Tryz.ntmps152]
   repeat' first | (refine aops_end (hK _ ?_); clear hK K) | (refine aops_go ?_; simp [q1]; (try simp (disch := omega) only [wrap64]); (try (refine gen fun q hq => ?_; cases q <;> (try simp [q1] at hq) <;> (try (have hh : True := hq; clear hh hq))))) | (refine T.ret (Done.obj1 (Or.inr rfl) ?_ ?_ ?_) <;> simp [Tryz.results152] <;> omega) | refine T.r0 fun K hK => ?_ | refine T.ct rfl ?_ | refine T.seq ?_
  by_cases q2 : md < deep
  ·rw [if_pos (by simp [q2])]
   refine ACalls.of_body Tryz.func152 (by kernel_rfl) rfl (by kernel_rfl) (by simp [Tryz.ntmps152]) (by simp) ?_
   rw [Tryz.ntmps152]
   repeat' first | (refine aops_end (hK _ ?_); clear hK K) | (refine aops_go ?_; simp [q1, q2]; (try simp (disch := omega) only [wrap64]); (try (refine gen fun q hq => ?_; cases q <;> (try simp [q1, q2] at hq) <;> (try (have hh : True := hq; clear hh hq))))) | (refine T.ret (Done.obj1 (Or.inr rfl) ?_ ?_ ?_) <;> simp [Tryz.results152] <;> omega) | refine T.r0 fun K hK => ?_ | refine T.ct rfl ?_ | refine T.seq ?_
  by_cases q3 : e.kind = nt
  ·rw [if_pos (by simp [q3])]
   refine ACalls.of_body Tryz.func152 (by kernel_rfl) rfl (by kernel_rfl) (by simp [Tryz.ntmps152]) (by simp) ?_
   rw [Tryz.ntmps152]
   repeat' first | (refine aops_end (hK _ ?_); clear hK K) | (refine aops_go ?_; simp [q1, q2, q3]; (try simp (disch := omega) only [wrap64]); (try (refine gen fun q hq => ?_; cases q <;> (try simp [q1, q2, q3] at hq) <;> (try (have hh : True := hq; clear hh hq))))) | (refine T.ret (Done.obj1 (Or.inr rfl) ?_ ?_ ?_) <;> simp [Tryz.results152] <;> omega) | refine T.r0 fun K hK => ?_ | refine T.ct rfl ?_ | refine T.seq ?_
  cases hN : nodeM e
  ·rw [if_pos (by simp)]
   rw [hN] at hnode
   refine ACalls.of_body Tryz.func152 (by kernel_rfl) rfl (by kernel_rfl) (by simp [Tryz.ntmps152]) (by simp) ?_
   rw [Tryz.ntmps152]
   repeat' first | (refine aops_end (hK _ ?_); clear hK K) | (refine aops_go ?_; simp [q1, q2, q3]; (try simp (disch := omega) only [wrap64]); (try (refine gen fun q hq => ?_; cases q <;> (try simp [q1, q2, q3] at hq) <;> (try (have hh : True := hq; clear hh hq))))) | (refine wpcall_pure rfl (hnode) ?_; simp [q1, q2, q3]; (try simp (disch := omega) only [wrap64]); (try first | (refine Ops.gen fun q hq => ?_; cases q <;> (try simp [q1, q2, q3] at hq) <;> (try (have hh : True := hq; clear hh hq))) | (refine OpsD.gen fun q hq => ?_; cases q <;> (try simp [q1, q2, q3] at hq) <;> (try (have hh : True := hq; clear hh hq))))) | (refine T.ret (Done.obj1 (Or.inr rfl) ?_ ?_ ?_) <;> simp [Tryz.results152] <;> omega) | refine T.r0 fun K hK => ?_ | refine T.ct rfl ?_ | refine T.seq ?_
  rw [hN] at hnode
  rw [if_neg (by simp [q1, q2, q3])]
  obtain ⟨R, hR⟩ : ∃ R, scanS mn md nt (deep + 1) e.kids (c + 1) = R := ⟨_, rfl⟩
  rw [hR]
  refine ACalls.of_body Tryz.func152 (by kernel_rfl) rfl (by kernel_rfl) (by simp [Tryz.ntmps152]) (by simp) ?_
  rw [Tryz.ntmps152]
  repeat' first | (refine aops_end (hK _ ?_); clear hK K) | (refine aops_go ?_; simp [q1, q2, q3]; (try simp (disch := omega) only [wrap64]); (try (refine gen fun q hq => ?_; cases q <;> (try simp [q1, q2, q3] at hq) <;> (try (have hh : True := hq; clear hh hq))))) | (refine wpcall_pure rfl (hnode) ?_; simp [q1, q2, q3]; (try simp (disch := omega) only [wrap64]); (try first | (refine Ops.gen fun q hq => ?_; cases q <;> (try simp [q1, q2, q3] at hq) <;> (try (have hh : True := hq; clear hh hq))) | (refine OpsD.gen fun q hq => ?_; cases q <;> (try simp [q1, q2, q3] at hq) <;> (try (have hh : True := hq; clear hh hq))))) | refine T.r0 fun K hK => ?_ | refine T.cf rfl ?_ | refine T.seq ?_ | refine T.block ?_ | refine T.skip ?_
  refine T.loopF (fun x : Nat × Int × List (List CV) => ⟨[(1, .i deep), (2, .i mn), (3, .i md), (4, .i nt), (5, .c (.ptr 0 0)), (6, .c (.ptr 1 0)), (42, .l (e.kids.map eTm)), (43, .i e.kids.length), (44, .i x.1)], [.d (.i x.2.1)] :: (aTm e).cells :: x.2.2, []⟩) (fun x => e.kids.length + 1 - x.1) (fun x => x.1 <= e.kids.length /\ 0 <= x.2.1 /\ x.2.1 <= mn /\ scanS mn md nt (deep + 1) (e.kids.drop x.1) x.2.1 = R) (fun x hx => ?_) (0, c + 1, []) (by simpa using ⟨by omega, by omega, hR⟩) (by simp)
  obtain ⟨p, k, G⟩ := x
  obtain ⟨hi, hk0, hk1, he⟩ := hx
  dsimp only at hi hk0 hk1 he ⊢
  by_cases hlt : p < e.kids.length
  ·obtain ⟨u, ht⟩ := get_lt hlt
   have htm : u ∈ e.kids := List.mem_of_getElem? ht
   have hgt : e.kids[p] = u := by rw [List.getElem?_eq_getElem hlt] at ht; exact Option.some.inj ht
   have hdr : e.kids.drop p = u :: e.kids.drop (p + 1) := by rw [List.drop_eq_getElem_cons hlt, hgt]
   have hu := ih u htm (hnu u htm) (deep + 1) k hk0 (by omega) (by omega)
   have hle := scanM_le mn md nt u (deep + 1) k hk0
   rw [hdr, scanS] at he
   generalize scanM mn md nt (deep + 1) u k = r at hu hle he
   obtain ⟨b, k'⟩ := r
   dsimp only at hu hle he
   cases b
   ·repeat' first | (refine aops_end (hK _ ?_); clear hK K) | (refine aops_go ?_; simp [hlt, hgt]; (try simp (disch := omega) only [wrap64]); (try (refine gen fun q hq => ?_; cases q <;> (try simp [hlt, hgt] at hq) <;> (try (have hh : True := hq; clear hh hq))))) | (refine wpcall_upd1 0 [.i k] [.i k'] rfl rfl hu ?_; simp) | (refine T.ret (Done.obj1 (Or.inr rfl) ?_ ?_ ?_) <;> simp [Tryz.results152, <- he] <;> omega) | refine T.r0 fun K hK => ?_ | refine T.ct rfl ?_ | refine T.seq ?_ | refine T.block ?_ | refine T.skip ?_
   ·obtain ⟨hle1, hle2⟩ := hle rfl
    repeat' first | (refine aops_end (hK _ ?_); clear hK K) | (refine aops_go ?_; simp [hlt, hgt]; (try simp (disch := omega) only [wrap64]); (try (refine gen fun q hq => ?_; cases q <;> (try simp [hlt, hgt] at hq) <;> (try (have hh : True := hq; clear hh hq))))) | (refine wpcall_upd1 0 [.i k] [.i k'] rfl rfl hu ?_; simp) | (refine ⟨(p + 1, k', _), by dsimp only; omega, ⟨by dsimp only; omega, hle1, hle2, by simpa using he⟩, rfl, rfl, ?_⟩; simp (disch := omega) [wrap64]) | refine T.r0 fun K hK => ?_ | refine T.r1 fun K hK => ?_ | refine T.ct rfl ?_ | refine T.cf rfl ?_ | refine T.seq ?_ | refine T.block ?_ | refine T.skip ?_
  ·have hp' : p = e.kids.length := by omega
   subst hp'
   simp [scanS] at he
   repeat' first | (refine aops_end (hK _ ?_); clear hK K) | (refine aops_go ?_; simp [hlt]; (try (refine gen fun q hq => ?_; cases q <;> (try simp [hlt] at hq) <;> (try (have hh : True := hq; clear hh hq))))) | (refine T.ret (Done.obj1 (Or.inr rfl) ?_ ?_ ?_) <;> simp [Tryz.results152, <- he] <;> omega) | refine T.r0 fun K hK => ?_ | refine T.cf rfl ?_ | refine T.seq ?_ | refine T.exit ?_

theorem CastValid_ok (e : MTm) (hn : nTm e <= 1099511627776) : ACalls Tryz.prog 171 [aTm e] [] (.b (castValidM e)) [] [] := by
 have h := scan_ok 200 40 13 (by omega) (by omega) e hn 1 0 (by omega) (by omega) (by omega)
 have hl := (scanM_law 200 40 13 e 40 0 (by omega) (by omega)).1
 have hr : (scanM 200 40 13 1 e 0).1 = castValidM e := by
  rw [show ((40 : Int) + 1 - ((40 : Nat) : Int)) = 1 by omega] at hl
  rw [hl, castValidM]
  congr 1
  exact decide_eq_decide.2 (by omega)
 rw [hr] at h
 refine ACalls.of_body Tryz.func171 (by kernel_rfl) rfl (by kernel_rfl) (by simp [Tryz.ntmps171]) (by simp) ?_
 rw [Tryz.ntmps171]
 repeat' first | (refine aops_end (hK _ ?_); clear hK K) | (refine aops_go ?_; simp) | (refine wpcall_upd1 1 [.i 0] [.i (scanM 200 40 13 1 e 0).2] rfl rfl h ?_; simp) | (refine T.ret (Done.data (Or.inr rfl) ?_ ?_) <;> simp [Tryz.results171] <;> omega) | refine T.r0 fun K hK => ?_

theorem l13Any_ok : ∀ (e : MTm), nTm e <= 1099511627776 -> ACalls Tryz.prog 283 [aTm e] [] (.b (bareM e)) [] [] := by
 intro e
 induction e using MTm.ind with
 | h e ih =>
  intro hn
  obtain ⟨hnt, hnf, hnk, hnu⟩ := nTm_parts hn
  rw [bareM_def]
  by_cases h14 : e.kind = 14
  ·refine ACalls.of_body Tryz.func283 (by kernel_rfl) rfl (by kernel_rfl) (by simp [Tryz.ntmps283]) (by simp) ?_
   rw [Tryz.ntmps283]
   repeat' first | (refine aops_end (hK _ ?_); clear hK K) | (refine aops_go ?_; simp [h14]; (try (refine gen fun q hq => ?_; cases q <;> (try simp [h14] at hq) <;> (try (have hh : True := hq; clear hh hq))))) | (refine T.ret (Done.data (Or.inr rfl) ?_ ?_) <;> simp [Tryz.results283, *] <;> omega) | refine T.r0 fun K hK => ?_ | refine T.ct rfl ?_ | refine T.seq ?_
  by_cases h5 : e.kind = 5 /\ ¬ e.ty.kind = 1
  ·obtain ⟨h5, ht1⟩ := h5
   refine ACalls.of_body Tryz.func283 (by kernel_rfl) rfl (by kernel_rfl) (by simp [Tryz.ntmps283]) (by simp) ?_
   rw [Tryz.ntmps283]
   repeat' first | (refine aops_end (hK _ ?_); clear hK K) | (refine aops_go ?_; simp [h14, h5, ht1]; (try (refine gen fun q hq => ?_; cases q <;> (try simp [h14, h5, ht1] at hq) <;> (try (have hh : True := hq; clear hh hq))))) | (refine T.ret (Done.data (Or.inr rfl) ?_ ?_) <;> simp [Tryz.results283, *] <;> omega) | refine T.r0 fun K hK => ?_ | refine T.ct rfl ?_ | refine T.seq ?_
  obtain ⟨R, hR⟩ : ∃ R, e.kids.all bareM = R := ⟨_, rfl⟩
  have hb : (decide (e.kind ≠ 5) || decide (e.ty.kind = 1)) = true := by
   by_cases e.kind = 5 <;> simp_all
  rw [hb, hR]
  by_cases h5' : e.kind = 5
  ·have ht1 : e.ty.kind = 1 := by simp [h5'] at hb; exact hb
   refine ACalls.of_body Tryz.func283 (by kernel_rfl) rfl (by kernel_rfl) (by simp [Tryz.ntmps283]) (by simp) ?_
   rw [Tryz.ntmps283]
   repeat' first | (refine aops_end (hK _ ?_); clear hK K) | (refine aops_go ?_; simp [h14, h5', ht1]; (try (refine gen fun q hq => ?_; cases q <;> (try simp [h14, h5', ht1] at hq) <;> (try (have hh : True := hq; clear hh hq))))) | refine T.r0 fun K hK => ?_ | refine T.cf rfl ?_ | refine T.seq ?_ | refine T.block ?_ | refine T.skip ?_
   refine T.loopF (fun p : Nat => ⟨[(1, .c (.ptr 0 0)), (3, .i p)], [(aTm e).cells], []⟩) (fun p => e.kids.length + 1 - p) (fun p => p <= e.kids.length /\ (e.kids.drop p).all bareM = R) (fun p hp => ?_) 0 (by simpa using hR) (by simp [h5', ht1])
   obtain ⟨hi, he⟩ := hp
   by_cases hlt : p < e.kids.length
   ·obtain ⟨u, ht⟩ := get_lt hlt
    have htm : u ∈ e.kids := List.mem_of_getElem? ht
    have hgt : e.kids[p] = u := by rw [List.getElem?_eq_getElem hlt] at ht; exact Option.some.inj ht
    have hdr : e.kids.drop p = u :: e.kids.drop (p + 1) := by rw [List.drop_eq_getElem_cons hlt, hgt]
    have hu := ih u htm (hnu u htm)
    rw [hdr, List.all_cons] at he
    cases hbu : bareM u <;> rw [hbu] at hu he
    ·repeat' first | (refine aops_end (hK _ ?_); clear hK K) | (refine aops_go ?_; simp [hlt, hgt]; (try simp (disch := omega) only [wrap64]); (try (refine gen fun q hq => ?_; cases q <;> (try simp [hlt, hgt] at hq) <;> (try (have hh : True := hq; clear hh hq))))) | (refine wpcall_pure rfl (hu) ?_; simp [hlt, hgt]; (try simp (disch := omega) only [wrap64]); (try first | (refine Ops.gen fun q hq => ?_; cases q <;> (try simp [hlt, hgt] at hq) <;> (try (have hh : True := hq; clear hh hq))) | (refine OpsD.gen fun q hq => ?_; cases q <;> (try simp [hlt, hgt] at hq) <;> (try (have hh : True := hq; clear hh hq))))) | (refine T.ret (Done.data (Or.inr rfl) ?_ ?_) <;> simp [Tryz.results283, h5', <- he] <;> omega) | refine T.r0 fun K hK => ?_ | refine T.ct rfl ?_ | refine T.seq ?_ | refine T.block ?_ | refine T.skip ?_
    ·repeat' first | (refine aops_end (hK _ ?_); clear hK K) | (refine aops_go ?_; simp [hlt, hgt]; (try simp (disch := omega) only [wrap64]); (try (refine gen fun q hq => ?_; cases q <;> (try simp [hlt, hgt] at hq) <;> (try (have hh : True := hq; clear hh hq))))) | (refine wpcall_pure rfl (hu) ?_; simp [hlt, hgt]; (try simp (disch := omega) only [wrap64]); (try first | (refine Ops.gen fun q hq => ?_; cases q <;> (try simp [hlt, hgt] at hq) <;> (try (have hh : True := hq; clear hh hq))) | (refine OpsD.gen fun q hq => ?_; cases q <;> (try simp [hlt, hgt] at hq) <;> (try (have hh : True := hq; clear hh hq))))) | (refine ⟨p + 1, by dsimp only; omega, ⟨by omega, by simpa using he⟩, rfl, rfl, ?_⟩; simp (disch := omega) [wrap64]) | refine T.r0 fun K hK => ?_ | refine T.r1 fun K hK => ?_ | refine T.ct rfl ?_ | refine T.cf rfl ?_ | refine T.seq ?_ | refine T.block ?_ | refine T.skip ?_
   ·have hp' : p = e.kids.length := by omega
    subst hp'
    simp at he
    repeat' first | (refine aops_end (hK _ ?_); clear hK K) | (refine aops_go ?_; simp [hlt]; (try (refine gen fun q hq => ?_; cases q <;> (try simp [hlt] at hq) <;> (try (have hh : True := hq; clear hh hq))))) | (refine T.ret (Done.data (Or.inr rfl) ?_ ?_) <;> simp [Tryz.results283, h5', he] <;> omega) | refine T.r0 fun K hK => ?_ | refine T.cf rfl ?_ | refine T.seq ?_ | refine T.exit ?_
  ·refine ACalls.of_body Tryz.func283 (by kernel_rfl) rfl (by kernel_rfl) (by simp [Tryz.ntmps283]) (by simp) ?_
   rw [Tryz.ntmps283]
   repeat' first | (refine aops_end (hK _ ?_); clear hK K) | (refine aops_go ?_; simp [h14, h5']; (try (refine gen fun q hq => ?_; cases q <;> (try simp [h14, h5'] at hq) <;> (try (have hh : True := hq; clear hh hq))))) | refine T.r0 fun K hK => ?_ | refine T.cf rfl ?_ | refine T.seq ?_ | refine T.block ?_ | refine T.skip ?_
   refine T.loopF (fun p : Nat => ⟨[(1, .c (.ptr 0 0)), (3, .i p)], [(aTm e).cells], []⟩) (fun p => e.kids.length + 1 - p) (fun p => p <= e.kids.length /\ (e.kids.drop p).all bareM = R) (fun p hp => ?_) 0 (by simpa using hR) (by simp)
   obtain ⟨hi, he⟩ := hp
   by_cases hlt : p < e.kids.length
   ·obtain ⟨u, ht⟩ := get_lt hlt
    have htm : u ∈ e.kids := List.mem_of_getElem? ht
    have hgt : e.kids[p] = u := by rw [List.getElem?_eq_getElem hlt] at ht; exact Option.some.inj ht
    have hdr : e.kids.drop p = u :: e.kids.drop (p + 1) := by rw [List.drop_eq_getElem_cons hlt, hgt]
    have hu := ih u htm (hnu u htm)
    rw [hdr, List.all_cons] at he
    cases hbu : bareM u <;> rw [hbu] at hu he
    ·repeat' first | (refine aops_end (hK _ ?_); clear hK K) | (refine aops_go ?_; simp [hlt, hgt]; (try simp (disch := omega) only [wrap64]); (try (refine gen fun q hq => ?_; cases q <;> (try simp [hlt, hgt] at hq) <;> (try (have hh : True := hq; clear hh hq))))) | (refine wpcall_pure rfl (hu) ?_; simp [hlt, hgt]; (try simp (disch := omega) only [wrap64]); (try first | (refine Ops.gen fun q hq => ?_; cases q <;> (try simp [hlt, hgt] at hq) <;> (try (have hh : True := hq; clear hh hq))) | (refine OpsD.gen fun q hq => ?_; cases q <;> (try simp [hlt, hgt] at hq) <;> (try (have hh : True := hq; clear hh hq))))) | (refine T.ret (Done.data (Or.inr rfl) ?_ ?_) <;> simp [Tryz.results283, h14, <- he] <;> omega) | refine T.r0 fun K hK => ?_ | refine T.ct rfl ?_ | refine T.seq ?_ | refine T.block ?_ | refine T.skip ?_
    ·repeat' first | (refine aops_end (hK _ ?_); clear hK K) | (refine aops_go ?_; simp [hlt, hgt]; (try simp (disch := omega) only [wrap64]); (try (refine gen fun q hq => ?_; cases q <;> (try simp [hlt, hgt] at hq) <;> (try (have hh : True := hq; clear hh hq))))) | (refine wpcall_pure rfl (hu) ?_; simp [hlt, hgt]; (try simp (disch := omega) only [wrap64]); (try first | (refine Ops.gen fun q hq => ?_; cases q <;> (try simp [hlt, hgt] at hq) <;> (try (have hh : True := hq; clear hh hq))) | (refine OpsD.gen fun q hq => ?_; cases q <;> (try simp [hlt, hgt] at hq) <;> (try (have hh : True := hq; clear hh hq))))) | (refine ⟨p + 1, by dsimp only; omega, ⟨by omega, by simpa using he⟩, rfl, rfl, ?_⟩; simp (disch := omega) [wrap64]) | refine T.r0 fun K hK => ?_ | refine T.r1 fun K hK => ?_ | refine T.ct rfl ?_ | refine T.cf rfl ?_ | refine T.seq ?_ | refine T.block ?_ | refine T.skip ?_
   ·have hp' : p = e.kids.length := by omega
    subst hp'
    simp at he
    repeat' first | (refine aops_end (hK _ ?_); clear hK K) | (refine aops_go ?_; simp [hlt]; (try (refine gen fun q hq => ?_; cases q <;> (try simp [hlt] at hq) <;> (try (have hh : True := hq; clear hh hq))))) | (refine T.ret (Done.data (Or.inr rfl) ?_ ?_) <;> simp [Tryz.results283, h14, he] <;> omega) | refine T.r0 fun K hK => ?_ | refine T.cf rfl ?_ | refine T.seq ?_ | refine T.exit ?_

theorem isBare1_ok (e : MTm) (q : Bool) (h : ACalls Tryz.prog 285 [aTm e] [] (.b q) [] []) : ACalls Tryz.prog 303 [aTm e] [] (.b (!q)) [] [] := by
 refine ACalls.of_body Tryz.func303 (by kernel_rfl) rfl (by kernel_rfl) (by simp [Tryz.ntmps303]) (by simp) ?_
 rw [Tryz.ntmps303]
 repeat' first | (refine aops_end (hK _ ?_); clear hK K) | (refine aops_go ?_; simp) | (refine wpcall_pure rfl (h) ?_; simp) | (refine T.ret (Done.data (Or.inr rfl) ?_ ?_) <;> simp [Tryz.results303] <;> omega) | refine T.r0 fun K hK => ?_

theorem isBare_ok : ∀ (e : MTm), nTm e <= 1099511627776 -> ACalls Tryz.prog 285 [aTm e] [] (.b (bareM e)) [] [] := by
 intro e
 induction e using MTm.ind with
 | h e ih =>
  intro hn
  obtain ⟨hnt, hnf, hnk, hnu⟩ := nTm_parts hn
  have hcf := containsFuncTm_0 303 e.kids (fun t => !bareM t) (by omega) (fun u hu => isBare1_ok u _ (ih u hu (hnu u hu)))
  rw [bareM_def, <- not_any_not]
  generalize (e.kids.any fun t => !bareM t) = R at hcf ⊢
  refine ACalls.of_body Tryz.func285 (by kernel_rfl) rfl (by kernel_rfl) (by simp [Tryz.ntmps285]) (by simp) ?_
  rw [Tryz.ntmps285]
  repeat' first | (refine aops_end (hK _ ?_); clear hK K) | (refine aops_go ?_; simp; (try (refine gen fun q hq => ?_; cases q <;> (try simp at hq) <;> (try (have hh : True := hq; clear hh hq))))) | (refine wpcall_pure rfl (hcf) ?_; simp; (try first | (refine Ops.gen fun q hq => ?_; cases q <;> (try simp at hq) <;> (try (have hh : True := hq; clear hh hq))) | (refine OpsD.gen fun q hq => ?_; cases q <;> (try simp at hq) <;> (try (have hh : True := hq; clear hh hq))))) | (refine T.ret (Done.data (Or.inr rfl) ?_ ?_) <;> simp [Tryz.results285, *] <;> omega) | refine T.r0 fun K hK => ?_

theorem BareValidS_ok (e : MTm) (hn : nTm e <= 1099511627776) : ACalls Tryz.prog 255 [aTm e] [] (.b (castValidM e && bareM e)) [] [] := by
 have h1 := CastValidS_ok e hn
 have h2 := l13Any_ok e hn
 generalize castValidM e = a at *
 generalize bareM e = b at *
 refine ACalls.of_body Tryz.func255 (by kernel_rfl) rfl (by kernel_rfl) (by simp [Tryz.ntmps255]) (by simp) ?_
 rw [Tryz.ntmps255]
 repeat' first | (refine aops_end (hK _ ?_); clear hK K) | (refine aops_go ?_; simp; (try (refine gen fun q hq => ?_; cases q <;> (try simp at hq) <;> (try (have hh : True := hq; clear hh hq))))) | (refine wpcall_pure rfl (h1) ?_; simp; (try first | (refine Ops.gen fun q hq => ?_; cases q <;> (try simp at hq) <;> (try (have hh : True := hq; clear hh hq))) | (refine OpsD.gen fun q hq => ?_; cases q <;> (try simp at hq) <;> (try (have hh : True := hq; clear hh hq))))) | (refine wpcall_pure rfl (h2) ?_; simp; (try first | (refine Ops.gen fun q hq => ?_; cases q <;> (try simp at hq) <;> (try (have hh : True := hq; clear hh hq))) | (refine OpsD.gen fun q hq => ?_; cases q <;> (try simp at hq) <;> (try (have hh : True := hq; clear hh hq))))) | (refine T.ret (Done.data (Or.inr rfl) ?_ ?_) <;> simp [Tryz.results255, *] <;> omega) | refine T.r0 fun K hK => ?_

theorem BareValid_ok (e : MTm) (hn : nTm e <= 1099511627776) : ACalls Tryz.prog 259 [aTm e] [] (.b (castValidM e && bareM e)) [] [] := by
 have h1 := CastValid_ok e hn
 have h2 := isBare_ok e hn
 generalize castValidM e = a at *
 generalize bareM e = b at *
 refine ACalls.of_body Tryz.func259 (by kernel_rfl) rfl (by kernel_rfl) (by simp [Tryz.ntmps259]) (by simp) ?_
 rw [Tryz.ntmps259]
 repeat' first | (refine aops_end (hK _ ?_); clear hK K) | (refine aops_go ?_; simp; (try (refine gen fun q hq => ?_; cases q <;> (try simp at hq) <;> (try (have hh : True := hq; clear hh hq))))) | (refine wpcall_pure rfl (h1) ?_; simp; (try first | (refine Ops.gen fun q hq => ?_; cases q <;> (try simp at hq) <;> (try (have hh : True := hq; clear hh hq))) | (refine OpsD.gen fun q hq => ?_; cases q <;> (try simp at hq) <;> (try (have hh : True := hq; clear hh hq))))) | (refine wpcall_pure rfl (h2) ?_; simp; (try first | (refine Ops.gen fun q hq => ?_; cases q <;> (try simp at hq) <;> (try (have hh : True := hq; clear hh hq))) | (refine OpsD.gen fun q hq => ?_; cases q <;> (try simp at hq) <;> (try (have hh : True := hq; clear hh hq))))) | (refine T.ret (Done.data (Or.inr rfl) ?_ ?_) <;> simp [Tryz.results259, *] <;> omega) | refine T.r0 fun K hK => ?_
end Go.Proofs.YtflmjilnecanhaaGreatDoor

namespace Go.Proofs.YtflmjilnecanhaaGreatDoor
attribute [-simp] Go.Av.keepL Go.Av.ups Go.Av.take_app_len Go.Av.innVs Go.Av.putBack Go.Av.objCells Go.Av.back Go.Av.resVs Go.Av.one Go.Av.freeStepG Go.Av.exA Go.Av.innAsH Go.Av.AV.innH Go.Av.CV.innH Go.Av.innHs Go.Av.AV.outnH Go.Av.CV.outnH
open Go Go.Av
attribute [local irreducible] T ACalls eTy eTm MTy.kind MTy.kids MTm.kind MTm.name MTm.num MTm.ty MTm.fr MTm.label MTm.kids
attribute [local simp] eTy_def eTm_def
set_option maxHeartbeats 4000000
attribute [local simp] Option.bind

theorem l1Any_ok : ACalls Tryz.prog 139 [] [] (aTy anyT) [] [] := by
 refine ACalls.of_body Tryz.func139 (by kernel_rfl) rfl (by kernel_rfl) (by simp [Tryz.ntmps139]) (by simp) ?_
 rw [Tryz.ntmps139]
 repeat' first | (refine aops_end (hK _ ?_); clear hK K) | (refine aops_go ?_; simp; (try (refine gen fun q hq => ?_; cases q <;> (try simp at hq) <;> (try (have hh : True := hq; clear hh hq))))) | (refine T.ret (Done.val (Or.inr rfl) ?_) <;> simp [resAs, Tryz.results139] <;> omega) | refine T.r0 fun K hK => ?_

theorem l1Copy_ok : ∀ (t : MTy), nTy t <= 1099511627776 -> ACalls Tryz.prog 145 [aTy t] [] (aTy t) [] [] := by
 intro t
 induction t using MTy.ind with
 | h t ih =>
  intro hn
  rw [nTy_def] at hn
  have hlen := nTyS_len t.kids
  refine ACalls.of_body Tryz.func145 (by kernel_rfl) rfl (by kernel_rfl) (by simp [Tryz.ntmps145]) (by simp) ?_
  rw [Tryz.ntmps145]
  repeat' first | (refine aops_end (hK _ ?_); clear hK K) | (refine aops_go ?_; simp; (try (refine gen fun q hq => ?_; cases q <;> (try simp at hq) <;> (try (have hh : True := hq; clear hh hq))))) | refine T.r0 fun K hK => ?_ | refine T.seq ?_ | refine T.block ?_
  refine T.ownifyObj 2 1 2 43 (row := [.d (.i t.kind), .nil]) (by simp) (by simp) ?_
  refine T.loopF (fun p : Nat => ⟨[(1, .c (.ptr 0 0)), (2, .c (.ptr 1 0)), (3, .c (.ptr 2 0)), (4, .i p)], [(aTy t).cells, [.d (.i 0), .nil], [.d (.i t.kind), .own 0 p]], [{ sz := 2, ety := 43, rows := (t.kids.take p).map eTy, wr := true }]⟩) (fun p => t.kids.length + 1 - p) (fun p => p <= t.kids.length) (fun p hi => ?_) 0 (by simp) (by simp)
  by_cases hlt : p < t.kids.length
  ·obtain ⟨u, ht⟩ := get_lt hlt
   have htm : u ∈ t.kids := List.mem_of_getElem? ht
   have hgt : t.kids[p] = u := by rw [List.getElem?_eq_getElem hlt] at ht; exact Option.some.inj ht
   have hdr : t.kids.drop p = u :: t.kids.drop (p + 1) := by rw [List.drop_eq_getElem_cons hlt, hgt]
   have hu := ih u htm (by have := nTyS_mem htm; omega)
   have htk : t.kids.take (p + 1) = t.kids.take p ++ [u] := by rw [List.take_add_one, ht]; rfl
   have hmin : min p t.kids.length = p := by omega
   repeat' first | ((first | refine aops_end (hK _ ?_) | refine aopsD_end (hK _ ?_)); clear hK K) | ((first | refine aops_go ?_ | refine aopsD_go ?_); simp [hlt, hgt, hmin]; (try simp (disch := omega) only [wrap64]); (try (refine gen fun q hq => ?_; cases q <;> (try simp [hlt, hgt, hmin] at hq) <;> (try (have hh : True := hq; clear hh hq))))) | (refine wpcall_pure rfl (hu) ?_; simp [hlt, hgt, hmin]; (try simp (disch := omega) only [wrap64]); (try (refine gen fun q hq => ?_; cases q <;> (try simp [hlt, hgt, hmin] at hq) <;> (try (have hh : True := hq; clear hh hq))))) | (refine ⟨by omega, by omega, ?_⟩) | (refine ⟨p + 1, by dsimp only; omega, by omega, ?_, ?_, ?_⟩ <;> simp (disch := omega) [wrap64, htk, eTy_def]) | refine T.rd1 (id := 5) mixed (fun _ => false) [9, 11] (by kernel_rfl) fun K hK => ?_ | refine T.r0 fun K hK => ?_ | refine T.r1 fun K hK => ?_ | refine T.ct rfl ?_ | refine T.seq ?_ | refine T.block ?_ | refine T.skip ?_
  ·have hp' : p = t.kids.length := by omega
   subst hp'
   repeat' first | (refine aops_end (hK _ ?_); clear hK K) | (refine aops_go ?_; simp [hlt]; (try (refine gen fun q hq => ?_; cases q <;> (try simp [hlt] at hq) <;> (try (have hh : True := hq; clear hh hq))))) | (refine T.ret (Done.val (Or.inr rfl) ?_) <;> simp [resAs, Tryz.results145, eTy_def] <;> omega) | refine T.r0 fun K hK => ?_ | refine T.cf rfl ?_ | refine T.seq ?_ | refine T.exit ?_

end Go.Proofs.YtflmjilnecanhaaGreatDoor

namespace Go.Proofs.YtflmjilnecanhaaGreatDoor
attribute [-simp] Go.Av.keepL Go.Av.ups Go.Av.take_app_len Go.Av.innVs Go.Av.putBack Go.Av.objCells Go.Av.back Go.Av.resVs Go.Av.one Go.Av.freeStepG Go.Av.exA Go.Av.innAsH Go.Av.AV.innH Go.Av.CV.innH Go.Av.innHs Go.Av.AV.outnH Go.Av.CV.outnH
open Go Go.Av
attribute [local irreducible] T ACalls eTy eTm MTy.kind MTy.kids MTm.kind MTm.name MTm.num MTm.ty MTm.fr MTm.label MTm.kids
attribute [local simp] eTy_def eTm_def
set_option maxHeartbeats 4000000

@[simp] theorem td_bindS : td Tryz.prog 150 = some { ag := false, sz := 1, by_ := 24, zero := some [.nil], el := some 153, ar := none, fl := [], ik := none, isS := false, isB := false } := keep (by kernel_rfl)
@[simp] theorem td_bind : td Tryz.prog 153 = some { ag := true, sz := 3, by_ := 48, zero := some [.d (.str []), .d (.int .i64 0), .nil], el := none, ar := none, fl := [(0, 1), (1, 2)], ik := none, isS := false, isB := false } := keep (by kernel_rfl)

end Go.Proofs.YtflmjilnecanhaaGreatDoor

namespace Go.Proofs.YtflmjilnecanhaaGreatDoor
attribute [-simp] Go.Av.keepL Go.Av.ups Go.Av.take_app_len Go.Av.innVs Go.Av.putBack Go.Av.objCells Go.Av.back Go.Av.resVs Go.Av.one Go.Av.freeStepG Go.Av.exA Go.Av.innAsH Go.Av.AV.innH Go.Av.CV.innH Go.Av.innHs Go.Av.AV.outnH Go.Av.CV.outnH
open Go Go.Av
attribute [local irreducible] T ACalls eTy eTm MTy.kind MTy.kids MTm.kind MTm.name MTm.num MTm.ty MTm.fr MTm.label MTm.kids
attribute [local simp] eTy_def eTm_def
set_option maxHeartbeats 4000000

theorem shape_nTy : ∀ (d : Nat) (t : MTy), shapeTy d t = true -> nTy t + 2 <= 2 ^ d
 | 0, t, h => by simp [shapeTy] at h
 | d + 1, t, h => by
  obtain ⟨e, he, _, hl, hs⟩ := shapeTy_kids h
  obtain rfl : d = e := by omega
  rw [nTy_def]
  have hp : 1 <= 2 ^ d := Nat.one_le_two_pow
  have hpow : 2 ^ (d + 1) = 2 * 2 ^ d := by rw [Nat.pow_succ]; omega
  match hk : t.kids, hl with
  | [], _ => simp [nTyS]; omega
  | [a], _ => have := shape_nTy d a (hs a (by simp [hk])); simp [nTyS]; omega
  | [a, b], _ =>
   have h1 := shape_nTy d a (hs a (by simp [hk]))
   have h2 := shape_nTy d b (hs b (by simp [hk]))
   simp [nTyS]; omega

theorem shape4 {t : MTy} (h : shapeTy 4 t = true) : nTy t <= 14 := by have := shape_nTy 4 t h; omega

theorem l2Shape_ok : ∀ (d : Nat) (e : MTm), d <= 1000 -> nTm e <= 1099511627776 -> ACalls Tryz.prog 155 [aTm e, .i d] [] (.b (shapeTm 14 d e)) [] []
 | 0, e, _, _ => by
  refine ACalls.of_body Tryz.func155 (by kernel_rfl) rfl (by kernel_rfl) (by simp [Tryz.ntmps155]) (by simp) ?_
  rw [Tryz.ntmps155]
  repeat' first | ((first | refine aops_end (hK _ ?_) | refine aopsD_end (hK _ ?_)); clear hK K) | ((first | refine aops_go ?_ | refine aopsD_go ?_); simp; (try (refine gen fun q hq => ?_; cases q <;> (try simp at hq) <;> (try (have hh : True := hq; clear hh hq))))) | (refine T.ret (Done.data (Or.inr rfl) ?_ ?_) <;> simp [Tryz.results155, shapeTm] <;> omega) | refine T.rd (id := 1) mixed (fun _ => false) [] (by kernel_rfl) fun K hK => ?_ | refine T.r0 fun K hK => ?_ | refine T.ct rfl ?_ | refine T.seq ?_
 | d + 1, e, hd, hn => by
  obtain ⟨hnt, hnf, hnk, hnu⟩ := nTm_parts hn
  have hkids := l2Kids_ok e.kind
  have hd1 : ¬ ((d : Int) + 1 < 1) := by omega
  have hsh : shapeTm 14 (d + 1) e = (decide (e.kind ≠ 14) && (decide (kidsM e.kind = e.kids.length) && ownM e) && e.kids.all (shapeTm 14 d)) := rfl
  by_cases hk14 : e.kind = 14
  ·rw [hk14] at hkids
   rw [show shapeTm 14 (d + 1) e = false by rw [hsh]; simp [hk14]]
   refine ACalls.of_body Tryz.func155 (by kernel_rfl) rfl (by kernel_rfl) (by simp [Tryz.ntmps155]) (by simp) ?_
   rw [Tryz.ntmps155]
   repeat' first | ((first | refine aops_end (hK _ ?_) | refine aopsD_end (hK _ ?_)); clear hK K) | ((first | refine aops_go ?_ | refine aopsD_go ?_); simp [hd1, hk14]; (try (refine gen fun q hq => ?_; cases q <;> (try simp [hd1, hk14] at hq) <;> (try (have hh : True := hq; clear hh hq))))) | (refine wpcall_pure rfl (hkids) ?_; simp [hd1, hk14]; (try (refine gen fun q hq => ?_; cases q <;> (try simp [hd1, hk14] at hq) <;> (try (have hh : True := hq; clear hh hq))))) | (refine T.ret (Done.data (Or.inr rfl) ?_ ?_) <;> simp [Tryz.results155] <;> omega) | refine T.rd (id := 1) mixed (fun _ => false) [] (by kernel_rfl) fun K hK => ?_ | refine T.r0 fun K hK => ?_ | refine T.ct rfl ?_ | refine T.seq ?_
  by_cases hlen : kidsM e.kind = e.kids.length
  rotate_left
  ·rw [show shapeTm 14 (d + 1) e = false by rw [hsh]; simp [hlen]]
   refine ACalls.of_body Tryz.func155 (by kernel_rfl) rfl (by kernel_rfl) (by simp [Tryz.ntmps155]) (by simp) ?_
   rw [Tryz.ntmps155]
   repeat' first | ((first | refine aops_end (hK _ ?_) | refine aopsD_end (hK _ ?_)); clear hK K) | ((first | refine aops_go ?_ | refine aopsD_go ?_); simp [hd1, hlen]; (try (refine gen fun q hq => ?_; cases q <;> (try simp [hd1, hlen] at hq) <;> (try (have hh : True := hq; clear hh hq))))) | (refine wpcall_pure rfl (hkids) ?_; simp [hd1, hlen]; (try (refine gen fun q hq => ?_; cases q <;> (try simp [hd1, hlen] at hq) <;> (try (have hh : True := hq; clear hh hq))))) | (refine T.ret (Done.data (Or.inr rfl) ?_ ?_) <;> simp [Tryz.results155] <;> omega) | refine T.rd (id := 1) mixed (fun _ => false) [] (by kernel_rfl) fun K hK => ?_ | refine T.r0 fun K hK => ?_ | refine T.ct rfl ?_ | refine T.seq ?_
  rw [hlen] at hkids
  have hsh2 : shapeTm 14 (d + 1) e = (ownM e && e.kids.all (shapeTm 14 d)) := by rw [hsh]; simp [hk14, hlen]
  have hown := l2Own_ok e hk14 hnt
  obtain ⟨R, hR⟩ : ∃ R, e.kids.all (shapeTm 14 d) = R := ⟨_, rfl⟩
  rw [hsh2, hR]
  generalize ownM e = O at hown
  clear hsh hsh2
  cases O
  ·refine ACalls.of_body Tryz.func155 (by kernel_rfl) rfl (by kernel_rfl) (by simp [Tryz.ntmps155]) (by simp) ?_
   rw [Tryz.ntmps155]
   repeat' first | ((first | refine aops_end (hK _ ?_) | refine aopsD_end (hK _ ?_)); clear hK K) | ((first | refine aops_go ?_ | refine aopsD_go ?_); simp [hd1, hk14]; (try (refine gen fun q hq => ?_; cases q <;> (try simp [hd1, hk14] at hq) <;> (try (have hh : True := hq; clear hh hq))))) | (refine wpcall_pure rfl (hkids) ?_; simp [hd1, hk14]; (try (refine gen fun q hq => ?_; cases q <;> (try simp [hd1, hk14] at hq) <;> (try (have hh : True := hq; clear hh hq))))) | (refine wpcall_pure rfl (hown) ?_; simp [hd1, hk14]; (try (refine gen fun q hq => ?_; cases q <;> (try simp [hd1, hk14] at hq) <;> (try (have hh : True := hq; clear hh hq))))) | (refine T.ret (Done.data (Or.inr rfl) ?_ ?_) <;> simp [Tryz.results155] <;> omega) | refine T.rd (id := 1) mixed (fun _ => false) [] (by kernel_rfl) fun K hK => ?_ | refine T.r0 fun K hK => ?_ | refine T.ct rfl ?_ | refine T.seq ?_
  refine ACalls.of_body Tryz.func155 (by kernel_rfl) rfl (by kernel_rfl) (by simp [Tryz.ntmps155]) (by simp) ?_
  rw [Tryz.ntmps155]
  repeat' first | ((first | refine aops_end (hK _ ?_) | refine aopsD_end (hK _ ?_)); clear hK K) | ((first | refine aops_go ?_ | refine aopsD_go ?_); simp [hd1, hk14]; (try (refine gen fun q hq => ?_; cases q <;> (try simp [hd1, hk14] at hq) <;> (try (have hh : True := hq; clear hh hq))))) | (refine wpcall_pure rfl (hkids) ?_; simp [hd1, hk14]; (try (refine gen fun q hq => ?_; cases q <;> (try simp [hd1, hk14] at hq) <;> (try (have hh : True := hq; clear hh hq))))) | (refine wpcall_pure rfl (hown) ?_; simp [hd1, hk14]; (try (refine gen fun q hq => ?_; cases q <;> (try simp [hd1, hk14] at hq) <;> (try (have hh : True := hq; clear hh hq))))) | refine T.rd (id := 1) mixed (fun _ => false) [] (by kernel_rfl) fun K hK => ?_ | refine T.r0 fun K hK => ?_ | refine T.cf rfl ?_ | refine T.seq ?_ | refine T.block ?_ | refine T.skip ?_
  rw [Bool.true_and]
  refine T.loopF (fun p : Nat => ⟨[(1, .i (d + 1)), (2, .c (.ptr 0 0)), (5, .i p)], [(aTm e).cells], []⟩) (fun p => e.kids.length + 1 - p) (fun p => p <= e.kids.length /\ (e.kids.drop p).all (shapeTm 14 d) = R) (fun p hp => ?_) 0 (by simpa using hR) (by simp)
  obtain ⟨hi, he⟩ := hp
  by_cases hlt : p < e.kids.length
  ·obtain ⟨u, ht⟩ := get_lt hlt
   have htm : u ∈ e.kids := List.mem_of_getElem? ht
   have hgt : e.kids[p] = u := by rw [List.getElem?_eq_getElem hlt] at ht; exact Option.some.inj ht
   have hdr : e.kids.drop p = u :: e.kids.drop (p + 1) := by rw [List.drop_eq_getElem_cons hlt, hgt]
   have hu := l2Shape_ok d u (by omega) (hnu u htm)
   rw [hdr, List.all_cons] at he
   cases hb : shapeTm 14 d u <;> rw [hb] at hu he
   ·repeat' first | (refine aops_end (hK _ ?_); clear hK K) | (refine aops_go ?_; simp [hlt, hgt]; (try simp (disch := omega) only [wrap64]); (try (refine gen fun q hq => ?_; cases q <;> (try simp [hlt, hgt] at hq) <;> (try (have hh : True := hq; clear hh hq))))) | (refine wpcall_pure rfl (hu) ?_; simp [hlt, hgt]; (try simp (disch := omega) only [wrap64]); (try (refine gen fun q hq => ?_; cases q <;> (try simp [hlt, hgt] at hq) <;> (try (have hh : True := hq; clear hh hq))))) | (refine T.ret (Done.data (Or.inr rfl) ?_ ?_) <;> simp [Tryz.results155, <- he] <;> omega) | refine T.r0 fun K hK => ?_ | refine T.ct rfl ?_ | refine T.seq ?_ | refine T.block ?_ | refine T.skip ?_
   ·repeat' first | (refine aops_end (hK _ ?_); clear hK K) | (refine aops_go ?_; simp [hlt, hgt]; (try simp (disch := omega) only [wrap64]); (try (refine gen fun q hq => ?_; cases q <;> (try simp [hlt, hgt] at hq) <;> (try (have hh : True := hq; clear hh hq))))) | (refine wpcall_pure rfl (hu) ?_; simp [hlt, hgt]; (try simp (disch := omega) only [wrap64]); (try (refine gen fun q hq => ?_; cases q <;> (try simp [hlt, hgt] at hq) <;> (try (have hh : True := hq; clear hh hq))))) | (refine ⟨p + 1, by dsimp only; omega, ⟨by omega, by simpa using he⟩, rfl, rfl, ?_⟩; simp (disch := omega) [wrap64]) | refine T.r0 fun K hK => ?_ | refine T.r1 fun K hK => ?_ | refine T.ct rfl ?_ | refine T.cf rfl ?_ | refine T.seq ?_ | refine T.block ?_ | refine T.skip ?_
  ·have hp' : p = e.kids.length := by omega
   subst hp'
   simp at he
   repeat' first | (refine aops_end (hK _ ?_); clear hK K) | (refine aops_go ?_; simp [hlt]; (try (refine gen fun q hq => ?_; cases q <;> (try simp [hlt] at hq) <;> (try (have hh : True := hq; clear hh hq))))) | (refine T.ret (Done.data (Or.inr rfl) ?_ ?_) <;> simp [Tryz.results155, he] <;> omega) | refine T.r0 fun K hK => ?_ | refine T.cf rfl ?_ | refine T.seq ?_ | refine T.exit ?_

theorem TermValidS_ok (e : MTm) (hn : nTm e <= 1099511627776) : ACalls Tryz.prog 81 [aTm e] [] (.b (termValidM e)) [] [] := by
 have h1 := l2Shape_ok 12 e (by omega) hn
 have h2 := l2Count_ok 12 e (by omega) hn
 rw [show termValidM e = (shapeTm 14 12 e && decide (countTm 12 e <= 30)) from rfl]
 generalize shapeTm 14 12 e = a at *
 generalize countTm 12 e = b at *
 refine ACalls.of_body Tryz.func81 (by kernel_rfl) rfl (by kernel_rfl) (by simp [Tryz.ntmps81]) (by simp) ?_
 rw [Tryz.ntmps81]
 repeat' first | (refine aops_end (hK _ ?_); clear hK K) | (refine aops_go ?_; simp; (try (refine gen fun q hq => ?_; cases q <;> (try simp at hq) <;> (try (have hh : True := hq; clear hh hq))))) | (refine wpcall_pure rfl (h1) ?_; simp; (try (refine gen fun q hq => ?_; cases q <;> (try simp at hq) <;> (try (have hh : True := hq; clear hh hq))))) | (refine wpcall_pure rfl (h2) ?_; simp; (try (refine gen fun q hq => ?_; cases q <;> (try simp at hq) <;> (try (have hh : True := hq; clear hh hq))))) | (refine T.ret (Done.data (Or.inr rfl) ?_ ?_) <;> simp [Tryz.results81, *] <;> omega) | refine T.r0 fun K hK => ?_

def L3R (e : MTm) (ts : List MTy) (r : Option MTy) : Prop := ∃ t', (∀ t, r = some t -> t' = t) /\ ACalls Tryz.prog 288 [aTm e, .l (ts.map eTy)] [] (.tup [aTy t', .b r.isSome]) [] []

end Go.Proofs.YtflmjilnecanhaaGreatDoor

namespace Go.Proofs.YtflmjilnecanhaaGreatDoor
attribute [-simp] Go.Av.keepL Go.Av.ups Go.Av.take_app_len Go.Av.innVs Go.Av.putBack Go.Av.objCells Go.Av.back Go.Av.resVs Go.Av.one Go.Av.freeStepG Go.Av.exA Go.Av.innAsH Go.Av.AV.innH Go.Av.CV.innH Go.Av.innHs Go.Av.AV.outnH Go.Av.CV.outnH
open Go Go.Av
attribute [local irreducible] T ACalls eTy eTm MTy.kind MTy.kids MTm.kind MTm.name MTm.num MTm.ty MTm.fr MTm.label MTm.kids
attribute [local simp] eTy_def eTm_def
set_option maxHeartbeats 4000000

def L3T (ctx : List MBd) (e : MTm) : Prop := ∃ t', (∀ t, typeM ctx e = some t -> t' = t) /\ ACalls Tryz.prog 265 [.l (ctx.map eBd), aTm e] [] (.tup [aTy t', .b (typeM ctx e).isSome]) [] []

def typeInM (ctx : List MBd) (e : MTm) : Option MTy := if ctxM ctx = true /\ termValidM e = true then typeM ctx e else none

abbrev tyRes : Option MTy -> List AV
 | some t => [aTy t, .b true]
 | none => [aTy zeroT, .b false]

end Go.Proofs.YtflmjilnecanhaaGreatDoor

namespace Go.Proofs.YtflmjilnecanhaaGreatDoor
attribute [-simp] Go.Av.take_app_len Go.Av.innVs Go.Av.putBack Go.Av.objCells Go.Av.back Go.Av.resVs Go.Av.one Go.Av.freeStepG Go.Av.exA Go.Av.innAsH Go.Av.AV.innH Go.Av.CV.innH Go.Av.innHs Go.Av.AV.outnH Go.Av.CV.outnH
open Go Go.Av
attribute [local irreducible] T ACalls TX EX LX Draws Some_ ACallsX eTy eTm MTy.kind MTy.kids MTm.kind MTm.name MTm.num MTm.ty MTm.fr MTm.label MTm.kids
attribute [local simp] eTy_def eTm_def
set_option maxHeartbeats 1000000

@[simp] theorem td_rd : td Tryz.prog 128 = some { ag := true, sz := 2, by_ := 32, zero := some [.nil, .d (.int .i64 0)], el := none, ar := none, fl := [(0, 1), (1, 1)], ik := none, isS := false, isB := false } := keep (by kernel_rfl)
@[simp] theorem td_u8 : td Tryz.prog 5 = some { ag := false, sz := 1, by_ := 1, zero := some [.d (.int .u8 0)], el := none, ar := none, fl := [], ik := some .u8, isS := false, isB := false } := keep (by kernel_rfl)
@[simp] theorem td_u8S : td Tryz.prog 22 = some { ag := false, sz := 1, by_ := 24, zero := some [.nil], el := some 5, ar := none, fl := [], ik := none, isS := false, isB := false } := keep (by kernel_rfl)
@[simp] theorem td_strS : td Tryz.prog 69 = some { ag := false, sz := 1, by_ := 24, zero := some [.nil], el := some 9, ar := none, fl := [], ik := none, isS := false, isB := false } := keep (by kernel_rfl)

abbrev ints (l : List Int) : List (List DV) := l.map fun n => [.i n]
abbrev strs (l : List (List UInt8)) : List (List DV) := l.map fun s => [.str s]

end Go.Proofs.YtflmjilnecanhaaGreatDoor

namespace Go.Proofs.YtflmjilnecanhaaGreatDoor
attribute [-simp] Go.Av.take_app_len Go.Av.innVs Go.Av.putBack Go.Av.objCells Go.Av.back Go.Av.resVs Go.Av.one Go.Av.freeStepG Go.Av.exA Go.Av.innAsH Go.Av.AV.innH Go.Av.CV.innH Go.Av.innHs Go.Av.AV.outnH Go.Av.CV.outnH
open Go Go.Av
attribute [local irreducible] T ACalls TX EX LX Draws Some_ ACallsX eTy eTm MTy.kind MTy.kids MTm.kind MTm.name MTm.num MTm.ty MTm.fr MTm.label MTm.kids
attribute [local simp] eTy_def eTm_def
set_option maxHeartbeats 1000000

end Go.Proofs.YtflmjilnecanhaaGreatDoor

namespace Go.Proofs.YtflmjilnecanhaaGreatDoor
attribute [-simp] Go.Av.take_app_len Go.Av.innVs Go.Av.putBack Go.Av.objCells Go.Av.back Go.Av.resVs Go.Av.one Go.Av.freeStepG Go.Av.exA Go.Av.innAsH Go.Av.AV.innH Go.Av.CV.innH Go.Av.innHs Go.Av.AV.outnH Go.Av.CV.outnH
open Go Go.Av
attribute [local irreducible] T ACalls TX EX LX Draws Some_ ACallsX eTy eTm MTy.kind MTy.kids MTm.kind MTm.name MTm.num MTm.ty MTm.fr MTm.label MTm.kids
attribute [local simp] eTy_def eTm_def
set_option maxHeartbeats 16000000
set_option maxRecDepth 8000

theorem l2Num_ok (n : Int) : ACalls Tryz.prog 141 [.i n] [] (aTm (.mk 2 [] n zeroT zeroT 0 [])) [] [] := by
 refine ACalls.of_body Tryz.func141 (by kernel_rfl) rfl (by kernel_rfl) (by simp [Tryz.ntmps141]) (by simp) ?_
 rw [Tryz.ntmps141]
 repeat' first | (refine aops_end (hK _ ?_); clear hK K) | (refine aops_go ?_; simp; (try (refine gen fun q hq => ?_; cases q <;> (try simp at hq) <;> (try (have hh : True := hq; clear hh hq))))) | (refine T.ret (Done.val (Or.inr rfl) ?_) <;> simp [resAs, Tryz.results141] <;> omega) | refine T.r0 fun K hK => ?_

theorem l2Copy_ok : ∀ (e : MTm), nTm e <= 1099511627776 -> ACalls Tryz.prog 101 [aTm e] [] (aTm e) [] [] := by
 intro e
 induction e using MTm.ind with
 | h e ih =>
  intro hn
  obtain ⟨hnt, hnf, hnk, hnu⟩ := nTm_parts hn
  have h1 := l1Copy_ok e.ty hnt
  have h2 := l1Copy_ok e.fr hnf
  refine ACalls.of_body Tryz.func101 (by kernel_rfl) rfl (by kernel_rfl) (by simp [Tryz.ntmps101]) (by simp) ?_
  rw [Tryz.ntmps101]
  repeat' first | (refine aops_end (hK _ ?_); clear hK K) | (refine aops_go ?_; simp; (try (refine gen fun q hq => ?_; cases q <;> (try simp at hq) <;> (try (have hh : True := hq; clear hh hq))))) | (refine wpcall_pure rfl (h1) ?_; simp; (try (refine gen fun q hq => ?_; cases q <;> (try simp at hq) <;> (try (have hh : True := hq; clear hh hq))))) | (refine wpcall_pure rfl (h2) ?_; simp; (try (refine gen fun q hq => ?_; cases q <;> (try simp at hq) <;> (try (have hh : True := hq; clear hh hq))))) | refine T.r0 fun K hK => ?_ | refine T.seq ?_ | refine T.block ?_
  refine T.ownifyObj 2 8 9 46 rfl rfl ?_
  refine T.loopF (fun p : Nat => ⟨[(1, .c (.ptr 0 0)), (2, .c (.ptr 1 0)), (3, .c (.ptr 2 0)), (4, .i p)], [(aTm e).cells, [.d (.i 0), .d (.str []), .d (.i 0), .d (.i 0), .nil, .d (.i 0), .nil, .d (.i 0), .nil], [.d (.i e.kind), .d (.str e.name), .d (.i e.num), .d (.i e.ty.kind), .d (.sl (e.ty.kids.map eTy)), .d (.i e.fr.kind), .d (.sl (e.fr.kids.map eTy)), .d (.i e.label), .own 0 p]], [{ sz := 9, ety := 46, rows := (e.kids.take p).map eTm, wr := true }]⟩) (fun p => e.kids.length + 1 - p) (fun p => p <= e.kids.length) (fun p hi => ?_) 0 (by simp) (by simp)
  by_cases hlt : p < e.kids.length
  ·obtain ⟨u, ht⟩ := get_lt hlt
   have htm : u ∈ e.kids := List.mem_of_getElem? ht
   have hgt : e.kids[p] = u := by rw [List.getElem?_eq_getElem hlt] at ht; exact Option.some.inj ht
   have hdr : e.kids.drop p = u :: e.kids.drop (p + 1) := by rw [List.drop_eq_getElem_cons hlt, hgt]
   have hu := ih u htm (hnu u htm)
   have htk : e.kids.take (p + 1) = e.kids.take p ++ [u] := by rw [List.take_add_one, ht]; rfl
   have hmin : min p e.kids.length = p := by omega
   repeat' first | ((first | refine aops_end (hK _ ?_) | refine aopsD_end (hK _ ?_)); clear hK K) | ((first | refine aops_go ?_ | refine aopsD_go ?_); simp [hlt, hgt, hmin]; (try simp (disch := omega) only [wrap64]); (try (refine gen fun q hq => ?_; cases q <;> (try simp [hlt, hgt, hmin] at hq) <;> (try (have hh : True := hq; clear hh hq))))) | (refine wpcall_pure rfl (hu) ?_; simp [hlt, hgt, hmin]; (try simp (disch := omega) only [wrap64]); (try (refine gen fun q hq => ?_; cases q <;> (try simp [hlt, hgt, hmin] at hq) <;> (try (have hh : True := hq; clear hh hq))))) | (refine ⟨p + 1, by dsimp only; omega, by omega, ?_, ?_, ?_⟩ <;> simp (disch := omega) [wrap64, htk, eTm_def]) | refine T.rd1 (id := 8) mixed (fun _ => false) [9, 11] (by kernel_rfl) fun K hK => ?_ | refine T.r0 fun K hK => ?_ | refine T.r1 fun K hK => ?_ | (refine ⟨by omega, ?_⟩) | refine T.ct rfl ?_ | refine T.seq ?_ | refine T.block ?_ | refine T.skip ?_
  ·have hp' : p = e.kids.length := by omega
   subst hp'
   repeat' first | (refine aops_end (hK _ ?_); clear hK K) | (refine aops_go ?_; simp [hlt]; (try (refine gen fun q hq => ?_; cases q <;> (try simp [hlt] at hq) <;> (try (have hh : True := hq; clear hh hq))))) | (refine T.ret (Done.val (Or.inr rfl) ?_) <;> simp [resAs, Tryz.results101] <;> omega) | refine T.r0 fun K hK => ?_ | refine T.cf rfl ?_ | refine T.seq ?_ | refine T.exit ?_

end Go.Proofs.YtflmjilnecanhaaGreatDoor

namespace Go.Proofs.YtflmjilnecanhaaGreatDoor
attribute [-simp] Go.Av.take_app_len Go.Av.innVs Go.Av.putBack Go.Av.objCells Go.Av.back Go.Av.resVs Go.Av.one Go.Av.freeStepG Go.Av.exA Go.Av.innAsH Go.Av.AV.innH Go.Av.CV.innH Go.Av.innHs Go.Av.AV.outnH Go.Av.CV.outnH
open Go Go.Av
attribute [local irreducible] T ACalls TX EX LX Draws Some_ ACallsX eTy eTm MTy.kind MTy.kids MTm.kind MTm.name MTm.num MTm.ty MTm.fr MTm.label MTm.kids
attribute [local simp] eTy_def eTm_def
set_option maxHeartbeats 16000000
set_option maxRecDepth 8000

end Go.Proofs.YtflmjilnecanhaaGreatDoor

namespace Go.Proofs.YtflmjilnecanhaaGreatDoor
attribute [-simp] Go.Av.innVs Go.Av.putBack Go.Av.objCells Go.Av.back Go.Av.resVs Go.Av.one Go.Av.freeStepG Go.Av.exA Go.Av.innAsH Go.Av.AV.innH Go.Av.CV.innH Go.Av.innHs Go.Av.AV.outnH Go.Av.CV.outnH
open Go Go.Av
attribute [local irreducible] T ACalls TX EX LX Draws Some_ ACallsX eTy eTm MTy.kind MTy.kids MTm.kind MTm.name MTm.num MTm.ty MTm.fr MTm.label MTm.kids
attribute [local simp] eTy_def eTm_def
set_option maxHeartbeats 16000000
set_option maxRecDepth 8000

end Go.Proofs.YtflmjilnecanhaaGreatDoor

namespace Go.Proofs.YtflmjilnecanhaaGreatDoor
attribute [-simp] Go.Av.innVs Go.Av.putBack Go.Av.objCells Go.Av.back Go.Av.resVs Go.Av.one Go.Av.freeStepG Go.Av.exA Go.Av.innAsH Go.Av.AV.innH Go.Av.CV.innH Go.Av.innHs Go.Av.AV.outnH Go.Av.CV.outnH
open Go Go.Av
attribute [local irreducible] T ACalls TX EX LX Draws Some_ ACallsX eTy eTm MTy.kind MTy.kids MTm.kind MTm.name MTm.num MTm.ty MTm.fr MTm.label MTm.kids
attribute [local simp] eTy_def eTm_def
set_option maxHeartbeats 16000000
set_option maxRecDepth 8000

def mkN : Nat -> Nat | 0 => 0 | m + 1 => 3 * (mkN m + 1) + 3000
def mkB : Nat -> Nat | 0 => 0 | m + 1 => 3 * (mkB m + 102) + 100

end Go.Proofs.YtflmjilnecanhaaGreatDoor

namespace Go.Proofs.YtflmjilnecanhaaGreatDoor
attribute [-simp] Go.Av.innVs Go.Av.putBack Go.Av.objCells Go.Av.back Go.Av.resVs Go.Av.one Go.Av.freeStepG Go.Av.exA Go.Av.innAsH Go.Av.AV.innH Go.Av.CV.innH Go.Av.innHs Go.Av.AV.outnH Go.Av.CV.outnH
open Go Go.Av
attribute [local irreducible] T ACalls TX EX LX Draws Some_ ACallsX eTy eTm MTy.kind MTy.kids MTm.kind MTm.name MTm.num MTm.ty MTm.fr MTm.label MTm.kids
attribute [local simp] eTy_def eTm_def
set_option maxHeartbeats 16000000
set_option maxRecDepth 8000

end Go.Proofs.YtflmjilnecanhaaGreatDoor
