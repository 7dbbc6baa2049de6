/- A part of the library of this seat: a value-semantic program logic over the model, plain models, and walks of functions. -/
import Derived.Test.YtfdknjjnifnobaaGreatE4
import Derived.Test.YtfdknjjnifnobaaGreatChecked
set_option linter.unusedVariables false
set_option linter.unusedSimpArgs false
namespace Go.Proofs.YtfdknjjnifnobaaGreat
attribute [-simp] Go.Av.get_app_len Go.Av.get_app_len0 Go.Av.set_app_len Go.Av.set_app_len0 Go.Av.freeStep Go.Av.exV Go.Av.keepL Go.Av.ups Go.Av.take_app_len Go.Av.innVs Go.Av.putBack Go.Av.objCells Go.Av.back Go.Av.resVs Go.Av.one
open Go Go.Av
attribute [local irreducible] T
attribute [local simp] eTy_def eTm_def
set_option linter.unusedSimpArgs false
set_option linter.unusedVariables false

@[simp] theorem td_int : td Tryz.prog 3 = some { ag := false, sz := 1, by_ := 8, zero := some [.d (.int .i64 0)], el := none, ar := none, fl := [], ik := some .i64, isS := false, isB := false } := keep (by kernel_rfl)
@[simp] theorem td_bool : td Tryz.prog 4 = some { ag := false, sz := 1, by_ := 1, zero := some [.d (.bool false)], el := none, ar := none, fl := [], ik := none, isS := false, isB := true } := keep (by kernel_rfl)
@[simp] theorem td_string : td Tryz.prog 9 = some { ag := false, sz := 1, by_ := 16, zero := some [.d (.str [])], el := none, ar := none, fl := [], ik := none, isS := true, isB := false } := keep (by kernel_rfl)
@[simp] theorem td_implTypeS : td Tryz.prog 23 = some { ag := false, sz := 1, by_ := 24, zero := some [.nil], el := some 25, ar := none, fl := [], ik := none, isS := false, isB := false } := keep (by kernel_rfl)
@[simp] theorem td_implType : td Tryz.prog 25 = some { ag := true, sz := 2, by_ := 32, zero := some [.d (.int .i64 0), .nil], el := none, ar := none, fl := [(0, 1), (1, 1)], ik := none, isS := false, isB := false } := keep (by kernel_rfl)
@[simp] theorem td_implTermS : td Tryz.prog 26 = some { ag := false, sz := 1, by_ := 24, zero := some [.nil], el := some 28, ar := none, fl := [], ik := none, isS := false, isB := false } := keep (by kernel_rfl)
@[simp] theorem td_implTerm : td Tryz.prog 28 = some { ag := true, sz := 9, by_ := 128, zero := some [.d (.int .i64 0), .d (.str []), .d (.int .i64 0), .d (.int .i64 0), .nil, .d (.int .i64 0), .nil, .d (.int .i64 0), .nil], el := none, ar := none, fl := [(0, 1), (1, 1), (2, 1), (3, 2), (5, 2), (7, 1), (8, 1)], ik := none, isS := false, isB := false } := keep (by kernel_rfl)
theorem mixed : Tryz.prog.follows .mixedOrders = true := by kernel_rfl

end Go.Proofs.YtfdknjjnifnobaaGreat

namespace Go.Proofs.YtfdknjjnifnobaaGreat
attribute [-simp] Go.Av.get_app_len Go.Av.get_app_len0 Go.Av.set_app_len Go.Av.set_app_len0 Go.Av.freeStep Go.Av.exV Go.Av.keepL Go.Av.ups Go.Av.take_app_len Go.Av.innVs Go.Av.putBack Go.Av.objCells Go.Av.back Go.Av.resVs Go.Av.one
open Go Go.Av
attribute [local irreducible] T
attribute [local simp] eTy_def eTm_def
set_option linter.unusedSimpArgs false
set_option linter.unusedVariables false

end Go.Proofs.YtfdknjjnifnobaaGreat

namespace Go.Proofs.YtfdknjjnifnobaaGreat
attribute [-simp] Go.Av.get_app_len Go.Av.get_app_len0 Go.Av.set_app_len Go.Av.set_app_len0 Go.Av.freeStep Go.Av.exV Go.Av.keepL Go.Av.ups Go.Av.take_app_len Go.Av.innVs Go.Av.putBack Go.Av.objCells Go.Av.back Go.Av.resVs Go.Av.one
open Go Go.Av
attribute [local irreducible] T
attribute [local simp] eTy_def eTm_def
set_option linter.unusedSimpArgs false
set_option linter.unusedVariables false

end Go.Proofs.YtfdknjjnifnobaaGreat

namespace Go.Proofs.YtfdknjjnifnobaaGreat
attribute [-simp] Go.Av.freeStep Go.Av.exV Go.Av.keepL Go.Av.ups Go.Av.take_app_len Go.Av.innVs Go.Av.putBack Go.Av.objCells Go.Av.back Go.Av.resVs Go.Av.one
open Go Go.Av
attribute [local irreducible] T
attribute [local simp] eTy_def eTm_def
set_option linter.unusedSimpArgs false
set_option linter.unusedVariables false

theorem inM_ok (x lo hi : Int) : ACalls Tryz.prog 166 [.i x, .i lo, .i hi] [] (.b (inM x lo hi)) [] [] := by
  refine ACalls.of_body Tryz.func166 (by kernel_rfl) rfl (by kernel_rfl) (by simp [Tryz.ntmps166]) (by simp) ?_
  rw [Tryz.ntmps166]
  repeat' first
    | ((first | refine aops_end (hK _ ?_)); clear hK K)
    | ((first | refine aops_go ?_); simp; (try (refine gen fun q hq => ?_; cases q <;> (try simp at hq))))
    | refine T.rs (fun _ => false) fun K hK => ?_
    | refine T.rs1 (fun _ => false) fun K hK => ?_
    | refine T.cond rfl (fun hc => ?_) (fun hc => absurd hc (by decide))
    | refine T.cond rfl (fun hc => absurd hc (by decide)) (fun hc => ?_)
    | refine T.seq ?_
    | refine T.block ?_
    | refine T.skip ?_
    | refine T.exit ?_
  all_goals (refine T.ret (Done.data (Or.inr rfl) ?_ ?_) <;> simp [Tryz.results166, inM, *] <;> omega)

theorem isName_ok (s : List UInt8) : ACalls Tryz.prog 193 [.s s] [] (.b (nameM s)) [] [] := by
  refine ACalls.of_body Tryz.func193 (by kernel_rfl) rfl (by kernel_rfl) (by simp [Tryz.ntmps193]) (by simp) ?_
  rw [Tryz.ntmps193]
  match s with
  | [] =>
    repeat' first
      | ((first | refine aops_end (hK _ ?_)); clear hK K)
      | ((first | refine aops_go ?_); simp; (try (refine gen fun q hq => ?_; cases q <;> (try simp at hq))))
      | refine T.rs (fun _ => false) fun K hK => ?_
      | refine T.rs1 (fun _ => false) fun K hK => ?_
      | refine T.cond rfl (fun hc => ?_) (fun hc => absurd hc (by decide))
      | refine T.cond rfl (fun hc => absurd hc (by decide)) (fun hc => ?_)
      | refine T.seq ?_
      | refine T.block ?_
      | refine T.skip ?_
      | refine T.exit ?_
    all_goals (refine T.ret (Done.data (Or.inr rfl) ?_ ?_) <;> simp [Tryz.results193, nameM])
  | [c] =>
    repeat' first
      | ((first | refine aops_end (hK _ ?_)); clear hK K)
      | ((first | refine aops_go ?_); simp; (try (refine gen fun q hq => ?_; cases q <;> (try simp at hq))))
      | refine T.rs (fun _ => false) fun K hK => ?_
      | refine T.rs1 (fun _ => false) fun K hK => ?_
      | refine T.cond rfl (fun hc => ?_) (fun hc => absurd hc (by decide))
      | refine T.cond rfl (fun hc => absurd hc (by decide)) (fun hc => ?_)
      | refine T.seq ?_
      | refine T.block ?_
      | refine T.skip ?_
      | refine T.exit ?_
    all_goals (refine T.ret (Done.data (Or.inr rfl) ?_ ?_) <;> simp [Tryz.results193, nameM, *] <;> omega)
  | c :: d :: r =>
    have h2 : ¬ ((r.length : Int) + 1 + 1 = 1) := by omega
    repeat' first
      | ((first | refine aops_end (hK _ ?_)); clear hK K)
      | ((first | refine aops_go ?_); simp [h2, beq_f h2]; (try (refine gen fun q hq => ?_; cases q <;> (try simp [h2] at hq))))
      | refine T.rs (fun _ => false) fun K hK => ?_
      | refine T.rs1 (fun _ => false) fun K hK => ?_
      | refine T.cond rfl (fun hc => ?_) (fun hc => absurd hc (by decide))
      | refine T.cond rfl (fun hc => absurd hc (by decide)) (fun hc => ?_)
      | refine T.seq ?_
      | refine T.block ?_
      | refine T.skip ?_
      | refine T.exit ?_
    all_goals (refine T.ret (Done.data (Or.inr rfl) ?_ ?_) <;> simp [Tryz.results193, nameM])

theorem l2Name_ok (s : List UInt8) : ACalls Tryz.prog 199 [.s s] [] (.b (nameM s)) [] [] := by
  refine ACalls.of_body Tryz.func199 (by kernel_rfl) rfl (by kernel_rfl) (by simp [Tryz.ntmps199]) (by simp) ?_
  rw [Tryz.ntmps199]
  match s with
  | [] =>
    repeat' first
      | ((first | refine aops_end (hK _ ?_)); clear hK K)
      | ((first | refine aops_go ?_); simp; (try (refine gen fun q hq => ?_; cases q <;> (try simp at hq))))
      | refine T.rs (fun _ => false) fun K hK => ?_
      | refine T.rs1 (fun _ => false) fun K hK => ?_
      | refine T.cond rfl (fun hc => ?_) (fun hc => absurd hc (by decide))
      | refine T.cond rfl (fun hc => absurd hc (by decide)) (fun hc => ?_)
      | refine T.seq ?_
      | refine T.block ?_
      | refine T.skip ?_
      | refine T.exit ?_
    all_goals (refine T.ret (Done.data (Or.inr rfl) ?_ ?_) <;> simp [Tryz.results199, nameM])
  | [c] =>
    repeat' first
      | ((first | refine aops_end (hK _ ?_)); clear hK K)
      | ((first | refine aops_go ?_); simp; (try (refine gen fun q hq => ?_; cases q <;> (try simp at hq))))
      | refine T.rs (fun _ => false) fun K hK => ?_
      | refine T.rs1 (fun _ => false) fun K hK => ?_
      | refine T.cond rfl (fun hc => ?_) (fun hc => absurd hc (by decide))
      | refine T.cond rfl (fun hc => absurd hc (by decide)) (fun hc => ?_)
      | refine T.seq ?_
      | refine T.block ?_
      | refine T.skip ?_
      | refine T.exit ?_
    all_goals (refine T.ret (Done.data (Or.inr rfl) ?_ ?_) <;> simp [Tryz.results199, nameM, *] <;> omega)
  | c :: d :: r =>
    have h2 : ¬ ((r.length : Int) + 1 + 1 = 1) := by omega
    repeat' first
      | ((first | refine aops_end (hK _ ?_)); clear hK K)
      | ((first | refine aops_go ?_); simp [h2, beq_f h2]; (try (refine gen fun q hq => ?_; cases q <;> (try simp [h2] at hq))))
      | refine T.rs (fun _ => false) fun K hK => ?_
      | refine T.rs1 (fun _ => false) fun K hK => ?_
      | refine T.cond rfl (fun hc => ?_) (fun hc => absurd hc (by decide))
      | refine T.cond rfl (fun hc => absurd hc (by decide)) (fun hc => ?_)
      | refine T.seq ?_
      | refine T.block ?_
      | refine T.skip ?_
      | refine T.exit ?_
    all_goals (refine T.ret (Done.data (Or.inr rfl) ?_ ?_) <;> simp [Tryz.results199, nameM])

theorem isNoType_ok (t : MTy) : ACalls Tryz.prog 212 [aTy t] [] (.b (noTyM t)) [] [] := by
  refine ACalls.of_body Tryz.func212 (by kernel_rfl) rfl (by kernel_rfl) (by simp [Tryz.ntmps212]) (by simp) ?_
  rw [Tryz.ntmps212]
  repeat' first
    | ((first | refine aops_end (hK _ ?_)); clear hK K)
    | ((first | refine aops_go ?_); simp; (try (refine gen fun q hq => ?_; cases q <;> (try simp at hq))))
    | refine T.rs (fun _ => false) fun K hK => ?_
    | refine T.rs1 (fun _ => false) fun K hK => ?_
    | refine T.cond rfl (fun hc => ?_) (fun hc => absurd hc (by decide))
    | refine T.cond rfl (fun hc => absurd hc (by decide)) (fun hc => ?_)
    | refine T.seq ?_
    | refine T.block ?_
    | refine T.skip ?_
    | refine T.exit ?_
  all_goals (refine T.ret (Done.data (Or.inr rfl) ?_ ?_) <;> simp [Tryz.results212, noTyM, *])

theorem l2None_ok (t : MTy) : ACalls Tryz.prog 232 [aTy t] [] (.b (noTyM t)) [] [] := by
  refine ACalls.of_body Tryz.func232 (by kernel_rfl) rfl (by kernel_rfl) (by simp [Tryz.ntmps232]) (by simp) ?_
  rw [Tryz.ntmps232]
  repeat' first
    | ((first | refine aops_end (hK _ ?_)); clear hK K)
    | ((first | refine aops_go ?_); simp; (try (refine gen fun q hq => ?_; cases q <;> (try simp at hq))))
    | refine T.rs (fun _ => false) fun K hK => ?_
    | refine T.rs1 (fun _ => false) fun K hK => ?_
    | refine T.cond rfl (fun hc => ?_) (fun hc => absurd hc (by decide))
    | refine T.cond rfl (fun hc => absurd hc (by decide)) (fun hc => ?_)
    | refine T.seq ?_
    | refine T.block ?_
    | refine T.skip ?_
    | refine T.exit ?_
  all_goals (refine T.ret (Done.data (Or.inr rfl) ?_ ?_) <;> simp [Tryz.results232, noTyM, *])

theorem isLabel_ok (n : Int) : ACalls Tryz.prog 214 [.i n] [] (.b (labM n)) [] [] := by
  refine ACalls.of_body Tryz.func214 (by kernel_rfl) rfl (by kernel_rfl) (by simp [Tryz.ntmps214]) (by simp) ?_
  rw [Tryz.ntmps214]
  repeat' first
    | (refine T.rs (fun _ => false) fun K hK => ?_; (repeat (refine aops_go ?_; simp)); refine aops_end (hK _ ?_); clear hK K)
    | (refine T.rs1 (fun _ => false) fun K hK => ?_; (repeat (refine aops_go ?_; simp)); refine aops_end (hK _ ?_); clear hK K)
    | refine T.cond rfl (fun hc => ?_) (fun hc => absurd hc (by decide))
    | refine T.cond rfl (fun hc => absurd hc (by decide)) (fun hc => ?_)
    | refine T.seq ?_
    | refine T.block ?_
    | refine T.skip ?_
    | refine T.exit ?_
  refine T.rs1 (fun _ => false) fun K hK => ?_
  repeat (refine aops_go ?_; simp)
  refine wpcall_pure (by simp) (inM_ok n 1 99) ?_
  simp
  refine Ops.gen fun q hq => ?_
  cases q
  · repeat (refine aops_go ?_; simp)
    refine wpcall_pure (by simp) (inM_ok n (-99) (-1)) ?_
    simp
    repeat' first
      | ((first | refine aops_end (hK _ ?_)); clear hK K)
      | ((first | refine aops_go ?_); simp; (try (refine gen fun q hq => ?_; cases q <;> (try simp at hq))))
      | refine T.rs (fun _ => false) fun K hK => ?_
      | refine T.rs1 (fun _ => false) fun K hK => ?_
      | refine T.cond rfl (fun hc => ?_) (fun hc => absurd hc (by decide))
      | refine T.cond rfl (fun hc => absurd hc (by decide)) (fun hc => ?_)
      | refine T.seq ?_
      | refine T.block ?_
      | refine T.skip ?_
      | refine T.exit ?_
    all_goals (refine T.ret (Done.data (Or.inr rfl) ?_ ?_) <;> simp [Tryz.results214, labM, *])
  · repeat' first
      | ((first | refine aops_end (hK _ ?_)); clear hK K)
      | ((first | refine aops_go ?_); simp; (try (refine gen fun q hq => ?_; cases q <;> (try simp at hq))))
      | refine T.rs (fun _ => false) fun K hK => ?_
      | refine T.rs1 (fun _ => false) fun K hK => ?_
      | refine T.cond rfl (fun hc => ?_) (fun hc => absurd hc (by decide))
      | refine T.cond rfl (fun hc => absurd hc (by decide)) (fun hc => ?_)
      | refine T.seq ?_
      | refine T.block ?_
      | refine T.skip ?_
      | refine T.exit ?_
    all_goals (refine T.ret (Done.data (Or.inr rfl) ?_ ?_) <;> simp [Tryz.results214, labM, *])

theorem l2Kids_ok (k : Int) : ACalls Tryz.prog 188 [.i k] [] (.i (kidsM k)) [] [] := by
  refine ACalls.of_body Tryz.func188 (by kernel_rfl) rfl (by kernel_rfl) (by simp [Tryz.ntmps188]) (by simp) ?_
  rw [Tryz.ntmps188]
  repeat' first
    | ((first | refine aops_end (hK _ ?_)); clear hK K)
    | ((first | refine aops_go ?_); simp; (try (refine gen fun q hq => ?_; cases q <;> (try simp at hq))))
    | refine T.rs (fun _ => false) fun K hK => ?_
    | refine T.rs1 (fun _ => false) fun K hK => ?_
    | refine T.cond rfl (fun hc => ?_) (fun hc => absurd hc (by decide))
    | refine T.cond rfl (fun hc => absurd hc (by decide)) (fun hc => ?_)
    | refine T.seq ?_
    | refine T.block ?_
    | refine T.skip ?_
    | refine T.exit ?_
  all_goals (refine T.ret (Done.data (Or.inr rfl) ?_ ?_) <;> simp [Tryz.results188, kidsM, *])

@[simp] theorem td_intS : td Tryz.prog 51 = some { ag := false, sz := 1, by_ := 24, zero := some [.nil], el := some 3, ar := none, fl := [], ik := none, isS := false, isB := false } := keep (by kernel_rfl)

theorem operands_ok (k : Int) : ACalls Tryz.prog 211 [.i k] [] (.i (kidsM k)) [] [] := by
  refine ACalls.of_body Tryz.func211 (by kernel_rfl) rfl (by kernel_rfl) (by simp [Tryz.ntmps211]) (by simp) ?_
  rw [Tryz.ntmps211]
  repeat' first
    | (refine T.rs (fun _ => false) fun K hK => ?_; (repeat (refine aops_go ?_; simp)); refine aops_end (hK _ ?_); clear hK K)
    | (refine T.rs1 (fun _ => false) fun K hK => ?_; (repeat (refine aops_go ?_; simp)); refine aops_end (hK _ ?_); clear hK K)
    | refine T.cond rfl (fun hc => ?_) (fun hc => absurd hc (by decide))
    | refine T.cond rfl (fun hc => absurd hc (by decide)) (fun hc => ?_)
    | refine T.seq ?_
    | refine T.block ?_
    | refine T.skip ?_
    | refine T.exit ?_
  refine T.rs1 (fun _ => false) fun K hK => ?_
  repeat (refine aops_go ?_; simp)
  refine wpcall_pure (by simp) (inM_ok k 1 14) ?_
  simp
  by_cases h : inM k 1 14 = true
  · have hr : k = 1 ∨ k = 2 ∨ k = 3 ∨ k = 4 ∨ k = 5 ∨ k = 6 ∨ k = 7 ∨ k = 8 ∨ k = 9 ∨ k = 10 ∨ k = 11 ∨ k = 12 ∨ k = 13 ∨ k = 14 := by
      simp [inM] at h; omega
    rcases hr with rfl | rfl | rfl | rfl | rfl | rfl | rfl | rfl | rfl | rfl | rfl | rfl | rfl | rfl
    all_goals
      simp [inM] at h
      have hw : ∀ n : Int, 0 ≤ n → n ≤ 20 → IntKind.i64.wrap n = n := fun n h1 h2 => wrap64 (by omega) (by omega)
      repeat' first
        | ((first | refine aops_end (hK _ ?_)); clear hK K)
        | ((first | refine aops_go ?_); simp [inM, hw]; (try (refine gen fun q hq => ?_; cases q <;> (try simp at hq))))
        | refine T.rs (fun _ => false) fun K hK => ?_
        | refine T.rs1 (fun _ => false) fun K hK => ?_
        | refine T.cond rfl (fun hc => ?_) (fun hc => absurd hc (by decide))
        | refine T.cond rfl (fun hc => absurd hc (by decide)) (fun hc => ?_)
        | refine T.seq ?_
        | refine T.block ?_
        | refine T.skip ?_
        | refine T.exit ?_
      all_goals (refine T.ret (Done.data (Or.inr rfl) ?_ ?_) <;> simp [Tryz.results211, kidsM])
  · have hk : kidsM k = -1 := by
      simp only [inM, Bool.not_eq_true, Bool.and_eq_false_iff, decide_eq_false_iff_not] at h
      have : k < 1 ∨ 14 < k := by omega
      simp only [kidsM]
      repeat (rw [if_neg (by omega)])
    simp only [Bool.not_eq_true] at h
    repeat' first
      | ((first | refine aops_end (hK _ ?_)); clear hK K)
      | ((first | refine aops_go ?_); simp [h]; (try (refine gen fun q hq => ?_; cases q <;> (try simp at hq))))
      | refine T.rs (fun _ => false) fun K hK => ?_
      | refine T.rs1 (fun _ => false) fun K hK => ?_
      | refine T.cond rfl (fun hc => ?_) (fun hc => absurd hc (by decide))
      | refine T.cond rfl (fun hc => absurd hc (by decide)) (fun hc => ?_)
      | refine T.seq ?_
      | refine T.block ?_
      | refine T.skip ?_
      | refine T.exit ?_
    all_goals (refine T.ret (Done.data (Or.inr rfl) ?_ ?_) <;> simp [Tryz.results211, hk])

end Go.Proofs.YtfdknjjnifnobaaGreat

namespace Go.Proofs.YtfdknjjnifnobaaGreat
attribute [-simp] Go.Av.freeStep Go.Av.exV Go.Av.keepL Go.Av.ups Go.Av.take_app_len Go.Av.innVs Go.Av.putBack Go.Av.objCells Go.Av.back Go.Av.resVs Go.Av.one
open Go Go.Av
attribute [local irreducible] T ACalls eTy eTm MTy.kind MTy.kids MTm.kind MTm.name MTm.num MTm.ty MTm.fr MTm.label MTm.kids
attribute [local simp] eTy_def eTm_def
set_option linter.unusedSimpArgs false
set_option linter.unusedVariables false
set_option maxHeartbeats 4000000

theorem l1Kids_ok (k : Int) : ACalls Tryz.prog 136 [.i k] [] (.i (tyKids k)) [] [] := by
  refine ACalls.of_body Tryz.func136 (by kernel_rfl) rfl (by kernel_rfl) (by simp [Tryz.ntmps136]) (by simp) ?_
  rw [Tryz.ntmps136]
  repeat' first
    | ((first | refine aops_end (hK _ ?_)); clear hK K)
    | ((first | refine aops_go ?_); simp; (try (refine gen fun q hq => ?_; cases q <;> (try simp at hq) <;> (try (have hh : True := hq; clear hh hq)))))
    | (refine T.ret (Done.data (Or.inr rfl) ?_ ?_) <;> simp [Tryz.results136, tyKids, *] <;> omega)
    | refine T.rs (fun _ => false) fun K hK => ?_
    | refine T.rs1 (fun _ => false) fun K hK => ?_
    | refine T.cond rfl (fun hcnd => ?_) (fun hcnd => absurd hcnd (by decide))
    | refine T.cond rfl (fun hcnd => absurd hcnd (by decide)) (fun hcnd => ?_)
    | refine T.seq ?_
    | refine T.block ?_
    | refine T.skip ?_

theorem l1Shape_ok : ∀ (d : Nat) (t : MTy), d ≤ 1000 → nTy t ≤ 1099511627776 → ACalls Tryz.prog 189 [aTy t, .i d] [] (.b (shapeTy d t)) [] []
  | 0, t, _, _ => by
    refine ACalls.of_body Tryz.func189 (by kernel_rfl) rfl (by kernel_rfl) (by simp [Tryz.ntmps189]) (by simp) ?_
    rw [Tryz.ntmps189]
    repeat' first
      | ((first | refine aops_end (hK _ ?_) | refine aopsD_end (hK _ ?_)); clear hK K)
      | ((first | refine aops_go ?_ | refine aopsD_go ?_); simp; (try (refine gen fun q hq => ?_; cases q <;> (try simp at hq) <;> (try (have hh : True := hq; clear hh hq)))))
      | (refine T.ret (Done.data (Or.inr rfl) ?_ ?_) <;> simp [Tryz.results189, shapeTy] <;> omega)
      | refine T.rs (fun _ => false) fun K hK => ?_
      | refine T.rd mixed (fun _ => false) [] (by kernel_rfl) fun K hK => ?_
      | refine T.cond rfl (fun hcnd => ?_) (fun hcnd => absurd hcnd (by decide))
      | refine T.seq ?_
  | d + 1, t, hd, hn => by
    rw [nTy_def] at hn
    have hlen := nTyS_len t.kids
    have hd1 : ¬ ((d : Int) + 1 < 1) := by omega
    refine ACalls.of_body Tryz.func189 (by kernel_rfl) rfl (by kernel_rfl) (by simp [Tryz.ntmps189]) (by simp) ?_
    rw [Tryz.ntmps189]
    repeat' first
      | ((first | refine aops_end (hK _ ?_) | refine aopsD_end (hK _ ?_)); clear hK K)
      | ((first | refine aops_go ?_ | refine aopsD_go ?_); simp [hd1]; (try (refine gen fun q hq => ?_; cases q <;> (try simp [hd1] at hq) <;> (try (have hh : True := hq; clear hh hq)))))
      | (refine wpcall_pure rfl (l1Kids_ok _) ?_; simp [hd1]; (try first | (refine Ops.gen fun q hq => ?_; cases q <;> (try simp [hd1] at hq) <;> (try (have hh : True := hq; clear hh hq))) | (refine OpsD.gen fun q hq => ?_; cases q <;> (try simp [hd1] at hq) <;> (try (have hh : True := hq; clear hh hq)))))
      | (refine T.ret (Done.data (Or.inr rfl) ?_ ?_) <;> simp [Tryz.results189, shapeTy, *] <;> omega)
      | refine T.rs (fun _ => false) fun K hK => ?_
      | refine T.rd mixed (fun _ => false) [] (by kernel_rfl) fun K hK => ?_
      | refine T.cond rfl (fun hcnd => ?_) (fun hcnd => absurd hcnd (by decide))
      | refine T.cond rfl (fun hcnd => absurd hcnd (by decide)) (fun hcnd => ?_)
      | refine T.seq ?_
      | refine T.block ?_
      | refine T.skip ?_
    obtain ⟨R, hR⟩ : ∃ R, t.kids.all (shapeTy d) = R := ⟨_, rfl⟩
    rw [show shapeTy (d + 1) t = R by simp [shapeTy, hq, hR]]
    refine T.loopF (fun p : Nat => ⟨[(1, .i (d + 1)), (2, .c (.ptr 0 0)), (5, .i p)], [(aTy t).cells], []⟩) (fun p => t.kids.length + 1 - p) (fun p => p ≤ t.kids.length ∧ (t.kids.drop p).all (shapeTy d) = R) (fun p hp => ?_) 0 (by simpa using hR) (by simp)
    obtain ⟨hi, he⟩ := hp
    by_cases hlt : p < t.kids.length
    · obtain ⟨u, ht⟩ := get_lt hlt
      have htm : u ∈ t.kids := List.mem_of_getElem? ht
      have hgt : t.kids[p] = u := by rw [List.getElem?_eq_getElem hlt] at ht; exact Option.some.inj ht
      have hdr : t.kids.drop p = u :: t.kids.drop (p + 1) := by rw [List.drop_eq_getElem_cons hlt, hgt]
      have hu := l1Shape_ok d u (by omega) (by have := nTyS_mem htm; omega)
      rw [hdr, List.all_cons] at he
      cases hb : shapeTy d u <;> rw [hb] at hu he
      · repeat' first
          | ((first | refine aops_end (hK _ ?_)); clear hK K)
          | ((first | refine aops_go ?_); simp [hlt, hgt]; (try simp (disch := omega) only [wrap64]); (try (refine gen fun q hq => ?_; cases q <;> (try simp [hlt, hgt] at hq) <;> (try (have hh : True := hq; clear hh hq)))))
          | (refine wpcall_pure rfl (hu) ?_; simp [hlt, hgt]; (try simp (disch := omega) only [wrap64]); (try first | (refine Ops.gen fun q hq => ?_; cases q <;> (try simp [hlt, hgt] at hq) <;> (try (have hh : True := hq; clear hh hq))) | (refine OpsD.gen fun q hq => ?_; cases q <;> (try simp [hlt, hgt] at hq) <;> (try (have hh : True := hq; clear hh hq)))))
          | (refine T.ret (Done.data (Or.inr rfl) ?_ ?_) <;> simp [Tryz.results189, ← he] <;> omega)
          | refine T.rs (fun _ => false) fun K hK => ?_
          | refine T.cond rfl (fun hcnd => ?_) (fun hcnd => absurd hcnd (by decide))
          | refine T.seq ?_
          | refine T.block ?_
          | refine T.skip ?_
      · repeat' first
          | ((first | refine aops_end (hK _ ?_)); clear hK K)
          | ((first | refine aops_go ?_); simp [hlt, hgt]; (try simp (disch := omega) only [wrap64]); (try (refine gen fun q hq => ?_; cases q <;> (try simp [hlt, hgt] at hq) <;> (try (have hh : True := hq; clear hh hq)))))
          | (refine wpcall_pure rfl (hu) ?_; simp [hlt, hgt]; (try simp (disch := omega) only [wrap64]); (try first | (refine Ops.gen fun q hq => ?_; cases q <;> (try simp [hlt, hgt] at hq) <;> (try (have hh : True := hq; clear hh hq))) | (refine OpsD.gen fun q hq => ?_; cases q <;> (try simp [hlt, hgt] at hq) <;> (try (have hh : True := hq; clear hh hq)))))
          | (refine ⟨p + 1, by dsimp only; omega, ⟨by omega, by simpa using he⟩, ?_⟩; simp (disch := omega) [wrap64])
          | refine T.rs (fun _ => false) fun K hK => ?_
          | refine T.rs1 (fun _ => false) fun K hK => ?_
          | refine T.cond rfl (fun hcnd => ?_) (fun hcnd => absurd hcnd (by decide))
          | refine T.cond rfl (fun hcnd => absurd hcnd (by decide)) (fun hcnd => ?_)
          | refine T.seq ?_
          | refine T.block ?_
          | refine T.skip ?_
    · have hp' : p = t.kids.length := by omega
      subst hp'
      simp at he
      repeat' first
        | ((first | refine aops_end (hK _ ?_)); clear hK K)
        | ((first | refine aops_go ?_); simp [hlt]; (try (refine gen fun q hq => ?_; cases q <;> (try simp [hlt] at hq) <;> (try (have hh : True := hq; clear hh hq)))))
        | (refine T.ret (Done.data (Or.inr rfl) ?_ ?_) <;> simp [Tryz.results189, he] <;> omega)
        | refine T.rs (fun _ => false) fun K hK => ?_
        | refine T.cond rfl (fun hcnd => absurd hcnd (by decide)) (fun hcnd => ?_)
        | refine T.seq ?_
        | refine T.exit ?_
end Go.Proofs.YtfdknjjnifnobaaGreat

namespace Go.Proofs.YtfdknjjnifnobaaGreat
attribute [-simp] Go.Av.freeStep Go.Av.exV Go.Av.keepL Go.Av.ups Go.Av.take_app_len Go.Av.innVs Go.Av.putBack Go.Av.objCells Go.Av.back Go.Av.resVs Go.Av.one
open Go Go.Av
attribute [local irreducible] T ACalls eTy eTm MTy.kind MTy.kids MTm.kind MTm.name MTm.num MTm.ty MTm.fr MTm.label MTm.kids
attribute [local simp] eTy_def eTm_def
set_option linter.unusedSimpArgs false
set_option linter.unusedVariables false
set_option maxHeartbeats 4000000

theorem indexFuncTy_0 (f : FuncId) (l : List MTy) (q : MTy → Bool) (hl : l.length ≤ 4611686018427387904) (hf : ∀ t ∈ l, ACalls Tryz.prog f [aTy t] [] (.b (q t)) [] []) :
    ACalls Tryz.prog 149 [.l (l.map eTy), .c (.fn f [])] [] (.i (firstIx q l 0)) [] [] := by
  refine ACalls.of_body Tryz.func149 (by kernel_rfl) rfl (by kernel_rfl) (by simp [Tryz.ntmps149]) (by simp) ?_
  rw [Tryz.ntmps149]
  repeat' first
    | ((first | refine aops_end (hK _ ?_)); clear hK K)
    | ((first | refine aops_go ?_); simp; (try (refine gen fun q hq => ?_; cases q <;> (try simp at hq) <;> (try (have hh : True := hq; clear hh hq)))))
    | refine T.rs (fun _ => false) fun K hK => ?_
    | refine T.seq ?_
    | refine T.block ?_
  obtain ⟨R, hR⟩ : ∃ R, firstIx q l 0 = R := ⟨_, rfl⟩
  rw [hR]
  refine T.loopF (fun p : Nat => ⟨[(0, .l (l.map eTy)), (1, .c (.fn f [])), (7, .i l.length), (8, .i p)], [], []⟩) (fun p => l.length + 1 - p) (fun p => p ≤ l.length ∧ firstIx q (l.drop p) p = R) (fun p hp => ?_) 0 (by simpa using hR) (by simp)
  obtain ⟨hi, he⟩ := hp
  by_cases hlt : p < l.length
  · obtain ⟨u, ht⟩ := get_lt hlt
    have htm : u ∈ l := List.mem_of_getElem? ht
    have hgt : l[p] = u := by rw [List.getElem?_eq_getElem hlt] at ht; exact Option.some.inj ht
    have hdr : l.drop p = u :: l.drop (p + 1) := by rw [List.drop_eq_getElem_cons hlt, hgt]
    have hu := hf u htm
    rw [hdr, firstIx] at he
    cases hb : q u <;> rw [hb] at hu he
    · repeat' first
        | ((first | refine aops_end (hK _ ?_)); clear hK K)
        | ((first | refine aops_go ?_); simp [hlt, hgt]; (try simp (disch := omega) only [wrap64]); (try (refine gen fun q hq => ?_; cases q <;> (try simp [hlt, hgt] at hq) <;> (try (have hh : True := hq; clear hh hq)))))
        | (refine wpcall_pure rfl (hu) ?_; simp [hlt, hgt]; (try simp (disch := omega) only [wrap64]); (try first | (refine Ops.gen fun q hq => ?_; cases q <;> (try simp [hlt, hgt] at hq) <;> (try (have hh : True := hq; clear hh hq))) | (refine OpsD.gen fun q hq => ?_; cases q <;> (try simp [hlt, hgt] at hq) <;> (try (have hh : True := hq; clear hh hq)))))
        | (refine ⟨p + 1, by dsimp only; omega, ⟨by omega, by simpa using he⟩, ?_⟩; simp (disch := omega) [wrap64])
        | refine T.rs (fun _ => false) fun K hK => ?_
        | refine T.rs1 (fun _ => false) fun K hK => ?_
        | refine T.cond rfl (fun hcnd => ?_) (fun hcnd => absurd hcnd (by decide))
        | refine T.cond rfl (fun hcnd => absurd hcnd (by decide)) (fun hcnd => ?_)
        | refine T.seq ?_
        | refine T.block ?_
        | refine T.skip ?_
    · repeat' first
        | ((first | refine aops_end (hK _ ?_)); clear hK K)
        | ((first | refine aops_go ?_); simp [hlt, hgt]; (try simp (disch := omega) only [wrap64]); (try (refine gen fun q hq => ?_; cases q <;> (try simp [hlt, hgt] at hq) <;> (try (have hh : True := hq; clear hh hq)))))
        | (refine wpcall_pure rfl (hu) ?_; simp [hlt, hgt]; (try simp (disch := omega) only [wrap64]); (try first | (refine Ops.gen fun q hq => ?_; cases q <;> (try simp [hlt, hgt] at hq) <;> (try (have hh : True := hq; clear hh hq))) | (refine OpsD.gen fun q hq => ?_; cases q <;> (try simp [hlt, hgt] at hq) <;> (try (have hh : True := hq; clear hh hq)))))
        | (refine T.ret (Done.data (Or.inr rfl) ?_ ?_) <;> simp [Tryz.results149, ← he] <;> omega)
        | refine T.rs (fun _ => false) fun K hK => ?_
        | refine T.cond rfl (fun hcnd => ?_) (fun hcnd => absurd hcnd (by decide))
        | refine T.seq ?_
        | refine T.block ?_
        | refine T.skip ?_
  · have hp' : p = l.length := by omega
    subst hp'
    simp [firstIx] at he
    repeat' first
      | ((first | refine aops_end (hK _ ?_)); clear hK K)
      | ((first | refine aops_go ?_); simp [hlt]; (try (refine gen fun q hq => ?_; cases q <;> (try simp [hlt] at hq) <;> (try (have hh : True := hq; clear hh hq)))))
      | (refine T.ret (Done.data (Or.inr rfl) ?_ ?_) <;> simp [Tryz.results149, he] <;> omega)
      | refine T.rs (fun _ => false) fun K hK => ?_
      | refine T.cond rfl (fun hcnd => absurd hcnd (by decide)) (fun hcnd => ?_)
      | refine T.seq ?_
      | refine T.exit ?_

theorem containsFuncTy_0 (f : FuncId) (l : List MTy) (q : MTy → Bool) (hl : l.length ≤ 4611686018427387904) (hf : ∀ t ∈ l, ACalls Tryz.prog f [aTy t] [] (.b (q t)) [] []) :
    ACalls Tryz.prog 80 [.l (l.map eTy), .c (.fn f [])] [] (.b (l.any q)) [] [] := by
  refine ACalls.of_body Tryz.func80 (by kernel_rfl) rfl (by kernel_rfl) (by simp [Tryz.ntmps80]) (by simp) ?_
  rw [Tryz.ntmps80]
  rw [← firstIx_any (i := 0) (by omega)]
  repeat' first
    | ((first | refine aops_end (hK _ ?_)); clear hK K)
    | ((first | refine aops_go ?_); simp; (try (refine gen fun q hq => ?_; cases q <;> (try simp at hq) <;> (try (have hh : True := hq; clear hh hq)))))
    | (refine wpcall_pure rfl (indexFuncTy_0 f l q hl hf) ?_; simp; (try first | (refine Ops.gen fun q hq => ?_; cases q <;> (try simp at hq) <;> (try (have hh : True := hq; clear hh hq))) | (refine OpsD.gen fun q hq => ?_; cases q <;> (try simp at hq) <;> (try (have hh : True := hq; clear hh hq)))))
    | (refine T.ret (Done.data (Or.inr rfl) ?_ ?_) <;> simp [Tryz.results80, *] <;> omega)
    | refine T.rs (fun _ => false) fun K hK => ?_

theorem indexFuncTy_1 (f : FuncId) (d : DV) (l : List MTy) (q : MTy → Bool) (hl : l.length ≤ 4611686018427387904) (hf : ∀ t ∈ l, ACalls Tryz.prog f [aTy t, .c (.ptr 0 0)] (dV [[d]]) (.b (q t)) (dV [[d]]) []) :
    ACalls Tryz.prog 149 [.l (l.map eTy), .c (.fn f [0])] (dV [[d]]) (.i (firstIx q l 0)) (dV [[d]]) [] := by
  refine ACalls.of_body Tryz.func149 (by kernel_rfl) rfl (by kernel_rfl) (by simp [Tryz.ntmps149]) (by simp) ?_
  rw [Tryz.ntmps149]
  repeat' first
    | ((first | refine aops_end (hK _ ?_)); clear hK K)
    | ((first | refine aops_go ?_); simp; (try (refine gen fun q hq => ?_; cases q <;> (try simp at hq) <;> (try (have hh : True := hq; clear hh hq)))))
    | refine T.rs (fun _ => false) fun K hK => ?_
    | refine T.seq ?_
    | refine T.block ?_
  obtain ⟨R, hR⟩ : ∃ R, firstIx q l 0 = R := ⟨_, rfl⟩
  rw [hR]
  refine T.loopF (fun p : Nat => ⟨[(0, .l (l.map eTy)), (1, .c (.fn f [0])), (7, .i l.length), (8, .i p)], [[.d d]], []⟩) (fun p => l.length + 1 - p) (fun p => p ≤ l.length ∧ firstIx q (l.drop p) p = R) (fun p hp => ?_) 0 (by simpa using hR) (by simp)
  obtain ⟨hi, he⟩ := hp
  by_cases hlt : p < l.length
  · obtain ⟨u, ht⟩ := get_lt hlt
    have htm : u ∈ l := List.mem_of_getElem? ht
    have hgt : l[p] = u := by rw [List.getElem?_eq_getElem hlt] at ht; exact Option.some.inj ht
    have hdr : l.drop p = u :: l.drop (p + 1) := by rw [List.drop_eq_getElem_cons hlt, hgt]
    have hu := hf u htm
    rw [hdr, firstIx] at he
    cases hb : q u <;> rw [hb] at hu he
    · repeat' first
        | ((first | refine aops_end (hK _ ?_)); clear hK K)
        | ((first | refine aops_go ?_); simp [hlt, hgt]; (try simp (disch := omega) only [wrap64]); (try (refine gen fun q hq => ?_; cases q <;> (try simp [hlt, hgt] at hq) <;> (try (have hh : True := hq; clear hh hq)))))
        | (refine wpcall_obj1 0 [d] rfl rfl hu ?_; simp)
        | (refine ⟨p + 1, by dsimp only; omega, ⟨by omega, by simpa using he⟩, ?_⟩; simp (disch := omega) [wrap64])
        | refine T.rs (fun _ => false) fun K hK => ?_
        | refine T.rs1 (fun _ => false) fun K hK => ?_
        | refine T.cond rfl (fun hcnd => ?_) (fun hcnd => absurd hcnd (by decide))
        | refine T.cond rfl (fun hcnd => absurd hcnd (by decide)) (fun hcnd => ?_)
        | refine T.seq ?_
        | refine T.block ?_
        | refine T.skip ?_
    · repeat' first
        | ((first | refine aops_end (hK _ ?_)); clear hK K)
        | ((first | refine aops_go ?_); simp [hlt, hgt]; (try simp (disch := omega) only [wrap64]); (try (refine gen fun q hq => ?_; cases q <;> (try simp [hlt, hgt] at hq) <;> (try (have hh : True := hq; clear hh hq)))))
        | (refine wpcall_obj1 0 [d] rfl rfl hu ?_; simp)
        | refine T.rs (fun _ => false) fun K hK => ?_
        | refine T.cond rfl (fun hcnd => ?_) (fun hcnd => absurd hcnd (by decide))
        | refine T.seq ?_
        | refine T.block ?_
        | refine T.skip ?_
      refine T.ret (Done.obj1 (Or.inr rfl) ?_ ?_ ?_) <;> simp [Tryz.results149, ← he]
  · have hp' : p = l.length := by omega
    subst hp'
    simp [firstIx] at he
    repeat' first
      | ((first | refine aops_end (hK _ ?_)); clear hK K)
      | ((first | refine aops_go ?_); simp [hlt]; (try (refine gen fun q hq => ?_; cases q <;> (try simp [hlt] at hq) <;> (try (have hh : True := hq; clear hh hq)))))
      | refine T.rs (fun _ => false) fun K hK => ?_
      | refine T.cond rfl (fun hcnd => absurd hcnd (by decide)) (fun hcnd => ?_)
      | refine T.seq ?_
      | refine T.exit ?_
    refine T.ret (Done.obj1 (Or.inr rfl) ?_ ?_ ?_) <;> simp [Tryz.results149, he]

theorem containsFuncTy_1 (f : FuncId) (d : DV) (l : List MTy) (q : MTy → Bool) (hl : l.length ≤ 4611686018427387904) (hf : ∀ t ∈ l, ACalls Tryz.prog f [aTy t, .c (.ptr 0 0)] (dV [[d]]) (.b (q t)) (dV [[d]]) []) :
    ACalls Tryz.prog 80 [.l (l.map eTy), .c (.fn f [0])] (dV [[d]]) (.b (l.any q)) (dV [[d]]) [] := by
  refine ACalls.of_body Tryz.func80 (by kernel_rfl) rfl (by kernel_rfl) (by simp [Tryz.ntmps80]) (by simp) ?_
  rw [Tryz.ntmps80]
  rw [← firstIx_any (i := 0) (by omega)]
  repeat' first
    | ((first | refine aops_end (hK _ ?_)); clear hK K)
    | ((first | refine aops_go ?_); simp; (try (refine gen fun q hq => ?_; cases q <;> (try simp at hq) <;> (try (have hh : True := hq; clear hh hq)))))
    | (refine wpcall_obj1 0 [d] rfl rfl (indexFuncTy_1 f d l q hl hf) ?_; simp)
    | refine T.rs (fun _ => false) fun K hK => ?_
  all_goals (refine T.ret (Done.obj1 (Or.inr rfl) ?_ ?_ ?_) <;> simp [Tryz.results80, *])

theorem indexFuncTm_0 (f : FuncId) (l : List MTm) (q : MTm → Bool) (hl : l.length ≤ 4611686018427387904) (hf : ∀ t ∈ l, ACalls Tryz.prog f [aTm t] [] (.b (q t)) [] []) :
    ACalls Tryz.prog 203 [.l (l.map eTm), .c (.fn f [])] [] (.i (firstIx q l 0)) [] [] := by
  refine ACalls.of_body Tryz.func203 (by kernel_rfl) rfl (by kernel_rfl) (by simp [Tryz.ntmps203]) (by simp) ?_
  rw [Tryz.ntmps203]
  repeat' first
    | ((first | refine aops_end (hK _ ?_) | refine aopsD_end (hK _ ?_)); clear hK K)
    | ((first | refine aops_go ?_ | refine aopsD_go ?_); simp; (try (refine gen fun q hq => ?_; cases q <;> (try simp at hq) <;> (try (have hh : True := hq; clear hh hq)))))
    | refine T.rs (fun _ => false) fun K hK => ?_
    | refine T.rs1 (fun _ => false) fun K hK => ?_
    | refine T.rd mixed (fun _ => false) [] (by kernel_rfl) fun K hK => ?_
    | refine T.rd1 mixed (fun _ => false) [] (by kernel_rfl) fun K hK => ?_
    | refine T.cond rfl (fun hcnd => ?_) (fun hcnd => absurd hcnd (by decide))
    | refine T.cond rfl (fun hcnd => absurd hcnd (by decide)) (fun hcnd => ?_)
    | refine T.seq ?_
    | refine T.block ?_
    | refine T.skip ?_
    | refine T.exit ?_
  obtain ⟨R, hR⟩ : ∃ R, firstIx q l 0 = R := ⟨_, rfl⟩
  rw [hR]
  refine T.loopF (fun p : Nat => ⟨[(0, .l (l.map eTm)), (1, .c (.fn f [])), (7, .i l.length), (8, .i p)], [], []⟩) (fun p => l.length + 1 - p) (fun p => p ≤ l.length ∧ firstIx q (l.drop p) p = R) (fun p hp => ?_) 0 (by simpa using hR) (by simp)
  obtain ⟨hi, he⟩ := hp
  by_cases hlt : p < l.length
  · obtain ⟨u, ht⟩ := get_lt hlt
    have htm : u ∈ l := List.mem_of_getElem? ht
    have hgt : l[p] = u := by rw [List.getElem?_eq_getElem hlt] at ht; exact Option.some.inj ht
    have hdr : l.drop p = u :: l.drop (p + 1) := by rw [List.drop_eq_getElem_cons hlt, hgt]
    have hu := hf u htm
    rw [hdr, firstIx] at he
    cases hb : q u <;> rw [hb] at hu he
    · repeat' first
        | ((first | refine aops_end (hK _ ?_) | refine aopsD_end (hK _ ?_)); clear hK K)
        | ((first | refine aops_go ?_ | refine aopsD_go ?_); simp [hlt, hgt]; (try simp (disch := omega) only [wrap64]); (try (refine gen fun q hq => ?_; cases q <;> (try simp [hlt, hgt] at hq) <;> (try (have hh : True := hq; clear hh hq)))))
        | (refine wpcall_pure rfl (hu) ?_; simp [hlt, hgt]; (try simp (disch := omega) only [wrap64]); (try first | (refine Ops.gen fun q hq => ?_; cases q <;> (try simp [hlt, hgt] at hq) <;> (try (have hh : True := hq; clear hh hq))) | (refine OpsD.gen fun q hq => ?_; cases q <;> (try simp [hlt, hgt] at hq) <;> (try (have hh : True := hq; clear hh hq)))))
        | (refine ⟨p + 1, by dsimp only; omega, ⟨by omega, by simpa using he⟩, ?_⟩; simp (disch := omega) [wrap64])
        | refine T.rs (fun _ => false) fun K hK => ?_
        | refine T.rs1 (fun _ => false) fun K hK => ?_
        | refine T.rd mixed (fun _ => false) [] (by kernel_rfl) fun K hK => ?_
        | refine T.rd1 mixed (fun _ => false) [] (by kernel_rfl) fun K hK => ?_
        | refine T.cond rfl (fun hcnd => ?_) (fun hcnd => absurd hcnd (by decide))
        | refine T.cond rfl (fun hcnd => absurd hcnd (by decide)) (fun hcnd => ?_)
        | refine T.seq ?_
        | refine T.block ?_
        | refine T.skip ?_
        | refine T.exit ?_
    · repeat' first
        | ((first | refine aops_end (hK _ ?_) | refine aopsD_end (hK _ ?_)); clear hK K)
        | ((first | refine aops_go ?_ | refine aopsD_go ?_); simp [hlt, hgt]; (try simp (disch := omega) only [wrap64]); (try (refine gen fun q hq => ?_; cases q <;> (try simp [hlt, hgt] at hq) <;> (try (have hh : True := hq; clear hh hq)))))
        | (refine wpcall_pure rfl (hu) ?_; simp [hlt, hgt]; (try simp (disch := omega) only [wrap64]); (try first | (refine Ops.gen fun q hq => ?_; cases q <;> (try simp [hlt, hgt] at hq) <;> (try (have hh : True := hq; clear hh hq))) | (refine OpsD.gen fun q hq => ?_; cases q <;> (try simp [hlt, hgt] at hq) <;> (try (have hh : True := hq; clear hh hq)))))
        | (refine T.ret (Done.data (Or.inr rfl) ?_ ?_) <;> simp [Tryz.results203, ← he] <;> omega)
        | refine T.rs (fun _ => false) fun K hK => ?_
        | refine T.rs1 (fun _ => false) fun K hK => ?_
        | refine T.rd mixed (fun _ => false) [] (by kernel_rfl) fun K hK => ?_
        | refine T.rd1 mixed (fun _ => false) [] (by kernel_rfl) fun K hK => ?_
        | refine T.cond rfl (fun hcnd => ?_) (fun hcnd => absurd hcnd (by decide))
        | refine T.cond rfl (fun hcnd => absurd hcnd (by decide)) (fun hcnd => ?_)
        | refine T.seq ?_
        | refine T.block ?_
        | refine T.skip ?_
        | refine T.exit ?_
  · have hp' : p = l.length := by omega
    subst hp'
    simp [firstIx] at he
    repeat' first
      | ((first | refine aops_end (hK _ ?_) | refine aopsD_end (hK _ ?_)); clear hK K)
      | ((first | refine aops_go ?_ | refine aopsD_go ?_); simp [hlt]; (try (refine gen fun q hq => ?_; cases q <;> (try simp [hlt] at hq) <;> (try (have hh : True := hq; clear hh hq)))))
      | (refine T.ret (Done.data (Or.inr rfl) ?_ ?_) <;> simp [Tryz.results203, he] <;> omega)
      | refine T.rs (fun _ => false) fun K hK => ?_
      | refine T.rs1 (fun _ => false) fun K hK => ?_
      | refine T.rd mixed (fun _ => false) [] (by kernel_rfl) fun K hK => ?_
      | refine T.rd1 mixed (fun _ => false) [] (by kernel_rfl) fun K hK => ?_
      | refine T.cond rfl (fun hcnd => ?_) (fun hcnd => absurd hcnd (by decide))
      | refine T.cond rfl (fun hcnd => absurd hcnd (by decide)) (fun hcnd => ?_)
      | refine T.seq ?_
      | refine T.block ?_
      | refine T.skip ?_
      | refine T.exit ?_

theorem containsFuncTm_0 (f : FuncId) (l : List MTm) (q : MTm → Bool) (hl : l.length ≤ 4611686018427387904) (hf : ∀ t ∈ l, ACalls Tryz.prog f [aTm t] [] (.b (q t)) [] []) :
    ACalls Tryz.prog 163 [.l (l.map eTm), .c (.fn f [])] [] (.b (l.any q)) [] [] := by
  refine ACalls.of_body Tryz.func163 (by kernel_rfl) rfl (by kernel_rfl) (by simp [Tryz.ntmps163]) (by simp) ?_
  rw [Tryz.ntmps163]
  rw [← firstIx_any (i := 0) (by omega)]
  repeat' first
    | ((first | refine aops_end (hK _ ?_) | refine aopsD_end (hK _ ?_)); clear hK K)
    | ((first | refine aops_go ?_ | refine aopsD_go ?_); simp; (try (refine gen fun q hq => ?_; cases q <;> (try simp at hq) <;> (try (have hh : True := hq; clear hh hq)))))
    | (refine wpcall_pure rfl (indexFuncTm_0 f l q hl hf) ?_; simp; (try first | (refine Ops.gen fun q hq => ?_; cases q <;> (try simp at hq) <;> (try (have hh : True := hq; clear hh hq))) | (refine OpsD.gen fun q hq => ?_; cases q <;> (try simp at hq) <;> (try (have hh : True := hq; clear hh hq)))))
    | (refine T.ret (Done.data (Or.inr rfl) ?_ ?_) <;> simp [Tryz.results163, *] <;> omega)
    | refine T.rs (fun _ => false) fun K hK => ?_
    | refine T.rs1 (fun _ => false) fun K hK => ?_
    | refine T.rd mixed (fun _ => false) [] (by kernel_rfl) fun K hK => ?_
    | refine T.rd1 mixed (fun _ => false) [] (by kernel_rfl) fun K hK => ?_
    | refine T.cond rfl (fun hcnd => ?_) (fun hcnd => absurd hcnd (by decide))
    | refine T.cond rfl (fun hcnd => absurd hcnd (by decide)) (fun hcnd => ?_)
    | refine T.seq ?_
    | refine T.block ?_
    | refine T.skip ?_
    | refine T.exit ?_

end Go.Proofs.YtfdknjjnifnobaaGreat

namespace Go.Proofs.YtfdknjjnifnobaaGreat
attribute [-simp] Go.Av.freeStep Go.Av.exV Go.Av.keepL Go.Av.ups Go.Av.take_app_len Go.Av.innVs Go.Av.putBack Go.Av.objCells Go.Av.back Go.Av.resVs Go.Av.one
open Go Go.Av
attribute [local irreducible] T ACalls eTy eTm MTy.kind MTy.kids MTm.kind MTm.name MTm.num MTm.ty MTm.fr MTm.label MTm.kids
attribute [local simp] eTy_def eTm_def
set_option linter.unusedSimpArgs false
set_option linter.unusedVariables false
set_option maxHeartbeats 4000000

theorem equalFuncTy_0 (f : FuncId) (l m : List MTy) (q : MTy → MTy → Bool) (hl : l.length ≤ 4611686018427387904) (hf : ∀ a ∈ l, ∀ b ∈ m, ACalls Tryz.prog f [aTy a, aTy b] [] (.b (q a b)) [] []) :
    ACalls Tryz.prog 92 [.l (l.map eTy), .l (m.map eTy), .c (.fn f [])] [] (.b (all2 q l m)) [] [] := by
  refine ACalls.of_body Tryz.func92 (by kernel_rfl) rfl (by kernel_rfl) (by simp [Tryz.ntmps92]) (by simp) ?_
  rw [Tryz.ntmps92]
  by_cases hlm : l.length = m.length
  rotate_left
  · have hne : ¬ (l.length : Int) = m.length := by omega
    repeat' first
      | ((first | refine aops_end (hK _ ?_)); clear hK K)
      | ((first | refine aops_go ?_); simp [hne]; (try (refine gen fun q hq => ?_; cases q <;> (try simp [hne] at hq) <;> (try (have hh : True := hq; clear hh hq)))))
      | (refine T.ret (Done.data (Or.inr rfl) ?_ ?_) <;> simp [Tryz.results92, all2_ne hlm] <;> omega)
      | refine T.rs (fun _ => false) fun K hK => ?_
      | refine T.cond rfl (fun hcnd => ?_) (fun hcnd => absurd hcnd (by decide))
      | refine T.seq ?_
  repeat' first
    | ((first | refine aops_end (hK _ ?_)); clear hK K)
    | ((first | refine aops_go ?_); simp [hlm]; (try (refine gen fun q hq => ?_; cases q <;> (try simp [hlm] at hq) <;> (try (have hh : True := hq; clear hh hq)))))
    | refine T.rs (fun _ => false) fun K hK => ?_
    | refine T.cond rfl (fun hcnd => absurd hcnd (by decide)) (fun hcnd => ?_)
    | refine T.seq ?_
    | refine T.block ?_
    | refine T.skip ?_
  obtain ⟨R, hR⟩ : ∃ R, all2 q l m = R := ⟨_, rfl⟩
  rw [hR]
  refine T.loopF (fun x : Nat × List (List CV) => ⟨[(0, .l (l.map eTy)), (1, .l (m.map eTy)), (2, .c (.fn f [])), (15, .l (l.map eTy)), (16, .i m.length), (17, .i x.1)], x.2, []⟩) (fun x => l.length + 1 - x.1) (fun x => x.1 ≤ l.length ∧ all2 q (l.drop x.1) (m.drop x.1) = R) (fun x hp => ?_) (0, []) (by simpa using hR) (by simp)
  obtain ⟨p, G⟩ := x
  obtain ⟨hi, he⟩ := hp
  dsimp only at hi he ⊢
  by_cases hlt : p < l.length
  · have hlt2 : p < m.length := by omega
    obtain ⟨u, ht⟩ := get_lt hlt
    have htm : u ∈ l := List.mem_of_getElem? ht
    have hgt : l[p] = u := by rw [List.getElem?_eq_getElem hlt] at ht; exact Option.some.inj ht
    have hdr : l.drop p = u :: l.drop (p + 1) := by rw [List.drop_eq_getElem_cons hlt, hgt]
    obtain ⟨v, hv⟩ := get_lt hlt2
    have hvm : v ∈ m := List.mem_of_getElem? hv
    have hgv : m[p] = v := by rw [List.getElem?_eq_getElem hlt2] at hv; exact Option.some.inj hv
    have hu := hf u htm v hvm
    rw [hdr, drop_cons hlt2, hgv, all2_cons] at he
    cases hb : q u v <;> rw [hb] at hu he
    · repeat' first
        | ((first | refine aops_end (hK _ ?_)); clear hK K)
        | ((first | refine aops_go ?_); simp [hlt, hlt2, hgt, hgv]; (try simp (disch := omega) only [wrap64]); (try (refine gen fun q hq => ?_; cases q <;> (try simp [hlt, hlt2, hgt, hgv] at hq) <;> (try (have hh : True := hq; clear hh hq)))))
        | (refine wpcall_pure rfl (hu) ?_; simp [hlt, hlt2, hgt, hgv]; (try simp (disch := omega) only [wrap64]); (try first | (refine Ops.gen fun q hq => ?_; cases q <;> (try simp [hlt, hlt2, hgt, hgv] at hq) <;> (try (have hh : True := hq; clear hh hq))) | (refine OpsD.gen fun q hq => ?_; cases q <;> (try simp [hlt, hlt2, hgt, hgv] at hq) <;> (try (have hh : True := hq; clear hh hq)))))
        | (refine T.ret (Done.data (Or.inr rfl) ?_ ?_) <;> simp [Tryz.results92, ← he] <;> omega)
        | refine T.rs (fun _ => false) fun K hK => ?_
        | refine T.cond rfl (fun hcnd => ?_) (fun hcnd => absurd hcnd (by decide))
        | refine T.seq ?_
        | refine T.block ?_
        | refine T.skip ?_
    · repeat' first
        | ((first | refine aops_end (hK _ ?_)); clear hK K)
        | ((first | refine aops_go ?_); simp [hlt, hlt2, hgt, hgv]; (try simp (disch := omega) only [wrap64]); (try (refine gen fun q hq => ?_; cases q <;> (try simp [hlt, hlt2, hgt, hgv] at hq) <;> (try (have hh : True := hq; clear hh hq)))))
        | (refine wpcall_pure rfl (hu) ?_; simp [hlt, hlt2, hgt, hgv]; (try simp (disch := omega) only [wrap64]); (try first | (refine Ops.gen fun q hq => ?_; cases q <;> (try simp [hlt, hlt2, hgt, hgv] at hq) <;> (try (have hh : True := hq; clear hh hq))) | (refine OpsD.gen fun q hq => ?_; cases q <;> (try simp [hlt, hlt2, hgt, hgv] at hq) <;> (try (have hh : True := hq; clear hh hq)))))
        | (refine ⟨(p + 1, _), by dsimp only; omega, ⟨by dsimp only; omega, by simpa using he⟩, rfl, rfl, ?_⟩; simp (disch := omega) [wrap64])
        | refine T.rs (fun _ => false) fun K hK => ?_
        | refine T.rs1 (fun _ => false) fun K hK => ?_
        | refine T.cond rfl (fun hcnd => ?_) (fun hcnd => absurd hcnd (by decide))
        | refine T.cond rfl (fun hcnd => absurd hcnd (by decide)) (fun hcnd => ?_)
        | refine T.seq ?_
        | refine T.block ?_
        | refine T.skip ?_
  · have hp' : p = l.length := by omega
    subst hp'
    rw [List.drop_length, hlm, List.drop_length, all2_nil] at he
    repeat' first
      | ((first | refine aops_end (hK _ ?_)); clear hK K)
      | ((first | refine aops_go ?_); simp [hlt, hlm]; (try (refine gen fun q hq => ?_; cases q <;> (try simp [hlt, hlm] at hq) <;> (try (have hh : True := hq; clear hh hq)))))
      | (refine T.ret (Done.data (Or.inr rfl) ?_ ?_) <;> simp [Tryz.results92, ← he] <;> omega)
      | refine T.rs (fun _ => false) fun K hK => ?_
      | refine T.cond rfl (fun hcnd => absurd hcnd (by decide)) (fun hcnd => ?_)
      | refine T.seq ?_
      | refine T.exit ?_

theorem equalFuncTm_0 (f : FuncId) (l m : List MTm) (q : MTm → MTm → Bool) (hl : l.length ≤ 4611686018427387904) (hf : ∀ a ∈ l, ∀ b ∈ m, ACalls Tryz.prog f [aTm a, aTm b] [] (.b (q a b)) [] []) :
    ACalls Tryz.prog 71 [.l (l.map eTm), .l (m.map eTm), .c (.fn f [])] [] (.b (all2 q l m)) [] [] := by
  refine ACalls.of_body Tryz.func71 (by kernel_rfl) rfl (by kernel_rfl) (by simp [Tryz.ntmps71]) (by simp) ?_
  rw [Tryz.ntmps71]
  by_cases hlm : l.length = m.length
  rotate_left
  · have hne : ¬ (l.length : Int) = m.length := by omega
    repeat' first
      | ((first | refine aops_end (hK _ ?_)); clear hK K)
      | ((first | refine aops_go ?_); simp [hne]; (try (refine gen fun q hq => ?_; cases q <;> (try simp [hne] at hq) <;> (try (have hh : True := hq; clear hh hq)))))
      | (refine T.ret (Done.data (Or.inr rfl) ?_ ?_) <;> simp [Tryz.results71, all2_ne hlm] <;> omega)
      | refine T.rs (fun _ => false) fun K hK => ?_
      | refine T.cond rfl (fun hcnd => ?_) (fun hcnd => absurd hcnd (by decide))
      | refine T.seq ?_
  repeat' first
    | ((first | refine aops_end (hK _ ?_)); clear hK K)
    | ((first | refine aops_go ?_); simp [hlm]; (try (refine gen fun q hq => ?_; cases q <;> (try simp [hlm] at hq) <;> (try (have hh : True := hq; clear hh hq)))))
    | refine T.rs (fun _ => false) fun K hK => ?_
    | refine T.cond rfl (fun hcnd => absurd hcnd (by decide)) (fun hcnd => ?_)
    | refine T.seq ?_
    | refine T.block ?_
    | refine T.skip ?_
  obtain ⟨R, hR⟩ : ∃ R, all2 q l m = R := ⟨_, rfl⟩
  rw [hR]
  refine T.loopF (fun x : Nat × List (List CV) => ⟨[(0, .l (l.map eTm)), (1, .l (m.map eTm)), (2, .c (.fn f [])), (15, .l (l.map eTm)), (16, .i m.length), (17, .i x.1)], x.2, []⟩) (fun x => l.length + 1 - x.1) (fun x => x.1 ≤ l.length ∧ all2 q (l.drop x.1) (m.drop x.1) = R) (fun x hp => ?_) (0, []) (by simpa using hR) (by simp)
  obtain ⟨p, G⟩ := x
  obtain ⟨hi, he⟩ := hp
  dsimp only at hi he ⊢
  by_cases hlt : p < l.length
  · have hlt2 : p < m.length := by omega
    obtain ⟨u, ht⟩ := get_lt hlt
    have htm : u ∈ l := List.mem_of_getElem? ht
    have hgt : l[p] = u := by rw [List.getElem?_eq_getElem hlt] at ht; exact Option.some.inj ht
    have hdr : l.drop p = u :: l.drop (p + 1) := by rw [List.drop_eq_getElem_cons hlt, hgt]
    obtain ⟨v, hv⟩ := get_lt hlt2
    have hvm : v ∈ m := List.mem_of_getElem? hv
    have hgv : m[p] = v := by rw [List.getElem?_eq_getElem hlt2] at hv; exact Option.some.inj hv
    have hu := hf u htm v hvm
    rw [hdr, drop_cons hlt2, hgv, all2_cons] at he
    cases hb : q u v <;> rw [hb] at hu he
    · repeat' first
        | ((first | refine aops_end (hK _ ?_)); clear hK K)
        | ((first | refine aops_go ?_); simp [hlt, hlt2, hgt, hgv]; (try simp (disch := omega) only [wrap64]); (try (refine gen fun q hq => ?_; cases q <;> (try simp [hlt, hlt2, hgt, hgv] at hq) <;> (try (have hh : True := hq; clear hh hq)))))
        | (refine wpcall_pure rfl (hu) ?_; simp [hlt, hlt2, hgt, hgv]; (try simp (disch := omega) only [wrap64]); (try first | (refine Ops.gen fun q hq => ?_; cases q <;> (try simp [hlt, hlt2, hgt, hgv] at hq) <;> (try (have hh : True := hq; clear hh hq))) | (refine OpsD.gen fun q hq => ?_; cases q <;> (try simp [hlt, hlt2, hgt, hgv] at hq) <;> (try (have hh : True := hq; clear hh hq)))))
        | (refine T.ret (Done.data (Or.inr rfl) ?_ ?_) <;> simp [Tryz.results71, ← he] <;> omega)
        | refine T.rs (fun _ => false) fun K hK => ?_
        | refine T.cond rfl (fun hcnd => ?_) (fun hcnd => absurd hcnd (by decide))
        | refine T.seq ?_
        | refine T.block ?_
        | refine T.skip ?_
    · repeat' first
        | ((first | refine aops_end (hK _ ?_)); clear hK K)
        | ((first | refine aops_go ?_); simp [hlt, hlt2, hgt, hgv]; (try simp (disch := omega) only [wrap64]); (try (refine gen fun q hq => ?_; cases q <;> (try simp [hlt, hlt2, hgt, hgv] at hq) <;> (try (have hh : True := hq; clear hh hq)))))
        | (refine wpcall_pure rfl (hu) ?_; simp [hlt, hlt2, hgt, hgv]; (try simp (disch := omega) only [wrap64]); (try first | (refine Ops.gen fun q hq => ?_; cases q <;> (try simp [hlt, hlt2, hgt, hgv] at hq) <;> (try (have hh : True := hq; clear hh hq))) | (refine OpsD.gen fun q hq => ?_; cases q <;> (try simp [hlt, hlt2, hgt, hgv] at hq) <;> (try (have hh : True := hq; clear hh hq)))))
        | (refine ⟨(p + 1, _), by dsimp only; omega, ⟨by dsimp only; omega, by simpa using he⟩, rfl, rfl, ?_⟩; simp (disch := omega) [wrap64])
        | refine T.rs (fun _ => false) fun K hK => ?_
        | refine T.rs1 (fun _ => false) fun K hK => ?_
        | refine T.cond rfl (fun hcnd => ?_) (fun hcnd => absurd hcnd (by decide))
        | refine T.cond rfl (fun hcnd => absurd hcnd (by decide)) (fun hcnd => ?_)
        | refine T.seq ?_
        | refine T.block ?_
        | refine T.skip ?_
  · have hp' : p = l.length := by omega
    subst hp'
    rw [List.drop_length, hlm, List.drop_length, all2_nil] at he
    repeat' first
      | ((first | refine aops_end (hK _ ?_)); clear hK K)
      | ((first | refine aops_go ?_); simp [hlt, hlm]; (try (refine gen fun q hq => ?_; cases q <;> (try simp [hlt, hlm] at hq) <;> (try (have hh : True := hq; clear hh hq)))))
      | (refine T.ret (Done.data (Or.inr rfl) ?_ ?_) <;> simp [Tryz.results71, ← he] <;> omega)
      | refine T.rs (fun _ => false) fun K hK => ?_
      | refine T.cond rfl (fun hcnd => absurd hcnd (by decide)) (fun hcnd => ?_)
      | refine T.seq ?_
      | refine T.exit ?_

end Go.Proofs.YtfdknjjnifnobaaGreat

namespace Go.Proofs.YtfdknjjnifnobaaGreat
attribute [-simp] Go.Av.freeStep Go.Av.exV Go.Av.keepL Go.Av.ups Go.Av.take_app_len Go.Av.innVs Go.Av.putBack Go.Av.objCells Go.Av.back Go.Av.resVs Go.Av.one
open Go Go.Av
attribute [local irreducible] T ACalls eTy eTm MTy.kind MTy.kids MTm.kind MTm.name MTm.num MTm.ty MTm.fr MTm.label MTm.kids
attribute [local simp] eTy_def eTm_def
set_option linter.unusedSimpArgs false
set_option linter.unusedVariables false
set_option maxHeartbeats 4000000

theorem TypeValidS_ok (t : MTy) (hn : nTy t ≤ 1099511627776) : ACalls Tryz.prog 128 [aTy t] [] (.b (shapeTy 4 t)) [] [] := by
  refine ACalls.of_body Tryz.func128 (by kernel_rfl) rfl (by kernel_rfl) (by simp [Tryz.ntmps128]) (by simp) ?_
  rw [Tryz.ntmps128]
  repeat' first
    | ((first | refine aops_end (hK _ ?_)); clear hK K)
    | ((first | refine aops_go ?_); simp)
    | (refine wpcall_pure rfl (l1Shape_ok 4 t (by omega) hn) ?_; simp)
    | (refine T.ret (Done.data (Or.inr rfl) ?_ ?_) <;> simp [Tryz.results128] <;> omega)
    | refine T.rs (fun _ => false) fun K hK => ?_

theorem typeScan1_ok (d : Int) (hd : 0 ≤ d ∧ d ≤ 1000) (t : MTy) (q : Bool) (h : ACalls Tryz.prog 93 [aTy t, .i (d + 1)] [] (.b q) [] []) :
    ACalls Tryz.prog 158 [aTy t, .c (.ptr 0 0)] (dV [[.i d]]) (.b (!q)) (dV [[.i d]]) [] := by
  refine ACalls.of_body Tryz.func158 (by kernel_rfl) rfl (by kernel_rfl) (by simp [Tryz.ntmps158]) (by simp) ?_
  rw [Tryz.ntmps158]
  repeat' first
    | ((first | refine aops_end (hK _ ?_)); clear hK K)
    | ((first | refine aops_go ?_); simp; (try simp (disch := omega) only [wrap64]))
    | (refine wpcall_pure rfl (h) ?_; simp; (try simp (disch := omega) only [wrap64]))
    | refine T.rs (fun _ => false) fun K hK => ?_
  refine T.ret (Done.obj1 (Or.inr rfl) ?_ ?_ ?_) <;> simp [Tryz.results158]

theorem typeScan_ok : ∀ (d : Nat) (t : MTy), d ≤ 4 → nTy t ≤ 1099511627776 → ACalls Tryz.prog 93 [aTy t, .i (5 - d)] [] (.b (shapeTy d t)) [] []
  | 0, t, _, _ => by
    refine ACalls.of_body Tryz.func93 (by kernel_rfl) rfl (by kernel_rfl) (by simp [Tryz.ntmps93]) (by simp) ?_
    rw [Tryz.ntmps93]
    repeat' first
      | ((first | refine aops_end (hK _ ?_)); clear hK K)
      | ((first | refine aops_go ?_); simp; (try (refine gen fun q hq => ?_; cases q <;> (try simp at hq) <;> (try (have hh : True := hq; clear hh hq)))))
      | (refine T.ret (Done.data (Or.inr rfl) ?_ ?_) <;> simp [Tryz.results93, shapeTy] <;> omega)
      | refine T.rs (fun _ => false) fun K hK => ?_
      | refine T.rs1 (fun _ => false) fun K hK => ?_
      | refine T.cond rfl (fun hcnd => ?_) (fun hcnd => absurd hcnd (by decide))
      | refine T.cond rfl (fun hcnd => absurd hcnd (by decide)) (fun hcnd => ?_)
      | refine T.seq ?_
      | refine T.block ?_
      | refine T.skip ?_
  | d + 1, t, hd, hn => by
    rw [nTy_def] at hn
    have hlen := nTyS_len t.kids
    have hd1 : (5 : Int) - (d + 1) ≤ 4 := by omega
    have hc := containsFuncTy_1 158 (.i (5 - (d + 1))) t.kids (fun t => !shapeTy d t) (by omega) (fun u hu => typeScan1_ok (5 - (d + 1)) (by omega) u _ (by
      have := typeScan_ok d u (by omega) (by have := nTyS_mem hu; omega)
      rwa [show (5 : Int) - (d + 1) + 1 = 5 - d by omega]))
    have hall : (!t.kids.any fun t => !shapeTy d t) = t.kids.all (shapeTy d) := not_any_not _ _
    rw [show shapeTy (d + 1) t = (decide (tyKids t.kind = t.kids.length) && t.kids.all (shapeTy d)) from rfl, ← hall]
    generalize (t.kids.any fun t => !shapeTy d t) = R at hc ⊢
    refine ACalls.of_body Tryz.func93 (by kernel_rfl) rfl (by kernel_rfl) (by simp [Tryz.ntmps93]) (by simp) ?_
    rw [Tryz.ntmps93]
    repeat' first
      | ((first | refine aops_end (hK _ ?_)); clear hK K)
      | ((first | refine aops_go ?_); simp [hd1]; (try (refine gen fun q hq => ?_; cases q <;> (try simp [hd1] at hq) <;> (try (have hh : True := hq; clear hh hq)))))
      | (refine wpcall_obj1 1 [.i (5 - (d + 1))] rfl (by simp) hc ?_; simp)
      | (refine T.ret (Done.data (Or.inr rfl) ?_ ?_) <;> simp [Tryz.results93, tyKids, *] <;> omega)
      | refine T.rs (fun _ => false) fun K hK => ?_
      | refine T.rs1 (fun _ => false) fun K hK => ?_
      | refine T.cond rfl (fun hcnd => ?_) (fun hcnd => absurd hcnd (by decide))
      | refine T.cond rfl (fun hcnd => absurd hcnd (by decide)) (fun hcnd => ?_)
      | refine T.seq ?_
      | refine T.block ?_
      | refine T.skip ?_
    
theorem TypeValid_ok (t : MTy) (hn : nTy t ≤ 1099511627776) : ACalls Tryz.prog 35 [aTy t] [] (.b (shapeTy 4 t)) [] [] := by
  refine ACalls.of_body Tryz.func35 (by kernel_rfl) rfl (by kernel_rfl) (by simp [Tryz.ntmps35]) (by simp) ?_
  rw [Tryz.ntmps35]
  repeat' first
    | ((first | refine aops_end (hK _ ?_)); clear hK K)
    | ((first | refine aops_go ?_); simp)
    | (refine wpcall_pure rfl (typeScan_ok 4 t (by omega) hn) ?_; simp)
    | (refine T.ret (Done.data (Or.inr rfl) ?_ ?_) <;> simp [Tryz.results35] <;> omega)
    | refine T.rs (fun _ => false) fun K hK => ?_

theorem consistent_ok : (a b : MTy) → nTy a ≤ 1099511627776 → ACalls Tryz.prog 218 [aTy a, aTy b] [] (.b (consTy a b)) [] []
  | .mk k l, b, hn => by
    rw [nTy_def] at hn
    have hlen := nTyS_len l
    have hc := equalFuncTy_0 218 l b.kids consTy (by simp at hn; omega) (fun u hu v hv => consistent_ok u v (by have := nTyS_mem hu; simp at hn; omega))
    rw [consTy_def]
    simp only [MTy.kids_mk, MTy.kind_mk]
    generalize all2 consTy l b.kids = R at hc ⊢
    refine ACalls.of_body Tryz.func218 (by kernel_rfl) rfl (by kernel_rfl) (by simp [Tryz.ntmps218]) (by simp) ?_
    rw [Tryz.ntmps218]
    repeat' first
      | ((first | refine aops_end (hK _ ?_)); clear hK K)
      | ((first | refine aops_go ?_); simp; (try (refine gen fun q hq => ?_; cases q <;> (try simp at hq) <;> (try (have hh : True := hq; clear hh hq)))))
      | (refine wpcall_pure rfl (hc) ?_; simp; (try first | (refine Ops.gen fun q hq => ?_; cases q <;> (try simp at hq) <;> (try (have hh : True := hq; clear hh hq))) | (refine OpsD.gen fun q hq => ?_; cases q <;> (try simp at hq) <;> (try (have hh : True := hq; clear hh hq)))))
      | (refine T.ret (Done.data (Or.inr rfl) ?_ ?_) <;> simp [Tryz.results218, *] <;> omega)
      | refine T.rs (fun _ => false) fun K hK => ?_
termination_by a => SizeOf.sizeOf a
decreasing_by have := List.sizeOf_lt_of_mem hu; simp; omega

theorem Consistent_ok (a b : MTy) (ha : nTy a ≤ 1099511627776) (hb : nTy b ≤ 1099511627776) : ACalls Tryz.prog 213 [aTy a, aTy b] [] (.b (shapeTy 4 a && shapeTy 4 b && consTy a b)) [] [] := by
  refine ACalls.of_body Tryz.func213 (by kernel_rfl) rfl (by kernel_rfl) (by simp [Tryz.ntmps213]) (by simp) ?_
  rw [Tryz.ntmps213]
  repeat' first
    | ((first | refine aops_end (hK _ ?_)); clear hK K)
    | ((first | refine aops_go ?_); simp; (try (refine gen fun q hq => ?_; cases q <;> (try simp at hq) <;> (try (have hh : True := hq; clear hh hq)))))
    | (refine wpcall_pure rfl (TypeValid_ok a ha) ?_; simp; (try first | (refine Ops.gen fun q hq => ?_; cases q <;> (try simp at hq) <;> (try (have hh : True := hq; clear hh hq))) | (refine OpsD.gen fun q hq => ?_; cases q <;> (try simp at hq) <;> (try (have hh : True := hq; clear hh hq)))))
    | (refine wpcall_pure rfl (TypeValid_ok b hb) ?_; simp; (try first | (refine Ops.gen fun q hq => ?_; cases q <;> (try simp at hq) <;> (try (have hh : True := hq; clear hh hq))) | (refine OpsD.gen fun q hq => ?_; cases q <;> (try simp at hq) <;> (try (have hh : True := hq; clear hh hq)))))
    | (refine wpcall_pure rfl (consistent_ok a b ha) ?_; simp; (try first | (refine Ops.gen fun q hq => ?_; cases q <;> (try simp at hq) <;> (try (have hh : True := hq; clear hh hq))) | (refine OpsD.gen fun q hq => ?_; cases q <;> (try simp at hq) <;> (try (have hh : True := hq; clear hh hq)))))
    | (refine T.ret (Done.data (Or.inr rfl) ?_ ?_) <;> simp [Tryz.results213, *] <;> omega)
    | refine T.rs (fun _ => false) fun K hK => ?_

theorem l1Consistent_ok : ∀ (d : Nat) (a b : MTy), d ≤ 1000 → shapeTy d a = true → shapeTy d b = true → ACalls Tryz.prog 129 [aTy a, aTy b] [] (.b (consTy a b)) [] []
  | 0, a, b, _, ha, _ => by simp [shapeTy] at ha
  | d + 1, a, b, hd, ha, hb => by
    obtain ⟨e, he, hka, hla, hsa⟩ := shapeTy_kids ha
    obtain ⟨e', he', hkb, hlb, hsb⟩ := shapeTy_kids hb
    obtain rfl : d = e := by omega
    obtain rfl : d = e' := by omega
    rw [consTy_def]
    refine ACalls.of_body Tryz.func129 (by kernel_rfl) rfl (by kernel_rfl) (by simp [Tryz.ntmps129]) (by simp) ?_
    rw [Tryz.ntmps129]
    by_cases hk1 : a.kind = 1
    · repeat' first
        | ((first | refine aops_end (hK _ ?_)); clear hK K)
        | ((first | refine aops_go ?_); simp [hk1]; (try (refine gen fun q hq => ?_; cases q <;> (try simp [hk1] at hq) <;> (try (have hh : True := hq; clear hh hq)))))
        | (refine T.ret (Done.data (Or.inr rfl) ?_ ?_) <;> simp [Tryz.results129, hk1] <;> omega)
        | refine T.rs (fun _ => false) fun K hK => ?_
        | refine T.cond rfl (fun hcnd => ?_) (fun hcnd => absurd hcnd (by decide))
        | refine T.seq ?_
    by_cases hk2 : b.kind = 1
    · repeat' first
        | ((first | refine aops_end (hK _ ?_)); clear hK K)
        | ((first | refine aops_go ?_); simp [hk1, hk2, beq_f hk1]; (try (refine gen fun q hq => ?_; cases q <;> (try simp [hk1, hk2, beq_f hk1] at hq) <;> (try (have hh : True := hq; clear hh hq)))))
        | (refine T.ret (Done.data (Or.inr rfl) ?_ ?_) <;> simp [Tryz.results129, hk1, hk2] <;> omega)
        | refine T.rs (fun _ => false) fun K hK => ?_
        | refine T.cond rfl (fun hcnd => ?_) (fun hcnd => absurd hcnd (by decide))
        | refine T.seq ?_
    by_cases hk : a.kind = b.kind
    rotate_left
    · repeat' first
        | ((first | refine aops_end (hK _ ?_)); clear hK K)
        | ((first | refine aops_go ?_); simp [hk1, hk2, hk]; (try (refine gen fun q hq => ?_; cases q <;> (try simp [hk1, hk2, hk] at hq) <;> (try (have hh : True := hq; clear hh hq)))))
        | (refine T.ret (Done.data (Or.inr rfl) ?_ ?_) <;> simp [Tryz.results129, hk1, hk2, hk] <;> omega)
        | refine T.rs (fun _ => false) fun K hK => ?_
        | refine T.cond rfl (fun hcnd => ?_) (fun hcnd => absurd hcnd (by decide))
        | refine T.cond rfl (fun hcnd => absurd hcnd (by decide)) (fun hcnd => ?_)
        | refine T.seq ?_
        | refine T.skip ?_
    have hlm : a.kids.length = b.kids.length := by rw [hk] at hka; omega
    repeat' first
      | ((first | refine aops_end (hK _ ?_)); clear hK K)
      | ((first | refine aops_go ?_); simp [hk1, hk2, hk]; (try (refine gen fun q hq => ?_; cases q <;> (try simp [hk1, hk2, hk] at hq) <;> (try (have hh : True := hq; clear hh hq)))))
      | refine T.rs (fun _ => false) fun K hK => ?_
      | refine T.cond rfl (fun hcnd => absurd hcnd (by decide)) (fun hcnd => ?_)
      | refine T.seq ?_
      | refine T.block ?_
      | refine T.skip ?_
    obtain ⟨R, hR⟩ : ∃ R, all2 consTy a.kids b.kids = R := ⟨_, rfl⟩
    rw [show (decide (a.kind = 1) || decide (b.kind = 1) || (decide (a.kind = b.kind) && all2 consTy a.kids b.kids)) = R by simp [hk1, hk2, hk, hR]]
    refine T.loopF (fun p : Nat => ⟨[(2, .c (.ptr 0 0)), (3, .c (.ptr 1 0)), (5, .i p)], [(aTy a).cells, (aTy b).cells], []⟩) (fun p => a.kids.length + 1 - p) (fun p => p ≤ a.kids.length ∧ all2 consTy (a.kids.drop p) (b.kids.drop p) = R) (fun p hp => ?_) 0 (by simpa using hR) (by simp [hk])
    obtain ⟨hi, he⟩ := hp
    by_cases hlt : p < a.kids.length
    · have hlt2 : p < b.kids.length := by omega
      obtain ⟨u, ht⟩ := get_lt hlt
      have htm : u ∈ a.kids := List.mem_of_getElem? ht
      have hgt : a.kids[p] = u := by rw [List.getElem?_eq_getElem hlt] at ht; exact Option.some.inj ht
      have hdr : a.kids.drop p = u :: a.kids.drop (p + 1) := by rw [List.drop_eq_getElem_cons hlt, hgt]
      obtain ⟨v, hv⟩ := get_lt hlt2
      have hvm : v ∈ b.kids := List.mem_of_getElem? hv
      have hgv : b.kids[p] = v := by rw [List.getElem?_eq_getElem hlt2] at hv; exact Option.some.inj hv
      have hu := l1Consistent_ok d u v (by omega) (hsa u htm) (hsb v hvm)
      rw [hdr, drop_cons hlt2, hgv, all2_cons] at he
      cases hb : consTy u v <;> rw [hb] at hu he
      · repeat' first
          | ((first | refine aops_end (hK _ ?_) | refine aopsD_end (hK _ ?_)); clear hK K)
          | ((first | refine aops_go ?_ | refine aopsD_go ?_); simp [hlt, hlt2, hgt, hgv]; (try simp (disch := omega) only [wrap64]); (try (refine gen fun q hq => ?_; cases q <;> (try simp [hlt, hlt2, hgt, hgv] at hq) <;> (try (have hh : True := hq; clear hh hq)))))
          | (refine wpcall_pure rfl (hu) ?_; simp [hlt, hlt2, hgt, hgv]; (try simp (disch := omega) only [wrap64]); (try first | (refine Ops.gen fun q hq => ?_; cases q <;> (try simp [hlt, hlt2, hgt, hgv] at hq) <;> (try (have hh : True := hq; clear hh hq))) | (refine OpsD.gen fun q hq => ?_; cases q <;> (try simp [hlt, hlt2, hgt, hgv] at hq) <;> (try (have hh : True := hq; clear hh hq)))))
          | (refine T.ret (Done.data (Or.inr rfl) ?_ ?_) <;> simp [Tryz.results129, ← he] <;> omega)
          | refine T.rs (fun _ => false) fun K hK => ?_
          | refine T.rd mixed (fun _ => false) [] (by kernel_rfl) fun K hK => ?_
          | refine T.cond rfl (fun hcnd => ?_) (fun hcnd => absurd hcnd (by decide))
          | refine T.seq ?_
          | refine T.block ?_
          | refine T.skip ?_
      · repeat' first
          | ((first | refine aops_end (hK _ ?_) | refine aopsD_end (hK _ ?_)); clear hK K)
          | ((first | refine aops_go ?_ | refine aopsD_go ?_); simp [hlt, hlt2, hgt, hgv]; (try simp (disch := omega) only [wrap64]); (try (refine gen fun q hq => ?_; cases q <;> (try simp [hlt, hlt2, hgt, hgv] at hq) <;> (try (have hh : True := hq; clear hh hq)))))
          | (refine wpcall_pure rfl (hu) ?_; simp [hlt, hlt2, hgt, hgv]; (try simp (disch := omega) only [wrap64]); (try first | (refine Ops.gen fun q hq => ?_; cases q <;> (try simp [hlt, hlt2, hgt, hgv] at hq) <;> (try (have hh : True := hq; clear hh hq))) | (refine OpsD.gen fun q hq => ?_; cases q <;> (try simp [hlt, hlt2, hgt, hgv] at hq) <;> (try (have hh : True := hq; clear hh hq)))))
          | (refine ⟨p + 1, by dsimp only; omega, ⟨by omega, by simpa using he⟩, rfl, rfl, ?_⟩; simp (disch := omega) [wrap64])
          | refine T.rs (fun _ => false) fun K hK => ?_
          | refine T.rs1 (fun _ => false) fun K hK => ?_
          | refine T.rd mixed (fun _ => false) [] (by kernel_rfl) fun K hK => ?_
          | refine T.cond rfl (fun hcnd => ?_) (fun hcnd => absurd hcnd (by decide))
          | refine T.cond rfl (fun hcnd => absurd hcnd (by decide)) (fun hcnd => ?_)
          | refine T.seq ?_
          | refine T.block ?_
          | refine T.skip ?_
    · have hp' : p = a.kids.length := by omega
      subst hp'
      rw [List.drop_length, hlm, List.drop_length, all2_nil] at he
      repeat' first
        | ((first | refine aops_end (hK _ ?_)); clear hK K)
        | ((first | refine aops_go ?_); simp [hlt, hlm]; (try (refine gen fun q hq => ?_; cases q <;> (try simp [hlt, hlm] at hq) <;> (try (have hh : True := hq; clear hh hq)))))
        | (refine T.ret (Done.data (Or.inr rfl) ?_ ?_) <;> simp [Tryz.results129, ← he] <;> omega)
        | refine T.rs (fun _ => false) fun K hK => ?_
        | refine T.cond rfl (fun hcnd => absurd hcnd (by decide)) (fun hcnd => ?_)
        | refine T.seq ?_
        | refine T.exit ?_
end Go.Proofs.YtfdknjjnifnobaaGreat

namespace Go.Proofs.YtfdknjjnifnobaaGreat
attribute [-simp] Go.Av.freeStep Go.Av.exV Go.Av.keepL Go.Av.ups Go.Av.take_app_len Go.Av.innVs Go.Av.putBack Go.Av.objCells Go.Av.back Go.Av.resVs Go.Av.one
open Go Go.Av
attribute [local irreducible] T ACalls eTy eTm MTy.kind MTy.kids MTm.kind MTm.name MTm.num MTm.ty MTm.fr MTm.label MTm.kids
attribute [local simp] eTy_def eTm_def
set_option linter.unusedSimpArgs false
set_option linter.unusedVariables false
set_option maxHeartbeats 4000000

theorem l1Abs_ok (k : Int) : ACalls Tryz.prog 237 [.i k] [] (.i (if k < -99 ∨ 99 < k then 0 else if k < 0 then -k else k)) [] [] := by
  refine ACalls.of_body Tryz.func237 (by kernel_rfl) rfl (by kernel_rfl) (by simp [Tryz.ntmps237]) (by simp) ?_
  rw [Tryz.ntmps237]
  repeat' first
    | ((first | refine aops_end (hK _ ?_) | refine aopsD_end (hK _ ?_)); clear hK K)
    | ((first | refine aops_go ?_ | refine aopsD_go ?_); simp; (try simp (disch := omega) only [wrap64]); (try (refine gen fun q hq => ?_; cases q <;> (try simp at hq) <;> (try (have hh : True := hq; clear hh hq)))))
    | (refine T.ret (Done.data (Or.inr rfl) ?_ ?_) <;> simp [Tryz.results237, *] <;> omega)
    | refine T.rs (fun _ => false) fun K hK => ?_
    | refine T.rs1 (fun _ => false) fun K hK => ?_
    | refine T.rd mixed (fun _ => false) [] (by kernel_rfl) fun K hK => ?_
    | refine T.rd1 mixed (fun _ => false) [] (by kernel_rfl) fun K hK => ?_
    | refine T.cond rfl (fun hcnd => ?_) (fun hcnd => absurd hcnd (by decide))
    | refine T.cond rfl (fun hcnd => absurd hcnd (by decide)) (fun hcnd => ?_)
    | refine T.seq ?_
    | refine T.block ?_
    | refine T.skip ?_
    | refine T.exit ?_

theorem l4Own_ok (e : MTm) (hk : e.kind = 14) (ht : nTy e.ty ≤ 1099511627776) (hf : nTy e.fr ≤ 1099511627776) : ACalls Tryz.prog 204 [aTm e] [] (.b (ownM e)) [] [] := by
  have hr : ownM e = (decide (e.name = []) && decide (e.num = 0) && labM e.label && shapeTy 4 e.ty && shapeTy 4 e.fr && consTy e.fr e.ty) := by
    have hz : inM e.num 0 0 = decide (e.num = 0) := by simp only [inM, ← Bool.decide_and]; exact decide_eq_decide.2 (by omega)
    simp only [ownM, hk, namedM, typedM, castOwnM]
    simp [hz]
    generalize shapeTy 4 e.ty = a; generalize shapeTy 4 e.fr = b; generalize consTy e.fr e.ty = c; generalize labM e.label = d
    cases a <;> cases b <;> cases c <;> cases d <;> simp
  rw [hr]
  generalize hm : (if e.label < -99 ∨ 99 < e.label then 0 else if e.label < 0 then -e.label else e.label) = m
  have hl : labM e.label = (decide (1 ≤ m) && decide (m ≤ 99)) := by
    simp only [labM, inM, ← Bool.decide_and, ← Bool.decide_or]
    refine decide_eq_decide.2 ?_
    rw [← hm]
    split <;> (try split) <;> omega
  have habs := l1Abs_ok e.label
  rw [hm] at habs
  rw [hl]
  have hty := TypeValidS_ok e.ty ht
  have hfr := TypeValidS_ok e.fr hf
  generalize hS : shapeTy 4 e.ty = S1 at *
  generalize hS' : shapeTy 4 e.fr = S2 at *
  cases S1 with
  | false => 
    refine ACalls.of_body Tryz.func204 (by kernel_rfl) rfl (by kernel_rfl) (by simp [Tryz.ntmps204]) (by simp) ?_
    rw [Tryz.ntmps204]
    repeat' first
      | ((first | refine aops_end (hK _ ?_) | refine aopsD_end (hK _ ?_)); clear hK K)
      | ((first | refine aops_go ?_ | refine aopsD_go ?_); simp; (try (refine gen fun q hq => ?_; cases q <;> (try simp at hq) <;> (try (have hh : True := hq; clear hh hq)))))
      | (refine wpcall_pure rfl (habs) ?_; simp; (try first | (refine Ops.gen fun q hq => ?_; cases q <;> (try simp at hq) <;> (try (have hh : True := hq; clear hh hq))) | (refine OpsD.gen fun q hq => ?_; cases q <;> (try simp at hq) <;> (try (have hh : True := hq; clear hh hq)))))
      | (refine wpcall_pure rfl (hty) ?_; simp; (try first | (refine Ops.gen fun q hq => ?_; cases q <;> (try simp at hq) <;> (try (have hh : True := hq; clear hh hq))) | (refine OpsD.gen fun q hq => ?_; cases q <;> (try simp at hq) <;> (try (have hh : True := hq; clear hh hq)))))
      | (refine T.ret (Done.data (Or.inr rfl) ?_ ?_) <;> simp [Tryz.results204, *] <;> omega)
      | refine T.rs (fun _ => false) fun K hK => ?_
      | refine T.rs1 (fun _ => false) fun K hK => ?_
      | refine T.rd mixed (fun _ => false) [] (by kernel_rfl) fun K hK => ?_
      | refine T.rd1 mixed (fun _ => false) [] (by kernel_rfl) fun K hK => ?_
      | refine T.cond rfl (fun hcnd => ?_) (fun hcnd => absurd hcnd (by decide))
      | refine T.cond rfl (fun hcnd => absurd hcnd (by decide)) (fun hcnd => ?_)
      | refine T.seq ?_
      | refine T.block ?_
      | refine T.skip ?_
      | refine T.exit ?_
  | true =>
    cases S2 with
    | false =>
      refine ACalls.of_body Tryz.func204 (by kernel_rfl) rfl (by kernel_rfl) (by simp [Tryz.ntmps204]) (by simp) ?_
      rw [Tryz.ntmps204]
      repeat' first
        | ((first | refine aops_end (hK _ ?_) | refine aopsD_end (hK _ ?_)); clear hK K)
        | ((first | refine aops_go ?_ | refine aopsD_go ?_); simp; (try (refine gen fun q hq => ?_; cases q <;> (try simp at hq) <;> (try (have hh : True := hq; clear hh hq)))))
        | (refine wpcall_pure rfl (habs) ?_; simp; (try first | (refine Ops.gen fun q hq => ?_; cases q <;> (try simp at hq) <;> (try (have hh : True := hq; clear hh hq))) | (refine OpsD.gen fun q hq => ?_; cases q <;> (try simp at hq) <;> (try (have hh : True := hq; clear hh hq)))))
        | (refine wpcall_pure rfl (hty) ?_; simp; (try first | (refine Ops.gen fun q hq => ?_; cases q <;> (try simp at hq) <;> (try (have hh : True := hq; clear hh hq))) | (refine OpsD.gen fun q hq => ?_; cases q <;> (try simp at hq) <;> (try (have hh : True := hq; clear hh hq)))))
        | (refine wpcall_pure rfl (hfr) ?_; simp; (try first | (refine Ops.gen fun q hq => ?_; cases q <;> (try simp at hq) <;> (try (have hh : True := hq; clear hh hq))) | (refine OpsD.gen fun q hq => ?_; cases q <;> (try simp at hq) <;> (try (have hh : True := hq; clear hh hq)))))
        | (refine T.ret (Done.data (Or.inr rfl) ?_ ?_) <;> simp [Tryz.results204, *] <;> omega)
        | refine T.rs (fun _ => false) fun K hK => ?_
        | refine T.rs1 (fun _ => false) fun K hK => ?_
        | refine T.rd mixed (fun _ => false) [] (by kernel_rfl) fun K hK => ?_
        | refine T.rd1 mixed (fun _ => false) [] (by kernel_rfl) fun K hK => ?_
        | refine T.cond rfl (fun hcnd => ?_) (fun hcnd => absurd hcnd (by decide))
        | refine T.cond rfl (fun hcnd => absurd hcnd (by decide)) (fun hcnd => ?_)
        | refine T.seq ?_
        | refine T.block ?_
        | refine T.skip ?_
        | refine T.exit ?_
    | true =>
      have hco := l1Consistent_ok 4 e.fr e.ty (by omega) hS' hS
      refine ACalls.of_body Tryz.func204 (by kernel_rfl) rfl (by kernel_rfl) (by simp [Tryz.ntmps204]) (by simp) ?_
      rw [Tryz.ntmps204]
      repeat' first
        | ((first | refine aops_end (hK _ ?_) | refine aopsD_end (hK _ ?_)); clear hK K)
        | ((first | refine aops_go ?_ | refine aopsD_go ?_); simp; (try (refine gen fun q hq => ?_; cases q <;> (try simp at hq) <;> (try (have hh : True := hq; clear hh hq)))))
        | (refine wpcall_pure rfl (habs) ?_; simp; (try first | (refine Ops.gen fun q hq => ?_; cases q <;> (try simp at hq) <;> (try (have hh : True := hq; clear hh hq))) | (refine OpsD.gen fun q hq => ?_; cases q <;> (try simp at hq) <;> (try (have hh : True := hq; clear hh hq)))))
        | (refine wpcall_pure rfl (hty) ?_; simp; (try first | (refine Ops.gen fun q hq => ?_; cases q <;> (try simp at hq) <;> (try (have hh : True := hq; clear hh hq))) | (refine OpsD.gen fun q hq => ?_; cases q <;> (try simp at hq) <;> (try (have hh : True := hq; clear hh hq)))))
        | (refine wpcall_pure rfl (hfr) ?_; simp; (try first | (refine Ops.gen fun q hq => ?_; cases q <;> (try simp at hq) <;> (try (have hh : True := hq; clear hh hq))) | (refine OpsD.gen fun q hq => ?_; cases q <;> (try simp at hq) <;> (try (have hh : True := hq; clear hh hq)))))
        | (refine wpcall_pure rfl (hco) ?_; simp; (try first | (refine Ops.gen fun q hq => ?_; cases q <;> (try simp at hq) <;> (try (have hh : True := hq; clear hh hq))) | (refine OpsD.gen fun q hq => ?_; cases q <;> (try simp at hq) <;> (try (have hh : True := hq; clear hh hq)))))
        | (refine T.ret (Done.data (Or.inr rfl) ?_ ?_) <;> simp [Tryz.results204, *] <;> omega)
        | refine T.rs (fun _ => false) fun K hK => ?_
        | refine T.rs1 (fun _ => false) fun K hK => ?_
        | refine T.rd mixed (fun _ => false) [] (by kernel_rfl) fun K hK => ?_
        | refine T.rd1 mixed (fun _ => false) [] (by kernel_rfl) fun K hK => ?_
        | refine T.cond rfl (fun hcnd => ?_) (fun hcnd => absurd hcnd (by decide))
        | refine T.cond rfl (fun hcnd => absurd hcnd (by decide)) (fun hcnd => ?_)
        | refine T.seq ?_
        | refine T.block ?_
        | refine T.skip ?_
        | refine T.exit ?_

theorem kind_cases (k : Int) : k = 1 ∨ k = 5 ∨ k = 13 ∨ k = 14 ∨ k = 2 ∨ (¬ k = 1 ∧ ¬ k = 5 ∧ ¬ k = 13 ∧ ¬ k = 14 ∧ ¬ k = 2) := by omega

theorem in00 (n : Int) : inM n 0 0 = decide (n = 0) := by simp only [inM, ← Bool.decide_and]; exact decide_eq_decide.2 (by omega)

theorem l2Own_ok (e : MTm) (hk : e.kind ≠ 14) (ht : nTy e.ty ≤ 1099511627776) : ACalls Tryz.prog 190 [aTm e] [] (.b (ownM e)) [] [] := by
  have hnm := l2Name_ok e.name
  have hty := TypeValidS_ok e.ty ht
  have hnt := l2None_ok e.ty
  have hnf := l2None_ok e.fr
  rcases kind_cases e.kind with h1 | h1 | h1 | h1 | h1 | ⟨h1, h2, h3, h4, h5⟩
  · have hr : ownM e = (nameM e.name && decide (e.num = 0) && noTyM e.ty && (noTyM e.fr && decide (e.label = 0))) := by simp [ownM, h1, namedM, typedM, in00]
    rw [hr]
    refine ACalls.of_body Tryz.func190 (by kernel_rfl) rfl (by kernel_rfl) (by simp [Tryz.ntmps190]) (by simp) ?_
    rw [Tryz.ntmps190]
    repeat' first
      | ((first | refine aops_end (hK _ ?_)); clear hK K)
      | ((first | refine aops_go ?_); simp [h1]; (try (refine gen fun q hq => ?_; cases q <;> (try simp [h1] at hq) <;> (try (have hh : True := hq; clear hh hq)))))
      | (refine wpcall_pure rfl (hnm) ?_; simp [h1]; (try first | (refine Ops.gen fun q hq => ?_; cases q <;> (try simp [h1] at hq) <;> (try (have hh : True := hq; clear hh hq))) | (refine OpsD.gen fun q hq => ?_; cases q <;> (try simp [h1] at hq) <;> (try (have hh : True := hq; clear hh hq)))))
      | (refine wpcall_pure rfl (hnt) ?_; simp [h1]; (try first | (refine Ops.gen fun q hq => ?_; cases q <;> (try simp [h1] at hq) <;> (try (have hh : True := hq; clear hh hq))) | (refine OpsD.gen fun q hq => ?_; cases q <;> (try simp [h1] at hq) <;> (try (have hh : True := hq; clear hh hq)))))
      | (refine wpcall_pure rfl (hnf) ?_; simp [h1]; (try first | (refine Ops.gen fun q hq => ?_; cases q <;> (try simp [h1] at hq) <;> (try (have hh : True := hq; clear hh hq))) | (refine OpsD.gen fun q hq => ?_; cases q <;> (try simp [h1] at hq) <;> (try (have hh : True := hq; clear hh hq)))))
      | (refine T.ret (Done.data (Or.inr rfl) ?_ ?_) <;> simp [Tryz.results190, *] <;> omega)
      | refine T.rs (fun _ => false) fun K hK => ?_
      | refine T.cond rfl (fun hcnd => ?_) (fun hcnd => absurd hcnd (by decide))
      | refine T.cond rfl (fun hcnd => absurd hcnd (by decide)) (fun hcnd => ?_)
      | refine T.seq ?_
      | refine T.skip ?_
  · have hr : ownM e = (nameM e.name && decide (e.num = 0) && shapeTy 4 e.ty && (noTyM e.fr && decide (e.label = 0))) := by simp [ownM, h1, namedM, typedM, in00]
    rw [hr]
    refine ACalls.of_body Tryz.func190 (by kernel_rfl) rfl (by kernel_rfl) (by simp [Tryz.ntmps190]) (by simp) ?_
    rw [Tryz.ntmps190]
    repeat' first
      | ((first | refine aops_end (hK _ ?_)); clear hK K)
      | ((first | refine aops_go ?_); simp [h1]; (try (refine gen fun q hq => ?_; cases q <;> (try simp [h1] at hq) <;> (try (have hh : True := hq; clear hh hq)))))
      | (refine wpcall_pure rfl (hnm) ?_; simp [h1]; (try first | (refine Ops.gen fun q hq => ?_; cases q <;> (try simp [h1] at hq) <;> (try (have hh : True := hq; clear hh hq))) | (refine OpsD.gen fun q hq => ?_; cases q <;> (try simp [h1] at hq) <;> (try (have hh : True := hq; clear hh hq)))))
      | (refine wpcall_pure rfl (hty) ?_; simp [h1]; (try first | (refine Ops.gen fun q hq => ?_; cases q <;> (try simp [h1] at hq) <;> (try (have hh : True := hq; clear hh hq))) | (refine OpsD.gen fun q hq => ?_; cases q <;> (try simp [h1] at hq) <;> (try (have hh : True := hq; clear hh hq)))))
      | (refine wpcall_pure rfl (hnf) ?_; simp [h1]; (try first | (refine Ops.gen fun q hq => ?_; cases q <;> (try simp [h1] at hq) <;> (try (have hh : True := hq; clear hh hq))) | (refine OpsD.gen fun q hq => ?_; cases q <;> (try simp [h1] at hq) <;> (try (have hh : True := hq; clear hh hq)))))
      | (refine T.ret (Done.data (Or.inr rfl) ?_ ?_) <;> simp [Tryz.results190, *] <;> omega)
      | refine T.rs (fun _ => false) fun K hK => ?_
      | refine T.cond rfl (fun hcnd => ?_) (fun hcnd => absurd hcnd (by decide))
      | refine T.cond rfl (fun hcnd => absurd hcnd (by decide)) (fun hcnd => ?_)
      | refine T.seq ?_
      | refine T.skip ?_
  · have hr : ownM e = (decide (e.name = []) && decide (e.num = 0) && shapeTy 4 e.ty && (noTyM e.fr && decide (e.label = 0))) := by simp [ownM, h1, namedM, typedM, in00]
    have hn0 : e.name = [] → nameM e.name = false := fun h => by rw [h]; rfl
    rw [hr]
    by_cases hne : e.name = []
    · rw [hn0 hne, hne] at hnm
      refine ACalls.of_body Tryz.func190 (by kernel_rfl) rfl (by kernel_rfl) (by simp [Tryz.ntmps190]) (by simp) ?_
      rw [Tryz.ntmps190]
      repeat' first
        | ((first | refine aops_end (hK _ ?_)); clear hK K)
        | ((first | refine aops_go ?_); simp [h1, hne]; (try (refine gen fun q hq => ?_; cases q <;> (try simp [h1, hne] at hq) <;> (try (have hh : True := hq; clear hh hq)))))
        | (refine wpcall_pure rfl (hnm) ?_; simp [h1, hne]; (try first | (refine Ops.gen fun q hq => ?_; cases q <;> (try simp [h1, hne] at hq) <;> (try (have hh : True := hq; clear hh hq))) | (refine OpsD.gen fun q hq => ?_; cases q <;> (try simp [h1, hne] at hq) <;> (try (have hh : True := hq; clear hh hq)))))
        | (refine wpcall_pure rfl (hty) ?_; simp [h1, hne]; (try first | (refine Ops.gen fun q hq => ?_; cases q <;> (try simp [h1, hne] at hq) <;> (try (have hh : True := hq; clear hh hq))) | (refine OpsD.gen fun q hq => ?_; cases q <;> (try simp [h1, hne] at hq) <;> (try (have hh : True := hq; clear hh hq)))))
        | (refine wpcall_pure rfl (hnf) ?_; simp [h1, hne]; (try first | (refine Ops.gen fun q hq => ?_; cases q <;> (try simp [h1, hne] at hq) <;> (try (have hh : True := hq; clear hh hq))) | (refine OpsD.gen fun q hq => ?_; cases q <;> (try simp [h1, hne] at hq) <;> (try (have hh : True := hq; clear hh hq)))))
        | (refine T.ret (Done.data (Or.inr rfl) ?_ ?_) <;> simp [Tryz.results190, *] <;> omega)
        | refine T.rs (fun _ => false) fun K hK => ?_
        | refine T.cond rfl (fun hcnd => ?_) (fun hcnd => absurd hcnd (by decide))
        | refine T.cond rfl (fun hcnd => absurd hcnd (by decide)) (fun hcnd => ?_)
        | refine T.seq ?_
        | refine T.skip ?_
    · generalize nameM e.name = nb at hnm
      refine ACalls.of_body Tryz.func190 (by kernel_rfl) rfl (by kernel_rfl) (by simp [Tryz.ntmps190]) (by simp) ?_
      rw [Tryz.ntmps190]
      repeat' first
        | ((first | refine aops_end (hK _ ?_)); clear hK K)
        | ((first | refine aops_go ?_); simp [h1, hne]; (try (refine gen fun q hq => ?_; cases q <;> (try simp [h1, hne] at hq) <;> (try (have hh : True := hq; clear hh hq)))))
        | (refine wpcall_pure rfl (hnm) ?_; simp [h1, hne]; (try first | (refine Ops.gen fun q hq => ?_; cases q <;> (try simp [h1, hne] at hq) <;> (try (have hh : True := hq; clear hh hq))) | (refine OpsD.gen fun q hq => ?_; cases q <;> (try simp [h1, hne] at hq) <;> (try (have hh : True := hq; clear hh hq)))))
        | (refine T.ret (Done.data (Or.inr rfl) ?_ ?_) <;> simp [Tryz.results190, *] <;> omega)
        | refine T.rs (fun _ => false) fun K hK => ?_
        | refine T.cond rfl (fun hcnd => ?_) (fun hcnd => absurd hcnd (by decide))
        | refine T.seq ?_
  · exact absurd h1 hk
  · have hr : ownM e = (decide (e.name = []) && (decide (0 ≤ e.num) && decide (e.num ≤ 999)) && noTyM e.ty && (noTyM e.fr && decide (e.label = 0))) := by simp [ownM, h1, namedM, typedM, inM]
    have hn0 : e.name = [] → nameM e.name = false := fun h => by rw [h]; rfl
    rw [hr]
    by_cases hne : e.name = []
    · rw [hn0 hne, hne] at hnm
      refine ACalls.of_body Tryz.func190 (by kernel_rfl) rfl (by kernel_rfl) (by simp [Tryz.ntmps190]) (by simp) ?_
      rw [Tryz.ntmps190]
      repeat' first
        | ((first | refine aops_end (hK _ ?_)); clear hK K)
        | ((first | refine aops_go ?_); simp [h1, hne]; (try (refine gen fun q hq => ?_; cases q <;> (try simp [h1, hne] at hq) <;> (try (have hh : True := hq; clear hh hq)))))
        | (refine wpcall_pure rfl (hnm) ?_; simp [h1, hne]; (try first | (refine Ops.gen fun q hq => ?_; cases q <;> (try simp [h1, hne] at hq) <;> (try (have hh : True := hq; clear hh hq))) | (refine OpsD.gen fun q hq => ?_; cases q <;> (try simp [h1, hne] at hq) <;> (try (have hh : True := hq; clear hh hq)))))
        | (refine wpcall_pure rfl (hnt) ?_; simp [h1, hne]; (try first | (refine Ops.gen fun q hq => ?_; cases q <;> (try simp [h1, hne] at hq) <;> (try (have hh : True := hq; clear hh hq))) | (refine OpsD.gen fun q hq => ?_; cases q <;> (try simp [h1, hne] at hq) <;> (try (have hh : True := hq; clear hh hq)))))
        | (refine wpcall_pure rfl (hnf) ?_; simp [h1, hne]; (try first | (refine Ops.gen fun q hq => ?_; cases q <;> (try simp [h1, hne] at hq) <;> (try (have hh : True := hq; clear hh hq))) | (refine OpsD.gen fun q hq => ?_; cases q <;> (try simp [h1, hne] at hq) <;> (try (have hh : True := hq; clear hh hq)))))
        | (refine T.ret (Done.data (Or.inr rfl) ?_ ?_) <;> simp [Tryz.results190, *] <;> omega)
        | refine T.rs (fun _ => false) fun K hK => ?_
        | refine T.cond rfl (fun hcnd => ?_) (fun hcnd => absurd hcnd (by decide))
        | refine T.cond rfl (fun hcnd => absurd hcnd (by decide)) (fun hcnd => ?_)
        | refine T.seq ?_
        | refine T.skip ?_
    · generalize nameM e.name = nb at hnm
      refine ACalls.of_body Tryz.func190 (by kernel_rfl) rfl (by kernel_rfl) (by simp [Tryz.ntmps190]) (by simp) ?_
      rw [Tryz.ntmps190]
      repeat' first
        | ((first | refine aops_end (hK _ ?_)); clear hK K)
        | ((first | refine aops_go ?_); simp [h1, hne]; (try (refine gen fun q hq => ?_; cases q <;> (try simp [h1, hne] at hq) <;> (try (have hh : True := hq; clear hh hq)))))
        | (refine wpcall_pure rfl (hnm) ?_; simp [h1, hne]; (try first | (refine Ops.gen fun q hq => ?_; cases q <;> (try simp [h1, hne] at hq) <;> (try (have hh : True := hq; clear hh hq))) | (refine OpsD.gen fun q hq => ?_; cases q <;> (try simp [h1, hne] at hq) <;> (try (have hh : True := hq; clear hh hq)))))
        | (refine T.ret (Done.data (Or.inr rfl) ?_ ?_) <;> simp [Tryz.results190, *] <;> omega)
        | refine T.rs (fun _ => false) fun K hK => ?_
        | refine T.cond rfl (fun hcnd => ?_) (fun hcnd => absurd hcnd (by decide))
        | refine T.seq ?_
  · have hr : ownM e = (decide (e.name = []) && decide (e.num = 0) && noTyM e.ty && (noTyM e.fr && decide (e.label = 0))) := by simp [ownM, h1, h2, h3, h4, h5, namedM, typedM, in00]
    have hn0 : e.name = [] → nameM e.name = false := fun h => by rw [h]; rfl
    rw [hr]
    by_cases hne : e.name = []
    · rw [hn0 hne, hne] at hnm
      refine ACalls.of_body Tryz.func190 (by kernel_rfl) rfl (by kernel_rfl) (by simp [Tryz.ntmps190]) (by simp) ?_
      rw [Tryz.ntmps190]
      repeat' first
        | ((first | refine aops_end (hK _ ?_)); clear hK K)
        | ((first | refine aops_go ?_); simp [h1, h2, h3, h4, h5, hne]; (try (refine gen fun q hq => ?_; cases q <;> (try simp [h1, h2, h3, h4, h5, hne] at hq) <;> (try (have hh : True := hq; clear hh hq)))))
        | (refine wpcall_pure rfl (hnm) ?_; simp [h1, h2, h3, h4, h5, hne]; (try first | (refine Ops.gen fun q hq => ?_; cases q <;> (try simp [h1, h2, h3, h4, h5, hne] at hq) <;> (try (have hh : True := hq; clear hh hq))) | (refine OpsD.gen fun q hq => ?_; cases q <;> (try simp [h1, h2, h3, h4, h5, hne] at hq) <;> (try (have hh : True := hq; clear hh hq)))))
        | (refine wpcall_pure rfl (hnt) ?_; simp [h1, h2, h3, h4, h5, hne]; (try first | (refine Ops.gen fun q hq => ?_; cases q <;> (try simp [h1, h2, h3, h4, h5, hne] at hq) <;> (try (have hh : True := hq; clear hh hq))) | (refine OpsD.gen fun q hq => ?_; cases q <;> (try simp [h1, h2, h3, h4, h5, hne] at hq) <;> (try (have hh : True := hq; clear hh hq)))))
        | (refine wpcall_pure rfl (hnf) ?_; simp [h1, h2, h3, h4, h5, hne]; (try first | (refine Ops.gen fun q hq => ?_; cases q <;> (try simp [h1, h2, h3, h4, h5, hne] at hq) <;> (try (have hh : True := hq; clear hh hq))) | (refine OpsD.gen fun q hq => ?_; cases q <;> (try simp [h1, h2, h3, h4, h5, hne] at hq) <;> (try (have hh : True := hq; clear hh hq)))))
        | (refine T.ret (Done.data (Or.inr rfl) ?_ ?_) <;> simp [Tryz.results190, *] <;> omega)
        | refine T.rs (fun _ => false) fun K hK => ?_
        | refine T.cond rfl (fun hcnd => ?_) (fun hcnd => absurd hcnd (by decide))
        | refine T.cond rfl (fun hcnd => absurd hcnd (by decide)) (fun hcnd => ?_)
        | refine T.seq ?_
        | refine T.skip ?_
    · generalize nameM e.name = nb at hnm
      refine ACalls.of_body Tryz.func190 (by kernel_rfl) rfl (by kernel_rfl) (by simp [Tryz.ntmps190]) (by simp) ?_
      rw [Tryz.ntmps190]
      repeat' first
        | ((first | refine aops_end (hK _ ?_)); clear hK K)
        | ((first | refine aops_go ?_); simp [h1, h2, h3, h4, h5, hne]; (try (refine gen fun q hq => ?_; cases q <;> (try simp [h1, h2, h3, h4, h5, hne] at hq) <;> (try (have hh : True := hq; clear hh hq)))))
        | (refine wpcall_pure rfl (hnm) ?_; simp [h1, h2, h3, h4, h5, hne]; (try first | (refine Ops.gen fun q hq => ?_; cases q <;> (try simp [h1, h2, h3, h4, h5, hne] at hq) <;> (try (have hh : True := hq; clear hh hq))) | (refine OpsD.gen fun q hq => ?_; cases q <;> (try simp [h1, h2, h3, h4, h5, hne] at hq) <;> (try (have hh : True := hq; clear hh hq)))))
        | (refine T.ret (Done.data (Or.inr rfl) ?_ ?_) <;> simp [Tryz.results190, *] <;> omega)
        | refine T.rs (fun _ => false) fun K hK => ?_
        | refine T.cond rfl (fun hcnd => ?_) (fun hcnd => absurd hcnd (by decide))
        | refine T.seq ?_

theorem nodeOk_ok (e : MTm) (hl : e.kids.length ≤ 1099511627776) (ht : nTy e.ty ≤ 1099511627776) (hf : nTy e.fr ≤ 1099511627776) : ACalls Tryz.prog 178 [aTm e] [] (.b (nodeM e)) [] [] := by
  have hop := operands_ok e.kind
  have hnm := isName_ok e.name
  have hty := TypeValid_ok e.ty ht
  have hnt := isNoType_ok e.ty
  have hnf := isNoType_ok e.fr
  have hcon := Consistent_ok e.fr e.ty hf ht
  have hlab := isLabel_ok e.label
  have hin0 := inM_ok e.num 0 0
  have hin9 := inM_ok e.num 0 999
  by_cases hkid : kidsM e.kind = e.kids.length
  rotate_left
  · rw [show nodeM e = false by simp [nodeM, hkid]]
    refine ACalls.of_body Tryz.func178 (by kernel_rfl) rfl (by kernel_rfl) (by simp [Tryz.ntmps178]) (by simp) ?_
    rw [Tryz.ntmps178]
    repeat' first
      | ((first | refine aops_end (hK _ ?_) | refine aopsD_end (hK _ ?_)); clear hK K)
      | ((first | refine aops_go ?_ | refine aopsD_go ?_); simp [hkid]; (try (refine gen fun q hq => ?_; cases q <;> (try simp [hkid] at hq) <;> (try (have hh : True := hq; clear hh hq)))))
      | (refine wpcall_pure rfl (hop) ?_; simp [hkid]; (try first | (refine Ops.gen fun q hq => ?_; cases q <;> (try simp [hkid] at hq) <;> (try (have hh : True := hq; clear hh hq))) | (refine OpsD.gen fun q hq => ?_; cases q <;> (try simp [hkid] at hq) <;> (try (have hh : True := hq; clear hh hq)))))
      | (refine T.ret (Done.data (Or.inr rfl) ?_ ?_) <;> simp [Tryz.results178] <;> omega)
      | refine T.rs (fun _ => false) fun K hK => ?_
      | refine T.rd mixed (fun _ => false) [] (by kernel_rfl) fun K hK => ?_
      | refine T.cond rfl (fun hcnd => ?_) (fun hcnd => absurd hcnd (by decide))
      | refine T.seq ?_
  rw [show nodeM e = ownM e by simp [nodeM, hkid]]
  rw [hkid] at hop
  rcases kind_cases e.kind with h1 | h1 | h1 | h1 | h1 | ⟨h1, h2, h3, h4, h5⟩
  · have hr : ownM e = (nameM e.name && inM e.num 0 0 && noTyM e.ty && (noTyM e.fr && decide (e.label = 0))) := by simp [ownM, h1, namedM, typedM]
    rw [hr]
    rw [h1] at hop
    generalize inM e.num 0 0 = i0 at hin0
    refine ACalls.of_body Tryz.func178 (by kernel_rfl) rfl (by kernel_rfl) (by simp [Tryz.ntmps178]) (by simp) ?_
    rw [Tryz.ntmps178]
    repeat' first
      | ((first | refine aops_end (hK _ ?_) | refine aopsD_end (hK _ ?_)); clear hK K)
      | ((first | refine aops_go ?_ | refine aopsD_go ?_); simp [h1]; (try (refine gen fun q hq => ?_; cases q <;> (try simp [h1] at hq) <;> (try (have hh : True := hq; clear hh hq)))))
      | (refine wpcall_pure rfl (hop) ?_; simp [h1]; (try first | (refine Ops.gen fun q hq => ?_; cases q <;> (try simp [h1] at hq) <;> (try (have hh : True := hq; clear hh hq))) | (refine OpsD.gen fun q hq => ?_; cases q <;> (try simp [h1] at hq) <;> (try (have hh : True := hq; clear hh hq)))))
      | (refine wpcall_pure rfl (hnm) ?_; simp [h1]; (try first | (refine Ops.gen fun q hq => ?_; cases q <;> (try simp [h1] at hq) <;> (try (have hh : True := hq; clear hh hq))) | (refine OpsD.gen fun q hq => ?_; cases q <;> (try simp [h1] at hq) <;> (try (have hh : True := hq; clear hh hq)))))
      | (refine wpcall_pure rfl (hin0) ?_; simp [h1]; (try first | (refine Ops.gen fun q hq => ?_; cases q <;> (try simp [h1] at hq) <;> (try (have hh : True := hq; clear hh hq))) | (refine OpsD.gen fun q hq => ?_; cases q <;> (try simp [h1] at hq) <;> (try (have hh : True := hq; clear hh hq)))))
      | (refine wpcall_pure rfl (hnt) ?_; simp [h1]; (try first | (refine Ops.gen fun q hq => ?_; cases q <;> (try simp [h1] at hq) <;> (try (have hh : True := hq; clear hh hq))) | (refine OpsD.gen fun q hq => ?_; cases q <;> (try simp [h1] at hq) <;> (try (have hh : True := hq; clear hh hq)))))
      | (refine wpcall_pure rfl (hnf) ?_; simp [h1]; (try first | (refine Ops.gen fun q hq => ?_; cases q <;> (try simp [h1] at hq) <;> (try (have hh : True := hq; clear hh hq))) | (refine OpsD.gen fun q hq => ?_; cases q <;> (try simp [h1] at hq) <;> (try (have hh : True := hq; clear hh hq)))))
      | (refine T.ret (Done.data (Or.inr rfl) ?_ ?_) <;> simp [Tryz.results178, *] <;> omega)
      | refine T.rs (fun _ => false) fun K hK => ?_
      | refine T.rs1 (fun _ => false) fun K hK => ?_
      | refine T.rd mixed (fun _ => false) [] (by kernel_rfl) fun K hK => ?_
      | refine T.cond rfl (fun hcnd => ?_) (fun hcnd => absurd hcnd (by decide))
      | refine T.cond rfl (fun hcnd => absurd hcnd (by decide)) (fun hcnd => ?_)
      | refine T.seq ?_
      | refine T.block ?_
      | refine T.skip ?_
  · have hr : ownM e = (nameM e.name && inM e.num 0 0 && shapeTy 4 e.ty && (noTyM e.fr && decide (e.label = 0))) := by simp [ownM, h1, namedM, typedM]
    rw [hr]
    rw [h1] at hop
    generalize inM e.num 0 0 = i0 at hin0
    refine ACalls.of_body Tryz.func178 (by kernel_rfl) rfl (by kernel_rfl) (by simp [Tryz.ntmps178]) (by simp) ?_
    rw [Tryz.ntmps178]
    repeat' first
      | ((first | refine aops_end (hK _ ?_) | refine aopsD_end (hK _ ?_)); clear hK K)
      | ((first | refine aops_go ?_ | refine aopsD_go ?_); simp [h1]; (try (refine gen fun q hq => ?_; cases q <;> (try simp [h1] at hq) <;> (try (have hh : True := hq; clear hh hq)))))
      | (refine wpcall_pure rfl (hop) ?_; simp [h1]; (try first | (refine Ops.gen fun q hq => ?_; cases q <;> (try simp [h1] at hq) <;> (try (have hh : True := hq; clear hh hq))) | (refine OpsD.gen fun q hq => ?_; cases q <;> (try simp [h1] at hq) <;> (try (have hh : True := hq; clear hh hq)))))
      | (refine wpcall_pure rfl (hnm) ?_; simp [h1]; (try first | (refine Ops.gen fun q hq => ?_; cases q <;> (try simp [h1] at hq) <;> (try (have hh : True := hq; clear hh hq))) | (refine OpsD.gen fun q hq => ?_; cases q <;> (try simp [h1] at hq) <;> (try (have hh : True := hq; clear hh hq)))))
      | (refine wpcall_pure rfl (hin0) ?_; simp [h1]; (try first | (refine Ops.gen fun q hq => ?_; cases q <;> (try simp [h1] at hq) <;> (try (have hh : True := hq; clear hh hq))) | (refine OpsD.gen fun q hq => ?_; cases q <;> (try simp [h1] at hq) <;> (try (have hh : True := hq; clear hh hq)))))
      | (refine wpcall_pure rfl (hty) ?_; simp [h1]; (try first | (refine Ops.gen fun q hq => ?_; cases q <;> (try simp [h1] at hq) <;> (try (have hh : True := hq; clear hh hq))) | (refine OpsD.gen fun q hq => ?_; cases q <;> (try simp [h1] at hq) <;> (try (have hh : True := hq; clear hh hq)))))
      | (refine wpcall_pure rfl (hnf) ?_; simp [h1]; (try first | (refine Ops.gen fun q hq => ?_; cases q <;> (try simp [h1] at hq) <;> (try (have hh : True := hq; clear hh hq))) | (refine OpsD.gen fun q hq => ?_; cases q <;> (try simp [h1] at hq) <;> (try (have hh : True := hq; clear hh hq)))))
      | (refine T.ret (Done.data (Or.inr rfl) ?_ ?_) <;> simp [Tryz.results178, *] <;> omega)
      | refine T.rs (fun _ => false) fun K hK => ?_
      | refine T.rs1 (fun _ => false) fun K hK => ?_
      | refine T.rd mixed (fun _ => false) [] (by kernel_rfl) fun K hK => ?_
      | refine T.cond rfl (fun hcnd => ?_) (fun hcnd => absurd hcnd (by decide))
      | refine T.cond rfl (fun hcnd => absurd hcnd (by decide)) (fun hcnd => ?_)
      | refine T.seq ?_
      | refine T.block ?_
      | refine T.skip ?_
  · have hr : ownM e = (decide (e.name = []) && inM e.num 0 0 && shapeTy 4 e.ty && (noTyM e.fr && decide (e.label = 0))) := by simp [ownM, h1, namedM, typedM]
    rw [hr]
    rw [h1] at hop
    generalize inM e.num 0 0 = i0 at hin0
    refine ACalls.of_body Tryz.func178 (by kernel_rfl) rfl (by kernel_rfl) (by simp [Tryz.ntmps178]) (by simp) ?_
    rw [Tryz.ntmps178]
    repeat' first
      | ((first | refine aops_end (hK _ ?_) | refine aopsD_end (hK _ ?_)); clear hK K)
      | ((first | refine aops_go ?_ | refine aopsD_go ?_); simp [h1]; (try (refine gen fun q hq => ?_; cases q <;> (try simp [h1] at hq) <;> (try (have hh : True := hq; clear hh hq)))))
      | (refine wpcall_pure rfl (hop) ?_; simp [h1]; (try first | (refine Ops.gen fun q hq => ?_; cases q <;> (try simp [h1] at hq) <;> (try (have hh : True := hq; clear hh hq))) | (refine OpsD.gen fun q hq => ?_; cases q <;> (try simp [h1] at hq) <;> (try (have hh : True := hq; clear hh hq)))))
      | (refine wpcall_pure rfl (hin0) ?_; simp [h1]; (try first | (refine Ops.gen fun q hq => ?_; cases q <;> (try simp [h1] at hq) <;> (try (have hh : True := hq; clear hh hq))) | (refine OpsD.gen fun q hq => ?_; cases q <;> (try simp [h1] at hq) <;> (try (have hh : True := hq; clear hh hq)))))
      | (refine wpcall_pure rfl (hty) ?_; simp [h1]; (try first | (refine Ops.gen fun q hq => ?_; cases q <;> (try simp [h1] at hq) <;> (try (have hh : True := hq; clear hh hq))) | (refine OpsD.gen fun q hq => ?_; cases q <;> (try simp [h1] at hq) <;> (try (have hh : True := hq; clear hh hq)))))
      | (refine wpcall_pure rfl (hnf) ?_; simp [h1]; (try first | (refine Ops.gen fun q hq => ?_; cases q <;> (try simp [h1] at hq) <;> (try (have hh : True := hq; clear hh hq))) | (refine OpsD.gen fun q hq => ?_; cases q <;> (try simp [h1] at hq) <;> (try (have hh : True := hq; clear hh hq)))))
      | (refine T.ret (Done.data (Or.inr rfl) ?_ ?_) <;> simp [Tryz.results178, *] <;> omega)
      | refine T.rs (fun _ => false) fun K hK => ?_
      | refine T.rs1 (fun _ => false) fun K hK => ?_
      | refine T.rd mixed (fun _ => false) [] (by kernel_rfl) fun K hK => ?_
      | refine T.cond rfl (fun hcnd => ?_) (fun hcnd => absurd hcnd (by decide))
      | refine T.cond rfl (fun hcnd => absurd hcnd (by decide)) (fun hcnd => ?_)
      | refine T.seq ?_
      | refine T.block ?_
      | refine T.skip ?_
  · have hr : ownM e = (decide (e.name = []) && inM e.num 0 0 && shapeTy 4 e.ty && ((shapeTy 4 e.fr && shapeTy 4 e.ty && consTy e.fr e.ty) && labM e.label)) := by simp [ownM, h1, namedM, typedM, castOwnM]
    rw [hr]
    rw [h1] at hop
    generalize inM e.num 0 0 = i0 at hin0
    generalize hg1 : (shapeTy 4 e.fr && shapeTy 4 e.ty && consTy e.fr e.ty) = g1 at hcon
    generalize labM e.label = g2 at hlab
    refine ACalls.of_body Tryz.func178 (by kernel_rfl) rfl (by kernel_rfl) (by simp [Tryz.ntmps178]) (by simp) ?_
    rw [Tryz.ntmps178]
    repeat' first
      | ((first | refine aops_end (hK _ ?_) | refine aopsD_end (hK _ ?_)); clear hK K)
      | ((first | refine aops_go ?_ | refine aopsD_go ?_); simp [h1]; (try (refine gen fun q hq => ?_; cases q <;> (try simp [h1] at hq) <;> (try (have hh : True := hq; clear hh hq)))))
      | (refine wpcall_pure rfl (hop) ?_; simp [h1]; (try first | (refine Ops.gen fun q hq => ?_; cases q <;> (try simp [h1] at hq) <;> (try (have hh : True := hq; clear hh hq))) | (refine OpsD.gen fun q hq => ?_; cases q <;> (try simp [h1] at hq) <;> (try (have hh : True := hq; clear hh hq)))))
      | (refine wpcall_pure rfl (hin0) ?_; simp [h1]; (try first | (refine Ops.gen fun q hq => ?_; cases q <;> (try simp [h1] at hq) <;> (try (have hh : True := hq; clear hh hq))) | (refine OpsD.gen fun q hq => ?_; cases q <;> (try simp [h1] at hq) <;> (try (have hh : True := hq; clear hh hq)))))
      | (refine wpcall_pure rfl (hty) ?_; simp [h1]; (try first | (refine Ops.gen fun q hq => ?_; cases q <;> (try simp [h1] at hq) <;> (try (have hh : True := hq; clear hh hq))) | (refine OpsD.gen fun q hq => ?_; cases q <;> (try simp [h1] at hq) <;> (try (have hh : True := hq; clear hh hq)))))
      | (refine wpcall_pure rfl (hcon) ?_; simp [h1]; (try first | (refine Ops.gen fun q hq => ?_; cases q <;> (try simp [h1] at hq) <;> (try (have hh : True := hq; clear hh hq))) | (refine OpsD.gen fun q hq => ?_; cases q <;> (try simp [h1] at hq) <;> (try (have hh : True := hq; clear hh hq)))))
      | (refine wpcall_pure rfl (hlab) ?_; simp [h1]; (try first | (refine Ops.gen fun q hq => ?_; cases q <;> (try simp [h1] at hq) <;> (try (have hh : True := hq; clear hh hq))) | (refine OpsD.gen fun q hq => ?_; cases q <;> (try simp [h1] at hq) <;> (try (have hh : True := hq; clear hh hq)))))
      | (refine T.ret (Done.data (Or.inr rfl) ?_ ?_) <;> simp [Tryz.results178, *] <;> omega)
      | refine T.rs (fun _ => false) fun K hK => ?_
      | refine T.rs1 (fun _ => false) fun K hK => ?_
      | refine T.rd mixed (fun _ => false) [] (by kernel_rfl) fun K hK => ?_
      | refine T.cond rfl (fun hcnd => ?_) (fun hcnd => absurd hcnd (by decide))
      | refine T.cond rfl (fun hcnd => absurd hcnd (by decide)) (fun hcnd => ?_)
      | refine T.seq ?_
      | refine T.block ?_
      | refine T.skip ?_
  · have hr : ownM e = (decide (e.name = []) && inM e.num 0 999 && noTyM e.ty && (noTyM e.fr && decide (e.label = 0))) := by simp [ownM, h1, namedM, typedM]
    rw [hr]
    rw [h1] at hop
    generalize inM e.num 0 999 = i0 at hin9
    refine ACalls.of_body Tryz.func178 (by kernel_rfl) rfl (by kernel_rfl) (by simp [Tryz.ntmps178]) (by simp) ?_
    rw [Tryz.ntmps178]
    repeat' first
      | ((first | refine aops_end (hK _ ?_) | refine aopsD_end (hK _ ?_)); clear hK K)
      | ((first | refine aops_go ?_ | refine aopsD_go ?_); simp [h1]; (try (refine gen fun q hq => ?_; cases q <;> (try simp [h1] at hq) <;> (try (have hh : True := hq; clear hh hq)))))
      | (refine wpcall_pure rfl (hop) ?_; simp [h1]; (try first | (refine Ops.gen fun q hq => ?_; cases q <;> (try simp [h1] at hq) <;> (try (have hh : True := hq; clear hh hq))) | (refine OpsD.gen fun q hq => ?_; cases q <;> (try simp [h1] at hq) <;> (try (have hh : True := hq; clear hh hq)))))
      | (refine wpcall_pure rfl (hin9) ?_; simp [h1]; (try first | (refine Ops.gen fun q hq => ?_; cases q <;> (try simp [h1] at hq) <;> (try (have hh : True := hq; clear hh hq))) | (refine OpsD.gen fun q hq => ?_; cases q <;> (try simp [h1] at hq) <;> (try (have hh : True := hq; clear hh hq)))))
      | (refine wpcall_pure rfl (hnt) ?_; simp [h1]; (try first | (refine Ops.gen fun q hq => ?_; cases q <;> (try simp [h1] at hq) <;> (try (have hh : True := hq; clear hh hq))) | (refine OpsD.gen fun q hq => ?_; cases q <;> (try simp [h1] at hq) <;> (try (have hh : True := hq; clear hh hq)))))
      | (refine wpcall_pure rfl (hnf) ?_; simp [h1]; (try first | (refine Ops.gen fun q hq => ?_; cases q <;> (try simp [h1] at hq) <;> (try (have hh : True := hq; clear hh hq))) | (refine OpsD.gen fun q hq => ?_; cases q <;> (try simp [h1] at hq) <;> (try (have hh : True := hq; clear hh hq)))))
      | (refine T.ret (Done.data (Or.inr rfl) ?_ ?_) <;> simp [Tryz.results178, *] <;> omega)
      | refine T.rs (fun _ => false) fun K hK => ?_
      | refine T.rs1 (fun _ => false) fun K hK => ?_
      | refine T.rd mixed (fun _ => false) [] (by kernel_rfl) fun K hK => ?_
      | refine T.cond rfl (fun hcnd => ?_) (fun hcnd => absurd hcnd (by decide))
      | refine T.cond rfl (fun hcnd => absurd hcnd (by decide)) (fun hcnd => ?_)
      | refine T.seq ?_
      | refine T.block ?_
      | refine T.skip ?_
  · have hr : ownM e = (decide (e.name = []) && inM e.num 0 0 && noTyM e.ty && (noTyM e.fr && decide (e.label = 0))) := by simp [ownM, h1, h2, h3, h4, h5, namedM, typedM]
    rw [hr]
    generalize inM e.num 0 0 = i0 at hin0
    refine ACalls.of_body Tryz.func178 (by kernel_rfl) rfl (by kernel_rfl) (by simp [Tryz.ntmps178]) (by simp) ?_
    rw [Tryz.ntmps178]
    repeat' first
      | ((first | refine aops_end (hK _ ?_) | refine aopsD_end (hK _ ?_)); clear hK K)
      | ((first | refine aops_go ?_ | refine aopsD_go ?_); simp [h1, h2, h3, h4, h5]; (try (refine gen fun q hq => ?_; cases q <;> (try simp [h1, h2, h3, h4, h5] at hq) <;> (try (have hh : True := hq; clear hh hq)))))
      | (refine wpcall_pure rfl (hop) ?_; simp [h1, h2, h3, h4, h5]; (try first | (refine Ops.gen fun q hq => ?_; cases q <;> (try simp [h1, h2, h3, h4, h5] at hq) <;> (try (have hh : True := hq; clear hh hq))) | (refine OpsD.gen fun q hq => ?_; cases q <;> (try simp [h1, h2, h3, h4, h5] at hq) <;> (try (have hh : True := hq; clear hh hq)))))
      | (refine wpcall_pure rfl (hin0) ?_; simp [h1, h2, h3, h4, h5]; (try first | (refine Ops.gen fun q hq => ?_; cases q <;> (try simp [h1, h2, h3, h4, h5] at hq) <;> (try (have hh : True := hq; clear hh hq))) | (refine OpsD.gen fun q hq => ?_; cases q <;> (try simp [h1, h2, h3, h4, h5] at hq) <;> (try (have hh : True := hq; clear hh hq)))))
      | (refine wpcall_pure rfl (hnt) ?_; simp [h1, h2, h3, h4, h5]; (try first | (refine Ops.gen fun q hq => ?_; cases q <;> (try simp [h1, h2, h3, h4, h5] at hq) <;> (try (have hh : True := hq; clear hh hq))) | (refine OpsD.gen fun q hq => ?_; cases q <;> (try simp [h1, h2, h3, h4, h5] at hq) <;> (try (have hh : True := hq; clear hh hq)))))
      | (refine wpcall_pure rfl (hnf) ?_; simp [h1, h2, h3, h4, h5]; (try first | (refine Ops.gen fun q hq => ?_; cases q <;> (try simp [h1, h2, h3, h4, h5] at hq) <;> (try (have hh : True := hq; clear hh hq))) | (refine OpsD.gen fun q hq => ?_; cases q <;> (try simp [h1, h2, h3, h4, h5] at hq) <;> (try (have hh : True := hq; clear hh hq)))))
      | (refine T.ret (Done.data (Or.inr rfl) ?_ ?_) <;> simp [Tryz.results178, *] <;> omega)
      | refine T.rs (fun _ => false) fun K hK => ?_
      | refine T.rs1 (fun _ => false) fun K hK => ?_
      | refine T.rd mixed (fun _ => false) [] (by kernel_rfl) fun K hK => ?_
      | refine T.cond rfl (fun hcnd => ?_) (fun hcnd => absurd hcnd (by decide))
      | refine T.cond rfl (fun hcnd => absurd hcnd (by decide)) (fun hcnd => ?_)
      | refine T.seq ?_
      | refine T.block ?_
      | refine T.skip ?_
end Go.Proofs.YtfdknjjnifnobaaGreat

namespace Go.Proofs.YtfdknjjnifnobaaGreat
attribute [-simp] Go.Av.freeStep Go.Av.exV Go.Av.keepL Go.Av.ups Go.Av.take_app_len Go.Av.innVs Go.Av.putBack Go.Av.objCells Go.Av.back Go.Av.resVs Go.Av.one
open Go Go.Av
attribute [local irreducible] T ACalls eTy eTm MTy.kind MTy.kids MTm.kind MTm.name MTm.num MTm.ty MTm.fr MTm.label MTm.kids
attribute [local simp] eTy_def eTm_def
set_option linter.unusedSimpArgs false
set_option linter.unusedVariables false
set_option maxHeartbeats 4000000

theorem nTm_parts {e : MTm} (h : nTm e ≤ 1099511627776) : nTy e.ty ≤ 1099511627776 ∧ nTy e.fr ≤ 1099511627776 ∧ e.kids.length ≤ 1099511627776 ∧ ∀ u ∈ e.kids, nTm u ≤ 1099511627776 := by
  rw [nTm_def] at h
  have := nTmS_len e.kids
  exact ⟨by omega, by omega, by omega, fun u hu => by have := nTmS_mem hu; omega⟩

theorem l4Shape_ok : ∀ (d : Nat) (e : MTm), d ≤ 1000 → nTm e ≤ 1099511627776 → ACalls Tryz.prog 165 [aTm e, .i d] [] (.b (shapeTm 13 d e)) [] []
  | 0, e, _, _ => by
    refine ACalls.of_body Tryz.func165 (by kernel_rfl) rfl (by kernel_rfl) (by simp [Tryz.ntmps165]) (by simp) ?_
    rw [Tryz.ntmps165]
    repeat' first
      | ((first | refine aops_end (hK _ ?_) | refine aopsD_end (hK _ ?_)); clear hK K)
      | ((first | refine aops_go ?_ | refine aopsD_go ?_); simp; (try (refine gen fun q hq => ?_; cases q <;> (try simp at hq) <;> (try (have hh : True := hq; clear hh hq)))))
      | (refine T.ret (Done.data (Or.inr rfl) ?_ ?_) <;> simp [Tryz.results165, shapeTm] <;> omega)
      | refine T.rs (fun _ => false) fun K hK => ?_
      | refine T.rs1 (fun _ => false) fun K hK => ?_
      | refine T.rd mixed (fun _ => false) [] (by kernel_rfl) fun K hK => ?_
      | refine T.rd1 mixed (fun _ => false) [] (by kernel_rfl) fun K hK => ?_
      | refine T.cond rfl (fun hcnd => ?_) (fun hcnd => absurd hcnd (by decide))
      | refine T.cond rfl (fun hcnd => absurd hcnd (by decide)) (fun hcnd => ?_)
      | refine T.seq ?_
      | refine T.block ?_
      | refine T.skip ?_
      | refine T.exit ?_
  | d + 1, e, hd, hn => by
    obtain ⟨hnt, hnf, hnk, hnu⟩ := nTm_parts hn
    have hkids := l2Kids_ok e.kind
    have hd1 : ¬ ((d : Int) + 1 < 1) := by omega
    have hsh : shapeTm 13 (d + 1) e = (decide (e.kind ≠ 13) && (decide (kidsM e.kind = e.kids.length) && ownM e) && e.kids.all (shapeTm 13 d)) := rfl
    by_cases hk13 : e.kind = 13
    · rw [hk13] at hkids
      rw [show shapeTm 13 (d + 1) e = false by rw [hsh]; simp [hk13]]
      refine ACalls.of_body Tryz.func165 (by kernel_rfl) rfl (by kernel_rfl) (by simp [Tryz.ntmps165]) (by simp) ?_
      rw [Tryz.ntmps165]
      repeat' first
        | ((first | refine aops_end (hK _ ?_) | refine aopsD_end (hK _ ?_)); clear hK K)
        | ((first | refine aops_go ?_ | refine aopsD_go ?_); simp [hd1, hk13]; (try (refine gen fun q hq => ?_; cases q <;> (try simp [hd1, hk13] at hq) <;> (try (have hh : True := hq; clear hh hq)))))
        | (refine wpcall_pure rfl (hkids) ?_; simp [hd1, hk13]; (try first | (refine Ops.gen fun q hq => ?_; cases q <;> (try simp [hd1, hk13] at hq) <;> (try (have hh : True := hq; clear hh hq))) | (refine OpsD.gen fun q hq => ?_; cases q <;> (try simp [hd1, hk13] at hq) <;> (try (have hh : True := hq; clear hh hq)))))
        | (refine T.ret (Done.data (Or.inr rfl) ?_ ?_) <;> simp [Tryz.results165] <;> omega)
        | refine T.rs (fun _ => false) fun K hK => ?_
        | refine T.rs1 (fun _ => false) fun K hK => ?_
        | refine T.rd mixed (fun _ => false) [] (by kernel_rfl) fun K hK => ?_
        | refine T.rd1 mixed (fun _ => false) [] (by kernel_rfl) fun K hK => ?_
        | refine T.cond rfl (fun hcnd => ?_) (fun hcnd => absurd hcnd (by decide))
        | refine T.cond rfl (fun hcnd => absurd hcnd (by decide)) (fun hcnd => ?_)
        | refine T.seq ?_
        | refine T.block ?_
        | refine T.skip ?_
        | refine T.exit ?_
    by_cases hlen : kidsM e.kind = e.kids.length
    rotate_left
    · rw [show shapeTm 13 (d + 1) e = false by rw [hsh]; simp [hlen]]
      refine ACalls.of_body Tryz.func165 (by kernel_rfl) rfl (by kernel_rfl) (by simp [Tryz.ntmps165]) (by simp) ?_
      rw [Tryz.ntmps165]
      repeat' first
        | ((first | refine aops_end (hK _ ?_) | refine aopsD_end (hK _ ?_)); clear hK K)
        | ((first | refine aops_go ?_ | refine aopsD_go ?_); simp [hd1, hlen]; (try (refine gen fun q hq => ?_; cases q <;> (try simp [hd1, hlen] at hq) <;> (try (have hh : True := hq; clear hh hq)))))
        | (refine wpcall_pure rfl (hkids) ?_; simp [hd1, hlen]; (try first | (refine Ops.gen fun q hq => ?_; cases q <;> (try simp [hd1, hlen] at hq) <;> (try (have hh : True := hq; clear hh hq))) | (refine OpsD.gen fun q hq => ?_; cases q <;> (try simp [hd1, hlen] at hq) <;> (try (have hh : True := hq; clear hh hq)))))
        | (refine T.ret (Done.data (Or.inr rfl) ?_ ?_) <;> simp [Tryz.results165] <;> omega)
        | refine T.rs (fun _ => false) fun K hK => ?_
        | refine T.rs1 (fun _ => false) fun K hK => ?_
        | refine T.rd mixed (fun _ => false) [] (by kernel_rfl) fun K hK => ?_
        | refine T.rd1 mixed (fun _ => false) [] (by kernel_rfl) fun K hK => ?_
        | refine T.cond rfl (fun hcnd => ?_) (fun hcnd => absurd hcnd (by decide))
        | refine T.cond rfl (fun hcnd => absurd hcnd (by decide)) (fun hcnd => ?_)
        | refine T.seq ?_
        | refine T.block ?_
        | refine T.skip ?_
        | refine T.exit ?_
    rw [hlen] at hkids
    have hsh2 : shapeTm 13 (d + 1) e = (ownM e && e.kids.all (shapeTm 13 d)) := by rw [hsh]; simp [hk13, hlen]
    obtain ⟨R, hR⟩ : ∃ R, e.kids.all (shapeTm 13 d) = R := ⟨_, rfl⟩
    obtain ⟨O, hO⟩ : ∃ O, ownM e = O := ⟨_, rfl⟩
    rw [hsh2, hR, hO]
    have h14 : e.kind = 14 → ACalls Tryz.prog 204 [aTm e] [] (.b O) [] [] := fun h => by rw [← hO]; exact l4Own_ok e h hnt hnf
    have hno : ¬ e.kind = 14 → ACalls Tryz.prog 190 [aTm e] [] (.b O) [] [] := fun h => by rw [← hO]; exact l2Own_ok e h hnt
    clear hsh hsh2
    by_cases hk14 : e.kind = 14
    · have hown := h14 hk14
      rw [hk14] at hkids
      cases O
      · refine ACalls.of_body Tryz.func165 (by kernel_rfl) rfl (by kernel_rfl) (by simp [Tryz.ntmps165]) (by simp) ?_
        rw [Tryz.ntmps165]
        repeat' first
          | ((first | refine aops_end (hK _ ?_) | refine aopsD_end (hK _ ?_)); clear hK K)
          | ((first | refine aops_go ?_ | refine aopsD_go ?_); simp [hd1, hk13, hk14]; (try (refine gen fun q hq => ?_; cases q <;> (try simp [hd1, hk13, hk14] at hq) <;> (try (have hh : True := hq; clear hh hq)))))
          | (refine wpcall_pure rfl (hkids) ?_; simp [hd1, hk13, hk14]; (try first | (refine Ops.gen fun q hq => ?_; cases q <;> (try simp [hd1, hk13, hk14] at hq) <;> (try (have hh : True := hq; clear hh hq))) | (refine OpsD.gen fun q hq => ?_; cases q <;> (try simp [hd1, hk13, hk14] at hq) <;> (try (have hh : True := hq; clear hh hq)))))
          | (refine wpcall_pure (by simp [hd1, hk13, hk14]) (hown) ?_; simp [hd1, hk13, hk14]; (try first | (refine Ops.gen fun q hq => ?_; cases q <;> (try simp [hd1, hk13, hk14] at hq) <;> (try (have hh : True := hq; clear hh hq))) | (refine OpsD.gen fun q hq => ?_; cases q <;> (try simp [hd1, hk13, hk14] at hq) <;> (try (have hh : True := hq; clear hh hq)))))
          | (refine T.ret (Done.data (Or.inr rfl) ?_ ?_) <;> simp [Tryz.results165] <;> omega)
          | refine T.rs (fun _ => false) fun K hK => ?_
          | refine T.rs1 (fun _ => false) fun K hK => ?_
          | refine T.rd mixed (fun _ => false) [] (by kernel_rfl) fun K hK => ?_
          | refine T.rd1 mixed (fun _ => false) [] (by kernel_rfl) fun K hK => ?_
          | refine T.cond rfl (fun hcnd => ?_) (fun hcnd => absurd hcnd (by decide))
          | refine T.cond rfl (fun hcnd => absurd hcnd (by decide)) (fun hcnd => ?_)
          | refine T.seq ?_
          | refine T.block ?_
          | refine T.skip ?_
          | refine T.exit ?_
      refine ACalls.of_body Tryz.func165 (by kernel_rfl) rfl (by kernel_rfl) (by simp [Tryz.ntmps165]) (by simp) ?_
      rw [Tryz.ntmps165]
      repeat' first
        | ((first | refine aops_end (hK _ ?_) | refine aopsD_end (hK _ ?_)); clear hK K)
        | ((first | refine aops_go ?_ | refine aopsD_go ?_); simp [hd1, hk13, hk14]; (try (refine gen fun q hq => ?_; cases q <;> (try simp [hd1, hk13, hk14] at hq) <;> (try (have hh : True := hq; clear hh hq)))))
        | (refine wpcall_pure rfl (hkids) ?_; simp [hd1, hk13, hk14]; (try first | (refine Ops.gen fun q hq => ?_; cases q <;> (try simp [hd1, hk13, hk14] at hq) <;> (try (have hh : True := hq; clear hh hq))) | (refine OpsD.gen fun q hq => ?_; cases q <;> (try simp [hd1, hk13, hk14] at hq) <;> (try (have hh : True := hq; clear hh hq)))))
        | (refine wpcall_pure (by simp [hd1, hk13, hk14]) (hown) ?_; simp [hd1, hk13, hk14]; (try first | (refine Ops.gen fun q hq => ?_; cases q <;> (try simp [hd1, hk13, hk14] at hq) <;> (try (have hh : True := hq; clear hh hq))) | (refine OpsD.gen fun q hq => ?_; cases q <;> (try simp [hd1, hk13, hk14] at hq) <;> (try (have hh : True := hq; clear hh hq)))))
        | refine T.rs (fun _ => false) fun K hK => ?_
        | refine T.rs1 (fun _ => false) fun K hK => ?_
        | refine T.rd mixed (fun _ => false) [] (by kernel_rfl) fun K hK => ?_
        | refine T.rd1 mixed (fun _ => false) [] (by kernel_rfl) fun K hK => ?_
        | refine T.cond rfl (fun hcnd => ?_) (fun hcnd => absurd hcnd (by decide))
        | refine T.cond rfl (fun hcnd => absurd hcnd (by decide)) (fun hcnd => ?_)
        | refine T.seq ?_
        | refine T.block ?_
        | refine T.skip ?_
        | refine T.exit ?_
      rw [Bool.true_and]
      refine T.loopF (fun p : Nat => ⟨[(1, .i (d + 1)), (2, .c (.ptr 0 0)), (5, .i p)], [(aTm e).cells], []⟩) (fun p => e.kids.length + 1 - p) (fun p => p ≤ e.kids.length ∧ (e.kids.drop p).all (shapeTm 13 d) = R) (fun p hp => ?_) 0 (by simpa using hR) (by simp [hk14])
      obtain ⟨hi, he⟩ := hp
      by_cases hlt : p < e.kids.length
      · obtain ⟨u, ht⟩ := get_lt hlt
        have htm : u ∈ e.kids := List.mem_of_getElem? ht
        have hgt : e.kids[p] = u := by rw [List.getElem?_eq_getElem hlt] at ht; exact Option.some.inj ht
        have hdr : e.kids.drop p = u :: e.kids.drop (p + 1) := by rw [List.drop_eq_getElem_cons hlt, hgt]
        have hu := l4Shape_ok d u (by omega) (hnu u htm)
        rw [hdr, List.all_cons] at he
        cases hb : shapeTm 13 d u <;> rw [hb] at hu he
        · repeat' first
            | ((first | refine aops_end (hK _ ?_) | refine aopsD_end (hK _ ?_)); clear hK K)
            | ((first | refine aops_go ?_ | refine aopsD_go ?_); simp [hlt, hgt]; (try simp (disch := omega) only [wrap64]); (try (refine gen fun q hq => ?_; cases q <;> (try simp [hlt, hgt] at hq) <;> (try (have hh : True := hq; clear hh hq)))))
            | (refine wpcall_pure rfl (hu) ?_; simp [hlt, hgt]; (try simp (disch := omega) only [wrap64]); (try first | (refine Ops.gen fun q hq => ?_; cases q <;> (try simp [hlt, hgt] at hq) <;> (try (have hh : True := hq; clear hh hq))) | (refine OpsD.gen fun q hq => ?_; cases q <;> (try simp [hlt, hgt] at hq) <;> (try (have hh : True := hq; clear hh hq)))))
            | (refine T.ret (Done.data (Or.inr rfl) ?_ ?_) <;> simp [Tryz.results165, ← he] <;> omega)
            | refine T.rs (fun _ => false) fun K hK => ?_
            | refine T.rs1 (fun _ => false) fun K hK => ?_
            | refine T.rd mixed (fun _ => false) [] (by kernel_rfl) fun K hK => ?_
            | refine T.rd1 mixed (fun _ => false) [] (by kernel_rfl) fun K hK => ?_
            | refine T.cond rfl (fun hcnd => ?_) (fun hcnd => absurd hcnd (by decide))
            | refine T.cond rfl (fun hcnd => absurd hcnd (by decide)) (fun hcnd => ?_)
            | refine T.seq ?_
            | refine T.block ?_
            | refine T.skip ?_
            | refine T.exit ?_
        · repeat' first
            | ((first | refine aops_end (hK _ ?_) | refine aopsD_end (hK _ ?_)); clear hK K)
            | ((first | refine aops_go ?_ | refine aopsD_go ?_); simp [hlt, hgt]; (try simp (disch := omega) only [wrap64]); (try (refine gen fun q hq => ?_; cases q <;> (try simp [hlt, hgt] at hq) <;> (try (have hh : True := hq; clear hh hq)))))
            | (refine wpcall_pure rfl (hu) ?_; simp [hlt, hgt]; (try simp (disch := omega) only [wrap64]); (try first | (refine Ops.gen fun q hq => ?_; cases q <;> (try simp [hlt, hgt] at hq) <;> (try (have hh : True := hq; clear hh hq))) | (refine OpsD.gen fun q hq => ?_; cases q <;> (try simp [hlt, hgt] at hq) <;> (try (have hh : True := hq; clear hh hq)))))
            | (refine ⟨p + 1, by dsimp only; omega, ⟨by omega, by simpa using he⟩, rfl, rfl, ?_⟩; simp (disch := omega) [wrap64])
            | refine T.rs (fun _ => false) fun K hK => ?_
            | refine T.rs1 (fun _ => false) fun K hK => ?_
            | refine T.rd mixed (fun _ => false) [] (by kernel_rfl) fun K hK => ?_
            | refine T.rd1 mixed (fun _ => false) [] (by kernel_rfl) fun K hK => ?_
            | refine T.cond rfl (fun hcnd => ?_) (fun hcnd => absurd hcnd (by decide))
            | refine T.cond rfl (fun hcnd => absurd hcnd (by decide)) (fun hcnd => ?_)
            | refine T.seq ?_
            | refine T.block ?_
            | refine T.skip ?_
            | refine T.exit ?_
      · have hp' : p = e.kids.length := by omega
        subst hp'
        simp at he
        repeat' first
          | ((first | refine aops_end (hK _ ?_) | refine aopsD_end (hK _ ?_)); clear hK K)
          | ((first | refine aops_go ?_ | refine aopsD_go ?_); simp [hlt]; (try (refine gen fun q hq => ?_; cases q <;> (try simp [hlt] at hq) <;> (try (have hh : True := hq; clear hh hq)))))
          | (refine T.ret (Done.data (Or.inr rfl) ?_ ?_) <;> simp [Tryz.results165, he] <;> omega)
          | refine T.rs (fun _ => false) fun K hK => ?_
          | refine T.rs1 (fun _ => false) fun K hK => ?_
          | refine T.rd mixed (fun _ => false) [] (by kernel_rfl) fun K hK => ?_
          | refine T.rd1 mixed (fun _ => false) [] (by kernel_rfl) fun K hK => ?_
          | refine T.cond rfl (fun hcnd => ?_) (fun hcnd => absurd hcnd (by decide))
          | refine T.cond rfl (fun hcnd => absurd hcnd (by decide)) (fun hcnd => ?_)
          | refine T.seq ?_
          | refine T.block ?_
          | refine T.skip ?_
          | refine T.exit ?_
    · have hown := hno hk14
      cases O
      · refine ACalls.of_body Tryz.func165 (by kernel_rfl) rfl (by kernel_rfl) (by simp [Tryz.ntmps165]) (by simp) ?_
        rw [Tryz.ntmps165]
        repeat' first
          | ((first | refine aops_end (hK _ ?_) | refine aopsD_end (hK _ ?_)); clear hK K)
          | ((first | refine aops_go ?_ | refine aopsD_go ?_); simp [hd1, hk13, hk14]; (try (refine gen fun q hq => ?_; cases q <;> (try simp [hd1, hk13, hk14] at hq) <;> (try (have hh : True := hq; clear hh hq)))))
          | (refine wpcall_pure rfl (hkids) ?_; simp [hd1, hk13, hk14]; (try first | (refine Ops.gen fun q hq => ?_; cases q <;> (try simp [hd1, hk13, hk14] at hq) <;> (try (have hh : True := hq; clear hh hq))) | (refine OpsD.gen fun q hq => ?_; cases q <;> (try simp [hd1, hk13, hk14] at hq) <;> (try (have hh : True := hq; clear hh hq)))))
          | (refine wpcall_pure (by simp [hd1, hk13, hk14]) (hown) ?_; simp [hd1, hk13, hk14]; (try first | (refine Ops.gen fun q hq => ?_; cases q <;> (try simp [hd1, hk13, hk14] at hq) <;> (try (have hh : True := hq; clear hh hq))) | (refine OpsD.gen fun q hq => ?_; cases q <;> (try simp [hd1, hk13, hk14] at hq) <;> (try (have hh : True := hq; clear hh hq)))))
          | (refine T.ret (Done.data (Or.inr rfl) ?_ ?_) <;> simp [Tryz.results165] <;> omega)
          | refine T.rs (fun _ => false) fun K hK => ?_
          | refine T.rs1 (fun _ => false) fun K hK => ?_
          | refine T.rd mixed (fun _ => false) [] (by kernel_rfl) fun K hK => ?_
          | refine T.rd1 mixed (fun _ => false) [] (by kernel_rfl) fun K hK => ?_
          | refine T.cond rfl (fun hcnd => ?_) (fun hcnd => absurd hcnd (by decide))
          | refine T.cond rfl (fun hcnd => absurd hcnd (by decide)) (fun hcnd => ?_)
          | refine T.seq ?_
          | refine T.block ?_
          | refine T.skip ?_
          | refine T.exit ?_
      refine ACalls.of_body Tryz.func165 (by kernel_rfl) rfl (by kernel_rfl) (by simp [Tryz.ntmps165]) (by simp) ?_
      rw [Tryz.ntmps165]
      repeat' first
        | ((first | refine aops_end (hK _ ?_) | refine aopsD_end (hK _ ?_)); clear hK K)
        | ((first | refine aops_go ?_ | refine aopsD_go ?_); simp [hd1, hk13, hk14]; (try (refine gen fun q hq => ?_; cases q <;> (try simp [hd1, hk13, hk14] at hq) <;> (try (have hh : True := hq; clear hh hq)))))
        | (refine wpcall_pure rfl (hkids) ?_; simp [hd1, hk13, hk14]; (try first | (refine Ops.gen fun q hq => ?_; cases q <;> (try simp [hd1, hk13, hk14] at hq) <;> (try (have hh : True := hq; clear hh hq))) | (refine OpsD.gen fun q hq => ?_; cases q <;> (try simp [hd1, hk13, hk14] at hq) <;> (try (have hh : True := hq; clear hh hq)))))
        | (refine wpcall_pure (by simp [hd1, hk13, hk14]) (hown) ?_; simp [hd1, hk13, hk14]; (try first | (refine Ops.gen fun q hq => ?_; cases q <;> (try simp [hd1, hk13, hk14] at hq) <;> (try (have hh : True := hq; clear hh hq))) | (refine OpsD.gen fun q hq => ?_; cases q <;> (try simp [hd1, hk13, hk14] at hq) <;> (try (have hh : True := hq; clear hh hq)))))
        | refine T.rs (fun _ => false) fun K hK => ?_
        | refine T.rs1 (fun _ => false) fun K hK => ?_
        | refine T.rd mixed (fun _ => false) [] (by kernel_rfl) fun K hK => ?_
        | refine T.rd1 mixed (fun _ => false) [] (by kernel_rfl) fun K hK => ?_
        | refine T.cond rfl (fun hcnd => ?_) (fun hcnd => absurd hcnd (by decide))
        | refine T.cond rfl (fun hcnd => absurd hcnd (by decide)) (fun hcnd => ?_)
        | refine T.seq ?_
        | refine T.block ?_
        | refine T.skip ?_
        | refine T.exit ?_
      rw [Bool.true_and]
      refine T.loopF (fun p : Nat => ⟨[(1, .i (d + 1)), (2, .c (.ptr 0 0)), (5, .i p)], [(aTm e).cells], []⟩) (fun p => e.kids.length + 1 - p) (fun p => p ≤ e.kids.length ∧ (e.kids.drop p).all (shapeTm 13 d) = R) (fun p hp => ?_) 0 (by simpa using hR) (by simp)
      obtain ⟨hi, he⟩ := hp
      by_cases hlt : p < e.kids.length
      · obtain ⟨u, ht⟩ := get_lt hlt
        have htm : u ∈ e.kids := List.mem_of_getElem? ht
        have hgt : e.kids[p] = u := by rw [List.getElem?_eq_getElem hlt] at ht; exact Option.some.inj ht
        have hdr : e.kids.drop p = u :: e.kids.drop (p + 1) := by rw [List.drop_eq_getElem_cons hlt, hgt]
        have hu := l4Shape_ok d u (by omega) (hnu u htm)
        rw [hdr, List.all_cons] at he
        cases hb : shapeTm 13 d u <;> rw [hb] at hu he
        · repeat' first
            | ((first | refine aops_end (hK _ ?_) | refine aopsD_end (hK _ ?_)); clear hK K)
            | ((first | refine aops_go ?_ | refine aopsD_go ?_); simp [hlt, hgt]; (try simp (disch := omega) only [wrap64]); (try (refine gen fun q hq => ?_; cases q <;> (try simp [hlt, hgt] at hq) <;> (try (have hh : True := hq; clear hh hq)))))
            | (refine wpcall_pure rfl (hu) ?_; simp [hlt, hgt]; (try simp (disch := omega) only [wrap64]); (try first | (refine Ops.gen fun q hq => ?_; cases q <;> (try simp [hlt, hgt] at hq) <;> (try (have hh : True := hq; clear hh hq))) | (refine OpsD.gen fun q hq => ?_; cases q <;> (try simp [hlt, hgt] at hq) <;> (try (have hh : True := hq; clear hh hq)))))
            | (refine T.ret (Done.data (Or.inr rfl) ?_ ?_) <;> simp [Tryz.results165, ← he] <;> omega)
            | refine T.rs (fun _ => false) fun K hK => ?_
            | refine T.rs1 (fun _ => false) fun K hK => ?_
            | refine T.rd mixed (fun _ => false) [] (by kernel_rfl) fun K hK => ?_
            | refine T.rd1 mixed (fun _ => false) [] (by kernel_rfl) fun K hK => ?_
            | refine T.cond rfl (fun hcnd => ?_) (fun hcnd => absurd hcnd (by decide))
            | refine T.cond rfl (fun hcnd => absurd hcnd (by decide)) (fun hcnd => ?_)
            | refine T.seq ?_
            | refine T.block ?_
            | refine T.skip ?_
            | refine T.exit ?_
        · repeat' first
            | ((first | refine aops_end (hK _ ?_) | refine aopsD_end (hK _ ?_)); clear hK K)
            | ((first | refine aops_go ?_ | refine aopsD_go ?_); simp [hlt, hgt]; (try simp (disch := omega) only [wrap64]); (try (refine gen fun q hq => ?_; cases q <;> (try simp [hlt, hgt] at hq) <;> (try (have hh : True := hq; clear hh hq)))))
            | (refine wpcall_pure rfl (hu) ?_; simp [hlt, hgt]; (try simp (disch := omega) only [wrap64]); (try first | (refine Ops.gen fun q hq => ?_; cases q <;> (try simp [hlt, hgt] at hq) <;> (try (have hh : True := hq; clear hh hq))) | (refine OpsD.gen fun q hq => ?_; cases q <;> (try simp [hlt, hgt] at hq) <;> (try (have hh : True := hq; clear hh hq)))))
            | (refine ⟨p + 1, by dsimp only; omega, ⟨by omega, by simpa using he⟩, rfl, rfl, ?_⟩; simp (disch := omega) [wrap64])
            | refine T.rs (fun _ => false) fun K hK => ?_
            | refine T.rs1 (fun _ => false) fun K hK => ?_
            | refine T.rd mixed (fun _ => false) [] (by kernel_rfl) fun K hK => ?_
            | refine T.rd1 mixed (fun _ => false) [] (by kernel_rfl) fun K hK => ?_
            | refine T.cond rfl (fun hcnd => ?_) (fun hcnd => absurd hcnd (by decide))
            | refine T.cond rfl (fun hcnd => absurd hcnd (by decide)) (fun hcnd => ?_)
            | refine T.seq ?_
            | refine T.block ?_
            | refine T.skip ?_
            | refine T.exit ?_
      · have hp' : p = e.kids.length := by omega
        subst hp'
        simp at he
        repeat' first
          | ((first | refine aops_end (hK _ ?_) | refine aopsD_end (hK _ ?_)); clear hK K)
          | ((first | refine aops_go ?_ | refine aopsD_go ?_); simp [hlt]; (try (refine gen fun q hq => ?_; cases q <;> (try simp [hlt] at hq) <;> (try (have hh : True := hq; clear hh hq)))))
          | (refine T.ret (Done.data (Or.inr rfl) ?_ ?_) <;> simp [Tryz.results165, he] <;> omega)
          | refine T.rs (fun _ => false) fun K hK => ?_
          | refine T.rs1 (fun _ => false) fun K hK => ?_
          | refine T.rd mixed (fun _ => false) [] (by kernel_rfl) fun K hK => ?_
          | refine T.rd1 mixed (fun _ => false) [] (by kernel_rfl) fun K hK => ?_
          | refine T.cond rfl (fun hcnd => ?_) (fun hcnd => absurd hcnd (by decide))
          | refine T.cond rfl (fun hcnd => absurd hcnd (by decide)) (fun hcnd => ?_)
          | refine T.seq ?_
          | refine T.block ?_
          | refine T.skip ?_
          | refine T.exit ?_

theorem l2Count_ok : ∀ (d : Nat) (e : MTm), d ≤ 1000 → nTm e ≤ 1099511627776 → ACalls Tryz.prog 138 [aTm e, .i d] [] (.i (countTm d e)) [] []
  | 0, e, _, hn => by
    obtain ⟨hnt, hnf, hnk, hnu⟩ := nTm_parts hn
    refine ACalls.of_body Tryz.func138 (by kernel_rfl) rfl (by kernel_rfl) (by simp [Tryz.ntmps138]) (by simp) ?_
    rw [Tryz.ntmps138]
    repeat' first
      | ((first | refine aops_end (hK _ ?_)); clear hK K)
      | ((first | refine aops_go ?_); simp; (try (refine gen fun q hq => ?_; cases q <;> (try simp at hq) <;> (try (have hh : True := hq; clear hh hq)))))
      | refine T.rs (fun _ => false) fun K hK => ?_
      | refine T.seq ?_
      | refine T.block ?_
    refine T.loopF (fun _ : Unit => ⟨[(1, .i 0), (2, .c (.ptr 0 0)), (5, .i 1), (6, .i 0)], [(aTm e).cells], []⟩) (fun _ => 0) (fun _ => True) (fun _ _ => ?_) () trivial (by simp)
    repeat' first
      | ((first | refine aops_end (hK _ ?_)); clear hK K)
      | ((first | refine aops_go ?_); simp; (try simp (disch := omega) only [wrap64]); (try (refine gen fun q hq => ?_; cases q <;> (try simp at hq) <;> (try (have hh : True := hq; clear hh hq)))))
      | (refine T.ret (Done.data (Or.inr rfl) ?_ ?_) <;> simp [Tryz.results138, countTm] <;> omega)
      | refine T.rs (fun _ => false) fun K hK => ?_
      | refine T.cond rfl (fun hcnd => absurd hcnd (by decide)) (fun hcnd => ?_)
      | refine T.seq ?_
      | refine T.exit ?_
  | d + 1, e, hd, hn => by
    obtain ⟨hnt, hnf, hnk, hnu⟩ := nTm_parts hn
    have hd1 : (0 : Int) < (d : Int) + 1 := by omega
    have hcl := countTm_le (d + 1) e
    obtain ⟨R, hR⟩ : ∃ R, countTm (d + 1) e = R := ⟨_, rfl⟩
    rw [hR] at hcl ⊢
    refine ACalls.of_body Tryz.func138 (by kernel_rfl) rfl (by kernel_rfl) (by simp [Tryz.ntmps138]) (by simp) ?_
    rw [Tryz.ntmps138]
    repeat' first
      | ((first | refine aops_end (hK _ ?_)); clear hK K)
      | ((first | refine aops_go ?_); simp; (try (refine gen fun q hq => ?_; cases q <;> (try simp at hq) <;> (try (have hh : True := hq; clear hh hq)))))
      | refine T.rs (fun _ => false) fun K hK => ?_
      | refine T.seq ?_
      | refine T.block ?_
    refine T.loopF (fun x : Nat × Nat => ⟨[(1, .i (d + 1)), (2, .c (.ptr 0 0)), (5, .i x.2), (6, .i x.1)], [(aTm e).cells], []⟩) (fun x => e.kids.length + 1 - x.1) (fun x => x.1 ≤ e.kids.length ∧ x.2 + ((e.kids.drop x.1).map (countTm d)).sum = R) (fun x hx => ?_) (0, 1) (by simpa [countTm] using hR) (by simp)
    obtain ⟨p, k⟩ := x
    obtain ⟨hi, he⟩ := hx
    dsimp only at hi he ⊢
    by_cases hlt : p < e.kids.length
    · obtain ⟨u, ht⟩ := get_lt hlt
      have htm : u ∈ e.kids := List.mem_of_getElem? ht
      have hgt : e.kids[p] = u := by rw [List.getElem?_eq_getElem hlt] at ht; exact Option.some.inj ht
      have hdr : e.kids.drop p = u :: e.kids.drop (p + 1) := by rw [List.drop_eq_getElem_cons hlt, hgt]
      have hu := l2Count_ok d u (by omega) (hnu u htm)
      rw [hdr, List.map_cons, List.sum_cons] at he
      generalize countTm d u = cu at hu he
      repeat' first
        | ((first | refine aops_end (hK _ ?_)); clear hK K)
        | ((first | refine aops_go ?_); simp [hlt, hgt, hd1]; (try simp (disch := omega) only [wrap64]); (try (refine gen fun q hq => ?_; cases q <;> (try simp [hlt, hgt, hd1] at hq) <;> (try (have hh : True := hq; clear hh hq)))))
        | (refine wpcall_pure rfl (hu) ?_; simp [hlt, hgt, hd1]; (try simp (disch := omega) only [wrap64]); (try first | (refine Ops.gen fun q hq => ?_; cases q <;> (try simp [hlt, hgt, hd1] at hq) <;> (try (have hh : True := hq; clear hh hq))) | (refine OpsD.gen fun q hq => ?_; cases q <;> (try simp [hlt, hgt, hd1] at hq) <;> (try (have hh : True := hq; clear hh hq)))))
        | (refine ⟨(p + 1, k + cu), by dsimp only; omega, ⟨by dsimp only; omega, by dsimp only; omega⟩, rfl, rfl, ?_⟩; simp (disch := omega) [wrap64])
        | refine T.rs (fun _ => false) fun K hK => ?_
        | refine T.rs1 (fun _ => false) fun K hK => ?_
        | refine T.cond rfl (fun hcnd => ?_) (fun hcnd => absurd hcnd (by decide))
        | refine T.seq ?_
        | refine T.block ?_
        | refine T.skip ?_
    · have hp' : p = e.kids.length := by omega
      subst hp'
      simp at he
      repeat' first
        | ((first | refine aops_end (hK _ ?_)); clear hK K)
        | ((first | refine aops_go ?_); simp [hlt]; (try (refine gen fun q hq => ?_; cases q <;> (try simp [hlt] at hq) <;> (try (have hh : True := hq; clear hh hq)))))
        | (refine T.ret (Done.data (Or.inr rfl) ?_ ?_) <;> simp [Tryz.results138, he] <;> omega)
        | refine T.rs (fun _ => false) fun K hK => ?_
        | refine T.cond rfl (fun hcnd => absurd hcnd (by decide)) (fun hcnd => ?_)
        | refine T.seq ?_
        | refine T.exit ?_

theorem CastValidS_ok (e : MTm) (hn : nTm e ≤ 1099511627776) : ACalls Tryz.prog 103 [aTm e] [] (.b (castValidM e)) [] [] := by
  have h1 := l4Shape_ok 40 e (by omega) hn
  have h2 := l2Count_ok 40 e (by omega) hn
  rw [show castValidM e = (shapeTm 13 40 e && decide (countTm 40 e ≤ 200)) from rfl]
  generalize shapeTm 13 40 e = a at *
  generalize countTm 40 e = b at *
  refine ACalls.of_body Tryz.func103 (by kernel_rfl) rfl (by kernel_rfl) (by simp [Tryz.ntmps103]) (by simp) ?_
  rw [Tryz.ntmps103]
  repeat' first
    | ((first | refine aops_end (hK _ ?_) | refine aopsD_end (hK _ ?_)); clear hK K)
    | ((first | refine aops_go ?_ | refine aopsD_go ?_); simp; (try (refine gen fun q hq => ?_; cases q <;> (try simp at hq) <;> (try (have hh : True := hq; clear hh hq)))))
    | (refine wpcall_pure rfl (h1) ?_; simp; (try first | (refine Ops.gen fun q hq => ?_; cases q <;> (try simp at hq) <;> (try (have hh : True := hq; clear hh hq))) | (refine OpsD.gen fun q hq => ?_; cases q <;> (try simp at hq) <;> (try (have hh : True := hq; clear hh hq)))))
    | (refine wpcall_pure rfl (h2) ?_; simp; (try first | (refine Ops.gen fun q hq => ?_; cases q <;> (try simp at hq) <;> (try (have hh : True := hq; clear hh hq))) | (refine OpsD.gen fun q hq => ?_; cases q <;> (try simp at hq) <;> (try (have hh : True := hq; clear hh hq)))))
    | (refine T.ret (Done.data (Or.inr rfl) ?_ ?_) <;> simp [Tryz.results103, *] <;> omega)
    | refine T.rs (fun _ => false) fun K hK => ?_
    | refine T.rs1 (fun _ => false) fun K hK => ?_
    | refine T.rd mixed (fun _ => false) [] (by kernel_rfl) fun K hK => ?_
    | refine T.rd1 mixed (fun _ => false) [] (by kernel_rfl) fun K hK => ?_
    | refine T.cond rfl (fun hcnd => ?_) (fun hcnd => absurd hcnd (by decide))
    | refine T.cond rfl (fun hcnd => absurd hcnd (by decide)) (fun hcnd => ?_)
    | refine T.seq ?_
    | refine T.block ?_
    | refine T.skip ?_
    | refine T.exit ?_

theorem scan_ok (mn md nt : Int) (hmn : mn ≤ 1000) (hmd : md ≤ 1000) : ∀ (e : MTm), nTm e ≤ 1099511627776 → ∀ (deep c : Int), 0 ≤ c → c ≤ 1000 → 0 ≤ deep →
    ACalls Tryz.prog 114 [aTm e, .i deep, .i mn, .i md, .i nt, .c (.ptr 0 0)] (dV [[.i c]]) (.b (scanM mn md nt deep e c).1) (dV [[.i (scanM mn md nt deep e c).2]]) [] := by
  intro e
  induction e using MTm.ind with
  | h e ih =>
    intro hn deep c h0 hc hdp
    obtain ⟨hnt, hnf, hnk, hnu⟩ := nTm_parts hn
    have hnode := nodeOk_ok e hnk hnt hnf
    rw [scanM_def]
    by_cases q1 : mn < c + 1
    · rw [if_pos (by simp [q1])]
      refine ACalls.of_body Tryz.func114 (by kernel_rfl) rfl (by kernel_rfl) (by simp [Tryz.ntmps114]) (by simp) ?_
      rw [Tryz.ntmps114]
      repeat' first
        | ((first | refine aops_end (hK _ ?_)); clear hK K)
        | ((first | refine aops_go ?_); simp [q1]; (try simp (disch := omega) only [wrap64]); (try (refine gen fun q hq => ?_; cases q <;> (try simp [q1] at hq) <;> (try (have hh : True := hq; clear hh hq)))))
        | (refine T.ret (Done.obj1 (Or.inr rfl) ?_ ?_ ?_) <;> simp [Tryz.results114] <;> omega)
        | refine T.rs (fun _ => false) fun K hK => ?_
        | refine T.cond rfl (fun hcnd => ?_) (fun hcnd => absurd hcnd (by decide))
        | refine T.seq ?_
    by_cases q2 : md < deep
    · rw [if_pos (by simp [q2])]
      refine ACalls.of_body Tryz.func114 (by kernel_rfl) rfl (by kernel_rfl) (by simp [Tryz.ntmps114]) (by simp) ?_
      rw [Tryz.ntmps114]
      repeat' first
        | ((first | refine aops_end (hK _ ?_)); clear hK K)
        | ((first | refine aops_go ?_); simp [q1, q2]; (try simp (disch := omega) only [wrap64]); (try (refine gen fun q hq => ?_; cases q <;> (try simp [q1, q2] at hq) <;> (try (have hh : True := hq; clear hh hq)))))
        | (refine T.ret (Done.obj1 (Or.inr rfl) ?_ ?_ ?_) <;> simp [Tryz.results114] <;> omega)
        | refine T.rs (fun _ => false) fun K hK => ?_
        | refine T.cond rfl (fun hcnd => ?_) (fun hcnd => absurd hcnd (by decide))
        | refine T.seq ?_
    by_cases q3 : e.kind = nt
    · rw [if_pos (by simp [q3])]
      refine ACalls.of_body Tryz.func114 (by kernel_rfl) rfl (by kernel_rfl) (by simp [Tryz.ntmps114]) (by simp) ?_
      rw [Tryz.ntmps114]
      repeat' first
        | ((first | refine aops_end (hK _ ?_)); clear hK K)
        | ((first | refine aops_go ?_); simp [q1, q2, q3]; (try simp (disch := omega) only [wrap64]); (try (refine gen fun q hq => ?_; cases q <;> (try simp [q1, q2, q3] at hq) <;> (try (have hh : True := hq; clear hh hq)))))
        | (refine T.ret (Done.obj1 (Or.inr rfl) ?_ ?_ ?_) <;> simp [Tryz.results114] <;> omega)
        | refine T.rs (fun _ => false) fun K hK => ?_
        | refine T.cond rfl (fun hcnd => ?_) (fun hcnd => absurd hcnd (by decide))
        | refine T.seq ?_
    cases hN : nodeM e
    · rw [if_pos (by simp)]
      rw [hN] at hnode
      refine ACalls.of_body Tryz.func114 (by kernel_rfl) rfl (by kernel_rfl) (by simp [Tryz.ntmps114]) (by simp) ?_
      rw [Tryz.ntmps114]
      repeat' first
        | ((first | refine aops_end (hK _ ?_)); clear hK K)
        | ((first | refine aops_go ?_); simp [q1, q2, q3]; (try simp (disch := omega) only [wrap64]); (try (refine gen fun q hq => ?_; cases q <;> (try simp [q1, q2, q3] at hq) <;> (try (have hh : True := hq; clear hh hq)))))
        | (refine wpcall_pure rfl (hnode) ?_; simp [q1, q2, q3]; (try simp (disch := omega) only [wrap64]); (try first | (refine Ops.gen fun q hq => ?_; cases q <;> (try simp [q1, q2, q3] at hq) <;> (try (have hh : True := hq; clear hh hq))) | (refine OpsD.gen fun q hq => ?_; cases q <;> (try simp [q1, q2, q3] at hq) <;> (try (have hh : True := hq; clear hh hq)))))
        | (refine T.ret (Done.obj1 (Or.inr rfl) ?_ ?_ ?_) <;> simp [Tryz.results114] <;> omega)
        | refine T.rs (fun _ => false) fun K hK => ?_
        | refine T.cond rfl (fun hcnd => ?_) (fun hcnd => absurd hcnd (by decide))
        | refine T.seq ?_
    rw [hN] at hnode
    rw [if_neg (by simp [q1, q2, q3])]
    obtain ⟨R, hR⟩ : ∃ R, scanS mn md nt (deep + 1) e.kids (c + 1) = R := ⟨_, rfl⟩
    rw [hR]
    refine ACalls.of_body Tryz.func114 (by kernel_rfl) rfl (by kernel_rfl) (by simp [Tryz.ntmps114]) (by simp) ?_
    rw [Tryz.ntmps114]
    repeat' first
      | ((first | refine aops_end (hK _ ?_)); clear hK K)
      | ((first | refine aops_go ?_); simp [q1, q2, q3]; (try simp (disch := omega) only [wrap64]); (try (refine gen fun q hq => ?_; cases q <;> (try simp [q1, q2, q3] at hq) <;> (try (have hh : True := hq; clear hh hq)))))
      | (refine wpcall_pure rfl (hnode) ?_; simp [q1, q2, q3]; (try simp (disch := omega) only [wrap64]); (try first | (refine Ops.gen fun q hq => ?_; cases q <;> (try simp [q1, q2, q3] at hq) <;> (try (have hh : True := hq; clear hh hq))) | (refine OpsD.gen fun q hq => ?_; cases q <;> (try simp [q1, q2, q3] at hq) <;> (try (have hh : True := hq; clear hh hq)))))
      | refine T.rs (fun _ => false) fun K hK => ?_
      | refine T.cond rfl (fun hcnd => absurd hcnd (by decide)) (fun hcnd => ?_)
      | refine T.seq ?_
      | refine T.block ?_
      | refine T.skip ?_
    refine T.loopF (fun x : Nat × Int × List (List CV) => ⟨[(1, .i deep), (2, .i mn), (3, .i md), (4, .i nt), (5, .c (.ptr 0 0)), (6, .c (.ptr 1 0)), (42, .l (e.kids.map eTm)), (43, .i e.kids.length), (44, .i x.1)], [.d (.i x.2.1)] :: (aTm e).cells :: x.2.2, []⟩) (fun x => e.kids.length + 1 - x.1) (fun x => x.1 ≤ e.kids.length ∧ 0 ≤ x.2.1 ∧ x.2.1 ≤ mn ∧ scanS mn md nt (deep + 1) (e.kids.drop x.1) x.2.1 = R) (fun x hx => ?_) (0, c + 1, []) (by simpa using ⟨by omega, by omega, hR⟩) (by simp)
    obtain ⟨p, k, G⟩ := x
    obtain ⟨hi, hk0, hk1, he⟩ := hx
    dsimp only at hi hk0 hk1 he ⊢
    by_cases hlt : p < e.kids.length
    · obtain ⟨u, ht⟩ := get_lt hlt
      have htm : u ∈ e.kids := List.mem_of_getElem? ht
      have hgt : e.kids[p] = u := by rw [List.getElem?_eq_getElem hlt] at ht; exact Option.some.inj ht
      have hdr : e.kids.drop p = u :: e.kids.drop (p + 1) := by rw [List.drop_eq_getElem_cons hlt, hgt]
      have hu := ih u htm (hnu u htm) (deep + 1) k hk0 (by omega) (by omega)
      have hle := scanM_le mn md nt u (deep + 1) k hk0
      rw [hdr, scanS] at he
      generalize scanM mn md nt (deep + 1) u k = r at hu hle he
      obtain ⟨b, k'⟩ := r
      dsimp only at hu hle he
      cases b
      · repeat' first
          | ((first | refine aops_end (hK _ ?_)); clear hK K)
          | ((first | refine aops_go ?_); simp [hlt, hgt]; (try simp (disch := omega) only [wrap64]); (try (refine gen fun q hq => ?_; cases q <;> (try simp [hlt, hgt] at hq) <;> (try (have hh : True := hq; clear hh hq)))))
          | (refine wpcall_upd1 0 [.i k] [.i k'] rfl rfl hu ?_; simp)
          | (refine T.ret (Done.obj1 (Or.inr rfl) ?_ ?_ ?_) <;> simp [Tryz.results114, ← he] <;> omega)
          | refine T.rs (fun _ => false) fun K hK => ?_
          | refine T.cond rfl (fun hcnd => ?_) (fun hcnd => absurd hcnd (by decide))
          | refine T.seq ?_
          | refine T.block ?_
          | refine T.skip ?_
      · obtain ⟨hle1, hle2⟩ := hle rfl
        repeat' first
          | ((first | refine aops_end (hK _ ?_)); clear hK K)
          | ((first | refine aops_go ?_); simp [hlt, hgt]; (try simp (disch := omega) only [wrap64]); (try (refine gen fun q hq => ?_; cases q <;> (try simp [hlt, hgt] at hq) <;> (try (have hh : True := hq; clear hh hq)))))
          | (refine wpcall_upd1 0 [.i k] [.i k'] rfl rfl hu ?_; simp)
          | (refine ⟨(p + 1, k', _), by dsimp only; omega, ⟨by dsimp only; omega, hle1, hle2, by simpa using he⟩, rfl, rfl, ?_⟩; simp (disch := omega) [wrap64])
          | refine T.rs (fun _ => false) fun K hK => ?_
          | refine T.rs1 (fun _ => false) fun K hK => ?_
          | refine T.cond rfl (fun hcnd => ?_) (fun hcnd => absurd hcnd (by decide))
          | refine T.cond rfl (fun hcnd => absurd hcnd (by decide)) (fun hcnd => ?_)
          | refine T.seq ?_
          | refine T.block ?_
          | refine T.skip ?_
    · have hp' : p = e.kids.length := by omega
      subst hp'
      simp [scanS] at he
      repeat' first
        | ((first | refine aops_end (hK _ ?_)); clear hK K)
        | ((first | refine aops_go ?_); simp [hlt]; (try (refine gen fun q hq => ?_; cases q <;> (try simp [hlt] at hq) <;> (try (have hh : True := hq; clear hh hq)))))
        | (refine T.ret (Done.obj1 (Or.inr rfl) ?_ ?_ ?_) <;> simp [Tryz.results114, ← he] <;> omega)
        | refine T.rs (fun _ => false) fun K hK => ?_
        | refine T.cond rfl (fun hcnd => absurd hcnd (by decide)) (fun hcnd => ?_)
        | refine T.seq ?_
        | refine T.exit ?_

theorem CastValid_ok (e : MTm) (hn : nTm e ≤ 1099511627776) : ACalls Tryz.prog 73 [aTm e] [] (.b (castValidM e)) [] [] := by
  have h := scan_ok 200 40 13 (by omega) (by omega) e hn 1 0 (by omega) (by omega) (by omega)
  have hl := (scanM_law 200 40 13 e 40 0 (by omega) (by omega)).1
  have hr : (scanM 200 40 13 1 e 0).1 = castValidM e := by
    rw [show ((40 : Int) + 1 - ((40 : Nat) : Int)) = 1 by omega] at hl
    rw [hl, castValidM]
    congr 1
    exact decide_eq_decide.2 (by omega)
  rw [hr] at h
  refine ACalls.of_body Tryz.func73 (by kernel_rfl) rfl (by kernel_rfl) (by simp [Tryz.ntmps73]) (by simp) ?_
  rw [Tryz.ntmps73]
  repeat' first
    | ((first | refine aops_end (hK _ ?_)); clear hK K)
    | ((first | refine aops_go ?_); simp)
    | (refine wpcall_upd1 1 [.i 0] [.i (scanM 200 40 13 1 e 0).2] rfl rfl h ?_; simp)
    | (refine T.ret (Done.data (Or.inr rfl) ?_ ?_) <;> simp [Tryz.results73] <;> omega)
    | refine T.rs (fun _ => false) fun K hK => ?_

theorem l13Any_ok : ∀ (e : MTm), nTm e ≤ 1099511627776 → ACalls Tryz.prog 104 [aTm e] [] (.b (bareM e)) [] [] := by
  intro e
  induction e using MTm.ind with
  | h e ih =>
    intro hn
    obtain ⟨hnt, hnf, hnk, hnu⟩ := nTm_parts hn
    rw [bareM_def]
    by_cases h14 : e.kind = 14
    · refine ACalls.of_body Tryz.func104 (by kernel_rfl) rfl (by kernel_rfl) (by simp [Tryz.ntmps104]) (by simp) ?_
      rw [Tryz.ntmps104]
      repeat' first
        | ((first | refine aops_end (hK _ ?_) | refine aopsD_end (hK _ ?_)); clear hK K)
        | ((first | refine aops_go ?_ | refine aopsD_go ?_); simp [h14]; (try (refine gen fun q hq => ?_; cases q <;> (try simp [h14] at hq) <;> (try (have hh : True := hq; clear hh hq)))))
        | (refine T.ret (Done.data (Or.inr rfl) ?_ ?_) <;> simp [Tryz.results104, *] <;> omega)
        | refine T.rs (fun _ => false) fun K hK => ?_
        | refine T.rs1 (fun _ => false) fun K hK => ?_
        | refine T.rd mixed (fun _ => false) [] (by kernel_rfl) fun K hK => ?_
        | refine T.rd1 mixed (fun _ => false) [] (by kernel_rfl) fun K hK => ?_
        | refine T.cond rfl (fun hcnd => ?_) (fun hcnd => absurd hcnd (by decide))
        | refine T.cond rfl (fun hcnd => absurd hcnd (by decide)) (fun hcnd => ?_)
        | refine T.seq ?_
        | refine T.block ?_
        | refine T.skip ?_
        | refine T.exit ?_
    by_cases h5 : e.kind = 5 ∧ ¬ e.ty.kind = 1
    · obtain ⟨h5, ht1⟩ := h5
      refine ACalls.of_body Tryz.func104 (by kernel_rfl) rfl (by kernel_rfl) (by simp [Tryz.ntmps104]) (by simp) ?_
      rw [Tryz.ntmps104]
      repeat' first
        | ((first | refine aops_end (hK _ ?_) | refine aopsD_end (hK _ ?_)); clear hK K)
        | ((first | refine aops_go ?_ | refine aopsD_go ?_); simp [h14, h5, ht1]; (try (refine gen fun q hq => ?_; cases q <;> (try simp [h14, h5, ht1] at hq) <;> (try (have hh : True := hq; clear hh hq)))))
        | (refine T.ret (Done.data (Or.inr rfl) ?_ ?_) <;> simp [Tryz.results104, *] <;> omega)
        | refine T.rs (fun _ => false) fun K hK => ?_
        | refine T.rs1 (fun _ => false) fun K hK => ?_
        | refine T.rd mixed (fun _ => false) [] (by kernel_rfl) fun K hK => ?_
        | refine T.rd1 mixed (fun _ => false) [] (by kernel_rfl) fun K hK => ?_
        | refine T.cond rfl (fun hcnd => ?_) (fun hcnd => absurd hcnd (by decide))
        | refine T.cond rfl (fun hcnd => absurd hcnd (by decide)) (fun hcnd => ?_)
        | refine T.seq ?_
        | refine T.block ?_
        | refine T.skip ?_
        | refine T.exit ?_
    obtain ⟨R, hR⟩ : ∃ R, e.kids.all bareM = R := ⟨_, rfl⟩
    have hb : (decide (e.kind ≠ 5) || decide (e.ty.kind = 1)) = true := by
      by_cases e.kind = 5 <;> simp_all
    rw [hb, hR]
    by_cases h5' : e.kind = 5
    · have ht1 : e.ty.kind = 1 := by simp [h5'] at hb; exact hb
      refine ACalls.of_body Tryz.func104 (by kernel_rfl) rfl (by kernel_rfl) (by simp [Tryz.ntmps104]) (by simp) ?_
      rw [Tryz.ntmps104]
      repeat' first
        | ((first | refine aops_end (hK _ ?_) | refine aopsD_end (hK _ ?_)); clear hK K)
        | ((first | refine aops_go ?_ | refine aopsD_go ?_); simp [h14, h5', ht1]; (try (refine gen fun q hq => ?_; cases q <;> (try simp [h14, h5', ht1] at hq) <;> (try (have hh : True := hq; clear hh hq)))))
        | refine T.rs (fun _ => false) fun K hK => ?_
        | refine T.rs1 (fun _ => false) fun K hK => ?_
        | refine T.rd mixed (fun _ => false) [] (by kernel_rfl) fun K hK => ?_
        | refine T.rd1 mixed (fun _ => false) [] (by kernel_rfl) fun K hK => ?_
        | refine T.cond rfl (fun hcnd => ?_) (fun hcnd => absurd hcnd (by decide))
        | refine T.cond rfl (fun hcnd => absurd hcnd (by decide)) (fun hcnd => ?_)
        | refine T.seq ?_
        | refine T.block ?_
        | refine T.skip ?_
        | refine T.exit ?_
      refine T.loopF (fun p : Nat => ⟨[(1, .c (.ptr 0 0)), (3, .i p)], [(aTm e).cells], []⟩) (fun p => e.kids.length + 1 - p) (fun p => p ≤ e.kids.length ∧ (e.kids.drop p).all bareM = R) (fun p hp => ?_) 0 (by simpa using hR) (by simp [h5', ht1])
      obtain ⟨hi, he⟩ := hp
      by_cases hlt : p < e.kids.length
      · obtain ⟨u, ht⟩ := get_lt hlt
        have htm : u ∈ e.kids := List.mem_of_getElem? ht
        have hgt : e.kids[p] = u := by rw [List.getElem?_eq_getElem hlt] at ht; exact Option.some.inj ht
        have hdr : e.kids.drop p = u :: e.kids.drop (p + 1) := by rw [List.drop_eq_getElem_cons hlt, hgt]
        have hu := ih u htm (hnu u htm)
        rw [hdr, List.all_cons] at he
        cases hbu : bareM u <;> rw [hbu] at hu he
        · repeat' first
            | ((first | refine aops_end (hK _ ?_) | refine aopsD_end (hK _ ?_)); clear hK K)
            | ((first | refine aops_go ?_ | refine aopsD_go ?_); simp [hlt, hgt]; (try simp (disch := omega) only [wrap64]); (try (refine gen fun q hq => ?_; cases q <;> (try simp [hlt, hgt] at hq) <;> (try (have hh : True := hq; clear hh hq)))))
            | (refine wpcall_pure rfl (hu) ?_; simp [hlt, hgt]; (try simp (disch := omega) only [wrap64]); (try first | (refine Ops.gen fun q hq => ?_; cases q <;> (try simp [hlt, hgt] at hq) <;> (try (have hh : True := hq; clear hh hq))) | (refine OpsD.gen fun q hq => ?_; cases q <;> (try simp [hlt, hgt] at hq) <;> (try (have hh : True := hq; clear hh hq)))))
            | (refine T.ret (Done.data (Or.inr rfl) ?_ ?_) <;> simp [Tryz.results104, h5', ← he] <;> omega)
            | refine T.rs (fun _ => false) fun K hK => ?_
            | refine T.rs1 (fun _ => false) fun K hK => ?_
            | refine T.rd mixed (fun _ => false) [] (by kernel_rfl) fun K hK => ?_
            | refine T.rd1 mixed (fun _ => false) [] (by kernel_rfl) fun K hK => ?_
            | refine T.cond rfl (fun hcnd => ?_) (fun hcnd => absurd hcnd (by decide))
            | refine T.cond rfl (fun hcnd => absurd hcnd (by decide)) (fun hcnd => ?_)
            | refine T.seq ?_
            | refine T.block ?_
            | refine T.skip ?_
            | refine T.exit ?_
        · repeat' first
            | ((first | refine aops_end (hK _ ?_) | refine aopsD_end (hK _ ?_)); clear hK K)
            | ((first | refine aops_go ?_ | refine aopsD_go ?_); simp [hlt, hgt]; (try simp (disch := omega) only [wrap64]); (try (refine gen fun q hq => ?_; cases q <;> (try simp [hlt, hgt] at hq) <;> (try (have hh : True := hq; clear hh hq)))))
            | (refine wpcall_pure rfl (hu) ?_; simp [hlt, hgt]; (try simp (disch := omega) only [wrap64]); (try first | (refine Ops.gen fun q hq => ?_; cases q <;> (try simp [hlt, hgt] at hq) <;> (try (have hh : True := hq; clear hh hq))) | (refine OpsD.gen fun q hq => ?_; cases q <;> (try simp [hlt, hgt] at hq) <;> (try (have hh : True := hq; clear hh hq)))))
            | (refine ⟨p + 1, by dsimp only; omega, ⟨by omega, by simpa using he⟩, rfl, rfl, ?_⟩; simp (disch := omega) [wrap64])
            | refine T.rs (fun _ => false) fun K hK => ?_
            | refine T.rs1 (fun _ => false) fun K hK => ?_
            | refine T.rd mixed (fun _ => false) [] (by kernel_rfl) fun K hK => ?_
            | refine T.rd1 mixed (fun _ => false) [] (by kernel_rfl) fun K hK => ?_
            | refine T.cond rfl (fun hcnd => ?_) (fun hcnd => absurd hcnd (by decide))
            | refine T.cond rfl (fun hcnd => absurd hcnd (by decide)) (fun hcnd => ?_)
            | refine T.seq ?_
            | refine T.block ?_
            | refine T.skip ?_
            | refine T.exit ?_
      · have hp' : p = e.kids.length := by omega
        subst hp'
        simp at he
        repeat' first
          | ((first | refine aops_end (hK _ ?_) | refine aopsD_end (hK _ ?_)); clear hK K)
          | ((first | refine aops_go ?_ | refine aopsD_go ?_); simp [hlt]; (try (refine gen fun q hq => ?_; cases q <;> (try simp [hlt] at hq) <;> (try (have hh : True := hq; clear hh hq)))))
          | (refine T.ret (Done.data (Or.inr rfl) ?_ ?_) <;> simp [Tryz.results104, h5', he] <;> omega)
          | refine T.rs (fun _ => false) fun K hK => ?_
          | refine T.rs1 (fun _ => false) fun K hK => ?_
          | refine T.rd mixed (fun _ => false) [] (by kernel_rfl) fun K hK => ?_
          | refine T.rd1 mixed (fun _ => false) [] (by kernel_rfl) fun K hK => ?_
          | refine T.cond rfl (fun hcnd => ?_) (fun hcnd => absurd hcnd (by decide))
          | refine T.cond rfl (fun hcnd => absurd hcnd (by decide)) (fun hcnd => ?_)
          | refine T.seq ?_
          | refine T.block ?_
          | refine T.skip ?_
          | refine T.exit ?_
    · refine ACalls.of_body Tryz.func104 (by kernel_rfl) rfl (by kernel_rfl) (by simp [Tryz.ntmps104]) (by simp) ?_
      rw [Tryz.ntmps104]
      repeat' first
        | ((first | refine aops_end (hK _ ?_) | refine aopsD_end (hK _ ?_)); clear hK K)
        | ((first | refine aops_go ?_ | refine aopsD_go ?_); simp [h14, h5']; (try (refine gen fun q hq => ?_; cases q <;> (try simp [h14, h5'] at hq) <;> (try (have hh : True := hq; clear hh hq)))))
        | refine T.rs (fun _ => false) fun K hK => ?_
        | refine T.rs1 (fun _ => false) fun K hK => ?_
        | refine T.rd mixed (fun _ => false) [] (by kernel_rfl) fun K hK => ?_
        | refine T.rd1 mixed (fun _ => false) [] (by kernel_rfl) fun K hK => ?_
        | refine T.cond rfl (fun hcnd => ?_) (fun hcnd => absurd hcnd (by decide))
        | refine T.cond rfl (fun hcnd => absurd hcnd (by decide)) (fun hcnd => ?_)
        | refine T.seq ?_
        | refine T.block ?_
        | refine T.skip ?_
        | refine T.exit ?_
      refine T.loopF (fun p : Nat => ⟨[(1, .c (.ptr 0 0)), (3, .i p)], [(aTm e).cells], []⟩) (fun p => e.kids.length + 1 - p) (fun p => p ≤ e.kids.length ∧ (e.kids.drop p).all bareM = R) (fun p hp => ?_) 0 (by simpa using hR) (by simp)
      obtain ⟨hi, he⟩ := hp
      by_cases hlt : p < e.kids.length
      · obtain ⟨u, ht⟩ := get_lt hlt
        have htm : u ∈ e.kids := List.mem_of_getElem? ht
        have hgt : e.kids[p] = u := by rw [List.getElem?_eq_getElem hlt] at ht; exact Option.some.inj ht
        have hdr : e.kids.drop p = u :: e.kids.drop (p + 1) := by rw [List.drop_eq_getElem_cons hlt, hgt]
        have hu := ih u htm (hnu u htm)
        rw [hdr, List.all_cons] at he
        cases hbu : bareM u <;> rw [hbu] at hu he
        · repeat' first
            | ((first | refine aops_end (hK _ ?_) | refine aopsD_end (hK _ ?_)); clear hK K)
            | ((first | refine aops_go ?_ | refine aopsD_go ?_); simp [hlt, hgt]; (try simp (disch := omega) only [wrap64]); (try (refine gen fun q hq => ?_; cases q <;> (try simp [hlt, hgt] at hq) <;> (try (have hh : True := hq; clear hh hq)))))
            | (refine wpcall_pure rfl (hu) ?_; simp [hlt, hgt]; (try simp (disch := omega) only [wrap64]); (try first | (refine Ops.gen fun q hq => ?_; cases q <;> (try simp [hlt, hgt] at hq) <;> (try (have hh : True := hq; clear hh hq))) | (refine OpsD.gen fun q hq => ?_; cases q <;> (try simp [hlt, hgt] at hq) <;> (try (have hh : True := hq; clear hh hq)))))
            | (refine T.ret (Done.data (Or.inr rfl) ?_ ?_) <;> simp [Tryz.results104, h14, ← he] <;> omega)
            | refine T.rs (fun _ => false) fun K hK => ?_
            | refine T.rs1 (fun _ => false) fun K hK => ?_
            | refine T.rd mixed (fun _ => false) [] (by kernel_rfl) fun K hK => ?_
            | refine T.rd1 mixed (fun _ => false) [] (by kernel_rfl) fun K hK => ?_
            | refine T.cond rfl (fun hcnd => ?_) (fun hcnd => absurd hcnd (by decide))
            | refine T.cond rfl (fun hcnd => absurd hcnd (by decide)) (fun hcnd => ?_)
            | refine T.seq ?_
            | refine T.block ?_
            | refine T.skip ?_
            | refine T.exit ?_
        · repeat' first
            | ((first | refine aops_end (hK _ ?_) | refine aopsD_end (hK _ ?_)); clear hK K)
            | ((first | refine aops_go ?_ | refine aopsD_go ?_); simp [hlt, hgt]; (try simp (disch := omega) only [wrap64]); (try (refine gen fun q hq => ?_; cases q <;> (try simp [hlt, hgt] at hq) <;> (try (have hh : True := hq; clear hh hq)))))
            | (refine wpcall_pure rfl (hu) ?_; simp [hlt, hgt]; (try simp (disch := omega) only [wrap64]); (try first | (refine Ops.gen fun q hq => ?_; cases q <;> (try simp [hlt, hgt] at hq) <;> (try (have hh : True := hq; clear hh hq))) | (refine OpsD.gen fun q hq => ?_; cases q <;> (try simp [hlt, hgt] at hq) <;> (try (have hh : True := hq; clear hh hq)))))
            | (refine ⟨p + 1, by dsimp only; omega, ⟨by omega, by simpa using he⟩, rfl, rfl, ?_⟩; simp (disch := omega) [wrap64])
            | refine T.rs (fun _ => false) fun K hK => ?_
            | refine T.rs1 (fun _ => false) fun K hK => ?_
            | refine T.rd mixed (fun _ => false) [] (by kernel_rfl) fun K hK => ?_
            | refine T.rd1 mixed (fun _ => false) [] (by kernel_rfl) fun K hK => ?_
            | refine T.cond rfl (fun hcnd => ?_) (fun hcnd => absurd hcnd (by decide))
            | refine T.cond rfl (fun hcnd => absurd hcnd (by decide)) (fun hcnd => ?_)
            | refine T.seq ?_
            | refine T.block ?_
            | refine T.skip ?_
            | refine T.exit ?_
      · have hp' : p = e.kids.length := by omega
        subst hp'
        simp at he
        repeat' first
          | ((first | refine aops_end (hK _ ?_) | refine aopsD_end (hK _ ?_)); clear hK K)
          | ((first | refine aops_go ?_ | refine aopsD_go ?_); simp [hlt]; (try (refine gen fun q hq => ?_; cases q <;> (try simp [hlt] at hq) <;> (try (have hh : True := hq; clear hh hq)))))
          | (refine T.ret (Done.data (Or.inr rfl) ?_ ?_) <;> simp [Tryz.results104, h14, he] <;> omega)
          | refine T.rs (fun _ => false) fun K hK => ?_
          | refine T.rs1 (fun _ => false) fun K hK => ?_
          | refine T.rd mixed (fun _ => false) [] (by kernel_rfl) fun K hK => ?_
          | refine T.rd1 mixed (fun _ => false) [] (by kernel_rfl) fun K hK => ?_
          | refine T.cond rfl (fun hcnd => ?_) (fun hcnd => absurd hcnd (by decide))
          | refine T.cond rfl (fun hcnd => absurd hcnd (by decide)) (fun hcnd => ?_)
          | refine T.seq ?_
          | refine T.block ?_
          | refine T.skip ?_
          | refine T.exit ?_

theorem isBare1_ok (e : MTm) (q : Bool) (h : ACalls Tryz.prog 102 [aTm e] [] (.b q) [] []) : ACalls Tryz.prog 164 [aTm e] [] (.b (!q)) [] [] := by
  refine ACalls.of_body Tryz.func164 (by kernel_rfl) rfl (by kernel_rfl) (by simp [Tryz.ntmps164]) (by simp) ?_
  rw [Tryz.ntmps164]
  repeat' first
    | ((first | refine aops_end (hK _ ?_) | refine aopsD_end (hK _ ?_)); clear hK K)
    | ((first | refine aops_go ?_ | refine aopsD_go ?_); simp)
    | (refine wpcall_pure rfl (h) ?_; simp)
    | (refine T.ret (Done.data (Or.inr rfl) ?_ ?_) <;> simp [Tryz.results164] <;> omega)
    | refine T.rs (fun _ => false) fun K hK => ?_
    | refine T.rs1 (fun _ => false) fun K hK => ?_
    | refine T.rd mixed (fun _ => false) [] (by kernel_rfl) fun K hK => ?_
    | refine T.rd1 mixed (fun _ => false) [] (by kernel_rfl) fun K hK => ?_
    | refine T.cond rfl (fun hcnd => ?_) (fun hcnd => absurd hcnd (by decide))
    | refine T.cond rfl (fun hcnd => absurd hcnd (by decide)) (fun hcnd => ?_)
    | refine T.seq ?_
    | refine T.block ?_
    | refine T.skip ?_
    | refine T.exit ?_

theorem isBare_ok : ∀ (e : MTm), nTm e ≤ 1099511627776 → ACalls Tryz.prog 102 [aTm e] [] (.b (bareM e)) [] [] := by
  intro e
  induction e using MTm.ind with
  | h e ih =>
    intro hn
    obtain ⟨hnt, hnf, hnk, hnu⟩ := nTm_parts hn
    have hcf := containsFuncTm_0 164 e.kids (fun t => !bareM t) (by omega) (fun u hu => isBare1_ok u _ (ih u hu (hnu u hu)))
    rw [bareM_def, ← not_any_not]
    generalize (e.kids.any fun t => !bareM t) = R at hcf ⊢
    refine ACalls.of_body Tryz.func102 (by kernel_rfl) rfl (by kernel_rfl) (by simp [Tryz.ntmps102]) (by simp) ?_
    rw [Tryz.ntmps102]
    repeat' first
      | ((first | refine aops_end (hK _ ?_) | refine aopsD_end (hK _ ?_)); clear hK K)
      | ((first | refine aops_go ?_ | refine aopsD_go ?_); simp; (try (refine gen fun q hq => ?_; cases q <;> (try simp at hq) <;> (try (have hh : True := hq; clear hh hq)))))
      | (refine wpcall_pure rfl (hcf) ?_; simp; (try first | (refine Ops.gen fun q hq => ?_; cases q <;> (try simp at hq) <;> (try (have hh : True := hq; clear hh hq))) | (refine OpsD.gen fun q hq => ?_; cases q <;> (try simp at hq) <;> (try (have hh : True := hq; clear hh hq)))))
      | (refine T.ret (Done.data (Or.inr rfl) ?_ ?_) <;> simp [Tryz.results102, *] <;> omega)
      | refine T.rs (fun _ => false) fun K hK => ?_
      | refine T.rs1 (fun _ => false) fun K hK => ?_
      | refine T.rd mixed (fun _ => false) [] (by kernel_rfl) fun K hK => ?_
      | refine T.rd1 mixed (fun _ => false) [] (by kernel_rfl) fun K hK => ?_
      | refine T.cond rfl (fun hcnd => ?_) (fun hcnd => absurd hcnd (by decide))
      | refine T.cond rfl (fun hcnd => absurd hcnd (by decide)) (fun hcnd => ?_)
      | refine T.seq ?_
      | refine T.block ?_
      | refine T.skip ?_
      | refine T.exit ?_

theorem BareValidS_ok (e : MTm) (hn : nTm e ≤ 1099511627776) : ACalls Tryz.prog 42 [aTm e] [] (.b (castValidM e && bareM e)) [] [] := by
  have h1 := CastValidS_ok e hn
  have h2 := l13Any_ok e hn
  generalize castValidM e = a at *
  generalize bareM e = b at *
  refine ACalls.of_body Tryz.func42 (by kernel_rfl) rfl (by kernel_rfl) (by simp [Tryz.ntmps42]) (by simp) ?_
  rw [Tryz.ntmps42]
  repeat' first
    | ((first | refine aops_end (hK _ ?_) | refine aopsD_end (hK _ ?_)); clear hK K)
    | ((first | refine aops_go ?_ | refine aopsD_go ?_); simp; (try (refine gen fun q hq => ?_; cases q <;> (try simp at hq) <;> (try (have hh : True := hq; clear hh hq)))))
    | (refine wpcall_pure rfl (h1) ?_; simp; (try first | (refine Ops.gen fun q hq => ?_; cases q <;> (try simp at hq) <;> (try (have hh : True := hq; clear hh hq))) | (refine OpsD.gen fun q hq => ?_; cases q <;> (try simp at hq) <;> (try (have hh : True := hq; clear hh hq)))))
    | (refine wpcall_pure rfl (h2) ?_; simp; (try first | (refine Ops.gen fun q hq => ?_; cases q <;> (try simp at hq) <;> (try (have hh : True := hq; clear hh hq))) | (refine OpsD.gen fun q hq => ?_; cases q <;> (try simp at hq) <;> (try (have hh : True := hq; clear hh hq)))))
    | (refine T.ret (Done.data (Or.inr rfl) ?_ ?_) <;> simp [Tryz.results42, *] <;> omega)
    | refine T.rs (fun _ => false) fun K hK => ?_
    | refine T.rs1 (fun _ => false) fun K hK => ?_
    | refine T.rd mixed (fun _ => false) [] (by kernel_rfl) fun K hK => ?_
    | refine T.rd1 mixed (fun _ => false) [] (by kernel_rfl) fun K hK => ?_
    | refine T.cond rfl (fun hcnd => ?_) (fun hcnd => absurd hcnd (by decide))
    | refine T.cond rfl (fun hcnd => absurd hcnd (by decide)) (fun hcnd => ?_)
    | refine T.seq ?_
    | refine T.block ?_
    | refine T.skip ?_
    | refine T.exit ?_

theorem BareValid_ok (e : MTm) (hn : nTm e ≤ 1099511627776) : ACalls Tryz.prog 41 [aTm e] [] (.b (castValidM e && bareM e)) [] [] := by
  have h1 := CastValid_ok e hn
  have h2 := isBare_ok e hn
  generalize castValidM e = a at *
  generalize bareM e = b at *
  refine ACalls.of_body Tryz.func41 (by kernel_rfl) rfl (by kernel_rfl) (by simp [Tryz.ntmps41]) (by simp) ?_
  rw [Tryz.ntmps41]
  repeat' first
    | ((first | refine aops_end (hK _ ?_) | refine aopsD_end (hK _ ?_)); clear hK K)
    | ((first | refine aops_go ?_ | refine aopsD_go ?_); simp; (try (refine gen fun q hq => ?_; cases q <;> (try simp at hq) <;> (try (have hh : True := hq; clear hh hq)))))
    | (refine wpcall_pure rfl (h1) ?_; simp; (try first | (refine Ops.gen fun q hq => ?_; cases q <;> (try simp at hq) <;> (try (have hh : True := hq; clear hh hq))) | (refine OpsD.gen fun q hq => ?_; cases q <;> (try simp at hq) <;> (try (have hh : True := hq; clear hh hq)))))
    | (refine wpcall_pure rfl (h2) ?_; simp; (try first | (refine Ops.gen fun q hq => ?_; cases q <;> (try simp at hq) <;> (try (have hh : True := hq; clear hh hq))) | (refine OpsD.gen fun q hq => ?_; cases q <;> (try simp at hq) <;> (try (have hh : True := hq; clear hh hq)))))
    | (refine T.ret (Done.data (Or.inr rfl) ?_ ?_) <;> simp [Tryz.results41, *] <;> omega)
    | refine T.rs (fun _ => false) fun K hK => ?_
    | refine T.rs1 (fun _ => false) fun K hK => ?_
    | refine T.rd mixed (fun _ => false) [] (by kernel_rfl) fun K hK => ?_
    | refine T.rd1 mixed (fun _ => false) [] (by kernel_rfl) fun K hK => ?_
    | refine T.cond rfl (fun hcnd => ?_) (fun hcnd => absurd hcnd (by decide))
    | refine T.cond rfl (fun hcnd => absurd hcnd (by decide)) (fun hcnd => ?_)
    | refine T.seq ?_
    | refine T.block ?_
    | refine T.skip ?_
    | refine T.exit ?_
end Go.Proofs.YtfdknjjnifnobaaGreat

namespace Go.Proofs.YtfdknjjnifnobaaGreat
attribute [-simp] Go.Av.keepL Go.Av.ups Go.Av.take_app_len Go.Av.innVs Go.Av.putBack Go.Av.objCells Go.Av.back Go.Av.resVs Go.Av.one
open Go Go.Av
attribute [local irreducible] T ACalls eTy eTm MTy.kind MTy.kids MTm.kind MTm.name MTm.num MTm.ty MTm.fr MTm.label MTm.kids
attribute [local simp] eTy_def eTm_def
set_option linter.unusedSimpArgs false
set_option linter.unusedVariables false
set_option maxHeartbeats 4000000
attribute [local simp] Option.bind

theorem l1Any_ok : ACalls Tryz.prog 123 [] [] (aTy anyT) [] [] := by
  refine ACalls.of_body Tryz.func123 (by kernel_rfl) rfl (by kernel_rfl) (by simp [Tryz.ntmps123]) (by simp) ?_
  rw [Tryz.ntmps123]
  repeat' first
    | ((first | refine aops_end (hK _ ?_)); clear hK K)
    | ((first | refine aops_go ?_); simp; (try (refine gen fun q hq => ?_; cases q <;> (try simp at hq) <;> (try (have hh : True := hq; clear hh hq)))))
    | (refine T.ret (Done.val (Or.inr rfl) ?_) <;> simp [resAs, Tryz.results123] <;> omega)
    | refine T.rs (fun _ => false) fun K hK => ?_

theorem l3Int_ok : ACalls Tryz.prog 135 [] [] (aTy intT) [] [] := by
  refine ACalls.of_body Tryz.func135 (by kernel_rfl) rfl (by kernel_rfl) (by simp [Tryz.ntmps135]) (by simp) ?_
  rw [Tryz.ntmps135]
  repeat' first
    | ((first | refine aops_end (hK _ ?_)); clear hK K)
    | ((first | refine aops_go ?_); simp; (try (refine gen fun q hq => ?_; cases q <;> (try simp at hq) <;> (try (have hh : True := hq; clear hh hq)))))
    | (refine T.ret (Done.val (Or.inr rfl) ?_) <;> simp [resAs, Tryz.results135] <;> omega)
    | refine T.rs (fun _ => false) fun K hK => ?_

theorem l3Bool_ok : ACalls Tryz.prog 133 [] [] (aTy boolT) [] [] := by
  refine ACalls.of_body Tryz.func133 (by kernel_rfl) rfl (by kernel_rfl) (by simp [Tryz.ntmps133]) (by simp) ?_
  rw [Tryz.ntmps133]
  repeat' first
    | ((first | refine aops_end (hK _ ?_)); clear hK K)
    | ((first | refine aops_go ?_); simp; (try (refine gen fun q hq => ?_; cases q <;> (try simp at hq) <;> (try (have hh : True := hq; clear hh hq)))))
    | (refine T.ret (Done.val (Or.inr rfl) ?_) <;> simp [resAs, Tryz.results133] <;> omega)
    | refine T.rs (fun _ => false) fun K hK => ?_

theorem l1Copy_ok : ∀ (t : MTy), nTy t ≤ 1099511627776 → ACalls Tryz.prog 130 [aTy t] [] (aTy t) [] [] := by
  intro t
  induction t using MTy.ind with
  | h t ih =>
    intro hn
    rw [nTy_def] at hn
    have hlen := nTyS_len t.kids
    refine ACalls.of_body Tryz.func130 (by kernel_rfl) rfl (by kernel_rfl) (by simp [Tryz.ntmps130]) (by simp) ?_
    rw [Tryz.ntmps130]
    repeat' first
      | ((first | refine aops_end (hK _ ?_)); clear hK K)
      | ((first | refine aops_go ?_); simp; (try (refine gen fun q hq => ?_; cases q <;> (try simp at hq) <;> (try (have hh : True := hq; clear hh hq)))))
      | refine T.rs (fun _ => false) fun K hK => ?_
      | refine T.seq ?_
      | refine T.block ?_
    refine T.ownifyObj 2 1 2 25 (row := [.d (.i t.kind), .nil]) (by simp) (by simp) ?_
    refine T.loopF (fun p : Nat => ⟨[(1, .c (.ptr 0 0)), (2, .c (.ptr 1 0)), (3, .c (.ptr 2 0)), (4, .i p)], [(aTy t).cells, [.d (.i 0), .nil], [.d (.i t.kind), .own 0 p]], [{ sz := 2, ety := 25, rows := (t.kids.take p).map eTy, wr := true }]⟩) (fun p => t.kids.length + 1 - p) (fun p => p ≤ t.kids.length) (fun p hi => ?_) 0 (by simp) (by simp)
    by_cases hlt : p < t.kids.length
    · obtain ⟨u, ht⟩ := get_lt hlt
      have htm : u ∈ t.kids := List.mem_of_getElem? ht
      have hgt : t.kids[p] = u := by rw [List.getElem?_eq_getElem hlt] at ht; exact Option.some.inj ht
      have hdr : t.kids.drop p = u :: t.kids.drop (p + 1) := by rw [List.drop_eq_getElem_cons hlt, hgt]
      have hu := ih u htm (by have := nTyS_mem htm; omega)
      have htk : t.kids.take (p + 1) = t.kids.take p ++ [u] := by rw [List.take_add_one, ht]; rfl
      have hmin : min p t.kids.length = p := by omega
      repeat' first
        | ((first | refine aops_end (hK _ ?_) | refine aopsD_end (hK _ ?_)); clear hK K)
        | ((first | refine aops_go ?_ | refine aopsD_go ?_); simp [hlt, hgt, hmin]; (try simp (disch := omega) only [wrap64]); (try (refine gen fun q hq => ?_; cases q <;> (try simp [hlt, hgt, hmin] at hq) <;> (try (have hh : True := hq; clear hh hq)))))
        | (refine wpcall_pure rfl (hu) ?_; simp [hlt, hgt, hmin]; (try simp (disch := omega) only [wrap64]); (try (refine gen fun q hq => ?_; cases q <;> (try simp [hlt, hgt, hmin] at hq) <;> (try (have hh : True := hq; clear hh hq)))))
        | (refine ⟨by omega, by omega, ?_⟩)
        | (refine ⟨p + 1, by dsimp only; omega, by omega, ?_, ?_, ?_⟩ <;> simp (disch := omega) [wrap64, htk, eTy_def])
        | refine T.rd1 (id := 5) mixed (fun _ => false) [9, 11] (by kernel_rfl) fun K hK => ?_
        | refine T.rs (fun _ => false) fun K hK => ?_
        | refine T.rs1 (fun _ => false) fun K hK => ?_
        | refine T.cond rfl (fun hcnd => ?_) (fun hcnd => absurd hcnd (by decide))
        | refine T.seq ?_
        | refine T.block ?_
        | refine T.skip ?_
    · have hp' : p = t.kids.length := by omega
      subst hp'
      repeat' first
        | ((first | refine aops_end (hK _ ?_)); clear hK K)
        | ((first | refine aops_go ?_); simp [hlt]; (try (refine gen fun q hq => ?_; cases q <;> (try simp [hlt] at hq) <;> (try (have hh : True := hq; clear hh hq)))))
        | (refine T.ret (Done.val (Or.inr rfl) ?_) <;> simp [resAs, Tryz.results130, eTy_def] <;> omega)
        | refine T.rs (fun _ => false) fun K hK => ?_
        | refine T.cond rfl (fun hcnd => absurd hcnd (by decide)) (fun hcnd => ?_)
        | refine T.seq ?_
        | refine T.exit ?_

theorem l1Meet_ok : ∀ (a b : MTy), nTy a ≤ 1099511627776 → nTy b ≤ 1099511627776 → consTy a b = true → ACalls Tryz.prog 236 [aTy a, aTy b] [] (aTy (meetTy a b)) [] [] := by
  intro a
  induction a using MTy.ind with
  | h a ih =>
    intro b hn hm hcon
    have hca := l1Copy_ok a hn
    have hcb := l1Copy_ok b hm
    rw [nTy_def] at hn hm
    have hlen := nTyS_len a.kids
    by_cases hk1 : a.kind = 1
    · rw [show meetTy a b = b by rw [meetTy_def, if_pos hk1]]
      refine ACalls.of_body Tryz.func236 (by kernel_rfl) rfl (by kernel_rfl) (by simp [Tryz.ntmps236]) (by simp) ?_
      rw [Tryz.ntmps236]
      repeat' first
        | ((first | refine aops_end (hK _ ?_)); clear hK K)
        | ((first | refine aops_go ?_); simp [hk1]; (try (refine gen fun q hq => ?_; cases q <;> (try simp [hk1] at hq) <;> (try (have hh : True := hq; clear hh hq)))))
        | (refine wpcall_pure rfl (hcb) ?_; simp [hk1]; (try (refine gen fun q hq => ?_; cases q <;> (try simp [hk1] at hq) <;> (try (have hh : True := hq; clear hh hq)))))
        | (refine T.ret (Done.val (Or.inr rfl) ?_) <;> simp [resAs, Tryz.results236] <;> omega)
        | refine T.rs (fun _ => false) fun K hK => ?_
        | refine T.cond rfl (fun hcnd => ?_) (fun hcnd => absurd hcnd (by decide))
        | refine T.seq ?_
    by_cases hk2 : b.kind = 1
    · rw [show meetTy a b = a by rw [meetTy_def, if_neg hk1, if_pos hk2]]
      refine ACalls.of_body Tryz.func236 (by kernel_rfl) rfl (by kernel_rfl) (by simp [Tryz.ntmps236]) (by simp) ?_
      rw [Tryz.ntmps236]
      repeat' first
        | ((first | refine aops_end (hK _ ?_)); clear hK K)
        | ((first | refine aops_go ?_); simp [hk1, hk2]; (try (refine gen fun q hq => ?_; cases q <;> (try simp [hk1, hk2] at hq) <;> (try (have hh : True := hq; clear hh hq)))))
        | (refine wpcall_pure ?_ (hca) ?_; (focus (solve | simp [hk1, hk2])); simp [hk1, hk2]; (try (refine gen fun q hq => ?_; cases q <;> (try simp [hk1, hk2] at hq) <;> (try (have hh : True := hq; clear hh hq)))))
        | (refine T.ret (Done.val (Or.inr rfl) ?_) <;> simp [resAs, Tryz.results236] <;> omega)
        | refine T.rs (fun _ => false) fun K hK => ?_
        | refine T.cond rfl (fun hcnd => ?_) (fun hcnd => absurd hcnd (by decide))
        | refine T.cond rfl (fun hcnd => absurd hcnd (by decide)) (fun hcnd => ?_)
        | refine T.seq ?_
        | refine T.skip ?_
    obtain ⟨hk, hq⟩ := consTy_kind hcon hk1 hk2
    have hlm := all2_len hq
    rw [show meetTy a b = .mk a.kind (List.zipWith meetTy a.kids b.kids) by rw [meetTy_def, if_neg hk1, if_neg hk2]]
    refine ACalls.of_body Tryz.func236 (by kernel_rfl) rfl (by kernel_rfl) (by simp [Tryz.ntmps236]) (by simp) ?_
    rw [Tryz.ntmps236]
    repeat' first
      | ((first | refine aops_end (hK _ ?_)); clear hK K)
      | ((first | refine aops_go ?_); simp [hk1, hk2]; (try (refine gen fun q hq => ?_; cases q <;> (try simp [hk1, hk2] at hq) <;> (try (have hh : True := hq; clear hh hq)))))
      | refine T.rs (fun _ => false) fun K hK => ?_
      | refine T.cond rfl (fun hcnd => absurd hcnd (by decide)) (fun hcnd => ?_)
      | refine T.seq ?_
      | refine T.block ?_
      | refine T.skip ?_
    refine T.ownifyObj 3 1 2 25 (row := [.d (.i a.kind), .nil]) (by simp) (by simp) ?_
    refine T.loopF (fun p : Nat => ⟨[(2, .c (.ptr 0 0)), (3, .c (.ptr 1 0)), (4, .c (.ptr 2 0)), (5, .c (.ptr 3 0)), (6, .i p)], [(aTy a).cells, (aTy b).cells, [.d (.i 0), .nil], [.d (.i a.kind), .own 0 p]], [{ sz := 2, ety := 25, rows := ((List.zipWith meetTy a.kids b.kids).take p).map eTy, wr := true }]⟩) (fun p => a.kids.length + 1 - p) (fun p => p ≤ a.kids.length) (fun p hi => ?_) 0 (by simp) (by simp)
    have hzl : (List.zipWith meetTy a.kids b.kids).length = a.kids.length := by simp [hlm]
    by_cases hlt : p < a.kids.length
    · obtain ⟨u, ht⟩ := get_lt hlt
      have htm : u ∈ a.kids := List.mem_of_getElem? ht
      have hgt : a.kids[p] = u := by rw [List.getElem?_eq_getElem hlt] at ht; exact Option.some.inj ht
      have hdr : a.kids.drop p = u :: a.kids.drop (p + 1) := by rw [List.drop_eq_getElem_cons hlt, hgt]
      have hlt2 : p < b.kids.length := by omega
      obtain ⟨v, hv⟩ := get_lt hlt2
      have hvm : v ∈ b.kids := List.mem_of_getElem? hv
      have hgv : b.kids[p] = v := by rw [List.getElem?_eq_getElem hlt2] at hv; exact Option.some.inj hv
      have hu := ih u htm v (by have := nTyS_mem htm; omega) (by have := nTyS_mem hvm; omega) (all2_at hq ht hv)
      have hz : (List.zipWith meetTy a.kids b.kids)[p]? = some (meetTy u v) := by rw [List.getElem?_zipWith, ht, hv]
      have htk : (List.zipWith meetTy a.kids b.kids).take (p + 1) = (List.zipWith meetTy a.kids b.kids).take p ++ [meetTy u v] := by rw [List.take_add_one, hz]; rfl
      have hmin : min p a.kids.length = p := by omega
      have hmin2 : min p b.kids.length = p := by omega
      generalize hZ : List.zipWith meetTy a.kids b.kids = Z at *
      have hmin3 : min p Z.length = p := by omega
      generalize meetTy u v = mm at *
      repeat' first
        | ((first | refine aops_end (hK _ ?_) | refine aopsD_end (hK _ ?_)); clear hK K)
        | ((first | refine aops_go ?_ | refine aopsD_go ?_); simp [hlt, hgt, hlt2, hgv, hmin3]; (try simp (disch := omega) only [wrap64]); (try (refine gen fun q hq => ?_; cases q <;> (try simp [hlt, hgt, hlt2, hgv, hmin3] at hq) <;> (try (have hh : True := hq; clear hh hq)))))
        | (refine wpcall_pure rfl (hu) ?_; simp [hlt, hgt, hlt2, hgv, hmin3]; (try simp (disch := omega) only [wrap64]); (try (refine gen fun q hq => ?_; cases q <;> (try simp [hlt, hgt, hlt2, hgv, hmin3] at hq) <;> (try (have hh : True := hq; clear hh hq)))))
        | (refine ⟨by omega, by omega, ?_⟩)
        | (refine ⟨p + 1, by dsimp only; omega, by omega, ?_, ?_, ?_⟩ <;> simp (disch := omega) [wrap64, htk, eTy_def, hmin3])
        | refine T.rd1 (id := 9) mixed (fun _ => false) [14, 16] (by kernel_rfl) fun K hK => ?_
        | refine T.rs (fun _ => false) fun K hK => ?_
        | refine T.rs1 (fun _ => false) fun K hK => ?_
        | refine T.cond rfl (fun hcnd => ?_) (fun hcnd => absurd hcnd (by decide))
        | refine T.seq ?_
        | refine T.block ?_
        | refine T.skip ?_
    · have hp' : p = a.kids.length := by omega
      subst hp'
      rw [List.take_of_length_le (by omega)]
      generalize hZ : List.zipWith meetTy a.kids b.kids = Z at *
      repeat' first
        | ((first | refine aops_end (hK _ ?_)); clear hK K)
        | ((first | refine aops_go ?_); simp [hlt]; (try (refine gen fun q hq => ?_; cases q <;> (try simp [hlt] at hq) <;> (try (have hh : True := hq; clear hh hq)))))
        | (refine T.ret (Done.val (Or.inr rfl) ?_) <;> simp [resAs, Tryz.results236, hzl, eTy_def] <;> omega)
        | refine T.rs (fun _ => false) fun K hK => ?_
        | refine T.cond rfl (fun hcnd => absurd hcnd (by decide)) (fun hcnd => ?_)
        | refine T.seq ?_
        | refine T.exit ?_

theorem l3Sure_ok (t : MTy) (ok : Bool) : ACalls Tryz.prog 155 [aTy t, .b ok] [] (.tup [aTy (if ok = true then t else zeroT), .b ok]) [] [] := by
  cases ok
  · refine ACalls.of_body Tryz.func155 (by kernel_rfl) rfl (by kernel_rfl) (by simp [Tryz.ntmps155]) (by simp) ?_
    rw [Tryz.ntmps155]
    repeat' first
      | ((first | refine aops_end (hK _ ?_)); clear hK K)
      | ((first | refine aops_go ?_); simp; (try (refine gen fun q hq => ?_; cases q <;> (try simp at hq) <;> (try (have hh : True := hq; clear hh hq)))))
      | (refine T.ret (Done.tup (Or.inr rfl) ?_) <;> simp [resAs, Tryz.results155] <;> omega)
      | refine T.rs (fun _ => false) fun K hK => ?_
      | refine T.cond rfl (fun hcnd => ?_) (fun hcnd => absurd hcnd (by decide))
      | refine T.seq ?_
  · refine ACalls.of_body Tryz.func155 (by kernel_rfl) rfl (by kernel_rfl) (by simp [Tryz.ntmps155]) (by simp) ?_
    rw [Tryz.ntmps155]
    repeat' first
      | ((first | refine aops_end (hK _ ?_)); clear hK K)
      | ((first | refine aops_go ?_); simp; (try (refine gen fun q hq => ?_; cases q <;> (try simp at hq) <;> (try (have hh : True := hq; clear hh hq)))))
      | (refine T.ret (Done.tup (Or.inr rfl) ?_) <;> simp [resAs, Tryz.results155] <;> omega)
      | refine T.rs (fun _ => false) fun K hK => ?_
      | refine T.cond rfl (fun hcnd => absurd hcnd (by decide)) (fun hcnd => ?_)
      | refine T.seq ?_
      | refine T.skip ?_

theorem l3Match_ok (k : Int) (t : MTy) (hn : nTy t ≤ 1099511627776) (hl : t.kind = k → 2 ≤ t.kids.length) :
    ACalls Tryz.prog 220 [.i k, aTy t] [] (.tup (match matchM k t with | some (a, b) => [aTy a, aTy b, .b true] | none => [aTy zeroT, aTy zeroT, .b false])) [] [] := by
  have hany := l1Any_ok
  simp only [matchM]
  by_cases hk1 : t.kind = 1
  · rw [if_pos hk1]
    dsimp only
    refine ACalls.of_body Tryz.func220 (by kernel_rfl) rfl (by kernel_rfl) (by simp [Tryz.ntmps220]) (by simp) ?_
    rw [Tryz.ntmps220]
    repeat' first
      | ((first | refine aops_end (hK _ ?_)); clear hK K)
      | ((first | refine aops_go ?_); simp [hk1]; (try (refine gen fun q hq => ?_; cases q <;> (try simp [hk1] at hq) <;> (try (have hh : True := hq; clear hh hq)))))
      | (refine wpcall_pure rfl (hany) ?_; simp [hk1]; (try (refine gen fun q hq => ?_; cases q <;> (try simp [hk1] at hq) <;> (try (have hh : True := hq; clear hh hq)))))
      | (refine T.ret (Done.tup (Or.inr rfl) ?_) <;> simp [resAs, Tryz.results220] <;> omega)
      | refine T.rs (fun _ => false) fun K hK => ?_
      | refine T.cond rfl (fun hcnd => ?_) (fun hcnd => absurd hcnd (by decide))
      | refine T.seq ?_
  rw [if_neg hk1]
  by_cases hk : t.kind = k
  rotate_left
  · rw [if_neg hk]
    dsimp only
    refine ACalls.of_body Tryz.func220 (by kernel_rfl) rfl (by kernel_rfl) (by simp [Tryz.ntmps220]) (by simp) ?_
    rw [Tryz.ntmps220]
    repeat' first
      | ((first | refine aops_end (hK _ ?_)); clear hK K)
      | ((first | refine aops_go ?_); simp [hk1, hk]; (try (refine gen fun q hq => ?_; cases q <;> (try simp [hk1, hk] at hq) <;> (try (have hh : True := hq; clear hh hq)))))
      | (refine T.ret (Done.tup (Or.inr rfl) ?_) <;> simp [resAs, Tryz.results220] <;> omega)
      | refine T.rs (fun _ => false) fun K hK => ?_
      | refine T.cond rfl (fun hcnd => ?_) (fun hcnd => absurd hcnd (by decide))
      | refine T.cond rfl (fun hcnd => absurd hcnd (by decide)) (fun hcnd => ?_)
      | refine T.seq ?_
      | refine T.skip ?_
  rw [if_pos hk]
  have hl2 := hl hk
  match hkd : t.kids, hl2 with
  | a :: b :: r, _ =>
    dsimp only
    rw [nTy_def, hkd] at hn
    have hk1' : ¬ k = 1 := by rw [← hk]; exact hk1
    have ha := l1Copy_ok a (by simp [nTyS] at hn; omega)
    have hb := l1Copy_ok b (by simp [nTyS] at hn; omega)
    refine ACalls.of_body Tryz.func220 (by kernel_rfl) rfl (by kernel_rfl) (by simp [Tryz.ntmps220]) (by simp) ?_
    rw [Tryz.ntmps220]
    repeat' first
      | ((first | refine aops_end (hK _ ?_) | refine aopsD_end (hK _ ?_)); clear hK K)
      | ((first | refine aops_go ?_ | refine aopsD_go ?_); simp [hk1', hk, hkd]; (try (refine gen fun q hq => ?_; cases q <;> (try simp [hk1', hk, hkd] at hq) <;> (try (have hh : True := hq; clear hh hq)))))
      | (refine wpcall_pure rfl (ha) ?_; simp [hk1', hk, hkd]; (try (refine gen fun q hq => ?_; cases q <;> (try simp [hk1', hk, hkd] at hq) <;> (try (have hh : True := hq; clear hh hq)))))
      | (refine wpcall_pure rfl (hb) ?_; simp [hk1', hk, hkd]; (try (refine gen fun q hq => ?_; cases q <;> (try simp [hk1', hk, hkd] at hq) <;> (try (have hh : True := hq; clear hh hq)))))
      | (refine T.ret (Done.tup (Or.inr rfl) ?_) <;> simp [resAs, Tryz.results220] <;> omega)
      | refine T.rd (id := 5) mixed (fun _ => false) [10, 11] (by kernel_rfl) fun K hK => ?_
      | refine T.rs (fun _ => false) fun K hK => ?_
      | refine T.cond rfl (fun hcnd => absurd hcnd (by decide)) (fun hcnd => ?_)
      | refine T.seq ?_
      | refine T.skip ?_

theorem l3Two_ok (k : Int) (a b : MTy) (ha : nTy a ≤ 549755813888) (hb : nTy b ≤ 549755813885) :
    ACalls Tryz.prog 200 [.i k, aTy a, aTy b] [] (.tup [aTy (.mk k [a, b]), .b (shapeTy 4 (.mk k [a, b]))]) [] [] := by
  have hca := l1Copy_ok a (by omega)
  have hcb := l1Copy_ok b (by omega)
  have hv := TypeValidS_ok (.mk k [a, b]) (by rw [nTy_def]; simp [nTyS]; omega)
  generalize shapeTy 4 (.mk k [a, b]) = ok at *
  refine ACalls.of_body Tryz.func200 (by kernel_rfl) rfl (by kernel_rfl) (by simp [Tryz.ntmps200]) (by simp) ?_
  rw [Tryz.ntmps200]
  repeat' first
    | ((first | refine aops_end (hK _ ?_) | refine aopsD_end (hK _ ?_) | refine aopsF_end (hK _ ?_)); clear hK K)
    | ((first | refine aops_go ?_ | refine aopsD_go ?_ | refine aopsF_go ?_); simp)
    | (refine wpcall_pure rfl (hca) ?_; simp)
    | (refine wpcall_pure rfl (hcb) ?_; simp)
    | (refine wpcall_pure ?_ (hv) ?_; (focus (solve | simp)); simp)
    | (refine T.ret (Done.tup (Or.inr rfl) ?_) <;> simp [resAs, Tryz.results200, eTy_def] <;> omega)
    | refine T.rdF (id := 1) mixed (fun _ => false) [7, 8] [1, 2, 3, 4, 5, 6] 8 [] (by kernel_rfl) fun K hK => ?_
    | (refine ⟨?_, ?_⟩; (focus (intros; refine wpcall_pure rfl (hca) ?_; simp; done)))
    | (refine ⟨?_, ?_⟩; (focus (intros; refine wpcall_pure rfl (hcb) ?_; simp; done)))
    | refine T.rd (id := 2) mixed (fun _ => false) [3] (by kernel_rfl) fun K hK => ?_
    | refine T.rs (fun _ => false) fun K hK => ?_
end Go.Proofs.YtfdknjjnifnobaaGreat

namespace Go.Proofs.YtfdknjjnifnobaaGreat
attribute [-simp] Go.Av.keepL Go.Av.ups Go.Av.take_app_len Go.Av.innVs Go.Av.putBack Go.Av.objCells Go.Av.back Go.Av.resVs Go.Av.one
open Go Go.Av
attribute [local irreducible] T ACalls eTy eTm MTy.kind MTy.kids MTm.kind MTm.name MTm.num MTm.ty MTm.fr MTm.label MTm.kids
attribute [local simp] eTy_def eTm_def
set_option linter.unusedSimpArgs false
set_option linter.unusedVariables false
set_option maxHeartbeats 4000000

@[simp] theorem td_bindS : td Tryz.prog 99 = some { ag := false, sz := 1, by_ := 24, zero := some [.nil], el := some 102, ar := none, fl := [], ik := none, isS := false, isB := false } := keep (by kernel_rfl)
@[simp] theorem td_bind : td Tryz.prog 102 = some { ag := true, sz := 3, by_ := 48, zero := some [.d (.str []), .d (.int .i64 0), .nil], el := none, ar := none, fl := [(0, 1), (1, 2)], ik := none, isS := false, isB := false } := keep (by kernel_rfl)

theorem l3Look_ok (ctx : List MBd) (s : List UInt8) (hl : ctx.length ≤ 1099511627776) (hn : ∀ b ∈ ctx, nTy b.ty ≤ 1099511627776) :
    ACalls Tryz.prog 127 [.l (ctx.map eBd), .s s] [] (.tup (match lookM ctx s with | some t => [aTy t, .b true] | none => [aTy zeroT, .b false])) [] [] := by
  have hlook : ∀ p, p < ctx.length → lookM (ctx.take (p + 1)) s = if (ctx[p]?.map MBd.name) = some s then ctx[p]?.map MBd.ty else lookM (ctx.take p) s := by
    have happ : ∀ (l : List MBd) (b : MBd), lookM (l ++ [b]) s = if b.name = s then some b.ty else lookM l s := by
      intro l
      induction l with
      | nil => intro b; simp [lookM]
      | cons x r ih =>
        intro b
        simp only [List.cons_append, lookM, ih b]
        by_cases hb : b.name = s
        · simp [hb]
        · simp [hb]
    intro p hp
    rw [List.take_add_one, List.getElem?_eq_getElem hp]
    simp only [Option.toList_some, happ, Option.map_some, Option.some.injEq]
  refine ACalls.of_body Tryz.func127 (by kernel_rfl) rfl (by kernel_rfl) (by simp [Tryz.ntmps127]) (by simp) ?_
  rw [Tryz.ntmps127]
  repeat' first
    | ((first | refine aops_end (hK _ ?_)); clear hK K)
    | ((first | refine aops_go ?_); simp; (try simp (disch := omega) only [wrap64]); (try (refine gen fun q hq => ?_; cases q <;> (try simp at hq) <;> (try (have hh : True := hq; clear hh hq)))))
    | refine T.rs (fun _ => false) fun K hK => ?_
    | refine T.seq ?_
    | refine T.block ?_
  obtain ⟨R, hR⟩ : ∃ R, lookM ctx s = R := ⟨_, rfl⟩
  rw [hR]
  refine T.loopF (fun p : Nat => ⟨[(0, .l (ctx.map eBd)), (1, .s s), (4, .c (.ptr 0 0)), (6, .i ((p : Int) - 1))], [[.d (.i 0), .nil]], []⟩) (fun p => p) (fun p => p ≤ ctx.length ∧ lookM (ctx.take p) s = R) (fun p hp => ?_) ctx.length (by simpa using hR) (by simp)
  obtain ⟨hi, he⟩ := hp
  cases p with
  | zero =>
    simp [lookM] at he
    subst he
    repeat' first
      | ((first | refine aops_end (hK _ ?_)); clear hK K)
      | ((first | refine aops_go ?_); simp; (try (refine gen fun q hq => ?_; cases q <;> (try simp at hq) <;> (try (have hh : True := hq; clear hh hq)))))
      | (refine T.ret (Done.tup (Or.inr rfl) ?_) <;> simp [resAs, Tryz.results127] <;> omega)
      | refine T.rs (fun _ => false) fun K hK => ?_
      | refine T.cond rfl (fun hcnd => absurd hcnd (by decide)) (fun hcnd => ?_)
      | refine T.seq ?_
      | refine T.exit ?_
  | succ p =>
    rw [hlook p (by omega)] at he
    have hlt : p < ctx.length := by omega
    obtain ⟨b, ht⟩ := get_lt hlt
    have htm : b ∈ ctx := List.mem_of_getElem? ht
    have hgt : ctx[p] = b := by rw [List.getElem?_eq_getElem hlt] at ht; exact Option.some.inj ht
    have hge : (0 : Int) ≤ (p : Int) + 1 - 1 := by omega
    have hpp : ((p : Int) + 1 - 1) = p := by omega
    have hcp := l1Copy_ok b.ty (hn b htm)
    rw [ht] at he
    by_cases hb : b.name = s
    · simp [hb] at he
      subst he
      repeat' first
        | ((first | refine aops_end (hK _ ?_)); clear hK K)
        | ((first | refine aops_go ?_); simp [hlt, hgt, hge, hpp, hb, eBd]; (try simp (disch := omega) only [wrap64]); (try (refine gen fun q hq => ?_; cases q <;> (try simp [hlt, hgt, hge, hpp, hb, eBd] at hq) <;> (try (have hh : True := hq; clear hh hq)))))
        | (refine wpcall_pure rfl (hcp) ?_; simp [hlt, hgt, hge, hpp, hb, eBd]; (try simp (disch := omega) only [wrap64]); (try (refine gen fun q hq => ?_; cases q <;> (try simp [hlt, hgt, hge, hpp, hb, eBd] at hq) <;> (try (have hh : True := hq; clear hh hq)))))
        | (refine T.ret (Done.tup (Or.inr rfl) ?_) <;> simp [resAs, Tryz.results127] <;> omega)
        | refine T.rs (fun _ => false) fun K hK => ?_
        | refine T.cond rfl (fun hcnd => ?_) (fun hcnd => absurd hcnd (by decide))
        | refine T.seq ?_
        | refine T.block ?_
        | refine T.skip ?_
    · simp [hb] at he
      repeat' first
        | ((first | refine aops_end (hK _ ?_)); clear hK K)
        | ((first | refine aops_go ?_); simp [hlt, hgt, hge, hpp, hb, eBd]; (try simp (disch := omega) only [wrap64]); (try (refine gen fun q hq => ?_; cases q <;> (try simp [hlt, hgt, hge, hpp, hb, eBd] at hq) <;> (try (have hh : True := hq; clear hh hq)))))
        | (refine ⟨p, by dsimp only; omega, ⟨by omega, he⟩, rfl, rfl, ?_⟩; simp (disch := omega) [wrap64])
        | refine T.rs (fun _ => false) fun K hK => ?_
        | refine T.rs1 (fun _ => false) fun K hK => ?_
        | refine T.cond rfl (fun hcnd => ?_) (fun hcnd => absurd hcnd (by decide))
        | refine T.cond rfl (fun hcnd => absurd hcnd (by decide)) (fun hcnd => ?_)
        | refine T.seq ?_
        | refine T.block ?_
        | refine T.skip ?_

theorem l3More_ok (ctx : List MBd) (s : List UInt8) (t : MTy) (hl : ctx.length ≤ 1099511627776) :
    ACalls Tryz.prog 182 [.l (ctx.map eBd), .s s, aTy t] [] (.l ((ctx ++ [MBd.mk s t]).map eBd)) [] [] := by
  refine ACalls.of_body Tryz.func182 (by kernel_rfl) rfl (by kernel_rfl) (by simp [Tryz.ntmps182]) (by simp) ?_
  rw [Tryz.ntmps182]
  repeat' first
    | ((first | refine aops_end (hK _ ?_) | refine aopsF_end (hK _ ?_)); clear hK K)
    | ((first | refine aops_go ?_ | refine aopsF_go ?_); simp [eBd]; (try (refine gen fun q hq => ?_; cases q <;> (try simp [eBd] at hq) <;> (try (have hh : True := hq; clear hh hq)))))
    | (refine ⟨by omega, by omega, ?_⟩)
    | (refine T.ret (Done.val (Or.inr rfl) ?_) <;> simp [resAs, Tryz.results182, eBd] <;> omega)
    | refine T.rdF (id := 1) mixed (fun i => i == 0) [0, 2, 7] [4, 5, 6] 3 [] (by kernel_rfl) fun K hK => ?_
    | refine T.rs (id := 0) (fun _ => false) fun K hK => ?_

theorem CtxValidS_ok (ctx : List MBd) (hl : ctx.length ≤ 1099511627776) (hn : ∀ b ∈ ctx, nTy b.ty ≤ 1099511627776) : ACalls Tryz.prog 154 [.l (ctx.map eBd)] [] (.b (ctxM ctx)) [] [] := by
  simp only [ctxM]
  obtain ⟨R, hR⟩ : ∃ R, ctx.all (fun b => nameM b.name && shapeTy 4 b.ty) = R := ⟨_, rfl⟩
  rw [hR]
  refine ACalls.of_body Tryz.func154 (by kernel_rfl) rfl (by kernel_rfl) (by simp [Tryz.ntmps154]) (by simp) ?_
  rw [Tryz.ntmps154]
  repeat' first
    | ((first | refine aops_end (hK _ ?_)); clear hK K)
    | ((first | refine aops_go ?_); simp; (try (refine gen fun q hq => ?_; cases q <;> (try simp at hq) <;> (try (have hh : True := hq; clear hh hq)))))
    | refine T.rs (fun _ => false) fun K hK => ?_
    | refine T.seq ?_
    | refine T.block ?_
  refine T.loopF (fun p : Nat => ⟨[(0, .l (ctx.map eBd)), (3, .i p)], [], []⟩) (fun p => ctx.length + 1 - p) (fun p => p ≤ ctx.length ∧ (ctx.drop p).all (fun b => nameM b.name && shapeTy 4 b.ty) = R) (fun p hp => ?_) 0 (by simpa using hR) (by simp)
  obtain ⟨hi, he⟩ := hp
  by_cases hlt : p < ctx.length
  · obtain ⟨b, ht⟩ := get_lt hlt
    have htm : b ∈ ctx := List.mem_of_getElem? ht
    have hgt : ctx[p] = b := by rw [List.getElem?_eq_getElem hlt] at ht; exact Option.some.inj ht
    have hdr : ctx.drop p = b :: ctx.drop (p + 1) := by rw [List.drop_eq_getElem_cons hlt, hgt]
    have h1 := l2Name_ok b.name
    have h2 := TypeValidS_ok b.ty (hn b htm)
    rw [hdr, List.all_cons] at he
    cases hb1 : nameM b.name <;> rw [hb1] at h1 he
    · repeat' first
        | ((first | refine aops_end (hK _ ?_)); clear hK K)
        | ((first | refine aops_go ?_); simp [hlt, hgt, eBd]; (try simp (disch := omega) only [wrap64]); (try (refine gen fun q hq => ?_; cases q <;> (try simp [hlt, hgt, eBd] at hq) <;> (try (have hh : True := hq; clear hh hq)))))
        | (refine wpcall_pure rfl (h1) ?_; simp [hlt, hgt, eBd]; (try simp (disch := omega) only [wrap64]); (try (refine gen fun q hq => ?_; cases q <;> (try simp [hlt, hgt, eBd] at hq) <;> (try (have hh : True := hq; clear hh hq)))))
        | (refine T.ret (Done.data (Or.inr rfl) ?_ ?_) <;> simp [Tryz.results154, ← he] <;> omega)
        | refine T.rs (fun _ => false) fun K hK => ?_
        | refine T.cond rfl (fun hcnd => ?_) (fun hcnd => absurd hcnd (by decide))
        | refine T.seq ?_
        | refine T.block ?_
        | refine T.skip ?_
    · cases hb2 : shapeTy 4 b.ty <;> rw [hb2] at h2 he
      · repeat' first
          | ((first | refine aops_end (hK _ ?_)); clear hK K)
          | ((first | refine aops_go ?_); simp [hlt, hgt, eBd]; (try simp (disch := omega) only [wrap64]); (try (refine gen fun q hq => ?_; cases q <;> (try simp [hlt, hgt, eBd] at hq) <;> (try (have hh : True := hq; clear hh hq)))))
          | (refine wpcall_pure rfl (h1) ?_; simp [hlt, hgt, eBd]; (try simp (disch := omega) only [wrap64]); (try (refine gen fun q hq => ?_; cases q <;> (try simp [hlt, hgt, eBd] at hq) <;> (try (have hh : True := hq; clear hh hq)))))
          | (refine wpcall_pure rfl (h2) ?_; simp [hlt, hgt, eBd]; (try simp (disch := omega) only [wrap64]); (try (refine gen fun q hq => ?_; cases q <;> (try simp [hlt, hgt, eBd] at hq) <;> (try (have hh : True := hq; clear hh hq)))))
          | (refine T.ret (Done.data (Or.inr rfl) ?_ ?_) <;> simp [Tryz.results154, ← he] <;> omega)
          | refine T.rs (fun _ => false) fun K hK => ?_
          | refine T.cond rfl (fun hcnd => ?_) (fun hcnd => absurd hcnd (by decide))
          | refine T.seq ?_
          | refine T.block ?_
          | refine T.skip ?_
      · repeat' first
          | ((first | refine aops_end (hK _ ?_)); clear hK K)
          | ((first | refine aops_go ?_); simp [hlt, hgt, eBd]; (try simp (disch := omega) only [wrap64]); (try (refine gen fun q hq => ?_; cases q <;> (try simp [hlt, hgt, eBd] at hq) <;> (try (have hh : True := hq; clear hh hq)))))
          | (refine wpcall_pure rfl (h1) ?_; simp [hlt, hgt, eBd]; (try simp (disch := omega) only [wrap64]); (try (refine gen fun q hq => ?_; cases q <;> (try simp [hlt, hgt, eBd] at hq) <;> (try (have hh : True := hq; clear hh hq)))))
          | (refine wpcall_pure rfl (h2) ?_; simp [hlt, hgt, eBd]; (try simp (disch := omega) only [wrap64]); (try (refine gen fun q hq => ?_; cases q <;> (try simp [hlt, hgt, eBd] at hq) <;> (try (have hh : True := hq; clear hh hq)))))
          | (refine ⟨p + 1, by dsimp only; omega, ⟨by omega, by simpa using he⟩, rfl, rfl, ?_⟩; simp (disch := omega) [wrap64])
          | refine T.rs (fun _ => false) fun K hK => ?_
          | refine T.rs1 (fun _ => false) fun K hK => ?_
          | refine T.cond rfl (fun hcnd => ?_) (fun hcnd => absurd hcnd (by decide))
          | refine T.cond rfl (fun hcnd => absurd hcnd (by decide)) (fun hcnd => ?_)
          | refine T.seq ?_
          | refine T.block ?_
          | refine T.skip ?_
  · have hp' : p = ctx.length := by omega
    subst hp'
    simp at he
    subst he
    repeat' first
      | ((first | refine aops_end (hK _ ?_)); clear hK K)
      | ((first | refine aops_go ?_); simp [hlt]; (try (refine gen fun q hq => ?_; cases q <;> (try simp [hlt] at hq) <;> (try (have hh : True := hq; clear hh hq)))))
      | (refine T.ret (Done.data (Or.inr rfl) ?_ ?_) <;> simp [Tryz.results154, *] <;> omega)
      | refine T.rs (fun _ => false) fun K hK => ?_
      | refine T.cond rfl (fun hcnd => absurd hcnd (by decide)) (fun hcnd => ?_)
      | refine T.seq ?_
      | refine T.exit ?_
end Go.Proofs.YtfdknjjnifnobaaGreat

namespace Go.Proofs.YtfdknjjnifnobaaGreat
attribute [-simp] Go.Av.keepL Go.Av.ups Go.Av.take_app_len Go.Av.innVs Go.Av.putBack Go.Av.objCells Go.Av.back Go.Av.resVs Go.Av.one
open Go Go.Av
attribute [local irreducible] T ACalls eTy eTm MTy.kind MTy.kids MTm.kind MTm.name MTm.num MTm.ty MTm.fr MTm.label MTm.kids
attribute [local simp] eTy_def eTm_def
set_option linter.unusedSimpArgs false
set_option linter.unusedVariables false
set_option maxHeartbeats 4000000

theorem shape_nTy : ∀ (d : Nat) (t : MTy), shapeTy d t = true → nTy t + 2 ≤ 2 ^ d
  | 0, t, h => by simp [shapeTy] at h
  | d + 1, t, h => by
    obtain ⟨e, he, _, hl, hs⟩ := shapeTy_kids h
    obtain rfl : d = e := by omega
    rw [nTy_def]
    have hp : 1 ≤ 2 ^ d := Nat.one_le_two_pow
    have hpow : 2 ^ (d + 1) = 2 * 2 ^ d := by rw [Nat.pow_succ]; omega
    match hk : t.kids, hl with
    | [], _ => simp [nTyS]; omega
    | [a], _ => have := shape_nTy d a (hs a (by simp [hk])); simp [nTyS]; omega
    | [a, b], _ =>
      have h1 := shape_nTy d a (hs a (by simp [hk]))
      have h2 := shape_nTy d b (hs b (by simp [hk]))
      simp [nTyS]; omega

theorem shape4 {t : MTy} (h : shapeTy 4 t = true) : nTy t ≤ 14 := by have := shape_nTy 4 t h; omega

theorem shape_two {k : Int} {t : MTy} (hk : k = 4 ∨ k = 5) (h : shapeTy 4 t = true) : t.kind = k → 2 ≤ t.kids.length := by
  intro he
  obtain ⟨_, _, hl, _, _⟩ := shapeTy_kids h
  rw [he] at hl
  rcases hk with rfl | rfl <;> simp [tyKids] at hl <;> omega

theorem l2Shape_ok : ∀ (d : Nat) (e : MTm), d ≤ 1000 → nTm e ≤ 1099511627776 → ACalls Tryz.prog 137 [aTm e, .i d] [] (.b (shapeTm 14 d e)) [] []
  | 0, e, _, _ => by
    refine ACalls.of_body Tryz.func137 (by kernel_rfl) rfl (by kernel_rfl) (by simp [Tryz.ntmps137]) (by simp) ?_
    rw [Tryz.ntmps137]
    repeat' first
      | ((first | refine aops_end (hK _ ?_) | refine aopsD_end (hK _ ?_)); clear hK K)
      | ((first | refine aops_go ?_ | refine aopsD_go ?_); simp; (try (refine gen fun q hq => ?_; cases q <;> (try simp at hq) <;> (try (have hh : True := hq; clear hh hq)))))
      | (refine T.ret (Done.data (Or.inr rfl) ?_ ?_) <;> simp [Tryz.results137, shapeTm] <;> omega)
      | refine T.rd (id := 1) mixed (fun _ => false) [] (by kernel_rfl) fun K hK => ?_
      | refine T.rs (fun _ => false) fun K hK => ?_
      | refine T.cond rfl (fun hcnd => ?_) (fun hcnd => absurd hcnd (by decide))
      | refine T.seq ?_
  | d + 1, e, hd, hn => by
    obtain ⟨hnt, hnf, hnk, hnu⟩ := nTm_parts hn
    have hkids := l2Kids_ok e.kind
    have hd1 : ¬ ((d : Int) + 1 < 1) := by omega
    have hsh : shapeTm 14 (d + 1) e = (decide (e.kind ≠ 14) && (decide (kidsM e.kind = e.kids.length) && ownM e) && e.kids.all (shapeTm 14 d)) := rfl
    by_cases hk14 : e.kind = 14
    · rw [hk14] at hkids
      rw [show shapeTm 14 (d + 1) e = false by rw [hsh]; simp [hk14]]
      refine ACalls.of_body Tryz.func137 (by kernel_rfl) rfl (by kernel_rfl) (by simp [Tryz.ntmps137]) (by simp) ?_
      rw [Tryz.ntmps137]
      repeat' first
        | ((first | refine aops_end (hK _ ?_) | refine aopsD_end (hK _ ?_)); clear hK K)
        | ((first | refine aops_go ?_ | refine aopsD_go ?_); simp [hd1, hk14]; (try (refine gen fun q hq => ?_; cases q <;> (try simp [hd1, hk14] at hq) <;> (try (have hh : True := hq; clear hh hq)))))
        | (refine wpcall_pure rfl (hkids) ?_; simp [hd1, hk14]; (try (refine gen fun q hq => ?_; cases q <;> (try simp [hd1, hk14] at hq) <;> (try (have hh : True := hq; clear hh hq)))))
        | (refine T.ret (Done.data (Or.inr rfl) ?_ ?_) <;> simp [Tryz.results137] <;> omega)
        | refine T.rd (id := 1) mixed (fun _ => false) [] (by kernel_rfl) fun K hK => ?_
        | refine T.rs (fun _ => false) fun K hK => ?_
        | refine T.cond rfl (fun hcnd => ?_) (fun hcnd => absurd hcnd (by decide))
        | refine T.seq ?_
    by_cases hlen : kidsM e.kind = e.kids.length
    rotate_left
    · rw [show shapeTm 14 (d + 1) e = false by rw [hsh]; simp [hlen]]
      refine ACalls.of_body Tryz.func137 (by kernel_rfl) rfl (by kernel_rfl) (by simp [Tryz.ntmps137]) (by simp) ?_
      rw [Tryz.ntmps137]
      repeat' first
        | ((first | refine aops_end (hK _ ?_) | refine aopsD_end (hK _ ?_)); clear hK K)
        | ((first | refine aops_go ?_ | refine aopsD_go ?_); simp [hd1, hlen]; (try (refine gen fun q hq => ?_; cases q <;> (try simp [hd1, hlen] at hq) <;> (try (have hh : True := hq; clear hh hq)))))
        | (refine wpcall_pure rfl (hkids) ?_; simp [hd1, hlen]; (try (refine gen fun q hq => ?_; cases q <;> (try simp [hd1, hlen] at hq) <;> (try (have hh : True := hq; clear hh hq)))))
        | (refine T.ret (Done.data (Or.inr rfl) ?_ ?_) <;> simp [Tryz.results137] <;> omega)
        | refine T.rd (id := 1) mixed (fun _ => false) [] (by kernel_rfl) fun K hK => ?_
        | refine T.rs (fun _ => false) fun K hK => ?_
        | refine T.cond rfl (fun hcnd => ?_) (fun hcnd => absurd hcnd (by decide))
        | refine T.seq ?_
    rw [hlen] at hkids
    have hsh2 : shapeTm 14 (d + 1) e = (ownM e && e.kids.all (shapeTm 14 d)) := by rw [hsh]; simp [hk14, hlen]
    have hown := l2Own_ok e hk14 hnt
    obtain ⟨R, hR⟩ : ∃ R, e.kids.all (shapeTm 14 d) = R := ⟨_, rfl⟩
    rw [hsh2, hR]
    generalize ownM e = O at hown
    clear hsh hsh2
    cases O
    · refine ACalls.of_body Tryz.func137 (by kernel_rfl) rfl (by kernel_rfl) (by simp [Tryz.ntmps137]) (by simp) ?_
      rw [Tryz.ntmps137]
      repeat' first
        | ((first | refine aops_end (hK _ ?_) | refine aopsD_end (hK _ ?_)); clear hK K)
        | ((first | refine aops_go ?_ | refine aopsD_go ?_); simp [hd1, hk14]; (try (refine gen fun q hq => ?_; cases q <;> (try simp [hd1, hk14] at hq) <;> (try (have hh : True := hq; clear hh hq)))))
        | (refine wpcall_pure rfl (hkids) ?_; simp [hd1, hk14]; (try (refine gen fun q hq => ?_; cases q <;> (try simp [hd1, hk14] at hq) <;> (try (have hh : True := hq; clear hh hq)))))
        | (refine wpcall_pure rfl (hown) ?_; simp [hd1, hk14]; (try (refine gen fun q hq => ?_; cases q <;> (try simp [hd1, hk14] at hq) <;> (try (have hh : True := hq; clear hh hq)))))
        | (refine T.ret (Done.data (Or.inr rfl) ?_ ?_) <;> simp [Tryz.results137] <;> omega)
        | refine T.rd (id := 1) mixed (fun _ => false) [] (by kernel_rfl) fun K hK => ?_
        | refine T.rs (fun _ => false) fun K hK => ?_
        | refine T.cond rfl (fun hcnd => ?_) (fun hcnd => absurd hcnd (by decide))
        | refine T.seq ?_
    refine ACalls.of_body Tryz.func137 (by kernel_rfl) rfl (by kernel_rfl) (by simp [Tryz.ntmps137]) (by simp) ?_
    rw [Tryz.ntmps137]
    repeat' first
      | ((first | refine aops_end (hK _ ?_) | refine aopsD_end (hK _ ?_)); clear hK K)
      | ((first | refine aops_go ?_ | refine aopsD_go ?_); simp [hd1, hk14]; (try (refine gen fun q hq => ?_; cases q <;> (try simp [hd1, hk14] at hq) <;> (try (have hh : True := hq; clear hh hq)))))
      | (refine wpcall_pure rfl (hkids) ?_; simp [hd1, hk14]; (try (refine gen fun q hq => ?_; cases q <;> (try simp [hd1, hk14] at hq) <;> (try (have hh : True := hq; clear hh hq)))))
      | (refine wpcall_pure rfl (hown) ?_; simp [hd1, hk14]; (try (refine gen fun q hq => ?_; cases q <;> (try simp [hd1, hk14] at hq) <;> (try (have hh : True := hq; clear hh hq)))))
      | refine T.rd (id := 1) mixed (fun _ => false) [] (by kernel_rfl) fun K hK => ?_
      | refine T.rs (fun _ => false) fun K hK => ?_
      | refine T.cond rfl (fun hcnd => absurd hcnd (by decide)) (fun hcnd => ?_)
      | refine T.seq ?_
      | refine T.block ?_
      | refine T.skip ?_
    rw [Bool.true_and]
    refine T.loopF (fun p : Nat => ⟨[(1, .i (d + 1)), (2, .c (.ptr 0 0)), (5, .i p)], [(aTm e).cells], []⟩) (fun p => e.kids.length + 1 - p) (fun p => p ≤ e.kids.length ∧ (e.kids.drop p).all (shapeTm 14 d) = R) (fun p hp => ?_) 0 (by simpa using hR) (by simp)
    obtain ⟨hi, he⟩ := hp
    by_cases hlt : p < e.kids.length
    · obtain ⟨u, ht⟩ := get_lt hlt
      have htm : u ∈ e.kids := List.mem_of_getElem? ht
      have hgt : e.kids[p] = u := by rw [List.getElem?_eq_getElem hlt] at ht; exact Option.some.inj ht
      have hdr : e.kids.drop p = u :: e.kids.drop (p + 1) := by rw [List.drop_eq_getElem_cons hlt, hgt]
      have hu := l2Shape_ok d u (by omega) (hnu u htm)
      rw [hdr, List.all_cons] at he
      cases hb : shapeTm 14 d u <;> rw [hb] at hu he
      · repeat' first
          | ((first | refine aops_end (hK _ ?_)); clear hK K)
          | ((first | refine aops_go ?_); simp [hlt, hgt]; (try simp (disch := omega) only [wrap64]); (try (refine gen fun q hq => ?_; cases q <;> (try simp [hlt, hgt] at hq) <;> (try (have hh : True := hq; clear hh hq)))))
          | (refine wpcall_pure rfl (hu) ?_; simp [hlt, hgt]; (try simp (disch := omega) only [wrap64]); (try (refine gen fun q hq => ?_; cases q <;> (try simp [hlt, hgt] at hq) <;> (try (have hh : True := hq; clear hh hq)))))
          | (refine T.ret (Done.data (Or.inr rfl) ?_ ?_) <;> simp [Tryz.results137, ← he] <;> omega)
          | refine T.rs (fun _ => false) fun K hK => ?_
          | refine T.cond rfl (fun hcnd => ?_) (fun hcnd => absurd hcnd (by decide))
          | refine T.seq ?_
          | refine T.block ?_
          | refine T.skip ?_
      · repeat' first
          | ((first | refine aops_end (hK _ ?_)); clear hK K)
          | ((first | refine aops_go ?_); simp [hlt, hgt]; (try simp (disch := omega) only [wrap64]); (try (refine gen fun q hq => ?_; cases q <;> (try simp [hlt, hgt] at hq) <;> (try (have hh : True := hq; clear hh hq)))))
          | (refine wpcall_pure rfl (hu) ?_; simp [hlt, hgt]; (try simp (disch := omega) only [wrap64]); (try (refine gen fun q hq => ?_; cases q <;> (try simp [hlt, hgt] at hq) <;> (try (have hh : True := hq; clear hh hq)))))
          | (refine ⟨p + 1, by dsimp only; omega, ⟨by omega, by simpa using he⟩, rfl, rfl, ?_⟩; simp (disch := omega) [wrap64])
          | refine T.rs (fun _ => false) fun K hK => ?_
          | refine T.rs1 (fun _ => false) fun K hK => ?_
          | refine T.cond rfl (fun hcnd => ?_) (fun hcnd => absurd hcnd (by decide))
          | refine T.cond rfl (fun hcnd => absurd hcnd (by decide)) (fun hcnd => ?_)
          | refine T.seq ?_
          | refine T.block ?_
          | refine T.skip ?_
    · have hp' : p = e.kids.length := by omega
      subst hp'
      simp at he
      repeat' first
        | ((first | refine aops_end (hK _ ?_)); clear hK K)
        | ((first | refine aops_go ?_); simp [hlt]; (try (refine gen fun q hq => ?_; cases q <;> (try simp [hlt] at hq) <;> (try (have hh : True := hq; clear hh hq)))))
        | (refine T.ret (Done.data (Or.inr rfl) ?_ ?_) <;> simp [Tryz.results137, he] <;> omega)
        | refine T.rs (fun _ => false) fun K hK => ?_
        | refine T.cond rfl (fun hcnd => absurd hcnd (by decide)) (fun hcnd => ?_)
        | refine T.seq ?_
        | refine T.exit ?_

theorem TermValidS_ok (e : MTm) (hn : nTm e ≤ 1099511627776) : ACalls Tryz.prog 69 [aTm e] [] (.b (termValidM e)) [] [] := by
  have h1 := l2Shape_ok 12 e (by omega) hn
  have h2 := l2Count_ok 12 e (by omega) hn
  rw [show termValidM e = (shapeTm 14 12 e && decide (countTm 12 e ≤ 30)) from rfl]
  generalize shapeTm 14 12 e = a at *
  generalize countTm 12 e = b at *
  refine ACalls.of_body Tryz.func69 (by kernel_rfl) rfl (by kernel_rfl) (by simp [Tryz.ntmps69]) (by simp) ?_
  rw [Tryz.ntmps69]
  repeat' first
    | ((first | refine aops_end (hK _ ?_)); clear hK K)
    | ((first | refine aops_go ?_); simp; (try (refine gen fun q hq => ?_; cases q <;> (try simp at hq) <;> (try (have hh : True := hq; clear hh hq)))))
    | (refine wpcall_pure rfl (h1) ?_; simp; (try (refine gen fun q hq => ?_; cases q <;> (try simp at hq) <;> (try (have hh : True := hq; clear hh hq)))))
    | (refine wpcall_pure rfl (h2) ?_; simp; (try (refine gen fun q hq => ?_; cases q <;> (try simp at hq) <;> (try (have hh : True := hq; clear hh hq)))))
    | (refine T.ret (Done.data (Or.inr rfl) ?_ ?_) <;> simp [Tryz.results69, *] <;> omega)
    | refine T.rs (fun _ => false) fun K hK => ?_

/-- What l3Result answers. -/
def L3R (e : MTm) (ts : List MTy) (r : Option MTy) : Prop := ∃ t', (∀ t, r = some t → t' = t) ∧ ACalls Tryz.prog 201 [aTm e, .l (ts.map eTy)] [] (.tup [aTy t', .b r.isSome]) [] []

theorem l3R6 (e : MTm) (a b : MTy) (hk : e.kind = 6) (ha : shapeTy 4 a = true) (hb : shapeTy 4 b = true) :
    L3R e [a, b] (match matchM 4 a with | some (x, y) => if consTy b x = true then some y else none | none => none) := by
  have hm := l3Match_ok 4 a (by have := shape4 ha; omega) (shape_two (.inl rfl) ha)
  cases hr : matchM 4 a with
  | none =>
    rw [hr] at hm
    refine ⟨zeroT, by simp, ?_⟩
    refine ACalls.of_body Tryz.func201 (by kernel_rfl) rfl (by kernel_rfl) (by simp [Tryz.ntmps201]) (by simp) ?_
    rw [Tryz.ntmps201]
    repeat' first
      | ((first | refine aops_end (hK _ ?_) | refine aopsD_end (hK _ ?_)); clear hK K)
      | ((first | refine aops_go ?_ | refine aopsD_go ?_); simp [hk]; (try (refine gen fun q hq => ?_; cases q <;> (try simp [hk] at hq) <;> (try (have hh : True := hq; clear hh hq)))))
      | (refine wpcall_pure rfl (hm) ?_; simp [hk]; (try (refine gen fun q hq => ?_; cases q <;> (try simp [hk] at hq) <;> (try (have hh : True := hq; clear hh hq)))))
      | (refine T.ret (Done.tup (Or.inr rfl) ?_) <;> simp [resAs, Tryz.results201] <;> omega)
      | refine T.rd (id := 4) mixed (fun _ => false) [9] (by kernel_rfl) fun K hK => ?_
      | refine T.rs (fun _ => false) fun K hK => ?_
      | refine T.cond rfl (fun hcnd => ?_) (fun hcnd => absurd hcnd (by decide))
      | refine T.seq ?_
      | refine T.block ?_
  | some p =>
    obtain ⟨x, y⟩ := p
    rw [hr] at hm
    obtain ⟨hx, hy⟩ := match_shape hr ha
    have hc := l1Consistent_ok 4 b x (by omega) hb hx
    refine ⟨y, ?_, ?_⟩
    · intro t h; dsimp only at h; split at h <;> simp at h; exact h
    dsimp only at hm ⊢
    rw [show (if consTy b x = true then some y else none).isSome = consTy b x by cases consTy b x <;> rfl]
    generalize consTy b x = c at hc
    refine ACalls.of_body Tryz.func201 (by kernel_rfl) rfl (by kernel_rfl) (by simp [Tryz.ntmps201]) (by simp) ?_
    rw [Tryz.ntmps201]
    repeat' first
      | ((first | refine aops_end (hK _ ?_) | refine aopsD_end (hK _ ?_)); clear hK K)
      | ((first | refine aops_go ?_ | refine aopsD_go ?_); simp [hk]; (try (refine gen fun q hq => ?_; cases q <;> (try simp [hk] at hq) <;> (try (have hh : True := hq; clear hh hq)))))
      | (refine wpcall_pure rfl (hm) ?_; simp [hk]; (try (refine gen fun q hq => ?_; cases q <;> (try simp [hk] at hq) <;> (try (have hh : True := hq; clear hh hq)))))
      | (refine wpcall_pure rfl (hc) ?_; simp [hk]; (try (refine gen fun q hq => ?_; cases q <;> (try simp [hk] at hq) <;> (try (have hh : True := hq; clear hh hq)))))
      | (refine T.ret (Done.tup (Or.inr rfl) ?_) <;> simp [resAs, Tryz.results201, *] <;> omega)
      | refine T.rd (id := 4) mixed (fun _ => false) [9] (by kernel_rfl) fun K hK => ?_
      | refine T.rs (fun _ => false) fun K hK => ?_
      | refine T.cond rfl (fun hcnd => ?_) (fun hcnd => absurd hcnd (by decide))
      | refine T.seq ?_
      | refine T.block ?_

theorem l3R7 (e : MTm) (a b : MTy) (hk : e.kind = 7) (ha : shapeTy 4 a = true) (hb : shapeTy 4 b = true) :
    L3R e [a, b] (if consTy a intT = true ∧ consTy b intT = true then some intT else none) := by
  have hi : shapeTy 4 intT = true := by simp [shapeTy, tyKids]
  have h1 := l1Consistent_ok 4 a intT (by omega) ha hi
  have h2 := l1Consistent_ok 4 b intT (by omega) hb hi
  have h3 := l3Int_ok
  have h4 := l3Bool_ok
  refine ⟨intT, ?_, ?_⟩
  · intro t h; split at h <;> simp at h; exact h
  rw [show (if consTy a intT = true ∧ consTy b intT = true then some intT else none).isSome = (consTy a intT && consTy b intT) by cases consTy a intT <;> cases consTy b intT <;> rfl]
  generalize consTy a intT = c1 at h1 ⊢
  generalize consTy b intT = c2 at h2 ⊢
  refine ACalls.of_body Tryz.func201 (by kernel_rfl) rfl (by kernel_rfl) (by simp [Tryz.ntmps201]) (by simp) ?_
  rw [Tryz.ntmps201]
  repeat' first
    | ((first | refine aops_end (hK _ ?_) | refine aopsD_end (hK _ ?_)); clear hK K)
    | ((first | refine aops_go ?_ | refine aopsD_go ?_); simp [hk]; (try (refine gen fun q hq => ?_; cases q <;> (try simp [hk] at hq) <;> (try (have hh : True := hq; clear hh hq)))))
    | (refine wpcall_pure rfl (h3) ?_; simp [hk]; (try (refine gen fun q hq => ?_; cases q <;> (try simp [hk] at hq) <;> (try (have hh : True := hq; clear hh hq)))))
    | (refine wpcall_pure ?_ (h1) ?_; (focus (solve | simp [hk])); simp [hk]; (try (refine gen fun q hq => ?_; cases q <;> (try simp [hk] at hq) <;> (try (have hh : True := hq; clear hh hq)))))
    | (refine wpcall_pure ?_ (h2) ?_; (focus (solve | simp [hk])); simp [hk]; (try (refine gen fun q hq => ?_; cases q <;> (try simp [hk] at hq) <;> (try (have hh : True := hq; clear hh hq)))))
    | (refine T.ret (Done.tup (Or.inr rfl) ?_) <;> simp [resAs, Tryz.results201, *] <;> omega)
    | refine T.rd (id := 6) mixed (fun _ => false) [13] (by kernel_rfl) fun K hK => ?_
    | refine T.rs (fun _ => false) fun K hK => ?_
    | refine T.cond rfl (fun hcnd => ?_) (fun hcnd => absurd hcnd (by decide))
    | refine T.cond rfl (fun hcnd => absurd hcnd (by decide)) (fun hcnd => ?_)
    | refine T.seq ?_
    | refine T.block ?_

theorem l3R8 (e : MTm) (a b : MTy) (hk : e.kind = 8) (ha : shapeTy 4 a = true) (hb : shapeTy 4 b = true) :
    L3R e [a, b] (if consTy a intT = true ∧ consTy b intT = true then some boolT else none) := by
  have hi : shapeTy 4 intT = true := by simp [shapeTy, tyKids]
  have h1 := l1Consistent_ok 4 a intT (by omega) ha hi
  have h2 := l1Consistent_ok 4 b intT (by omega) hb hi
  have h3 := l3Int_ok
  have h4 := l3Bool_ok
  refine ⟨boolT, ?_, ?_⟩
  · intro t h; split at h <;> simp at h; exact h
  rw [show (if consTy a intT = true ∧ consTy b intT = true then some boolT else none).isSome = (consTy a intT && consTy b intT) by cases consTy a intT <;> cases consTy b intT <;> rfl]
  generalize consTy a intT = c1 at h1 ⊢
  generalize consTy b intT = c2 at h2 ⊢
  refine ACalls.of_body Tryz.func201 (by kernel_rfl) rfl (by kernel_rfl) (by simp [Tryz.ntmps201]) (by simp) ?_
  rw [Tryz.ntmps201]
  repeat' first
    | ((first | refine aops_end (hK _ ?_) | refine aopsD_end (hK _ ?_)); clear hK K)
    | ((first | refine aops_go ?_ | refine aopsD_go ?_); simp [hk]; (try (refine gen fun q hq => ?_; cases q <;> (try simp [hk] at hq) <;> (try (have hh : True := hq; clear hh hq)))))
    | (refine wpcall_pure rfl (h3) ?_; simp [hk]; (try (refine gen fun q hq => ?_; cases q <;> (try simp [hk] at hq) <;> (try (have hh : True := hq; clear hh hq)))))
    | (refine wpcall_pure rfl (h4) ?_; simp [hk]; (try (refine gen fun q hq => ?_; cases q <;> (try simp [hk] at hq) <;> (try (have hh : True := hq; clear hh hq)))))
    | (refine wpcall_pure ?_ (h1) ?_; (focus (solve | simp [hk])); simp [hk]; (try (refine gen fun q hq => ?_; cases q <;> (try simp [hk] at hq) <;> (try (have hh : True := hq; clear hh hq)))))
    | (refine wpcall_pure ?_ (h2) ?_; (focus (solve | simp [hk])); simp [hk]; (try (refine gen fun q hq => ?_; cases q <;> (try simp [hk] at hq) <;> (try (have hh : True := hq; clear hh hq)))))
    | (refine T.ret (Done.tup (Or.inr rfl) ?_) <;> simp [resAs, Tryz.results201, *] <;> omega)
    | refine T.rd (id := 8) mixed (fun _ => false) [13] (by kernel_rfl) fun K hK => ?_
    | refine T.rs (fun _ => false) fun K hK => ?_
    | refine T.cond rfl (fun hcnd => ?_) (fun hcnd => absurd hcnd (by decide))
    | refine T.cond rfl (fun hcnd => absurd hcnd (by decide)) (fun hcnd => ?_)
    | refine T.seq ?_
    | refine T.block ?_

theorem l3R9 (e : MTm) (a b c : MTy) (hk : e.kind = 9) (ha : shapeTy 4 a = true) (hb : shapeTy 4 b = true) (hc : shapeTy 4 c = true) :
    L3R e [a, b, c] (if consTy b c = true ∧ consTy a boolT = true then some (meetTy b c) else none) := by
  have hi : shapeTy 4 boolT = true := by simp [shapeTy, tyKids]
  have h1 := l1Consistent_ok 4 b c (by omega) hb hc
  have h2 := l1Consistent_ok 4 a boolT (by omega) ha hi
  have h4 := l3Bool_ok
  by_cases hbc : consTy b c = true
  rotate_left
  · have hbc' : consTy b c = false := by simpa using hbc
    rw [hbc'] at h1
    refine ⟨zeroT, by simp [hbc'], ?_⟩
    rw [if_neg (by simp [hbc'])]
    refine ACalls.of_body Tryz.func201 (by kernel_rfl) rfl (by kernel_rfl) (by simp [Tryz.ntmps201]) (by simp) ?_
    rw [Tryz.ntmps201]
    repeat' first
      | ((first | refine aops_end (hK _ ?_) | refine aopsD_end (hK _ ?_)); clear hK K)
      | ((first | refine aops_go ?_ | refine aopsD_go ?_); simp [hk]; (try (refine gen fun q hq => ?_; cases q <;> (try simp [hk] at hq) <;> (try (have hh : True := hq; clear hh hq)))))
      | (refine wpcall_pure rfl (h1) ?_; simp [hk]; (try (refine gen fun q hq => ?_; cases q <;> (try simp [hk] at hq) <;> (try (have hh : True := hq; clear hh hq)))))
      | (refine T.ret (Done.tup (Or.inr rfl) ?_) <;> simp [resAs, Tryz.results201] <;> omega)
      | refine T.rd (id := 10) mixed (fun _ => false) [] (by kernel_rfl) fun K hK => ?_
      | refine T.rs (fun _ => false) fun K hK => ?_
      | refine T.cond rfl (fun hcnd => ?_) (fun hcnd => absurd hcnd (by decide))
      | refine T.cond rfl (fun hcnd => absurd hcnd (by decide)) (fun hcnd => ?_)
      | refine T.seq ?_
      | refine T.block ?_
  have h5 := l1Meet_ok b c (by have := shape4 hb; omega) (by have := shape4 hc; omega) hbc
  rw [hbc] at h1
  refine ⟨meetTy b c, ?_, ?_⟩
  · intro t h; split at h <;> simp at h; exact h
  rw [show (if consTy b c = true ∧ consTy a boolT = true then some (meetTy b c) else none).isSome = consTy a boolT by rw [hbc]; cases consTy a boolT <;> rfl]
  generalize consTy a boolT = c2 at h2 ⊢
  generalize meetTy b c = mt at h5 ⊢
  refine ACalls.of_body Tryz.func201 (by kernel_rfl) rfl (by kernel_rfl) (by simp [Tryz.ntmps201]) (by simp) ?_
  rw [Tryz.ntmps201]
  repeat' first
    | ((first | refine aops_end (hK _ ?_) | refine aopsD_end (hK _ ?_)); clear hK K)
    | ((first | refine aops_go ?_ | refine aopsD_go ?_); simp [hk]; (try (refine gen fun q hq => ?_; cases q <;> (try simp [hk] at hq) <;> (try (have hh : True := hq; clear hh hq)))))
    | (refine wpcall_pure rfl (h1) ?_; simp [hk]; (try (refine gen fun q hq => ?_; cases q <;> (try simp [hk] at hq) <;> (try (have hh : True := hq; clear hh hq)))))
    | (refine wpcall_pure rfl (h5) ?_; simp [hk]; (try (refine gen fun q hq => ?_; cases q <;> (try simp [hk] at hq) <;> (try (have hh : True := hq; clear hh hq)))))
    | (refine wpcall_pure rfl (h4) ?_; simp [hk]; (try (refine gen fun q hq => ?_; cases q <;> (try simp [hk] at hq) <;> (try (have hh : True := hq; clear hh hq)))))
    | (refine wpcall_pure ?_ (h2) ?_; (focus (solve | simp [hk])); simp [hk]; (try (refine gen fun q hq => ?_; cases q <;> (try simp [hk] at hq) <;> (try (have hh : True := hq; clear hh hq)))))
    | (refine T.ret (Done.tup (Or.inr rfl) ?_) <;> simp [resAs, Tryz.results201, *] <;> omega)
    | refine T.rd (id := 10) mixed (fun _ => false) [] (by kernel_rfl) fun K hK => ?_
    | refine T.rd (id := 12) mixed (fun _ => false) [12] (by kernel_rfl) fun K hK => ?_
    | refine T.rs (fun _ => false) fun K hK => ?_
    | refine T.cond rfl (fun hcnd => ?_) (fun hcnd => absurd hcnd (by decide))
    | refine T.cond rfl (fun hcnd => absurd hcnd (by decide)) (fun hcnd => ?_)
    | refine T.seq ?_
    | refine T.block ?_
    | refine T.skip ?_

theorem l3R10 (e : MTm) (a b : MTy) (hk : e.kind = 10) (ha : shapeTy 4 a = true) (hb : shapeTy 4 b = true) : L3R e [a, b] (twoM 5 a b) := by
  have h1 := l3Two_ok 5 a b (by have := shape4 ha; omega) (by have := shape4 hb; omega)
  refine ⟨.mk 5 [a, b], ?_, ?_⟩
  · intro t h; simp only [twoM] at h; split at h <;> simp at h; exact h
  rw [show (twoM 5 a b).isSome = shapeTy 4 (.mk 5 [a, b]) by simp only [twoM]; split <;> simp [*]]
  generalize shapeTy 4 (.mk 5 [a, b]) = c at h1 ⊢
  refine ACalls.of_body Tryz.func201 (by kernel_rfl) rfl (by kernel_rfl) (by simp [Tryz.ntmps201]) (by simp) ?_
  rw [Tryz.ntmps201]
  repeat' first
    | ((first | refine aops_end (hK _ ?_) | refine aopsD_end (hK _ ?_)); clear hK K)
    | ((first | refine aops_go ?_ | refine aopsD_go ?_); simp [hk]; (try (refine gen fun q hq => ?_; cases q <;> (try simp [hk] at hq) <;> (try (have hh : True := hq; clear hh hq)))))
    | (refine wpcall_pure rfl (h1) ?_; simp [hk]; (try (refine gen fun q hq => ?_; cases q <;> (try simp [hk] at hq) <;> (try (have hh : True := hq; clear hh hq)))))
    | (refine T.ret (Done.tup (Or.inr rfl) ?_) <;> simp [resAs, Tryz.results201, *] <;> omega)
    | refine T.rd (id := 14) mixed (fun _ => false) [9] (by kernel_rfl) fun K hK => ?_
    | refine T.rs (fun _ => false) fun K hK => ?_
    | refine T.cond rfl (fun hcnd => ?_) (fun hcnd => absurd hcnd (by decide))
    | refine T.cond rfl (fun hcnd => absurd hcnd (by decide)) (fun hcnd => ?_)
    | refine T.seq ?_
    | refine T.block ?_

theorem l3R11 (e : MTm) (a : MTy) (hk : e.kind = 11) (ha : shapeTy 4 a = true) : L3R e [a] ((matchM 5 a).map (·.1)) := by
  have hm := l3Match_ok 5 a (by have := shape4 ha; omega) (shape_two (.inr rfl) ha)
  cases hr : matchM 5 a with
  | none =>
    rw [hr] at hm
    refine ⟨zeroT, by simp, ?_⟩
    refine ACalls.of_body Tryz.func201 (by kernel_rfl) rfl (by kernel_rfl) (by simp [Tryz.ntmps201]) (by simp) ?_
    rw [Tryz.ntmps201]
    repeat' first
      | ((first | refine aops_end (hK _ ?_)); clear hK K)
      | ((first | refine aops_go ?_); simp [hk]; (try (refine gen fun q hq => ?_; cases q <;> (try simp [hk] at hq) <;> (try (have hh : True := hq; clear hh hq)))))
      | (refine wpcall_pure rfl (hm) ?_; simp [hk]; (try (refine gen fun q hq => ?_; cases q <;> (try simp [hk] at hq) <;> (try (have hh : True := hq; clear hh hq)))))
      | (refine T.ret (Done.tup (Or.inr rfl) ?_) <;> simp [resAs, Tryz.results201] <;> omega)
      | refine T.rs (fun _ => false) fun K hK => ?_
      | refine T.cond rfl (fun hcnd => ?_) (fun hcnd => absurd hcnd (by decide))
      | refine T.cond rfl (fun hcnd => absurd hcnd (by decide)) (fun hcnd => ?_)
      | refine T.seq ?_
      | refine T.block ?_
  | some p =>
    obtain ⟨x, y⟩ := p
    rw [hr] at hm
    refine ⟨(x, y).1, by simp, ?_⟩
    dsimp only at hm ⊢
    refine ACalls.of_body Tryz.func201 (by kernel_rfl) rfl (by kernel_rfl) (by simp [Tryz.ntmps201]) (by simp) ?_
    rw [Tryz.ntmps201]
    repeat' first
      | ((first | refine aops_end (hK _ ?_)); clear hK K)
      | ((first | refine aops_go ?_); simp [hk]; (try (refine gen fun q hq => ?_; cases q <;> (try simp [hk] at hq) <;> (try (have hh : True := hq; clear hh hq)))))
      | (refine wpcall_pure rfl (hm) ?_; simp [hk]; (try (refine gen fun q hq => ?_; cases q <;> (try simp [hk] at hq) <;> (try (have hh : True := hq; clear hh hq)))))
      | (refine T.ret (Done.tup (Or.inr rfl) ?_) <;> simp [resAs, Tryz.results201] <;> omega)
      | refine T.rs (fun _ => false) fun K hK => ?_
      | refine T.cond rfl (fun hcnd => ?_) (fun hcnd => absurd hcnd (by decide))
      | refine T.cond rfl (fun hcnd => absurd hcnd (by decide)) (fun hcnd => ?_)
      | refine T.seq ?_
      | refine T.block ?_

theorem l3R12 (e : MTm) (a : MTy) (hk : e.kind = 12) (ha : shapeTy 4 a = true) : L3R e [a] ((matchM 5 a).map (·.2)) := by
  have hm := l3Match_ok 5 a (by have := shape4 ha; omega) (shape_two (.inr rfl) ha)
  cases hr : matchM 5 a with
  | none =>
    rw [hr] at hm
    refine ⟨zeroT, by simp, ?_⟩
    refine ACalls.of_body Tryz.func201 (by kernel_rfl) rfl (by kernel_rfl) (by simp [Tryz.ntmps201]) (by simp) ?_
    rw [Tryz.ntmps201]
    repeat' first
      | ((first | refine aops_end (hK _ ?_)); clear hK K)
      | ((first | refine aops_go ?_); simp [hk]; (try (refine gen fun q hq => ?_; cases q <;> (try simp [hk] at hq) <;> (try (have hh : True := hq; clear hh hq)))))
      | (refine wpcall_pure rfl (hm) ?_; simp [hk]; (try (refine gen fun q hq => ?_; cases q <;> (try simp [hk] at hq) <;> (try (have hh : True := hq; clear hh hq)))))
      | (refine T.ret (Done.tup (Or.inr rfl) ?_) <;> simp [resAs, Tryz.results201] <;> omega)
      | refine T.rs (fun _ => false) fun K hK => ?_
      | refine T.cond rfl (fun hcnd => ?_) (fun hcnd => absurd hcnd (by decide))
      | refine T.cond rfl (fun hcnd => absurd hcnd (by decide)) (fun hcnd => ?_)
      | refine T.seq ?_
      | refine T.block ?_
  | some p =>
    obtain ⟨x, y⟩ := p
    rw [hr] at hm
    refine ⟨(x, y).2, by simp, ?_⟩
    dsimp only at hm ⊢
    refine ACalls.of_body Tryz.func201 (by kernel_rfl) rfl (by kernel_rfl) (by simp [Tryz.ntmps201]) (by simp) ?_
    rw [Tryz.ntmps201]
    repeat' first
      | ((first | refine aops_end (hK _ ?_)); clear hK K)
      | ((first | refine aops_go ?_); simp [hk]; (try (refine gen fun q hq => ?_; cases q <;> (try simp [hk] at hq) <;> (try (have hh : True := hq; clear hh hq)))))
      | (refine wpcall_pure rfl (hm) ?_; simp [hk]; (try (refine gen fun q hq => ?_; cases q <;> (try simp [hk] at hq) <;> (try (have hh : True := hq; clear hh hq)))))
      | (refine T.ret (Done.tup (Or.inr rfl) ?_) <;> simp [resAs, Tryz.results201] <;> omega)
      | refine T.rs (fun _ => false) fun K hK => ?_
      | refine T.cond rfl (fun hcnd => ?_) (fun hcnd => absurd hcnd (by decide))
      | refine T.cond rfl (fun hcnd => absurd hcnd (by decide)) (fun hcnd => ?_)
      | refine T.seq ?_
      | refine T.block ?_

theorem l3R13 (e : MTm) (a : MTy) (hk : e.kind = 13) (ha : shapeTy 4 a = true) (he : shapeTy 4 e.ty = true) : L3R e [a] (if consTy a e.ty = true then some e.ty else none) := by
  have h1 := l1Copy_ok e.ty (by have := shape4 he; omega)
  have h2 := l1Consistent_ok 4 a e.ty (by omega) ha he
  refine ⟨e.ty, ?_, ?_⟩
  · intro t h; split at h <;> simp at h; exact h
  rw [show (if consTy a e.ty = true then some e.ty else none).isSome = consTy a e.ty by cases consTy a e.ty <;> rfl]
  generalize consTy a e.ty = c at h2 ⊢
  refine ACalls.of_body Tryz.func201 (by kernel_rfl) rfl (by kernel_rfl) (by simp [Tryz.ntmps201]) (by simp) ?_
  rw [Tryz.ntmps201]
  repeat' first
    | ((first | refine aops_end (hK _ ?_) | refine aopsD_end (hK _ ?_)); clear hK K)
    | ((first | refine aops_go ?_ | refine aopsD_go ?_); simp [hk]; (try (refine gen fun q hq => ?_; cases q <;> (try simp [hk] at hq) <;> (try (have hh : True := hq; clear hh hq)))))
    | (refine wpcall_pure rfl (h1) ?_; simp [hk]; (try (refine gen fun q hq => ?_; cases q <;> (try simp [hk] at hq) <;> (try (have hh : True := hq; clear hh hq)))))
    | (refine wpcall_pure rfl (h2) ?_; simp [hk]; (try (refine gen fun q hq => ?_; cases q <;> (try simp [hk] at hq) <;> (try (have hh : True := hq; clear hh hq)))))
    | (refine T.ret (Done.tup (Or.inr rfl) ?_) <;> simp [resAs, Tryz.results201, *] <;> omega)
    | refine T.rd (id := 22) mixed (fun _ => false) [9] (by kernel_rfl) fun K hK => ?_
    | refine T.rs (fun _ => false) fun K hK => ?_
    | refine T.cond rfl (fun hcnd => ?_) (fun hcnd => absurd hcnd (by decide))
    | refine T.cond rfl (fun hcnd => absurd hcnd (by decide)) (fun hcnd => ?_)
    | refine T.seq ?_
    | refine T.block ?_

theorem l3Result_ok (ctx : List MBd) (e : MTm) (ts : List MTy) (hk : 5 < e.kind ∧ e.kind < 14) (hlen : (ts.length : Int) = kidsM e.kind) (hts : ∀ u ∈ ts, shapeTy 4 u = true) (he : typedM e.kind = true → shapeTy 4 e.ty = true) :
    L3R e ts (nodeTy ctx e.kind e.name e.ty ts) := by
  have hcases : e.kind = 6 ∨ e.kind = 7 ∨ e.kind = 8 ∨ e.kind = 9 ∨ e.kind = 10 ∨ e.kind = 11 ∨ e.kind = 12 ∨ e.kind = 13 := by omega
  rcases hcases with h | h | h | h | h | h | h | h
  · rw [h] at hlen
    match ts, hlen with
    | [a, b], _ =>
      have e1 : nodeTy ctx e.kind e.name e.ty [a, b] = (match matchM 4 a with | some (x, y) => if consTy b x = true then some y else none | none => none) := by rw [h]; rfl
      rw [e1]
      exact l3R6 e a b h (hts a (by simp)) (hts b (by simp))
  · rw [h] at hlen
    match ts, hlen with
    | [a, b], _ => have := l3R7 e a b h (hts a (by simp)) (hts b (by simp)); simpa [nodeTy, h] using this
  · rw [h] at hlen
    match ts, hlen with
    | [a, b], _ => have := l3R8 e a b h (hts a (by simp)) (hts b (by simp)); simpa [nodeTy, h] using this
  · rw [h] at hlen
    match ts, hlen with
    | [a, b, c], _ => have := l3R9 e a b c h (hts a (by simp)) (hts b (by simp)) (hts c (by simp)); simpa [nodeTy, h] using this
  · rw [h] at hlen
    match ts, hlen with
    | [a, b], _ => have := l3R10 e a b h (hts a (by simp)) (hts b (by simp)); simpa [nodeTy, h] using this
  · rw [h] at hlen
    match ts, hlen with
    | [a], _ => have := l3R11 e a h (hts a (by simp)); simpa [nodeTy, h] using this
  · rw [h] at hlen
    match ts, hlen with
    | [a], _ => have := l3R12 e a h (hts a (by simp)); simpa [nodeTy, h] using this
  · rw [h] at hlen
    match ts, hlen with
    | [a], _ => have := l3R13 e a h (hts a (by simp)) (he (by simp [typedM, h])); simpa [nodeTy, h] using this
end Go.Proofs.YtfdknjjnifnobaaGreat
