/- Leaf functions on names, labels, types that are absent, numbers of operands. -/
import Derived.Test.YtdbffbmbbfbamaaM4
import Derived.Test.YtdbffbmbbfbamaaP1
namespace Go.Proofs.Ytdbffbmbbfbamaa
open Go Go.Av
attribute [local irreducible] T
attribute [local simp] eTy_def eTm_def
set_option linter.unusedSimpArgs false
set_option linter.unusedVariables false

theorem inM_ok (x lo hi : Int) : ACalls Try.prog 24 [.i x, .i lo, .i hi] [] (.b (inM x lo hi)) [] [] := by
  refine ACalls.of_body Try.func24 (by kernel_rfl) rfl (by kernel_rfl) (by simp [Try.ntmps24]) (by simp) ?_
  rw [Try.ntmps24]
  repeat' first
    | (refine aops_end (hK _ ?_); clear hK K)
    | (refine aops_go ?_; simp; (try (refine Ops.gen fun q hq => ?_; cases q <;> (try simp at hq))))
    | refine T.rs (fun _ => false) fun K hK => ?_
    | refine T.rs1 (fun _ => false) fun K hK => ?_
    | refine T.cond rfl (fun hc => ?_) (fun hc => absurd hc (by decide))
    | refine T.cond rfl (fun hc => absurd hc (by decide)) (fun hc => ?_)
    | refine T.seq ?_
    | refine T.block ?_
    | refine T.skip ?_
    | refine T.exit ?_
  all_goals (refine T.ret (Done.data (Or.inr rfl) ?_ ?_) <;> simp [Try.results24, inM, *] <;> omega)

theorem isName_ok (s : List UInt8) : ACalls Try.prog 71 [.s s] [] (.b (nameM s)) [] [] := by
  refine ACalls.of_body Try.func71 (by kernel_rfl) rfl (by kernel_rfl) (by simp [Try.ntmps71]) (by simp) ?_
  rw [Try.ntmps71]
  match s with
  | [] =>
    repeat' first
      | (refine aops_end (hK _ ?_); clear hK K)
      | (refine aops_go ?_; simp; (try (refine Ops.gen fun q hq => ?_; cases q <;> (try simp at hq))))
      | refine T.rs (fun _ => false) fun K hK => ?_
      | refine T.rs1 (fun _ => false) fun K hK => ?_
      | refine T.cond rfl (fun hc => ?_) (fun hc => absurd hc (by decide))
      | refine T.cond rfl (fun hc => absurd hc (by decide)) (fun hc => ?_)
      | refine T.seq ?_
      | refine T.block ?_
      | refine T.skip ?_
      | refine T.exit ?_
    all_goals (refine T.ret (Done.data (Or.inr rfl) ?_ ?_) <;> simp [Try.results71, nameM])
  | [c] =>
    repeat' first
      | (refine aops_end (hK _ ?_); clear hK K)
      | (refine aops_go ?_; simp; (try (refine Ops.gen fun q hq => ?_; cases q <;> (try simp at hq))))
      | refine T.rs (fun _ => false) fun K hK => ?_
      | refine T.rs1 (fun _ => false) fun K hK => ?_
      | refine T.cond rfl (fun hc => ?_) (fun hc => absurd hc (by decide))
      | refine T.cond rfl (fun hc => absurd hc (by decide)) (fun hc => ?_)
      | refine T.seq ?_
      | refine T.block ?_
      | refine T.skip ?_
      | refine T.exit ?_
    all_goals (refine T.ret (Done.data (Or.inr rfl) ?_ ?_) <;> simp [Try.results71, nameM, *] <;> omega)
  | c :: d :: r =>
    have h2 : ¬ ((r.length : Int) + 1 + 1 = 1) := by omega
    repeat' first
      | (refine aops_end (hK _ ?_); clear hK K)
      | (refine aops_go ?_; simp [h2, beq_f h2]; (try (refine Ops.gen fun q hq => ?_; cases q <;> (try simp [h2] at hq))))
      | refine T.rs (fun _ => false) fun K hK => ?_
      | refine T.rs1 (fun _ => false) fun K hK => ?_
      | refine T.cond rfl (fun hc => ?_) (fun hc => absurd hc (by decide))
      | refine T.cond rfl (fun hc => absurd hc (by decide)) (fun hc => ?_)
      | refine T.seq ?_
      | refine T.block ?_
      | refine T.skip ?_
      | refine T.exit ?_
    all_goals (refine T.ret (Done.data (Or.inr rfl) ?_ ?_) <;> simp [Try.results71, nameM])

theorem l2Name_ok (s : List UInt8) : ACalls Try.prog 68 [.s s] [] (.b (nameM s)) [] [] := by
  refine ACalls.of_body Try.func68 (by kernel_rfl) rfl (by kernel_rfl) (by simp [Try.ntmps68]) (by simp) ?_
  rw [Try.ntmps68]
  match s with
  | [] =>
    repeat' first
      | (refine aops_end (hK _ ?_); clear hK K)
      | (refine aops_go ?_; simp; (try (refine Ops.gen fun q hq => ?_; cases q <;> (try simp at hq))))
      | refine T.rs (fun _ => false) fun K hK => ?_
      | refine T.rs1 (fun _ => false) fun K hK => ?_
      | refine T.cond rfl (fun hc => ?_) (fun hc => absurd hc (by decide))
      | refine T.cond rfl (fun hc => absurd hc (by decide)) (fun hc => ?_)
      | refine T.seq ?_
      | refine T.block ?_
      | refine T.skip ?_
      | refine T.exit ?_
    all_goals (refine T.ret (Done.data (Or.inr rfl) ?_ ?_) <;> simp [Try.results68, nameM])
  | [c] =>
    repeat' first
      | (refine aops_end (hK _ ?_); clear hK K)
      | (refine aops_go ?_; simp; (try (refine Ops.gen fun q hq => ?_; cases q <;> (try simp at hq))))
      | refine T.rs (fun _ => false) fun K hK => ?_
      | refine T.rs1 (fun _ => false) fun K hK => ?_
      | refine T.cond rfl (fun hc => ?_) (fun hc => absurd hc (by decide))
      | refine T.cond rfl (fun hc => absurd hc (by decide)) (fun hc => ?_)
      | refine T.seq ?_
      | refine T.block ?_
      | refine T.skip ?_
      | refine T.exit ?_
    all_goals (refine T.ret (Done.data (Or.inr rfl) ?_ ?_) <;> simp [Try.results68, nameM, *] <;> omega)
  | c :: d :: r =>
    have h2 : ¬ ((r.length : Int) + 1 + 1 = 1) := by omega
    repeat' first
      | (refine aops_end (hK _ ?_); clear hK K)
      | (refine aops_go ?_; simp [h2, beq_f h2]; (try (refine Ops.gen fun q hq => ?_; cases q <;> (try simp [h2] at hq))))
      | refine T.rs (fun _ => false) fun K hK => ?_
      | refine T.rs1 (fun _ => false) fun K hK => ?_
      | refine T.cond rfl (fun hc => ?_) (fun hc => absurd hc (by decide))
      | refine T.cond rfl (fun hc => absurd hc (by decide)) (fun hc => ?_)
      | refine T.seq ?_
      | refine T.block ?_
      | refine T.skip ?_
      | refine T.exit ?_
    all_goals (refine T.ret (Done.data (Or.inr rfl) ?_ ?_) <;> simp [Try.results68, nameM])

theorem isNoType_ok (t : MTy) : ACalls Try.prog 73 [aTy t] [] (.b (noTyM t)) [] [] := by
  refine ACalls.of_body Try.func73 (by kernel_rfl) rfl (by kernel_rfl) (by simp [Try.ntmps73]) (by simp) ?_
  rw [Try.ntmps73]
  repeat' first
    | (refine aops_end (hK _ ?_); clear hK K)
    | (refine aops_go ?_; simp; (try (refine Ops.gen fun q hq => ?_; cases q <;> (try simp at hq))))
    | refine T.rs (fun _ => false) fun K hK => ?_
    | refine T.rs1 (fun _ => false) fun K hK => ?_
    | refine T.cond rfl (fun hc => ?_) (fun hc => absurd hc (by decide))
    | refine T.cond rfl (fun hc => absurd hc (by decide)) (fun hc => ?_)
    | refine T.seq ?_
    | refine T.block ?_
    | refine T.skip ?_
    | refine T.exit ?_
  all_goals (refine T.ret (Done.data (Or.inr rfl) ?_ ?_) <;> simp [Try.results73, noTyM, *])

theorem l2None_ok (t : MTy) : ACalls Try.prog 69 [aTy t] [] (.b (noTyM t)) [] [] := by
  refine ACalls.of_body Try.func69 (by kernel_rfl) rfl (by kernel_rfl) (by simp [Try.ntmps69]) (by simp) ?_
  rw [Try.ntmps69]
  repeat' first
    | (refine aops_end (hK _ ?_); clear hK K)
    | (refine aops_go ?_; simp; (try (refine Ops.gen fun q hq => ?_; cases q <;> (try simp at hq))))
    | refine T.rs (fun _ => false) fun K hK => ?_
    | refine T.rs1 (fun _ => false) fun K hK => ?_
    | refine T.cond rfl (fun hc => ?_) (fun hc => absurd hc (by decide))
    | refine T.cond rfl (fun hc => absurd hc (by decide)) (fun hc => ?_)
    | refine T.seq ?_
    | refine T.block ?_
    | refine T.skip ?_
    | refine T.exit ?_
  all_goals (refine T.ret (Done.data (Or.inr rfl) ?_ ?_) <;> simp [Try.results69, noTyM, *])

theorem isLabel_ok (n : Int) : ACalls Try.prog 75 [.i n] [] (.b (labM n)) [] [] := by
  refine ACalls.of_body Try.func75 (by kernel_rfl) rfl (by kernel_rfl) (by simp [Try.ntmps75]) (by simp) ?_
  rw [Try.ntmps75]
  repeat' first
    | (refine T.rs (fun _ => false) fun K hK => ?_; (repeat (refine aops_go ?_; simp)); refine aops_end (hK _ ?_); clear hK K)
    | (refine T.rs1 (fun _ => false) fun K hK => ?_; (repeat (refine aops_go ?_; simp)); refine aops_end (hK _ ?_); clear hK K)
    | refine T.cond rfl (fun hc => ?_) (fun hc => absurd hc (by decide))
    | refine T.cond rfl (fun hc => absurd hc (by decide)) (fun hc => ?_)
    | refine T.seq ?_
    | refine T.block ?_
    | refine T.skip ?_
    | refine T.exit ?_
  refine T.rs1 (fun _ => false) fun K hK => ?_
  repeat (refine aops_go ?_; simp)
  refine wpcall_pure (by simp) (inM_ok n 1 99) ?_
  simp
  refine Ops.gen fun q hq => ?_
  cases q
  · repeat (refine aops_go ?_; simp)
    refine wpcall_pure (by simp) (inM_ok n (-99) (-1)) ?_
    simp
    repeat' first
      | (refine aops_end (hK _ ?_); clear hK K)
      | (refine aops_go ?_; simp; (try (refine Ops.gen fun q hq => ?_; cases q <;> (try simp at hq))))
      | refine T.rs (fun _ => false) fun K hK => ?_
      | refine T.rs1 (fun _ => false) fun K hK => ?_
      | refine T.cond rfl (fun hc => ?_) (fun hc => absurd hc (by decide))
      | refine T.cond rfl (fun hc => absurd hc (by decide)) (fun hc => ?_)
      | refine T.seq ?_
      | refine T.block ?_
      | refine T.skip ?_
      | refine T.exit ?_
    all_goals (refine T.ret (Done.data (Or.inr rfl) ?_ ?_) <;> simp [Try.results75, labM, *])
  · repeat' first
      | (refine aops_end (hK _ ?_); clear hK K)
      | (refine aops_go ?_; simp; (try (refine Ops.gen fun q hq => ?_; cases q <;> (try simp at hq))))
      | refine T.rs (fun _ => false) fun K hK => ?_
      | refine T.rs1 (fun _ => false) fun K hK => ?_
      | refine T.cond rfl (fun hc => ?_) (fun hc => absurd hc (by decide))
      | refine T.cond rfl (fun hc => absurd hc (by decide)) (fun hc => ?_)
      | refine T.seq ?_
      | refine T.block ?_
      | refine T.skip ?_
      | refine T.exit ?_
    all_goals (refine T.ret (Done.data (Or.inr rfl) ?_ ?_) <;> simp [Try.results75, labM, *])

theorem l2Kids_ok (k : Int) : ACalls Try.prog 51 [.i k] [] (.i (kidsM k)) [] [] := by
  refine ACalls.of_body Try.func51 (by kernel_rfl) rfl (by kernel_rfl) (by simp [Try.ntmps51]) (by simp) ?_
  rw [Try.ntmps51]
  repeat' first
    | (refine aops_end (hK _ ?_); clear hK K)
    | (refine aops_go ?_; simp; (try (refine Ops.gen fun q hq => ?_; cases q <;> (try simp at hq))))
    | refine T.rs (fun _ => false) fun K hK => ?_
    | refine T.rs1 (fun _ => false) fun K hK => ?_
    | refine T.cond rfl (fun hc => ?_) (fun hc => absurd hc (by decide))
    | refine T.cond rfl (fun hc => absurd hc (by decide)) (fun hc => ?_)
    | refine T.seq ?_
    | refine T.block ?_
    | refine T.skip ?_
    | refine T.exit ?_
  all_goals (refine T.ret (Done.data (Or.inr rfl) ?_ ?_) <;> simp [Try.results51, kidsM, *])

@[simp] theorem td_intS : td Try.prog 83 = some { ag := false, sz := 1, by_ := 24, zero := some [.nil], el := some 3, ar := none, fl := [], ik := none, isS := false, isB := false } := keep (by kernel_rfl)

theorem operands_ok (k : Int) : ACalls Try.prog 70 [.i k] [] (.i (kidsM k)) [] [] := by
  refine ACalls.of_body Try.func70 (by kernel_rfl) rfl (by kernel_rfl) (by simp [Try.ntmps70]) (by simp) ?_
  rw [Try.ntmps70]
  repeat' first
    | (refine T.rs (fun _ => false) fun K hK => ?_; (repeat (refine aops_go ?_; simp)); refine aops_end (hK _ ?_); clear hK K)
    | (refine T.rs1 (fun _ => false) fun K hK => ?_; (repeat (refine aops_go ?_; simp)); refine aops_end (hK _ ?_); clear hK K)
    | refine T.cond rfl (fun hc => ?_) (fun hc => absurd hc (by decide))
    | refine T.cond rfl (fun hc => absurd hc (by decide)) (fun hc => ?_)
    | refine T.seq ?_
    | refine T.block ?_
    | refine T.skip ?_
    | refine T.exit ?_
  refine T.rs1 (fun _ => false) fun K hK => ?_
  repeat (refine aops_go ?_; simp)
  refine wpcall_pure (by simp) (inM_ok k 1 14) ?_
  simp
  by_cases h : inM k 1 14 = true
  · have hr : k = 1 ∨ k = 2 ∨ k = 3 ∨ k = 4 ∨ k = 5 ∨ k = 6 ∨ k = 7 ∨ k = 8 ∨ k = 9 ∨ k = 10 ∨ k = 11 ∨ k = 12 ∨ k = 13 ∨ k = 14 := by
      simp [inM] at h; omega
    rcases hr with rfl | rfl | rfl | rfl | rfl | rfl | rfl | rfl | rfl | rfl | rfl | rfl | rfl | rfl
    all_goals
      simp [inM] at h
      have hw : ∀ n : Int, 0 ≤ n → n ≤ 20 → IntKind.i64.wrap n = n := fun n h1 h2 => wrap64 (by omega) (by omega)
      repeat' first
        | (refine aops_end (hK _ ?_); clear hK K)
        | (refine aops_go ?_; simp [inM, hw]; (try (refine Ops.gen fun q hq => ?_; cases q <;> (try simp at hq))))
        | refine T.rs (fun _ => false) fun K hK => ?_
        | refine T.rs1 (fun _ => false) fun K hK => ?_
        | refine T.cond rfl (fun hc => ?_) (fun hc => absurd hc (by decide))
        | refine T.cond rfl (fun hc => absurd hc (by decide)) (fun hc => ?_)
        | refine T.seq ?_
        | refine T.block ?_
        | refine T.skip ?_
        | refine T.exit ?_
      all_goals (refine T.ret (Done.data (Or.inr rfl) ?_ ?_) <;> simp [Try.results70, kidsM])
  · have hk : kidsM k = -1 := by
      simp only [inM, Bool.not_eq_true, Bool.and_eq_false_iff, decide_eq_false_iff_not] at h
      have : k < 1 ∨ 14 < k := by omega
      simp only [kidsM]
      repeat (rw [if_neg (by omega)])
    simp only [Bool.not_eq_true] at h
    repeat' first
      | (refine aops_end (hK _ ?_); clear hK K)
      | (refine aops_go ?_; simp [h]; (try (refine Ops.gen fun q hq => ?_; cases q <;> (try simp at hq))))
      | refine T.rs (fun _ => false) fun K hK => ?_
      | refine T.rs1 (fun _ => false) fun K hK => ?_
      | refine T.cond rfl (fun hc => ?_) (fun hc => absurd hc (by decide))
      | refine T.cond rfl (fun hc => absurd hc (by decide)) (fun hc => ?_)
      | refine T.seq ?_
      | refine T.block ?_
      | refine T.skip ?_
      | refine T.exit ?_
    all_goals (refine T.ret (Done.data (Or.inr rfl) ?_ ?_) <;> simp [Try.results70, hk])

end Go.Proofs.Ytdbffbmbbfbamaa
