import Derived.Test.YtdbffbmbbfbamaaW1
namespace Go.Proofs.Ytdbffbmbbfbamaa
open Go Go.Av
attribute [local irreducible] T
set_option linter.unusedSimpArgs false
set_option linter.unusedVariables false

theorem Done.data {P : Program} {s : St} {fn : Func} {r : AV} {e : Exit} (he : e = .normal ∨ e = .ret) (hr : ares P s fn.results.toList = some [r]) (hx : r.res1 s.A [] [] = some r) : Done P fn 0 r [] [] e s := Done.pure he hr hx

theorem beq_f {a b : Int} (h : ¬ a = b) : (a == b) = false := by simpa using h

def withinM (x lo hi : Int) : Bool := decide (lo ≤ x) && decide (x ≤ hi)

theorem within_ok (x lo hi : Int) : ACalls Try.prog 24 [.i x, .i lo, .i hi] [] (.b (withinM x lo hi)) [] [] := by
  refine ACalls.of_body Try.func24 (by kernel_rfl) rfl (by kernel_rfl) (by simp [Try.ntmps24]) (by simp) ?_
  rw [Try.ntmps24]
  by_cases h1 : lo ≤ x <;> by_cases h2 : x ≤ hi
  all_goals
    repeat' first
      | (refine T.rs (fun _ => false) fun K hK => ?_; (repeat (refine aops_go ?_; simp [h1, h2])); refine aops_end (hK _ ?_); clear hK)
      | (refine T.rs1 (fun _ => false) fun K hK => ?_; (repeat (refine aops_go ?_; simp [h1, h2])); refine aops_end (hK _ ?_); clear hK)
      | refine T.cond rfl (fun hc => ?_) (fun hc => absurd hc (by decide))
      | refine T.cond rfl (fun hc => absurd hc (by decide)) (fun hc => ?_)
      | refine T.seq ?_
      | refine T.block ?_
      | refine T.skip ?_
      | refine T.exit ?_
    refine T.ret (Done.data (Or.inr rfl) ?_ ?_)
    · simp [Try.results24, withinM, h1, h2]
    · simp

def mostM (k r : Int) : Int := if k = 1 then 999 else if k = 2 then 1 else if k = 3 then 11 else if k = 4 then r else if k = 9 then r else if k = 10 then r else 0

theorem mostA_ok (k r : Int) : ACalls Try.prog 25 [.i k, .i r] [] (.i (mostM k r)) [] [] := by
  refine ACalls.of_body Try.func25 (by kernel_rfl) rfl (by kernel_rfl) (by simp [Try.ntmps25]) (by simp) ?_
  rw [Try.ntmps25]
  by_cases h1 : k = 1
  · subst h1
    repeat' first
      | (refine T.rs (fun _ => false) fun K hK => ?_; (repeat (refine aops_go ?_; simp)); refine aops_end (hK _ ?_); clear hK)
      | (refine T.rs1 (fun _ => false) fun K hK => ?_; (repeat (refine aops_go ?_; simp)); refine aops_end (hK _ ?_); clear hK)
      | refine T.cond rfl (fun hc => ?_) (fun hc => absurd hc (by decide))
      | refine T.cond rfl (fun hc => absurd hc (by decide)) (fun hc => ?_)
      | refine T.seq ?_
      | refine T.block ?_
      | refine T.skip ?_
      | refine T.exit ?_
    refine T.ret (Done.data (Or.inr rfl) ?_ ?_) <;> simp [Try.results25, mostM]
  by_cases h2 : k = 2
  · subst h2
    repeat' first
      | (refine T.rs (fun _ => false) fun K hK => ?_; (repeat (refine aops_go ?_; simp)); refine aops_end (hK _ ?_); clear hK)
      | (refine T.rs1 (fun _ => false) fun K hK => ?_; (repeat (refine aops_go ?_; simp)); refine aops_end (hK _ ?_); clear hK)
      | refine T.cond rfl (fun hc => ?_) (fun hc => absurd hc (by decide))
      | refine T.cond rfl (fun hc => absurd hc (by decide)) (fun hc => ?_)
      | refine T.seq ?_
      | refine T.block ?_
      | refine T.skip ?_
      | refine T.exit ?_
    refine T.ret (Done.data (Or.inr rfl) ?_ ?_) <;> simp [Try.results25, mostM]
  by_cases h3 : k = 3
  · subst h3
    repeat' first
      | (refine T.rs (fun _ => false) fun K hK => ?_; (repeat (refine aops_go ?_; simp)); refine aops_end (hK _ ?_); clear hK)
      | (refine T.rs1 (fun _ => false) fun K hK => ?_; (repeat (refine aops_go ?_; simp)); refine aops_end (hK _ ?_); clear hK)
      | refine T.cond rfl (fun hc => ?_) (fun hc => absurd hc (by decide))
      | refine T.cond rfl (fun hc => absurd hc (by decide)) (fun hc => ?_)
      | refine T.seq ?_
      | refine T.block ?_
      | refine T.skip ?_
      | refine T.exit ?_
    refine T.ret (Done.data (Or.inr rfl) ?_ ?_) <;> simp [Try.results25, mostM]
  by_cases h4 : k = 4 ∨ k = 9 ∨ k = 10
  · rcases h4 with rfl | rfl | rfl
    all_goals
      repeat' first
        | (refine T.rs (fun _ => false) fun K hK => ?_; (repeat (refine aops_go ?_; simp)); refine aops_end (hK _ ?_); clear hK)
        | (refine T.rs1 (fun _ => false) fun K hK => ?_; (repeat (refine aops_go ?_; simp)); refine aops_end (hK _ ?_); clear hK)
        | refine T.cond rfl (fun hc => ?_) (fun hc => absurd hc (by decide))
        | refine T.cond rfl (fun hc => absurd hc (by decide)) (fun hc => ?_)
        | refine T.seq ?_
        | refine T.block ?_
        | refine T.skip ?_
        | refine T.exit ?_
      refine T.ret (Done.data (Or.inr rfl) ?_ ?_) <;> simp [Try.results25, mostM]
  · simp only [not_or] at h4
    obtain ⟨h4, h5, h6⟩ := h4
    repeat' first
      | (refine T.rs (fun _ => false) fun K hK => ?_; (repeat (refine aops_go ?_; simp [beq_f h1, beq_f h2, beq_f h3, beq_f h4, beq_f h5, beq_f h6])); refine aops_end (hK _ ?_); clear hK)
      | (refine T.rs1 (fun _ => false) fun K hK => ?_; (repeat (refine aops_go ?_; simp [beq_f h1, beq_f h2, beq_f h3, beq_f h4, beq_f h5, beq_f h6])); refine aops_end (hK _ ?_); clear hK)
      | refine T.cond rfl (fun hc => ?_) (fun hc => absurd hc (by decide))
      | refine T.cond rfl (fun hc => absurd hc (by decide)) (fun hc => ?_)
      | refine T.seq ?_
      | refine T.block ?_
      | refine T.skip ?_
      | refine T.exit ?_
    refine T.ret (Done.data (Or.inr rfl) ?_ ?_) <;> simp [Try.results25, mostM, h1, h2, h3, h4, h5, h6]

def ownM (k a i n : Int) : Bool :=
  if k = 1 then decide (0 ≤ a) && decide (a ≤ 999) else if k = 2 then decide (a = 0) || decide (a = 1) else if k = 3 then decide (0 ≤ a) && decide (a < 12)
  else if k = 4 ∨ k = 9 ∨ k = 10 then decide (0 ≤ a) && decide (a ≤ n) && decide (i + 1 + a ≤ n) else decide (1 ≤ k) && decide (k ≤ 13) && decide (a = 0)

theorem own_ok (o : MOp) (i n : Int) (hi : 0 ≤ i) (hi' : i ≤ 1048576) (hn : 0 ≤ n) (hn' : n ≤ 1048576) : ACalls Try.prog 23 [.agg [.d (.i o.kind), .d (.i o.a)], .i i, .i n] [] (.b (ownM o.kind o.a i n)) [] [] := by
  obtain ⟨k, a⟩ := o
  refine ACalls.of_body Try.func23 (by kernel_rfl) rfl (by kernel_rfl) (by simp [Try.ntmps23]) (by simp) ?_
  rw [Try.ntmps23]
  by_cases k1 : k = 1
  · subst k1
    by_cases h1 : 0 ≤ a <;> by_cases h2 : a ≤ 999
    all_goals
      repeat' first
        | (refine T.rs (fun _ => false) fun K hK => ?_; (repeat (refine aops_go ?_; simp [h1, h2])); refine aops_end (hK _ ?_); clear hK)
        | (refine T.rs1 (fun _ => false) fun K hK => ?_; (repeat (refine aops_go ?_; simp [h1, h2])); refine aops_end (hK _ ?_); clear hK)
        | refine T.cond rfl (fun hc => ?_) (fun hc => absurd hc (by decide))
        | refine T.cond rfl (fun hc => absurd hc (by decide)) (fun hc => ?_)
        | refine T.seq ?_
        | refine T.block ?_
        | refine T.skip ?_
        | refine T.exit ?_
      refine T.ret (Done.data (Or.inr rfl) ?_ ?_) <;> simp [Try.results23, ownM, h1, h2]
  by_cases k2 : k = 2
  · subst k2
    by_cases h1 : a = 0
    · subst h1
      repeat' first
        | (refine T.rs (fun _ => false) fun K hK => ?_; (repeat (refine aops_go ?_; simp)); refine aops_end (hK _ ?_); clear hK)
        | (refine T.rs1 (fun _ => false) fun K hK => ?_; (repeat (refine aops_go ?_; simp)); refine aops_end (hK _ ?_); clear hK)
        | refine T.cond rfl (fun hc => ?_) (fun hc => absurd hc (by decide))
        | refine T.cond rfl (fun hc => absurd hc (by decide)) (fun hc => ?_)
        | refine T.seq ?_
        | refine T.block ?_
        | refine T.skip ?_
        | refine T.exit ?_
      refine T.ret (Done.data (Or.inr rfl) ?_ ?_) <;> simp [Try.results23, ownM]
    by_cases h2 : a = 1
    · subst h2
      repeat' first
        | (refine T.rs (fun _ => false) fun K hK => ?_; (repeat (refine aops_go ?_; simp)); refine aops_end (hK _ ?_); clear hK)
        | (refine T.rs1 (fun _ => false) fun K hK => ?_; (repeat (refine aops_go ?_; simp)); refine aops_end (hK _ ?_); clear hK)
        | refine T.cond rfl (fun hc => ?_) (fun hc => absurd hc (by decide))
        | refine T.cond rfl (fun hc => absurd hc (by decide)) (fun hc => ?_)
        | refine T.seq ?_
        | refine T.block ?_
        | refine T.skip ?_
        | refine T.exit ?_
      refine T.ret (Done.data (Or.inr rfl) ?_ ?_) <;> simp [Try.results23, ownM]
    repeat' first
      | (refine T.rs (fun _ => false) fun K hK => ?_; (repeat (refine aops_go ?_; simp [beq_f h1, beq_f h2])); refine aops_end (hK _ ?_); clear hK)
      | (refine T.rs1 (fun _ => false) fun K hK => ?_; (repeat (refine aops_go ?_; simp [beq_f h1, beq_f h2])); refine aops_end (hK _ ?_); clear hK)
      | refine T.cond rfl (fun hc => ?_) (fun hc => absurd hc (by decide))
      | refine T.cond rfl (fun hc => absurd hc (by decide)) (fun hc => ?_)
      | refine T.seq ?_
      | refine T.block ?_
      | refine T.skip ?_
      | refine T.exit ?_
    refine T.ret (Done.data (Or.inr rfl) ?_ ?_) <;> simp [Try.results23, ownM, h1, h2]
  by_cases k3 : k = 3
  · subst k3
    by_cases h1 : 0 ≤ a <;> by_cases h2 : a < 12
    all_goals
      repeat' first
        | (refine T.rs (fun _ => false) fun K hK => ?_; (repeat (refine aops_go ?_; simp [h1, h2])); refine aops_end (hK _ ?_); clear hK)
        | (refine T.rs1 (fun _ => false) fun K hK => ?_; (repeat (refine aops_go ?_; simp [h1, h2])); refine aops_end (hK _ ?_); clear hK)
        | refine T.cond rfl (fun hc => ?_) (fun hc => absurd hc (by decide))
        | refine T.cond rfl (fun hc => absurd hc (by decide)) (fun hc => ?_)
        | refine T.seq ?_
        | refine T.block ?_
        | refine T.skip ?_
        | refine T.exit ?_
      refine T.ret (Done.data (Or.inr rfl) ?_ ?_) <;> simp [Try.results23, ownM, h1, h2]
  by_cases k4 : k = 4 ∨ k = 9 ∨ k = 10
  · have hx : 0 ≤ a → a ≤ n → IntKind.i64.wrap (IntKind.i64.wrap (i + 1) + a) = i + 1 + a := fun h1 h2 => by
      rw [wrap64 (n := i + 1) (by omega) (by omega)]
      exact wrap64 (by omega) (by omega)
    by_cases h1 : 0 ≤ a
    · by_cases h2 : a ≤ n
      · have h4 := hx h1 h2
        by_cases h3 : i + 1 + a ≤ n
        all_goals
          rcases k4 with rfl | rfl | rfl
          all_goals
            repeat' first
              | (refine T.rs (fun _ => false) fun K hK => ?_; (repeat (refine aops_go ?_; simp [h1, h2, h3, h4])); refine aops_end (hK _ ?_); clear hK)
              | (refine T.rs1 (fun _ => false) fun K hK => ?_; (repeat (refine aops_go ?_; simp [h1, h2, h3, h4])); refine aops_end (hK _ ?_); clear hK)
              | refine T.cond rfl (fun hc => ?_) (fun hc => absurd hc (by decide))
              | refine T.cond rfl (fun hc => absurd hc (by decide)) (fun hc => ?_)
              | refine T.seq ?_
              | refine T.block ?_
              | refine T.skip ?_
              | refine T.exit ?_
            refine T.ret (Done.data (Or.inr rfl) ?_ ?_) <;> simp [Try.results23, ownM, h1, h2, h3]
      · rcases k4 with rfl | rfl | rfl
        all_goals
          repeat' first
          | (refine T.rs (fun _ => false) fun K hK => ?_; (repeat (refine aops_go ?_; simp [h1, h2])); refine aops_end (hK _ ?_); clear hK)
          | (refine T.rs1 (fun _ => false) fun K hK => ?_; (repeat (refine aops_go ?_; simp [h1, h2])); refine aops_end (hK _ ?_); clear hK)
          | refine T.cond rfl (fun hc => ?_) (fun hc => absurd hc (by decide))
          | refine T.cond rfl (fun hc => absurd hc (by decide)) (fun hc => ?_)
          | refine T.seq ?_
          | refine T.block ?_
          | refine T.skip ?_
          | refine T.exit ?_
          refine T.ret (Done.data (Or.inr rfl) ?_ ?_) <;> simp [Try.results23, ownM, h1, h2]
    · rcases k4 with rfl | rfl | rfl
      all_goals
        repeat' first
          | (refine T.rs (fun _ => false) fun K hK => ?_; (repeat (refine aops_go ?_; simp [h1])); refine aops_end (hK _ ?_); clear hK)
          | (refine T.rs1 (fun _ => false) fun K hK => ?_; (repeat (refine aops_go ?_; simp [h1])); refine aops_end (hK _ ?_); clear hK)
          | refine T.cond rfl (fun hc => ?_) (fun hc => absurd hc (by decide))
          | refine T.cond rfl (fun hc => absurd hc (by decide)) (fun hc => ?_)
          | refine T.seq ?_
          | refine T.block ?_
          | refine T.skip ?_
          | refine T.exit ?_
        refine T.ret (Done.data (Or.inr rfl) ?_ ?_) <;> simp [Try.results23, ownM, h1]
  · simp only [not_or] at k4
    obtain ⟨k4, k5, k6⟩ := k4
    by_cases h1 : 1 ≤ k <;> by_cases h2 : k ≤ 13 <;> by_cases h3 : a = 0
    all_goals
      try subst h3
      repeat' first
        | (refine T.rs (fun _ => false) fun K hK => ?_; (repeat (refine aops_go ?_; simp [beq_f k1, beq_f k2, beq_f k3, beq_f k4, beq_f k5, beq_f k6, *])); refine aops_end (hK _ ?_); clear hK)
        | (refine T.rs1 (fun _ => false) fun K hK => ?_; (repeat (refine aops_go ?_; simp [beq_f k1, beq_f k2, beq_f k3, beq_f k4, beq_f k5, beq_f k6, *])); refine aops_end (hK _ ?_); clear hK)
        | refine T.cond rfl (fun hc => ?_) (fun hc => absurd hc (by decide))
        | refine T.cond rfl (fun hc => absurd hc (by decide)) (fun hc => ?_)
        | refine T.seq ?_
        | refine T.block ?_
        | refine T.skip ?_
        | refine T.exit ?_
      refine T.ret (Done.data (Or.inr rfl) ?_ ?_) <;> simp [Try.results23, ownM, k1, k2, k3, k4, k5, k6, *]

end Go.Proofs.Ytdbffbmbbfbamaa
