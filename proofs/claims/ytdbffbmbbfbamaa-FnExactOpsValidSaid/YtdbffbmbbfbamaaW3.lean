import Derived.Test.YtdbffbmbbfbamaaW2
namespace Go.Proofs.Ytdbffbmbbfbamaa
open Go Go.Av
attribute [local irreducible] T
set_option linter.unusedSimpArgs false
set_option linter.unusedVariables false

def AllOwn (l : List MOp) : Prop := ∀ (i : Nat) o, l[i]? = some o → ownM o.kind o.a i l.length = true
open Classical in
noncomputable def validM (l : List MOp) : Bool := decide (1 ≤ l.length ∧ l.length ≤ 120 ∧ AllOwn l)

theorem specValid_ok (l : List MOp) (hl : l.length ≤ 1048576) : ACalls Try.prog 12 [.l (eOps l)] [] (.b (validM l)) [] [] := by
  refine ACalls.of_body Try.func12 (by kernel_rfl) rfl (by kernel_rfl) (by simp [Try.ntmps12]) (by simp) ?_
  rw [Try.ntmps12]
  repeat' first
    | (refine T.rs (fun _ => false) fun K hK => ?_; (repeat (refine aops_go ?_; simp)); refine aops_end (hK _ ?_); clear hK)
    | (refine T.rs1 (fun _ => false) fun K hK => ?_; (repeat (refine aops_go ?_; simp)); refine aops_end (hK _ ?_); clear hK)
    | refine T.cond rfl (fun hc => ?_) (fun hc => absurd hc (by decide))
    | refine T.cond rfl (fun hc => absurd hc (by decide)) (fun hc => ?_)
    | refine T.seq ?_
    | refine T.block ?_
    | refine T.skip ?_
    | refine T.exit ?_
  refine T.loopF (fun i : Nat => ⟨[(0, .l (eOps l)), (3, .i i)], [], []⟩) (fun i => l.length + 1 - i) (fun i => i ≤ l.length ∧ ∀ (j : Nat) o, j < i → l[j]? = some o → ownM o.kind o.a j l.length = true) (fun i hi => ?_) 0 (by simp) (by simp)
  obtain ⟨hi, he⟩ := hi
  by_cases hlen : l.length ≤ 120
  · have hz : (l.length : Int) ≤ 120 := by omega
    by_cases hlt : i < l.length
    · obtain ⟨o, ho⟩ := get_lt hlt
      repeat' first
        | (refine T.rs (fun _ => false) fun K hK => ?_; (repeat (refine aops_go ?_; simp [hlt, hz, hlen])); refine aops_end (hK _ ?_); clear hK)
        | (refine T.rs1 (fun _ => false) fun K hK => ?_; (repeat (refine aops_go ?_; simp [hlt, hz, hlen])); refine aops_end (hK _ ?_); clear hK)
        | refine T.cond rfl (fun hc => ?_) (fun hc => absurd hc (by decide))
        | refine T.cond rfl (fun hc => absurd hc (by decide)) (fun hc => ?_)
        | refine T.seq ?_
        | refine T.block ?_
        | refine T.skip ?_
        | refine T.exit ?_
      refine T.rs1 (fun _ => false) fun K hK => ?_
      repeat (refine aops_go ?_; simp [ho])
      refine wpcall_pure (by simp) (own_ok o i l.length (by omega) (by omega) (by omega) (by omega)) ?_
      simp
      repeat (refine aops_go ?_; simp)
      refine aops_end (hK _ ?_)
      clear hK
      refine T.cond rfl (fun hc => ?_) (fun hc => ?_)
      · repeat' first
          | (refine T.rs (fun _ => false) fun K hK => ?_; (repeat (refine aops_go ?_; simp)); refine aops_end (hK _ ?_); clear hK)
          | (refine T.rs1 (fun _ => false) fun K hK => ?_; (repeat (refine aops_go ?_; simp)); refine aops_end (hK _ ?_); clear hK)
          | refine T.cond rfl (fun hc => ?_) (fun hc => absurd hc (by decide))
          | refine T.cond rfl (fun hc => absurd hc (by decide)) (fun hc => ?_)
          | refine T.seq ?_
          | refine T.block ?_
          | refine T.skip ?_
          | refine T.exit ?_
        refine T.ret (Done.data (Or.inr rfl) ?_ ?_)
        · simp [Try.results12, validM]
          intro _ _ h
          have := h i o ho
          simp [this] at hc
        · simp
      · repeat' first
          | (refine T.rs (fun _ => false) fun K hK => ?_; (repeat (refine aops_go ?_; simp)); refine aops_end (hK _ ?_); clear hK)
          | (refine T.rs1 (fun _ => false) fun K hK => ?_; (repeat (refine aops_go ?_; simp)); refine aops_end (hK _ ?_); clear hK)
          | refine T.cond rfl (fun hc => ?_) (fun hc => absurd hc (by decide))
          | refine T.cond rfl (fun hc => absurd hc (by decide)) (fun hc => ?_)
          | refine T.seq ?_
          | refine T.block ?_
          | refine T.skip ?_
          | refine T.exit ?_
        refine ⟨i + 1, by dsimp only; omega, ⟨by omega, fun j p hj hp => ?_⟩, ?_⟩
        · by_cases e : j = i
          · subst e
            rw [ho] at hp; simp at hp; subst hp
            simpa using hc
          · exact he j p (by omega) hp
        · have hw : IntKind.i64.wrap ((i : Int) + 1) = i + 1 := wrap64 (by omega) (by omega)
          simp [hw]
    · have hi' : i = l.length := by omega
      subst hi'
      have hall : AllOwn l := fun j p hp => he j p (List.getElem?_eq_some_iff.1 hp).1 hp
      by_cases h1 : 1 ≤ l.length
      all_goals
        have hy : (1 ≤ (l.length : Int)) = (1 ≤ l.length) := by rw [eq_iff_iff]; omega
        repeat' first
          | (refine T.rs (fun _ => false) fun K hK => ?_; (repeat (refine aops_go ?_; simp [hlt, hz, hlen, h1, hy])); refine aops_end (hK _ ?_); clear hK)
          | (refine T.rs1 (fun _ => false) fun K hK => ?_; (repeat (refine aops_go ?_; simp [hlt, hz, hlen, h1, hy])); refine aops_end (hK _ ?_); clear hK)
          | refine T.cond rfl (fun hc => ?_) (fun hc => absurd hc (by decide))
          | refine T.cond rfl (fun hc => absurd hc (by decide)) (fun hc => ?_)
          | refine T.seq ?_
          | refine T.block ?_
          | refine T.skip ?_
          | refine T.exit ?_
        refine T.ret (Done.data (Or.inr rfl) ?_ ?_)
        · simp [Try.results12, validM, hall, hlen, h1]
        · simp
  · have hz : ¬ (l.length : Int) ≤ 120 := by omega
    have hno : validM l = false := by simp [validM, hlen]
    by_cases hlt : i < l.length
    all_goals
      have h1 : 1 ≤ (l.length : Int) := by omega
      repeat' first
        | (refine T.rs (fun _ => false) fun K hK => ?_; (repeat (refine aops_go ?_; simp [hlt, hz, hlen, h1])); refine aops_end (hK _ ?_); clear hK)
        | (refine T.rs1 (fun _ => false) fun K hK => ?_; (repeat (refine aops_go ?_; simp [hlt, hz, hlen, h1])); refine aops_end (hK _ ?_); clear hK)
        | refine T.cond rfl (fun hc => ?_) (fun hc => absurd hc (by decide))
        | refine T.cond rfl (fun hc => absurd hc (by decide)) (fun hc => ?_)
        | refine T.seq ?_
        | refine T.block ?_
        | refine T.skip ?_
        | refine T.exit ?_
      refine T.ret (Done.data (Or.inr rfl) ?_ ?_)
      · simp [Try.results12, hno]
      · simp

end Go.Proofs.Ytdbffbmbbfbamaa
