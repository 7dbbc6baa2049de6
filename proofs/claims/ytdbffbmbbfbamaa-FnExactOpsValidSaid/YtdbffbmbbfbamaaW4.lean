import Derived.Test.YtdbffbmbbfbamaaW3
namespace Go.Proofs.Ytdbffbmbbfbamaa
open Go Go.Av
attribute [local irreducible] T
set_option linter.unusedSimpArgs false
set_option linter.unusedVariables false

theorem own_eq (k a i n : Int) (hi : 0 ≤ i) : (withinM k 1 13 && withinM a 0 (mostM k (n - 1 - i))) = ownM k a i n := by
  rw [Bool.eq_iff_iff]
  by_cases k1 : k = 1
  · subst k1; simp [withinM, mostM, ownM]
  by_cases k2 : k = 2
  · subst k2; simp [withinM, mostM, ownM]; omega
  by_cases k3 : k = 3
  · subst k3; simp [withinM, mostM, ownM]; omega
  by_cases k4 : k = 4
  · subst k4; simp [withinM, mostM, ownM]; omega
  by_cases k5 : k = 9
  · subst k5; simp [withinM, mostM, ownM]; omega
  by_cases k6 : k = 10
  · subst k6; simp [withinM, mostM, ownM]; omega
  simp [withinM, mostM, ownM, k1, k2, k3, k4, k5, k6]; omega

theorem set_end {α : Type} (V : List α) (z x : α) : (V ++ [z]).set V.length x = V ++ [x] := by simp

theorem implValid_ok (l : List MOp) (hl : l.length ≤ 1048576) : ACalls Try.prog 13 [.l (eOps l)] [] (.b (validM l)) [] [] := by
  refine ACalls.of_body Try.func13 (by kernel_rfl) rfl (by kernel_rfl) (by simp [Try.ntmps13]) (by simp) ?_
  rw [Try.ntmps13]
  repeat' first
    | (refine T.rs (fun _ => false) fun K hK => ?_; (repeat (refine aops_go ?_; simp)); refine aops_end (hK _ ?_); clear hK)
    | (refine T.rs1 (fun _ => false) fun K hK => ?_; (repeat (refine aops_go ?_; simp)); refine aops_end (hK _ ?_); clear hK)
    | refine T.cond rfl (fun hc => ?_) (fun hc => absurd hc (by decide))
    | refine T.cond rfl (fun hc => absurd hc (by decide)) (fun hc => ?_)
    | refine T.seq ?_
    | refine T.block ?_
    | refine T.skip ?_
    | refine T.exit ?_
  refine T.loopF (fun p : Nat × List (List CV) => ⟨[(0, .l (eOps l)), (5, .l (eOps l)), (6, .i l.length), (7, .i p.1)], p.2, []⟩) (fun p => l.length + 1 - p.1) (fun p => p.1 ≤ l.length ∧ ∀ (j : Nat) o, j < p.1 → l[j]? = some o → ownM o.kind o.a j l.length = true) (fun p hp => ?_) (0, []) (by simp) (by simp)
  obtain ⟨i, V⟩ := p
  obtain ⟨hi, he⟩ := hp
  simp only at hi he ⊢
  by_cases hlt : i < l.length
  · obtain ⟨o, ho⟩ := get_lt hlt
    have hoi : l[i] = o := by rw [List.getElem?_eq_getElem hlt] at ho; exact Option.some.inj ho
    repeat' first
      | (refine T.rs (fun _ => false) fun K hK => ?_; (repeat (refine aops_go ?_; simp [hlt, hoi, set_end])); refine aops_end (hK _ ?_); clear hK)
      | (refine T.rs1 (fun _ => false) fun K hK => ?_; (repeat (refine aops_go ?_; simp [hlt, hoi, set_end])); refine aops_end (hK _ ?_); clear hK)
      | refine T.cond rfl (fun hc => ?_) (fun hc => absurd hc (by decide))
      | refine T.cond rfl (fun hc => absurd hc (by decide)) (fun hc => ?_)
      | refine T.seq ?_
      | refine T.block ?_
      | refine T.skip ?_
      | refine T.exit ?_
    clear K
    have hws : IntKind.i64.wrap (IntKind.i64.wrap ((l.length : Int) - 1) - i) = l.length - 1 - i := by
      rw [wrap64 (n := (l.length : Int) - 1) (by omega) (by omega)]
      exact wrap64 (by omega) (by omega)
    refine T.rd1 mixed (fun _ => false) [] (by kernel_rfl) fun K hK => ?_
    repeat (refine aopsD_go ?_; simp)
    refine wpcall_pure (by simp) (within_ok o.kind 1 13) ?_
    simp
    have hoe := own_eq o.kind o.a i l.length (by omega)
    by_cases h1 : withinM o.kind 1 13 = true
    · repeat (refine aopsD_go ?_; simp [h1])
      rw [hws]
      refine wpcall_pure (by simp) (mostA_ok o.kind ((l.length : Int) - 1 - i)) ?_
      simp
      repeat (refine aopsD_go ?_; simp [h1])
      refine wpcall_pure (by simp) (within_ok o.a 0 (mostM o.kind ((l.length : Int) - 1 - i))) ?_
      simp
      have h2 : withinM o.a 0 (mostM o.kind ((l.length : Int) - 1 - i)) = ownM o.kind o.a i l.length := by rw [← hoe, h1]; simp
      rw [h2]
      repeat (refine aopsD_go ?_; simp [h1])
      refine aopsD_end (hK _ ?_)
      clear hK
      refine T.cond rfl (fun hc => ?_) (fun hc => ?_)
      · repeat' first
          | (refine T.rs (fun _ => false) fun K hK => ?_; (repeat (refine aops_go ?_; simp)); refine aops_end (hK _ ?_); clear hK)
          | (refine T.rs1 (fun _ => false) fun K hK => ?_; (repeat (refine aops_go ?_; simp)); refine aops_end (hK _ ?_); clear hK)
          | refine T.cond rfl (fun hc => ?_) (fun hc => absurd hc (by decide))
          | refine T.cond rfl (fun hc => absurd hc (by decide)) (fun hc => ?_)
          | refine T.seq ?_
          | refine T.block ?_
          | refine T.skip ?_
          | refine T.exit ?_
        refine T.ret (Done.data (Or.inr rfl) ?_ ?_)
        · simp [Try.results13, validM]
          intro _ _ h
          have := h i o ho
          simp [this] at hc
        · simp
      · repeat' first
          | (refine T.rs (fun _ => false) fun K hK => ?_; (repeat (refine aops_go ?_; simp)); refine aops_end (hK _ ?_); clear hK)
          | (refine T.rs1 (fun _ => false) fun K hK => ?_; (repeat (refine aops_go ?_; simp)); refine aops_end (hK _ ?_); clear hK)
          | refine T.cond rfl (fun hc => ?_) (fun hc => absurd hc (by decide))
          | refine T.cond rfl (fun hc => absurd hc (by decide)) (fun hc => ?_)
          | refine T.seq ?_
          | refine T.block ?_
          | refine T.skip ?_
          | refine T.exit ?_
        refine ⟨(i + 1, V ++ [[.d (.i o.kind), .d (.i o.a)]]), by dsimp only; omega, ⟨by dsimp only; omega, fun j p hj hp => ?_⟩, ?_⟩
        · dsimp only at hj
          by_cases e : j = i
          · subst e
            rw [ho] at hp; simp at hp; subst hp
            simpa using hc
          · exact he j p (by omega) hp
        · have hw : IntKind.i64.wrap ((i : Int) + 1) = i + 1 := wrap64 (by omega) (by omega)
          simp [hw]
    · have h2 : ownM o.kind o.a i l.length = false := by rw [← hoe]; simp [h1]
      simp only [Bool.not_eq_true] at h1
      repeat (refine aopsD_go ?_; simp [h1])
      refine aopsD_end (hK _ ?_)
      clear hK
      repeat' first
        | (refine T.rs (fun _ => false) fun K hK => ?_; (repeat (refine aops_go ?_; simp)); refine aops_end (hK _ ?_); clear hK)
        | (refine T.rs1 (fun _ => false) fun K hK => ?_; (repeat (refine aops_go ?_; simp)); refine aops_end (hK _ ?_); clear hK)
        | refine T.cond rfl (fun hc => ?_) (fun hc => absurd hc (by decide))
        | refine T.cond rfl (fun hc => absurd hc (by decide)) (fun hc => ?_)
        | refine T.seq ?_
        | refine T.block ?_
        | refine T.skip ?_
        | refine T.exit ?_
      refine T.ret (Done.data (Or.inr rfl) ?_ ?_)
      · simp [Try.results13, validM]
        intro _ _ h
        have := h i o ho
        simp [this] at h2
      · simp
  · have hi' : i = l.length := by omega
    subst hi'
    have hall : AllOwn l := fun j p hp => he j p (List.getElem?_eq_some_iff.1 hp).1 hp
    repeat' first
      | (refine T.rs (fun _ => false) fun K hK => ?_; (repeat (refine aops_go ?_; simp [hlt])); refine aops_end (hK _ ?_); clear hK)
      | (refine T.rs1 (fun _ => false) fun K hK => ?_; (repeat (refine aops_go ?_; simp [hlt])); refine aops_end (hK _ ?_); clear hK)
      | refine T.cond rfl (fun hc => ?_) (fun hc => absurd hc (by decide))
      | refine T.cond rfl (fun hc => absurd hc (by decide)) (fun hc => ?_)
      | refine T.seq ?_
      | refine T.block ?_
      | refine T.skip ?_
      | refine T.exit ?_
    refine T.rs1 (fun _ => false) fun K hK => ?_
    repeat (refine aops_go ?_; simp)
    refine wpcall_pure (by simp) (within_ok l.length 1 120) ?_
    simp
    repeat (refine aops_go ?_; simp)
    refine aops_end (hK _ ?_)
    refine T.ret (Done.data (Or.inr rfl) ?_ ?_)
    · simp [Try.results13, validM, hall, withinM]
      rw [Bool.eq_iff_iff]; simp; omega
    · simp

theorem valid_law_ok (l : List MOp) (hl : l.length ≤ 9223372036854775807) : ACalls Try.prog 4 [.l (eOps l)] [] (.b true) [] [] := by
  refine ACalls.of_body Try.func4 (by kernel_rfl) rfl (by kernel_rfl) (by simp [Try.ntmps4]) (by simp) ?_
  rw [Try.ntmps4]
  repeat' first
    | (refine T.rs (fun _ => false) fun K hK => ?_; (repeat (refine aops_go ?_; simp)); refine aops_end (hK _ ?_); clear hK)
    | (refine T.rs1 (fun _ => false) fun K hK => ?_; (repeat (refine aops_go ?_; simp)); refine aops_end (hK _ ?_); clear hK)
    | refine T.cond rfl (fun hc => ?_) (fun hc => absurd hc (by decide))
    | refine T.cond rfl (fun hc => absurd hc (by decide)) (fun hc => ?_)
    | refine T.seq ?_
    | refine T.block ?_
    | refine T.skip ?_
    | refine T.exit ?_
  refine T.rs1 (fun _ => false) fun K hK => ?_
  repeat (refine aops_go ?_; simp)
  refine wpcall_pure (by simp) (szOpS_ok l 1048576) ?_
  simp
  repeat (refine aops_go ?_; simp)
  refine aops_end (hK _ ?_)
  clear hK
  repeat' first
    | (refine T.rs (fun _ => false) fun K hK => ?_; (repeat (refine aops_go ?_; simp)); refine aops_end (hK _ ?_); clear hK)
    | (refine T.rs1 (fun _ => false) fun K hK => ?_; (repeat (refine aops_go ?_; simp)); refine aops_end (hK _ ?_); clear hK)
    | refine T.cond rfl (fun hc => ?_) (fun hc => absurd hc (by decide))
    | refine T.cond rfl (fun hc => absurd hc (by decide)) (fun hc => ?_)
    | refine T.seq ?_
    | refine T.block ?_
    | refine T.skip ?_
    | refine T.exit ?_
  refine T.cond rfl (fun hb => ?_) (fun hb => ?_)
  · repeat' first
      | (refine T.rs (fun _ => false) fun K hK => ?_; (repeat (refine aops_go ?_; simp)); refine aops_end (hK _ ?_); clear hK)
      | (refine T.rs1 (fun _ => false) fun K hK => ?_; (repeat (refine aops_go ?_; simp)); refine aops_end (hK _ ?_); clear hK)
      | refine T.cond rfl (fun hc => ?_) (fun hc => absurd hc (by decide))
      | refine T.cond rfl (fun hc => absurd hc (by decide)) (fun hc => ?_)
      | refine T.seq ?_
      | refine T.block ?_
      | refine T.skip ?_
      | refine T.exit ?_
    refine T.ret (Done.data (Or.inr rfl) ?_ ?_) <;> simp [Try.results4]
  have h1 : l.length ≤ 1048576 := by
    have hw : IntKind.i64.wrap (1048576 - (l.length : Int)) = 1048576 - l.length := wrap64 (by omega) (by omega)
    simp only [szOpS, hw, decide_eq_false_iff_not] at hb ⊢
    split at hb <;> omega
  clear hb
  repeat' first
    | (refine T.rs (fun _ => false) fun K hK => ?_; (repeat (refine aops_go ?_; simp)); refine aops_end (hK _ ?_); clear hK)
    | (refine T.rs1 (fun _ => false) fun K hK => ?_; (repeat (refine aops_go ?_; simp)); refine aops_end (hK _ ?_); clear hK)
    | refine T.cond rfl (fun hc => ?_) (fun hc => absurd hc (by decide))
    | refine T.cond rfl (fun hc => absurd hc (by decide)) (fun hc => ?_)
    | refine T.seq ?_
    | refine T.block ?_
    | refine T.skip ?_
    | refine T.exit ?_
  refine T.rs1 (fun _ => false) fun K hK => ?_
  repeat (refine aops_go ?_; simp)
  refine wpcall_pure (by simp) (toOpS_ok l h1) ?_
  simp
  repeat (refine aops_go ?_; simp)
  refine wpcall_pure (by simp) (specValid_ok l h1) ?_
  simp
  repeat (refine aops_go ?_; simp)
  refine aops_end (hK _ ?_)
  clear hK
  repeat' first
    | (refine T.rs (fun _ => false) fun K hK => ?_; (repeat (refine aops_go ?_; simp)); refine aops_end (hK _ ?_); clear hK)
    | (refine T.rs1 (fun _ => false) fun K hK => ?_; (repeat (refine aops_go ?_; simp)); refine aops_end (hK _ ?_); clear hK)
    | refine T.cond rfl (fun hc => ?_) (fun hc => absurd hc (by decide))
    | refine T.cond rfl (fun hc => absurd hc (by decide)) (fun hc => ?_)
    | refine T.seq ?_
    | refine T.block ?_
    | refine T.skip ?_
    | refine T.exit ?_
  refine T.rs1 (fun _ => false) fun K hK => ?_
  repeat (refine aops_go ?_; simp)
  refine wpcall_pure (by simp) (toOpS_ok l h1) ?_
  simp
  repeat (refine aops_go ?_; simp)
  refine aops_end (hK _ ?_)
  clear hK
  repeat' first
    | (refine T.rs (fun _ => false) fun K hK => ?_; (repeat (refine aops_go ?_; simp)); refine aops_end (hK _ ?_); clear hK)
    | (refine T.rs1 (fun _ => false) fun K hK => ?_; (repeat (refine aops_go ?_; simp)); refine aops_end (hK _ ?_); clear hK)
    | refine T.cond rfl (fun hc => ?_) (fun hc => absurd hc (by decide))
    | refine T.cond rfl (fun hc => absurd hc (by decide)) (fun hc => ?_)
    | refine T.seq ?_
    | refine T.block ?_
    | refine T.skip ?_
    | refine T.exit ?_
  refine T.rs1 (fun _ => false) fun K hK => ?_
  repeat (refine aops_go ?_; simp)
  refine wpcall_pure (by simp) (implValid_ok l h1) ?_
  simp
  repeat (refine aops_go ?_; simp)
  refine aops_end (hK _ ?_)
  clear hK
  repeat' first
    | (refine T.rs (fun _ => false) fun K hK => ?_; (repeat (refine aops_go ?_; simp)); refine aops_end (hK _ ?_); clear hK)
    | (refine T.rs1 (fun _ => false) fun K hK => ?_; (repeat (refine aops_go ?_; simp)); refine aops_end (hK _ ?_); clear hK)
    | refine T.cond rfl (fun hc => ?_) (fun hc => absurd hc (by decide))
    | refine T.cond rfl (fun hc => absurd hc (by decide)) (fun hc => ?_)
    | refine T.seq ?_
    | refine T.block ?_
    | refine T.skip ?_
    | refine T.exit ?_
  refine T.rs1 (fun _ => false) fun K hK => ?_
  repeat (refine aops_go ?_; simp)
  refine wpcall_pure (by simp) (toOpS_ok l h1) ?_
  simp
  repeat (refine aops_go ?_; simp)
  refine wpcall_pure (by simp) (eqOpS_ok l l h1) ?_
  simp
  repeat (refine aops_go ?_; simp)
  refine aops_end (hK _ ?_)
  clear hK
  repeat' first
    | (refine T.rs (fun _ => false) fun K hK => ?_; (repeat (refine aops_go ?_; simp)); refine aops_end (hK _ ?_); clear hK)
    | (refine T.rs1 (fun _ => false) fun K hK => ?_; (repeat (refine aops_go ?_; simp)); refine aops_end (hK _ ?_); clear hK)
    | refine T.cond rfl (fun hc => ?_) (fun hc => absurd hc (by decide))
    | refine T.cond rfl (fun hc => absurd hc (by decide)) (fun hc => ?_)
    | refine T.seq ?_
    | refine T.block ?_
    | refine T.skip ?_
    | refine T.exit ?_
  refine T.ret (Done.data (Or.inr rfl) ?_ ?_) <;> simp [Try.results4]

end Go.Proofs.Ytdbffbmbbfbamaa
