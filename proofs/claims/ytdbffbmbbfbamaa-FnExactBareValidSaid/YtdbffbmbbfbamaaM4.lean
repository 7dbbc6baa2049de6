/- The laws' own functions on types and terms: equality of equal ones. -/
import Derived.Test.YtdbffbmbbfbamaaM3
namespace Go.Proofs.Ytdbffbmbbfbamaa
open Go Go.Av
attribute [local irreducible] T
attribute [local simp] eTy_def eTm_def
set_option linter.unusedSimpArgs false
set_option linter.unusedVariables false

theorem eqTypeS_step (l : List MTy) (hl : l.length ≤ 1048576) (h : ∀ t ∈ l, ACalls Try.prog 34 [aTy t, aTy t] [] (.b true) [] []) : ACalls Try.prog 46 [.l (l.map eTy), .l (l.map eTy)] [] (.b true) [] [] := by
  refine ACalls.of_body Try.func46 (by kernel_rfl) rfl (by kernel_rfl) (by simp [Try.ntmps46]) (by simp) ?_
  rw [Try.ntmps46]
  repeat' first
    | (refine T.rs (fun _ => false) fun K hK => ?_; (repeat (refine aops_go ?_; simp)); refine aops_end (hK _ ?_); clear hK K)
    | (refine T.rs1 (fun _ => false) fun K hK => ?_; (repeat (refine aops_go ?_; simp)); refine aops_end (hK _ ?_); clear hK K)
    | refine T.cond rfl (fun hc => ?_) (fun hc => absurd hc (by decide))
    | refine T.cond rfl (fun hc => absurd hc (by decide)) (fun hc => ?_)
    | refine T.seq ?_
    | refine T.block ?_
    | refine T.skip ?_
    | refine T.exit ?_
  refine T.loopF (fun p : Nat => ⟨[(0, .l (l.map eTy)), (1, .l (l.map eTy)), (5, .i p)], [], []⟩) (fun p => l.length + 1 - p) (fun p => p ≤ l.length) (fun p hp => ?_) 0 (by simp) (by simp)
  by_cases hlt : p < l.length
  · obtain ⟨t, ht⟩ := get_lt hlt
    have htm : t ∈ l := List.mem_of_getElem? ht
    have hgt : l[p] = t := by rw [List.getElem?_eq_getElem hlt] at ht; exact Option.some.inj ht
    repeat' first
      | (refine T.rs (fun _ => false) fun K hK => ?_; (repeat (refine aops_go ?_; simp [hlt])); refine aops_end (hK _ ?_); clear hK K)
      | (refine T.rs1 (fun _ => false) fun K hK => ?_; (repeat (refine aops_go ?_; simp [hlt])); refine aops_end (hK _ ?_); clear hK K)
      | refine T.cond rfl (fun hc => ?_) (fun hc => absurd hc (by decide))
      | refine T.cond rfl (fun hc => absurd hc (by decide)) (fun hc => ?_)
      | refine T.seq ?_
      | refine T.block ?_
      | refine T.skip ?_
      | refine T.exit ?_
    refine T.rd1 mixed (fun _ => false) [] (by kernel_rfl) fun K hK => ?_
    repeat (refine aopsD_go ?_; simp [hlt, hgt])
    refine wpcall_pure (by simp) (h t htm) ?_
    simp
    repeat (refine aopsD_go ?_; simp)
    refine aopsD_end (hK _ ?_)
    clear hK K
    repeat' first
      | (refine T.rs (fun _ => false) fun K hK => ?_; (repeat (refine aops_go ?_; simp)); refine aops_end (hK _ ?_); clear hK K)
      | (refine T.rs1 (fun _ => false) fun K hK => ?_; (repeat (refine aops_go ?_; simp)); refine aops_end (hK _ ?_); clear hK K)
      | refine T.cond rfl (fun hc => ?_) (fun hc => absurd hc (by decide))
      | refine T.cond rfl (fun hc => absurd hc (by decide)) (fun hc => ?_)
      | refine T.seq ?_
      | refine T.block ?_
      | refine T.skip ?_
      | refine T.exit ?_
    refine ⟨p + 1, by dsimp only; omega, by omega, ?_⟩
    have hw2 : IntKind.i64.wrap ((p : Int) + 1) = p + 1 := wrap64 (by omega) (by omega)
    simp [hw2]
  · have hp' : p = l.length := by omega
    subst hp'
    repeat' first
      | (refine T.rs (fun _ => false) fun K hK => ?_; (repeat (refine aops_go ?_; simp [hlt])); refine aops_end (hK _ ?_); clear hK K)
      | (refine T.rs1 (fun _ => false) fun K hK => ?_; (repeat (refine aops_go ?_; simp [hlt])); refine aops_end (hK _ ?_); clear hK K)
      | refine T.cond rfl (fun hc => ?_) (fun hc => absurd hc (by decide))
      | refine T.cond rfl (fun hc => absurd hc (by decide)) (fun hc => ?_)
      | refine T.seq ?_
      | refine T.block ?_
      | refine T.skip ?_
      | refine T.exit ?_
    refine T.ret (Done.data (Or.inr rfl) ?_ ?_) <;> simp [Try.results46]

theorem eqTermS_step (l : List MTm) (hl : l.length ≤ 1048576) (h : ∀ t ∈ l, ACalls Try.prog 18 [aTm t, aTm t] [] (.b true) [] []) : ACalls Try.prog 35 [.l (l.map eTm), .l (l.map eTm)] [] (.b true) [] [] := by
  refine ACalls.of_body Try.func35 (by kernel_rfl) rfl (by kernel_rfl) (by simp [Try.ntmps35]) (by simp) ?_
  rw [Try.ntmps35]
  repeat' first
    | (refine T.rs (fun _ => false) fun K hK => ?_; (repeat (refine aops_go ?_; simp)); refine aops_end (hK _ ?_); clear hK K)
    | (refine T.rs1 (fun _ => false) fun K hK => ?_; (repeat (refine aops_go ?_; simp)); refine aops_end (hK _ ?_); clear hK K)
    | refine T.cond rfl (fun hc => ?_) (fun hc => absurd hc (by decide))
    | refine T.cond rfl (fun hc => absurd hc (by decide)) (fun hc => ?_)
    | refine T.seq ?_
    | refine T.block ?_
    | refine T.skip ?_
    | refine T.exit ?_
  refine T.loopF (fun p : Nat => ⟨[(0, .l (l.map eTm)), (1, .l (l.map eTm)), (5, .i p)], [], []⟩) (fun p => l.length + 1 - p) (fun p => p ≤ l.length) (fun p hp => ?_) 0 (by simp) (by simp)
  by_cases hlt : p < l.length
  · obtain ⟨t, ht⟩ := get_lt hlt
    have htm : t ∈ l := List.mem_of_getElem? ht
    have hgt : l[p] = t := by rw [List.getElem?_eq_getElem hlt] at ht; exact Option.some.inj ht
    repeat' first
      | (refine T.rs (fun _ => false) fun K hK => ?_; (repeat (refine aops_go ?_; simp [hlt])); refine aops_end (hK _ ?_); clear hK K)
      | (refine T.rs1 (fun _ => false) fun K hK => ?_; (repeat (refine aops_go ?_; simp [hlt])); refine aops_end (hK _ ?_); clear hK K)
      | refine T.cond rfl (fun hc => ?_) (fun hc => absurd hc (by decide))
      | refine T.cond rfl (fun hc => absurd hc (by decide)) (fun hc => ?_)
      | refine T.seq ?_
      | refine T.block ?_
      | refine T.skip ?_
      | refine T.exit ?_
    refine T.rd1 mixed (fun _ => false) [] (by kernel_rfl) fun K hK => ?_
    repeat (refine aopsD_go ?_; simp [hlt, hgt])
    refine wpcall_pure (by simp) (h t htm) ?_
    simp
    repeat (refine aopsD_go ?_; simp)
    refine aopsD_end (hK _ ?_)
    clear hK K
    repeat' first
      | (refine T.rs (fun _ => false) fun K hK => ?_; (repeat (refine aops_go ?_; simp)); refine aops_end (hK _ ?_); clear hK K)
      | (refine T.rs1 (fun _ => false) fun K hK => ?_; (repeat (refine aops_go ?_; simp)); refine aops_end (hK _ ?_); clear hK K)
      | refine T.cond rfl (fun hc => ?_) (fun hc => absurd hc (by decide))
      | refine T.cond rfl (fun hc => absurd hc (by decide)) (fun hc => ?_)
      | refine T.seq ?_
      | refine T.block ?_
      | refine T.skip ?_
      | refine T.exit ?_
    refine ⟨p + 1, by dsimp only; omega, by omega, ?_⟩
    have hw2 : IntKind.i64.wrap ((p : Int) + 1) = p + 1 := wrap64 (by omega) (by omega)
    simp [hw2]
  · have hp' : p = l.length := by omega
    subst hp'
    repeat' first
      | (refine T.rs (fun _ => false) fun K hK => ?_; (repeat (refine aops_go ?_; simp [hlt])); refine aops_end (hK _ ?_); clear hK K)
      | (refine T.rs1 (fun _ => false) fun K hK => ?_; (repeat (refine aops_go ?_; simp [hlt])); refine aops_end (hK _ ?_); clear hK K)
      | refine T.cond rfl (fun hc => ?_) (fun hc => absurd hc (by decide))
      | refine T.cond rfl (fun hc => absurd hc (by decide)) (fun hc => ?_)
      | refine T.seq ?_
      | refine T.block ?_
      | refine T.skip ?_
      | refine T.exit ?_
    refine T.ret (Done.data (Or.inr rfl) ?_ ?_) <;> simp [Try.results35]

theorem eqType_step (t : MTy) (h : ACalls Try.prog 46 [.l (t.kids.map eTy), .l (t.kids.map eTy)] [] (.b true) [] []) : ACalls Try.prog 34 [aTy t, aTy t] [] (.b true) [] [] := by
  refine ACalls.of_body Try.func34 (by kernel_rfl) rfl (by kernel_rfl) (by simp [Try.ntmps34]) (by simp) ?_
  rw [Try.ntmps34]
  repeat' first
    | (refine T.rs (fun _ => false) fun K hK => ?_; (repeat (refine aops_go ?_; simp)); refine aops_end (hK _ ?_); clear hK K)
    | (refine T.rs1 (fun _ => false) fun K hK => ?_; (repeat (refine aops_go ?_; simp)); refine aops_end (hK _ ?_); clear hK K)
    | refine T.cond rfl (fun hc => ?_) (fun hc => absurd hc (by decide))
    | refine T.cond rfl (fun hc => absurd hc (by decide)) (fun hc => ?_)
    | refine T.seq ?_
    | refine T.block ?_
    | refine T.skip ?_
    | refine T.exit ?_
  refine T.rs1 (fun _ => false) fun K hK => ?_
  repeat (refine aops_go ?_; simp)
  refine wpcall_pure (by simp) (h) ?_
  simp
  repeat (refine aops_go ?_; simp)
  refine aops_end (hK _ ?_)
  clear hK K
  repeat' first
    | (refine T.rs (fun _ => false) fun K hK => ?_; (repeat (refine aops_go ?_; simp)); refine aops_end (hK _ ?_); clear hK K)
    | (refine T.rs1 (fun _ => false) fun K hK => ?_; (repeat (refine aops_go ?_; simp)); refine aops_end (hK _ ?_); clear hK K)
    | refine T.cond rfl (fun hc => ?_) (fun hc => absurd hc (by decide))
    | refine T.cond rfl (fun hc => absurd hc (by decide)) (fun hc => ?_)
    | refine T.seq ?_
    | refine T.block ?_
    | refine T.skip ?_
    | refine T.exit ?_
  refine T.ret (Done.data (Or.inr rfl) ?_ ?_) <;> simp [Try.results34]

theorem eqType_ok : (t : MTy) → nTy t ≤ 1048576 → ACalls Try.prog 34 [aTy t, aTy t] [] (.b true) [] []
  | .mk k l, hn => by
    rw [nTy_def] at hn
    have hl := nTyS_len l
    exact eqType_step _ (eqTypeS_step l (by simp at hn; omega) (fun t ht => eqType_ok t (by have := nTyS_mem ht; simp at hn; omega)))
termination_by t => SizeOf.sizeOf t
decreasing_by have := List.sizeOf_lt_of_mem ht; simp; omega

theorem eqTypeS_ok (l : List MTy) (hn : nTyS l ≤ 1048576) : ACalls Try.prog 46 [.l (l.map eTy), .l (l.map eTy)] [] (.b true) [] [] :=
  eqTypeS_step l (by have := nTyS_len l; omega) (fun t ht => eqType_ok t (by have := nTyS_mem ht; omega))

theorem eqTerm_step (e : MTm) (ht : nTy e.ty ≤ 1048576) (hf : nTy e.fr ≤ 1048576) (h : ACalls Try.prog 35 [.l (e.kids.map eTm), .l (e.kids.map eTm)] [] (.b true) [] []) : ACalls Try.prog 18 [aTm e, aTm e] [] (.b true) [] [] := by
  refine ACalls.of_body Try.func18 (by kernel_rfl) rfl (by kernel_rfl) (by simp [Try.ntmps18]) (by simp) ?_
  rw [Try.ntmps18]
  repeat' first
    | (refine T.rs (fun _ => false) fun K hK => ?_; (repeat (refine aops_go ?_; simp)); refine aops_end (hK _ ?_); clear hK K)
    | (refine T.rs1 (fun _ => false) fun K hK => ?_; (repeat (refine aops_go ?_; simp)); refine aops_end (hK _ ?_); clear hK K)
    | refine T.cond rfl (fun hc => ?_) (fun hc => absurd hc (by decide))
    | refine T.cond rfl (fun hc => absurd hc (by decide)) (fun hc => ?_)
    | refine T.seq ?_
    | refine T.block ?_
    | refine T.skip ?_
    | refine T.exit ?_
  refine T.rs1 (fun _ => false) fun K hK => ?_
  repeat (refine aops_go ?_; simp)
  refine wpcall_pure (by simp) (eqType_ok e.ty ht) ?_
  simp
  repeat (refine aops_go ?_; simp)
  refine aops_end (hK _ ?_)
  clear hK K
  repeat' first
    | (refine T.rs (fun _ => false) fun K hK => ?_; (repeat (refine aops_go ?_; simp)); refine aops_end (hK _ ?_); clear hK K)
    | (refine T.rs1 (fun _ => false) fun K hK => ?_; (repeat (refine aops_go ?_; simp)); refine aops_end (hK _ ?_); clear hK K)
    | refine T.cond rfl (fun hc => ?_) (fun hc => absurd hc (by decide))
    | refine T.cond rfl (fun hc => absurd hc (by decide)) (fun hc => ?_)
    | refine T.seq ?_
    | refine T.block ?_
    | refine T.skip ?_
    | refine T.exit ?_
  refine T.rs1 (fun _ => false) fun K hK => ?_
  repeat (refine aops_go ?_; simp)
  refine wpcall_pure (by simp) (eqType_ok e.fr hf) ?_
  simp
  repeat (refine aops_go ?_; simp)
  refine aops_end (hK _ ?_)
  clear hK K
  repeat' first
    | (refine T.rs (fun _ => false) fun K hK => ?_; (repeat (refine aops_go ?_; simp)); refine aops_end (hK _ ?_); clear hK K)
    | (refine T.rs1 (fun _ => false) fun K hK => ?_; (repeat (refine aops_go ?_; simp)); refine aops_end (hK _ ?_); clear hK K)
    | refine T.cond rfl (fun hc => ?_) (fun hc => absurd hc (by decide))
    | refine T.cond rfl (fun hc => absurd hc (by decide)) (fun hc => ?_)
    | refine T.seq ?_
    | refine T.block ?_
    | refine T.skip ?_
    | refine T.exit ?_
  refine T.rs1 (fun _ => false) fun K hK => ?_
  repeat (refine aops_go ?_; simp)
  refine wpcall_pure (by simp) (h) ?_
  simp
  repeat (refine aops_go ?_; simp)
  refine aops_end (hK _ ?_)
  clear hK K
  repeat' first
    | (refine T.rs (fun _ => false) fun K hK => ?_; (repeat (refine aops_go ?_; simp)); refine aops_end (hK _ ?_); clear hK K)
    | (refine T.rs1 (fun _ => false) fun K hK => ?_; (repeat (refine aops_go ?_; simp)); refine aops_end (hK _ ?_); clear hK K)
    | refine T.cond rfl (fun hc => ?_) (fun hc => absurd hc (by decide))
    | refine T.cond rfl (fun hc => absurd hc (by decide)) (fun hc => ?_)
    | refine T.seq ?_
    | refine T.block ?_
    | refine T.skip ?_
    | refine T.exit ?_
  refine T.ret (Done.data (Or.inr rfl) ?_ ?_) <;> simp [Try.results18]

theorem eqTerm_ok : (e : MTm) → nTm e ≤ 1048576 → ACalls Try.prog 18 [aTm e, aTm e] [] (.b true) [] []
  | .mk k s n t f b l, hn => by
    rw [nTm_def] at hn
    have hl := nTmS_len l
    simp only [MTm.name_mk, MTm.ty_mk, MTm.fr_mk, MTm.kids_mk] at hn
    exact eqTerm_step _ (by simp; omega) (by simp; omega) (eqTermS_step l (by omega) (fun t ht => eqTerm_ok t (by have := nTmS_mem ht; omega)))
termination_by e => SizeOf.sizeOf e
decreasing_by have := List.sizeOf_lt_of_mem ht; simp; omega

theorem eqTermS_ok (l : List MTm) (hn : nTmS l ≤ 1048576) : ACalls Try.prog 35 [.l (l.map eTm), .l (l.map eTm)] [] (.b true) [] [] :=
  eqTermS_step l (by have := nTmS_len l; omega) (fun t ht => eqTerm_ok t (by have := nTmS_mem ht; omega))

end Go.Proofs.Ytdbffbmbbfbamaa
