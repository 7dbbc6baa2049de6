/- A part of the library of this seat: a value-semantic program logic over the model, plain models, and walks of functions. -/
import Derived.Test.YtjllgkglfabhaaaDoorC13
set_option linter.unusedVariables false
set_option linter.unusedSimpArgs false
namespace Go.Proofs.YtjllgkglfabhaaaDoor
open Go Go.Av
attribute [local irreducible] eCo
attribute [local simp] eCo_def

theorem wCoS_of : ∀ {l : List MCo}, (∀ t ∈ l, wCo t) → wCoS l
  | [], _ => trivial
  | t :: r, h => ⟨h t (by simp), wCoS_of fun x hx => h x (by simp [hx])⟩

theorem cos_of : (x : DV) → TyD Tryd.prog 50 x → ∃ l : List MCo, x = .sl (l.map eCo) ∧ l.length ≤ 9223372036854775807 ∧ wCoS l
  | .int k n, h => by simp [TyD, Tryd.underlying50] at h
  | .bool b, h => by simp [TyD, Tryd.underlying50] at h
  | .str s, h => by simp [TyD, Tryd.underlying50] at h
  | .raw v, h => by simp [TyD] at h
  | .sl rows, h => by
    simp only [TyD] at h
    obtain ⟨e, ls, h1, h2, h3, h4⟩ := h
    rw [Tryd.underlying50] at h1
    simp at h1; subst h1
    have hl : leafs Tryd.prog 52 = some [3, 3, 3, 50] := by kernel_rfl
    rw [hl] at h2
    simp at h2; subst h2
    have hr : ∀ r ∈ rows, ∃ t, r = eCo t ∧ wCo t := fun r hr => by
      have ht := h4.at_ r hr
      match r, ht, ht.len with
      | [a, b, c, d], ht, _ =>
        obtain ⟨n, rfl, _⟩ := int_of ht.1
        obtain ⟨m, rfl, _⟩ := int_of ht.2.1
        obtain ⟨k, rfl, _⟩ := int_of ht.2.2.1
        obtain ⟨l, rfl, hl, hw⟩ := cos_of d ht.2.2.2.1
        exact ⟨.mk n m k l, by rw [eCo_def]; rfl, by rw [wCo_def]; exact ⟨hl, hw⟩⟩
    obtain ⟨l, rfl, hw⟩ := rows_map hr
    exact ⟨l, rfl, by simpa [Go.maxLen] using h3, wCoS_of hw⟩
termination_by x => SizeOf.sizeOf x
decreasing_by have h1 := List.sizeOf_lt_of_mem hr; simp at h1 ⊢; omega

theorem co_of_val {x : AV} (h : TyV Tryd.prog 52 x) : ∃ t, x = aCo t ∧ wCo t := by
  have hu := Tryd.underlying52
  cases x with
  | c c =>
    cases c with
    | d d => obtain ⟨h, _⟩ := h; rw [hu] at h; simp [agD] at h
    | _ => exact h.elim
  | agg xs =>
    obtain ⟨_, ls, ds, h2, rfl, ht⟩ := h
    have hl : leafs Tryd.prog 52 = some [3, 3, 3, 50] := by kernel_rfl
    rw [hl] at h2
    simp at h2; subst h2
    match ds, ht, ht.len with
    | [a, b, c, d], ht, _ =>
      obtain ⟨n, rfl, _⟩ := int_of ht.1
      obtain ⟨m, rfl, _⟩ := int_of ht.2.1
      obtain ⟨k, rfl, _⟩ := int_of ht.2.2.1
      obtain ⟨l, rfl, hl, hw⟩ := cos_of d ht.2.2.2.1
      exact ⟨.mk n m k l, rfl, by rw [wCo_def]; exact ⟨hl, hw⟩⟩
  | tup xs => exact h.elim

end Go.Proofs.YtjllgkglfabhaaaDoor
