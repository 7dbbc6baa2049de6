/- A part of the library of this seat: a value-semantic program logic over the model, plain models, and walks of functions. -/
import Derived.Test.YtjllgkglfabhaaaDoorF18
set_option linter.unusedVariables false
set_option linter.unusedSimpArgs false
namespace Go.Proofs.YtjllgkglfabhaaaDoor
attribute [-simp] Go.Av.astepJ Go.Av.relC Go.Av.relL Go.Av.relV Go.Av.relVs
open Go Go.Av
attribute [local irreducible] eCo
attribute [local simp] eCo_def

theorem ops_of_val {x : AV} (h : TyV Tryd.prog 43 x) : ∃ l : List MOp, x = .l (l.map eOp) ∧ l.length ≤ 9223372036854775807 := by
  have hu := Tryd.underlying43
  cases x with
  | c c =>
    cases c with
    | d d =>
      obtain ⟨_, h⟩ := h
      cases d with
      | sl rows =>
        simp only [TyD] at h
        obtain ⟨e, ls, h1, h2, h3, h4⟩ := h
        rw [hu] at h1
        simp at h1; subst h1
        have hl : leafs Tryd.prog 84 = some [3, 3] := by kernel_rfl
        rw [hl] at h2
        simp at h2; subst h2
        have hr : ∀ r ∈ rows, ∃ o, r = eOp o ∧ True := fun r hr => by
          have ht := h4.at_ r hr
          match r, ht, ht.len with
          | [a, b], ht, _ =>
            obtain ⟨n, rfl, _⟩ := int_of ht.1
            obtain ⟨m, rfl, _⟩ := int_of ht.2.1
            exact ⟨⟨n, m⟩, rfl, trivial⟩
        obtain ⟨l, rfl, _⟩ := rows_map hr
        exact ⟨l, rfl, by simpa [Go.maxLen] using h3⟩
      | int k n => simp [TyD, hu] at h
      | bool b => simp [TyD, hu] at h
      | str s => simp [TyD, hu] at h
      | raw v => simp [TyD] at h
    | _ => exact h.elim
  | agg xs => simp [TyV, hu, agD] at h
  | tup xs => exact h.elim
end Go.Proofs.YtjllgkglfabhaaaDoor
