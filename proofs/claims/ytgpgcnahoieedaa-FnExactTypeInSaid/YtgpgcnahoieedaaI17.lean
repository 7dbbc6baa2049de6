/- A part of the library of this seat: a value-semantic program logic over the model, plain models, and walks of functions. -/
import Derived.Test.YtgpgcnahoieedaaI16
set_option linter.unusedVariables false
set_option linter.unusedSimpArgs false
namespace Go.Proofs.Ytgpgcnahoieedaa
attribute [-simp] Go.Av.astepJ Go.Av.relC Go.Av.relL Go.Av.relV Go.Av.relVs Go.Av.callJ
open Go Go.Av
attribute [local irreducible] T ACalls TX EX LX Draws Some_ ACallsX eTy eTm MTy.kind MTy.kids MTm.kind MTm.name MTm.num MTm.ty MTm.fr MTm.label MTm.kids
attribute [local simp] eTy_def eTm_def
set_option maxHeartbeats 16000000
set_option maxRecDepth 8000

theorem bds_of_val {x : AV} (h : TyV Try.prog 43 x) : ∃ l : List MBd, x = .l (l.map eBd) ∧ l.length ≤ 9223372036854775807 ∧ ∀ b ∈ l, wBd b := by
  have hu := Try.underlying43
  cases x with
  | c c =>
    cases c with
    | d d =>
      obtain ⟨_, h⟩ := h
      cases d with
      | sl rows =>
        simp only [TyD] at h
        obtain ⟨e, ls, h1, h2, h3, h4⟩ := h
        rw [hu] at h1
        simp at h1; subst h1
        have hl : leafs Try.prog 66 = some [9, 3, 22] := by kernel_rfl
        rw [hl] at h2
        simp at h2; subst h2
        have hr : ∀ r ∈ rows, ∃ b : MBd, r = eBd b ∧ wBd b := fun r hr => by
          have ht := h4.at_ r hr
          match r, ht, ht.len with
          | [a, b, c], ht, _ =>
            obtain ⟨s, rfl, hs⟩ := str_of ht.1
            obtain ⟨n, rfl, _⟩ := int_of ht.2.1
            obtain ⟨l, rfl, hl, hw⟩ := tys_of c ht.2.2.1
            exact ⟨⟨s, .mk n l⟩, by simp only [eBd, MTy.kind_mk, MTy.kids_mk], hs, by rw [wTy_def, MTy.kids_mk]; exact ⟨hl, hw⟩⟩
        obtain ⟨l, rfl, hw⟩ := rows_map hr
        exact ⟨l, rfl, by simpa [Go.maxLen] using h3, hw⟩
      | int k n => simp [TyD, hu] at h
      | bool b => simp [TyD, hu] at h
      | str s => simp [TyD, hu] at h
      | raw v => simp [TyD] at h
    | _ => exact h.elim
  | agg xs => simp [TyV, hu, agD] at h
  | tup xs => exact h.elim
end Go.Proofs.Ytgpgcnahoieedaa
