/- Arguments that are sequences of operations, decoded. -/
import Derived.Test.YtdbffbmbbfbamaaRows
import Derived.Test.YtdbffbmbbfbamaaW1
import Derived.Test.YtdbffbmbbfbamaaB1
namespace Go.Proofs.Ytdbffbmbbfbamaa
open Go Go.Av Go.ChangeShapes Go.WideShapes Go.ChangeAt Go.RowKit

theorem ops_of_rows : ∀ (rows : List (List DV)), TyRows Try.prog [3, 3] rows → ∃ l : List MOp, rows = eOps l
  | [], _ => ⟨[], rfl⟩
  | r :: rs, h => by
    obtain ⟨h1, h2⟩ := h
    obtain ⟨l, rfl⟩ := ops_of_rows rs h2
    have hi : ∀ x, TyD Try.prog 3 x → ∃ n, x = .i n := by
      intro x hx
      cases x with
      | int k n =>
        simp only [TyD] at hx
        rw [Try.underlying3] at hx
        obtain ⟨e, _⟩ := hx
        simp at e; subst e
        exact ⟨n, rfl⟩
      | bool b => simp [TyD, Try.underlying3] at hx
      | str s => simp [TyD, Try.underlying3] at hx
      | sl rows => simp [TyD, Try.underlying3] at hx
    have hl := TyRow.len h1
    match r, h1, hl with
    | [x, y], h1, _ =>
      obtain ⟨a, rfl⟩ := hi x h1.1
      obtain ⟨b, rfl⟩ := hi y h1.2.1
      exact ⟨⟨a, b⟩ :: l, rfl⟩

theorem ops_of_val {x : AV} (h : TyV Try.prog 22 x) : ∃ l : List MOp, x = .l (eOps l) ∧ l.length ≤ 9223372036854775807 := by
  have hu := Try.underlying22
  cases x with
  | c c =>
    cases c with
    | d d =>
      obtain ⟨_, h⟩ := h
      cases d with
      | sl rows =>
        simp only [TyD] at h
        obtain ⟨e, ls, h1, h2, h3, h4⟩ := h
        rw [hu] at h1
        simp at h1; subst h1
        have hl : leafs Try.prog 54 = some [3, 3] := by kernel_rfl
        rw [hl] at h2
        simp at h2; subst h2
        obtain ⟨l, rfl⟩ := ops_of_rows rows h4
        exact ⟨l, rfl, by simpa [Go.maxLen] using h3⟩
      | int k n => simp [TyD, hu] at h
      | bool b => simp [TyD, hu] at h
      | str s => simp [TyD, hu] at h
    | _ => exact h.elim
  | agg xs => simp [TyV, hu, agD] at h
  | tup xs => exact h.elim

theorem own : ownKnob Try.prog.godebug = none := by kernel_rfl
theorem laidOut : laidOutB Try.prog = true := by kernel_rfl

end Go.Proofs.Ytdbffbmbbfbamaa
