/- The given statement of OpsSame, from its abstract contract. -/
import Derived.Test.YtdbffbmbbfbamaaRows
import Derived.Test.YtdbffbmbbfbamaaW1
import Derived.Test.YtdbffbmbbfbamaaB1
namespace Go.Proofs.Ytdbffbmbbfbamaa
open Go Go.Av Go.ChangeShapes Go.WideShapes Go.ChangeAt Go.RowKit

theorem ops_of_rows : ∀ (rows : List (List DV)), TyRows Try.prog [3, 3] rows → ∃ l : List MOp, rows = eOps l
  | [], _ => ⟨[], rfl⟩
  | r :: rs, h => by
    obtain ⟨h1, h2⟩ := h
    obtain ⟨l, rfl⟩ := ops_of_rows rs h2
    have hi : ∀ x, TyD Try.prog 3 x → ∃ n, x = .i n := by
      intro x hx
      cases x with
      | int k n =>
        simp only [TyD] at hx
        rw [Try.underlying3] at hx
        obtain ⟨e, _⟩ := hx
        simp at e; subst e
        exact ⟨n, rfl⟩
      | bool b => simp [TyD, Try.underlying3] at hx
      | str s => simp [TyD, Try.underlying3] at hx
      | sl rows => simp [TyD, Try.underlying3] at hx
    have hl := TyRow.len h1
    match r, h1, hl with
    | [x, y], h1, _ =>
      obtain ⟨a, rfl⟩ := hi x h1.1
      obtain ⟨b, rfl⟩ := hi y h1.2.1
      exact ⟨⟨a, b⟩ :: l, rfl⟩

theorem ops_of_val {x : AV} (h : TyV Try.prog 22 x) : ∃ l : List MOp, x = .l (eOps l) ∧ l.length ≤ 9223372036854775807 := by
  have hu := Try.underlying22
  cases x with
  | c c =>
    cases c with
    | d d =>
      obtain ⟨_, h⟩ := h
      cases d with
      | sl rows =>
        simp only [TyD] at h
        obtain ⟨e, ls, h1, h2, h3, h4⟩ := h
        rw [hu] at h1
        simp at h1; subst h1
        have hl : leafs Try.prog 54 = some [3, 3] := by kernel_rfl
        rw [hl] at h2
        simp at h2; subst h2
        obtain ⟨l, rfl⟩ := ops_of_rows rows h4
        exact ⟨l, rfl, by simpa [Go.maxLen] using h3⟩
      | int k n => simp [TyD, hu] at h
      | bool b => simp [TyD, hu] at h
      | str s => simp [TyD, hu] at h
    | _ => exact h.elim
  | agg xs => simp [TyV, hu, agD] at h
  | tup xs => exact h.elim

theorem own : ownKnob Try.prog.godebug = none := by kernel_rfl
theorem laidOut : laidOutB Try.prog = true := by kernel_rfl

set_option maxRecDepth 100000 in
theorem opsSame_lifted (os : Os) (started : os.Started) (H : Type) (enc : TypeId × Value → H) :
    ReturnsInHanded {} Try.checked os 3 .any (Rows.fnExactOpsSameSpec.pre6 enc Try.prog Try.f3 Rows.fnExactOpsSameRow.domain false) (Rows.fnExactOpsSameSpec.post enc Try.prog Try.f3 false true false false) := by
  refine returnsInHanded_of_change (C := Try.checked) own started (by kernel_rfl) Try.func3
    (ChangeSpec.witness6 (enc := enc) (C := Try.checked) false ⟨#[], #[.slice none 0 0, .slice none 0 0], []⟩ 8 (by kernel_rfl) (by kernel_rfl) (by kernel_rfl) (by kernel_rfl)) ?_
  intro W base args ds gs before hval hW _ _
  refine contract_of_acalls (P := Try.prog) (S := [22, 3]) (by kernel_rfl) laidOut (by kernel_rfl) (tb := 4) (by kernel_rfl) Try.underlying4 rfl ?_ ?_ hval hW
  · intro ds hd
    rw [show Try.f3.params.size = 2 by kernel_rfl] at hd
    match ds, hd with
    | [d1, d2], _ => rfl
  · intro xs hx
    rw [Try.params3] at hx
    match xs, hx with
    | [x, y], ⟨h1, h2, _⟩ =>
      obtain ⟨l, rfl, hl⟩ := ops_of_val h1
      obtain ⟨m, rfl, hm⟩ := ops_of_val h2
      exact law_ok l m hl hm

theorem fnExactOpsSame_proved : Rows.FnExactOpsSameSaid :=
  OpenClaim.holds_of_wide 3 Try.f3 rfl rfl rfl rfl rfl rfl rfl ⟨rfl, rfl, rfl, rfl, rfl⟩ rfl rfl rfl rfl rfl (by kernel_rfl) Try.func3 (by kernel_rfl)
    (of_decide_eq_true (by kernel_rfl)) (by unfold Func.isWrapper; first | (rw [if_pos (by decide +kernel)]; kernel_rfl) | (rw [if_neg (by decide +kernel)]; exact ⟨rfl, rfl⟩))
    (fun os started H enc _ => opsSame_lifted os started H enc)

end Go.Proofs.Ytdbffbmbbfbamaa
