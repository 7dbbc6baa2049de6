/- The inferred type of a term is its general type with numbers for what is unknown. For all bytes; no condition. -/
import Derived.Test.YtloolmchekcmeaaGreatXE33
set_option linter.unusedVariables false
set_option linter.unusedSimpArgs false
namespace Go.Proofs.YtloolmchekcmeaaGreat
open Go Go.Av Go.ChangeShapes Go.WideShapes Go.ChangeAt Go.RowKit
set_option maxRecDepth 100000 in
theorem fnGeneralType_lifted (os : Os) (started : os.Started) (H : Type) (enc : TypeId × Value → H) :
    ReturnsInHanded {} Tryz.checked os 5 .any (Rows.fnGeneralTypeSpec.pre6 enc Tryz.prog Tryz.f5 Rows.fnGeneralTypeRow.domain false) (Rows.fnGeneralTypeSpec.post enc Tryz.prog Tryz.f5 false true false false) := by
  refine returnsInHanded_of_change (C := Tryz.checked) own started (by kernel_rfl) Tryz.func5
    (ChangeSpec.witness6 (enc := enc) (C := Tryz.checked) false ⟨#[], #[.slice none 0 0], []⟩ 8 (by kernel_rfl) (by kernel_rfl) (by kernel_rfl) (by kernel_rfl)) ?_
  intro W base args ds gs before C5 hW _ _
  refine DC (P := Tryz.prog) (S := [5, 22]) (by kernel_rfl) laidOut (by kernel_rfl) (tb := 4) (by kernel_rfl) Tryz.underlying4 rfl ?_ ?_ C5 hW
  · intro ds hd
    rw [show Tryz.f5.params.size = 1 by kernel_rfl] at hd
    match ds, hd with
    | [d0], _ => rfl
  · intro xs hx
    rw [Tryz.params5] at hx
    match xs, hx with
    | [x0], ⟨h0, _⟩ =>
      obtain ⟨b0, rfl, w0⟩ := Kk h0
      exact Fg b0 w0
theorem fnGeneralType_proved : Rows.FnGeneralTypeSaid :=
  OpenClaim.holds_of_wide 5 Tryz.f5 rfl rfl rfl rfl rfl rfl rfl ⟨rfl, rfl, rfl, rfl, rfl⟩ rfl rfl rfl rfl rfl (by kernel_rfl) Tryz.func5 (by kernel_rfl)
    (of_decide_eq_true (by kernel_rfl)) (by unfold Func.isWrapper; first | (rw [if_pos (by decide +kernel)]; kernel_rfl) | (rw [if_neg (by decide +kernel)]; exact ⟨rfl, rfl⟩))
    (fun os started H enc _ => fnGeneralType_lifted os started H enc)
end Go.Proofs.YtloolmchekcmeaaGreat
