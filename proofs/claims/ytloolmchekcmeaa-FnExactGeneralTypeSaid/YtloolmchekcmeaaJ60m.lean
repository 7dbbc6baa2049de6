/- The program's GeneralType returns what the reference's returns. For all arguments; no condition. -/
import Derived.Test.YtloolmchekcmeaaK23
set_option linter.unusedVariables false
set_option linter.unusedSimpArgs false
namespace Go.Proofs.Ytloolmchekcmeaa
open Go Go.Av Go.ChangeShapes Go.WideShapes Go.ChangeAt Go.RowKit

set_option maxRecDepth 100000 in
theorem fnExactGeneralType_lifted (os : Os) (started : os.Started) (H : Type) (enc : TypeId × Value → H) :
    ReturnsInHanded {} Try.checked os 3 .any (Rows.fnExactGeneralTypeSpec.pre6 enc Try.prog Try.f3 Rows.fnExactGeneralTypeRow.domain false) (Rows.fnExactGeneralTypeSpec.post enc Try.prog Try.f3 false true false false) := by
  refine returnsInHanded_of_change (C := Try.checked) own started (by kernel_rfl) Try.func3
    (ChangeSpec.witness6 (enc := enc) (C := Try.checked) false ⟨#[], #[.agg #[.int .i64 0, .string ⟨#[]⟩, .int .i64 0, .int .i64 0, .slice none 0 0, .int .i64 0, .slice none 0 0, .int .i64 0, .slice none 0 0]], []⟩ 8 (by kernel_rfl) (by kernel_rfl) (by kernel_rfl) (by kernel_rfl)) ?_
  intro W base args ds gs before hval hW _ _
  refine contract_of_acalls (P := Try.prog) (S := [3, 9, 22, 25]) (by kernel_rfl) laidOut (by kernel_rfl) (tb := 4) (by kernel_rfl) Try.underlying4 rfl ?_ ?_ hval hW
  · intro ds hd
    rw [show Try.f3.params.size = 1 by kernel_rfl] at hd
    match ds, hd with
    | [d0], _ => rfl
  · intro xs hx
    rw [Try.params3] at hx
    match xs, hx with
    | [x0], ⟨h0, _⟩ =>
      obtain ⟨b0, rfl, w0⟩ := tm_of_val h0
      exact lawExactGeneralType_ok b0 w0

theorem fnExactGeneralType_proved : Rows.FnExactGeneralTypeSaid :=
  OpenClaim.holds_of_wide 3 Try.f3 rfl rfl rfl rfl rfl rfl rfl ⟨rfl, rfl, rfl, rfl, rfl⟩ rfl rfl rfl rfl rfl (by kernel_rfl) Try.func3 (by kernel_rfl)
    (of_decide_eq_true (by kernel_rfl)) (by unfold Func.isWrapper; first | (rw [if_pos (by decide +kernel)]; kernel_rfl) | (rw [if_neg (by decide +kernel)]; exact ⟨rfl, rfl⟩))
    (fun os started H enc _ => fnExactGeneralType_lifted os started H enc)

end Go.Proofs.Ytloolmchekcmeaa
