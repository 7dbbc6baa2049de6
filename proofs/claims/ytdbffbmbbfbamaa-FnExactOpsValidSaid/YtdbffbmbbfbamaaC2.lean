/- The given statement of OpsValid, from its abstract contract. -/
import Derived.Test.YtdbffbmbbfbamaaW4
import Derived.Test.YtdbffbmbbfbamaaD1
namespace Go.Proofs.Ytdbffbmbbfbamaa
open Go Go.Av Go.ChangeShapes Go.WideShapes Go.ChangeAt Go.RowKit

set_option maxRecDepth 100000 in
theorem opsValid_lifted (os : Os) (started : os.Started) (H : Type) (enc : TypeId × Value → H) :
    ReturnsInHanded {} Try.checked os 4 .any (Rows.fnExactOpsValidSpec.pre6 enc Try.prog Try.f4 Rows.fnExactOpsValidRow.domain false) (Rows.fnExactOpsValidSpec.post enc Try.prog Try.f4 false true false false) := by
  refine returnsInHanded_of_change (C := Try.checked) own started (by kernel_rfl) Try.func4
    (ChangeSpec.witness6 (enc := enc) (C := Try.checked) false ⟨#[], #[.slice none 0 0], []⟩ 8 (by kernel_rfl) (by kernel_rfl) (by kernel_rfl) (by kernel_rfl)) ?_
  intro W base args ds gs before hval hW _ _
  refine contract_of_acalls (P := Try.prog) (S := [22, 3]) (by kernel_rfl) laidOut (by kernel_rfl) (tb := 4) (by kernel_rfl) Try.underlying4 rfl ?_ ?_ hval hW
  · intro ds hd
    rw [show Try.f4.params.size = 1 by kernel_rfl] at hd
    match ds, hd with
    | [d1], _ => rfl
  · intro xs hx
    rw [Try.params4] at hx
    match xs, hx with
    | [x], ⟨h1, _⟩ =>
      obtain ⟨l, rfl, hl⟩ := ops_of_val h1
      exact valid_law_ok l hl

theorem fnExactOpsValid_proved : Rows.FnExactOpsValidSaid :=
  OpenClaim.holds_of_wide 4 Try.f4 rfl rfl rfl rfl rfl rfl rfl ⟨rfl, rfl, rfl, rfl, rfl⟩ rfl rfl rfl rfl rfl (by kernel_rfl) Try.func4 (by kernel_rfl)
    (of_decide_eq_true (by kernel_rfl)) (by unfold Func.isWrapper; first | (rw [if_pos (by decide +kernel)]; kernel_rfl) | (rw [if_neg (by decide +kernel)]; exact ⟨rfl, rfl⟩))
    (fun os started H enc _ => opsValid_lifted os started H enc)

end Go.Proofs.Ytdbffbmbbfbamaa
