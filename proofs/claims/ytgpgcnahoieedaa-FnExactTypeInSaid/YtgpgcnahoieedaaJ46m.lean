/- The program's TypeIn returns what the reference's returns. For all arguments; no condition. -/
import Derived.Test.YtgpgcnahoieedaaI17
set_option linter.unusedVariables false
set_option linter.unusedSimpArgs false
namespace Go.Proofs.Ytgpgcnahoieedaa
open Go Go.Av Go.ChangeShapes Go.WideShapes Go.ChangeAt Go.RowKit

theorem lawExactTypeIn_all (ctx : List MBd) (e : MTm) (hlc : ctx.length ≤ 9223372036854775807) (hwc : ∀ b ∈ ctx, wBd b) (hw : wTm e) : ACalls Try.prog 4 [.l (ctx.map eBd), aTm e] [] (.b true) [] [] := lawExactTypeIn_ok ctx hlc hwc e hw

set_option maxRecDepth 100000 in
theorem fnExactTypeIn_lifted (os : Os) (started : os.Started) (H : Type) (enc : TypeId × Value → H) :
    ReturnsInHanded {} Try.checked os 4 .any (Rows.fnExactTypeInSpec.pre6 enc Try.prog Try.f4 Rows.fnExactTypeInRow.domain false) (Rows.fnExactTypeInSpec.post enc Try.prog Try.f4 false true false false) := by
  refine returnsInHanded_of_change (C := Try.checked) own started (by kernel_rfl) Try.func4
    (ChangeSpec.witness6 (enc := enc) (C := Try.checked) false ⟨#[], #[.slice none 0 0, .agg #[.int .i64 0, .string ⟨#[]⟩, .int .i64 0, .int .i64 0, .slice none 0 0, .int .i64 0, .slice none 0 0, .int .i64 0, .slice none 0 0]], []⟩ 8 (by kernel_rfl) (by kernel_rfl) (by kernel_rfl) (by kernel_rfl)) ?_
  intro W base args ds gs before hval hW _ _
  refine contract_of_acalls (P := Try.prog) (S := [9, 3, 22, 43, 25]) (by kernel_rfl) laidOut (by kernel_rfl) (tb := 4) (by kernel_rfl) Try.underlying4 rfl ?_ ?_ hval hW
  · intro ds hd
    rw [show Try.f4.params.size = 2 by kernel_rfl] at hd
    match ds, hd with
    | [d0, d1], _ => rfl
  · intro xs hx
    rw [Try.params4] at hx
    match xs, hx with
    | [x0, x1], ⟨h0, h1, _⟩ =>
      obtain ⟨b0, rfl, w0, v0⟩ := bds_of_val h0
      obtain ⟨b1, rfl, w1⟩ := tm_of_val h1
      exact lawExactTypeIn_all b0 b1 w0 v0 w1

theorem fnExactTypeIn_proved : Rows.FnExactTypeInSaid :=
  OpenClaim.holds_of_wide 4 Try.f4 rfl rfl rfl rfl rfl rfl rfl ⟨rfl, rfl, rfl, rfl, rfl⟩ rfl rfl rfl rfl rfl (by kernel_rfl) Try.func4 (by kernel_rfl)
    (of_decide_eq_true (by kernel_rfl)) (by unfold Func.isWrapper; first | (rw [if_pos (by decide +kernel)]; kernel_rfl) | (rw [if_neg (by decide +kernel)]; exact ⟨rfl, rfl⟩))
    (fun os started H enc _ => fnExactTypeIn_lifted os started H enc)

end Go.Proofs.Ytgpgcnahoieedaa
