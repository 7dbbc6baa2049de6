/- Coercions are read back from their texts. For all arguments; the library's variables hold what the program's text lays. -/
import Derived.Test.YtcgmmknfpfdghaaGreatDoorC36
import Derived.Test.YtcgmmknfpfdghaaGreatDoorCards
import Derived.Test.YtcgmmknfpfdghaaGreatDoorTie
import Derived.Lay
set_option linter.unusedVariables false
set_option linter.unusedSimpArgs false
namespace Go.Proofs.YtcgmmknfpfdghaaGreatDoor
open Go Go.Av Go.ChangeShapes Go.WideShapes Go.ChangeAt Go.RowKit

theorem star_fnCoercionText : "*" ++ "errors.errorString" = "*errors.errorString" := by decide
theorem fnCoercionText_rowE (u : TypeId) (h : Tryz.prog.typeName? 3 u = some "*errors.errorString") : u = 176 :=
  typeName_ptr_named (nm := "errors.errorString") (by rw [star_fnCoercionText]; kernel_rfl) (by kernel_rfl) (by decide) u (by rw [star_fnCoercionText]; exact h)
theorem fnCoercionText_errs {W : World} (hL : laidMetH Tryz.prog Rows.fnCoercionTextRow.laid W) : ∀ b ∈ tabE, b < W.heap.size ∧ b ≠ 3 ∧ ∃ cs ty mk te pe, W.heap[b]? = some (.cells cs ty mk) ∧ cs[0]? = some (.iface te pe) := by
  intro b hb
  have e0 := err_laid (text := [105, 110, 118, 97, 108, 105, 100, 32, 115, 121, 110, 116, 97, 120]) (nm := "strconv.ErrSyntax") (k := 1) (by kernel_rfl) (by kernel_rfl) (by kernel_rfl) Tryz.underlying53 fnCoercionText_rowE Tryz.underlying176 Tryz.underlying178 rfl rfl Tryz.underlying9 (by kernel_rfl) (by kernel_rfl) hL
  have e1 := err_laid (text := [118, 97, 108, 117, 101, 32, 111, 117, 116, 32, 111, 102, 32, 114, 97, 110, 103, 101]) (nm := "strconv.ErrRange") (k := 2) (by kernel_rfl) (by kernel_rfl) (by kernel_rfl) Tryz.underlying53 fnCoercionText_rowE Tryz.underlying176 Tryz.underlying178 rfl rfl Tryz.underlying9 (by kernel_rfl) (by kernel_rfl) hL
  have hc : b = 1 ∨ b = 2 := by simpa [tabE] using hb
  rcases hc with rfl | rfl
  · exact ⟨e0.1, by decide, e0.2⟩
  · exact ⟨e1.1, by decide, e1.2⟩

theorem fnCoercionText_met (os : Os) (args : Array Value) : laidMetH Tryz.prog Rows.fnCoercionTextRow.laid ((World.laidAll Tryz.prog os Rows.fnCoercionTextRow.laid).forCall (fun _ _ => 0) ⟨#[], args, []⟩).memory :=
  by rw [MakeChecks.laidMetH_plain _ _ _ (by kernel_rfl)]; exact laidMet_laidAll _ (by kernel_rfl) (by kernel_rfl)

set_option maxRecDepth 100000 in
theorem fnCoercionText_lifted (os : Os) (started : os.Started) (H : Type) (enc : TypeId × Value → H) :
    ReturnsInHanded {} Tryz.checked os 4 .any (fun w args => (Rows.fnCoercionTextSpec.pre enc Tryz.prog Tryz.f4 [] false w args ∧ laidMetH Tryz.prog Rows.fnCoercionTextRow.laid w) ∧ sizedMet enc Tryz.prog Tryz.f4 (OpenSpec.ofChange Rows.fnCoercionTextSpec) false w args)
      (Rows.fnCoercionTextSpec.post enc Tryz.prog Tryz.f4 false true false false) := by
  refine returnsInHanded_of_change_and (C := Tryz.checked) (X := fun w _ => laidMetH Tryz.prog Rows.fnCoercionTextRow.laid w) (fun _ _ _ hh h => h.of_heap hh) own started (by kernel_rfl) Tryz.func4
    (ChangeSpec.witness_shaped (enc := enc) (C := Tryz.checked) (os := os) (X := fun w _ => laidMetH Tryz.prog Rows.fnCoercionTextRow.laid w) false (World.laidAll Tryz.prog os Rows.fnCoercionTextRow.laid) #[.slice none 0 0, .slice none 0 0] 8 (World.laidAll_os _ _ _) (World.shaped_of_ZipB (by kernel_rfl) (by kernel_rfl)) (by kernel_rfl) (by kernel_rfl) (by kernel_rfl) (fnCoercionText_met os _)) ?_
  intro W base args ds gs before hval hW _ _ hL _
  refine contract_of_acallsT (P := Tryz.prog) (S := [5, 22]) (by kernel_rfl) laidOut (by kernel_rfl) (tb := 4) (by kernel_rfl) Tryz.underlying4 rfl ?_ ?_ hval hW (tab_of_laid (k := 3) (t := 182) (e := 154) rfl (by kernel_rfl) rfl (by kernel_rfl) (by kernel_rfl) (by kernel_rfl) (by kernel_rfl) (by kernel_rfl) hL (fnCoercionText_errs hL))
  · intro ds hd
    rw [show Tryz.f4.params.size = 2 by kernel_rfl] at hd
    match ds, hd with
    | [d0, d1], _ => rfl
  · intro xs hx
    rw [Tryz.params4] at hx
    match xs, hx with
    | [x0, x1], ⟨h0, h1, _⟩ =>
      obtain ⟨b0, rfl, w0⟩ := bytes_of_val h0
      obtain ⟨b1, rfl, w1⟩ := bytes_of_val h1
      exact lawCoercionText_ok b0 b1 w0 w1

theorem fnCoercionText_row : Rows.FnCoercionTextSaid :=
  OpenClaim.holds_of_wide 4 Tryz.f4 rfl rfl rfl rfl rfl rfl rfl ⟨rfl, rfl, rfl, rfl, rfl⟩ rfl rfl rfl rfl rfl (by kernel_rfl) Tryz.func4 (by kernel_rfl)
    (of_decide_eq_true (by kernel_rfl)) (by unfold Func.isWrapper; first | (rw [if_pos (by decide +kernel)]; kernel_rfl) | (rw [if_neg (by decide +kernel)]; exact ⟨rfl, rfl⟩))
    (fun os started H enc _ => fnCoercionText_lifted os started H enc)

theorem fnCoercionText_proved : Rows.FnCoercionTextCardSaid :=
  Claim7.holds_tied_plain_at .later [] [.data, .data, .data, .sentinel, .sentinel] true Rows.fnCoercionTextCard.stood.harness Rows.fnCoercionTextCard.stood.looks
    fnCoercionText_row (fun _ h => by cases h) (by kernel_rfl) (fun _ h => by cases h) fnCoercionText_row_tie rfl ⟨rfl, rfl⟩ (by kernel_rfl) rfl
    (fun f fn hf hfn => by
      obtain rfl : f = 4 := Option.some.inj ((show Tryz.prog.funcNamed "loop.example/gradual/laws.FnCoercionText" = some 4 by kernel_rfl).symm.trans hf) |>.symm
      obtain rfl : fn = Tryz.f4 := (Option.some.inj (Tryz.func4.symm.trans hfn)).symm
      exact ⟨by kernel_rfl, fun j t ht => by
        rw [Tryz.params4] at ht
        have hm : t ∈ [22, 22] := by simpa using Array.mem_of_getElem? ht
        have hall : ([22, 22].all fun u => !Tryz.prog.wantsStandIn u) = true := by kernel_rfl
        exact (show Tryz.prog.wantsStandIn t = false by simpa using List.all_eq_true.1 hall t hm)⟩)
    (by kernel_rfl)

end Go.Proofs.YtcgmmknfpfdghaaGreatDoor
