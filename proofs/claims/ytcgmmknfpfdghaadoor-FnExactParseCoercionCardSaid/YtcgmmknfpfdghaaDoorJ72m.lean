/- The program's ParseCoercion returns what the reference's returns. For all arguments; the library's variables hold what the program's text lays. -/
import Derived.Test.YtcgmmknfpfdghaaDoorA35
import Derived.Test.YtcgmmknfpfdghaaDoorCards
import Derived.Test.YtcgmmknfpfdghaaDoorTie
set_option linter.unusedVariables false
set_option linter.unusedSimpArgs false
namespace Go.Proofs.YtcgmmknfpfdghaaDoor
open Go Go.Av Go.ChangeShapes Go.WideShapes Go.ChangeAt Go.RowKit

theorem star_fnExactParseCoercion : "*" ++ "errors.errorString" = "*errors.errorString" := by decide
theorem fnExactParseCoercion_rowE (u : TypeId) (h : Tryd.prog.typeName? 3 u = some "*errors.errorString") : u = 120 :=
  typeName_ptr_named (nm := "errors.errorString") (by rw [star_fnExactParseCoercion]; kernel_rfl) (by kernel_rfl) (by decide) u (by rw [star_fnExactParseCoercion]; exact h)
theorem fnExactParseCoercion_errs {W : World} (hL : laidMetH Tryd.prog Rows.fnExactParseCoercionRow.laid W) : ∀ b ∈ tabE, b < W.heap.size ∧ b ≠ 3 ∧ ∃ cs ty mk te pe, W.heap[b]? = some (.cells cs ty mk) ∧ cs[0]? = some (.iface te pe) := by
  intro b hb
  have e0 := err_laid (text := [105, 110, 118, 97, 108, 105, 100, 32, 115, 121, 110, 116, 97, 120]) (nm := "strconv.ErrSyntax") (k := 1) (by kernel_rfl) (by kernel_rfl) (by kernel_rfl) Tryd.underlying60 fnExactParseCoercion_rowE Tryd.underlying120 Tryd.underlying122 rfl rfl Tryd.underlying9 (by kernel_rfl) (by kernel_rfl) hL
  have e1 := err_laid (text := [118, 97, 108, 117, 101, 32, 111, 117, 116, 32, 111, 102, 32, 114, 97, 110, 103, 101]) (nm := "strconv.ErrRange") (k := 2) (by kernel_rfl) (by kernel_rfl) (by kernel_rfl) Tryd.underlying60 fnExactParseCoercion_rowE Tryd.underlying120 Tryd.underlying122 rfl rfl Tryd.underlying9 (by kernel_rfl) (by kernel_rfl) hL
  have hc : b = 1 ∨ b = 2 := by simpa [tabE] using hb
  rcases hc with rfl | rfl
  · exact ⟨e0.1, by decide, e0.2⟩
  · exact ⟨e1.1, by decide, e1.2⟩

theorem fnExactParseCoercion_met (os : Os) (args : Array Value) : laidMetH Tryd.prog Rows.fnExactParseCoercionRow.laid ((World.laidAll Tryd.prog os Rows.fnExactParseCoercionRow.laid).forCall (fun _ _ => 0) ⟨#[], args, []⟩).memory :=
  by rw [MakeChecks.laidMetH_plain _ _ _ (by kernel_rfl)]; exact laidMet_laidAll _ (by kernel_rfl) (by kernel_rfl)

set_option maxRecDepth 100000 in
theorem fnExactParseCoercion_lifted (os : Os) (started : os.Started) (H : Type) (enc : TypeId × Value → H) :
    ReturnsInHanded {} Tryd.checked os 3 .any (fun w args => (Rows.fnExactParseCoercionSpec.pre enc Tryd.prog Tryd.f3 [] false w args ∧ laidMetH Tryd.prog Rows.fnExactParseCoercionRow.laid w) ∧ sizedMet enc Tryd.prog Tryd.f3 (OpenSpec.ofChange Rows.fnExactParseCoercionSpec) false w args)
      (Rows.fnExactParseCoercionSpec.post enc Tryd.prog Tryd.f3 false true false false) := by
  refine returnsInHanded_of_change_and (C := Tryd.checked) (X := fun w _ => laidMetH Tryd.prog Rows.fnExactParseCoercionRow.laid w) (fun _ _ _ hh h => h.of_heap hh) own started (by kernel_rfl) Tryd.func3
    (ChangeSpec.witness_shaped (enc := enc) (C := Tryd.checked) (os := os) (X := fun w _ => laidMetH Tryd.prog Rows.fnExactParseCoercionRow.laid w) false (World.laidAll Tryd.prog os Rows.fnExactParseCoercionRow.laid) #[.string ⟨#[]⟩] 8 (World.laidAll_os _ _ _) (World.shaped_of_ZipB (by kernel_rfl) (by kernel_rfl)) (by kernel_rfl) (by kernel_rfl) (by kernel_rfl) (fnExactParseCoercion_met os _)) ?_
  intro W base args ds gs before hval hW _ _ hL _
  refine contract_of_acallsT (P := Tryd.prog) (S := [9]) (by kernel_rfl) laidOut (by kernel_rfl) (tb := 4) (by kernel_rfl) Tryd.underlying4 rfl ?_ ?_ hval hW (tab_of_laid (k := 3) (t := 124) (e := 102) rfl (by kernel_rfl) rfl (by kernel_rfl) (by kernel_rfl) (by kernel_rfl) (by kernel_rfl) (by kernel_rfl) hL (fnExactParseCoercion_errs hL))
  · intro ds hd
    rw [show Tryd.f3.params.size = 1 by kernel_rfl] at hd
    match ds, hd with
    | [d0], _ => rfl
  · intro xs hx
    rw [Tryd.params3] at hx
    match xs, hx with
    | [x0], ⟨h0, _⟩ =>
      obtain ⟨b0, rfl, w0⟩ := str_of_val h0
      exact lawExactParseCoercion_ok b0 w0

theorem fnExactParseCoercion_row : Rows.FnExactParseCoercionSaid :=
  OpenClaim.holds_of_wide 3 Tryd.f3 rfl rfl rfl rfl rfl rfl rfl ⟨rfl, rfl, rfl, rfl, rfl⟩ rfl rfl rfl rfl rfl (by kernel_rfl) Tryd.func3 (by kernel_rfl)
    (of_decide_eq_true (by kernel_rfl)) (by unfold Func.isWrapper; first | (rw [if_pos (by decide +kernel)]; kernel_rfl) | (rw [if_neg (by decide +kernel)]; exact ⟨rfl, rfl⟩))
    (fun os started H enc _ => fnExactParseCoercion_lifted os started H enc)

theorem fnExactParseCoercion_proved : Rows.FnExactParseCoercionCardSaid :=
  Claim7.holds_tied_plain_at .later [] [.data, .data, .data, .sentinel, .sentinel] true Rows.fnExactParseCoercionCard.stood.harness Rows.fnExactParseCoercionCard.stood.looks
    fnExactParseCoercion_row (fun _ h => by cases h) (by kernel_rfl) (fun _ h => by cases h) fnExactParseCoercion_row_tie rfl ⟨rfl, rfl⟩ (by kernel_rfl) rfl
    (fun f fn hf hfn => by
      obtain rfl : f = 3 := Option.some.inj ((show Tryd.prog.funcNamed "loop.example/gradual/laws.FnExactParseCoercion" = some 3 by kernel_rfl).symm.trans hf) |>.symm
      obtain rfl : fn = Tryd.f3 := (Option.some.inj (Tryd.func3.symm.trans hfn)).symm
      exact ⟨by kernel_rfl, fun j t ht => by
        rw [Tryd.params3] at ht
        have hm : t ∈ [9] := by simpa using Array.mem_of_getElem? ht
        have hall : ([9].all fun u => !Tryd.prog.wantsStandIn u) = true := by kernel_rfl
        exact (show Tryd.prog.wantsStandIn t = false by simpa using List.all_eq_true.1 hall t hm)⟩)
    (by kernel_rfl)

end Go.Proofs.YtcgmmknfpfdghaaDoor
