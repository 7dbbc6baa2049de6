/-
  DERIVED. GIVEN WITH THE SEED: THE CARDS: each row of YtjllgkglfabhaaaDoorRows.lean that lists a variable, with what it lists TIED to the program's text (the seventh form; the later family's looks); each row that meets fmt, with fmt's text TOLD by the authors' own Lean function (tested against real Go, not proved from fmt's source: count such statements apart). THE CARD IS WHAT COUNTS. Prove the row's statement (the work); the ties are given (YtjllgkglfabhaaaDoorTie.lean); close each card by the builder's one call (the guide's Derived/Test/ToyasCard.lean, 'card_holds'). Laid BY PROGRAM, IN A SANDBOX (cutbox-door.mjs). By AI agents, Wed Nov 11 2026. No macro, syntax, notation, axiom, sorry.
-/
import Derived.Test.YtjllgkglfabhaaaDoorRows
import GoSem.ClaimSeven
namespace Go.Proofs.YtjllgkglfabhaaaDoor
namespace Rows

/-- THE TIED CARD OF 'laws.FnTermSame'. -/
def fnTermSameCard : Claim7 := { stood := { row := fnTermSameRow, standIns := [], harness := (true, "d880cb8e5fcf3f63e08a9f29b17ef1e0f293f279c6d8b59a4336bfecf0adcae0"), looks := false }, kinds := [], alts := [], laidByText := true, laidKinds := [.data, .data, .data], laidTests := true, laidLooks := .later }
def FnTermSameCardSaid : Prop := Claim7.holds Tryd.pinned (.plain (OpenSpec.ofChange fnTermSameSpec)) fnTermSameCard

/-- THE TIED CARD OF 'laws.FnExactFormatTerm'. -/
def fnExactFormatTermCard : Claim7 := { stood := { row := fnExactFormatTermRow, standIns := [], harness := (true, "d880cb8e5fcf3f63e08a9f29b17ef1e0f293f279c6d8b59a4336bfecf0adcae0"), looks := false }, kinds := [], alts := [], laidByText := true, laidKinds := [.data, .data, .data], laidTests := true, laidLooks := .later }
def FnExactFormatTermCardSaid : Prop := Claim7.holds Tryd.pinned (.plain (OpenSpec.ofChange fnExactFormatTermSpec)) fnExactFormatTermCard

/-- THE TIED CARD OF 'laws.FnExactFormatCast'. -/
def fnExactFormatCastCard : Claim7 := { stood := { row := fnExactFormatCastRow, standIns := [], harness := (true, "d880cb8e5fcf3f63e08a9f29b17ef1e0f293f279c6d8b59a4336bfecf0adcae0"), looks := false }, kinds := [], alts := [], laidByText := true, laidKinds := [.data, .data, .data], laidTests := true, laidLooks := .later }
def FnExactFormatCastCardSaid : Prop := Claim7.holds Tryd.pinned (.plain (OpenSpec.ofChange fnExactFormatCastSpec)) fnExactFormatCastCard

/-- THE TIED CARD OF 'laws.FnExactValueText'. -/
def fnExactValueTextCard : Claim7 := { stood := { row := fnExactValueTextRow, standIns := [], harness := (true, "d880cb8e5fcf3f63e08a9f29b17ef1e0f293f279c6d8b59a4336bfecf0adcae0"), looks := false }, kinds := [], alts := [], laidByText := true, laidKinds := [.data, .data, .data], laidTests := true, laidLooks := .later }
def FnExactValueTextCardSaid : Prop := Claim7.holds Tryd.pinned (.plain (OpenSpec.ofChange fnExactValueTextSpec)) fnExactValueTextCard

/-- THE TIED CARD OF 'laws.FnExactFormatOps'. -/
def fnExactFormatOpsCard : Claim7 := { stood := { row := fnExactFormatOpsRow, standIns := [], harness := (true, "d880cb8e5fcf3f63e08a9f29b17ef1e0f293f279c6d8b59a4336bfecf0adcae0"), looks := false }, kinds := [], alts := [], laidByText := true, laidKinds := [.data, .data, .data], laidTests := true, laidLooks := .later }
def FnExactFormatOpsCardSaid : Prop := Claim7.holds Tryd.pinned (.plain (OpenSpec.ofChange fnExactFormatOpsSpec)) fnExactFormatOpsCard

/-- THE TIED CARD OF 'laws.FnExactFormatCoercion'. -/
def fnExactFormatCoercionCard : Claim7 := { stood := { row := fnExactFormatCoercionRow, standIns := [], harness := (true, "d880cb8e5fcf3f63e08a9f29b17ef1e0f293f279c6d8b59a4336bfecf0adcae0"), looks := false }, kinds := [], alts := [], laidByText := true, laidKinds := [.data, .data, .data], laidTests := true, laidLooks := .later }
def FnExactFormatCoercionCardSaid : Prop := Claim7.holds Tryd.pinned (.plain (OpenSpec.ofChange fnExactFormatCoercionSpec)) fnExactFormatCoercionCard

/-- THE TIED CARD OF 'laws.FnCoercionSame'. -/
def fnCoercionSameCard : Claim7 := { stood := { row := fnCoercionSameRow, standIns := [], harness := (true, "d880cb8e5fcf3f63e08a9f29b17ef1e0f293f279c6d8b59a4336bfecf0adcae0"), looks := false }, kinds := [], alts := [], laidByText := true, laidKinds := [.data, .data, .data], laidTests := true, laidLooks := .later }
def FnCoercionSameCardSaid : Prop := Claim7.holds Tryd.pinned (.plain (OpenSpec.ofChange fnCoercionSameSpec)) fnCoercionSameCard

/-- THE SECOND FORM's CARD OF 'laws.FnTermSame'. -/
def fnTermSameUptoCard : Claim7 := { stood := { row := fnTermSameUptoRow, standIns := [], harness := (true, "d880cb8e5fcf3f63e08a9f29b17ef1e0f293f279c6d8b59a4336bfecf0adcae0"), looks := false }, kinds := [], alts := [], laidByText := true, laidKinds := [.data, .data, .data], laidTests := true, laidLooks := .later }
def FnTermSameUptoCardSaid : Prop := Claim7.holds Tryd.pinned (.plain (OpenSpec.upto fnTermSameSpec)) fnTermSameUptoCard

/-- THE SECOND FORM's CARD OF 'laws.FnExactFormatTerm'. -/
def fnExactFormatTermUptoCard : Claim7 := { stood := { row := fnExactFormatTermUptoRow, standIns := [], harness := (true, "d880cb8e5fcf3f63e08a9f29b17ef1e0f293f279c6d8b59a4336bfecf0adcae0"), looks := false }, kinds := [], alts := [], laidByText := true, laidKinds := [.data, .data, .data], laidTests := true, laidLooks := .later }
def FnExactFormatTermUptoCardSaid : Prop := Claim7.holds Tryd.pinned (.plain (OpenSpec.upto fnExactFormatTermSpec)) fnExactFormatTermUptoCard

/-- THE SECOND FORM's CARD OF 'laws.FnExactFormatCast'. -/
def fnExactFormatCastUptoCard : Claim7 := { stood := { row := fnExactFormatCastUptoRow, standIns := [], harness := (true, "d880cb8e5fcf3f63e08a9f29b17ef1e0f293f279c6d8b59a4336bfecf0adcae0"), looks := false }, kinds := [], alts := [], laidByText := true, laidKinds := [.data, .data, .data], laidTests := true, laidLooks := .later }
def FnExactFormatCastUptoCardSaid : Prop := Claim7.holds Tryd.pinned (.plain (OpenSpec.upto fnExactFormatCastSpec)) fnExactFormatCastUptoCard

/-- THE SECOND FORM's CARD OF 'laws.FnExactValueText'. -/
def fnExactValueTextUptoCard : Claim7 := { stood := { row := fnExactValueTextUptoRow, standIns := [], harness := (true, "d880cb8e5fcf3f63e08a9f29b17ef1e0f293f279c6d8b59a4336bfecf0adcae0"), looks := false }, kinds := [], alts := [], laidByText := true, laidKinds := [.data, .data, .data], laidTests := true, laidLooks := .later }
def FnExactValueTextUptoCardSaid : Prop := Claim7.holds Tryd.pinned (.plain (OpenSpec.upto fnExactValueTextSpec)) fnExactValueTextUptoCard

/-- THE SECOND FORM's CARD OF 'laws.FnExactFormatOps'. -/
def fnExactFormatOpsUptoCard : Claim7 := { stood := { row := fnExactFormatOpsUptoRow, standIns := [], harness := (true, "d880cb8e5fcf3f63e08a9f29b17ef1e0f293f279c6d8b59a4336bfecf0adcae0"), looks := false }, kinds := [], alts := [], laidByText := true, laidKinds := [.data, .data, .data], laidTests := true, laidLooks := .later }
def FnExactFormatOpsUptoCardSaid : Prop := Claim7.holds Tryd.pinned (.plain (OpenSpec.upto fnExactFormatOpsSpec)) fnExactFormatOpsUptoCard

/-- THE SECOND FORM's CARD OF 'laws.FnExactFormatCoercion'. -/
def fnExactFormatCoercionUptoCard : Claim7 := { stood := { row := fnExactFormatCoercionUptoRow, standIns := [], harness := (true, "d880cb8e5fcf3f63e08a9f29b17ef1e0f293f279c6d8b59a4336bfecf0adcae0"), looks := false }, kinds := [], alts := [], laidByText := true, laidKinds := [.data, .data, .data], laidTests := true, laidLooks := .later }
def FnExactFormatCoercionUptoCardSaid : Prop := Claim7.holds Tryd.pinned (.plain (OpenSpec.upto fnExactFormatCoercionSpec)) fnExactFormatCoercionUptoCard

/-- THE SECOND FORM's CARD OF 'laws.FnCoercionSame'. -/
def fnCoercionSameUptoCard : Claim7 := { stood := { row := fnCoercionSameUptoRow, standIns := [], harness := (true, "d880cb8e5fcf3f63e08a9f29b17ef1e0f293f279c6d8b59a4336bfecf0adcae0"), looks := false }, kinds := [], alts := [], laidByText := true, laidKinds := [.data, .data, .data], laidTests := true, laidLooks := .later }
def FnCoercionSameUptoCardSaid : Prop := Claim7.holds Tryd.pinned (.plain (OpenSpec.upto fnCoercionSameSpec)) fnCoercionSameUptoCard
end Rows
end Go.Proofs.YtjllgkglfabhaaaDoor
