/-
  DERIVED. GIVEN WITH THE SEED: THE CARDS: each row of YtcgmmknfpfdghaaGreatDoorRows.lean that lists a variable, with what it lists TIED to the program's text (the seventh form; the later family's looks); each row that meets fmt, with fmt's text TOLD by the authors' own Lean function (tested against real Go, not proved from fmt's source: count such statements apart). THE CARD IS WHAT COUNTS. Prove the row's statement (the work); the ties are given (YtcgmmknfpfdghaaGreatDoorTie.lean); close each card by the builder's one call (the guide's Derived/Test/ToyasCard.lean, 'card_holds'). Laid BY PROGRAM, IN A SANDBOX (cutbox-door.mjs). By AI agents, Wed Nov 11 2026. No macro, syntax, notation, axiom, sorry.
-/
import Derived.Test.YtcgmmknfpfdghaaGreatDoorRows
import GoSem.ClaimSeven
namespace Go.Proofs.YtcgmmknfpfdghaaGreatDoor
namespace Rows

/-- THE TIED CARD OF 'laws.FnOpsText'. -/
def fnOpsTextCard : Claim7 := { stood := { row := fnOpsTextRow, standIns := [], harness := (true, "ae45c7f0f2fff659bba1e8c96039ba4e06e0505f6de01be63b11d46eb318d60d"), looks := true }, kinds := [], alts := [], laidByText := true, laidKinds := [.data, .data, .data, .data, .sentinel, .sentinel, .pinned], laidTests := true, laidLooks := .later }
def FnOpsTextCardSaid : Prop := Claim7.holds Tryz.pinned (.plain (OpenSpec.ofChange fnOpsTextSpec)) fnOpsTextCard

/-- THE TIED CARD OF 'laws.FnCoercionText'. -/
def fnCoercionTextCard : Claim7 := { stood := { row := fnCoercionTextRow, standIns := [], harness := (true, "ae45c7f0f2fff659bba1e8c96039ba4e06e0505f6de01be63b11d46eb318d60d"), looks := true }, kinds := [], alts := [], laidByText := true, laidKinds := [.data, .data, .data, .sentinel, .sentinel], laidTests := true, laidLooks := .later }
def FnCoercionTextCardSaid : Prop := Claim7.holds Tryz.pinned (.plain (OpenSpec.ofChange fnCoercionTextSpec)) fnCoercionTextCard

/-- THE SECOND FORM's CARD OF 'laws.FnOpsText'. -/
def fnOpsTextUptoCard : Claim7 := { stood := { row := fnOpsTextUptoRow, standIns := [], harness := (true, "ae45c7f0f2fff659bba1e8c96039ba4e06e0505f6de01be63b11d46eb318d60d"), looks := true }, kinds := [], alts := [], laidByText := true, laidKinds := [.data, .data, .data, .data, .sentinel, .sentinel, .pinned], laidTests := true, laidLooks := .later }
def FnOpsTextUptoCardSaid : Prop := Claim7.holds Tryz.pinned (.plain (OpenSpec.upto fnOpsTextSpec)) fnOpsTextUptoCard

/-- THE SECOND FORM's CARD OF 'laws.FnCoercionText'. -/
def fnCoercionTextUptoCard : Claim7 := { stood := { row := fnCoercionTextUptoRow, standIns := [], harness := (true, "ae45c7f0f2fff659bba1e8c96039ba4e06e0505f6de01be63b11d46eb318d60d"), looks := true }, kinds := [], alts := [], laidByText := true, laidKinds := [.data, .data, .data, .sentinel, .sentinel], laidTests := true, laidLooks := .later }
def FnCoercionTextUptoCardSaid : Prop := Claim7.holds Tryz.pinned (.plain (OpenSpec.upto fnCoercionTextSpec)) fnCoercionTextUptoCard
end Rows
end Go.Proofs.YtcgmmknfpfdghaaGreatDoor
