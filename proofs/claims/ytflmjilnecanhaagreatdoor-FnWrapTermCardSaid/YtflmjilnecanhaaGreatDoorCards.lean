/-
  DERIVED. GIVEN WITH THE SEED: THE CARDS: each row of YtflmjilnecanhaaGreatDoorRows.lean that lists a variable, with what it lists TIED to the program's text (the seventh form; the later family's looks); each row that meets fmt, with fmt's text TOLD by the authors' own Lean function (tested against real Go, not proved from fmt's source: count such statements apart). THE CARD IS WHAT COUNTS. Prove the row's statement (the work); the ties are given (YtflmjilnecanhaaGreatDoorTie.lean); close each card by the builder's one call (the guide's Derived/Test/ToyasCard.lean, 'card_holds'). Laid BY PROGRAM, IN A SANDBOX (cutbox-door.mjs). By AI agents, Wed Nov 11 2026. No macro, syntax, notation, axiom, sorry.
-/
import Derived.Test.YtflmjilnecanhaaGreatDoorRows
import GoSem.ClaimSeven
namespace Go.Proofs.YtflmjilnecanhaaGreatDoor
namespace Rows

/-- THE TIED CARD OF 'laws.FnOpsText'. -/
def fnOpsTextCard : Claim7 := { stood := { row := fnOpsTextRow, standIns := [], harness := (true, "a3e993bfbd47371576445e03e9a367cf5ec60562eb9a8e5e0b36df9d8abc9efc"), looks := true }, kinds := [], alts := [], laidByText := true, laidKinds := [.data, .data, .data, .data, .sentinel, .sentinel, .pinned], laidTests := true, laidLooks := .later }
def FnOpsTextCardSaid : Prop := Claim7.holds Tryz.pinned (.plain (OpenSpec.ofChange fnOpsTextSpec)) fnOpsTextCard

/-- THE TIED CARD OF 'laws.FnCoercionText'. -/
def fnCoercionTextCard : Claim7 := { stood := { row := fnCoercionTextRow, standIns := [], harness := (true, "a3e993bfbd47371576445e03e9a367cf5ec60562eb9a8e5e0b36df9d8abc9efc"), looks := true }, kinds := [], alts := [], laidByText := true, laidKinds := [.data, .data, .data, .sentinel, .sentinel], laidTests := true, laidLooks := .later }
def FnCoercionTextCardSaid : Prop := Claim7.holds Tryz.pinned (.plain (OpenSpec.ofChange fnCoercionTextSpec)) fnCoercionTextCard

/-- THE TIED CARD OF 'laws.FnEmbedTyped'. -/
def fnEmbedTypedCard : Claim7 := { stood := { row := fnEmbedTypedRow, standIns := [], harness := (true, "a3e993bfbd47371576445e03e9a367cf5ec60562eb9a8e5e0b36df9d8abc9efc"), looks := true }, kinds := [], alts := [], laidByText := true, laidKinds := [.data, .data, .data], laidTests := true, laidLooks := .later }
def FnEmbedTypedCardSaid : Prop := Claim7.holds Tryz.pinned (.plain (OpenSpec.ofChange fnEmbedTypedSpec)) fnEmbedTypedCard

/-- THE TIED CARD OF 'laws.FnExactRunBare'. -/
def fnExactRunBareCard : Claim7 := { stood := { row := fnExactRunBareRow, standIns := [], harness := (true, "a3e993bfbd47371576445e03e9a367cf5ec60562eb9a8e5e0b36df9d8abc9efc"), looks := true }, kinds := [], alts := [], laidByText := true, laidKinds := [.data, .data, .data], laidTests := true, laidLooks := .later }
def FnExactRunBareCardSaid : Prop := Claim7.holds Tryz.pinned (.plain (OpenSpec.ofChange fnExactRunBareSpec)) fnExactRunBareCard

/-- THE TIED CARD OF 'laws.FnWrapTerm'. -/
def fnWrapTermCard : Claim7 := { stood := { row := fnWrapTermRow, standIns := [], harness := (true, "a3e993bfbd47371576445e03e9a367cf5ec60562eb9a8e5e0b36df9d8abc9efc"), looks := true }, kinds := [], alts := [], laidByText := true, laidKinds := [.data, .data, .data], laidTests := true, laidLooks := .later }
def FnWrapTermCardSaid : Prop := Claim7.holds Tryz.pinned (.plain (OpenSpec.ofChange fnWrapTermSpec)) fnWrapTermCard

/-- THE SECOND FORM's CARD OF 'laws.FnOpsText'. -/
def fnOpsTextUptoCard : Claim7 := { stood := { row := fnOpsTextUptoRow, standIns := [], harness := (true, "a3e993bfbd47371576445e03e9a367cf5ec60562eb9a8e5e0b36df9d8abc9efc"), looks := true }, kinds := [], alts := [], laidByText := true, laidKinds := [.data, .data, .data, .data, .sentinel, .sentinel, .pinned], laidTests := true, laidLooks := .later }
def FnOpsTextUptoCardSaid : Prop := Claim7.holds Tryz.pinned (.plain (OpenSpec.upto fnOpsTextSpec)) fnOpsTextUptoCard

/-- THE SECOND FORM's CARD OF 'laws.FnCoercionText'. -/
def fnCoercionTextUptoCard : Claim7 := { stood := { row := fnCoercionTextUptoRow, standIns := [], harness := (true, "a3e993bfbd47371576445e03e9a367cf5ec60562eb9a8e5e0b36df9d8abc9efc"), looks := true }, kinds := [], alts := [], laidByText := true, laidKinds := [.data, .data, .data, .sentinel, .sentinel], laidTests := true, laidLooks := .later }
def FnCoercionTextUptoCardSaid : Prop := Claim7.holds Tryz.pinned (.plain (OpenSpec.upto fnCoercionTextSpec)) fnCoercionTextUptoCard

/-- THE SECOND FORM's CARD OF 'laws.FnEmbedTyped'. -/
def fnEmbedTypedUptoCard : Claim7 := { stood := { row := fnEmbedTypedUptoRow, standIns := [], harness := (true, "a3e993bfbd47371576445e03e9a367cf5ec60562eb9a8e5e0b36df9d8abc9efc"), looks := true }, kinds := [], alts := [], laidByText := true, laidKinds := [.data, .data, .data], laidTests := true, laidLooks := .later }
def FnEmbedTypedUptoCardSaid : Prop := Claim7.holds Tryz.pinned (.plain (OpenSpec.upto fnEmbedTypedSpec)) fnEmbedTypedUptoCard

/-- THE SECOND FORM's CARD OF 'laws.FnExactRunBare'. -/
def fnExactRunBareUptoCard : Claim7 := { stood := { row := fnExactRunBareUptoRow, standIns := [], harness := (true, "a3e993bfbd47371576445e03e9a367cf5ec60562eb9a8e5e0b36df9d8abc9efc"), looks := true }, kinds := [], alts := [], laidByText := true, laidKinds := [.data, .data, .data], laidTests := true, laidLooks := .later }
def FnExactRunBareUptoCardSaid : Prop := Claim7.holds Tryz.pinned (.plain (OpenSpec.upto fnExactRunBareSpec)) fnExactRunBareUptoCard

/-- THE SECOND FORM's CARD OF 'laws.FnWrapTerm'. -/
def fnWrapTermUptoCard : Claim7 := { stood := { row := fnWrapTermUptoRow, standIns := [], harness := (true, "a3e993bfbd47371576445e03e9a367cf5ec60562eb9a8e5e0b36df9d8abc9efc"), looks := true }, kinds := [], alts := [], laidByText := true, laidKinds := [.data, .data, .data], laidTests := true, laidLooks := .later }
def FnWrapTermUptoCardSaid : Prop := Claim7.holds Tryz.pinned (.plain (OpenSpec.upto fnWrapTermSpec)) fnWrapTermUptoCard
end Rows
end Go.Proofs.YtflmjilnecanhaaGreatDoor
