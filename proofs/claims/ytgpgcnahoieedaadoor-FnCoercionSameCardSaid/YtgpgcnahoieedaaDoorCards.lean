/-
  DERIVED. GIVEN WITH THE SEED: THE CARDS: each row of YtgpgcnahoieedaaDoorRows.lean that lists a variable, with what it lists TIED to the program's text (the seventh form; the later family's looks); each row that meets fmt, with fmt's text TOLD by the authors' own Lean function (tested against real Go, not proved from fmt's source: count such statements apart). THE CARD IS WHAT COUNTS. Prove the row's statement (the work); the ties are given (YtgpgcnahoieedaaDoorTie.lean); close each card by the builder's one call (the guide's Derived/Test/ToyasCard.lean, 'card_holds'). Laid BY PROGRAM, IN A SANDBOX (cutbox-door.mjs). By AI agents, Wed Nov 11 2026. No macro, syntax, notation, axiom, sorry.
-/
import Derived.Test.YtgpgcnahoieedaaDoorRows
import GoSem.ClaimSeven
namespace Go.Proofs.YtgpgcnahoieedaaDoor
namespace Rows

/-- THE TIED CARD OF 'laws.FnCoercionSame'. -/
def fnCoercionSameCard : Claim7 := { stood := { row := fnCoercionSameRow, standIns := [], harness := (true, "924e6f79ada286d8f8115a64c5e16cab201bcfaf05224aa7c43a13d4defe737b"), looks := false }, kinds := [], alts := [], laidByText := true, laidKinds := [.data, .data, .data], laidTests := true, laidLooks := .later }
def FnCoercionSameCardSaid : Prop := Claim7.holds Tryd.pinned (.plain (OpenSpec.ofChange fnCoercionSameSpec)) fnCoercionSameCard

/-- THE SECOND FORM's CARD OF 'laws.FnCoercionSame'. -/
def fnCoercionSameUptoCard : Claim7 := { stood := { row := fnCoercionSameUptoRow, standIns := [], harness := (true, "924e6f79ada286d8f8115a64c5e16cab201bcfaf05224aa7c43a13d4defe737b"), looks := false }, kinds := [], alts := [], laidByText := true, laidKinds := [.data, .data, .data], laidTests := true, laidLooks := .later }
def FnCoercionSameUptoCardSaid : Prop := Claim7.holds Tryd.pinned (.plain (OpenSpec.upto fnCoercionSameSpec)) fnCoercionSameUptoCard
end Rows
end Go.Proofs.YtgpgcnahoieedaaDoor
