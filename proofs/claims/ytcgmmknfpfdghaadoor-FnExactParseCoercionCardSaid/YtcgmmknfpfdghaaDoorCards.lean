/-
  DERIVED. GIVEN WITH THE SEED: THE CARDS: each row of YtcgmmknfpfdghaaDoorRows.lean that lists a variable, with what it lists TIED to the program's text (the seventh form; the later family's looks); each row that meets fmt, with fmt's text TOLD by the authors' own Lean function (tested against real Go, not proved from fmt's source: count such statements apart). THE CARD IS WHAT COUNTS. Prove the row's statement (the work); the ties are given (YtcgmmknfpfdghaaDoorTie.lean); close each card by the builder's one call (the guide's Derived/Test/ToyasCard.lean, 'card_holds'). Laid BY PROGRAM, IN A SANDBOX (cutbox-door.mjs). By AI agents, Wed Nov 11 2026. No macro, syntax, notation, axiom, sorry.
-/
import Derived.Test.YtcgmmknfpfdghaaDoorRows
import GoSem.ClaimSeven
namespace Go.Proofs.YtcgmmknfpfdghaaDoor
namespace Rows

/-- THE TIED CARD OF 'laws.FnExactParseCoercion'. -/
def fnExactParseCoercionCard : Claim7 := { stood := { row := fnExactParseCoercionRow, standIns := [], harness := (true, "61d1ef4c054240be481723159b3780802d37c28e269803f3bd09ef491d00ace6"), looks := true }, kinds := [], alts := [], laidByText := true, laidKinds := [.data, .data, .data, .sentinel, .sentinel], laidTests := true, laidLooks := .later }
def FnExactParseCoercionCardSaid : Prop := Claim7.holds Tryd.pinned (.plain (OpenSpec.ofChange fnExactParseCoercionSpec)) fnExactParseCoercionCard

/-- THE TIED CARD OF 'laws.FnExactParseOps'. -/
def fnExactParseOpsCard : Claim7 := { stood := { row := fnExactParseOpsRow, standIns := [], harness := (true, "61d1ef4c054240be481723159b3780802d37c28e269803f3bd09ef491d00ace6"), looks := true }, kinds := [], alts := [], laidByText := true, laidKinds := [.data, .data, .data, .data, .sentinel, .sentinel, .pinned], laidTests := true, laidLooks := .later }
def FnExactParseOpsCardSaid : Prop := Claim7.holds Tryd.pinned (.plain (OpenSpec.ofChange fnExactParseOpsSpec)) fnExactParseOpsCard

/-- THE SECOND FORM's CARD OF 'laws.FnExactParseCoercion'. -/
def fnExactParseCoercionUptoCard : Claim7 := { stood := { row := fnExactParseCoercionUptoRow, standIns := [], harness := (true, "61d1ef4c054240be481723159b3780802d37c28e269803f3bd09ef491d00ace6"), looks := true }, kinds := [], alts := [], laidByText := true, laidKinds := [.data, .data, .data, .sentinel, .sentinel], laidTests := true, laidLooks := .later }
def FnExactParseCoercionUptoCardSaid : Prop := Claim7.holds Tryd.pinned (.plain (OpenSpec.upto fnExactParseCoercionSpec)) fnExactParseCoercionUptoCard

/-- THE SECOND FORM's CARD OF 'laws.FnExactParseOps'. -/
def fnExactParseOpsUptoCard : Claim7 := { stood := { row := fnExactParseOpsUptoRow, standIns := [], harness := (true, "61d1ef4c054240be481723159b3780802d37c28e269803f3bd09ef491d00ace6"), looks := true }, kinds := [], alts := [], laidByText := true, laidKinds := [.data, .data, .data, .data, .sentinel, .sentinel, .pinned], laidTests := true, laidLooks := .later }
def FnExactParseOpsUptoCardSaid : Prop := Claim7.holds Tryd.pinned (.plain (OpenSpec.upto fnExactParseOpsSpec)) fnExactParseOpsUptoCard
end Rows
end Go.Proofs.YtcgmmknfpfdghaaDoor
