/-
  No cell of these rows narrows 'for every input' (looked for: loops, veiled, ifaces, maps, wideKeys, modest, calm, conditions, laid).
  DERIVED. THE GIVEN ROWS OF THIS SEAT. 3 by the template 'for every input the law returns true; each argument reads behind the call as it read before'; 0 by the template 'total and deterministic' (their statements: YtdcahkkclldhmaaGreatTotals.lean).
  GIVEN WITH THE SEED: the statements are not yours to turn. If you find one false, say at which input.
  Laid BY PROGRAM, IN A SANDBOX (cutbox-rows.mjs): the forced cells as the released guide's own fill.sh prints them over the translation 093b9cb476a04db7… (all of the seat's roots in one cut). By AI agents, Wed Nov 11 2026. No macro, syntax, notation, axiom, sorry.
-/
import Derived.Test.YtdcahkkclldhmaaGreatChecked
import GoSem.Claim
import GoSem.ClaimJoined
import GoSem.ClaimMapViews
import Derived.JoinedTies
import Derived.KernelRfl
namespace Go.Proofs.YtdcahkkclldhmaaGreat
/- THE CELL 'sum', in the pinned program and in every row, IS THE sha256 OF THE DUMP (.gsa) THAT YtdcahkkclldhmaaGreatProg.lean LOADS. Nothing in Lean hashes anything: it is a label: what it is worth is what the hold of that sum in a sandbox is worth. -/
noncomputable def Tryz.pinned : Pinned := { name := "ytdcahkkclldhmaagreat", sum := "093b9cb476a04db7080ea7820697f99663564b0955448425b40c21127001f25d", checked := Tryz.checked }
namespace Rows
def none {H : Type} : Left H := { results := [], args := [] }

/-- 'laws.FnSafeInserted': WHATEVER THE INPUT: true; the input reads as it did. -/
def fnSafeInsertedSpec : ChangeSpec := { name := "fnSafeInserted", fn := fun _ => fun
  | [d] => { results := [.lit (.bool true)], args := [d] }
  | _ => none }
def fnSafeInsertedRow : OpenClaim := { program := "ytdcahkkclldhmaagreat", sum := "093b9cb476a04db7080ea7820697f99663564b0955448425b40c21127001f25d", func := "loop.example/gradual/laws.FnSafeInserted", spec := "fnSafeInserted", unfollowed := true, recurses := true, apart := false }
def FnSafeInsertedSaid : Prop := fnSafeInsertedRow.holds Tryz.pinned (OpenSpec.ofChange fnSafeInsertedSpec)

/-- ITS FALSE NEIGHBOUR: 'it returns false'. Refute it at one input. -/
def fnSafeInsertedWrong : ChangeSpec := { name := "fnSafeInserted", fn := fun _ => fun
  | [d] => { results := [.lit (.bool false)], args := [d] }
  | _ => none }
def FnSafeInsertedWrongFalsely : Prop := fnSafeInsertedRow.holds Tryz.pinned (OpenSpec.ofChange fnSafeInsertedWrong)

/-- 'laws.FnSimplifySafe': WHATEVER THE INPUT: true; the input reads as it did. -/
def fnSimplifySafeSpec : ChangeSpec := { name := "fnSimplifySafe", fn := fun _ => fun
  | [d] => { results := [.lit (.bool true)], args := [d] }
  | _ => none }
def fnSimplifySafeRow : OpenClaim := { program := "ytdcahkkclldhmaagreat", sum := "093b9cb476a04db7080ea7820697f99663564b0955448425b40c21127001f25d", func := "loop.example/gradual/laws.FnSimplifySafe", spec := "fnSimplifySafe", unfollowed := true, recurses := true, apart := false }
def FnSimplifySafeSaid : Prop := fnSimplifySafeRow.holds Tryz.pinned (OpenSpec.ofChange fnSimplifySafeSpec)

/-- ITS FALSE NEIGHBOUR: 'it returns false'. Refute it at one input. -/
def fnSimplifySafeWrong : ChangeSpec := { name := "fnSimplifySafe", fn := fun _ => fun
  | [d] => { results := [.lit (.bool false)], args := [d] }
  | _ => none }
def FnSimplifySafeWrongFalsely : Prop := fnSimplifySafeRow.holds Tryz.pinned (OpenSpec.ofChange fnSimplifySafeWrong)

/-- 'laws.FnInsertLabels': WHATEVER THE INPUT: true; the input reads as it did. -/
def fnInsertLabelsSpec : ChangeSpec := { name := "fnInsertLabels", fn := fun _ => fun
  | [d] => { results := [.lit (.bool true)], args := [d] }
  | _ => none }
def fnInsertLabelsRow : OpenClaim := { program := "ytdcahkkclldhmaagreat", sum := "093b9cb476a04db7080ea7820697f99663564b0955448425b40c21127001f25d", func := "loop.example/gradual/laws.FnInsertLabels", spec := "fnInsertLabels", unfollowed := true, recurses := true, apart := false }
def FnInsertLabelsSaid : Prop := fnInsertLabelsRow.holds Tryz.pinned (OpenSpec.ofChange fnInsertLabelsSpec)

/-- ITS FALSE NEIGHBOUR: 'it returns false'. Refute it at one input. -/
def fnInsertLabelsWrong : ChangeSpec := { name := "fnInsertLabels", fn := fun _ => fun
  | [d] => { results := [.lit (.bool false)], args := [d] }
  | _ => none }
def FnInsertLabelsWrongFalsely : Prop := fnInsertLabelsRow.holds Tryz.pinned (OpenSpec.ofChange fnInsertLabelsWrong)

/- THE SECOND FORM. 'bulk': how many values and letters a reading holds, each counted each time it is reached (what is shared counts as often as it is met; a slice's spare places count too). A statement '..UptoSaid' is the law's where the arguments, and the package variables that the reading takes, are together of bulk at most 1048576: NARROWER than '..Said'. Prove '..Said' where nothing that the law and all that it calls make is longer than what came in: it says more and counts as full. Else prove '..UptoSaid'. A law counts once. -/
mutual
def uptoBulk {H : Type} : DataW H → Nat
  | .lit (.string bytes) => bytes.length + 1
  | .lit _ => 1
  | .nil => 1
  | .ptr d => uptoBulk d + 1
  | .slice elems spare => uptoBulkAll elems + uptoBulkAll spare + 1
  | .agg parts => uptoBulkAll parts + 1
  | .iface _ d => uptoBulk d + 1
  | .map entries => uptoBulkEntries entries + 1
  | .held _ => 1
def uptoBulkAll {H : Type} : List (DataW H) → Nat
  | [] => 0
  | d :: r => uptoBulk d + uptoBulkAll r
def uptoBulkEntries {H : Type} : List (Lit × DataW H) → Nat
  | [] => 0
  | x :: r => uptoBulkEntry x + uptoBulkEntries r
def uptoBulkEntry {H : Type} : Lit × DataW H → Nat
  | (.string bytes, d) => bytes.length + uptoBulk d + 1
  | (_, d) => uptoBulk d + 1
 end
def uptoSmall : (H : Type) → List (DataW H) → Bool := fun _ ds => decide (uptoBulkAll ds ≤ 1048576)
def OpenSpec.upto (s : _root_.Go.ChangeSpec) : _root_.Go.OpenSpec := { _root_.Go.OpenSpec.ofChange s with cond := some uptoSmall }

/-- 'laws.FnSafeInserted', WHERE WHAT IT READS IS OF BULK AT MOST 1048576: true; the input reads as it did. -/
def fnSafeInsertedUptoRow : OpenClaim := { program := "ytdcahkkclldhmaagreat", sum := "093b9cb476a04db7080ea7820697f99663564b0955448425b40c21127001f25d", func := "loop.example/gradual/laws.FnSafeInserted", spec := "fnSafeInserted", unfollowed := true, recurses := true, apart := false, narrowed := true }
def FnSafeInsertedUptoSaid : Prop := fnSafeInsertedUptoRow.holds Tryz.pinned (OpenSpec.upto fnSafeInsertedSpec)

/-- 'laws.FnSimplifySafe', WHERE WHAT IT READS IS OF BULK AT MOST 1048576: true; the input reads as it did. -/
def fnSimplifySafeUptoRow : OpenClaim := { program := "ytdcahkkclldhmaagreat", sum := "093b9cb476a04db7080ea7820697f99663564b0955448425b40c21127001f25d", func := "loop.example/gradual/laws.FnSimplifySafe", spec := "fnSimplifySafe", unfollowed := true, recurses := true, apart := false, narrowed := true }
def FnSimplifySafeUptoSaid : Prop := fnSimplifySafeUptoRow.holds Tryz.pinned (OpenSpec.upto fnSimplifySafeSpec)

/-- 'laws.FnInsertLabels', WHERE WHAT IT READS IS OF BULK AT MOST 1048576: true; the input reads as it did. -/
def fnInsertLabelsUptoRow : OpenClaim := { program := "ytdcahkkclldhmaagreat", sum := "093b9cb476a04db7080ea7820697f99663564b0955448425b40c21127001f25d", func := "loop.example/gradual/laws.FnInsertLabels", spec := "fnInsertLabels", unfollowed := true, recurses := true, apart := false, narrowed := true }
def FnInsertLabelsUptoSaid : Prop := fnInsertLabelsUptoRow.holds Tryz.pinned (OpenSpec.upto fnInsertLabelsSpec)

end Rows
end Go.Proofs.YtdcahkkclldhmaaGreat
