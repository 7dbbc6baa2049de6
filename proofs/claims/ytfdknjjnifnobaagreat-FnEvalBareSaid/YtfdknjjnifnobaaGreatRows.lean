/-
  No cell of these rows narrows 'for every input' (looked for: loops, veiled, ifaces, maps, wideKeys, modest, calm, conditions, laid).
  DERIVED. THE GIVEN ROWS OF THIS SEAT. 10 by the template 'for every input the law returns true; each argument reads behind the call as it read before'; 0 by the template 'total and deterministic' (their statements: YtfdknjjnifnobaaGreatTotals.lean).
  GIVEN WITH THE SEED: the statements are not yours to turn. If you find one false, say at which input.
  Laid BY PROGRAM, IN A SANDBOX (cutbox-rows.mjs): the forced cells as the released guide's own fill.sh prints them over the translation 2897c1c8af7d71b7… (all of the seat's roots in one cut). By AI agents, Wed Nov 11 2026. No macro, syntax, notation, axiom, sorry.
-/
import Derived.Test.YtfdknjjnifnobaaGreatChecked
import GoSem.Claim
import GoSem.ClaimJoined
import GoSem.ClaimMapViews
import Derived.JoinedTies
import Derived.KernelRfl
namespace Go.Proofs.YtfdknjjnifnobaaGreat
/- THE CELL 'sum', in the pinned program and in every row, IS THE sha256 OF THE DUMP (.gsa) THAT YtfdknjjnifnobaaGreatProg.lean LOADS. Nothing in Lean hashes anything: it is a label: what it is worth is what the hold of that sum in a sandbox is worth. -/
noncomputable def Tryz.pinned : Pinned := { name := "ytfdknjjnifnobaagreat", sum := "2897c1c8af7d71b778a1026a4f9e4f30086948bfc16fa077652e5cf621899234", checked := Tryz.checked }
namespace Rows
def none {H : Type} : Left H := { results := [], args := [] }

/-- 'laws.FnEmbedTerm': WHATEVER THE INPUT: true; the input reads as it did. -/
def fnEmbedTermSpec : ChangeSpec := { name := "fnEmbedTerm", fn := fun _ => fun
  | [d] => { results := [.lit (.bool true)], args := [d] }
  | _ => none }
def fnEmbedTermRow : OpenClaim := { program := "ytfdknjjnifnobaagreat", sum := "2897c1c8af7d71b778a1026a4f9e4f30086948bfc16fa077652e5cf621899234", func := "loop.example/gradual/laws.FnEmbedTerm", spec := "fnEmbedTerm", inPlace := ["internal/bytealg.IndexByteString", "internal/bytealg.IndexString"], unfollowed := true, recurses := true, named := ["internal/bytealg.MaxLen"], apart := false }
def FnEmbedTermSaid : Prop := fnEmbedTermRow.holds Tryz.pinned (OpenSpec.ofChange fnEmbedTermSpec)

/-- ITS FALSE NEIGHBOUR: 'it returns false'. Refute it at one input. -/
def fnEmbedTermWrong : ChangeSpec := { name := "fnEmbedTerm", fn := fun _ => fun
  | [d] => { results := [.lit (.bool false)], args := [d] }
  | _ => none }
def FnEmbedTermWrongFalsely : Prop := fnEmbedTermRow.holds Tryz.pinned (OpenSpec.ofChange fnEmbedTermWrong)

/-- 'laws.FnMaximalStatic': WHATEVER THE INPUT: true; the input reads as it did. -/
def fnMaximalStaticSpec : ChangeSpec := { name := "fnMaximalStatic", fn := fun _ => fun
  | [d] => { results := [.lit (.bool true)], args := [d] }
  | _ => none }
def fnMaximalStaticRow : OpenClaim := { program := "ytfdknjjnifnobaagreat", sum := "2897c1c8af7d71b778a1026a4f9e4f30086948bfc16fa077652e5cf621899234", func := "loop.example/gradual/laws.FnMaximalStatic", spec := "fnMaximalStatic", unfollowed := true, recurses := true, apart := false }
def FnMaximalStaticSaid : Prop := fnMaximalStaticRow.holds Tryz.pinned (OpenSpec.ofChange fnMaximalStaticSpec)

/-- ITS FALSE NEIGHBOUR: 'it returns false'. Refute it at one input. -/
def fnMaximalStaticWrong : ChangeSpec := { name := "fnMaximalStatic", fn := fun _ => fun
  | [d] => { results := [.lit (.bool false)], args := [d] }
  | _ => none }
def FnMaximalStaticWrongFalsely : Prop := fnMaximalStaticRow.holds Tryz.pinned (OpenSpec.ofChange fnMaximalStaticWrong)

/-- 'laws.FnMigrateTerm': WHATEVER THE INPUT: true; the input reads as it did. -/
def fnMigrateTermSpec : ChangeSpec := { name := "fnMigrateTerm", fn := fun _ => fun
  | [d] => { results := [.lit (.bool true)], args := [d] }
  | _ => none }
def fnMigrateTermRow : OpenClaim := { program := "ytfdknjjnifnobaagreat", sum := "2897c1c8af7d71b778a1026a4f9e4f30086948bfc16fa077652e5cf621899234", func := "loop.example/gradual/laws.FnMigrateTerm", spec := "fnMigrateTerm", unfollowed := true, recurses := true, apart := false }
def FnMigrateTermSaid : Prop := fnMigrateTermRow.holds Tryz.pinned (OpenSpec.ofChange fnMigrateTermSpec)

/-- ITS FALSE NEIGHBOUR: 'it returns false'. Refute it at one input. -/
def fnMigrateTermWrong : ChangeSpec := { name := "fnMigrateTerm", fn := fun _ => fun
  | [d] => { results := [.lit (.bool false)], args := [d] }
  | _ => none }
def FnMigrateTermWrongFalsely : Prop := fnMigrateTermRow.holds Tryz.pinned (OpenSpec.ofChange fnMigrateTermWrong)

/-- 'laws.FnTypeStatic': WHATEVER THE INPUT: true; the input reads as it did. -/
def fnTypeStaticSpec : ChangeSpec := { name := "fnTypeStatic", fn := fun _ => fun
  | [d] => { results := [.lit (.bool true)], args := [d] }
  | _ => none }
def fnTypeStaticRow : OpenClaim := { program := "ytfdknjjnifnobaagreat", sum := "2897c1c8af7d71b778a1026a4f9e4f30086948bfc16fa077652e5cf621899234", func := "loop.example/gradual/laws.FnTypeStatic", spec := "fnTypeStatic", inPlace := ["internal/bytealg.IndexByteString", "internal/bytealg.IndexString"], unfollowed := true, recurses := true, named := ["internal/bytealg.MaxLen"], apart := false }
def FnTypeStaticSaid : Prop := fnTypeStaticRow.holds Tryz.pinned (OpenSpec.ofChange fnTypeStaticSpec)

/-- ITS FALSE NEIGHBOUR: 'it returns false'. Refute it at one input. -/
def fnTypeStaticWrong : ChangeSpec := { name := "fnTypeStatic", fn := fun _ => fun
  | [d] => { results := [.lit (.bool false)], args := [d] }
  | _ => none }
def FnTypeStaticWrongFalsely : Prop := fnTypeStaticRow.holds Tryz.pinned (OpenSpec.ofChange fnTypeStaticWrong)

/-- 'laws.FnRefineTerm': WHATEVER THE INPUT: true; the input reads as it did. -/
def fnRefineTermSpec : ChangeSpec := { name := "fnRefineTerm", fn := fun _ => fun
  | [d] => { results := [.lit (.bool true)], args := [d] }
  | _ => none }
def fnRefineTermRow : OpenClaim := { program := "ytfdknjjnifnobaagreat", sum := "2897c1c8af7d71b778a1026a4f9e4f30086948bfc16fa077652e5cf621899234", func := "loop.example/gradual/laws.FnRefineTerm", spec := "fnRefineTerm", unfollowed := true, recurses := true, apart := false }
def FnRefineTermSaid : Prop := fnRefineTermRow.holds Tryz.pinned (OpenSpec.ofChange fnRefineTermSpec)

/-- ITS FALSE NEIGHBOUR: 'it returns false'. Refute it at one input. -/
def fnRefineTermWrong : ChangeSpec := { name := "fnRefineTerm", fn := fun _ => fun
  | [d] => { results := [.lit (.bool false)], args := [d] }
  | _ => none }
def FnRefineTermWrongFalsely : Prop := fnRefineTermRow.holds Tryz.pinned (OpenSpec.ofChange fnRefineTermWrong)

/-- 'laws.FnMigrateTwice': WHATEVER THE INPUT: true; the input reads as it did. -/
def fnMigrateTwiceSpec : ChangeSpec := { name := "fnMigrateTwice", fn := fun _ => fun
  | [d] => { results := [.lit (.bool true)], args := [d] }
  | _ => none }
def fnMigrateTwiceRow : OpenClaim := { program := "ytfdknjjnifnobaagreat", sum := "2897c1c8af7d71b778a1026a4f9e4f30086948bfc16fa077652e5cf621899234", func := "loop.example/gradual/laws.FnMigrateTwice", spec := "fnMigrateTwice", unfollowed := true, recurses := true, apart := false }
def FnMigrateTwiceSaid : Prop := fnMigrateTwiceRow.holds Tryz.pinned (OpenSpec.ofChange fnMigrateTwiceSpec)

/-- ITS FALSE NEIGHBOUR: 'it returns false'. Refute it at one input. -/
def fnMigrateTwiceWrong : ChangeSpec := { name := "fnMigrateTwice", fn := fun _ => fun
  | [d] => { results := [.lit (.bool false)], args := [d] }
  | _ => none }
def FnMigrateTwiceWrongFalsely : Prop := fnMigrateTwiceRow.holds Tryz.pinned (OpenSpec.ofChange fnMigrateTwiceWrong)

/-- 'laws.FnBareValue': WHATEVER THE INPUT: true; the input reads as it did. -/
def fnBareValueSpec : ChangeSpec := { name := "fnBareValue", fn := fun _ => fun
  | [d] => { results := [.lit (.bool true)], args := [d] }
  | _ => none }
def fnBareValueRow : OpenClaim := { program := "ytfdknjjnifnobaagreat", sum := "2897c1c8af7d71b778a1026a4f9e4f30086948bfc16fa077652e5cf621899234", func := "loop.example/gradual/laws.FnBareValue", spec := "fnBareValue", unfollowed := true, recurses := true, apart := false }
def FnBareValueSaid : Prop := fnBareValueRow.holds Tryz.pinned (OpenSpec.ofChange fnBareValueSpec)

/-- ITS FALSE NEIGHBOUR: 'it returns false'. Refute it at one input. -/
def fnBareValueWrong : ChangeSpec := { name := "fnBareValue", fn := fun _ => fun
  | [d] => { results := [.lit (.bool false)], args := [d] }
  | _ => none }
def FnBareValueWrongFalsely : Prop := fnBareValueRow.holds Tryz.pinned (OpenSpec.ofChange fnBareValueWrong)

/-- 'laws.FnEvalBare': WHATEVER THE INPUT: true; the input reads as it did. -/
def fnEvalBareSpec : ChangeSpec := { name := "fnEvalBare", fn := fun _ => fun
  | [d] => { results := [.lit (.bool true)], args := [d] }
  | _ => none }
def fnEvalBareRow : OpenClaim := { program := "ytfdknjjnifnobaagreat", sum := "2897c1c8af7d71b778a1026a4f9e4f30086948bfc16fa077652e5cf621899234", func := "loop.example/gradual/laws.FnEvalBare", spec := "fnEvalBare", unfollowed := true, recurses := true, apart := false }
def FnEvalBareSaid : Prop := fnEvalBareRow.holds Tryz.pinned (OpenSpec.ofChange fnEvalBareSpec)

/-- ITS FALSE NEIGHBOUR: 'it returns false'. Refute it at one input. -/
def fnEvalBareWrong : ChangeSpec := { name := "fnEvalBare", fn := fun _ => fun
  | [d] => { results := [.lit (.bool false)], args := [d] }
  | _ => none }
def FnEvalBareWrongFalsely : Prop := fnEvalBareRow.holds Tryz.pinned (OpenSpec.ofChange fnEvalBareWrong)

/-- 'laws.FnStepBare': WHATEVER THE INPUT: true; the input reads as it did. -/
def fnStepBareSpec : ChangeSpec := { name := "fnStepBare", fn := fun _ => fun
  | [d] => { results := [.lit (.bool true)], args := [d] }
  | _ => none }
def fnStepBareRow : OpenClaim := { program := "ytfdknjjnifnobaagreat", sum := "2897c1c8af7d71b778a1026a4f9e4f30086948bfc16fa077652e5cf621899234", func := "loop.example/gradual/laws.FnStepBare", spec := "fnStepBare", inPlace := ["internal/bytealg.IndexByteString", "internal/bytealg.IndexString"], unfollowed := true, recurses := true, named := ["internal/bytealg.MaxLen"], apart := false }
def FnStepBareSaid : Prop := fnStepBareRow.holds Tryz.pinned (OpenSpec.ofChange fnStepBareSpec)

/-- ITS FALSE NEIGHBOUR: 'it returns false'. Refute it at one input. -/
def fnStepBareWrong : ChangeSpec := { name := "fnStepBare", fn := fun _ => fun
  | [d] => { results := [.lit (.bool false)], args := [d] }
  | _ => none }
def FnStepBareWrongFalsely : Prop := fnStepBareRow.holds Tryz.pinned (OpenSpec.ofChange fnStepBareWrong)

/-- 'laws.FnInsertStatic': WHATEVER THE INPUT: true; the input reads as it did. -/
def fnInsertStaticSpec : ChangeSpec := { name := "fnInsertStatic", fn := fun _ => fun
  | [d] => { results := [.lit (.bool true)], args := [d] }
  | _ => none }
def fnInsertStaticRow : OpenClaim := { program := "ytfdknjjnifnobaagreat", sum := "2897c1c8af7d71b778a1026a4f9e4f30086948bfc16fa077652e5cf621899234", func := "loop.example/gradual/laws.FnInsertStatic", spec := "fnInsertStatic", unfollowed := true, recurses := true, apart := false }
def FnInsertStaticSaid : Prop := fnInsertStaticRow.holds Tryz.pinned (OpenSpec.ofChange fnInsertStaticSpec)

/-- ITS FALSE NEIGHBOUR: 'it returns false'. Refute it at one input. -/
def fnInsertStaticWrong : ChangeSpec := { name := "fnInsertStatic", fn := fun _ => fun
  | [d] => { results := [.lit (.bool false)], args := [d] }
  | _ => none }
def FnInsertStaticWrongFalsely : Prop := fnInsertStaticRow.holds Tryz.pinned (OpenSpec.ofChange fnInsertStaticWrong)

/- THE SECOND FORM. 'bulk': how many values and letters a reading holds, each counted each time it is reached (what is shared counts as often as it is met; a slice's spare places count too). A statement '..UptoSaid' is the law's where the arguments, and the package variables that the reading takes, are together of bulk at most 1048576: NARROWER than '..Said'. Prove '..Said' where nothing that the law and all that it calls make is longer than what came in: it says more and counts as full. Else prove '..UptoSaid'. A law counts once. -/
mutual
def uptoBulk {H : Type} : DataW H → Nat
  | .lit (.string bytes) => bytes.length + 1
  | .lit _ => 1
  | .nil => 1
  | .ptr d => uptoBulk d + 1
  | .slice elems spare => uptoBulkAll elems + uptoBulkAll spare + 1
  | .agg parts => uptoBulkAll parts + 1
  | .iface _ d => uptoBulk d + 1
  | .map entries => uptoBulkEntries entries + 1
  | .held _ => 1
def uptoBulkAll {H : Type} : List (DataW H) → Nat
  | [] => 0
  | d :: r => uptoBulk d + uptoBulkAll r
def uptoBulkEntries {H : Type} : List (Lit × DataW H) → Nat
  | [] => 0
  | x :: r => uptoBulkEntry x + uptoBulkEntries r
def uptoBulkEntry {H : Type} : Lit × DataW H → Nat
  | (.string bytes, d) => bytes.length + uptoBulk d + 1
  | (_, d) => uptoBulk d + 1
 end
def uptoSmall : (H : Type) → List (DataW H) → Bool := fun _ ds => decide (uptoBulkAll ds ≤ 1048576)
def OpenSpec.upto (s : _root_.Go.ChangeSpec) : _root_.Go.OpenSpec := { _root_.Go.OpenSpec.ofChange s with cond := some uptoSmall }

/-- 'laws.FnEmbedTerm', WHERE WHAT IT READS IS OF BULK AT MOST 1048576: true; the input reads as it did. -/
def fnEmbedTermUptoRow : OpenClaim := { program := "ytfdknjjnifnobaagreat", sum := "2897c1c8af7d71b778a1026a4f9e4f30086948bfc16fa077652e5cf621899234", func := "loop.example/gradual/laws.FnEmbedTerm", spec := "fnEmbedTerm", inPlace := ["internal/bytealg.IndexByteString", "internal/bytealg.IndexString"], unfollowed := true, recurses := true, named := ["internal/bytealg.MaxLen"], apart := false, narrowed := true }
def FnEmbedTermUptoSaid : Prop := fnEmbedTermUptoRow.holds Tryz.pinned (OpenSpec.upto fnEmbedTermSpec)

/-- 'laws.FnMaximalStatic', WHERE WHAT IT READS IS OF BULK AT MOST 1048576: true; the input reads as it did. -/
def fnMaximalStaticUptoRow : OpenClaim := { program := "ytfdknjjnifnobaagreat", sum := "2897c1c8af7d71b778a1026a4f9e4f30086948bfc16fa077652e5cf621899234", func := "loop.example/gradual/laws.FnMaximalStatic", spec := "fnMaximalStatic", unfollowed := true, recurses := true, apart := false, narrowed := true }
def FnMaximalStaticUptoSaid : Prop := fnMaximalStaticUptoRow.holds Tryz.pinned (OpenSpec.upto fnMaximalStaticSpec)

/-- 'laws.FnMigrateTerm', WHERE WHAT IT READS IS OF BULK AT MOST 1048576: true; the input reads as it did. -/
def fnMigrateTermUptoRow : OpenClaim := { program := "ytfdknjjnifnobaagreat", sum := "2897c1c8af7d71b778a1026a4f9e4f30086948bfc16fa077652e5cf621899234", func := "loop.example/gradual/laws.FnMigrateTerm", spec := "fnMigrateTerm", unfollowed := true, recurses := true, apart := false, narrowed := true }
def FnMigrateTermUptoSaid : Prop := fnMigrateTermUptoRow.holds Tryz.pinned (OpenSpec.upto fnMigrateTermSpec)

/-- 'laws.FnTypeStatic', WHERE WHAT IT READS IS OF BULK AT MOST 1048576: true; the input reads as it did. -/
def fnTypeStaticUptoRow : OpenClaim := { program := "ytfdknjjnifnobaagreat", sum := "2897c1c8af7d71b778a1026a4f9e4f30086948bfc16fa077652e5cf621899234", func := "loop.example/gradual/laws.FnTypeStatic", spec := "fnTypeStatic", inPlace := ["internal/bytealg.IndexByteString", "internal/bytealg.IndexString"], unfollowed := true, recurses := true, named := ["internal/bytealg.MaxLen"], apart := false, narrowed := true }
def FnTypeStaticUptoSaid : Prop := fnTypeStaticUptoRow.holds Tryz.pinned (OpenSpec.upto fnTypeStaticSpec)

/-- 'laws.FnRefineTerm', WHERE WHAT IT READS IS OF BULK AT MOST 1048576: true; the input reads as it did. -/
def fnRefineTermUptoRow : OpenClaim := { program := "ytfdknjjnifnobaagreat", sum := "2897c1c8af7d71b778a1026a4f9e4f30086948bfc16fa077652e5cf621899234", func := "loop.example/gradual/laws.FnRefineTerm", spec := "fnRefineTerm", unfollowed := true, recurses := true, apart := false, narrowed := true }
def FnRefineTermUptoSaid : Prop := fnRefineTermUptoRow.holds Tryz.pinned (OpenSpec.upto fnRefineTermSpec)

/-- 'laws.FnMigrateTwice', WHERE WHAT IT READS IS OF BULK AT MOST 1048576: true; the input reads as it did. -/
def fnMigrateTwiceUptoRow : OpenClaim := { program := "ytfdknjjnifnobaagreat", sum := "2897c1c8af7d71b778a1026a4f9e4f30086948bfc16fa077652e5cf621899234", func := "loop.example/gradual/laws.FnMigrateTwice", spec := "fnMigrateTwice", unfollowed := true, recurses := true, apart := false, narrowed := true }
def FnMigrateTwiceUptoSaid : Prop := fnMigrateTwiceUptoRow.holds Tryz.pinned (OpenSpec.upto fnMigrateTwiceSpec)

/-- 'laws.FnBareValue', WHERE WHAT IT READS IS OF BULK AT MOST 1048576: true; the input reads as it did. -/
def fnBareValueUptoRow : OpenClaim := { program := "ytfdknjjnifnobaagreat", sum := "2897c1c8af7d71b778a1026a4f9e4f30086948bfc16fa077652e5cf621899234", func := "loop.example/gradual/laws.FnBareValue", spec := "fnBareValue", unfollowed := true, recurses := true, apart := false, narrowed := true }
def FnBareValueUptoSaid : Prop := fnBareValueUptoRow.holds Tryz.pinned (OpenSpec.upto fnBareValueSpec)

/-- 'laws.FnEvalBare', WHERE WHAT IT READS IS OF BULK AT MOST 1048576: true; the input reads as it did. -/
def fnEvalBareUptoRow : OpenClaim := { program := "ytfdknjjnifnobaagreat", sum := "2897c1c8af7d71b778a1026a4f9e4f30086948bfc16fa077652e5cf621899234", func := "loop.example/gradual/laws.FnEvalBare", spec := "fnEvalBare", unfollowed := true, recurses := true, apart := false, narrowed := true }
def FnEvalBareUptoSaid : Prop := fnEvalBareUptoRow.holds Tryz.pinned (OpenSpec.upto fnEvalBareSpec)

/-- 'laws.FnStepBare', WHERE WHAT IT READS IS OF BULK AT MOST 1048576: true; the input reads as it did. -/
def fnStepBareUptoRow : OpenClaim := { program := "ytfdknjjnifnobaagreat", sum := "2897c1c8af7d71b778a1026a4f9e4f30086948bfc16fa077652e5cf621899234", func := "loop.example/gradual/laws.FnStepBare", spec := "fnStepBare", inPlace := ["internal/bytealg.IndexByteString", "internal/bytealg.IndexString"], unfollowed := true, recurses := true, named := ["internal/bytealg.MaxLen"], apart := false, narrowed := true }
def FnStepBareUptoSaid : Prop := fnStepBareUptoRow.holds Tryz.pinned (OpenSpec.upto fnStepBareSpec)

/-- 'laws.FnInsertStatic', WHERE WHAT IT READS IS OF BULK AT MOST 1048576: true; the input reads as it did. -/
def fnInsertStaticUptoRow : OpenClaim := { program := "ytfdknjjnifnobaagreat", sum := "2897c1c8af7d71b778a1026a4f9e4f30086948bfc16fa077652e5cf621899234", func := "loop.example/gradual/laws.FnInsertStatic", spec := "fnInsertStatic", unfollowed := true, recurses := true, apart := false, narrowed := true }
def FnInsertStaticUptoSaid : Prop := fnInsertStaticUptoRow.holds Tryz.pinned (OpenSpec.upto fnInsertStaticSpec)

end Rows
end Go.Proofs.YtfdknjjnifnobaaGreat
