/-
  No cell of these rows narrows 'for every input' (looked for: loops, veiled, ifaces, maps, wideKeys, modest, calm, conditions, laid).
  DERIVED. THE GIVEN ROWS OF THIS SEAT. 9 by the template 'for every input the law returns true; each argument reads behind the call as it read before'; 0 by the template 'total and deterministic' (their statements: YtiffndccihaopaaTotals.lean).
  GIVEN WITH THE SEED: the statements are not yours to turn. If you find one false, say at which input.
  Laid BY PROGRAM, IN A SANDBOX (cutbox-rows.mjs): the forced cells as the released guide's own fill.sh prints them over the translation a71d2c8b689a9a1a… (all of the seat's roots in one cut). By AI agents, Wed Nov 11 2026. No macro, syntax, notation, axiom, sorry.
-/
import Derived.Test.YtiffndccihaopaaChecked
import GoSem.Claim
import GoSem.ClaimJoined
import GoSem.ClaimMapViews
import Derived.JoinedTies
import Derived.KernelRfl
namespace Go.Proofs.Ytiffndccihaopaa
/- THE CELL 'sum', in the pinned program and in every row, IS THE sha256 OF THE DUMP (.gsa) THAT YtiffndccihaopaaProg.lean LOADS. Nothing in Lean hashes anything: it is a label: what it is worth is what the hold of that sum in a sandbox is worth. -/
noncomputable def Try.pinned : Pinned := { name := "ytiffndccihaopaa", sum := "a71d2c8b689a9a1ad4a84b68ba545fe29b180b0034ca0d28228b1b1c7f5dc56f", checked := Try.checked }
namespace Rows
def none {H : Type} : Left H := { results := [], args := [] }

/-- 'laws.FnTypeApply': WHATEVER THE INPUT: true; the input reads as it did. -/
def fnTypeApplySpec : ChangeSpec := { name := "fnTypeApply", fn := fun _ => fun
  | [d1, d2] => { results := [.lit (.bool true)], args := [d1, d2] }
  | _ => none }
def fnTypeApplyRow : OpenClaim := { program := "ytiffndccihaopaa", sum := "a71d2c8b689a9a1ad4a84b68ba545fe29b180b0034ca0d28228b1b1c7f5dc56f", func := "loop.example/gradual/laws.FnTypeApply", spec := "fnTypeApply", unfollowed := true, recurses := true, apart := false }
def FnTypeApplySaid : Prop := fnTypeApplyRow.holds Try.pinned (OpenSpec.ofChange fnTypeApplySpec)

/-- ITS FALSE NEIGHBOUR: 'it returns false'. Refute it at one input. -/
def fnTypeApplyWrong : ChangeSpec := { name := "fnTypeApply", fn := fun _ => fun
  | [d1, d2] => { results := [.lit (.bool false)], args := [d1, d2] }
  | _ => none }
def FnTypeApplyWrongFalsely : Prop := fnTypeApplyRow.holds Try.pinned (OpenSpec.ofChange fnTypeApplyWrong)

/-- 'laws.FnTypeAs': WHATEVER THE INPUT: true; the input reads as it did. -/
def fnTypeAsSpec : ChangeSpec := { name := "fnTypeAs", fn := fun _ => fun
  | [d1, d2] => { results := [.lit (.bool true)], args := [d1, d2] }
  | _ => none }
def fnTypeAsRow : OpenClaim := { program := "ytiffndccihaopaa", sum := "a71d2c8b689a9a1ad4a84b68ba545fe29b180b0034ca0d28228b1b1c7f5dc56f", func := "loop.example/gradual/laws.FnTypeAs", spec := "fnTypeAs", unfollowed := true, recurses := true, apart := false }
def FnTypeAsSaid : Prop := fnTypeAsRow.holds Try.pinned (OpenSpec.ofChange fnTypeAsSpec)

/-- ITS FALSE NEIGHBOUR: 'it returns false'. Refute it at one input. -/
def fnTypeAsWrong : ChangeSpec := { name := "fnTypeAs", fn := fun _ => fun
  | [d1, d2] => { results := [.lit (.bool false)], args := [d1, d2] }
  | _ => none }
def FnTypeAsWrongFalsely : Prop := fnTypeAsRow.holds Try.pinned (OpenSpec.ofChange fnTypeAsWrong)

/-- 'laws.FnTypeWeaken': WHATEVER THE INPUT: true; the input reads as it did. -/
def fnTypeWeakenSpec : ChangeSpec := { name := "fnTypeWeaken", fn := fun _ => fun
  | [d1, d2] => { results := [.lit (.bool true)], args := [d1, d2] }
  | _ => none }
def fnTypeWeakenRow : OpenClaim := { program := "ytiffndccihaopaa", sum := "a71d2c8b689a9a1ad4a84b68ba545fe29b180b0034ca0d28228b1b1c7f5dc56f", func := "loop.example/gradual/laws.FnTypeWeaken", spec := "fnTypeWeaken", unfollowed := true, recurses := true, apart := false }
def FnTypeWeakenSaid : Prop := fnTypeWeakenRow.holds Try.pinned (OpenSpec.ofChange fnTypeWeakenSpec)

/-- ITS FALSE NEIGHBOUR: 'it returns false'. Refute it at one input. -/
def fnTypeWeakenWrong : ChangeSpec := { name := "fnTypeWeaken", fn := fun _ => fun
  | [d1, d2] => { results := [.lit (.bool false)], args := [d1, d2] }
  | _ => none }
def FnTypeWeakenWrongFalsely : Prop := fnTypeWeakenRow.holds Try.pinned (OpenSpec.ofChange fnTypeWeakenWrong)

/-- 'laws.FnTypePair': WHATEVER THE INPUT: true; the input reads as it did. -/
def fnTypePairSpec : ChangeSpec := { name := "fnTypePair", fn := fun _ => fun
  | [d1, d2] => { results := [.lit (.bool true)], args := [d1, d2] }
  | _ => none }
def fnTypePairRow : OpenClaim := { program := "ytiffndccihaopaa", sum := "a71d2c8b689a9a1ad4a84b68ba545fe29b180b0034ca0d28228b1b1c7f5dc56f", func := "loop.example/gradual/laws.FnTypePair", spec := "fnTypePair", unfollowed := true, recurses := true, apart := false }
def FnTypePairSaid : Prop := fnTypePairRow.holds Try.pinned (OpenSpec.ofChange fnTypePairSpec)

/-- ITS FALSE NEIGHBOUR: 'it returns false'. Refute it at one input. -/
def fnTypePairWrong : ChangeSpec := { name := "fnTypePair", fn := fun _ => fun
  | [d1, d2] => { results := [.lit (.bool false)], args := [d1, d2] }
  | _ => none }
def FnTypePairWrongFalsely : Prop := fnTypePairRow.holds Try.pinned (OpenSpec.ofChange fnTypePairWrong)

/-- 'laws.FnTypeLam': WHATEVER THE INPUT: true; the input reads as it did. -/
def fnTypeLamSpec : ChangeSpec := { name := "fnTypeLam", fn := fun _ => fun
  | [d1, d2] => { results := [.lit (.bool true)], args := [d1, d2] }
  | _ => none }
def fnTypeLamRow : OpenClaim := { program := "ytiffndccihaopaa", sum := "a71d2c8b689a9a1ad4a84b68ba545fe29b180b0034ca0d28228b1b1c7f5dc56f", func := "loop.example/gradual/laws.FnTypeLam", spec := "fnTypeLam", unfollowed := true, recurses := true, apart := false }
def FnTypeLamSaid : Prop := fnTypeLamRow.holds Try.pinned (OpenSpec.ofChange fnTypeLamSpec)

/-- ITS FALSE NEIGHBOUR: 'it returns false'. Refute it at one input. -/
def fnTypeLamWrong : ChangeSpec := { name := "fnTypeLam", fn := fun _ => fun
  | [d1, d2] => { results := [.lit (.bool false)], args := [d1, d2] }
  | _ => none }
def FnTypeLamWrongFalsely : Prop := fnTypeLamRow.holds Try.pinned (OpenSpec.ofChange fnTypeLamWrong)

/-- 'laws.FnTypeGradual': WHATEVER THE INPUT: true; the input reads as it did. -/
def fnTypeGradualSpec : ChangeSpec := { name := "fnTypeGradual", fn := fun _ => fun
  | [d] => { results := [.lit (.bool true)], args := [d] }
  | _ => none }
def fnTypeGradualRow : OpenClaim := { program := "ytiffndccihaopaa", sum := "a71d2c8b689a9a1ad4a84b68ba545fe29b180b0034ca0d28228b1b1c7f5dc56f", func := "loop.example/gradual/laws.FnTypeGradual", spec := "fnTypeGradual", unfollowed := true, recurses := true, apart := false }
def FnTypeGradualSaid : Prop := fnTypeGradualRow.holds Try.pinned (OpenSpec.ofChange fnTypeGradualSpec)

/-- ITS FALSE NEIGHBOUR: 'it returns false'. Refute it at one input. -/
def fnTypeGradualWrong : ChangeSpec := { name := "fnTypeGradual", fn := fun _ => fun
  | [d] => { results := [.lit (.bool false)], args := [d] }
  | _ => none }
def FnTypeGradualWrongFalsely : Prop := fnTypeGradualRow.holds Try.pinned (OpenSpec.ofChange fnTypeGradualWrong)

/-- 'laws.FnInsertBare': WHATEVER THE INPUT: true; the input reads as it did. -/
def fnInsertBareSpec : ChangeSpec := { name := "fnInsertBare", fn := fun _ => fun
  | [d] => { results := [.lit (.bool true)], args := [d] }
  | _ => none }
def fnInsertBareRow : OpenClaim := { program := "ytiffndccihaopaa", sum := "a71d2c8b689a9a1ad4a84b68ba545fe29b180b0034ca0d28228b1b1c7f5dc56f", func := "loop.example/gradual/laws.FnInsertBare", spec := "fnInsertBare", unfollowed := true, recurses := true, apart := false }
def FnInsertBareSaid : Prop := fnInsertBareRow.holds Try.pinned (OpenSpec.ofChange fnInsertBareSpec)

/-- ITS FALSE NEIGHBOUR: 'it returns false'. Refute it at one input. -/
def fnInsertBareWrong : ChangeSpec := { name := "fnInsertBare", fn := fun _ => fun
  | [d] => { results := [.lit (.bool false)], args := [d] }
  | _ => none }
def FnInsertBareWrongFalsely : Prop := fnInsertBareRow.holds Try.pinned (OpenSpec.ofChange fnInsertBareWrong)

/-- 'laws.FnTypeSubst': WHATEVER THE INPUT: true; the input reads as it did. -/
def fnTypeSubstSpec : ChangeSpec := { name := "fnTypeSubst", fn := fun _ => fun
  | [d] => { results := [.lit (.bool true)], args := [d] }
  | _ => none }
def fnTypeSubstRow : OpenClaim := { program := "ytiffndccihaopaa", sum := "a71d2c8b689a9a1ad4a84b68ba545fe29b180b0034ca0d28228b1b1c7f5dc56f", func := "loop.example/gradual/laws.FnTypeSubst", spec := "fnTypeSubst", inPlace := ["internal/bytealg.IndexByteString", "internal/bytealg.IndexString"], unfollowed := true, recurses := true, named := ["internal/bytealg.MaxLen"], apart := false }
def FnTypeSubstSaid : Prop := fnTypeSubstRow.holds Try.pinned (OpenSpec.ofChange fnTypeSubstSpec)

/-- ITS FALSE NEIGHBOUR: 'it returns false'. Refute it at one input. -/
def fnTypeSubstWrong : ChangeSpec := { name := "fnTypeSubst", fn := fun _ => fun
  | [d] => { results := [.lit (.bool false)], args := [d] }
  | _ => none }
def FnTypeSubstWrongFalsely : Prop := fnTypeSubstRow.holds Try.pinned (OpenSpec.ofChange fnTypeSubstWrong)

/-- 'laws.FnInsertTyped': WHATEVER THE INPUT: true; the input reads as it did. -/
def fnInsertTypedSpec : ChangeSpec := { name := "fnInsertTyped", fn := fun _ => fun
  | [d] => { results := [.lit (.bool true)], args := [d] }
  | _ => none }
def fnInsertTypedRow : OpenClaim := { program := "ytiffndccihaopaa", sum := "a71d2c8b689a9a1ad4a84b68ba545fe29b180b0034ca0d28228b1b1c7f5dc56f", func := "loop.example/gradual/laws.FnInsertTyped", spec := "fnInsertTyped", unfollowed := true, recurses := true, apart := false }
def FnInsertTypedSaid : Prop := fnInsertTypedRow.holds Try.pinned (OpenSpec.ofChange fnInsertTypedSpec)

/-- ITS FALSE NEIGHBOUR: 'it returns false'. Refute it at one input. -/
def fnInsertTypedWrong : ChangeSpec := { name := "fnInsertTyped", fn := fun _ => fun
  | [d] => { results := [.lit (.bool false)], args := [d] }
  | _ => none }
def FnInsertTypedWrongFalsely : Prop := fnInsertTypedRow.holds Try.pinned (OpenSpec.ofChange fnInsertTypedWrong)

/- THE SECOND FORM. 'bulk': how many values and letters a reading holds, each counted each time it is reached (what is shared counts as often as it is met; a slice's spare places count too). A statement '..UptoSaid' is the law's where the arguments, and the package variables that the reading takes, are together of bulk at most 1048576: NARROWER than '..Said'. Prove '..Said' where nothing that the law and all that it calls make is longer than what came in: it says more and counts as full. Else prove '..UptoSaid'. A law counts once. -/
mutual
def uptoBulk {H : Type} : DataW H → Nat
  | .lit (.string bytes) => bytes.length + 1
  | .lit _ => 1
  | .nil => 1
  | .ptr d => uptoBulk d + 1
  | .slice elems spare => uptoBulkAll elems + uptoBulkAll spare + 1
  | .agg parts => uptoBulkAll parts + 1
  | .iface _ d => uptoBulk d + 1
  | .map entries => uptoBulkEntries entries + 1
  | .held _ => 1
def uptoBulkAll {H : Type} : List (DataW H) → Nat
  | [] => 0
  | d :: r => uptoBulk d + uptoBulkAll r
def uptoBulkEntries {H : Type} : List (Lit × DataW H) → Nat
  | [] => 0
  | x :: r => uptoBulkEntry x + uptoBulkEntries r
def uptoBulkEntry {H : Type} : Lit × DataW H → Nat
  | (.string bytes, d) => bytes.length + uptoBulk d + 1
  | (_, d) => uptoBulk d + 1
 end
def uptoSmall : (H : Type) → List (DataW H) → Bool := fun _ ds => decide (uptoBulkAll ds ≤ 1048576)
def OpenSpec.upto (s : _root_.Go.ChangeSpec) : _root_.Go.OpenSpec := { _root_.Go.OpenSpec.ofChange s with cond := some uptoSmall }

/-- 'laws.FnTypeApply', WHERE WHAT IT READS IS OF BULK AT MOST 1048576: true; the input reads as it did. -/
def fnTypeApplyUptoRow : OpenClaim := { program := "ytiffndccihaopaa", sum := "a71d2c8b689a9a1ad4a84b68ba545fe29b180b0034ca0d28228b1b1c7f5dc56f", func := "loop.example/gradual/laws.FnTypeApply", spec := "fnTypeApply", unfollowed := true, recurses := true, apart := false, narrowed := true }
def FnTypeApplyUptoSaid : Prop := fnTypeApplyUptoRow.holds Try.pinned (OpenSpec.upto fnTypeApplySpec)

/-- 'laws.FnTypeAs', WHERE WHAT IT READS IS OF BULK AT MOST 1048576: true; the input reads as it did. -/
def fnTypeAsUptoRow : OpenClaim := { program := "ytiffndccihaopaa", sum := "a71d2c8b689a9a1ad4a84b68ba545fe29b180b0034ca0d28228b1b1c7f5dc56f", func := "loop.example/gradual/laws.FnTypeAs", spec := "fnTypeAs", unfollowed := true, recurses := true, apart := false, narrowed := true }
def FnTypeAsUptoSaid : Prop := fnTypeAsUptoRow.holds Try.pinned (OpenSpec.upto fnTypeAsSpec)

/-- 'laws.FnTypeWeaken', WHERE WHAT IT READS IS OF BULK AT MOST 1048576: true; the input reads as it did. -/
def fnTypeWeakenUptoRow : OpenClaim := { program := "ytiffndccihaopaa", sum := "a71d2c8b689a9a1ad4a84b68ba545fe29b180b0034ca0d28228b1b1c7f5dc56f", func := "loop.example/gradual/laws.FnTypeWeaken", spec := "fnTypeWeaken", unfollowed := true, recurses := true, apart := false, narrowed := true }
def FnTypeWeakenUptoSaid : Prop := fnTypeWeakenUptoRow.holds Try.pinned (OpenSpec.upto fnTypeWeakenSpec)

/-- 'laws.FnTypePair', WHERE WHAT IT READS IS OF BULK AT MOST 1048576: true; the input reads as it did. -/
def fnTypePairUptoRow : OpenClaim := { program := "ytiffndccihaopaa", sum := "a71d2c8b689a9a1ad4a84b68ba545fe29b180b0034ca0d28228b1b1c7f5dc56f", func := "loop.example/gradual/laws.FnTypePair", spec := "fnTypePair", unfollowed := true, recurses := true, apart := false, narrowed := true }
def FnTypePairUptoSaid : Prop := fnTypePairUptoRow.holds Try.pinned (OpenSpec.upto fnTypePairSpec)

/-- 'laws.FnTypeLam', WHERE WHAT IT READS IS OF BULK AT MOST 1048576: true; the input reads as it did. -/
def fnTypeLamUptoRow : OpenClaim := { program := "ytiffndccihaopaa", sum := "a71d2c8b689a9a1ad4a84b68ba545fe29b180b0034ca0d28228b1b1c7f5dc56f", func := "loop.example/gradual/laws.FnTypeLam", spec := "fnTypeLam", unfollowed := true, recurses := true, apart := false, narrowed := true }
def FnTypeLamUptoSaid : Prop := fnTypeLamUptoRow.holds Try.pinned (OpenSpec.upto fnTypeLamSpec)

/-- 'laws.FnTypeGradual', WHERE WHAT IT READS IS OF BULK AT MOST 1048576: true; the input reads as it did. -/
def fnTypeGradualUptoRow : OpenClaim := { program := "ytiffndccihaopaa", sum := "a71d2c8b689a9a1ad4a84b68ba545fe29b180b0034ca0d28228b1b1c7f5dc56f", func := "loop.example/gradual/laws.FnTypeGradual", spec := "fnTypeGradual", unfollowed := true, recurses := true, apart := false, narrowed := true }
def FnTypeGradualUptoSaid : Prop := fnTypeGradualUptoRow.holds Try.pinned (OpenSpec.upto fnTypeGradualSpec)

/-- 'laws.FnInsertBare', WHERE WHAT IT READS IS OF BULK AT MOST 1048576: true; the input reads as it did. -/
def fnInsertBareUptoRow : OpenClaim := { program := "ytiffndccihaopaa", sum := "a71d2c8b689a9a1ad4a84b68ba545fe29b180b0034ca0d28228b1b1c7f5dc56f", func := "loop.example/gradual/laws.FnInsertBare", spec := "fnInsertBare", unfollowed := true, recurses := true, apart := false, narrowed := true }
def FnInsertBareUptoSaid : Prop := fnInsertBareUptoRow.holds Try.pinned (OpenSpec.upto fnInsertBareSpec)

/-- 'laws.FnTypeSubst', WHERE WHAT IT READS IS OF BULK AT MOST 1048576: true; the input reads as it did. -/
def fnTypeSubstUptoRow : OpenClaim := { program := "ytiffndccihaopaa", sum := "a71d2c8b689a9a1ad4a84b68ba545fe29b180b0034ca0d28228b1b1c7f5dc56f", func := "loop.example/gradual/laws.FnTypeSubst", spec := "fnTypeSubst", inPlace := ["internal/bytealg.IndexByteString", "internal/bytealg.IndexString"], unfollowed := true, recurses := true, named := ["internal/bytealg.MaxLen"], apart := false, narrowed := true }
def FnTypeSubstUptoSaid : Prop := fnTypeSubstUptoRow.holds Try.pinned (OpenSpec.upto fnTypeSubstSpec)

/-- 'laws.FnInsertTyped', WHERE WHAT IT READS IS OF BULK AT MOST 1048576: true; the input reads as it did. -/
def fnInsertTypedUptoRow : OpenClaim := { program := "ytiffndccihaopaa", sum := "a71d2c8b689a9a1ad4a84b68ba545fe29b180b0034ca0d28228b1b1c7f5dc56f", func := "loop.example/gradual/laws.FnInsertTyped", spec := "fnInsertTyped", unfollowed := true, recurses := true, apart := false, narrowed := true }
def FnInsertTypedUptoSaid : Prop := fnInsertTypedUptoRow.holds Try.pinned (OpenSpec.upto fnInsertTypedSpec)

end Rows
end Go.Proofs.Ytiffndccihaopaa
