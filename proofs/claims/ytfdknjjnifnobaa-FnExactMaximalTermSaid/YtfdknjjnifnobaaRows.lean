/-
  NARROWER THAN 'FOR EVERY INPUT', by the rows' own cells (each row's printed sentence says how): FnExactBareSteps: loops · FnExactMaximalTerm: loops.
  DERIVED. THE GIVEN ROWS OF THIS SEAT. 4 by the template 'for every input the law returns true; each argument reads behind the call as it read before'; 0 by the template 'total and deterministic' (their statements: YtfdknjjnifnobaaTotals.lean).
  GIVEN WITH THE SEED: the statements are not yours to turn. If you find one false, say at which input.
  Laid BY PROGRAM, IN A SANDBOX (cutbox-rows.mjs): the forced cells as the released guide's own fill.sh prints them over the translation 79b797ba81c56645… (all of the seat's roots in one cut). By AI agents, Wed Nov 11 2026. No macro, syntax, notation, axiom, sorry.
-/
import Derived.Test.YtfdknjjnifnobaaChecked
import GoSem.Claim
import GoSem.ClaimJoined
import GoSem.ClaimMapViews
import Derived.JoinedTies
import Derived.KernelRfl
namespace Go.Proofs.Ytfdknjjnifnobaa
/- THE CELL 'sum', in the pinned program and in every row, IS THE sha256 OF THE DUMP (.gsa) THAT YtfdknjjnifnobaaProg.lean LOADS. Nothing in Lean hashes anything: it is a label: what it is worth is what the hold of that sum in a sandbox is worth. -/
noncomputable def Try.pinned : Pinned := { name := "ytfdknjjnifnobaa", sum := "79b797ba81c56645f8417b74dc2280170452ba91ae8b83c488525618317cd7bd", checked := Try.checked }
namespace Rows
def none {H : Type} : Left H := { results := [], args := [] }

/-- 'laws.FnExactBareSteps': WHATEVER THE INPUT: true; the input reads as it did. -/
def fnExactBareStepsSpec : ChangeSpec := { name := "fnExactBareSteps", fn := fun _ => fun
  | [d1, d2] => { results := [.lit (.bool true)], args := [d1, d2] }
  | _ => none }
def fnExactBareStepsRow : OpenClaim := { program := "ytfdknjjnifnobaa", sum := "79b797ba81c56645f8417b74dc2280170452ba91ae8b83c488525618317cd7bd", func := "loop.example/gradual/laws.FnExactBareSteps", spec := "fnExactBareSteps", unfollowed := true, recurses := true, loops := true, apart := false }
def FnExactBareStepsSaid : Prop := fnExactBareStepsRow.holds Try.pinned (OpenSpec.ofChange fnExactBareStepsSpec)

/-- ITS FALSE NEIGHBOUR: 'it returns false'. Refute it at one input. -/
def fnExactBareStepsWrong : ChangeSpec := { name := "fnExactBareSteps", fn := fun _ => fun
  | [d1, d2] => { results := [.lit (.bool false)], args := [d1, d2] }
  | _ => none }
def FnExactBareStepsWrongFalsely : Prop := fnExactBareStepsRow.holds Try.pinned (OpenSpec.ofChange fnExactBareStepsWrong)

/-- 'laws.FnInsertErased': WHATEVER THE INPUT: true; the input reads as it did. -/
def fnInsertErasedSpec : ChangeSpec := { name := "fnInsertErased", fn := fun _ => fun
  | [d] => { results := [.lit (.bool true)], args := [d] }
  | _ => none }
def fnInsertErasedRow : OpenClaim := { program := "ytfdknjjnifnobaa", sum := "79b797ba81c56645f8417b74dc2280170452ba91ae8b83c488525618317cd7bd", func := "loop.example/gradual/laws.FnInsertErased", spec := "fnInsertErased", unfollowed := true, recurses := true, apart := false }
def FnInsertErasedSaid : Prop := fnInsertErasedRow.holds Try.pinned (OpenSpec.ofChange fnInsertErasedSpec)

/-- ITS FALSE NEIGHBOUR: 'it returns false'. Refute it at one input. -/
def fnInsertErasedWrong : ChangeSpec := { name := "fnInsertErased", fn := fun _ => fun
  | [d] => { results := [.lit (.bool false)], args := [d] }
  | _ => none }
def FnInsertErasedWrongFalsely : Prop := fnInsertErasedRow.holds Try.pinned (OpenSpec.ofChange fnInsertErasedWrong)

/-- 'laws.FnExactMaximalTerm': WHATEVER THE INPUT: true; the input reads as it did. -/
def fnExactMaximalTermSpec : ChangeSpec := { name := "fnExactMaximalTerm", fn := fun _ => fun
  | [d] => { results := [.lit (.bool true)], args := [d] }
  | _ => none }
def fnExactMaximalTermRow : OpenClaim := { program := "ytfdknjjnifnobaa", sum := "79b797ba81c56645f8417b74dc2280170452ba91ae8b83c488525618317cd7bd", func := "loop.example/gradual/laws.FnExactMaximalTerm", spec := "fnExactMaximalTerm", unfollowed := true, recurses := true, loops := true, apart := false }
def FnExactMaximalTermSaid : Prop := fnExactMaximalTermRow.holds Try.pinned (OpenSpec.ofChange fnExactMaximalTermSpec)

/-- ITS FALSE NEIGHBOUR: 'it returns false'. Refute it at one input. -/
def fnExactMaximalTermWrong : ChangeSpec := { name := "fnExactMaximalTerm", fn := fun _ => fun
  | [d] => { results := [.lit (.bool false)], args := [d] }
  | _ => none }
def FnExactMaximalTermWrongFalsely : Prop := fnExactMaximalTermRow.holds Try.pinned (OpenSpec.ofChange fnExactMaximalTermWrong)

/-- 'laws.FnRedundantCasts': WHATEVER THE INPUT: true; the input reads as it did. -/
def fnRedundantCastsSpec : ChangeSpec := { name := "fnRedundantCasts", fn := fun _ => fun
  | [d] => { results := [.lit (.bool true)], args := [d] }
  | _ => none }
def fnRedundantCastsRow : OpenClaim := { program := "ytfdknjjnifnobaa", sum := "79b797ba81c56645f8417b74dc2280170452ba91ae8b83c488525618317cd7bd", func := "loop.example/gradual/laws.FnRedundantCasts", spec := "fnRedundantCasts", unfollowed := true, recurses := true, apart := false }
def FnRedundantCastsSaid : Prop := fnRedundantCastsRow.holds Try.pinned (OpenSpec.ofChange fnRedundantCastsSpec)

/-- ITS FALSE NEIGHBOUR: 'it returns false'. Refute it at one input. -/
def fnRedundantCastsWrong : ChangeSpec := { name := "fnRedundantCasts", fn := fun _ => fun
  | [d] => { results := [.lit (.bool false)], args := [d] }
  | _ => none }
def FnRedundantCastsWrongFalsely : Prop := fnRedundantCastsRow.holds Try.pinned (OpenSpec.ofChange fnRedundantCastsWrong)

/- THE SECOND FORM. 'bulk': how many values and letters a reading holds, each counted each time it is reached (what is shared counts as often as it is met; a slice's spare places count too). A statement '..UptoSaid' is the law's where the arguments, and the package variables that the reading takes, are together of bulk at most 1048576: NARROWER than '..Said'. Prove '..Said' where nothing that the law and all that it calls make is longer than what came in: it says more and counts as full. Else prove '..UptoSaid'. A law counts once. -/
mutual
def uptoBulk {H : Type} : DataW H → Nat
  | .lit (.string bytes) => bytes.length + 1
  | .lit _ => 1
  | .nil => 1
  | .ptr d => uptoBulk d + 1
  | .slice elems spare => uptoBulkAll elems + uptoBulkAll spare + 1
  | .agg parts => uptoBulkAll parts + 1
  | .iface _ d => uptoBulk d + 1
  | .map entries => uptoBulkEntries entries + 1
  | .held _ => 1
def uptoBulkAll {H : Type} : List (DataW H) → Nat
  | [] => 0
  | d :: r => uptoBulk d + uptoBulkAll r
def uptoBulkEntries {H : Type} : List (Lit × DataW H) → Nat
  | [] => 0
  | x :: r => uptoBulkEntry x + uptoBulkEntries r
def uptoBulkEntry {H : Type} : Lit × DataW H → Nat
  | (.string bytes, d) => bytes.length + uptoBulk d + 1
  | (_, d) => uptoBulk d + 1
 end
def uptoSmall : (H : Type) → List (DataW H) → Bool := fun _ ds => decide (uptoBulkAll ds ≤ 1048576)
def OpenSpec.upto (s : _root_.Go.ChangeSpec) : _root_.Go.OpenSpec := { _root_.Go.OpenSpec.ofChange s with cond := some uptoSmall }

/-- 'laws.FnExactBareSteps', WHERE WHAT IT READS IS OF BULK AT MOST 1048576: true; the input reads as it did. -/
def fnExactBareStepsUptoRow : OpenClaim := { program := "ytfdknjjnifnobaa", sum := "79b797ba81c56645f8417b74dc2280170452ba91ae8b83c488525618317cd7bd", func := "loop.example/gradual/laws.FnExactBareSteps", spec := "fnExactBareSteps", unfollowed := true, recurses := true, loops := true, apart := false, narrowed := true }
def FnExactBareStepsUptoSaid : Prop := fnExactBareStepsUptoRow.holds Try.pinned (OpenSpec.upto fnExactBareStepsSpec)

/-- 'laws.FnInsertErased', WHERE WHAT IT READS IS OF BULK AT MOST 1048576: true; the input reads as it did. -/
def fnInsertErasedUptoRow : OpenClaim := { program := "ytfdknjjnifnobaa", sum := "79b797ba81c56645f8417b74dc2280170452ba91ae8b83c488525618317cd7bd", func := "loop.example/gradual/laws.FnInsertErased", spec := "fnInsertErased", unfollowed := true, recurses := true, apart := false, narrowed := true }
def FnInsertErasedUptoSaid : Prop := fnInsertErasedUptoRow.holds Try.pinned (OpenSpec.upto fnInsertErasedSpec)

/-- 'laws.FnExactMaximalTerm', WHERE WHAT IT READS IS OF BULK AT MOST 1048576: true; the input reads as it did. -/
def fnExactMaximalTermUptoRow : OpenClaim := { program := "ytfdknjjnifnobaa", sum := "79b797ba81c56645f8417b74dc2280170452ba91ae8b83c488525618317cd7bd", func := "loop.example/gradual/laws.FnExactMaximalTerm", spec := "fnExactMaximalTerm", unfollowed := true, recurses := true, loops := true, apart := false, narrowed := true }
def FnExactMaximalTermUptoSaid : Prop := fnExactMaximalTermUptoRow.holds Try.pinned (OpenSpec.upto fnExactMaximalTermSpec)

/-- 'laws.FnRedundantCasts', WHERE WHAT IT READS IS OF BULK AT MOST 1048576: true; the input reads as it did. -/
def fnRedundantCastsUptoRow : OpenClaim := { program := "ytfdknjjnifnobaa", sum := "79b797ba81c56645f8417b74dc2280170452ba91ae8b83c488525618317cd7bd", func := "loop.example/gradual/laws.FnRedundantCasts", spec := "fnRedundantCasts", unfollowed := true, recurses := true, apart := false, narrowed := true }
def FnRedundantCastsUptoSaid : Prop := fnRedundantCastsUptoRow.holds Try.pinned (OpenSpec.upto fnRedundantCastsSpec)

end Rows
end Go.Proofs.Ytfdknjjnifnobaa
