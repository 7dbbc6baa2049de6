/-
  NARROWER THAN 'FOR EVERY INPUT', by the rows' own cells (each row's printed sentence says how): FnExactTypeOf: loops · FnExactTypeIn: loops · FnExactInsertCasts: loops · FnExactStepBare: loops · FnExactRefineTerm: loops.
  DERIVED. THE GIVEN ROWS OF THIS SEAT. 5 by the template 'for every input the law returns true; each argument reads behind the call as it read before'; 0 by the template 'total and deterministic' (their statements: YtgpgcnahoieedaaTotals.lean).
  GIVEN WITH THE SEED: the statements are not yours to turn. If you find one false, say at which input.
  Laid BY PROGRAM, IN A SANDBOX (cutbox-rows.mjs): the forced cells as the released guide's own fill.sh prints them over the translation f7c87e41f9ff5a22… (all of the seat's roots in one cut). By AI agents, Wed Nov 11 2026. No macro, syntax, notation, axiom, sorry.
-/
import Derived.Test.YtgpgcnahoieedaaChecked
import GoSem.Claim
import GoSem.ClaimJoined
import GoSem.ClaimMapViews
import Derived.JoinedTies
import Derived.KernelRfl
namespace Go.Proofs.Ytgpgcnahoieedaa
/- THE CELL 'sum', in the pinned program and in every row, IS THE sha256 OF THE DUMP (.gsa) THAT YtgpgcnahoieedaaProg.lean LOADS. Nothing in Lean hashes anything: it is a label: what it is worth is what the hold of that sum in a sandbox is worth. -/
noncomputable def Try.pinned : Pinned := { name := "ytgpgcnahoieedaa", sum := "f7c87e41f9ff5a2218e409a14a252f311e38c16f6cdcd971f2961b0541531abd", checked := Try.checked }
namespace Rows
def none {H : Type} : Left H := { results := [], args := [] }

/-- 'laws.FnExactTypeOf': WHATEVER THE INPUT: true; the input reads as it did. -/
def fnExactTypeOfSpec : ChangeSpec := { name := "fnExactTypeOf", fn := fun _ => fun
  | [d] => { results := [.lit (.bool true)], args := [d] }
  | _ => none }
def fnExactTypeOfRow : OpenClaim := { program := "ytgpgcnahoieedaa", sum := "f7c87e41f9ff5a2218e409a14a252f311e38c16f6cdcd971f2961b0541531abd", func := "loop.example/gradual/laws.FnExactTypeOf", spec := "fnExactTypeOf", unfollowed := true, recurses := true, loops := true, apart := false }
def FnExactTypeOfSaid : Prop := fnExactTypeOfRow.holds Try.pinned (OpenSpec.ofChange fnExactTypeOfSpec)

/-- ITS FALSE NEIGHBOUR: 'it returns false'. Refute it at one input. -/
def fnExactTypeOfWrong : ChangeSpec := { name := "fnExactTypeOf", fn := fun _ => fun
  | [d] => { results := [.lit (.bool false)], args := [d] }
  | _ => none }
def FnExactTypeOfWrongFalsely : Prop := fnExactTypeOfRow.holds Try.pinned (OpenSpec.ofChange fnExactTypeOfWrong)

/-- 'laws.FnExactTypeIn': WHATEVER THE INPUT: true; the input reads as it did. -/
def fnExactTypeInSpec : ChangeSpec := { name := "fnExactTypeIn", fn := fun _ => fun
  | [d1, d2] => { results := [.lit (.bool true)], args := [d1, d2] }
  | _ => none }
def fnExactTypeInRow : OpenClaim := { program := "ytgpgcnahoieedaa", sum := "f7c87e41f9ff5a2218e409a14a252f311e38c16f6cdcd971f2961b0541531abd", func := "loop.example/gradual/laws.FnExactTypeIn", spec := "fnExactTypeIn", unfollowed := true, recurses := true, loops := true, apart := false }
def FnExactTypeInSaid : Prop := fnExactTypeInRow.holds Try.pinned (OpenSpec.ofChange fnExactTypeInSpec)

/-- ITS FALSE NEIGHBOUR: 'it returns false'. Refute it at one input. -/
def fnExactTypeInWrong : ChangeSpec := { name := "fnExactTypeIn", fn := fun _ => fun
  | [d1, d2] => { results := [.lit (.bool false)], args := [d1, d2] }
  | _ => none }
def FnExactTypeInWrongFalsely : Prop := fnExactTypeInRow.holds Try.pinned (OpenSpec.ofChange fnExactTypeInWrong)

/-- 'laws.FnExactInsertCasts': WHATEVER THE INPUT: true; the input reads as it did. -/
def fnExactInsertCastsSpec : ChangeSpec := { name := "fnExactInsertCasts", fn := fun _ => fun
  | [d] => { results := [.lit (.bool true)], args := [d] }
  | _ => none }
def fnExactInsertCastsRow : OpenClaim := { program := "ytgpgcnahoieedaa", sum := "f7c87e41f9ff5a2218e409a14a252f311e38c16f6cdcd971f2961b0541531abd", func := "loop.example/gradual/laws.FnExactInsertCasts", spec := "fnExactInsertCasts", unfollowed := true, recurses := true, loops := true, apart := false }
def FnExactInsertCastsSaid : Prop := fnExactInsertCastsRow.holds Try.pinned (OpenSpec.ofChange fnExactInsertCastsSpec)

/-- ITS FALSE NEIGHBOUR: 'it returns false'. Refute it at one input. -/
def fnExactInsertCastsWrong : ChangeSpec := { name := "fnExactInsertCasts", fn := fun _ => fun
  | [d] => { results := [.lit (.bool false)], args := [d] }
  | _ => none }
def FnExactInsertCastsWrongFalsely : Prop := fnExactInsertCastsRow.holds Try.pinned (OpenSpec.ofChange fnExactInsertCastsWrong)

/-- 'laws.FnExactStepBare': WHATEVER THE INPUT: true; the input reads as it did. -/
def fnExactStepBareSpec : ChangeSpec := { name := "fnExactStepBare", fn := fun _ => fun
  | [d] => { results := [.lit (.bool true)], args := [d] }
  | _ => none }
def fnExactStepBareRow : OpenClaim := { program := "ytgpgcnahoieedaa", sum := "f7c87e41f9ff5a2218e409a14a252f311e38c16f6cdcd971f2961b0541531abd", func := "loop.example/gradual/laws.FnExactStepBare", spec := "fnExactStepBare", unfollowed := true, recurses := true, loops := true, apart := false }
def FnExactStepBareSaid : Prop := fnExactStepBareRow.holds Try.pinned (OpenSpec.ofChange fnExactStepBareSpec)

/-- ITS FALSE NEIGHBOUR: 'it returns false'. Refute it at one input. -/
def fnExactStepBareWrong : ChangeSpec := { name := "fnExactStepBare", fn := fun _ => fun
  | [d] => { results := [.lit (.bool false)], args := [d] }
  | _ => none }
def FnExactStepBareWrongFalsely : Prop := fnExactStepBareRow.holds Try.pinned (OpenSpec.ofChange fnExactStepBareWrong)

/-- 'laws.FnExactRefineTerm': WHATEVER THE INPUT: true; the input reads as it did. -/
def fnExactRefineTermSpec : ChangeSpec := { name := "fnExactRefineTerm", fn := fun _ => fun
  | [d] => { results := [.lit (.bool true)], args := [d] }
  | _ => none }
def fnExactRefineTermRow : OpenClaim := { program := "ytgpgcnahoieedaa", sum := "f7c87e41f9ff5a2218e409a14a252f311e38c16f6cdcd971f2961b0541531abd", func := "loop.example/gradual/laws.FnExactRefineTerm", spec := "fnExactRefineTerm", unfollowed := true, recurses := true, loops := true, apart := false }
def FnExactRefineTermSaid : Prop := fnExactRefineTermRow.holds Try.pinned (OpenSpec.ofChange fnExactRefineTermSpec)

/-- ITS FALSE NEIGHBOUR: 'it returns false'. Refute it at one input. -/
def fnExactRefineTermWrong : ChangeSpec := { name := "fnExactRefineTerm", fn := fun _ => fun
  | [d] => { results := [.lit (.bool false)], args := [d] }
  | _ => none }
def FnExactRefineTermWrongFalsely : Prop := fnExactRefineTermRow.holds Try.pinned (OpenSpec.ofChange fnExactRefineTermWrong)

/- THE SECOND FORM. 'bulk': how many values and letters a reading holds, each counted each time it is reached (what is shared counts as often as it is met; a slice's spare places count too). A statement '..UptoSaid' is the law's where the arguments, and the package variables that the reading takes, are together of bulk at most 1048576: NARROWER than '..Said'. Prove '..Said' where nothing that the law and all that it calls make is longer than what came in: it says more and counts as full. Else prove '..UptoSaid'. A law counts once. -/
mutual
def uptoBulk {H : Type} : DataW H → Nat
  | .lit (.string bytes) => bytes.length + 1
  | .lit _ => 1
  | .nil => 1
  | .ptr d => uptoBulk d + 1
  | .slice elems spare => uptoBulkAll elems + uptoBulkAll spare + 1
  | .agg parts => uptoBulkAll parts + 1
  | .iface _ d => uptoBulk d + 1
  | .map entries => uptoBulkEntries entries + 1
  | .held _ => 1
def uptoBulkAll {H : Type} : List (DataW H) → Nat
  | [] => 0
  | d :: r => uptoBulk d + uptoBulkAll r
def uptoBulkEntries {H : Type} : List (Lit × DataW H) → Nat
  | [] => 0
  | x :: r => uptoBulkEntry x + uptoBulkEntries r
def uptoBulkEntry {H : Type} : Lit × DataW H → Nat
  | (.string bytes, d) => bytes.length + uptoBulk d + 1
  | (_, d) => uptoBulk d + 1
 end
def uptoSmall : (H : Type) → List (DataW H) → Bool := fun _ ds => decide (uptoBulkAll ds ≤ 1048576)
def OpenSpec.upto (s : _root_.Go.ChangeSpec) : _root_.Go.OpenSpec := { _root_.Go.OpenSpec.ofChange s with cond := some uptoSmall }

/-- 'laws.FnExactTypeOf', WHERE WHAT IT READS IS OF BULK AT MOST 1048576: true; the input reads as it did. -/
def fnExactTypeOfUptoRow : OpenClaim := { program := "ytgpgcnahoieedaa", sum := "f7c87e41f9ff5a2218e409a14a252f311e38c16f6cdcd971f2961b0541531abd", func := "loop.example/gradual/laws.FnExactTypeOf", spec := "fnExactTypeOf", unfollowed := true, recurses := true, loops := true, apart := false, narrowed := true }
def FnExactTypeOfUptoSaid : Prop := fnExactTypeOfUptoRow.holds Try.pinned (OpenSpec.upto fnExactTypeOfSpec)

/-- 'laws.FnExactTypeIn', WHERE WHAT IT READS IS OF BULK AT MOST 1048576: true; the input reads as it did. -/
def fnExactTypeInUptoRow : OpenClaim := { program := "ytgpgcnahoieedaa", sum := "f7c87e41f9ff5a2218e409a14a252f311e38c16f6cdcd971f2961b0541531abd", func := "loop.example/gradual/laws.FnExactTypeIn", spec := "fnExactTypeIn", unfollowed := true, recurses := true, loops := true, apart := false, narrowed := true }
def FnExactTypeInUptoSaid : Prop := fnExactTypeInUptoRow.holds Try.pinned (OpenSpec.upto fnExactTypeInSpec)

/-- 'laws.FnExactInsertCasts', WHERE WHAT IT READS IS OF BULK AT MOST 1048576: true; the input reads as it did. -/
def fnExactInsertCastsUptoRow : OpenClaim := { program := "ytgpgcnahoieedaa", sum := "f7c87e41f9ff5a2218e409a14a252f311e38c16f6cdcd971f2961b0541531abd", func := "loop.example/gradual/laws.FnExactInsertCasts", spec := "fnExactInsertCasts", unfollowed := true, recurses := true, loops := true, apart := false, narrowed := true }
def FnExactInsertCastsUptoSaid : Prop := fnExactInsertCastsUptoRow.holds Try.pinned (OpenSpec.upto fnExactInsertCastsSpec)

/-- 'laws.FnExactStepBare', WHERE WHAT IT READS IS OF BULK AT MOST 1048576: true; the input reads as it did. -/
def fnExactStepBareUptoRow : OpenClaim := { program := "ytgpgcnahoieedaa", sum := "f7c87e41f9ff5a2218e409a14a252f311e38c16f6cdcd971f2961b0541531abd", func := "loop.example/gradual/laws.FnExactStepBare", spec := "fnExactStepBare", unfollowed := true, recurses := true, loops := true, apart := false, narrowed := true }
def FnExactStepBareUptoSaid : Prop := fnExactStepBareUptoRow.holds Try.pinned (OpenSpec.upto fnExactStepBareSpec)

/-- 'laws.FnExactRefineTerm', WHERE WHAT IT READS IS OF BULK AT MOST 1048576: true; the input reads as it did. -/
def fnExactRefineTermUptoRow : OpenClaim := { program := "ytgpgcnahoieedaa", sum := "f7c87e41f9ff5a2218e409a14a252f311e38c16f6cdcd971f2961b0541531abd", func := "loop.example/gradual/laws.FnExactRefineTerm", spec := "fnExactRefineTerm", unfollowed := true, recurses := true, loops := true, apart := false, narrowed := true }
def FnExactRefineTermUptoSaid : Prop := fnExactRefineTermUptoRow.holds Try.pinned (OpenSpec.upto fnExactRefineTermSpec)

end Rows
end Go.Proofs.Ytgpgcnahoieedaa
