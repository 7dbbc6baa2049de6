/-
  NARROWER THAN 'FOR EVERY INPUT', by the rows' own cells (each row's printed sentence says how): FnExactBareValid: loops.
  DERIVED. THE GIVEN ROWS OF THIS SEAT. 4 by the template 'for every input the law returns true; each argument reads behind the call as it read before'; 0 by the template 'total and deterministic' (their statements: YtdbffbmbbfbamaaTotals.lean).
  GIVEN WITH THE SEED: the statements are not yours to turn. If you find one false, say at which input.
  Laid BY PROGRAM, IN A SANDBOX (cutbox-rows.mjs): the forced cells as the released guide's own fill.sh prints them over the translation 00bde0a983ad467d… (all of the seat's roots in one cut). By AI agents, Wed Nov 11 2026. No macro, syntax, notation, axiom, sorry.
-/
import Derived.Test.YtdbffbmbbfbamaaChecked
import GoSem.Claim
import GoSem.ClaimJoined
import GoSem.ClaimMapViews
import Derived.JoinedTies
import Derived.KernelRfl
namespace Go.Proofs.Ytdbffbmbbfbamaa
/- THE CELL 'sum', in the pinned program and in every row, IS THE sha256 OF THE DUMP (.gsa) THAT YtdbffbmbbfbamaaProg.lean LOADS. Nothing in Lean hashes anything: it is a label: what it is worth is what the hold of that sum in a sandbox is worth. -/
noncomputable def Try.pinned : Pinned := { name := "ytdbffbmbbfbamaa", sum := "00bde0a983ad467db19a79c0d8543c8846b65e999be1fc1aa48960a4d99b0b1c", checked := Try.checked }
namespace Rows
def none {H : Type} : Left H := { results := [], args := [] }

/-- 'laws.FnExactOpsSame': WHATEVER THE INPUT: true; the input reads as it did. -/
def fnExactOpsSameSpec : ChangeSpec := { name := "fnExactOpsSame", fn := fun _ => fun
  | [d1, d2] => { results := [.lit (.bool true)], args := [d1, d2] }
  | _ => none }
def fnExactOpsSameRow : OpenClaim := { program := "ytdbffbmbbfbamaa", sum := "00bde0a983ad467db19a79c0d8543c8846b65e999be1fc1aa48960a4d99b0b1c", func := "loop.example/gradual/laws.FnExactOpsSame", spec := "fnExactOpsSame", apart := false }
def FnExactOpsSameSaid : Prop := fnExactOpsSameRow.holds Try.pinned (OpenSpec.ofChange fnExactOpsSameSpec)

/-- ITS FALSE NEIGHBOUR: 'it returns false'. Refute it at one input. -/
def fnExactOpsSameWrong : ChangeSpec := { name := "fnExactOpsSame", fn := fun _ => fun
  | [d1, d2] => { results := [.lit (.bool false)], args := [d1, d2] }
  | _ => none }
def FnExactOpsSameWrongFalsely : Prop := fnExactOpsSameRow.holds Try.pinned (OpenSpec.ofChange fnExactOpsSameWrong)

/-- 'laws.FnExactOpsValid': WHATEVER THE INPUT: true; the input reads as it did. -/
def fnExactOpsValidSpec : ChangeSpec := { name := "fnExactOpsValid", fn := fun _ => fun
  | [d] => { results := [.lit (.bool true)], args := [d] }
  | _ => none }
def fnExactOpsValidRow : OpenClaim := { program := "ytdbffbmbbfbamaa", sum := "00bde0a983ad467db19a79c0d8543c8846b65e999be1fc1aa48960a4d99b0b1c", func := "loop.example/gradual/laws.FnExactOpsValid", spec := "fnExactOpsValid", apart := false }
def FnExactOpsValidSaid : Prop := fnExactOpsValidRow.holds Try.pinned (OpenSpec.ofChange fnExactOpsValidSpec)

/-- ITS FALSE NEIGHBOUR: 'it returns false'. Refute it at one input. -/
def fnExactOpsValidWrong : ChangeSpec := { name := "fnExactOpsValid", fn := fun _ => fun
  | [d] => { results := [.lit (.bool false)], args := [d] }
  | _ => none }
def FnExactOpsValidWrongFalsely : Prop := fnExactOpsValidRow.holds Try.pinned (OpenSpec.ofChange fnExactOpsValidWrong)

/-- 'laws.FnExactBareValid': WHATEVER THE INPUT: true; the input reads as it did. -/
def fnExactBareValidSpec : ChangeSpec := { name := "fnExactBareValid", fn := fun _ => fun
  | [d] => { results := [.lit (.bool true)], args := [d] }
  | _ => none }
def fnExactBareValidRow : OpenClaim := { program := "ytdbffbmbbfbamaa", sum := "00bde0a983ad467db19a79c0d8543c8846b65e999be1fc1aa48960a4d99b0b1c", func := "loop.example/gradual/laws.FnExactBareValid", spec := "fnExactBareValid", unfollowed := true, recurses := true, loops := true, apart := false }
def FnExactBareValidSaid : Prop := fnExactBareValidRow.holds Try.pinned (OpenSpec.ofChange fnExactBareValidSpec)

/-- ITS FALSE NEIGHBOUR: 'it returns false'. Refute it at one input. -/
def fnExactBareValidWrong : ChangeSpec := { name := "fnExactBareValid", fn := fun _ => fun
  | [d] => { results := [.lit (.bool false)], args := [d] }
  | _ => none }
def FnExactBareValidWrongFalsely : Prop := fnExactBareValidRow.holds Try.pinned (OpenSpec.ofChange fnExactBareValidWrong)

/-- 'laws.FnOpsSame': WHATEVER THE INPUT: true; the input reads as it did. -/
def fnOpsSameSpec : ChangeSpec := { name := "fnOpsSame", fn := fun _ => fun
  | [d] => { results := [.lit (.bool true)], args := [d] }
  | _ => none }
def fnOpsSameRow : OpenClaim := { program := "ytdbffbmbbfbamaa", sum := "00bde0a983ad467db19a79c0d8543c8846b65e999be1fc1aa48960a4d99b0b1c", func := "loop.example/gradual/laws.FnOpsSame", spec := "fnOpsSame", recurses := true, apart := false }
def FnOpsSameSaid : Prop := fnOpsSameRow.holds Try.pinned (OpenSpec.ofChange fnOpsSameSpec)

/-- ITS FALSE NEIGHBOUR: 'it returns false'. Refute it at one input. -/
def fnOpsSameWrong : ChangeSpec := { name := "fnOpsSame", fn := fun _ => fun
  | [d] => { results := [.lit (.bool false)], args := [d] }
  | _ => none }
def FnOpsSameWrongFalsely : Prop := fnOpsSameRow.holds Try.pinned (OpenSpec.ofChange fnOpsSameWrong)

/- THE SECOND FORM. 'bulk': how many values and letters a reading holds, each counted each time it is reached (what is shared counts as often as it is met; a slice's spare places count too). A statement '..UptoSaid' is the law's where the arguments, and the package variables that the reading takes, are together of bulk at most 1048576: NARROWER than '..Said'. Prove '..Said' where nothing that the law and all that it calls make is longer than what came in: it says more and counts as full. Else prove '..UptoSaid'. A law counts once. -/
mutual
def uptoBulk {H : Type} : DataW H → Nat
  | .lit (.string bytes) => bytes.length + 1
  | .lit _ => 1
  | .nil => 1
  | .ptr d => uptoBulk d + 1
  | .slice elems spare => uptoBulkAll elems + uptoBulkAll spare + 1
  | .agg parts => uptoBulkAll parts + 1
  | .iface _ d => uptoBulk d + 1
  | .map entries => uptoBulkEntries entries + 1
  | .held _ => 1
def uptoBulkAll {H : Type} : List (DataW H) → Nat
  | [] => 0
  | d :: r => uptoBulk d + uptoBulkAll r
def uptoBulkEntries {H : Type} : List (Lit × DataW H) → Nat
  | [] => 0
  | x :: r => uptoBulkEntry x + uptoBulkEntries r
def uptoBulkEntry {H : Type} : Lit × DataW H → Nat
  | (.string bytes, d) => bytes.length + uptoBulk d + 1
  | (_, d) => uptoBulk d + 1
 end
def uptoSmall : (H : Type) → List (DataW H) → Bool := fun _ ds => decide (uptoBulkAll ds ≤ 1048576)
def OpenSpec.upto (s : _root_.Go.ChangeSpec) : _root_.Go.OpenSpec := { _root_.Go.OpenSpec.ofChange s with cond := some uptoSmall }

/-- 'laws.FnExactOpsSame', WHERE WHAT IT READS IS OF BULK AT MOST 1048576: true; the input reads as it did. -/
def fnExactOpsSameUptoRow : OpenClaim := { program := "ytdbffbmbbfbamaa", sum := "00bde0a983ad467db19a79c0d8543c8846b65e999be1fc1aa48960a4d99b0b1c", func := "loop.example/gradual/laws.FnExactOpsSame", spec := "fnExactOpsSame", apart := false, narrowed := true }
def FnExactOpsSameUptoSaid : Prop := fnExactOpsSameUptoRow.holds Try.pinned (OpenSpec.upto fnExactOpsSameSpec)

/-- 'laws.FnExactOpsValid', WHERE WHAT IT READS IS OF BULK AT MOST 1048576: true; the input reads as it did. -/
def fnExactOpsValidUptoRow : OpenClaim := { program := "ytdbffbmbbfbamaa", sum := "00bde0a983ad467db19a79c0d8543c8846b65e999be1fc1aa48960a4d99b0b1c", func := "loop.example/gradual/laws.FnExactOpsValid", spec := "fnExactOpsValid", apart := false, narrowed := true }
def FnExactOpsValidUptoSaid : Prop := fnExactOpsValidUptoRow.holds Try.pinned (OpenSpec.upto fnExactOpsValidSpec)

/-- 'laws.FnExactBareValid', WHERE WHAT IT READS IS OF BULK AT MOST 1048576: true; the input reads as it did. -/
def fnExactBareValidUptoRow : OpenClaim := { program := "ytdbffbmbbfbamaa", sum := "00bde0a983ad467db19a79c0d8543c8846b65e999be1fc1aa48960a4d99b0b1c", func := "loop.example/gradual/laws.FnExactBareValid", spec := "fnExactBareValid", unfollowed := true, recurses := true, loops := true, apart := false, narrowed := true }
def FnExactBareValidUptoSaid : Prop := fnExactBareValidUptoRow.holds Try.pinned (OpenSpec.upto fnExactBareValidSpec)

/-- 'laws.FnOpsSame', WHERE WHAT IT READS IS OF BULK AT MOST 1048576: true; the input reads as it did. -/
def fnOpsSameUptoRow : OpenClaim := { program := "ytdbffbmbbfbamaa", sum := "00bde0a983ad467db19a79c0d8543c8846b65e999be1fc1aa48960a4d99b0b1c", func := "loop.example/gradual/laws.FnOpsSame", spec := "fnOpsSame", recurses := true, apart := false, narrowed := true }
def FnOpsSameUptoSaid : Prop := fnOpsSameUptoRow.holds Try.pinned (OpenSpec.upto fnOpsSameSpec)

end Rows
end Go.Proofs.Ytdbffbmbbfbamaa
