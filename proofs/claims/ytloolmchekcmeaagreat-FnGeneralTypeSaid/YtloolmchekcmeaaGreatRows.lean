/-
  NARROWER THAN 'FOR EVERY INPUT', by the rows' own cells (each row's printed sentence says how): FnExactInferable: loops · FnExactInferStatic: loops.
  DERIVED. THE GIVEN ROWS OF THIS SEAT. 7 by the template 'for every input the law returns true; each argument reads behind the call as it read before'; 0 by the template 'total and deterministic' (their statements: YtloolmchekcmeaaGreatTotals.lean).
  GIVEN WITH THE SEED: the statements are not yours to turn. If you find one false, say at which input.
  Laid BY PROGRAM, IN A SANDBOX (cutbox-rows.mjs): the forced cells as the released guide's own fill.sh prints them over the translation 5a70f5bdb866547e… (all of the seat's roots in one cut). By AI agents, Wed Nov 11 2026. No macro, syntax, notation, axiom, sorry.
-/
import Derived.Test.YtloolmchekcmeaaGreatChecked
import GoSem.Claim
import GoSem.ClaimJoined
import GoSem.ClaimMapViews
import Derived.JoinedTies
import Derived.KernelRfl
namespace Go.Proofs.YtloolmchekcmeaaGreat
/- THE CELL 'sum', in the pinned program and in every row, IS THE sha256 OF THE DUMP (.gsa) THAT YtloolmchekcmeaaGreatProg.lean LOADS. Nothing in Lean hashes anything: it is a label: what it is worth is what the hold of that sum in a sandbox is worth. -/
noncomputable def Tryz.pinned : Pinned := { name := "ytloolmchekcmeaagreat", sum := "5a70f5bdb866547e735bd48468ad029cb790045dc57acdaed9363cb1bb7c6b39", checked := Tryz.checked }
namespace Rows
def none {H : Type} : Left H := { results := [], args := [] }

/-- 'laws.FnGeneralBare': WHATEVER THE INPUT: true; the input reads as it did. -/
def fnGeneralBareSpec : ChangeSpec := { name := "fnGeneralBare", fn := fun _ => fun
  | [d] => { results := [.lit (.bool true)], args := [d] }
  | _ => none }
def fnGeneralBareRow : OpenClaim := { program := "ytloolmchekcmeaagreat", sum := "5a70f5bdb866547e735bd48468ad029cb790045dc57acdaed9363cb1bb7c6b39", func := "loop.example/gradual/laws.FnGeneralBare", spec := "fnGeneralBare", inPlace := ["internal/bytealg.IndexByteString", "internal/bytealg.IndexString"], unfollowed := true, recurses := true, named := ["internal/bytealg.MaxLen"], apart := false }
def FnGeneralBareSaid : Prop := fnGeneralBareRow.holds Tryz.pinned (OpenSpec.ofChange fnGeneralBareSpec)

/-- ITS FALSE NEIGHBOUR: 'it returns false'. Refute it at one input. -/
def fnGeneralBareWrong : ChangeSpec := { name := "fnGeneralBare", fn := fun _ => fun
  | [d] => { results := [.lit (.bool false)], args := [d] }
  | _ => none }
def FnGeneralBareWrongFalsely : Prop := fnGeneralBareRow.holds Tryz.pinned (OpenSpec.ofChange fnGeneralBareWrong)

/-- 'laws.FnExactInferable': WHATEVER THE INPUT: true; the input reads as it did. -/
def fnExactInferableSpec : ChangeSpec := { name := "fnExactInferable", fn := fun _ => fun
  | [d] => { results := [.lit (.bool true)], args := [d] }
  | _ => none }
def fnExactInferableRow : OpenClaim := { program := "ytloolmchekcmeaagreat", sum := "5a70f5bdb866547e735bd48468ad029cb790045dc57acdaed9363cb1bb7c6b39", func := "loop.example/gradual/laws.FnExactInferable", spec := "fnExactInferable", unfollowed := true, recurses := true, loops := true, apart := false }
def FnExactInferableSaid : Prop := fnExactInferableRow.holds Tryz.pinned (OpenSpec.ofChange fnExactInferableSpec)

/-- ITS FALSE NEIGHBOUR: 'it returns false'. Refute it at one input. -/
def fnExactInferableWrong : ChangeSpec := { name := "fnExactInferable", fn := fun _ => fun
  | [d] => { results := [.lit (.bool false)], args := [d] }
  | _ => none }
def FnExactInferableWrongFalsely : Prop := fnExactInferableRow.holds Tryz.pinned (OpenSpec.ofChange fnExactInferableWrong)

/-- 'laws.FnGeneralType': WHATEVER THE INPUT: true; the input reads as it did. -/
def fnGeneralTypeSpec : ChangeSpec := { name := "fnGeneralType", fn := fun _ => fun
  | [d] => { results := [.lit (.bool true)], args := [d] }
  | _ => none }
def fnGeneralTypeRow : OpenClaim := { program := "ytloolmchekcmeaagreat", sum := "5a70f5bdb866547e735bd48468ad029cb790045dc57acdaed9363cb1bb7c6b39", func := "loop.example/gradual/laws.FnGeneralType", spec := "fnGeneralType", unfollowed := true, recurses := true, apart := false }
def FnGeneralTypeSaid : Prop := fnGeneralTypeRow.holds Tryz.pinned (OpenSpec.ofChange fnGeneralTypeSpec)

/-- ITS FALSE NEIGHBOUR: 'it returns false'. Refute it at one input. -/
def fnGeneralTypeWrong : ChangeSpec := { name := "fnGeneralType", fn := fun _ => fun
  | [d] => { results := [.lit (.bool false)], args := [d] }
  | _ => none }
def FnGeneralTypeWrongFalsely : Prop := fnGeneralTypeRow.holds Tryz.pinned (OpenSpec.ofChange fnGeneralTypeWrong)

/-- 'laws.FnInferComplete': WHATEVER THE INPUT: true; the input reads as it did. -/
def fnInferCompleteSpec : ChangeSpec := { name := "fnInferComplete", fn := fun _ => fun
  | [d] => { results := [.lit (.bool true)], args := [d] }
  | _ => none }
def fnInferCompleteRow : OpenClaim := { program := "ytloolmchekcmeaagreat", sum := "5a70f5bdb866547e735bd48468ad029cb790045dc57acdaed9363cb1bb7c6b39", func := "loop.example/gradual/laws.FnInferComplete", spec := "fnInferComplete", unfollowed := true, recurses := true, apart := false }
def FnInferCompleteSaid : Prop := fnInferCompleteRow.holds Tryz.pinned (OpenSpec.ofChange fnInferCompleteSpec)

/-- ITS FALSE NEIGHBOUR: 'it returns false'. Refute it at one input. -/
def fnInferCompleteWrong : ChangeSpec := { name := "fnInferComplete", fn := fun _ => fun
  | [d] => { results := [.lit (.bool false)], args := [d] }
  | _ => none }
def FnInferCompleteWrongFalsely : Prop := fnInferCompleteRow.holds Tryz.pinned (OpenSpec.ofChange fnInferCompleteWrong)

/-- 'laws.FnInferStatic': WHATEVER THE INPUT: true; the input reads as it did. -/
def fnInferStaticSpec : ChangeSpec := { name := "fnInferStatic", fn := fun _ => fun
  | [d] => { results := [.lit (.bool true)], args := [d] }
  | _ => none }
def fnInferStaticRow : OpenClaim := { program := "ytloolmchekcmeaagreat", sum := "5a70f5bdb866547e735bd48468ad029cb790045dc57acdaed9363cb1bb7c6b39", func := "loop.example/gradual/laws.FnInferStatic", spec := "fnInferStatic", unfollowed := true, recurses := true, apart := false }
def FnInferStaticSaid : Prop := fnInferStaticRow.holds Tryz.pinned (OpenSpec.ofChange fnInferStaticSpec)

/-- ITS FALSE NEIGHBOUR: 'it returns false'. Refute it at one input. -/
def fnInferStaticWrong : ChangeSpec := { name := "fnInferStatic", fn := fun _ => fun
  | [d] => { results := [.lit (.bool false)], args := [d] }
  | _ => none }
def FnInferStaticWrongFalsely : Prop := fnInferStaticRow.holds Tryz.pinned (OpenSpec.ofChange fnInferStaticWrong)

/-- 'laws.FnInferTwice': WHATEVER THE INPUT: true; the input reads as it did. -/
def fnInferTwiceSpec : ChangeSpec := { name := "fnInferTwice", fn := fun _ => fun
  | [d] => { results := [.lit (.bool true)], args := [d] }
  | _ => none }
def fnInferTwiceRow : OpenClaim := { program := "ytloolmchekcmeaagreat", sum := "5a70f5bdb866547e735bd48468ad029cb790045dc57acdaed9363cb1bb7c6b39", func := "loop.example/gradual/laws.FnInferTwice", spec := "fnInferTwice", unfollowed := true, recurses := true, apart := false }
def FnInferTwiceSaid : Prop := fnInferTwiceRow.holds Tryz.pinned (OpenSpec.ofChange fnInferTwiceSpec)

/-- ITS FALSE NEIGHBOUR: 'it returns false'. Refute it at one input. -/
def fnInferTwiceWrong : ChangeSpec := { name := "fnInferTwice", fn := fun _ => fun
  | [d] => { results := [.lit (.bool false)], args := [d] }
  | _ => none }
def FnInferTwiceWrongFalsely : Prop := fnInferTwiceRow.holds Tryz.pinned (OpenSpec.ofChange fnInferTwiceWrong)

/-- 'laws.FnExactInferStatic': WHATEVER THE INPUT: true; the input reads as it did. -/
def fnExactInferStaticSpec : ChangeSpec := { name := "fnExactInferStatic", fn := fun _ => fun
  | [d] => { results := [.lit (.bool true)], args := [d] }
  | _ => none }
def fnExactInferStaticRow : OpenClaim := { program := "ytloolmchekcmeaagreat", sum := "5a70f5bdb866547e735bd48468ad029cb790045dc57acdaed9363cb1bb7c6b39", func := "loop.example/gradual/laws.FnExactInferStatic", spec := "fnExactInferStatic", unfollowed := true, recurses := true, loops := true, apart := false }
def FnExactInferStaticSaid : Prop := fnExactInferStaticRow.holds Tryz.pinned (OpenSpec.ofChange fnExactInferStaticSpec)

/-- ITS FALSE NEIGHBOUR: 'it returns false'. Refute it at one input. -/
def fnExactInferStaticWrong : ChangeSpec := { name := "fnExactInferStatic", fn := fun _ => fun
  | [d] => { results := [.lit (.bool false)], args := [d] }
  | _ => none }
def FnExactInferStaticWrongFalsely : Prop := fnExactInferStaticRow.holds Tryz.pinned (OpenSpec.ofChange fnExactInferStaticWrong)

/- THE SECOND FORM. 'bulk': how many values and letters a reading holds, each counted each time it is reached (what is shared counts as often as it is met; a slice's spare places count too). A statement '..UptoSaid' is the law's where the arguments, and the package variables that the reading takes, are together of bulk at most 1048576: NARROWER than '..Said'. Prove '..Said' where nothing that the law and all that it calls make is longer than what came in: it says more and counts as full. Else prove '..UptoSaid'. A law counts once. -/
mutual
def uptoBulk {H : Type} : DataW H → Nat
  | .lit (.string bytes) => bytes.length + 1
  | .lit _ => 1
  | .nil => 1
  | .ptr d => uptoBulk d + 1
  | .slice elems spare => uptoBulkAll elems + uptoBulkAll spare + 1
  | .agg parts => uptoBulkAll parts + 1
  | .iface _ d => uptoBulk d + 1
  | .map entries => uptoBulkEntries entries + 1
  | .held _ => 1
def uptoBulkAll {H : Type} : List (DataW H) → Nat
  | [] => 0
  | d :: r => uptoBulk d + uptoBulkAll r
def uptoBulkEntries {H : Type} : List (Lit × DataW H) → Nat
  | [] => 0
  | x :: r => uptoBulkEntry x + uptoBulkEntries r
def uptoBulkEntry {H : Type} : Lit × DataW H → Nat
  | (.string bytes, d) => bytes.length + uptoBulk d + 1
  | (_, d) => uptoBulk d + 1
 end
def uptoSmall : (H : Type) → List (DataW H) → Bool := fun _ ds => decide (uptoBulkAll ds ≤ 1048576)
def OpenSpec.upto (s : _root_.Go.ChangeSpec) : _root_.Go.OpenSpec := { _root_.Go.OpenSpec.ofChange s with cond := some uptoSmall }

/-- 'laws.FnGeneralBare', WHERE WHAT IT READS IS OF BULK AT MOST 1048576: true; the input reads as it did. -/
def fnGeneralBareUptoRow : OpenClaim := { program := "ytloolmchekcmeaagreat", sum := "5a70f5bdb866547e735bd48468ad029cb790045dc57acdaed9363cb1bb7c6b39", func := "loop.example/gradual/laws.FnGeneralBare", spec := "fnGeneralBare", inPlace := ["internal/bytealg.IndexByteString", "internal/bytealg.IndexString"], unfollowed := true, recurses := true, named := ["internal/bytealg.MaxLen"], apart := false, narrowed := true }
def FnGeneralBareUptoSaid : Prop := fnGeneralBareUptoRow.holds Tryz.pinned (OpenSpec.upto fnGeneralBareSpec)

/-- 'laws.FnExactInferable', WHERE WHAT IT READS IS OF BULK AT MOST 1048576: true; the input reads as it did. -/
def fnExactInferableUptoRow : OpenClaim := { program := "ytloolmchekcmeaagreat", sum := "5a70f5bdb866547e735bd48468ad029cb790045dc57acdaed9363cb1bb7c6b39", func := "loop.example/gradual/laws.FnExactInferable", spec := "fnExactInferable", unfollowed := true, recurses := true, loops := true, apart := false, narrowed := true }
def FnExactInferableUptoSaid : Prop := fnExactInferableUptoRow.holds Tryz.pinned (OpenSpec.upto fnExactInferableSpec)

/-- 'laws.FnGeneralType', WHERE WHAT IT READS IS OF BULK AT MOST 1048576: true; the input reads as it did. -/
def fnGeneralTypeUptoRow : OpenClaim := { program := "ytloolmchekcmeaagreat", sum := "5a70f5bdb866547e735bd48468ad029cb790045dc57acdaed9363cb1bb7c6b39", func := "loop.example/gradual/laws.FnGeneralType", spec := "fnGeneralType", unfollowed := true, recurses := true, apart := false, narrowed := true }
def FnGeneralTypeUptoSaid : Prop := fnGeneralTypeUptoRow.holds Tryz.pinned (OpenSpec.upto fnGeneralTypeSpec)

/-- 'laws.FnInferComplete', WHERE WHAT IT READS IS OF BULK AT MOST 1048576: true; the input reads as it did. -/
def fnInferCompleteUptoRow : OpenClaim := { program := "ytloolmchekcmeaagreat", sum := "5a70f5bdb866547e735bd48468ad029cb790045dc57acdaed9363cb1bb7c6b39", func := "loop.example/gradual/laws.FnInferComplete", spec := "fnInferComplete", unfollowed := true, recurses := true, apart := false, narrowed := true }
def FnInferCompleteUptoSaid : Prop := fnInferCompleteUptoRow.holds Tryz.pinned (OpenSpec.upto fnInferCompleteSpec)

/-- 'laws.FnInferStatic', WHERE WHAT IT READS IS OF BULK AT MOST 1048576: true; the input reads as it did. -/
def fnInferStaticUptoRow : OpenClaim := { program := "ytloolmchekcmeaagreat", sum := "5a70f5bdb866547e735bd48468ad029cb790045dc57acdaed9363cb1bb7c6b39", func := "loop.example/gradual/laws.FnInferStatic", spec := "fnInferStatic", unfollowed := true, recurses := true, apart := false, narrowed := true }
def FnInferStaticUptoSaid : Prop := fnInferStaticUptoRow.holds Tryz.pinned (OpenSpec.upto fnInferStaticSpec)

/-- 'laws.FnInferTwice', WHERE WHAT IT READS IS OF BULK AT MOST 1048576: true; the input reads as it did. -/
def fnInferTwiceUptoRow : OpenClaim := { program := "ytloolmchekcmeaagreat", sum := "5a70f5bdb866547e735bd48468ad029cb790045dc57acdaed9363cb1bb7c6b39", func := "loop.example/gradual/laws.FnInferTwice", spec := "fnInferTwice", unfollowed := true, recurses := true, apart := false, narrowed := true }
def FnInferTwiceUptoSaid : Prop := fnInferTwiceUptoRow.holds Tryz.pinned (OpenSpec.upto fnInferTwiceSpec)

/-- 'laws.FnExactInferStatic', WHERE WHAT IT READS IS OF BULK AT MOST 1048576: true; the input reads as it did. -/
def fnExactInferStaticUptoRow : OpenClaim := { program := "ytloolmchekcmeaagreat", sum := "5a70f5bdb866547e735bd48468ad029cb790045dc57acdaed9363cb1bb7c6b39", func := "loop.example/gradual/laws.FnExactInferStatic", spec := "fnExactInferStatic", unfollowed := true, recurses := true, loops := true, apart := false, narrowed := true }
def FnExactInferStaticUptoSaid : Prop := fnExactInferStaticUptoRow.holds Tryz.pinned (OpenSpec.upto fnExactInferStaticSpec)

end Rows
end Go.Proofs.YtloolmchekcmeaaGreat
