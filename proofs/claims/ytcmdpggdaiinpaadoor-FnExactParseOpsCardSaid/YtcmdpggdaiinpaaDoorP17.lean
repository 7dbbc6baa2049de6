/- A part of the library of this seat. -/
import Derived.Test.YtcmdpggdaiinpaaDoorP16
set_option linter.unusedVariables false
set_option linter.unusedSimpArgs false
namespace Go.Av
attribute [-simp] Go.Av.MCo.kind_mk Go.Av.MCo.tag_mk Go.Av.MCo.label_mk Go.Av.MCo.kids_mk Go.Av.astepJ Go.Av.relC Go.Av.relL Go.Av.relV Go.Av.relVs Go.Av.callJ
open Go

abbrev rIn (l : List Int) : List (List DV) := l.map fun n => [DV.i n]
def inRows : List Int -> List GC
 | [] => []
 | n :: r => .d (.i n) :: inRows r
def inK (e : TypeId) (l : List Int) : GC := .t e 1 l.length (inRows l)
def seqI (k : Nat) : Nat -> List Int
 | 0 => []
 | n + 1 => seqI k n ++ [((k + n : Nat) : Int)]
def mI (l : List Int) (k j : Nat) : List Int := seqI k j ++ l.drop j
end Go.Av
