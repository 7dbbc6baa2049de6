/- A part of the library of this seat. -/
import Derived.Test.YtcgmmknfpfdghaaGreatDoorC15
set_option linter.unusedVariables false
set_option linter.unusedSimpArgs false
namespace Go.Av
attribute [-simp] Go.Av.MCo.kind_mk Go.Av.MCo.tag_mk Go.Av.MCo.label_mk Go.Av.MCo.kids_mk Go.Av.astepJ Go.Av.relC Go.Av.relL Go.Av.relV Go.Av.relVs Go.Av.callJ Go.Av.IT.kind_v Go.Av.IT.kind_b Go.Av.IT.kind_p Go.Av.IT.name_v Go.Av.IT.name_b Go.Av.IT.name_p Go.Av.IT.kids_v Go.Av.IT.kids_b Go.Av.IT.kids_p Go.Av.eIT_len
open Go

def opRows : List MOp -> List GC
 | [] => []
 | o :: r => .d (.i o.kind) :: .d (.i o.a) :: opRows r
def opK (e : TypeId) (l : List MOp) : GC := .t e 2 l.length (opRows l)
def seqO (k : Nat) : Nat -> List MOp
 | 0 => []
 | n + 1 => seqO k n ++ [⟨((k + 2 * n : Nat) : Int), ((k + 2 * n + 1 : Nat) : Int)⟩]
def mO (l : List MOp) (k j : Nat) : List MOp := seqO k j ++ l.drop j
end Go.Av
