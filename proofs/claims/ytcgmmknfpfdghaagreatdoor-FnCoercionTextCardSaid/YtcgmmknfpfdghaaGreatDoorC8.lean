/- A part of the library of this seat. -/
import Derived.Test.YtcgmmknfpfdghaaGreatDoorC7
import Derived.Lib.ItoaNum
set_option linter.unusedVariables false
set_option linter.unusedSimpArgs false
namespace Go.Av
attribute [-simp] Go.Av.MCo.kind_mk Go.Av.MCo.tag_mk Go.Av.MCo.label_mk Go.Av.MCo.kids_mk Go.Av.astepJ Go.Av.relC Go.Av.relL Go.Av.relV Go.Av.relVs Go.Av.callJ
open Go

mutual
def markR : MTy -> Nat -> MTy
 | .mk _ l, k => .mk k (markS l (k + 1))
def markS : List MTy -> Nat -> List MTy
 | [], _ => []
 | t :: r, k => markR t k :: markS r (k + 1 + nTyS t.kids)
end
def mText (k : Nat) : List UInt8 := 109 :: Lib.decDigits k
mutual
def cTm : MTm -> Nat
 | .mk _ _ _ t f _ l => 6 + nTyS t.kids + nTyS f.kids + cTmS l
def cTmS : List MTm -> Nat
 | [] => 0
 | t :: r => cTm t + cTmS r
end
mutual
def markRm : MTm -> Nat -> MTm
 | .mk _ _ _ t f _ l, k => .mk k (mText (k + 1)) ((k + 2 : Nat) : Int) (.mk ((k + 3 : Nat) : Int) (markS t.kids (k + 4))) (.mk ((k + 4 + nTyS t.kids : Nat) : Int) (markS f.kids (k + 5 + nTyS t.kids)))
   ((k + 5 + nTyS t.kids + nTyS f.kids : Nat) : Int) (markSm l (k + 6 + nTyS t.kids + nTyS f.kids))
def markSm : List MTm -> Nat -> List MTm
 | [], _ => []
 | t :: r, k => markRm t k :: markSm r (k + cTm t)
end
end Go.Av

namespace Go.Av
attribute [-simp] Go.Av.MCo.kind_mk Go.Av.MCo.tag_mk Go.Av.MCo.label_mk Go.Av.MCo.kids_mk Go.Av.astepJ Go.Av.relC Go.Av.relL Go.Av.relV Go.Av.relVs Go.Av.callJ
open Go

section
variable {α β γ : Type}
end

def mT (l : List MTy) (k j : Nat) : List MTy := markS (l.take j) k ++ l.drop j
def mM (l : List MTm) (k j : Nat) : List MTm := markSm (l.take j) k ++ l.drop j
end Go.Av

namespace Go.Av
attribute [-simp] Go.Av.MCo.kind_mk Go.Av.MCo.tag_mk Go.Av.MCo.label_mk Go.Av.MCo.kids_mk Go.Av.astepJ Go.Av.relC Go.Av.relL Go.Av.relV Go.Av.relVs Go.Av.callJ
open Go

abbrev rIn (l : List Int) : List (List DV) := l.map fun n => [DV.i n]
def inRows : List Int -> List GC
 | [] => []
 | n :: r => .d (.i n) :: inRows r
def inK (e : TypeId) (l : List Int) : GC := .t e 1 l.length (inRows l)
def seqI (k : Nat) : Nat -> List Int
 | 0 => []
 | n + 1 => seqI k n ++ [((k + n : Nat) : Int)]
def mI (l : List Int) (k j : Nat) : List Int := seqI k j ++ l.drop j
end Go.Av
