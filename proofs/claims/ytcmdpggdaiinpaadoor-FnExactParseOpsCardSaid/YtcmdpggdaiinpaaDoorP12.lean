/- A part of the library of this seat. -/
import Derived.Test.YtcmdpggdaiinpaaDoorP11
set_option linter.unusedVariables false
set_option linter.unusedSimpArgs false
namespace Go.Av
attribute [-simp] Go.Av.MCo.kind_mk Go.Av.MCo.tag_mk Go.Av.MCo.label_mk Go.Av.MCo.kids_mk Go.Av.astepJ Go.Av.relC Go.Av.relL Go.Av.relV Go.Av.relVs Go.Av.callJ
open Go

structure MOp where
 kind : Int
 a : Int
deriving DecidableEq
abbrev eOp (o : MOp) : List DV := [.i o.kind, .i o.a]
abbrev aOp (o : MOp) : AV := .agg [.d (.i o.kind), .d (.i o.a)]

def mostA (k r : Int) : Int := if k = 1 then 999 else if k = 2 then 1 else if k = 3 then 11 else if k = 4 \/ k = 9 \/ k = 10 then r else 0
def hasAM (k : Int) : Bool := decide (k = 1) || decide (k = 2) || decide (k = 3) || decide (k = 4) || decide (k = 9) || decide (k = 10)
def opOk (o : MOp) (r : Int) : Bool := inM o.kind 1 13 && inM o.a 0 (mostA o.kind r)
def opsOk : List MOp -> Bool
 | [] => true
 | o :: r => opOk o r.length && opsOk r
def opsValidM (l : List MOp) : Bool := opsOk l && inM l.length 1 120

def opWord (k : Int) : List UInt8 :=
 if k = 1 then [110, 117, 109] else if k = 2 then [116, 114, 117, 116, 104] else if k = 3 then [118, 97, 114] else if k = 4 then [102, 117, 110] else if k = 5 then [114, 101, 116] else
 if k = 6 then [97, 112, 112, 108, 121] else if k = 7 then [97, 100, 100] else if k = 8 then [108, 101, 115, 115] else if k = 9 then [98, 114, 97, 110, 99, 104] else if k = 10 then [106, 117, 109, 112] else
 if k = 11 then [112, 97, 105, 114] else if k = 12 then [102, 115, 116] else [115, 110, 100]
def opText (o : MOp) : List UInt8 := opWord o.kind ++ ((if hasAM o.kind = true then 32 :: Lib.itoa o.a else []) ++ [10])
def opsTextM (l : List MOp) : List UInt8 := l.flatMap opText
def formatOpsM (l : List MOp) : List UInt8 := if opsValidM l = true then opsTextM l else []

theorem mostA_le (k r : Int) (h : 0 <= r) (h2 : r <= 1000) : mostA k r <= 1000 := by
 simp only [mostA]; repeat' split
 all_goals omega
theorem opsOk_mem : ∀ {l : List MOp}, opsOk l = true -> l.length <= 1000 -> ∀ o ∈ l, 1 <= o.kind /\ o.kind <= 13 /\ 0 <= o.a /\ o.a <= 1000
 | x :: r, h, hl, o, ho => by
  simp only [opsOk, Bool.and_eq_true] at h
  simp only [List.length_cons] at hl
  rcases List.mem_cons.1 ho with rfl | ho
  ·have h1 := h.1
   simp only [opOk, inM, Bool.and_eq_true, decide_eq_true_eq] at h1
   have := mostA_le o.kind r.length (by omega) (by omega)
   omega
  ·exact opsOk_mem h.2 (by omega) o ho
theorem opsValid_iff {l : List MOp} : opsValidM l = true ↔ opsOk l = true /\ 1 <= l.length /\ l.length <= 120 := by
 simp only [opsValidM, inM, Bool.and_eq_true, decide_eq_true_eq]
 constructor <;> rintro ⟨h1, h2, h3⟩ <;> exact ⟨h1, by omega, by omega⟩
theorem opWord_len (k : Int) : (opWord k).length <= 6 := by
 by_cases h1 : k = 1
 ·subst h1; decide
 by_cases h2 : k = 2
 ·subst h2; decide
 by_cases h3 : k = 3
 ·subst h3; decide
 by_cases h4 : k = 4
 ·subst h4; decide
 by_cases h5 : k = 5
 ·subst h5; decide
 by_cases h6 : k = 6
 ·subst h6; decide
 by_cases h7 : k = 7
 ·subst h7; decide
 by_cases h8 : k = 8
 ·subst h8; decide
 by_cases h9 : k = 9
 ·subst h9; decide
 by_cases h10 : k = 10
 ·subst h10; decide
 by_cases h11 : k = 11
 ·subst h11; decide
 by_cases h12 : k = 12
 ·subst h12; decide
 rw [opWord, if_neg h1, if_neg h2, if_neg h3, if_neg h4, if_neg h5, if_neg h6, if_neg h7, if_neg h8, if_neg h9, if_neg h10, if_neg h11, if_neg h12]; decide
end Go.Av
