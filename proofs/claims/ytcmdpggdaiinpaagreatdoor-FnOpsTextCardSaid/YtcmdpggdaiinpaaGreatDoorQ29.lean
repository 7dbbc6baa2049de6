/- A part of the library of this seat. -/
import Derived.Test.YtcmdpggdaiinpaaGreatDoorQ28
set_option linter.unusedVariables false
set_option linter.unusedSimpArgs false
namespace Go.Av
attribute [-simp] Go.Av.MCo.kind_mk Go.Av.MCo.tag_mk Go.Av.MCo.label_mk Go.Av.MCo.kids_mk Go.Av.astepJ Go.Av.relC Go.Av.relL Go.Av.relV Go.Av.relVs Go.Av.callJ
open Go

def formatTmM (e : MTm) : List UInt8 := if termValidM e = true then tmTextF 12 e else []
def formatCaM (e : MTm) : List UInt8 := if castValidM e = true then tmTextF 40 e else []

def pairB : List UInt8 := [112, 97, 105, 114]
def funB : List UInt8 := [102, 117, 110, 99, 116, 105, 111, 110]
def valTextF : Nat -> MTm -> List UInt8
 | 0, _ => []
 | d + 1, .mk k s n t f l kids =>
  if decide (k = 10) || (proxyM (.mk k s n t f l []) && decide (t.kind = 5)) then pairB
  else if decide (k = 5) || proxyM (.mk k s n t f l []) then funB
  else match kids with
   | [a] => valTextF d a
   | _ => if k = 2 then Lib.itoa n else if k = 3 then [84] else [70]
section
variable (d : Nat)
end
def valueTextM (e : MTm) : List UInt8 := if (castValidM e && valM e) = true then valTextF 40 e else []
end Go.Av

namespace Go.Av
attribute [-simp] Go.Av.MCo.kind_mk Go.Av.MCo.tag_mk Go.Av.MCo.label_mk Go.Av.MCo.kids_mk Go.Av.astepJ Go.Av.relC Go.Av.relL Go.Av.relV Go.Av.relVs Go.Av.callJ
open Go
theorem catLe {α : Type} {n m : Nat} [inst : Decidable (n <= m)] {a b : α} (h : n <= m) : (if n <= m then a else b) = a := if_pos h

theorem dec_len_le : ∀ n : Nat, n <= 9999 -> (Lib.decDigits n).length <= 4 := by
 intro n hn
 by_cases h1 : 9 < n
 ·rw [decDigits_step h1]
  by_cases h2 : 9 < n / 10
  ·rw [decDigits_step h2]
   by_cases h3 : 9 < n / 10 / 10
   ·rw [decDigits_step h3]
    rw [decDigits_small (by omega)]; simp
   ·rw [decDigits_small (by omega)]; simp
  ·rw [decDigits_small (by omega)]; simp
 ·rw [decDigits_small (by omega)]; simp
theorem itoa_len_le {n : Int} (h0 : -9999 <= n) (h1 : n <= 9999) : (Lib.itoa n).length <= 5 := by
 rw [Lib.itoa]
 split
 ·have := dec_len_le n.natAbs (by omega); simp; omega
 ·have := dec_len_le n.toNat (by omega); omega
end Go.Av

namespace Go.Av
attribute [-simp] Go.Av.astepJ Go.Av.relC Go.Av.relL Go.Av.relV Go.Av.relVs Go.Av.callJ
open Go

def coKidsM (k : Int) : Int := if k = 1 \/ k = 6 then 0 else if k = 4 \/ k = 5 then 1 else if k = 2 \/ k = 3 then 2 else -1
def anyCo (c : MCo) : Bool := decide (c.kind = 1) && decide (c.tag = 1)
mutual
def sameCo : MCo -> MCo -> Bool
 | .mk k t b l, .mk k' t' b' l' => decide (k = k') && decide (t = t') && decide (b = b') && sameCoS l l'
def sameCoS : List MCo -> List MCo -> Bool
 | [], [] => true
 | x :: xs, y :: ys => sameCo x y && sameCoS xs ys
 | _, _ => false
end
mutual
theorem sameCo_iff : ∀ {a b : MCo}, sameCo a b = true ↔ a = b
 | .mk k t b l, .mk k' t' b' l' => by
  simp only [sameCo, Bool.and_eq_true, decide_eq_true_eq, sameCoS_iff, MCo.mk.injEq, and_assoc]
theorem sameCoS_iff : ∀ {l m : List MCo}, sameCoS l m = true ↔ l = m
 | [], [] => by simp [sameCoS]
 | x :: xs, y :: ys => by simp only [sameCoS, Bool.and_eq_true, sameCo_iff, sameCoS_iff, List.cons.injEq]
 | [], _ :: _ => by simp [sameCoS]
 | _ :: _, [] => by simp [sameCoS]
end
def coText (c : MCo) : List UInt8 := coTextF 9 c
def formatCoM (c : MCo) : List UInt8 := if shapeCo 9 c = true then coText c else []
def tagM (c : MCo) : Int := if c.kind = 2 then 4 else if c.kind = 3 then 5 else c.tag
end Go.Av

namespace Go.Av
attribute [-simp] Go.Av.astepJ Go.Av.relC Go.Av.relL Go.Av.relV Go.Av.relVs Go.Av.callJ
open Go

def coHead (c : MCo) : UInt8 := if c.kind = 1 then signB c.tag else if c.kind = 4 then 33 else if c.kind = 5 then 35 else if c.kind = 6 then 88 else 40
end Go.Av
