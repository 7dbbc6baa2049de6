/- A part of the library of this seat. -/
import Derived.Test.YtcmdpggdaiinpaaGreatDoorQ19
set_option linter.unusedVariables false
set_option linter.unusedSimpArgs false
namespace Go.Av
attribute [-simp] Go.Av.MCo.kind_mk Go.Av.MCo.tag_mk Go.Av.MCo.label_mk Go.Av.MCo.kids_mk Go.Av.astepJ Go.Av.relC Go.Av.relL Go.Av.relV Go.Av.relVs Go.Av.callJ
open Go

def isDig (c : UInt8) : Bool := decide (48 <= c.toNat) && decide (c.toNat <= 57)
def NoDig (r : List UInt8) : Prop := ∀ c r', r = c :: r' -> isDig c = false
def valL (l : List UInt8) : Nat := l.foldl (fun a c => 10 * a + (c.toNat - 48)) 0
theorem dig_ofNat {k : Nat} (h : k <= 9) : (UInt8.ofNat (48 + k)).toNat = 48 + k := by
 simp [UInt8.toNat_ofNat']; omega
theorem isDig_ofNat {k : Nat} (h : k <= 9) : isDig (UInt8.ofNat (48 + k)) = true := by
 simp only [isDig, dig_ofNat h, Bool.and_eq_true, decide_eq_true_eq]; omega
theorem decDigits_dig (n : Nat) : (∀ c ∈ Lib.decDigits n, isDig c = true) /\ valL (Lib.decDigits n) = n := by
 induction n using Nat.strongRecOn with
 | ind n ih =>
  by_cases h : 9 < n
  ·obtain ⟨h1, h2⟩ := ih (n / 10) (by omega)
   rw [decDigits_step h]
   have hm : n % 10 <= 9 := by omega
   refine ⟨fun c hc => ?_, ?_⟩
   ·rcases List.mem_append.1 hc with q | q
    ·exact h1 c q
    ·rw [List.mem_singleton] at q; subst q; exact isDig_ofNat hm
   ·have hd := dig_ofNat hm
    rw [valL, List.foldl_append]
    rw [valL] at h2
    rw [h2]
    simp only [List.foldl_cons, List.foldl_nil, hd]
    omega
  ·rw [decDigits_small (by omega)]
   have hd := dig_ofNat (k := n) (by omega)
   refine ⟨fun c hc => ?_, ?_⟩
   ·rw [List.mem_singleton] at hc; subst hc; exact isDig_ofNat (by omega)
   ·simp only [valL, List.foldl_cons, List.foldl_nil, hd]; omega
theorem decDigits_ne (n : Nat) : Lib.decDigits n ≠ [] := by
 by_cases h : 9 < n
 ·rw [decDigits_step h]; simp
 ·rw [decDigits_small (by omega)]; simp

def readI (l : List UInt8) : Int × List UInt8 := match l with
 | c :: r => if c = 45 then (-(valL (r.takeWhile isDig) : Int), r.dropWhile isDig) else ((valL (l.takeWhile isDig) : Int), l.dropWhile isDig)
 | [] => (0, [])
def readTy : Nat -> List UInt8 -> Option (MTy × List UInt8)
 | 0, _ => none
 | _ + 1, [] => none
 | d + 1, c :: r =>
  if c = 63 then some (anyT, r) else if c = 73 then some (intT, r) else if c = 66 then some (boolT, r)
  else match readTy d r with
   | some (a, k :: r1) => match readTy d r1 with
    | some (b, _ :: r2) => some (.mk (if k = 62 then 4 else 5) [a, b], r2)
    | _ => none
   | _ => none
def readTm : Nat -> List UInt8 -> Option (MTm × List UInt8)
 | 0, _ => none
 | _ + 1, [] => none
 | d + 1, c :: r =>
  if c = 84 then some (tTrue, r) else if c = 70 then some (tFalse, r)
  else if c = 33 then match r with
   | s :: _ :: r1 => match readTy 4 r1 with
    | some (t, _ :: r2) => match readTm d r2 with
     | some (b, r3) => some (tLam [s] t b, r3)
     | none => none
    | _ => none
   | _ => none
  else if c = 36 then match readTm d r with
   | some (a, r1) => some (tN1 11 a, r1)
   | none => none
  else if c = 37 then match readTm d r with
   | some (a, r1) => some (tN1 12 a, r1)
   | none => none
  else if c = 91 then match readTm d r with
   | some (a, _ :: r1) => match readTm d r1 with
    | some (b, _ :: r2) => some (tN2 10 a b, r2)
    | _ => none
   | _ => none
  else if c = 123 then match readTm d r with
   | some (a, _ :: r1) => match readTm d r1 with
    | some (b, _ :: r2) => match readTm d r2 with
     | some (e, _ :: r3) => some (tIf a b e, r3)
     | _ => none
    | _ => none
   | _ => none
  else if c = 40 then match readTm d r with
   | some (a, k :: r1) =>
    if k = 58 then match readTy 4 r1 with
     | some (t, q :: r2) => if q = 41 then some (tAs a t, r2) else match readTy 4 r2 with
      | some (u, _ :: r3) => some (tCast a t u (readI r3).1, (readI r3).2.tail)
      | _ => none
     | _ => none
    else match readTm d r1 with
     | some (b, _ :: r2) => some (tN2 (if k = 32 then 6 else if k = 43 then 7 else 8) a b, r2)
     | _ => none
   | _ => none
  else if isDig c then some (tNum (readI (c :: r)).1, (readI (c :: r)).2)
  else some (tVar [c], r)

end Go.Av
