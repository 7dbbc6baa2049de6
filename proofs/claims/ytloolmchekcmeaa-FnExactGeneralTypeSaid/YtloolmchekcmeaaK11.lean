/- A part of the library of this seat. -/
import Derived.Test.YtloolmchekcmeaaK10
set_option linter.unusedVariables false
set_option linter.unusedSimpArgs false
namespace Go.Av
attribute [-simp] Go.Av.astepJ Go.Av.relC Go.Av.relL Go.Av.relV Go.Av.relVs Go.Av.callJ
open Go

def isDig (c : UInt8) : Bool := decide (48 <= c.toNat) && decide (c.toNat <= 57)
def NoDig (r : List UInt8) : Prop := ∀ c r', r = c :: r' -> isDig c = false
theorem NoDig.nil : NoDig [] := fun _ _ h => by cases h
theorem NoDig.cons {c : UInt8} {r : List UInt8} (h : isDig c = false) : NoDig (c :: r) := fun c' r' e => by cases e; exact h

def valL (l : List UInt8) : Nat := l.foldl (fun a c => 10 * a + (c.toNat - 48)) 0
def readI (l : List UInt8) : Int × List UInt8 := match l with
 | c :: r => if c = 45 then (-(valL (r.takeWhile isDig) : Int), r.dropWhile isDig) else ((valL (l.takeWhile isDig) : Int), l.dropWhile isDig)
 | [] => (0, [])
def readTy : Nat -> List UInt8 -> Option (MTy × List UInt8)
 | 0, _ => none
 | _ + 1, [] => none
 | d + 1, c :: r =>
  if c = 63 then some (anyT, r) else if c = 73 then some (intT, r) else if c = 66 then some (boolT, r)
  else match readTy d r with
   | some (a, k :: r1) => match readTy d r1 with
    | some (b, _ :: r2) => some (.mk (if k = 62 then 4 else 5) [a, b], r2)
    | _ => none
   | _ => none
def readTm : Nat -> List UInt8 -> Option (MTm × List UInt8)
 | 0, _ => none
 | _ + 1, [] => none
 | d + 1, c :: r =>
  if c = 84 then some (tTrue, r) else if c = 70 then some (tFalse, r)
  else if c = 33 then match r with
   | s :: _ :: r1 => match readTy 4 r1 with
    | some (t, _ :: r2) => match readTm d r2 with
     | some (b, r3) => some (tLam [s] t b, r3)
     | none => none
    | _ => none
   | _ => none
  else if c = 36 then match readTm d r with
   | some (a, r1) => some (tN1 11 a, r1)
   | none => none
  else if c = 37 then match readTm d r with
   | some (a, r1) => some (tN1 12 a, r1)
   | none => none
  else if c = 91 then match readTm d r with
   | some (a, _ :: r1) => match readTm d r1 with
    | some (b, _ :: r2) => some (tN2 10 a b, r2)
    | _ => none
   | _ => none
  else if c = 123 then match readTm d r with
   | some (a, _ :: r1) => match readTm d r1 with
    | some (b, _ :: r2) => match readTm d r2 with
     | some (e, _ :: r3) => some (tIf a b e, r3)
     | _ => none
    | _ => none
   | _ => none
  else if c = 40 then match readTm d r with
   | some (a, k :: r1) =>
    if k = 58 then match readTy 4 r1 with
     | some (t, q :: r2) => if q = 41 then some (tAs a t, r2) else match readTy 4 r2 with
      | some (u, _ :: r3) => some (tCast a t u (readI r3).1, (readI r3).2.tail)
      | _ => none
     | _ => none
    else match readTm d r1 with
     | some (b, _ :: r2) => some (tN2 (if k = 32 then 6 else if k = 43 then 7 else 8) a b, r2)
     | _ => none
   | _ => none
  else if isDig c then some (tNum (readI (c :: r)).1, (readI (c :: r)).2)
  else some (tVar [c], r)

end Go.Av
