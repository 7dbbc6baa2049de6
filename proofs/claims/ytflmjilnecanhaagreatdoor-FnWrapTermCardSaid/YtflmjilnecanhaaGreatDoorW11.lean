/- A part of the library of this seat. -/
import Derived.Test.YtflmjilnecanhaaGreatDoorW10
set_option linter.unusedVariables false
set_option linter.unusedSimpArgs false
namespace Go.Av
open Go

def signB (k : Int) : UInt8 := if k = 1 then 63 else if k = 2 then 73 else if k = 3 then 66 else if k = 4 then 62 else 42
def tyTextF : Nat -> MTy -> List UInt8
 | 0, _ => []
 | d + 1, .mk k [a, b] => 40 :: (tyTextF d a ++ signB k :: (tyTextF d b ++ [41]))
 | _ + 1, .mk k _ => [signB k]
theorem tyTextF_any (d : Nat) : tyTextF (d + 1) anyT = [63] := rfl
theorem tyTextF_int (d : Nat) : tyTextF (d + 1) intT = [73] := rfl
theorem tyTextF_bool (d : Nat) : tyTextF (d + 1) boolT = [66] := rfl
theorem tyTextF_fn (d : Nat) (a b : MTy) : tyTextF (d + 1) (.mk 4 [a, b]) = 40 :: (tyTextF d a ++ 62 :: (tyTextF d b ++ [41])) := rfl
theorem tyTextF_pair (d : Nat) (a b : MTy) : tyTextF (d + 1) (.mk 5 [a, b]) = 40 :: (tyTextF d a ++ 42 :: (tyTextF d b ++ [41])) := rfl

def tyText (t : MTy) : List UInt8 := tyTextF 4 t

def opB (k : Int) : UInt8 := if k = 6 then 32 else if k = 7 then 43 else 60
def tmTextF : Nat -> MTm -> List UInt8
 | 0, _ => []
 | _ + 1, .mk k s n _ _ _ [] => if k = 1 then s else if k = 2 then Lib.itoa n else if k = 3 then [84] else [70]
 | d + 1, .mk k s _ t f l [a] => if k = 5 then 33 :: (s ++ 58 :: (tyText t ++ 46 :: tmTextF d a)) else if k = 11 then 36 :: tmTextF d a else if k = 12 then 37 :: tmTextF d a
   else if k = 13 then 40 :: (tmTextF d a ++ 58 :: (tyText t ++ [41])) else 40 :: (tmTextF d a ++ 58 :: (tyText f ++ 126 :: (tyText t ++ 35 :: (Lib.itoa l ++ [41]))))
 | d + 1, .mk k _ _ _ _ _ [a, b] => if k = 10 then 91 :: (tmTextF d a ++ 44 :: (tmTextF d b ++ [93])) else 40 :: (tmTextF d a ++ opB k :: (tmTextF d b ++ [41]))
 | d + 1, .mk _ _ _ _ _ _ [a, b, c] => 123 :: (tmTextF d a ++ 63 :: (tmTextF d b ++ 58 :: (tmTextF d c ++ [125])))
 | _ + 1, _ => []
section
variable (d : Nat)
theorem tmTextF_var (s : List UInt8) : tmTextF (d + 1) (tVar s) = s := by simp [tmTextF, tVar]
theorem tmTextF_num (n : Int) : tmTextF (d + 1) (tNum n) = Lib.itoa n := by simp [tmTextF, tNum]
theorem tmTextF_true : tmTextF (d + 1) tTrue = [84] := by simp [tmTextF, tTrue]
theorem tmTextF_false : tmTextF (d + 1) tFalse = [70] := by simp [tmTextF, tFalse]
theorem tmTextF_lam (s : List UInt8) (t : MTy) (a : MTm) : tmTextF (d + 1) (tLam s t a) = 33 :: (s ++ 58 :: (tyText t ++ 46 :: tmTextF d a)) := by simp [tmTextF, tLam]
theorem tmTextF_n1 {k : Int} (hk : k = 11 \/ k = 12) (a : MTm) : tmTextF (d + 1) (tN1 k a) = (if k = 11 then 36 else 37) :: tmTextF d a := by rcases hk with rfl | rfl <;> simp [tmTextF, tN1]
theorem tmTextF_as (a : MTm) (t : MTy) : tmTextF (d + 1) (tAs a t) = 40 :: (tmTextF d a ++ 58 :: (tyText t ++ [41])) := by simp [tmTextF, tAs]
theorem tmTextF_cast (a : MTm) (f t : MTy) (l : Int) : tmTextF (d + 1) (tCast a f t l) = 40 :: (tmTextF d a ++ 58 :: (tyText f ++ 126 :: (tyText t ++ 35 :: (Lib.itoa l ++ [41])))) := by simp [tmTextF, tCast]
theorem tmTextF_pair (a b : MTm) : tmTextF (d + 1) (tN2 10 a b) = 91 :: (tmTextF d a ++ 44 :: (tmTextF d b ++ [93])) := by simp [tmTextF, tN2]
theorem tmTextF_n2 {k : Int} (hk : k = 6 \/ k = 7 \/ k = 8) (a b : MTm) : tmTextF (d + 1) (tN2 k a b) = 40 :: (tmTextF d a ++ opB k :: (tmTextF d b ++ [41])) := by rcases hk with rfl | rfl | rfl <;> simp [tmTextF, tN2]
theorem tmTextF_ite (a b c : MTm) : tmTextF (d + 1) (tIf a b c) = 123 :: (tmTextF d a ++ 63 :: (tmTextF d b ++ 58 :: (tmTextF d c ++ [125]))) := by simp [tmTextF, tIf]
end

theorem decDigits_step {n : Nat} (h : 9 < n) : Lib.decDigits n = Lib.decDigits (n / 10) ++ [UInt8.ofNat (48 + n % 10)] := by
 conv => lhs; rw [Lib.decDigits, dif_neg (by omega)]
theorem decDigits_small {n : Nat} (h : n <= 9) : Lib.decDigits n = [UInt8.ofNat (48 + n)] := Lib.decDigits_one (by omega)
end Go.Av

namespace Go.Av
open Go

def isDig (c : UInt8) : Bool := decide (48 <= c.toNat) && decide (c.toNat <= 57)
def NoDig (r : List UInt8) : Prop := ∀ c r', r = c :: r' -> isDig c = false
theorem NoDig.nil : NoDig [] := fun _ _ h => by cases h
theorem NoDig.cons {c : UInt8} {r : List UInt8} (h : isDig c = false) : NoDig (c :: r) := fun c' r' e => by cases e; exact h

def valL (l : List UInt8) : Nat := l.foldl (fun a c => 10 * a + (c.toNat - 48)) 0
def readI (l : List UInt8) : Int × List UInt8 := match l with
 | c :: r => if c = 45 then (-(valL (r.takeWhile isDig) : Int), r.dropWhile isDig) else ((valL (l.takeWhile isDig) : Int), l.dropWhile isDig)
 | [] => (0, [])
def readTy : Nat -> List UInt8 -> Option (MTy × List UInt8)
 | 0, _ => none
 | _ + 1, [] => none
 | d + 1, c :: r =>
  if c = 63 then some (anyT, r) else if c = 73 then some (intT, r) else if c = 66 then some (boolT, r)
  else match readTy d r with
   | some (a, k :: r1) => match readTy d r1 with
    | some (b, _ :: r2) => some (.mk (if k = 62 then 4 else 5) [a, b], r2)
    | _ => none
   | _ => none
def readTm : Nat -> List UInt8 -> Option (MTm × List UInt8)
 | 0, _ => none
 | _ + 1, [] => none
 | d + 1, c :: r =>
  if c = 84 then some (tTrue, r) else if c = 70 then some (tFalse, r)
  else if c = 33 then match r with
   | s :: _ :: r1 => match readTy 4 r1 with
    | some (t, _ :: r2) => match readTm d r2 with
     | some (b, r3) => some (tLam [s] t b, r3)
     | none => none
    | _ => none
   | _ => none
  else if c = 36 then match readTm d r with
   | some (a, r1) => some (tN1 11 a, r1)
   | none => none
  else if c = 37 then match readTm d r with
   | some (a, r1) => some (tN1 12 a, r1)
   | none => none
  else if c = 91 then match readTm d r with
   | some (a, _ :: r1) => match readTm d r1 with
    | some (b, _ :: r2) => some (tN2 10 a b, r2)
    | _ => none
   | _ => none
  else if c = 123 then match readTm d r with
   | some (a, _ :: r1) => match readTm d r1 with
    | some (b, _ :: r2) => match readTm d r2 with
     | some (e, _ :: r3) => some (tIf a b e, r3)
     | _ => none
    | _ => none
   | _ => none
  else if c = 40 then match readTm d r with
   | some (a, k :: r1) =>
    if k = 58 then match readTy 4 r1 with
     | some (t, q :: r2) => if q = 41 then some (tAs a t, r2) else match readTy 4 r2 with
      | some (u, _ :: r3) => some (tCast a t u (readI r3).1, (readI r3).2.tail)
      | _ => none
     | _ => none
    else match readTm d r1 with
     | some (b, _ :: r2) => some (tN2 (if k = 32 then 6 else if k = 43 then 7 else 8) a b, r2)
     | _ => none
   | _ => none
  else if isDig c then some (tNum (readI (c :: r)).1, (readI (c :: r)).2)
  else some (tVar [c], r)

theorem name_one {s : List UInt8} (h : nameM s = true) : ∃ c, s = [c] /\ 97 <= c.toNat /\ c.toNat <= 122 := by
 match s, h with
 | [c], h => simp only [nameM, Bool.and_eq_true, decide_eq_true_eq] at h; exact ⟨c, rfl, h⟩

end Go.Av

namespace Go.Av
open Go

structure MOp where
 kind : Int
 a : Int
deriving DecidableEq
abbrev eOp (o : MOp) : List DV := [.i o.kind, .i o.a]
abbrev aOp (o : MOp) : AV := .agg [.d (.i o.kind), .d (.i o.a)]

def mostA (k r : Int) : Int := if k = 1 then 999 else if k = 2 then 1 else if k = 3 then 11 else if k = 4 \/ k = 9 \/ k = 10 then r else 0
def hasAM (k : Int) : Bool := decide (k = 1) || decide (k = 2) || decide (k = 3) || decide (k = 4) || decide (k = 9) || decide (k = 10)
def opOk (o : MOp) (r : Int) : Bool := inM o.kind 1 13 && inM o.a 0 (mostA o.kind r)
def opsOk : List MOp -> Bool
 | [] => true
 | o :: r => opOk o r.length && opsOk r
def opsValidM (l : List MOp) : Bool := opsOk l && inM l.length 1 120

def opWord (k : Int) : List UInt8 :=
 if k = 1 then [110, 117, 109] else if k = 2 then [116, 114, 117, 116, 104] else if k = 3 then [118, 97, 114] else if k = 4 then [102, 117, 110] else if k = 5 then [114, 101, 116] else
 if k = 6 then [97, 112, 112, 108, 121] else if k = 7 then [97, 100, 100] else if k = 8 then [108, 101, 115, 115] else if k = 9 then [98, 114, 97, 110, 99, 104] else if k = 10 then [106, 117, 109, 112] else
 if k = 11 then [112, 97, 105, 114] else if k = 12 then [102, 115, 116] else [115, 110, 100]
def opText (o : MOp) : List UInt8 := opWord o.kind ++ ((if hasAM o.kind = true then 32 :: Lib.itoa o.a else []) ++ [10])
def opsTextM (l : List MOp) : List UInt8 := l.flatMap opText
def formatOpsM (l : List MOp) : List UInt8 := if opsValidM l = true then opsTextM l else []

end Go.Av
