/- A part of the library of this seat. -/
import Derived.Test.YtloolmchekcmeaaK11
set_option linter.unusedVariables false
set_option linter.unusedSimpArgs false
namespace Go.Av
attribute [-simp] Go.Av.freeStepG Go.Av.exA Go.Av.innAsH Go.Av.AV.innH Go.Av.CV.innH Go.Av.innHs Go.Av.AV.outnH Go.Av.CV.outnH Go.Av.astepJ Go.Av.relC Go.Av.relL Go.Av.relV Go.Av.relVs Go.Av.callJ
open Go
def precL (ts : List MTy) (us : List MTy) : Prop := ∀ (i : Nat) b, us[i]? = some b -> ∃ a, ts[i]? = some a /\ precTy a b = true
theorem precL.app {ts us vs : List MTy} (h : precL ts (us ++ vs)) : precL ts us /\ precL (ts.drop us.length) vs := by
 refine ⟨fun i b hb => h i b ?_, fun i b hb => ?_⟩
 ·rw [List.getElem?_append_left (List.getElem?_eq_some_iff.1 hb).1]; exact hb
 ·obtain ⟨a, h1, h2⟩ := h (us.length + i) b (by rw [List.getElem?_append_right (by omega)]; simpa using hb)
  exact ⟨a, by rw [List.getElem?_drop]; exact h1, h2⟩
def migM : Nat -> MTm -> MTm
 | 0, e => e
 | n + 1, e => match refineM e with
  | [] => e
  | x :: _ => migM n x
end Go.Av

namespace Go.Av
attribute [-simp] Go.Av.freeStepG Go.Av.exA Go.Av.innAsH Go.Av.AV.innH Go.Av.CV.innH Go.Av.innHs Go.Av.AV.outnH Go.Av.CV.outnH Go.Av.astepJ Go.Av.relC Go.Av.relL Go.Av.relV Go.Av.relVs Go.Av.callJ
open Go
def groundT (k : Int) : MTy := if k = 4 \/ k = 5 then .mk k [anyT, anyT] else .mk k []
def isGroundM (t : MTy) : Bool := decide (t.kind ≠ 1) && sameTy t (groundT t.kind)
def proxyM (e : MTm) : Bool := decide (e.kind = 14) && (decide (e.fr.kind = e.ty.kind) && (decide (e.ty.kind = 4) || decide (e.ty.kind = 5)))
def injM (e : MTm) : Bool := decide (e.kind = 14) && (decide (e.ty.kind = 1) && isGroundM e.fr)
def plainM (e : MTm) : Bool := decide (e.kind = 2) || (decide (e.kind = 3) || (decide (e.kind = 4) || decide (e.kind = 5)))
mutual
def valM : MTm -> Bool
 | .mk k s n t f b l => if decide (k = 10) || (proxyM (.mk k s n t f b []) || injM (.mk k s n t f b [])) then valS l else plainM (.mk k s n t f b [])
def valS : List MTm -> Bool
 | [] => true
 | e :: r => valM e && valS r
end
def truthM (b : Bool) : MTm := if b then tTrue else tFalse
def ruleM (e : MTm) : Option MTm :=
 if e.kind = 6 then match e.kids with
  | a :: b :: _ => if a.kind = 5 then match a.kids with
    | x :: _ => some (substM a.name b x)
    | [] => none
   else none
  | _ => none
 else if e.kind = 7 \/ e.kind = 8 then match e.kids with
  | a :: b :: _ => if a.kind = 2 /\ b.kind = 2 then some (if e.kind = 7 then tNum ((a.num + b.num).tmod 1000) else truthM (decide (a.num < b.num))) else none
  | _ => none
 else if e.kind = 9 then match e.kids with
  | a :: b :: c :: _ => if a.kind = 3 then some b else if a.kind = 4 then some c else none
  | _ => none
 else if e.kind = 11 \/ e.kind = 12 then match e.kids with
  | a :: _ => if a.kind = 10 then match a.kids with
    | x :: y :: _ => some (if e.kind = 11 then x else y)
    | _ => none
   else none
  | _ => none
 else none
def wrongM (k : Int) : Int := if k = 6 then 1 else if k = 7 \/ k = 8 then 2 else if k = 9 then 3 else if k = 11 \/ k = 12 then 4 else 5
def countsM (e : MTm) : Nat := if e.kind = 9 then 1 else e.kids.length
def firstNV : List MTm -> Option Nat
 | [] => none
 | e :: r => if valM e = true then (firstNV r).map (· + 1) else some 0
mutual
def stepB : MTm -> MTm × Int × Int
 | .mk k s n t f b l => match stepBS (if k = 9 then 1 else l.length) l with
  | some (l', c, err) => (.mk k s n t f b l', c, err)
  | none => match ruleM (.mk k s n t f b l) with
   | some x => (x, 1, 0)
   | none => (zeroE, 2, wrongM k)
def stepBS : Nat -> List MTm -> Option (List MTm × Int × Int)
 | 0, _ => none
 | _, [] => none
 | n + 1, e :: r => if valM e = true then (stepBS n r).map fun p => (e :: p.1, p.2.1, p.2.2) else
   let p := stepB e
   some (p.1 :: r, p.2.1, p.2.2)
end
def bareValidM (e : MTm) : Bool := castValidM e && bareM e
def stepBareM (e : MTm) : MTm × Int × Int :=
 if bareValidM e = true then
  if valM e = true then (e, 0, 0)
  else if (stepB e).2.1 = 1 then (if bareValidM (stepB e).1 = true then ((stepB e).1, 1, 0) else (zeroE, 4, 0)) else (zeroE, (stepB e).2.1, (stepB e).2.2)
 else (zeroE, 3, 0)
def runB : Nat -> MTm -> MTm × Int × Int × Int
 | 0, e => ((stepBareM e).1, (stepBareM e).2.1, (stepBareM e).2.2, 0)
 | n + 1, e => if (stepBareM e).2.1 = 1 then ((runB n (stepBareM e).1).1, (runB n (stepBareM e).1).2.1, (runB n (stepBareM e).1).2.2.1, (runB n (stepBareM e).1).2.2.2 + 1)
   else ((stepBareM e).1, (stepBareM e).2.1, (stepBareM e).2.2, 0)
def fuelM (n : Int) : Bool := decide (0 <= n) && decide (n <= 300)
def evalBareM (e : MTm) (fuel : Int) : MTm × Int × Int :=
 if fuelM fuel = true then (if (runB fuel.toNat e).2.1 = 1 then (zeroE, 5, 0) else ((runB fuel.toNat e).1, (runB fuel.toNat e).2.1, (runB fuel.toNat e).2.2.1)) else (zeroE, 3, 0)
def bareStepsM (e : MTm) (fuel : Int) : Int := if fuelM fuel = true then (runB fuel.toNat e).2.2.2 else 0
end Go.Av
