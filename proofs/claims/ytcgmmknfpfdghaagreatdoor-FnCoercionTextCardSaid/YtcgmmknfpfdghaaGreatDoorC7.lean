/- A part of the library of this seat. -/
import Derived.Test.YtcgmmknfpfdghaaGreatDoorC6
import Derived.Lib.Bytealg
set_option linter.unusedVariables false
set_option linter.unusedSimpArgs false
namespace Go.Av
attribute [-simp] Go.Av.MCo.kind_mk Go.Av.MCo.tag_mk Go.Av.MCo.label_mk Go.Av.MCo.kids_mk Go.Av.freeStepG Go.Av.exA Go.Av.innAsH Go.Av.AV.innH Go.Av.CV.innH Go.Av.innHs Go.Av.AV.outnH Go.Av.CV.outnH Go.Av.astepJ Go.Av.relC Go.Av.relL Go.Av.relV Go.Av.relVs Go.Av.callJ
open Go
mutual
def freeIn (c : UInt8) : List UInt8 -> MTm -> Bool
 | bd, .mk k s _ _ _ _ l => (decide (k = 1) && (decide (s = [c]) && !(bd.contains c))) || freeInS c (if k = 5 then bd ++ s else bd) l
def freeInS (c : UInt8) : List UInt8 -> List MTm -> Bool
 | _, [] => false
 | bd, e :: r => freeIn c bd e || freeInS c bd r
end
@[irreducible] def letters : List UInt8 := (List.range 26).map fun i => UInt8.ofNat (97 + i)
def namesM (e : MTm) : List UInt8 := letters.filter fun c => freeIn c [] e
theorem wrap8 {n : Nat} (h : n <= 255) : IntKind.u8.wrap (n : Int) = n := by simp [IntKind.wrap, IntKind.signed, IntKind.bits]; omega
abbrev rowB (S : List Bool) : List CV := S.map fun b => CV.d (.bool b)
def orF (f : UInt8 -> Bool) (S : List Bool) : List Bool := List.zipWith (fun c b => b || f c) letters S
@[irreducible] def noB : List Bool := List.replicate 26 false
def substTermM (e : MTm) (x : List UInt8) (v : MTm) : Option MTm :=
 if (termValidM e && (termValidM v && (nameM x && (decide (namesM v = []) && termValidM (substM x v e))))) = true then some (substM x v e) else none
end Go.Av

namespace Go.Av
attribute [-simp] Go.Av.MCo.kind_mk Go.Av.MCo.tag_mk Go.Av.MCo.label_mk Go.Av.MCo.kids_mk Go.Av.freeStepG Go.Av.exA Go.Av.innAsH Go.Av.AV.innH Go.Av.CV.innH Go.Av.innHs Go.Av.AV.outnH Go.Av.CV.outnH Go.Av.astepJ Go.Av.relC Go.Av.relL Go.Av.relV Go.Av.relVs Go.Av.callJ
open Go
mutual
def cntM : MTy -> Nat
 | .mk k l => if k = 1 then 1 else cntS l
def cntS : List MTy -> Nat
 | [] => 0
 | t :: r => cntM t + cntS r
end
def staCtx (c : List MBd) : Prop := ∀ b ∈ c, cntM b.ty = 0
mutual
def castsM : MTm -> List MTm
 | .mk k s n t f b l => (if k = 14 then [.mk k s n t f b l] else []) ++ castsS l
def castsS : List MTm -> List MTm
 | [] => []
 | e :: r => castsM e ++ castsS r
end
def staticM (e : MTm) : Bool := termValidM e && !((typesM e).any fun t => decide (0 < cntM t))
end Go.Av

namespace Go.Av
attribute [-simp] Go.Av.MCo.kind_mk Go.Av.MCo.tag_mk Go.Av.MCo.label_mk Go.Av.MCo.kids_mk Go.Av.freeStepG Go.Av.exA Go.Av.innAsH Go.Av.AV.innH Go.Av.CV.innH Go.Av.innHs Go.Av.AV.outnH Go.Av.CV.outnH Go.Av.astepJ Go.Av.relC Go.Av.relL Go.Av.relV Go.Av.relVs Go.Av.callJ
open Go
def eraseG (e : MTm) : MTm := if hasTyM e.kind = true then .mk e.kind e.name e.num anyT e.fr e.label e.kids else e
abbrev asAnyM (e : MTm) : MTm := tAs e anyT
def embG (e : MTm) : MTm :=
 if e.kind = 13 then match e.kids with
  | x :: _ => x
  | [] => e
 else if e.kind = 1 \/ e.kind = 6 \/ e.kind = 9 \/ e.kind = 11 \/ e.kind = 12 then e
 else if e.kind = 5 then asAnyM (.mk 5 e.name e.num anyT e.fr e.label e.kids) else asAnyM e
def embM (e : MTm) : MTm := mapM embG e
def anyCtx (c : List MBd) : Prop := ∀ b ∈ c, b.ty = anyT /\ ∃ z, b.name = [z]
def domM (c : List MBd) : List UInt8 := c.flatMap (·.name)
end Go.Av

namespace Go.Av
attribute [-simp] Go.Av.MCo.kind_mk Go.Av.MCo.tag_mk Go.Av.MCo.label_mk Go.Av.MCo.kids_mk Go.Av.freeStepG Go.Av.exA Go.Av.innAsH Go.Av.AV.innH Go.Av.CV.innH Go.Av.innHs Go.Av.AV.outnH Go.Av.CV.outnH Go.Av.astepJ Go.Av.relC Go.Av.relL Go.Av.relV Go.Av.relVs Go.Av.callJ
open Go
def simpG (e : MTm) : MTm :=
 if e.kind = 14 then match e.kids with
  | a :: _ => if sameTy e.fr e.ty = true then a else if e.fr.kind = 1 /\ a.kind = 14 /\ a.ty.kind = 1 /\ sameTy e.ty a.fr = true then (match a.kids with
    | x :: _ => x
    | [] => e) else e
  | [] => e
 else e
def simpM (e : MTm) : MTm := mapM simpG e
abbrev trip (e : MTm) : MTy × MTy × Int := (e.fr, e.ty, e.label)
end Go.Av

namespace Go.Av
attribute [-simp] Go.Av.MCo.kind_mk Go.Av.MCo.tag_mk Go.Av.MCo.label_mk Go.Av.MCo.kids_mk Go.Av.freeStepG Go.Av.exA Go.Av.innAsH Go.Av.AV.innH Go.Av.CV.innH Go.Av.innHs Go.Av.AV.outnH Go.Av.CV.outnH Go.Av.astepJ Go.Av.relC Go.Av.relL Go.Av.relV Go.Av.relVs Go.Av.callJ
open Go
abbrev gFun : MTy := .mk 4 [anyT, anyT]
abbrev gPair : MTy := .mk 5 [anyT, anyT]
def subsM {α : Type} (f : α -> List α) : List α -> List (List α)
 | [] => []
 | x :: r => (f x).map (· :: r) ++ (subsM f r).map (x :: ·)
mutual
def refinedM : MTy -> List MTy
 | .mk k l => if k = 1 then [intT, boolT, gFun, gPair] else (refinedS l).map (MTy.mk k)
def refinedS : List MTy -> List (List MTy)
 | [] => []
 | t :: r => (refinedM t).map (· :: r) ++ (refinedS r).map (t :: ·)
end
mutual
def stepsM : Nat -> MTy -> List MTy
 | d, .mk k l => if k = 1 then intT :: boolT :: (if 1 < d then [gFun, gPair] else []) else (stepsS (d - 1) l).map (MTy.mk k)
def stepsS : Nat -> List MTy -> List (List MTy)
 | _, [] => []
 | d, t :: r => (stepsM d t).map (· :: r) ++ (stepsS d r).map (t :: ·)
end
def refTyM (t : MTy) : List MTy := if shapeTy 4 t = true then (refinedM t).filter (shapeTy 4) else []
mutual
def sizeTy : MTy -> Nat
 | .mk _ l => 1 + sizeTyS l
def sizeTyS : List MTy -> Nat
 | [] => 0
 | t :: r => sizeTy t + sizeTyS r
end
mutual
def wgtM : MTy -> Nat
 | .mk k l => if k = 1 then 0 else 1 + wgtS l
def wgtS : List MTy -> Nat
 | [] => 0
 | t :: r => wgtM t + wgtS r
end
def candM (ts : List MTy) : List (List MTy) := subsM refTyM ts
def typedB (e : MTm) : Bool := (typeM [] e).isSome
def refineM (e : MTm) : List MTm := ((candM (typesM e)).map (withM e)).filter typedB
def sumW (e : MTm) : Nat := ((typesM e).map wgtM).sum

end Go.Av

namespace Go.Av
attribute [-simp] Go.Av.MCo.kind_mk Go.Av.MCo.tag_mk Go.Av.MCo.label_mk Go.Av.MCo.kids_mk Go.Av.freeStepG Go.Av.exA Go.Av.innAsH Go.Av.AV.innH Go.Av.CV.innH Go.Av.innHs Go.Av.AV.outnH Go.Av.CV.outnH Go.Av.astepJ Go.Av.relC Go.Av.relL Go.Av.relV Go.Av.relVs Go.Av.callJ
open Go
def precL (ts : List MTy) (us : List MTy) : Prop := ∀ (i : Nat) b, us[i]? = some b -> ∃ a, ts[i]? = some a /\ precTy a b = true
def migM : Nat -> MTm -> MTm
 | 0, e => e
 | n + 1, e => match refineM e with
  | [] => e
  | x :: _ => migM n x
end Go.Av

namespace Go.Av
attribute [-simp] Go.Av.MCo.kind_mk Go.Av.MCo.tag_mk Go.Av.MCo.label_mk Go.Av.MCo.kids_mk Go.Av.freeStepG Go.Av.exA Go.Av.innAsH Go.Av.AV.innH Go.Av.CV.innH Go.Av.innHs Go.Av.AV.outnH Go.Av.CV.outnH Go.Av.astepJ Go.Av.relC Go.Av.relL Go.Av.relV Go.Av.relVs Go.Av.callJ
open Go
def groundT (k : Int) : MTy := if k = 4 \/ k = 5 then .mk k [anyT, anyT] else .mk k []
def isGroundM (t : MTy) : Bool := decide (t.kind ≠ 1) && sameTy t (groundT t.kind)
def proxyM (e : MTm) : Bool := decide (e.kind = 14) && (decide (e.fr.kind = e.ty.kind) && (decide (e.ty.kind = 4) || decide (e.ty.kind = 5)))
def injM (e : MTm) : Bool := decide (e.kind = 14) && (decide (e.ty.kind = 1) && isGroundM e.fr)
def plainM (e : MTm) : Bool := decide (e.kind = 2) || (decide (e.kind = 3) || (decide (e.kind = 4) || decide (e.kind = 5)))
mutual
def valM : MTm -> Bool
 | .mk k s n t f b l => if decide (k = 10) || (proxyM (.mk k s n t f b []) || injM (.mk k s n t f b [])) then valS l else plainM (.mk k s n t f b [])
def valS : List MTm -> Bool
 | [] => true
 | e :: r => valM e && valS r
end
def truthM (b : Bool) : MTm := if b then tTrue else tFalse
def ruleM (e : MTm) : Option MTm :=
 if e.kind = 6 then match e.kids with
  | a :: b :: _ => if a.kind = 5 then match a.kids with
    | x :: _ => some (substM a.name b x)
    | [] => none
   else none
  | _ => none
 else if e.kind = 7 \/ e.kind = 8 then match e.kids with
  | a :: b :: _ => if a.kind = 2 /\ b.kind = 2 then some (if e.kind = 7 then tNum ((a.num + b.num).tmod 1000) else truthM (decide (a.num < b.num))) else none
  | _ => none
 else if e.kind = 9 then match e.kids with
  | a :: b :: c :: _ => if a.kind = 3 then some b else if a.kind = 4 then some c else none
  | _ => none
 else if e.kind = 11 \/ e.kind = 12 then match e.kids with
  | a :: _ => if a.kind = 10 then match a.kids with
    | x :: y :: _ => some (if e.kind = 11 then x else y)
    | _ => none
   else none
  | _ => none
 else none
def wrongM (k : Int) : Int := if k = 6 then 1 else if k = 7 \/ k = 8 then 2 else if k = 9 then 3 else if k = 11 \/ k = 12 then 4 else 5
def countsM (e : MTm) : Nat := if e.kind = 9 then 1 else e.kids.length
def firstNV : List MTm -> Option Nat
 | [] => none
 | e :: r => if valM e = true then (firstNV r).map (· + 1) else some 0
mutual
def stepB : MTm -> MTm × Int × Int
 | .mk k s n t f b l => match stepBS (if k = 9 then 1 else l.length) l with
  | some (l', c, err) => (.mk k s n t f b l', c, err)
  | none => match ruleM (.mk k s n t f b l) with
   | some x => (x, 1, 0)
   | none => (zeroE, 2, wrongM k)
def stepBS : Nat -> List MTm -> Option (List MTm × Int × Int)
 | 0, _ => none
 | _, [] => none
 | n + 1, e :: r => if valM e = true then (stepBS n r).map fun p => (e :: p.1, p.2.1, p.2.2) else
   let p := stepB e
   some (p.1 :: r, p.2.1, p.2.2)
end
def bareValidM (e : MTm) : Bool := castValidM e && bareM e
def stepBareM (e : MTm) : MTm × Int × Int :=
 if bareValidM e = true then
  if valM e = true then (e, 0, 0)
  else if (stepB e).2.1 = 1 then (if bareValidM (stepB e).1 = true then ((stepB e).1, 1, 0) else (zeroE, 4, 0)) else (zeroE, (stepB e).2.1, (stepB e).2.2)
 else (zeroE, 3, 0)
def runB : Nat -> MTm -> MTm × Int × Int × Int
 | 0, e => ((stepBareM e).1, (stepBareM e).2.1, (stepBareM e).2.2, 0)
 | n + 1, e => if (stepBareM e).2.1 = 1 then ((runB n (stepBareM e).1).1, (runB n (stepBareM e).1).2.1, (runB n (stepBareM e).1).2.2.1, (runB n (stepBareM e).1).2.2.2 + 1)
   else ((stepBareM e).1, (stepBareM e).2.1, (stepBareM e).2.2, 0)
def fuelM (n : Int) : Bool := decide (0 <= n) && decide (n <= 300)
def evalBareM (e : MTm) (fuel : Int) : MTm × Int × Int :=
 if fuelM fuel = true then (if (runB fuel.toNat e).2.1 = 1 then (zeroE, 5, 0) else ((runB fuel.toNat e).1, (runB fuel.toNat e).2.1, (runB fuel.toNat e).2.2.1)) else (zeroE, 3, 0)
def bareStepsM (e : MTm) (fuel : Int) : Int := if fuelM fuel = true then (runB fuel.toNat e).2.2.2 else 0
end Go.Av

namespace Go.Av
attribute [-simp] Go.Av.MCo.kind_mk Go.Av.MCo.tag_mk Go.Av.MCo.label_mk Go.Av.MCo.kids_mk Go.Av.freeStepG Go.Av.exA Go.Av.innAsH Go.Av.AV.innH Go.Av.CV.innH Go.Av.innHs Go.Av.AV.outnH Go.Av.CV.outnH Go.Av.astepJ Go.Av.relC Go.Av.relL Go.Av.relV Go.Av.relVs Go.Av.callJ
open Go
def subsP {α : Type} (f : α -> List α) (l : List α) (p : Nat) : List (List α) := (subsM f (l.take p)).map (· ++ l.drop p)
end Go.Av

namespace Go.Av
attribute [-simp] Go.Av.MCo.kind_mk Go.Av.MCo.tag_mk Go.Av.MCo.label_mk Go.Av.MCo.kids_mk Go.Av.freeStepG Go.Av.exA Go.Av.innAsH Go.Av.AV.innH Go.Av.CV.innH Go.Av.innHs Go.Av.AV.outnH Go.Av.CV.outnH Go.Av.astepJ Go.Av.relC Go.Av.relL Go.Av.relV Go.Av.relVs Go.Av.callJ
open Go
def castN (c : List MBd) (e : MTm) (ts : List MTy) : Option MTy :=
 if e.kind = 14 then match ts with
  | x :: _ => if sameTy x e.fr = true then some e.ty else none
  | [] => none
 else match wantM c e.kind e.name e.ty ts with
  | none => none
  | some (ws, u) => if shapeTy 4 u = true /\ exactS ws ts = true then some u else none
def castTypeM (e : MTm) : Option MTy := if castValidM e = true then castTyM [] e else none

end Go.Av

namespace Go.Av
attribute [-simp] Go.Av.MCo.kind_mk Go.Av.MCo.tag_mk Go.Av.MCo.label_mk Go.Av.MCo.kids_mk Go.Av.freeStepG Go.Av.exA Go.Av.innAsH Go.Av.AV.innH Go.Av.CV.innH Go.Av.innHs Go.Av.AV.outnH Go.Av.CV.outnH Go.Av.astepJ Go.Av.relC Go.Av.relL Go.Av.relV Go.Av.relVs Go.Av.callJ
open Go
end Go.Av
