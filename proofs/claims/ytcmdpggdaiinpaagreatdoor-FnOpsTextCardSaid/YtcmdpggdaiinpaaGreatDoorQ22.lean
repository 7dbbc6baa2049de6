/- A part of the library of this seat. -/
import Derived.Test.YtcmdpggdaiinpaaGreatDoorQ21
set_option linter.unusedVariables false
set_option linter.unusedSimpArgs false
namespace Go.Av
attribute [-simp] Go.Av.astepJ Go.Av.relC Go.Av.relL Go.Av.relV Go.Av.relVs Go.Av.callJ
open Go

def groundCo (c : MCo) : Bool := decide (c.kind = 2) || decide (c.kind = 3) || (decide (c.kind = 1) && !decide (c.tag = 1))
def projCo (c : MCo) : Bool := !decide (c.kind = 5) && !(decide (c.kind = 1) && decide (c.tag = 1))
def coNode : MCo -> Bool
 | .mk k t b [] => (decide (k = 1) && decide (b = 0) && inM t 1 3) || (decide (k = 6) && labM b && inM t 2 5)
 | .mk k t b [x] => (decide (k = 4) && decide (b = 0) && decide (t = 0) && groundCo x) || (decide (k = 5) && labM b && decide (t = 0) && projCo x)
 | .mk k t b [_, _] => (decide (k = 2) || decide (k = 3)) && decide (b = 0) && decide (t = 0)
 | _ => false
def shapeCo : Nat -> MCo -> Bool
 | 0, _ => false
 | d + 1, .mk k t b l => l.all (shapeCo d) && coNode (.mk k t b l)

abbrev cId (t : Int) : MCo := .mk 1 t 0 []
abbrev cFail (b t : Int) : MCo := .mk 6 t b []
abbrev cInj (x : MCo) : MCo := .mk 4 0 0 [x]
abbrev cProj (b : Int) (x : MCo) : MCo := .mk 5 0 b [x]
abbrev cTwo (k : Int) (x y : MCo) : MCo := .mk k 0 0 [x, y]
inductive CoV : Nat -> MCo -> Prop
 | id {d : Nat} {t : Int} : 1 <= t -> t <= 3 -> CoV (d + 1) (cId t)
 | fail {d : Nat} {b t : Int} : labM b = true -> 2 <= t -> t <= 5 -> CoV (d + 1) (cFail b t)
 | inj {d : Nat} {x : MCo} : CoV d x -> groundCo x = true -> CoV (d + 1) (cInj x)
 | proj {d : Nat} {b : Int} {x : MCo} : labM b = true -> CoV d x -> projCo x = true -> CoV (d + 1) (cProj b x)
 | two {d : Nat} {k : Int} {x y : MCo} : k = 2 \/ k = 3 -> CoV d x -> CoV d y -> CoV (d + 1) (cTwo k x y)
def coTextF : Nat -> MCo -> List UInt8
 | 0, _ => []
 | _ + 1, .mk k t b [] => if k = 1 then [signB t] else 88 :: (Lib.itoa b ++ [signB t])
 | d + 1, .mk k _ b [x] => if k = 4 then 33 :: coTextF d x else 35 :: (Lib.itoa b ++ 46 :: coTextF d x)
 | d + 1, .mk k _ _ [x, y] => 40 :: (coTextF d x ++ (if k = 2 then 62 else 42) :: (coTextF d y ++ [41]))
 | _ + 1, _ => []
section
variable (d : Nat)
end
end Go.Av
