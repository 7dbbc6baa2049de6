/- A part of the library of this seat: a value-semantic program logic over the model, plain models, and walks of functions. -/
import Derived.Test.YtbakdfnmippcoaaGreatC12
set_option linter.unusedVariables false
set_option linter.unusedSimpArgs false
namespace Go.Av
attribute [-simp] Go.Av.freeStepG Go.Av.exA Go.Av.innAsH Go.Av.AV.innH Go.Av.CV.innH Go.Av.innHs Go.Av.AV.outnH Go.Av.CV.outnH Go.Av.astepJ Go.Av.relC Go.Av.relL Go.Av.relV Go.Av.relVs Go.Av.callJ
open Go
/-- The refined terms so far, at most so many. -/
def keepM (e : MTm) (m : Nat) (L : List (List MTy)) : List MTm := ((L.map (withM e)).filter typedB).take m
/-- The refined terms so far. -/
def fltM (e : MTm) (L : List (List MTy)) : List MTm := (L.map (withM e)).filter typedB
/-- The terms refined, of any term. -/
def refineTm (e : MTm) : List MTm := if termValidM e = true then refineM e else []
/-- The migrated term. -/
def migrateM (e : MTm) : MTm := migM (15 * (typesM e).length + 1 - sumW e) e
end Go.Av
