/- A part. -/
import Derived.Test.YtloolmchekcmeaaGreatXE18
set_option linter.unusedVariables false
set_option linter.unusedSimpArgs false
namespace Go.Av
attribute [-simp] Go.Av.di Go.Av.yl Go.Av.eS Go.Av.AV.ew Go.Av.CV.ew Go.Av.iG Go.Av.AV.dF Go.Av.CV.dF Go.Av.cb Go.Av.eL Go.Av.fj Go.Av.fa Go.Av.cT Go.Av.b9
open Go
def Td (e:ao) (m:Nat) (L:List (List aE)):List ao:=((L.map (bF e)).filter DK).take m
def UR (e:ao) (L:List (List aE)):List ao:=(L.map (bF e)).filter DK
def ON (e:ao):List ao:=if a6 e=true then EO e else []
def OO (e:ao):ao:=OF (15*(aH e).length+1-Ry e) e
end Go.Av
