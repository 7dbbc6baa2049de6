/- A part. -/
import Derived.Test.YtloolmchekcmeaaGreatXF18
set_option linter.unusedVariables false
set_option linter.unusedSimpArgs false
namespace Go.Av
attribute [-simp] Go.Av.dt Go.Av.xQ Go.Av.fb Go.Av.AV.eF Go.Av.CV.eF Go.Av.iW Go.Av.AV.dN Go.Av.CV.dN Go.Av.ch Go.Av.eY Go.Av.fw Go.Av.fi Go.Av.cY Go.Av.cb
open Go
def Tv (e:ao) (m:Nat) (L:List (List aI)):List ao:=((L.map (bG e)).filter Ds).take m
def U7 (e:ao) (L:List (List aI)):List ao:=(L.map (bG e)).filter Ds
def OW (e:ao):List ao:=if aQ e=true then Ev e else []
def OX (e:ao):ao:=OO (15*(aF e).length+1-RL e) e
end Go.Av
