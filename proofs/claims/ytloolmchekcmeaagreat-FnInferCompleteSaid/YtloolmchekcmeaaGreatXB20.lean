/- A part. -/
import Derived.Test.YtloolmchekcmeaaGreatXB19
set_option linter.unusedVariables false
set_option linter.unusedSimpArgs false
namespace Go.Av
attribute [-simp] Go.Av.dJ Go.Av.yH Go.Av.fb Go.Av.AV.eH Go.Av.CV.eH Go.Av.iX Go.Av.AV.dO Go.Av.CV.dO Go.Av.cj Go.Av.e0 Go.Av.fH Go.Av.fy Go.Av.cW Go.Av.cg
open Go
def Tz (e:al) (m:Nat) (L:List (List aG)):List al:=((L.map (bx e)).filter D4).take m
def Vf (e:al) (L:List (List aG)):List al:=(L.map (bx e)).filter D4
def OZ (e:al):List al:=if aS e=true then E3 e else []
def O0 (e:al):al:=OO (15*(aF e).length+1-RJ e) e
end Go.Av
