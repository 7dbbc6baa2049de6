/- A part. -/
import Derived.Test.YtloolmchekcmeaaGreatXD17
set_option linter.unusedVariables false
set_option linter.unusedSimpArgs false
namespace Go.Av
attribute [-simp] Go.Av.c9 Go.Av.xO Go.Av.ef Go.Av.AV.dw Go.Av.CV.dw Go.Av.fR Go.Av.AV.cJ Go.Av.CV.cJ Go.Av.bP Go.Av.eu Go.Av.eN Go.Av.eG Go.Av.b8 Go.Av.bN
open Go
def S6 (e:ak) (m:Nat) (L:List (List aF)):List ak:=((L.map (cq e)).filter Db).take m
def UL (e:ak) (L:List (List aF)):List ak:=(L.map (cq e)).filter Db
def Oy (e:ak):List ak:=if aV e=true then Ef e else []
def Oz (e:ak):ak:=Ot (15*(aK e).length+1-Rk e) e
end Go.Av
