/- A part. -/
import Derived.Test.YtloolmchekcmeaaGreatXH18
set_option linter.unusedVariables false
set_option linter.unusedSimpArgs false
namespace Go.Av
attribute [-simp] Go.Av.cK Go.Av.xv Go.Av.dS Go.Av.AV.dp Go.Av.CV.dp Go.Av.fS Go.Av.AV.cO Go.Av.CV.cO Go.Av.bO Go.Av.dO Go.Av.ed Go.Av.ec Go.Av.cl Go.Av.cj
open Go
def Pd (e:an) (m:Nat) (L:List (List aH)):List an:=((L.map (dJ e)).filter zX).take m
def QP (e:an) (L:List (List aH)):List an:=(L.map (dJ e)).filter zX
def KF (e:an):List an:=if aR e=true then A4 e else []
def KG (e:an):an:=Kx (15*(aL e).length+1-NA e) e
end Go.Av
