/- A part. -/
import Derived.Test.YtloolmchekcmeaaGreatXB24
set_option linter.unusedVariables false
set_option linter.unusedSimpArgs false
namespace Go.Av
attribute [-simp] Go.Av.cj Go.Av.e0 Go.Av.fH Go.Av.fy Go.Av.cW Go.Av.cg Go.Av.IT.jQ Go.Av.IT.fJ Go.Av.IT.fi Go.Av.IT.jv Go.Av.IT.jR Go.Av.IT.jS Go.Av.IT.jT Go.Av.IT.jU Go.Av.IT.gv Go.Av.hM
open Go
def Nf (e:al):List UInt8:=if aS e=true then gD 12 e else []
def Ng (e:al):List UInt8:=if lF e=true then gD 40 e else []
def Pl:List UInt8:=[112,97,105,114]
def Se:List UInt8:=[102,117,110,99,116,105,111,110]
def CQ:Nat->al->List UInt8
 |0,_=>[]
 |d+1,.mk k s n t f l kids=>
  if decide (k=10)||(D5 (.mk k s n t f l [])&& decide (t.kind=5))then Pl
  else if decide (k=5)||D5 (.mk k s n t f l [])then Se
  else match kids with
   |[a]=>CQ d a
   |_=>if k=2 then Lib.itoa n else if k=3 then [84]else [70]
section
variable (d:Nat)
end
def MA (e:al):List UInt8:=if(lF e && Ii e)=true then CQ 40 e else []
theorem Le {α:Type} {n m:Nat} [inst:Decidable (n<=m)] {a b:α} (h:n<=m):(if n<=m then a else b)=a:=if_pos h
end Go.Av
