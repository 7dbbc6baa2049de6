/- A part. -/
import Derived.Test.YtloolmchekcmeaaGreatXD21
set_option linter.unusedVariables false
set_option linter.unusedSimpArgs false
namespace Go.Av
attribute [-simp] Go.Av.bP Go.Av.eu Go.Av.eN Go.Av.eG Go.Av.b8 Go.Av.bN Go.Av.IT.gK Go.Av.IT.eH Go.Av.IT.ey Go.Av.IT.gj Go.Av.IT.gL Go.Av.IT.gM Go.Av.IT.gN Go.Av.IT.gO Go.Av.IT.e8 Go.Av.fh
open Go
def MP (e:ak):List UInt8:=if aV e=true then fV 12 e else []
def MQ (e:ak):List UInt8:=if kY e=true then fV 40 e else []
def OK:List UInt8:=[112,97,105,114]
def RO:List UInt8:=[102,117,110,99,116,105,111,110]
def B7:Nat->ak->List UInt8
 |0,_=>[]
 |d+1,.mk k s n t f l kids=>
  if decide (k=10)||(Dc (.mk k s n t f l [])&& decide (t.kind=5))then OK
  else if decide (k=5)||Dc (.mk k s n t f l [])then RO
  else match kids with
   |[a]=>B7 d a
   |_=>if k=2 then Lib.itoa n else if k=3 then [84]else [70]
section
variable (d:Nat)
end
def Me (e:ak):List UInt8:=if(kY e && HG e)=true then B7 40 e else []
theorem Ib {α:Type} {n m:Nat} [inst:Decidable (n<=m)] {a b:α} (h:n<=m):(if n<=m then a else b)=a:=if_pos h
end Go.Av
