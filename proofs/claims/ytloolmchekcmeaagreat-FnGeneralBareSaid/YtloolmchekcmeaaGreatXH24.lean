/- A part. -/
import Derived.Test.YtloolmchekcmeaaGreatXH23
set_option linter.unusedVariables false
set_option linter.unusedSimpArgs false
namespace Go.Av
attribute [-simp] Go.Av.bO Go.Av.dO Go.Av.ed Go.Av.ec Go.Av.cl Go.Av.cj Go.Av.IT.ly Go.Av.IT.fq Go.Av.IT.ft Go.Av.IT.j5 Go.Av.IT.lz Go.Av.IT.lA Go.Av.IT.lB Go.Av.IT.lC Go.Av.IT.gU Go.Av.iS
open Go
def I9 (e:an):List UInt8:=if aR e=true then eM 12 e else []
def Ja (e:an):List UInt8:=if jj e=true then eM 40 e else []
def KS:List UInt8:=[112,97,105,114]
def N0:List UInt8:=[102,117,110,99,116,105,111,110]
def yP:Nat->an->List UInt8
 |0,_=>[]
 |d+1,.mk k s n t f l kids=>
  if decide (k=10)||(zY (.mk k s n t f l [])&& decide (t.kind=5))then KS
  else if decide (k=5)||zY (.mk k s n t f l [])then N0
  else match kids with
   |[a]=>yP d a
   |_=>if k=2 then Lib.itoa n else if k=3 then [84]else [70]
section
variable (d:Nat)
end
def It (e:an):List UInt8:=if(jj e && D5 e)=true then yP 40 e else []
theorem fE {α:Type} {n m:Nat} [inst:Decidable (n<=m)] {a b:α} (h:n<=m):(if n<=m then a else b)=a:=if_pos h
end Go.Av
namespace Go.Av
attribute [-simp] Go.Av.bO Go.Av.dO Go.Av.ed Go.Av.ec Go.Av.cl Go.Av.cj
open Go
open Classical in
noncomputable def Iu (e:an):Option (List aH):=if h:∃x:Nat×List IT×List IT×IT×Nat,Whole e x.1 x.2.1 x.2.2.1 x.2.2.2.1/\Fuel x.2.1 x.2.2.2.2
 then FR h.choose.2.1 h.choose.2.2.2.2 h.choose.2.2.1 else none
noncomputable def Rj (e:an):Option (an×aH):=if aR e=true then(Iu (mapM aM e)).bind fun Ts=>(if aR (dJ (mapM aM e) Ts)=true then ti [] (dJ (mapM aM e) Ts)else none).map fun T=>(dJ (mapM aM e) Ts,T)else none
end Go.Av
