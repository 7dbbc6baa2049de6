/- A part of the library of this seat. -/
import Derived.Test.YtloolmchekcmeaaK17
set_option linter.unusedVariables false
set_option linter.unusedSimpArgs false
namespace Go.Av
attribute [-simp] Go.Av.astepJ Go.Av.relC Go.Av.relL Go.Av.relV Go.Av.relVs Go.Av.callJ Go.Av.IT.kind_v Go.Av.IT.kind_b Go.Av.IT.kind_p Go.Av.IT.name_v Go.Av.IT.name_b Go.Av.IT.name_p Go.Av.IT.kids_v Go.Av.IT.kids_b Go.Av.IT.kids_p Go.Av.eIT_len
open Go

def formatTmM (e : MTm) : List UInt8 := if termValidM e = true then tmTextF 12 e else []
def formatCaM (e : MTm) : List UInt8 := if castValidM e = true then tmTextF 40 e else []

def pairB : List UInt8 := [112, 97, 105, 114]
def funB : List UInt8 := [102, 117, 110, 99, 116, 105, 111, 110]
def valTextF : Nat -> MTm -> List UInt8
 | 0, _ => []
 | d + 1, .mk k s n t f l kids =>
  if decide (k = 10) || (proxyM (.mk k s n t f l []) && decide (t.kind = 5)) then pairB
  else if decide (k = 5) || proxyM (.mk k s n t f l []) then funB
  else match kids with
   | [a] => valTextF d a
   | _ => if k = 2 then Lib.itoa n else if k = 3 then [84] else [70]
section
variable (d : Nat)
end
def valueTextM (e : MTm) : List UInt8 := if (castValidM e && valM e) = true then valTextF 40 e else []
end Go.Av

namespace Go.Av
attribute [-simp] Go.Av.astepJ Go.Av.relC Go.Av.relL Go.Av.relV Go.Av.relVs Go.Av.callJ Go.Av.IT.kind_v Go.Av.IT.kind_b Go.Av.IT.kind_p Go.Av.IT.name_v Go.Av.IT.name_b Go.Av.IT.name_p Go.Av.IT.kids_v Go.Av.IT.kids_b Go.Av.IT.kids_p Go.Av.eIT_len
open Go
theorem catLe {α : Type} {n m : Nat} [inst : Decidable (n <= m)] {a b : α} (h : n <= m) : (if n <= m then a else b) = a := if_pos h

end Go.Av
