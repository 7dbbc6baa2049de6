/- A part of the library of this seat. -/
import Derived.Test.YtcgmmknfpfdghaaDoorA26
set_option linter.unusedVariables false
set_option linter.unusedSimpArgs false
namespace Go.Av
attribute [-simp] Go.Av.MCo.kind_mk Go.Av.MCo.tag_mk Go.Av.MCo.label_mk Go.Av.MCo.kids_mk
open Go
section
variable {P : Program} {n : Nat} {s : St} {L L2 : Ts} {all : Array Oper} {ow : Nat -> Bool} {K : St -> Ts -> Prop} {i : Nat} {o : Oper} {rest : List Oper}
end
end Go.Av

namespace Go.Av
attribute [-simp] Go.Av.MCo.kind_mk Go.Av.MCo.tag_mk Go.Av.MCo.label_mk Go.Av.MCo.kids_mk
open Go
section
variable {P : Program} {n : Nat} {s : St} {L L2 : Ts} {Q : Exit -> St -> Ts -> Prop} {cd : Code}
end
end Go.Av
