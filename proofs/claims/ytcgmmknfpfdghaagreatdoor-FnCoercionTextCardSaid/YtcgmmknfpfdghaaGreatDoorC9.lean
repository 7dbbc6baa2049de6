/- A part of the library of this seat. -/
import Derived.Test.YtcgmmknfpfdghaaGreatDoorC8
import Derived.Shelf.Spec.SlicesGrow
set_option linter.unusedVariables false
set_option linter.unusedSimpArgs false
namespace Go.Av
attribute [-simp] Go.Av.MCo.kind_mk Go.Av.MCo.tag_mk Go.Av.MCo.label_mk Go.Av.MCo.kids_mk
open Go Go.Lib
section
variable {P : Program} {ρ : Go.Shelf.Ren}
end
end Go.Av
