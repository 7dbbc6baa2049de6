/- A part of the library of this seat. -/
import Derived.Test.YtcgmmknfpfdghaaGreatDoorC22
import Derived.Lib.UnsafeStr
import Derived.Lib.AppendStr
set_option linter.unusedVariables false
set_option linter.unusedSimpArgs false
namespace Go.Av
attribute [-simp] Go.Av.MCo.kind_mk Go.Av.MCo.tag_mk Go.Av.MCo.label_mk Go.Av.MCo.kids_mk Go.Av.astepJ Go.Av.relC Go.Av.relL Go.Av.relV Go.Av.relVs Go.Av.callJ Go.Av.IT.kind_v Go.Av.IT.kind_b Go.Av.IT.kind_p Go.Av.IT.name_v Go.Av.IT.name_b Go.Av.IT.name_p Go.Av.IT.kids_v Go.Av.IT.kids_b Go.Av.IT.kids_p Go.Av.eIT_len Go.Av.gT_cons Go.Av.sT_cons
open Go
def wordsM : List (List UInt8) := [[110, 117, 109], [116, 114, 117, 116, 104], [118, 97, 114], [102, 117, 110], [114, 101, 116], [97, 112, 112, 108, 121], [97, 100, 100], [108, 101, 115, 115], [98, 114, 97, 110, 99, 104], [106, 117, 109, 112], [112, 97, 105, 114], [102, 115, 116], [115, 110, 100]]
abbrev eW (w : List UInt8) : List DV := [.str w]
end Go.Av
