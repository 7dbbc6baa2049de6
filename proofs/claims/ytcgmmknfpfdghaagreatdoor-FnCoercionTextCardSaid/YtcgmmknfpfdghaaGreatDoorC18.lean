/- A part of the library of this seat. -/
import Derived.Test.YtcgmmknfpfdghaaGreatDoorC17
set_option linter.unusedVariables false
set_option linter.unusedSimpArgs false
namespace Go.Proofs.YtcgmmknfpfdghaaGreatDoor
attribute [-simp] Go.Av.MCo.kind_mk Go.Av.MCo.tag_mk Go.Av.MCo.label_mk Go.Av.MCo.kids_mk Go.Av.astepJ Go.Av.relC Go.Av.relL Go.Av.relV Go.Av.relVs Go.Av.callJ Go.Av.IT.kind_v Go.Av.IT.kind_b Go.Av.IT.kind_p Go.Av.IT.name_v Go.Av.IT.name_b Go.Av.IT.name_p Go.Av.IT.kids_v Go.Av.IT.kids_b Go.Av.IT.kids_p Go.Av.eIT_len
open Go Go.Av
attribute [local irreducible] T ACalls TX EX LX Draws Some_ ACallsX eTy eTm MTy.kind MTy.kids MTm.kind MTm.name MTm.num MTm.ty MTm.fr MTm.label MTm.kids
attribute [local simp] eTy_def eTm_def
set_option maxHeartbeats 16000000
set_option maxRecDepth 8000

@[simp] theorem td_opSy : td Tryz.prog 23 = some { ag := false, sz := 1, by_ := 24, zero := some [.nil], el := some 51, ar := none, fl := [], ik := none, isS := false, isB := false } := keep (by kernel_rfl)
@[simp] theorem td_opy : td Tryz.prog 51 = some { ag := true, sz := 2, by_ := 16, zero := some [.d (.int .i64 0), .d (.int .i64 0)], el := none, ar := none, fl := [(0, 1), (1, 1)], ik := none, isS := false, isB := false } := keep (by kernel_rfl)

end Go.Proofs.YtcgmmknfpfdghaaGreatDoor
