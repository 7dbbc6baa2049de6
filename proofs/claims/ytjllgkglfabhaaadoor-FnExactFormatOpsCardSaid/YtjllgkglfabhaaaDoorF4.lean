/- A part of the library of this seat: a value-semantic program logic over the model, plain models, and walks of functions. -/
import Derived.Test.YtjllgkglfabhaaaDoorF3
import Derived.Test.YtjllgkglfabhaaaDoorChecked
set_option linter.unusedVariables false
set_option linter.unusedSimpArgs false
namespace Go.Proofs.YtjllgkglfabhaaaDoor
attribute [-simp] Go.Av.get_app_len Go.Av.get_app_len0 Go.Av.set_app_len Go.Av.set_app_len0 Go.Av.freeStep Go.Av.exV Go.Av.keepL Go.Av.ups Go.Av.take_app_len Go.Av.MCo.kind_mk Go.Av.MCo.tag_mk Go.Av.MCo.label_mk Go.Av.MCo.kids_mk Go.Av.innVs Go.Av.putBack Go.Av.objCells Go.Av.back Go.Av.resVs Go.Av.one Go.Av.freeStepG Go.Av.exA Go.Av.innAsH Go.Av.AV.innH Go.Av.CV.innH Go.Av.innHs Go.Av.AV.outnH Go.Av.CV.outnH
open Go Go.Av
attribute [local irreducible] T
attribute [local simp] eTy_def eTm_def

@[simp] theorem td_int : td Tryd.prog 3 = some { ag := false, sz := 1, by_ := 8, zero := some [.d (.int .i64 0)], el := none, ar := none, fl := [], ik := some .i64, isS := false, isB := false } := keep (by kernel_rfl)
@[simp] theorem td_bool : td Tryd.prog 4 = some { ag := false, sz := 1, by_ := 1, zero := some [.d (.bool false)], el := none, ar := none, fl := [], ik := none, isS := false, isB := true } := keep (by kernel_rfl)
@[simp] theorem td_string : td Tryd.prog 9 = some { ag := false, sz := 1, by_ := 16, zero := some [.d (.str [])], el := none, ar := none, fl := [], ik := none, isS := true, isB := false } := keep (by kernel_rfl)
@[simp] theorem td_lawsTypeS : td Tryd.prog 34 = some { ag := false, sz := 1, by_ := 24, zero := some [.nil], el := some 36, ar := none, fl := [], ik := none, isS := false, isB := false } := keep (by kernel_rfl)
@[simp] theorem td_lawsType : td Tryd.prog 36 = some { ag := true, sz := 2, by_ := 32, zero := some [.d (.int .i64 0), .nil], el := none, ar := none, fl := [(0, 1), (1, 1)], ik := none, isS := false, isB := false } := keep (by kernel_rfl)
@[simp] theorem td_lawsTermS : td Tryd.prog 37 = some { ag := false, sz := 1, by_ := 24, zero := some [.nil], el := some 39, ar := none, fl := [], ik := none, isS := false, isB := false } := keep (by kernel_rfl)
@[simp] theorem td_lawsTerm : td Tryd.prog 39 = some { ag := true, sz := 9, by_ := 128, zero := some [.d (.int .i64 0), .d (.str []), .d (.int .i64 0), .d (.int .i64 0), .nil, .d (.int .i64 0), .nil, .d (.int .i64 0), .nil], el := none, ar := none, fl := [(0, 1), (1, 1), (2, 1), (3, 2), (5, 2), (7, 1), (8, 1)], ik := none, isS := false, isB := false } := keep (by kernel_rfl)
@[simp] theorem td_implTypeS : td Tryd.prog 23 = some { ag := false, sz := 1, by_ := 24, zero := some [.nil], el := some 25, ar := none, fl := [], ik := none, isS := false, isB := false } := keep (by kernel_rfl)
@[simp] theorem td_implType : td Tryd.prog 25 = some { ag := true, sz := 2, by_ := 32, zero := some [.d (.int .i64 0), .nil], el := none, ar := none, fl := [(0, 1), (1, 1)], ik := none, isS := false, isB := false } := keep (by kernel_rfl)
@[simp] theorem td_implTermS : td Tryd.prog 26 = some { ag := false, sz := 1, by_ := 24, zero := some [.nil], el := some 28, ar := none, fl := [], ik := none, isS := false, isB := false } := keep (by kernel_rfl)
@[simp] theorem td_implTerm : td Tryd.prog 28 = some { ag := true, sz := 9, by_ := 128, zero := some [.d (.int .i64 0), .d (.str []), .d (.int .i64 0), .d (.int .i64 0), .nil, .d (.int .i64 0), .nil, .d (.int .i64 0), .nil], el := none, ar := none, fl := [(0, 1), (1, 1), (2, 1), (3, 2), (5, 2), (7, 1), (8, 1)], ik := none, isS := false, isB := false } := keep (by kernel_rfl)
theorem mixed : Tryd.prog.follows .mixedOrders = true := by kernel_rfl

end Go.Proofs.YtjllgkglfabhaaaDoor

namespace Go.Proofs.YtjllgkglfabhaaaDoor
attribute [-simp] Go.Av.get_app_len Go.Av.get_app_len0 Go.Av.set_app_len Go.Av.set_app_len0 Go.Av.freeStep Go.Av.exV Go.Av.keepL Go.Av.ups Go.Av.take_app_len Go.Av.MCo.kind_mk Go.Av.MCo.tag_mk Go.Av.MCo.label_mk Go.Av.MCo.kids_mk Go.Av.innVs Go.Av.putBack Go.Av.objCells Go.Av.back Go.Av.resVs Go.Av.one Go.Av.freeStepG Go.Av.exA Go.Av.innAsH Go.Av.AV.innH Go.Av.CV.innH Go.Av.innHs Go.Av.AV.outnH Go.Av.CV.outnH
open Go Go.Av
attribute [local irreducible] T
attribute [local simp] eTy_def eTm_def

end Go.Proofs.YtjllgkglfabhaaaDoor

namespace Go.Proofs.YtjllgkglfabhaaaDoor
attribute [-simp] Go.Av.get_app_len Go.Av.get_app_len0 Go.Av.set_app_len Go.Av.set_app_len0 Go.Av.freeStep Go.Av.exV Go.Av.keepL Go.Av.ups Go.Av.take_app_len Go.Av.MCo.kind_mk Go.Av.MCo.tag_mk Go.Av.MCo.label_mk Go.Av.MCo.kids_mk Go.Av.innVs Go.Av.putBack Go.Av.objCells Go.Av.back Go.Av.resVs Go.Av.one Go.Av.freeStepG Go.Av.exA Go.Av.innAsH Go.Av.AV.innH Go.Av.CV.innH Go.Av.innHs Go.Av.AV.outnH Go.Av.CV.outnH
open Go Go.Av
attribute [local irreducible] T
attribute [local simp] eTy_def eTm_def

end Go.Proofs.YtjllgkglfabhaaaDoor
