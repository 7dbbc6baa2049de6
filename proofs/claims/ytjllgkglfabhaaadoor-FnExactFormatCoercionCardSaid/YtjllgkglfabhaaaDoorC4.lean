/- A part of the library of this seat: a value-semantic program logic over the model, plain models, and walks of functions. -/
import Derived.Test.YtjllgkglfabhaaaDoorC3
import Derived.Test.YtjllgkglfabhaaaDoorChecked
set_option linter.unusedVariables false
set_option linter.unusedSimpArgs false
namespace Go.Proofs.YtjllgkglfabhaaaDoor
attribute [-simp] Go.Av.get_app_len Go.Av.get_app_len0 Go.Av.set_app_len Go.Av.set_app_len0 Go.Av.freeStep Go.Av.exV Go.Av.keepL Go.Av.ups Go.Av.take_app_len Go.Av.MCo.kind_mk Go.Av.MCo.tag_mk Go.Av.MCo.label_mk Go.Av.MCo.kids_mk Go.Av.innVs Go.Av.putBack Go.Av.objCells Go.Av.back Go.Av.resVs Go.Av.one Go.Av.freeStepG Go.Av.exA Go.Av.innAsH Go.Av.AV.innH Go.Av.CV.innH Go.Av.innHs Go.Av.AV.outnH Go.Av.CV.outnH
open Go Go.Av
attribute [local irreducible] T
attribute [local simp] eTy_def eTm_def

@[simp] theorem td_int : td Tryd.prog 3 = some { ag := false, sz := 1, by_ := 8, zero := some [.d (.int .i64 0)], el := none, ar := none, fl := [], ik := some .i64, isS := false, isB := false } := keep (by kernel_rfl)
@[simp] theorem td_bool : td Tryd.prog 4 = some { ag := false, sz := 1, by_ := 1, zero := some [.d (.bool false)], el := none, ar := none, fl := [], ik := none, isS := false, isB := true } := keep (by kernel_rfl)
@[simp] theorem td_string : td Tryd.prog 9 = some { ag := false, sz := 1, by_ := 16, zero := some [.d (.str [])], el := none, ar := none, fl := [], ik := none, isS := true, isB := false } := keep (by kernel_rfl)
@[simp] theorem td_lawsTypeS : td Tryd.prog 34 = some { ag := false, sz := 1, by_ := 24, zero := some [.nil], el := some 36, ar := none, fl := [], ik := none, isS := false, isB := false } := keep (by kernel_rfl)
@[simp] theorem td_lawsType : td Tryd.prog 36 = some { ag := true, sz := 2, by_ := 32, zero := some [.d (.int .i64 0), .nil], el := none, ar := none, fl := [(0, 1), (1, 1)], ik := none, isS := false, isB := false } := keep (by kernel_rfl)
@[simp] theorem td_lawsTermS : td Tryd.prog 37 = some { ag := false, sz := 1, by_ := 24, zero := some [.nil], el := some 39, ar := none, fl := [], ik := none, isS := false, isB := false } := keep (by kernel_rfl)
@[simp] theorem td_lawsTerm : td Tryd.prog 39 = some { ag := true, sz := 9, by_ := 128, zero := some [.d (.int .i64 0), .d (.str []), .d (.int .i64 0), .d (.int .i64 0), .nil, .d (.int .i64 0), .nil, .d (.int .i64 0), .nil], el := none, ar := none, fl := [(0, 1), (1, 1), (2, 1), (3, 2), (5, 2), (7, 1), (8, 1)], ik := none, isS := false, isB := false } := keep (by kernel_rfl)
@[simp] theorem td_implTypeS : td Tryd.prog 23 = some { ag := false, sz := 1, by_ := 24, zero := some [.nil], el := some 25, ar := none, fl := [], ik := none, isS := false, isB := false } := keep (by kernel_rfl)
@[simp] theorem td_implType : td Tryd.prog 25 = some { ag := true, sz := 2, by_ := 32, zero := some [.d (.int .i64 0), .nil], el := none, ar := none, fl := [(0, 1), (1, 1)], ik := none, isS := false, isB := false } := keep (by kernel_rfl)
@[simp] theorem td_implTermS : td Tryd.prog 26 = some { ag := false, sz := 1, by_ := 24, zero := some [.nil], el := some 28, ar := none, fl := [], ik := none, isS := false, isB := false } := keep (by kernel_rfl)
@[simp] theorem td_implTerm : td Tryd.prog 28 = some { ag := true, sz := 9, by_ := 128, zero := some [.d (.int .i64 0), .d (.str []), .d (.int .i64 0), .d (.int .i64 0), .nil, .d (.int .i64 0), .nil, .d (.int .i64 0), .nil], el := none, ar := none, fl := [(0, 1), (1, 1), (2, 1), (3, 2), (5, 2), (7, 1), (8, 1)], ik := none, isS := false, isB := false } := keep (by kernel_rfl)
theorem mixed : Tryd.prog.follows .mixedOrders = true := by kernel_rfl

end Go.Proofs.YtjllgkglfabhaaaDoor

namespace Go.Proofs.YtjllgkglfabhaaaDoor
attribute [-simp] Go.Av.get_app_len Go.Av.get_app_len0 Go.Av.set_app_len Go.Av.set_app_len0 Go.Av.freeStep Go.Av.exV Go.Av.keepL Go.Av.ups Go.Av.take_app_len Go.Av.MCo.kind_mk Go.Av.MCo.tag_mk Go.Av.MCo.label_mk Go.Av.MCo.kids_mk Go.Av.innVs Go.Av.putBack Go.Av.objCells Go.Av.back Go.Av.resVs Go.Av.one Go.Av.freeStepG Go.Av.exA Go.Av.innAsH Go.Av.AV.innH Go.Av.CV.innH Go.Av.innHs Go.Av.AV.outnH Go.Av.CV.outnH
open Go Go.Av
attribute [local irreducible] T
attribute [local simp] eTy_def eTm_def

end Go.Proofs.YtjllgkglfabhaaaDoor

namespace Go.Proofs.YtjllgkglfabhaaaDoor
attribute [-simp] Go.Av.get_app_len Go.Av.get_app_len0 Go.Av.set_app_len Go.Av.set_app_len0 Go.Av.freeStep Go.Av.exV Go.Av.keepL Go.Av.ups Go.Av.take_app_len Go.Av.MCo.kind_mk Go.Av.MCo.tag_mk Go.Av.MCo.label_mk Go.Av.MCo.kids_mk Go.Av.innVs Go.Av.putBack Go.Av.objCells Go.Av.back Go.Av.resVs Go.Av.one Go.Av.freeStepG Go.Av.exA Go.Av.innAsH Go.Av.AV.innH Go.Av.CV.innH Go.Av.innHs Go.Av.AV.outnH Go.Av.CV.outnH
open Go Go.Av
attribute [local irreducible] T
attribute [local simp] eTy_def eTm_def

end Go.Proofs.YtjllgkglfabhaaaDoor

namespace Go.Proofs.YtjllgkglfabhaaaDoor
attribute [-simp] Go.Av.freeStep Go.Av.exV Go.Av.keepL Go.Av.ups Go.Av.take_app_len Go.Av.MCo.kind_mk Go.Av.MCo.tag_mk Go.Av.MCo.label_mk Go.Av.MCo.kids_mk Go.Av.innVs Go.Av.putBack Go.Av.objCells Go.Av.back Go.Av.resVs Go.Av.one Go.Av.freeStepG Go.Av.exA Go.Av.innAsH Go.Av.AV.innH Go.Av.CV.innH Go.Av.innHs Go.Av.AV.outnH Go.Av.CV.outnH
open Go Go.Av
attribute [local irreducible] T
attribute [local simp] eTy_def eTm_def

theorem inM_ok (x lo hi : Int) : ACalls Tryd.prog 104 [.i x, .i lo, .i hi] [] (.b (inM x lo hi)) [] [] := by
  refine ACalls.of_body Tryd.func104 (by kernel_rfl) rfl (by kernel_rfl) (by simp [Tryd.ntmps104]) (by simp) ?_
  rw [Tryd.ntmps104]
  repeat' first | (refine aops_end (hK _ ?_); clear hK K) | (refine aops_go ?_; simp; (try (refine gen fun q hq => ?_; cases q <;> (try simp at hq)))) | refine T.r0 fun K hK => ?_ | refine T.r1 fun K hK => ?_ | refine T.cond rfl (fun hc => ?_) (fun hc => absurd hc (by decide)) | refine T.cond rfl (fun hc => absurd hc (by decide)) (fun hc => ?_) | refine T.seq ?_ | refine T.block ?_ | refine T.skip ?_ | refine T.exit ?_
  all_goals (refine T.ret (Done.data (Or.inr rfl) ?_ ?_) <;> simp [Tryd.results104, inM, *] <;> omega)

theorem isLabel_ok (n : Int) : ACalls Tryd.prog 136 [.i n] [] (.b (labM n)) [] [] := by
  refine ACalls.of_body Tryd.func136 (by kernel_rfl) rfl (by kernel_rfl) (by simp [Tryd.ntmps136]) (by simp) ?_
  rw [Tryd.ntmps136]
  repeat' first | (refine T.rs (fun _ => false) fun K hK => ?_; (repeat (refine aops_go ?_; simp)); refine aops_end (hK _ ?_); clear hK K) | (refine T.rs1 (fun _ => false) fun K hK => ?_; (repeat (refine aops_go ?_; simp)); refine aops_end (hK _ ?_); clear hK K) | refine T.cond rfl (fun hc => ?_) (fun hc => absurd hc (by decide)) | refine T.cond rfl (fun hc => absurd hc (by decide)) (fun hc => ?_) | refine T.seq ?_ | refine T.block ?_ | refine T.skip ?_ | refine T.exit ?_
  refine T.rs1 (fun _ => false) fun K hK => ?_
  repeat (refine aops_go ?_; simp)
  refine wpcall_pure (by simp) (inM_ok n 1 99) ?_
  simp
  refine Ops.gen fun q hq => ?_
  cases q
  · repeat (refine aops_go ?_; simp)
    refine wpcall_pure (by simp) (inM_ok n (-99) (-1)) ?_
    simp
    repeat' first | (refine aops_end (hK _ ?_); clear hK K) | (refine aops_go ?_; simp; (try (refine gen fun q hq => ?_; cases q <;> (try simp at hq)))) | refine T.r0 fun K hK => ?_ | refine T.r1 fun K hK => ?_ | refine T.cond rfl (fun hc => ?_) (fun hc => absurd hc (by decide)) | refine T.cond rfl (fun hc => absurd hc (by decide)) (fun hc => ?_) | refine T.seq ?_ | refine T.block ?_ | refine T.skip ?_ | refine T.exit ?_
    all_goals (refine T.ret (Done.data (Or.inr rfl) ?_ ?_) <;> simp [Tryd.results136, labM, *])
  · repeat' first | (refine aops_end (hK _ ?_); clear hK K) | (refine aops_go ?_; simp; (try (refine gen fun q hq => ?_; cases q <;> (try simp at hq)))) | refine T.r0 fun K hK => ?_ | refine T.r1 fun K hK => ?_ | refine T.cond rfl (fun hc => ?_) (fun hc => absurd hc (by decide)) | refine T.cond rfl (fun hc => absurd hc (by decide)) (fun hc => ?_) | refine T.seq ?_ | refine T.block ?_ | refine T.skip ?_ | refine T.exit ?_
    all_goals (refine T.ret (Done.data (Or.inr rfl) ?_ ?_) <;> simp [Tryd.results136, labM, *])

@[simp] theorem td_intS : td Tryd.prog 98 = some { ag := false, sz := 1, by_ := 24, zero := some [.nil], el := some 3, ar := none, fl := [], ik := none, isS := false, isB := false } := keep (by kernel_rfl)

end Go.Proofs.YtjllgkglfabhaaaDoor

namespace Go.Proofs.YtjllgkglfabhaaaDoor
attribute [-simp] Go.Av.freeStep Go.Av.exV Go.Av.keepL Go.Av.ups Go.Av.take_app_len Go.Av.MCo.kind_mk Go.Av.MCo.tag_mk Go.Av.MCo.label_mk Go.Av.MCo.kids_mk Go.Av.innVs Go.Av.putBack Go.Av.objCells Go.Av.back Go.Av.resVs Go.Av.one Go.Av.freeStepG Go.Av.exA Go.Av.innAsH Go.Av.AV.innH Go.Av.CV.innH Go.Av.innHs Go.Av.AV.outnH Go.Av.CV.outnH
open Go Go.Av
attribute [local irreducible] T ACalls eTy eTm MTy.kind MTy.kids MTm.kind MTm.name MTm.num MTm.ty MTm.fr MTm.label MTm.kids
attribute [local simp] eTy_def eTm_def
set_option maxHeartbeats 4000000

end Go.Proofs.YtjllgkglfabhaaaDoor

namespace Go.Proofs.YtjllgkglfabhaaaDoor
attribute [-simp] Go.Av.freeStep Go.Av.exV Go.Av.keepL Go.Av.ups Go.Av.take_app_len Go.Av.MCo.kind_mk Go.Av.MCo.tag_mk Go.Av.MCo.label_mk Go.Av.MCo.kids_mk Go.Av.innVs Go.Av.putBack Go.Av.objCells Go.Av.back Go.Av.resVs Go.Av.one Go.Av.freeStepG Go.Av.exA Go.Av.innAsH Go.Av.AV.innH Go.Av.CV.innH Go.Av.innHs Go.Av.AV.outnH Go.Av.CV.outnH
open Go Go.Av
attribute [local irreducible] T ACalls eTy eTm MTy.kind MTy.kids MTm.kind MTm.name MTm.num MTm.ty MTm.fr MTm.label MTm.kids
attribute [local simp] eTy_def eTm_def
set_option maxHeartbeats 4000000

end Go.Proofs.YtjllgkglfabhaaaDoor

namespace Go.Proofs.YtjllgkglfabhaaaDoor
attribute [-simp] Go.Av.freeStep Go.Av.exV Go.Av.keepL Go.Av.ups Go.Av.take_app_len Go.Av.MCo.kind_mk Go.Av.MCo.tag_mk Go.Av.MCo.label_mk Go.Av.MCo.kids_mk Go.Av.innVs Go.Av.putBack Go.Av.objCells Go.Av.back Go.Av.resVs Go.Av.one Go.Av.freeStepG Go.Av.exA Go.Av.innAsH Go.Av.AV.innH Go.Av.CV.innH Go.Av.innHs Go.Av.AV.outnH Go.Av.CV.outnH
open Go Go.Av
attribute [local irreducible] T ACalls eTy eTm MTy.kind MTy.kids MTm.kind MTm.name MTm.num MTm.ty MTm.fr MTm.label MTm.kids
attribute [local simp] eTy_def eTm_def
set_option maxHeartbeats 4000000

end Go.Proofs.YtjllgkglfabhaaaDoor

namespace Go.Proofs.YtjllgkglfabhaaaDoor
attribute [-simp] Go.Av.freeStep Go.Av.exV Go.Av.keepL Go.Av.ups Go.Av.take_app_len Go.Av.MCo.kind_mk Go.Av.MCo.tag_mk Go.Av.MCo.label_mk Go.Av.MCo.kids_mk Go.Av.innVs Go.Av.putBack Go.Av.objCells Go.Av.back Go.Av.resVs Go.Av.one Go.Av.freeStepG Go.Av.exA Go.Av.innAsH Go.Av.AV.innH Go.Av.CV.innH Go.Av.innHs Go.Av.AV.outnH Go.Av.CV.outnH
open Go Go.Av
attribute [local irreducible] T ACalls eTy eTm MTy.kind MTy.kids MTm.kind MTm.name MTm.num MTm.ty MTm.fr MTm.label MTm.kids
attribute [local simp] eTy_def eTm_def
set_option maxHeartbeats 4000000

end Go.Proofs.YtjllgkglfabhaaaDoor

namespace Go.Proofs.YtjllgkglfabhaaaDoor
attribute [-simp] Go.Av.freeStep Go.Av.exV Go.Av.keepL Go.Av.ups Go.Av.take_app_len Go.Av.MCo.kind_mk Go.Av.MCo.tag_mk Go.Av.MCo.label_mk Go.Av.MCo.kids_mk Go.Av.innVs Go.Av.putBack Go.Av.objCells Go.Av.back Go.Av.resVs Go.Av.one Go.Av.freeStepG Go.Av.exA Go.Av.innAsH Go.Av.AV.innH Go.Av.CV.innH Go.Av.innHs Go.Av.AV.outnH Go.Av.CV.outnH
open Go Go.Av
attribute [local irreducible] T ACalls eTy eTm MTy.kind MTy.kids MTm.kind MTm.name MTm.num MTm.ty MTm.fr MTm.label MTm.kids
attribute [local simp] eTy_def eTm_def
set_option maxHeartbeats 4000000

theorem l1Abs_ok (k : Int) : ACalls Tryd.prog 154 [.i k] [] (.i (if k < -99 ∨ 99 < k then 0 else if k < 0 then -k else k)) [] [] := by
  refine ACalls.of_body Tryd.func154 (by kernel_rfl) rfl (by kernel_rfl) (by simp [Tryd.ntmps154]) (by simp) ?_
  rw [Tryd.ntmps154]
  repeat' first | ((first | refine aops_end (hK _ ?_) | refine aopsD_end (hK _ ?_)); clear hK K) | ((first | refine aops_go ?_ | refine aopsD_go ?_); simp; (try simp (disch := omega) only [wrap64]); (try (refine gen fun q hq => ?_; cases q <;> (try simp at hq) <;> (try (have hh : True := hq; clear hh hq))))) | (refine T.ret (Done.data (Or.inr rfl) ?_ ?_) <;> simp [Tryd.results154, *] <;> omega) | refine T.r0 fun K hK => ?_ | refine T.r1 fun K hK => ?_ | refine T.rd mixed (fun _ => false) [] (by kernel_rfl) fun K hK => ?_ | refine T.rd1 mixed (fun _ => false) [] (by kernel_rfl) fun K hK => ?_ | refine T.ct rfl ?_ | refine T.cf rfl ?_ | refine T.seq ?_ | refine T.block ?_ | refine T.skip ?_ | refine T.exit ?_

end Go.Proofs.YtjllgkglfabhaaaDoor
