/- A part of the library of this seat: a value-semantic program logic over the model, plain models, and walks of functions. -/
import Derived.Test.YtjllgkglfabhaaaDoorF5
set_option linter.unusedVariables false
set_option linter.unusedSimpArgs false
namespace Go.Proofs.YtjllgkglfabhaaaDoor
attribute [-simp] Go.Av.freeStep Go.Av.exV Go.Av.keepL Go.Av.ups Go.Av.take_app_len Go.Av.MCo.kind_mk Go.Av.MCo.tag_mk Go.Av.MCo.label_mk Go.Av.MCo.kids_mk Go.Av.innVs Go.Av.putBack Go.Av.objCells Go.Av.back Go.Av.resVs Go.Av.one Go.Av.freeStepG Go.Av.exA Go.Av.innAsH Go.Av.AV.innH Go.Av.CV.innH Go.Av.innHs Go.Av.AV.outnH Go.Av.CV.outnH
open Go Go.Av
attribute [local irreducible] T
attribute [local simp] eTy_def eTm_def

theorem inM_ok (x lo hi : Int) : ACalls Tryd.prog 104 [.i x, .i lo, .i hi] [] (.b (inM x lo hi)) [] [] := by
  refine ACalls.of_body Tryd.func104 (by kernel_rfl) rfl (by kernel_rfl) (by simp [Tryd.ntmps104]) (by simp) ?_
  rw [Tryd.ntmps104]
  repeat' first | (refine aops_end (hK _ ?_); clear hK K) | (refine aops_go ?_; simp; (try (refine gen fun q hq => ?_; cases q <;> (try simp at hq)))) | refine T.r0 fun K hK => ?_ | refine T.r1 fun K hK => ?_ | refine T.cond rfl (fun hc => ?_) (fun hc => absurd hc (by decide)) | refine T.cond rfl (fun hc => absurd hc (by decide)) (fun hc => ?_) | refine T.seq ?_ | refine T.block ?_ | refine T.skip ?_ | refine T.exit ?_
  all_goals (refine T.ret (Done.data (Or.inr rfl) ?_ ?_) <;> simp [Tryd.results104, inM, *] <;> omega)

@[simp] theorem td_intS : td Tryd.prog 98 = some { ag := false, sz := 1, by_ := 24, zero := some [.nil], el := some 3, ar := none, fl := [], ik := none, isS := false, isB := false } := keep (by kernel_rfl)

end Go.Proofs.YtjllgkglfabhaaaDoor

namespace Go.Proofs.YtjllgkglfabhaaaDoor
attribute [-simp] Go.Av.freeStep Go.Av.exV Go.Av.keepL Go.Av.ups Go.Av.take_app_len Go.Av.MCo.kind_mk Go.Av.MCo.tag_mk Go.Av.MCo.label_mk Go.Av.MCo.kids_mk Go.Av.innVs Go.Av.putBack Go.Av.objCells Go.Av.back Go.Av.resVs Go.Av.one Go.Av.freeStepG Go.Av.exA Go.Av.innAsH Go.Av.AV.innH Go.Av.CV.innH Go.Av.innHs Go.Av.AV.outnH Go.Av.CV.outnH
open Go Go.Av
attribute [local irreducible] T ACalls eTy eTm MTy.kind MTy.kids MTm.kind MTm.name MTm.num MTm.ty MTm.fr MTm.label MTm.kids
attribute [local simp] eTy_def eTm_def
set_option maxHeartbeats 4000000

end Go.Proofs.YtjllgkglfabhaaaDoor

namespace Go.Proofs.YtjllgkglfabhaaaDoor
attribute [-simp] Go.Av.freeStep Go.Av.exV Go.Av.keepL Go.Av.ups Go.Av.take_app_len Go.Av.MCo.kind_mk Go.Av.MCo.tag_mk Go.Av.MCo.label_mk Go.Av.MCo.kids_mk Go.Av.innVs Go.Av.putBack Go.Av.objCells Go.Av.back Go.Av.resVs Go.Av.one Go.Av.freeStepG Go.Av.exA Go.Av.innAsH Go.Av.AV.innH Go.Av.CV.innH Go.Av.innHs Go.Av.AV.outnH Go.Av.CV.outnH
open Go Go.Av
attribute [local irreducible] T ACalls eTy eTm MTy.kind MTy.kids MTm.kind MTm.name MTm.num MTm.ty MTm.fr MTm.label MTm.kids
attribute [local simp] eTy_def eTm_def
set_option maxHeartbeats 4000000

end Go.Proofs.YtjllgkglfabhaaaDoor

namespace Go.Proofs.YtjllgkglfabhaaaDoor
attribute [-simp] Go.Av.freeStep Go.Av.exV Go.Av.keepL Go.Av.ups Go.Av.take_app_len Go.Av.MCo.kind_mk Go.Av.MCo.tag_mk Go.Av.MCo.label_mk Go.Av.MCo.kids_mk Go.Av.innVs Go.Av.putBack Go.Av.objCells Go.Av.back Go.Av.resVs Go.Av.one Go.Av.freeStepG Go.Av.exA Go.Av.innAsH Go.Av.AV.innH Go.Av.CV.innH Go.Av.innHs Go.Av.AV.outnH Go.Av.CV.outnH
open Go Go.Av
attribute [local irreducible] T ACalls eTy eTm MTy.kind MTy.kids MTm.kind MTm.name MTm.num MTm.ty MTm.fr MTm.label MTm.kids
attribute [local simp] eTy_def eTm_def
set_option maxHeartbeats 4000000

end Go.Proofs.YtjllgkglfabhaaaDoor

namespace Go.Proofs.YtjllgkglfabhaaaDoor
attribute [-simp] Go.Av.freeStep Go.Av.exV Go.Av.keepL Go.Av.ups Go.Av.take_app_len Go.Av.MCo.kind_mk Go.Av.MCo.tag_mk Go.Av.MCo.label_mk Go.Av.MCo.kids_mk Go.Av.innVs Go.Av.putBack Go.Av.objCells Go.Av.back Go.Av.resVs Go.Av.one Go.Av.freeStepG Go.Av.exA Go.Av.innAsH Go.Av.AV.innH Go.Av.CV.innH Go.Av.innHs Go.Av.AV.outnH Go.Av.CV.outnH
open Go Go.Av
attribute [local irreducible] T ACalls eTy eTm MTy.kind MTy.kids MTm.kind MTm.name MTm.num MTm.ty MTm.fr MTm.label MTm.kids
attribute [local simp] eTy_def eTm_def
set_option maxHeartbeats 4000000

end Go.Proofs.YtjllgkglfabhaaaDoor

namespace Go.Proofs.YtjllgkglfabhaaaDoor
attribute [-simp] Go.Av.freeStep Go.Av.exV Go.Av.keepL Go.Av.ups Go.Av.take_app_len Go.Av.MCo.kind_mk Go.Av.MCo.tag_mk Go.Av.MCo.label_mk Go.Av.MCo.kids_mk Go.Av.innVs Go.Av.putBack Go.Av.objCells Go.Av.back Go.Av.resVs Go.Av.one Go.Av.freeStepG Go.Av.exA Go.Av.innAsH Go.Av.AV.innH Go.Av.CV.innH Go.Av.innHs Go.Av.AV.outnH Go.Av.CV.outnH
open Go Go.Av
attribute [local irreducible] T ACalls eTy eTm MTy.kind MTy.kids MTm.kind MTm.name MTm.num MTm.ty MTm.fr MTm.label MTm.kids
attribute [local simp] eTy_def eTm_def
set_option maxHeartbeats 4000000

end Go.Proofs.YtjllgkglfabhaaaDoor

namespace Go.Proofs.YtjllgkglfabhaaaDoor
attribute [-simp] Go.Av.freeStep Go.Av.exV Go.Av.keepL Go.Av.ups Go.Av.take_app_len Go.Av.MCo.kind_mk Go.Av.MCo.tag_mk Go.Av.MCo.label_mk Go.Av.MCo.kids_mk Go.Av.innVs Go.Av.putBack Go.Av.objCells Go.Av.back Go.Av.resVs Go.Av.one Go.Av.freeStepG Go.Av.exA Go.Av.innAsH Go.Av.AV.innH Go.Av.CV.innH Go.Av.innHs Go.Av.AV.outnH Go.Av.CV.outnH
open Go Go.Av
attribute [local irreducible] T ACalls eTy eTm MTy.kind MTy.kids MTm.kind MTm.name MTm.num MTm.ty MTm.fr MTm.label MTm.kids
attribute [local simp] eTy_def eTm_def
set_option maxHeartbeats 4000000

end Go.Proofs.YtjllgkglfabhaaaDoor

namespace Go.Proofs.YtjllgkglfabhaaaDoor
attribute [-simp] Go.Av.keepL Go.Av.ups Go.Av.take_app_len Go.Av.MCo.kind_mk Go.Av.MCo.tag_mk Go.Av.MCo.label_mk Go.Av.MCo.kids_mk Go.Av.innVs Go.Av.putBack Go.Av.objCells Go.Av.back Go.Av.resVs Go.Av.one Go.Av.freeStepG Go.Av.exA Go.Av.innAsH Go.Av.AV.innH Go.Av.CV.innH Go.Av.innHs Go.Av.AV.outnH Go.Av.CV.outnH
open Go Go.Av
attribute [local irreducible] T ACalls eTy eTm MTy.kind MTy.kids MTm.kind MTm.name MTm.num MTm.ty MTm.fr MTm.label MTm.kids
attribute [local simp] eTy_def eTm_def
set_option maxHeartbeats 4000000
attribute [local simp] Option.bind

end Go.Proofs.YtjllgkglfabhaaaDoor

namespace Go.Proofs.YtjllgkglfabhaaaDoor
attribute [-simp] Go.Av.keepL Go.Av.ups Go.Av.take_app_len Go.Av.MCo.kind_mk Go.Av.MCo.tag_mk Go.Av.MCo.label_mk Go.Av.MCo.kids_mk Go.Av.innVs Go.Av.putBack Go.Av.objCells Go.Av.back Go.Av.resVs Go.Av.one Go.Av.freeStepG Go.Av.exA Go.Av.innAsH Go.Av.AV.innH Go.Av.CV.innH Go.Av.innHs Go.Av.AV.outnH Go.Av.CV.outnH
open Go Go.Av
attribute [local irreducible] T ACalls eTy eTm MTy.kind MTy.kids MTm.kind MTm.name MTm.num MTm.ty MTm.fr MTm.label MTm.kids
attribute [local simp] eTy_def eTm_def
set_option maxHeartbeats 4000000

end Go.Proofs.YtjllgkglfabhaaaDoor

namespace Go.Proofs.YtjllgkglfabhaaaDoor
attribute [-simp] Go.Av.keepL Go.Av.ups Go.Av.take_app_len Go.Av.MCo.kind_mk Go.Av.MCo.tag_mk Go.Av.MCo.label_mk Go.Av.MCo.kids_mk Go.Av.innVs Go.Av.putBack Go.Av.objCells Go.Av.back Go.Av.resVs Go.Av.one Go.Av.freeStepG Go.Av.exA Go.Av.innAsH Go.Av.AV.innH Go.Av.CV.innH Go.Av.innHs Go.Av.AV.outnH Go.Av.CV.outnH
open Go Go.Av
attribute [local irreducible] T ACalls eTy eTm MTy.kind MTy.kids MTm.kind MTm.name MTm.num MTm.ty MTm.fr MTm.label MTm.kids
attribute [local simp] eTy_def eTm_def
set_option maxHeartbeats 4000000

end Go.Proofs.YtjllgkglfabhaaaDoor

namespace Go.Proofs.YtjllgkglfabhaaaDoor
attribute [-simp] Go.Av.keepL Go.Av.ups Go.Av.take_app_len Go.Av.MCo.kind_mk Go.Av.MCo.tag_mk Go.Av.MCo.label_mk Go.Av.MCo.kids_mk Go.Av.innVs Go.Av.putBack Go.Av.objCells Go.Av.back Go.Av.resVs Go.Av.one Go.Av.freeStepG Go.Av.exA Go.Av.innAsH Go.Av.AV.innH Go.Av.CV.innH Go.Av.innHs Go.Av.AV.outnH Go.Av.CV.outnH
open Go Go.Av
attribute [local irreducible] T ACalls eTy eTm MTy.kind MTy.kids MTm.kind MTm.name MTm.num MTm.ty MTm.fr MTm.label MTm.kids
attribute [local simp] eTy_def eTm_def
set_option maxHeartbeats 4000000

/-- The type of a term in a context, as_ TypeIn answers it. -/
def typeInM (ctx : List MBd) (e : MTm) : Option MTy := if ctxM ctx = true ∧ termValidM e = true then typeM ctx e else none

abbrev tyRes : Option MTy → List AV
  | some t => [aTy t, .b true]
  | none => [aTy zeroT, .b false]

end Go.Proofs.YtjllgkglfabhaaaDoor
