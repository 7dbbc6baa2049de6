/- A part of the library of this seat. -/
import Derived.Test.YtcgmmknfpfdghaaDoorA22
import Derived.Lay
set_option linter.unusedVariables false
set_option linter.unusedSimpArgs false
namespace Go.Proofs.YtcgmmknfpfdghaaDoor
attribute [-simp] Go.Av.freeStep Go.Av.exV Go.Av.keepL Go.Av.ups Go.Av.take_app_len Go.Av.MCo.kind_mk Go.Av.MCo.tag_mk Go.Av.MCo.label_mk Go.Av.MCo.kids_mk Go.Av.innVs Go.Av.putBack Go.Av.objCells Go.Av.back Go.Av.resVs Go.Av.one Go.Av.freeStepG Go.Av.exA Go.Av.innAsH Go.Av.AV.innH Go.Av.CV.innH Go.Av.innHs Go.Av.AV.outnH Go.Av.CV.outnH Go.Av.astepJ Go.Av.relC Go.Av.relL Go.Av.relV Go.Av.relVs Go.Av.callJ Go.Av.IT.kind_v Go.Av.IT.kind_b Go.Av.IT.kind_p Go.Av.IT.name_v Go.Av.IT.name_b Go.Av.IT.name_p Go.Av.IT.kids_v Go.Av.IT.kids_b Go.Av.IT.kids_p Go.Av.eIT_len
open Go Go.Av

theorem str_of_val {x : AV} (h : TyV Tryd.prog 9 x) : ∃ s, x = .s s /\ True := by
 have hu := Tryd.underlying9
 cases x with
 | c c =>
  cases c with
  | d d =>
   obtain ⟨_, h⟩ := h
   cases d with
   | str s => exact ⟨s, rfl, trivial⟩
   | int k n => simp [TyD, hu] at h
   | bool b => simp [TyD, hu] at h
   | sl rows => simp [TyD, hu] at h
   | raw v => simp [TyD] at h
  | _ => exact h.elim
 | agg xs => simp [TyV, hu, agD] at h
 | tup xs => exact h.elim

end Go.Proofs.YtcgmmknfpfdghaaDoor
