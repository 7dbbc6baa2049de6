/- A part of the library of this seat. -/
import Derived.Test.YtcgmmknfpfdghaaGreatDoorC18
import Derived.Test.YtcgmmknfpfdghaaGreatDoorRows
import Derived.Test.YtcgmmknfpfdghaaGreatDoorChecked
set_option linter.unusedVariables false
set_option linter.unusedSimpArgs false
namespace Go.Proofs.YtcgmmknfpfdghaaGreatDoor
attribute [-simp] Go.Av.freeStep Go.Av.exV Go.Av.keepL Go.Av.ups Go.Av.take_app_len Go.Av.MCo.kind_mk Go.Av.MCo.tag_mk Go.Av.MCo.label_mk Go.Av.MCo.kids_mk Go.Av.innVs Go.Av.putBack Go.Av.objCells Go.Av.back Go.Av.resVs Go.Av.one Go.Av.freeStepG Go.Av.exA Go.Av.innAsH Go.Av.AV.innH Go.Av.CV.innH Go.Av.innHs Go.Av.AV.outnH Go.Av.CV.outnH Go.Av.astepJ Go.Av.relC Go.Av.relL Go.Av.relV Go.Av.relVs Go.Av.callJ Go.Av.IT.kind_v Go.Av.IT.kind_b Go.Av.IT.kind_p Go.Av.IT.name_v Go.Av.IT.name_b Go.Av.IT.name_p Go.Av.IT.kids_v Go.Av.IT.kids_b Go.Av.IT.kids_p Go.Av.eIT_len
open Go Go.Av

theorem rows_map {α : Type} {f : α -> List DV} {w : α -> Prop} : ∀ {rows : List (List DV)}, (∀ r ∈ rows, ∃ a, r = f a /\ w a) -> ∃ l : List α, rows = l.map f /\ ∀ a ∈ l, w a
 | [], _ => ⟨[], rfl, by simp⟩
 | r :: rs, h => by
  obtain ⟨a, ha, hw⟩ := h r (by simp)
  obtain ⟨l, hl, hws⟩ := rows_map (rows := rs) (fun x hx => h x (by simp [hx]))
  exact ⟨a :: l, by simp [ha, hl], by simpa using ⟨hw, hws⟩⟩

theorem own : ownKnob Tryz.prog.godebug = none := by kernel_rfl
theorem laidOut : laidOutB Tryz.prog = true := by kernel_rfl

end Go.Proofs.YtcgmmknfpfdghaaGreatDoor

namespace Go.Proofs.YtcgmmknfpfdghaaGreatDoor
attribute [-simp] Go.Av.keepL Go.Av.ups Go.Av.take_app_len Go.Av.MCo.kind_mk Go.Av.MCo.tag_mk Go.Av.MCo.label_mk Go.Av.MCo.kids_mk Go.Av.innVs Go.Av.putBack Go.Av.objCells Go.Av.back Go.Av.resVs Go.Av.one Go.Av.freeStepG Go.Av.exA Go.Av.innAsH Go.Av.AV.innH Go.Av.CV.innH Go.Av.innHs Go.Av.AV.outnH Go.Av.CV.outnH Go.Av.astepJ Go.Av.relC Go.Av.relL Go.Av.relV Go.Av.relVs Go.Av.callJ Go.Av.IT.kind_v Go.Av.IT.kind_b Go.Av.IT.kind_p Go.Av.IT.name_v Go.Av.IT.name_b Go.Av.IT.name_p Go.Av.IT.kids_v Go.Av.IT.kids_b Go.Av.IT.kids_p Go.Av.eIT_len
open Go Go.Av

theorem u8_of {x : DV} (h : TyD Tryz.prog 5 x) : ∃ n, x = .int .u8 n /\ 0 <= n /\ n <= 255 := by
 have hu := Tryz.underlying5
 cases x with
 | int k n =>
  simp only [TyD] at h
  rw [hu] at h
  obtain ⟨e, hw⟩ := h
  simp at e; subst e
  refine ⟨n, rfl, ?_⟩
  simpa [Lit.wf, IntKind.min, IntKind.max, IntKind.signed, IntKind.bits] using hw
 | bool b => simp [TyD, hu] at h
 | str s => simp [TyD, hu] at h
 | sl rows => simp [TyD, hu] at h
 | raw v => simp [TyD] at h

theorem bytes_of_val {x : AV} (h : TyV Tryz.prog 22 x) : ∃ b : List Int, x = .l (rB b) /\ ∀ n ∈ b, 0 <= n /\ n <= 255 := by
 have hu := Tryz.underlying22
 cases x with
 | c c =>
  cases c with
  | d d =>
   obtain ⟨_, h⟩ := h
   cases d with
   | sl rows =>
    simp only [TyD] at h
    obtain ⟨e, ls, h1, h2, h3, h4⟩ := h
    rw [hu] at h1
    simp at h1; subst h1
    have hl : leafs Tryz.prog 5 = some [5] := by kernel_rfl
    rw [hl] at h2
    simp at h2; subst h2
    have hr : ∀ r ∈ rows, ∃ n : Int, r = (fun n => [DV.int .u8 n]) n /\ (0 <= n /\ n <= 255) := fun r hr => by
     have ht := h4.at_ r hr
     match r, ht, ht.len with
     | [a], ht, _ =>
      obtain ⟨n, rfl, hn⟩ := u8_of ht.1
      exact ⟨n, rfl, hn⟩
    obtain ⟨l, rfl, hw⟩ := rows_map hr
    exact ⟨l, rfl, hw⟩
   | int k n => simp [TyD, hu] at h
   | bool b => simp [TyD, hu] at h
   | str s => simp [TyD, hu] at h
   | raw v => simp [TyD] at h
  | _ => exact h.elim
 | agg xs => simp [TyV, hu, agD] at h
 | tup xs => exact h.elim
end Go.Proofs.YtcgmmknfpfdghaaGreatDoor
