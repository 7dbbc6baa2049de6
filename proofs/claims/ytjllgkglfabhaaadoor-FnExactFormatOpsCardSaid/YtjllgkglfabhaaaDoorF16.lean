/- A part of the library of this seat: a value-semantic program logic over the model, plain models, and walks of functions. -/
import Derived.Test.YtjllgkglfabhaaaDoorF15
import Derived.Test.YtjllgkglfabhaaaDoorRows
import Derived.Test.YtjllgkglfabhaaaDoorChecked
set_option linter.unusedVariables false
set_option linter.unusedSimpArgs false
namespace Go.Proofs.YtjllgkglfabhaaaDoor
attribute [-simp] Go.Av.freeStep Go.Av.exV Go.Av.keepL Go.Av.ups Go.Av.take_app_len Go.Av.MCo.kind_mk Go.Av.MCo.tag_mk Go.Av.MCo.label_mk Go.Av.MCo.kids_mk Go.Av.innVs Go.Av.putBack Go.Av.objCells Go.Av.back Go.Av.resVs Go.Av.one Go.Av.freeStepG Go.Av.exA Go.Av.innAsH Go.Av.AV.innH Go.Av.CV.innH Go.Av.innHs Go.Av.AV.outnH Go.Av.CV.outnH Go.Av.astepJ Go.Av.relC Go.Av.relL Go.Av.relV Go.Av.relVs
open Go Go.Av

theorem int_of {x : DV} (h : TyD Tryd.prog 3 x) : ∃ n, x = .i n ∧ -9223372036854775808 ≤ n ∧ n ≤ 9223372036854775807 := by
  have hu := Tryd.underlying3
  cases x with
  | int k n =>
    simp only [TyD] at h
    rw [hu] at h
    obtain ⟨e, hw⟩ := h
    simp at e; subst e
    refine ⟨n, rfl, ?_⟩
    simpa [Lit.wf, IntKind.min, IntKind.max, IntKind.signed, IntKind.bits] using hw
  | bool b => simp [TyD, hu] at h
  | str s => simp [TyD, hu] at h
  | sl rows => simp [TyD, hu] at h
  | raw v => simp [TyD] at h

theorem rows_map {α : Type} {f : α → List DV} {w : α → Prop} : ∀ {rows : List (List DV)}, (∀ r ∈ rows, ∃ a, r = f a ∧ w a) → ∃ l : List α, rows = l.map f ∧ ∀ a ∈ l, w a
  | [], _ => ⟨[], rfl, by simp⟩
  | r :: rs, h => by
    obtain ⟨a, ha, hw⟩ := h r (by simp)
    obtain ⟨l, hl, hws⟩ := rows_map (rows := rs) (fun x hx => h x (by simp [hx]))
    exact ⟨a :: l, by simp [ha, hl], by simpa using ⟨hw, hws⟩⟩

theorem own : ownKnob Tryd.prog.godebug = none := by kernel_rfl
theorem laidOut : laidOutB Tryd.prog = true := by kernel_rfl

end Go.Proofs.YtjllgkglfabhaaaDoor
