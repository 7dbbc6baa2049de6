/- A part of the library of this seat: a value-semantic program logic over the model, plain models, and walks of functions. -/
import Derived.Test.YtfdknjjnifnobaaGreatG14
set_option linter.unusedVariables false
set_option linter.unusedSimpArgs false
namespace Go.Proofs.YtfdknjjnifnobaaGreat
attribute [-simp] Go.Av.innAsH Go.Av.AV.innH Go.Av.CV.innH Go.Av.innHs Go.Av.AV.outnH Go.Av.CV.outnH
open Go Go.Av
attribute [local irreducible] T ACalls TX EX LX Draws Some_ ACallsX eTy eTm MTy.kind MTy.kids MTm.kind MTm.name MTm.num MTm.ty MTm.fr MTm.label MTm.kids
attribute [local simp] eTy_def eTm_def
set_option maxHeartbeats 16000000
set_option maxRecDepth 8000

end Go.Proofs.YtfdknjjnifnobaaGreat

namespace Go.Proofs.YtfdknjjnifnobaaGreat
open Go Go.Av
attribute [local irreducible] T ACalls TX EX LX Draws Some_ ACallsX eTy eTm MTy.kind MTy.kids MTm.kind MTm.name MTm.num MTm.ty MTm.fr MTm.label MTm.kids
attribute [local simp] eTy_def eTm_def
set_option maxHeartbeats 16000000
set_option maxRecDepth 8000

theorem gradual_of {a b : MTm} {t : MTy} (ht : typeInM [] a = some t) (ha : termValidM a = true) (hb : termValidM b = true) (h : alikeM precTy a b = true) : ∃ u, typeInM [] b = some u ∧ precTy t u = true ∧ shapeTy 4 t = true ∧ shapeTy 4 u = true := by
  obtain ⟨_, _, h3, h4, h5⟩ := typeIn_some ht
  have va := termValid_parts ha
  have vb := termValid_parts hb
  obtain ⟨u, h6, h7⟩ := typeM_gradual (AlV.of va vb h) va vb h4 h4 trivial h3
  have h8 : typeInM [] b = some u := by rw [typeIn_of rfl hb]; exact h6
  obtain ⟨_, _, _, _, h9⟩ := typeIn_some h8
  exact ⟨u, h8, h7, h5.shape, h9.shape⟩

end Go.Proofs.YtfdknjjnifnobaaGreat
