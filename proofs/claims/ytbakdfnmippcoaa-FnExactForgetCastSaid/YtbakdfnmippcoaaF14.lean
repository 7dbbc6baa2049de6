/- A part of the library of this seat: a value-semantic program logic over the model, plain models, and walks of functions. -/
import Derived.Test.YtbakdfnmippcoaaF13
set_option linter.unusedVariables false
set_option linter.unusedSimpArgs false
namespace Go.Proofs.Ytbakdfnmippcoaa
attribute [-simp] Go.Av.astepJ Go.Av.relC Go.Av.relL Go.Av.relV Go.Av.relVs Go.Av.callJ
open Go Go.Av
attribute [local irreducible] T ACalls TX EX LX Draws Some_ ACallsX eTy eTm MTy.kind MTy.kids MTm.kind MTm.name MTm.num MTm.ty MTm.fr MTm.label MTm.kids
attribute [local simp] eTy_def eTm_def
set_option maxHeartbeats 16000000
set_option maxRecDepth 8000

def castC (e : MTm) (f t : MTy) (l : Int) : MTm := if sameTy f t = true then e else tCast e f t l
theorem l5Cast_ok (e : MTm) (f t : MTy) (l : Int) (hf : nTy f ≤ 1099511627776) (ht : nTy t ≤ 1099511627776) :
    ACalls Try.prog 15 [aTm e, aTy f, aTy t, .i l] [] (aTm (tCast e f t l)) [] [] := by
  have h2 := l1Copy_ok f hf
  have h3 := l1Copy_ok t ht
  refine ACalls.of_body Try.func15 (by kernel_rfl) rfl (by kernel_rfl) (by simp [Try.ntmps15]) (by simp) ?_
  rw [Try.ntmps15]
  repeat' first | ((first | refine aops_end (hK _ ?_) | refine aopsD_end (hK _ ?_) | refine aopsF_end (hK _ ?_)); clear hK K) | ((first | refine aops_go ?_ | refine aopsD_go ?_ | refine aopsF_go ?_); simp; (try (refine gen fun q hq => ?_; cases q <;> (try simp at hq) <;> (try (have hh : True := hq; clear hh hq))))) | (refine wpcall_pure rfl (h2) ?_; simp; (try (refine gen fun q hq => ?_; cases q <;> (try simp at hq) <;> (try (have hh : True := hq; clear hh hq))))) | (refine wpcall_pure rfl (h3) ?_; simp; (try (refine gen fun q hq => ?_; cases q <;> (try simp at hq) <;> (try (have hh : True := hq; clear hh hq))))) | (refine T.ret (Done.val (Or.inr rfl) ?_) <;> simp [resAs, Try.results15, eTm_def] <;> omega) | refine T.rd (id := 1) mixed (fun _ => false) [8] (by kernel_rfl) fun K hK => ?_ | refine T.rd1 (id := 1) mixed (fun _ => false) [8] (by kernel_rfl) fun K hK => ?_ | refine T.r0 fun K hK => ?_ | refine T.r1 fun K hK => ?_ | (refine ⟨by omega, ?_⟩) | refine T.ct rfl ?_ | refine T.cf rfl ?_ | refine T.seq ?_ | refine T.block ?_ | refine T.skip ?_ | refine T.exit ?_

theorem castTypeM_shape {e : MTm} {t : MTy} (h : castTypeM e = some t) : shapeTy 4 t = true := by
  rw [castTypeM] at h
  split at h
  · rename_i hv
    simp only [castValidM, Bool.and_eq_true] at hv
    exact castTy_shape hv.1 h
  · simp at h

theorem castTypeM_cases (e : MTm) : castTypeM e = none ∨ ∃ t, castTypeM e = some t ∧ nTy t ≤ 100 := by
  cases hr : castTypeM e with
  | none => exact .inl rfl
  | some t => exact .inr ⟨t, rfl, by have := shape4 (castTypeM_shape hr); omega⟩

end Go.Proofs.Ytbakdfnmippcoaa
