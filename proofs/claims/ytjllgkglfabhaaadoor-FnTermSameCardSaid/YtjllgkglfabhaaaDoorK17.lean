/- A part of the library of this seat: a value-semantic program logic over the model, plain models, and walks of functions. -/
import Derived.Test.YtjllgkglfabhaaaDoorK16
set_option linter.unusedVariables false
set_option linter.unusedSimpArgs false
namespace Go.Av
open Go
theorem val_cast {a : MTm} {f t : MTy} {l : Int} (h : valM (tCast a f t l) = true) : (f.kind = t.kind ∧ (t.kind = 4 ∨ t.kind = 5)) ∨ (¬ (f.kind = t.kind ∧ (t.kind = 4 ∨ t.kind = 5)) ∧ injM (tCast a f t l) = true ∧ valM a = true) := by
  by_cases hp : f.kind = t.kind ∧ (t.kind = 4 ∨ t.kind = 5)
  · exact .inl hp
  · refine .inr ⟨hp, ?_⟩
    have hpf : proxyM (tCast a f t l) = false := by
      rw [← Bool.not_eq_true]
      intro hh
      simp [proxyM] at hh
      exact hp ⟨of_decide_eq_true hh.1, hh.2.imp of_decide_eq_true of_decide_eq_true⟩
    rw [valM_def, hpf] at h
    cases hi : injM (tCast a f t l) with
    | true => rw [hi] at h; simpa using h
    | false => rw [hi] at h; simp [plainM] at h
theorem proxy_cast {a : MTm} {f t : MTy} {l : Int} : proxyM (tCast a f t l) = decide (f.kind = t.kind ∧ (t.kind = 4 ∨ t.kind = 5)) := by
  rw [Bool.eq_iff_iff]
  simp [proxyM]
  exact ⟨fun h => ⟨of_decide_eq_true h.1, h.2.imp of_decide_eq_true of_decide_eq_true⟩, fun h => ⟨decide_eq_true h.1, h.2.imp (fun q => decide_eq_true q) (fun q => decide_eq_true q)⟩⟩
theorem inj_not {a : MTm} {f t : MTy} {l : Int} (h : f.kind = t.kind ∧ (t.kind = 4 ∨ t.kind = 5)) : injM (tCast a f t l) = false := by
  have : ¬ t.kind = 1 := by omega
  simp [injM, this]

end Go.Av
