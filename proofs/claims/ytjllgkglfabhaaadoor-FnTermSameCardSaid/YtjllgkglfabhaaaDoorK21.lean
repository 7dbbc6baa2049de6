/- A part of the library of this seat: a value-semantic program logic over the model, plain models, and walks of functions. -/
import Derived.Test.YtjllgkglfabhaaaDoorK20
set_option linter.unusedVariables false
set_option linter.unusedSimpArgs false
namespace Go.Proofs.YtjllgkglfabhaaaDoor
open Go Go.Av
attribute [local irreducible] T ACalls TX EX LX Draws Some_ ACallsX eTy eTm MTy.kind MTy.kids MTm.kind MTm.name MTm.num MTm.ty MTm.fr MTm.label MTm.kids
attribute [local simp] eTy_def eTm_def
set_option maxHeartbeats 16000000
set_option maxRecDepth 8000

theorem format_inj (a c : MTm) : formatTmM a = [] ∨ formatTmM c = [] ∨ sameTm a c = decide (formatTmM a = formatTmM c) := by
  by_cases ha : termValidM a = true
  · by_cases hc : termValidM c = true
    · refine .inr (.inr ?_)
      have h1 := (termValidM_iff.1 ha).1
      have h2 := (termValidM_iff.1 hc).1
      rw [formatTmM, formatTmM, if_pos ha, if_pos hc]
      by_cases he : a = c
      · subst he; simp [sameTm_refl]
      · have hn : ¬ tmTextF 12 a = tmTextF 12 c := fun h => he (tmText_inj h1 h2 h)
        have hs : ¬ sameTm a c = true := fun h => he (sameTm_iff.1 h)
        simp [hn, Bool.not_eq_true _ ▸ hs]
    · exact .inr (.inl (by rw [formatTmM, if_neg hc]))
  · exact .inl (by rw [formatTmM, if_neg ha])
theorem sameTm_comm (a c : MTm) : sameTm c a = sameTm a c := by
  by_cases h : a = c
  · subst h; rfl
  · rw [Bool.eq_iff_iff, sameTm_iff, sameTm_iff]; exact ⟨fun e => e.symm, fun e => e.symm⟩

theorem lawTermSame_ok (b : List Int) (hb : ∀ n ∈ b, 0 ≤ n ∧ n ≤ 255) : ACalls Tryd.prog 3 [.l (rB b)] [] (.b true) [] [] := by
  by_cases h1 : (1048576 : Int) < b.length
  · refine ACalls.of_body Tryd.func3 (by kernel_rfl) rfl (by kernel_rfl) (by simp [Tryd.ntmps3]) (by simp) ?_
    rw [Tryd.ntmps3]
    repeat' first | ((first | refine aops_end (hK _ ?_) | refine aopsD_end (hK _ ?_) | refine aopsF_end (hK _ ?_)); clear hK K) | ((first | refine aops_go ?_ | refine aopsD_go ?_ | refine aopsF_go ?_); simp [h1, rB_len]; (try (refine gen fun q hq => ?_; cases q <;> (try simp [h1, rB_len] at hq) <;> (try (have hh : True := hq; clear hh hq))))) | (refine T.ret (Done.data (Or.inr rfl) ?_ ?_) <;> simp [Tryd.results3] <;> omega) | refine T.r0 fun K hK => ?_ | refine T.r1 fun K hK => ?_ | (refine ⟨by omega, ?_⟩) | refine T.ct rfl ?_ | refine T.cf rfl ?_ | refine T.seq ?_ | refine T.block ?_ | refine T.skip ?_ | refine T.exit ?_
  obtain ⟨x, hx, d1⟩ := (DrawTermSame_ok b hb).elim
  obtain ⟨a, c⟩ := x
  obtain ⟨hx1, hx2⟩ := hx
  dsimp only at hx1 hx2 d1
  have k1 := TermSame_ok a c (by omega)
  have k2 := TermSameS_ok a c (by omega)
  have k3 := TermSame_ok c a (by omega)
  have k4 := TermSame_ok a a (by omega)
  rw [sameTm_refl] at k4
  rw [sameTm_comm] at k3
  have k5 := FormatTerm_ok a (by omega)
  have k6 := FormatTerm_ok c (by omega)
  have hlaw := format_inj a c
  generalize sameTm a c = q at *
  generalize formatTmM a = s at *
  generalize formatTmM c = t at *
  by_cases hs : s = []
  · subst hs
    cases q
    · refine ACalls.of_body Tryd.func3 (by kernel_rfl) rfl (by kernel_rfl) (by simp [Tryd.ntmps3]) (by simp) ?_
      rw [Tryd.ntmps3]
      repeat' first | ((first | refine aops_end (hK _ ?_) | refine aopsD_end (hK _ ?_) | refine aopsF_end (hK _ ?_)); clear hK K) | ((first | refine aops_go ?_ | refine aopsD_go ?_ | refine aopsF_go ?_); simp [h1, rB_len]; (try (refine gen fun q hq => ?_; cases q <;> (try simp [h1, rB_len] at hq) <;> (try (have hh : True := hq; clear hh hq))))) | (refine wpcall_pure rfl (d1) ?_; simp [h1, rB_len]; (try (refine gen fun q hq => ?_; cases q <;> (try simp [h1, rB_len] at hq) <;> (try (have hh : True := hq; clear hh hq))))) | (refine wpcall_pure rfl (k1) ?_; simp [h1, rB_len]; (try (refine gen fun q hq => ?_; cases q <;> (try simp [h1, rB_len] at hq) <;> (try (have hh : True := hq; clear hh hq))))) | (refine wpcall_pure rfl (k2) ?_; simp [h1, rB_len]; (try (refine gen fun q hq => ?_; cases q <;> (try simp [h1, rB_len] at hq) <;> (try (have hh : True := hq; clear hh hq))))) | (refine wpcall_pure rfl (k3) ?_; simp [h1, rB_len]; (try (refine gen fun q hq => ?_; cases q <;> (try simp [h1, rB_len] at hq) <;> (try (have hh : True := hq; clear hh hq))))) | (refine wpcall_pure rfl (k4) ?_; simp [h1, rB_len]; (try (refine gen fun q hq => ?_; cases q <;> (try simp [h1, rB_len] at hq) <;> (try (have hh : True := hq; clear hh hq))))) | (refine wpcall_pure rfl (k5) ?_; simp [h1, rB_len]; (try (refine gen fun q hq => ?_; cases q <;> (try simp [h1, rB_len] at hq) <;> (try (have hh : True := hq; clear hh hq))))) | (refine wpcall_pure rfl (k6) ?_; simp [h1, rB_len]; (try (refine gen fun q hq => ?_; cases q <;> (try simp [h1, rB_len] at hq) <;> (try (have hh : True := hq; clear hh hq))))) | (refine T.ret (Done.data (Or.inr rfl) ?_ ?_) <;> simp [Tryd.results3] <;> omega) | refine T.r0 fun K hK => ?_ | refine T.r1 fun K hK => ?_ | (refine ⟨by omega, ?_⟩) | refine T.ct rfl ?_ | refine T.cf rfl ?_ | refine T.seq ?_ | refine T.block ?_ | refine T.skip ?_ | refine T.exit ?_
    · refine ACalls.of_body Tryd.func3 (by kernel_rfl) rfl (by kernel_rfl) (by simp [Tryd.ntmps3]) (by simp) ?_
      rw [Tryd.ntmps3]
      repeat' first | ((first | refine aops_end (hK _ ?_) | refine aopsD_end (hK _ ?_) | refine aopsF_end (hK _ ?_)); clear hK K) | ((first | refine aops_go ?_ | refine aopsD_go ?_ | refine aopsF_go ?_); simp [h1, rB_len]; (try (refine gen fun q hq => ?_; cases q <;> (try simp [h1, rB_len] at hq) <;> (try (have hh : True := hq; clear hh hq))))) | (refine wpcall_pure rfl (d1) ?_; simp [h1, rB_len]; (try (refine gen fun q hq => ?_; cases q <;> (try simp [h1, rB_len] at hq) <;> (try (have hh : True := hq; clear hh hq))))) | (refine wpcall_pure rfl (k1) ?_; simp [h1, rB_len]; (try (refine gen fun q hq => ?_; cases q <;> (try simp [h1, rB_len] at hq) <;> (try (have hh : True := hq; clear hh hq))))) | (refine wpcall_pure rfl (k2) ?_; simp [h1, rB_len]; (try (refine gen fun q hq => ?_; cases q <;> (try simp [h1, rB_len] at hq) <;> (try (have hh : True := hq; clear hh hq))))) | (refine wpcall_pure rfl (k3) ?_; simp [h1, rB_len]; (try (refine gen fun q hq => ?_; cases q <;> (try simp [h1, rB_len] at hq) <;> (try (have hh : True := hq; clear hh hq))))) | (refine wpcall_pure rfl (k4) ?_; simp [h1, rB_len]; (try (refine gen fun q hq => ?_; cases q <;> (try simp [h1, rB_len] at hq) <;> (try (have hh : True := hq; clear hh hq))))) | (refine wpcall_pure rfl (k5) ?_; simp [h1, rB_len]; (try (refine gen fun q hq => ?_; cases q <;> (try simp [h1, rB_len] at hq) <;> (try (have hh : True := hq; clear hh hq))))) | (refine wpcall_pure rfl (k6) ?_; simp [h1, rB_len]; (try (refine gen fun q hq => ?_; cases q <;> (try simp [h1, rB_len] at hq) <;> (try (have hh : True := hq; clear hh hq))))) | (refine T.ret (Done.data (Or.inr rfl) ?_ ?_) <;> simp [Tryd.results3] <;> omega) | refine T.r0 fun K hK => ?_ | refine T.r1 fun K hK => ?_ | (refine ⟨by omega, ?_⟩) | refine T.ct rfl ?_ | refine T.cf rfl ?_ | refine T.seq ?_ | refine T.block ?_ | refine T.skip ?_ | refine T.exit ?_
  by_cases ht : t = []
  · subst ht
    cases q
    · refine ACalls.of_body Tryd.func3 (by kernel_rfl) rfl (by kernel_rfl) (by simp [Tryd.ntmps3]) (by simp) ?_
      rw [Tryd.ntmps3]
      repeat' first | ((first | refine aops_end (hK _ ?_) | refine aopsD_end (hK _ ?_) | refine aopsF_end (hK _ ?_)); clear hK K) | ((first | refine aops_go ?_ | refine aopsD_go ?_ | refine aopsF_go ?_); simp [h1, rB_len, hs]; (try (refine gen fun q hq => ?_; cases q <;> (try simp [h1, rB_len, hs] at hq) <;> (try (have hh : True := hq; clear hh hq))))) | (refine wpcall_pure rfl (d1) ?_; simp [h1, rB_len, hs]; (try (refine gen fun q hq => ?_; cases q <;> (try simp [h1, rB_len, hs] at hq) <;> (try (have hh : True := hq; clear hh hq))))) | (refine wpcall_pure rfl (k1) ?_; simp [h1, rB_len, hs]; (try (refine gen fun q hq => ?_; cases q <;> (try simp [h1, rB_len, hs] at hq) <;> (try (have hh : True := hq; clear hh hq))))) | (refine wpcall_pure rfl (k2) ?_; simp [h1, rB_len, hs]; (try (refine gen fun q hq => ?_; cases q <;> (try simp [h1, rB_len, hs] at hq) <;> (try (have hh : True := hq; clear hh hq))))) | (refine wpcall_pure rfl (k3) ?_; simp [h1, rB_len, hs]; (try (refine gen fun q hq => ?_; cases q <;> (try simp [h1, rB_len, hs] at hq) <;> (try (have hh : True := hq; clear hh hq))))) | (refine wpcall_pure rfl (k4) ?_; simp [h1, rB_len, hs]; (try (refine gen fun q hq => ?_; cases q <;> (try simp [h1, rB_len, hs] at hq) <;> (try (have hh : True := hq; clear hh hq))))) | (refine wpcall_pure rfl (k5) ?_; simp [h1, rB_len, hs]; (try (refine gen fun q hq => ?_; cases q <;> (try simp [h1, rB_len, hs] at hq) <;> (try (have hh : True := hq; clear hh hq))))) | (refine wpcall_pure rfl (k6) ?_; simp [h1, rB_len, hs]; (try (refine gen fun q hq => ?_; cases q <;> (try simp [h1, rB_len, hs] at hq) <;> (try (have hh : True := hq; clear hh hq))))) | (refine T.ret (Done.data (Or.inr rfl) ?_ ?_) <;> simp [Tryd.results3] <;> omega) | refine T.r0 fun K hK => ?_ | refine T.r1 fun K hK => ?_ | (refine ⟨by omega, ?_⟩) | refine T.ct rfl ?_ | refine T.cf rfl ?_ | refine T.seq ?_ | refine T.block ?_ | refine T.skip ?_ | refine T.exit ?_
    · refine ACalls.of_body Tryd.func3 (by kernel_rfl) rfl (by kernel_rfl) (by simp [Tryd.ntmps3]) (by simp) ?_
      rw [Tryd.ntmps3]
      repeat' first | ((first | refine aops_end (hK _ ?_) | refine aopsD_end (hK _ ?_) | refine aopsF_end (hK _ ?_)); clear hK K) | ((first | refine aops_go ?_ | refine aopsD_go ?_ | refine aopsF_go ?_); simp [h1, rB_len, hs]; (try (refine gen fun q hq => ?_; cases q <;> (try simp [h1, rB_len, hs] at hq) <;> (try (have hh : True := hq; clear hh hq))))) | (refine wpcall_pure rfl (d1) ?_; simp [h1, rB_len, hs]; (try (refine gen fun q hq => ?_; cases q <;> (try simp [h1, rB_len, hs] at hq) <;> (try (have hh : True := hq; clear hh hq))))) | (refine wpcall_pure rfl (k1) ?_; simp [h1, rB_len, hs]; (try (refine gen fun q hq => ?_; cases q <;> (try simp [h1, rB_len, hs] at hq) <;> (try (have hh : True := hq; clear hh hq))))) | (refine wpcall_pure rfl (k2) ?_; simp [h1, rB_len, hs]; (try (refine gen fun q hq => ?_; cases q <;> (try simp [h1, rB_len, hs] at hq) <;> (try (have hh : True := hq; clear hh hq))))) | (refine wpcall_pure rfl (k3) ?_; simp [h1, rB_len, hs]; (try (refine gen fun q hq => ?_; cases q <;> (try simp [h1, rB_len, hs] at hq) <;> (try (have hh : True := hq; clear hh hq))))) | (refine wpcall_pure rfl (k4) ?_; simp [h1, rB_len, hs]; (try (refine gen fun q hq => ?_; cases q <;> (try simp [h1, rB_len, hs] at hq) <;> (try (have hh : True := hq; clear hh hq))))) | (refine wpcall_pure rfl (k5) ?_; simp [h1, rB_len, hs]; (try (refine gen fun q hq => ?_; cases q <;> (try simp [h1, rB_len, hs] at hq) <;> (try (have hh : True := hq; clear hh hq))))) | (refine wpcall_pure rfl (k6) ?_; simp [h1, rB_len, hs]; (try (refine gen fun q hq => ?_; cases q <;> (try simp [h1, rB_len, hs] at hq) <;> (try (have hh : True := hq; clear hh hq))))) | (refine T.ret (Done.data (Or.inr rfl) ?_ ?_) <;> simp [Tryd.results3] <;> omega) | refine T.r0 fun K hK => ?_ | refine T.r1 fun K hK => ?_ | (refine ⟨by omega, ?_⟩) | refine T.ct rfl ?_ | refine T.cf rfl ?_ | refine T.seq ?_ | refine T.block ?_ | refine T.skip ?_ | refine T.exit ?_
  have he : q = decide (s = t) := by
    rcases hlaw with h | h | h
    · exact absurd h hs
    · exact absurd h ht
    · exact h
  by_cases hst : s = t
  · subst hst
    have hq : q = true := by simpa using he
    subst hq
    refine ACalls.of_body Tryd.func3 (by kernel_rfl) rfl (by kernel_rfl) (by simp [Tryd.ntmps3]) (by simp) ?_
    rw [Tryd.ntmps3]
    repeat' first | ((first | refine aops_end (hK _ ?_) | refine aopsD_end (hK _ ?_) | refine aopsF_end (hK _ ?_)); clear hK K) | ((first | refine aops_go ?_ | refine aopsD_go ?_ | refine aopsF_go ?_); simp [h1, rB_len, hs]; (try (refine gen fun q hq => ?_; cases q <;> (try simp [h1, rB_len, hs] at hq) <;> (try (have hh : True := hq; clear hh hq))))) | (refine wpcall_pure rfl (d1) ?_; simp [h1, rB_len, hs]; (try (refine gen fun q hq => ?_; cases q <;> (try simp [h1, rB_len, hs] at hq) <;> (try (have hh : True := hq; clear hh hq))))) | (refine wpcall_pure rfl (k1) ?_; simp [h1, rB_len, hs]; (try (refine gen fun q hq => ?_; cases q <;> (try simp [h1, rB_len, hs] at hq) <;> (try (have hh : True := hq; clear hh hq))))) | (refine wpcall_pure rfl (k2) ?_; simp [h1, rB_len, hs]; (try (refine gen fun q hq => ?_; cases q <;> (try simp [h1, rB_len, hs] at hq) <;> (try (have hh : True := hq; clear hh hq))))) | (refine wpcall_pure rfl (k3) ?_; simp [h1, rB_len, hs]; (try (refine gen fun q hq => ?_; cases q <;> (try simp [h1, rB_len, hs] at hq) <;> (try (have hh : True := hq; clear hh hq))))) | (refine wpcall_pure rfl (k4) ?_; simp [h1, rB_len, hs]; (try (refine gen fun q hq => ?_; cases q <;> (try simp [h1, rB_len, hs] at hq) <;> (try (have hh : True := hq; clear hh hq))))) | (refine wpcall_pure rfl (k5) ?_; simp [h1, rB_len, hs]; (try (refine gen fun q hq => ?_; cases q <;> (try simp [h1, rB_len, hs] at hq) <;> (try (have hh : True := hq; clear hh hq))))) | (refine wpcall_pure rfl (k6) ?_; simp [h1, rB_len, hs]; (try (refine gen fun q hq => ?_; cases q <;> (try simp [h1, rB_len, hs] at hq) <;> (try (have hh : True := hq; clear hh hq))))) | (refine T.ret (Done.data (Or.inr rfl) ?_ ?_) <;> simp [Tryd.results3] <;> omega) | refine T.r0 fun K hK => ?_ | refine T.r1 fun K hK => ?_ | (refine ⟨by omega, ?_⟩) | refine T.ct rfl ?_ | refine T.cf rfl ?_ | refine T.seq ?_ | refine T.block ?_ | refine T.skip ?_ | refine T.exit ?_
  · have hq : q = false := by simpa [hst] using he
    subst hq
    refine ACalls.of_body Tryd.func3 (by kernel_rfl) rfl (by kernel_rfl) (by simp [Tryd.ntmps3]) (by simp) ?_
    rw [Tryd.ntmps3]
    repeat' first | ((first | refine aops_end (hK _ ?_) | refine aopsD_end (hK _ ?_) | refine aopsF_end (hK _ ?_)); clear hK K) | ((first | refine aops_go ?_ | refine aopsD_go ?_ | refine aopsF_go ?_); simp [h1, rB_len, hs, ht, hst]; (try (refine gen fun q hq => ?_; cases q <;> (try simp [h1, rB_len, hs, ht, hst] at hq) <;> (try (have hh : True := hq; clear hh hq))))) | (refine wpcall_pure rfl (d1) ?_; simp [h1, rB_len, hs, ht, hst]; (try (refine gen fun q hq => ?_; cases q <;> (try simp [h1, rB_len, hs, ht, hst] at hq) <;> (try (have hh : True := hq; clear hh hq))))) | (refine wpcall_pure rfl (k1) ?_; simp [h1, rB_len, hs, ht, hst]; (try (refine gen fun q hq => ?_; cases q <;> (try simp [h1, rB_len, hs, ht, hst] at hq) <;> (try (have hh : True := hq; clear hh hq))))) | (refine wpcall_pure rfl (k2) ?_; simp [h1, rB_len, hs, ht, hst]; (try (refine gen fun q hq => ?_; cases q <;> (try simp [h1, rB_len, hs, ht, hst] at hq) <;> (try (have hh : True := hq; clear hh hq))))) | (refine wpcall_pure rfl (k3) ?_; simp [h1, rB_len, hs, ht, hst]; (try (refine gen fun q hq => ?_; cases q <;> (try simp [h1, rB_len, hs, ht, hst] at hq) <;> (try (have hh : True := hq; clear hh hq))))) | (refine wpcall_pure rfl (k4) ?_; simp [h1, rB_len, hs, ht, hst]; (try (refine gen fun q hq => ?_; cases q <;> (try simp [h1, rB_len, hs, ht, hst] at hq) <;> (try (have hh : True := hq; clear hh hq))))) | (refine wpcall_pure rfl (k5) ?_; simp [h1, rB_len, hs, ht, hst]; (try (refine gen fun q hq => ?_; cases q <;> (try simp [h1, rB_len, hs, ht, hst] at hq) <;> (try (have hh : True := hq; clear hh hq))))) | (refine wpcall_pure rfl (k6) ?_; simp [h1, rB_len, hs, ht, hst]; (try (refine gen fun q hq => ?_; cases q <;> (try simp [h1, rB_len, hs, ht, hst] at hq) <;> (try (have hh : True := hq; clear hh hq))))) | (refine T.ret (Done.data (Or.inr rfl) ?_ ?_) <;> simp [Tryd.results3] <;> omega) | refine T.r0 fun K hK => ?_ | refine T.r1 fun K hK => ?_ | (refine ⟨by omega, ?_⟩) | refine T.ct rfl ?_ | refine T.cf rfl ?_ | refine T.seq ?_ | refine T.block ?_ | refine T.skip ?_ | refine T.exit ?_
end Go.Proofs.YtjllgkglfabhaaaDoor
