/- A part of the library of this seat: a value-semantic program logic over the model, plain models, and walks of functions. -/
import Derived.Test.YtjllgkglfabhaaaDoorK15
set_option linter.unusedVariables false
set_option linter.unusedSimpArgs false
namespace Go.Proofs.YtjllgkglfabhaaaDoor
open Go Go.Av
attribute [local irreducible] T ACalls TX EX LX Draws Some_ ACallsX eTy eTm MTy.kind MTy.kids MTm.kind MTm.name MTm.num MTm.ty MTm.fr MTm.label MTm.kids
attribute [local simp] eTy_def eTm_def
set_option maxHeartbeats 16000000
set_option maxRecDepth 8000


end Go.Proofs.YtjllgkglfabhaaaDoor

namespace Go.Proofs.YtjllgkglfabhaaaDoor
open Go Go.Av
attribute [local irreducible] T ACalls TX EX LX Draws Some_ ACallsX eTy eTm MTy.kind MTy.kids MTm.kind MTm.name MTm.num MTm.ty MTm.fr MTm.label MTm.kids
attribute [local simp] eTy_def eTm_def
set_option maxHeartbeats 16000000
set_option maxRecDepth 8000
attribute [local simp] Option.bind

theorem ground_ok (k : Int) : ACalls Tryd.prog 170 [.i k] [] (aTy (groundT k)) [] [] := by
  have h1 := base_ok 1
  by_cases h4 : k = 4
  · subst h4
    rw [show groundT 4 = .mk 4 [anyT, anyT] from rfl]
    have h2 := both_ok 4 anyT anyT
    refine ACalls.of_body Tryd.func170 (by kernel_rfl) rfl (by kernel_rfl) (by simp [Tryd.ntmps170]) (by simp) ?_
    rw [Tryd.ntmps170]
    repeat' first | ((first | refine aops_end (hK _ ?_) | refine aopsD_end (hK _ ?_) | refine aopsF_end (hK _ ?_)); clear hK K) | ((first | refine aops_go ?_ | refine aopsD_go ?_ | refine aopsF_go ?_); simp; (try (refine gen fun q hq => ?_; cases q <;> (try simp at hq) <;> (try (have hh : True := hq; clear hh hq))))) | (refine wpcall_pure rfl (h1) ?_; simp; (try (refine gen fun q hq => ?_; cases q <;> (try simp at hq) <;> (try (have hh : True := hq; clear hh hq))))) | (refine wpcall_pure ?_ (h2) ?_; (focus (solve | simp)); simp; (try (refine gen fun q hq => ?_; cases q <;> (try simp at hq) <;> (try (have hh : True := hq; clear hh hq))))) | (refine T.ret (Done.val (Or.inr rfl) ?_) <;> simp [resAs, Tryd.results170] <;> omega) | refine T.r0 fun K hK => ?_ | refine T.r1 fun K hK => ?_ | (refine ⟨by omega, ?_⟩) | refine T.ct rfl ?_ | refine T.cf rfl ?_ | refine T.seq ?_ | refine T.block ?_ | refine T.skip ?_ | refine T.exit ?_
  by_cases h5 : k = 5
  · subst h5
    rw [show groundT 5 = .mk 5 [anyT, anyT] from rfl]
    have h2 := both_ok 5 anyT anyT
    refine ACalls.of_body Tryd.func170 (by kernel_rfl) rfl (by kernel_rfl) (by simp [Tryd.ntmps170]) (by simp) ?_
    rw [Tryd.ntmps170]
    repeat' first | ((first | refine aops_end (hK _ ?_) | refine aopsD_end (hK _ ?_) | refine aopsF_end (hK _ ?_)); clear hK K) | ((first | refine aops_go ?_ | refine aopsD_go ?_ | refine aopsF_go ?_); simp; (try (refine gen fun q hq => ?_; cases q <;> (try simp at hq) <;> (try (have hh : True := hq; clear hh hq))))) | (refine wpcall_pure rfl (h1) ?_; simp; (try (refine gen fun q hq => ?_; cases q <;> (try simp at hq) <;> (try (have hh : True := hq; clear hh hq))))) | (refine wpcall_pure ?_ (h2) ?_; (focus (solve | simp)); simp; (try (refine gen fun q hq => ?_; cases q <;> (try simp at hq) <;> (try (have hh : True := hq; clear hh hq))))) | (refine T.ret (Done.val (Or.inr rfl) ?_) <;> simp [resAs, Tryd.results170] <;> omega) | refine T.r0 fun K hK => ?_ | refine T.r1 fun K hK => ?_ | (refine ⟨by omega, ?_⟩) | refine T.ct rfl ?_ | refine T.cf rfl ?_ | refine T.seq ?_ | refine T.block ?_ | refine T.skip ?_ | refine T.exit ?_
  · rw [show groundT k = .mk k [] by simp [groundT, h4, h5]]
    have h3 := base_ok k
    refine ACalls.of_body Tryd.func170 (by kernel_rfl) rfl (by kernel_rfl) (by simp [Tryd.ntmps170]) (by simp) ?_
    rw [Tryd.ntmps170]
    repeat' first | ((first | refine aops_end (hK _ ?_) | refine aopsD_end (hK _ ?_) | refine aopsF_end (hK _ ?_)); clear hK K) | ((first | refine aops_go ?_ | refine aopsD_go ?_ | refine aopsF_go ?_); simp [h4, h5]; (try (refine gen fun q hq => ?_; cases q <;> (try simp [h4, h5] at hq) <;> (try (have hh : True := hq; clear hh hq))))) | (refine wpcall_pure rfl (h3) ?_; simp [h4, h5]; (try (refine gen fun q hq => ?_; cases q <;> (try simp [h4, h5] at hq) <;> (try (have hh : True := hq; clear hh hq))))) | (refine T.ret (Done.val (Or.inr rfl) ?_) <;> simp [resAs, Tryd.results170] <;> omega) | refine T.r0 fun K hK => ?_ | refine T.r1 fun K hK => ?_ | (refine ⟨by omega, ?_⟩) | refine T.ct rfl ?_ | refine T.cf rfl ?_ | refine T.seq ?_ | refine T.block ?_ | refine T.skip ?_ | refine T.exit ?_

theorem isGround_ok (t : MTy) (hn : nTy t ≤ 1099511627776) : ACalls Tryd.prog 157 [aTy t] [] (.b (isGroundM t)) [] [] := by
  have h1 := ground_ok t.kind
  have h2 := TypeSame_ok t (groundT t.kind) hn
  rw [isGroundM]
  generalize sameTy t (groundT t.kind) = q at *
  generalize groundT t.kind = G at *
  by_cases hk : t.kind = 1
  · simp only [hk, ne_eq, not_true_eq_false, decide_false, Bool.false_and]
    refine ACalls.of_body Tryd.func157 (by kernel_rfl) rfl (by kernel_rfl) (by simp [Tryd.ntmps157]) (by simp) ?_
    rw [Tryd.ntmps157]
    repeat' first | ((first | refine aops_end (hK _ ?_) | refine aopsD_end (hK _ ?_) | refine aopsF_end (hK _ ?_)); clear hK K) | ((first | refine aops_go ?_ | refine aopsD_go ?_ | refine aopsF_go ?_); simp [hk]; (try (refine gen fun q hq => ?_; cases q <;> (try simp [hk] at hq) <;> (try (have hh : True := hq; clear hh hq))))) | (refine wpcall_pure rfl (h1) ?_; simp [hk]; (try (refine gen fun q hq => ?_; cases q <;> (try simp [hk] at hq) <;> (try (have hh : True := hq; clear hh hq))))) | (refine wpcall_pure rfl (h2) ?_; simp [hk]; (try (refine gen fun q hq => ?_; cases q <;> (try simp [hk] at hq) <;> (try (have hh : True := hq; clear hh hq))))) | (refine T.ret (Done.data (Or.inr rfl) ?_ ?_) <;> simp [Tryd.results157] <;> omega) | refine T.rd (id := 1) mixed (fun _ => false) [] (by kernel_rfl) fun K hK => ?_ | refine T.rd1 (id := 1) mixed (fun _ => false) [] (by kernel_rfl) fun K hK => ?_ | refine T.r0 fun K hK => ?_ | refine T.r1 fun K hK => ?_ | (refine ⟨by omega, ?_⟩) | refine T.ct rfl ?_ | refine T.cf rfl ?_ | refine T.seq ?_ | refine T.block ?_ | refine T.skip ?_ | refine T.exit ?_
  · simp only [hk, ne_eq, not_false_eq_true, decide_true, Bool.true_and]
    refine ACalls.of_body Tryd.func157 (by kernel_rfl) rfl (by kernel_rfl) (by simp [Tryd.ntmps157]) (by simp) ?_
    rw [Tryd.ntmps157]
    repeat' first | ((first | refine aops_end (hK _ ?_) | refine aopsD_end (hK _ ?_) | refine aopsF_end (hK _ ?_)); clear hK K) | ((first | refine aops_go ?_ | refine aopsD_go ?_ | refine aopsF_go ?_); simp [hk]; (try (refine gen fun q hq => ?_; cases q <;> (try simp [hk] at hq) <;> (try (have hh : True := hq; clear hh hq))))) | (refine wpcall_pure rfl (h1) ?_; simp [hk]; (try (refine gen fun q hq => ?_; cases q <;> (try simp [hk] at hq) <;> (try (have hh : True := hq; clear hh hq))))) | (refine wpcall_pure rfl (h2) ?_; simp [hk]; (try (refine gen fun q hq => ?_; cases q <;> (try simp [hk] at hq) <;> (try (have hh : True := hq; clear hh hq))))) | (refine T.ret (Done.data (Or.inr rfl) ?_ ?_) <;> simp [Tryd.results157, *] <;> omega) | refine T.rd (id := 1) mixed (fun _ => false) [] (by kernel_rfl) fun K hK => ?_ | refine T.rd1 (id := 1) mixed (fun _ => false) [] (by kernel_rfl) fun K hK => ?_ | refine T.r0 fun K hK => ?_ | refine T.r1 fun K hK => ?_ | (refine ⟨by omega, ?_⟩) | refine T.ct rfl ?_ | refine T.cf rfl ?_ | refine T.seq ?_ | refine T.block ?_ | refine T.skip ?_ | refine T.exit ?_

theorem isProxy_ok (e : MTm) : ACalls Tryd.prog 102 [aTm e] [] (.b (proxyM e)) [] [] := by
  rw [proxyM]
  refine ACalls.of_body Tryd.func102 (by kernel_rfl) rfl (by kernel_rfl) (by simp [Tryd.ntmps102]) (by simp) ?_
  rw [Tryd.ntmps102]
  repeat' first | ((first | refine aops_end (hK _ ?_) | refine aopsD_end (hK _ ?_) | refine aopsF_end (hK _ ?_)); clear hK K) | ((first | refine aops_go ?_ | refine aopsD_go ?_ | refine aopsF_go ?_); simp; (try (refine gen fun q hq => ?_; cases q <;> (try simp at hq) <;> (try (have hh : True := hq; clear hh hq))))) | (refine T.ret (Done.data (Or.inr rfl) ?_ ?_) <;> simp [Tryd.results102, *] <;> omega) | refine T.r0 fun K hK => ?_ | refine T.r1 fun K hK => ?_ | (refine ⟨by omega, ?_⟩) | refine T.ct rfl ?_ | refine T.cf rfl ?_ | refine T.seq ?_ | refine T.block ?_ | refine T.skip ?_ | refine T.exit ?_

theorem isInjection_ok (e : MTm) (hn : nTy e.fr ≤ 1099511627776) : ACalls Tryd.prog 128 [aTm e] [] (.b (injM e)) [] [] := by
  have h1 := isGround_ok e.fr hn
  rw [injM]
  generalize isGroundM e.fr = q at *
  refine ACalls.of_body Tryd.func128 (by kernel_rfl) rfl (by kernel_rfl) (by simp [Tryd.ntmps128]) (by simp) ?_
  rw [Tryd.ntmps128]
  repeat' first | ((first | refine aops_end (hK _ ?_) | refine aopsD_end (hK _ ?_) | refine aopsF_end (hK _ ?_)); clear hK K) | ((first | refine aops_go ?_ | refine aopsD_go ?_ | refine aopsF_go ?_); simp; (try (refine gen fun q hq => ?_; cases q <;> (try simp at hq) <;> (try (have hh : True := hq; clear hh hq))))) | (refine wpcall_pure rfl (h1) ?_; simp; (try (refine gen fun q hq => ?_; cases q <;> (try simp at hq) <;> (try (have hh : True := hq; clear hh hq))))) | (refine T.ret (Done.data (Or.inr rfl) ?_ ?_) <;> simp [Tryd.results128, *] <;> omega) | refine T.r0 fun K hK => ?_ | refine T.r1 fun K hK => ?_ | (refine ⟨by omega, ?_⟩) | refine T.ct rfl ?_ | refine T.cf rfl ?_ | refine T.seq ?_ | refine T.block ?_ | refine T.skip ?_ | refine T.exit ?_

theorem isPlain_ok (e : MTm) : ACalls Tryd.prog 131 [aTm e] [] (.b (plainM e)) [] [] := by
  rw [plainM]
  refine ACalls.of_body Tryd.func131 (by kernel_rfl) rfl (by kernel_rfl) (by simp [Tryd.ntmps131]) (by simp) ?_
  rw [Tryd.ntmps131]
  repeat' first | ((first | refine aops_end (hK _ ?_) | refine aopsD_end (hK _ ?_) | refine aopsF_end (hK _ ?_)); clear hK K) | ((first | refine aops_go ?_ | refine aopsD_go ?_ | refine aopsF_go ?_); simp; (try (refine gen fun q hq => ?_; cases q <;> (try simp at hq) <;> (try (have hh : True := hq; clear hh hq))))) | (refine T.ret (Done.data (Or.inr rfl) ?_ ?_) <;> simp [Tryd.results131, *] <;> omega) | refine T.r0 fun K hK => ?_ | refine T.r1 fun K hK => ?_ | (refine ⟨by omega, ?_⟩) | refine T.ct rfl ?_ | refine T.cf rfl ?_ | refine T.seq ?_ | refine T.block ?_ | refine T.skip ?_ | refine T.exit ?_

theorem isValue1_ok (e : MTm) (q : Bool) (h : ACalls Tryd.prog 101 [aTm e] [] (.b q) [] []) : ACalls Tryd.prog 130 [aTm e] [] (.b (!q)) [] [] := by
  refine ACalls.of_body Tryd.func130 (by kernel_rfl) rfl (by kernel_rfl) (by simp [Tryd.ntmps130]) (by simp) ?_
  rw [Tryd.ntmps130]
  repeat' first | ((first | refine aops_end (hK _ ?_) | refine aopsD_end (hK _ ?_) | refine aopsF_end (hK _ ?_)); clear hK K) | ((first | refine aops_go ?_ | refine aopsD_go ?_ | refine aopsF_go ?_); simp) | (refine wpcall_pure rfl (h) ?_; simp) | (refine T.ret (Done.data (Or.inr rfl) ?_ ?_) <;> simp [Tryd.results130] <;> omega) | refine T.r0 fun K hK => ?_ | refine T.r1 fun K hK => ?_ | (refine ⟨by omega, ?_⟩) | refine T.ct rfl ?_ | refine T.cf rfl ?_ | refine T.seq ?_ | refine T.block ?_ | refine T.skip ?_ | refine T.exit ?_

theorem isValue_ok : ∀ (e : MTm), nTm e ≤ 1099511627776 → ACalls Tryd.prog 101 [aTm e] [] (.b (valM e)) [] [] := by
  intro e
  induction e using MTm.ind with
  | h e ih =>
    intro hn
    obtain ⟨hnt, hnf, hnk, hnu⟩ := nTm_parts hn
    have hcf := containsFuncTm_0 130 e.kids (fun t => !valM t) (by omega) (fun u hu => isValue1_ok u _ (ih u hu (hnu u hu)))
    have h1 := isProxy_ok e
    have h2 := isInjection_ok e hnf
    have h3 := isPlain_ok e
    rw [valM_def, ← not_any_not]
    generalize (e.kids.any fun t => !valM t) = R at hcf ⊢
    generalize proxyM e = q1 at *
    generalize injM e = q2 at *
    generalize plainM e = q3 at *
    by_cases hk : e.kind = 10
    · simp only [hk, decide_true, Bool.true_or, if_true]
      refine ACalls.of_body Tryd.func101 (by kernel_rfl) rfl (by kernel_rfl) (by simp [Tryd.ntmps101]) (by simp) ?_
      rw [Tryd.ntmps101]
      repeat' first | ((first | refine aops_end (hK _ ?_) | refine aopsD_end (hK _ ?_) | refine aopsF_end (hK _ ?_)); clear hK K) | ((first | refine aops_go ?_ | refine aopsD_go ?_ | refine aopsF_go ?_); simp [hk]; (try (refine gen fun q hq => ?_; cases q <;> (try simp [hk] at hq) <;> (try (have hh : True := hq; clear hh hq))))) | (refine wpcall_pure rfl (hcf) ?_; simp [hk]; (try (refine gen fun q hq => ?_; cases q <;> (try simp [hk] at hq) <;> (try (have hh : True := hq; clear hh hq))))) | (refine T.ret (Done.data (Or.inr rfl) ?_ ?_) <;> simp [Tryd.results101, *] <;> omega) | refine T.r0 fun K hK => ?_ | refine T.r1 fun K hK => ?_ | (refine ⟨by omega, ?_⟩) | refine T.ct rfl ?_ | refine T.cf rfl ?_ | refine T.seq ?_ | refine T.block ?_ | refine T.skip ?_ | refine T.exit ?_
    · simp only [hk, decide_false, Bool.false_or]
      cases q1
      · cases q2
        · simp only [Bool.or_self, Bool.false_eq_true, if_false]
          refine ACalls.of_body Tryd.func101 (by kernel_rfl) rfl (by kernel_rfl) (by simp [Tryd.ntmps101]) (by simp) ?_
          rw [Tryd.ntmps101]
          repeat' first | ((first | refine aops_end (hK _ ?_) | refine aopsD_end (hK _ ?_) | refine aopsF_end (hK _ ?_)); clear hK K) | ((first | refine aops_go ?_ | refine aopsD_go ?_ | refine aopsF_go ?_); simp [hk]; (try (refine gen fun q hq => ?_; cases q <;> (try simp [hk] at hq) <;> (try (have hh : True := hq; clear hh hq))))) | (refine wpcall_pure rfl (h1) ?_; simp [hk]; (try (refine gen fun q hq => ?_; cases q <;> (try simp [hk] at hq) <;> (try (have hh : True := hq; clear hh hq))))) | (refine wpcall_pure rfl (h2) ?_; simp [hk]; (try (refine gen fun q hq => ?_; cases q <;> (try simp [hk] at hq) <;> (try (have hh : True := hq; clear hh hq))))) | (refine wpcall_pure rfl (h3) ?_; simp [hk]; (try (refine gen fun q hq => ?_; cases q <;> (try simp [hk] at hq) <;> (try (have hh : True := hq; clear hh hq))))) | (refine T.ret (Done.data (Or.inr rfl) ?_ ?_) <;> simp [Tryd.results101, *] <;> omega) | refine T.r0 fun K hK => ?_ | refine T.r1 fun K hK => ?_ | (refine ⟨by omega, ?_⟩) | refine T.ct rfl ?_ | refine T.cf rfl ?_ | refine T.seq ?_ | refine T.block ?_ | refine T.skip ?_ | refine T.exit ?_
        · simp only [Bool.or_true, if_true]
          refine ACalls.of_body Tryd.func101 (by kernel_rfl) rfl (by kernel_rfl) (by simp [Tryd.ntmps101]) (by simp) ?_
          rw [Tryd.ntmps101]
          repeat' first | ((first | refine aops_end (hK _ ?_) | refine aopsD_end (hK _ ?_) | refine aopsF_end (hK _ ?_)); clear hK K) | ((first | refine aops_go ?_ | refine aopsD_go ?_ | refine aopsF_go ?_); simp [hk]; (try (refine gen fun q hq => ?_; cases q <;> (try simp [hk] at hq) <;> (try (have hh : True := hq; clear hh hq))))) | (refine wpcall_pure rfl (h1) ?_; simp [hk]; (try (refine gen fun q hq => ?_; cases q <;> (try simp [hk] at hq) <;> (try (have hh : True := hq; clear hh hq))))) | (refine wpcall_pure rfl (h2) ?_; simp [hk]; (try (refine gen fun q hq => ?_; cases q <;> (try simp [hk] at hq) <;> (try (have hh : True := hq; clear hh hq))))) | (refine wpcall_pure rfl (hcf) ?_; simp [hk]; (try (refine gen fun q hq => ?_; cases q <;> (try simp [hk] at hq) <;> (try (have hh : True := hq; clear hh hq))))) | (refine T.ret (Done.data (Or.inr rfl) ?_ ?_) <;> simp [Tryd.results101, *] <;> omega) | refine T.r0 fun K hK => ?_ | refine T.r1 fun K hK => ?_ | (refine ⟨by omega, ?_⟩) | refine T.ct rfl ?_ | refine T.cf rfl ?_ | refine T.seq ?_ | refine T.block ?_ | refine T.skip ?_ | refine T.exit ?_
      · simp only [Bool.true_or, if_true]
        refine ACalls.of_body Tryd.func101 (by kernel_rfl) rfl (by kernel_rfl) (by simp [Tryd.ntmps101]) (by simp) ?_
        rw [Tryd.ntmps101]
        repeat' first | ((first | refine aops_end (hK _ ?_) | refine aopsD_end (hK _ ?_) | refine aopsF_end (hK _ ?_)); clear hK K) | ((first | refine aops_go ?_ | refine aopsD_go ?_ | refine aopsF_go ?_); simp [hk]; (try (refine gen fun q hq => ?_; cases q <;> (try simp [hk] at hq) <;> (try (have hh : True := hq; clear hh hq))))) | (refine wpcall_pure rfl (h1) ?_; simp [hk]; (try (refine gen fun q hq => ?_; cases q <;> (try simp [hk] at hq) <;> (try (have hh : True := hq; clear hh hq))))) | (refine wpcall_pure rfl (hcf) ?_; simp [hk]; (try (refine gen fun q hq => ?_; cases q <;> (try simp [hk] at hq) <;> (try (have hh : True := hq; clear hh hq))))) | (refine T.ret (Done.data (Or.inr rfl) ?_ ?_) <;> simp [Tryd.results101, *] <;> omega) | refine T.r0 fun K hK => ?_ | refine T.r1 fun K hK => ?_ | (refine ⟨by omega, ?_⟩) | refine T.ct rfl ?_ | refine T.cf rfl ?_ | refine T.seq ?_ | refine T.block ?_ | refine T.skip ?_ | refine T.exit ?_

theorem IsValue_ok (e : MTm) (hn : nTm e ≤ 1099511627776) : ACalls Tryd.prog 56 [aTm e] [] (.b (castValidM e && valM e)) [] [] := by
  have h1 := CastValid_ok e hn
  have h2 := isValue_ok e hn
  generalize castValidM e = a at *
  generalize valM e = b at *
  refine ACalls.of_body Tryd.func56 (by kernel_rfl) rfl (by kernel_rfl) (by simp [Tryd.ntmps56]) (by simp) ?_
  rw [Tryd.ntmps56]
  repeat' first | ((first | refine aops_end (hK _ ?_) | refine aopsD_end (hK _ ?_) | refine aopsF_end (hK _ ?_)); clear hK K) | ((first | refine aops_go ?_ | refine aopsD_go ?_ | refine aopsF_go ?_); simp; (try (refine gen fun q hq => ?_; cases q <;> (try simp at hq) <;> (try (have hh : True := hq; clear hh hq))))) | (refine wpcall_pure rfl (h1) ?_; simp; (try (refine gen fun q hq => ?_; cases q <;> (try simp at hq) <;> (try (have hh : True := hq; clear hh hq))))) | (refine wpcall_pure rfl (h2) ?_; simp; (try (refine gen fun q hq => ?_; cases q <;> (try simp at hq) <;> (try (have hh : True := hq; clear hh hq))))) | (refine T.ret (Done.data (Or.inr rfl) ?_ ?_) <;> simp [Tryd.results56, *] <;> omega) | refine T.r0 fun K hK => ?_ | refine T.r1 fun K hK => ?_ | (refine ⟨by omega, ?_⟩) | refine T.ct rfl ?_ | refine T.cf rfl ?_ | refine T.seq ?_ | refine T.block ?_ | refine T.skip ?_ | refine T.exit ?_

abbrev ruleR (o : Option MTm) : List AV := match o with
  | some x => [aTm x, .i 1]
  | none => [aTm zeroE, .i 3]

end Go.Proofs.YtjllgkglfabhaaaDoor

namespace Go.Proofs.YtjllgkglfabhaaaDoor
open Go Go.Av
attribute [local irreducible] T ACalls TX EX LX Draws Some_ ACallsX eTy eTm MTy.kind MTy.kids MTm.kind MTm.name MTm.num MTm.ty MTm.fr MTm.label MTm.kids
attribute [local simp] eTy_def eTm_def
set_option maxHeartbeats 16000000
set_option maxRecDepth 8000

theorem sum_take_le {α : Type} (f : α → Nat) : ∀ (l : List α) (p : Nat), ((l.take p).map f).sum ≤ (l.map f).sum
  | [], p => by simp
  | x :: r, 0 => by simp
  | x :: r, p + 1 => by have := sum_take_le f r p; simp only [List.take_succ_cons, List.map_cons, List.sum_cons]; omega
def cntP (l : List MTy) (p : Nat) : Nat := ((l.take p).map cntM).sum
end Go.Proofs.YtjllgkglfabhaaaDoor

namespace Go.Proofs.YtjllgkglfabhaaaDoor
open Go Go.Av
attribute [local irreducible] T ACalls TX EX LX Draws Some_ ACallsX eTy eTm MTy.kind MTy.kids MTm.kind MTm.name MTm.num MTm.ty MTm.fr MTm.label MTm.kids
attribute [local simp] eTy_def eTm_def
set_option maxHeartbeats 16000000
set_option maxRecDepth 8000
@[simp] theorem td_uint : td Tryd.prog 162 = some { ag := false, sz := 1, by_ := 8, zero := some [.d (.int .u64 0)], el := none, ar := none, fl := [], ik := some .u64, isS := false, isB := false } := keep (by kernel_rfl)
@[simp] theorem td_intS2 : td Tryd.prog 98 = some { ag := false, sz := 1, by_ := 24, zero := some [.nil], el := some 3, ar := none, fl := [], ik := none, isS := false, isB := false } := keep (by kernel_rfl)

end Go.Proofs.YtjllgkglfabhaaaDoor

namespace Go.Proofs.YtjllgkglfabhaaaDoor
open Go Go.Av
attribute [local irreducible] T ACalls TX EX LX Draws Some_ ACallsX eTy eTm MTy.kind MTy.kids MTm.kind MTm.name MTm.num MTm.ty MTm.fr MTm.label MTm.kids
attribute [local simp] eTy_def eTm_def
set_option maxHeartbeats 16000000
set_option maxRecDepth 8000

def redM (e : MTm) : Int := if castValidM e = true then ((castsM e).length : Int) - (castsM (simpM e)).length else 0

/-- A copy whose operands the caller may change. -/
abbrev tmOwn (e : MTm) : AV := .agg [.d (.i e.kind), .d (.str e.name), .d (.i e.num), .d (.i e.ty.kind), .d (.sl (e.ty.kids.map eTy)), .d (.i e.fr.kind), .d (.sl (e.fr.kids.map eTy)), .d (.i e.label), .own 0 e.kids.length]
/-- The operands, simplified as_ far as_ a place. -/
def mixM (l : List MTm) (p : Nat) : List MTm := (l.map simpM).take p ++ l.drop p
end Go.Proofs.YtjllgkglfabhaaaDoor

namespace Go.Proofs.YtjllgkglfabhaaaDoor
open Go Go.Av
attribute [local irreducible] T ACalls TX EX LX Draws Some_ ACallsX eTy eTm MTy.kind MTy.kids MTm.kind MTm.name MTm.num MTm.ty MTm.fr MTm.label MTm.kids
attribute [local simp] eTy_def eTm_def
set_option maxHeartbeats 16000000
set_option maxRecDepth 8000
attribute [local simp] Option.bind

abbrev stepR (p : MTm × Int × Int) : List AV := [aTm p.1, .i p.2.1, .i p.2.2]

abbrev runR (p : MTm × Int × Int × Int) : List AV := [aTm p.1, .i p.2.1, .i p.2.2.1, .i p.2.2.2]

end Go.Proofs.YtjllgkglfabhaaaDoor

namespace Go.Proofs.YtjllgkglfabhaaaDoor
open Go Go.Av
attribute [local irreducible] T ACalls TX EX LX Draws Some_ ACallsX eTy eTm MTy.kind MTy.kids MTm.kind MTm.name MTm.num MTm.ty MTm.fr MTm.label MTm.kids
attribute [local simp] eTy_def eTm_def
set_option maxHeartbeats 16000000
set_option maxRecDepth 8000
attribute [local simp] Option.bind

theorem l1Ground_ok (t : MTy) (hn : nTy t ≤ 1099511627776) : ACalls Tryd.prog 156 [aTy t] [] (aTy (.mk t.kind (List.replicate t.kids.length anyT))) [] [] := by
  have h1 := l1Any_ok
  have hlen := nTyS_len t.kids
  rw [nTy_def] at hn
  refine ACalls.of_body Tryd.func156 (by kernel_rfl) rfl (by kernel_rfl) (by simp [Tryd.ntmps156]) (by simp) ?_
  rw [Tryd.ntmps156]
  repeat' first | ((first | refine aops_end (hK _ ?_) | refine aopsD_end (hK _ ?_) | refine aopsF_end (hK _ ?_)); clear hK K) | ((first | refine aops_go ?_ | refine aopsD_go ?_ | refine aopsF_go ?_); simp; (try (refine gen fun q hq => ?_; cases q <;> (try simp at hq) <;> (try (have hh : True := hq; clear hh hq))))) | refine T.rd (id := 5) mixed (fun _ => false) [4, 6] (by kernel_rfl) fun K hK => ?_ | refine T.rd1 (id := 5) mixed (fun _ => false) [4, 6] (by kernel_rfl) fun K hK => ?_ | refine T.r0 fun K hK => ?_ | refine T.r1 fun K hK => ?_ | (refine ⟨by omega, ?_⟩) | refine T.ct rfl ?_ | refine T.cf rfl ?_ | refine T.seq ?_ | refine T.block ?_ | refine T.skip ?_ | refine T.exit ?_
  refine T.ownifyObj 2 1 2 25 (row := [.d (.i t.kind), .nil]) (by simp) (by simp) ?_
  refine T.loopF (fun p : Nat => ⟨[(1, .c (.ptr 0 0)), (2, .c (.ptr 1 0)), (3, .c (.ptr 2 0)), (4, .i p)], [(aTy t).cells, [.d (.i 0), .nil], [.d (.i t.kind), .own 0 p]], [{ sz := 2, ety := 25, rows := (List.replicate p anyT).map eTy, wr := true }]⟩) (fun p => t.kids.length + 1 - p) (fun p => p ≤ t.kids.length) (fun p hp => ?_) 0 (by simp) (by simp)
  by_cases hlt : p < t.kids.length
  · repeat' first | ((first | refine aops_end (hK _ ?_) | refine aopsD_end (hK _ ?_) | refine aopsF_end (hK _ ?_)); clear hK K) | ((first | refine aops_go ?_ | refine aopsD_go ?_ | refine aopsF_go ?_); simp [hlt]; (try simp (disch := omega) only [wrap64]); (try (refine gen fun q hq => ?_; cases q <;> (try simp [hlt] at hq) <;> (try (have hh : True := hq; clear hh hq))))) | (refine wpcall_pure rfl (h1) ?_; simp [hlt]; (try simp (disch := omega) only [wrap64]); (try (refine gen fun q hq => ?_; cases q <;> (try simp [hlt] at hq) <;> (try (have hh : True := hq; clear hh hq))))) | (refine ⟨by omega, by omega, ?_⟩) | (refine ⟨p + 1, by dsimp only; omega, by omega, ?_, ?_, ?_⟩ <;> simp (disch := omega) [wrap64, List.replicate_succ', eTy_def]) | refine T.rd (id := 5) mixed (fun _ => false) [4, 6] (by kernel_rfl) fun K hK => ?_ | refine T.rd1 (id := 5) mixed (fun _ => false) [4, 6] (by kernel_rfl) fun K hK => ?_ | refine T.r0 fun K hK => ?_ | refine T.r1 fun K hK => ?_ | (refine ⟨by omega, ?_⟩) | refine T.ct rfl ?_ | refine T.cf rfl ?_ | refine T.seq ?_ | refine T.block ?_ | refine T.skip ?_ | refine T.exit ?_
  · have hp' : p = t.kids.length := by omega
    subst hp'
    repeat' first | ((first | refine aops_end (hK _ ?_) | refine aopsD_end (hK _ ?_) | refine aopsF_end (hK _ ?_)); clear hK K) | ((first | refine aops_go ?_ | refine aopsD_go ?_ | refine aopsF_go ?_); simp [hlt]; (try (refine gen fun q hq => ?_; cases q <;> (try simp [hlt] at hq) <;> (try (have hh : True := hq; clear hh hq))))) | (refine T.ret (Done.val (Or.inr rfl) ?_) <;> simp [resAs, Tryd.results156] <;> omega) | refine T.rd (id := 5) mixed (fun _ => false) [4, 6] (by kernel_rfl) fun K hK => ?_ | refine T.rd1 (id := 5) mixed (fun _ => false) [4, 6] (by kernel_rfl) fun K hK => ?_ | refine T.r0 fun K hK => ?_ | refine T.r1 fun K hK => ?_ | (refine ⟨by omega, ?_⟩) | refine T.ct rfl ?_ | refine T.cf rfl ?_ | refine T.seq ?_ | refine T.block ?_ | refine T.skip ?_ | refine T.exit ?_

theorem l5Ground_ok (t : MTy) (ht : shapeTy 4 t = true) : ACalls Tryd.prog 127 [aTy t] [] (.b (isGroundM t)) [] [] := by
  have hs := shape4 ht
  have h1 := l1Ground_ok t (by omega)
  rw [show MTy.mk t.kind (List.replicate t.kids.length anyT) = groundT t.kind by cases VTy.of ht <;> simp [groundT]] at h1
  have h2 := TypeSameS_ok t (groundT t.kind) (by omega)
  rw [isGroundM]
  generalize sameTy t (groundT t.kind) = q at *
  generalize groundT t.kind = G at *
  by_cases hk : t.kind = 1
  · simp only [hk, ne_eq, not_true_eq_false, decide_false, Bool.false_and]
    refine ACalls.of_body Tryd.func127 (by kernel_rfl) rfl (by kernel_rfl) (by simp [Tryd.ntmps127]) (by simp) ?_
    rw [Tryd.ntmps127]
    repeat' first | ((first | refine aops_end (hK _ ?_) | refine aopsD_end (hK _ ?_) | refine aopsF_end (hK _ ?_)); clear hK K) | ((first | refine aops_go ?_ | refine aopsD_go ?_ | refine aopsF_go ?_); simp [hk]; (try (refine gen fun q hq => ?_; cases q <;> (try simp [hk] at hq) <;> (try (have hh : True := hq; clear hh hq))))) | (refine wpcall_pure rfl (h1) ?_; simp [hk]; (try (refine gen fun q hq => ?_; cases q <;> (try simp [hk] at hq) <;> (try (have hh : True := hq; clear hh hq))))) | (refine wpcall_pure rfl (h2) ?_; simp [hk]; (try (refine gen fun q hq => ?_; cases q <;> (try simp [hk] at hq) <;> (try (have hh : True := hq; clear hh hq))))) | (refine T.ret (Done.data (Or.inr rfl) ?_ ?_) <;> simp [Tryd.results127] <;> omega) | refine T.rd (id := 1) mixed (fun _ => false) [] (by kernel_rfl) fun K hK => ?_ | refine T.rd1 (id := 1) mixed (fun _ => false) [] (by kernel_rfl) fun K hK => ?_ | refine T.r0 fun K hK => ?_ | refine T.r1 fun K hK => ?_ | (refine ⟨by omega, ?_⟩) | refine T.ct rfl ?_ | refine T.cf rfl ?_ | refine T.seq ?_ | refine T.block ?_ | refine T.skip ?_ | refine T.exit ?_
  · simp only [hk, ne_eq, not_false_eq_true, decide_true, Bool.true_and]
    refine ACalls.of_body Tryd.func127 (by kernel_rfl) rfl (by kernel_rfl) (by simp [Tryd.ntmps127]) (by simp) ?_
    rw [Tryd.ntmps127]
    repeat' first | ((first | refine aops_end (hK _ ?_) | refine aopsD_end (hK _ ?_) | refine aopsF_end (hK _ ?_)); clear hK K) | ((first | refine aops_go ?_ | refine aopsD_go ?_ | refine aopsF_go ?_); simp [hk]; (try (refine gen fun q hq => ?_; cases q <;> (try simp [hk] at hq) <;> (try (have hh : True := hq; clear hh hq))))) | (refine wpcall_pure rfl (h1) ?_; simp [hk]; (try (refine gen fun q hq => ?_; cases q <;> (try simp [hk] at hq) <;> (try (have hh : True := hq; clear hh hq))))) | (refine wpcall_pure rfl (h2) ?_; simp [hk]; (try (refine gen fun q hq => ?_; cases q <;> (try simp [hk] at hq) <;> (try (have hh : True := hq; clear hh hq))))) | (refine T.ret (Done.data (Or.inr rfl) ?_ ?_) <;> simp [Tryd.results127, *] <;> omega) | refine T.rd (id := 1) mixed (fun _ => false) [] (by kernel_rfl) fun K hK => ?_ | refine T.rd1 (id := 1) mixed (fun _ => false) [] (by kernel_rfl) fun K hK => ?_ | refine T.r0 fun K hK => ?_ | refine T.r1 fun K hK => ?_ | (refine ⟨by omega, ?_⟩) | refine T.ct rfl ?_ | refine T.cf rfl ?_ | refine T.seq ?_ | refine T.block ?_ | refine T.skip ?_ | refine T.exit ?_

theorem l5Proxy_ok (e : MTm) : ACalls Tryd.prog 99 [aTm e] [] (.b (proxyM e)) [] [] := by
  rw [show proxyM e = (decide (e.kind = 14) && (decide (e.fr.kind = e.ty.kind) && (decide (e.fr.kind = 4) || decide (e.fr.kind = 5)))) by
    rw [proxyM]
    by_cases h : e.fr.kind = e.ty.kind
    · simp [h]
    · simp [h]]
  refine ACalls.of_body Tryd.func99 (by kernel_rfl) rfl (by kernel_rfl) (by simp [Tryd.ntmps99]) (by simp) ?_
  rw [Tryd.ntmps99]
  repeat' first | ((first | refine aops_end (hK _ ?_) | refine aopsD_end (hK _ ?_) | refine aopsF_end (hK _ ?_)); clear hK K) | ((first | refine aops_go ?_ | refine aopsD_go ?_ | refine aopsF_go ?_); simp; (try (refine gen fun q hq => ?_; cases q <;> (try simp at hq) <;> (try (have hh : True := hq; clear hh hq))))) | (refine T.ret (Done.data (Or.inr rfl) ?_ ?_) <;> simp [Tryd.results99, *] <;> omega) | refine T.r0 fun K hK => ?_ | refine T.r1 fun K hK => ?_ | (refine ⟨by omega, ?_⟩) | refine T.ct rfl ?_ | refine T.cf rfl ?_ | refine T.seq ?_ | refine T.block ?_ | refine T.skip ?_ | refine T.exit ?_

theorem l5Inject_ok (e : MTm) (h : e.kind = 14 → shapeTy 4 e.fr = true) : ACalls Tryd.prog 100 [aTm e] [] (.b (injM e)) [] [] := by
  rw [injM]
  by_cases hk : e.kind = 14
  · have h1 := l5Ground_ok e.fr (h hk)
    generalize isGroundM e.fr = q at *
    simp only [hk, decide_true, Bool.true_and]
    refine ACalls.of_body Tryd.func100 (by kernel_rfl) rfl (by kernel_rfl) (by simp [Tryd.ntmps100]) (by simp) ?_
    rw [Tryd.ntmps100]
    repeat' first | ((first | refine aops_end (hK _ ?_) | refine aopsD_end (hK _ ?_) | refine aopsF_end (hK _ ?_)); clear hK K) | ((first | refine aops_go ?_ | refine aopsD_go ?_ | refine aopsF_go ?_); simp [hk]; (try (refine gen fun q hq => ?_; cases q <;> (try simp [hk] at hq) <;> (try (have hh : True := hq; clear hh hq))))) | (refine wpcall_pure rfl (h1) ?_; simp [hk]; (try (refine gen fun q hq => ?_; cases q <;> (try simp [hk] at hq) <;> (try (have hh : True := hq; clear hh hq))))) | (refine T.ret (Done.data (Or.inr rfl) ?_ ?_) <;> simp [Tryd.results100, *] <;> omega) | refine T.r0 fun K hK => ?_ | refine T.r1 fun K hK => ?_ | (refine ⟨by omega, ?_⟩) | refine T.ct rfl ?_ | refine T.cf rfl ?_ | refine T.seq ?_ | refine T.block ?_ | refine T.skip ?_ | refine T.exit ?_
  · simp only [hk, decide_false, Bool.false_and]
    refine ACalls.of_body Tryd.func100 (by kernel_rfl) rfl (by kernel_rfl) (by simp [Tryd.ntmps100]) (by simp) ?_
    rw [Tryd.ntmps100]
    repeat' first | ((first | refine aops_end (hK _ ?_) | refine aopsD_end (hK _ ?_) | refine aopsF_end (hK _ ?_)); clear hK K) | ((first | refine aops_go ?_ | refine aopsD_go ?_ | refine aopsF_go ?_); simp [hk]; (try (refine gen fun q hq => ?_; cases q <;> (try simp [hk] at hq) <;> (try (have hh : True := hq; clear hh hq))))) | (refine T.ret (Done.data (Or.inr rfl) ?_ ?_) <;> simp [Tryd.results100] <;> omega) | refine T.r0 fun K hK => ?_ | refine T.r1 fun K hK => ?_ | (refine ⟨by omega, ?_⟩) | refine T.ct rfl ?_ | refine T.cf rfl ?_ | refine T.seq ?_ | refine T.block ?_ | refine T.skip ?_ | refine T.exit ?_

theorem l5Value_ok : ∀ (e : MTm) (d : Nat), TmV 13 d e → ACalls Tryd.prog 98 [aTm e] [] (.b (valM e)) [] [] := by
  intro e
  induction e using MTm.ind with
  | h e ih =>
    intro d hv
    have k1 := l5Proxy_ok e
    have k2 := l5Inject_ok e (fun h => by obtain ⟨_, x, f, t, l, _, rfl, _⟩ := hv.kind14 h; obtain ⟨_, _, hf, _⟩ := hv.inv_cast; simpa using hf)
    rcases hv.cases13 with ⟨s, rfl⟩ | ⟨k, rfl, h1, h2⟩ | rfl | rfl | ⟨s, t, b, rfl⟩ | ⟨a, f, t, l, rfl⟩ | ⟨k, a, rfl, hk, _, ha⟩ | ⟨p, a, b, rfl, _, hp⟩ | ⟨k, a, b, rfl, hk, ⟨_, ha⟩, _, hb⟩
    · rw [show valM (tVar s) = false by simp [valM_def, proxyM, injM, plainM]]
      rw [show proxyM (tVar s) = false by simp [proxyM]] at k1
      rw [show injM (tVar s) = false by simp [injM]] at k2
      refine ACalls.of_body Tryd.func98 (by kernel_rfl) rfl (by kernel_rfl) (by simp [Tryd.ntmps98]) (by simp) ?_
      rw [Tryd.ntmps98]
      repeat' first | ((first | refine aops_end (hK _ ?_) | refine aopsD_end (hK _ ?_) | refine aopsF_end (hK _ ?_)); clear hK K) | ((first | refine aops_go ?_ | refine aopsD_go ?_ | refine aopsF_go ?_); simp; (try (refine gen fun q hq => ?_; cases q <;> (try simp at hq) <;> (try (have hh : True := hq; clear hh hq))))) | (refine wpcall_pure ?_ (k1) ?_; (focus (solve | simp)); simp; (try (refine gen fun q hq => ?_; cases q <;> (try simp at hq) <;> (try (have hh : True := hq; clear hh hq))))) | (refine wpcall_pure ?_ (k2) ?_; (focus (solve | simp)); simp; (try (refine gen fun q hq => ?_; cases q <;> (try simp at hq) <;> (try (have hh : True := hq; clear hh hq))))) | (refine T.ret (Done.data (Or.inr rfl) ?_ ?_) <;> simp [Tryd.results98] <;> omega) | refine T.r0 fun K hK => ?_ | refine T.r1 fun K hK => ?_ | (refine ⟨by omega, ?_⟩) | refine T.ct rfl ?_ | refine T.cf rfl ?_ | refine T.seq ?_ | refine T.block ?_ | refine T.skip ?_ | refine T.exit ?_
    · rw [show valM (tNum k) = true by simp [valM_def, proxyM, injM, plainM]]
      refine ACalls.of_body Tryd.func98 (by kernel_rfl) rfl (by kernel_rfl) (by simp [Tryd.ntmps98]) (by simp) ?_
      rw [Tryd.ntmps98]
      repeat' first | ((first | refine aops_end (hK _ ?_) | refine aopsD_end (hK _ ?_) | refine aopsF_end (hK _ ?_)); clear hK K) | ((first | refine aops_go ?_ | refine aopsD_go ?_ | refine aopsF_go ?_); simp; (try (refine gen fun q hq => ?_; cases q <;> (try simp at hq) <;> (try (have hh : True := hq; clear hh hq))))) | (refine T.ret (Done.data (Or.inr rfl) ?_ ?_) <;> simp [Tryd.results98] <;> omega) | refine T.r0 fun K hK => ?_ | refine T.r1 fun K hK => ?_ | (refine ⟨by omega, ?_⟩) | refine T.ct rfl ?_ | refine T.cf rfl ?_ | refine T.seq ?_ | refine T.block ?_ | refine T.skip ?_ | refine T.exit ?_
    · rw [show valM tTrue = true by simp [valM_def, proxyM, injM, plainM]]
      refine ACalls.of_body Tryd.func98 (by kernel_rfl) rfl (by kernel_rfl) (by simp [Tryd.ntmps98]) (by simp) ?_
      rw [Tryd.ntmps98]
      repeat' first | ((first | refine aops_end (hK _ ?_) | refine aopsD_end (hK _ ?_) | refine aopsF_end (hK _ ?_)); clear hK K) | ((first | refine aops_go ?_ | refine aopsD_go ?_ | refine aopsF_go ?_); simp; (try (refine gen fun q hq => ?_; cases q <;> (try simp at hq) <;> (try (have hh : True := hq; clear hh hq))))) | (refine T.ret (Done.data (Or.inr rfl) ?_ ?_) <;> simp [Tryd.results98] <;> omega) | refine T.r0 fun K hK => ?_ | refine T.r1 fun K hK => ?_ | (refine ⟨by omega, ?_⟩) | refine T.ct rfl ?_ | refine T.cf rfl ?_ | refine T.seq ?_ | refine T.block ?_ | refine T.skip ?_ | refine T.exit ?_
    · rw [show valM tFalse = true by simp [valM_def, proxyM, injM, plainM]]
      refine ACalls.of_body Tryd.func98 (by kernel_rfl) rfl (by kernel_rfl) (by simp [Tryd.ntmps98]) (by simp) ?_
      rw [Tryd.ntmps98]
      repeat' first | ((first | refine aops_end (hK _ ?_) | refine aopsD_end (hK _ ?_) | refine aopsF_end (hK _ ?_)); clear hK K) | ((first | refine aops_go ?_ | refine aopsD_go ?_ | refine aopsF_go ?_); simp; (try (refine gen fun q hq => ?_; cases q <;> (try simp at hq) <;> (try (have hh : True := hq; clear hh hq))))) | (refine T.ret (Done.data (Or.inr rfl) ?_ ?_) <;> simp [Tryd.results98] <;> omega) | refine T.r0 fun K hK => ?_ | refine T.r1 fun K hK => ?_ | (refine ⟨by omega, ?_⟩) | refine T.ct rfl ?_ | refine T.cf rfl ?_ | refine T.seq ?_ | refine T.block ?_ | refine T.skip ?_ | refine T.exit ?_
    · rw [show valM (tLam s t b) = true by simp [valM_def, proxyM, injM, plainM]]
      refine ACalls.of_body Tryd.func98 (by kernel_rfl) rfl (by kernel_rfl) (by simp [Tryd.ntmps98]) (by simp) ?_
      rw [Tryd.ntmps98]
      repeat' first | ((first | refine aops_end (hK _ ?_) | refine aopsD_end (hK _ ?_) | refine aopsF_end (hK _ ?_)); clear hK K) | ((first | refine aops_go ?_ | refine aopsD_go ?_ | refine aopsF_go ?_); simp; (try (refine gen fun q hq => ?_; cases q <;> (try simp at hq) <;> (try (have hh : True := hq; clear hh hq))))) | (refine T.ret (Done.data (Or.inr rfl) ?_ ?_) <;> simp [Tryd.results98] <;> omega) | refine T.r0 fun K hK => ?_ | refine T.r1 fun K hK => ?_ | (refine ⟨by omega, ?_⟩) | refine T.ct rfl ?_ | refine T.cf rfl ?_ | refine T.seq ?_ | refine T.block ?_ | refine T.skip ?_ | refine T.exit ?_
    · obtain ⟨d', _, _, _, _, _, ha⟩ := hv.inv_cast
      have k3 := ih a (by simp) d' ha
      rw [show valM (tCast a f t l) = ((proxyM (tCast a f t l) || injM (tCast a f t l)) && valM a) by
        rw [valM_def]
        cases hq : (proxyM (tCast a f t l) || injM (tCast a f t l)) <;> simp [plainM]]
      generalize proxyM (tCast a f t l) = q1 at *
      generalize injM (tCast a f t l) = q2 at *
      generalize valM a = q3 at *
      refine ACalls.of_body Tryd.func98 (by kernel_rfl) rfl (by kernel_rfl) (by simp [Tryd.ntmps98]) (by simp) ?_
      rw [Tryd.ntmps98]
      repeat' first | ((first | refine aops_end (hK _ ?_) | refine aopsD_end (hK _ ?_) | refine aopsF_end (hK _ ?_)); clear hK K) | ((first | refine aops_go ?_ | refine aopsD_go ?_ | refine aopsF_go ?_); simp [eTm_def]; (try (refine gen fun q hq => ?_; cases q <;> (try simp [eTm_def] at hq) <;> (try (have hh : True := hq; clear hh hq))))) | (refine wpcall_pure ?_ (k1) ?_; (focus (solve | simp [eTm_def])); simp [eTm_def]; (try (refine gen fun q hq => ?_; cases q <;> (try simp [eTm_def] at hq) <;> (try (have hh : True := hq; clear hh hq))))) | (refine wpcall_pure ?_ (k2) ?_; (focus (solve | simp [eTm_def])); simp [eTm_def]; (try (refine gen fun q hq => ?_; cases q <;> (try simp [eTm_def] at hq) <;> (try (have hh : True := hq; clear hh hq))))) | (refine wpcall_pure ?_ (k3) ?_; (focus (solve | simp [eTm_def])); simp [eTm_def]; (try (refine gen fun q hq => ?_; cases q <;> (try simp [eTm_def] at hq) <;> (try (have hh : True := hq; clear hh hq))))) | (refine T.ret (Done.data (Or.inr rfl) ?_ ?_) <;> simp [Tryd.results98, *] <;> omega) | refine T.r0 fun K hK => ?_ | refine T.r1 fun K hK => ?_ | (refine ⟨by omega, ?_⟩) | refine T.ct rfl ?_ | refine T.cf rfl ?_ | refine T.seq ?_ | refine T.block ?_ | refine T.skip ?_ | refine T.exit ?_
    · have hk10 : ¬ k = 10 := by omega
      have hk14 : ¬ k = 14 := by omega
      have hk2 : ¬ k = 2 := by omega
      have hk3 : ¬ k = 3 := by omega
      have hk4 : ¬ k = 4 := by omega
      have hk5 : ¬ k = 5 := by omega
      rw [show valM (tN1 k a) = false by simp [valM_def, proxyM, injM, plainM, hk10, hk14, hk2, hk3, hk4, hk5]]
      rw [show proxyM (tN1 k a) = false by simp [proxyM, hk14]] at k1
      rw [show injM (tN1 k a) = false by simp [injM, hk14]] at k2
      refine ACalls.of_body Tryd.func98 (by kernel_rfl) rfl (by kernel_rfl) (by simp [Tryd.ntmps98]) (by simp) ?_
      rw [Tryd.ntmps98]
      repeat' first | ((first | refine aops_end (hK _ ?_) | refine aopsD_end (hK _ ?_) | refine aopsF_end (hK _ ?_)); clear hK K) | ((first | refine aops_go ?_ | refine aopsD_go ?_ | refine aopsF_go ?_); simp [eTm_def, hk10, hk14, hk2, hk3, hk4, hk5]; (try (refine gen fun q hq => ?_; cases q <;> (try simp [eTm_def, hk10, hk14, hk2, hk3, hk4, hk5] at hq) <;> (try (have hh : True := hq; clear hh hq))))) | (refine wpcall_pure ?_ (k1) ?_; (focus (solve | simp [eTm_def, hk10, hk14, hk2, hk3, hk4, hk5])); simp [eTm_def, hk10, hk14, hk2, hk3, hk4, hk5]; (try (refine gen fun q hq => ?_; cases q <;> (try simp [eTm_def, hk10, hk14, hk2, hk3, hk4, hk5] at hq) <;> (try (have hh : True := hq; clear hh hq))))) | (refine wpcall_pure ?_ (k2) ?_; (focus (solve | simp [eTm_def, hk10, hk14, hk2, hk3, hk4, hk5])); simp [eTm_def, hk10, hk14, hk2, hk3, hk4, hk5]; (try (refine gen fun q hq => ?_; cases q <;> (try simp [eTm_def, hk10, hk14, hk2, hk3, hk4, hk5] at hq) <;> (try (have hh : True := hq; clear hh hq))))) | (refine T.ret (Done.data (Or.inr rfl) ?_ ?_) <;> simp [Tryd.results98] <;> omega) | refine T.r0 fun K hK => ?_ | refine T.r1 fun K hK => ?_ | (refine ⟨by omega, ?_⟩) | refine T.ct rfl ?_ | refine T.cf rfl ?_ | refine T.seq ?_ | refine T.block ?_ | refine T.skip ?_ | refine T.exit ?_
    · rw [show valM (tIf p a b) = false by simp [valM_def, proxyM, injM, plainM]]
      rw [show proxyM (tIf p a b) = false by simp [proxyM]] at k1
      rw [show injM (tIf p a b) = false by simp [injM]] at k2
      refine ACalls.of_body Tryd.func98 (by kernel_rfl) rfl (by kernel_rfl) (by simp [Tryd.ntmps98]) (by simp) ?_
      rw [Tryd.ntmps98]
      repeat' first | ((first | refine aops_end (hK _ ?_) | refine aopsD_end (hK _ ?_) | refine aopsF_end (hK _ ?_)); clear hK K) | ((first | refine aops_go ?_ | refine aopsD_go ?_ | refine aopsF_go ?_); simp [eTm_def]; (try (refine gen fun q hq => ?_; cases q <;> (try simp [eTm_def] at hq) <;> (try (have hh : True := hq; clear hh hq))))) | (refine wpcall_pure ?_ (k1) ?_; (focus (solve | simp [eTm_def])); simp [eTm_def]; (try (refine gen fun q hq => ?_; cases q <;> (try simp [eTm_def] at hq) <;> (try (have hh : True := hq; clear hh hq))))) | (refine wpcall_pure ?_ (k2) ?_; (focus (solve | simp [eTm_def])); simp [eTm_def]; (try (refine gen fun q hq => ?_; cases q <;> (try simp [eTm_def] at hq) <;> (try (have hh : True := hq; clear hh hq))))) | (refine T.ret (Done.data (Or.inr rfl) ?_ ?_) <;> simp [Tryd.results98] <;> omega) | refine T.r0 fun K hK => ?_ | refine T.r1 fun K hK => ?_ | (refine ⟨by omega, ?_⟩) | refine T.ct rfl ?_ | refine T.cf rfl ?_ | refine T.seq ?_ | refine T.block ?_ | refine T.skip ?_ | refine T.exit ?_
    · by_cases hk10 : k = 10
      · subst hk10
        have k3 := ih a (by simp) _ ha
        have k4 := ih b (by simp) _ hb
        rw [show valM (tN2 10 a b) = (valM a && valM b) by simp [valM_def]]
        generalize valM a = q1 at *
        generalize valM b = q2 at *
        refine ACalls.of_body Tryd.func98 (by kernel_rfl) rfl (by kernel_rfl) (by simp [Tryd.ntmps98]) (by simp) ?_
        rw [Tryd.ntmps98]
        repeat' first | ((first | refine aops_end (hK _ ?_) | refine aopsD_end (hK _ ?_) | refine aopsF_end (hK _ ?_)); clear hK K) | ((first | refine aops_go ?_ | refine aopsD_go ?_ | refine aopsF_go ?_); simp [eTm_def]; (try (refine gen fun q hq => ?_; cases q <;> (try simp [eTm_def] at hq) <;> (try (have hh : True := hq; clear hh hq))))) | (refine wpcall_pure ?_ (k3) ?_; (focus (solve | simp [eTm_def])); simp [eTm_def]; (try (refine gen fun q hq => ?_; cases q <;> (try simp [eTm_def] at hq) <;> (try (have hh : True := hq; clear hh hq))))) | (refine wpcall_pure ?_ (k4) ?_; (focus (solve | simp [eTm_def])); simp [eTm_def]; (try (refine gen fun q hq => ?_; cases q <;> (try simp [eTm_def] at hq) <;> (try (have hh : True := hq; clear hh hq))))) | (refine T.ret (Done.data (Or.inr rfl) ?_ ?_) <;> simp [Tryd.results98, *] <;> omega) | refine T.r0 fun K hK => ?_ | refine T.r1 fun K hK => ?_ | (refine ⟨by omega, ?_⟩) | refine T.ct rfl ?_ | refine T.cf rfl ?_ | refine T.seq ?_ | refine T.block ?_ | refine T.skip ?_ | refine T.exit ?_
      · have hk14 : ¬ k = 14 := by omega
        have hk2 : ¬ k = 2 := by omega
        have hk3 : ¬ k = 3 := by omega
        have hk4 : ¬ k = 4 := by omega
        have hk5 : ¬ k = 5 := by omega
        rw [show valM (tN2 k a b) = false by simp [valM_def, proxyM, injM, plainM, hk10, hk14, hk2, hk3, hk4, hk5]]
        rw [show proxyM (tN2 k a b) = false by simp [proxyM, hk14]] at k1
        rw [show injM (tN2 k a b) = false by simp [injM, hk14]] at k2
        refine ACalls.of_body Tryd.func98 (by kernel_rfl) rfl (by kernel_rfl) (by simp [Tryd.ntmps98]) (by simp) ?_
        rw [Tryd.ntmps98]
        repeat' first | ((first | refine aops_end (hK _ ?_) | refine aopsD_end (hK _ ?_) | refine aopsF_end (hK _ ?_)); clear hK K) | ((first | refine aops_go ?_ | refine aopsD_go ?_ | refine aopsF_go ?_); simp [eTm_def, hk10, hk14, hk2, hk3, hk4, hk5]; (try (refine gen fun q hq => ?_; cases q <;> (try simp [eTm_def, hk10, hk14, hk2, hk3, hk4, hk5] at hq) <;> (try (have hh : True := hq; clear hh hq))))) | (refine wpcall_pure ?_ (k1) ?_; (focus (solve | simp [eTm_def, hk10, hk14, hk2, hk3, hk4, hk5])); simp [eTm_def, hk10, hk14, hk2, hk3, hk4, hk5]; (try (refine gen fun q hq => ?_; cases q <;> (try simp [eTm_def, hk10, hk14, hk2, hk3, hk4, hk5] at hq) <;> (try (have hh : True := hq; clear hh hq))))) | (refine wpcall_pure ?_ (k2) ?_; (focus (solve | simp [eTm_def, hk10, hk14, hk2, hk3, hk4, hk5])); simp [eTm_def, hk10, hk14, hk2, hk3, hk4, hk5]; (try (refine gen fun q hq => ?_; cases q <;> (try simp [eTm_def, hk10, hk14, hk2, hk3, hk4, hk5] at hq) <;> (try (have hh : True := hq; clear hh hq))))) | (refine T.ret (Done.data (Or.inr rfl) ?_ ?_) <;> simp [Tryd.results98] <;> omega) | refine T.r0 fun K hK => ?_ | refine T.r1 fun K hK => ?_ | (refine ⟨by omega, ?_⟩) | refine T.ct rfl ?_ | refine T.cf rfl ?_ | refine T.seq ?_ | refine T.block ?_ | refine T.skip ?_ | refine T.exit ?_

abbrev redR (e : MTm) : List AV := match ruleM e with
  | some x => [aTm x, .i 1, .i 0]
  | none => [aTm zeroE, .i 2, .i (wrongM e.kind)]

/-- The step, as_ the reference answers: nothing of a term that goes wrong. -/
def stepS (p : MTm × Int × Int) : MTm × Int × Int := if p.2.1 = 1 then (p.1, 1, 0) else (zeroE, p.2.1, p.2.2)

/-- A run, as_ the reference answers: nothing of a term that is not done. -/
def evR (p : MTm × Int × Int × Int) : MTm × Int × Int × Int := if p.2.1 = 1 then (zeroE, 5, 0, p.2.2.2) else p

end Go.Proofs.YtjllgkglfabhaaaDoor
