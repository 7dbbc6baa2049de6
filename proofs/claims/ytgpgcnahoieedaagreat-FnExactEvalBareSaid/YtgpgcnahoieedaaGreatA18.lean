/- A part of the library of this seat: a value-semantic program logic over the model, plain models, and walks of functions. -/
import Derived.Test.YtgpgcnahoieedaaGreatA17
set_option linter.unusedVariables false
set_option linter.unusedSimpArgs false
namespace Go.Proofs.YtgpgcnahoieedaaGreat
attribute [-simp] Go.Av.astepJ Go.Av.relC Go.Av.relL Go.Av.relV Go.Av.relVs Go.Av.callJ
open Go Go.Av
attribute [local irreducible] T ACalls TX EX LX Draws Some_ ACallsX eTy eTm MTy.kind MTy.kids MTm.kind MTm.name MTm.num MTm.ty MTm.fr MTm.label MTm.kids
attribute [local simp] eTy_def eTm_def
set_option maxHeartbeats 16000000
set_option maxRecDepth 8000
attribute [local simp] Option.bind

theorem l1Ground_ok (t : MTy) (hn : nTy t ≤ 1099511627776) : ACalls Tryz.prog 144 [aTy t] [] (aTy (.mk t.kind (List.replicate t.kids.length anyT))) [] [] := by
  have h1 := l1Any_ok
  have hlen := nTyS_len t.kids
  rw [nTy_def] at hn
  refine ACalls.of_body Tryz.func144 (by kernel_rfl) rfl (by kernel_rfl) (by simp [Tryz.ntmps144]) (by simp) ?_
  rw [Tryz.ntmps144]
  repeat' first | (refine aops_end (hK _ ?_); clear hK K) | (refine aops_go ?_; simp; (try (refine gen fun q hq => ?_; cases q <;> (try simp at hq) <;> (try (have hh : True := hq; clear hh hq))))) | refine T.r0 fun K hK => ?_ | refine T.seq ?_ | refine T.block ?_
  refine T.ownifyObj 2 1 2 31 (row := [.d (.i t.kind), .nil]) (by simp) (by simp) ?_
  refine T.loopF (fun p : Nat => ⟨[(1, .c (.ptr 0 0)), (2, .c (.ptr 1 0)), (3, .c (.ptr 2 0)), (4, .i p)], [(aTy t).cells, [.d (.i 0), .nil], [.d (.i t.kind), .own 0 p]], [{ sz := 2, ety := 31, rows := (List.replicate p anyT).map eTy, wr := true }]⟩) (fun p => t.kids.length + 1 - p) (fun p => p ≤ t.kids.length) (fun p hp => ?_) 0 (by simp) (by simp)
  by_cases hlt : p < t.kids.length
  · repeat' first | ((first | refine aops_end (hK _ ?_) | refine aopsD_end (hK _ ?_)); clear hK K) | ((first | refine aops_go ?_ | refine aopsD_go ?_); simp [hlt]; (try simp (disch := omega) only [wrap64]); (try (refine gen fun q hq => ?_; cases q <;> (try simp [hlt] at hq) <;> (try (have hh : True := hq; clear hh hq))))) | (refine wpcall_pure rfl (h1) ?_; simp [hlt]; (try simp (disch := omega) only [wrap64]); (try (refine gen fun q hq => ?_; cases q <;> (try simp [hlt] at hq) <;> (try (have hh : True := hq; clear hh hq))))) | (refine ⟨by omega, by omega, ?_⟩) | (refine ⟨p + 1, by dsimp only; omega, by omega, ?_, ?_, ?_⟩ <;> simp (disch := omega) [wrap64, List.replicate_succ', eTy_def]) | refine T.rd1 (id := 5) mixed (fun _ => false) [4, 6] (by kernel_rfl) fun K hK => ?_ | refine T.r0 fun K hK => ?_ | refine T.r1 fun K hK => ?_ | refine T.ct rfl ?_ | refine T.seq ?_ | refine T.block ?_ | refine T.skip ?_
  · have hp' : p = t.kids.length := by omega
    subst hp'
    repeat' first | (refine aops_end (hK _ ?_); clear hK K) | (refine aops_go ?_; simp [hlt]; (try (refine gen fun q hq => ?_; cases q <;> (try simp [hlt] at hq) <;> (try (have hh : True := hq; clear hh hq))))) | (refine T.ret (Done.val (Or.inr rfl) ?_) <;> simp [resAs, Tryz.results144] <;> omega) | refine T.r0 fun K hK => ?_ | refine T.cf rfl ?_ | refine T.seq ?_ | refine T.exit ?_

theorem l5Ground_ok (t : MTy) (ht : shapeTy 4 t = true) : ACalls Tryz.prog 118 [aTy t] [] (.b (isGroundM t)) [] [] := by
  have hs := shape4 ht
  have h1 := l1Ground_ok t (by omega)
  rw [show MTy.mk t.kind (List.replicate t.kids.length anyT) = groundT t.kind by cases VTy.of ht <;> simp [groundT]] at h1
  have h2 := TypeSameS_ok t (groundT t.kind) (by omega)
  rw [isGroundM]
  generalize sameTy t (groundT t.kind) = q at *
  generalize groundT t.kind = G at *
  by_cases hk : t.kind = 1
  · simp only [hk, ne_eq, not_true_eq_false, decide_false, Bool.false_and]
    refine ACalls.of_body Tryz.func118 (by kernel_rfl) rfl (by kernel_rfl) (by simp [Tryz.ntmps118]) (by simp) ?_
    rw [Tryz.ntmps118]
    repeat' first | ((first | refine aops_end (hK _ ?_) | refine aopsD_end (hK _ ?_)); clear hK K) | ((first | refine aops_go ?_ | refine aopsD_go ?_); simp [hk]; (try (refine gen fun q hq => ?_; cases q <;> (try simp [hk] at hq) <;> (try (have hh : True := hq; clear hh hq))))) | (refine T.ret (Done.data (Or.inr rfl) ?_ ?_) <;> simp [Tryz.results118] <;> omega) | refine T.rd (id := 1) mixed (fun _ => false) [] (by kernel_rfl) fun K hK => ?_ | refine T.r0 fun K hK => ?_
  · simp only [hk, ne_eq, not_false_eq_true, decide_true, Bool.true_and]
    refine ACalls.of_body Tryz.func118 (by kernel_rfl) rfl (by kernel_rfl) (by simp [Tryz.ntmps118]) (by simp) ?_
    rw [Tryz.ntmps118]
    repeat' first | ((first | refine aops_end (hK _ ?_) | refine aopsD_end (hK _ ?_)); clear hK K) | ((first | refine aops_go ?_ | refine aopsD_go ?_); simp [hk]; (try (refine gen fun q hq => ?_; cases q <;> (try simp [hk] at hq) <;> (try (have hh : True := hq; clear hh hq))))) | (refine wpcall_pure rfl (h1) ?_; simp [hk]; (try (refine gen fun q hq => ?_; cases q <;> (try simp [hk] at hq) <;> (try (have hh : True := hq; clear hh hq))))) | (refine wpcall_pure rfl (h2) ?_; simp [hk]; (try (refine gen fun q hq => ?_; cases q <;> (try simp [hk] at hq) <;> (try (have hh : True := hq; clear hh hq))))) | (refine T.ret (Done.data (Or.inr rfl) ?_ ?_) <;> simp [Tryz.results118, *] <;> omega) | refine T.rd (id := 1) mixed (fun _ => false) [] (by kernel_rfl) fun K hK => ?_ | refine T.r0 fun K hK => ?_

theorem l5Proxy_ok (e : MTm) : ACalls Tryz.prog 81 [aTm e] [] (.b (proxyM e)) [] [] := by
  rw [show proxyM e = (decide (e.kind = 14) && (decide (e.fr.kind = e.ty.kind) && (decide (e.fr.kind = 4) || decide (e.fr.kind = 5)))) by
    rw [proxyM]
    by_cases h : e.fr.kind = e.ty.kind
    · simp [h]
    · simp [h]]
  refine ACalls.of_body Tryz.func81 (by kernel_rfl) rfl (by kernel_rfl) (by simp [Tryz.ntmps81]) (by simp) ?_
  rw [Tryz.ntmps81]
  repeat' first | (refine aops_end (hK _ ?_); clear hK K) | (refine aops_go ?_; simp; (try (refine gen fun q hq => ?_; cases q <;> (try simp at hq) <;> (try (have hh : True := hq; clear hh hq))))) | (refine T.ret (Done.data (Or.inr rfl) ?_ ?_) <;> simp [Tryz.results81, *] <;> omega) | refine T.r0 fun K hK => ?_

theorem l5Inject_ok (e : MTm) (h : e.kind = 14 → shapeTy 4 e.fr = true) : ACalls Tryz.prog 82 [aTm e] [] (.b (injM e)) [] [] := by
  rw [injM]
  by_cases hk : e.kind = 14
  · have h1 := l5Ground_ok e.fr (h hk)
    generalize isGroundM e.fr = q at *
    simp only [hk, decide_true, Bool.true_and]
    refine ACalls.of_body Tryz.func82 (by kernel_rfl) rfl (by kernel_rfl) (by simp [Tryz.ntmps82]) (by simp) ?_
    rw [Tryz.ntmps82]
    repeat' first | (refine aops_end (hK _ ?_); clear hK K) | (refine aops_go ?_; simp [hk]; (try (refine gen fun q hq => ?_; cases q <;> (try simp [hk] at hq) <;> (try (have hh : True := hq; clear hh hq))))) | (refine wpcall_pure rfl (h1) ?_; simp [hk]; (try (refine gen fun q hq => ?_; cases q <;> (try simp [hk] at hq) <;> (try (have hh : True := hq; clear hh hq))))) | (refine T.ret (Done.data (Or.inr rfl) ?_ ?_) <;> simp [Tryz.results82, *] <;> omega) | refine T.r0 fun K hK => ?_
  · simp only [hk, decide_false, Bool.false_and]
    refine ACalls.of_body Tryz.func82 (by kernel_rfl) rfl (by kernel_rfl) (by simp [Tryz.ntmps82]) (by simp) ?_
    rw [Tryz.ntmps82]
    repeat' first | (refine aops_end (hK _ ?_); clear hK K) | (refine aops_go ?_; simp [hk]; (try (refine gen fun q hq => ?_; cases q <;> (try simp [hk] at hq) <;> (try (have hh : True := hq; clear hh hq))))) | (refine T.ret (Done.data (Or.inr rfl) ?_ ?_) <;> simp [Tryz.results82] <;> omega) | refine T.r0 fun K hK => ?_

theorem l5Value_ok : ∀ (e : MTm) (d : Nat), TmV 13 d e → ACalls Tryz.prog 56 [aTm e] [] (.b (valM e)) [] [] := by
  intro e
  induction e using MTm.ind with
  | h e ih =>
    intro d hv
    have k1 := l5Proxy_ok e
    have k2 := l5Inject_ok e (fun h => by obtain ⟨_, x, f, t, l, _, rfl, _⟩ := hv.kind14 h; obtain ⟨_, _, hf, _⟩ := hv.inv_cast; simpa using hf)
    rcases hv.cases13 with ⟨s, rfl⟩ | ⟨k, rfl, h1, h2⟩ | rfl | rfl | ⟨s, t, b, rfl⟩ | ⟨a, f, t, l, rfl⟩ | ⟨k, a, rfl, hk, _, ha⟩ | ⟨p, a, b, rfl, _, hp⟩ | ⟨k, a, b, rfl, hk, ⟨_, ha⟩, _, hb⟩
    · rw [show valM (tVar s) = false by simp [valM_def, proxyM, injM, plainM]]
      rw [show proxyM (tVar s) = false by simp [proxyM]] at k1
      rw [show injM (tVar s) = false by simp [injM]] at k2
      refine ACalls.of_body Tryz.func56 (by kernel_rfl) rfl (by kernel_rfl) (by simp [Tryz.ntmps56]) (by simp) ?_
      rw [Tryz.ntmps56]
      repeat' first | (refine aops_end (hK _ ?_); clear hK K) | (refine aops_go ?_; simp; (try (refine gen fun q hq => ?_; cases q <;> (try simp at hq) <;> (try (have hh : True := hq; clear hh hq))))) | (refine wpcall_pure ?_ (k1) ?_; (focus (solve | simp)); simp; (try (refine gen fun q hq => ?_; cases q <;> (try simp at hq) <;> (try (have hh : True := hq; clear hh hq))))) | (refine wpcall_pure ?_ (k2) ?_; (focus (solve | simp)); simp; (try (refine gen fun q hq => ?_; cases q <;> (try simp at hq) <;> (try (have hh : True := hq; clear hh hq))))) | (refine T.ret (Done.data (Or.inr rfl) ?_ ?_) <;> simp [Tryz.results56] <;> omega) | refine T.r0 fun K hK => ?_ | refine T.r1 fun K hK => ?_ | refine T.cf rfl ?_ | refine T.seq ?_ | refine T.block ?_ | refine T.skip ?_
    · rw [show valM (tNum k) = true by simp [valM_def, proxyM, injM, plainM]]
      refine ACalls.of_body Tryz.func56 (by kernel_rfl) rfl (by kernel_rfl) (by simp [Tryz.ntmps56]) (by simp) ?_
      rw [Tryz.ntmps56]
      repeat' first | (refine aops_end (hK _ ?_); clear hK K) | (refine aops_go ?_; simp; (try (refine gen fun q hq => ?_; cases q <;> (try simp at hq) <;> (try (have hh : True := hq; clear hh hq))))) | (refine T.ret (Done.data (Or.inr rfl) ?_ ?_) <;> simp [Tryz.results56] <;> omega) | refine T.r0 fun K hK => ?_ | refine T.ct rfl ?_ | refine T.seq ?_ | refine T.block ?_ | refine T.skip ?_
    · rw [show valM tTrue = true by simp [valM_def, proxyM, injM, plainM]]
      refine ACalls.of_body Tryz.func56 (by kernel_rfl) rfl (by kernel_rfl) (by simp [Tryz.ntmps56]) (by simp) ?_
      rw [Tryz.ntmps56]
      repeat' first | (refine aops_end (hK _ ?_); clear hK K) | (refine aops_go ?_; simp; (try (refine gen fun q hq => ?_; cases q <;> (try simp at hq) <;> (try (have hh : True := hq; clear hh hq))))) | (refine T.ret (Done.data (Or.inr rfl) ?_ ?_) <;> simp [Tryz.results56] <;> omega) | refine T.r0 fun K hK => ?_ | refine T.ct rfl ?_ | refine T.cf rfl ?_ | refine T.seq ?_ | refine T.block ?_ | refine T.skip ?_
    · rw [show valM tFalse = true by simp [valM_def, proxyM, injM, plainM]]
      refine ACalls.of_body Tryz.func56 (by kernel_rfl) rfl (by kernel_rfl) (by simp [Tryz.ntmps56]) (by simp) ?_
      rw [Tryz.ntmps56]
      repeat' first | (refine aops_end (hK _ ?_); clear hK K) | (refine aops_go ?_; simp; (try (refine gen fun q hq => ?_; cases q <;> (try simp at hq) <;> (try (have hh : True := hq; clear hh hq))))) | (refine T.ret (Done.data (Or.inr rfl) ?_ ?_) <;> simp [Tryz.results56] <;> omega) | refine T.r0 fun K hK => ?_ | refine T.ct rfl ?_ | refine T.cf rfl ?_ | refine T.seq ?_ | refine T.block ?_ | refine T.skip ?_
    · rw [show valM (tLam s t b) = true by simp [valM_def, proxyM, injM, plainM]]
      refine ACalls.of_body Tryz.func56 (by kernel_rfl) rfl (by kernel_rfl) (by simp [Tryz.ntmps56]) (by simp) ?_
      rw [Tryz.ntmps56]
      repeat' first | (refine aops_end (hK _ ?_); clear hK K) | (refine aops_go ?_; simp; (try (refine gen fun q hq => ?_; cases q <;> (try simp at hq) <;> (try (have hh : True := hq; clear hh hq))))) | (refine T.ret (Done.data (Or.inr rfl) ?_ ?_) <;> simp [Tryz.results56] <;> omega) | refine T.r0 fun K hK => ?_ | refine T.r1 fun K hK => ?_ | refine T.ct rfl ?_ | refine T.cf rfl ?_ | refine T.seq ?_ | refine T.block ?_
    · obtain ⟨d', _, _, _, _, _, ha⟩ := hv.inv_cast
      have k3 := ih a (by simp) d' ha
      rw [show valM (tCast a f t l) = ((proxyM (tCast a f t l) || injM (tCast a f t l)) && valM a) by
        rw [valM_def]
        cases hq : (proxyM (tCast a f t l) || injM (tCast a f t l)) <;> simp [plainM]]
      generalize proxyM (tCast a f t l) = q1 at *
      generalize injM (tCast a f t l) = q2 at *
      generalize valM a = q3 at *
      refine ACalls.of_body Tryz.func56 (by kernel_rfl) rfl (by kernel_rfl) (by simp [Tryz.ntmps56]) (by simp) ?_
      rw [Tryz.ntmps56]
      repeat' first | (refine aops_end (hK _ ?_); clear hK K) | (refine aops_go ?_; simp [eTm_def]; (try (refine gen fun q hq => ?_; cases q <;> (try simp [eTm_def] at hq) <;> (try (have hh : True := hq; clear hh hq))))) | (refine wpcall_pure ?_ (k1) ?_; (focus (solve | simp [eTm_def])); simp [eTm_def]; (try (refine gen fun q hq => ?_; cases q <;> (try simp [eTm_def] at hq) <;> (try (have hh : True := hq; clear hh hq))))) | (refine wpcall_pure ?_ (k2) ?_; (focus (solve | simp [eTm_def])); simp [eTm_def]; (try (refine gen fun q hq => ?_; cases q <;> (try simp [eTm_def] at hq) <;> (try (have hh : True := hq; clear hh hq))))) | (refine wpcall_pure ?_ (k3) ?_; (focus (solve | simp [eTm_def])); simp [eTm_def]; (try (refine gen fun q hq => ?_; cases q <;> (try simp [eTm_def] at hq) <;> (try (have hh : True := hq; clear hh hq))))) | (refine T.ret (Done.data (Or.inr rfl) ?_ ?_) <;> simp [Tryz.results56, *] <;> omega) | refine T.r0 fun K hK => ?_ | refine T.r1 fun K hK => ?_ | refine T.cf rfl ?_ | refine T.seq ?_ | refine T.block ?_ | refine T.skip ?_
    · have hk10 : ¬ k = 10 := by omega
      have hk14 : ¬ k = 14 := by omega
      have hk2 : ¬ k = 2 := by omega
      have hk3 : ¬ k = 3 := by omega
      have hk4 : ¬ k = 4 := by omega
      have hk5 : ¬ k = 5 := by omega
      rw [show valM (tN1 k a) = false by simp [valM_def, proxyM, injM, plainM, hk10, hk14, hk2, hk3, hk4, hk5]]
      rw [show proxyM (tN1 k a) = false by simp [proxyM, hk14]] at k1
      rw [show injM (tN1 k a) = false by simp [injM, hk14]] at k2
      refine ACalls.of_body Tryz.func56 (by kernel_rfl) rfl (by kernel_rfl) (by simp [Tryz.ntmps56]) (by simp) ?_
      rw [Tryz.ntmps56]
      repeat' first | (refine aops_end (hK _ ?_); clear hK K) | (refine aops_go ?_; simp [eTm_def, hk10, hk14, hk2, hk3, hk4, hk5]; (try (refine gen fun q hq => ?_; cases q <;> (try simp [eTm_def, hk10, hk14, hk2, hk3, hk4, hk5] at hq) <;> (try (have hh : True := hq; clear hh hq))))) | (refine wpcall_pure ?_ (k1) ?_; (focus (solve | simp [eTm_def, hk10, hk14, hk2, hk3, hk4, hk5])); simp [eTm_def, hk10, hk14, hk2, hk3, hk4, hk5]; (try (refine gen fun q hq => ?_; cases q <;> (try simp [eTm_def, hk10, hk14, hk2, hk3, hk4, hk5] at hq) <;> (try (have hh : True := hq; clear hh hq))))) | (refine wpcall_pure ?_ (k2) ?_; (focus (solve | simp [eTm_def, hk10, hk14, hk2, hk3, hk4, hk5])); simp [eTm_def, hk10, hk14, hk2, hk3, hk4, hk5]; (try (refine gen fun q hq => ?_; cases q <;> (try simp [eTm_def, hk10, hk14, hk2, hk3, hk4, hk5] at hq) <;> (try (have hh : True := hq; clear hh hq))))) | (refine T.ret (Done.data (Or.inr rfl) ?_ ?_) <;> simp [Tryz.results56] <;> omega) | refine T.r0 fun K hK => ?_ | refine T.r1 fun K hK => ?_ | refine T.cf rfl ?_ | refine T.seq ?_ | refine T.block ?_ | refine T.skip ?_
    · rw [show valM (tIf p a b) = false by simp [valM_def, proxyM, injM, plainM]]
      rw [show proxyM (tIf p a b) = false by simp [proxyM]] at k1
      rw [show injM (tIf p a b) = false by simp [injM]] at k2
      refine ACalls.of_body Tryz.func56 (by kernel_rfl) rfl (by kernel_rfl) (by simp [Tryz.ntmps56]) (by simp) ?_
      rw [Tryz.ntmps56]
      repeat' first | (refine aops_end (hK _ ?_); clear hK K) | (refine aops_go ?_; simp [eTm_def]; (try (refine gen fun q hq => ?_; cases q <;> (try simp [eTm_def] at hq) <;> (try (have hh : True := hq; clear hh hq))))) | (refine wpcall_pure ?_ (k1) ?_; (focus (solve | simp [eTm_def])); simp [eTm_def]; (try (refine gen fun q hq => ?_; cases q <;> (try simp [eTm_def] at hq) <;> (try (have hh : True := hq; clear hh hq))))) | (refine wpcall_pure ?_ (k2) ?_; (focus (solve | simp [eTm_def])); simp [eTm_def]; (try (refine gen fun q hq => ?_; cases q <;> (try simp [eTm_def] at hq) <;> (try (have hh : True := hq; clear hh hq))))) | (refine T.ret (Done.data (Or.inr rfl) ?_ ?_) <;> simp [Tryz.results56] <;> omega) | refine T.r0 fun K hK => ?_ | refine T.r1 fun K hK => ?_ | refine T.cf rfl ?_ | refine T.seq ?_ | refine T.block ?_ | refine T.skip ?_
    · by_cases hk10 : k = 10
      · subst hk10
        have k3 := ih a (by simp) _ ha
        have k4 := ih b (by simp) _ hb
        rw [show valM (tN2 10 a b) = (valM a && valM b) by simp [valM_def]]
        generalize valM a = q1 at *
        generalize valM b = q2 at *
        refine ACalls.of_body Tryz.func56 (by kernel_rfl) rfl (by kernel_rfl) (by simp [Tryz.ntmps56]) (by simp) ?_
        rw [Tryz.ntmps56]
        repeat' first | (refine aops_end (hK _ ?_); clear hK K) | (refine aops_go ?_; simp [eTm_def]; (try (refine gen fun q hq => ?_; cases q <;> (try simp [eTm_def] at hq) <;> (try (have hh : True := hq; clear hh hq))))) | (refine wpcall_pure ?_ (k3) ?_; (focus (solve | simp [eTm_def])); simp [eTm_def]; (try (refine gen fun q hq => ?_; cases q <;> (try simp [eTm_def] at hq) <;> (try (have hh : True := hq; clear hh hq))))) | (refine wpcall_pure ?_ (k4) ?_; (focus (solve | simp [eTm_def])); simp [eTm_def]; (try (refine gen fun q hq => ?_; cases q <;> (try simp [eTm_def] at hq) <;> (try (have hh : True := hq; clear hh hq))))) | (refine T.ret (Done.data (Or.inr rfl) ?_ ?_) <;> simp [Tryz.results56, *] <;> omega) | refine T.r0 fun K hK => ?_ | refine T.r1 fun K hK => ?_ | refine T.ct rfl ?_ | refine T.cf rfl ?_ | refine T.seq ?_ | refine T.block ?_
      · have hk14 : ¬ k = 14 := by omega
        have hk2 : ¬ k = 2 := by omega
        have hk3 : ¬ k = 3 := by omega
        have hk4 : ¬ k = 4 := by omega
        have hk5 : ¬ k = 5 := by omega
        rw [show valM (tN2 k a b) = false by simp [valM_def, proxyM, injM, plainM, hk10, hk14, hk2, hk3, hk4, hk5]]
        rw [show proxyM (tN2 k a b) = false by simp [proxyM, hk14]] at k1
        rw [show injM (tN2 k a b) = false by simp [injM, hk14]] at k2
        refine ACalls.of_body Tryz.func56 (by kernel_rfl) rfl (by kernel_rfl) (by simp [Tryz.ntmps56]) (by simp) ?_
        rw [Tryz.ntmps56]
        repeat' first | (refine aops_end (hK _ ?_); clear hK K) | (refine aops_go ?_; simp [eTm_def, hk10, hk14, hk2, hk3, hk4, hk5]; (try (refine gen fun q hq => ?_; cases q <;> (try simp [eTm_def, hk10, hk14, hk2, hk3, hk4, hk5] at hq) <;> (try (have hh : True := hq; clear hh hq))))) | (refine wpcall_pure ?_ (k1) ?_; (focus (solve | simp [eTm_def, hk10, hk14, hk2, hk3, hk4, hk5])); simp [eTm_def, hk10, hk14, hk2, hk3, hk4, hk5]; (try (refine gen fun q hq => ?_; cases q <;> (try simp [eTm_def, hk10, hk14, hk2, hk3, hk4, hk5] at hq) <;> (try (have hh : True := hq; clear hh hq))))) | (refine wpcall_pure ?_ (k2) ?_; (focus (solve | simp [eTm_def, hk10, hk14, hk2, hk3, hk4, hk5])); simp [eTm_def, hk10, hk14, hk2, hk3, hk4, hk5]; (try (refine gen fun q hq => ?_; cases q <;> (try simp [eTm_def, hk10, hk14, hk2, hk3, hk4, hk5] at hq) <;> (try (have hh : True := hq; clear hh hq))))) | (refine T.ret (Done.data (Or.inr rfl) ?_ ?_) <;> simp [Tryz.results56] <;> omega) | refine T.r0 fun K hK => ?_ | refine T.r1 fun K hK => ?_ | refine T.cf rfl ?_ | refine T.seq ?_ | refine T.block ?_ | refine T.skip ?_

theorem l5Bool_ok (b : Bool) : ACalls Tryz.prog 155 [.b b] [] (aTm (truthM b)) [] [] := by
  cases b
  · rw [show truthM false = tFalse from rfl]
    refine ACalls.of_body Tryz.func155 (by kernel_rfl) rfl (by kernel_rfl) (by simp [Tryz.ntmps155]) (by simp) ?_
    rw [Tryz.ntmps155]
    repeat' first | (refine aops_end (hK _ ?_); clear hK K) | (refine aops_go ?_; simp; (try (refine gen fun q hq => ?_; cases q <;> (try simp at hq) <;> (try (have hh : True := hq; clear hh hq))))) | (refine T.ret (Done.val (Or.inr rfl) ?_) <;> simp [resAs, Tryz.results155] <;> omega) | refine T.r0 fun K hK => ?_ | refine T.cf rfl ?_ | refine T.seq ?_ | refine T.skip ?_
  · rw [show truthM true = tTrue from rfl]
    refine ACalls.of_body Tryz.func155 (by kernel_rfl) rfl (by kernel_rfl) (by simp [Tryz.ntmps155]) (by simp) ?_
    rw [Tryz.ntmps155]
    repeat' first | (refine aops_end (hK _ ?_); clear hK K) | (refine aops_go ?_; simp; (try (refine gen fun q hq => ?_; cases q <;> (try simp at hq) <;> (try (have hh : True := hq; clear hh hq))))) | (refine T.ret (Done.val (Or.inr rfl) ?_) <;> simp [resAs, Tryz.results155] <;> omega) | refine T.r0 fun K hK => ?_ | refine T.ct rfl ?_ | refine T.seq ?_

theorem l5Number_add (m n : Int) (hm : 0 ≤ m ∧ m ≤ 999) (hn : 0 ≤ n ∧ n ≤ 999) : ACalls Tryz.prog 145 [.i 7, aTm (tNum m), aTm (tNum n)] [] (.tup [aTm (tNum ((m + n).tmod 1000)), .i 1, .i 0]) [] [] := by
  have h1 := l2Num_ok ((m + n).tmod 1000)
  refine ACalls.of_body Tryz.func145 (by kernel_rfl) rfl (by kernel_rfl) (by simp [Tryz.ntmps145]) (by simp) ?_
  rw [Tryz.ntmps145]
  repeat' first | (refine aops_end (hK _ ?_); clear hK K) | (refine aops_go ?_; simp; (try simp (disch := omega) only [wrap64]); (try (refine gen fun q hq => ?_; cases q <;> (try simp at hq) <;> (try (have hh : True := hq; clear hh hq))))) | (refine wpcall_pure rfl (h1) ?_; simp; (try simp (disch := omega) only [wrap64]); (try (refine gen fun q hq => ?_; cases q <;> (try simp at hq) <;> (try (have hh : True := hq; clear hh hq))))) | (refine T.ret (Done.tup (Or.inr rfl) ?_) <;> simp [resAs, Tryz.results145] <;> omega) | refine T.r0 fun K hK => ?_ | refine T.ct rfl ?_ | refine T.cf rfl ?_ | refine T.seq ?_ | refine T.skip ?_

theorem l5Number_less (m n : Int) : ACalls Tryz.prog 145 [.i 8, aTm (tNum m), aTm (tNum n)] [] (.tup [aTm (truthM (decide (m < n))), .i 1, .i 0]) [] [] := by
  by_cases hmn : m < n
  · have h1 := l5Bool_ok true
    rw [show decide (m < n) = true by simp [hmn]]
    rw [show truthM true = tTrue from rfl] at h1 ⊢
    refine ACalls.of_body Tryz.func145 (by kernel_rfl) rfl (by kernel_rfl) (by simp [Tryz.ntmps145]) (by simp) ?_
    rw [Tryz.ntmps145]
    repeat' first | (refine aops_end (hK _ ?_); clear hK K) | (refine aops_go ?_; simp [hmn]; (try simp (disch := omega) only [wrap64]); (try (refine gen fun q hq => ?_; cases q <;> (try simp [hmn] at hq) <;> (try (have hh : True := hq; clear hh hq))))) | (refine wpcall_pure rfl (h1) ?_; simp [hmn]; (try simp (disch := omega) only [wrap64]); (try (refine gen fun q hq => ?_; cases q <;> (try simp [hmn] at hq) <;> (try (have hh : True := hq; clear hh hq))))) | (refine T.ret (Done.tup (Or.inr rfl) ?_) <;> simp [resAs, Tryz.results145] <;> omega) | refine T.r0 fun K hK => ?_ | refine T.cf rfl ?_ | refine T.seq ?_ | refine T.skip ?_
  · have h1 := l5Bool_ok false
    rw [show decide (m < n) = false by simp [hmn]]
    rw [show truthM false = tFalse from rfl] at h1 ⊢
    refine ACalls.of_body Tryz.func145 (by kernel_rfl) rfl (by kernel_rfl) (by simp [Tryz.ntmps145]) (by simp) ?_
    rw [Tryz.ntmps145]
    repeat' first | (refine aops_end (hK _ ?_); clear hK K) | (refine aops_go ?_; simp [hmn]; (try simp (disch := omega) only [wrap64]); (try (refine gen fun q hq => ?_; cases q <;> (try simp [hmn] at hq) <;> (try (have hh : True := hq; clear hh hq))))) | (refine wpcall_pure rfl (h1) ?_; simp [hmn]; (try simp (disch := omega) only [wrap64]); (try (refine gen fun q hq => ?_; cases q <;> (try simp [hmn] at hq) <;> (try (have hh : True := hq; clear hh hq))))) | (refine T.ret (Done.tup (Or.inr rfl) ?_) <;> simp [resAs, Tryz.results145] <;> omega) | refine T.r0 fun K hK => ?_ | refine T.cf rfl ?_ | refine T.seq ?_ | refine T.skip ?_

theorem l5Number_bad (k : Int) (a b : MTm) (h : ¬ (a.kind = 2 ∧ b.kind = 2)) : ACalls Tryz.prog 145 [.i k, aTm a, aTm b] [] (.tup [aTm zeroE, .i 3, .i 0]) [] [] := by
  by_cases ha : a.kind = 2
  · have hb : ¬ b.kind = 2 := fun hb => h ⟨ha, hb⟩
    refine ACalls.of_body Tryz.func145 (by kernel_rfl) rfl (by kernel_rfl) (by simp [Tryz.ntmps145]) (by simp) ?_
    rw [Tryz.ntmps145]
    repeat' first | (refine aops_end (hK _ ?_); clear hK K) | (refine aops_go ?_; simp [ha, hb]; (try (refine gen fun q hq => ?_; cases q <;> (try simp [ha, hb] at hq) <;> (try (have hh : True := hq; clear hh hq))))) | (refine T.ret (Done.tup (Or.inr rfl) ?_) <;> simp [resAs, Tryz.results145] <;> omega) | refine T.r0 fun K hK => ?_ | refine T.ct rfl ?_ | refine T.seq ?_
  · refine ACalls.of_body Tryz.func145 (by kernel_rfl) rfl (by kernel_rfl) (by simp [Tryz.ntmps145]) (by simp) ?_
    rw [Tryz.ntmps145]
    repeat' first | (refine aops_end (hK _ ?_); clear hK K) | (refine aops_go ?_; simp [ha]; (try (refine gen fun q hq => ?_; cases q <;> (try simp [ha] at hq) <;> (try (have hh : True := hq; clear hh hq))))) | (refine T.ret (Done.tup (Or.inr rfl) ?_) <;> simp [resAs, Tryz.results145] <;> omega) | refine T.r0 fun K hK => ?_ | refine T.ct rfl ?_ | refine T.seq ?_

abbrev redR (e : MTm) : List AV := match ruleM e with
  | some x => [aTm x, .i 1, .i 0]
  | none => [aTm zeroE, .i 2, .i (wrongM e.kind)]

theorem l13Number_ok (k : Int) (a b : MTm) (hk : k = 7 ∨ k = 8) {da db : Nat} (ha : TmV 13 da a) (hb : TmV 13 db b) : ACalls Tryz.prog 119 [aTm (tN2 k a b)] [] (.tup (redR (tN2 k a b))) [] [] := by
  by_cases h2 : a.kind = 2 ∧ b.kind = 2
  · obtain ⟨m, rfl, hm⟩ := ha.kind2 h2.1
    obtain ⟨n, rfl, hn⟩ := hb.kind2 h2.2
    rcases hk with rfl | rfl
    · have h1 := l5Number_add m n hm hn
      rw [show redR (tN2 7 (tNum m) (tNum n)) = [aTm (tNum ((m + n).tmod 1000)), .i 1, .i 0] by simp [redR, ruleM]]
      refine ACalls.of_body Tryz.func119 (by kernel_rfl) rfl (by kernel_rfl) (by simp [Tryz.ntmps119]) (by simp) ?_
      rw [Tryz.ntmps119]
      repeat' first | ((first | refine aops_end (hK _ ?_) | refine aopsF_end (hK _ ?_)); clear hK K) | ((first | refine aops_go ?_ | refine aopsF_go ?_); simp [eTm_def]; (try (refine gen fun q hq => ?_; cases q <;> (try simp [eTm_def] at hq) <;> (try (have hh : True := hq; clear hh hq))))) | (refine wpcall_pure ?_ (h1) ?_; (focus (solve | simp [eTm_def])); simp [eTm_def]; (try (refine gen fun q hq => ?_; cases q <;> (try simp [eTm_def] at hq) <;> (try (have hh : True := hq; clear hh hq))))) | (refine T.ret (Done.tup (Or.inr rfl) ?_) <;> simp [resAs, Tryz.results119] <;> omega) | refine T.rdF (id := 1) mixed (fun _ => false) [15, 16] [1, 3, 4, 5, 7, 8, 9, 10] 16 [] (by kernel_rfl) fun K hK => ?_ | (refine ⟨?_, ?_⟩; (focus (intros; refine wpcall_pure ?_ (h1) ?_; (focus (solve | simp [eTm_def])); simp; done))) | refine T.r0 fun K hK => ?_ | refine T.cf rfl ?_ | refine T.seq ?_ | refine T.skip ?_
    · have h1 := l5Number_less m n
      by_cases hmn : m < n
      · rw [show decide (m < n) = true by simp [hmn], show truthM true = tTrue from rfl] at h1
        rw [show redR (tN2 8 (tNum m) (tNum n)) = [aTm tTrue, .i 1, .i 0] by simp [redR, ruleM, truthM, hmn]]
        refine ACalls.of_body Tryz.func119 (by kernel_rfl) rfl (by kernel_rfl) (by simp [Tryz.ntmps119]) (by simp) ?_
        rw [Tryz.ntmps119]
        repeat' first | ((first | refine aops_end (hK _ ?_) | refine aopsF_end (hK _ ?_)); clear hK K) | ((first | refine aops_go ?_ | refine aopsF_go ?_); simp [eTm_def]; (try (refine gen fun q hq => ?_; cases q <;> (try simp [eTm_def] at hq) <;> (try (have hh : True := hq; clear hh hq))))) | (refine wpcall_pure ?_ (h1) ?_; (focus (solve | simp [eTm_def])); simp [eTm_def]; (try (refine gen fun q hq => ?_; cases q <;> (try simp [eTm_def] at hq) <;> (try (have hh : True := hq; clear hh hq))))) | (refine T.ret (Done.tup (Or.inr rfl) ?_) <;> simp [resAs, Tryz.results119] <;> omega) | refine T.rdF (id := 1) mixed (fun _ => false) [15, 16] [1, 3, 4, 5, 7, 8, 9, 10] 16 [] (by kernel_rfl) fun K hK => ?_ | (refine ⟨?_, ?_⟩; (focus (intros; refine wpcall_pure ?_ (h1) ?_; (focus (solve | simp [eTm_def])); simp; done))) | refine T.r0 fun K hK => ?_ | refine T.cf rfl ?_ | refine T.seq ?_ | refine T.skip ?_
      · rw [show decide (m < n) = false by simp [hmn], show truthM false = tFalse from rfl] at h1
        rw [show redR (tN2 8 (tNum m) (tNum n)) = [aTm tFalse, .i 1, .i 0] by simp [redR, ruleM, truthM, hmn]]
        refine ACalls.of_body Tryz.func119 (by kernel_rfl) rfl (by kernel_rfl) (by simp [Tryz.ntmps119]) (by simp) ?_
        rw [Tryz.ntmps119]
        repeat' first | ((first | refine aops_end (hK _ ?_) | refine aopsF_end (hK _ ?_)); clear hK K) | ((first | refine aops_go ?_ | refine aopsF_go ?_); simp [eTm_def]; (try (refine gen fun q hq => ?_; cases q <;> (try simp [eTm_def] at hq) <;> (try (have hh : True := hq; clear hh hq))))) | (refine wpcall_pure ?_ (h1) ?_; (focus (solve | simp [eTm_def])); simp [eTm_def]; (try (refine gen fun q hq => ?_; cases q <;> (try simp [eTm_def] at hq) <;> (try (have hh : True := hq; clear hh hq))))) | (refine T.ret (Done.tup (Or.inr rfl) ?_) <;> simp [resAs, Tryz.results119] <;> omega) | refine T.rdF (id := 1) mixed (fun _ => false) [15, 16] [1, 3, 4, 5, 7, 8, 9, 10] 16 [] (by kernel_rfl) fun K hK => ?_ | (refine ⟨?_, ?_⟩; (focus (intros; refine wpcall_pure ?_ (h1) ?_; (focus (solve | simp [eTm_def])); simp; done))) | refine T.r0 fun K hK => ?_ | refine T.cf rfl ?_ | refine T.seq ?_ | refine T.skip ?_
  · have h1 := l5Number_bad k a b h2
    rcases hk with rfl | rfl
    · rw [show redR (tN2 7 a b) = [aTm zeroE, .i 2, .i 2] by simp [redR, ruleM, h2, wrongM]]
      refine ACalls.of_body Tryz.func119 (by kernel_rfl) rfl (by kernel_rfl) (by simp [Tryz.ntmps119]) (by simp) ?_
      rw [Tryz.ntmps119]
      repeat' first | ((first | refine aops_end (hK _ ?_) | refine aopsF_end (hK _ ?_)); clear hK K) | ((first | refine aops_go ?_ | refine aopsF_go ?_); simp [eTm_def]; (try (refine gen fun q hq => ?_; cases q <;> (try simp [eTm_def] at hq) <;> (try (have hh : True := hq; clear hh hq))))) | (refine wpcall_pure ?_ (h1) ?_; (focus (solve | simp [eTm_def])); simp [eTm_def]; (try (refine gen fun q hq => ?_; cases q <;> (try simp [eTm_def] at hq) <;> (try (have hh : True := hq; clear hh hq))))) | (refine T.ret (Done.tup (Or.inr rfl) ?_) <;> simp [resAs, Tryz.results119] <;> omega) | refine T.rdF (id := 1) mixed (fun _ => false) [15, 16] [1, 3, 4, 5, 7, 8, 9, 10] 16 [] (by kernel_rfl) fun K hK => ?_ | (refine ⟨?_, ?_⟩; (focus (intros; refine wpcall_pure ?_ (h1) ?_; (focus (solve | simp [eTm_def])); simp; done))) | refine T.r0 fun K hK => ?_ | refine T.ct rfl ?_ | refine T.seq ?_
    · rw [show redR (tN2 8 a b) = [aTm zeroE, .i 2, .i 2] by simp [redR, ruleM, h2, wrongM]]
      refine ACalls.of_body Tryz.func119 (by kernel_rfl) rfl (by kernel_rfl) (by simp [Tryz.ntmps119]) (by simp) ?_
      rw [Tryz.ntmps119]
      repeat' first | ((first | refine aops_end (hK _ ?_) | refine aopsF_end (hK _ ?_)); clear hK K) | ((first | refine aops_go ?_ | refine aopsF_go ?_); simp [eTm_def]; (try (refine gen fun q hq => ?_; cases q <;> (try simp [eTm_def] at hq) <;> (try (have hh : True := hq; clear hh hq))))) | (refine wpcall_pure ?_ (h1) ?_; (focus (solve | simp [eTm_def])); simp [eTm_def]; (try (refine gen fun q hq => ?_; cases q <;> (try simp [eTm_def] at hq) <;> (try (have hh : True := hq; clear hh hq))))) | (refine T.ret (Done.tup (Or.inr rfl) ?_) <;> simp [resAs, Tryz.results119] <;> omega) | refine T.rdF (id := 1) mixed (fun _ => false) [15, 16] [1, 3, 4, 5, 7, 8, 9, 10] 16 [] (by kernel_rfl) fun K hK => ?_ | (refine ⟨?_, ?_⟩; (focus (intros; refine wpcall_pure ?_ (h1) ?_; (focus (solve | simp [eTm_def])); simp; done))) | refine T.r0 fun K hK => ?_ | refine T.ct rfl ?_ | refine T.seq ?_

theorem l2Subst_n1 (v : MTm) (x : List UInt8) (e : MTm) (h1 : e.kind = 1) (hx : ¬ e.name = x) (hn : nTm e ≤ 1073741824)
    (ih : ∀ u ∈ e.kids, ACalls Tryz.prog 120 [aTm u, .s x, aTm v] [] (aTm (substM x v u)) [] []) : ACalls Tryz.prog 120 [aTm e, .s x, aTm v] [] (aTm (.mk e.kind e.name e.num e.ty e.fr e.label (e.kids.map (substM x v)))) [] [] := by
  obtain ⟨hnt, hnf, hnk, hnu⟩ := nTm_parts (show nTm e ≤ 1099511627776 by omega)
  have hnk2 : e.kids.length ≤ 1073741824 := by have := nTmS_len e.kids; rw [nTm_def] at hn; omega
  have k1 := l1Copy_ok e.ty hnt
  have k2 := l1Copy_ok e.fr hnf
  refine ACalls.of_body Tryz.func120 (by kernel_rfl) rfl (by kernel_rfl) (by simp [Tryz.ntmps120]) (by simp) ?_
  rw [Tryz.ntmps120]
  repeat' first | (refine aops_end (hK _ ?_); clear hK K) | (refine aops_go ?_; simp [h1, hx]; (try (refine gen fun q hq => ?_; cases q <;> (try simp [h1, hx] at hq) <;> (try (have hh : True := hq; clear hh hq))))) | (refine wpcall_pure rfl (k1) ?_; simp [h1, hx]; (try (refine gen fun q hq => ?_; cases q <;> (try simp [h1, hx] at hq) <;> (try (have hh : True := hq; clear hh hq))))) | (refine wpcall_pure rfl (k2) ?_; simp [h1, hx]; (try (refine gen fun q hq => ?_; cases q <;> (try simp [h1, hx] at hq) <;> (try (have hh : True := hq; clear hh hq))))) | refine T.r0 fun K hK => ?_ | refine T.cf rfl ?_ | refine T.seq ?_ | refine T.block ?_ | refine T.skip ?_
  refine T.ownifyObj 3 8 9 34 (row := [.d (.i 1), .d (.str e.name), .d (.i e.num), .d (.i e.ty.kind), .d (.sl (e.ty.kids.map eTy)), .d (.i e.fr.kind), .d (.sl (e.fr.kids.map eTy)), .d (.i e.label), .nil]) (by simp) (by simp) ?_
  refine T.loopK (α := Nat) [1, 3, 5, 6, 7] (fun x => [(8, .i x)]) (fun x => [(3, [.d (.i 1), .d (.str e.name), .d (.i e.num), .d (.i e.ty.kind), .d (.sl (e.ty.kids.map eTy)), .d (.i e.fr.kind), .d (.sl (e.fr.kids.map eTy)), .d (.i e.label), .own 0 x])]) (fun x => []) (fun p _ => [{ sz := 9, ety := 34, rows := ((e.kids.map (substM x v)).take p).map eTm, wr := true }]) (fun x => e.kids.length + 1 - x) (fun x => x ≤ e.kids.length) (by simp; rfl) (fun p hp => ?_) 0 (by simp) (by simp) (by simp) (by simp)
  dsimp only at hp ⊢
  simp only [ups, List.set_cons_zero, List.set_cons_succ, List.cons_append, List.nil_append, List.append_nil]
  by_cases hlt : p < e.kids.length
  · obtain ⟨u, ht⟩ := get_lt hlt
    have htm : u ∈ e.kids := List.mem_of_getElem? ht
    have hgt : e.kids[p] = u := by rw [List.getElem?_eq_getElem hlt] at ht; exact Option.some.inj ht
    have hdr : e.kids.drop p = u :: e.kids.drop (p + 1) := by rw [List.drop_eq_getElem_cons hlt, hgt]
    have hu := ih u htm
    have htk : (e.kids.map (substM x v)).take (p + 1) = (e.kids.map (substM x v)).take p ++ [substM x v u] := by rw [List.take_add_one, List.getElem?_map, ht]; rfl
    have hlm : min p (e.kids.map (substM x v)).length = p := by simp; omega
    generalize e.kids.map (substM x v) = Z at *
    generalize substM x v u = su at *
    repeat' first | ((first | refine aops_end (hK _ ?_) | refine aopsD_end (hK _ ?_)); clear hK K) | ((first | refine aops_go ?_ | refine aopsD_go ?_); simp [hlt, hgt, hlm]; (try simp (disch := omega) only [wrap64]); (try (refine gen fun q hq => ?_; cases q <;> (try simp [hlt, hgt, hlm] at hq) <;> (try (have hh : True := hq; clear hh hq))))) | (refine wpcall_pure rfl (hu) ?_; simp [hlt, hgt, hlm]; (try simp (disch := omega) only [wrap64]); (try (refine gen fun q hq => ?_; cases q <;> (try simp [hlt, hgt, hlm] at hq) <;> (try (have hh : True := hq; clear hh hq))))) | (refine ⟨by omega, by omega, ?_⟩) | (refine ⟨p + 1, by dsimp only; omega, by dsimp only; omega, ?_, ?_, ?_⟩ <;> simp (disch := omega) [ups, wrap64, htk, eTm_def, hlm]) | refine T.rd1 (id := 12) mixed (fun _ => false) [11, 13] (by kernel_rfl) fun K hK => ?_ | refine T.r0 fun K hK => ?_ | refine T.r1 fun K hK => ?_ | refine T.ct rfl ?_ | refine T.seq ?_ | refine T.block ?_ | refine T.skip ?_
  · have hp' : p = e.kids.length := by omega
    subst hp'
    have hlm : (e.kids.map (substM x v)).length = e.kids.length := by simp
    rw [List.take_of_length_le (by omega)]
    generalize e.kids.map (substM x v) = Z at *
    repeat' first | (refine aops_end (hK _ ?_); clear hK K) | (refine aops_go ?_; simp [hlt, hlm]; (try (refine gen fun q hq => ?_; cases q <;> (try simp [hlt, hlm] at hq) <;> (try (have hh : True := hq; clear hh hq))))) | (refine T.ret (Done.val (Or.inr rfl) ?_) <;> simp [resAs, Tryz.results120, hlm, h1] <;> omega) | refine T.r0 fun K hK => ?_ | refine T.cf rfl ?_ | refine T.seq ?_ | refine T.exit ?_

theorem l2Subst_n5 (v : MTm) (x : List UInt8) (e : MTm) (h5 : e.kind = 5) (hx : ¬ e.name = x) (hn : nTm e ≤ 1073741824)
    (ih : ∀ u ∈ e.kids, ACalls Tryz.prog 120 [aTm u, .s x, aTm v] [] (aTm (substM x v u)) [] []) : ACalls Tryz.prog 120 [aTm e, .s x, aTm v] [] (aTm (.mk e.kind e.name e.num e.ty e.fr e.label (e.kids.map (substM x v)))) [] [] := by
  obtain ⟨hnt, hnf, hnk, hnu⟩ := nTm_parts (show nTm e ≤ 1099511627776 by omega)
  have hnk2 : e.kids.length ≤ 1073741824 := by have := nTmS_len e.kids; rw [nTm_def] at hn; omega
  have k1 := l1Copy_ok e.ty hnt
  have k2 := l1Copy_ok e.fr hnf
  refine ACalls.of_body Tryz.func120 (by kernel_rfl) rfl (by kernel_rfl) (by simp [Tryz.ntmps120]) (by simp) ?_
  rw [Tryz.ntmps120]
  repeat' first | (refine aops_end (hK _ ?_); clear hK K) | (refine aops_go ?_; simp [h5, hx]; (try (refine gen fun q hq => ?_; cases q <;> (try simp [h5, hx] at hq) <;> (try (have hh : True := hq; clear hh hq))))) | (refine wpcall_pure rfl (k1) ?_; simp [h5, hx]; (try (refine gen fun q hq => ?_; cases q <;> (try simp [h5, hx] at hq) <;> (try (have hh : True := hq; clear hh hq))))) | (refine wpcall_pure rfl (k2) ?_; simp [h5, hx]; (try (refine gen fun q hq => ?_; cases q <;> (try simp [h5, hx] at hq) <;> (try (have hh : True := hq; clear hh hq))))) | refine T.r0 fun K hK => ?_ | refine T.cf rfl ?_ | refine T.seq ?_ | refine T.block ?_ | refine T.skip ?_
  refine T.ownifyObj 3 8 9 34 (row := [.d (.i 5), .d (.str e.name), .d (.i e.num), .d (.i e.ty.kind), .d (.sl (e.ty.kids.map eTy)), .d (.i e.fr.kind), .d (.sl (e.fr.kids.map eTy)), .d (.i e.label), .nil]) (by simp) (by simp) ?_
  refine T.loopK (α := Nat) [1, 3, 5, 6, 7] (fun x => [(8, .i x)]) (fun x => [(3, [.d (.i 5), .d (.str e.name), .d (.i e.num), .d (.i e.ty.kind), .d (.sl (e.ty.kids.map eTy)), .d (.i e.fr.kind), .d (.sl (e.fr.kids.map eTy)), .d (.i e.label), .own 0 x])]) (fun x => []) (fun p _ => [{ sz := 9, ety := 34, rows := ((e.kids.map (substM x v)).take p).map eTm, wr := true }]) (fun x => e.kids.length + 1 - x) (fun x => x ≤ e.kids.length) (by simp; rfl) (fun p hp => ?_) 0 (by simp) (by simp) (by simp) (by simp)
  dsimp only at hp ⊢
  simp only [ups, List.set_cons_zero, List.set_cons_succ, List.cons_append, List.nil_append, List.append_nil]
  by_cases hlt : p < e.kids.length
  · obtain ⟨u, ht⟩ := get_lt hlt
    have htm : u ∈ e.kids := List.mem_of_getElem? ht
    have hgt : e.kids[p] = u := by rw [List.getElem?_eq_getElem hlt] at ht; exact Option.some.inj ht
    have hdr : e.kids.drop p = u :: e.kids.drop (p + 1) := by rw [List.drop_eq_getElem_cons hlt, hgt]
    have hu := ih u htm
    have htk : (e.kids.map (substM x v)).take (p + 1) = (e.kids.map (substM x v)).take p ++ [substM x v u] := by rw [List.take_add_one, List.getElem?_map, ht]; rfl
    have hlm : min p (e.kids.map (substM x v)).length = p := by simp; omega
    generalize e.kids.map (substM x v) = Z at *
    generalize substM x v u = su at *
    repeat' first | ((first | refine aops_end (hK _ ?_) | refine aopsD_end (hK _ ?_)); clear hK K) | ((first | refine aops_go ?_ | refine aopsD_go ?_); simp [hlt, hgt, hlm]; (try simp (disch := omega) only [wrap64]); (try (refine gen fun q hq => ?_; cases q <;> (try simp [hlt, hgt, hlm] at hq) <;> (try (have hh : True := hq; clear hh hq))))) | (refine wpcall_pure rfl (hu) ?_; simp [hlt, hgt, hlm]; (try simp (disch := omega) only [wrap64]); (try (refine gen fun q hq => ?_; cases q <;> (try simp [hlt, hgt, hlm] at hq) <;> (try (have hh : True := hq; clear hh hq))))) | (refine ⟨by omega, by omega, ?_⟩) | (refine ⟨p + 1, by dsimp only; omega, by dsimp only; omega, ?_, ?_, ?_⟩ <;> simp (disch := omega) [ups, wrap64, htk, eTm_def, hlm]) | refine T.rd1 (id := 12) mixed (fun _ => false) [11, 13] (by kernel_rfl) fun K hK => ?_ | refine T.r0 fun K hK => ?_ | refine T.r1 fun K hK => ?_ | refine T.ct rfl ?_ | refine T.seq ?_ | refine T.block ?_ | refine T.skip ?_
  · have hp' : p = e.kids.length := by omega
    subst hp'
    have hlm : (e.kids.map (substM x v)).length = e.kids.length := by simp
    rw [List.take_of_length_le (by omega)]
    generalize e.kids.map (substM x v) = Z at *
    repeat' first | (refine aops_end (hK _ ?_); clear hK K) | (refine aops_go ?_; simp [hlt, hlm]; (try (refine gen fun q hq => ?_; cases q <;> (try simp [hlt, hlm] at hq) <;> (try (have hh : True := hq; clear hh hq))))) | (refine T.ret (Done.val (Or.inr rfl) ?_) <;> simp [resAs, Tryz.results120, hlm, h5] <;> omega) | refine T.r0 fun K hK => ?_ | refine T.cf rfl ?_ | refine T.seq ?_ | refine T.exit ?_

theorem l2Subst_kd (v : MTm) (x : List UInt8) (e : MTm) (h1 : ¬ e.kind = 1) (h5 : ¬ e.kind = 5) (hn : nTm e ≤ 1073741824)
    (ih : ∀ u ∈ e.kids, ACalls Tryz.prog 120 [aTm u, .s x, aTm v] [] (aTm (substM x v u)) [] []) : ACalls Tryz.prog 120 [aTm e, .s x, aTm v] [] (aTm (.mk e.kind e.name e.num e.ty e.fr e.label (e.kids.map (substM x v)))) [] [] := by
  obtain ⟨hnt, hnf, hnk, hnu⟩ := nTm_parts (show nTm e ≤ 1099511627776 by omega)
  have hnk2 : e.kids.length ≤ 1073741824 := by have := nTmS_len e.kids; rw [nTm_def] at hn; omega
  have k1 := l1Copy_ok e.ty hnt
  have k2 := l1Copy_ok e.fr hnf
  refine ACalls.of_body Tryz.func120 (by kernel_rfl) rfl (by kernel_rfl) (by simp [Tryz.ntmps120]) (by simp) ?_
  rw [Tryz.ntmps120]
  repeat' first | (refine aops_end (hK _ ?_); clear hK K) | (refine aops_go ?_; simp [h1, h5]; (try (refine gen fun q hq => ?_; cases q <;> (try simp [h1, h5] at hq) <;> (try (have hh : True := hq; clear hh hq))))) | (refine wpcall_pure rfl (k1) ?_; simp [h1, h5]; (try (refine gen fun q hq => ?_; cases q <;> (try simp [h1, h5] at hq) <;> (try (have hh : True := hq; clear hh hq))))) | (refine wpcall_pure rfl (k2) ?_; simp [h1, h5]; (try (refine gen fun q hq => ?_; cases q <;> (try simp [h1, h5] at hq) <;> (try (have hh : True := hq; clear hh hq))))) | refine T.r0 fun K hK => ?_ | refine T.cf rfl ?_ | refine T.seq ?_ | refine T.block ?_ | refine T.skip ?_
  refine T.ownifyObj 3 8 9 34 (row := [.d (.i e.kind), .d (.str e.name), .d (.i e.num), .d (.i e.ty.kind), .d (.sl (e.ty.kids.map eTy)), .d (.i e.fr.kind), .d (.sl (e.fr.kids.map eTy)), .d (.i e.label), .nil]) (by simp) (by simp) ?_
  refine T.loopK (α := Nat) [1, 3, 5, 6, 7] (fun x => [(8, .i x)]) (fun x => [(3, [.d (.i e.kind), .d (.str e.name), .d (.i e.num), .d (.i e.ty.kind), .d (.sl (e.ty.kids.map eTy)), .d (.i e.fr.kind), .d (.sl (e.fr.kids.map eTy)), .d (.i e.label), .own 0 x])]) (fun x => []) (fun p _ => [{ sz := 9, ety := 34, rows := ((e.kids.map (substM x v)).take p).map eTm, wr := true }]) (fun x => e.kids.length + 1 - x) (fun x => x ≤ e.kids.length) (by simp; rfl) (fun p hp => ?_) 0 (by simp) (by simp) (by simp) (by simp)
  dsimp only at hp ⊢
  simp only [ups, List.set_cons_zero, List.set_cons_succ, List.cons_append, List.nil_append, List.append_nil]
  by_cases hlt : p < e.kids.length
  · obtain ⟨u, ht⟩ := get_lt hlt
    have htm : u ∈ e.kids := List.mem_of_getElem? ht
    have hgt : e.kids[p] = u := by rw [List.getElem?_eq_getElem hlt] at ht; exact Option.some.inj ht
    have hdr : e.kids.drop p = u :: e.kids.drop (p + 1) := by rw [List.drop_eq_getElem_cons hlt, hgt]
    have hu := ih u htm
    have htk : (e.kids.map (substM x v)).take (p + 1) = (e.kids.map (substM x v)).take p ++ [substM x v u] := by rw [List.take_add_one, List.getElem?_map, ht]; rfl
    have hlm : min p (e.kids.map (substM x v)).length = p := by simp; omega
    generalize e.kids.map (substM x v) = Z at *
    generalize substM x v u = su at *
    repeat' first | ((first | refine aops_end (hK _ ?_) | refine aopsD_end (hK _ ?_)); clear hK K) | ((first | refine aops_go ?_ | refine aopsD_go ?_); simp [hlt, hgt, hlm]; (try simp (disch := omega) only [wrap64]); (try (refine gen fun q hq => ?_; cases q <;> (try simp [hlt, hgt, hlm] at hq) <;> (try (have hh : True := hq; clear hh hq))))) | (refine wpcall_pure rfl (hu) ?_; simp [hlt, hgt, hlm]; (try simp (disch := omega) only [wrap64]); (try (refine gen fun q hq => ?_; cases q <;> (try simp [hlt, hgt, hlm] at hq) <;> (try (have hh : True := hq; clear hh hq))))) | (refine ⟨by omega, by omega, ?_⟩) | (refine ⟨p + 1, by dsimp only; omega, by dsimp only; omega, ?_, ?_, ?_⟩ <;> simp (disch := omega) [ups, wrap64, htk, eTm_def, hlm]) | refine T.rd1 (id := 12) mixed (fun _ => false) [11, 13] (by kernel_rfl) fun K hK => ?_ | refine T.r0 fun K hK => ?_ | refine T.r1 fun K hK => ?_ | refine T.ct rfl ?_ | refine T.seq ?_ | refine T.block ?_ | refine T.skip ?_
  · have hp' : p = e.kids.length := by omega
    subst hp'
    have hlm : (e.kids.map (substM x v)).length = e.kids.length := by simp
    rw [List.take_of_length_le (by omega)]
    generalize e.kids.map (substM x v) = Z at *
    repeat' first | (refine aops_end (hK _ ?_); clear hK K) | (refine aops_go ?_; simp [hlt, hlm]; (try (refine gen fun q hq => ?_; cases q <;> (try simp [hlt, hlm] at hq) <;> (try (have hh : True := hq; clear hh hq))))) | (refine T.ret (Done.val (Or.inr rfl) ?_) <;> simp [resAs, Tryz.results120, hlm] <;> omega) | refine T.r0 fun K hK => ?_ | refine T.cf rfl ?_ | refine T.seq ?_ | refine T.exit ?_

theorem l2Subst_ok (v : MTm) (x : List UInt8) (hv : nTm v ≤ 1073741824) : ∀ (e : MTm), nTm e ≤ 1073741824 → ACalls Tryz.prog 120 [aTm e, .s x, aTm v] [] (aTm (substM x v e)) [] [] := by
  intro e
  induction e using MTm.ind with
  | h e ih =>
    intro hn
    have ih' := fun u hu => ih u hu (by have := nTmS_mem hu; rw [nTm_def] at hn; omega)
    have k1 := l2Copy_ok v (by omega)
    have k2 := l2Copy_ok e (by omega)
    rw [substM_def]
    by_cases hx : e.name = x
    · by_cases h1 : e.kind = 1
      · simp only [h1, hx, and_self, if_true]
        refine ACalls.of_body Tryz.func120 (by kernel_rfl) rfl (by kernel_rfl) (by simp [Tryz.ntmps120]) (by simp) ?_
        rw [Tryz.ntmps120]
        repeat' first | (refine aops_end (hK _ ?_); clear hK K) | (refine aops_go ?_; simp [h1, hx]; (try (refine gen fun q hq => ?_; cases q <;> (try simp [h1, hx] at hq) <;> (try (have hh : True := hq; clear hh hq))))) | (refine wpcall_pure rfl (k1) ?_; simp [h1, hx]; (try (refine gen fun q hq => ?_; cases q <;> (try simp [h1, hx] at hq) <;> (try (have hh : True := hq; clear hh hq))))) | (refine T.ret (Done.val (Or.inr rfl) ?_) <;> simp [resAs, Tryz.results120] <;> omega) | refine T.r0 fun K hK => ?_ | refine T.ct rfl ?_ | refine T.seq ?_
      · by_cases h5 : e.kind = 5
        · rw [if_neg (by simp [h1]), if_pos ⟨h5, hx⟩]
          refine ACalls.of_body Tryz.func120 (by kernel_rfl) rfl (by kernel_rfl) (by simp [Tryz.ntmps120]) (by simp) ?_
          rw [Tryz.ntmps120]
          repeat' first | (refine aops_end (hK _ ?_); clear hK K) | (refine aops_go ?_; simp [h1, h5, hx]; (try (refine gen fun q hq => ?_; cases q <;> (try simp [h1, h5, hx] at hq) <;> (try (have hh : True := hq; clear hh hq))))) | (refine wpcall_pure ?_ (k2) ?_; (focus (solve | simp [h1, h5, hx])); simp [h1, h5, hx]; (try (refine gen fun q hq => ?_; cases q <;> (try simp [h1, h5, hx] at hq) <;> (try (have hh : True := hq; clear hh hq))))) | (refine T.ret (Done.val (Or.inr rfl) ?_) <;> simp [resAs, Tryz.results120, h5, hx] <;> omega) | refine T.r0 fun K hK => ?_ | refine T.ct rfl ?_ | refine T.cf rfl ?_ | refine T.seq ?_ | refine T.skip ?_
        · rw [if_neg (by simp [h1]), if_neg (by simp [h5])]
          exact l2Subst_kd v x e h1 h5 hn ih'
    · rw [if_neg (by simp [hx]), if_neg (by simp [hx])]
      by_cases h1 : e.kind = 1
      · exact l2Subst_n1 v x e h1 hx hn ih'
      · by_cases h5 : e.kind = 5
        · exact l2Subst_n5 v x e h5 hx hn ih'
        · exact l2Subst_kd v x e h1 h5 hn ih'

theorem l13Reduce_ok (e : MTm) (d : Nat) (hv : TmV 13 d e) (hn : nTm e ≤ 1073741824) (hk : e.kind = 1 ∨ e.kind = 6 ∨ e.kind = 7 ∨ e.kind = 8 ∨ e.kind = 11 ∨ e.kind = 12) : ACalls Tryz.prog 83 [aTm e] [] (.tup (redR e)) [] [] := by
  rcases hv.cases13 with ⟨s, rfl⟩ | ⟨k, rfl, h1, h2⟩ | rfl | rfl | ⟨s, t, b, rfl⟩ | ⟨a, f, t, l, rfl⟩ | ⟨k, a, rfl, hk2, _, ha⟩ | ⟨p, a, b, rfl, _, hp⟩ | ⟨k, a, b, rfl, hk2, ⟨_, ha⟩, _, hb⟩
  · rw [show redR (tVar s) = [aTm zeroE, .i 2, .i 5] by simp [redR, ruleM, wrongM]]
    refine ACalls.of_body Tryz.func83 (by kernel_rfl) rfl (by kernel_rfl) (by simp [Tryz.ntmps83]) (by simp) ?_
    rw [Tryz.ntmps83]
    repeat' first | (refine aops_end (hK _ ?_); clear hK K) | (refine aops_go ?_; simp; (try (refine gen fun q hq => ?_; cases q <;> (try simp at hq) <;> (try (have hh : True := hq; clear hh hq))))) | (refine T.ret (Done.tup (Or.inr rfl) ?_) <;> simp [resAs, Tryz.results83] <;> omega) | refine T.r0 fun K hK => ?_ | refine T.ct rfl ?_ | refine T.seq ?_ | refine T.block ?_
  · simp at hk
  · simp at hk
  · simp at hk
  · simp at hk
  · simp at hk
  · by_cases h10 : a.kind = 10
    · obtain ⟨x, y, rfl⟩ := ha.kind10 h10
      rcases hk2 with rfl | rfl
      · rw [show redR (tN1 11 (tN2 10 x y)) = [aTm x, .i 1, .i 0] by simp [redR, ruleM]]
        refine ACalls.of_body Tryz.func83 (by kernel_rfl) rfl (by kernel_rfl) (by simp [Tryz.ntmps83]) (by simp) ?_
        rw [Tryz.ntmps83]
        repeat' first | ((first | refine aops_end (hK _ ?_) | refine aopsD_end (hK _ ?_)); clear hK K) | ((first | refine aops_go ?_ | refine aopsD_go ?_); simp [eTm_def]; (try simp (disch := omega) only [wrap64]); (try (refine gen fun q hq => ?_; cases q <;> (try simp [eTm_def] at hq) <;> (try (have hh : True := hq; clear hh hq))))) | (refine T.ret (Done.tup (Or.inr rfl) ?_) <;> simp [resAs, Tryz.results83, eTm_def] <;> omega) | refine T.rd (id := 14) mixed (fun _ => false) [10] (by kernel_rfl) fun K hK => ?_ | refine T.r0 fun K hK => ?_ | refine T.r1 fun K hK => ?_ | refine T.cf rfl ?_ | refine T.seq ?_ | refine T.block ?_ | refine T.skip ?_
      · rw [show redR (tN1 12 (tN2 10 x y)) = [aTm y, .i 1, .i 0] by simp [redR, ruleM]]
        refine ACalls.of_body Tryz.func83 (by kernel_rfl) rfl (by kernel_rfl) (by simp [Tryz.ntmps83]) (by simp) ?_
        rw [Tryz.ntmps83]
        repeat' first | ((first | refine aops_end (hK _ ?_) | refine aopsD_end (hK _ ?_)); clear hK K) | ((first | refine aops_go ?_ | refine aopsD_go ?_); simp [eTm_def]; (try simp (disch := omega) only [wrap64]); (try (refine gen fun q hq => ?_; cases q <;> (try simp [eTm_def] at hq) <;> (try (have hh : True := hq; clear hh hq))))) | (refine T.ret (Done.tup (Or.inr rfl) ?_) <;> simp [resAs, Tryz.results83, eTm_def] <;> omega) | refine T.rd (id := 14) mixed (fun _ => false) [10] (by kernel_rfl) fun K hK => ?_ | refine T.r0 fun K hK => ?_ | refine T.r1 fun K hK => ?_ | refine T.cf rfl ?_ | refine T.seq ?_ | refine T.block ?_ | refine T.skip ?_
    · rcases hk2 with rfl | rfl
      · rw [show redR (tN1 11 a) = [aTm zeroE, .i 2, .i 4] by simp [redR, ruleM, h10, wrongM]]
        refine ACalls.of_body Tryz.func83 (by kernel_rfl) rfl (by kernel_rfl) (by simp [Tryz.ntmps83]) (by simp) ?_
        rw [Tryz.ntmps83]
        repeat' first | (refine aops_end (hK _ ?_); clear hK K) | (refine aops_go ?_; simp [eTm_def, h10]; (try (refine gen fun q hq => ?_; cases q <;> (try simp [eTm_def, h10] at hq) <;> (try (have hh : True := hq; clear hh hq))))) | (refine T.ret (Done.tup (Or.inr rfl) ?_) <;> simp [resAs, Tryz.results83] <;> omega) | refine T.r0 fun K hK => ?_ | refine T.r1 fun K hK => ?_ | refine T.ct rfl ?_ | refine T.cf rfl ?_ | refine T.seq ?_ | refine T.block ?_ | refine T.skip ?_
      · rw [show redR (tN1 12 a) = [aTm zeroE, .i 2, .i 4] by simp [redR, ruleM, h10, wrongM]]
        refine ACalls.of_body Tryz.func83 (by kernel_rfl) rfl (by kernel_rfl) (by simp [Tryz.ntmps83]) (by simp) ?_
        rw [Tryz.ntmps83]
        repeat' first | (refine aops_end (hK _ ?_); clear hK K) | (refine aops_go ?_; simp [eTm_def, h10]; (try (refine gen fun q hq => ?_; cases q <;> (try simp [eTm_def, h10] at hq) <;> (try (have hh : True := hq; clear hh hq))))) | (refine T.ret (Done.tup (Or.inr rfl) ?_) <;> simp [resAs, Tryz.results83] <;> omega) | refine T.r0 fun K hK => ?_ | refine T.r1 fun K hK => ?_ | refine T.ct rfl ?_ | refine T.cf rfl ?_ | refine T.seq ?_ | refine T.block ?_ | refine T.skip ?_
  · simp at hk
  · by_cases h6 : k = 6
    · subst h6
      by_cases h5 : a.kind = 5
      · obtain ⟨s, t, x, rfl⟩ := ha.kind5 h5
        rw [show redR (tN2 6 (tLam s t x) b) = [aTm (substM s b x), .i 1, .i 0] by simp [redR, ruleM]]
        have k1 := l2Subst_ok b s (by simp [nTm_mk, nTmS] at hn; omega) x (by simp [nTm_mk, nTmS] at hn; omega)
        generalize substM s b x = R at *
        refine ACalls.of_body Tryz.func83 (by kernel_rfl) rfl (by kernel_rfl) (by simp [Tryz.ntmps83]) (by simp) ?_
        rw [Tryz.ntmps83]
        repeat' first | ((first | refine aops_end (hK _ ?_) | refine aopsD_end (hK _ ?_)); clear hK K) | ((first | refine aops_go ?_ | refine aopsD_go ?_); simp [eTm_def]; (try (refine gen fun q hq => ?_; cases q <;> (try simp [eTm_def] at hq) <;> (try (have hh : True := hq; clear hh hq))))) | (refine wpcall_pure ?_ (k1) ?_; (focus (solve | simp [eTm_def])); simp [eTm_def]; (try (refine gen fun q hq => ?_; cases q <;> (try simp [eTm_def] at hq) <;> (try (have hh : True := hq; clear hh hq))))) | (refine T.ret (Done.tup (Or.inr rfl) ?_) <;> simp [resAs, Tryz.results83] <;> omega) | refine T.rd (id := 11) mixed (fun _ => false) [11] (by kernel_rfl) fun K hK => ?_ | refine T.r0 fun K hK => ?_ | refine T.r1 fun K hK => ?_ | refine T.ct rfl ?_ | refine T.cf rfl ?_ | refine T.seq ?_ | refine T.block ?_ | refine T.skip ?_
      · rw [show redR (tN2 6 a b) = [aTm zeroE, .i 2, .i 1] by simp [redR, ruleM, h5, wrongM]]
        refine ACalls.of_body Tryz.func83 (by kernel_rfl) rfl (by kernel_rfl) (by simp [Tryz.ntmps83]) (by simp) ?_
        rw [Tryz.ntmps83]
        repeat' first | (refine aops_end (hK _ ?_); clear hK K) | (refine aops_go ?_; simp [eTm_def, h5]; (try (refine gen fun q hq => ?_; cases q <;> (try simp [eTm_def, h5] at hq) <;> (try (have hh : True := hq; clear hh hq))))) | (refine T.ret (Done.tup (Or.inr rfl) ?_) <;> simp [resAs, Tryz.results83] <;> omega) | refine T.r0 fun K hK => ?_ | refine T.r1 fun K hK => ?_ | refine T.ct rfl ?_ | refine T.cf rfl ?_ | refine T.seq ?_ | refine T.block ?_
    · by_cases h7 : k = 7
      · subst h7
        have k1 := l13Number_ok 7 a b (.inl rfl) ha hb
        cases hR : ruleM (tN2 7 a b) with
        | none =>
          simp only [redR, hR] at k1 ⊢
          refine ACalls.of_body Tryz.func83 (by kernel_rfl) rfl (by kernel_rfl) (by simp [Tryz.ntmps83]) (by simp) ?_
          rw [Tryz.ntmps83]
          repeat' first | (refine aops_end (hK _ ?_); clear hK K) | (refine aops_go ?_; simp [eTm_def]; (try (refine gen fun q hq => ?_; cases q <;> (try simp [eTm_def] at hq) <;> (try (have hh : True := hq; clear hh hq))))) | (refine wpcall_pure ?_ (k1) ?_; (focus (solve | simp [eTm_def])); simp [eTm_def]; (try (refine gen fun q hq => ?_; cases q <;> (try simp [eTm_def] at hq) <;> (try (have hh : True := hq; clear hh hq))))) | (refine T.ret (Done.tup (Or.inr rfl) ?_) <;> simp [resAs, Tryz.results83] <;> omega) | refine T.r0 fun K hK => ?_ | refine T.ct rfl ?_ | refine T.cf rfl ?_ | refine T.seq ?_ | refine T.block ?_ | refine T.skip ?_
        | some y =>
          simp only [redR, hR] at k1 ⊢
          refine ACalls.of_body Tryz.func83 (by kernel_rfl) rfl (by kernel_rfl) (by simp [Tryz.ntmps83]) (by simp) ?_
          rw [Tryz.ntmps83]
          repeat' first | (refine aops_end (hK _ ?_); clear hK K) | (refine aops_go ?_; simp [eTm_def]; (try (refine gen fun q hq => ?_; cases q <;> (try simp [eTm_def] at hq) <;> (try (have hh : True := hq; clear hh hq))))) | (refine wpcall_pure ?_ (k1) ?_; (focus (solve | simp [eTm_def])); simp [eTm_def]; (try (refine gen fun q hq => ?_; cases q <;> (try simp [eTm_def] at hq) <;> (try (have hh : True := hq; clear hh hq))))) | (refine T.ret (Done.tup (Or.inr rfl) ?_) <;> simp [resAs, Tryz.results83] <;> omega) | refine T.r0 fun K hK => ?_ | refine T.ct rfl ?_ | refine T.cf rfl ?_ | refine T.seq ?_ | refine T.block ?_ | refine T.skip ?_
      · have h8 : k = 8 := by simp at hk; omega
        subst h8
        have k1 := l13Number_ok 8 a b (.inr rfl) ha hb
        cases hR : ruleM (tN2 8 a b) with
        | none =>
          simp only [redR, hR] at k1 ⊢
          refine ACalls.of_body Tryz.func83 (by kernel_rfl) rfl (by kernel_rfl) (by simp [Tryz.ntmps83]) (by simp) ?_
          rw [Tryz.ntmps83]
          repeat' first | (refine aops_end (hK _ ?_); clear hK K) | (refine aops_go ?_; simp [eTm_def]; (try (refine gen fun q hq => ?_; cases q <;> (try simp [eTm_def] at hq) <;> (try (have hh : True := hq; clear hh hq))))) | (refine wpcall_pure ?_ (k1) ?_; (focus (solve | simp [eTm_def])); simp [eTm_def]; (try (refine gen fun q hq => ?_; cases q <;> (try simp [eTm_def] at hq) <;> (try (have hh : True := hq; clear hh hq))))) | (refine T.ret (Done.tup (Or.inr rfl) ?_) <;> simp [resAs, Tryz.results83] <;> omega) | refine T.r0 fun K hK => ?_ | refine T.r1 fun K hK => ?_ | refine T.ct rfl ?_ | refine T.cf rfl ?_ | refine T.seq ?_ | refine T.block ?_
        | some y =>
          simp only [redR, hR] at k1 ⊢
          refine ACalls.of_body Tryz.func83 (by kernel_rfl) rfl (by kernel_rfl) (by simp [Tryz.ntmps83]) (by simp) ?_
          rw [Tryz.ntmps83]
          repeat' first | (refine aops_end (hK _ ?_); clear hK K) | (refine aops_go ?_; simp [eTm_def]; (try (refine gen fun q hq => ?_; cases q <;> (try simp [eTm_def] at hq) <;> (try (have hh : True := hq; clear hh hq))))) | (refine wpcall_pure ?_ (k1) ?_; (focus (solve | simp [eTm_def])); simp [eTm_def]; (try (refine gen fun q hq => ?_; cases q <;> (try simp [eTm_def] at hq) <;> (try (have hh : True := hq; clear hh hq))))) | (refine T.ret (Done.tup (Or.inr rfl) ?_) <;> simp [resAs, Tryz.results83] <;> omega) | refine T.r0 fun K hK => ?_ | refine T.r1 fun K hK => ?_ | refine T.ct rfl ?_ | refine T.cf rfl ?_ | refine T.seq ?_ | refine T.block ?_

/-- The step, as_ the reference answers: nothing of a term that goes wrong. -/
def stepS (p : MTm × Int × Int) : MTm × Int × Int := if p.2.1 = 1 then (p.1, 1, 0) else (zeroE, p.2.1, p.2.2)

theorem take_drop_cons {α : Type} {l : List α} {n p : Nat} {u : α} (h : l[p]? = some u) (hp : p < n) : (l.take n).drop p = u :: (l.take n).drop (p + 1) := by
  obtain ⟨hl, rfl⟩ := List.getElem?_eq_some_iff.1 h
  have hlt : p < (l.take n).length := by simp; omega
  rw [drop_cons hlt]
  simp

theorem l13Step_no (e : MTm) (h9 : ¬ e.kind = 9) (hlen : e.kids.length ≤ 3) (hN : countsM e = e.kids.length) (hcnt : e.kids.length ≤ e.kids.length) (hred : ¬ e.kind = 9 → firstNV (e.kids.take (e.kids.length)) = none → ACalls Tryz.prog 83 [aTm e] [] (.tup (redR e)) [] [])
    (hnu : ∀ u ∈ e.kids, ∃ d', TmV 13 d' u) (hif : e.kind = 9 → ∃ c a b, e.kids = [c, a, b])
    (ih : ∀ u ∈ e.kids, valM u = false → ACalls Tryz.prog 57 [aTm u] [] (.tup (stepR (stepS (stepB u)))) [] []) : ACalls Tryz.prog 57 [aTm e] [] (.tup (stepR (stepS (stepB e)))) [] [] := by
  obtain ⟨R, hR⟩ : ∃ R, firstNV (e.kids.take (e.kids.length)) = R := ⟨_, rfl⟩
  have hat : ∀ i u, e.kids[i]? = some u → R = some i → stepB e = (.mk e.kind e.name e.num e.ty e.fr e.label (e.kids.set i (stepB u).1), (stepB u).2.1, (stepB u).2.2) := fun i u h1 h2 => stepB_at ((show firstNV (e.kids.take (countsM e)) = R by rw [hN]; exact hR).trans h2) h1
  have hnone : R = none → stepB e = match ruleM e with
    | some x => (x, 1, 0)
    | none => (zeroE, 2, wrongM e.kind) := fun h => stepB_none ((show firstNV (e.kids.take (countsM e)) = R by rw [hN]; exact hR).trans h)
  rw [hR] at hred
  generalize stepB e = S at *
  refine ACalls.of_body Tryz.func57 (by kernel_rfl) rfl (by kernel_rfl) (by simp [Tryz.ntmps57]) (by simp) ?_
  rw [Tryz.ntmps57]
  repeat' first | (refine aops_end (hK _ ?_); clear hK K) | (refine aops_go ?_; simp [h9]; (try (refine gen fun q hq => ?_; cases q <;> (try simp [h9] at hq) <;> (try (have hh : True := hq; clear hh hq))))) | refine T.r0 fun K hK => ?_ | refine T.cf rfl ?_ | refine T.seq ?_ | refine T.block ?_ | refine T.skip ?_
  refine T.loopK (α := Nat × List (List CV)) [1, 2, 5] (fun x => [(3, .i 0), (4, .i 0), (6, .i x.1)]) (fun x => []) (fun x => x.2) (fun x A => A) (fun x => e.kids.length + 1 - x.1) (fun x => x.1 ≤ e.kids.length ∧ (firstNV ((e.kids.take (e.kids.length)).drop x.1)).map (· + x.1) = R) (by simp; rfl) (fun x hx => ?_) (0, []) (by simpa using hR) (by simp) (by simp) (by simp)
  obtain ⟨p, G⟩ := x
  obtain ⟨hx, he⟩ := hx
  dsimp only at hx he ⊢
  simp only [ups, List.set_cons_zero, List.set_cons_succ, List.cons_append, List.nil_append, List.append_nil]
  by_cases hlt : p < e.kids.length
  · have hlk : p < e.kids.length := by omega
    obtain ⟨u, ht⟩ := get_lt hlk
    have htm : u ∈ e.kids := List.mem_of_getElem? ht
    have hgt : e.kids[p] = u := by rw [List.getElem?_eq_getElem hlk] at ht; exact Option.some.inj ht
    have hdr : e.kids.drop p = u :: e.kids.drop (p + 1) := by rw [List.drop_eq_getElem_cons hlk, hgt]
    have hltI : (p : Int) < e.kids.length := by omega
    obtain ⟨du, hdu⟩ := hnu u htm
    have hv := l5Value_ok u du hdu
    rw [take_drop_cons ht hlt, firstNV] at he
    cases hb : valM u with
    | true =>
      rw [hb] at hv he
      simp only [if_true, Option.map_map] at he
      have he' : (firstNV ((e.kids.take (e.kids.length)).drop (p + 1))).map (· + (p + 1)) = R := by rw [← he]; congr 1; funext z; simp; omega
      repeat' first | (refine aops_end (hK _ ?_); clear hK K) | (refine aops_go ?_; simp [hlt, hlk, hgt, hltI]; (try simp (disch := omega) only [wrap64]); (try (refine gen fun q hq => ?_; cases q <;> (try simp [hlt, hlk, hgt, hltI] at hq) <;> (try (have hh : True := hq; clear hh hq))))) | (refine wpcall_pure rfl (hv) ?_; simp [hlt, hlk, hgt, hltI]; (try simp (disch := omega) only [wrap64]); (try (refine gen fun q hq => ?_; cases q <;> (try simp [hlt, hlk, hgt, hltI] at hq) <;> (try (have hh : True := hq; clear hh hq))))) | (refine ⟨(p + 1, _), by dsimp only; omega, ⟨by dsimp only; omega, he'⟩, rfl, ?_, ?_⟩ <;> simp (disch := omega) [wrap64]) | refine T.r0 fun K hK => ?_ | refine T.r1 fun K hK => ?_ | refine T.ct rfl ?_ | refine T.seq ?_ | refine T.block ?_ | refine T.skip ?_ | refine T.exit ?_
    | false =>
      rw [hb] at hv he
      simp at he
      have hs := hat p u ht he.symm
      have hi := ih u htm hb
      generalize stepB u = su at *
      obtain ⟨y, cd, lb⟩ := su
      subst hs
      by_cases hc : cd = 1
      · subst hc
        simp only [stepS, if_true] at hi ⊢
        repeat' first | (refine aops_end (hK _ ?_); clear hK K) | (refine aops_go ?_; simp [hlt, hlk, hgt, hltI]; (try simp (disch := omega) only [wrap64]); (try (refine gen fun q hq => ?_; cases q <;> (try simp [hlt, hlk, hgt, hltI] at hq) <;> (try (have hh : True := hq; clear hh hq))))) | (refine wpcall_pure rfl (hv) ?_; simp [hlt, hlk, hgt, hltI]; (try simp (disch := omega) only [wrap64]); (try (refine gen fun q hq => ?_; cases q <;> (try simp [hlt, hlk, hgt, hltI] at hq) <;> (try (have hh : True := hq; clear hh hq))))) | (refine wpcall_pure rfl (hi) ?_; simp [hlt, hlk, hgt, hltI]; (try simp (disch := omega) only [wrap64]); (try (refine gen fun q hq => ?_; cases q <;> (try simp [hlt, hlk, hgt, hltI] at hq) <;> (try (have hh : True := hq; clear hh hq))))) | (refine ⟨by omega, by omega, ?_⟩) | (refine T.ret (Done.tup (Or.inr rfl) ?_) <;> simp [resAs, Tryz.results57, eTm_def, List.map_set] <;> omega) | refine T.rs (id := 12) (fun i => i == 0) fun K hK => ?_ | refine T.rs (id := 5) (fun _ => false) fun K hK => ?_ | refine T.rs (id := 7) (fun _ => false) fun K hK => ?_ | refine T.rs (id := 8) (fun _ => false) fun K hK => ?_ | refine T.rs (id := 9) (fun _ => false) fun K hK => ?_ | refine T.rs (id := 11) (fun _ => false) fun K hK => ?_ | refine T.rs (id := 13) (fun _ => false) fun K hK => ?_ | refine T.rs (id := 14) (fun _ => false) fun K hK => ?_ | refine T.ct rfl ?_ | refine T.cf rfl ?_ | refine T.seq ?_ | refine T.block ?_ | refine T.skip ?_
      · simp only [stepS, if_neg hc] at hi ⊢
        repeat' first | (refine aops_end (hK _ ?_); clear hK K) | (refine aops_go ?_; simp [hlt, hlk, hgt, hltI, hc]; (try simp (disch := omega) only [wrap64]); (try (refine gen fun q hq => ?_; cases q <;> (try simp [hlt, hlk, hgt, hltI, hc] at hq) <;> (try (have hh : True := hq; clear hh hq))))) | (refine wpcall_pure rfl (hv) ?_; simp [hlt, hlk, hgt, hltI, hc]; (try simp (disch := omega) only [wrap64]); (try (refine gen fun q hq => ?_; cases q <;> (try simp [hlt, hlk, hgt, hltI, hc] at hq) <;> (try (have hh : True := hq; clear hh hq))))) | (refine wpcall_pure rfl (hi) ?_; simp [hlt, hlk, hgt, hltI, hc]; (try simp (disch := omega) only [wrap64]); (try (refine gen fun q hq => ?_; cases q <;> (try simp [hlt, hlk, hgt, hltI, hc] at hq) <;> (try (have hh : True := hq; clear hh hq))))) | (refine T.ret (Done.tup (Or.inr rfl) ?_) <;> simp [resAs, Tryz.results57] <;> omega) | refine T.rs (id := 5) (fun _ => false) fun K hK => ?_ | refine T.rs (id := 7) (fun _ => false) fun K hK => ?_ | refine T.rs (id := 8) (fun _ => false) fun K hK => ?_ | refine T.rs (id := 9) (fun _ => false) fun K hK => ?_ | refine T.rs (id := 10) (fun _ => false) fun K hK => ?_ | refine T.ct rfl ?_ | refine T.cf rfl ?_ | refine T.seq ?_ | refine T.block ?_ | refine T.skip ?_
  · have hp' : p = e.kids.length := by omega
    subst hp'
    have hz : (e.kids.take (e.kids.length)).drop (e.kids.length) = [] := by simp
    rw [hz] at he
    simp [firstNV] at he
    have hs := hnone he.symm
    have hr := hred h9 he.symm
    cases hq : ruleM e with
    | none =>
      simp only [hq] at hs
      simp only [redR, hq] at hr
      subst hs
      simp only [stepS, show ¬ (2 : Int) = 1 by omega, if_false]
      repeat' first | (refine aops_end (hK _ ?_); clear hK K) | (refine aops_go ?_; simp [h9, hlt]; (try (refine gen fun q hq => ?_; cases q <;> (try simp [h9, hlt] at hq) <;> (try (have hh : True := hq; clear hh hq))))) | (refine wpcall_pure rfl (hr) ?_; simp [h9, hlt]; (try (refine gen fun q hq => ?_; cases q <;> (try simp [h9, hlt] at hq) <;> (try (have hh : True := hq; clear hh hq))))) | (refine T.ret (Done.tup (Or.inr rfl) ?_) <;> simp [resAs, Tryz.results57] <;> omega) | refine T.rs (id := 5) (fun _ => false) fun K hK => ?_ | refine T.rs (id := 15) (fun _ => false) fun K hK => ?_ | refine T.rs (id := 16) (fun _ => false) fun K hK => ?_ | refine T.ct rfl ?_ | refine T.cf rfl ?_ | refine T.seq ?_ | refine T.exit ?_
    | some x =>
      simp only [hq] at hs
      simp only [redR, hq] at hr
      subst hs
      simp only [stepS, if_true]
      repeat' first | (refine aops_end (hK _ ?_); clear hK K) | (refine aops_go ?_; simp [h9, hlt]; (try (refine gen fun q hq => ?_; cases q <;> (try simp [h9, hlt] at hq) <;> (try (have hh : True := hq; clear hh hq))))) | (refine wpcall_pure rfl (hr) ?_; simp [h9, hlt]; (try (refine gen fun q hq => ?_; cases q <;> (try simp [h9, hlt] at hq) <;> (try (have hh : True := hq; clear hh hq))))) | (refine T.ret (Done.tup (Or.inr rfl) ?_) <;> simp [resAs, Tryz.results57] <;> omega) | refine T.rs (id := 5) (fun _ => false) fun K hK => ?_ | refine T.rs (id := 15) (fun _ => false) fun K hK => ?_ | refine T.rs (id := 16) (fun _ => false) fun K hK => ?_ | refine T.ct rfl ?_ | refine T.cf rfl ?_ | refine T.seq ?_ | refine T.exit ?_

theorem l13Step_yes (e : MTm) (h9 : e.kind = 9) (hlen : e.kids.length ≤ 3) (hN : countsM e = 1) (hcnt : 1 ≤ e.kids.length) (hred : ¬ e.kind = 9 → firstNV (e.kids.take (1)) = none → ACalls Tryz.prog 83 [aTm e] [] (.tup (redR e)) [] [])
    (hnu : ∀ u ∈ e.kids, ∃ d', TmV 13 d' u) (hif : e.kind = 9 → ∃ c a b, e.kids = [c, a, b])
    (ih : ∀ u ∈ e.kids, valM u = false → ACalls Tryz.prog 57 [aTm u] [] (.tup (stepR (stepS (stepB u)))) [] []) : ACalls Tryz.prog 57 [aTm e] [] (.tup (stepR (stepS (stepB e)))) [] [] := by
  obtain ⟨R, hR⟩ : ∃ R, firstNV (e.kids.take (1)) = R := ⟨_, rfl⟩
  have hat : ∀ i u, e.kids[i]? = some u → R = some i → stepB e = (.mk e.kind e.name e.num e.ty e.fr e.label (e.kids.set i (stepB u).1), (stepB u).2.1, (stepB u).2.2) := fun i u h1 h2 => stepB_at ((show firstNV (e.kids.take (countsM e)) = R by rw [hN]; exact hR).trans h2) h1
  have hnone : R = none → stepB e = match ruleM e with
    | some x => (x, 1, 0)
    | none => (zeroE, 2, wrongM e.kind) := fun h => stepB_none ((show firstNV (e.kids.take (countsM e)) = R by rw [hN]; exact hR).trans h)
  rw [hR] at hred
  generalize stepB e = S at *
  refine ACalls.of_body Tryz.func57 (by kernel_rfl) rfl (by kernel_rfl) (by simp [Tryz.ntmps57]) (by simp) ?_
  rw [Tryz.ntmps57]
  repeat' first | (refine aops_end (hK _ ?_); clear hK K) | (refine aops_go ?_; simp [h9]; (try (refine gen fun q hq => ?_; cases q <;> (try simp [h9] at hq) <;> (try (have hh : True := hq; clear hh hq))))) | refine T.r0 fun K hK => ?_ | refine T.r1 fun K hK => ?_ | refine T.ct rfl ?_ | refine T.seq ?_ | refine T.block ?_
  refine T.loopK (α := Nat × List (List CV)) [1, 2, 5] (fun x => [(3, .i 0), (4, .i 0), (6, .i x.1)]) (fun x => []) (fun x => x.2) (fun x A => A) (fun x => 1 + 1 - x.1) (fun x => x.1 ≤ 1 ∧ (firstNV ((e.kids.take (1)).drop x.1)).map (· + x.1) = R) (by simp; rfl) (fun x hx => ?_) (0, []) (by simpa using hR) (by simp) (by simp) (by simp)
  obtain ⟨p, G⟩ := x
  obtain ⟨hx, he⟩ := hx
  dsimp only at hx he ⊢
  simp only [ups, List.set_cons_zero, List.set_cons_succ, List.cons_append, List.nil_append, List.append_nil]
  by_cases hlt : p < 1
  · have hlk : p < e.kids.length := by omega
    obtain ⟨u, ht⟩ := get_lt hlk
    have htm : u ∈ e.kids := List.mem_of_getElem? ht
    have hgt : e.kids[p] = u := by rw [List.getElem?_eq_getElem hlk] at ht; exact Option.some.inj ht
    have hdr : e.kids.drop p = u :: e.kids.drop (p + 1) := by rw [List.drop_eq_getElem_cons hlk, hgt]
    have hltI : (p : Int) < 1 := by omega
    obtain ⟨du, hdu⟩ := hnu u htm
    have hv := l5Value_ok u du hdu
    rw [take_drop_cons ht hlt, firstNV] at he
    cases hb : valM u with
    | true =>
      rw [hb] at hv he
      simp only [if_true, Option.map_map] at he
      have he' : (firstNV ((e.kids.take (1)).drop (p + 1))).map (· + (p + 1)) = R := by rw [← he]; congr 1; funext z; simp; omega
      repeat' first | (refine aops_end (hK _ ?_); clear hK K) | (refine aops_go ?_; simp [hlt, hlk, hgt, hltI]; (try simp (disch := omega) only [wrap64]); (try (refine gen fun q hq => ?_; cases q <;> (try simp [hlt, hlk, hgt, hltI] at hq) <;> (try (have hh : True := hq; clear hh hq))))) | (refine wpcall_pure rfl (hv) ?_; simp [hlt, hlk, hgt, hltI]; (try simp (disch := omega) only [wrap64]); (try (refine gen fun q hq => ?_; cases q <;> (try simp [hlt, hlk, hgt, hltI] at hq) <;> (try (have hh : True := hq; clear hh hq))))) | (refine ⟨(p + 1, _), by dsimp only; omega, ⟨by dsimp only; omega, he'⟩, rfl, ?_, ?_⟩ <;> simp (disch := omega) [wrap64]) | refine T.r0 fun K hK => ?_ | refine T.r1 fun K hK => ?_ | refine T.ct rfl ?_ | refine T.seq ?_ | refine T.block ?_ | refine T.skip ?_ | refine T.exit ?_
    | false =>
      rw [hb] at hv he
      simp at he
      have hs := hat p u ht he.symm
      have hi := ih u htm hb
      generalize stepB u = su at *
      obtain ⟨y, cd, lb⟩ := su
      subst hs
      by_cases hc : cd = 1
      · subst hc
        simp only [stepS, if_true] at hi ⊢
        repeat' first | (refine aops_end (hK _ ?_); clear hK K) | (refine aops_go ?_; simp [hlt, hlk, hgt, hltI]; (try simp (disch := omega) only [wrap64]); (try (refine gen fun q hq => ?_; cases q <;> (try simp [hlt, hlk, hgt, hltI] at hq) <;> (try (have hh : True := hq; clear hh hq))))) | (refine wpcall_pure rfl (hv) ?_; simp [hlt, hlk, hgt, hltI]; (try simp (disch := omega) only [wrap64]); (try (refine gen fun q hq => ?_; cases q <;> (try simp [hlt, hlk, hgt, hltI] at hq) <;> (try (have hh : True := hq; clear hh hq))))) | (refine wpcall_pure rfl (hi) ?_; simp [hlt, hlk, hgt, hltI]; (try simp (disch := omega) only [wrap64]); (try (refine gen fun q hq => ?_; cases q <;> (try simp [hlt, hlk, hgt, hltI] at hq) <;> (try (have hh : True := hq; clear hh hq))))) | (refine ⟨by omega, by omega, ?_⟩) | (refine T.ret (Done.tup (Or.inr rfl) ?_) <;> simp [resAs, Tryz.results57, eTm_def, List.map_set] <;> omega) | refine T.rs (id := 12) (fun i => i == 0) fun K hK => ?_ | refine T.rs (id := 5) (fun _ => false) fun K hK => ?_ | refine T.rs (id := 7) (fun _ => false) fun K hK => ?_ | refine T.rs (id := 8) (fun _ => false) fun K hK => ?_ | refine T.rs (id := 9) (fun _ => false) fun K hK => ?_ | refine T.rs (id := 11) (fun _ => false) fun K hK => ?_ | refine T.rs (id := 13) (fun _ => false) fun K hK => ?_ | refine T.rs (id := 14) (fun _ => false) fun K hK => ?_ | refine T.ct rfl ?_ | refine T.cf rfl ?_ | refine T.seq ?_ | refine T.block ?_ | refine T.skip ?_
      · simp only [stepS, if_neg hc] at hi ⊢
        repeat' first | (refine aops_end (hK _ ?_); clear hK K) | (refine aops_go ?_; simp [hlt, hlk, hgt, hltI, hc]; (try simp (disch := omega) only [wrap64]); (try (refine gen fun q hq => ?_; cases q <;> (try simp [hlt, hlk, hgt, hltI, hc] at hq) <;> (try (have hh : True := hq; clear hh hq))))) | (refine wpcall_pure rfl (hv) ?_; simp [hlt, hlk, hgt, hltI, hc]; (try simp (disch := omega) only [wrap64]); (try (refine gen fun q hq => ?_; cases q <;> (try simp [hlt, hlk, hgt, hltI, hc] at hq) <;> (try (have hh : True := hq; clear hh hq))))) | (refine wpcall_pure rfl (hi) ?_; simp [hlt, hlk, hgt, hltI, hc]; (try simp (disch := omega) only [wrap64]); (try (refine gen fun q hq => ?_; cases q <;> (try simp [hlt, hlk, hgt, hltI, hc] at hq) <;> (try (have hh : True := hq; clear hh hq))))) | (refine T.ret (Done.tup (Or.inr rfl) ?_) <;> simp [resAs, Tryz.results57] <;> omega) | refine T.rs (id := 5) (fun _ => false) fun K hK => ?_ | refine T.rs (id := 7) (fun _ => false) fun K hK => ?_ | refine T.rs (id := 8) (fun _ => false) fun K hK => ?_ | refine T.rs (id := 9) (fun _ => false) fun K hK => ?_ | refine T.rs (id := 10) (fun _ => false) fun K hK => ?_ | refine T.ct rfl ?_ | refine T.cf rfl ?_ | refine T.seq ?_ | refine T.block ?_ | refine T.skip ?_
  · have hp' : p = 1 := by omega
    subst hp'
    have hz : (e.kids.take (1)).drop (1) = [] := by simp
    rw [hz] at he
    simp [firstNV] at he
    have hs := hnone he.symm
    obtain ⟨c, a, b, hkk⟩ := hif h9
    by_cases h3 : c.kind = 3
    · rw [show ruleM e = some a by simp [ruleM, h9, hkk, h3]] at hs
      subst hs
      simp only [stepS, if_true]
      repeat' first | (refine aops_end (hK _ ?_); clear hK K) | (refine aops_go ?_; simp [h9, hlt, hkk, eTm_def, h3]; (try (refine gen fun q hq => ?_; cases q <;> (try simp [h9, hlt, hkk, eTm_def, h3] at hq) <;> (try (have hh : True := hq; clear hh hq))))) | (refine T.ret (Done.tup (Or.inr rfl) ?_) <;> simp [resAs, Tryz.results57, eTm_def] <;> omega) | refine T.rs (id := 5) (fun _ => false) fun K hK => ?_ | refine T.rs (id := 15) (fun _ => false) fun K hK => ?_ | refine T.rs (id := 17) (fun _ => false) fun K hK => ?_ | refine T.rs (id := 18) (fun _ => false) fun K hK => ?_ | refine T.rs (id := 19) (fun _ => false) fun K hK => ?_ | refine T.ct rfl ?_ | refine T.cf rfl ?_ | refine T.seq ?_ | refine T.block ?_ | refine T.skip ?_ | refine T.exit ?_
    by_cases h4 : c.kind = 4
    · rw [show ruleM e = some b by simp [ruleM, h9, hkk, h4]] at hs
      subst hs
      simp only [stepS, if_true]
      repeat' first | (refine aops_end (hK _ ?_); clear hK K) | (refine aops_go ?_; simp [h9, hlt, hkk, eTm_def, h4]; (try (refine gen fun q hq => ?_; cases q <;> (try simp [h9, hlt, hkk, eTm_def, h4] at hq) <;> (try (have hh : True := hq; clear hh hq))))) | (refine T.ret (Done.tup (Or.inr rfl) ?_) <;> simp [resAs, Tryz.results57, eTm_def] <;> omega) | refine T.rs (id := 5) (fun _ => false) fun K hK => ?_ | refine T.rs (id := 15) (fun _ => false) fun K hK => ?_ | refine T.rs (id := 17) (fun _ => false) fun K hK => ?_ | refine T.rs (id := 18) (fun _ => false) fun K hK => ?_ | refine T.rs (id := 20) (fun _ => false) fun K hK => ?_ | refine T.rs (id := 21) (fun _ => false) fun K hK => ?_ | refine T.ct rfl ?_ | refine T.cf rfl ?_ | refine T.seq ?_ | refine T.block ?_ | refine T.skip ?_ | refine T.exit ?_
    · rw [show ruleM e = none by simp [ruleM, h9, hkk, h3, h4]] at hs
      subst hs
      simp only [stepS, show ¬ (2 : Int) = 1 by omega, if_false]
      repeat' first | (refine aops_end (hK _ ?_); clear hK K) | (refine aops_go ?_; simp [h9, hlt, hkk, eTm_def, h3, h4]; (try (refine gen fun q hq => ?_; cases q <;> (try simp [h9, hlt, hkk, eTm_def, h3, h4] at hq) <;> (try (have hh : True := hq; clear hh hq))))) | (refine T.ret (Done.tup (Or.inr rfl) ?_) <;> simp [resAs, Tryz.results57, wrongM, h9] <;> omega) | refine T.rs (id := 5) (fun _ => false) fun K hK => ?_ | refine T.rs (id := 15) (fun _ => false) fun K hK => ?_ | refine T.rs (id := 17) (fun _ => false) fun K hK => ?_ | refine T.rs (id := 18) (fun _ => false) fun K hK => ?_ | refine T.rs (id := 20) (fun _ => false) fun K hK => ?_ | refine T.rs (id := 22) (fun _ => false) fun K hK => ?_ | refine T.cf rfl ?_ | refine T.seq ?_ | refine T.block ?_ | refine T.skip ?_ | refine T.exit ?_

theorem l13Step_ok : ∀ (e : MTm) (d : Nat), TmV 13 d e → bareM e = true → valM e = false → nTm e ≤ 1073741824 → ACalls Tryz.prog 57 [aTm e] [] (.tup (stepR (stepS (stepB e)))) [] [] := by
  intro e
  induction e using MTm.ind with
  | h e ih =>
    intro d hv hbr hvl hn
    obtain ⟨d', rfl, _, hlen, _, hk⟩ := shapeTm_kids hv.shape
    have hl3 := kidsM_le e.kind
    have hnu : ∀ u ∈ e.kids, nTm u ≤ 1073741824 := fun u hu => by have := nTmS_mem hu; rw [nTm_def] at hn; omega
    have hkd : ∀ u ∈ e.kids, ∃ d', TmV 13 d' u := fun u hu => ⟨d', TmV.of (hk u hu)⟩
    have ih' := fun u hu hvu => ih u hu d' (TmV.of (hk u hu)) (bareM_kids hbr u hu) hvu (hnu u hu)
    have h14 : ¬ e.kind = 14 := by rw [bareM_def] at hbr; simp only [Bool.and_eq_true, decide_eq_true_eq] at hbr; exact hbr.1.1
    by_cases h9 : e.kind = 9
    · have hif : e.kind = 9 → ∃ c a b, e.kids = [c, a, b] := fun _ => by
        rw [h9] at hlen
        have h3 : e.kids.length = 3 := by simp [kidsM] at hlen; omega
        match h : e.kids, h3 with
        | [c, a, b], _ => exact ⟨c, a, b, rfl⟩
      obtain ⟨c, a, b, hkk⟩ := hif h9
      exact l13Step_yes e h9 (by omega) (by simp [countsM, h9]) (by rw [hkk]; simp) (fun h => absurd h9 h) hkd hif ih'
    · refine l13Step_no e h9 (by omega) (by simp [countsM, h9]) (Nat.le_refl _) (fun _ hf => ?_) hkd (fun h => absurd h h9) ih'
      rw [List.take_length] at hf
      refine l13Reduce_ok e _ hv hn ?_
      have hall := firstNV_none hf
      rcases hv.cases13 with ⟨s, rfl⟩ | ⟨k, rfl, _, _⟩ | rfl | rfl | ⟨s, t, b, rfl⟩ | ⟨a, f, t, l, rfl⟩ | ⟨k, a, rfl, hk2, _, _⟩ | ⟨p, a, b, rfl, _, _⟩ | ⟨k, a, b, rfl, hk2, ⟨_, _⟩, _, _⟩
      · simp
      · simp [valM_def, proxyM, injM, plainM] at hvl
      · simp [valM_def, proxyM, injM, plainM] at hvl
      · simp [valM_def, proxyM, injM, plainM] at hvl
      · simp [valM_def, proxyM, injM, plainM] at hvl
      · simp at h14
      · simp; omega
      · simp at h9
      · simp
        by_cases h10 : k = 10
        · subst h10
          have h1 := hall a (by simp)
          have h2 := hall b (by simp)
          simp [valM_def (tN2 10 a b), h1, h2] at hvl
        · omega

theorem StepBareS_ok (e : MTm) (hn : nTm e ≤ 1073741824) : ACalls Tryz.prog 34 [aTm e] [] (.tup (stepR (stepBareM e))) [] [] := by
  have k1 := BareValidS_ok e (by omega)
  rw [stepBareM]
  rw [show (castValidM e && bareM e) = bareValidM e from rfl] at k1
  cases hb : bareValidM e with
  | false =>
    rw [hb] at k1
    simp only [Bool.false_eq_true, if_false]
    refine ACalls.of_body Tryz.func34 (by kernel_rfl) rfl (by kernel_rfl) (by simp [Tryz.ntmps34]) (by simp) ?_
    rw [Tryz.ntmps34]
    repeat' first | (refine aops_end (hK _ ?_); clear hK K) | (refine aops_go ?_; simp; (try (refine gen fun q hq => ?_; cases q <;> (try simp at hq) <;> (try (have hh : True := hq; clear hh hq))))) | (refine wpcall_pure rfl (k1) ?_; simp; (try (refine gen fun q hq => ?_; cases q <;> (try simp at hq) <;> (try (have hh : True := hq; clear hh hq))))) | (refine T.ret (Done.tup (Or.inr rfl) ?_) <;> simp [resAs, Tryz.results34] <;> omega) | refine T.r0 fun K hK => ?_ | refine T.ct rfl ?_ | refine T.seq ?_
  | true =>
    rw [hb] at k1
    simp only [if_true]
    have hb2 := hb
    simp only [bareValidM, Bool.and_eq_true] at hb2
    obtain ⟨hcv, hbr⟩ := hb2
    have hv := (castValidM_iff.1 hcv).1
    have hsm := castValid_small hcv
    have k2 := l5Value_ok e 40 hv
    cases hvl : valM e with
    | true =>
      rw [hvl] at k2
      have k3 := l2Copy_ok e (by omega)
      simp only [if_true]
      refine ACalls.of_body Tryz.func34 (by kernel_rfl) rfl (by kernel_rfl) (by simp [Tryz.ntmps34]) (by simp) ?_
      rw [Tryz.ntmps34]
      repeat' first | (refine aops_end (hK _ ?_); clear hK K) | (refine aops_go ?_; simp; (try (refine gen fun q hq => ?_; cases q <;> (try simp at hq) <;> (try (have hh : True := hq; clear hh hq))))) | (refine wpcall_pure rfl (k1) ?_; simp; (try (refine gen fun q hq => ?_; cases q <;> (try simp at hq) <;> (try (have hh : True := hq; clear hh hq))))) | (refine wpcall_pure rfl (k2) ?_; simp; (try (refine gen fun q hq => ?_; cases q <;> (try simp at hq) <;> (try (have hh : True := hq; clear hh hq))))) | (refine wpcall_pure rfl (k3) ?_; simp; (try (refine gen fun q hq => ?_; cases q <;> (try simp at hq) <;> (try (have hh : True := hq; clear hh hq))))) | (refine T.ret (Done.tup (Or.inr rfl) ?_) <;> simp [resAs, Tryz.results34] <;> omega) | refine T.r0 fun K hK => ?_ | refine T.ct rfl ?_ | refine T.cf rfl ?_ | refine T.seq ?_ | refine T.skip ?_
    | false =>
      rw [hvl] at k2
      have k3 := l13Step_ok e 40 hv hbr hvl hn
      have hsz := step_size e
      have hsz2 : nodesM e * nTm e ≤ 200 * 60000 := Nat.mul_le_mul hsm.2 hsm.1
      have k4 := CastValidS_ok (stepB e).1 (by omega)
      have k5 := l2Copy_ok (stepB e).1 (by omega)
      have hcq := step_castValid (e := e) hbr
      simp only [Bool.false_eq_true, if_false]
      generalize stepB e = p at *
      obtain ⟨x, cd, lb⟩ := p
      dsimp only at *
      by_cases h1 : cd = 1
      · subst h1
        rw [← hcq rfl] at k4
        simp only [stepS, if_true] at k3
        cases hbx : bareValidM x <;> rw [hbx] at k4
        · simp only [if_true, Bool.false_eq_true, if_false]
          refine ACalls.of_body Tryz.func34 (by kernel_rfl) rfl (by kernel_rfl) (by simp [Tryz.ntmps34]) (by simp) ?_
          rw [Tryz.ntmps34]
          repeat' first | (refine aops_end (hK _ ?_); clear hK K) | (refine aops_go ?_; simp; (try (refine gen fun q hq => ?_; cases q <;> (try simp at hq) <;> (try (have hh : True := hq; clear hh hq))))) | (refine wpcall_pure rfl (k1) ?_; simp; (try (refine gen fun q hq => ?_; cases q <;> (try simp at hq) <;> (try (have hh : True := hq; clear hh hq))))) | (refine wpcall_pure rfl (k2) ?_; simp; (try (refine gen fun q hq => ?_; cases q <;> (try simp at hq) <;> (try (have hh : True := hq; clear hh hq))))) | (refine wpcall_pure rfl (k3) ?_; simp; (try (refine gen fun q hq => ?_; cases q <;> (try simp at hq) <;> (try (have hh : True := hq; clear hh hq))))) | (refine wpcall_pure rfl (k4) ?_; simp; (try (refine gen fun q hq => ?_; cases q <;> (try simp at hq) <;> (try (have hh : True := hq; clear hh hq))))) | (refine T.ret (Done.tup (Or.inr rfl) ?_) <;> simp [resAs, Tryz.results34] <;> omega) | refine T.r0 fun K hK => ?_ | refine T.ct rfl ?_ | refine T.cf rfl ?_ | refine T.seq ?_ | refine T.skip ?_
        · simp only [if_true]
          refine ACalls.of_body Tryz.func34 (by kernel_rfl) rfl (by kernel_rfl) (by simp [Tryz.ntmps34]) (by simp) ?_
          rw [Tryz.ntmps34]
          repeat' first | (refine aops_end (hK _ ?_); clear hK K) | (refine aops_go ?_; simp; (try (refine gen fun q hq => ?_; cases q <;> (try simp at hq) <;> (try (have hh : True := hq; clear hh hq))))) | (refine wpcall_pure rfl (k1) ?_; simp; (try (refine gen fun q hq => ?_; cases q <;> (try simp at hq) <;> (try (have hh : True := hq; clear hh hq))))) | (refine wpcall_pure rfl (k2) ?_; simp; (try (refine gen fun q hq => ?_; cases q <;> (try simp at hq) <;> (try (have hh : True := hq; clear hh hq))))) | (refine wpcall_pure rfl (k3) ?_; simp; (try (refine gen fun q hq => ?_; cases q <;> (try simp at hq) <;> (try (have hh : True := hq; clear hh hq))))) | (refine wpcall_pure rfl (k4) ?_; simp; (try (refine gen fun q hq => ?_; cases q <;> (try simp at hq) <;> (try (have hh : True := hq; clear hh hq))))) | (refine wpcall_pure rfl (k5) ?_; simp; (try (refine gen fun q hq => ?_; cases q <;> (try simp at hq) <;> (try (have hh : True := hq; clear hh hq))))) | (refine T.ret (Done.tup (Or.inr rfl) ?_) <;> simp [resAs, Tryz.results34] <;> omega) | refine T.r0 fun K hK => ?_ | refine T.cf rfl ?_ | refine T.seq ?_ | refine T.skip ?_
      · rw [if_neg h1]
        simp only [stepS, if_neg h1] at k3
        refine ACalls.of_body Tryz.func34 (by kernel_rfl) rfl (by kernel_rfl) (by simp [Tryz.ntmps34]) (by simp) ?_
        rw [Tryz.ntmps34]
        repeat' first | (refine aops_end (hK _ ?_); clear hK K) | (refine aops_go ?_; simp [h1]; (try (refine gen fun q hq => ?_; cases q <;> (try simp [h1] at hq) <;> (try (have hh : True := hq; clear hh hq))))) | (refine wpcall_pure rfl (k1) ?_; simp [h1]; (try (refine gen fun q hq => ?_; cases q <;> (try simp [h1] at hq) <;> (try (have hh : True := hq; clear hh hq))))) | (refine wpcall_pure rfl (k2) ?_; simp [h1]; (try (refine gen fun q hq => ?_; cases q <;> (try simp [h1] at hq) <;> (try (have hh : True := hq; clear hh hq))))) | (refine wpcall_pure rfl (k3) ?_; simp [h1]; (try (refine gen fun q hq => ?_; cases q <;> (try simp [h1] at hq) <;> (try (have hh : True := hq; clear hh hq))))) | (refine T.ret (Done.tup (Or.inr rfl) ?_) <;> simp [resAs, Tryz.results34] <;> omega) | refine T.r0 fun K hK => ?_ | refine T.ct rfl ?_ | refine T.cf rfl ?_ | refine T.seq ?_ | refine T.skip ?_

/-- A run, as_ the reference answers: nothing of a term that is not done. -/
def evR (p : MTm × Int × Int × Int) : MTm × Int × Int × Int := if p.2.1 = 1 then (zeroE, 5, 0, p.2.2.2) else p

theorem evR_pos {p : MTm × Int × Int × Int} (h : p.2.1 = 1) : evR p = (zeroE, 5, 0, p.2.2.2) := if_pos h
theorem evR_neg {p : MTm × Int × Int × Int} (h : p.2.1 ≠ 1) : evR p = p := if_neg h

theorem l13Eval_ok (e : MTm) (n : Nat) (hn : nTm e ≤ 1073741824) (hf : n ≤ 1000) : ACalls Tryz.prog 16 [aTm e, .i n] [] (.tup (runR (evR (runB n e)))) [] [] := by
  obtain ⟨R, hR⟩ : ∃ R, evR (runB n e) = R := ⟨_, rfl⟩
  rw [hR]
  have hadd : ∀ p : MTm × Int × Int × Int, evR (p.1, p.2.1, p.2.2.1, p.2.2.2 + 1) = ((evR p).1, (evR p).2.1, (evR p).2.2.1, (evR p).2.2.2 + 1) := fun p => by
    simp only [evR]; split <;> rfl
  obtain ⟨r1, r2, r3, r4⟩ := R
  refine ACalls.of_body Tryz.func16 (by kernel_rfl) rfl (by kernel_rfl) (by simp [Tryz.ntmps16]) (by simp) ?_
  rw [Tryz.ntmps16]
  repeat' first | ((first | refine aops_end (hK _ ?_) | refine aopsD_end (hK _ ?_) | refine aopsF_end (hK _ ?_)); clear hK K) | ((first | refine aops_go ?_ | refine aopsD_go ?_ | refine aopsF_go ?_); simp; (try (refine gen fun q hq => ?_; cases q <;> (try simp at hq) <;> (try (have hh : True := hq; clear hh hq))))) | refine T.r0 fun K hK => ?_ | refine T.r1 fun K hK => ?_ | (refine ⟨by omega, ?_⟩) | refine T.ct rfl ?_ | refine T.cf rfl ?_ | refine T.seq ?_ | refine T.block ?_ | refine T.skip ?_ | refine T.exit ?_
  refine T.loopK (α := Nat × MTm × List (List CV)) [1, 2, 4] (fun x => [(5, .i 0), (6, .i 0), (7, .i 0), (8, .i x.1)]) (fun x => [(0, (aTm x.2.1).cells)]) (fun x => x.2.2) (fun x A => A) (fun x => n + 1 - x.1) (fun x => x.1 ≤ n ∧ nTm x.2.1 ≤ 1073741824 ∧ (evR (runB (n - x.1) x.2.1)).1 = r1 ∧ (evR (runB (n - x.1) x.2.1)).2.1 = r2 ∧ (evR (runB (n - x.1) x.2.1)).2.2.1 = r3 ∧ (evR (runB (n - x.1) x.2.1)).2.2.2 + x.1 = r4) (by simp; rfl) (fun x hx => ?_) (0, e, []) (by simp [hR, hn]) (by simp) (by simp) (by simp)
  obtain ⟨s, f, G⟩ := x
  obtain ⟨h1, h2, h3, h4, h5, h6⟩ := hx
  dsimp only at h1 h2 h3 h4 h5 h6 ⊢
  simp only [ups, List.set_cons_zero, List.set_cons_succ, List.cons_append, List.nil_append, List.append_nil]
  have k1 := StepBareS_ok f h2
  have hsz := stepBare_small f
  obtain ⟨m, hm⟩ : ∃ m, n - s = m := ⟨_, rfl⟩
  rw [hm] at h3 h4 h5 h6
  have hbad : (stepBareM f).2.1 ≠ 1 → (stepBareM f).1 = r1 ∧ (stepBareM f).2.1 = r2 ∧ (stepBareM f).2.2 = r3 ∧ (s : Int) = r4 := by
    intro h
    have e1 : runB m f = ((stepBareM f).1, (stepBareM f).2.1, (stepBareM f).2.2, 0) := by
      cases m with
      | zero => rfl
      | succ m => simp only [runB, if_neg h]
    rw [e1, evR_neg h] at h3 h4 h5 h6
    exact ⟨h3, h4, h5, by dsimp only at h6; omega⟩
  have hend : m = 0 → (stepBareM f).2.1 = 1 → zeroE = r1 ∧ 5 = r2 ∧ 0 = r3 ∧ (s : Int) = r4 := by
    intro hm0 h
    subst hm0
    have e1 : runB 0 f = ((stepBareM f).1, (stepBareM f).2.1, (stepBareM f).2.2, 0) := rfl
    rw [e1, evR_pos h] at h3 h4 h5 h6
    exact ⟨h3, h4, h5, by dsimp only at h6; omega⟩
  have hnext : ∀ k, m = k + 1 → (stepBareM f).2.1 = 1 → (evR (runB k (stepBareM f).1)).1 = r1 ∧ (evR (runB k (stepBareM f).1)).2.1 = r2 ∧ (evR (runB k (stepBareM f).1)).2.2.1 = r3 ∧ (evR (runB k (stepBareM f).1)).2.2.2 + (s + 1 : Nat) = r4 := by
    intro k hk h
    subst hk
    simp only [runB, if_pos h, hadd] at h3 h4 h5 h6
    exact ⟨h3, h4, h5, by push_cast; omega⟩
  clear h3 h4 h5 h6 hR hadd
  generalize stepBareM f = p at *
  obtain ⟨x, cd, lb⟩ := p
  dsimp only at hsz hbad hend hnext
  by_cases hc : cd = 1
  · subst hc
    cases m with
    | zero =>
      obtain ⟨rfl, rfl, rfl, rfl⟩ := hend rfl rfl
      have hs : n = s := by omega
      subst hs
      repeat' first | ((first | refine aops_end (hK _ ?_) | refine aopsD_end (hK _ ?_) | refine aopsF_end (hK _ ?_)); clear hK K) | ((first | refine aops_go ?_ | refine aopsD_go ?_ | refine aopsF_go ?_); simp; (try simp (disch := omega) only [wrap64]); (try (refine gen fun q hq => ?_; cases q <;> (try simp at hq) <;> (try (have hh : True := hq; clear hh hq))))) | (refine wpcall_pure rfl (k1) ?_; simp; (try simp (disch := omega) only [wrap64]); (try (refine gen fun q hq => ?_; cases q <;> (try simp at hq) <;> (try (have hh : True := hq; clear hh hq))))) | (refine T.ret (Done.tup (Or.inr rfl) ?_) <;> simp [resAs, Tryz.results16] <;> omega) | refine T.r0 fun K hK => ?_ | refine T.r1 fun K hK => ?_ | (refine ⟨by omega, ?_⟩) | refine T.ct rfl ?_ | refine T.cf rfl ?_ | refine T.seq ?_ | refine T.block ?_ | refine T.skip ?_ | refine T.exit ?_
    | succ m =>
      obtain ⟨g1, g2, g3, g4⟩ := hnext m rfl rfl
      have hs : ¬ (s : Int) = n := by omega
      have hs2 : n - (s + 1) = m := by omega
      repeat' first | ((first | refine aops_end (hK _ ?_) | refine aopsD_end (hK _ ?_) | refine aopsF_end (hK _ ?_)); clear hK K) | ((first | refine aops_go ?_ | refine aopsD_go ?_ | refine aopsF_go ?_); simp [hs]; (try simp (disch := omega) only [wrap64]); (try (refine gen fun q hq => ?_; cases q <;> (try simp [hs] at hq) <;> (try (have hh : True := hq; clear hh hq))))) | (refine wpcall_pure rfl (k1) ?_; simp [hs]; (try simp (disch := omega) only [wrap64]); (try (refine gen fun q hq => ?_; cases q <;> (try simp [hs] at hq) <;> (try (have hh : True := hq; clear hh hq))))) | (refine ⟨(s + 1, x, _), by dsimp only; omega, ⟨by dsimp only; omega, by dsimp only; omega, by dsimp only; rw [hs2]; exact g1, by dsimp only; rw [hs2]; exact g2, by dsimp only; rw [hs2]; exact g3, by dsimp only; rw [hs2]; exact g4⟩, rfl, ?_, ?_⟩ <;> simp (disch := omega) [wrap64]) | refine T.r0 fun K hK => ?_ | refine T.r1 fun K hK => ?_ | (refine ⟨by omega, ?_⟩) | refine T.ct rfl ?_ | refine T.cf rfl ?_ | refine T.seq ?_ | refine T.block ?_ | refine T.skip ?_ | refine T.exit ?_
  · obtain ⟨rfl, rfl, rfl, rfl⟩ := hbad hc
    repeat' first | ((first | refine aops_end (hK _ ?_) | refine aopsD_end (hK _ ?_) | refine aopsF_end (hK _ ?_)); clear hK K) | ((first | refine aops_go ?_ | refine aopsD_go ?_ | refine aopsF_go ?_); simp [hc]; (try simp (disch := omega) only [wrap64]); (try (refine gen fun q hq => ?_; cases q <;> (try simp [hc] at hq) <;> (try (have hh : True := hq; clear hh hq))))) | (refine wpcall_pure rfl (k1) ?_; simp [hc]; (try simp (disch := omega) only [wrap64]); (try (refine gen fun q hq => ?_; cases q <;> (try simp [hc] at hq) <;> (try (have hh : True := hq; clear hh hq))))) | (refine T.ret (Done.tup (Or.inr rfl) ?_) <;> simp [resAs, Tryz.results16] <;> omega) | refine T.r0 fun K hK => ?_ | refine T.r1 fun K hK => ?_ | (refine ⟨by omega, ?_⟩) | refine T.ct rfl ?_ | refine T.cf rfl ?_ | refine T.seq ?_ | refine T.block ?_ | refine T.skip ?_ | refine T.exit ?_

theorem EvalBareS_ok (e : MTm) (n : Int) (hn : nTm e ≤ 1073741824) : ACalls Tryz.prog 6 [aTm e, .i n] [] (.tup (stepR (evalBareM e n))) [] [] := by
  rw [evalBareM]
  by_cases h0 : n < 0
  · rw [show fuelM n = false by simp [fuelM]; omega]
    simp only [Bool.false_eq_true, if_false]
    refine ACalls.of_body Tryz.func6 (by kernel_rfl) rfl (by kernel_rfl) (by simp [Tryz.ntmps6]) (by simp) ?_
    rw [Tryz.ntmps6]
    repeat' first | ((first | refine aops_end (hK _ ?_) | refine aopsD_end (hK _ ?_) | refine aopsF_end (hK _ ?_)); clear hK K) | ((first | refine aops_go ?_ | refine aopsD_go ?_ | refine aopsF_go ?_); simp [h0]; (try (refine gen fun q hq => ?_; cases q <;> (try simp [h0] at hq) <;> (try (have hh : True := hq; clear hh hq))))) | (refine T.ret (Done.tup (Or.inr rfl) ?_) <;> simp [resAs, Tryz.results6] <;> omega) | refine T.r0 fun K hK => ?_ | refine T.r1 fun K hK => ?_ | (refine ⟨by omega, ?_⟩) | refine T.ct rfl ?_ | refine T.cf rfl ?_ | refine T.seq ?_ | refine T.block ?_ | refine T.skip ?_ | refine T.exit ?_
  by_cases h3 : 300 < n
  · rw [show fuelM n = false by simp [fuelM]; omega]
    simp only [Bool.false_eq_true, if_false]
    refine ACalls.of_body Tryz.func6 (by kernel_rfl) rfl (by kernel_rfl) (by simp [Tryz.ntmps6]) (by simp) ?_
    rw [Tryz.ntmps6]
    repeat' first | ((first | refine aops_end (hK _ ?_) | refine aopsD_end (hK _ ?_) | refine aopsF_end (hK _ ?_)); clear hK K) | ((first | refine aops_go ?_ | refine aopsD_go ?_ | refine aopsF_go ?_); simp [h0, h3]; (try (refine gen fun q hq => ?_; cases q <;> (try simp [h0, h3] at hq) <;> (try (have hh : True := hq; clear hh hq))))) | (refine T.ret (Done.tup (Or.inr rfl) ?_) <;> simp [resAs, Tryz.results6] <;> omega) | refine T.r0 fun K hK => ?_ | refine T.r1 fun K hK => ?_ | (refine ⟨by omega, ?_⟩) | refine T.ct rfl ?_ | refine T.cf rfl ?_ | refine T.seq ?_ | refine T.block ?_ | refine T.skip ?_ | refine T.exit ?_
  have k2 := l13Eval_ok e n.toNat hn (by omega)
  rw [show ((n.toNat : Nat) : Int) = n by omega] at k2
  rw [show fuelM n = true by simp [fuelM]; omega]
  simp only [if_true]
  generalize runB n.toNat e = p at *
  obtain ⟨x, cd, lb, st⟩ := p
  dsimp only
  by_cases hc : cd = 1
  · subst hc
    simp only [evR, if_true] at k2 ⊢
    refine ACalls.of_body Tryz.func6 (by kernel_rfl) rfl (by kernel_rfl) (by simp [Tryz.ntmps6]) (by simp) ?_
    rw [Tryz.ntmps6]
    repeat' first | ((first | refine aops_end (hK _ ?_) | refine aopsD_end (hK _ ?_) | refine aopsF_end (hK _ ?_)); clear hK K) | ((first | refine aops_go ?_ | refine aopsD_go ?_ | refine aopsF_go ?_); simp [h0, h3]; (try (refine gen fun q hq => ?_; cases q <;> (try simp [h0, h3] at hq) <;> (try (have hh : True := hq; clear hh hq))))) | (refine wpcall_pure rfl (k2) ?_; simp [h0, h3]; (try (refine gen fun q hq => ?_; cases q <;> (try simp [h0, h3] at hq) <;> (try (have hh : True := hq; clear hh hq))))) | (refine T.ret (Done.tup (Or.inr rfl) ?_) <;> simp [resAs, Tryz.results6] <;> omega) | refine T.r0 fun K hK => ?_ | refine T.r1 fun K hK => ?_ | (refine ⟨by omega, ?_⟩) | refine T.ct rfl ?_ | refine T.cf rfl ?_ | refine T.seq ?_ | refine T.block ?_ | refine T.skip ?_ | refine T.exit ?_
  · simp only [evR, if_neg hc] at k2 ⊢
    refine ACalls.of_body Tryz.func6 (by kernel_rfl) rfl (by kernel_rfl) (by simp [Tryz.ntmps6]) (by simp) ?_
    rw [Tryz.ntmps6]
    repeat' first | ((first | refine aops_end (hK _ ?_) | refine aopsD_end (hK _ ?_) | refine aopsF_end (hK _ ?_)); clear hK K) | ((first | refine aops_go ?_ | refine aopsD_go ?_ | refine aopsF_go ?_); simp [h0, h3]; (try (refine gen fun q hq => ?_; cases q <;> (try simp [h0, h3] at hq) <;> (try (have hh : True := hq; clear hh hq))))) | (refine wpcall_pure rfl (k2) ?_; simp [h0, h3]; (try (refine gen fun q hq => ?_; cases q <;> (try simp [h0, h3] at hq) <;> (try (have hh : True := hq; clear hh hq))))) | (refine T.ret (Done.tup (Or.inr rfl) ?_) <;> simp [resAs, Tryz.results6] <;> omega) | refine T.r0 fun K hK => ?_ | refine T.r1 fun K hK => ?_ | (refine ⟨by omega, ?_⟩) | refine T.ct rfl ?_ | refine T.cf rfl ?_ | refine T.seq ?_ | refine T.block ?_ | refine T.skip ?_ | refine T.exit ?_

end Go.Proofs.YtgpgcnahoieedaaGreat
