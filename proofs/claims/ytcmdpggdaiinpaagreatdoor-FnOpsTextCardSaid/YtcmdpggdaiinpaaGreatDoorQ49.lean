/- A part of the library of this seat. -/
import Derived.Test.YtcmdpggdaiinpaaGreatDoorQ48
set_option linter.unusedVariables false
set_option linter.unusedSimpArgs false
namespace Go.Proofs.YtcmdpggdaiinpaaGreatDoor
open Go Go.Av
attribute [local irreducible] T ACalls TX EX LX Draws Some_ ACallsX eTy eTm MTy.kind MTy.kids MTm.kind MTm.name MTm.num MTm.ty MTm.fr MTm.label MTm.kids
attribute [local simp] eTy_def eTm_def
set_option maxHeartbeats 16000000
set_option maxRecDepth 8000
attribute [local irreducible] TJ FCalls wordsM opWord

theorem ParseOps_ok (s : List UInt8) (hs : s.length <= 1000000000) : ACalls Tryz.prog 7 [.s s] [] (.tup [.l (((parseI s).getD []).map eOp), .b (parseI s).isSome]) [] [] := by
 refine (ParseOps_tree s hs).data fun r L' ⟨v, hr, hL⟩ => ⟨_, hr, ?_⟩
 subst hL
 generalize (parseI s).getD [] = x
 generalize (parseI s).isSome = q
 repeat' first | exact FzVs.nil | apply FzVs.cons | apply FzV.c | apply FzV.agg | exact FzL.nil | apply FzL.cons | exact FzC.d | (refine FzC.thaw' ?_ (opK_dp 51 _); (focus (solve | simp)))

theorem lawOpsText_ok (b c : List Int) (hb : ∀ n ∈ b, 0 <= n /\ n <= 255) (hc : ∀ n ∈ c, 0 <= n /\ n <= 255) : ACalls Tryz.prog 3 [.l (rB b), .l (rB c)] [] (.b true) [] [] := by
 by_cases h1 : (1048576 : Int) < b.length
 ·refine ACalls.of_body Tryz.func3 (by kernel_rfl) rfl (by kernel_rfl) (by simp [Tryz.ntmps3]) (by simp) ?_
  rw [Tryz.ntmps3]
  repeat' first | ((first | refine aops_end (hK _ ?_) | refine aopsD_end (hK _ ?_) | refine aopsF_end (hK _ ?_)); clear hK K) | ((first | refine aops_go ?_ | refine aopsD_go ?_ | refine aopsF_go ?_); simp [h1, rB_len]; (try (refine gen2 ?_ ?_ <;> intro hq <;> try simp [h1, rB_len] at hq))) | (refine T.ret (Done.data (Or.inr rfl) ?_ ?_) <;> simp [Tryz.results3] <;> omega) | refine T.r0 fun K hK => ?_ | refine T.r1 fun K hK => ?_ | (refine ⟨by omega, ?_⟩) | refine T.ct rfl ?_ | refine T.cf rfl ?_ | refine T.seq ?_ | refine T.block ?_ | refine T.skip ?_ | refine T.exit ?_
 by_cases h2 : (1048576 : Int) < c.length
 ·refine ACalls.of_body Tryz.func3 (by kernel_rfl) rfl (by kernel_rfl) (by simp [Tryz.ntmps3]) (by simp) ?_
  rw [Tryz.ntmps3]
  repeat' first | ((first | refine aops_end (hK _ ?_) | refine aopsD_end (hK _ ?_) | refine aopsF_end (hK _ ?_)); clear hK K) | ((first | refine aops_go ?_ | refine aopsD_go ?_ | refine aopsF_go ?_); simp [h1, h2, rB_len]; (try (refine gen2 ?_ ?_ <;> intro hq <;> try simp [h1, h2, rB_len] at hq))) | (refine T.ret (Done.data (Or.inr rfl) ?_ ?_) <;> simp [Tryz.results3] <;> omega) | refine T.r0 fun K hK => ?_ | refine T.r1 fun K hK => ?_ | (refine ⟨by omega, ?_⟩) | refine T.ct rfl ?_ | refine T.cf rfl ?_ | refine T.seq ?_ | refine T.block ?_ | refine T.skip ?_ | refine T.exit ?_
 obtain ⟨l, hl, d1⟩ := (DrawFormatOps_ok b hb).elim
 obtain ⟨t, ht, d2⟩ := (DrawParseOps_ok c hc).elim
 have hfl := fmt_len l
 have k1 := FormatOps_ok l (by omega)
 have k2 := FormatOpsS_ok l (by omega)
 have k3 := ParseOps_ok (formatOpsM l) (by omega)
 have k4 := OpsValid_ok l (by omega)
 have k5 := OpsValidS_ok l (by omega)
 have k6 := OpsSame_ok l l (by omega)
 have k7 := ParseOps_ok t (by omega)
 have k8 := ParseOpsS_ok t (by omega)
 rw [decide_eq_true rfl] at k6
 rw [parseI_format] at k3
 simp only [aOps] at d1
 have hsome : ∀ m, parseI t = some m -> formatOpsM m = t /\ m.length <= 120 := fun m h => by
  obtain ⟨q1, q2⟩ := parseI_iff.1 h
  exact ⟨by rw [formatOpsM, if_pos q1, q2], (opsValid_iff.1 q1).2.2⟩
 generalize formatOpsM l = s at *
 cases ho : parseI t with
 | none =>
  rw [ho] at k7 k8
  have k9 := OpsSame_ok [] [] (by simp)
  rw [decide_eq_true rfl] at k9
  simp only [Option.getD_none, Option.isSome_none, List.map_nil] at k7 k8 k9
  cases hv : opsValidM l with
  | false =>
   rw [hv] at k3 k4 k5
   simp only [Bool.false_eq_true, if_false, Option.getD_none, Option.isSome_none, List.map_nil] at k3
   refine ACalls.of_body Tryz.func3 (by kernel_rfl) rfl (by kernel_rfl) (by simp [Tryz.ntmps3]) (by simp) ?_
   rw [Tryz.ntmps3]
   repeat' first | ((first | refine aops_end (hK _ ?_) | refine aopsD_end (hK _ ?_) | refine aopsF_end (hK _ ?_)); clear hK K) | ((first | refine aops_go ?_ | refine aopsD_go ?_ | refine aopsF_go ?_ | refine wpcall_pure rfl (d1) ?_ | refine wpcall_pure rfl (k1) ?_ | refine wpcall_pure rfl (k2) ?_ | refine wpcall_pure rfl (k3) ?_ | refine wpcall_pure rfl (k4) ?_ | refine wpcall_pure rfl (k5) ?_ | refine wpcall_pure rfl (d2) ?_ | refine wpcall_pure rfl (k7) ?_ | refine wpcall_pure rfl (k8) ?_ | refine wpcall_pure rfl (k9) ?_); simp [h1, h2, rB_len]; (try (refine gen2 ?_ ?_ <;> intro hq <;> try simp [h1, h2, rB_len] at hq))) | (refine T.ret (Done.data (Or.inr rfl) ?_ ?_) <;> simp [Tryz.results3] <;> omega) | refine T.r0 fun K hK => ?_ | refine T.r1 fun K hK => ?_ | (refine ⟨by omega, ?_⟩) | refine T.ct rfl ?_ | refine T.cf rfl ?_ | refine T.seq ?_ | refine T.block ?_ | refine T.skip ?_ | refine T.exit ?_
  | true =>
   rw [hv] at k3 k4 k5
   simp only [if_true, Option.getD_some, Option.isSome_some] at k3
   refine ACalls.of_body Tryz.func3 (by kernel_rfl) rfl (by kernel_rfl) (by simp [Tryz.ntmps3]) (by simp) ?_
   rw [Tryz.ntmps3]
   repeat' first | ((first | refine aops_end (hK _ ?_) | refine aopsD_end (hK _ ?_) | refine aopsF_end (hK _ ?_)); clear hK K) | ((first | refine aops_go ?_ | refine aopsD_go ?_ | refine aopsF_go ?_ | refine wpcall_pure rfl (d1) ?_ | refine wpcall_pure rfl (k1) ?_ | refine wpcall_pure rfl (k2) ?_ | refine wpcall_pure rfl (k3) ?_ | refine wpcall_pure rfl (k4) ?_ | refine wpcall_pure rfl (k5) ?_ | refine wpcall_pure rfl (k6) ?_ | refine wpcall_pure rfl (d2) ?_ | refine wpcall_pure rfl (k7) ?_ | refine wpcall_pure rfl (k8) ?_ | refine wpcall_pure rfl (k9) ?_); simp [h1, h2, rB_len]; (try (refine gen2 ?_ ?_ <;> intro hq <;> try simp [h1, h2, rB_len] at hq))) | (refine T.ret (Done.data (Or.inr rfl) ?_ ?_) <;> simp [Tryz.results3] <;> omega) | refine T.r0 fun K hK => ?_ | refine T.r1 fun K hK => ?_ | (refine ⟨by omega, ?_⟩) | refine T.ct rfl ?_ | refine T.cf rfl ?_ | refine T.seq ?_ | refine T.block ?_ | refine T.skip ?_ | refine T.exit ?_
 | some m =>
  obtain ⟨hm1, hm2⟩ := hsome m ho
  rw [ho] at k7 k8
  have k9 := OpsSame_ok m m (by omega)
  have k10 := FormatOps_ok m (by omega)
  rw [hm1] at k10
  rw [decide_eq_true rfl] at k9
  simp only [Option.getD_some, Option.isSome_some] at k7 k8
  cases hv : opsValidM l with
  | false =>
   rw [hv] at k3 k4 k5
   simp only [Bool.false_eq_true, if_false, Option.getD_none, Option.isSome_none, List.map_nil] at k3
   refine ACalls.of_body Tryz.func3 (by kernel_rfl) rfl (by kernel_rfl) (by simp [Tryz.ntmps3]) (by simp) ?_
   rw [Tryz.ntmps3]
   repeat' first | ((first | refine aops_end (hK _ ?_) | refine aopsD_end (hK _ ?_) | refine aopsF_end (hK _ ?_)); clear hK K) | ((first | refine aops_go ?_ | refine aopsD_go ?_ | refine aopsF_go ?_ | refine wpcall_pure rfl (d1) ?_ | refine wpcall_pure rfl (k1) ?_ | refine wpcall_pure rfl (k2) ?_ | refine wpcall_pure rfl (k3) ?_ | refine wpcall_pure rfl (k4) ?_ | refine wpcall_pure rfl (k5) ?_ | refine wpcall_pure rfl (d2) ?_ | refine wpcall_pure rfl (k7) ?_ | refine wpcall_pure rfl (k8) ?_ | refine wpcall_pure rfl (k9) ?_ | refine wpcall_pure rfl (k10) ?_); simp [h1, h2, rB_len]; (try (refine gen2 ?_ ?_ <;> intro hq <;> try simp [h1, h2, rB_len] at hq))) | (refine T.ret (Done.data (Or.inr rfl) ?_ ?_) <;> simp [Tryz.results3] <;> omega) | refine T.r0 fun K hK => ?_ | refine T.r1 fun K hK => ?_ | (refine ⟨by omega, ?_⟩) | refine T.ct rfl ?_ | refine T.cf rfl ?_ | refine T.seq ?_ | refine T.block ?_ | refine T.skip ?_ | refine T.exit ?_
  | true =>
   rw [hv] at k3 k4 k5
   simp only [if_true, Option.getD_some, Option.isSome_some] at k3
   refine ACalls.of_body Tryz.func3 (by kernel_rfl) rfl (by kernel_rfl) (by simp [Tryz.ntmps3]) (by simp) ?_
   rw [Tryz.ntmps3]
   repeat' first | ((first | refine aops_end (hK _ ?_) | refine aopsD_end (hK _ ?_) | refine aopsF_end (hK _ ?_)); clear hK K) | ((first | refine aops_go ?_ | refine aopsD_go ?_ | refine aopsF_go ?_ | refine wpcall_pure rfl (d1) ?_ | refine wpcall_pure rfl (k1) ?_ | refine wpcall_pure rfl (k2) ?_ | refine wpcall_pure rfl (k3) ?_ | refine wpcall_pure rfl (k4) ?_ | refine wpcall_pure rfl (k5) ?_ | refine wpcall_pure rfl (k6) ?_ | refine wpcall_pure rfl (d2) ?_ | refine wpcall_pure rfl (k7) ?_ | refine wpcall_pure rfl (k8) ?_ | refine wpcall_pure rfl (k9) ?_ | refine wpcall_pure rfl (k10) ?_); simp [h1, h2, rB_len]; (try (refine gen2 ?_ ?_ <;> intro hq <;> try simp [h1, h2, rB_len] at hq))) | (refine T.ret (Done.data (Or.inr rfl) ?_ ?_) <;> simp [Tryz.results3] <;> omega) | refine T.r0 fun K hK => ?_ | refine T.r1 fun K hK => ?_ | (refine ⟨by omega, ?_⟩) | refine T.ct rfl ?_ | refine T.cf rfl ?_ | refine T.seq ?_ | refine T.block ?_ | refine T.skip ?_ | refine T.exit ?_
end Go.Proofs.YtcmdpggdaiinpaaGreatDoor
