/- A part of the library of this seat. -/
import Derived.Test.YtcgmmknfpfdghaaGreatDoorC35
set_option linter.unusedVariables false
set_option linter.unusedSimpArgs false
namespace Go.Proofs.YtcgmmknfpfdghaaGreatDoor
open Go Go.Av
attribute [local irreducible] T ACalls TX EX LX Draws Some_ ACallsX eTy eTm MTy.kind MTy.kids MTm.kind MTm.name MTm.num MTm.ty MTm.fr MTm.label MTm.kids
attribute [local simp] eTy_def eTm_def
set_option maxHeartbeats 16000000
set_option maxRecDepth 8000
attribute [local irreducible] TJ FCalls coK

theorem ParseCoercion_ok (s : List UInt8) (hs : s.length <= 1000000000) : ACalls Tryz.prog 16 [.s s] [] (.tup [aCo ((parseCoI s).getD zeroCo), .b (parseCoI s).isSome]) [] [] := by
 refine (ParseCoercion_tree s hs).data fun r L' ⟨v, hr, hL⟩ => ⟨_, hr, ?_⟩
 subst hL
 generalize (parseCoI s).getD zeroCo = x
 generalize (parseCoI s).isSome = q
 repeat' first | exact FzVs.nil | apply FzVs.cons | apply FzV.c | apply FzV.agg | exact FzL.nil | apply FzL.cons | exact FzC.d | (refine FzC.thaw' ?_ (coK_dp 34 _); (focus (solve | simp)))

theorem formatCo_len (c : MCo) : (formatCoM c).length <= 10000 := by
 rw [formatCoM]
 split
 ·have h := coTextF_len (CoV.of ‹shapeCo 9 c = true›)
  rw [coText]
  omega
 ·simp

theorem lawCoercionText_ok (b c : List Int) (hb : ∀ n ∈ b, 0 <= n /\ n <= 255) (hc : ∀ n ∈ c, 0 <= n /\ n <= 255) : ACalls Tryz.prog 4 [.l (rB b), .l (rB c)] [] (.b true) [] [] := by
 by_cases h1 : (1048576 : Int) < b.length
 ·refine ACalls.of_body Tryz.func4 (by kernel_rfl) rfl (by kernel_rfl) (by simp [Tryz.ntmps4]) (by simp) ?_
  rw [Tryz.ntmps4]
  repeat' first | ((first | refine aops_end (hK _ ?_) | refine aopsD_end (hK _ ?_) | refine aopsF_end (hK _ ?_)); clear hK K) | ((first | refine aops_go ?_ | refine aopsD_go ?_ | refine aopsF_go ?_); simp [h1, rB_len]; (try (refine gen2 ?_ ?_ <;> intro hq <;> try simp [h1, rB_len] at hq))) | (refine T.ret (Done.data (Or.inr rfl) ?_ ?_) <;> simp [Tryz.results4] <;> omega) | refine T.rd (id := 6) mixed (fun _ => false) [] (by kernel_rfl) fun K hK => ?_ | refine T.rd1 (id := 6) mixed (fun _ => false) [] (by kernel_rfl) fun K hK => ?_ | refine T.r0 fun K hK => ?_ | refine T.r1 fun K hK => ?_ | (refine ⟨by omega, ?_⟩) | refine T.ct rfl ?_ | refine T.cf rfl ?_ | refine T.seq ?_ | refine T.block ?_ | refine T.skip ?_ | refine T.exit ?_
 by_cases h2 : (1048576 : Int) < c.length
 ·refine ACalls.of_body Tryz.func4 (by kernel_rfl) rfl (by kernel_rfl) (by simp [Tryz.ntmps4]) (by simp) ?_
  rw [Tryz.ntmps4]
  repeat' first | ((first | refine aops_end (hK _ ?_) | refine aopsD_end (hK _ ?_) | refine aopsF_end (hK _ ?_)); clear hK K) | ((first | refine aops_go ?_ | refine aopsD_go ?_ | refine aopsF_go ?_); simp [h1, h2, rB_len]; (try (refine gen2 ?_ ?_ <;> intro hq <;> try simp [h1, h2, rB_len] at hq))) | (refine T.ret (Done.data (Or.inr rfl) ?_ ?_) <;> simp [Tryz.results4] <;> omega) | refine T.rd (id := 6) mixed (fun _ => false) [] (by kernel_rfl) fun K hK => ?_ | refine T.rd1 (id := 6) mixed (fun _ => false) [] (by kernel_rfl) fun K hK => ?_ | refine T.r0 fun K hK => ?_ | refine T.r1 fun K hK => ?_ | (refine ⟨by omega, ?_⟩) | refine T.ct rfl ?_ | refine T.cf rfl ?_ | refine T.seq ?_ | refine T.block ?_ | refine T.skip ?_ | refine T.exit ?_
 obtain ⟨l, hl, d1⟩ := DrawFormatCoercion_ex b hb
 obtain ⟨t, ht, d2⟩ := (DrawParseCoercion_ok c hc).elim
 have hfl := formatCo_len l
 have k1 := FormatCoercion_ok l (by omega)
 have k2 := FormatCoercionS_ok l (by omega)
 have k3 := ParseCoercion_ok (formatCoM l) (by omega)
 have k4 := CoercionValid_ok l (by omega)
 have k5 := CoercionValidS_ok l (by omega)
 have k6 := CoercionSame_ok l l (by omega)
 have k7 := ParseCoercion_ok t (by omega)
 have k8 := ParseCoercionS_ok t (by omega)
 have kz : ∀ m : MCo, nCo m <= 2000 -> ACalls Tryz.prog 20 [aCo m, aCo m] [] (.b true) [] [] := fun m hm => by
  have := CoercionSame_ok m m (by omega)
  rwa [sameCo_refl] at this
 rw [sameCo_refl] at k6
 rw [parseCoI_format] at k3
 have hsome : ∀ m, parseCoI t = some m -> formatCoM m = t /\ nCo m <= 2000 := fun m h => by
  obtain ⟨q1, q2⟩ := parseCoI_iff.1 h
  exact ⟨by rw [formatCoM, if_pos q1, q2], by have := (CoV.of q1).small; omega⟩
 generalize formatCoM l = s at *
 cases ho : parseCoI t with
 | none =>
  rw [ho] at k7 k8
  have k9 := kz zeroCo (by simp [nCo_def, nCoS])
  simp only [Option.getD_none, Option.isSome_none] at k7 k8
  generalize zeroCo = z at *
  cases hv : shapeCo 9 l with
  | false =>
   rw [hv] at k3 k4 k5
   simp only [Bool.false_eq_true, if_false, Option.getD_none, Option.isSome_none] at k3
   refine ACalls.of_body Tryz.func4 (by kernel_rfl) rfl (by kernel_rfl) (by simp [Tryz.ntmps4]) (by simp) ?_
   rw [Tryz.ntmps4]
   repeat' first | ((first | refine aops_end (hK _ ?_) | refine aopsD_end (hK _ ?_) | refine aopsF_end (hK _ ?_)); clear hK K) | ((first | refine aops_go ?_ | refine aopsD_go ?_ | refine aopsF_go ?_ | refine wpcall_pure rfl (d1) ?_ | refine wpcall_pure rfl (k1) ?_ | refine wpcall_pure rfl (k2) ?_ | refine wpcall_pure rfl (k3) ?_ | refine wpcall_pure rfl (k4) ?_ | refine wpcall_pure rfl (k5) ?_ | refine wpcall_pure rfl (d2) ?_ | refine wpcall_pure rfl (k7) ?_ | refine wpcall_pure rfl (k8) ?_ | refine wpcall_pure rfl (k9) ?_); simp [h1, h2, rB_len]; (try (refine gen2 ?_ ?_ <;> intro hq <;> try simp [h1, h2, rB_len] at hq))) | (refine T.ret (Done.data (Or.inr rfl) ?_ ?_) <;> simp [Tryz.results4] <;> omega) | refine T.rd (id := 6) mixed (fun _ => false) [] (by kernel_rfl) fun K hK => ?_ | refine T.rd1 (id := 6) mixed (fun _ => false) [] (by kernel_rfl) fun K hK => ?_ | refine T.r0 fun K hK => ?_ | refine T.r1 fun K hK => ?_ | (refine ⟨by omega, ?_⟩) | refine T.ct rfl ?_ | refine T.cf rfl ?_ | refine T.seq ?_ | refine T.block ?_ | refine T.skip ?_ | refine T.exit ?_
  | true =>
   rw [hv] at k3 k4 k5
   simp only [if_true, Option.getD_some, Option.isSome_some] at k3
   refine ACalls.of_body Tryz.func4 (by kernel_rfl) rfl (by kernel_rfl) (by simp [Tryz.ntmps4]) (by simp) ?_
   rw [Tryz.ntmps4]
   repeat' first | ((first | refine aops_end (hK _ ?_) | refine aopsD_end (hK _ ?_) | refine aopsF_end (hK _ ?_)); clear hK K) | ((first | refine aops_go ?_ | refine aopsD_go ?_ | refine aopsF_go ?_ | refine wpcall_pure rfl (d1) ?_ | refine wpcall_pure rfl (k1) ?_ | refine wpcall_pure rfl (k2) ?_ | refine wpcall_pure rfl (k3) ?_ | refine wpcall_pure rfl (k4) ?_ | refine wpcall_pure rfl (k5) ?_ | refine wpcall_pure rfl (k6) ?_ | refine wpcall_pure rfl (d2) ?_ | refine wpcall_pure rfl (k7) ?_ | refine wpcall_pure rfl (k8) ?_ | refine wpcall_pure rfl (k9) ?_); simp [h1, h2, rB_len]; (try (refine gen2 ?_ ?_ <;> intro hq <;> try simp [h1, h2, rB_len] at hq))) | (refine T.ret (Done.data (Or.inr rfl) ?_ ?_) <;> simp [Tryz.results4] <;> omega) | refine T.rd (id := 6) mixed (fun _ => false) [] (by kernel_rfl) fun K hK => ?_ | refine T.rd1 (id := 6) mixed (fun _ => false) [] (by kernel_rfl) fun K hK => ?_ | refine T.r0 fun K hK => ?_ | refine T.r1 fun K hK => ?_ | (refine ⟨by omega, ?_⟩) | refine T.ct rfl ?_ | refine T.cf rfl ?_ | refine T.seq ?_ | refine T.block ?_ | refine T.skip ?_ | refine T.exit ?_
 | some m =>
  obtain ⟨hm1, hm2⟩ := hsome m ho
  rw [ho] at k7 k8
  have k9 := kz m hm2
  have k10 := FormatCoercion_ok m (by omega)
  rw [hm1] at k10
  simp only [Option.getD_some, Option.isSome_some] at k7 k8
  cases hv : shapeCo 9 l with
  | false =>
   rw [hv] at k3 k4 k5
   simp only [Bool.false_eq_true, if_false, Option.getD_none, Option.isSome_none] at k3
   generalize zeroCo = z at *
   refine ACalls.of_body Tryz.func4 (by kernel_rfl) rfl (by kernel_rfl) (by simp [Tryz.ntmps4]) (by simp) ?_
   rw [Tryz.ntmps4]
   repeat' first | ((first | refine aops_end (hK _ ?_) | refine aopsD_end (hK _ ?_) | refine aopsF_end (hK _ ?_)); clear hK K) | ((first | refine aops_go ?_ | refine aopsD_go ?_ | refine aopsF_go ?_ | refine wpcall_pure rfl (d1) ?_ | refine wpcall_pure rfl (k1) ?_ | refine wpcall_pure rfl (k2) ?_ | refine wpcall_pure rfl (k3) ?_ | refine wpcall_pure rfl (k4) ?_ | refine wpcall_pure rfl (k5) ?_ | refine wpcall_pure rfl (d2) ?_ | refine wpcall_pure rfl (k7) ?_ | refine wpcall_pure rfl (k8) ?_ | refine wpcall_pure rfl (k9) ?_ | refine wpcall_pure rfl (k10) ?_); simp [h1, h2, rB_len]; (try (refine gen2 ?_ ?_ <;> intro hq <;> try simp [h1, h2, rB_len] at hq))) | (refine T.ret (Done.data (Or.inr rfl) ?_ ?_) <;> simp [Tryz.results4] <;> omega) | refine T.rd (id := 6) mixed (fun _ => false) [] (by kernel_rfl) fun K hK => ?_ | refine T.rd1 (id := 6) mixed (fun _ => false) [] (by kernel_rfl) fun K hK => ?_ | refine T.r0 fun K hK => ?_ | refine T.r1 fun K hK => ?_ | (refine ⟨by omega, ?_⟩) | refine T.ct rfl ?_ | refine T.cf rfl ?_ | refine T.seq ?_ | refine T.block ?_ | refine T.skip ?_ | refine T.exit ?_
  | true =>
   rw [hv] at k3 k4 k5
   simp only [if_true, Option.getD_some, Option.isSome_some] at k3
   refine ACalls.of_body Tryz.func4 (by kernel_rfl) rfl (by kernel_rfl) (by simp [Tryz.ntmps4]) (by simp) ?_
   rw [Tryz.ntmps4]
   repeat' first | ((first | refine aops_end (hK _ ?_) | refine aopsD_end (hK _ ?_) | refine aopsF_end (hK _ ?_)); clear hK K) | ((first | refine aops_go ?_ | refine aopsD_go ?_ | refine aopsF_go ?_ | refine wpcall_pure rfl (d1) ?_ | refine wpcall_pure rfl (k1) ?_ | refine wpcall_pure rfl (k2) ?_ | refine wpcall_pure rfl (k3) ?_ | refine wpcall_pure rfl (k4) ?_ | refine wpcall_pure rfl (k5) ?_ | refine wpcall_pure rfl (k6) ?_ | refine wpcall_pure rfl (d2) ?_ | refine wpcall_pure rfl (k7) ?_ | refine wpcall_pure rfl (k8) ?_ | refine wpcall_pure rfl (k9) ?_ | refine wpcall_pure rfl (k10) ?_); simp [h1, h2, rB_len]; (try (refine gen2 ?_ ?_ <;> intro hq <;> try simp [h1, h2, rB_len] at hq))) | (refine T.ret (Done.data (Or.inr rfl) ?_ ?_) <;> simp [Tryz.results4] <;> omega) | refine T.rd (id := 6) mixed (fun _ => false) [] (by kernel_rfl) fun K hK => ?_ | refine T.rd1 (id := 6) mixed (fun _ => false) [] (by kernel_rfl) fun K hK => ?_ | refine T.r0 fun K hK => ?_ | refine T.r1 fun K hK => ?_ | (refine ⟨by omega, ?_⟩) | refine T.ct rfl ?_ | refine T.cf rfl ?_ | refine T.seq ?_ | refine T.block ?_ | refine T.skip ?_ | refine T.exit ?_
end Go.Proofs.YtcgmmknfpfdghaaGreatDoor
