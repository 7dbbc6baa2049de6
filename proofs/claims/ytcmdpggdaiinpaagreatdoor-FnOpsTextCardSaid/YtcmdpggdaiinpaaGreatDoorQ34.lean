/- A part of the library of this seat. -/
import Derived.Test.YtcmdpggdaiinpaaGreatDoorQ33
set_option linter.unusedVariables false
set_option linter.unusedSimpArgs false
namespace Go.Proofs.YtcmdpggdaiinpaaGreatDoor
attribute [-simp] Go.Av.MCo.kind_mk Go.Av.MCo.tag_mk Go.Av.MCo.label_mk Go.Av.MCo.kids_mk Go.Av.callJ Go.Av.IT.kind_v Go.Av.IT.kind_b Go.Av.IT.kind_p Go.Av.IT.name_v Go.Av.IT.name_b Go.Av.IT.name_p Go.Av.IT.kids_v Go.Av.IT.kids_b Go.Av.IT.kids_p Go.Av.eIT_len
open Go Go.Av
attribute [local irreducible] T ACalls TX EX LX Draws Some_ ACallsX eTy eTm MTy.kind MTy.kids MTm.kind MTm.name MTm.num MTm.ty MTm.fr MTm.label MTm.kids
attribute [local simp] eTy_def eTm_def
set_option maxHeartbeats 16000000
set_option maxRecDepth 8000

@[simp] theorem sqOp : sq Tryz.prog 51 = some [0, 0] := keep (by kernel_rfl)

theorem all2Ops (l m : List MOp) (p : Nat) (h1 : p < l.length) (h2 : p < m.length) : decide (l.drop p = m.drop p) = (decide (l[p] = m[p]) && decide (l.drop (p + 1) = m.drop (p + 1))) := by
 rw [drop_cons h1, drop_cons h2, Bool.eq_iff_iff, Bool.and_eq_true, decide_eq_true_eq, decide_eq_true_eq, decide_eq_true_eq, List.cons.injEq]

theorem equalOps_ok (l m : List MOp) (hl : l.length <= 1099511627776) : ACalls Tryz.prog 37 [.l (l.map eOp), .l (m.map eOp)] [] (.b (decide (l = m))) [] [] := by
 refine ACalls.of_body Tryz.func37 (by kernel_rfl) rfl (by kernel_rfl) (by simp [Tryz.ntmps37]) (by simp) ?_
 rw [Tryz.ntmps37]
 by_cases hlm : l.length = m.length
 rotate_left
 ·have hne : ¬ (l.length : Int) = m.length := by omega
  rw [show decide (l = m) = false by rw [decide_eq_false_iff_not]; rintro rfl; exact hlm rfl]
  repeat' first | ((first | refine aops_end (hK _ ?_) | refine aopsD_end (hK _ ?_) | refine aopsF_end (hK _ ?_)); clear hK K) | ((first | refine aops_go ?_ | refine aopsD_go ?_ | refine aopsF_go ?_); simp [hne]; (try (refine gen2 ?_ ?_ <;> intro hq <;> (try simp [hne] at hq) <;> try (have : True := hq; clear this hq)))) | (refine T.ret (Done.data (Or.inr rfl) ?_ ?_) <;> simp [Tryz.results37] <;> omega) | refine T.rd (id := 6) mixed (fun _ => false) [] (by kernel_rfl) fun K hK => ?_ | refine T.rd1 (id := 6) mixed (fun _ => false) [] (by kernel_rfl) fun K hK => ?_ | refine T.r0 fun K hK => ?_ | refine T.r1 fun K hK => ?_ | (refine ⟨by omega, ?_⟩) | refine T.ct rfl ?_ | refine T.cf rfl ?_ | refine T.seq ?_ | refine T.block ?_ | refine T.skip ?_ | refine T.exit ?_
 obtain ⟨R, hR⟩ : ∃ R, decide (l = m) = R := ⟨_, rfl⟩
 rw [hR]
 repeat' first | ((first | refine aops_end (hK _ ?_) | refine aopsD_end (hK _ ?_) | refine aopsF_end (hK _ ?_)); clear hK K) | ((first | refine aops_go ?_ | refine aopsD_go ?_ | refine aopsF_go ?_); simp [hlm]; (try (refine gen2 ?_ ?_ <;> intro hq <;> (try simp [hlm] at hq) <;> try (have : True := hq; clear this hq)))) | refine T.rd (id := 6) mixed (fun _ => false) [] (by kernel_rfl) fun K hK => ?_ | refine T.rd1 (id := 6) mixed (fun _ => false) [] (by kernel_rfl) fun K hK => ?_ | refine T.r0 fun K hK => ?_ | refine T.r1 fun K hK => ?_ | (refine ⟨by omega, ?_⟩) | refine T.ct rfl ?_ | refine T.cf rfl ?_ | refine T.seq ?_ | refine T.block ?_ | refine T.skip ?_ | refine T.exit ?_
 refine T.loopK (α := Nat) [0, 1, 12] (fun x => [(4, .b false), (13, .i x)]) (fun _ => []) (fun x => []) (fun _ A => A) (fun x => l.length + 1 - x) (fun x => x <= l.length /\ decide (l.drop x = m.drop x) = R) (by simp; rfl) (fun p hp => ?_) 0 (by simpa using hR) (by simp) (by simp) (by simp [hlm])
 obtain ⟨hi, he⟩ := hp
 dsimp only at hi he ⊢
 simp only [ups, List.set_cons_zero, List.set_cons_succ, List.cons_append, List.nil_append]
 by_cases hlt : p < l.length
 ·have hlt2 : p < m.length := by omega
  rw [all2Ops l m p hlt hlt2] at he
  generalize hu : l[p] = u at *
  generalize hv : m[p] = v at *
  by_cases huv : u = v
  ·subst huv
   repeat' first | ((first | refine aops_end (hK _ ?_) | refine aopsD_end (hK _ ?_) | refine aopsF_end (hK _ ?_)); clear hK K) | ((first | refine aops_go ?_ | refine aopsD_go ?_ | refine aopsF_go ?_); simp [hlt, hlt2, hu, hv]; (try simp (disch := omega) only [wrap64]); (try (refine gen2 ?_ ?_ <;> intro hq <;> (try simp [hlt, hlt2, hu, hv] at hq) <;> try (have : True := hq; clear this hq)))) | (refine ⟨p + 1, by dsimp only; omega, ⟨by omega, by simpa using he⟩, ?_⟩; simp (disch := omega) [wrap64]) | refine T.rd (id := 6) mixed (fun _ => false) [] (by kernel_rfl) fun K hK => ?_ | refine T.rd1 (id := 6) mixed (fun _ => false) [] (by kernel_rfl) fun K hK => ?_ | refine T.r0 fun K hK => ?_ | refine T.r1 fun K hK => ?_ | (refine ⟨by omega, ?_⟩) | refine T.ct rfl ?_ | refine T.cf rfl ?_ | refine T.seq ?_ | refine T.block ?_ | refine T.skip ?_ | refine T.exit ?_
  ·have h2 : u.kind = v.kind -> ¬ u.a = v.a := fun h1 h2 => huv (by cases u; cases v; simp at h1 h2; simp [h1, h2])
   simp only [huv, decide_false, Bool.false_and] at he
   repeat' first | ((first | refine aops_end (hK _ ?_) | refine aopsD_end (hK _ ?_) | refine aopsF_end (hK _ ?_)); clear hK K) | ((first | refine aops_go ?_ | refine aopsD_go ?_ | refine aopsF_go ?_); simp [hlt, hlt2, hu, hv]; (try simp (disch := omega) only [wrap64]); (try (refine gen2 ?_ ?_ <;> intro hq <;> (try simp [hlt, hlt2, hu, hv] at hq) <;> try (have : True := hq; clear this hq)))) | (refine T.ret (Done.data (Or.inr rfl) ?_ ?_) <;> simp [Tryz.results37, <- he] <;> omega) | refine T.rd (id := 6) mixed (fun _ => false) [] (by kernel_rfl) fun K hK => ?_ | refine T.rd1 (id := 6) mixed (fun _ => false) [] (by kernel_rfl) fun K hK => ?_ | refine T.r0 fun K hK => ?_ | refine T.r1 fun K hK => ?_ | (refine ⟨by omega, ?_⟩) | refine T.ct rfl ?_ | refine T.cf rfl ?_ | refine T.seq ?_ | refine T.block ?_ | refine T.skip ?_ | refine T.exit ?_
   all_goals exact absurd hq.2 (h2 hq.1)
 ·have hp' : p = l.length := by omega
  subst hp'
  rw [List.drop_length, hlm, List.drop_length] at he
  simp at he
  repeat' first | ((first | refine aops_end (hK _ ?_) | refine aopsD_end (hK _ ?_) | refine aopsF_end (hK _ ?_)); clear hK K) | ((first | refine aops_go ?_ | refine aopsD_go ?_ | refine aopsF_go ?_); simp [hlt, hlm]; (try (refine gen2 ?_ ?_ <;> intro hq <;> (try simp [hlt, hlm] at hq) <;> try (have : True := hq; clear this hq)))) | (refine T.ret (Done.data (Or.inr rfl) ?_ ?_) <;> simp [Tryz.results37, <- he] <;> omega) | refine T.rd (id := 6) mixed (fun _ => false) [] (by kernel_rfl) fun K hK => ?_ | refine T.rd1 (id := 6) mixed (fun _ => false) [] (by kernel_rfl) fun K hK => ?_ | refine T.r0 fun K hK => ?_ | refine T.r1 fun K hK => ?_ | (refine ⟨by omega, ?_⟩) | refine T.ct rfl ?_ | refine T.cf rfl ?_ | refine T.seq ?_ | refine T.block ?_ | refine T.skip ?_ | refine T.exit ?_

theorem OpsSame_ok (l m : List MOp) (hl : l.length <= 1099511627776) : ACalls Tryz.prog 11 [.l (l.map eOp), .l (m.map eOp)] [] (.b (decide (l = m))) [] [] := by
 have h := equalOps_ok l m hl
 generalize decide (l = m) = R at *
 refine ACalls.of_body Tryz.func11 (by kernel_rfl) rfl (by kernel_rfl) (by simp [Tryz.ntmps11]) (by simp) ?_
 rw [Tryz.ntmps11]
 repeat' first | ((first | refine aops_end (hK _ ?_) | refine aopsD_end (hK _ ?_) | refine aopsF_end (hK _ ?_)); clear hK K) | ((first | refine aops_go ?_ | refine aopsD_go ?_ | refine aopsF_go ?_ | refine wpcall_pure rfl (h) ?_); simp; (try (refine gen2 ?_ ?_ <;> intro hq <;> try simp at hq))) | (refine T.ret (Done.data (Or.inr rfl) ?_ ?_) <;> simp [Tryz.results11] <;> omega) | refine T.r0 fun K hK => ?_ | refine T.r1 fun K hK => ?_ | (refine ⟨by omega, ?_⟩) | refine T.ct rfl ?_ | refine T.cf rfl ?_ | refine T.seq ?_ | refine T.block ?_ | refine T.skip ?_ | refine T.exit ?_

end Go.Proofs.YtcmdpggdaiinpaaGreatDoor
