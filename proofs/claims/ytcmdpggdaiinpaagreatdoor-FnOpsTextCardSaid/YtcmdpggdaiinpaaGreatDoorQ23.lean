/- A part of the library of this seat. -/
import Derived.Test.YtcmdpggdaiinpaaGreatDoorQ22
set_option linter.unusedVariables false
set_option linter.unusedSimpArgs false
namespace Go.Proofs.YtcmdpggdaiinpaaGreatDoor
attribute [-simp] Go.Av.MCo.kind_mk Go.Av.MCo.tag_mk Go.Av.MCo.label_mk Go.Av.MCo.kids_mk Go.Av.astepJ Go.Av.relC Go.Av.relL Go.Av.relV Go.Av.relVs Go.Av.callJ
open Go Go.Av
attribute [local irreducible] T ACalls TX EX LX Draws Some_ ACallsX eTy eTm MTy.kind MTy.kids MTm.kind MTm.name MTm.num MTm.ty MTm.fr MTm.label MTm.kids
attribute [local simp] eTy_def eTm_def
set_option maxHeartbeats 16000000
set_option maxRecDepth 8000

@[simp] theorem td_opSy : td Tryz.prog 23 = some { ag := false, sz := 1, by_ := 24, zero := some [.nil], el := some 51, ar := none, fl := [], ik := none, isS := false, isB := false } := keep (by kernel_rfl)
@[simp] theorem td_opy : td Tryz.prog 51 = some { ag := true, sz := 2, by_ := 16, zero := some [.d (.int .i64 0), .d (.int .i64 0)], el := none, ar := none, fl := [(0, 1), (1, 1)], ik := none, isS := false, isB := false } := keep (by kernel_rfl)

theorem l14Own2_ok (o : MOp) (i n : Nat) (hi : i < n) (hn : n <= 1000) : ACalls Tryz.prog 36 [aOp o, .i i, .i n] [] (.b (opOk o ((n : Int) - 1 - i))) [] [] := by
 have w1 : IntKind.i64.wrap ((i : Int) + 1) = (i : Int) + 1 := wrap64 (by omega) (by omega)
 obtain ⟨k, a⟩ := o
 have hc : k = 1 \/ k = 2 \/ k = 3 \/ (k = 4 \/ k = 9 \/ k = 10) \/ (¬ k = 1 /\ ¬ k = 2 /\ ¬ k = 3 /\ ¬ k = 4 /\ ¬ k = 9 /\ ¬ k = 10) := by omega
 rcases hc with rfl | rfl | rfl | hk | ⟨e1, e2, e3, e4, e9, e10⟩
 ·rw [show opOk ⟨1, a⟩ ((n : Int) - 1 - i) = (decide (0 <= a) && decide (a <= 999)) by simp only [opOk, inM, show mostA 1 ((n : Int) - 1 - i) = 999 from rfl]; rw [Bool.eq_iff_iff]; simp only [Bool.and_eq_true, Bool.or_eq_true, decide_eq_true_eq]; omega]
  refine ACalls.of_body Tryz.func36 (by kernel_rfl) rfl (by kernel_rfl) (by simp [Tryz.ntmps36]) (by simp) ?_
  rw [Tryz.ntmps36]
  repeat' first | ((first | refine aops_end (hK _ ?_) | refine aopsD_end (hK _ ?_) | refine aopsF_end (hK _ ?_)); clear hK K) | ((first | refine aops_go ?_ | refine aopsD_go ?_ | refine aopsF_go ?_); simp; (try (refine gen2 ?_ ?_ <;> intro hq <;> try simp at hq))) | (refine T.ret (Done.data (Or.inr rfl) ?_ ?_) <;> simp [Tryz.results36, *] <;> omega) | refine T.r0 fun K hK => ?_ | refine T.r1 fun K hK => ?_ | (refine ⟨by omega, ?_⟩) | refine T.ct rfl ?_ | refine T.cf rfl ?_ | refine T.seq ?_ | refine T.block ?_ | refine T.skip ?_ | refine T.exit ?_
 ·rw [show opOk ⟨2, a⟩ ((n : Int) - 1 - i) = (decide (a = 0) || decide (a = 1)) by simp only [opOk, inM, show mostA 2 ((n : Int) - 1 - i) = 1 from rfl]; rw [Bool.eq_iff_iff]; simp only [Bool.and_eq_true, Bool.or_eq_true, decide_eq_true_eq]; omega]
  refine ACalls.of_body Tryz.func36 (by kernel_rfl) rfl (by kernel_rfl) (by simp [Tryz.ntmps36]) (by simp) ?_
  rw [Tryz.ntmps36]
  repeat' first | ((first | refine aops_end (hK _ ?_) | refine aopsD_end (hK _ ?_) | refine aopsF_end (hK _ ?_)); clear hK K) | ((first | refine aops_go ?_ | refine aopsD_go ?_ | refine aopsF_go ?_); simp; (try (refine gen2 ?_ ?_ <;> intro hq <;> try simp at hq))) | (refine T.ret (Done.data (Or.inr rfl) ?_ ?_) <;> simp [Tryz.results36, *] <;> omega) | refine T.r0 fun K hK => ?_ | refine T.r1 fun K hK => ?_ | (refine ⟨by omega, ?_⟩) | refine T.ct rfl ?_ | refine T.cf rfl ?_ | refine T.seq ?_ | refine T.block ?_ | refine T.skip ?_ | refine T.exit ?_
 ·rw [show opOk ⟨3, a⟩ ((n : Int) - 1 - i) = (decide (0 <= a) && decide (a < 12)) by simp only [opOk, inM, show mostA 3 ((n : Int) - 1 - i) = 11 from rfl]; rw [Bool.eq_iff_iff]; simp only [Bool.and_eq_true, Bool.or_eq_true, decide_eq_true_eq]; omega]
  refine ACalls.of_body Tryz.func36 (by kernel_rfl) rfl (by kernel_rfl) (by simp [Tryz.ntmps36]) (by simp) ?_
  rw [Tryz.ntmps36]
  repeat' first | ((first | refine aops_end (hK _ ?_) | refine aopsD_end (hK _ ?_) | refine aopsF_end (hK _ ?_)); clear hK K) | ((first | refine aops_go ?_ | refine aopsD_go ?_ | refine aopsF_go ?_); simp; (try (refine gen2 ?_ ?_ <;> intro hq <;> try simp at hq))) | (refine T.ret (Done.data (Or.inr rfl) ?_ ?_) <;> simp [Tryz.results36, *] <;> omega) | refine T.r0 fun K hK => ?_ | refine T.r1 fun K hK => ?_ | (refine ⟨by omega, ?_⟩) | refine T.ct rfl ?_ | refine T.cf rfl ?_ | refine T.seq ?_ | refine T.block ?_ | refine T.skip ?_ | refine T.exit ?_
 ·have hr : opOk ⟨k, a⟩ ((n : Int) - 1 - i) = (decide (0 <= a) && decide (a <= n) && decide ((i : Int) + 1 + a <= n)) := by
   have hm : mostA k ((n : Int) - 1 - i) = (n : Int) - 1 - i := by rcases hk with rfl | rfl | rfl <;> rfl
   clear w1
   simp only [opOk, inM, hm]; rw [Bool.eq_iff_iff]; simp only [Bool.and_eq_true, Bool.or_eq_true, decide_eq_true_eq]; omega
  rw [hr]
  by_cases h0 : 0 <= a /\ a <= n
  ·have w2 : IntKind.i64.wrap ((i : Int) + 1 + a) = (i : Int) + 1 + a := wrap64 (by omega) (by omega)
   obtain ⟨h1, h2⟩ := h0
   rcases hk with rfl | rfl | rfl
   ·refine ACalls.of_body Tryz.func36 (by kernel_rfl) rfl (by kernel_rfl) (by simp [Tryz.ntmps36]) (by simp) ?_
    rw [Tryz.ntmps36]
    repeat' first | ((first | refine aops_end (hK _ ?_) | refine aopsD_end (hK _ ?_) | refine aopsF_end (hK _ ?_)); clear hK K) | ((first | refine aops_go ?_ | refine aopsD_go ?_ | refine aopsF_go ?_); simp [w1, w2, h1, h2]; (try (refine gen2 ?_ ?_ <;> intro hq <;> try simp [w1, w2, h1, h2] at hq))) | (refine T.ret (Done.data (Or.inr rfl) ?_ ?_) <;> simp [Tryz.results36, *] <;> omega) | refine T.r0 fun K hK => ?_ | refine T.r1 fun K hK => ?_ | (refine ⟨by omega, ?_⟩) | refine T.ct rfl ?_ | refine T.cf rfl ?_ | refine T.seq ?_ | refine T.block ?_ | refine T.skip ?_ | refine T.exit ?_
   ·refine ACalls.of_body Tryz.func36 (by kernel_rfl) rfl (by kernel_rfl) (by simp [Tryz.ntmps36]) (by simp) ?_
    rw [Tryz.ntmps36]
    repeat' first | ((first | refine aops_end (hK _ ?_) | refine aopsD_end (hK _ ?_) | refine aopsF_end (hK _ ?_)); clear hK K) | ((first | refine aops_go ?_ | refine aopsD_go ?_ | refine aopsF_go ?_); simp [w1, w2, h1, h2]; (try (refine gen2 ?_ ?_ <;> intro hq <;> try simp [w1, w2, h1, h2] at hq))) | (refine T.ret (Done.data (Or.inr rfl) ?_ ?_) <;> simp [Tryz.results36, *] <;> omega) | refine T.r0 fun K hK => ?_ | refine T.r1 fun K hK => ?_ | (refine ⟨by omega, ?_⟩) | refine T.ct rfl ?_ | refine T.cf rfl ?_ | refine T.seq ?_ | refine T.block ?_ | refine T.skip ?_ | refine T.exit ?_
   ·refine ACalls.of_body Tryz.func36 (by kernel_rfl) rfl (by kernel_rfl) (by simp [Tryz.ntmps36]) (by simp) ?_
    rw [Tryz.ntmps36]
    repeat' first | ((first | refine aops_end (hK _ ?_) | refine aopsD_end (hK _ ?_) | refine aopsF_end (hK _ ?_)); clear hK K) | ((first | refine aops_go ?_ | refine aopsD_go ?_ | refine aopsF_go ?_); simp [w1, w2, h1, h2]; (try (refine gen2 ?_ ?_ <;> intro hq <;> try simp [w1, w2, h1, h2] at hq))) | (refine T.ret (Done.data (Or.inr rfl) ?_ ?_) <;> simp [Tryz.results36, *] <;> omega) | refine T.r0 fun K hK => ?_ | refine T.r1 fun K hK => ?_ | (refine ⟨by omega, ?_⟩) | refine T.ct rfl ?_ | refine T.cf rfl ?_ | refine T.seq ?_ | refine T.block ?_ | refine T.skip ?_ | refine T.exit ?_
  ·rw [show (decide (0 <= a) && decide (a <= (n : Int)) && decide ((i : Int) + 1 + a <= n)) = false by rw [Bool.eq_false_iff]; simp only [ne_eq, Bool.and_eq_true, decide_eq_true_eq]; omega]
   by_cases h1 : 0 <= a
   ·have h2 : ¬ a <= n := fun h => h0 ⟨h1, h⟩
    rcases hk with rfl | rfl | rfl
    ·refine ACalls.of_body Tryz.func36 (by kernel_rfl) rfl (by kernel_rfl) (by simp [Tryz.ntmps36]) (by simp) ?_
     rw [Tryz.ntmps36]
     repeat' first | ((first | refine aops_end (hK _ ?_) | refine aopsD_end (hK _ ?_) | refine aopsF_end (hK _ ?_)); clear hK K) | ((first | refine aops_go ?_ | refine aopsD_go ?_ | refine aopsF_go ?_); simp [h1, h2]; (try (refine gen2 ?_ ?_ <;> intro hq <;> try simp [h1, h2] at hq))) | (refine T.ret (Done.data (Or.inr rfl) ?_ ?_) <;> simp [Tryz.results36] <;> omega) | refine T.r0 fun K hK => ?_ | refine T.r1 fun K hK => ?_ | (refine ⟨by omega, ?_⟩) | refine T.ct rfl ?_ | refine T.cf rfl ?_ | refine T.seq ?_ | refine T.block ?_ | refine T.skip ?_ | refine T.exit ?_
    ·refine ACalls.of_body Tryz.func36 (by kernel_rfl) rfl (by kernel_rfl) (by simp [Tryz.ntmps36]) (by simp) ?_
     rw [Tryz.ntmps36]
     repeat' first | ((first | refine aops_end (hK _ ?_) | refine aopsD_end (hK _ ?_) | refine aopsF_end (hK _ ?_)); clear hK K) | ((first | refine aops_go ?_ | refine aopsD_go ?_ | refine aopsF_go ?_); simp [h1, h2]; (try (refine gen2 ?_ ?_ <;> intro hq <;> try simp [h1, h2] at hq))) | (refine T.ret (Done.data (Or.inr rfl) ?_ ?_) <;> simp [Tryz.results36] <;> omega) | refine T.r0 fun K hK => ?_ | refine T.r1 fun K hK => ?_ | (refine ⟨by omega, ?_⟩) | refine T.ct rfl ?_ | refine T.cf rfl ?_ | refine T.seq ?_ | refine T.block ?_ | refine T.skip ?_ | refine T.exit ?_
    ·refine ACalls.of_body Tryz.func36 (by kernel_rfl) rfl (by kernel_rfl) (by simp [Tryz.ntmps36]) (by simp) ?_
     rw [Tryz.ntmps36]
     repeat' first | ((first | refine aops_end (hK _ ?_) | refine aopsD_end (hK _ ?_) | refine aopsF_end (hK _ ?_)); clear hK K) | ((first | refine aops_go ?_ | refine aopsD_go ?_ | refine aopsF_go ?_); simp [h1, h2]; (try (refine gen2 ?_ ?_ <;> intro hq <;> try simp [h1, h2] at hq))) | (refine T.ret (Done.data (Or.inr rfl) ?_ ?_) <;> simp [Tryz.results36] <;> omega) | refine T.r0 fun K hK => ?_ | refine T.r1 fun K hK => ?_ | (refine ⟨by omega, ?_⟩) | refine T.ct rfl ?_ | refine T.cf rfl ?_ | refine T.seq ?_ | refine T.block ?_ | refine T.skip ?_ | refine T.exit ?_
   ·rcases hk with rfl | rfl | rfl
    ·refine ACalls.of_body Tryz.func36 (by kernel_rfl) rfl (by kernel_rfl) (by simp [Tryz.ntmps36]) (by simp) ?_
     rw [Tryz.ntmps36]
     repeat' first | ((first | refine aops_end (hK _ ?_) | refine aopsD_end (hK _ ?_) | refine aopsF_end (hK _ ?_)); clear hK K) | ((first | refine aops_go ?_ | refine aopsD_go ?_ | refine aopsF_go ?_); simp [h1]; (try (refine gen2 ?_ ?_ <;> intro hq <;> try simp [h1] at hq))) | (refine T.ret (Done.data (Or.inr rfl) ?_ ?_) <;> simp [Tryz.results36] <;> omega) | refine T.r0 fun K hK => ?_ | refine T.r1 fun K hK => ?_ | (refine ⟨by omega, ?_⟩) | refine T.ct rfl ?_ | refine T.cf rfl ?_ | refine T.seq ?_ | refine T.block ?_ | refine T.skip ?_ | refine T.exit ?_
    ·refine ACalls.of_body Tryz.func36 (by kernel_rfl) rfl (by kernel_rfl) (by simp [Tryz.ntmps36]) (by simp) ?_
     rw [Tryz.ntmps36]
     repeat' first | ((first | refine aops_end (hK _ ?_) | refine aopsD_end (hK _ ?_) | refine aopsF_end (hK _ ?_)); clear hK K) | ((first | refine aops_go ?_ | refine aopsD_go ?_ | refine aopsF_go ?_); simp [h1]; (try (refine gen2 ?_ ?_ <;> intro hq <;> try simp [h1] at hq))) | (refine T.ret (Done.data (Or.inr rfl) ?_ ?_) <;> simp [Tryz.results36] <;> omega) | refine T.r0 fun K hK => ?_ | refine T.r1 fun K hK => ?_ | (refine ⟨by omega, ?_⟩) | refine T.ct rfl ?_ | refine T.cf rfl ?_ | refine T.seq ?_ | refine T.block ?_ | refine T.skip ?_ | refine T.exit ?_
    ·refine ACalls.of_body Tryz.func36 (by kernel_rfl) rfl (by kernel_rfl) (by simp [Tryz.ntmps36]) (by simp) ?_
     rw [Tryz.ntmps36]
     repeat' first | ((first | refine aops_end (hK _ ?_) | refine aopsD_end (hK _ ?_) | refine aopsF_end (hK _ ?_)); clear hK K) | ((first | refine aops_go ?_ | refine aopsD_go ?_ | refine aopsF_go ?_); simp [h1]; (try (refine gen2 ?_ ?_ <;> intro hq <;> try simp [h1] at hq))) | (refine T.ret (Done.data (Or.inr rfl) ?_ ?_) <;> simp [Tryz.results36] <;> omega) | refine T.r0 fun K hK => ?_ | refine T.r1 fun K hK => ?_ | (refine ⟨by omega, ?_⟩) | refine T.ct rfl ?_ | refine T.cf rfl ?_ | refine T.seq ?_ | refine T.block ?_ | refine T.skip ?_ | refine T.exit ?_
 ·have hr : opOk ⟨k, a⟩ ((n : Int) - 1 - i) = (decide (1 <= k) && decide (k <= 13) && decide (a = 0)) := by
   have hm : mostA k ((n : Int) - 1 - i) = 0 := by simp [mostA, e1, e2, e3, e4, e9, e10]
   simp only [opOk, inM, hm]; rw [Bool.eq_iff_iff]; simp only [Bool.and_eq_true, Bool.or_eq_true, decide_eq_true_eq]; omega
  rw [hr]
  refine ACalls.of_body Tryz.func36 (by kernel_rfl) rfl (by kernel_rfl) (by simp [Tryz.ntmps36]) (by simp) ?_
  rw [Tryz.ntmps36]
  repeat' first | ((first | refine aops_end (hK _ ?_) | refine aopsD_end (hK _ ?_) | refine aopsF_end (hK _ ?_)); clear hK K) | ((first | refine aops_go ?_ | refine aopsD_go ?_ | refine aopsF_go ?_); simp [e1, e2, e3, e4, e9, e10]; (try (refine gen2 ?_ ?_ <;> intro hq <;> try simp [e1, e2, e3, e4, e9, e10] at hq))) | (refine T.ret (Done.data (Or.inr rfl) ?_ ?_) <;> simp [Tryz.results36, *] <;> omega) | refine T.r0 fun K hK => ?_ | refine T.r1 fun K hK => ?_ | (refine ⟨by omega, ?_⟩) | refine T.ct rfl ?_ | refine T.cf rfl ?_ | refine T.seq ?_ | refine T.block ?_ | refine T.skip ?_ | refine T.exit ?_

theorem OpsValidS2_ok (l : List MOp) (hl : l.length <= 1099511627776) : ACalls Tryz.prog 10 [.l (l.map eOp)] [] (.b (opsValidM l)) [] [] := by
 rw [opsValidM]
 by_cases hbig : l.length <= 120
 rotate_left
 ·have hb : ¬ (l.length : Int) <= 120 := by omega
  rw [show inM l.length 1 120 = false by simp [inM]; omega, Bool.and_false]
  refine ACalls.of_body Tryz.func10 (by kernel_rfl) rfl (by kernel_rfl) (by simp [Tryz.ntmps10]) (by simp) ?_
  rw [Tryz.ntmps10]
  repeat' first | ((first | refine aops_end (hK _ ?_) | refine aopsD_end (hK _ ?_) | refine aopsF_end (hK _ ?_)); clear hK K) | ((first | refine aops_go ?_ | refine aopsD_go ?_ | refine aopsF_go ?_); simp [hb]; (try (refine gen2 ?_ ?_ <;> intro hq <;> try simp [hb] at hq))) | refine T.r0 fun K hK => ?_ | refine T.r1 fun K hK => ?_ | (refine ⟨by omega, ?_⟩) | refine T.ct rfl ?_ | refine T.cf rfl ?_ | refine T.seq ?_ | refine T.block ?_ | refine T.skip ?_ | refine T.exit ?_
  refine T.loopF (fun p : Nat => ⟨[(0, .l (l.map eOp)), (3, .i 0)], [], []⟩) (fun p => 1) (fun p => True) (fun p hp => ?_) 0 trivial (by simp)
  have h0 : (0 : Int) < l.length := by omega
  repeat' first | ((first | refine aops_end (hK _ ?_) | refine aopsD_end (hK _ ?_) | refine aopsF_end (hK _ ?_)); clear hK K) | ((first | refine aops_go ?_ | refine aopsD_go ?_ | refine aopsF_go ?_); simp [hb, h0]; (try (refine gen2 ?_ ?_ <;> intro hq <;> try simp [hb, h0] at hq))) | (refine T.ret (Done.data (Or.inr rfl) ?_ ?_) <;> simp [Tryz.results10] <;> omega) | refine T.r0 fun K hK => ?_ | refine T.r1 fun K hK => ?_ | (refine ⟨by omega, ?_⟩) | refine T.ct rfl ?_ | refine T.cf rfl ?_ | refine T.seq ?_ | refine T.block ?_ | refine T.skip ?_ | refine T.exit ?_
 have hb : (l.length : Int) <= 120 := by omega
 obtain ⟨R, hR⟩ : ∃ R, opsOk l = R := ⟨_, rfl⟩
 rw [hR]
 refine ACalls.of_body Tryz.func10 (by kernel_rfl) rfl (by kernel_rfl) (by simp [Tryz.ntmps10]) (by simp) ?_
 rw [Tryz.ntmps10]
 repeat' first | ((first | refine aops_end (hK _ ?_) | refine aopsD_end (hK _ ?_) | refine aopsF_end (hK _ ?_)); clear hK K) | ((first | refine aops_go ?_ | refine aopsD_go ?_ | refine aopsF_go ?_); simp [hb]; (try (refine gen2 ?_ ?_ <;> intro hq <;> try simp [hb] at hq))) | refine T.r0 fun K hK => ?_ | refine T.r1 fun K hK => ?_ | (refine ⟨by omega, ?_⟩) | refine T.ct rfl ?_ | refine T.cf rfl ?_ | refine T.seq ?_ | refine T.block ?_ | refine T.skip ?_ | refine T.exit ?_
 refine T.loopF (fun p : Nat => ⟨[(0, .l (l.map eOp)), (3, .i p)], [], []⟩) (fun p => l.length + 1 - p) (fun p => p <= l.length /\ opsOk (l.drop p) = R) (fun p hp => ?_) 0 (by simpa using hR) (by simp)
 obtain ⟨hi, he⟩ := hp
 by_cases hlt : p < l.length
 ·obtain ⟨u, ht⟩ := get_lt hlt
  have htm : u ∈ l := List.mem_of_getElem? ht
  have hgt : l[p] = u := by rw [List.getElem?_eq_getElem hlt] at ht; exact Option.some.inj ht
  have hdr : l.drop p = u :: l.drop (p + 1) := by rw [List.drop_eq_getElem_cons hlt, hgt]
  have h1 := l14Own2_ok u p l.length hlt (by omega)
  rw [hdr, opsOk, show (((l.drop (p + 1)).length : Nat) : Int) = (l.length : Int) - 1 - p by rw [List.length_drop]; omega] at he
  generalize opOk u ((l.length : Int) - 1 - p) = q at h1 he
  cases q
  ·simp at he
   subst he
   repeat' first | ((first | refine aops_end (hK _ ?_) | refine aopsD_end (hK _ ?_) | refine aopsF_end (hK _ ?_)); clear hK K) | ((first | refine aops_go ?_ | refine aopsD_go ?_ | refine aopsF_go ?_ | refine wpcall_pure rfl (h1) ?_); simp [hlt, hgt, hb]; (try simp (disch := omega) only [wrap64]); (try (refine gen2 ?_ ?_ <;> intro hq <;> try simp [hlt, hgt, hb] at hq))) | (refine T.ret (Done.data (Or.inr rfl) ?_ ?_) <;> simp [Tryz.results10] <;> omega) | refine T.r0 fun K hK => ?_ | refine T.r1 fun K hK => ?_ | (refine ⟨by omega, ?_⟩) | refine T.ct rfl ?_ | refine T.cf rfl ?_ | refine T.seq ?_ | refine T.block ?_ | refine T.skip ?_ | refine T.exit ?_
  ·repeat' first | ((first | refine aops_end (hK _ ?_) | refine aopsD_end (hK _ ?_) | refine aopsF_end (hK _ ?_)); clear hK K) | ((first | refine aops_go ?_ | refine aopsD_go ?_ | refine aopsF_go ?_ | refine wpcall_pure rfl (h1) ?_); simp [hlt, hgt, hb]; (try simp (disch := omega) only [wrap64]); (try (refine gen2 ?_ ?_ <;> intro hq <;> try simp [hlt, hgt, hb] at hq))) | (refine ⟨p + 1, by dsimp only; omega, ⟨by omega, by simpa using he⟩, ?_⟩; simp (disch := omega) [wrap64]) | refine T.r0 fun K hK => ?_ | refine T.r1 fun K hK => ?_ | (refine ⟨by omega, ?_⟩) | refine T.ct rfl ?_ | refine T.cf rfl ?_ | refine T.seq ?_ | refine T.block ?_ | refine T.skip ?_ | refine T.exit ?_
 ·have hp' : p = l.length := by omega
  subst hp'
  simp [opsOk] at he
  subst he
  rw [Bool.true_and, inM]
  repeat' first | ((first | refine aops_end (hK _ ?_) | refine aopsD_end (hK _ ?_) | refine aopsF_end (hK _ ?_)); clear hK K) | ((first | refine aops_go ?_ | refine aopsD_go ?_ | refine aopsF_go ?_); simp [hlt, hb]; (try (refine gen2 ?_ ?_ <;> intro hq <;> try simp [hlt, hb] at hq))) | (refine T.ret (Done.data (Or.inr rfl) ?_ ?_) <;> simp [Tryz.results10, *] <;> omega) | refine T.r0 fun K hK => ?_ | refine T.r1 fun K hK => ?_ | (refine ⟨by omega, ?_⟩) | refine T.ct rfl ?_ | refine T.cf rfl ?_ | refine T.seq ?_ | refine T.block ?_ | refine T.skip ?_ | refine T.exit ?_
end Go.Proofs.YtcmdpggdaiinpaaGreatDoor
