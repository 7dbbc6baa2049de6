/- A part of the library of this seat. -/
import Derived.Test.YtcgmmknfpfdghaaDoorA20
set_option linter.unusedVariables false
set_option linter.unusedSimpArgs false
namespace Go.Proofs.YtcgmmknfpfdghaaDoor
attribute [-simp] Go.Av.astepJ Go.Av.relC Go.Av.relL Go.Av.relV Go.Av.relVs Go.Av.callJ Go.Av.IT.kind_v Go.Av.IT.kind_b Go.Av.IT.kind_p Go.Av.IT.name_v Go.Av.IT.name_b Go.Av.IT.name_p Go.Av.IT.kids_v Go.Av.IT.kids_b Go.Av.IT.kids_p Go.Av.eIT_len
open Go Go.Av
attribute [local irreducible] T ACalls TX EX LX Draws Some_ ACallsX eTy eTm MTy.kind MTy.kids MTm.kind MTm.name MTm.num MTm.ty MTm.fr MTm.label MTm.kids
attribute [local simp] eTy_def eTm_def
set_option maxHeartbeats 16000000
set_option maxRecDepth 8000
attribute [local irreducible] eCo MCo.kind MCo.tag MCo.label MCo.kids
attribute [local simp] eCo_def

theorem coOperands_ok (k : Int) : ACalls Tryd.prog 65 [.i k] [] (.i (coKidsM k)) [] [] := by
 have hw : ∀ z : Int, 0 <= z -> z <= 6 -> IntKind.i64.wrap z = z := fun z h1 h2 => wrap64 (by omega) (by omega)
 have w0 := hw 0 (by omega) (by omega)
 have w1 := hw 1 (by omega) (by omega)
 have w2 := hw 2 (by omega) (by omega)
 have w3 := hw 3 (by omega) (by omega)
 have w4 := hw 4 (by omega) (by omega)
 have w5 := hw 5 (by omega) (by omega)
 have h1 := inM_ok k 1 6
 by_cases h : 1 <= k /\ k <= 6
 ·rw [show inM k 1 6 = true by simp [inM]; omega] at h1
  have hr : k = 1 \/ k = 2 \/ k = 3 \/ k = 4 \/ k = 5 \/ k = 6 := by omega
  rcases hr with rfl | rfl | rfl | rfl | rfl | rfl
  ·refine ACalls.of_body Tryd.func65 (by kernel_rfl) rfl (by kernel_rfl) (by simp [Tryd.ntmps65]) (by simp) ?_
   rw [Tryd.ntmps65]
   repeat' first | ((first | refine aops_end (hK _ ?_) | refine aopsD_end (hK _ ?_) | refine aopsF_end (hK _ ?_)); clear hK K) | ((first | refine aops_go ?_ | refine aopsD_go ?_ | refine aopsF_go ?_ | refine wpcall_pure rfl (h1) ?_); simp [w0, w1, w2, w3, w4, w5]; (try (refine gen2 ?_ ?_ <;> intro hq <;> try simp [w0, w1, w2, w3, w4, w5] at hq))) | (refine T.ret (Done.data (Or.inr rfl) ?_ ?_) <;> simp [Tryd.results65, coKidsM] <;> omega) | refine T.r0 fun K hK => ?_ | refine T.r1 fun K hK => ?_ | (refine ⟨by omega, ?_⟩) | refine T.ct rfl ?_ | refine T.cf rfl ?_ | refine T.seq ?_ | refine T.block ?_ | refine T.skip ?_ | refine T.exit ?_
  ·refine ACalls.of_body Tryd.func65 (by kernel_rfl) rfl (by kernel_rfl) (by simp [Tryd.ntmps65]) (by simp) ?_
   rw [Tryd.ntmps65]
   repeat' first | ((first | refine aops_end (hK _ ?_) | refine aopsD_end (hK _ ?_) | refine aopsF_end (hK _ ?_)); clear hK K) | ((first | refine aops_go ?_ | refine aopsD_go ?_ | refine aopsF_go ?_ | refine wpcall_pure rfl (h1) ?_); simp [w0, w1, w2, w3, w4, w5]; (try (refine gen2 ?_ ?_ <;> intro hq <;> try simp [w0, w1, w2, w3, w4, w5] at hq))) | (refine T.ret (Done.data (Or.inr rfl) ?_ ?_) <;> simp [Tryd.results65, coKidsM] <;> omega) | refine T.r0 fun K hK => ?_ | refine T.r1 fun K hK => ?_ | (refine ⟨by omega, ?_⟩) | refine T.ct rfl ?_ | refine T.cf rfl ?_ | refine T.seq ?_ | refine T.block ?_ | refine T.skip ?_ | refine T.exit ?_
  ·refine ACalls.of_body Tryd.func65 (by kernel_rfl) rfl (by kernel_rfl) (by simp [Tryd.ntmps65]) (by simp) ?_
   rw [Tryd.ntmps65]
   repeat' first | ((first | refine aops_end (hK _ ?_) | refine aopsD_end (hK _ ?_) | refine aopsF_end (hK _ ?_)); clear hK K) | ((first | refine aops_go ?_ | refine aopsD_go ?_ | refine aopsF_go ?_ | refine wpcall_pure rfl (h1) ?_); simp [w0, w1, w2, w3, w4, w5]; (try (refine gen2 ?_ ?_ <;> intro hq <;> try simp [w0, w1, w2, w3, w4, w5] at hq))) | (refine T.ret (Done.data (Or.inr rfl) ?_ ?_) <;> simp [Tryd.results65, coKidsM] <;> omega) | refine T.r0 fun K hK => ?_ | refine T.r1 fun K hK => ?_ | (refine ⟨by omega, ?_⟩) | refine T.ct rfl ?_ | refine T.cf rfl ?_ | refine T.seq ?_ | refine T.block ?_ | refine T.skip ?_ | refine T.exit ?_
  ·refine ACalls.of_body Tryd.func65 (by kernel_rfl) rfl (by kernel_rfl) (by simp [Tryd.ntmps65]) (by simp) ?_
   rw [Tryd.ntmps65]
   repeat' first | ((first | refine aops_end (hK _ ?_) | refine aopsD_end (hK _ ?_) | refine aopsF_end (hK _ ?_)); clear hK K) | ((first | refine aops_go ?_ | refine aopsD_go ?_ | refine aopsF_go ?_ | refine wpcall_pure rfl (h1) ?_); simp [w0, w1, w2, w3, w4, w5]; (try (refine gen2 ?_ ?_ <;> intro hq <;> try simp [w0, w1, w2, w3, w4, w5] at hq))) | (refine T.ret (Done.data (Or.inr rfl) ?_ ?_) <;> simp [Tryd.results65, coKidsM] <;> omega) | refine T.r0 fun K hK => ?_ | refine T.r1 fun K hK => ?_ | (refine ⟨by omega, ?_⟩) | refine T.ct rfl ?_ | refine T.cf rfl ?_ | refine T.seq ?_ | refine T.block ?_ | refine T.skip ?_ | refine T.exit ?_
  ·refine ACalls.of_body Tryd.func65 (by kernel_rfl) rfl (by kernel_rfl) (by simp [Tryd.ntmps65]) (by simp) ?_
   rw [Tryd.ntmps65]
   repeat' first | ((first | refine aops_end (hK _ ?_) | refine aopsD_end (hK _ ?_) | refine aopsF_end (hK _ ?_)); clear hK K) | ((first | refine aops_go ?_ | refine aopsD_go ?_ | refine aopsF_go ?_ | refine wpcall_pure rfl (h1) ?_); simp [w0, w1, w2, w3, w4, w5]; (try (refine gen2 ?_ ?_ <;> intro hq <;> try simp [w0, w1, w2, w3, w4, w5] at hq))) | (refine T.ret (Done.data (Or.inr rfl) ?_ ?_) <;> simp [Tryd.results65, coKidsM] <;> omega) | refine T.r0 fun K hK => ?_ | refine T.r1 fun K hK => ?_ | (refine ⟨by omega, ?_⟩) | refine T.ct rfl ?_ | refine T.cf rfl ?_ | refine T.seq ?_ | refine T.block ?_ | refine T.skip ?_ | refine T.exit ?_
  ·refine ACalls.of_body Tryd.func65 (by kernel_rfl) rfl (by kernel_rfl) (by simp [Tryd.ntmps65]) (by simp) ?_
   rw [Tryd.ntmps65]
   repeat' first | ((first | refine aops_end (hK _ ?_) | refine aopsD_end (hK _ ?_) | refine aopsF_end (hK _ ?_)); clear hK K) | ((first | refine aops_go ?_ | refine aopsD_go ?_ | refine aopsF_go ?_ | refine wpcall_pure rfl (h1) ?_); simp [w0, w1, w2, w3, w4, w5]; (try (refine gen2 ?_ ?_ <;> intro hq <;> try simp [w0, w1, w2, w3, w4, w5] at hq))) | (refine T.ret (Done.data (Or.inr rfl) ?_ ?_) <;> simp [Tryd.results65, coKidsM] <;> omega) | refine T.r0 fun K hK => ?_ | refine T.r1 fun K hK => ?_ | (refine ⟨by omega, ?_⟩) | refine T.ct rfl ?_ | refine T.cf rfl ?_ | refine T.seq ?_ | refine T.block ?_ | refine T.skip ?_ | refine T.exit ?_
 ·rw [show inM k 1 6 = false by simp [inM]; omega] at h1
  have hk : coKidsM k = -1 := by simp only [coKidsM]; rw [if_neg (by omega), if_neg (by omega), if_neg (by omega)]
  rw [hk]
  refine ACalls.of_body Tryd.func65 (by kernel_rfl) rfl (by kernel_rfl) (by simp [Tryd.ntmps65]) (by simp) ?_
  rw [Tryd.ntmps65]
  repeat' first | ((first | refine aops_end (hK _ ?_) | refine aopsD_end (hK _ ?_) | refine aopsF_end (hK _ ?_)); clear hK K) | ((first | refine aops_go ?_ | refine aopsD_go ?_ | refine aopsF_go ?_ | refine wpcall_pure rfl (h1) ?_); simp; (try (refine gen2 ?_ ?_ <;> intro hq <;> try simp at hq))) | (refine T.ret (Done.data (Or.inr rfl) ?_ ?_) <;> simp [Tryd.results65] <;> omega) | refine T.r0 fun K hK => ?_ | refine T.r1 fun K hK => ?_ | (refine ⟨by omega, ?_⟩) | refine T.ct rfl ?_ | refine T.cf rfl ?_ | refine T.seq ?_ | refine T.block ?_ | refine T.skip ?_ | refine T.exit ?_

theorem coPlain_ok (c : MCo) : ACalls Tryd.prog 67 [aCo c] [] (.b (groundCo c)) [] [] := by
 refine ACalls.of_body Tryd.func67 (by kernel_rfl) rfl (by kernel_rfl) (by simp [Tryd.ntmps67]) (by simp) ?_
 rw [Tryd.ntmps67]
 repeat' first | ((first | refine aops_end (hK _ ?_) | refine aopsD_end (hK _ ?_) | refine aopsF_end (hK _ ?_)); clear hK K) | ((first | refine aops_go ?_ | refine aopsD_go ?_ | refine aopsF_go ?_); simp; (try (refine gen2 ?_ ?_ <;> intro hq <;> try simp at hq))) | (refine T.ret (Done.data (Or.inr rfl) ?_ ?_) <;> simp [Tryd.results67, groundCo, *] <;> omega) | refine T.r0 fun K hK => ?_ | refine T.r1 fun K hK => ?_ | (refine ⟨by omega, ?_⟩) | refine T.ct rfl ?_ | refine T.cf rfl ?_ | refine T.seq ?_ | refine T.block ?_ | refine T.skip ?_ | refine T.exit ?_

theorem coAny_ok (c : MCo) : ACalls Tryd.prog 68 [aCo c] [] (.b (anyCo c)) [] [] := by
 refine ACalls.of_body Tryd.func68 (by kernel_rfl) rfl (by kernel_rfl) (by simp [Tryd.ntmps68]) (by simp) ?_
 rw [Tryd.ntmps68]
 repeat' first | ((first | refine aops_end (hK _ ?_) | refine aopsD_end (hK _ ?_) | refine aopsF_end (hK _ ?_)); clear hK K) | ((first | refine aops_go ?_ | refine aopsD_go ?_ | refine aopsF_go ?_); simp; (try (refine gen2 ?_ ?_ <;> intro hq <;> try simp at hq))) | (refine T.ret (Done.data (Or.inr rfl) ?_ ?_) <;> simp [Tryd.results68, anyCo, *] <;> omega) | refine T.r0 fun K hK => ?_ | refine T.r1 fun K hK => ?_ | (refine ⟨by omega, ?_⟩) | refine T.ct rfl ?_ | refine T.cf rfl ?_ | refine T.seq ?_ | refine T.block ?_ | refine T.skip ?_ | refine T.exit ?_

theorem l6Ground_ok (c : MCo) : ACalls Tryd.prog 83 [aCo c] [] (.b (groundCo c)) [] [] := by
 refine ACalls.of_body Tryd.func83 (by kernel_rfl) rfl (by kernel_rfl) (by simp [Tryd.ntmps83]) (by simp) ?_
 rw [Tryd.ntmps83]
 repeat' first | ((first | refine aops_end (hK _ ?_) | refine aopsD_end (hK _ ?_) | refine aopsF_end (hK _ ?_)); clear hK K) | ((first | refine aops_go ?_ | refine aopsD_go ?_ | refine aopsF_go ?_); simp; (try (refine gen2 ?_ ?_ <;> intro hq <;> try simp at hq))) | (refine T.ret (Done.data (Or.inr rfl) ?_ ?_) <;> simp [Tryd.results83, groundCo, *] <;> omega) | refine T.r0 fun K hK => ?_ | refine T.r1 fun K hK => ?_ | (refine ⟨by omega, ?_⟩) | refine T.ct rfl ?_ | refine T.cf rfl ?_ | refine T.seq ?_ | refine T.block ?_ | refine T.skip ?_ | refine T.exit ?_

theorem l6Label_ok (n : Int) : ACalls Tryd.prog 84 [.i n] [] (.b (labM n)) [] [] := by
 generalize hm : (if n < -99 \/ 99 < n then 0 else if n < 0 then -n else n) = m
 have hl : labM n = decide (1 <= m) := by
  simp only [labM, inM, <- Bool.decide_and, <- Bool.decide_or]
  refine decide_eq_decide.2 ?_
  rw [<- hm]
  split <;> (try split) <;> omega
 have habs := l1Abs_ok n
 rw [hm] at habs
 rw [hl]
 refine ACalls.of_body Tryd.func84 (by kernel_rfl) rfl (by kernel_rfl) (by simp [Tryd.ntmps84]) (by simp) ?_
 rw [Tryd.ntmps84]
 repeat' first | ((first | refine aops_end (hK _ ?_) | refine aopsD_end (hK _ ?_) | refine aopsF_end (hK _ ?_)); clear hK K) | ((first | refine aops_go ?_ | refine aopsD_go ?_ | refine aopsF_go ?_ | refine wpcall_pure rfl (habs) ?_); simp; (try (refine gen2 ?_ ?_ <;> intro hq <;> try simp at hq))) | (refine T.ret (Done.data (Or.inr rfl) ?_ ?_) <;> simp [Tryd.results84, *] <;> omega) | refine T.r0 fun K hK => ?_ | refine T.r1 fun K hK => ?_ | (refine ⟨by omega, ?_⟩) | refine T.ct rfl ?_ | refine T.cf rfl ?_ | refine T.seq ?_ | refine T.block ?_ | refine T.skip ?_ | refine T.exit ?_

theorem indexFuncCo_1 (f : FuncId) (d : DV) (l : List MCo) (q : MCo -> Bool) (hl : l.length <= 4611686018427387904) (hf : ∀ t ∈ l, ACalls Tryd.prog f [aCo t, .c (.ptr 0 0)] (dV [[d]]) (.b (q t)) (dV [[d]]) []) :
  ACalls Tryd.prog 86 [.l (l.map eCo), .c (.fn f [0])] (dV [[d]]) (.i (firstIx q l 0)) (dV [[d]]) [] := by
 refine ACalls.of_body Tryd.func86 (by kernel_rfl) rfl (by kernel_rfl) (by simp [Tryd.ntmps86]) (by simp) ?_
 rw [Tryd.ntmps86]
 repeat' first | ((first | refine aops_end (hK _ ?_) | refine aopsD_end (hK _ ?_) | refine aopsF_end (hK _ ?_)); clear hK K) | ((first | refine aops_go ?_ | refine aopsD_go ?_ | refine aopsF_go ?_); simp; (try (refine gen2 ?_ ?_ <;> intro hq <;> try simp at hq))) | refine T.r0 fun K hK => ?_ | refine T.r1 fun K hK => ?_ | (refine ⟨by omega, ?_⟩) | refine T.ct rfl ?_ | refine T.cf rfl ?_ | refine T.seq ?_ | refine T.block ?_ | refine T.skip ?_ | refine T.exit ?_
 obtain ⟨R, hR⟩ : ∃ R, firstIx q l 0 = R := ⟨_, rfl⟩
 rw [hR]
 refine T.loopF (fun p : Nat => ⟨[(0, .l (l.map eCo)), (1, .c (.fn f [0])), (7, .i l.length), (8, .i p)], [[.d d]], []⟩) (fun p => l.length + 1 - p) (fun p => p <= l.length /\ firstIx q (l.drop p) p = R) (fun p hp => ?_) 0 (by simpa using hR) (by simp)
 obtain ⟨hi, he⟩ := hp
 by_cases hlt : p < l.length
 ·obtain ⟨u, ht⟩ := get_lt hlt
  have htm : u ∈ l := List.mem_of_getElem? ht
  have hgt : l[p] = u := by rw [List.getElem?_eq_getElem hlt] at ht; exact Option.some.inj ht
  have hdr : l.drop p = u :: l.drop (p + 1) := by rw [List.drop_eq_getElem_cons hlt, hgt]
  have hu := hf u htm
  rw [hdr, firstIx] at he
  cases hb : q u <;> rw [hb] at hu he
  ·repeat' first | ((first | refine aops_end (hK _ ?_) | refine aopsD_end (hK _ ?_) | refine aopsF_end (hK _ ?_)); clear hK K) | ((first | refine aops_go ?_ | refine aopsD_go ?_ | refine aopsF_go ?_); simp [hlt, hgt]; (try simp (disch := omega) only [wrap64]); (try (refine gen2 ?_ ?_ <;> intro hq <;> try simp [hlt, hgt] at hq))) | (refine wpcall_obj1 0 [d] rfl rfl hu ?_; simp) | (refine ⟨p + 1, by dsimp only; omega, ⟨by omega, by simpa using he⟩, ?_⟩; simp (disch := omega) [wrap64]) | refine T.r0 fun K hK => ?_ | refine T.r1 fun K hK => ?_ | (refine ⟨by omega, ?_⟩) | refine T.ct rfl ?_ | refine T.cf rfl ?_ | refine T.seq ?_ | refine T.block ?_ | refine T.skip ?_ | refine T.exit ?_
  ·repeat' first | ((first | refine aops_end (hK _ ?_) | refine aopsD_end (hK _ ?_) | refine aopsF_end (hK _ ?_)); clear hK K) | ((first | refine aops_go ?_ | refine aopsD_go ?_ | refine aopsF_go ?_); simp [hlt, hgt]; (try simp (disch := omega) only [wrap64]); (try (refine gen2 ?_ ?_ <;> intro hq <;> try simp [hlt, hgt] at hq))) | (refine wpcall_obj1 0 [d] rfl rfl hu ?_; simp) | refine T.r0 fun K hK => ?_ | refine T.r1 fun K hK => ?_ | (refine ⟨by omega, ?_⟩) | refine T.ct rfl ?_ | refine T.cf rfl ?_ | refine T.seq ?_ | refine T.block ?_ | refine T.skip ?_ | refine T.exit ?_
   refine T.ret (Done.obj1 (Or.inr rfl) ?_ ?_ ?_) <;> simp [Tryd.results86, <- he]
 ·have hp' : p = l.length := by omega
  subst hp'
  simp [firstIx] at he
  repeat' first | ((first | refine aops_end (hK _ ?_) | refine aopsD_end (hK _ ?_) | refine aopsF_end (hK _ ?_)); clear hK K) | ((first | refine aops_go ?_ | refine aopsD_go ?_ | refine aopsF_go ?_); simp [hlt]; (try (refine gen2 ?_ ?_ <;> intro hq <;> try simp [hlt] at hq))) | refine T.r0 fun K hK => ?_ | refine T.r1 fun K hK => ?_ | (refine ⟨by omega, ?_⟩) | refine T.ct rfl ?_ | refine T.cf rfl ?_ | refine T.seq ?_ | refine T.block ?_ | refine T.skip ?_ | refine T.exit ?_
  refine T.ret (Done.obj1 (Or.inr rfl) ?_ ?_ ?_) <;> simp [Tryd.results86, he]

theorem containsFuncCo_1 (f : FuncId) (d : DV) (l : List MCo) (q : MCo -> Bool) (hl : l.length <= 4611686018427387904) (hf : ∀ t ∈ l, ACalls Tryd.prog f [aCo t, .c (.ptr 0 0)] (dV [[d]]) (.b (q t)) (dV [[d]]) []) :
  ACalls Tryd.prog 69 [.l (l.map eCo), .c (.fn f [0])] (dV [[d]]) (.b (l.any q)) (dV [[d]]) [] := by
 refine ACalls.of_body Tryd.func69 (by kernel_rfl) rfl (by kernel_rfl) (by simp [Tryd.ntmps69]) (by simp) ?_
 rw [Tryd.ntmps69]
 rw [<- firstIx_any (i := 0) (by omega)]
 repeat' first | ((first | refine aops_end (hK _ ?_) | refine aopsD_end (hK _ ?_) | refine aopsF_end (hK _ ?_)); clear hK K) | ((first | (first | refine aops_go ?_ | refine aopsD_go ?_ | refine aopsF_go ?_) | refine wpcall_obj1 0 [d] rfl rfl (indexFuncCo_1 f d l q hl hf) ?_); simp; (try (refine gen2 ?_ ?_ <;> intro hq <;> try simp at hq))) | refine T.r0 fun K hK => ?_ | refine T.r1 fun K hK => ?_ | (refine ⟨by omega, ?_⟩) | refine T.ct rfl ?_ | refine T.cf rfl ?_ | refine T.seq ?_ | refine T.block ?_ | refine T.skip ?_ | refine T.exit ?_
 all_goals (refine T.ret (Done.obj1 (Or.inr rfl) ?_ ?_ ?_) <;> simp [Tryd.results69, *])

end Go.Proofs.YtcgmmknfpfdghaaDoor

namespace Go.Proofs.YtcgmmknfpfdghaaDoor
attribute [-simp] Go.Av.astepJ Go.Av.relC Go.Av.relL Go.Av.relV Go.Av.relVs Go.Av.callJ Go.Av.IT.kind_v Go.Av.IT.kind_b Go.Av.IT.kind_p Go.Av.IT.name_v Go.Av.IT.name_b Go.Av.IT.name_p Go.Av.IT.kids_v Go.Av.IT.kids_b Go.Av.IT.kids_p Go.Av.eIT_len
open Go Go.Av
attribute [local irreducible] T ACalls TX EX LX Draws Some_ ACallsX eTy eTm MTy.kind MTy.kids MTm.kind MTm.name MTm.num MTm.ty MTm.fr MTm.label MTm.kids
attribute [local simp] eTy_def eTm_def
set_option maxHeartbeats 16000000
set_option maxRecDepth 8000
attribute [local irreducible] eCo MCo.kind MCo.tag MCo.label MCo.kids
attribute [local simp] eCo_def

theorem coScan1_ok (d : Int) (hd : 0 <= d /\ d <= 1000) (t : MCo) (q : Bool) (h : ACalls Tryd.prog 45 [aCo t, .i (d + 1)] [] (.b q) [] []) :
  ACalls Tryd.prog 70 [aCo t, .c (.ptr 0 0)] (dV [[.i d]]) (.b (!q)) (dV [[.i d]]) [] := by
 refine ACalls.of_body Tryd.func70 (by kernel_rfl) rfl (by kernel_rfl) (by simp [Tryd.ntmps70]) (by simp) ?_
 rw [Tryd.ntmps70]
 repeat' first | ((first | refine aops_end (hK _ ?_) | refine aopsD_end (hK _ ?_) | refine aopsF_end (hK _ ?_)); clear hK K) | ((first | refine aops_go ?_ | refine aopsD_go ?_ | refine aopsF_go ?_ | refine wpcall_pure rfl (h) ?_); simp; (try simp (disch := omega) only [wrap64])) | refine T.r0 fun K hK => ?_ | refine T.r1 fun K hK => ?_ | (refine ⟨by omega, ?_⟩) | refine T.ct rfl ?_ | refine T.cf rfl ?_ | refine T.seq ?_ | refine T.block ?_ | refine T.skip ?_ | refine T.exit ?_
 refine T.ret (Done.obj1 (Or.inr rfl) ?_ ?_ ?_) <;> simp [Tryd.results70]

theorem coScan_ok : ∀ (d : Nat) (c : MCo), d <= 9 -> nCo c <= 1099511627776 -> ACalls Tryd.prog 45 [aCo c, .i (10 - d)] [] (.b (shapeCo d c)) [] []
 | 0, c, _, _ => by
  refine ACalls.of_body Tryd.func45 (by kernel_rfl) rfl (by kernel_rfl) (by simp [Tryd.ntmps45]) (by simp) ?_
  rw [Tryd.ntmps45]
  repeat' first | ((first | refine aops_end (hK _ ?_) | refine aopsD_end (hK _ ?_) | refine aopsF_end (hK _ ?_)); clear hK K) | ((first | refine aops_go ?_ | refine aopsD_go ?_ | refine aopsF_go ?_); simp; (try (refine gen2 ?_ ?_ <;> intro hq <;> try simp at hq))) | (refine T.ret (Done.data (Or.inr rfl) ?_ ?_) <;> simp [Tryd.results45, shapeCo] <;> omega) | refine T.rd (id := 1) mixed (fun _ => false) [] (by kernel_rfl) fun K hK => ?_ | refine T.rd1 (id := 1) mixed (fun _ => false) [] (by kernel_rfl) fun K hK => ?_ | refine T.r0 fun K hK => ?_ | refine T.r1 fun K hK => ?_ | (refine ⟨by omega, ?_⟩) | refine T.ct rfl ?_ | refine T.cf rfl ?_ | refine T.seq ?_ | refine T.block ?_ | refine T.skip ?_ | refine T.exit ?_
 | d + 1, .mk k t b l, hd, hn => by
  rw [nCo_def] at hn
  have hlen := nCoS_len l
  simp only [MCo.kids_mk] at hn
  have hd1 : (10 : Int) - (d + 1) <= 9 := by omega
  have hc := containsFuncCo_1 70 (.i (10 - (d + 1))) l (fun t => !shapeCo d t) (by omega) (fun u hu => coScan1_ok (10 - (d + 1)) (by omega) u _ (by
   have := coScan_ok d u (by omega) (by have := nCoS_mem hu; omega)
   rwa [show (10 : Int) - (d + 1) + 1 = 10 - d by omega]))
  have hall : (!l.any fun t => !shapeCo d t) = l.all (shapeCo d) := not_any_not _ _
  rw [shapeCo_def, MCo.kids_mk, <- hall]
  have hop := coOperands_ok k
  have h13 := inM_ok t 1 3
  have h25 := inM_ok t 2 5
  have hlab := isLabel_ok b
  by_cases hk : coKidsM k = l.length
  rotate_left
  ·rw [coNode_bad hk]
   generalize (l.any fun t => !shapeCo d t) = R at hc ⊢
   refine ACalls.of_body Tryd.func45 (by kernel_rfl) rfl (by kernel_rfl) (by simp [Tryd.ntmps45]) (by simp) ?_
   rw [Tryd.ntmps45]
   repeat' first | ((first | refine aops_end (hK _ ?_) | refine aopsD_end (hK _ ?_) | refine aopsF_end (hK _ ?_)); clear hK K) | ((first | refine aops_go ?_ | refine aopsD_go ?_ | refine aopsF_go ?_ | refine wpcall_pure rfl (hop) ?_); simp [hd1, hk]; (try (refine gen2 ?_ ?_ <;> intro hq <;> try simp [hd1, hk] at hq))) | (refine T.ret (Done.data (Or.inr rfl) ?_ ?_) <;> simp [Tryd.results45] <;> omega) | refine T.rd (id := 1) mixed (fun _ => false) [] (by kernel_rfl) fun K hK => ?_ | refine T.rd1 (id := 1) mixed (fun _ => false) [] (by kernel_rfl) fun K hK => ?_ | refine T.r0 fun K hK => ?_ | refine T.r1 fun K hK => ?_ | (refine ⟨by omega, ?_⟩) | refine T.ct rfl ?_ | refine T.cf rfl ?_ | refine T.seq ?_ | refine T.block ?_ | refine T.skip ?_ | refine T.exit ?_
  rw [hk] at hop
  clear hall
  have hkc := coKids_cases hk
  clear hk hlen hn
  rcases hkc with ⟨hk1 | hk1, rfl⟩ | ⟨x, hk1 | hk1, rfl⟩ | ⟨x, y, hk1 | hk1, rfl⟩
  ·subst hk1
   rw [show coNode (.mk 1 t b []) = (decide (b = 0) && inM t 1 3) by simp [coNode]]
   generalize inM t 1 3 = i1 at h13 ⊢
   generalize ([].any fun t => !shapeCo d t) = R at hc ⊢
   refine ACalls.of_body Tryd.func45 (by kernel_rfl) rfl (by kernel_rfl) (by simp [Tryd.ntmps45]) (by simp) ?_
   rw [Tryd.ntmps45]
   repeat' first | ((first | refine aops_end (hK _ ?_) | refine aopsD_end (hK _ ?_) | refine aopsF_end (hK _ ?_)); clear hK K) | ((first | refine aops_go ?_ | refine aopsD_go ?_ | refine aopsF_go ?_ | refine wpcall_pure rfl (hop) ?_ | refine wpcall_pure rfl (h13) ?_ | refine wpcall_pure rfl (hlab) ?_); simp [hd1]; (try (refine gen2 ?_ ?_ <;> intro hq <;> try simp [hd1] at hq))) | (refine wpcall_obj1 1 [.i (10 - (d + 1))] rfl (by simp) hc ?_; simp) | (refine T.ret (Done.data (Or.inr rfl) ?_ ?_) <;> simp [Tryd.results45, *] <;> omega) | refine T.rd (id := 1) mixed (fun _ => false) [] (by kernel_rfl) fun K hK => ?_ | refine T.rd1 (id := 1) mixed (fun _ => false) [] (by kernel_rfl) fun K hK => ?_ | refine T.r0 fun K hK => ?_ | refine T.r1 fun K hK => ?_ | (refine ⟨by omega, ?_⟩) | refine T.ct rfl ?_ | refine T.cf rfl ?_ | refine T.seq ?_ | refine T.block ?_ | refine T.skip ?_ | refine T.exit ?_
  ·subst hk1
   rw [show coNode (.mk 6 t b []) = (labM b && inM t 2 5) by simp [coNode]]
   generalize inM t 2 5 = i1 at h25 ⊢
   generalize labM b = i2 at hlab ⊢
   generalize ([].any fun t => !shapeCo d t) = R at hc ⊢
   refine ACalls.of_body Tryd.func45 (by kernel_rfl) rfl (by kernel_rfl) (by simp [Tryd.ntmps45]) (by simp) ?_
   rw [Tryd.ntmps45]
   repeat' first | ((first | refine aops_end (hK _ ?_) | refine aopsD_end (hK _ ?_) | refine aopsF_end (hK _ ?_)); clear hK K) | ((first | refine aops_go ?_ | refine aopsD_go ?_ | refine aopsF_go ?_ | refine wpcall_pure rfl (hop) ?_ | refine wpcall_pure rfl (h25) ?_ | refine wpcall_pure rfl (hlab) ?_); simp [hd1]; (try (refine gen2 ?_ ?_ <;> intro hq <;> try simp [hd1] at hq))) | (refine wpcall_obj1 1 [.i (10 - (d + 1))] rfl (by simp) hc ?_; simp) | (refine T.ret (Done.data (Or.inr rfl) ?_ ?_) <;> simp [Tryd.results45, *] <;> omega) | refine T.rd (id := 1) mixed (fun _ => false) [] (by kernel_rfl) fun K hK => ?_ | refine T.rd1 (id := 1) mixed (fun _ => false) [] (by kernel_rfl) fun K hK => ?_ | refine T.r0 fun K hK => ?_ | refine T.r1 fun K hK => ?_ | (refine ⟨by omega, ?_⟩) | refine T.ct rfl ?_ | refine T.cf rfl ?_ | refine T.seq ?_ | refine T.block ?_ | refine T.skip ?_ | refine T.exit ?_
  ·subst hk1
   have hpl := coPlain_ok x
   rw [show coNode (.mk 4 t b [x]) = (decide (b = 0) && decide (t = 0) && groundCo x) by simp [coNode]]
   generalize groundCo x = i2 at hpl ⊢
   generalize ([x].any fun t => !shapeCo d t) = R at hc ⊢
   refine ACalls.of_body Tryd.func45 (by kernel_rfl) rfl (by kernel_rfl) (by simp [Tryd.ntmps45]) (by simp) ?_
   rw [Tryd.ntmps45]
   repeat' first | ((first | refine aops_end (hK _ ?_) | refine aopsD_end (hK _ ?_) | refine aopsF_end (hK _ ?_)); clear hK K) | ((first | refine aops_go ?_ | refine aopsD_go ?_ | refine aopsF_go ?_ | refine wpcall_pure rfl (hop) ?_ | refine wpcall_pure rfl (hpl) ?_ | refine wpcall_pure rfl (hlab) ?_); simp [hd1]; (try (refine gen2 ?_ ?_ <;> intro hq <;> try simp [hd1] at hq))) | (refine wpcall_obj1 1 [.i (10 - (d + 1))] rfl (by simp) hc ?_; simp) | (refine T.ret (Done.data (Or.inr rfl) ?_ ?_) <;> simp [Tryd.results45, *] <;> omega) | refine T.rd (id := 1) mixed (fun _ => false) [] (by kernel_rfl) fun K hK => ?_ | refine T.rd1 (id := 1) mixed (fun _ => false) [] (by kernel_rfl) fun K hK => ?_ | refine T.r0 fun K hK => ?_ | refine T.r1 fun K hK => ?_ | (refine ⟨by omega, ?_⟩) | refine T.ct rfl ?_ | refine T.cf rfl ?_ | refine T.seq ?_ | refine T.block ?_ | refine T.skip ?_ | refine T.exit ?_
  ·subst hk1
   have hpl := coAny_ok x
   rw [show coNode (.mk 5 t b [x]) = (labM b && decide (t = 0) && (!decide (x.kind = 5) && !anyCo x)) by simp [coNode, projCo, anyCo]]
   generalize anyCo x = i2 at hpl ⊢
   generalize labM b = i3 at hlab ⊢
   generalize ([x].any fun t => !shapeCo d t) = R at hc ⊢
   refine ACalls.of_body Tryd.func45 (by kernel_rfl) rfl (by kernel_rfl) (by simp [Tryd.ntmps45]) (by simp) ?_
   rw [Tryd.ntmps45]
   repeat' first | ((first | refine aops_end (hK _ ?_) | refine aopsD_end (hK _ ?_) | refine aopsF_end (hK _ ?_)); clear hK K) | ((first | refine aops_go ?_ | refine aopsD_go ?_ | refine aopsF_go ?_ | refine wpcall_pure rfl (hop) ?_ | refine wpcall_pure rfl (hpl) ?_ | refine wpcall_pure rfl (hlab) ?_); simp [hd1]; (try (refine gen2 ?_ ?_ <;> intro hq <;> try simp [hd1] at hq))) | (refine wpcall_obj1 1 [.i (10 - (d + 1))] rfl (by simp) hc ?_; simp) | (refine T.ret (Done.data (Or.inr rfl) ?_ ?_) <;> simp [Tryd.results45, *] <;> omega) | refine T.rd (id := 1) mixed (fun _ => false) [] (by kernel_rfl) fun K hK => ?_ | refine T.rd1 (id := 1) mixed (fun _ => false) [] (by kernel_rfl) fun K hK => ?_ | refine T.r0 fun K hK => ?_ | refine T.r1 fun K hK => ?_ | (refine ⟨by omega, ?_⟩) | refine T.ct rfl ?_ | refine T.cf rfl ?_ | refine T.seq ?_ | refine T.block ?_ | refine T.skip ?_ | refine T.exit ?_
  ·subst hk1
   rw [show coNode (.mk 2 t b [x, y]) = (decide (b = 0) && decide (t = 0)) by simp [coNode]]
   generalize ([x, y].any fun t => !shapeCo d t) = R at hc ⊢
   refine ACalls.of_body Tryd.func45 (by kernel_rfl) rfl (by kernel_rfl) (by simp [Tryd.ntmps45]) (by simp) ?_
   rw [Tryd.ntmps45]
   repeat' first | ((first | refine aops_end (hK _ ?_) | refine aopsD_end (hK _ ?_) | refine aopsF_end (hK _ ?_)); clear hK K) | ((first | refine aops_go ?_ | refine aopsD_go ?_ | refine aopsF_go ?_ | refine wpcall_pure rfl (hop) ?_ | refine wpcall_pure rfl (hlab) ?_); simp [hd1]; (try (refine gen2 ?_ ?_ <;> intro hq <;> try simp [hd1] at hq))) | (refine wpcall_obj1 1 [.i (10 - (d + 1))] rfl (by simp) hc ?_; simp) | (refine T.ret (Done.data (Or.inr rfl) ?_ ?_) <;> simp [Tryd.results45, *] <;> omega) | refine T.rd (id := 1) mixed (fun _ => false) [] (by kernel_rfl) fun K hK => ?_ | refine T.rd1 (id := 1) mixed (fun _ => false) [] (by kernel_rfl) fun K hK => ?_ | refine T.r0 fun K hK => ?_ | refine T.r1 fun K hK => ?_ | (refine ⟨by omega, ?_⟩) | refine T.ct rfl ?_ | refine T.cf rfl ?_ | refine T.seq ?_ | refine T.block ?_ | refine T.skip ?_ | refine T.exit ?_
  ·subst hk1
   rw [show coNode (.mk 3 t b [x, y]) = (decide (b = 0) && decide (t = 0)) by simp [coNode]]
   generalize ([x, y].any fun t => !shapeCo d t) = R at hc ⊢
   refine ACalls.of_body Tryd.func45 (by kernel_rfl) rfl (by kernel_rfl) (by simp [Tryd.ntmps45]) (by simp) ?_
   rw [Tryd.ntmps45]
   repeat' first | ((first | refine aops_end (hK _ ?_) | refine aopsD_end (hK _ ?_) | refine aopsF_end (hK _ ?_)); clear hK K) | ((first | refine aops_go ?_ | refine aopsD_go ?_ | refine aopsF_go ?_ | refine wpcall_pure rfl (hop) ?_ | refine wpcall_pure rfl (hlab) ?_); simp [hd1]; (try (refine gen2 ?_ ?_ <;> intro hq <;> try simp [hd1] at hq))) | (refine wpcall_obj1 1 [.i (10 - (d + 1))] rfl (by simp) hc ?_; simp) | (refine T.ret (Done.data (Or.inr rfl) ?_ ?_) <;> simp [Tryd.results45, *] <;> omega) | refine T.rd (id := 1) mixed (fun _ => false) [] (by kernel_rfl) fun K hK => ?_ | refine T.rd1 (id := 1) mixed (fun _ => false) [] (by kernel_rfl) fun K hK => ?_ | refine T.r0 fun K hK => ?_ | refine T.r1 fun K hK => ?_ | (refine ⟨by omega, ?_⟩) | refine T.ct rfl ?_ | refine T.cf rfl ?_ | refine T.seq ?_ | refine T.block ?_ | refine T.skip ?_ | refine T.exit ?_

theorem CoercionValid_ok (c : MCo) (hn : nCo c <= 1099511627776) : ACalls Tryd.prog 19 [aCo c] [] (.b (shapeCo 9 c)) [] [] := by
 have h := coScan_ok 9 c (by omega) hn
 generalize shapeCo 9 c = q at h ⊢
 refine ACalls.of_body Tryd.func19 (by kernel_rfl) rfl (by kernel_rfl) (by simp [Tryd.ntmps19]) (by simp) ?_
 rw [Tryd.ntmps19]
 repeat' first | ((first | refine aops_end (hK _ ?_) | refine aopsD_end (hK _ ?_) | refine aopsF_end (hK _ ?_)); clear hK K) | ((first | refine aops_go ?_ | refine aopsD_go ?_ | refine aopsF_go ?_ | refine wpcall_pure rfl (h) ?_); simp; (try (refine gen2 ?_ ?_ <;> intro hq <;> try simp at hq))) | (refine T.ret (Done.data (Or.inr rfl) ?_ ?_) <;> simp [Tryd.results19] <;> omega) | refine T.r0 fun K hK => ?_ | refine T.r1 fun K hK => ?_ | (refine ⟨by omega, ?_⟩) | refine T.ct rfl ?_ | refine T.cf rfl ?_ | refine T.seq ?_ | refine T.block ?_ | refine T.skip ?_ | refine T.exit ?_

end Go.Proofs.YtcgmmknfpfdghaaDoor

namespace Go.Proofs.YtcgmmknfpfdghaaDoor
attribute [-simp] Go.Av.astepJ Go.Av.relC Go.Av.relL Go.Av.relV Go.Av.relVs Go.Av.callJ Go.Av.IT.kind_v Go.Av.IT.kind_b Go.Av.IT.kind_p Go.Av.IT.name_v Go.Av.IT.name_b Go.Av.IT.name_p Go.Av.IT.kids_v Go.Av.IT.kids_b Go.Av.IT.kids_p Go.Av.eIT_len
open Go Go.Av
attribute [local irreducible] T ACalls TX EX LX Draws Some_ ACallsX eTy eTm MTy.kind MTy.kids MTm.kind MTm.name MTm.num MTm.ty MTm.fr MTm.label MTm.kids
attribute [local simp] eTy_def eTm_def
set_option maxHeartbeats 16000000
set_option maxRecDepth 8000
attribute [local irreducible] eCo MCo.kind MCo.tag MCo.label MCo.kids
attribute [local simp] eCo_def

theorem l6Shape_ok : ∀ (d : Nat) (c : MCo), d <= 1000 -> nCo c <= 1099511627776 -> ACalls Tryd.prog 63 [aCo c, .i d] [] (.b (shapeCo d c)) [] []
 | 0, c, _, _ => by
  refine ACalls.of_body Tryd.func63 (by kernel_rfl) rfl (by kernel_rfl) (by simp [Tryd.ntmps63]) (by simp) ?_
  rw [Tryd.ntmps63]
  repeat' first | ((first | refine aops_end (hK _ ?_) | refine aopsD_end (hK _ ?_) | refine aopsF_end (hK _ ?_)); clear hK K) | ((first | refine aops_go ?_ | refine aopsD_go ?_ | refine aopsF_go ?_); simp; (try (refine gen2 ?_ ?_ <;> intro hq <;> try simp at hq))) | (refine T.ret (Done.data (Or.inr rfl) ?_ ?_) <;> simp [Tryd.results63, shapeCo] <;> omega) | refine T.r0 fun K hK => ?_ | refine T.r1 fun K hK => ?_ | (refine ⟨by omega, ?_⟩) | refine T.ct rfl ?_ | refine T.cf rfl ?_ | refine T.seq ?_ | refine T.block ?_ | refine T.skip ?_ | refine T.exit ?_
 | d + 1, .mk k t b l, hd, hn => by
  rw [nCo_def] at hn
  have hlen := nCoS_len l
  simp only [MCo.kids_mk] at hn
  have hd1 : ¬ ((d : Int) + 1 < 1) := by omega
  rw [shapeCo_def, MCo.kids_mk]
  obtain ⟨R, hR⟩ : ∃ R, l.all (shapeCo d) = R := ⟨_, rfl⟩
  rw [hR]
  refine ACalls.of_body Tryd.func63 (by kernel_rfl) rfl (by kernel_rfl) (by simp [Tryd.ntmps63]) (by simp) ?_
  rw [Tryd.ntmps63]
  repeat' first | ((first | refine aops_end (hK _ ?_) | refine aopsD_end (hK _ ?_) | refine aopsF_end (hK _ ?_)); clear hK K) | ((first | refine aops_go ?_ | refine aopsD_go ?_ | refine aopsF_go ?_); simp [hd1]; (try (refine gen2 ?_ ?_ <;> intro hq <;> try simp [hd1] at hq))) | refine T.r0 fun K hK => ?_ | refine T.r1 fun K hK => ?_ | (refine ⟨by omega, ?_⟩) | refine T.ct rfl ?_ | refine T.cf rfl ?_ | refine T.seq ?_ | refine T.block ?_ | refine T.skip ?_ | refine T.exit ?_
  refine T.loopF (fun p : Nat => ⟨[(1, .i (d + 1)), (2, .c (.ptr 0 0)), (5, .i p)], [[.d (.i k), .d (.i t), .d (.i b), .d (.sl (l.map eCo))]], []⟩) (fun p => l.length + 1 - p) (fun p => p <= l.length /\ (l.drop p).all (shapeCo d) = R) (fun p hp => ?_) 0 (by simpa using hR) (by simp)
  obtain ⟨hi, he⟩ := hp
  by_cases hlt : p < l.length
  ·obtain ⟨u, ht⟩ := get_lt hlt
   have htm : u ∈ l := List.mem_of_getElem? ht
   have hgt : l[p] = u := by rw [List.getElem?_eq_getElem hlt] at ht; exact Option.some.inj ht
   have hdr : l.drop p = u :: l.drop (p + 1) := by rw [List.drop_eq_getElem_cons hlt, hgt]
   have hu := l6Shape_ok d u (by omega) (by have := nCoS_mem htm; omega)
   rw [hdr, List.all_cons] at he
   cases hb : shapeCo d u <;> rw [hb] at hu he
   ·have hR0 : R = false := by simpa using he.symm
    subst hR0
    repeat' first | ((first | refine aops_end (hK _ ?_) | refine aopsD_end (hK _ ?_) | refine aopsF_end (hK _ ?_)); clear hK K) | ((first | refine aops_go ?_ | refine aopsD_go ?_ | refine aopsF_go ?_ | refine wpcall_pure rfl (hu) ?_); simp [hlt, hgt]; (try simp (disch := omega) only [wrap64]); (try (refine gen2 ?_ ?_ <;> intro hq <;> try simp [hlt, hgt] at hq))) | (refine T.ret (Done.data (Or.inr rfl) ?_ ?_) <;> simp [Tryd.results63] <;> omega) | refine T.r0 fun K hK => ?_ | refine T.r1 fun K hK => ?_ | (refine ⟨by omega, ?_⟩) | refine T.ct rfl ?_ | refine T.cf rfl ?_ | refine T.seq ?_ | refine T.block ?_ | refine T.skip ?_ | refine T.exit ?_
   ·repeat' first | ((first | refine aops_end (hK _ ?_) | refine aopsD_end (hK _ ?_) | refine aopsF_end (hK _ ?_)); clear hK K) | ((first | refine aops_go ?_ | refine aopsD_go ?_ | refine aopsF_go ?_ | refine wpcall_pure rfl (hu) ?_); simp [hlt, hgt]; (try simp (disch := omega) only [wrap64]); (try (refine gen2 ?_ ?_ <;> intro hq <;> try simp [hlt, hgt] at hq))) | (refine ⟨p + 1, by dsimp only; omega, ⟨by omega, by simpa using he⟩, ?_⟩; simp (disch := omega) [wrap64]) | refine T.r0 fun K hK => ?_ | refine T.r1 fun K hK => ?_ | (refine ⟨by omega, ?_⟩) | refine T.ct rfl ?_ | refine T.cf rfl ?_ | refine T.seq ?_ | refine T.block ?_ | refine T.skip ?_ | refine T.exit ?_
  ·have hp' : p = l.length := by omega
   have hR1 : R = true := by rw [hp', List.drop_length] at he; exact he.symm
   subst hR1
   rw [Bool.true_and]
   clear he hR hi hlt
   subst hp'
   by_cases hk : coKidsM k = l.length
   rotate_left
   ·rw [coNode_bad hk]
    have hx : ∀ m : Int, k = m -> ¬ coKidsM m = l.length := fun m e => e ▸ hk
    by_cases e1 : k = 1
    ·have h0 : ¬ l = [] := fun e => hx 1 e1 (by rw [e]; rfl)
     subst e1
     repeat' first | ((first | refine aops_end (hK _ ?_) | refine aopsD_end (hK _ ?_) | refine aopsF_end (hK _ ?_)); clear hK K) | ((first | refine aops_go ?_ | refine aopsD_go ?_ | refine aopsF_go ?_); simp [h0]; (try (refine gen2 ?_ ?_ <;> intro hq <;> try simp [h0] at hq))) | (refine T.ret (Done.data (Or.inr rfl) ?_ ?_) <;> simp [Tryd.results63] <;> omega) | refine T.r0 fun K hK => ?_ | refine T.r1 fun K hK => ?_ | (refine ⟨by omega, ?_⟩) | refine T.ct rfl ?_ | refine T.cf rfl ?_ | refine T.seq ?_ | refine T.block ?_ | refine T.skip ?_ | refine T.exit ?_
    by_cases e2 : k = 2
    ·have h0 : ¬ (l.length : Int) = 2 := fun e => hx 2 e2 (by rw [e]; rfl)
     subst e2
     repeat' first | ((first | refine aops_end (hK _ ?_) | refine aopsD_end (hK _ ?_) | refine aopsF_end (hK _ ?_)); clear hK K) | ((first | refine aops_go ?_ | refine aopsD_go ?_ | refine aopsF_go ?_); simp [h0]; (try (refine gen2 ?_ ?_ <;> intro hq <;> try simp [h0] at hq))) | (refine T.ret (Done.data (Or.inr rfl) ?_ ?_) <;> simp [Tryd.results63] <;> omega) | refine T.r0 fun K hK => ?_ | refine T.r1 fun K hK => ?_ | (refine ⟨by omega, ?_⟩) | refine T.ct rfl ?_ | refine T.cf rfl ?_ | refine T.seq ?_ | refine T.block ?_ | refine T.skip ?_ | refine T.exit ?_
    by_cases e3 : k = 3
    ·have h0 : ¬ (l.length : Int) = 2 := fun e => hx 3 e3 (by rw [e]; rfl)
     subst e3
     repeat' first | ((first | refine aops_end (hK _ ?_) | refine aopsD_end (hK _ ?_) | refine aopsF_end (hK _ ?_)); clear hK K) | ((first | refine aops_go ?_ | refine aopsD_go ?_ | refine aopsF_go ?_); simp [h0]; (try (refine gen2 ?_ ?_ <;> intro hq <;> try simp [h0] at hq))) | (refine T.ret (Done.data (Or.inr rfl) ?_ ?_) <;> simp [Tryd.results63] <;> omega) | refine T.r0 fun K hK => ?_ | refine T.r1 fun K hK => ?_ | (refine ⟨by omega, ?_⟩) | refine T.ct rfl ?_ | refine T.cf rfl ?_ | refine T.seq ?_ | refine T.block ?_ | refine T.skip ?_ | refine T.exit ?_
    by_cases e4 : k = 4
    ·have h0 : ¬ (l.length : Int) = 1 := fun e => hx 4 e4 (by rw [e]; rfl)
     subst e4
     repeat' first | ((first | refine aops_end (hK _ ?_) | refine aopsD_end (hK _ ?_) | refine aopsF_end (hK _ ?_)); clear hK K) | ((first | refine aops_go ?_ | refine aopsD_go ?_ | refine aopsF_go ?_); simp [h0]; (try (refine gen2 ?_ ?_ <;> intro hq <;> try simp [h0] at hq))) | (refine T.ret (Done.data (Or.inr rfl) ?_ ?_) <;> simp [Tryd.results63] <;> omega) | refine T.r0 fun K hK => ?_ | refine T.r1 fun K hK => ?_ | (refine ⟨by omega, ?_⟩) | refine T.ct rfl ?_ | refine T.cf rfl ?_ | refine T.seq ?_ | refine T.block ?_ | refine T.skip ?_ | refine T.exit ?_
    by_cases e5 : k = 5
    ·have h0 : ¬ (l.length : Int) = 1 := fun e => hx 5 e5 (by rw [e]; rfl)
     subst e5
     repeat' first | ((first | refine aops_end (hK _ ?_) | refine aopsD_end (hK _ ?_) | refine aopsF_end (hK _ ?_)); clear hK K) | ((first | refine aops_go ?_ | refine aopsD_go ?_ | refine aopsF_go ?_); simp [h0]; (try (refine gen2 ?_ ?_ <;> intro hq <;> try simp [h0] at hq))) | (refine T.ret (Done.data (Or.inr rfl) ?_ ?_) <;> simp [Tryd.results63] <;> omega) | refine T.r0 fun K hK => ?_ | refine T.r1 fun K hK => ?_ | (refine ⟨by omega, ?_⟩) | refine T.ct rfl ?_ | refine T.cf rfl ?_ | refine T.seq ?_ | refine T.block ?_ | refine T.skip ?_ | refine T.exit ?_
    by_cases e6 : k = 6
    ·have h0 : ¬ l = [] := fun e => hx 6 e6 (by rw [e]; rfl)
     subst e6
     repeat' first | ((first | refine aops_end (hK _ ?_) | refine aopsD_end (hK _ ?_) | refine aopsF_end (hK _ ?_)); clear hK K) | ((first | refine aops_go ?_ | refine aopsD_go ?_ | refine aopsF_go ?_); simp [h0]; (try (refine gen2 ?_ ?_ <;> intro hq <;> try simp [h0] at hq))) | (refine T.ret (Done.data (Or.inr rfl) ?_ ?_) <;> simp [Tryd.results63] <;> omega) | refine T.r0 fun K hK => ?_ | refine T.r1 fun K hK => ?_ | (refine ⟨by omega, ?_⟩) | refine T.ct rfl ?_ | refine T.cf rfl ?_ | refine T.seq ?_ | refine T.block ?_ | refine T.skip ?_ | refine T.exit ?_
    repeat' first | ((first | refine aops_end (hK _ ?_) | refine aopsD_end (hK _ ?_) | refine aopsF_end (hK _ ?_)); clear hK K) | ((first | refine aops_go ?_ | refine aopsD_go ?_ | refine aopsF_go ?_); simp [e1, e2, e3, e4, e5, e6]; (try (refine gen2 ?_ ?_ <;> intro hq <;> try simp [e1, e2, e3, e4, e5, e6] at hq))) | (refine T.ret (Done.data (Or.inr rfl) ?_ ?_) <;> simp [Tryd.results63] <;> omega) | refine T.r0 fun K hK => ?_ | refine T.r1 fun K hK => ?_ | (refine ⟨by omega, ?_⟩) | refine T.ct rfl ?_ | refine T.cf rfl ?_ | refine T.seq ?_ | refine T.block ?_ | refine T.skip ?_ | refine T.exit ?_
   have hlab := l6Label_ok b
   have hkc := coKids_cases hk
   clear hk
   rcases hkc with ⟨hk1 | hk1, rfl⟩ | ⟨x, hk1 | hk1, rfl⟩ | ⟨x, y, hk1 | hk1, rfl⟩
   ·subst hk1
    have hr : coNode (.mk 1 t b []) = (decide (b = 0) && (decide (1 <= t) && decide (t <= 3))) := by simp [coNode, inM]
    rw [hr]
    repeat' first | ((first | refine aops_end (hK _ ?_) | refine aopsD_end (hK _ ?_) | refine aopsF_end (hK _ ?_)); clear hK K) | ((first | refine aops_go ?_ | refine aopsD_go ?_ | refine aopsF_go ?_); simp; (try (refine gen2 ?_ ?_ <;> intro hq <;> try simp at hq))) | (refine T.ret (Done.data (Or.inr rfl) ?_ ?_) <;> simp [Tryd.results63, *] <;> omega) | refine T.r0 fun K hK => ?_ | refine T.r1 fun K hK => ?_ | (refine ⟨by omega, ?_⟩) | refine T.ct rfl ?_ | refine T.cf rfl ?_ | refine T.seq ?_ | refine T.block ?_ | refine T.skip ?_ | refine T.exit ?_
   ·subst hk1
    rw [show coNode (.mk 6 t b []) = (labM b && (decide (2 <= t) && decide (t <= 5))) by simp [coNode, inM]]
    generalize labM b = i2 at hlab ⊢
    repeat' first | ((first | refine aops_end (hK _ ?_) | refine aopsD_end (hK _ ?_) | refine aopsF_end (hK _ ?_)); clear hK K) | ((first | refine aops_go ?_ | refine aopsD_go ?_ | refine aopsF_go ?_ | refine wpcall_pure rfl (hlab) ?_); simp; (try (refine gen2 ?_ ?_ <;> intro hq <;> try simp at hq))) | (refine T.ret (Done.data (Or.inr rfl) ?_ ?_) <;> simp [Tryd.results63, *] <;> omega) | refine T.r0 fun K hK => ?_ | refine T.r1 fun K hK => ?_ | (refine ⟨by omega, ?_⟩) | refine T.ct rfl ?_ | refine T.cf rfl ?_ | refine T.seq ?_ | refine T.block ?_ | refine T.skip ?_ | refine T.exit ?_
   ·subst hk1
    have hpl := l6Ground_ok x
    rw [show coNode (.mk 4 t b [x]) = (decide (b = 0) && decide (t = 0) && groundCo x) by simp [coNode]]
    generalize groundCo x = i2 at hpl ⊢
    repeat' first | ((first | refine aops_end (hK _ ?_) | refine aopsD_end (hK _ ?_) | refine aopsF_end (hK _ ?_)); clear hK K) | ((first | refine aops_go ?_ | refine aopsD_go ?_ | refine aopsF_go ?_ | refine wpcall_pure rfl (hpl) ?_); simp; (try (refine gen2 ?_ ?_ <;> intro hq <;> try simp at hq))) | (refine T.ret (Done.data (Or.inr rfl) ?_ ?_) <;> simp [Tryd.results63, *] <;> omega) | refine T.r0 fun K hK => ?_ | refine T.r1 fun K hK => ?_ | (refine ⟨by omega, ?_⟩) | refine T.ct rfl ?_ | refine T.cf rfl ?_ | refine T.seq ?_ | refine T.block ?_ | refine T.skip ?_ | refine T.exit ?_
   ·subst hk1
    rw [show coNode (.mk 5 t b [x]) = (labM b && decide (t = 0) && (!decide (x.kind = 5) && !(decide (x.kind = 1) && decide (x.tag = 1)))) by simp [coNode, projCo]]
    generalize labM b = i3 at hlab ⊢
    repeat' first | ((first | refine aops_end (hK _ ?_) | refine aopsD_end (hK _ ?_) | refine aopsF_end (hK _ ?_)); clear hK K) | ((first | refine aops_go ?_ | refine aopsD_go ?_ | refine aopsF_go ?_ | refine wpcall_pure rfl (hlab) ?_); simp; (try (refine gen2 ?_ ?_ <;> intro hq <;> try simp at hq))) | (refine T.ret (Done.data (Or.inr rfl) ?_ ?_) <;> simp [Tryd.results63, *] <;> omega) | refine T.r0 fun K hK => ?_ | refine T.r1 fun K hK => ?_ | (refine ⟨by omega, ?_⟩) | refine T.ct rfl ?_ | refine T.cf rfl ?_ | refine T.seq ?_ | refine T.block ?_ | refine T.skip ?_ | refine T.exit ?_
   ·subst hk1
    rw [show coNode (.mk 2 t b [x, y]) = (decide (b = 0) && decide (t = 0)) by simp [coNode]]
    repeat' first | ((first | refine aops_end (hK _ ?_) | refine aopsD_end (hK _ ?_) | refine aopsF_end (hK _ ?_)); clear hK K) | ((first | refine aops_go ?_ | refine aopsD_go ?_ | refine aopsF_go ?_); simp; (try (refine gen2 ?_ ?_ <;> intro hq <;> try simp at hq))) | (refine T.ret (Done.data (Or.inr rfl) ?_ ?_) <;> simp [Tryd.results63, *] <;> omega) | refine T.r0 fun K hK => ?_ | refine T.r1 fun K hK => ?_ | (refine ⟨by omega, ?_⟩) | refine T.ct rfl ?_ | refine T.cf rfl ?_ | refine T.seq ?_ | refine T.block ?_ | refine T.skip ?_ | refine T.exit ?_
   ·subst hk1
    rw [show coNode (.mk 3 t b [x, y]) = (decide (b = 0) && decide (t = 0)) by simp [coNode]]
    repeat' first | ((first | refine aops_end (hK _ ?_) | refine aopsD_end (hK _ ?_) | refine aopsF_end (hK _ ?_)); clear hK K) | ((first | refine aops_go ?_ | refine aopsD_go ?_ | refine aopsF_go ?_); simp; (try (refine gen2 ?_ ?_ <;> intro hq <;> try simp at hq))) | (refine T.ret (Done.data (Or.inr rfl) ?_ ?_) <;> simp [Tryd.results63, *] <;> omega) | refine T.r0 fun K hK => ?_ | refine T.r1 fun K hK => ?_ | (refine ⟨by omega, ?_⟩) | refine T.ct rfl ?_ | refine T.cf rfl ?_ | refine T.seq ?_ | refine T.block ?_ | refine T.skip ?_ | refine T.exit ?_

theorem CoercionValidS_ok (c : MCo) (hn : nCo c <= 1099511627776) : ACalls Tryd.prog 38 [aCo c] [] (.b (shapeCo 9 c)) [] [] := by
 have h := l6Shape_ok 9 c (by omega) hn
 generalize shapeCo 9 c = q at h ⊢
 refine ACalls.of_body Tryd.func38 (by kernel_rfl) rfl (by kernel_rfl) (by simp [Tryd.ntmps38]) (by simp) ?_
 rw [Tryd.ntmps38]
 repeat' first | ((first | refine aops_end (hK _ ?_) | refine aopsD_end (hK _ ?_) | refine aopsF_end (hK _ ?_)); clear hK K) | ((first | refine aops_go ?_ | refine aopsD_go ?_ | refine aopsF_go ?_ | refine wpcall_pure rfl (h) ?_); simp; (try (refine gen2 ?_ ?_ <;> intro hq <;> try simp at hq))) | (refine T.ret (Done.data (Or.inr rfl) ?_ ?_) <;> simp [Tryd.results38] <;> omega) | refine T.r0 fun K hK => ?_ | refine T.r1 fun K hK => ?_ | (refine ⟨by omega, ?_⟩) | refine T.ct rfl ?_ | refine T.cf rfl ?_ | refine T.seq ?_ | refine T.block ?_ | refine T.skip ?_ | refine T.exit ?_
end Go.Proofs.YtcgmmknfpfdghaaDoor

namespace Go.Proofs.YtcgmmknfpfdghaaDoor
attribute [-simp] Go.Av.MCo.kind_mk Go.Av.MCo.tag_mk Go.Av.MCo.label_mk Go.Av.MCo.kids_mk Go.Av.astepJ Go.Av.relC Go.Av.relL Go.Av.relV Go.Av.relVs Go.Av.callJ Go.Av.IT.kind_v Go.Av.IT.kind_b Go.Av.IT.kind_p Go.Av.IT.name_v Go.Av.IT.name_b Go.Av.IT.name_p Go.Av.IT.kids_v Go.Av.IT.kids_b Go.Av.IT.kids_p Go.Av.eIT_len
open Go Go.Av
attribute [local irreducible] T ACalls TX EX LX Draws Some_ ACallsX eTy eTm MTy.kind MTy.kids MTm.kind MTm.name MTm.num MTm.ty MTm.fr MTm.label MTm.kids
attribute [local simp] eTy_def eTm_def
set_option maxHeartbeats 16000000
set_option maxRecDepth 8000
def itoaRen : Go.Shelf.Ren := ⟨fun n => match n with | 129 => 109 | 171 => 47 | 243 => 71 | 246 => 87 | 283 => 100 | 284 => 101 | 285 => 102 | 286 => 103 | 317 => 108 | 318 => 110 | 319 => 111 | 320 => 112 | 337 => 113 | 338 => 114 | _ => 0, fun n => match n with | 0 => 0 | 2 => 2 | 3 => 3 | 4 => 4 | 5 => 5 | 9 => 9 | 20 => 20 | 37 => 78 | 46 => 101 | 51 => 116 | 53 => 102 | 171 => 111 | 173 => 114 | 212 => 124 | 213 => 125 | 232 => 132 | 233 => 133 | _ => 0, fun n => match n with | 17 => 3 | 18 => 6 | 19 => 7 | _ => 0⟩
theorem itoaLays : Go.Proofs.LaysM.n171 Tryd.prog itoaRen where
 mixed := mixed
 f129 := by kernel_rfl
 f171 := by kernel_rfl
 f243 := by kernel_rfl
 f246 := by kernel_rfl
 f283 := by kernel_rfl
 f284 := by kernel_rfl
 f285 := by kernel_rfl
 f286 := by kernel_rfl
 f317 := by kernel_rfl
 f318 := by kernel_rfl
 f319 := by kernel_rfl
 f320 := by kernel_rfl
 f337 := by kernel_rfl
 f338 := by kernel_rfl
 t0 := by kernel_rfl
 a0 := by intro w; kernel_rfl
 z0 := by intro w; kernel_rfl
 v0 := by intro w; kernel_rfl
 t2 := by kernel_rfl
 a2 := by intro w; kernel_rfl
 z2 := by intro w; kernel_rfl
 v2 := by intro w; kernel_rfl
 t3 := by kernel_rfl
 a3 := by intro w; kernel_rfl
 z3 := by intro w; kernel_rfl
 v3 := by intro w; kernel_rfl
 t4 := by kernel_rfl
 a4 := by intro w; kernel_rfl
 z4 := by intro w; kernel_rfl
 v4 := by intro w; kernel_rfl
 t5 := by kernel_rfl
 a5 := by intro w; kernel_rfl
 z5 := by intro w; kernel_rfl
 v5 := by intro w; kernel_rfl
 t9 := by kernel_rfl
 a9 := by intro w; kernel_rfl
 z9 := by intro w; kernel_rfl
 v9 := by intro w; kernel_rfl
 t20 := by kernel_rfl
 a20 := by intro w; kernel_rfl
 z20 := by intro w; kernel_rfl
 v20 := by intro w; kernel_rfl
 t37 := by kernel_rfl
 a37 := by intro w; kernel_rfl
 z37 := by intro w; kernel_rfl
 v37 := by intro w; kernel_rfl
 t46 := by kernel_rfl
 a46 := by intro w; kernel_rfl
 z46 := by intro w; kernel_rfl
 v46 := by intro w; kernel_rfl
 t51 := by kernel_rfl
 a51 := by intro w; kernel_rfl
 z51 := by intro w; kernel_rfl
 v51 := by intro w; kernel_rfl
 t53 := by kernel_rfl
 a53 := by intro w; kernel_rfl
 z53 := by intro w; kernel_rfl
 v53 := by intro w; kernel_rfl
 t171 := by kernel_rfl
 a171 := by intro w; kernel_rfl
 z171 := by intro w; kernel_rfl
 v171 := by intro w; kernel_rfl
 t173 := by kernel_rfl
 a173 := by intro w; kernel_rfl
 z173 := by intro w; kernel_rfl
 v173 := by intro w; kernel_rfl
 t212 := by kernel_rfl
 a212 := by intro w; kernel_rfl
 z212 := by intro w; kernel_rfl
 v212 := by intro w; kernel_rfl
 t213 := by kernel_rfl
 a213 := by intro w; kernel_rfl
 z213 := by intro w; kernel_rfl
 t232 := by kernel_rfl
 a232 := by intro w; kernel_rfl
 z232 := by intro w; kernel_rfl
 v232 := by intro w; kernel_rfl
 t233 := by kernel_rfl
 a233 := by intro w; kernel_rfl
 z233 := by intro w; kernel_rfl
 v233 := by intro w; kernel_rfl
 g17 := by kernel_rfl
 g18 := by kernel_rfl
 g19 := by kernel_rfl
 i0 := by kernel_rfl
 i2 := by kernel_rfl
 i3 := by kernel_rfl
 i4 := by kernel_rfl
 i5 := by kernel_rfl
 i9 := by kernel_rfl
 i20 := by kernel_rfl
 i37 := by kernel_rfl
 i46 := by kernel_rfl
 i51 := by kernel_rfl
 i53 := by kernel_rfl
 i171 := by kernel_rfl
 i173 := by kernel_rfl
 i212 := by kernel_rfl
 i232 := by kernel_rfl
 i233 := by kernel_rfl
 m17 := by kernel_rfl
 m18 := by kernel_rfl
 m19 := by kernel_rfl
theorem Itoa_ok (n : Int) (h0 : -9223372036854775808 <= n) (h1 : n <= 9223372036854775807) : ACalls Tryd.prog 47 [.i n] [] (.s (Lib.itoa n)) [] [] :=
 itoa_contract (ρ := itoaRen) itoaLays (enters Tryd.func47 (by kernel_rfl) rfl) (k := 3) rfl (by kernel_rfl) n h0 h1
end Go.Proofs.YtcgmmknfpfdghaaDoor

namespace Go.Proofs.YtcgmmknfpfdghaaDoor
attribute [-simp] Go.Av.MCo.kind_mk Go.Av.MCo.tag_mk Go.Av.MCo.label_mk Go.Av.MCo.kids_mk Go.Av.astepJ Go.Av.relC Go.Av.relL Go.Av.relV Go.Av.relVs Go.Av.callJ Go.Av.IT.kind_v Go.Av.IT.kind_b Go.Av.IT.kind_p Go.Av.IT.name_v Go.Av.IT.name_b Go.Av.IT.name_p Go.Av.IT.kids_v Go.Av.IT.kids_b Go.Av.IT.kids_p Go.Av.eIT_len
open Go Go.Av
attribute [local irreducible] T ACalls TX EX LX Draws Some_ ACallsX eTy eTm MTy.kind MTy.kids MTm.kind MTm.name MTm.num MTm.ty MTm.fr MTm.label MTm.kids
attribute [local simp] eTy_def eTm_def
set_option maxHeartbeats 16000000
set_option maxRecDepth 8000

theorem sign_ok {k : Int} (h1 : 1 <= k) (h5 : k <= 5) : ACalls Tryd.prog 46 [.i k] [] (.s [signB k]) [] [] := by
 have hk : k = 1 \/ k = 2 \/ k = 3 \/ k = 4 \/ k = 5 := by omega
 have hw : ∀ z : Int, 0 <= z -> z <= 5 -> IntKind.i64.wrap z = z := fun z h1 h2 => wrap64 (by omega) (by omega)
 have w0 := hw 0 (by omega) (by omega)
 have w1 := hw 1 (by omega) (by omega)
 have w2 := hw 2 (by omega) (by omega)
 have w3 := hw 3 (by omega) (by omega)
 have w4 := hw 4 (by omega) (by omega)
 have w5 := hw 5 (by omega) (by omega)
 rcases hk with rfl | rfl | rfl | rfl | rfl
 ·refine ACalls.of_body Tryd.func46 (by kernel_rfl) rfl (by kernel_rfl) (by simp [Tryd.ntmps46]) (by simp) ?_
  rw [Tryd.ntmps46]
  repeat' first | ((first | refine aops_end (hK _ ?_) | refine aopsD_end (hK _ ?_) | refine aopsF_end (hK _ ?_)); clear hK K) | ((first | refine aops_go ?_ | refine aopsD_go ?_ | refine aopsF_go ?_); simp [w0, w1, w2, w3, w4, w5]; (try (refine gen2 ?_ ?_ <;> intro hq <;> try simp [w0, w1, w2, w3, w4, w5] at hq))) | (refine T.ret (Done.data (Or.inr rfl) ?_ ?_) <;> simp [Tryd.results46, signB] <;> omega) | refine T.r0 fun K hK => ?_ | refine T.r1 fun K hK => ?_ | (refine ⟨by omega, ?_⟩) | refine T.ct rfl ?_ | refine T.cf rfl ?_ | refine T.seq ?_ | refine T.block ?_ | refine T.skip ?_ | refine T.exit ?_
 ·refine ACalls.of_body Tryd.func46 (by kernel_rfl) rfl (by kernel_rfl) (by simp [Tryd.ntmps46]) (by simp) ?_
  rw [Tryd.ntmps46]
  repeat' first | ((first | refine aops_end (hK _ ?_) | refine aopsD_end (hK _ ?_) | refine aopsF_end (hK _ ?_)); clear hK K) | ((first | refine aops_go ?_ | refine aopsD_go ?_ | refine aopsF_go ?_); simp [w0, w1, w2, w3, w4, w5]; (try (refine gen2 ?_ ?_ <;> intro hq <;> try simp [w0, w1, w2, w3, w4, w5] at hq))) | (refine T.ret (Done.data (Or.inr rfl) ?_ ?_) <;> simp [Tryd.results46, signB] <;> omega) | refine T.r0 fun K hK => ?_ | refine T.r1 fun K hK => ?_ | (refine ⟨by omega, ?_⟩) | refine T.ct rfl ?_ | refine T.cf rfl ?_ | refine T.seq ?_ | refine T.block ?_ | refine T.skip ?_ | refine T.exit ?_
 ·refine ACalls.of_body Tryd.func46 (by kernel_rfl) rfl (by kernel_rfl) (by simp [Tryd.ntmps46]) (by simp) ?_
  rw [Tryd.ntmps46]
  repeat' first | ((first | refine aops_end (hK _ ?_) | refine aopsD_end (hK _ ?_) | refine aopsF_end (hK _ ?_)); clear hK K) | ((first | refine aops_go ?_ | refine aopsD_go ?_ | refine aopsF_go ?_); simp [w0, w1, w2, w3, w4, w5]; (try (refine gen2 ?_ ?_ <;> intro hq <;> try simp [w0, w1, w2, w3, w4, w5] at hq))) | (refine T.ret (Done.data (Or.inr rfl) ?_ ?_) <;> simp [Tryd.results46, signB] <;> omega) | refine T.r0 fun K hK => ?_ | refine T.r1 fun K hK => ?_ | (refine ⟨by omega, ?_⟩) | refine T.ct rfl ?_ | refine T.cf rfl ?_ | refine T.seq ?_ | refine T.block ?_ | refine T.skip ?_ | refine T.exit ?_
 ·refine ACalls.of_body Tryd.func46 (by kernel_rfl) rfl (by kernel_rfl) (by simp [Tryd.ntmps46]) (by simp) ?_
  rw [Tryd.ntmps46]
  repeat' first | ((first | refine aops_end (hK _ ?_) | refine aopsD_end (hK _ ?_) | refine aopsF_end (hK _ ?_)); clear hK K) | ((first | refine aops_go ?_ | refine aopsD_go ?_ | refine aopsF_go ?_); simp [w0, w1, w2, w3, w4, w5]; (try (refine gen2 ?_ ?_ <;> intro hq <;> try simp [w0, w1, w2, w3, w4, w5] at hq))) | (refine T.ret (Done.data (Or.inr rfl) ?_ ?_) <;> simp [Tryd.results46, signB] <;> omega) | refine T.r0 fun K hK => ?_ | refine T.r1 fun K hK => ?_ | (refine ⟨by omega, ?_⟩) | refine T.ct rfl ?_ | refine T.cf rfl ?_ | refine T.seq ?_ | refine T.block ?_ | refine T.skip ?_ | refine T.exit ?_
 ·refine ACalls.of_body Tryd.func46 (by kernel_rfl) rfl (by kernel_rfl) (by simp [Tryd.ntmps46]) (by simp) ?_
  rw [Tryd.ntmps46]
  repeat' first | ((first | refine aops_end (hK _ ?_) | refine aopsD_end (hK _ ?_) | refine aopsF_end (hK _ ?_)); clear hK K) | ((first | refine aops_go ?_ | refine aopsD_go ?_ | refine aopsF_go ?_); simp [w0, w1, w2, w3, w4, w5]; (try (refine gen2 ?_ ?_ <;> intro hq <;> try simp [w0, w1, w2, w3, w4, w5] at hq))) | (refine T.ret (Done.data (Or.inr rfl) ?_ ?_) <;> simp [Tryd.results46, signB] <;> omega) | refine T.r0 fun K hK => ?_ | refine T.r1 fun K hK => ?_ | (refine ⟨by omega, ?_⟩) | refine T.ct rfl ?_ | refine T.cf rfl ?_ | refine T.seq ?_ | refine T.block ?_ | refine T.skip ?_ | refine T.exit ?_

@[simp] theorem td_u8x : td Tryd.prog 5 = some { ag := false, sz := 1, by_ := 1, zero := some [.d (.int .u8 0)], el := none, ar := none, fl := [], ik := some .u8, isS := false, isB := false } := keep (by kernel_rfl)
@[simp] theorem td_u8Sx : td Tryd.prog 78 = some { ag := false, sz := 1, by_ := 24, zero := some [.nil], el := some 5, ar := none, fl := [], ik := none, isS := false, isB := false } := keep (by kernel_rfl)
theorem l18DecN_ok (n : Nat) (hn : n <= 1099511627776) : ACalls Tryd.prog 51 [.i n] [] (.s (Lib.decDigits n)) [] [] := by
 have hlo : ¬ (n : Int) < -9223372036854775807 := by omega
 have hn0 : ¬ (n : Int) < 0 := by omega
 refine ACalls.of_body Tryd.func51 (by kernel_rfl) rfl (by kernel_rfl) (by simp [Tryd.ntmps51]) (by simp) ?_
 rw [Tryd.ntmps51]
 repeat' first | ((first | refine aops_end (hK _ ?_) | refine aopsD_end (hK _ ?_) | refine aopsF_end (hK _ ?_)); clear hK K) | ((first | refine aops_go ?_ | refine aopsD_go ?_ | refine aopsF_go ?_); simp [hlo, hn0]; (try (refine gen2 ?_ ?_ <;> intro hq <;> (try simp [hlo, hn0] at hq) <;> try (have : True := hq; clear this hq)))) | refine T.r0 fun K hK => ?_ | refine T.r1 fun K hK => ?_ | (refine ⟨by omega, ?_⟩) | refine T.ct rfl ?_ | refine T.cf rfl ?_ | refine T.seq ?_ | refine T.block ?_ | refine T.skip ?_ | refine T.exit ?_
 refine T.loopK (α := Nat × List UInt8) [2] (fun x => [(0, .i x.1), (3, .s x.2)]) (fun x => []) (fun x => []) (fun x A => A) (fun x => x.1 + 1) (fun x => Lib.decDigits x.1 ++ x.2 = Lib.decDigits n /\ x.1 <= n /\ x.2.length + x.1 <= n) (by simp; rfl) (fun x hx => ?_) (n, []) (by simp) (by simp) (by simp) (by simp)
 obtain ⟨m, out⟩ := x
 obtain ⟨h1, h2, h3⟩ := hx
 dsimp only at h1 h2 h3 ⊢
 simp only [ups, List.set_cons_zero, List.set_cons_succ, List.cons_append, List.nil_append, List.append_nil]
 have key : ∀ k : Nat, k <= 9 -> ∃ z : Int, IntKind.i64.wrap (48 + (k : Int)) = z /\ IntKind.u8.wrap z = z /\ 0 <= z /\ z < 256 /\ UInt8.ofNat z.toNat = UInt8.ofNat (48 + k) := fun k hk => by
  refine ⟨((48 + k : Nat) : Int), ?_, wrap8 (by omega), by omega, by omega, by rw [Int.toNat_natCast]⟩
  rw [wrap64 (by omega) (by omega)]; omega
 by_cases hlt : 9 < m
 ·have hlt' : (9 : Int) < (m : Int) := by omega
  obtain ⟨q, hq⟩ : ∃ q, m / 10 = q := ⟨_, rfl⟩
  obtain ⟨r, hr⟩ : ∃ r, m % 10 = r := ⟨_, rfl⟩
  have hr9 : r <= 9 := by omega
  obtain ⟨z, z1, z2, z3, z4, z5⟩ := key r hr9
  have e1 : (m : Int).tmod 10 = (r : Int) := by rw [Int.tmod_eq_emod_of_nonneg (by omega)]; omega
  have e2 : (m : Int).tdiv 10 = (q : Int) := by rw [Int.tdiv_eq_ediv_of_nonneg (by omega)]; omega
  have hstep := decDigits_step hlt
  rw [hq, hr] at hstep
  rw [hstep] at h1
  obtain ⟨c, hc⟩ : ∃ c, UInt8.ofNat (48 + r) = c := ⟨_, rfl⟩
  rw [hc] at h1 z5
  repeat' first | ((first | refine aops_end (hK _ ?_) | refine aopsD_end (hK _ ?_) | refine aopsF_end (hK _ ?_)); clear hK K) | ((first | refine aops_go ?_ | refine aopsD_go ?_ | refine aopsF_go ?_); simp [hlt', hlt, e1, e2, z1, z2, z3, z4, z5, bytesOf, byteOfRow]; (try simp (disch := omega) only [wrap64, catLe]); (try (refine gen2 ?_ ?_ <;> intro hq <;> (try simp [hlt', hlt, e1, e2, z1, z2, z3, z4, z5, bytesOf, byteOfRow] at hq) <;> try (have : True := hq; clear this hq)))) | refine T.r0 fun K hK => ?_ | refine T.r1 fun K hK => ?_ | (refine ⟨by omega, ?_⟩) | refine T.ct rfl ?_ | refine T.cf rfl ?_ | refine T.seq ?_ | refine T.block ?_ | refine T.skip ?_ | refine T.exit ?_
  refine ⟨(q, c :: out), by dsimp only; omega, ⟨by simpa using h1, by dsimp only; omega, by simp only [List.length_cons]; omega⟩, rfl, ?_, ?_⟩ <;> simp [e2, hlt']
 ·have hlt' : ¬ (9 : Int) < (m : Int) := by omega
  obtain ⟨z, z1, z2, z3, z4, z5⟩ := key m (by omega)
  rw [decDigits_small (by omega)] at h1
  obtain ⟨c, hc⟩ : ∃ c, UInt8.ofNat (48 + m) = c := ⟨_, rfl⟩
  rw [hc] at h1 z5
  repeat' first | ((first | refine aops_end (hK _ ?_) | refine aopsD_end (hK _ ?_) | refine aopsF_end (hK _ ?_)); clear hK K) | ((first | refine aops_go ?_ | refine aopsD_go ?_ | refine aopsF_go ?_); simp [hlt', hlt, z1, z2, z3, z4, z5, bytesOf, byteOfRow]; (try simp (disch := omega) only [wrap64, catLe]); (try (refine gen2 ?_ ?_ <;> intro hq <;> (try simp [hlt', hlt, z1, z2, z3, z4, z5, bytesOf, byteOfRow] at hq) <;> try (have : True := hq; clear this hq)))) | (refine T.ret (Done.data (Or.inr rfl) ?_ ?_) <;> simp [Tryd.results51, <- h1] <;> omega) | refine T.r0 fun K hK => ?_ | refine T.r1 fun K hK => ?_ | (refine ⟨by omega, ?_⟩) | refine T.ct rfl ?_ | refine T.cf rfl ?_ | refine T.seq ?_ | refine T.block ?_ | refine T.skip ?_ | refine T.exit ?_

end Go.Proofs.YtcgmmknfpfdghaaDoor

namespace Go.Proofs.YtcgmmknfpfdghaaDoor
attribute [-simp] Go.Av.astepJ Go.Av.relC Go.Av.relL Go.Av.relV Go.Av.relVs Go.Av.callJ Go.Av.IT.kind_v Go.Av.IT.kind_b Go.Av.IT.kind_p Go.Av.IT.name_v Go.Av.IT.name_b Go.Av.IT.name_p Go.Av.IT.kids_v Go.Av.IT.kids_b Go.Av.IT.kids_p Go.Av.eIT_len
open Go Go.Av
attribute [local irreducible] T ACalls TX EX LX Draws Some_ ACallsX eTy eTm MTy.kind MTy.kids MTm.kind MTm.name MTm.num MTm.ty MTm.fr MTm.label MTm.kids
attribute [local simp] eTy_def eTm_def
set_option maxHeartbeats 16000000
set_option maxRecDepth 8000
attribute [local irreducible] eCo MCo.kind MCo.tag MCo.label MCo.kids
attribute [local simp] eCo_def

theorem l6Letter_ok {k : Int} (h1 : 1 <= k) (h5 : k <= 5) : ACalls Tryd.prog 62 [.i k] [] (.s [signB k]) [] [] := by
 have hk : k = 1 \/ k = 2 \/ k = 3 \/ k = 4 \/ k = 5 := by omega
 have hw : ∀ z : Int, 0 <= z -> z <= 7 -> IntKind.i64.wrap z = z := fun z h1 h2 => wrap64 (by omega) (by omega)
 have w2 := hw 2 (by omega) (by omega)
 have w3 := hw 3 (by omega) (by omega)
 have w4 := hw 4 (by omega) (by omega)
 have w5 := hw 5 (by omega) (by omega)
 have w6 := hw 6 (by omega) (by omega)
 have w7 := hw 7 (by omega) (by omega)
 rcases hk with rfl | rfl | rfl | rfl | rfl
 ·refine ACalls.of_body Tryd.func62 (by kernel_rfl) rfl (by kernel_rfl) (by simp [Tryd.ntmps62]) (by simp) ?_
  rw [Tryd.ntmps62]
  repeat' first | ((first | refine aops_end (hK _ ?_) | refine aopsD_end (hK _ ?_) | refine aopsF_end (hK _ ?_)); clear hK K) | ((first | refine aops_go ?_ | refine aopsD_go ?_ | refine aopsF_go ?_); simp [w2, w3, w4, w5, w6, w7]; (try (refine gen2 ?_ ?_ <;> intro hq <;> try simp [w2, w3, w4, w5, w6, w7] at hq))) | (refine T.ret (Done.data (Or.inr rfl) ?_ ?_) <;> simp [Tryd.results62, signB] <;> omega) | refine T.r0 fun K hK => ?_ | refine T.r1 fun K hK => ?_ | (refine ⟨by omega, ?_⟩) | refine T.ct rfl ?_ | refine T.cf rfl ?_ | refine T.seq ?_ | refine T.block ?_ | refine T.skip ?_ | refine T.exit ?_
 ·refine ACalls.of_body Tryd.func62 (by kernel_rfl) rfl (by kernel_rfl) (by simp [Tryd.ntmps62]) (by simp) ?_
  rw [Tryd.ntmps62]
  repeat' first | ((first | refine aops_end (hK _ ?_) | refine aopsD_end (hK _ ?_) | refine aopsF_end (hK _ ?_)); clear hK K) | ((first | refine aops_go ?_ | refine aopsD_go ?_ | refine aopsF_go ?_); simp [w2, w3, w4, w5, w6, w7]; (try (refine gen2 ?_ ?_ <;> intro hq <;> try simp [w2, w3, w4, w5, w6, w7] at hq))) | (refine T.ret (Done.data (Or.inr rfl) ?_ ?_) <;> simp [Tryd.results62, signB] <;> omega) | refine T.r0 fun K hK => ?_ | refine T.r1 fun K hK => ?_ | (refine ⟨by omega, ?_⟩) | refine T.ct rfl ?_ | refine T.cf rfl ?_ | refine T.seq ?_ | refine T.block ?_ | refine T.skip ?_ | refine T.exit ?_
 ·refine ACalls.of_body Tryd.func62 (by kernel_rfl) rfl (by kernel_rfl) (by simp [Tryd.ntmps62]) (by simp) ?_
  rw [Tryd.ntmps62]
  repeat' first | ((first | refine aops_end (hK _ ?_) | refine aopsD_end (hK _ ?_) | refine aopsF_end (hK _ ?_)); clear hK K) | ((first | refine aops_go ?_ | refine aopsD_go ?_ | refine aopsF_go ?_); simp [w2, w3, w4, w5, w6, w7]; (try (refine gen2 ?_ ?_ <;> intro hq <;> try simp [w2, w3, w4, w5, w6, w7] at hq))) | (refine T.ret (Done.data (Or.inr rfl) ?_ ?_) <;> simp [Tryd.results62, signB] <;> omega) | refine T.r0 fun K hK => ?_ | refine T.r1 fun K hK => ?_ | (refine ⟨by omega, ?_⟩) | refine T.ct rfl ?_ | refine T.cf rfl ?_ | refine T.seq ?_ | refine T.block ?_ | refine T.skip ?_ | refine T.exit ?_
 ·refine ACalls.of_body Tryd.func62 (by kernel_rfl) rfl (by kernel_rfl) (by simp [Tryd.ntmps62]) (by simp) ?_
  rw [Tryd.ntmps62]
  repeat' first | ((first | refine aops_end (hK _ ?_) | refine aopsD_end (hK _ ?_) | refine aopsF_end (hK _ ?_)); clear hK K) | ((first | refine aops_go ?_ | refine aopsD_go ?_ | refine aopsF_go ?_); simp [w2, w3, w4, w5, w6, w7]; (try (refine gen2 ?_ ?_ <;> intro hq <;> try simp [w2, w3, w4, w5, w6, w7] at hq))) | (refine T.ret (Done.data (Or.inr rfl) ?_ ?_) <;> simp [Tryd.results62, signB] <;> omega) | refine T.r0 fun K hK => ?_ | refine T.r1 fun K hK => ?_ | (refine ⟨by omega, ?_⟩) | refine T.ct rfl ?_ | refine T.cf rfl ?_ | refine T.seq ?_ | refine T.block ?_ | refine T.skip ?_ | refine T.exit ?_
 ·refine ACalls.of_body Tryd.func62 (by kernel_rfl) rfl (by kernel_rfl) (by simp [Tryd.ntmps62]) (by simp) ?_
  rw [Tryd.ntmps62]
  repeat' first | ((first | refine aops_end (hK _ ?_) | refine aopsD_end (hK _ ?_) | refine aopsF_end (hK _ ?_)); clear hK K) | ((first | refine aops_go ?_ | refine aopsD_go ?_ | refine aopsF_go ?_); simp [w2, w3, w4, w5, w6, w7]; (try (refine gen2 ?_ ?_ <;> intro hq <;> try simp [w2, w3, w4, w5, w6, w7] at hq))) | (refine T.ret (Done.data (Or.inr rfl) ?_ ?_) <;> simp [Tryd.results62, signB] <;> omega) | refine T.r0 fun K hK => ?_ | refine T.r1 fun K hK => ?_ | (refine ⟨by omega, ?_⟩) | refine T.ct rfl ?_ | refine T.cf rfl ?_ | refine T.seq ?_ | refine T.block ?_ | refine T.skip ?_ | refine T.exit ?_

theorem tag2_ok (k : Int) (x y : MCo) (hk : k = 2 \/ k = 3) : ACalls Tryd.prog 48 [aCo (cTwo k x y)] [] (.i (if k = 2 then 4 else 5)) [] [] := by
 rcases hk with rfl | rfl
 ·refine ACalls.of_body Tryd.func48 (by kernel_rfl) rfl (by kernel_rfl) (by simp [Tryd.ntmps48]) (by simp) ?_
  rw [Tryd.ntmps48]
  repeat' first | ((first | refine aops_end (hK _ ?_) | refine aopsD_end (hK _ ?_) | refine aopsF_end (hK _ ?_)); clear hK K) | ((first | refine aops_go ?_ | refine aopsD_go ?_ | refine aopsF_go ?_); simp; (try (refine gen2 ?_ ?_ <;> intro hq <;> try simp at hq))) | (refine T.ret (Done.data (Or.inr rfl) ?_ ?_) <;> simp [Tryd.results48] <;> omega) | refine T.r0 fun K hK => ?_ | refine T.r1 fun K hK => ?_ | (refine ⟨by omega, ?_⟩) | refine T.ct rfl ?_ | refine T.cf rfl ?_ | refine T.seq ?_ | refine T.block ?_ | refine T.skip ?_ | refine T.exit ?_
 ·refine ACalls.of_body Tryd.func48 (by kernel_rfl) rfl (by kernel_rfl) (by simp [Tryd.ntmps48]) (by simp) ?_
  rw [Tryd.ntmps48]
  repeat' first | ((first | refine aops_end (hK _ ?_) | refine aopsD_end (hK _ ?_) | refine aopsF_end (hK _ ?_)); clear hK K) | ((first | refine aops_go ?_ | refine aopsD_go ?_ | refine aopsF_go ?_); simp; (try (refine gen2 ?_ ?_ <;> intro hq <;> try simp at hq))) | (refine T.ret (Done.data (Or.inr rfl) ?_ ?_) <;> simp [Tryd.results48] <;> omega) | refine T.r0 fun K hK => ?_ | refine T.r1 fun K hK => ?_ | (refine ⟨by omega, ?_⟩) | refine T.ct rfl ?_ | refine T.cf rfl ?_ | refine T.seq ?_ | refine T.block ?_ | refine T.skip ?_ | refine T.exit ?_

theorem coText_ok {d : Nat} {c : MCo} (h : CoV d c) (hd : d <= 24) : ACalls Tryd.prog 20 [aCo c] [] (.s (coTextF d c)) [] [] := by
 induction h with
 | @id d t h1 h2 =>
  have k1 := sign_ok (k := t) (by omega) (by omega)
  rw [coTextF_id]
  generalize signB t = z at k1 ⊢
  refine ACalls.of_body Tryd.func20 (by kernel_rfl) rfl (by kernel_rfl) (by simp [Tryd.ntmps20]) (by simp) ?_
  rw [Tryd.ntmps20]
  repeat' first | ((first | refine aops_end (hK _ ?_) | refine aopsD_end (hK _ ?_) | refine aopsF_end (hK _ ?_)); clear hK K) | ((first | refine aops_go ?_ | refine aopsD_go ?_ | refine aopsF_go ?_ | refine wpcall_pure rfl (k1) ?_); simp; (try (refine gen2 ?_ ?_ <;> intro hq <;> try simp at hq))) | (refine T.ret (Done.data (Or.inr rfl) ?_ ?_) <;> simp [Tryd.results20] <;> omega) | refine T.rd (id := 7) mixed (fun _ => false) [] (by kernel_rfl) fun K hK => ?_ | refine T.rd1 (id := 7) mixed (fun _ => false) [] (by kernel_rfl) fun K hK => ?_ | refine T.rd (id := 9) mixed (fun _ => false) [] (by kernel_rfl) fun K hK => ?_ | refine T.rd1 (id := 9) mixed (fun _ => false) [] (by kernel_rfl) fun K hK => ?_ | refine T.rd (id := 10) mixed (fun _ => false) [] (by kernel_rfl) fun K hK => ?_ | refine T.rd1 (id := 10) mixed (fun _ => false) [] (by kernel_rfl) fun K hK => ?_ | refine T.r0 fun K hK => ?_ | refine T.r1 fun K hK => ?_ | (refine ⟨by omega, ?_⟩) | refine T.ct rfl ?_ | refine T.cf rfl ?_ | refine T.seq ?_ | refine T.block ?_ | refine T.skip ?_ | refine T.exit ?_
 | @fail d b t hb h1 h2 =>
  have k1 := sign_ok (k := t) (by omega) (by omega)
  have hlb := lab_bound hb
  have k2 := Itoa_ok b (by omega) (by omega)
  have la := itoa_len_le (n := b) (by omega) (by omega)
  rw [coTextF_fail]
  generalize signB t = z at k1 ⊢
  generalize Lib.itoa b = A at *
  refine ACalls.of_body Tryd.func20 (by kernel_rfl) rfl (by kernel_rfl) (by simp [Tryd.ntmps20]) (by simp) ?_
  rw [Tryd.ntmps20]
  repeat' first | ((first | refine aops_end (hK _ ?_) | refine aopsD_end (hK _ ?_) | refine aopsF_end (hK _ ?_)); clear hK K) | ((first | refine aops_go ?_ | refine aopsD_go ?_ | refine aopsF_go ?_ | refine wpcall_pure rfl (k1) ?_ | refine wpcall_pure rfl (k2) ?_); simp; (try simp (disch := omega) only [wrap64, catLe]); (try (refine gen2 ?_ ?_ <;> intro hq <;> try simp at hq))) | (refine T.ret (Done.data (Or.inr rfl) ?_ ?_) <;> simp [Tryd.results20] <;> omega) | refine T.rd (id := 7) mixed (fun _ => false) [] (by kernel_rfl) fun K hK => ?_ | refine T.rd1 (id := 7) mixed (fun _ => false) [] (by kernel_rfl) fun K hK => ?_ | refine T.rd (id := 9) mixed (fun _ => false) [] (by kernel_rfl) fun K hK => ?_ | refine T.rd1 (id := 9) mixed (fun _ => false) [] (by kernel_rfl) fun K hK => ?_ | refine T.rd (id := 10) mixed (fun _ => false) [] (by kernel_rfl) fun K hK => ?_ | refine T.rd1 (id := 10) mixed (fun _ => false) [] (by kernel_rfl) fun K hK => ?_ | refine T.r0 fun K hK => ?_ | refine T.r1 fun K hK => ?_ | (refine ⟨by omega, ?_⟩) | refine T.ct rfl ?_ | refine T.cf rfl ?_ | refine T.seq ?_ | refine T.block ?_ | refine T.skip ?_ | refine T.exit ?_
 | @inj d x hx hg ih =>
  replace ih := ih (by omega)
  have la := coTextF_le hx (by omega)
  rw [coTextF_inj]
  generalize coTextF d x = A at *
  refine ACalls.of_body Tryd.func20 (by kernel_rfl) rfl (by kernel_rfl) (by simp [Tryd.ntmps20]) (by simp) ?_
  rw [Tryd.ntmps20]
  repeat' first | ((first | refine aops_end (hK _ ?_) | refine aopsD_end (hK _ ?_) | refine aopsF_end (hK _ ?_)); clear hK K) | ((first | refine aops_go ?_ | refine aopsD_go ?_ | refine aopsF_go ?_ | refine wpcall_pure rfl (ih) ?_); simp; (try simp (disch := omega) only [wrap64, catLe]); (try (refine gen2 ?_ ?_ <;> intro hq <;> try simp at hq))) | (refine T.ret (Done.data (Or.inr rfl) ?_ ?_) <;> simp [Tryd.results20] <;> omega) | refine T.rd (id := 7) mixed (fun _ => false) [] (by kernel_rfl) fun K hK => ?_ | refine T.rd1 (id := 7) mixed (fun _ => false) [] (by kernel_rfl) fun K hK => ?_ | refine T.rd (id := 9) mixed (fun _ => false) [] (by kernel_rfl) fun K hK => ?_ | refine T.rd1 (id := 9) mixed (fun _ => false) [] (by kernel_rfl) fun K hK => ?_ | refine T.rd (id := 10) mixed (fun _ => false) [] (by kernel_rfl) fun K hK => ?_ | refine T.rd1 (id := 10) mixed (fun _ => false) [] (by kernel_rfl) fun K hK => ?_ | refine T.r0 fun K hK => ?_ | refine T.r1 fun K hK => ?_ | (refine ⟨by omega, ?_⟩) | refine T.ct rfl ?_ | refine T.cf rfl ?_ | refine T.seq ?_ | refine T.block ?_ | refine T.skip ?_ | refine T.exit ?_
 | @proj d b x hb hx hg ih =>
  replace ih := ih (by omega)
  have hlb := lab_bound hb
  have k2 := Itoa_ok b (by omega) (by omega)
  have lb := itoa_len_le (n := b) (by omega) (by omega)
  have la := coTextF_le hx (by omega)
  rw [coTextF_proj]
  generalize coTextF d x = A at *
  generalize Lib.itoa b = B at *
  refine ACalls.of_body Tryd.func20 (by kernel_rfl) rfl (by kernel_rfl) (by simp [Tryd.ntmps20]) (by simp) ?_
  rw [Tryd.ntmps20]
  repeat' first | ((first | refine aops_end (hK _ ?_) | refine aopsD_end (hK _ ?_) | refine aopsF_end (hK _ ?_)); clear hK K) | ((first | refine aops_go ?_ | refine aopsD_go ?_ | refine aopsF_go ?_ | refine wpcall_pure rfl (ih) ?_ | refine wpcall_pure rfl (k2) ?_); simp; (try simp (disch := omega) only [wrap64, catLe]); (try (refine gen2 ?_ ?_ <;> intro hq <;> try simp at hq))) | (refine T.ret (Done.data (Or.inr rfl) ?_ ?_) <;> simp [Tryd.results20] <;> omega) | refine T.rd (id := 7) mixed (fun _ => false) [] (by kernel_rfl) fun K hK => ?_ | refine T.rd1 (id := 7) mixed (fun _ => false) [] (by kernel_rfl) fun K hK => ?_ | refine T.rd (id := 9) mixed (fun _ => false) [] (by kernel_rfl) fun K hK => ?_ | refine T.rd1 (id := 9) mixed (fun _ => false) [] (by kernel_rfl) fun K hK => ?_ | refine T.rd (id := 10) mixed (fun _ => false) [] (by kernel_rfl) fun K hK => ?_ | refine T.rd1 (id := 10) mixed (fun _ => false) [] (by kernel_rfl) fun K hK => ?_ | refine T.r0 fun K hK => ?_ | refine T.r1 fun K hK => ?_ | (refine ⟨by omega, ?_⟩) | refine T.ct rfl ?_ | refine T.cf rfl ?_ | refine T.seq ?_ | refine T.block ?_ | refine T.skip ?_ | refine T.exit ?_
 | @two d k x y hk hx hy ih1 ih2 =>
  replace ih1 := ih1 (by omega)
  replace ih2 := ih2 (by omega)
  have la := coTextF_le hx (by omega)
  have lb := coTextF_le hy (by omega)
  have k1 := tag2_ok k x y hk
  rw [coTextF_two]
  generalize coTextF d x = A at *
  generalize coTextF d y = B at *
  rcases hk with rfl | rfl
  ·have k2 := sign_ok (k := 4) (by omega) (by omega)
   rw [show signB 4 = 62 from rfl] at k2
   rw [if_pos rfl] at k1 ⊢
   refine ACalls.of_body Tryd.func20 (by kernel_rfl) rfl (by kernel_rfl) (by simp [Tryd.ntmps20]) (by simp) ?_
   rw [Tryd.ntmps20]
   repeat' first | ((first | refine aops_end (hK _ ?_) | refine aopsD_end (hK _ ?_) | refine aopsF_end (hK _ ?_)); clear hK K) | ((first | refine aops_go ?_ | refine aopsD_go ?_ | refine aopsF_go ?_ | refine wpcall_pure rfl (ih1) ?_ | refine wpcall_pure rfl (ih2) ?_ | (refine wpcall_pure ?_ (k1) ?_; (focus (solve | simp))) | refine wpcall_pure rfl (k2) ?_); simp; (try simp (disch := omega) only [wrap64, catLe]); (try (refine gen2 ?_ ?_ <;> intro hq <;> try simp at hq))) | (refine T.ret (Done.data (Or.inr rfl) ?_ ?_) <;> simp [Tryd.results20] <;> omega) | refine T.rd (id := 7) mixed (fun _ => false) [] (by kernel_rfl) fun K hK => ?_ | refine T.rd1 (id := 7) mixed (fun _ => false) [] (by kernel_rfl) fun K hK => ?_ | refine T.rd (id := 9) mixed (fun _ => false) [] (by kernel_rfl) fun K hK => ?_ | refine T.rd1 (id := 9) mixed (fun _ => false) [] (by kernel_rfl) fun K hK => ?_ | refine T.rd (id := 10) mixed (fun _ => false) [] (by kernel_rfl) fun K hK => ?_ | refine T.rd1 (id := 10) mixed (fun _ => false) [] (by kernel_rfl) fun K hK => ?_ | refine T.r0 fun K hK => ?_ | refine T.r1 fun K hK => ?_ | (refine ⟨by omega, ?_⟩) | refine T.ct rfl ?_ | refine T.cf rfl ?_ | refine T.seq ?_ | refine T.block ?_ | refine T.skip ?_ | refine T.exit ?_
  ·have k2 := sign_ok (k := 5) (by omega) (by omega)
   rw [show signB 5 = 42 from rfl] at k2
   rw [if_neg (by decide)] at k1 ⊢
   refine ACalls.of_body Tryd.func20 (by kernel_rfl) rfl (by kernel_rfl) (by simp [Tryd.ntmps20]) (by simp) ?_
   rw [Tryd.ntmps20]
   repeat' first | ((first | refine aops_end (hK _ ?_) | refine aopsD_end (hK _ ?_) | refine aopsF_end (hK _ ?_)); clear hK K) | ((first | refine aops_go ?_ | refine aopsD_go ?_ | refine aopsF_go ?_ | refine wpcall_pure rfl (ih1) ?_ | refine wpcall_pure rfl (ih2) ?_ | (refine wpcall_pure ?_ (k1) ?_; (focus (solve | simp))) | refine wpcall_pure rfl (k2) ?_); simp; (try simp (disch := omega) only [wrap64, catLe]); (try (refine gen2 ?_ ?_ <;> intro hq <;> try simp at hq))) | (refine T.ret (Done.data (Or.inr rfl) ?_ ?_) <;> simp [Tryd.results20] <;> omega) | refine T.rd (id := 7) mixed (fun _ => false) [] (by kernel_rfl) fun K hK => ?_ | refine T.rd1 (id := 7) mixed (fun _ => false) [] (by kernel_rfl) fun K hK => ?_ | refine T.rd (id := 9) mixed (fun _ => false) [] (by kernel_rfl) fun K hK => ?_ | refine T.rd1 (id := 9) mixed (fun _ => false) [] (by kernel_rfl) fun K hK => ?_ | refine T.rd (id := 10) mixed (fun _ => false) [] (by kernel_rfl) fun K hK => ?_ | refine T.rd1 (id := 10) mixed (fun _ => false) [] (by kernel_rfl) fun K hK => ?_ | refine T.r0 fun K hK => ?_ | refine T.r1 fun K hK => ?_ | (refine ⟨by omega, ?_⟩) | refine T.ct rfl ?_ | refine T.cf rfl ?_ | refine T.seq ?_ | refine T.block ?_ | refine T.skip ?_ | refine T.exit ?_

theorem l6Text_ok {d : Nat} {c : MCo} (h : CoV d c) (hd : d <= 24) : ACalls Tryd.prog 39 [aCo c] [] (.s (coTextF d c)) [] [] := by
 have hdec : ∀ b : Int, labM b = true -> (b < 0 /\ ∃ n : Nat, -b = n /\ IntKind.i64.wrap (-b) = n /\ Lib.itoa b = 45 :: Lib.decDigits n /\ (Lib.decDigits n).length <= 4 /\ n <= 1099511627776) \/ (¬ b < 0 /\ ∃ n : Nat, b = n /\ Lib.itoa b = Lib.decDigits n /\ (Lib.decDigits n).length <= 4 /\ n <= 1099511627776) := fun b hb => by
  have hlb := lab_bound hb
  by_cases h0 : b < 0
  ·obtain ⟨n, hn⟩ : ∃ n : Nat, -b = n := ⟨(-b).toNat, by omega⟩
   refine .inl ⟨h0, n, hn, by rw [wrap64 (by omega) (by omega), hn], by rw [itoa_neg h0, hn, itoa_nonneg], dec_len_le n (by omega), by omega⟩
  ·obtain ⟨n, rfl⟩ : ∃ n : Nat, b = n := ⟨b.toNat, by omega⟩
   exact .inr ⟨h0, n, rfl, itoa_nonneg n, dec_len_le n (by omega), by omega⟩
 induction h with
 | @id d t h1 h2 =>
  have k1 := l6Letter_ok (k := t) (by omega) (by omega)
  rw [coTextF_id]
  generalize signB t = z at k1 ⊢
  refine ACalls.of_body Tryd.func39 (by kernel_rfl) rfl (by kernel_rfl) (by simp [Tryd.ntmps39]) (by simp) ?_
  rw [Tryd.ntmps39]
  repeat' first | ((first | refine aops_end (hK _ ?_) | refine aopsD_end (hK _ ?_) | refine aopsF_end (hK _ ?_)); clear hK K) | ((first | refine aops_go ?_ | refine aopsD_go ?_ | refine aopsF_go ?_ | refine wpcall_pure rfl (k1) ?_); simp; (try (refine gen2 ?_ ?_ <;> intro hq <;> try simp at hq))) | (refine T.ret (Done.data (Or.inr rfl) ?_ ?_) <;> simp [Tryd.results39] <;> omega) | refine T.rd (id := 10) mixed (fun _ => false) [] (by kernel_rfl) fun K hK => ?_ | refine T.rd1 (id := 10) mixed (fun _ => false) [] (by kernel_rfl) fun K hK => ?_ | refine T.rd (id := 12) mixed (fun _ => false) [] (by kernel_rfl) fun K hK => ?_ | refine T.rd1 (id := 12) mixed (fun _ => false) [] (by kernel_rfl) fun K hK => ?_ | refine T.rd (id := 16) mixed (fun _ => false) [] (by kernel_rfl) fun K hK => ?_ | refine T.rd1 (id := 16) mixed (fun _ => false) [] (by kernel_rfl) fun K hK => ?_ | refine T.rd (id := 17) mixed (fun _ => false) [] (by kernel_rfl) fun K hK => ?_ | refine T.rd1 (id := 17) mixed (fun _ => false) [] (by kernel_rfl) fun K hK => ?_ | refine T.r0 fun K hK => ?_ | refine T.r1 fun K hK => ?_ | (refine ⟨by omega, ?_⟩) | refine T.ct rfl ?_ | refine T.cf rfl ?_ | refine T.seq ?_ | refine T.block ?_ | refine T.skip ?_ | refine T.exit ?_
 | @fail d b t hb h1 h2 =>
  have k1 := l6Letter_ok (k := t) (by omega) (by omega)
  rw [coTextF_fail]
  generalize signB t = z at k1 ⊢
  rcases hdec b hb with ⟨h0, n, e1, e2, e3, e4, e5⟩ | ⟨h0, n, rfl, e3, e4, e5⟩
  ·have k2 := l18DecN_ok n e5
   rw [e3]
   generalize Lib.decDigits n = A at *
   clear hdec e1 e3
   refine ACalls.of_body Tryd.func39 (by kernel_rfl) rfl (by kernel_rfl) (by simp [Tryd.ntmps39]) (by simp) ?_
   rw [Tryd.ntmps39]
   repeat' first | ((first | refine aops_end (hK _ ?_) | refine aopsD_end (hK _ ?_) | refine aopsF_end (hK _ ?_)); clear hK K) | ((first | refine aops_go ?_ | refine aopsD_go ?_ | refine aopsF_go ?_ | refine wpcall_pure rfl (k1) ?_ | refine wpcall_pure rfl (k2) ?_); simp [h0, e2]; (try simp (disch := omega) only [wrap64, catLe]); (try (refine gen2 ?_ ?_ <;> intro hq <;> try simp [h0, e2] at hq))) | (refine T.ret (Done.data (Or.inr rfl) ?_ ?_) <;> simp [Tryd.results39] <;> omega) | refine T.rd (id := 10) mixed (fun _ => false) [] (by kernel_rfl) fun K hK => ?_ | refine T.rd1 (id := 10) mixed (fun _ => false) [] (by kernel_rfl) fun K hK => ?_ | refine T.rd (id := 12) mixed (fun _ => false) [] (by kernel_rfl) fun K hK => ?_ | refine T.rd1 (id := 12) mixed (fun _ => false) [] (by kernel_rfl) fun K hK => ?_ | refine T.rd (id := 16) mixed (fun _ => false) [] (by kernel_rfl) fun K hK => ?_ | refine T.rd1 (id := 16) mixed (fun _ => false) [] (by kernel_rfl) fun K hK => ?_ | refine T.rd (id := 17) mixed (fun _ => false) [] (by kernel_rfl) fun K hK => ?_ | refine T.rd1 (id := 17) mixed (fun _ => false) [] (by kernel_rfl) fun K hK => ?_ | refine T.r0 fun K hK => ?_ | refine T.r1 fun K hK => ?_ | (refine ⟨by omega, ?_⟩) | refine T.ct rfl ?_ | refine T.cf rfl ?_ | refine T.seq ?_ | refine T.block ?_ | refine T.skip ?_ | refine T.exit ?_
  ·have k2 := l18DecN_ok n e5
   rw [e3]
   generalize Lib.decDigits n = A at *
   clear hdec e3
   refine ACalls.of_body Tryd.func39 (by kernel_rfl) rfl (by kernel_rfl) (by simp [Tryd.ntmps39]) (by simp) ?_
   rw [Tryd.ntmps39]
   repeat' first | ((first | refine aops_end (hK _ ?_) | refine aopsD_end (hK _ ?_) | refine aopsF_end (hK _ ?_)); clear hK K) | ((first | refine aops_go ?_ | refine aopsD_go ?_ | refine aopsF_go ?_ | refine wpcall_pure rfl (k1) ?_ | refine wpcall_pure rfl (k2) ?_); simp [h0]; (try simp (disch := omega) only [wrap64, catLe]); (try (refine gen2 ?_ ?_ <;> intro hq <;> try simp [h0] at hq))) | (refine T.ret (Done.data (Or.inr rfl) ?_ ?_) <;> simp [Tryd.results39] <;> omega) | refine T.rd (id := 10) mixed (fun _ => false) [] (by kernel_rfl) fun K hK => ?_ | refine T.rd1 (id := 10) mixed (fun _ => false) [] (by kernel_rfl) fun K hK => ?_ | refine T.rd (id := 12) mixed (fun _ => false) [] (by kernel_rfl) fun K hK => ?_ | refine T.rd1 (id := 12) mixed (fun _ => false) [] (by kernel_rfl) fun K hK => ?_ | refine T.rd (id := 16) mixed (fun _ => false) [] (by kernel_rfl) fun K hK => ?_ | refine T.rd1 (id := 16) mixed (fun _ => false) [] (by kernel_rfl) fun K hK => ?_ | refine T.rd (id := 17) mixed (fun _ => false) [] (by kernel_rfl) fun K hK => ?_ | refine T.rd1 (id := 17) mixed (fun _ => false) [] (by kernel_rfl) fun K hK => ?_ | refine T.r0 fun K hK => ?_ | refine T.r1 fun K hK => ?_ | (refine ⟨by omega, ?_⟩) | refine T.ct rfl ?_ | refine T.cf rfl ?_ | refine T.seq ?_ | refine T.block ?_ | refine T.skip ?_ | refine T.exit ?_
 | @inj d x hx hg ih =>
  replace ih := ih (by omega)
  have la := coTextF_le hx (by omega)
  rw [coTextF_inj]
  generalize coTextF d x = A at *
  refine ACalls.of_body Tryd.func39 (by kernel_rfl) rfl (by kernel_rfl) (by simp [Tryd.ntmps39]) (by simp) ?_
  rw [Tryd.ntmps39]
  repeat' first | ((first | refine aops_end (hK _ ?_) | refine aopsD_end (hK _ ?_) | refine aopsF_end (hK _ ?_)); clear hK K) | ((first | refine aops_go ?_ | refine aopsD_go ?_ | refine aopsF_go ?_ | refine wpcall_pure rfl (ih) ?_); simp; (try simp (disch := omega) only [wrap64, catLe]); (try (refine gen2 ?_ ?_ <;> intro hq <;> try simp at hq))) | (refine T.ret (Done.data (Or.inr rfl) ?_ ?_) <;> simp [Tryd.results39] <;> omega) | refine T.rd (id := 10) mixed (fun _ => false) [] (by kernel_rfl) fun K hK => ?_ | refine T.rd1 (id := 10) mixed (fun _ => false) [] (by kernel_rfl) fun K hK => ?_ | refine T.rd (id := 12) mixed (fun _ => false) [] (by kernel_rfl) fun K hK => ?_ | refine T.rd1 (id := 12) mixed (fun _ => false) [] (by kernel_rfl) fun K hK => ?_ | refine T.rd (id := 16) mixed (fun _ => false) [] (by kernel_rfl) fun K hK => ?_ | refine T.rd1 (id := 16) mixed (fun _ => false) [] (by kernel_rfl) fun K hK => ?_ | refine T.rd (id := 17) mixed (fun _ => false) [] (by kernel_rfl) fun K hK => ?_ | refine T.rd1 (id := 17) mixed (fun _ => false) [] (by kernel_rfl) fun K hK => ?_ | refine T.r0 fun K hK => ?_ | refine T.r1 fun K hK => ?_ | (refine ⟨by omega, ?_⟩) | refine T.ct rfl ?_ | refine T.cf rfl ?_ | refine T.seq ?_ | refine T.block ?_ | refine T.skip ?_ | refine T.exit ?_
 | @proj d b x hb hx hg ih =>
  replace ih := ih (by omega)
  have la := coTextF_le hx (by omega)
  rw [coTextF_proj]
  generalize coTextF d x = B at *
  rcases hdec b hb with ⟨h0, n, e1, e2, e3, e4, e5⟩ | ⟨h0, n, rfl, e3, e4, e5⟩
  ·have k2 := l18DecN_ok n e5
   rw [e3]
   generalize Lib.decDigits n = A at *
   clear hdec e1 e3
   refine ACalls.of_body Tryd.func39 (by kernel_rfl) rfl (by kernel_rfl) (by simp [Tryd.ntmps39]) (by simp) ?_
   rw [Tryd.ntmps39]
   repeat' first | ((first | refine aops_end (hK _ ?_) | refine aopsD_end (hK _ ?_) | refine aopsF_end (hK _ ?_)); clear hK K) | ((first | refine aops_go ?_ | refine aopsD_go ?_ | refine aopsF_go ?_ | refine wpcall_pure rfl (ih) ?_ | refine wpcall_pure rfl (k2) ?_); simp [h0, e2]; (try simp (disch := omega) only [wrap64, catLe]); (try (refine gen2 ?_ ?_ <;> intro hq <;> try simp [h0, e2] at hq))) | (refine T.ret (Done.data (Or.inr rfl) ?_ ?_) <;> simp [Tryd.results39] <;> omega) | refine T.rd (id := 10) mixed (fun _ => false) [] (by kernel_rfl) fun K hK => ?_ | refine T.rd1 (id := 10) mixed (fun _ => false) [] (by kernel_rfl) fun K hK => ?_ | refine T.rd (id := 12) mixed (fun _ => false) [] (by kernel_rfl) fun K hK => ?_ | refine T.rd1 (id := 12) mixed (fun _ => false) [] (by kernel_rfl) fun K hK => ?_ | refine T.rd (id := 16) mixed (fun _ => false) [] (by kernel_rfl) fun K hK => ?_ | refine T.rd1 (id := 16) mixed (fun _ => false) [] (by kernel_rfl) fun K hK => ?_ | refine T.rd (id := 17) mixed (fun _ => false) [] (by kernel_rfl) fun K hK => ?_ | refine T.rd1 (id := 17) mixed (fun _ => false) [] (by kernel_rfl) fun K hK => ?_ | refine T.r0 fun K hK => ?_ | refine T.r1 fun K hK => ?_ | (refine ⟨by omega, ?_⟩) | refine T.ct rfl ?_ | refine T.cf rfl ?_ | refine T.seq ?_ | refine T.block ?_ | refine T.skip ?_ | refine T.exit ?_
  ·have k2 := l18DecN_ok n e5
   rw [e3]
   generalize Lib.decDigits n = A at *
   clear hdec e3
   refine ACalls.of_body Tryd.func39 (by kernel_rfl) rfl (by kernel_rfl) (by simp [Tryd.ntmps39]) (by simp) ?_
   rw [Tryd.ntmps39]
   repeat' first | ((first | refine aops_end (hK _ ?_) | refine aopsD_end (hK _ ?_) | refine aopsF_end (hK _ ?_)); clear hK K) | ((first | refine aops_go ?_ | refine aopsD_go ?_ | refine aopsF_go ?_ | refine wpcall_pure rfl (ih) ?_ | refine wpcall_pure rfl (k2) ?_); simp [h0]; (try simp (disch := omega) only [wrap64, catLe]); (try (refine gen2 ?_ ?_ <;> intro hq <;> try simp [h0] at hq))) | (refine T.ret (Done.data (Or.inr rfl) ?_ ?_) <;> simp [Tryd.results39] <;> omega) | refine T.rd (id := 10) mixed (fun _ => false) [] (by kernel_rfl) fun K hK => ?_ | refine T.rd1 (id := 10) mixed (fun _ => false) [] (by kernel_rfl) fun K hK => ?_ | refine T.rd (id := 12) mixed (fun _ => false) [] (by kernel_rfl) fun K hK => ?_ | refine T.rd1 (id := 12) mixed (fun _ => false) [] (by kernel_rfl) fun K hK => ?_ | refine T.rd (id := 16) mixed (fun _ => false) [] (by kernel_rfl) fun K hK => ?_ | refine T.rd1 (id := 16) mixed (fun _ => false) [] (by kernel_rfl) fun K hK => ?_ | refine T.rd (id := 17) mixed (fun _ => false) [] (by kernel_rfl) fun K hK => ?_ | refine T.rd1 (id := 17) mixed (fun _ => false) [] (by kernel_rfl) fun K hK => ?_ | refine T.r0 fun K hK => ?_ | refine T.r1 fun K hK => ?_ | (refine ⟨by omega, ?_⟩) | refine T.ct rfl ?_ | refine T.cf rfl ?_ | refine T.seq ?_ | refine T.block ?_ | refine T.skip ?_ | refine T.exit ?_
 | @two d k x y hk hx hy ih1 ih2 =>
  replace ih1 := ih1 (by omega)
  replace ih2 := ih2 (by omega)
  have la := coTextF_le hx (by omega)
  have lb := coTextF_le hy (by omega)
  rw [coTextF_two]
  generalize coTextF d x = A at *
  generalize coTextF d y = B at *
  rcases hk with rfl | rfl
  ·refine ACalls.of_body Tryd.func39 (by kernel_rfl) rfl (by kernel_rfl) (by simp [Tryd.ntmps39]) (by simp) ?_
   rw [Tryd.ntmps39]
   repeat' first | ((first | refine aops_end (hK _ ?_) | refine aopsD_end (hK _ ?_) | refine aopsF_end (hK _ ?_)); clear hK K) | ((first | refine aops_go ?_ | refine aopsD_go ?_ | refine aopsF_go ?_ | refine wpcall_pure rfl (ih1) ?_ | refine wpcall_pure rfl (ih2) ?_); simp; (try simp (disch := omega) only [wrap64, catLe]); (try (refine gen2 ?_ ?_ <;> intro hq <;> try simp at hq))) | (refine T.ret (Done.data (Or.inr rfl) ?_ ?_) <;> simp [Tryd.results39] <;> omega) | refine T.rd (id := 10) mixed (fun _ => false) [] (by kernel_rfl) fun K hK => ?_ | refine T.rd1 (id := 10) mixed (fun _ => false) [] (by kernel_rfl) fun K hK => ?_ | refine T.rd (id := 12) mixed (fun _ => false) [] (by kernel_rfl) fun K hK => ?_ | refine T.rd1 (id := 12) mixed (fun _ => false) [] (by kernel_rfl) fun K hK => ?_ | refine T.rd (id := 16) mixed (fun _ => false) [] (by kernel_rfl) fun K hK => ?_ | refine T.rd1 (id := 16) mixed (fun _ => false) [] (by kernel_rfl) fun K hK => ?_ | refine T.rd (id := 17) mixed (fun _ => false) [] (by kernel_rfl) fun K hK => ?_ | refine T.rd1 (id := 17) mixed (fun _ => false) [] (by kernel_rfl) fun K hK => ?_ | refine T.r0 fun K hK => ?_ | refine T.r1 fun K hK => ?_ | (refine ⟨by omega, ?_⟩) | refine T.ct rfl ?_ | refine T.cf rfl ?_ | refine T.seq ?_ | refine T.block ?_ | refine T.skip ?_ | refine T.exit ?_
  ·refine ACalls.of_body Tryd.func39 (by kernel_rfl) rfl (by kernel_rfl) (by simp [Tryd.ntmps39]) (by simp) ?_
   rw [Tryd.ntmps39]
   repeat' first | ((first | refine aops_end (hK _ ?_) | refine aopsD_end (hK _ ?_) | refine aopsF_end (hK _ ?_)); clear hK K) | ((first | refine aops_go ?_ | refine aopsD_go ?_ | refine aopsF_go ?_ | refine wpcall_pure rfl (ih1) ?_ | refine wpcall_pure rfl (ih2) ?_); simp; (try simp (disch := omega) only [wrap64, catLe]); (try (refine gen2 ?_ ?_ <;> intro hq <;> try simp at hq))) | (refine T.ret (Done.data (Or.inr rfl) ?_ ?_) <;> simp [Tryd.results39] <;> omega) | refine T.rd (id := 10) mixed (fun _ => false) [] (by kernel_rfl) fun K hK => ?_ | refine T.rd1 (id := 10) mixed (fun _ => false) [] (by kernel_rfl) fun K hK => ?_ | refine T.rd (id := 12) mixed (fun _ => false) [] (by kernel_rfl) fun K hK => ?_ | refine T.rd1 (id := 12) mixed (fun _ => false) [] (by kernel_rfl) fun K hK => ?_ | refine T.rd (id := 16) mixed (fun _ => false) [] (by kernel_rfl) fun K hK => ?_ | refine T.rd1 (id := 16) mixed (fun _ => false) [] (by kernel_rfl) fun K hK => ?_ | refine T.rd (id := 17) mixed (fun _ => false) [] (by kernel_rfl) fun K hK => ?_ | refine T.rd1 (id := 17) mixed (fun _ => false) [] (by kernel_rfl) fun K hK => ?_ | refine T.r0 fun K hK => ?_ | refine T.r1 fun K hK => ?_ | (refine ⟨by omega, ?_⟩) | refine T.ct rfl ?_ | refine T.cf rfl ?_ | refine T.seq ?_ | refine T.block ?_ | refine T.skip ?_ | refine T.exit ?_
end Go.Proofs.YtcgmmknfpfdghaaDoor

namespace Go.Proofs.YtcgmmknfpfdghaaDoor
attribute [-simp] Go.Av.astepJ Go.Av.relC Go.Av.relL Go.Av.relV Go.Av.relVs Go.Av.callJ Go.Av.IT.kind_v Go.Av.IT.kind_b Go.Av.IT.kind_p Go.Av.IT.name_v Go.Av.IT.name_b Go.Av.IT.name_p Go.Av.IT.kids_v Go.Av.IT.kids_b Go.Av.IT.kids_p Go.Av.eIT_len
open Go Go.Av
attribute [local irreducible] T ACalls TX EX LX Draws Some_ ACallsX eTy eTm MTy.kind MTy.kids MTm.kind MTm.name MTm.num MTm.ty MTm.fr MTm.label MTm.kids
attribute [local simp] eTy_def eTm_def
set_option maxHeartbeats 16000000
set_option maxRecDepth 8000
attribute [local irreducible] eCo MCo.kind MCo.tag MCo.label MCo.kids
attribute [local simp] eCo_def

theorem FormatCoercionS_ok (c : MCo) (hn : nCo c <= 1099511627776) : ACalls Tryd.prog 16 [aCo c] [] (.s (formatCoM c)) [] [] := by
 have h := CoercionValidS_ok c hn
 rw [formatCoM]
 by_cases hv : shapeCo 9 c = true
 ·rw [hv] at h
  rw [if_pos hv]
  have k := l6Text_ok (CoV.of hv) (by omega)
  rw [show coTextF 9 c = coText c from rfl] at k
  generalize coText c = A at *
  refine ACalls.of_body Tryd.func16 (by kernel_rfl) rfl (by kernel_rfl) (by simp [Tryd.ntmps16]) (by simp) ?_
  rw [Tryd.ntmps16]
  repeat' first | ((first | refine aops_end (hK _ ?_) | refine aopsD_end (hK _ ?_) | refine aopsF_end (hK _ ?_)); clear hK K) | ((first | refine aops_go ?_ | refine aopsD_go ?_ | refine aopsF_go ?_ | refine wpcall_pure rfl (h) ?_ | refine wpcall_pure rfl (k) ?_); simp; (try (refine gen2 ?_ ?_ <;> intro hq <;> try simp at hq))) | (refine T.ret (Done.data (Or.inr rfl) ?_ ?_) <;> simp [Tryd.results16] <;> omega) | refine T.r0 fun K hK => ?_ | refine T.r1 fun K hK => ?_ | (refine ⟨by omega, ?_⟩) | refine T.ct rfl ?_ | refine T.cf rfl ?_ | refine T.seq ?_ | refine T.block ?_ | refine T.skip ?_ | refine T.exit ?_
 ·rw [if_neg hv]
  rw [Bool.not_eq_true] at hv
  rw [hv] at h
  refine ACalls.of_body Tryd.func16 (by kernel_rfl) rfl (by kernel_rfl) (by simp [Tryd.ntmps16]) (by simp) ?_
  rw [Tryd.ntmps16]
  repeat' first | ((first | refine aops_end (hK _ ?_) | refine aopsD_end (hK _ ?_) | refine aopsF_end (hK _ ?_)); clear hK K) | ((first | refine aops_go ?_ | refine aopsD_go ?_ | refine aopsF_go ?_ | refine wpcall_pure rfl (h) ?_); simp; (try (refine gen2 ?_ ?_ <;> intro hq <;> try simp at hq))) | (refine T.ret (Done.data (Or.inr rfl) ?_ ?_) <;> simp [Tryd.results16] <;> omega) | refine T.r0 fun K hK => ?_ | refine T.r1 fun K hK => ?_ | (refine ⟨by omega, ?_⟩) | refine T.ct rfl ?_ | refine T.cf rfl ?_ | refine T.seq ?_ | refine T.block ?_ | refine T.skip ?_ | refine T.exit ?_

end Go.Proofs.YtcgmmknfpfdghaaDoor
