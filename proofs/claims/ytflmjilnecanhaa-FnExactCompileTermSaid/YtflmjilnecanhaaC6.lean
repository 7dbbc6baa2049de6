/- A part of the library of this seat. -/
import Derived.Test.YtflmjilnecanhaaC5
set_option linter.unusedVariables false
set_option linter.unusedSimpArgs false
namespace Go.Proofs.Ytflmjilnecanhaa
attribute [-simp] Go.Av.freeStep Go.Av.exV Go.Av.keepL Go.Av.ups Go.Av.take_app_len Go.Av.innVs Go.Av.putBack Go.Av.objCells Go.Av.back Go.Av.resVs Go.Av.one Go.Av.freeStepG Go.Av.exA Go.Av.innAsH Go.Av.AV.innH Go.Av.CV.innH Go.Av.innHs Go.Av.AV.outnH Go.Av.CV.outnH
open Go Go.Av
attribute [local irreducible] T
attribute [local simp] eTy_def eTm_def

theorem inM_ok (x lo hi : Int) : ACalls Try.prog 60 [.i x, .i lo, .i hi] [] (.b (inM x lo hi)) [] [] := by
 refine ACalls.of_body Try.func60 (by kernel_rfl) rfl (by kernel_rfl) (by simp [Try.ntmps60]) (by simp) ?_
 rw [Try.ntmps60]
 repeat' first | (refine aops_end (hK _ ?_); clear hK K) | (refine aops_go ?_; simp; (try (refine gen fun q hq => ?_; cases q <;> (try simp at hq)))) | refine T.r0 fun K hK => ?_ | refine T.r1 fun K hK => ?_ | refine T.cond rfl (fun hc => ?_) (fun hc => absurd hc (by decide)) | refine T.cond rfl (fun hc => absurd hc (by decide)) (fun hc => ?_) | refine T.seq ?_ | refine T.block ?_ | refine T.skip ?_ | refine T.exit ?_
 all_goals (refine T.ret (Done.data (Or.inr rfl) ?_ ?_) <;> simp [Try.results60, inM, *] <;> omega)

theorem isName_ok (s : List UInt8) : ACalls Try.prog 94 [.s s] [] (.b (nameM s)) [] [] := by
 refine ACalls.of_body Try.func94 (by kernel_rfl) rfl (by kernel_rfl) (by simp [Try.ntmps94]) (by simp) ?_
 rw [Try.ntmps94]
 match s with
 | [] =>
  repeat' first | (refine aops_end (hK _ ?_); clear hK K) | (refine aops_go ?_; simp; (try (refine gen fun q hq => ?_; cases q <;> (try simp at hq)))) | refine T.r0 fun K hK => ?_ | refine T.r1 fun K hK => ?_ | refine T.cond rfl (fun hc => ?_) (fun hc => absurd hc (by decide)) | refine T.cond rfl (fun hc => absurd hc (by decide)) (fun hc => ?_) | refine T.seq ?_ | refine T.block ?_ | refine T.skip ?_ | refine T.exit ?_
  all_goals (refine T.ret (Done.data (Or.inr rfl) ?_ ?_) <;> simp [Try.results94, nameM])
 | [c] =>
  repeat' first | (refine aops_end (hK _ ?_); clear hK K) | (refine aops_go ?_; simp; (try (refine gen fun q hq => ?_; cases q <;> (try simp at hq)))) | refine T.r0 fun K hK => ?_ | refine T.r1 fun K hK => ?_ | refine T.cond rfl (fun hc => ?_) (fun hc => absurd hc (by decide)) | refine T.cond rfl (fun hc => absurd hc (by decide)) (fun hc => ?_) | refine T.seq ?_ | refine T.block ?_ | refine T.skip ?_ | refine T.exit ?_
  all_goals (refine T.ret (Done.data (Or.inr rfl) ?_ ?_) <;> simp [Try.results94, nameM, *] <;> omega)
 | c :: d :: r =>
  have h2 : ¬ ((r.length : Int) + 1 + 1 = 1) := by omega
  repeat' first | (refine aops_end (hK _ ?_); clear hK K) | (refine aops_go ?_; simp [h2, beq_f h2]; (try (refine gen fun q hq => ?_; cases q <;> (try simp [h2] at hq)))) | refine T.r0 fun K hK => ?_ | refine T.r1 fun K hK => ?_ | refine T.cond rfl (fun hc => ?_) (fun hc => absurd hc (by decide)) | refine T.cond rfl (fun hc => absurd hc (by decide)) (fun hc => ?_) | refine T.seq ?_ | refine T.block ?_ | refine T.skip ?_ | refine T.exit ?_
  all_goals (refine T.ret (Done.data (Or.inr rfl) ?_ ?_) <;> simp [Try.results94, nameM])

theorem l2Name_ok (s : List UInt8) : ACalls Try.prog 91 [.s s] [] (.b (nameM s)) [] [] := by
 refine ACalls.of_body Try.func91 (by kernel_rfl) rfl (by kernel_rfl) (by simp [Try.ntmps91]) (by simp) ?_
 rw [Try.ntmps91]
 match s with
 | [] =>
  repeat' first | (refine aops_end (hK _ ?_); clear hK K) | (refine aops_go ?_; simp; (try (refine gen fun q hq => ?_; cases q <;> (try simp at hq)))) | refine T.r0 fun K hK => ?_ | refine T.r1 fun K hK => ?_ | refine T.cond rfl (fun hc => ?_) (fun hc => absurd hc (by decide)) | refine T.cond rfl (fun hc => absurd hc (by decide)) (fun hc => ?_) | refine T.seq ?_ | refine T.block ?_ | refine T.skip ?_ | refine T.exit ?_
  all_goals (refine T.ret (Done.data (Or.inr rfl) ?_ ?_) <;> simp [Try.results91, nameM])
 | [c] =>
  repeat' first | (refine aops_end (hK _ ?_); clear hK K) | (refine aops_go ?_; simp; (try (refine gen fun q hq => ?_; cases q <;> (try simp at hq)))) | refine T.r0 fun K hK => ?_ | refine T.r1 fun K hK => ?_ | refine T.cond rfl (fun hc => ?_) (fun hc => absurd hc (by decide)) | refine T.cond rfl (fun hc => absurd hc (by decide)) (fun hc => ?_) | refine T.seq ?_ | refine T.block ?_ | refine T.skip ?_ | refine T.exit ?_
  all_goals (refine T.ret (Done.data (Or.inr rfl) ?_ ?_) <;> simp [Try.results91, nameM, *] <;> omega)
 | c :: d :: r =>
  have h2 : ¬ ((r.length : Int) + 1 + 1 = 1) := by omega
  repeat' first | (refine aops_end (hK _ ?_); clear hK K) | (refine aops_go ?_; simp [h2, beq_f h2]; (try (refine gen fun q hq => ?_; cases q <;> (try simp [h2] at hq)))) | refine T.r0 fun K hK => ?_ | refine T.r1 fun K hK => ?_ | refine T.cond rfl (fun hc => ?_) (fun hc => absurd hc (by decide)) | refine T.cond rfl (fun hc => absurd hc (by decide)) (fun hc => ?_) | refine T.seq ?_ | refine T.block ?_ | refine T.skip ?_ | refine T.exit ?_
  all_goals (refine T.ret (Done.data (Or.inr rfl) ?_ ?_) <;> simp [Try.results91, nameM])

theorem isNoType_ok (t : MTy) : ACalls Try.prog 96 [aTy t] [] (.b (noTyM t)) [] [] := by
 refine ACalls.of_body Try.func96 (by kernel_rfl) rfl (by kernel_rfl) (by simp [Try.ntmps96]) (by simp) ?_
 rw [Try.ntmps96]
 repeat' first | (refine aops_end (hK _ ?_); clear hK K) | (refine aops_go ?_; simp; (try (refine gen fun q hq => ?_; cases q <;> (try simp at hq)))) | refine T.r0 fun K hK => ?_ | refine T.r1 fun K hK => ?_ | refine T.cond rfl (fun hc => ?_) (fun hc => absurd hc (by decide)) | refine T.cond rfl (fun hc => absurd hc (by decide)) (fun hc => ?_) | refine T.seq ?_ | refine T.block ?_ | refine T.skip ?_ | refine T.exit ?_
 all_goals (refine T.ret (Done.data (Or.inr rfl) ?_ ?_) <;> simp [Try.results96, noTyM, *])

theorem l2None_ok (t : MTy) : ACalls Try.prog 92 [aTy t] [] (.b (noTyM t)) [] [] := by
 refine ACalls.of_body Try.func92 (by kernel_rfl) rfl (by kernel_rfl) (by simp [Try.ntmps92]) (by simp) ?_
 rw [Try.ntmps92]
 repeat' first | (refine aops_end (hK _ ?_); clear hK K) | (refine aops_go ?_; simp; (try (refine gen fun q hq => ?_; cases q <;> (try simp at hq)))) | refine T.r0 fun K hK => ?_ | refine T.r1 fun K hK => ?_ | refine T.cond rfl (fun hc => ?_) (fun hc => absurd hc (by decide)) | refine T.cond rfl (fun hc => absurd hc (by decide)) (fun hc => ?_) | refine T.seq ?_ | refine T.block ?_ | refine T.skip ?_ | refine T.exit ?_
 all_goals (refine T.ret (Done.data (Or.inr rfl) ?_ ?_) <;> simp [Try.results92, noTyM, *])

theorem isLabel_ok (n : Int) : ACalls Try.prog 98 [.i n] [] (.b (labM n)) [] [] := by
 refine ACalls.of_body Try.func98 (by kernel_rfl) rfl (by kernel_rfl) (by simp [Try.ntmps98]) (by simp) ?_
 rw [Try.ntmps98]
 repeat' first | (refine T.rs (fun _ => false) fun K hK => ?_; (repeat (refine aops_go ?_; simp)); refine aops_end (hK _ ?_); clear hK K) | (refine T.rs1 (fun _ => false) fun K hK => ?_; (repeat (refine aops_go ?_; simp)); refine aops_end (hK _ ?_); clear hK K) | refine T.cond rfl (fun hc => ?_) (fun hc => absurd hc (by decide)) | refine T.cond rfl (fun hc => absurd hc (by decide)) (fun hc => ?_) | refine T.seq ?_ | refine T.block ?_ | refine T.skip ?_ | refine T.exit ?_
 refine T.rs1 (fun _ => false) fun K hK => ?_
 repeat (refine aops_go ?_; simp)
 refine wpcall_pure (by simp) (inM_ok n 1 99) ?_
 simp
 refine Ops.gen fun q hq => ?_
 cases q
 ·repeat (refine aops_go ?_; simp)
  refine wpcall_pure (by simp) (inM_ok n (-99) (-1)) ?_
  simp
  repeat' first | (refine aops_end (hK _ ?_); clear hK K) | (refine aops_go ?_; simp; (try (refine gen fun q hq => ?_; cases q <;> (try simp at hq)))) | refine T.r0 fun K hK => ?_ | refine T.r1 fun K hK => ?_ | refine T.cond rfl (fun hc => ?_) (fun hc => absurd hc (by decide)) | refine T.cond rfl (fun hc => absurd hc (by decide)) (fun hc => ?_) | refine T.seq ?_ | refine T.block ?_ | refine T.skip ?_ | refine T.exit ?_
  all_goals (refine T.ret (Done.data (Or.inr rfl) ?_ ?_) <;> simp [Try.results98, labM, *])
 ·repeat' first | (refine aops_end (hK _ ?_); clear hK K) | (refine aops_go ?_; simp; (try (refine gen fun q hq => ?_; cases q <;> (try simp at hq)))) | refine T.r0 fun K hK => ?_ | refine T.r1 fun K hK => ?_ | refine T.cond rfl (fun hc => ?_) (fun hc => absurd hc (by decide)) | refine T.cond rfl (fun hc => absurd hc (by decide)) (fun hc => ?_) | refine T.seq ?_ | refine T.block ?_ | refine T.skip ?_ | refine T.exit ?_
  all_goals (refine T.ret (Done.data (Or.inr rfl) ?_ ?_) <;> simp [Try.results98, labM, *])

theorem l2Kids_ok (k : Int) : ACalls Try.prog 70 [.i k] [] (.i (kidsM k)) [] [] := by
 refine ACalls.of_body Try.func70 (by kernel_rfl) rfl (by kernel_rfl) (by simp [Try.ntmps70]) (by simp) ?_
 rw [Try.ntmps70]
 repeat' first | (refine aops_end (hK _ ?_); clear hK K) | (refine aops_go ?_; simp; (try (refine gen fun q hq => ?_; cases q <;> (try simp at hq)))) | refine T.r0 fun K hK => ?_ | refine T.r1 fun K hK => ?_ | refine T.cond rfl (fun hc => ?_) (fun hc => absurd hc (by decide)) | refine T.cond rfl (fun hc => absurd hc (by decide)) (fun hc => ?_) | refine T.seq ?_ | refine T.block ?_ | refine T.skip ?_ | refine T.exit ?_
 all_goals (refine T.ret (Done.data (Or.inr rfl) ?_ ?_) <;> simp [Try.results70, kidsM, *])

@[simp] theorem td_intS : td Try.prog 73 = some { ag := false, sz := 1, by_ := 24, zero := some [.nil], el := some 3, ar := none, fl := [], ik := none, isS := false, isB := false } := keep (by kernel_rfl)

theorem operands_ok (k : Int) : ACalls Try.prog 93 [.i k] [] (.i (kidsM k)) [] [] := by
 refine ACalls.of_body Try.func93 (by kernel_rfl) rfl (by kernel_rfl) (by simp [Try.ntmps93]) (by simp) ?_
 rw [Try.ntmps93]
 repeat' first | (refine T.rs (fun _ => false) fun K hK => ?_; (repeat (refine aops_go ?_; simp)); refine aops_end (hK _ ?_); clear hK K) | (refine T.rs1 (fun _ => false) fun K hK => ?_; (repeat (refine aops_go ?_; simp)); refine aops_end (hK _ ?_); clear hK K) | refine T.cond rfl (fun hc => ?_) (fun hc => absurd hc (by decide)) | refine T.cond rfl (fun hc => absurd hc (by decide)) (fun hc => ?_) | refine T.seq ?_ | refine T.block ?_ | refine T.skip ?_ | refine T.exit ?_
 refine T.rs1 (fun _ => false) fun K hK => ?_
 repeat (refine aops_go ?_; simp)
 refine wpcall_pure (by simp) (inM_ok k 1 14) ?_
 simp
 by_cases h : inM k 1 14 = true
 ·have hr : k = 1 \/ k = 2 \/ k = 3 \/ k = 4 \/ k = 5 \/ k = 6 \/ k = 7 \/ k = 8 \/ k = 9 \/ k = 10 \/ k = 11 \/ k = 12 \/ k = 13 \/ k = 14 := by
   simp [inM] at h; omega
  rcases hr with rfl | rfl | rfl | rfl | rfl | rfl | rfl | rfl | rfl | rfl | rfl | rfl | rfl | rfl
  all_goals
   simp [inM] at h
   have hw : ∀ n : Int, 0 <= n -> n <= 20 -> IntKind.i64.wrap n = n := fun n h1 h2 => wrap64 (by omega) (by omega)
   repeat' first | (refine aops_end (hK _ ?_); clear hK K) | (refine aops_go ?_; simp [inM, hw]; (try (refine gen fun q hq => ?_; cases q <;> (try simp at hq)))) | refine T.r0 fun K hK => ?_ | refine T.r1 fun K hK => ?_ | refine T.cond rfl (fun hc => ?_) (fun hc => absurd hc (by decide)) | refine T.cond rfl (fun hc => absurd hc (by decide)) (fun hc => ?_) | refine T.seq ?_ | refine T.block ?_ | refine T.skip ?_ | refine T.exit ?_
   all_goals (refine T.ret (Done.data (Or.inr rfl) ?_ ?_) <;> simp [Try.results93, kidsM])
 ·have hk : kidsM k = -1 := by
   simp only [inM, Bool.not_eq_true, Bool.and_eq_false_iff, decide_eq_false_iff_not] at h
   have : k < 1 \/ 14 < k := by omega
   simp only [kidsM]
   repeat (rw [if_neg (by omega)])
  simp only [Bool.not_eq_true] at h
  repeat' first | (refine aops_end (hK _ ?_); clear hK K) | (refine aops_go ?_; simp [h]; (try (refine gen fun q hq => ?_; cases q <;> (try simp at hq)))) | refine T.r0 fun K hK => ?_ | refine T.r1 fun K hK => ?_ | refine T.cond rfl (fun hc => ?_) (fun hc => absurd hc (by decide)) | refine T.cond rfl (fun hc => absurd hc (by decide)) (fun hc => ?_) | refine T.seq ?_ | refine T.block ?_ | refine T.skip ?_ | refine T.exit ?_
  all_goals (refine T.ret (Done.data (Or.inr rfl) ?_ ?_) <;> simp [Try.results93, hk])

end Go.Proofs.Ytflmjilnecanhaa

namespace Go.Proofs.Ytflmjilnecanhaa
attribute [-simp] Go.Av.freeStep Go.Av.exV Go.Av.keepL Go.Av.ups Go.Av.take_app_len Go.Av.innVs Go.Av.putBack Go.Av.objCells Go.Av.back Go.Av.resVs Go.Av.one Go.Av.freeStepG Go.Av.exA Go.Av.innAsH Go.Av.AV.innH Go.Av.CV.innH Go.Av.innHs Go.Av.AV.outnH Go.Av.CV.outnH
open Go Go.Av
attribute [local irreducible] T ACalls eTy eTm MTy.kind MTy.kids MTm.kind MTm.name MTm.num MTm.ty MTm.fr MTm.label MTm.kids
attribute [local simp] eTy_def eTm_def
set_option maxHeartbeats 4000000

theorem l1Kids_ok (k : Int) : ACalls Try.prog 87 [.i k] [] (.i (tyKids k)) [] [] := by
 refine ACalls.of_body Try.func87 (by kernel_rfl) rfl (by kernel_rfl) (by simp [Try.ntmps87]) (by simp) ?_
 rw [Try.ntmps87]
 repeat' first | (refine aops_end (hK _ ?_); clear hK K) | (refine aops_go ?_; simp; (try (refine gen fun q hq => ?_; cases q <;> (try simp at hq) <;> (try (have hh : True := hq; clear hh hq))))) | (refine T.ret (Done.data (Or.inr rfl) ?_ ?_) <;> simp [Try.results87, tyKids, *] <;> omega) | refine T.r0 fun K hK => ?_ | refine T.r1 fun K hK => ?_ | refine T.ct rfl ?_ | refine T.cf rfl ?_ | refine T.seq ?_ | refine T.block ?_ | refine T.skip ?_

theorem l1Shape_ok : ∀ (d : Nat) (t : MTy), d <= 1000 -> nTy t <= 1099511627776 -> ACalls Try.prog 101 [aTy t, .i d] [] (.b (shapeTy d t)) [] []
 | 0, t, _, _ => by
  refine ACalls.of_body Try.func101 (by kernel_rfl) rfl (by kernel_rfl) (by simp [Try.ntmps101]) (by simp) ?_
  rw [Try.ntmps101]
  repeat' first | ((first | refine aops_end (hK _ ?_) | refine aopsD_end (hK _ ?_)); clear hK K) | ((first | refine aops_go ?_ | refine aopsD_go ?_); simp; (try (refine gen fun q hq => ?_; cases q <;> (try simp at hq) <;> (try (have hh : True := hq; clear hh hq))))) | (refine T.ret (Done.data (Or.inr rfl) ?_ ?_) <;> simp [Try.results101, shapeTy] <;> omega) | refine T.r0 fun K hK => ?_ | refine T.rd mixed (fun _ => false) [] (by kernel_rfl) fun K hK => ?_ | refine T.ct rfl ?_ | refine T.seq ?_
 | d + 1, t, hd, hn => by
  rw [nTy_def] at hn
  have hlen := nTyS_len t.kids
  have hd1 : ¬ ((d : Int) + 1 < 1) := by omega
  refine ACalls.of_body Try.func101 (by kernel_rfl) rfl (by kernel_rfl) (by simp [Try.ntmps101]) (by simp) ?_
  rw [Try.ntmps101]
  repeat' first | ((first | refine aops_end (hK _ ?_) | refine aopsD_end (hK _ ?_)); clear hK K) | ((first | refine aops_go ?_ | refine aopsD_go ?_); simp [hd1]; (try (refine gen fun q hq => ?_; cases q <;> (try simp [hd1] at hq) <;> (try (have hh : True := hq; clear hh hq))))) | (refine wpcall_pure rfl (l1Kids_ok _) ?_; simp [hd1]; (try first | (refine Ops.gen fun q hq => ?_; cases q <;> (try simp [hd1] at hq) <;> (try (have hh : True := hq; clear hh hq))) | (refine OpsD.gen fun q hq => ?_; cases q <;> (try simp [hd1] at hq) <;> (try (have hh : True := hq; clear hh hq))))) | (refine T.ret (Done.data (Or.inr rfl) ?_ ?_) <;> simp [Try.results101, shapeTy, *] <;> omega) | refine T.r0 fun K hK => ?_ | refine T.rd mixed (fun _ => false) [] (by kernel_rfl) fun K hK => ?_ | refine T.ct rfl ?_ | refine T.cf rfl ?_ | refine T.seq ?_ | refine T.block ?_ | refine T.skip ?_
  obtain ⟨R, hR⟩ : ∃ R, t.kids.all (shapeTy d) = R := ⟨_, rfl⟩
  rw [show shapeTy (d + 1) t = R by simp [shapeTy, hq, hR]]
  refine T.loopF (fun p : Nat => ⟨[(1, .i (d + 1)), (2, .c (.ptr 0 0)), (5, .i p)], [(aTy t).cells], []⟩) (fun p => t.kids.length + 1 - p) (fun p => p <= t.kids.length /\ (t.kids.drop p).all (shapeTy d) = R) (fun p hp => ?_) 0 (by simpa using hR) (by simp)
  obtain ⟨hi, he⟩ := hp
  by_cases hlt : p < t.kids.length
  ·obtain ⟨u, ht⟩ := get_lt hlt
   have htm : u ∈ t.kids := List.mem_of_getElem? ht
   have hgt : t.kids[p] = u := by rw [List.getElem?_eq_getElem hlt] at ht; exact Option.some.inj ht
   have hdr : t.kids.drop p = u :: t.kids.drop (p + 1) := by rw [List.drop_eq_getElem_cons hlt, hgt]
   have hu := l1Shape_ok d u (by omega) (by have := nTyS_mem htm; omega)
   rw [hdr, List.all_cons] at he
   cases hb : shapeTy d u <;> rw [hb] at hu he
   ·repeat' first | (refine aops_end (hK _ ?_); clear hK K) | (refine aops_go ?_; simp [hlt, hgt]; (try simp (disch := omega) only [wrap64]); (try (refine gen fun q hq => ?_; cases q <;> (try simp [hlt, hgt] at hq) <;> (try (have hh : True := hq; clear hh hq))))) | (refine wpcall_pure rfl (hu) ?_; simp [hlt, hgt]; (try simp (disch := omega) only [wrap64]); (try first | (refine Ops.gen fun q hq => ?_; cases q <;> (try simp [hlt, hgt] at hq) <;> (try (have hh : True := hq; clear hh hq))) | (refine OpsD.gen fun q hq => ?_; cases q <;> (try simp [hlt, hgt] at hq) <;> (try (have hh : True := hq; clear hh hq))))) | (refine T.ret (Done.data (Or.inr rfl) ?_ ?_) <;> simp [Try.results101, <- he] <;> omega) | refine T.r0 fun K hK => ?_ | refine T.ct rfl ?_ | refine T.seq ?_ | refine T.block ?_ | refine T.skip ?_
   ·repeat' first | (refine aops_end (hK _ ?_); clear hK K) | (refine aops_go ?_; simp [hlt, hgt]; (try simp (disch := omega) only [wrap64]); (try (refine gen fun q hq => ?_; cases q <;> (try simp [hlt, hgt] at hq) <;> (try (have hh : True := hq; clear hh hq))))) | (refine wpcall_pure rfl (hu) ?_; simp [hlt, hgt]; (try simp (disch := omega) only [wrap64]); (try first | (refine Ops.gen fun q hq => ?_; cases q <;> (try simp [hlt, hgt] at hq) <;> (try (have hh : True := hq; clear hh hq))) | (refine OpsD.gen fun q hq => ?_; cases q <;> (try simp [hlt, hgt] at hq) <;> (try (have hh : True := hq; clear hh hq))))) | (refine ⟨p + 1, by dsimp only; omega, ⟨by omega, by simpa using he⟩, ?_⟩; simp (disch := omega) [wrap64]) | refine T.r0 fun K hK => ?_ | refine T.r1 fun K hK => ?_ | refine T.ct rfl ?_ | refine T.cf rfl ?_ | refine T.seq ?_ | refine T.block ?_ | refine T.skip ?_
  ·have hp' : p = t.kids.length := by omega
   subst hp'
   simp at he
   repeat' first | (refine aops_end (hK _ ?_); clear hK K) | (refine aops_go ?_; simp [hlt]; (try (refine gen fun q hq => ?_; cases q <;> (try simp [hlt] at hq) <;> (try (have hh : True := hq; clear hh hq))))) | (refine T.ret (Done.data (Or.inr rfl) ?_ ?_) <;> simp [Try.results101, he] <;> omega) | refine T.r0 fun K hK => ?_ | refine T.cf rfl ?_ | refine T.seq ?_ | refine T.exit ?_
end Go.Proofs.Ytflmjilnecanhaa

namespace Go.Proofs.Ytflmjilnecanhaa
attribute [-simp] Go.Av.freeStep Go.Av.exV Go.Av.keepL Go.Av.ups Go.Av.take_app_len Go.Av.innVs Go.Av.putBack Go.Av.objCells Go.Av.back Go.Av.resVs Go.Av.one Go.Av.freeStepG Go.Av.exA Go.Av.innAsH Go.Av.AV.innH Go.Av.CV.innH Go.Av.innHs Go.Av.AV.outnH Go.Av.CV.outnH
open Go Go.Av
attribute [local irreducible] T ACalls eTy eTm MTy.kind MTy.kids MTm.kind MTm.name MTm.num MTm.ty MTm.fr MTm.label MTm.kids
attribute [local simp] eTy_def eTm_def
set_option maxHeartbeats 4000000

theorem indexFuncTy_0 (f : FuncId) (l : List MTy) (q : MTy -> Bool) (hl : l.length <= 4611686018427387904) (hf : ∀ t ∈ l, ACalls Try.prog f [aTy t] [] (.b (q t)) [] []) :
  ACalls Try.prog 120 [.l (l.map eTy), .c (.fn f [])] [] (.i (firstIx q l 0)) [] [] := by
 refine ACalls.of_body Try.func120 (by kernel_rfl) rfl (by kernel_rfl) (by simp [Try.ntmps120]) (by simp) ?_
 rw [Try.ntmps120]
 repeat' first | (refine aops_end (hK _ ?_); clear hK K) | (refine aops_go ?_; simp; (try (refine gen fun q hq => ?_; cases q <;> (try simp at hq) <;> (try (have hh : True := hq; clear hh hq))))) | refine T.r0 fun K hK => ?_ | refine T.seq ?_ | refine T.block ?_
 obtain ⟨R, hR⟩ : ∃ R, firstIx q l 0 = R := ⟨_, rfl⟩
 rw [hR]
 refine T.loopF (fun p : Nat => ⟨[(0, .l (l.map eTy)), (1, .c (.fn f [])), (7, .i l.length), (8, .i p)], [], []⟩) (fun p => l.length + 1 - p) (fun p => p <= l.length /\ firstIx q (l.drop p) p = R) (fun p hp => ?_) 0 (by simpa using hR) (by simp)
 obtain ⟨hi, he⟩ := hp
 by_cases hlt : p < l.length
 ·obtain ⟨u, ht⟩ := get_lt hlt
  have htm : u ∈ l := List.mem_of_getElem? ht
  have hgt : l[p] = u := by rw [List.getElem?_eq_getElem hlt] at ht; exact Option.some.inj ht
  have hdr : l.drop p = u :: l.drop (p + 1) := by rw [List.drop_eq_getElem_cons hlt, hgt]
  have hu := hf u htm
  rw [hdr, firstIx] at he
  cases hb : q u <;> rw [hb] at hu he
  ·repeat' first | (refine aops_end (hK _ ?_); clear hK K) | (refine aops_go ?_; simp [hlt, hgt]; (try simp (disch := omega) only [wrap64]); (try (refine gen fun q hq => ?_; cases q <;> (try simp [hlt, hgt] at hq) <;> (try (have hh : True := hq; clear hh hq))))) | (refine wpcall_pure rfl (hu) ?_; simp [hlt, hgt]; (try simp (disch := omega) only [wrap64]); (try first | (refine Ops.gen fun q hq => ?_; cases q <;> (try simp [hlt, hgt] at hq) <;> (try (have hh : True := hq; clear hh hq))) | (refine OpsD.gen fun q hq => ?_; cases q <;> (try simp [hlt, hgt] at hq) <;> (try (have hh : True := hq; clear hh hq))))) | (refine ⟨p + 1, by dsimp only; omega, ⟨by omega, by simpa using he⟩, ?_⟩; simp (disch := omega) [wrap64]) | refine T.r0 fun K hK => ?_ | refine T.r1 fun K hK => ?_ | refine T.ct rfl ?_ | refine T.cf rfl ?_ | refine T.seq ?_ | refine T.block ?_ | refine T.skip ?_
  ·repeat' first | (refine aops_end (hK _ ?_); clear hK K) | (refine aops_go ?_; simp [hlt, hgt]; (try simp (disch := omega) only [wrap64]); (try (refine gen fun q hq => ?_; cases q <;> (try simp [hlt, hgt] at hq) <;> (try (have hh : True := hq; clear hh hq))))) | (refine wpcall_pure rfl (hu) ?_; simp [hlt, hgt]; (try simp (disch := omega) only [wrap64]); (try first | (refine Ops.gen fun q hq => ?_; cases q <;> (try simp [hlt, hgt] at hq) <;> (try (have hh : True := hq; clear hh hq))) | (refine OpsD.gen fun q hq => ?_; cases q <;> (try simp [hlt, hgt] at hq) <;> (try (have hh : True := hq; clear hh hq))))) | (refine T.ret (Done.data (Or.inr rfl) ?_ ?_) <;> simp [Try.results120, <- he] <;> omega) | refine T.r0 fun K hK => ?_ | refine T.ct rfl ?_ | refine T.seq ?_ | refine T.block ?_ | refine T.skip ?_
 ·have hp' : p = l.length := by omega
  subst hp'
  simp [firstIx] at he
  repeat' first | (refine aops_end (hK _ ?_); clear hK K) | (refine aops_go ?_; simp [hlt]; (try (refine gen fun q hq => ?_; cases q <;> (try simp [hlt] at hq) <;> (try (have hh : True := hq; clear hh hq))))) | (refine T.ret (Done.data (Or.inr rfl) ?_ ?_) <;> simp [Try.results120, he] <;> omega) | refine T.r0 fun K hK => ?_ | refine T.cf rfl ?_ | refine T.seq ?_ | refine T.exit ?_

theorem containsFuncTy_0 (f : FuncId) (l : List MTy) (q : MTy -> Bool) (hl : l.length <= 4611686018427387904) (hf : ∀ t ∈ l, ACalls Try.prog f [aTy t] [] (.b (q t)) [] []) :
  ACalls Try.prog 111 [.l (l.map eTy), .c (.fn f [])] [] (.b (l.any q)) [] [] := by
 refine ACalls.of_body Try.func111 (by kernel_rfl) rfl (by kernel_rfl) (by simp [Try.ntmps111]) (by simp) ?_
 rw [Try.ntmps111]
 rw [<- firstIx_any (i := 0) (by omega)]
 repeat' first | (refine aops_end (hK _ ?_); clear hK K) | (refine aops_go ?_; simp; (try (refine gen fun q hq => ?_; cases q <;> (try simp at hq) <;> (try (have hh : True := hq; clear hh hq))))) | (refine wpcall_pure rfl (indexFuncTy_0 f l q hl hf) ?_; simp; (try first | (refine Ops.gen fun q hq => ?_; cases q <;> (try simp at hq) <;> (try (have hh : True := hq; clear hh hq))) | (refine OpsD.gen fun q hq => ?_; cases q <;> (try simp at hq) <;> (try (have hh : True := hq; clear hh hq))))) | (refine T.ret (Done.data (Or.inr rfl) ?_ ?_) <;> simp [Try.results111, *] <;> omega) | refine T.r0 fun K hK => ?_

theorem indexFuncTy_1 (f : FuncId) (d : DV) (l : List MTy) (q : MTy -> Bool) (hl : l.length <= 4611686018427387904) (hf : ∀ t ∈ l, ACalls Try.prog f [aTy t, .c (.ptr 0 0)] (dV [[d]]) (.b (q t)) (dV [[d]]) []) :
  ACalls Try.prog 120 [.l (l.map eTy), .c (.fn f [0])] (dV [[d]]) (.i (firstIx q l 0)) (dV [[d]]) [] := by
 refine ACalls.of_body Try.func120 (by kernel_rfl) rfl (by kernel_rfl) (by simp [Try.ntmps120]) (by simp) ?_
 rw [Try.ntmps120]
 repeat' first | (refine aops_end (hK _ ?_); clear hK K) | (refine aops_go ?_; simp; (try (refine gen fun q hq => ?_; cases q <;> (try simp at hq) <;> (try (have hh : True := hq; clear hh hq))))) | refine T.r0 fun K hK => ?_ | refine T.seq ?_ | refine T.block ?_
 obtain ⟨R, hR⟩ : ∃ R, firstIx q l 0 = R := ⟨_, rfl⟩
 rw [hR]
 refine T.loopF (fun p : Nat => ⟨[(0, .l (l.map eTy)), (1, .c (.fn f [0])), (7, .i l.length), (8, .i p)], [[.d d]], []⟩) (fun p => l.length + 1 - p) (fun p => p <= l.length /\ firstIx q (l.drop p) p = R) (fun p hp => ?_) 0 (by simpa using hR) (by simp)
 obtain ⟨hi, he⟩ := hp
 by_cases hlt : p < l.length
 ·obtain ⟨u, ht⟩ := get_lt hlt
  have htm : u ∈ l := List.mem_of_getElem? ht
  have hgt : l[p] = u := by rw [List.getElem?_eq_getElem hlt] at ht; exact Option.some.inj ht
  have hdr : l.drop p = u :: l.drop (p + 1) := by rw [List.drop_eq_getElem_cons hlt, hgt]
  have hu := hf u htm
  rw [hdr, firstIx] at he
  cases hb : q u <;> rw [hb] at hu he
  ·repeat' first | (refine aops_end (hK _ ?_); clear hK K) | (refine aops_go ?_; simp [hlt, hgt]; (try simp (disch := omega) only [wrap64]); (try (refine gen fun q hq => ?_; cases q <;> (try simp [hlt, hgt] at hq) <;> (try (have hh : True := hq; clear hh hq))))) | (refine wpcall_obj1 0 [d] rfl rfl hu ?_; simp) | (refine ⟨p + 1, by dsimp only; omega, ⟨by omega, by simpa using he⟩, ?_⟩; simp (disch := omega) [wrap64]) | refine T.r0 fun K hK => ?_ | refine T.r1 fun K hK => ?_ | refine T.ct rfl ?_ | refine T.cf rfl ?_ | refine T.seq ?_ | refine T.block ?_ | refine T.skip ?_
  ·repeat' first | (refine aops_end (hK _ ?_); clear hK K) | (refine aops_go ?_; simp [hlt, hgt]; (try simp (disch := omega) only [wrap64]); (try (refine gen fun q hq => ?_; cases q <;> (try simp [hlt, hgt] at hq) <;> (try (have hh : True := hq; clear hh hq))))) | (refine wpcall_obj1 0 [d] rfl rfl hu ?_; simp) | refine T.r0 fun K hK => ?_ | refine T.ct rfl ?_ | refine T.seq ?_ | refine T.block ?_ | refine T.skip ?_
   refine T.ret (Done.obj1 (Or.inr rfl) ?_ ?_ ?_) <;> simp [Try.results120, <- he]
 ·have hp' : p = l.length := by omega
  subst hp'
  simp [firstIx] at he
  repeat' first | (refine aops_end (hK _ ?_); clear hK K) | (refine aops_go ?_; simp [hlt]; (try (refine gen fun q hq => ?_; cases q <;> (try simp [hlt] at hq) <;> (try (have hh : True := hq; clear hh hq))))) | refine T.r0 fun K hK => ?_ | refine T.cf rfl ?_ | refine T.seq ?_ | refine T.exit ?_
  refine T.ret (Done.obj1 (Or.inr rfl) ?_ ?_ ?_) <;> simp [Try.results120, he]

theorem containsFuncTy_1 (f : FuncId) (d : DV) (l : List MTy) (q : MTy -> Bool) (hl : l.length <= 4611686018427387904) (hf : ∀ t ∈ l, ACalls Try.prog f [aTy t, .c (.ptr 0 0)] (dV [[d]]) (.b (q t)) (dV [[d]]) []) :
  ACalls Try.prog 111 [.l (l.map eTy), .c (.fn f [0])] (dV [[d]]) (.b (l.any q)) (dV [[d]]) [] := by
 refine ACalls.of_body Try.func111 (by kernel_rfl) rfl (by kernel_rfl) (by simp [Try.ntmps111]) (by simp) ?_
 rw [Try.ntmps111]
 rw [<- firstIx_any (i := 0) (by omega)]
 repeat' first | (refine aops_end (hK _ ?_); clear hK K) | (refine aops_go ?_; simp; (try (refine gen fun q hq => ?_; cases q <;> (try simp at hq) <;> (try (have hh : True := hq; clear hh hq))))) | (refine wpcall_obj1 0 [d] rfl rfl (indexFuncTy_1 f d l q hl hf) ?_; simp) | refine T.r0 fun K hK => ?_
 all_goals (refine T.ret (Done.obj1 (Or.inr rfl) ?_ ?_ ?_) <;> simp [Try.results111, *])

end Go.Proofs.Ytflmjilnecanhaa

namespace Go.Proofs.Ytflmjilnecanhaa
attribute [-simp] Go.Av.freeStep Go.Av.exV Go.Av.keepL Go.Av.ups Go.Av.take_app_len Go.Av.innVs Go.Av.putBack Go.Av.objCells Go.Av.back Go.Av.resVs Go.Av.one Go.Av.freeStepG Go.Av.exA Go.Av.innAsH Go.Av.AV.innH Go.Av.CV.innH Go.Av.innHs Go.Av.AV.outnH Go.Av.CV.outnH
open Go Go.Av
attribute [local irreducible] T ACalls eTy eTm MTy.kind MTy.kids MTm.kind MTm.name MTm.num MTm.ty MTm.fr MTm.label MTm.kids
attribute [local simp] eTy_def eTm_def
set_option maxHeartbeats 4000000

theorem equalFuncTy_0 (f : FuncId) (l m : List MTy) (q : MTy -> MTy -> Bool) (hl : l.length <= 4611686018427387904) (hf : ∀ a ∈ l, ∀ b ∈ m, ACalls Try.prog f [aTy a, aTy b] [] (.b (q a b)) [] []) :
  ACalls Try.prog 113 [.l (l.map eTy), .l (m.map eTy), .c (.fn f [])] [] (.b (all2 q l m)) [] [] := by
 refine ACalls.of_body Try.func113 (by kernel_rfl) rfl (by kernel_rfl) (by simp [Try.ntmps113]) (by simp) ?_
 rw [Try.ntmps113]
 by_cases hlm : l.length = m.length
 rotate_left
 ·have hne : ¬ (l.length : Int) = m.length := by omega
  repeat' first | (refine aops_end (hK _ ?_); clear hK K) | (refine aops_go ?_; simp [hne]; (try (refine gen fun q hq => ?_; cases q <;> (try simp [hne] at hq) <;> (try (have hh : True := hq; clear hh hq))))) | (refine T.ret (Done.data (Or.inr rfl) ?_ ?_) <;> simp [Try.results113, all2_ne hlm] <;> omega) | refine T.r0 fun K hK => ?_ | refine T.ct rfl ?_ | refine T.seq ?_
 repeat' first | (refine aops_end (hK _ ?_); clear hK K) | (refine aops_go ?_; simp [hlm]; (try (refine gen fun q hq => ?_; cases q <;> (try simp [hlm] at hq) <;> (try (have hh : True := hq; clear hh hq))))) | refine T.r0 fun K hK => ?_ | refine T.cf rfl ?_ | refine T.seq ?_ | refine T.block ?_ | refine T.skip ?_
 obtain ⟨R, hR⟩ : ∃ R, all2 q l m = R := ⟨_, rfl⟩
 rw [hR]
 refine T.loopF (fun x : Nat × List (List CV) => ⟨[(0, .l (l.map eTy)), (1, .l (m.map eTy)), (2, .c (.fn f [])), (15, .l (l.map eTy)), (16, .i m.length), (17, .i x.1)], x.2, []⟩) (fun x => l.length + 1 - x.1) (fun x => x.1 <= l.length /\ all2 q (l.drop x.1) (m.drop x.1) = R) (fun x hp => ?_) (0, []) (by simpa using hR) (by simp)
 obtain ⟨p, G⟩ := x
 obtain ⟨hi, he⟩ := hp
 dsimp only at hi he ⊢
 by_cases hlt : p < l.length
 ·have hlt2 : p < m.length := by omega
  obtain ⟨u, ht⟩ := get_lt hlt
  have htm : u ∈ l := List.mem_of_getElem? ht
  have hgt : l[p] = u := by rw [List.getElem?_eq_getElem hlt] at ht; exact Option.some.inj ht
  have hdr : l.drop p = u :: l.drop (p + 1) := by rw [List.drop_eq_getElem_cons hlt, hgt]
  obtain ⟨v, hv⟩ := get_lt hlt2
  have hvm : v ∈ m := List.mem_of_getElem? hv
  have hgv : m[p] = v := by rw [List.getElem?_eq_getElem hlt2] at hv; exact Option.some.inj hv
  have hu := hf u htm v hvm
  rw [hdr, drop_cons hlt2, hgv, all2_cons] at he
  cases hb : q u v <;> rw [hb] at hu he
  ·repeat' first | (refine aops_end (hK _ ?_); clear hK K) | (refine aops_go ?_; simp [hlt, hlt2, hgt, hgv]; (try simp (disch := omega) only [wrap64]); (try (refine gen fun q hq => ?_; cases q <;> (try simp [hlt, hlt2, hgt, hgv] at hq) <;> (try (have hh : True := hq; clear hh hq))))) | (refine wpcall_pure rfl (hu) ?_; simp [hlt, hlt2, hgt, hgv]; (try simp (disch := omega) only [wrap64]); (try first | (refine Ops.gen fun q hq => ?_; cases q <;> (try simp [hlt, hlt2, hgt, hgv] at hq) <;> (try (have hh : True := hq; clear hh hq))) | (refine OpsD.gen fun q hq => ?_; cases q <;> (try simp [hlt, hlt2, hgt, hgv] at hq) <;> (try (have hh : True := hq; clear hh hq))))) | (refine T.ret (Done.data (Or.inr rfl) ?_ ?_) <;> simp [Try.results113, <- he] <;> omega) | refine T.r0 fun K hK => ?_ | refine T.ct rfl ?_ | refine T.seq ?_ | refine T.block ?_ | refine T.skip ?_
  ·repeat' first | (refine aops_end (hK _ ?_); clear hK K) | (refine aops_go ?_; simp [hlt, hlt2, hgt, hgv]; (try simp (disch := omega) only [wrap64]); (try (refine gen fun q hq => ?_; cases q <;> (try simp [hlt, hlt2, hgt, hgv] at hq) <;> (try (have hh : True := hq; clear hh hq))))) | (refine wpcall_pure rfl (hu) ?_; simp [hlt, hlt2, hgt, hgv]; (try simp (disch := omega) only [wrap64]); (try first | (refine Ops.gen fun q hq => ?_; cases q <;> (try simp [hlt, hlt2, hgt, hgv] at hq) <;> (try (have hh : True := hq; clear hh hq))) | (refine OpsD.gen fun q hq => ?_; cases q <;> (try simp [hlt, hlt2, hgt, hgv] at hq) <;> (try (have hh : True := hq; clear hh hq))))) | (refine ⟨(p + 1, _), by dsimp only; omega, ⟨by dsimp only; omega, by simpa using he⟩, rfl, rfl, ?_⟩; simp (disch := omega) [wrap64]) | refine T.r0 fun K hK => ?_ | refine T.r1 fun K hK => ?_ | refine T.ct rfl ?_ | refine T.cf rfl ?_ | refine T.seq ?_ | refine T.block ?_ | refine T.skip ?_
 ·have hp' : p = l.length := by omega
  subst hp'
  rw [List.drop_length, hlm, List.drop_length, all2_nil] at he
  repeat' first | (refine aops_end (hK _ ?_); clear hK K) | (refine aops_go ?_; simp [hlt, hlm]; (try (refine gen fun q hq => ?_; cases q <;> (try simp [hlt, hlm] at hq) <;> (try (have hh : True := hq; clear hh hq))))) | (refine T.ret (Done.data (Or.inr rfl) ?_ ?_) <;> simp [Try.results113, <- he] <;> omega) | refine T.r0 fun K hK => ?_ | refine T.cf rfl ?_ | refine T.seq ?_ | refine T.exit ?_

end Go.Proofs.Ytflmjilnecanhaa

namespace Go.Proofs.Ytflmjilnecanhaa
attribute [-simp] Go.Av.freeStep Go.Av.exV Go.Av.keepL Go.Av.ups Go.Av.take_app_len Go.Av.innVs Go.Av.putBack Go.Av.objCells Go.Av.back Go.Av.resVs Go.Av.one Go.Av.freeStepG Go.Av.exA Go.Av.innAsH Go.Av.AV.innH Go.Av.CV.innH Go.Av.innHs Go.Av.AV.outnH Go.Av.CV.outnH
open Go Go.Av
attribute [local irreducible] T ACalls eTy eTm MTy.kind MTy.kids MTm.kind MTm.name MTm.num MTm.ty MTm.fr MTm.label MTm.kids
attribute [local simp] eTy_def eTm_def
set_option maxHeartbeats 4000000

theorem TypeValidS_ok (t : MTy) (hn : nTy t <= 1099511627776) : ACalls Try.prog 79 [aTy t] [] (.b (shapeTy 4 t)) [] [] := by
 refine ACalls.of_body Try.func79 (by kernel_rfl) rfl (by kernel_rfl) (by simp [Try.ntmps79]) (by simp) ?_
 rw [Try.ntmps79]
 repeat' first | (refine aops_end (hK _ ?_); clear hK K) | (refine aops_go ?_; simp) | (refine wpcall_pure rfl (l1Shape_ok 4 t (by omega) hn) ?_; simp) | (refine T.ret (Done.data (Or.inr rfl) ?_ ?_) <;> simp [Try.results79] <;> omega) | refine T.r0 fun K hK => ?_

theorem typeScan1_ok (d : Int) (hd : 0 <= d /\ d <= 1000) (t : MTy) (q : Bool) (h : ACalls Try.prog 106 [aTy t, .i (d + 1)] [] (.b q) [] []) :
  ACalls Try.prog 112 [aTy t, .c (.ptr 0 0)] (dV [[.i d]]) (.b (!q)) (dV [[.i d]]) [] := by
 refine ACalls.of_body Try.func112 (by kernel_rfl) rfl (by kernel_rfl) (by simp [Try.ntmps112]) (by simp) ?_
 rw [Try.ntmps112]
 repeat' first | (refine aops_end (hK _ ?_); clear hK K) | (refine aops_go ?_; simp; (try simp (disch := omega) only [wrap64])) | (refine wpcall_pure rfl (h) ?_; simp; (try simp (disch := omega) only [wrap64])) | refine T.r0 fun K hK => ?_
 refine T.ret (Done.obj1 (Or.inr rfl) ?_ ?_ ?_) <;> simp [Try.results112]

theorem typeScan_ok : ∀ (d : Nat) (t : MTy), d <= 4 -> nTy t <= 1099511627776 -> ACalls Try.prog 106 [aTy t, .i (5 - d)] [] (.b (shapeTy d t)) [] []
 | 0, t, _, _ => by
  refine ACalls.of_body Try.func106 (by kernel_rfl) rfl (by kernel_rfl) (by simp [Try.ntmps106]) (by simp) ?_
  rw [Try.ntmps106]
  repeat' first | (refine aops_end (hK _ ?_); clear hK K) | (refine aops_go ?_; simp; (try (refine gen fun q hq => ?_; cases q <;> (try simp at hq) <;> (try (have hh : True := hq; clear hh hq))))) | (refine T.ret (Done.data (Or.inr rfl) ?_ ?_) <;> simp [Try.results106, shapeTy] <;> omega) | refine T.r0 fun K hK => ?_ | refine T.r1 fun K hK => ?_ | refine T.ct rfl ?_ | refine T.cf rfl ?_ | refine T.seq ?_ | refine T.block ?_ | refine T.skip ?_
 | d + 1, t, hd, hn => by
  rw [nTy_def] at hn
  have hlen := nTyS_len t.kids
  have hd1 : (5 : Int) - (d + 1) <= 4 := by omega
  have hc := containsFuncTy_1 112 (.i (5 - (d + 1))) t.kids (fun t => !shapeTy d t) (by omega) (fun u hu => typeScan1_ok (5 - (d + 1)) (by omega) u _ (by
   have := typeScan_ok d u (by omega) (by have := nTyS_mem hu; omega)
   rwa [show (5 : Int) - (d + 1) + 1 = 5 - d by omega]))
  have hall : (!t.kids.any fun t => !shapeTy d t) = t.kids.all (shapeTy d) := not_any_not _ _
  rw [show shapeTy (d + 1) t = (decide (tyKids t.kind = t.kids.length) && t.kids.all (shapeTy d)) from rfl, <- hall]
  generalize (t.kids.any fun t => !shapeTy d t) = R at hc ⊢
  refine ACalls.of_body Try.func106 (by kernel_rfl) rfl (by kernel_rfl) (by simp [Try.ntmps106]) (by simp) ?_
  rw [Try.ntmps106]
  repeat' first | (refine aops_end (hK _ ?_); clear hK K) | (refine aops_go ?_; simp [hd1]; (try (refine gen fun q hq => ?_; cases q <;> (try simp [hd1] at hq) <;> (try (have hh : True := hq; clear hh hq))))) | (refine wpcall_obj1 1 [.i (5 - (d + 1))] rfl (by simp) hc ?_; simp) | (refine T.ret (Done.data (Or.inr rfl) ?_ ?_) <;> simp [Try.results106, tyKids, *] <;> omega) | refine T.r0 fun K hK => ?_ | refine T.r1 fun K hK => ?_ | refine T.ct rfl ?_ | refine T.cf rfl ?_ | refine T.seq ?_ | refine T.block ?_ | refine T.skip ?_

theorem TypeValid_ok (t : MTy) (hn : nTy t <= 1099511627776) : ACalls Try.prog 95 [aTy t] [] (.b (shapeTy 4 t)) [] [] := by
 refine ACalls.of_body Try.func95 (by kernel_rfl) rfl (by kernel_rfl) (by simp [Try.ntmps95]) (by simp) ?_
 rw [Try.ntmps95]
 repeat' first | (refine aops_end (hK _ ?_); clear hK K) | (refine aops_go ?_; simp) | (refine wpcall_pure rfl (typeScan_ok 4 t (by omega) hn) ?_; simp) | (refine T.ret (Done.data (Or.inr rfl) ?_ ?_) <;> simp [Try.results95] <;> omega) | refine T.r0 fun K hK => ?_

theorem consistent_ok : (a b : MTy) -> nTy a <= 1099511627776 -> ACalls Try.prog 107 [aTy a, aTy b] [] (.b (consTy a b)) [] []
 | .mk k l, b, hn => by
  rw [nTy_def] at hn
  have hlen := nTyS_len l
  have hc := equalFuncTy_0 107 l b.kids consTy (by simp at hn; omega) (fun u hu v hv => consistent_ok u v (by have := nTyS_mem hu; simp at hn; omega))
  rw [consTy_def]
  simp only [MTy.kids_mk, MTy.kind_mk]
  generalize all2 consTy l b.kids = R at hc ⊢
  refine ACalls.of_body Try.func107 (by kernel_rfl) rfl (by kernel_rfl) (by simp [Try.ntmps107]) (by simp) ?_
  rw [Try.ntmps107]
  repeat' first | (refine aops_end (hK _ ?_); clear hK K) | (refine aops_go ?_; simp; (try (refine gen fun q hq => ?_; cases q <;> (try simp at hq) <;> (try (have hh : True := hq; clear hh hq))))) | (refine wpcall_pure rfl (hc) ?_; simp; (try first | (refine Ops.gen fun q hq => ?_; cases q <;> (try simp at hq) <;> (try (have hh : True := hq; clear hh hq))) | (refine OpsD.gen fun q hq => ?_; cases q <;> (try simp at hq) <;> (try (have hh : True := hq; clear hh hq))))) | (refine T.ret (Done.data (Or.inr rfl) ?_ ?_) <;> simp [Try.results107, *] <;> omega) | refine T.r0 fun K hK => ?_
termination_by a => SizeOf.sizeOf a
decreasing_by have := List.sizeOf_lt_of_mem hu; simp; omega

theorem Consistent_ok (a b : MTy) (ha : nTy a <= 1099511627776) (hb : nTy b <= 1099511627776) : ACalls Try.prog 97 [aTy a, aTy b] [] (.b (shapeTy 4 a && shapeTy 4 b && consTy a b)) [] [] := by
 refine ACalls.of_body Try.func97 (by kernel_rfl) rfl (by kernel_rfl) (by simp [Try.ntmps97]) (by simp) ?_
 rw [Try.ntmps97]
 repeat' first | (refine aops_end (hK _ ?_); clear hK K) | (refine aops_go ?_; simp; (try (refine gen fun q hq => ?_; cases q <;> (try simp at hq) <;> (try (have hh : True := hq; clear hh hq))))) | (refine wpcall_pure rfl (TypeValid_ok a ha) ?_; simp; (try first | (refine Ops.gen fun q hq => ?_; cases q <;> (try simp at hq) <;> (try (have hh : True := hq; clear hh hq))) | (refine OpsD.gen fun q hq => ?_; cases q <;> (try simp at hq) <;> (try (have hh : True := hq; clear hh hq))))) | (refine wpcall_pure rfl (TypeValid_ok b hb) ?_; simp; (try first | (refine Ops.gen fun q hq => ?_; cases q <;> (try simp at hq) <;> (try (have hh : True := hq; clear hh hq))) | (refine OpsD.gen fun q hq => ?_; cases q <;> (try simp at hq) <;> (try (have hh : True := hq; clear hh hq))))) | (refine wpcall_pure rfl (consistent_ok a b ha) ?_; simp; (try first | (refine Ops.gen fun q hq => ?_; cases q <;> (try simp at hq) <;> (try (have hh : True := hq; clear hh hq))) | (refine OpsD.gen fun q hq => ?_; cases q <;> (try simp at hq) <;> (try (have hh : True := hq; clear hh hq))))) | (refine T.ret (Done.data (Or.inr rfl) ?_ ?_) <;> simp [Try.results97, *] <;> omega) | refine T.r0 fun K hK => ?_

end Go.Proofs.Ytflmjilnecanhaa

namespace Go.Proofs.Ytflmjilnecanhaa
attribute [-simp] Go.Av.freeStep Go.Av.exV Go.Av.keepL Go.Av.ups Go.Av.take_app_len Go.Av.innVs Go.Av.putBack Go.Av.objCells Go.Av.back Go.Av.resVs Go.Av.one Go.Av.freeStepG Go.Av.exA Go.Av.innAsH Go.Av.AV.innH Go.Av.CV.innH Go.Av.innHs Go.Av.AV.outnH Go.Av.CV.outnH
open Go Go.Av
attribute [local irreducible] T ACalls eTy eTm MTy.kind MTy.kids MTm.kind MTm.name MTm.num MTm.ty MTm.fr MTm.label MTm.kids
attribute [local simp] eTy_def eTm_def
set_option maxHeartbeats 4000000

theorem kind_cases (k : Int) : k = 1 \/ k = 5 \/ k = 13 \/ k = 14 \/ k = 2 \/ (¬ k = 1 /\ ¬ k = 5 /\ ¬ k = 13 /\ ¬ k = 14 /\ ¬ k = 2) := by omega

theorem in00 (n : Int) : inM n 0 0 = decide (n = 0) := by simp only [inM, <- Bool.decide_and]; exact decide_eq_decide.2 (by omega)

theorem l2Own_ok (e : MTm) (hk : e.kind ≠ 14) (ht : nTy e.ty <= 1099511627776) : ACalls Try.prog 71 [aTm e] [] (.b (ownM e)) [] [] := by
 have hnm := l2Name_ok e.name
 have hty := TypeValidS_ok e.ty ht
 have hnt := l2None_ok e.ty
 have hnf := l2None_ok e.fr
 rcases kind_cases e.kind with h1 | h1 | h1 | h1 | h1 | ⟨h1, h2, h3, h4, h5⟩
 ·have hr : ownM e = (nameM e.name && decide (e.num = 0) && noTyM e.ty && (noTyM e.fr && decide (e.label = 0))) := by simp [ownM, h1, namedM, typedM, in00]
  rw [hr]
  refine ACalls.of_body Try.func71 (by kernel_rfl) rfl (by kernel_rfl) (by simp [Try.ntmps71]) (by simp) ?_
  rw [Try.ntmps71]
  repeat' first | (refine aops_end (hK _ ?_); clear hK K) | (refine aops_go ?_; simp [h1]; (try (refine gen fun q hq => ?_; cases q <;> (try simp [h1] at hq) <;> (try (have hh : True := hq; clear hh hq))))) | (refine wpcall_pure rfl (hnm) ?_; simp [h1]; (try first | (refine Ops.gen fun q hq => ?_; cases q <;> (try simp [h1] at hq) <;> (try (have hh : True := hq; clear hh hq))) | (refine OpsD.gen fun q hq => ?_; cases q <;> (try simp [h1] at hq) <;> (try (have hh : True := hq; clear hh hq))))) | (refine wpcall_pure rfl (hnt) ?_; simp [h1]; (try first | (refine Ops.gen fun q hq => ?_; cases q <;> (try simp [h1] at hq) <;> (try (have hh : True := hq; clear hh hq))) | (refine OpsD.gen fun q hq => ?_; cases q <;> (try simp [h1] at hq) <;> (try (have hh : True := hq; clear hh hq))))) | (refine wpcall_pure rfl (hnf) ?_; simp [h1]; (try first | (refine Ops.gen fun q hq => ?_; cases q <;> (try simp [h1] at hq) <;> (try (have hh : True := hq; clear hh hq))) | (refine OpsD.gen fun q hq => ?_; cases q <;> (try simp [h1] at hq) <;> (try (have hh : True := hq; clear hh hq))))) | (refine T.ret (Done.data (Or.inr rfl) ?_ ?_) <;> simp [Try.results71, *] <;> omega) | refine T.r0 fun K hK => ?_ | refine T.ct rfl ?_ | refine T.cf rfl ?_ | refine T.seq ?_ | refine T.skip ?_
 ·have hr : ownM e = (nameM e.name && decide (e.num = 0) && shapeTy 4 e.ty && (noTyM e.fr && decide (e.label = 0))) := by simp [ownM, h1, namedM, typedM, in00]
  rw [hr]
  refine ACalls.of_body Try.func71 (by kernel_rfl) rfl (by kernel_rfl) (by simp [Try.ntmps71]) (by simp) ?_
  rw [Try.ntmps71]
  repeat' first | (refine aops_end (hK _ ?_); clear hK K) | (refine aops_go ?_; simp [h1]; (try (refine gen fun q hq => ?_; cases q <;> (try simp [h1] at hq) <;> (try (have hh : True := hq; clear hh hq))))) | (refine wpcall_pure rfl (hnm) ?_; simp [h1]; (try first | (refine Ops.gen fun q hq => ?_; cases q <;> (try simp [h1] at hq) <;> (try (have hh : True := hq; clear hh hq))) | (refine OpsD.gen fun q hq => ?_; cases q <;> (try simp [h1] at hq) <;> (try (have hh : True := hq; clear hh hq))))) | (refine wpcall_pure rfl (hty) ?_; simp [h1]; (try first | (refine Ops.gen fun q hq => ?_; cases q <;> (try simp [h1] at hq) <;> (try (have hh : True := hq; clear hh hq))) | (refine OpsD.gen fun q hq => ?_; cases q <;> (try simp [h1] at hq) <;> (try (have hh : True := hq; clear hh hq))))) | (refine wpcall_pure rfl (hnf) ?_; simp [h1]; (try first | (refine Ops.gen fun q hq => ?_; cases q <;> (try simp [h1] at hq) <;> (try (have hh : True := hq; clear hh hq))) | (refine OpsD.gen fun q hq => ?_; cases q <;> (try simp [h1] at hq) <;> (try (have hh : True := hq; clear hh hq))))) | (refine T.ret (Done.data (Or.inr rfl) ?_ ?_) <;> simp [Try.results71, *] <;> omega) | refine T.r0 fun K hK => ?_ | refine T.ct rfl ?_ | refine T.cf rfl ?_ | refine T.seq ?_ | refine T.skip ?_
 ·have hr : ownM e = (decide (e.name = []) && decide (e.num = 0) && shapeTy 4 e.ty && (noTyM e.fr && decide (e.label = 0))) := by simp [ownM, h1, namedM, typedM, in00]
  have hn0 : e.name = [] -> nameM e.name = false := fun h => by rw [h]; rfl
  rw [hr]
  by_cases hne : e.name = []
  ·rw [hn0 hne, hne] at hnm
   refine ACalls.of_body Try.func71 (by kernel_rfl) rfl (by kernel_rfl) (by simp [Try.ntmps71]) (by simp) ?_
   rw [Try.ntmps71]
   repeat' first | (refine aops_end (hK _ ?_); clear hK K) | (refine aops_go ?_; simp [h1, hne]; (try (refine gen fun q hq => ?_; cases q <;> (try simp [h1, hne] at hq) <;> (try (have hh : True := hq; clear hh hq))))) | (refine wpcall_pure rfl (hnm) ?_; simp [h1, hne]; (try first | (refine Ops.gen fun q hq => ?_; cases q <;> (try simp [h1, hne] at hq) <;> (try (have hh : True := hq; clear hh hq))) | (refine OpsD.gen fun q hq => ?_; cases q <;> (try simp [h1, hne] at hq) <;> (try (have hh : True := hq; clear hh hq))))) | (refine wpcall_pure rfl (hty) ?_; simp [h1, hne]; (try first | (refine Ops.gen fun q hq => ?_; cases q <;> (try simp [h1, hne] at hq) <;> (try (have hh : True := hq; clear hh hq))) | (refine OpsD.gen fun q hq => ?_; cases q <;> (try simp [h1, hne] at hq) <;> (try (have hh : True := hq; clear hh hq))))) | (refine wpcall_pure rfl (hnf) ?_; simp [h1, hne]; (try first | (refine Ops.gen fun q hq => ?_; cases q <;> (try simp [h1, hne] at hq) <;> (try (have hh : True := hq; clear hh hq))) | (refine OpsD.gen fun q hq => ?_; cases q <;> (try simp [h1, hne] at hq) <;> (try (have hh : True := hq; clear hh hq))))) | (refine T.ret (Done.data (Or.inr rfl) ?_ ?_) <;> simp [Try.results71, *] <;> omega) | refine T.r0 fun K hK => ?_ | refine T.ct rfl ?_ | refine T.cf rfl ?_ | refine T.seq ?_ | refine T.skip ?_
  ·generalize nameM e.name = nb at hnm
   refine ACalls.of_body Try.func71 (by kernel_rfl) rfl (by kernel_rfl) (by simp [Try.ntmps71]) (by simp) ?_
   rw [Try.ntmps71]
   repeat' first | (refine aops_end (hK _ ?_); clear hK K) | (refine aops_go ?_; simp [h1, hne]; (try (refine gen fun q hq => ?_; cases q <;> (try simp [h1, hne] at hq) <;> (try (have hh : True := hq; clear hh hq))))) | (refine wpcall_pure rfl (hnm) ?_; simp [h1, hne]; (try first | (refine Ops.gen fun q hq => ?_; cases q <;> (try simp [h1, hne] at hq) <;> (try (have hh : True := hq; clear hh hq))) | (refine OpsD.gen fun q hq => ?_; cases q <;> (try simp [h1, hne] at hq) <;> (try (have hh : True := hq; clear hh hq))))) | (refine T.ret (Done.data (Or.inr rfl) ?_ ?_) <;> simp [Try.results71, *] <;> omega) | refine T.r0 fun K hK => ?_ | refine T.ct rfl ?_ | refine T.seq ?_
 ·exact absurd h1 hk
 ·have hr : ownM e = (decide (e.name = []) && (decide (0 <= e.num) && decide (e.num <= 999)) && noTyM e.ty && (noTyM e.fr && decide (e.label = 0))) := by simp [ownM, h1, namedM, typedM, inM]
  have hn0 : e.name = [] -> nameM e.name = false := fun h => by rw [h]; rfl
  rw [hr]
  by_cases hne : e.name = []
  ·rw [hn0 hne, hne] at hnm
   refine ACalls.of_body Try.func71 (by kernel_rfl) rfl (by kernel_rfl) (by simp [Try.ntmps71]) (by simp) ?_
   rw [Try.ntmps71]
   repeat' first | (refine aops_end (hK _ ?_); clear hK K) | (refine aops_go ?_; simp [h1, hne]; (try (refine gen fun q hq => ?_; cases q <;> (try simp [h1, hne] at hq) <;> (try (have hh : True := hq; clear hh hq))))) | (refine wpcall_pure rfl (hnm) ?_; simp [h1, hne]; (try first | (refine Ops.gen fun q hq => ?_; cases q <;> (try simp [h1, hne] at hq) <;> (try (have hh : True := hq; clear hh hq))) | (refine OpsD.gen fun q hq => ?_; cases q <;> (try simp [h1, hne] at hq) <;> (try (have hh : True := hq; clear hh hq))))) | (refine wpcall_pure rfl (hnt) ?_; simp [h1, hne]; (try first | (refine Ops.gen fun q hq => ?_; cases q <;> (try simp [h1, hne] at hq) <;> (try (have hh : True := hq; clear hh hq))) | (refine OpsD.gen fun q hq => ?_; cases q <;> (try simp [h1, hne] at hq) <;> (try (have hh : True := hq; clear hh hq))))) | (refine wpcall_pure rfl (hnf) ?_; simp [h1, hne]; (try first | (refine Ops.gen fun q hq => ?_; cases q <;> (try simp [h1, hne] at hq) <;> (try (have hh : True := hq; clear hh hq))) | (refine OpsD.gen fun q hq => ?_; cases q <;> (try simp [h1, hne] at hq) <;> (try (have hh : True := hq; clear hh hq))))) | (refine T.ret (Done.data (Or.inr rfl) ?_ ?_) <;> simp [Try.results71, *] <;> omega) | refine T.r0 fun K hK => ?_ | refine T.ct rfl ?_ | refine T.cf rfl ?_ | refine T.seq ?_ | refine T.skip ?_
  ·generalize nameM e.name = nb at hnm
   refine ACalls.of_body Try.func71 (by kernel_rfl) rfl (by kernel_rfl) (by simp [Try.ntmps71]) (by simp) ?_
   rw [Try.ntmps71]
   repeat' first | (refine aops_end (hK _ ?_); clear hK K) | (refine aops_go ?_; simp [h1, hne]; (try (refine gen fun q hq => ?_; cases q <;> (try simp [h1, hne] at hq) <;> (try (have hh : True := hq; clear hh hq))))) | (refine wpcall_pure rfl (hnm) ?_; simp [h1, hne]; (try first | (refine Ops.gen fun q hq => ?_; cases q <;> (try simp [h1, hne] at hq) <;> (try (have hh : True := hq; clear hh hq))) | (refine OpsD.gen fun q hq => ?_; cases q <;> (try simp [h1, hne] at hq) <;> (try (have hh : True := hq; clear hh hq))))) | (refine T.ret (Done.data (Or.inr rfl) ?_ ?_) <;> simp [Try.results71, *] <;> omega) | refine T.r0 fun K hK => ?_ | refine T.ct rfl ?_ | refine T.seq ?_
 ·have hr : ownM e = (decide (e.name = []) && decide (e.num = 0) && noTyM e.ty && (noTyM e.fr && decide (e.label = 0))) := by simp [ownM, h1, h2, h3, h4, h5, namedM, typedM, in00]
  have hn0 : e.name = [] -> nameM e.name = false := fun h => by rw [h]; rfl
  rw [hr]
  by_cases hne : e.name = []
  ·rw [hn0 hne, hne] at hnm
   refine ACalls.of_body Try.func71 (by kernel_rfl) rfl (by kernel_rfl) (by simp [Try.ntmps71]) (by simp) ?_
   rw [Try.ntmps71]
   repeat' first | (refine aops_end (hK _ ?_); clear hK K) | (refine aops_go ?_; simp [h1, h2, h3, h4, h5, hne]; (try (refine gen fun q hq => ?_; cases q <;> (try simp [h1, h2, h3, h4, h5, hne] at hq) <;> (try (have hh : True := hq; clear hh hq))))) | (refine wpcall_pure rfl (hnm) ?_; simp [h1, h2, h3, h4, h5, hne]; (try first | (refine Ops.gen fun q hq => ?_; cases q <;> (try simp [h1, h2, h3, h4, h5, hne] at hq) <;> (try (have hh : True := hq; clear hh hq))) | (refine OpsD.gen fun q hq => ?_; cases q <;> (try simp [h1, h2, h3, h4, h5, hne] at hq) <;> (try (have hh : True := hq; clear hh hq))))) | (refine wpcall_pure rfl (hnt) ?_; simp [h1, h2, h3, h4, h5, hne]; (try first | (refine Ops.gen fun q hq => ?_; cases q <;> (try simp [h1, h2, h3, h4, h5, hne] at hq) <;> (try (have hh : True := hq; clear hh hq))) | (refine OpsD.gen fun q hq => ?_; cases q <;> (try simp [h1, h2, h3, h4, h5, hne] at hq) <;> (try (have hh : True := hq; clear hh hq))))) | (refine wpcall_pure rfl (hnf) ?_; simp [h1, h2, h3, h4, h5, hne]; (try first | (refine Ops.gen fun q hq => ?_; cases q <;> (try simp [h1, h2, h3, h4, h5, hne] at hq) <;> (try (have hh : True := hq; clear hh hq))) | (refine OpsD.gen fun q hq => ?_; cases q <;> (try simp [h1, h2, h3, h4, h5, hne] at hq) <;> (try (have hh : True := hq; clear hh hq))))) | (refine T.ret (Done.data (Or.inr rfl) ?_ ?_) <;> simp [Try.results71, *] <;> omega) | refine T.r0 fun K hK => ?_ | refine T.ct rfl ?_ | refine T.cf rfl ?_ | refine T.seq ?_ | refine T.skip ?_
  ·generalize nameM e.name = nb at hnm
   refine ACalls.of_body Try.func71 (by kernel_rfl) rfl (by kernel_rfl) (by simp [Try.ntmps71]) (by simp) ?_
   rw [Try.ntmps71]
   repeat' first | (refine aops_end (hK _ ?_); clear hK K) | (refine aops_go ?_; simp [h1, h2, h3, h4, h5, hne]; (try (refine gen fun q hq => ?_; cases q <;> (try simp [h1, h2, h3, h4, h5, hne] at hq) <;> (try (have hh : True := hq; clear hh hq))))) | (refine wpcall_pure rfl (hnm) ?_; simp [h1, h2, h3, h4, h5, hne]; (try first | (refine Ops.gen fun q hq => ?_; cases q <;> (try simp [h1, h2, h3, h4, h5, hne] at hq) <;> (try (have hh : True := hq; clear hh hq))) | (refine OpsD.gen fun q hq => ?_; cases q <;> (try simp [h1, h2, h3, h4, h5, hne] at hq) <;> (try (have hh : True := hq; clear hh hq))))) | (refine T.ret (Done.data (Or.inr rfl) ?_ ?_) <;> simp [Try.results71, *] <;> omega) | refine T.r0 fun K hK => ?_ | refine T.ct rfl ?_ | refine T.seq ?_

theorem nodeOk_ok (e : MTm) (hl : e.kids.length <= 1099511627776) (ht : nTy e.ty <= 1099511627776) (hf : nTy e.fr <= 1099511627776) : ACalls Try.prog 72 [aTm e] [] (.b (nodeM e)) [] [] := by
 have hop := operands_ok e.kind
 have hnm := isName_ok e.name
 have hty := TypeValid_ok e.ty ht
 have hnt := isNoType_ok e.ty
 have hnf := isNoType_ok e.fr
 have hcon := Consistent_ok e.fr e.ty hf ht
 have hlab := isLabel_ok e.label
 have hin0 := inM_ok e.num 0 0
 have hin9 := inM_ok e.num 0 999
 by_cases hkid : kidsM e.kind = e.kids.length
 rotate_left
 ·rw [show nodeM e = false by simp [nodeM, hkid]]
  refine ACalls.of_body Try.func72 (by kernel_rfl) rfl (by kernel_rfl) (by simp [Try.ntmps72]) (by simp) ?_
  rw [Try.ntmps72]
  repeat' first | ((first | refine aops_end (hK _ ?_) | refine aopsD_end (hK _ ?_)); clear hK K) | ((first | refine aops_go ?_ | refine aopsD_go ?_); simp [hkid]; (try (refine gen fun q hq => ?_; cases q <;> (try simp [hkid] at hq) <;> (try (have hh : True := hq; clear hh hq))))) | (refine wpcall_pure rfl (hop) ?_; simp [hkid]; (try first | (refine Ops.gen fun q hq => ?_; cases q <;> (try simp [hkid] at hq) <;> (try (have hh : True := hq; clear hh hq))) | (refine OpsD.gen fun q hq => ?_; cases q <;> (try simp [hkid] at hq) <;> (try (have hh : True := hq; clear hh hq))))) | (refine T.ret (Done.data (Or.inr rfl) ?_ ?_) <;> simp [Try.results72] <;> omega) | refine T.r0 fun K hK => ?_ | refine T.rd mixed (fun _ => false) [] (by kernel_rfl) fun K hK => ?_ | refine T.ct rfl ?_ | refine T.seq ?_
 rw [show nodeM e = ownM e by simp [nodeM, hkid]]
 rw [hkid] at hop
 rcases kind_cases e.kind with h1 | h1 | h1 | h1 | h1 | ⟨h1, h2, h3, h4, h5⟩
 ·have hr : ownM e = (nameM e.name && inM e.num 0 0 && noTyM e.ty && (noTyM e.fr && decide (e.label = 0))) := by simp [ownM, h1, namedM, typedM]
  rw [hr]
  rw [h1] at hop
  generalize inM e.num 0 0 = i0 at hin0
  refine ACalls.of_body Try.func72 (by kernel_rfl) rfl (by kernel_rfl) (by simp [Try.ntmps72]) (by simp) ?_
  rw [Try.ntmps72]
  repeat' first | ((first | refine aops_end (hK _ ?_) | refine aopsD_end (hK _ ?_)); clear hK K) | ((first | refine aops_go ?_ | refine aopsD_go ?_); simp [h1]; (try (refine gen fun q hq => ?_; cases q <;> (try simp [h1] at hq) <;> (try (have hh : True := hq; clear hh hq))))) | (refine wpcall_pure rfl (hop) ?_; simp [h1]; (try first | (refine Ops.gen fun q hq => ?_; cases q <;> (try simp [h1] at hq) <;> (try (have hh : True := hq; clear hh hq))) | (refine OpsD.gen fun q hq => ?_; cases q <;> (try simp [h1] at hq) <;> (try (have hh : True := hq; clear hh hq))))) | (refine wpcall_pure rfl (hnm) ?_; simp [h1]; (try first | (refine Ops.gen fun q hq => ?_; cases q <;> (try simp [h1] at hq) <;> (try (have hh : True := hq; clear hh hq))) | (refine OpsD.gen fun q hq => ?_; cases q <;> (try simp [h1] at hq) <;> (try (have hh : True := hq; clear hh hq))))) | (refine wpcall_pure rfl (hin0) ?_; simp [h1]; (try first | (refine Ops.gen fun q hq => ?_; cases q <;> (try simp [h1] at hq) <;> (try (have hh : True := hq; clear hh hq))) | (refine OpsD.gen fun q hq => ?_; cases q <;> (try simp [h1] at hq) <;> (try (have hh : True := hq; clear hh hq))))) | (refine wpcall_pure rfl (hnt) ?_; simp [h1]; (try first | (refine Ops.gen fun q hq => ?_; cases q <;> (try simp [h1] at hq) <;> (try (have hh : True := hq; clear hh hq))) | (refine OpsD.gen fun q hq => ?_; cases q <;> (try simp [h1] at hq) <;> (try (have hh : True := hq; clear hh hq))))) | (refine wpcall_pure rfl (hnf) ?_; simp [h1]; (try first | (refine Ops.gen fun q hq => ?_; cases q <;> (try simp [h1] at hq) <;> (try (have hh : True := hq; clear hh hq))) | (refine OpsD.gen fun q hq => ?_; cases q <;> (try simp [h1] at hq) <;> (try (have hh : True := hq; clear hh hq))))) | (refine T.ret (Done.data (Or.inr rfl) ?_ ?_) <;> simp [Try.results72, *] <;> omega) | refine T.r0 fun K hK => ?_ | refine T.r1 fun K hK => ?_ | refine T.rd mixed (fun _ => false) [] (by kernel_rfl) fun K hK => ?_ | refine T.ct rfl ?_ | refine T.cf rfl ?_ | refine T.seq ?_ | refine T.block ?_ | refine T.skip ?_
 ·have hr : ownM e = (nameM e.name && inM e.num 0 0 && shapeTy 4 e.ty && (noTyM e.fr && decide (e.label = 0))) := by simp [ownM, h1, namedM, typedM]
  rw [hr]
  rw [h1] at hop
  generalize inM e.num 0 0 = i0 at hin0
  refine ACalls.of_body Try.func72 (by kernel_rfl) rfl (by kernel_rfl) (by simp [Try.ntmps72]) (by simp) ?_
  rw [Try.ntmps72]
  repeat' first | ((first | refine aops_end (hK _ ?_) | refine aopsD_end (hK _ ?_)); clear hK K) | ((first | refine aops_go ?_ | refine aopsD_go ?_); simp [h1]; (try (refine gen fun q hq => ?_; cases q <;> (try simp [h1] at hq) <;> (try (have hh : True := hq; clear hh hq))))) | (refine wpcall_pure rfl (hop) ?_; simp [h1]; (try first | (refine Ops.gen fun q hq => ?_; cases q <;> (try simp [h1] at hq) <;> (try (have hh : True := hq; clear hh hq))) | (refine OpsD.gen fun q hq => ?_; cases q <;> (try simp [h1] at hq) <;> (try (have hh : True := hq; clear hh hq))))) | (refine wpcall_pure rfl (hnm) ?_; simp [h1]; (try first | (refine Ops.gen fun q hq => ?_; cases q <;> (try simp [h1] at hq) <;> (try (have hh : True := hq; clear hh hq))) | (refine OpsD.gen fun q hq => ?_; cases q <;> (try simp [h1] at hq) <;> (try (have hh : True := hq; clear hh hq))))) | (refine wpcall_pure rfl (hin0) ?_; simp [h1]; (try first | (refine Ops.gen fun q hq => ?_; cases q <;> (try simp [h1] at hq) <;> (try (have hh : True := hq; clear hh hq))) | (refine OpsD.gen fun q hq => ?_; cases q <;> (try simp [h1] at hq) <;> (try (have hh : True := hq; clear hh hq))))) | (refine wpcall_pure rfl (hty) ?_; simp [h1]; (try first | (refine Ops.gen fun q hq => ?_; cases q <;> (try simp [h1] at hq) <;> (try (have hh : True := hq; clear hh hq))) | (refine OpsD.gen fun q hq => ?_; cases q <;> (try simp [h1] at hq) <;> (try (have hh : True := hq; clear hh hq))))) | (refine wpcall_pure rfl (hnf) ?_; simp [h1]; (try first | (refine Ops.gen fun q hq => ?_; cases q <;> (try simp [h1] at hq) <;> (try (have hh : True := hq; clear hh hq))) | (refine OpsD.gen fun q hq => ?_; cases q <;> (try simp [h1] at hq) <;> (try (have hh : True := hq; clear hh hq))))) | (refine T.ret (Done.data (Or.inr rfl) ?_ ?_) <;> simp [Try.results72, *] <;> omega) | refine T.r0 fun K hK => ?_ | refine T.r1 fun K hK => ?_ | refine T.rd mixed (fun _ => false) [] (by kernel_rfl) fun K hK => ?_ | refine T.ct rfl ?_ | refine T.cf rfl ?_ | refine T.seq ?_ | refine T.block ?_ | refine T.skip ?_
 ·have hr : ownM e = (decide (e.name = []) && inM e.num 0 0 && shapeTy 4 e.ty && (noTyM e.fr && decide (e.label = 0))) := by simp [ownM, h1, namedM, typedM]
  rw [hr]
  rw [h1] at hop
  generalize inM e.num 0 0 = i0 at hin0
  refine ACalls.of_body Try.func72 (by kernel_rfl) rfl (by kernel_rfl) (by simp [Try.ntmps72]) (by simp) ?_
  rw [Try.ntmps72]
  repeat' first | ((first | refine aops_end (hK _ ?_) | refine aopsD_end (hK _ ?_)); clear hK K) | ((first | refine aops_go ?_ | refine aopsD_go ?_); simp [h1]; (try (refine gen fun q hq => ?_; cases q <;> (try simp [h1] at hq) <;> (try (have hh : True := hq; clear hh hq))))) | (refine wpcall_pure rfl (hop) ?_; simp [h1]; (try first | (refine Ops.gen fun q hq => ?_; cases q <;> (try simp [h1] at hq) <;> (try (have hh : True := hq; clear hh hq))) | (refine OpsD.gen fun q hq => ?_; cases q <;> (try simp [h1] at hq) <;> (try (have hh : True := hq; clear hh hq))))) | (refine wpcall_pure rfl (hin0) ?_; simp [h1]; (try first | (refine Ops.gen fun q hq => ?_; cases q <;> (try simp [h1] at hq) <;> (try (have hh : True := hq; clear hh hq))) | (refine OpsD.gen fun q hq => ?_; cases q <;> (try simp [h1] at hq) <;> (try (have hh : True := hq; clear hh hq))))) | (refine wpcall_pure rfl (hty) ?_; simp [h1]; (try first | (refine Ops.gen fun q hq => ?_; cases q <;> (try simp [h1] at hq) <;> (try (have hh : True := hq; clear hh hq))) | (refine OpsD.gen fun q hq => ?_; cases q <;> (try simp [h1] at hq) <;> (try (have hh : True := hq; clear hh hq))))) | (refine wpcall_pure rfl (hnf) ?_; simp [h1]; (try first | (refine Ops.gen fun q hq => ?_; cases q <;> (try simp [h1] at hq) <;> (try (have hh : True := hq; clear hh hq))) | (refine OpsD.gen fun q hq => ?_; cases q <;> (try simp [h1] at hq) <;> (try (have hh : True := hq; clear hh hq))))) | (refine T.ret (Done.data (Or.inr rfl) ?_ ?_) <;> simp [Try.results72, *] <;> omega) | refine T.r0 fun K hK => ?_ | refine T.r1 fun K hK => ?_ | refine T.rd mixed (fun _ => false) [] (by kernel_rfl) fun K hK => ?_ | refine T.ct rfl ?_ | refine T.cf rfl ?_ | refine T.seq ?_ | refine T.block ?_ | refine T.skip ?_
 ·have hr : ownM e = (decide (e.name = []) && inM e.num 0 0 && shapeTy 4 e.ty && ((shapeTy 4 e.fr && shapeTy 4 e.ty && consTy e.fr e.ty) && labM e.label)) := by simp [ownM, h1, namedM, typedM, castOwnM]
  rw [hr]
  rw [h1] at hop
  generalize inM e.num 0 0 = i0 at hin0
  generalize hg1 : (shapeTy 4 e.fr && shapeTy 4 e.ty && consTy e.fr e.ty) = g1 at hcon
  generalize labM e.label = g2 at hlab
  refine ACalls.of_body Try.func72 (by kernel_rfl) rfl (by kernel_rfl) (by simp [Try.ntmps72]) (by simp) ?_
  rw [Try.ntmps72]
  repeat' first | ((first | refine aops_end (hK _ ?_) | refine aopsD_end (hK _ ?_)); clear hK K) | ((first | refine aops_go ?_ | refine aopsD_go ?_); simp [h1]; (try (refine gen fun q hq => ?_; cases q <;> (try simp [h1] at hq) <;> (try (have hh : True := hq; clear hh hq))))) | (refine wpcall_pure rfl (hop) ?_; simp [h1]; (try first | (refine Ops.gen fun q hq => ?_; cases q <;> (try simp [h1] at hq) <;> (try (have hh : True := hq; clear hh hq))) | (refine OpsD.gen fun q hq => ?_; cases q <;> (try simp [h1] at hq) <;> (try (have hh : True := hq; clear hh hq))))) | (refine wpcall_pure rfl (hin0) ?_; simp [h1]; (try first | (refine Ops.gen fun q hq => ?_; cases q <;> (try simp [h1] at hq) <;> (try (have hh : True := hq; clear hh hq))) | (refine OpsD.gen fun q hq => ?_; cases q <;> (try simp [h1] at hq) <;> (try (have hh : True := hq; clear hh hq))))) | (refine wpcall_pure rfl (hty) ?_; simp [h1]; (try first | (refine Ops.gen fun q hq => ?_; cases q <;> (try simp [h1] at hq) <;> (try (have hh : True := hq; clear hh hq))) | (refine OpsD.gen fun q hq => ?_; cases q <;> (try simp [h1] at hq) <;> (try (have hh : True := hq; clear hh hq))))) | (refine wpcall_pure rfl (hcon) ?_; simp [h1]; (try first | (refine Ops.gen fun q hq => ?_; cases q <;> (try simp [h1] at hq) <;> (try (have hh : True := hq; clear hh hq))) | (refine OpsD.gen fun q hq => ?_; cases q <;> (try simp [h1] at hq) <;> (try (have hh : True := hq; clear hh hq))))) | (refine wpcall_pure rfl (hlab) ?_; simp [h1]; (try first | (refine Ops.gen fun q hq => ?_; cases q <;> (try simp [h1] at hq) <;> (try (have hh : True := hq; clear hh hq))) | (refine OpsD.gen fun q hq => ?_; cases q <;> (try simp [h1] at hq) <;> (try (have hh : True := hq; clear hh hq))))) | (refine T.ret (Done.data (Or.inr rfl) ?_ ?_) <;> simp [Try.results72, *] <;> omega) | refine T.r0 fun K hK => ?_ | refine T.r1 fun K hK => ?_ | refine T.rd mixed (fun _ => false) [] (by kernel_rfl) fun K hK => ?_ | refine T.ct rfl ?_ | refine T.cf rfl ?_ | refine T.seq ?_ | refine T.block ?_ | refine T.skip ?_
 ·have hr : ownM e = (decide (e.name = []) && inM e.num 0 999 && noTyM e.ty && (noTyM e.fr && decide (e.label = 0))) := by simp [ownM, h1, namedM, typedM]
  rw [hr]
  rw [h1] at hop
  generalize inM e.num 0 999 = i0 at hin9
  refine ACalls.of_body Try.func72 (by kernel_rfl) rfl (by kernel_rfl) (by simp [Try.ntmps72]) (by simp) ?_
  rw [Try.ntmps72]
  repeat' first | ((first | refine aops_end (hK _ ?_) | refine aopsD_end (hK _ ?_)); clear hK K) | ((first | refine aops_go ?_ | refine aopsD_go ?_); simp [h1]; (try (refine gen fun q hq => ?_; cases q <;> (try simp [h1] at hq) <;> (try (have hh : True := hq; clear hh hq))))) | (refine wpcall_pure rfl (hop) ?_; simp [h1]; (try first | (refine Ops.gen fun q hq => ?_; cases q <;> (try simp [h1] at hq) <;> (try (have hh : True := hq; clear hh hq))) | (refine OpsD.gen fun q hq => ?_; cases q <;> (try simp [h1] at hq) <;> (try (have hh : True := hq; clear hh hq))))) | (refine wpcall_pure rfl (hin9) ?_; simp [h1]; (try first | (refine Ops.gen fun q hq => ?_; cases q <;> (try simp [h1] at hq) <;> (try (have hh : True := hq; clear hh hq))) | (refine OpsD.gen fun q hq => ?_; cases q <;> (try simp [h1] at hq) <;> (try (have hh : True := hq; clear hh hq))))) | (refine wpcall_pure rfl (hnt) ?_; simp [h1]; (try first | (refine Ops.gen fun q hq => ?_; cases q <;> (try simp [h1] at hq) <;> (try (have hh : True := hq; clear hh hq))) | (refine OpsD.gen fun q hq => ?_; cases q <;> (try simp [h1] at hq) <;> (try (have hh : True := hq; clear hh hq))))) | (refine wpcall_pure rfl (hnf) ?_; simp [h1]; (try first | (refine Ops.gen fun q hq => ?_; cases q <;> (try simp [h1] at hq) <;> (try (have hh : True := hq; clear hh hq))) | (refine OpsD.gen fun q hq => ?_; cases q <;> (try simp [h1] at hq) <;> (try (have hh : True := hq; clear hh hq))))) | (refine T.ret (Done.data (Or.inr rfl) ?_ ?_) <;> simp [Try.results72, *] <;> omega) | refine T.r0 fun K hK => ?_ | refine T.r1 fun K hK => ?_ | refine T.rd mixed (fun _ => false) [] (by kernel_rfl) fun K hK => ?_ | refine T.ct rfl ?_ | refine T.cf rfl ?_ | refine T.seq ?_ | refine T.block ?_ | refine T.skip ?_
 ·have hr : ownM e = (decide (e.name = []) && inM e.num 0 0 && noTyM e.ty && (noTyM e.fr && decide (e.label = 0))) := by simp [ownM, h1, h2, h3, h4, h5, namedM, typedM]
  rw [hr]
  generalize inM e.num 0 0 = i0 at hin0
  refine ACalls.of_body Try.func72 (by kernel_rfl) rfl (by kernel_rfl) (by simp [Try.ntmps72]) (by simp) ?_
  rw [Try.ntmps72]
  repeat' first | ((first | refine aops_end (hK _ ?_) | refine aopsD_end (hK _ ?_)); clear hK K) | ((first | refine aops_go ?_ | refine aopsD_go ?_); simp [h1, h2, h3, h4, h5]; (try (refine gen fun q hq => ?_; cases q <;> (try simp [h1, h2, h3, h4, h5] at hq) <;> (try (have hh : True := hq; clear hh hq))))) | (refine wpcall_pure rfl (hop) ?_; simp [h1, h2, h3, h4, h5]; (try first | (refine Ops.gen fun q hq => ?_; cases q <;> (try simp [h1, h2, h3, h4, h5] at hq) <;> (try (have hh : True := hq; clear hh hq))) | (refine OpsD.gen fun q hq => ?_; cases q <;> (try simp [h1, h2, h3, h4, h5] at hq) <;> (try (have hh : True := hq; clear hh hq))))) | (refine wpcall_pure rfl (hin0) ?_; simp [h1, h2, h3, h4, h5]; (try first | (refine Ops.gen fun q hq => ?_; cases q <;> (try simp [h1, h2, h3, h4, h5] at hq) <;> (try (have hh : True := hq; clear hh hq))) | (refine OpsD.gen fun q hq => ?_; cases q <;> (try simp [h1, h2, h3, h4, h5] at hq) <;> (try (have hh : True := hq; clear hh hq))))) | (refine wpcall_pure rfl (hnt) ?_; simp [h1, h2, h3, h4, h5]; (try first | (refine Ops.gen fun q hq => ?_; cases q <;> (try simp [h1, h2, h3, h4, h5] at hq) <;> (try (have hh : True := hq; clear hh hq))) | (refine OpsD.gen fun q hq => ?_; cases q <;> (try simp [h1, h2, h3, h4, h5] at hq) <;> (try (have hh : True := hq; clear hh hq))))) | (refine wpcall_pure rfl (hnf) ?_; simp [h1, h2, h3, h4, h5]; (try first | (refine Ops.gen fun q hq => ?_; cases q <;> (try simp [h1, h2, h3, h4, h5] at hq) <;> (try (have hh : True := hq; clear hh hq))) | (refine OpsD.gen fun q hq => ?_; cases q <;> (try simp [h1, h2, h3, h4, h5] at hq) <;> (try (have hh : True := hq; clear hh hq))))) | (refine T.ret (Done.data (Or.inr rfl) ?_ ?_) <;> simp [Try.results72, *] <;> omega) | refine T.r0 fun K hK => ?_ | refine T.r1 fun K hK => ?_ | refine T.rd mixed (fun _ => false) [] (by kernel_rfl) fun K hK => ?_ | refine T.ct rfl ?_ | refine T.cf rfl ?_ | refine T.seq ?_ | refine T.block ?_ | refine T.skip ?_
end Go.Proofs.Ytflmjilnecanhaa

namespace Go.Proofs.Ytflmjilnecanhaa
attribute [-simp] Go.Av.freeStep Go.Av.exV Go.Av.keepL Go.Av.ups Go.Av.take_app_len Go.Av.innVs Go.Av.putBack Go.Av.objCells Go.Av.back Go.Av.resVs Go.Av.one Go.Av.freeStepG Go.Av.exA Go.Av.innAsH Go.Av.AV.innH Go.Av.CV.innH Go.Av.innHs Go.Av.AV.outnH Go.Av.CV.outnH
open Go Go.Av
attribute [local irreducible] T ACalls eTy eTm MTy.kind MTy.kids MTm.kind MTm.name MTm.num MTm.ty MTm.fr MTm.label MTm.kids
attribute [local simp] eTy_def eTm_def
set_option maxHeartbeats 4000000

theorem nTm_parts {e : MTm} (h : nTm e <= 1099511627776) : nTy e.ty <= 1099511627776 /\ nTy e.fr <= 1099511627776 /\ e.kids.length <= 1099511627776 /\ ∀ u ∈ e.kids, nTm u <= 1099511627776 := by
 rw [nTm_def] at h
 have := nTmS_len e.kids
 exact ⟨by omega, by omega, by omega, fun u hu => by have := nTmS_mem hu; omega⟩

theorem l2Count_ok : ∀ (d : Nat) (e : MTm), d <= 1000 -> nTm e <= 1099511627776 -> ACalls Try.prog 45 [aTm e, .i d] [] (.i (countTm d e)) [] []
 | 0, e, _, hn => by
  obtain ⟨hnt, hnf, hnk, hnu⟩ := nTm_parts hn
  refine ACalls.of_body Try.func45 (by kernel_rfl) rfl (by kernel_rfl) (by simp [Try.ntmps45]) (by simp) ?_
  rw [Try.ntmps45]
  repeat' first | (refine aops_end (hK _ ?_); clear hK K) | (refine aops_go ?_; simp; (try (refine gen fun q hq => ?_; cases q <;> (try simp at hq) <;> (try (have hh : True := hq; clear hh hq))))) | refine T.r0 fun K hK => ?_ | refine T.seq ?_ | refine T.block ?_
  refine T.loopF (fun _ : Unit => ⟨[(1, .i 0), (2, .c (.ptr 0 0)), (5, .i 1), (6, .i 0)], [(aTm e).cells], []⟩) (fun _ => 0) (fun _ => True) (fun _ _ => ?_) () trivial (by simp)
  repeat' first | (refine aops_end (hK _ ?_); clear hK K) | (refine aops_go ?_; simp; (try simp (disch := omega) only [wrap64]); (try (refine gen fun q hq => ?_; cases q <;> (try simp at hq) <;> (try (have hh : True := hq; clear hh hq))))) | (refine T.ret (Done.data (Or.inr rfl) ?_ ?_) <;> simp [Try.results45, countTm] <;> omega) | refine T.r0 fun K hK => ?_ | refine T.cf rfl ?_ | refine T.seq ?_ | refine T.exit ?_
 | d + 1, e, hd, hn => by
  obtain ⟨hnt, hnf, hnk, hnu⟩ := nTm_parts hn
  have hd1 : (0 : Int) < (d : Int) + 1 := by omega
  have hcl := countTm_le (d + 1) e
  obtain ⟨R, hR⟩ : ∃ R, countTm (d + 1) e = R := ⟨_, rfl⟩
  rw [hR] at hcl ⊢
  refine ACalls.of_body Try.func45 (by kernel_rfl) rfl (by kernel_rfl) (by simp [Try.ntmps45]) (by simp) ?_
  rw [Try.ntmps45]
  repeat' first | (refine aops_end (hK _ ?_); clear hK K) | (refine aops_go ?_; simp; (try (refine gen fun q hq => ?_; cases q <;> (try simp at hq) <;> (try (have hh : True := hq; clear hh hq))))) | refine T.r0 fun K hK => ?_ | refine T.seq ?_ | refine T.block ?_
  refine T.loopF (fun x : Nat × Nat => ⟨[(1, .i (d + 1)), (2, .c (.ptr 0 0)), (5, .i x.2), (6, .i x.1)], [(aTm e).cells], []⟩) (fun x => e.kids.length + 1 - x.1) (fun x => x.1 <= e.kids.length /\ x.2 + ((e.kids.drop x.1).map (countTm d)).sum = R) (fun x hx => ?_) (0, 1) (by simpa [countTm] using hR) (by simp)
  obtain ⟨p, k⟩ := x
  obtain ⟨hi, he⟩ := hx
  dsimp only at hi he ⊢
  by_cases hlt : p < e.kids.length
  ·obtain ⟨u, ht⟩ := get_lt hlt
   have htm : u ∈ e.kids := List.mem_of_getElem? ht
   have hgt : e.kids[p] = u := by rw [List.getElem?_eq_getElem hlt] at ht; exact Option.some.inj ht
   have hdr : e.kids.drop p = u :: e.kids.drop (p + 1) := by rw [List.drop_eq_getElem_cons hlt, hgt]
   have hu := l2Count_ok d u (by omega) (hnu u htm)
   rw [hdr, List.map_cons, List.sum_cons] at he
   generalize countTm d u = cu at hu he
   repeat' first | (refine aops_end (hK _ ?_); clear hK K) | (refine aops_go ?_; simp [hlt, hgt, hd1]; (try simp (disch := omega) only [wrap64]); (try (refine gen fun q hq => ?_; cases q <;> (try simp [hlt, hgt, hd1] at hq) <;> (try (have hh : True := hq; clear hh hq))))) | (refine wpcall_pure rfl (hu) ?_; simp [hlt, hgt, hd1]; (try simp (disch := omega) only [wrap64]); (try first | (refine Ops.gen fun q hq => ?_; cases q <;> (try simp [hlt, hgt, hd1] at hq) <;> (try (have hh : True := hq; clear hh hq))) | (refine OpsD.gen fun q hq => ?_; cases q <;> (try simp [hlt, hgt, hd1] at hq) <;> (try (have hh : True := hq; clear hh hq))))) | (refine ⟨(p + 1, k + cu), by dsimp only; omega, ⟨by dsimp only; omega, by dsimp only; omega⟩, rfl, rfl, ?_⟩; simp (disch := omega) [wrap64]) | refine T.r0 fun K hK => ?_ | refine T.r1 fun K hK => ?_ | refine T.ct rfl ?_ | refine T.seq ?_ | refine T.block ?_ | refine T.skip ?_
  ·have hp' : p = e.kids.length := by omega
   subst hp'
   simp at he
   repeat' first | (refine aops_end (hK _ ?_); clear hK K) | (refine aops_go ?_; simp [hlt]; (try (refine gen fun q hq => ?_; cases q <;> (try simp [hlt] at hq) <;> (try (have hh : True := hq; clear hh hq))))) | (refine T.ret (Done.data (Or.inr rfl) ?_ ?_) <;> simp [Try.results45, he] <;> omega) | refine T.r0 fun K hK => ?_ | refine T.cf rfl ?_ | refine T.seq ?_ | refine T.exit ?_

theorem scan_ok (mn md nt : Int) (hmn : mn <= 1000) (hmd : md <= 1000) : ∀ (e : MTm), nTm e <= 1099511627776 -> ∀ (deep c : Int), 0 <= c -> c <= 1000 -> 0 <= deep ->
  ACalls Try.prog 52 [aTm e, .i deep, .i mn, .i md, .i nt, .c (.ptr 0 0)] (dV [[.i c]]) (.b (scanM mn md nt deep e c).1) (dV [[.i (scanM mn md nt deep e c).2]]) [] := by
 intro e
 induction e using MTm.ind with
 | h e ih =>
  intro hn deep c h0 hc hdp
  obtain ⟨hnt, hnf, hnk, hnu⟩ := nTm_parts hn
  have hnode := nodeOk_ok e hnk hnt hnf
  rw [scanM_def]
  by_cases q1 : mn < c + 1
  ·rw [if_pos (by simp [q1])]
   refine ACalls.of_body Try.func52 (by kernel_rfl) rfl (by kernel_rfl) (by simp [Try.ntmps52]) (by simp) ?_
   rw [Try.ntmps52]
   repeat' first | (refine aops_end (hK _ ?_); clear hK K) | (refine aops_go ?_; simp [q1]; (try simp (disch := omega) only [wrap64]); (try (refine gen fun q hq => ?_; cases q <;> (try simp [q1] at hq) <;> (try (have hh : True := hq; clear hh hq))))) | (refine T.ret (Done.obj1 (Or.inr rfl) ?_ ?_ ?_) <;> simp [Try.results52] <;> omega) | refine T.r0 fun K hK => ?_ | refine T.ct rfl ?_ | refine T.seq ?_
  by_cases q2 : md < deep
  ·rw [if_pos (by simp [q2])]
   refine ACalls.of_body Try.func52 (by kernel_rfl) rfl (by kernel_rfl) (by simp [Try.ntmps52]) (by simp) ?_
   rw [Try.ntmps52]
   repeat' first | (refine aops_end (hK _ ?_); clear hK K) | (refine aops_go ?_; simp [q1, q2]; (try simp (disch := omega) only [wrap64]); (try (refine gen fun q hq => ?_; cases q <;> (try simp [q1, q2] at hq) <;> (try (have hh : True := hq; clear hh hq))))) | (refine T.ret (Done.obj1 (Or.inr rfl) ?_ ?_ ?_) <;> simp [Try.results52] <;> omega) | refine T.r0 fun K hK => ?_ | refine T.ct rfl ?_ | refine T.seq ?_
  by_cases q3 : e.kind = nt
  ·rw [if_pos (by simp [q3])]
   refine ACalls.of_body Try.func52 (by kernel_rfl) rfl (by kernel_rfl) (by simp [Try.ntmps52]) (by simp) ?_
   rw [Try.ntmps52]
   repeat' first | (refine aops_end (hK _ ?_); clear hK K) | (refine aops_go ?_; simp [q1, q2, q3]; (try simp (disch := omega) only [wrap64]); (try (refine gen fun q hq => ?_; cases q <;> (try simp [q1, q2, q3] at hq) <;> (try (have hh : True := hq; clear hh hq))))) | (refine T.ret (Done.obj1 (Or.inr rfl) ?_ ?_ ?_) <;> simp [Try.results52] <;> omega) | refine T.r0 fun K hK => ?_ | refine T.ct rfl ?_ | refine T.seq ?_
  cases hN : nodeM e
  ·rw [if_pos (by simp)]
   rw [hN] at hnode
   refine ACalls.of_body Try.func52 (by kernel_rfl) rfl (by kernel_rfl) (by simp [Try.ntmps52]) (by simp) ?_
   rw [Try.ntmps52]
   repeat' first | (refine aops_end (hK _ ?_); clear hK K) | (refine aops_go ?_; simp [q1, q2, q3]; (try simp (disch := omega) only [wrap64]); (try (refine gen fun q hq => ?_; cases q <;> (try simp [q1, q2, q3] at hq) <;> (try (have hh : True := hq; clear hh hq))))) | (refine wpcall_pure rfl (hnode) ?_; simp [q1, q2, q3]; (try simp (disch := omega) only [wrap64]); (try first | (refine Ops.gen fun q hq => ?_; cases q <;> (try simp [q1, q2, q3] at hq) <;> (try (have hh : True := hq; clear hh hq))) | (refine OpsD.gen fun q hq => ?_; cases q <;> (try simp [q1, q2, q3] at hq) <;> (try (have hh : True := hq; clear hh hq))))) | (refine T.ret (Done.obj1 (Or.inr rfl) ?_ ?_ ?_) <;> simp [Try.results52] <;> omega) | refine T.r0 fun K hK => ?_ | refine T.ct rfl ?_ | refine T.seq ?_
  rw [hN] at hnode
  rw [if_neg (by simp [q1, q2, q3])]
  obtain ⟨R, hR⟩ : ∃ R, scanS mn md nt (deep + 1) e.kids (c + 1) = R := ⟨_, rfl⟩
  rw [hR]
  refine ACalls.of_body Try.func52 (by kernel_rfl) rfl (by kernel_rfl) (by simp [Try.ntmps52]) (by simp) ?_
  rw [Try.ntmps52]
  repeat' first | (refine aops_end (hK _ ?_); clear hK K) | (refine aops_go ?_; simp [q1, q2, q3]; (try simp (disch := omega) only [wrap64]); (try (refine gen fun q hq => ?_; cases q <;> (try simp [q1, q2, q3] at hq) <;> (try (have hh : True := hq; clear hh hq))))) | (refine wpcall_pure rfl (hnode) ?_; simp [q1, q2, q3]; (try simp (disch := omega) only [wrap64]); (try first | (refine Ops.gen fun q hq => ?_; cases q <;> (try simp [q1, q2, q3] at hq) <;> (try (have hh : True := hq; clear hh hq))) | (refine OpsD.gen fun q hq => ?_; cases q <;> (try simp [q1, q2, q3] at hq) <;> (try (have hh : True := hq; clear hh hq))))) | refine T.r0 fun K hK => ?_ | refine T.cf rfl ?_ | refine T.seq ?_ | refine T.block ?_ | refine T.skip ?_
  refine T.loopF (fun x : Nat × Int × List (List CV) => ⟨[(1, .i deep), (2, .i mn), (3, .i md), (4, .i nt), (5, .c (.ptr 0 0)), (6, .c (.ptr 1 0)), (42, .l (e.kids.map eTm)), (43, .i e.kids.length), (44, .i x.1)], [.d (.i x.2.1)] :: (aTm e).cells :: x.2.2, []⟩) (fun x => e.kids.length + 1 - x.1) (fun x => x.1 <= e.kids.length /\ 0 <= x.2.1 /\ x.2.1 <= mn /\ scanS mn md nt (deep + 1) (e.kids.drop x.1) x.2.1 = R) (fun x hx => ?_) (0, c + 1, []) (by simpa using ⟨by omega, by omega, hR⟩) (by simp)
  obtain ⟨p, k, G⟩ := x
  obtain ⟨hi, hk0, hk1, he⟩ := hx
  dsimp only at hi hk0 hk1 he ⊢
  by_cases hlt : p < e.kids.length
  ·obtain ⟨u, ht⟩ := get_lt hlt
   have htm : u ∈ e.kids := List.mem_of_getElem? ht
   have hgt : e.kids[p] = u := by rw [List.getElem?_eq_getElem hlt] at ht; exact Option.some.inj ht
   have hdr : e.kids.drop p = u :: e.kids.drop (p + 1) := by rw [List.drop_eq_getElem_cons hlt, hgt]
   have hu := ih u htm (hnu u htm) (deep + 1) k hk0 (by omega) (by omega)
   have hle := scanM_le mn md nt u (deep + 1) k hk0
   rw [hdr, scanS] at he
   generalize scanM mn md nt (deep + 1) u k = r at hu hle he
   obtain ⟨b, k'⟩ := r
   dsimp only at hu hle he
   cases b
   ·repeat' first | (refine aops_end (hK _ ?_); clear hK K) | (refine aops_go ?_; simp [hlt, hgt]; (try simp (disch := omega) only [wrap64]); (try (refine gen fun q hq => ?_; cases q <;> (try simp [hlt, hgt] at hq) <;> (try (have hh : True := hq; clear hh hq))))) | (refine wpcall_upd1 0 [.i k] [.i k'] rfl rfl hu ?_; simp) | (refine T.ret (Done.obj1 (Or.inr rfl) ?_ ?_ ?_) <;> simp [Try.results52, <- he] <;> omega) | refine T.r0 fun K hK => ?_ | refine T.ct rfl ?_ | refine T.seq ?_ | refine T.block ?_ | refine T.skip ?_
   ·obtain ⟨hle1, hle2⟩ := hle rfl
    repeat' first | (refine aops_end (hK _ ?_); clear hK K) | (refine aops_go ?_; simp [hlt, hgt]; (try simp (disch := omega) only [wrap64]); (try (refine gen fun q hq => ?_; cases q <;> (try simp [hlt, hgt] at hq) <;> (try (have hh : True := hq; clear hh hq))))) | (refine wpcall_upd1 0 [.i k] [.i k'] rfl rfl hu ?_; simp) | (refine ⟨(p + 1, k', _), by dsimp only; omega, ⟨by dsimp only; omega, hle1, hle2, by simpa using he⟩, rfl, rfl, ?_⟩; simp (disch := omega) [wrap64]) | refine T.r0 fun K hK => ?_ | refine T.r1 fun K hK => ?_ | refine T.ct rfl ?_ | refine T.cf rfl ?_ | refine T.seq ?_ | refine T.block ?_ | refine T.skip ?_
  ·have hp' : p = e.kids.length := by omega
   subst hp'
   simp [scanS] at he
   repeat' first | (refine aops_end (hK _ ?_); clear hK K) | (refine aops_go ?_; simp [hlt]; (try (refine gen fun q hq => ?_; cases q <;> (try simp [hlt] at hq) <;> (try (have hh : True := hq; clear hh hq))))) | (refine T.ret (Done.obj1 (Or.inr rfl) ?_ ?_ ?_) <;> simp [Try.results52, <- he] <;> omega) | refine T.r0 fun K hK => ?_ | refine T.cf rfl ?_ | refine T.seq ?_ | refine T.exit ?_

end Go.Proofs.Ytflmjilnecanhaa

namespace Go.Proofs.Ytflmjilnecanhaa
attribute [-simp] Go.Av.keepL Go.Av.ups Go.Av.take_app_len Go.Av.innVs Go.Av.putBack Go.Av.objCells Go.Av.back Go.Av.resVs Go.Av.one Go.Av.freeStepG Go.Av.exA Go.Av.innAsH Go.Av.AV.innH Go.Av.CV.innH Go.Av.innHs Go.Av.AV.outnH Go.Av.CV.outnH
open Go Go.Av
attribute [local irreducible] T ACalls eTy eTm MTy.kind MTy.kids MTm.kind MTm.name MTm.num MTm.ty MTm.fr MTm.label MTm.kids
attribute [local simp] eTy_def eTm_def
set_option maxHeartbeats 4000000
attribute [local simp] Option.bind

theorem l1Any_ok : ACalls Try.prog 49 [] [] (aTy anyT) [] [] := by
 refine ACalls.of_body Try.func49 (by kernel_rfl) rfl (by kernel_rfl) (by simp [Try.ntmps49]) (by simp) ?_
 rw [Try.ntmps49]
 repeat' first | (refine aops_end (hK _ ?_); clear hK K) | (refine aops_go ?_; simp; (try (refine gen fun q hq => ?_; cases q <;> (try simp at hq) <;> (try (have hh : True := hq; clear hh hq))))) | (refine T.ret (Done.val (Or.inr rfl) ?_) <;> simp [resAs, Try.results49] <;> omega) | refine T.r0 fun K hK => ?_

end Go.Proofs.Ytflmjilnecanhaa

namespace Go.Proofs.Ytflmjilnecanhaa
attribute [-simp] Go.Av.keepL Go.Av.ups Go.Av.take_app_len Go.Av.innVs Go.Av.putBack Go.Av.objCells Go.Av.back Go.Av.resVs Go.Av.one Go.Av.freeStepG Go.Av.exA Go.Av.innAsH Go.Av.AV.innH Go.Av.CV.innH Go.Av.innHs Go.Av.AV.outnH Go.Av.CV.outnH
open Go Go.Av
attribute [local irreducible] T ACalls eTy eTm MTy.kind MTy.kids MTm.kind MTm.name MTm.num MTm.ty MTm.fr MTm.label MTm.kids
attribute [local simp] eTy_def eTm_def
set_option maxHeartbeats 4000000

@[simp] theorem td_bindS : td Try.prog 106 = some { ag := false, sz := 1, by_ := 24, zero := some [.nil], el := some 109, ar := none, fl := [], ik := none, isS := false, isB := false } := keep (by kernel_rfl)
@[simp] theorem td_bind : td Try.prog 109 = some { ag := true, sz := 3, by_ := 48, zero := some [.d (.str []), .d (.int .i64 0), .nil], el := none, ar := none, fl := [(0, 1), (1, 2)], ik := none, isS := false, isB := false } := keep (by kernel_rfl)

end Go.Proofs.Ytflmjilnecanhaa

namespace Go.Proofs.Ytflmjilnecanhaa
attribute [-simp] Go.Av.keepL Go.Av.ups Go.Av.take_app_len Go.Av.innVs Go.Av.putBack Go.Av.objCells Go.Av.back Go.Av.resVs Go.Av.one Go.Av.freeStepG Go.Av.exA Go.Av.innAsH Go.Av.AV.innH Go.Av.CV.innH Go.Av.innHs Go.Av.AV.outnH Go.Av.CV.outnH
open Go Go.Av
attribute [local irreducible] T ACalls eTy eTm MTy.kind MTy.kids MTm.kind MTm.name MTm.num MTm.ty MTm.fr MTm.label MTm.kids
attribute [local simp] eTy_def eTm_def
set_option maxHeartbeats 4000000

theorem l2Shape_ok : ∀ (d : Nat) (e : MTm), d <= 1000 -> nTm e <= 1099511627776 -> ACalls Try.prog 44 [aTm e, .i d] [] (.b (shapeTm 14 d e)) [] []
 | 0, e, _, _ => by
  refine ACalls.of_body Try.func44 (by kernel_rfl) rfl (by kernel_rfl) (by simp [Try.ntmps44]) (by simp) ?_
  rw [Try.ntmps44]
  repeat' first | ((first | refine aops_end (hK _ ?_) | refine aopsD_end (hK _ ?_)); clear hK K) | ((first | refine aops_go ?_ | refine aopsD_go ?_); simp; (try (refine gen fun q hq => ?_; cases q <;> (try simp at hq) <;> (try (have hh : True := hq; clear hh hq))))) | (refine T.ret (Done.data (Or.inr rfl) ?_ ?_) <;> simp [Try.results44, shapeTm] <;> omega) | refine T.rd (id := 1) mixed (fun _ => false) [] (by kernel_rfl) fun K hK => ?_ | refine T.r0 fun K hK => ?_ | refine T.ct rfl ?_ | refine T.seq ?_
 | d + 1, e, hd, hn => by
  obtain ⟨hnt, hnf, hnk, hnu⟩ := nTm_parts hn
  have hkids := l2Kids_ok e.kind
  have hd1 : ¬ ((d : Int) + 1 < 1) := by omega
  have hsh : shapeTm 14 (d + 1) e = (decide (e.kind ≠ 14) && (decide (kidsM e.kind = e.kids.length) && ownM e) && e.kids.all (shapeTm 14 d)) := rfl
  by_cases hk14 : e.kind = 14
  ·rw [hk14] at hkids
   rw [show shapeTm 14 (d + 1) e = false by rw [hsh]; simp [hk14]]
   refine ACalls.of_body Try.func44 (by kernel_rfl) rfl (by kernel_rfl) (by simp [Try.ntmps44]) (by simp) ?_
   rw [Try.ntmps44]
   repeat' first | ((first | refine aops_end (hK _ ?_) | refine aopsD_end (hK _ ?_)); clear hK K) | ((first | refine aops_go ?_ | refine aopsD_go ?_); simp [hd1, hk14]; (try (refine gen fun q hq => ?_; cases q <;> (try simp [hd1, hk14] at hq) <;> (try (have hh : True := hq; clear hh hq))))) | (refine wpcall_pure rfl (hkids) ?_; simp [hd1, hk14]; (try (refine gen fun q hq => ?_; cases q <;> (try simp [hd1, hk14] at hq) <;> (try (have hh : True := hq; clear hh hq))))) | (refine T.ret (Done.data (Or.inr rfl) ?_ ?_) <;> simp [Try.results44] <;> omega) | refine T.rd (id := 1) mixed (fun _ => false) [] (by kernel_rfl) fun K hK => ?_ | refine T.r0 fun K hK => ?_ | refine T.ct rfl ?_ | refine T.seq ?_
  by_cases hlen : kidsM e.kind = e.kids.length
  rotate_left
  ·rw [show shapeTm 14 (d + 1) e = false by rw [hsh]; simp [hlen]]
   refine ACalls.of_body Try.func44 (by kernel_rfl) rfl (by kernel_rfl) (by simp [Try.ntmps44]) (by simp) ?_
   rw [Try.ntmps44]
   repeat' first | ((first | refine aops_end (hK _ ?_) | refine aopsD_end (hK _ ?_)); clear hK K) | ((first | refine aops_go ?_ | refine aopsD_go ?_); simp [hd1, hlen]; (try (refine gen fun q hq => ?_; cases q <;> (try simp [hd1, hlen] at hq) <;> (try (have hh : True := hq; clear hh hq))))) | (refine wpcall_pure rfl (hkids) ?_; simp [hd1, hlen]; (try (refine gen fun q hq => ?_; cases q <;> (try simp [hd1, hlen] at hq) <;> (try (have hh : True := hq; clear hh hq))))) | (refine T.ret (Done.data (Or.inr rfl) ?_ ?_) <;> simp [Try.results44] <;> omega) | refine T.rd (id := 1) mixed (fun _ => false) [] (by kernel_rfl) fun K hK => ?_ | refine T.r0 fun K hK => ?_ | refine T.ct rfl ?_ | refine T.seq ?_
  rw [hlen] at hkids
  have hsh2 : shapeTm 14 (d + 1) e = (ownM e && e.kids.all (shapeTm 14 d)) := by rw [hsh]; simp [hk14, hlen]
  have hown := l2Own_ok e hk14 hnt
  obtain ⟨R, hR⟩ : ∃ R, e.kids.all (shapeTm 14 d) = R := ⟨_, rfl⟩
  rw [hsh2, hR]
  generalize ownM e = O at hown
  clear hsh hsh2
  cases O
  ·refine ACalls.of_body Try.func44 (by kernel_rfl) rfl (by kernel_rfl) (by simp [Try.ntmps44]) (by simp) ?_
   rw [Try.ntmps44]
   repeat' first | ((first | refine aops_end (hK _ ?_) | refine aopsD_end (hK _ ?_)); clear hK K) | ((first | refine aops_go ?_ | refine aopsD_go ?_); simp [hd1, hk14]; (try (refine gen fun q hq => ?_; cases q <;> (try simp [hd1, hk14] at hq) <;> (try (have hh : True := hq; clear hh hq))))) | (refine wpcall_pure rfl (hkids) ?_; simp [hd1, hk14]; (try (refine gen fun q hq => ?_; cases q <;> (try simp [hd1, hk14] at hq) <;> (try (have hh : True := hq; clear hh hq))))) | (refine wpcall_pure rfl (hown) ?_; simp [hd1, hk14]; (try (refine gen fun q hq => ?_; cases q <;> (try simp [hd1, hk14] at hq) <;> (try (have hh : True := hq; clear hh hq))))) | (refine T.ret (Done.data (Or.inr rfl) ?_ ?_) <;> simp [Try.results44] <;> omega) | refine T.rd (id := 1) mixed (fun _ => false) [] (by kernel_rfl) fun K hK => ?_ | refine T.r0 fun K hK => ?_ | refine T.ct rfl ?_ | refine T.seq ?_
  refine ACalls.of_body Try.func44 (by kernel_rfl) rfl (by kernel_rfl) (by simp [Try.ntmps44]) (by simp) ?_
  rw [Try.ntmps44]
  repeat' first | ((first | refine aops_end (hK _ ?_) | refine aopsD_end (hK _ ?_)); clear hK K) | ((first | refine aops_go ?_ | refine aopsD_go ?_); simp [hd1, hk14]; (try (refine gen fun q hq => ?_; cases q <;> (try simp [hd1, hk14] at hq) <;> (try (have hh : True := hq; clear hh hq))))) | (refine wpcall_pure rfl (hkids) ?_; simp [hd1, hk14]; (try (refine gen fun q hq => ?_; cases q <;> (try simp [hd1, hk14] at hq) <;> (try (have hh : True := hq; clear hh hq))))) | (refine wpcall_pure rfl (hown) ?_; simp [hd1, hk14]; (try (refine gen fun q hq => ?_; cases q <;> (try simp [hd1, hk14] at hq) <;> (try (have hh : True := hq; clear hh hq))))) | refine T.rd (id := 1) mixed (fun _ => false) [] (by kernel_rfl) fun K hK => ?_ | refine T.r0 fun K hK => ?_ | refine T.cf rfl ?_ | refine T.seq ?_ | refine T.block ?_ | refine T.skip ?_
  rw [Bool.true_and]
  refine T.loopF (fun p : Nat => ⟨[(1, .i (d + 1)), (2, .c (.ptr 0 0)), (5, .i p)], [(aTm e).cells], []⟩) (fun p => e.kids.length + 1 - p) (fun p => p <= e.kids.length /\ (e.kids.drop p).all (shapeTm 14 d) = R) (fun p hp => ?_) 0 (by simpa using hR) (by simp)
  obtain ⟨hi, he⟩ := hp
  by_cases hlt : p < e.kids.length
  ·obtain ⟨u, ht⟩ := get_lt hlt
   have htm : u ∈ e.kids := List.mem_of_getElem? ht
   have hgt : e.kids[p] = u := by rw [List.getElem?_eq_getElem hlt] at ht; exact Option.some.inj ht
   have hdr : e.kids.drop p = u :: e.kids.drop (p + 1) := by rw [List.drop_eq_getElem_cons hlt, hgt]
   have hu := l2Shape_ok d u (by omega) (hnu u htm)
   rw [hdr, List.all_cons] at he
   cases hb : shapeTm 14 d u <;> rw [hb] at hu he
   ·repeat' first | (refine aops_end (hK _ ?_); clear hK K) | (refine aops_go ?_; simp [hlt, hgt]; (try simp (disch := omega) only [wrap64]); (try (refine gen fun q hq => ?_; cases q <;> (try simp [hlt, hgt] at hq) <;> (try (have hh : True := hq; clear hh hq))))) | (refine wpcall_pure rfl (hu) ?_; simp [hlt, hgt]; (try simp (disch := omega) only [wrap64]); (try (refine gen fun q hq => ?_; cases q <;> (try simp [hlt, hgt] at hq) <;> (try (have hh : True := hq; clear hh hq))))) | (refine T.ret (Done.data (Or.inr rfl) ?_ ?_) <;> simp [Try.results44, <- he] <;> omega) | refine T.r0 fun K hK => ?_ | refine T.ct rfl ?_ | refine T.seq ?_ | refine T.block ?_ | refine T.skip ?_
   ·repeat' first | (refine aops_end (hK _ ?_); clear hK K) | (refine aops_go ?_; simp [hlt, hgt]; (try simp (disch := omega) only [wrap64]); (try (refine gen fun q hq => ?_; cases q <;> (try simp [hlt, hgt] at hq) <;> (try (have hh : True := hq; clear hh hq))))) | (refine wpcall_pure rfl (hu) ?_; simp [hlt, hgt]; (try simp (disch := omega) only [wrap64]); (try (refine gen fun q hq => ?_; cases q <;> (try simp [hlt, hgt] at hq) <;> (try (have hh : True := hq; clear hh hq))))) | (refine ⟨p + 1, by dsimp only; omega, ⟨by omega, by simpa using he⟩, rfl, rfl, ?_⟩; simp (disch := omega) [wrap64]) | refine T.r0 fun K hK => ?_ | refine T.r1 fun K hK => ?_ | refine T.ct rfl ?_ | refine T.cf rfl ?_ | refine T.seq ?_ | refine T.block ?_ | refine T.skip ?_
  ·have hp' : p = e.kids.length := by omega
   subst hp'
   simp at he
   repeat' first | (refine aops_end (hK _ ?_); clear hK K) | (refine aops_go ?_; simp [hlt]; (try (refine gen fun q hq => ?_; cases q <;> (try simp [hlt] at hq) <;> (try (have hh : True := hq; clear hh hq))))) | (refine T.ret (Done.data (Or.inr rfl) ?_ ?_) <;> simp [Try.results44, he] <;> omega) | refine T.r0 fun K hK => ?_ | refine T.cf rfl ?_ | refine T.seq ?_ | refine T.exit ?_

theorem TermValidS_ok (e : MTm) (hn : nTm e <= 1099511627776) : ACalls Try.prog 23 [aTm e] [] (.b (termValidM e)) [] [] := by
 have h1 := l2Shape_ok 12 e (by omega) hn
 have h2 := l2Count_ok 12 e (by omega) hn
 rw [show termValidM e = (shapeTm 14 12 e && decide (countTm 12 e <= 30)) from rfl]
 generalize shapeTm 14 12 e = a at *
 generalize countTm 12 e = b at *
 refine ACalls.of_body Try.func23 (by kernel_rfl) rfl (by kernel_rfl) (by simp [Try.ntmps23]) (by simp) ?_
 rw [Try.ntmps23]
 repeat' first | (refine aops_end (hK _ ?_); clear hK K) | (refine aops_go ?_; simp; (try (refine gen fun q hq => ?_; cases q <;> (try simp at hq) <;> (try (have hh : True := hq; clear hh hq))))) | (refine wpcall_pure rfl (h1) ?_; simp; (try (refine gen fun q hq => ?_; cases q <;> (try simp at hq) <;> (try (have hh : True := hq; clear hh hq))))) | (refine wpcall_pure rfl (h2) ?_; simp; (try (refine gen fun q hq => ?_; cases q <;> (try simp at hq) <;> (try (have hh : True := hq; clear hh hq))))) | (refine T.ret (Done.data (Or.inr rfl) ?_ ?_) <;> simp [Try.results23, *] <;> omega) | refine T.r0 fun K hK => ?_

def L3R (e : MTm) (ts : List MTy) (r : Option MTy) : Prop := ∃ t', (∀ t, r = some t -> t' = t) /\ ACalls Try.prog 110 [aTm e, .l (ts.map eTy)] [] (.tup [aTy t', .b r.isSome]) [] []

end Go.Proofs.Ytflmjilnecanhaa

namespace Go.Proofs.Ytflmjilnecanhaa
attribute [-simp] Go.Av.keepL Go.Av.ups Go.Av.take_app_len Go.Av.innVs Go.Av.putBack Go.Av.objCells Go.Av.back Go.Av.resVs Go.Av.one Go.Av.freeStepG Go.Av.exA Go.Av.innAsH Go.Av.AV.innH Go.Av.CV.innH Go.Av.innHs Go.Av.AV.outnH Go.Av.CV.outnH
open Go Go.Av
attribute [local irreducible] T ACalls eTy eTm MTy.kind MTy.kids MTm.kind MTm.name MTm.num MTm.ty MTm.fr MTm.label MTm.kids
attribute [local simp] eTy_def eTm_def
set_option maxHeartbeats 4000000

def L3T (ctx : List MBd) (e : MTm) : Prop := ∃ t', (∀ t, typeM ctx e = some t -> t' = t) /\ ACalls Try.prog 105 [.l (ctx.map eBd), aTm e] [] (.tup [aTy t', .b (typeM ctx e).isSome]) [] []

def typeInM (ctx : List MBd) (e : MTm) : Option MTy := if ctxM ctx = true /\ termValidM e = true then typeM ctx e else none

abbrev tyRes : Option MTy -> List AV
 | some t => [aTy t, .b true]
 | none => [aTy zeroT, .b false]

end Go.Proofs.Ytflmjilnecanhaa
