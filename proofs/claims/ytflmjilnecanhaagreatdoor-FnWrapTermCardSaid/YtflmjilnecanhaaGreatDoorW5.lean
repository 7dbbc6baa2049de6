/- A part of the library of this seat. -/
import Derived.Test.YtflmjilnecanhaaGreatDoorW4
import Derived.Test.YtflmjilnecanhaaGreatDoorChecked
set_option linter.unusedVariables false
set_option linter.unusedSimpArgs false
namespace Go.Proofs.YtflmjilnecanhaaGreatDoor
attribute [-simp] Go.Av.get_app_len Go.Av.get_app_len0 Go.Av.set_app_len Go.Av.set_app_len0 Go.Av.freeStep Go.Av.exV Go.Av.keepL Go.Av.ups Go.Av.take_app_len Go.Av.innVs Go.Av.putBack Go.Av.objCells Go.Av.back Go.Av.resVs Go.Av.one Go.Av.freeStepG Go.Av.exA Go.Av.innAsH Go.Av.AV.innH Go.Av.CV.innH Go.Av.innHs Go.Av.AV.outnH Go.Av.CV.outnH
open Go Go.Av
attribute [local irreducible] T
attribute [local simp] eTy_def eTm_def

@[simp] theorem td_int : td Tryz.prog 3 = some { ag := false, sz := 1, by_ := 8, zero := some [.d (.int .i64 0)], el := none, ar := none, fl := [], ik := some .i64, isS := false, isB := false } := keep (by kernel_rfl)
@[simp] theorem td_bool : td Tryz.prog 4 = some { ag := false, sz := 1, by_ := 1, zero := some [.d (.bool false)], el := none, ar := none, fl := [], ik := none, isS := false, isB := true } := keep (by kernel_rfl)
@[simp] theorem td_string : td Tryz.prog 9 = some { ag := false, sz := 1, by_ := 16, zero := some [.d (.str [])], el := none, ar := none, fl := [], ik := none, isS := true, isB := false } := keep (by kernel_rfl)
@[simp] theorem td_lawsTypeS : td Tryz.prog 54 = some { ag := false, sz := 1, by_ := 24, zero := some [.nil], el := some 56, ar := none, fl := [], ik := none, isS := false, isB := false } := keep (by kernel_rfl)
@[simp] theorem td_lawsType : td Tryz.prog 56 = some { ag := true, sz := 2, by_ := 32, zero := some [.d (.int .i64 0), .nil], el := none, ar := none, fl := [(0, 1), (1, 1)], ik := none, isS := false, isB := false } := keep (by kernel_rfl)
@[simp] theorem td_lawsTermS : td Tryz.prog 57 = some { ag := false, sz := 1, by_ := 24, zero := some [.nil], el := some 59, ar := none, fl := [], ik := none, isS := false, isB := false } := keep (by kernel_rfl)
@[simp] theorem td_lawsTerm : td Tryz.prog 59 = some { ag := true, sz := 9, by_ := 128, zero := some [.d (.int .i64 0), .d (.str []), .d (.int .i64 0), .d (.int .i64 0), .nil, .d (.int .i64 0), .nil, .d (.int .i64 0), .nil], el := none, ar := none, fl := [(0, 1), (1, 1), (2, 1), (3, 2), (5, 2), (7, 1), (8, 1)], ik := none, isS := false, isB := false } := keep (by kernel_rfl)
@[simp] theorem td_implTypeS : td Tryz.prog 41 = some { ag := false, sz := 1, by_ := 24, zero := some [.nil], el := some 43, ar := none, fl := [], ik := none, isS := false, isB := false } := keep (by kernel_rfl)
@[simp] theorem td_implType : td Tryz.prog 43 = some { ag := true, sz := 2, by_ := 32, zero := some [.d (.int .i64 0), .nil], el := none, ar := none, fl := [(0, 1), (1, 1)], ik := none, isS := false, isB := false } := keep (by kernel_rfl)
@[simp] theorem td_implTermS : td Tryz.prog 44 = some { ag := false, sz := 1, by_ := 24, zero := some [.nil], el := some 46, ar := none, fl := [], ik := none, isS := false, isB := false } := keep (by kernel_rfl)
@[simp] theorem td_implTerm : td Tryz.prog 46 = some { ag := true, sz := 9, by_ := 128, zero := some [.d (.int .i64 0), .d (.str []), .d (.int .i64 0), .d (.int .i64 0), .nil, .d (.int .i64 0), .nil, .d (.int .i64 0), .nil], el := none, ar := none, fl := [(0, 1), (1, 1), (2, 1), (3, 2), (5, 2), (7, 1), (8, 1)], ik := none, isS := false, isB := false } := keep (by kernel_rfl)
theorem mixed : Tryz.prog.follows .mixedOrders = true := by kernel_rfl

end Go.Proofs.YtflmjilnecanhaaGreatDoor

namespace Go.Proofs.YtflmjilnecanhaaGreatDoor
attribute [-simp] Go.Av.get_app_len Go.Av.get_app_len0 Go.Av.set_app_len Go.Av.set_app_len0 Go.Av.freeStep Go.Av.exV Go.Av.keepL Go.Av.ups Go.Av.take_app_len Go.Av.innVs Go.Av.putBack Go.Av.objCells Go.Av.back Go.Av.resVs Go.Av.one Go.Av.freeStepG Go.Av.exA Go.Av.innAsH Go.Av.AV.innH Go.Av.CV.innH Go.Av.innHs Go.Av.AV.outnH Go.Av.CV.outnH
open Go Go.Av
attribute [local irreducible] T
attribute [local simp] eTy_def eTm_def

end Go.Proofs.YtflmjilnecanhaaGreatDoor

namespace Go.Proofs.YtflmjilnecanhaaGreatDoor
attribute [-simp] Go.Av.get_app_len Go.Av.get_app_len0 Go.Av.set_app_len Go.Av.set_app_len0 Go.Av.freeStep Go.Av.exV Go.Av.keepL Go.Av.ups Go.Av.take_app_len Go.Av.innVs Go.Av.putBack Go.Av.objCells Go.Av.back Go.Av.resVs Go.Av.one Go.Av.freeStepG Go.Av.exA Go.Av.innAsH Go.Av.AV.innH Go.Av.CV.innH Go.Av.innHs Go.Av.AV.outnH Go.Av.CV.outnH
open Go Go.Av
attribute [local irreducible] T
attribute [local simp] eTy_def eTm_def

end Go.Proofs.YtflmjilnecanhaaGreatDoor

namespace Go.Proofs.YtflmjilnecanhaaGreatDoor
attribute [-simp] Go.Av.freeStep Go.Av.exV Go.Av.keepL Go.Av.ups Go.Av.take_app_len Go.Av.innVs Go.Av.putBack Go.Av.objCells Go.Av.back Go.Av.resVs Go.Av.one Go.Av.freeStepG Go.Av.exA Go.Av.innAsH Go.Av.AV.innH Go.Av.CV.innH Go.Av.innHs Go.Av.AV.outnH Go.Av.CV.outnH
open Go Go.Av
attribute [local irreducible] T
attribute [local simp] eTy_def eTm_def

theorem inM_ok (x lo hi : Int) : ACalls Tryz.prog 52 [.i x, .i lo, .i hi] [] (.b (inM x lo hi)) [] [] := by
 refine ACalls.of_body Tryz.func52 (by kernel_rfl) rfl (by kernel_rfl) (by simp [Tryz.ntmps52]) (by simp) ?_
 rw [Tryz.ntmps52]
 repeat' first | (refine aops_end (hK _ ?_); clear hK K) | (refine aops_go ?_; simp; (try (refine gen fun q hq => ?_; cases q <;> (try simp at hq)))) | refine T.r0 fun K hK => ?_ | refine T.r1 fun K hK => ?_ | refine T.cond rfl (fun hc => ?_) (fun hc => absurd hc (by decide)) | refine T.cond rfl (fun hc => absurd hc (by decide)) (fun hc => ?_) | refine T.seq ?_ | refine T.block ?_ | refine T.skip ?_ | refine T.exit ?_
 all_goals (refine T.ret (Done.data (Or.inr rfl) ?_ ?_) <;> simp [Tryz.results52, inM, *] <;> omega)

theorem isName_ok (s : List UInt8) : ACalls Tryz.prog 221 [.s s] [] (.b (nameM s)) [] [] := by
 refine ACalls.of_body Tryz.func221 (by kernel_rfl) rfl (by kernel_rfl) (by simp [Tryz.ntmps221]) (by simp) ?_
 rw [Tryz.ntmps221]
 match s with
 | [] =>
  repeat' first | (refine aops_end (hK _ ?_); clear hK K) | (refine aops_go ?_; simp; (try (refine gen fun q hq => ?_; cases q <;> (try simp at hq)))) | refine T.r0 fun K hK => ?_ | refine T.r1 fun K hK => ?_ | refine T.cond rfl (fun hc => ?_) (fun hc => absurd hc (by decide)) | refine T.cond rfl (fun hc => absurd hc (by decide)) (fun hc => ?_) | refine T.seq ?_ | refine T.block ?_ | refine T.skip ?_ | refine T.exit ?_
  all_goals (refine T.ret (Done.data (Or.inr rfl) ?_ ?_) <;> simp [Tryz.results221, nameM])
 | [c] =>
  repeat' first | (refine aops_end (hK _ ?_); clear hK K) | (refine aops_go ?_; simp; (try (refine gen fun q hq => ?_; cases q <;> (try simp at hq)))) | refine T.r0 fun K hK => ?_ | refine T.r1 fun K hK => ?_ | refine T.cond rfl (fun hc => ?_) (fun hc => absurd hc (by decide)) | refine T.cond rfl (fun hc => absurd hc (by decide)) (fun hc => ?_) | refine T.seq ?_ | refine T.block ?_ | refine T.skip ?_ | refine T.exit ?_
  all_goals (refine T.ret (Done.data (Or.inr rfl) ?_ ?_) <;> simp [Tryz.results221, nameM, *] <;> omega)
 | c :: d :: r =>
  have h2 : ¬ ((r.length : Int) + 1 + 1 = 1) := by omega
  repeat' first | (refine aops_end (hK _ ?_); clear hK K) | (refine aops_go ?_; simp [h2, beq_f h2]; (try (refine gen fun q hq => ?_; cases q <;> (try simp [h2] at hq)))) | refine T.r0 fun K hK => ?_ | refine T.r1 fun K hK => ?_ | refine T.cond rfl (fun hc => ?_) (fun hc => absurd hc (by decide)) | refine T.cond rfl (fun hc => absurd hc (by decide)) (fun hc => ?_) | refine T.seq ?_ | refine T.block ?_ | refine T.skip ?_ | refine T.exit ?_
  all_goals (refine T.ret (Done.data (Or.inr rfl) ?_ ?_) <;> simp [Tryz.results221, nameM])

theorem l2Name_ok (s : List UInt8) : ACalls Tryz.prog 245 [.s s] [] (.b (nameM s)) [] [] := by
 refine ACalls.of_body Tryz.func245 (by kernel_rfl) rfl (by kernel_rfl) (by simp [Tryz.ntmps245]) (by simp) ?_
 rw [Tryz.ntmps245]
 match s with
 | [] =>
  repeat' first | (refine aops_end (hK _ ?_); clear hK K) | (refine aops_go ?_; simp; (try (refine gen fun q hq => ?_; cases q <;> (try simp at hq)))) | refine T.r0 fun K hK => ?_ | refine T.r1 fun K hK => ?_ | refine T.cond rfl (fun hc => ?_) (fun hc => absurd hc (by decide)) | refine T.cond rfl (fun hc => absurd hc (by decide)) (fun hc => ?_) | refine T.seq ?_ | refine T.block ?_ | refine T.skip ?_ | refine T.exit ?_
  all_goals (refine T.ret (Done.data (Or.inr rfl) ?_ ?_) <;> simp [Tryz.results245, nameM])
 | [c] =>
  repeat' first | (refine aops_end (hK _ ?_); clear hK K) | (refine aops_go ?_; simp; (try (refine gen fun q hq => ?_; cases q <;> (try simp at hq)))) | refine T.r0 fun K hK => ?_ | refine T.r1 fun K hK => ?_ | refine T.cond rfl (fun hc => ?_) (fun hc => absurd hc (by decide)) | refine T.cond rfl (fun hc => absurd hc (by decide)) (fun hc => ?_) | refine T.seq ?_ | refine T.block ?_ | refine T.skip ?_ | refine T.exit ?_
  all_goals (refine T.ret (Done.data (Or.inr rfl) ?_ ?_) <;> simp [Tryz.results245, nameM, *] <;> omega)
 | c :: d :: r =>
  have h2 : ¬ ((r.length : Int) + 1 + 1 = 1) := by omega
  repeat' first | (refine aops_end (hK _ ?_); clear hK K) | (refine aops_go ?_; simp [h2, beq_f h2]; (try (refine gen fun q hq => ?_; cases q <;> (try simp [h2] at hq)))) | refine T.r0 fun K hK => ?_ | refine T.r1 fun K hK => ?_ | refine T.cond rfl (fun hc => ?_) (fun hc => absurd hc (by decide)) | refine T.cond rfl (fun hc => absurd hc (by decide)) (fun hc => ?_) | refine T.seq ?_ | refine T.block ?_ | refine T.skip ?_ | refine T.exit ?_
  all_goals (refine T.ret (Done.data (Or.inr rfl) ?_ ?_) <;> simp [Tryz.results245, nameM])

theorem isNoType_ok (t : MTy) : ACalls Tryz.prog 243 [aTy t] [] (.b (noTyM t)) [] [] := by
 refine ACalls.of_body Tryz.func243 (by kernel_rfl) rfl (by kernel_rfl) (by simp [Tryz.ntmps243]) (by simp) ?_
 rw [Tryz.ntmps243]
 repeat' first | (refine aops_end (hK _ ?_); clear hK K) | (refine aops_go ?_; simp; (try (refine gen fun q hq => ?_; cases q <;> (try simp at hq)))) | refine T.r0 fun K hK => ?_ | refine T.r1 fun K hK => ?_ | refine T.cond rfl (fun hc => ?_) (fun hc => absurd hc (by decide)) | refine T.cond rfl (fun hc => absurd hc (by decide)) (fun hc => ?_) | refine T.seq ?_ | refine T.block ?_ | refine T.skip ?_ | refine T.exit ?_
 all_goals (refine T.ret (Done.data (Or.inr rfl) ?_ ?_) <;> simp [Tryz.results243, noTyM, *])

theorem l2None_ok (t : MTy) : ACalls Tryz.prog 246 [aTy t] [] (.b (noTyM t)) [] [] := by
 refine ACalls.of_body Tryz.func246 (by kernel_rfl) rfl (by kernel_rfl) (by simp [Tryz.ntmps246]) (by simp) ?_
 rw [Tryz.ntmps246]
 repeat' first | (refine aops_end (hK _ ?_); clear hK K) | (refine aops_go ?_; simp; (try (refine gen fun q hq => ?_; cases q <;> (try simp at hq)))) | refine T.r0 fun K hK => ?_ | refine T.r1 fun K hK => ?_ | refine T.cond rfl (fun hc => ?_) (fun hc => absurd hc (by decide)) | refine T.cond rfl (fun hc => absurd hc (by decide)) (fun hc => ?_) | refine T.seq ?_ | refine T.block ?_ | refine T.skip ?_ | refine T.exit ?_
 all_goals (refine T.ret (Done.data (Or.inr rfl) ?_ ?_) <;> simp [Tryz.results246, noTyM, *])

theorem isLabel_ok (n : Int) : ACalls Tryz.prog 127 [.i n] [] (.b (labM n)) [] [] := by
 refine ACalls.of_body Tryz.func127 (by kernel_rfl) rfl (by kernel_rfl) (by simp [Tryz.ntmps127]) (by simp) ?_
 rw [Tryz.ntmps127]
 repeat' first | (refine T.rs (fun _ => false) fun K hK => ?_; (repeat (refine aops_go ?_; simp)); refine aops_end (hK _ ?_); clear hK K) | (refine T.rs1 (fun _ => false) fun K hK => ?_; (repeat (refine aops_go ?_; simp)); refine aops_end (hK _ ?_); clear hK K) | refine T.cond rfl (fun hc => ?_) (fun hc => absurd hc (by decide)) | refine T.cond rfl (fun hc => absurd hc (by decide)) (fun hc => ?_) | refine T.seq ?_ | refine T.block ?_ | refine T.skip ?_ | refine T.exit ?_
 refine T.rs1 (fun _ => false) fun K hK => ?_
 repeat (refine aops_go ?_; simp)
 refine wpcall_pure (by simp) (inM_ok n 1 99) ?_
 simp
 refine Ops.gen fun q hq => ?_
 cases q
 ·repeat (refine aops_go ?_; simp)
  refine wpcall_pure (by simp) (inM_ok n (-99) (-1)) ?_
  simp
  repeat' first | (refine aops_end (hK _ ?_); clear hK K) | (refine aops_go ?_; simp; (try (refine gen fun q hq => ?_; cases q <;> (try simp at hq)))) | refine T.r0 fun K hK => ?_ | refine T.r1 fun K hK => ?_ | refine T.cond rfl (fun hc => ?_) (fun hc => absurd hc (by decide)) | refine T.cond rfl (fun hc => absurd hc (by decide)) (fun hc => ?_) | refine T.seq ?_ | refine T.block ?_ | refine T.skip ?_ | refine T.exit ?_
  all_goals (refine T.ret (Done.data (Or.inr rfl) ?_ ?_) <;> simp [Tryz.results127, labM, *])
 ·repeat' first | (refine aops_end (hK _ ?_); clear hK K) | (refine aops_go ?_; simp; (try (refine gen fun q hq => ?_; cases q <;> (try simp at hq)))) | refine T.r0 fun K hK => ?_ | refine T.r1 fun K hK => ?_ | refine T.cond rfl (fun hc => ?_) (fun hc => absurd hc (by decide)) | refine T.cond rfl (fun hc => absurd hc (by decide)) (fun hc => ?_) | refine T.seq ?_ | refine T.block ?_ | refine T.skip ?_ | refine T.exit ?_
  all_goals (refine T.ret (Done.data (Or.inr rfl) ?_ ?_) <;> simp [Tryz.results127, labM, *])

theorem l2Kids_ok (k : Int) : ACalls Tryz.prog 203 [.i k] [] (.i (kidsM k)) [] [] := by
 refine ACalls.of_body Tryz.func203 (by kernel_rfl) rfl (by kernel_rfl) (by simp [Tryz.ntmps203]) (by simp) ?_
 rw [Tryz.ntmps203]
 repeat' first | (refine aops_end (hK _ ?_); clear hK K) | (refine aops_go ?_; simp; (try (refine gen fun q hq => ?_; cases q <;> (try simp at hq)))) | refine T.r0 fun K hK => ?_ | refine T.r1 fun K hK => ?_ | refine T.cond rfl (fun hc => ?_) (fun hc => absurd hc (by decide)) | refine T.cond rfl (fun hc => absurd hc (by decide)) (fun hc => ?_) | refine T.seq ?_ | refine T.block ?_ | refine T.skip ?_ | refine T.exit ?_
 all_goals (refine T.ret (Done.data (Or.inr rfl) ?_ ?_) <;> simp [Tryz.results203, kidsM, *])

@[simp] theorem td_intS : td Tryz.prog 107 = some { ag := false, sz := 1, by_ := 24, zero := some [.nil], el := some 3, ar := none, fl := [], ik := none, isS := false, isB := false } := keep (by kernel_rfl)

theorem operands_ok (k : Int) : ACalls Tryz.prog 242 [.i k] [] (.i (kidsM k)) [] [] := by
 refine ACalls.of_body Tryz.func242 (by kernel_rfl) rfl (by kernel_rfl) (by simp [Tryz.ntmps242]) (by simp) ?_
 rw [Tryz.ntmps242]
 repeat' first | (refine T.rs (fun _ => false) fun K hK => ?_; (repeat (refine aops_go ?_; simp)); refine aops_end (hK _ ?_); clear hK K) | (refine T.rs1 (fun _ => false) fun K hK => ?_; (repeat (refine aops_go ?_; simp)); refine aops_end (hK _ ?_); clear hK K) | refine T.cond rfl (fun hc => ?_) (fun hc => absurd hc (by decide)) | refine T.cond rfl (fun hc => absurd hc (by decide)) (fun hc => ?_) | refine T.seq ?_ | refine T.block ?_ | refine T.skip ?_ | refine T.exit ?_
 refine T.rs1 (fun _ => false) fun K hK => ?_
 repeat (refine aops_go ?_; simp)
 refine wpcall_pure (by simp) (inM_ok k 1 14) ?_
 simp
 by_cases h : inM k 1 14 = true
 ·have hr : k = 1 \/ k = 2 \/ k = 3 \/ k = 4 \/ k = 5 \/ k = 6 \/ k = 7 \/ k = 8 \/ k = 9 \/ k = 10 \/ k = 11 \/ k = 12 \/ k = 13 \/ k = 14 := by
   simp [inM] at h; omega
  rcases hr with rfl | rfl | rfl | rfl | rfl | rfl | rfl | rfl | rfl | rfl | rfl | rfl | rfl | rfl
  all_goals
   simp [inM] at h
   have hw : ∀ n : Int, 0 <= n -> n <= 20 -> IntKind.i64.wrap n = n := fun n h1 h2 => wrap64 (by omega) (by omega)
   repeat' first | (refine aops_end (hK _ ?_); clear hK K) | (refine aops_go ?_; simp [inM, hw]; (try (refine gen fun q hq => ?_; cases q <;> (try simp at hq)))) | refine T.r0 fun K hK => ?_ | refine T.r1 fun K hK => ?_ | refine T.cond rfl (fun hc => ?_) (fun hc => absurd hc (by decide)) | refine T.cond rfl (fun hc => absurd hc (by decide)) (fun hc => ?_) | refine T.seq ?_ | refine T.block ?_ | refine T.skip ?_ | refine T.exit ?_
   all_goals (refine T.ret (Done.data (Or.inr rfl) ?_ ?_) <;> simp [Tryz.results242, kidsM])
 ·have hk : kidsM k = -1 := by
   simp only [inM, Bool.not_eq_true, Bool.and_eq_false_iff, decide_eq_false_iff_not] at h
   have : k < 1 \/ 14 < k := by omega
   simp only [kidsM]
   repeat (rw [if_neg (by omega)])
  simp only [Bool.not_eq_true] at h
  repeat' first | (refine aops_end (hK _ ?_); clear hK K) | (refine aops_go ?_; simp [h]; (try (refine gen fun q hq => ?_; cases q <;> (try simp at hq)))) | refine T.r0 fun K hK => ?_ | refine T.r1 fun K hK => ?_ | refine T.cond rfl (fun hc => ?_) (fun hc => absurd hc (by decide)) | refine T.cond rfl (fun hc => absurd hc (by decide)) (fun hc => ?_) | refine T.seq ?_ | refine T.block ?_ | refine T.skip ?_ | refine T.exit ?_
  all_goals (refine T.ret (Done.data (Or.inr rfl) ?_ ?_) <;> simp [Tryz.results242, hk])

end Go.Proofs.YtflmjilnecanhaaGreatDoor

namespace Go.Proofs.YtflmjilnecanhaaGreatDoor
attribute [-simp] Go.Av.freeStep Go.Av.exV Go.Av.keepL Go.Av.ups Go.Av.take_app_len Go.Av.innVs Go.Av.putBack Go.Av.objCells Go.Av.back Go.Av.resVs Go.Av.one Go.Av.freeStepG Go.Av.exA Go.Av.innAsH Go.Av.AV.innH Go.Av.CV.innH Go.Av.innHs Go.Av.AV.outnH Go.Av.CV.outnH
open Go Go.Av
attribute [local irreducible] T ACalls eTy eTm MTy.kind MTy.kids MTm.kind MTm.name MTm.num MTm.ty MTm.fr MTm.label MTm.kids
attribute [local simp] eTy_def eTm_def
set_option maxHeartbeats 4000000

theorem l1Kids_ok (k : Int) : ACalls Tryz.prog 151 [.i k] [] (.i (tyKids k)) [] [] := by
 refine ACalls.of_body Tryz.func151 (by kernel_rfl) rfl (by kernel_rfl) (by simp [Tryz.ntmps151]) (by simp) ?_
 rw [Tryz.ntmps151]
 repeat' first | (refine aops_end (hK _ ?_); clear hK K) | (refine aops_go ?_; simp; (try (refine gen fun q hq => ?_; cases q <;> (try simp at hq) <;> (try (have hh : True := hq; clear hh hq))))) | (refine T.ret (Done.data (Or.inr rfl) ?_ ?_) <;> simp [Tryz.results151, tyKids, *] <;> omega) | refine T.r0 fun K hK => ?_ | refine T.r1 fun K hK => ?_ | refine T.ct rfl ?_ | refine T.cf rfl ?_ | refine T.seq ?_ | refine T.block ?_ | refine T.skip ?_

theorem l1Shape_ok : ∀ (d : Nat) (t : MTy), d <= 1000 -> nTy t <= 1099511627776 -> ACalls Tryz.prog 204 [aTy t, .i d] [] (.b (shapeTy d t)) [] []
 | 0, t, _, _ => by
  refine ACalls.of_body Tryz.func204 (by kernel_rfl) rfl (by kernel_rfl) (by simp [Tryz.ntmps204]) (by simp) ?_
  rw [Tryz.ntmps204]
  repeat' first | ((first | refine aops_end (hK _ ?_) | refine aopsD_end (hK _ ?_)); clear hK K) | ((first | refine aops_go ?_ | refine aopsD_go ?_); simp; (try (refine gen fun q hq => ?_; cases q <;> (try simp at hq) <;> (try (have hh : True := hq; clear hh hq))))) | (refine T.ret (Done.data (Or.inr rfl) ?_ ?_) <;> simp [Tryz.results204, shapeTy] <;> omega) | refine T.r0 fun K hK => ?_ | refine T.rd mixed (fun _ => false) [] (by kernel_rfl) fun K hK => ?_ | refine T.ct rfl ?_ | refine T.seq ?_
 | d + 1, t, hd, hn => by
  rw [nTy_def] at hn
  have hlen := nTyS_len t.kids
  have hd1 : ¬ ((d : Int) + 1 < 1) := by omega
  refine ACalls.of_body Tryz.func204 (by kernel_rfl) rfl (by kernel_rfl) (by simp [Tryz.ntmps204]) (by simp) ?_
  rw [Tryz.ntmps204]
  repeat' first | ((first | refine aops_end (hK _ ?_) | refine aopsD_end (hK _ ?_)); clear hK K) | ((first | refine aops_go ?_ | refine aopsD_go ?_); simp [hd1]; (try (refine gen fun q hq => ?_; cases q <;> (try simp [hd1] at hq) <;> (try (have hh : True := hq; clear hh hq))))) | (refine wpcall_pure rfl (l1Kids_ok _) ?_; simp [hd1]; (try first | (refine Ops.gen fun q hq => ?_; cases q <;> (try simp [hd1] at hq) <;> (try (have hh : True := hq; clear hh hq))) | (refine OpsD.gen fun q hq => ?_; cases q <;> (try simp [hd1] at hq) <;> (try (have hh : True := hq; clear hh hq))))) | (refine T.ret (Done.data (Or.inr rfl) ?_ ?_) <;> simp [Tryz.results204, shapeTy, *] <;> omega) | refine T.r0 fun K hK => ?_ | refine T.rd mixed (fun _ => false) [] (by kernel_rfl) fun K hK => ?_ | refine T.ct rfl ?_ | refine T.cf rfl ?_ | refine T.seq ?_ | refine T.block ?_ | refine T.skip ?_
  obtain ⟨R, hR⟩ : ∃ R, t.kids.all (shapeTy d) = R := ⟨_, rfl⟩
  rw [show shapeTy (d + 1) t = R by simp [shapeTy, hq, hR]]
  refine T.loopF (fun p : Nat => ⟨[(1, .i (d + 1)), (2, .c (.ptr 0 0)), (5, .i p)], [(aTy t).cells], []⟩) (fun p => t.kids.length + 1 - p) (fun p => p <= t.kids.length /\ (t.kids.drop p).all (shapeTy d) = R) (fun p hp => ?_) 0 (by simpa using hR) (by simp)
  obtain ⟨hi, he⟩ := hp
  by_cases hlt : p < t.kids.length
  ·obtain ⟨u, ht⟩ := get_lt hlt
   have htm : u ∈ t.kids := List.mem_of_getElem? ht
   have hgt : t.kids[p] = u := by rw [List.getElem?_eq_getElem hlt] at ht; exact Option.some.inj ht
   have hdr : t.kids.drop p = u :: t.kids.drop (p + 1) := by rw [List.drop_eq_getElem_cons hlt, hgt]
   have hu := l1Shape_ok d u (by omega) (by have := nTyS_mem htm; omega)
   rw [hdr, List.all_cons] at he
   cases hb : shapeTy d u <;> rw [hb] at hu he
   ·repeat' first | (refine aops_end (hK _ ?_); clear hK K) | (refine aops_go ?_; simp [hlt, hgt]; (try simp (disch := omega) only [wrap64]); (try (refine gen fun q hq => ?_; cases q <;> (try simp [hlt, hgt] at hq) <;> (try (have hh : True := hq; clear hh hq))))) | (refine wpcall_pure rfl (hu) ?_; simp [hlt, hgt]; (try simp (disch := omega) only [wrap64]); (try first | (refine Ops.gen fun q hq => ?_; cases q <;> (try simp [hlt, hgt] at hq) <;> (try (have hh : True := hq; clear hh hq))) | (refine OpsD.gen fun q hq => ?_; cases q <;> (try simp [hlt, hgt] at hq) <;> (try (have hh : True := hq; clear hh hq))))) | (refine T.ret (Done.data (Or.inr rfl) ?_ ?_) <;> simp [Tryz.results204, <- he] <;> omega) | refine T.r0 fun K hK => ?_ | refine T.ct rfl ?_ | refine T.seq ?_ | refine T.block ?_ | refine T.skip ?_
   ·repeat' first | (refine aops_end (hK _ ?_); clear hK K) | (refine aops_go ?_; simp [hlt, hgt]; (try simp (disch := omega) only [wrap64]); (try (refine gen fun q hq => ?_; cases q <;> (try simp [hlt, hgt] at hq) <;> (try (have hh : True := hq; clear hh hq))))) | (refine wpcall_pure rfl (hu) ?_; simp [hlt, hgt]; (try simp (disch := omega) only [wrap64]); (try first | (refine Ops.gen fun q hq => ?_; cases q <;> (try simp [hlt, hgt] at hq) <;> (try (have hh : True := hq; clear hh hq))) | (refine OpsD.gen fun q hq => ?_; cases q <;> (try simp [hlt, hgt] at hq) <;> (try (have hh : True := hq; clear hh hq))))) | (refine ⟨p + 1, by dsimp only; omega, ⟨by omega, by simpa using he⟩, ?_⟩; simp (disch := omega) [wrap64]) | refine T.r0 fun K hK => ?_ | refine T.r1 fun K hK => ?_ | refine T.ct rfl ?_ | refine T.cf rfl ?_ | refine T.seq ?_ | refine T.block ?_ | refine T.skip ?_
  ·have hp' : p = t.kids.length := by omega
   subst hp'
   simp at he
   repeat' first | (refine aops_end (hK _ ?_); clear hK K) | (refine aops_go ?_; simp [hlt]; (try (refine gen fun q hq => ?_; cases q <;> (try simp [hlt] at hq) <;> (try (have hh : True := hq; clear hh hq))))) | (refine T.ret (Done.data (Or.inr rfl) ?_ ?_) <;> simp [Tryz.results204, he] <;> omega) | refine T.r0 fun K hK => ?_ | refine T.cf rfl ?_ | refine T.seq ?_ | refine T.exit ?_
end Go.Proofs.YtflmjilnecanhaaGreatDoor

namespace Go.Proofs.YtflmjilnecanhaaGreatDoor
attribute [-simp] Go.Av.freeStep Go.Av.exV Go.Av.keepL Go.Av.ups Go.Av.take_app_len Go.Av.innVs Go.Av.putBack Go.Av.objCells Go.Av.back Go.Av.resVs Go.Av.one Go.Av.freeStepG Go.Av.exA Go.Av.innAsH Go.Av.AV.innH Go.Av.CV.innH Go.Av.innHs Go.Av.AV.outnH Go.Av.CV.outnH
open Go Go.Av
attribute [local irreducible] T ACalls eTy eTm MTy.kind MTy.kids MTm.kind MTm.name MTm.num MTm.ty MTm.fr MTm.label MTm.kids
attribute [local simp] eTy_def eTm_def
set_option maxHeartbeats 4000000

theorem indexFuncTy_0 (f : FuncId) (l : List MTy) (q : MTy -> Bool) (hl : l.length <= 4611686018427387904) (hf : ∀ t ∈ l, ACalls Tryz.prog f [aTy t] [] (.b (q t)) [] []) :
  ACalls Tryz.prog 262 [.l (l.map eTy), .c (.fn f [])] [] (.i (firstIx q l 0)) [] [] := by
 refine ACalls.of_body Tryz.func262 (by kernel_rfl) rfl (by kernel_rfl) (by simp [Tryz.ntmps262]) (by simp) ?_
 rw [Tryz.ntmps262]
 repeat' first | (refine aops_end (hK _ ?_); clear hK K) | (refine aops_go ?_; simp; (try (refine gen fun q hq => ?_; cases q <;> (try simp at hq) <;> (try (have hh : True := hq; clear hh hq))))) | refine T.r0 fun K hK => ?_ | refine T.seq ?_ | refine T.block ?_
 obtain ⟨R, hR⟩ : ∃ R, firstIx q l 0 = R := ⟨_, rfl⟩
 rw [hR]
 refine T.loopF (fun p : Nat => ⟨[(0, .l (l.map eTy)), (1, .c (.fn f [])), (7, .i l.length), (8, .i p)], [], []⟩) (fun p => l.length + 1 - p) (fun p => p <= l.length /\ firstIx q (l.drop p) p = R) (fun p hp => ?_) 0 (by simpa using hR) (by simp)
 obtain ⟨hi, he⟩ := hp
 by_cases hlt : p < l.length
 ·obtain ⟨u, ht⟩ := get_lt hlt
  have htm : u ∈ l := List.mem_of_getElem? ht
  have hgt : l[p] = u := by rw [List.getElem?_eq_getElem hlt] at ht; exact Option.some.inj ht
  have hdr : l.drop p = u :: l.drop (p + 1) := by rw [List.drop_eq_getElem_cons hlt, hgt]
  have hu := hf u htm
  rw [hdr, firstIx] at he
  cases hb : q u <;> rw [hb] at hu he
  ·repeat' first | (refine aops_end (hK _ ?_); clear hK K) | (refine aops_go ?_; simp [hlt, hgt]; (try simp (disch := omega) only [wrap64]); (try (refine gen fun q hq => ?_; cases q <;> (try simp [hlt, hgt] at hq) <;> (try (have hh : True := hq; clear hh hq))))) | (refine wpcall_pure rfl (hu) ?_; simp [hlt, hgt]; (try simp (disch := omega) only [wrap64]); (try first | (refine Ops.gen fun q hq => ?_; cases q <;> (try simp [hlt, hgt] at hq) <;> (try (have hh : True := hq; clear hh hq))) | (refine OpsD.gen fun q hq => ?_; cases q <;> (try simp [hlt, hgt] at hq) <;> (try (have hh : True := hq; clear hh hq))))) | (refine ⟨p + 1, by dsimp only; omega, ⟨by omega, by simpa using he⟩, ?_⟩; simp (disch := omega) [wrap64]) | refine T.r0 fun K hK => ?_ | refine T.r1 fun K hK => ?_ | refine T.ct rfl ?_ | refine T.cf rfl ?_ | refine T.seq ?_ | refine T.block ?_ | refine T.skip ?_
  ·repeat' first | (refine aops_end (hK _ ?_); clear hK K) | (refine aops_go ?_; simp [hlt, hgt]; (try simp (disch := omega) only [wrap64]); (try (refine gen fun q hq => ?_; cases q <;> (try simp [hlt, hgt] at hq) <;> (try (have hh : True := hq; clear hh hq))))) | (refine wpcall_pure rfl (hu) ?_; simp [hlt, hgt]; (try simp (disch := omega) only [wrap64]); (try first | (refine Ops.gen fun q hq => ?_; cases q <;> (try simp [hlt, hgt] at hq) <;> (try (have hh : True := hq; clear hh hq))) | (refine OpsD.gen fun q hq => ?_; cases q <;> (try simp [hlt, hgt] at hq) <;> (try (have hh : True := hq; clear hh hq))))) | (refine T.ret (Done.data (Or.inr rfl) ?_ ?_) <;> simp [Tryz.results262, <- he] <;> omega) | refine T.r0 fun K hK => ?_ | refine T.ct rfl ?_ | refine T.seq ?_ | refine T.block ?_ | refine T.skip ?_
 ·have hp' : p = l.length := by omega
  subst hp'
  simp [firstIx] at he
  repeat' first | (refine aops_end (hK _ ?_); clear hK K) | (refine aops_go ?_; simp [hlt]; (try (refine gen fun q hq => ?_; cases q <;> (try simp [hlt] at hq) <;> (try (have hh : True := hq; clear hh hq))))) | (refine T.ret (Done.data (Or.inr rfl) ?_ ?_) <;> simp [Tryz.results262, he] <;> omega) | refine T.r0 fun K hK => ?_ | refine T.cf rfl ?_ | refine T.seq ?_ | refine T.exit ?_

theorem containsFuncTy_0 (f : FuncId) (l : List MTy) (q : MTy -> Bool) (hl : l.length <= 4611686018427387904) (hf : ∀ t ∈ l, ACalls Tryz.prog f [aTy t] [] (.b (q t)) [] []) :
  ACalls Tryz.prog 222 [.l (l.map eTy), .c (.fn f [])] [] (.b (l.any q)) [] [] := by
 refine ACalls.of_body Tryz.func222 (by kernel_rfl) rfl (by kernel_rfl) (by simp [Tryz.ntmps222]) (by simp) ?_
 rw [Tryz.ntmps222]
 rw [<- firstIx_any (i := 0) (by omega)]
 repeat' first | (refine aops_end (hK _ ?_); clear hK K) | (refine aops_go ?_; simp; (try (refine gen fun q hq => ?_; cases q <;> (try simp at hq) <;> (try (have hh : True := hq; clear hh hq))))) | (refine wpcall_pure rfl (indexFuncTy_0 f l q hl hf) ?_; simp; (try first | (refine Ops.gen fun q hq => ?_; cases q <;> (try simp at hq) <;> (try (have hh : True := hq; clear hh hq))) | (refine OpsD.gen fun q hq => ?_; cases q <;> (try simp at hq) <;> (try (have hh : True := hq; clear hh hq))))) | (refine T.ret (Done.data (Or.inr rfl) ?_ ?_) <;> simp [Tryz.results222, *] <;> omega) | refine T.r0 fun K hK => ?_

theorem indexFuncTy_1 (f : FuncId) (d : DV) (l : List MTy) (q : MTy -> Bool) (hl : l.length <= 4611686018427387904) (hf : ∀ t ∈ l, ACalls Tryz.prog f [aTy t, .c (.ptr 0 0)] (dV [[d]]) (.b (q t)) (dV [[d]]) []) :
  ACalls Tryz.prog 262 [.l (l.map eTy), .c (.fn f [0])] (dV [[d]]) (.i (firstIx q l 0)) (dV [[d]]) [] := by
 refine ACalls.of_body Tryz.func262 (by kernel_rfl) rfl (by kernel_rfl) (by simp [Tryz.ntmps262]) (by simp) ?_
 rw [Tryz.ntmps262]
 repeat' first | (refine aops_end (hK _ ?_); clear hK K) | (refine aops_go ?_; simp; (try (refine gen fun q hq => ?_; cases q <;> (try simp at hq) <;> (try (have hh : True := hq; clear hh hq))))) | refine T.r0 fun K hK => ?_ | refine T.seq ?_ | refine T.block ?_
 obtain ⟨R, hR⟩ : ∃ R, firstIx q l 0 = R := ⟨_, rfl⟩
 rw [hR]
 refine T.loopF (fun p : Nat => ⟨[(0, .l (l.map eTy)), (1, .c (.fn f [0])), (7, .i l.length), (8, .i p)], [[.d d]], []⟩) (fun p => l.length + 1 - p) (fun p => p <= l.length /\ firstIx q (l.drop p) p = R) (fun p hp => ?_) 0 (by simpa using hR) (by simp)
 obtain ⟨hi, he⟩ := hp
 by_cases hlt : p < l.length
 ·obtain ⟨u, ht⟩ := get_lt hlt
  have htm : u ∈ l := List.mem_of_getElem? ht
  have hgt : l[p] = u := by rw [List.getElem?_eq_getElem hlt] at ht; exact Option.some.inj ht
  have hdr : l.drop p = u :: l.drop (p + 1) := by rw [List.drop_eq_getElem_cons hlt, hgt]
  have hu := hf u htm
  rw [hdr, firstIx] at he
  cases hb : q u <;> rw [hb] at hu he
  ·repeat' first | (refine aops_end (hK _ ?_); clear hK K) | (refine aops_go ?_; simp [hlt, hgt]; (try simp (disch := omega) only [wrap64]); (try (refine gen fun q hq => ?_; cases q <;> (try simp [hlt, hgt] at hq) <;> (try (have hh : True := hq; clear hh hq))))) | (refine wpcall_obj1 0 [d] rfl rfl hu ?_; simp) | (refine ⟨p + 1, by dsimp only; omega, ⟨by omega, by simpa using he⟩, ?_⟩; simp (disch := omega) [wrap64]) | refine T.r0 fun K hK => ?_ | refine T.r1 fun K hK => ?_ | refine T.ct rfl ?_ | refine T.cf rfl ?_ | refine T.seq ?_ | refine T.block ?_ | refine T.skip ?_
  ·repeat' first | (refine aops_end (hK _ ?_); clear hK K) | (refine aops_go ?_; simp [hlt, hgt]; (try simp (disch := omega) only [wrap64]); (try (refine gen fun q hq => ?_; cases q <;> (try simp [hlt, hgt] at hq) <;> (try (have hh : True := hq; clear hh hq))))) | (refine wpcall_obj1 0 [d] rfl rfl hu ?_; simp) | refine T.r0 fun K hK => ?_ | refine T.ct rfl ?_ | refine T.seq ?_ | refine T.block ?_ | refine T.skip ?_
   refine T.ret (Done.obj1 (Or.inr rfl) ?_ ?_ ?_) <;> simp [Tryz.results262, <- he]
 ·have hp' : p = l.length := by omega
  subst hp'
  simp [firstIx] at he
  repeat' first | (refine aops_end (hK _ ?_); clear hK K) | (refine aops_go ?_; simp [hlt]; (try (refine gen fun q hq => ?_; cases q <;> (try simp [hlt] at hq) <;> (try (have hh : True := hq; clear hh hq))))) | refine T.r0 fun K hK => ?_ | refine T.cf rfl ?_ | refine T.seq ?_ | refine T.exit ?_
  refine T.ret (Done.obj1 (Or.inr rfl) ?_ ?_ ?_) <;> simp [Tryz.results262, he]

theorem containsFuncTy_1 (f : FuncId) (d : DV) (l : List MTy) (q : MTy -> Bool) (hl : l.length <= 4611686018427387904) (hf : ∀ t ∈ l, ACalls Tryz.prog f [aTy t, .c (.ptr 0 0)] (dV [[d]]) (.b (q t)) (dV [[d]]) []) :
  ACalls Tryz.prog 222 [.l (l.map eTy), .c (.fn f [0])] (dV [[d]]) (.b (l.any q)) (dV [[d]]) [] := by
 refine ACalls.of_body Tryz.func222 (by kernel_rfl) rfl (by kernel_rfl) (by simp [Tryz.ntmps222]) (by simp) ?_
 rw [Tryz.ntmps222]
 rw [<- firstIx_any (i := 0) (by omega)]
 repeat' first | (refine aops_end (hK _ ?_); clear hK K) | (refine aops_go ?_; simp; (try (refine gen fun q hq => ?_; cases q <;> (try simp at hq) <;> (try (have hh : True := hq; clear hh hq))))) | (refine wpcall_obj1 0 [d] rfl rfl (indexFuncTy_1 f d l q hl hf) ?_; simp) | refine T.r0 fun K hK => ?_
 all_goals (refine T.ret (Done.obj1 (Or.inr rfl) ?_ ?_ ?_) <;> simp [Tryz.results222, *])

theorem indexFuncTm_0 (f : FuncId) (l : List MTm) (q : MTm -> Bool) (hl : l.length <= 4611686018427387904) (hf : ∀ t ∈ l, ACalls Tryz.prog f [aTm t] [] (.b (q t)) [] []) :
  ACalls Tryz.prog 295 [.l (l.map eTm), .c (.fn f [])] [] (.i (firstIx q l 0)) [] [] := by
 refine ACalls.of_body Tryz.func295 (by kernel_rfl) rfl (by kernel_rfl) (by simp [Tryz.ntmps295]) (by simp) ?_
 rw [Tryz.ntmps295]
 repeat' first | ((first | refine aops_end (hK _ ?_) | refine aopsD_end (hK _ ?_)); clear hK K) | ((first | refine aops_go ?_ | refine aopsD_go ?_); simp; (try (refine gen fun q hq => ?_; cases q <;> (try simp at hq) <;> (try (have hh : True := hq; clear hh hq))))) | refine T.r0 fun K hK => ?_ | refine T.r1 fun K hK => ?_ | refine T.rd mixed (fun _ => false) [] (by kernel_rfl) fun K hK => ?_ | refine T.rd1 mixed (fun _ => false) [] (by kernel_rfl) fun K hK => ?_ | refine T.ct rfl ?_ | refine T.cf rfl ?_ | refine T.seq ?_ | refine T.block ?_ | refine T.skip ?_ | refine T.exit ?_
 obtain ⟨R, hR⟩ : ∃ R, firstIx q l 0 = R := ⟨_, rfl⟩
 rw [hR]
 refine T.loopF (fun p : Nat => ⟨[(0, .l (l.map eTm)), (1, .c (.fn f [])), (7, .i l.length), (8, .i p)], [], []⟩) (fun p => l.length + 1 - p) (fun p => p <= l.length /\ firstIx q (l.drop p) p = R) (fun p hp => ?_) 0 (by simpa using hR) (by simp)
 obtain ⟨hi, he⟩ := hp
 by_cases hlt : p < l.length
 ·obtain ⟨u, ht⟩ := get_lt hlt
  have htm : u ∈ l := List.mem_of_getElem? ht
  have hgt : l[p] = u := by rw [List.getElem?_eq_getElem hlt] at ht; exact Option.some.inj ht
  have hdr : l.drop p = u :: l.drop (p + 1) := by rw [List.drop_eq_getElem_cons hlt, hgt]
  have hu := hf u htm
  rw [hdr, firstIx] at he
  cases hb : q u <;> rw [hb] at hu he
  ·repeat' first | ((first | refine aops_end (hK _ ?_) | refine aopsD_end (hK _ ?_)); clear hK K) | ((first | refine aops_go ?_ | refine aopsD_go ?_); simp [hlt, hgt]; (try simp (disch := omega) only [wrap64]); (try (refine gen fun q hq => ?_; cases q <;> (try simp [hlt, hgt] at hq) <;> (try (have hh : True := hq; clear hh hq))))) | (refine wpcall_pure rfl (hu) ?_; simp [hlt, hgt]; (try simp (disch := omega) only [wrap64]); (try first | (refine Ops.gen fun q hq => ?_; cases q <;> (try simp [hlt, hgt] at hq) <;> (try (have hh : True := hq; clear hh hq))) | (refine OpsD.gen fun q hq => ?_; cases q <;> (try simp [hlt, hgt] at hq) <;> (try (have hh : True := hq; clear hh hq))))) | (refine ⟨p + 1, by dsimp only; omega, ⟨by omega, by simpa using he⟩, ?_⟩; simp (disch := omega) [wrap64]) | refine T.r0 fun K hK => ?_ | refine T.r1 fun K hK => ?_ | refine T.rd mixed (fun _ => false) [] (by kernel_rfl) fun K hK => ?_ | refine T.rd1 mixed (fun _ => false) [] (by kernel_rfl) fun K hK => ?_ | refine T.ct rfl ?_ | refine T.cf rfl ?_ | refine T.seq ?_ | refine T.block ?_ | refine T.skip ?_ | refine T.exit ?_
  ·repeat' first | ((first | refine aops_end (hK _ ?_) | refine aopsD_end (hK _ ?_)); clear hK K) | ((first | refine aops_go ?_ | refine aopsD_go ?_); simp [hlt, hgt]; (try simp (disch := omega) only [wrap64]); (try (refine gen fun q hq => ?_; cases q <;> (try simp [hlt, hgt] at hq) <;> (try (have hh : True := hq; clear hh hq))))) | (refine wpcall_pure rfl (hu) ?_; simp [hlt, hgt]; (try simp (disch := omega) only [wrap64]); (try first | (refine Ops.gen fun q hq => ?_; cases q <;> (try simp [hlt, hgt] at hq) <;> (try (have hh : True := hq; clear hh hq))) | (refine OpsD.gen fun q hq => ?_; cases q <;> (try simp [hlt, hgt] at hq) <;> (try (have hh : True := hq; clear hh hq))))) | (refine T.ret (Done.data (Or.inr rfl) ?_ ?_) <;> simp [Tryz.results295, <- he] <;> omega) | refine T.r0 fun K hK => ?_ | refine T.r1 fun K hK => ?_ | refine T.rd mixed (fun _ => false) [] (by kernel_rfl) fun K hK => ?_ | refine T.rd1 mixed (fun _ => false) [] (by kernel_rfl) fun K hK => ?_ | refine T.ct rfl ?_ | refine T.cf rfl ?_ | refine T.seq ?_ | refine T.block ?_ | refine T.skip ?_ | refine T.exit ?_
 ·have hp' : p = l.length := by omega
  subst hp'
  simp [firstIx] at he
  repeat' first | ((first | refine aops_end (hK _ ?_) | refine aopsD_end (hK _ ?_)); clear hK K) | ((first | refine aops_go ?_ | refine aopsD_go ?_); simp [hlt]; (try (refine gen fun q hq => ?_; cases q <;> (try simp [hlt] at hq) <;> (try (have hh : True := hq; clear hh hq))))) | (refine T.ret (Done.data (Or.inr rfl) ?_ ?_) <;> simp [Tryz.results295, he] <;> omega) | refine T.r0 fun K hK => ?_ | refine T.r1 fun K hK => ?_ | refine T.rd mixed (fun _ => false) [] (by kernel_rfl) fun K hK => ?_ | refine T.rd1 mixed (fun _ => false) [] (by kernel_rfl) fun K hK => ?_ | refine T.ct rfl ?_ | refine T.cf rfl ?_ | refine T.seq ?_ | refine T.block ?_ | refine T.skip ?_ | refine T.exit ?_

theorem containsFuncTm_0 (f : FuncId) (l : List MTm) (q : MTm -> Bool) (hl : l.length <= 4611686018427387904) (hf : ∀ t ∈ l, ACalls Tryz.prog f [aTm t] [] (.b (q t)) [] []) :
  ACalls Tryz.prog 276 [.l (l.map eTm), .c (.fn f [])] [] (.b (l.any q)) [] [] := by
 refine ACalls.of_body Tryz.func276 (by kernel_rfl) rfl (by kernel_rfl) (by simp [Tryz.ntmps276]) (by simp) ?_
 rw [Tryz.ntmps276]
 rw [<- firstIx_any (i := 0) (by omega)]
 repeat' first | ((first | refine aops_end (hK _ ?_) | refine aopsD_end (hK _ ?_)); clear hK K) | ((first | refine aops_go ?_ | refine aopsD_go ?_); simp; (try (refine gen fun q hq => ?_; cases q <;> (try simp at hq) <;> (try (have hh : True := hq; clear hh hq))))) | (refine wpcall_pure rfl (indexFuncTm_0 f l q hl hf) ?_; simp; (try first | (refine Ops.gen fun q hq => ?_; cases q <;> (try simp at hq) <;> (try (have hh : True := hq; clear hh hq))) | (refine OpsD.gen fun q hq => ?_; cases q <;> (try simp at hq) <;> (try (have hh : True := hq; clear hh hq))))) | (refine T.ret (Done.data (Or.inr rfl) ?_ ?_) <;> simp [Tryz.results276, *] <;> omega) | refine T.r0 fun K hK => ?_ | refine T.r1 fun K hK => ?_ | refine T.rd mixed (fun _ => false) [] (by kernel_rfl) fun K hK => ?_ | refine T.rd1 mixed (fun _ => false) [] (by kernel_rfl) fun K hK => ?_ | refine T.ct rfl ?_ | refine T.cf rfl ?_ | refine T.seq ?_ | refine T.block ?_ | refine T.skip ?_ | refine T.exit ?_

end Go.Proofs.YtflmjilnecanhaaGreatDoor

namespace Go.Proofs.YtflmjilnecanhaaGreatDoor
attribute [-simp] Go.Av.freeStep Go.Av.exV Go.Av.keepL Go.Av.ups Go.Av.take_app_len Go.Av.innVs Go.Av.putBack Go.Av.objCells Go.Av.back Go.Av.resVs Go.Av.one Go.Av.freeStepG Go.Av.exA Go.Av.innAsH Go.Av.AV.innH Go.Av.CV.innH Go.Av.innHs Go.Av.AV.outnH Go.Av.CV.outnH
open Go Go.Av
attribute [local irreducible] T ACalls eTy eTm MTy.kind MTy.kids MTm.kind MTm.name MTm.num MTm.ty MTm.fr MTm.label MTm.kids
attribute [local simp] eTy_def eTm_def
set_option maxHeartbeats 4000000

theorem equalFuncTy_0 (f : FuncId) (l m : List MTy) (q : MTy -> MTy -> Bool) (hl : l.length <= 4611686018427387904) (hf : ∀ a ∈ l, ∀ b ∈ m, ACalls Tryz.prog f [aTy a, aTy b] [] (.b (q a b)) [] []) :
  ACalls Tryz.prog 157 [.l (l.map eTy), .l (m.map eTy), .c (.fn f [])] [] (.b (all2 q l m)) [] [] := by
 refine ACalls.of_body Tryz.func157 (by kernel_rfl) rfl (by kernel_rfl) (by simp [Tryz.ntmps157]) (by simp) ?_
 rw [Tryz.ntmps157]
 by_cases hlm : l.length = m.length
 rotate_left
 ·have hne : ¬ (l.length : Int) = m.length := by omega
  repeat' first | (refine aops_end (hK _ ?_); clear hK K) | (refine aops_go ?_; simp [hne]; (try (refine gen fun q hq => ?_; cases q <;> (try simp [hne] at hq) <;> (try (have hh : True := hq; clear hh hq))))) | (refine T.ret (Done.data (Or.inr rfl) ?_ ?_) <;> simp [Tryz.results157, all2_ne hlm] <;> omega) | refine T.r0 fun K hK => ?_ | refine T.ct rfl ?_ | refine T.seq ?_
 repeat' first | (refine aops_end (hK _ ?_); clear hK K) | (refine aops_go ?_; simp [hlm]; (try (refine gen fun q hq => ?_; cases q <;> (try simp [hlm] at hq) <;> (try (have hh : True := hq; clear hh hq))))) | refine T.r0 fun K hK => ?_ | refine T.cf rfl ?_ | refine T.seq ?_ | refine T.block ?_ | refine T.skip ?_
 obtain ⟨R, hR⟩ : ∃ R, all2 q l m = R := ⟨_, rfl⟩
 rw [hR]
 refine T.loopF (fun x : Nat × List (List CV) => ⟨[(0, .l (l.map eTy)), (1, .l (m.map eTy)), (2, .c (.fn f [])), (15, .l (l.map eTy)), (16, .i m.length), (17, .i x.1)], x.2, []⟩) (fun x => l.length + 1 - x.1) (fun x => x.1 <= l.length /\ all2 q (l.drop x.1) (m.drop x.1) = R) (fun x hp => ?_) (0, []) (by simpa using hR) (by simp)
 obtain ⟨p, G⟩ := x
 obtain ⟨hi, he⟩ := hp
 dsimp only at hi he ⊢
 by_cases hlt : p < l.length
 ·have hlt2 : p < m.length := by omega
  obtain ⟨u, ht⟩ := get_lt hlt
  have htm : u ∈ l := List.mem_of_getElem? ht
  have hgt : l[p] = u := by rw [List.getElem?_eq_getElem hlt] at ht; exact Option.some.inj ht
  have hdr : l.drop p = u :: l.drop (p + 1) := by rw [List.drop_eq_getElem_cons hlt, hgt]
  obtain ⟨v, hv⟩ := get_lt hlt2
  have hvm : v ∈ m := List.mem_of_getElem? hv
  have hgv : m[p] = v := by rw [List.getElem?_eq_getElem hlt2] at hv; exact Option.some.inj hv
  have hu := hf u htm v hvm
  rw [hdr, drop_cons hlt2, hgv, all2_cons] at he
  cases hb : q u v <;> rw [hb] at hu he
  ·repeat' first | (refine aops_end (hK _ ?_); clear hK K) | (refine aops_go ?_; simp [hlt, hlt2, hgt, hgv]; (try simp (disch := omega) only [wrap64]); (try (refine gen fun q hq => ?_; cases q <;> (try simp [hlt, hlt2, hgt, hgv] at hq) <;> (try (have hh : True := hq; clear hh hq))))) | (refine wpcall_pure rfl (hu) ?_; simp [hlt, hlt2, hgt, hgv]; (try simp (disch := omega) only [wrap64]); (try first | (refine Ops.gen fun q hq => ?_; cases q <;> (try simp [hlt, hlt2, hgt, hgv] at hq) <;> (try (have hh : True := hq; clear hh hq))) | (refine OpsD.gen fun q hq => ?_; cases q <;> (try simp [hlt, hlt2, hgt, hgv] at hq) <;> (try (have hh : True := hq; clear hh hq))))) | (refine T.ret (Done.data (Or.inr rfl) ?_ ?_) <;> simp [Tryz.results157, <- he] <;> omega) | refine T.r0 fun K hK => ?_ | refine T.ct rfl ?_ | refine T.seq ?_ | refine T.block ?_ | refine T.skip ?_
  ·repeat' first | (refine aops_end (hK _ ?_); clear hK K) | (refine aops_go ?_; simp [hlt, hlt2, hgt, hgv]; (try simp (disch := omega) only [wrap64]); (try (refine gen fun q hq => ?_; cases q <;> (try simp [hlt, hlt2, hgt, hgv] at hq) <;> (try (have hh : True := hq; clear hh hq))))) | (refine wpcall_pure rfl (hu) ?_; simp [hlt, hlt2, hgt, hgv]; (try simp (disch := omega) only [wrap64]); (try first | (refine Ops.gen fun q hq => ?_; cases q <;> (try simp [hlt, hlt2, hgt, hgv] at hq) <;> (try (have hh : True := hq; clear hh hq))) | (refine OpsD.gen fun q hq => ?_; cases q <;> (try simp [hlt, hlt2, hgt, hgv] at hq) <;> (try (have hh : True := hq; clear hh hq))))) | (refine ⟨(p + 1, _), by dsimp only; omega, ⟨by dsimp only; omega, by simpa using he⟩, rfl, rfl, ?_⟩; simp (disch := omega) [wrap64]) | refine T.r0 fun K hK => ?_ | refine T.r1 fun K hK => ?_ | refine T.ct rfl ?_ | refine T.cf rfl ?_ | refine T.seq ?_ | refine T.block ?_ | refine T.skip ?_
 ·have hp' : p = l.length := by omega
  subst hp'
  rw [List.drop_length, hlm, List.drop_length, all2_nil] at he
  repeat' first | (refine aops_end (hK _ ?_); clear hK K) | (refine aops_go ?_; simp [hlt, hlm]; (try (refine gen fun q hq => ?_; cases q <;> (try simp [hlt, hlm] at hq) <;> (try (have hh : True := hq; clear hh hq))))) | (refine T.ret (Done.data (Or.inr rfl) ?_ ?_) <;> simp [Tryz.results157, <- he] <;> omega) | refine T.r0 fun K hK => ?_ | refine T.cf rfl ?_ | refine T.seq ?_ | refine T.exit ?_

theorem equalFuncTm_0 (f : FuncId) (l m : List MTm) (q : MTm -> MTm -> Bool) (hl : l.length <= 4611686018427387904) (hf : ∀ a ∈ l, ∀ b ∈ m, ACalls Tryz.prog f [aTm a, aTm b] [] (.b (q a b)) [] []) :
  ACalls Tryz.prog 84 [.l (l.map eTm), .l (m.map eTm), .c (.fn f [])] [] (.b (all2 q l m)) [] [] := by
 refine ACalls.of_body Tryz.func84 (by kernel_rfl) rfl (by kernel_rfl) (by simp [Tryz.ntmps84]) (by simp) ?_
 rw [Tryz.ntmps84]
 by_cases hlm : l.length = m.length
 rotate_left
 ·have hne : ¬ (l.length : Int) = m.length := by omega
  repeat' first | (refine aops_end (hK _ ?_); clear hK K) | (refine aops_go ?_; simp [hne]; (try (refine gen fun q hq => ?_; cases q <;> (try simp [hne] at hq) <;> (try (have hh : True := hq; clear hh hq))))) | (refine T.ret (Done.data (Or.inr rfl) ?_ ?_) <;> simp [Tryz.results84, all2_ne hlm] <;> omega) | refine T.r0 fun K hK => ?_ | refine T.ct rfl ?_ | refine T.seq ?_
 repeat' first | (refine aops_end (hK _ ?_); clear hK K) | (refine aops_go ?_; simp [hlm]; (try (refine gen fun q hq => ?_; cases q <;> (try simp [hlm] at hq) <;> (try (have hh : True := hq; clear hh hq))))) | refine T.r0 fun K hK => ?_ | refine T.cf rfl ?_ | refine T.seq ?_ | refine T.block ?_ | refine T.skip ?_
 obtain ⟨R, hR⟩ : ∃ R, all2 q l m = R := ⟨_, rfl⟩
 rw [hR]
 refine T.loopF (fun x : Nat × List (List CV) => ⟨[(0, .l (l.map eTm)), (1, .l (m.map eTm)), (2, .c (.fn f [])), (15, .l (l.map eTm)), (16, .i m.length), (17, .i x.1)], x.2, []⟩) (fun x => l.length + 1 - x.1) (fun x => x.1 <= l.length /\ all2 q (l.drop x.1) (m.drop x.1) = R) (fun x hp => ?_) (0, []) (by simpa using hR) (by simp)
 obtain ⟨p, G⟩ := x
 obtain ⟨hi, he⟩ := hp
 dsimp only at hi he ⊢
 by_cases hlt : p < l.length
 ·have hlt2 : p < m.length := by omega
  obtain ⟨u, ht⟩ := get_lt hlt
  have htm : u ∈ l := List.mem_of_getElem? ht
  have hgt : l[p] = u := by rw [List.getElem?_eq_getElem hlt] at ht; exact Option.some.inj ht
  have hdr : l.drop p = u :: l.drop (p + 1) := by rw [List.drop_eq_getElem_cons hlt, hgt]
  obtain ⟨v, hv⟩ := get_lt hlt2
  have hvm : v ∈ m := List.mem_of_getElem? hv
  have hgv : m[p] = v := by rw [List.getElem?_eq_getElem hlt2] at hv; exact Option.some.inj hv
  have hu := hf u htm v hvm
  rw [hdr, drop_cons hlt2, hgv, all2_cons] at he
  cases hb : q u v <;> rw [hb] at hu he
  ·repeat' first | (refine aops_end (hK _ ?_); clear hK K) | (refine aops_go ?_; simp [hlt, hlt2, hgt, hgv]; (try simp (disch := omega) only [wrap64]); (try (refine gen fun q hq => ?_; cases q <;> (try simp [hlt, hlt2, hgt, hgv] at hq) <;> (try (have hh : True := hq; clear hh hq))))) | (refine wpcall_pure rfl (hu) ?_; simp [hlt, hlt2, hgt, hgv]; (try simp (disch := omega) only [wrap64]); (try first | (refine Ops.gen fun q hq => ?_; cases q <;> (try simp [hlt, hlt2, hgt, hgv] at hq) <;> (try (have hh : True := hq; clear hh hq))) | (refine OpsD.gen fun q hq => ?_; cases q <;> (try simp [hlt, hlt2, hgt, hgv] at hq) <;> (try (have hh : True := hq; clear hh hq))))) | (refine T.ret (Done.data (Or.inr rfl) ?_ ?_) <;> simp [Tryz.results84, <- he] <;> omega) | refine T.r0 fun K hK => ?_ | refine T.ct rfl ?_ | refine T.seq ?_ | refine T.block ?_ | refine T.skip ?_
  ·repeat' first | (refine aops_end (hK _ ?_); clear hK K) | (refine aops_go ?_; simp [hlt, hlt2, hgt, hgv]; (try simp (disch := omega) only [wrap64]); (try (refine gen fun q hq => ?_; cases q <;> (try simp [hlt, hlt2, hgt, hgv] at hq) <;> (try (have hh : True := hq; clear hh hq))))) | (refine wpcall_pure rfl (hu) ?_; simp [hlt, hlt2, hgt, hgv]; (try simp (disch := omega) only [wrap64]); (try first | (refine Ops.gen fun q hq => ?_; cases q <;> (try simp [hlt, hlt2, hgt, hgv] at hq) <;> (try (have hh : True := hq; clear hh hq))) | (refine OpsD.gen fun q hq => ?_; cases q <;> (try simp [hlt, hlt2, hgt, hgv] at hq) <;> (try (have hh : True := hq; clear hh hq))))) | (refine ⟨(p + 1, _), by dsimp only; omega, ⟨by dsimp only; omega, by simpa using he⟩, rfl, rfl, ?_⟩; simp (disch := omega) [wrap64]) | refine T.r0 fun K hK => ?_ | refine T.r1 fun K hK => ?_ | refine T.ct rfl ?_ | refine T.cf rfl ?_ | refine T.seq ?_ | refine T.block ?_ | refine T.skip ?_
 ·have hp' : p = l.length := by omega
  subst hp'
  rw [List.drop_length, hlm, List.drop_length, all2_nil] at he
  repeat' first | (refine aops_end (hK _ ?_); clear hK K) | (refine aops_go ?_; simp [hlt, hlm]; (try (refine gen fun q hq => ?_; cases q <;> (try simp [hlt, hlm] at hq) <;> (try (have hh : True := hq; clear hh hq))))) | (refine T.ret (Done.data (Or.inr rfl) ?_ ?_) <;> simp [Tryz.results84, <- he] <;> omega) | refine T.r0 fun K hK => ?_ | refine T.cf rfl ?_ | refine T.seq ?_ | refine T.exit ?_

end Go.Proofs.YtflmjilnecanhaaGreatDoor

namespace Go.Proofs.YtflmjilnecanhaaGreatDoor
attribute [-simp] Go.Av.freeStep Go.Av.exV Go.Av.keepL Go.Av.ups Go.Av.take_app_len Go.Av.innVs Go.Av.putBack Go.Av.objCells Go.Av.back Go.Av.resVs Go.Av.one Go.Av.freeStepG Go.Av.exA Go.Av.innAsH Go.Av.AV.innH Go.Av.CV.innH Go.Av.innHs Go.Av.AV.outnH Go.Av.CV.outnH
open Go Go.Av
attribute [local irreducible] T ACalls eTy eTm MTy.kind MTy.kids MTm.kind MTm.name MTm.num MTm.ty MTm.fr MTm.label MTm.kids
attribute [local simp] eTy_def eTm_def
set_option maxHeartbeats 4000000

theorem TypeValidS_ok (t : MTy) (hn : nTy t <= 1099511627776) : ACalls Tryz.prog 143 [aTy t] [] (.b (shapeTy 4 t)) [] [] := by
 refine ACalls.of_body Tryz.func143 (by kernel_rfl) rfl (by kernel_rfl) (by simp [Tryz.ntmps143]) (by simp) ?_
 rw [Tryz.ntmps143]
 repeat' first | (refine aops_end (hK _ ?_); clear hK K) | ((first | refine aops_go ?_ | refine wpcall_pure rfl (l1Shape_ok 4 t (by omega) hn) ?_); simp) | (refine T.ret (Done.data (Or.inr rfl) ?_ ?_) <;> simp [Tryz.results143] <;> omega) | refine T.r0 fun K hK => ?_

theorem typeScan1_ok (d : Int) (hd : 0 <= d /\ d <= 1000) (t : MTy) (q : Bool) (h : ACalls Tryz.prog 177 [aTy t, .i (d + 1)] [] (.b q) [] []) :
  ACalls Tryz.prog 223 [aTy t, .c (.ptr 0 0)] (dV [[.i d]]) (.b (!q)) (dV [[.i d]]) [] := by
 refine ACalls.of_body Tryz.func223 (by kernel_rfl) rfl (by kernel_rfl) (by simp [Tryz.ntmps223]) (by simp) ?_
 rw [Tryz.ntmps223]
 repeat' first | (refine aops_end (hK _ ?_); clear hK K) | ((first | refine aops_go ?_ | refine wpcall_pure rfl (h) ?_); simp; (try simp (disch := omega) only [wrap64])) | refine T.r0 fun K hK => ?_
 refine T.ret (Done.obj1 (Or.inr rfl) ?_ ?_ ?_) <;> simp [Tryz.results223]

theorem typeScan_ok : ∀ (d : Nat) (t : MTy), d <= 4 -> nTy t <= 1099511627776 -> ACalls Tryz.prog 177 [aTy t, .i (5 - d)] [] (.b (shapeTy d t)) [] []
 | 0, t, _, _ => by
  refine ACalls.of_body Tryz.func177 (by kernel_rfl) rfl (by kernel_rfl) (by simp [Tryz.ntmps177]) (by simp) ?_
  rw [Tryz.ntmps177]
  repeat' first | (refine aops_end (hK _ ?_); clear hK K) | (refine aops_go ?_; simp; (try (refine gen fun q hq => ?_; cases q <;> (try simp at hq) <;> (try (have hh : True := hq; clear hh hq))))) | (refine T.ret (Done.data (Or.inr rfl) ?_ ?_) <;> simp [Tryz.results177, shapeTy] <;> omega) | refine T.r0 fun K hK => ?_ | refine T.r1 fun K hK => ?_ | refine T.ct rfl ?_ | refine T.cf rfl ?_ | refine T.seq ?_ | refine T.block ?_ | refine T.skip ?_
 | d + 1, t, hd, hn => by
  rw [nTy_def] at hn
  have hlen := nTyS_len t.kids
  have hd1 : (5 : Int) - (d + 1) <= 4 := by omega
  have hc := containsFuncTy_1 223 (.i (5 - (d + 1))) t.kids (fun t => !shapeTy d t) (by omega) (fun u hu => typeScan1_ok (5 - (d + 1)) (by omega) u _ (by
   have := typeScan_ok d u (by omega) (by have := nTyS_mem hu; omega)
   rwa [show (5 : Int) - (d + 1) + 1 = 5 - d by omega]))
  have hall : (!t.kids.any fun t => !shapeTy d t) = t.kids.all (shapeTy d) := not_any_not _ _
  rw [show shapeTy (d + 1) t = (decide (tyKids t.kind = t.kids.length) && t.kids.all (shapeTy d)) from rfl, <- hall]
  generalize (t.kids.any fun t => !shapeTy d t) = R at hc ⊢
  refine ACalls.of_body Tryz.func177 (by kernel_rfl) rfl (by kernel_rfl) (by simp [Tryz.ntmps177]) (by simp) ?_
  rw [Tryz.ntmps177]
  repeat' first | (refine aops_end (hK _ ?_); clear hK K) | (refine aops_go ?_; simp [hd1]; (try (refine gen fun q hq => ?_; cases q <;> (try simp [hd1] at hq) <;> (try (have hh : True := hq; clear hh hq))))) | (refine wpcall_obj1 1 [.i (5 - (d + 1))] rfl (by simp) hc ?_; simp) | (refine T.ret (Done.data (Or.inr rfl) ?_ ?_) <;> simp [Tryz.results177, tyKids, *] <;> omega) | refine T.r0 fun K hK => ?_ | refine T.r1 fun K hK => ?_ | refine T.ct rfl ?_ | refine T.cf rfl ?_ | refine T.seq ?_ | refine T.block ?_ | refine T.skip ?_

theorem TypeValid_ok (t : MTy) (hn : nTy t <= 1099511627776) : ACalls Tryz.prog 103 [aTy t] [] (.b (shapeTy 4 t)) [] [] := by
 refine ACalls.of_body Tryz.func103 (by kernel_rfl) rfl (by kernel_rfl) (by simp [Tryz.ntmps103]) (by simp) ?_
 rw [Tryz.ntmps103]
 repeat' first | (refine aops_end (hK _ ?_); clear hK K) | ((first | refine aops_go ?_ | refine wpcall_pure rfl (typeScan_ok 4 t (by omega) hn) ?_); simp) | (refine T.ret (Done.data (Or.inr rfl) ?_ ?_) <;> simp [Tryz.results103] <;> omega) | refine T.r0 fun K hK => ?_

theorem consistent_ok : (a b : MTy) -> nTy a <= 1099511627776 -> ACalls Tryz.prog 250 [aTy a, aTy b] [] (.b (consTy a b)) [] []
 | .mk k l, b, hn => by
  rw [nTy_def] at hn
  have hlen := nTyS_len l
  have hc := equalFuncTy_0 250 l b.kids consTy (by simp at hn; omega) (fun u hu v hv => consistent_ok u v (by have := nTyS_mem hu; simp at hn; omega))
  rw [consTy_def]
  simp only [MTy.kids_mk, MTy.kind_mk]
  generalize all2 consTy l b.kids = R at hc ⊢
  refine ACalls.of_body Tryz.func250 (by kernel_rfl) rfl (by kernel_rfl) (by simp [Tryz.ntmps250]) (by simp) ?_
  rw [Tryz.ntmps250]
  repeat' first | (refine aops_end (hK _ ?_); clear hK K) | (refine aops_go ?_; simp; (try (refine gen fun q hq => ?_; cases q <;> (try simp at hq) <;> (try (have hh : True := hq; clear hh hq))))) | (refine wpcall_pure rfl (hc) ?_; simp; (try first | (refine Ops.gen fun q hq => ?_; cases q <;> (try simp at hq) <;> (try (have hh : True := hq; clear hh hq))) | (refine OpsD.gen fun q hq => ?_; cases q <;> (try simp at hq) <;> (try (have hh : True := hq; clear hh hq))))) | (refine T.ret (Done.data (Or.inr rfl) ?_ ?_) <;> simp [Tryz.results250, *] <;> omega) | refine T.r0 fun K hK => ?_
termination_by a => SizeOf.sizeOf a
decreasing_by have := List.sizeOf_lt_of_mem hu; simp; omega

theorem Consistent_ok (a b : MTy) (ha : nTy a <= 1099511627776) (hb : nTy b <= 1099511627776) : ACalls Tryz.prog 244 [aTy a, aTy b] [] (.b (shapeTy 4 a && shapeTy 4 b && consTy a b)) [] [] := by
 refine ACalls.of_body Tryz.func244 (by kernel_rfl) rfl (by kernel_rfl) (by simp [Tryz.ntmps244]) (by simp) ?_
 rw [Tryz.ntmps244]
 repeat' first | (refine aops_end (hK _ ?_); clear hK K) | (refine aops_go ?_; simp; (try (refine gen fun q hq => ?_; cases q <;> (try simp at hq) <;> (try (have hh : True := hq; clear hh hq))))) | (refine wpcall_pure rfl (TypeValid_ok a ha) ?_; simp; (try first | (refine Ops.gen fun q hq => ?_; cases q <;> (try simp at hq) <;> (try (have hh : True := hq; clear hh hq))) | (refine OpsD.gen fun q hq => ?_; cases q <;> (try simp at hq) <;> (try (have hh : True := hq; clear hh hq))))) | (refine wpcall_pure rfl (TypeValid_ok b hb) ?_; simp; (try first | (refine Ops.gen fun q hq => ?_; cases q <;> (try simp at hq) <;> (try (have hh : True := hq; clear hh hq))) | (refine OpsD.gen fun q hq => ?_; cases q <;> (try simp at hq) <;> (try (have hh : True := hq; clear hh hq))))) | (refine wpcall_pure rfl (consistent_ok a b ha) ?_; simp; (try first | (refine Ops.gen fun q hq => ?_; cases q <;> (try simp at hq) <;> (try (have hh : True := hq; clear hh hq))) | (refine OpsD.gen fun q hq => ?_; cases q <;> (try simp at hq) <;> (try (have hh : True := hq; clear hh hq))))) | (refine T.ret (Done.data (Or.inr rfl) ?_ ?_) <;> simp [Tryz.results244, *] <;> omega) | refine T.r0 fun K hK => ?_

theorem l1Consistent_ok : ∀ (d : Nat) (a b : MTy), d <= 1000 -> shapeTy d a = true -> shapeTy d b = true -> ACalls Tryz.prog 144 [aTy a, aTy b] [] (.b (consTy a b)) [] []
 | 0, a, b, _, ha, _ => by simp [shapeTy] at ha
 | d + 1, a, b, hd, ha, hb => by
  obtain ⟨e, he, hka, hla, hsa⟩ := shapeTy_kids ha
  obtain ⟨e', he', hkb, hlb, hsb⟩ := shapeTy_kids hb
  obtain rfl : d = e := by omega
  obtain rfl : d = e' := by omega
  rw [consTy_def]
  refine ACalls.of_body Tryz.func144 (by kernel_rfl) rfl (by kernel_rfl) (by simp [Tryz.ntmps144]) (by simp) ?_
  rw [Tryz.ntmps144]
  by_cases hk1 : a.kind = 1
  ·repeat' first | (refine aops_end (hK _ ?_); clear hK K) | (refine aops_go ?_; simp [hk1]; (try (refine gen fun q hq => ?_; cases q <;> (try simp [hk1] at hq) <;> (try (have hh : True := hq; clear hh hq))))) | (refine T.ret (Done.data (Or.inr rfl) ?_ ?_) <;> simp [Tryz.results144, hk1] <;> omega) | refine T.r0 fun K hK => ?_ | refine T.ct rfl ?_ | refine T.seq ?_
  by_cases hk2 : b.kind = 1
  ·repeat' first | (refine aops_end (hK _ ?_); clear hK K) | (refine aops_go ?_; simp [hk1, hk2, beq_f hk1]; (try (refine gen fun q hq => ?_; cases q <;> (try simp [hk1, hk2, beq_f hk1] at hq) <;> (try (have hh : True := hq; clear hh hq))))) | (refine T.ret (Done.data (Or.inr rfl) ?_ ?_) <;> simp [Tryz.results144, hk1, hk2] <;> omega) | refine T.r0 fun K hK => ?_ | refine T.ct rfl ?_ | refine T.seq ?_
  by_cases hk : a.kind = b.kind
  rotate_left
  ·repeat' first | (refine aops_end (hK _ ?_); clear hK K) | (refine aops_go ?_; simp [hk1, hk2, hk]; (try (refine gen fun q hq => ?_; cases q <;> (try simp [hk1, hk2, hk] at hq) <;> (try (have hh : True := hq; clear hh hq))))) | (refine T.ret (Done.data (Or.inr rfl) ?_ ?_) <;> simp [Tryz.results144, hk1, hk2, hk] <;> omega) | refine T.r0 fun K hK => ?_ | refine T.ct rfl ?_ | refine T.cf rfl ?_ | refine T.seq ?_ | refine T.skip ?_
  have hlm : a.kids.length = b.kids.length := by rw [hk] at hka; omega
  repeat' first | (refine aops_end (hK _ ?_); clear hK K) | (refine aops_go ?_; simp [hk1, hk2, hk]; (try (refine gen fun q hq => ?_; cases q <;> (try simp [hk1, hk2, hk] at hq) <;> (try (have hh : True := hq; clear hh hq))))) | refine T.r0 fun K hK => ?_ | refine T.cf rfl ?_ | refine T.seq ?_ | refine T.block ?_ | refine T.skip ?_
  obtain ⟨R, hR⟩ : ∃ R, all2 consTy a.kids b.kids = R := ⟨_, rfl⟩
  rw [show (decide (a.kind = 1) || decide (b.kind = 1) || (decide (a.kind = b.kind) && all2 consTy a.kids b.kids)) = R by simp [hk1, hk2, hk, hR]]
  refine T.loopF (fun p : Nat => ⟨[(2, .c (.ptr 0 0)), (3, .c (.ptr 1 0)), (5, .i p)], [(aTy a).cells, (aTy b).cells], []⟩) (fun p => a.kids.length + 1 - p) (fun p => p <= a.kids.length /\ all2 consTy (a.kids.drop p) (b.kids.drop p) = R) (fun p hp => ?_) 0 (by simpa using hR) (by simp [hk])
  obtain ⟨hi, he⟩ := hp
  by_cases hlt : p < a.kids.length
  ·have hlt2 : p < b.kids.length := by omega
   obtain ⟨u, ht⟩ := get_lt hlt
   have htm : u ∈ a.kids := List.mem_of_getElem? ht
   have hgt : a.kids[p] = u := by rw [List.getElem?_eq_getElem hlt] at ht; exact Option.some.inj ht
   have hdr : a.kids.drop p = u :: a.kids.drop (p + 1) := by rw [List.drop_eq_getElem_cons hlt, hgt]
   obtain ⟨v, hv⟩ := get_lt hlt2
   have hvm : v ∈ b.kids := List.mem_of_getElem? hv
   have hgv : b.kids[p] = v := by rw [List.getElem?_eq_getElem hlt2] at hv; exact Option.some.inj hv
   have hu := l1Consistent_ok d u v (by omega) (hsa u htm) (hsb v hvm)
   rw [hdr, drop_cons hlt2, hgv, all2_cons] at he
   cases hb : consTy u v <;> rw [hb] at hu he
   ·repeat' first | ((first | refine aops_end (hK _ ?_) | refine aopsD_end (hK _ ?_)); clear hK K) | ((first | refine aops_go ?_ | refine aopsD_go ?_); simp [hlt, hlt2, hgt, hgv]; (try simp (disch := omega) only [wrap64]); (try (refine gen fun q hq => ?_; cases q <;> (try simp [hlt, hlt2, hgt, hgv] at hq) <;> (try (have hh : True := hq; clear hh hq))))) | (refine wpcall_pure rfl (hu) ?_; simp [hlt, hlt2, hgt, hgv]; (try simp (disch := omega) only [wrap64]); (try first | (refine Ops.gen fun q hq => ?_; cases q <;> (try simp [hlt, hlt2, hgt, hgv] at hq) <;> (try (have hh : True := hq; clear hh hq))) | (refine OpsD.gen fun q hq => ?_; cases q <;> (try simp [hlt, hlt2, hgt, hgv] at hq) <;> (try (have hh : True := hq; clear hh hq))))) | (refine T.ret (Done.data (Or.inr rfl) ?_ ?_) <;> simp [Tryz.results144, <- he] <;> omega) | refine T.r0 fun K hK => ?_ | refine T.rd mixed (fun _ => false) [] (by kernel_rfl) fun K hK => ?_ | refine T.ct rfl ?_ | refine T.seq ?_ | refine T.block ?_ | refine T.skip ?_
   ·repeat' first | ((first | refine aops_end (hK _ ?_) | refine aopsD_end (hK _ ?_)); clear hK K) | ((first | refine aops_go ?_ | refine aopsD_go ?_); simp [hlt, hlt2, hgt, hgv]; (try simp (disch := omega) only [wrap64]); (try (refine gen fun q hq => ?_; cases q <;> (try simp [hlt, hlt2, hgt, hgv] at hq) <;> (try (have hh : True := hq; clear hh hq))))) | (refine wpcall_pure rfl (hu) ?_; simp [hlt, hlt2, hgt, hgv]; (try simp (disch := omega) only [wrap64]); (try first | (refine Ops.gen fun q hq => ?_; cases q <;> (try simp [hlt, hlt2, hgt, hgv] at hq) <;> (try (have hh : True := hq; clear hh hq))) | (refine OpsD.gen fun q hq => ?_; cases q <;> (try simp [hlt, hlt2, hgt, hgv] at hq) <;> (try (have hh : True := hq; clear hh hq))))) | (refine ⟨p + 1, by dsimp only; omega, ⟨by omega, by simpa using he⟩, rfl, rfl, ?_⟩; simp (disch := omega) [wrap64]) | refine T.r0 fun K hK => ?_ | refine T.r1 fun K hK => ?_ | refine T.rd mixed (fun _ => false) [] (by kernel_rfl) fun K hK => ?_ | refine T.ct rfl ?_ | refine T.cf rfl ?_ | refine T.seq ?_ | refine T.block ?_ | refine T.skip ?_
  ·have hp' : p = a.kids.length := by omega
   subst hp'
   rw [List.drop_length, hlm, List.drop_length, all2_nil] at he
   repeat' first | (refine aops_end (hK _ ?_); clear hK K) | (refine aops_go ?_; simp [hlt, hlm]; (try (refine gen fun q hq => ?_; cases q <;> (try simp [hlt, hlm] at hq) <;> (try (have hh : True := hq; clear hh hq))))) | (refine T.ret (Done.data (Or.inr rfl) ?_ ?_) <;> simp [Tryz.results144, <- he] <;> omega) | refine T.r0 fun K hK => ?_ | refine T.cf rfl ?_ | refine T.seq ?_ | refine T.exit ?_
end Go.Proofs.YtflmjilnecanhaaGreatDoor

namespace Go.Proofs.YtflmjilnecanhaaGreatDoor
attribute [-simp] Go.Av.freeStep Go.Av.exV Go.Av.keepL Go.Av.ups Go.Av.take_app_len Go.Av.innVs Go.Av.putBack Go.Av.objCells Go.Av.back Go.Av.resVs Go.Av.one Go.Av.freeStepG Go.Av.exA Go.Av.innAsH Go.Av.AV.innH Go.Av.CV.innH Go.Av.innHs Go.Av.AV.outnH Go.Av.CV.outnH
open Go Go.Av
attribute [local irreducible] T ACalls eTy eTm MTy.kind MTy.kids MTm.kind MTm.name MTm.num MTm.ty MTm.fr MTm.label MTm.kids
attribute [local simp] eTy_def eTm_def
set_option maxHeartbeats 4000000

theorem l1Abs_ok (k : Int) : ACalls Tryz.prog 196 [.i k] [] (.i (if k < -99 \/ 99 < k then 0 else if k < 0 then -k else k)) [] [] := by
 refine ACalls.of_body Tryz.func196 (by kernel_rfl) rfl (by kernel_rfl) (by simp [Tryz.ntmps196]) (by simp) ?_
 rw [Tryz.ntmps196]
 repeat' first | (refine aops_end (hK _ ?_); clear hK K) | (refine aops_go ?_; simp; (try simp (disch := omega) only [wrap64]); (try (refine gen fun q hq => ?_; cases q <;> (try simp at hq) <;> (try (have hh : True := hq; clear hh hq))))) | (refine T.ret (Done.data (Or.inr rfl) ?_ ?_) <;> simp [Tryz.results196, *] <;> omega) | refine T.r0 fun K hK => ?_ | refine T.ct rfl ?_ | refine T.cf rfl ?_ | refine T.seq ?_ | refine T.skip ?_

theorem l4Own_ok (e : MTm) (hk : e.kind = 14) (ht : nTy e.ty <= 1099511627776) (hf : nTy e.fr <= 1099511627776) : ACalls Tryz.prog 254 [aTm e] [] (.b (ownM e)) [] [] := by
 have hr : ownM e = (decide (e.name = []) && decide (e.num = 0) && labM e.label && shapeTy 4 e.ty && shapeTy 4 e.fr && consTy e.fr e.ty) := by
  have hz : inM e.num 0 0 = decide (e.num = 0) := by simp only [inM, <- Bool.decide_and]; exact decide_eq_decide.2 (by omega)
  simp only [ownM, hk, namedM, typedM, castOwnM]
  simp [hz]
  generalize shapeTy 4 e.ty = a; generalize shapeTy 4 e.fr = b; generalize consTy e.fr e.ty = c; generalize labM e.label = d
  cases a <;> cases b <;> cases c <;> cases d <;> simp
 rw [hr]
 generalize hm : (if e.label < -99 \/ 99 < e.label then 0 else if e.label < 0 then -e.label else e.label) = m
 have hl : labM e.label = (decide (1 <= m) && decide (m <= 99)) := by
  simp only [labM, inM, <- Bool.decide_and, <- Bool.decide_or]
  refine decide_eq_decide.2 ?_
  rw [<- hm]
  split <;> (try split) <;> omega
 have habs := l1Abs_ok e.label
 rw [hm] at habs
 rw [hl]
 have hty := TypeValidS_ok e.ty ht
 have hfr := TypeValidS_ok e.fr hf
 generalize hS : shapeTy 4 e.ty = S1 at *
 generalize hS' : shapeTy 4 e.fr = S2 at *
 cases S1 with
 | false => 
  refine ACalls.of_body Tryz.func254 (by kernel_rfl) rfl (by kernel_rfl) (by simp [Tryz.ntmps254]) (by simp) ?_
  rw [Tryz.ntmps254]
  repeat' first | (refine aops_end (hK _ ?_); clear hK K) | (refine aops_go ?_; simp; (try (refine gen fun q hq => ?_; cases q <;> (try simp at hq) <;> (try (have hh : True := hq; clear hh hq))))) | (refine wpcall_pure rfl (habs) ?_; simp; (try first | (refine Ops.gen fun q hq => ?_; cases q <;> (try simp at hq) <;> (try (have hh : True := hq; clear hh hq))) | (refine OpsD.gen fun q hq => ?_; cases q <;> (try simp at hq) <;> (try (have hh : True := hq; clear hh hq))))) | (refine wpcall_pure rfl (hty) ?_; simp; (try first | (refine Ops.gen fun q hq => ?_; cases q <;> (try simp at hq) <;> (try (have hh : True := hq; clear hh hq))) | (refine OpsD.gen fun q hq => ?_; cases q <;> (try simp at hq) <;> (try (have hh : True := hq; clear hh hq))))) | (refine T.ret (Done.data (Or.inr rfl) ?_ ?_) <;> simp [Tryz.results254, *] <;> omega) | refine T.r0 fun K hK => ?_
 | true =>
  cases S2 with
  | false =>
   refine ACalls.of_body Tryz.func254 (by kernel_rfl) rfl (by kernel_rfl) (by simp [Tryz.ntmps254]) (by simp) ?_
   rw [Tryz.ntmps254]
   repeat' first | (refine aops_end (hK _ ?_); clear hK K) | (refine aops_go ?_; simp; (try (refine gen fun q hq => ?_; cases q <;> (try simp at hq) <;> (try (have hh : True := hq; clear hh hq))))) | (refine wpcall_pure rfl (habs) ?_; simp; (try first | (refine Ops.gen fun q hq => ?_; cases q <;> (try simp at hq) <;> (try (have hh : True := hq; clear hh hq))) | (refine OpsD.gen fun q hq => ?_; cases q <;> (try simp at hq) <;> (try (have hh : True := hq; clear hh hq))))) | (refine wpcall_pure rfl (hty) ?_; simp; (try first | (refine Ops.gen fun q hq => ?_; cases q <;> (try simp at hq) <;> (try (have hh : True := hq; clear hh hq))) | (refine OpsD.gen fun q hq => ?_; cases q <;> (try simp at hq) <;> (try (have hh : True := hq; clear hh hq))))) | (refine wpcall_pure rfl (hfr) ?_; simp; (try first | (refine Ops.gen fun q hq => ?_; cases q <;> (try simp at hq) <;> (try (have hh : True := hq; clear hh hq))) | (refine OpsD.gen fun q hq => ?_; cases q <;> (try simp at hq) <;> (try (have hh : True := hq; clear hh hq))))) | (refine T.ret (Done.data (Or.inr rfl) ?_ ?_) <;> simp [Tryz.results254, *] <;> omega) | refine T.r0 fun K hK => ?_
  | true =>
   have hco := l1Consistent_ok 4 e.fr e.ty (by omega) hS' hS
   refine ACalls.of_body Tryz.func254 (by kernel_rfl) rfl (by kernel_rfl) (by simp [Tryz.ntmps254]) (by simp) ?_
   rw [Tryz.ntmps254]
   repeat' first | (refine aops_end (hK _ ?_); clear hK K) | (refine aops_go ?_; simp; (try (refine gen fun q hq => ?_; cases q <;> (try simp at hq) <;> (try (have hh : True := hq; clear hh hq))))) | (refine wpcall_pure rfl (habs) ?_; simp; (try first | (refine Ops.gen fun q hq => ?_; cases q <;> (try simp at hq) <;> (try (have hh : True := hq; clear hh hq))) | (refine OpsD.gen fun q hq => ?_; cases q <;> (try simp at hq) <;> (try (have hh : True := hq; clear hh hq))))) | (refine wpcall_pure rfl (hty) ?_; simp; (try first | (refine Ops.gen fun q hq => ?_; cases q <;> (try simp at hq) <;> (try (have hh : True := hq; clear hh hq))) | (refine OpsD.gen fun q hq => ?_; cases q <;> (try simp at hq) <;> (try (have hh : True := hq; clear hh hq))))) | (refine wpcall_pure rfl (hfr) ?_; simp; (try first | (refine Ops.gen fun q hq => ?_; cases q <;> (try simp at hq) <;> (try (have hh : True := hq; clear hh hq))) | (refine OpsD.gen fun q hq => ?_; cases q <;> (try simp at hq) <;> (try (have hh : True := hq; clear hh hq))))) | (refine wpcall_pure rfl (hco) ?_; simp; (try first | (refine Ops.gen fun q hq => ?_; cases q <;> (try simp at hq) <;> (try (have hh : True := hq; clear hh hq))) | (refine OpsD.gen fun q hq => ?_; cases q <;> (try simp at hq) <;> (try (have hh : True := hq; clear hh hq))))) | (refine T.ret (Done.data (Or.inr rfl) ?_ ?_) <;> simp [Tryz.results254, *] <;> omega) | refine T.r0 fun K hK => ?_

theorem kind_cases (k : Int) : k = 1 \/ k = 5 \/ k = 13 \/ k = 14 \/ k = 2 \/ (¬ k = 1 /\ ¬ k = 5 /\ ¬ k = 13 /\ ¬ k = 14 /\ ¬ k = 2) := by omega

theorem in00 (n : Int) : inM n 0 0 = decide (n = 0) := by simp only [inM, <- Bool.decide_and]; exact decide_eq_decide.2 (by omega)

theorem l2Own_ok (e : MTm) (hk : e.kind ≠ 14) (ht : nTy e.ty <= 1099511627776) : ACalls Tryz.prog 208 [aTm e] [] (.b (ownM e)) [] [] := by
 have hnm := l2Name_ok e.name
 have hty := TypeValidS_ok e.ty ht
 have hnt := l2None_ok e.ty
 have hnf := l2None_ok e.fr
 rcases kind_cases e.kind with h1 | h1 | h1 | h1 | h1 | ⟨h1, h2, h3, h4, h5⟩
 ·have hr : ownM e = (nameM e.name && decide (e.num = 0) && noTyM e.ty && (noTyM e.fr && decide (e.label = 0))) := by simp [ownM, h1, namedM, typedM, in00]
  rw [hr]
  refine ACalls.of_body Tryz.func208 (by kernel_rfl) rfl (by kernel_rfl) (by simp [Tryz.ntmps208]) (by simp) ?_
  rw [Tryz.ntmps208]
  repeat' first | (refine aops_end (hK _ ?_); clear hK K) | (refine aops_go ?_; simp [h1]; (try (refine gen fun q hq => ?_; cases q <;> (try simp [h1] at hq) <;> (try (have hh : True := hq; clear hh hq))))) | (refine wpcall_pure rfl (hnm) ?_; simp [h1]; (try first | (refine Ops.gen fun q hq => ?_; cases q <;> (try simp [h1] at hq) <;> (try (have hh : True := hq; clear hh hq))) | (refine OpsD.gen fun q hq => ?_; cases q <;> (try simp [h1] at hq) <;> (try (have hh : True := hq; clear hh hq))))) | (refine wpcall_pure rfl (hnt) ?_; simp [h1]; (try first | (refine Ops.gen fun q hq => ?_; cases q <;> (try simp [h1] at hq) <;> (try (have hh : True := hq; clear hh hq))) | (refine OpsD.gen fun q hq => ?_; cases q <;> (try simp [h1] at hq) <;> (try (have hh : True := hq; clear hh hq))))) | (refine wpcall_pure rfl (hnf) ?_; simp [h1]; (try first | (refine Ops.gen fun q hq => ?_; cases q <;> (try simp [h1] at hq) <;> (try (have hh : True := hq; clear hh hq))) | (refine OpsD.gen fun q hq => ?_; cases q <;> (try simp [h1] at hq) <;> (try (have hh : True := hq; clear hh hq))))) | (refine T.ret (Done.data (Or.inr rfl) ?_ ?_) <;> simp [Tryz.results208, *] <;> omega) | refine T.r0 fun K hK => ?_ | refine T.ct rfl ?_ | refine T.cf rfl ?_ | refine T.seq ?_ | refine T.skip ?_
 ·have hr : ownM e = (nameM e.name && decide (e.num = 0) && shapeTy 4 e.ty && (noTyM e.fr && decide (e.label = 0))) := by simp [ownM, h1, namedM, typedM, in00]
  rw [hr]
  refine ACalls.of_body Tryz.func208 (by kernel_rfl) rfl (by kernel_rfl) (by simp [Tryz.ntmps208]) (by simp) ?_
  rw [Tryz.ntmps208]
  repeat' first | (refine aops_end (hK _ ?_); clear hK K) | (refine aops_go ?_; simp [h1]; (try (refine gen fun q hq => ?_; cases q <;> (try simp [h1] at hq) <;> (try (have hh : True := hq; clear hh hq))))) | (refine wpcall_pure rfl (hnm) ?_; simp [h1]; (try first | (refine Ops.gen fun q hq => ?_; cases q <;> (try simp [h1] at hq) <;> (try (have hh : True := hq; clear hh hq))) | (refine OpsD.gen fun q hq => ?_; cases q <;> (try simp [h1] at hq) <;> (try (have hh : True := hq; clear hh hq))))) | (refine wpcall_pure rfl (hty) ?_; simp [h1]; (try first | (refine Ops.gen fun q hq => ?_; cases q <;> (try simp [h1] at hq) <;> (try (have hh : True := hq; clear hh hq))) | (refine OpsD.gen fun q hq => ?_; cases q <;> (try simp [h1] at hq) <;> (try (have hh : True := hq; clear hh hq))))) | (refine wpcall_pure rfl (hnf) ?_; simp [h1]; (try first | (refine Ops.gen fun q hq => ?_; cases q <;> (try simp [h1] at hq) <;> (try (have hh : True := hq; clear hh hq))) | (refine OpsD.gen fun q hq => ?_; cases q <;> (try simp [h1] at hq) <;> (try (have hh : True := hq; clear hh hq))))) | (refine T.ret (Done.data (Or.inr rfl) ?_ ?_) <;> simp [Tryz.results208, *] <;> omega) | refine T.r0 fun K hK => ?_ | refine T.ct rfl ?_ | refine T.cf rfl ?_ | refine T.seq ?_ | refine T.skip ?_
 ·have hr : ownM e = (decide (e.name = []) && decide (e.num = 0) && shapeTy 4 e.ty && (noTyM e.fr && decide (e.label = 0))) := by simp [ownM, h1, namedM, typedM, in00]
  have hn0 : e.name = [] -> nameM e.name = false := fun h => by rw [h]; rfl
  rw [hr]
  by_cases hne : e.name = []
  ·rw [hn0 hne, hne] at hnm
   refine ACalls.of_body Tryz.func208 (by kernel_rfl) rfl (by kernel_rfl) (by simp [Tryz.ntmps208]) (by simp) ?_
   rw [Tryz.ntmps208]
   repeat' first | (refine aops_end (hK _ ?_); clear hK K) | (refine aops_go ?_; simp [h1, hne]; (try (refine gen fun q hq => ?_; cases q <;> (try simp [h1, hne] at hq) <;> (try (have hh : True := hq; clear hh hq))))) | (refine wpcall_pure rfl (hnm) ?_; simp [h1, hne]; (try first | (refine Ops.gen fun q hq => ?_; cases q <;> (try simp [h1, hne] at hq) <;> (try (have hh : True := hq; clear hh hq))) | (refine OpsD.gen fun q hq => ?_; cases q <;> (try simp [h1, hne] at hq) <;> (try (have hh : True := hq; clear hh hq))))) | (refine wpcall_pure rfl (hty) ?_; simp [h1, hne]; (try first | (refine Ops.gen fun q hq => ?_; cases q <;> (try simp [h1, hne] at hq) <;> (try (have hh : True := hq; clear hh hq))) | (refine OpsD.gen fun q hq => ?_; cases q <;> (try simp [h1, hne] at hq) <;> (try (have hh : True := hq; clear hh hq))))) | (refine wpcall_pure rfl (hnf) ?_; simp [h1, hne]; (try first | (refine Ops.gen fun q hq => ?_; cases q <;> (try simp [h1, hne] at hq) <;> (try (have hh : True := hq; clear hh hq))) | (refine OpsD.gen fun q hq => ?_; cases q <;> (try simp [h1, hne] at hq) <;> (try (have hh : True := hq; clear hh hq))))) | (refine T.ret (Done.data (Or.inr rfl) ?_ ?_) <;> simp [Tryz.results208, *] <;> omega) | refine T.r0 fun K hK => ?_ | refine T.ct rfl ?_ | refine T.cf rfl ?_ | refine T.seq ?_ | refine T.skip ?_
  ·generalize nameM e.name = nb at hnm
   refine ACalls.of_body Tryz.func208 (by kernel_rfl) rfl (by kernel_rfl) (by simp [Tryz.ntmps208]) (by simp) ?_
   rw [Tryz.ntmps208]
   repeat' first | (refine aops_end (hK _ ?_); clear hK K) | (refine aops_go ?_; simp [h1, hne]; (try (refine gen fun q hq => ?_; cases q <;> (try simp [h1, hne] at hq) <;> (try (have hh : True := hq; clear hh hq))))) | (refine wpcall_pure rfl (hnm) ?_; simp [h1, hne]; (try first | (refine Ops.gen fun q hq => ?_; cases q <;> (try simp [h1, hne] at hq) <;> (try (have hh : True := hq; clear hh hq))) | (refine OpsD.gen fun q hq => ?_; cases q <;> (try simp [h1, hne] at hq) <;> (try (have hh : True := hq; clear hh hq))))) | (refine T.ret (Done.data (Or.inr rfl) ?_ ?_) <;> simp [Tryz.results208, *] <;> omega) | refine T.r0 fun K hK => ?_ | refine T.ct rfl ?_ | refine T.seq ?_
 ·exact absurd h1 hk
 ·have hr : ownM e = (decide (e.name = []) && (decide (0 <= e.num) && decide (e.num <= 999)) && noTyM e.ty && (noTyM e.fr && decide (e.label = 0))) := by simp [ownM, h1, namedM, typedM, inM]
  have hn0 : e.name = [] -> nameM e.name = false := fun h => by rw [h]; rfl
  rw [hr]
  by_cases hne : e.name = []
  ·rw [hn0 hne, hne] at hnm
   refine ACalls.of_body Tryz.func208 (by kernel_rfl) rfl (by kernel_rfl) (by simp [Tryz.ntmps208]) (by simp) ?_
   rw [Tryz.ntmps208]
   repeat' first | (refine aops_end (hK _ ?_); clear hK K) | (refine aops_go ?_; simp [h1, hne]; (try (refine gen fun q hq => ?_; cases q <;> (try simp [h1, hne] at hq) <;> (try (have hh : True := hq; clear hh hq))))) | (refine wpcall_pure rfl (hnm) ?_; simp [h1, hne]; (try first | (refine Ops.gen fun q hq => ?_; cases q <;> (try simp [h1, hne] at hq) <;> (try (have hh : True := hq; clear hh hq))) | (refine OpsD.gen fun q hq => ?_; cases q <;> (try simp [h1, hne] at hq) <;> (try (have hh : True := hq; clear hh hq))))) | (refine wpcall_pure rfl (hnt) ?_; simp [h1, hne]; (try first | (refine Ops.gen fun q hq => ?_; cases q <;> (try simp [h1, hne] at hq) <;> (try (have hh : True := hq; clear hh hq))) | (refine OpsD.gen fun q hq => ?_; cases q <;> (try simp [h1, hne] at hq) <;> (try (have hh : True := hq; clear hh hq))))) | (refine wpcall_pure rfl (hnf) ?_; simp [h1, hne]; (try first | (refine Ops.gen fun q hq => ?_; cases q <;> (try simp [h1, hne] at hq) <;> (try (have hh : True := hq; clear hh hq))) | (refine OpsD.gen fun q hq => ?_; cases q <;> (try simp [h1, hne] at hq) <;> (try (have hh : True := hq; clear hh hq))))) | (refine T.ret (Done.data (Or.inr rfl) ?_ ?_) <;> simp [Tryz.results208, *] <;> omega) | refine T.r0 fun K hK => ?_ | refine T.ct rfl ?_ | refine T.cf rfl ?_ | refine T.seq ?_ | refine T.skip ?_
  ·generalize nameM e.name = nb at hnm
   refine ACalls.of_body Tryz.func208 (by kernel_rfl) rfl (by kernel_rfl) (by simp [Tryz.ntmps208]) (by simp) ?_
   rw [Tryz.ntmps208]
   repeat' first | (refine aops_end (hK _ ?_); clear hK K) | (refine aops_go ?_; simp [h1, hne]; (try (refine gen fun q hq => ?_; cases q <;> (try simp [h1, hne] at hq) <;> (try (have hh : True := hq; clear hh hq))))) | (refine wpcall_pure rfl (hnm) ?_; simp [h1, hne]; (try first | (refine Ops.gen fun q hq => ?_; cases q <;> (try simp [h1, hne] at hq) <;> (try (have hh : True := hq; clear hh hq))) | (refine OpsD.gen fun q hq => ?_; cases q <;> (try simp [h1, hne] at hq) <;> (try (have hh : True := hq; clear hh hq))))) | (refine T.ret (Done.data (Or.inr rfl) ?_ ?_) <;> simp [Tryz.results208, *] <;> omega) | refine T.r0 fun K hK => ?_ | refine T.ct rfl ?_ | refine T.seq ?_
 ·have hr : ownM e = (decide (e.name = []) && decide (e.num = 0) && noTyM e.ty && (noTyM e.fr && decide (e.label = 0))) := by simp [ownM, h1, h2, h3, h4, h5, namedM, typedM, in00]
  have hn0 : e.name = [] -> nameM e.name = false := fun h => by rw [h]; rfl
  rw [hr]
  by_cases hne : e.name = []
  ·rw [hn0 hne, hne] at hnm
   refine ACalls.of_body Tryz.func208 (by kernel_rfl) rfl (by kernel_rfl) (by simp [Tryz.ntmps208]) (by simp) ?_
   rw [Tryz.ntmps208]
   repeat' first | (refine aops_end (hK _ ?_); clear hK K) | (refine aops_go ?_; simp [h1, h2, h3, h4, h5, hne]; (try (refine gen fun q hq => ?_; cases q <;> (try simp [h1, h2, h3, h4, h5, hne] at hq) <;> (try (have hh : True := hq; clear hh hq))))) | (refine wpcall_pure rfl (hnm) ?_; simp [h1, h2, h3, h4, h5, hne]; (try first | (refine Ops.gen fun q hq => ?_; cases q <;> (try simp [h1, h2, h3, h4, h5, hne] at hq) <;> (try (have hh : True := hq; clear hh hq))) | (refine OpsD.gen fun q hq => ?_; cases q <;> (try simp [h1, h2, h3, h4, h5, hne] at hq) <;> (try (have hh : True := hq; clear hh hq))))) | (refine wpcall_pure rfl (hnt) ?_; simp [h1, h2, h3, h4, h5, hne]; (try first | (refine Ops.gen fun q hq => ?_; cases q <;> (try simp [h1, h2, h3, h4, h5, hne] at hq) <;> (try (have hh : True := hq; clear hh hq))) | (refine OpsD.gen fun q hq => ?_; cases q <;> (try simp [h1, h2, h3, h4, h5, hne] at hq) <;> (try (have hh : True := hq; clear hh hq))))) | (refine wpcall_pure rfl (hnf) ?_; simp [h1, h2, h3, h4, h5, hne]; (try first | (refine Ops.gen fun q hq => ?_; cases q <;> (try simp [h1, h2, h3, h4, h5, hne] at hq) <;> (try (have hh : True := hq; clear hh hq))) | (refine OpsD.gen fun q hq => ?_; cases q <;> (try simp [h1, h2, h3, h4, h5, hne] at hq) <;> (try (have hh : True := hq; clear hh hq))))) | (refine T.ret (Done.data (Or.inr rfl) ?_ ?_) <;> simp [Tryz.results208, *] <;> omega) | refine T.r0 fun K hK => ?_ | refine T.ct rfl ?_ | refine T.cf rfl ?_ | refine T.seq ?_ | refine T.skip ?_
  ·generalize nameM e.name = nb at hnm
   refine ACalls.of_body Tryz.func208 (by kernel_rfl) rfl (by kernel_rfl) (by simp [Tryz.ntmps208]) (by simp) ?_
   rw [Tryz.ntmps208]
   repeat' first | (refine aops_end (hK _ ?_); clear hK K) | (refine aops_go ?_; simp [h1, h2, h3, h4, h5, hne]; (try (refine gen fun q hq => ?_; cases q <;> (try simp [h1, h2, h3, h4, h5, hne] at hq) <;> (try (have hh : True := hq; clear hh hq))))) | (refine wpcall_pure rfl (hnm) ?_; simp [h1, h2, h3, h4, h5, hne]; (try first | (refine Ops.gen fun q hq => ?_; cases q <;> (try simp [h1, h2, h3, h4, h5, hne] at hq) <;> (try (have hh : True := hq; clear hh hq))) | (refine OpsD.gen fun q hq => ?_; cases q <;> (try simp [h1, h2, h3, h4, h5, hne] at hq) <;> (try (have hh : True := hq; clear hh hq))))) | (refine T.ret (Done.data (Or.inr rfl) ?_ ?_) <;> simp [Tryz.results208, *] <;> omega) | refine T.r0 fun K hK => ?_ | refine T.ct rfl ?_ | refine T.seq ?_

theorem nodeOk_ok (e : MTm) (hl : e.kids.length <= 1099511627776) (ht : nTy e.ty <= 1099511627776) (hf : nTy e.fr <= 1099511627776) : ACalls Tryz.prog 206 [aTm e] [] (.b (nodeM e)) [] [] := by
 have hop := operands_ok e.kind
 have hnm := isName_ok e.name
 have hty := TypeValid_ok e.ty ht
 have hnt := isNoType_ok e.ty
 have hnf := isNoType_ok e.fr
 have hcon := Consistent_ok e.fr e.ty hf ht
 have hlab := isLabel_ok e.label
 have hin0 := inM_ok e.num 0 0
 have hin9 := inM_ok e.num 0 999
 by_cases hkid : kidsM e.kind = e.kids.length
 rotate_left
 ·rw [show nodeM e = false by simp [nodeM, hkid]]
  refine ACalls.of_body Tryz.func206 (by kernel_rfl) rfl (by kernel_rfl) (by simp [Tryz.ntmps206]) (by simp) ?_
  rw [Tryz.ntmps206]
  repeat' first | ((first | refine aops_end (hK _ ?_) | refine aopsD_end (hK _ ?_)); clear hK K) | ((first | refine aops_go ?_ | refine aopsD_go ?_); simp [hkid]; (try (refine gen fun q hq => ?_; cases q <;> (try simp [hkid] at hq) <;> (try (have hh : True := hq; clear hh hq))))) | (refine wpcall_pure rfl (hop) ?_; simp [hkid]; (try first | (refine Ops.gen fun q hq => ?_; cases q <;> (try simp [hkid] at hq) <;> (try (have hh : True := hq; clear hh hq))) | (refine OpsD.gen fun q hq => ?_; cases q <;> (try simp [hkid] at hq) <;> (try (have hh : True := hq; clear hh hq))))) | (refine T.ret (Done.data (Or.inr rfl) ?_ ?_) <;> simp [Tryz.results206] <;> omega) | refine T.r0 fun K hK => ?_ | refine T.rd mixed (fun _ => false) [] (by kernel_rfl) fun K hK => ?_ | refine T.ct rfl ?_ | refine T.seq ?_
 rw [show nodeM e = ownM e by simp [nodeM, hkid]]
 rw [hkid] at hop
 rcases kind_cases e.kind with h1 | h1 | h1 | h1 | h1 | ⟨h1, h2, h3, h4, h5⟩
 ·have hr : ownM e = (nameM e.name && inM e.num 0 0 && noTyM e.ty && (noTyM e.fr && decide (e.label = 0))) := by simp [ownM, h1, namedM, typedM]
  rw [hr]
  rw [h1] at hop
  generalize inM e.num 0 0 = i0 at hin0
  refine ACalls.of_body Tryz.func206 (by kernel_rfl) rfl (by kernel_rfl) (by simp [Tryz.ntmps206]) (by simp) ?_
  rw [Tryz.ntmps206]
  repeat' first | ((first | refine aops_end (hK _ ?_) | refine aopsD_end (hK _ ?_)); clear hK K) | ((first | refine aops_go ?_ | refine aopsD_go ?_); simp [h1]; (try (refine gen fun q hq => ?_; cases q <;> (try simp [h1] at hq) <;> (try (have hh : True := hq; clear hh hq))))) | (refine wpcall_pure rfl (hop) ?_; simp [h1]; (try first | (refine Ops.gen fun q hq => ?_; cases q <;> (try simp [h1] at hq) <;> (try (have hh : True := hq; clear hh hq))) | (refine OpsD.gen fun q hq => ?_; cases q <;> (try simp [h1] at hq) <;> (try (have hh : True := hq; clear hh hq))))) | (refine wpcall_pure rfl (hnm) ?_; simp [h1]; (try first | (refine Ops.gen fun q hq => ?_; cases q <;> (try simp [h1] at hq) <;> (try (have hh : True := hq; clear hh hq))) | (refine OpsD.gen fun q hq => ?_; cases q <;> (try simp [h1] at hq) <;> (try (have hh : True := hq; clear hh hq))))) | (refine wpcall_pure rfl (hin0) ?_; simp [h1]; (try first | (refine Ops.gen fun q hq => ?_; cases q <;> (try simp [h1] at hq) <;> (try (have hh : True := hq; clear hh hq))) | (refine OpsD.gen fun q hq => ?_; cases q <;> (try simp [h1] at hq) <;> (try (have hh : True := hq; clear hh hq))))) | (refine wpcall_pure rfl (hnt) ?_; simp [h1]; (try first | (refine Ops.gen fun q hq => ?_; cases q <;> (try simp [h1] at hq) <;> (try (have hh : True := hq; clear hh hq))) | (refine OpsD.gen fun q hq => ?_; cases q <;> (try simp [h1] at hq) <;> (try (have hh : True := hq; clear hh hq))))) | (refine wpcall_pure rfl (hnf) ?_; simp [h1]; (try first | (refine Ops.gen fun q hq => ?_; cases q <;> (try simp [h1] at hq) <;> (try (have hh : True := hq; clear hh hq))) | (refine OpsD.gen fun q hq => ?_; cases q <;> (try simp [h1] at hq) <;> (try (have hh : True := hq; clear hh hq))))) | (refine T.ret (Done.data (Or.inr rfl) ?_ ?_) <;> simp [Tryz.results206, *] <;> omega) | refine T.r0 fun K hK => ?_ | refine T.r1 fun K hK => ?_ | refine T.rd mixed (fun _ => false) [] (by kernel_rfl) fun K hK => ?_ | refine T.ct rfl ?_ | refine T.cf rfl ?_ | refine T.seq ?_ | refine T.block ?_ | refine T.skip ?_
 ·have hr : ownM e = (nameM e.name && inM e.num 0 0 && shapeTy 4 e.ty && (noTyM e.fr && decide (e.label = 0))) := by simp [ownM, h1, namedM, typedM]
  rw [hr]
  rw [h1] at hop
  generalize inM e.num 0 0 = i0 at hin0
  refine ACalls.of_body Tryz.func206 (by kernel_rfl) rfl (by kernel_rfl) (by simp [Tryz.ntmps206]) (by simp) ?_
  rw [Tryz.ntmps206]
  repeat' first | ((first | refine aops_end (hK _ ?_) | refine aopsD_end (hK _ ?_)); clear hK K) | ((first | refine aops_go ?_ | refine aopsD_go ?_); simp [h1]; (try (refine gen fun q hq => ?_; cases q <;> (try simp [h1] at hq) <;> (try (have hh : True := hq; clear hh hq))))) | (refine wpcall_pure rfl (hop) ?_; simp [h1]; (try first | (refine Ops.gen fun q hq => ?_; cases q <;> (try simp [h1] at hq) <;> (try (have hh : True := hq; clear hh hq))) | (refine OpsD.gen fun q hq => ?_; cases q <;> (try simp [h1] at hq) <;> (try (have hh : True := hq; clear hh hq))))) | (refine wpcall_pure rfl (hnm) ?_; simp [h1]; (try first | (refine Ops.gen fun q hq => ?_; cases q <;> (try simp [h1] at hq) <;> (try (have hh : True := hq; clear hh hq))) | (refine OpsD.gen fun q hq => ?_; cases q <;> (try simp [h1] at hq) <;> (try (have hh : True := hq; clear hh hq))))) | (refine wpcall_pure rfl (hin0) ?_; simp [h1]; (try first | (refine Ops.gen fun q hq => ?_; cases q <;> (try simp [h1] at hq) <;> (try (have hh : True := hq; clear hh hq))) | (refine OpsD.gen fun q hq => ?_; cases q <;> (try simp [h1] at hq) <;> (try (have hh : True := hq; clear hh hq))))) | (refine wpcall_pure rfl (hty) ?_; simp [h1]; (try first | (refine Ops.gen fun q hq => ?_; cases q <;> (try simp [h1] at hq) <;> (try (have hh : True := hq; clear hh hq))) | (refine OpsD.gen fun q hq => ?_; cases q <;> (try simp [h1] at hq) <;> (try (have hh : True := hq; clear hh hq))))) | (refine wpcall_pure rfl (hnf) ?_; simp [h1]; (try first | (refine Ops.gen fun q hq => ?_; cases q <;> (try simp [h1] at hq) <;> (try (have hh : True := hq; clear hh hq))) | (refine OpsD.gen fun q hq => ?_; cases q <;> (try simp [h1] at hq) <;> (try (have hh : True := hq; clear hh hq))))) | (refine T.ret (Done.data (Or.inr rfl) ?_ ?_) <;> simp [Tryz.results206, *] <;> omega) | refine T.r0 fun K hK => ?_ | refine T.r1 fun K hK => ?_ | refine T.rd mixed (fun _ => false) [] (by kernel_rfl) fun K hK => ?_ | refine T.ct rfl ?_ | refine T.cf rfl ?_ | refine T.seq ?_ | refine T.block ?_ | refine T.skip ?_
 ·have hr : ownM e = (decide (e.name = []) && inM e.num 0 0 && shapeTy 4 e.ty && (noTyM e.fr && decide (e.label = 0))) := by simp [ownM, h1, namedM, typedM]
  rw [hr]
  rw [h1] at hop
  generalize inM e.num 0 0 = i0 at hin0
  refine ACalls.of_body Tryz.func206 (by kernel_rfl) rfl (by kernel_rfl) (by simp [Tryz.ntmps206]) (by simp) ?_
  rw [Tryz.ntmps206]
  repeat' first | ((first | refine aops_end (hK _ ?_) | refine aopsD_end (hK _ ?_)); clear hK K) | ((first | refine aops_go ?_ | refine aopsD_go ?_); simp [h1]; (try (refine gen fun q hq => ?_; cases q <;> (try simp [h1] at hq) <;> (try (have hh : True := hq; clear hh hq))))) | (refine wpcall_pure rfl (hop) ?_; simp [h1]; (try first | (refine Ops.gen fun q hq => ?_; cases q <;> (try simp [h1] at hq) <;> (try (have hh : True := hq; clear hh hq))) | (refine OpsD.gen fun q hq => ?_; cases q <;> (try simp [h1] at hq) <;> (try (have hh : True := hq; clear hh hq))))) | (refine wpcall_pure rfl (hin0) ?_; simp [h1]; (try first | (refine Ops.gen fun q hq => ?_; cases q <;> (try simp [h1] at hq) <;> (try (have hh : True := hq; clear hh hq))) | (refine OpsD.gen fun q hq => ?_; cases q <;> (try simp [h1] at hq) <;> (try (have hh : True := hq; clear hh hq))))) | (refine wpcall_pure rfl (hty) ?_; simp [h1]; (try first | (refine Ops.gen fun q hq => ?_; cases q <;> (try simp [h1] at hq) <;> (try (have hh : True := hq; clear hh hq))) | (refine OpsD.gen fun q hq => ?_; cases q <;> (try simp [h1] at hq) <;> (try (have hh : True := hq; clear hh hq))))) | (refine wpcall_pure rfl (hnf) ?_; simp [h1]; (try first | (refine Ops.gen fun q hq => ?_; cases q <;> (try simp [h1] at hq) <;> (try (have hh : True := hq; clear hh hq))) | (refine OpsD.gen fun q hq => ?_; cases q <;> (try simp [h1] at hq) <;> (try (have hh : True := hq; clear hh hq))))) | (refine T.ret (Done.data (Or.inr rfl) ?_ ?_) <;> simp [Tryz.results206, *] <;> omega) | refine T.r0 fun K hK => ?_ | refine T.r1 fun K hK => ?_ | refine T.rd mixed (fun _ => false) [] (by kernel_rfl) fun K hK => ?_ | refine T.ct rfl ?_ | refine T.cf rfl ?_ | refine T.seq ?_ | refine T.block ?_ | refine T.skip ?_
 ·have hr : ownM e = (decide (e.name = []) && inM e.num 0 0 && shapeTy 4 e.ty && ((shapeTy 4 e.fr && shapeTy 4 e.ty && consTy e.fr e.ty) && labM e.label)) := by simp [ownM, h1, namedM, typedM, castOwnM]
  rw [hr]
  rw [h1] at hop
  generalize inM e.num 0 0 = i0 at hin0
  generalize hg1 : (shapeTy 4 e.fr && shapeTy 4 e.ty && consTy e.fr e.ty) = g1 at hcon
  generalize labM e.label = g2 at hlab
  refine ACalls.of_body Tryz.func206 (by kernel_rfl) rfl (by kernel_rfl) (by simp [Tryz.ntmps206]) (by simp) ?_
  rw [Tryz.ntmps206]
  repeat' first | ((first | refine aops_end (hK _ ?_) | refine aopsD_end (hK _ ?_)); clear hK K) | ((first | refine aops_go ?_ | refine aopsD_go ?_); simp [h1]; (try (refine gen fun q hq => ?_; cases q <;> (try simp [h1] at hq) <;> (try (have hh : True := hq; clear hh hq))))) | (refine wpcall_pure rfl (hop) ?_; simp [h1]; (try first | (refine Ops.gen fun q hq => ?_; cases q <;> (try simp [h1] at hq) <;> (try (have hh : True := hq; clear hh hq))) | (refine OpsD.gen fun q hq => ?_; cases q <;> (try simp [h1] at hq) <;> (try (have hh : True := hq; clear hh hq))))) | (refine wpcall_pure rfl (hin0) ?_; simp [h1]; (try first | (refine Ops.gen fun q hq => ?_; cases q <;> (try simp [h1] at hq) <;> (try (have hh : True := hq; clear hh hq))) | (refine OpsD.gen fun q hq => ?_; cases q <;> (try simp [h1] at hq) <;> (try (have hh : True := hq; clear hh hq))))) | (refine wpcall_pure rfl (hty) ?_; simp [h1]; (try first | (refine Ops.gen fun q hq => ?_; cases q <;> (try simp [h1] at hq) <;> (try (have hh : True := hq; clear hh hq))) | (refine OpsD.gen fun q hq => ?_; cases q <;> (try simp [h1] at hq) <;> (try (have hh : True := hq; clear hh hq))))) | (refine wpcall_pure rfl (hcon) ?_; simp [h1]; (try first | (refine Ops.gen fun q hq => ?_; cases q <;> (try simp [h1] at hq) <;> (try (have hh : True := hq; clear hh hq))) | (refine OpsD.gen fun q hq => ?_; cases q <;> (try simp [h1] at hq) <;> (try (have hh : True := hq; clear hh hq))))) | (refine wpcall_pure rfl (hlab) ?_; simp [h1]; (try first | (refine Ops.gen fun q hq => ?_; cases q <;> (try simp [h1] at hq) <;> (try (have hh : True := hq; clear hh hq))) | (refine OpsD.gen fun q hq => ?_; cases q <;> (try simp [h1] at hq) <;> (try (have hh : True := hq; clear hh hq))))) | (refine T.ret (Done.data (Or.inr rfl) ?_ ?_) <;> simp [Tryz.results206, *] <;> omega) | refine T.r0 fun K hK => ?_ | refine T.r1 fun K hK => ?_ | refine T.rd mixed (fun _ => false) [] (by kernel_rfl) fun K hK => ?_ | refine T.ct rfl ?_ | refine T.cf rfl ?_ | refine T.seq ?_ | refine T.block ?_ | refine T.skip ?_
 ·have hr : ownM e = (decide (e.name = []) && inM e.num 0 999 && noTyM e.ty && (noTyM e.fr && decide (e.label = 0))) := by simp [ownM, h1, namedM, typedM]
  rw [hr]
  rw [h1] at hop
  generalize inM e.num 0 999 = i0 at hin9
  refine ACalls.of_body Tryz.func206 (by kernel_rfl) rfl (by kernel_rfl) (by simp [Tryz.ntmps206]) (by simp) ?_
  rw [Tryz.ntmps206]
  repeat' first | ((first | refine aops_end (hK _ ?_) | refine aopsD_end (hK _ ?_)); clear hK K) | ((first | refine aops_go ?_ | refine aopsD_go ?_); simp [h1]; (try (refine gen fun q hq => ?_; cases q <;> (try simp [h1] at hq) <;> (try (have hh : True := hq; clear hh hq))))) | (refine wpcall_pure rfl (hop) ?_; simp [h1]; (try first | (refine Ops.gen fun q hq => ?_; cases q <;> (try simp [h1] at hq) <;> (try (have hh : True := hq; clear hh hq))) | (refine OpsD.gen fun q hq => ?_; cases q <;> (try simp [h1] at hq) <;> (try (have hh : True := hq; clear hh hq))))) | (refine wpcall_pure rfl (hin9) ?_; simp [h1]; (try first | (refine Ops.gen fun q hq => ?_; cases q <;> (try simp [h1] at hq) <;> (try (have hh : True := hq; clear hh hq))) | (refine OpsD.gen fun q hq => ?_; cases q <;> (try simp [h1] at hq) <;> (try (have hh : True := hq; clear hh hq))))) | (refine wpcall_pure rfl (hnt) ?_; simp [h1]; (try first | (refine Ops.gen fun q hq => ?_; cases q <;> (try simp [h1] at hq) <;> (try (have hh : True := hq; clear hh hq))) | (refine OpsD.gen fun q hq => ?_; cases q <;> (try simp [h1] at hq) <;> (try (have hh : True := hq; clear hh hq))))) | (refine wpcall_pure rfl (hnf) ?_; simp [h1]; (try first | (refine Ops.gen fun q hq => ?_; cases q <;> (try simp [h1] at hq) <;> (try (have hh : True := hq; clear hh hq))) | (refine OpsD.gen fun q hq => ?_; cases q <;> (try simp [h1] at hq) <;> (try (have hh : True := hq; clear hh hq))))) | (refine T.ret (Done.data (Or.inr rfl) ?_ ?_) <;> simp [Tryz.results206, *] <;> omega) | refine T.r0 fun K hK => ?_ | refine T.r1 fun K hK => ?_ | refine T.rd mixed (fun _ => false) [] (by kernel_rfl) fun K hK => ?_ | refine T.ct rfl ?_ | refine T.cf rfl ?_ | refine T.seq ?_ | refine T.block ?_ | refine T.skip ?_
 ·have hr : ownM e = (decide (e.name = []) && inM e.num 0 0 && noTyM e.ty && (noTyM e.fr && decide (e.label = 0))) := by simp [ownM, h1, h2, h3, h4, h5, namedM, typedM]
  rw [hr]
  generalize inM e.num 0 0 = i0 at hin0
  refine ACalls.of_body Tryz.func206 (by kernel_rfl) rfl (by kernel_rfl) (by simp [Tryz.ntmps206]) (by simp) ?_
  rw [Tryz.ntmps206]
  repeat' first | ((first | refine aops_end (hK _ ?_) | refine aopsD_end (hK _ ?_)); clear hK K) | ((first | refine aops_go ?_ | refine aopsD_go ?_); simp [h1, h2, h3, h4, h5]; (try (refine gen fun q hq => ?_; cases q <;> (try simp [h1, h2, h3, h4, h5] at hq) <;> (try (have hh : True := hq; clear hh hq))))) | (refine wpcall_pure rfl (hop) ?_; simp [h1, h2, h3, h4, h5]; (try first | (refine Ops.gen fun q hq => ?_; cases q <;> (try simp [h1, h2, h3, h4, h5] at hq) <;> (try (have hh : True := hq; clear hh hq))) | (refine OpsD.gen fun q hq => ?_; cases q <;> (try simp [h1, h2, h3, h4, h5] at hq) <;> (try (have hh : True := hq; clear hh hq))))) | (refine wpcall_pure rfl (hin0) ?_; simp [h1, h2, h3, h4, h5]; (try first | (refine Ops.gen fun q hq => ?_; cases q <;> (try simp [h1, h2, h3, h4, h5] at hq) <;> (try (have hh : True := hq; clear hh hq))) | (refine OpsD.gen fun q hq => ?_; cases q <;> (try simp [h1, h2, h3, h4, h5] at hq) <;> (try (have hh : True := hq; clear hh hq))))) | (refine wpcall_pure rfl (hnt) ?_; simp [h1, h2, h3, h4, h5]; (try first | (refine Ops.gen fun q hq => ?_; cases q <;> (try simp [h1, h2, h3, h4, h5] at hq) <;> (try (have hh : True := hq; clear hh hq))) | (refine OpsD.gen fun q hq => ?_; cases q <;> (try simp [h1, h2, h3, h4, h5] at hq) <;> (try (have hh : True := hq; clear hh hq))))) | (refine wpcall_pure rfl (hnf) ?_; simp [h1, h2, h3, h4, h5]; (try first | (refine Ops.gen fun q hq => ?_; cases q <;> (try simp [h1, h2, h3, h4, h5] at hq) <;> (try (have hh : True := hq; clear hh hq))) | (refine OpsD.gen fun q hq => ?_; cases q <;> (try simp [h1, h2, h3, h4, h5] at hq) <;> (try (have hh : True := hq; clear hh hq))))) | (refine T.ret (Done.data (Or.inr rfl) ?_ ?_) <;> simp [Tryz.results206, *] <;> omega) | refine T.r0 fun K hK => ?_ | refine T.r1 fun K hK => ?_ | refine T.rd mixed (fun _ => false) [] (by kernel_rfl) fun K hK => ?_ | refine T.ct rfl ?_ | refine T.cf rfl ?_ | refine T.seq ?_ | refine T.block ?_ | refine T.skip ?_
end Go.Proofs.YtflmjilnecanhaaGreatDoor

namespace Go.Proofs.YtflmjilnecanhaaGreatDoor
attribute [-simp] Go.Av.freeStep Go.Av.exV Go.Av.keepL Go.Av.ups Go.Av.take_app_len Go.Av.innVs Go.Av.putBack Go.Av.objCells Go.Av.back Go.Av.resVs Go.Av.one Go.Av.freeStepG Go.Av.exA Go.Av.innAsH Go.Av.AV.innH Go.Av.CV.innH Go.Av.innHs Go.Av.AV.outnH Go.Av.CV.outnH
open Go Go.Av
attribute [local irreducible] T ACalls eTy eTm MTy.kind MTy.kids MTm.kind MTm.name MTm.num MTm.ty MTm.fr MTm.label MTm.kids
attribute [local simp] eTy_def eTm_def
set_option maxHeartbeats 4000000

theorem nTm_parts {e : MTm} (h : nTm e <= 1099511627776) : nTy e.ty <= 1099511627776 /\ nTy e.fr <= 1099511627776 /\ e.kids.length <= 1099511627776 /\ ∀ u ∈ e.kids, nTm u <= 1099511627776 := by
 rw [nTm_def] at h
 have := nTmS_len e.kids
 exact ⟨by omega, by omega, by omega, fun u hu => by have := nTmS_mem hu; omega⟩

theorem l4Shape_ok : ∀ (d : Nat) (e : MTm), d <= 1000 -> nTm e <= 1099511627776 -> ACalls Tryz.prog 214 [aTm e, .i d] [] (.b (shapeTm 13 d e)) [] []
 | 0, e, _, _ => by
  refine ACalls.of_body Tryz.func214 (by kernel_rfl) rfl (by kernel_rfl) (by simp [Tryz.ntmps214]) (by simp) ?_
  rw [Tryz.ntmps214]
  repeat' first | ((first | refine aops_end (hK _ ?_) | refine aopsD_end (hK _ ?_)); clear hK K) | ((first | refine aops_go ?_ | refine aopsD_go ?_); simp; (try (refine gen fun q hq => ?_; cases q <;> (try simp at hq) <;> (try (have hh : True := hq; clear hh hq))))) | (refine T.ret (Done.data (Or.inr rfl) ?_ ?_) <;> simp [Tryz.results214, shapeTm] <;> omega) | refine T.r0 fun K hK => ?_ | refine T.rd mixed (fun _ => false) [] (by kernel_rfl) fun K hK => ?_ | refine T.ct rfl ?_ | refine T.seq ?_
 | d + 1, e, hd, hn => by
  obtain ⟨hnt, hnf, hnk, hnu⟩ := nTm_parts hn
  have hkids := l2Kids_ok e.kind
  have hd1 : ¬ ((d : Int) + 1 < 1) := by omega
  have hsh : shapeTm 13 (d + 1) e = (decide (e.kind ≠ 13) && (decide (kidsM e.kind = e.kids.length) && ownM e) && e.kids.all (shapeTm 13 d)) := rfl
  by_cases hk13 : e.kind = 13
  ·rw [hk13] at hkids
   rw [show shapeTm 13 (d + 1) e = false by rw [hsh]; simp [hk13]]
   refine ACalls.of_body Tryz.func214 (by kernel_rfl) rfl (by kernel_rfl) (by simp [Tryz.ntmps214]) (by simp) ?_
   rw [Tryz.ntmps214]
   repeat' first | ((first | refine aops_end (hK _ ?_) | refine aopsD_end (hK _ ?_)); clear hK K) | ((first | refine aops_go ?_ | refine aopsD_go ?_); simp [hd1, hk13]; (try (refine gen fun q hq => ?_; cases q <;> (try simp [hd1, hk13] at hq) <;> (try (have hh : True := hq; clear hh hq))))) | (refine wpcall_pure rfl (hkids) ?_; simp [hd1, hk13]; (try first | (refine Ops.gen fun q hq => ?_; cases q <;> (try simp [hd1, hk13] at hq) <;> (try (have hh : True := hq; clear hh hq))) | (refine OpsD.gen fun q hq => ?_; cases q <;> (try simp [hd1, hk13] at hq) <;> (try (have hh : True := hq; clear hh hq))))) | (refine T.ret (Done.data (Or.inr rfl) ?_ ?_) <;> simp [Tryz.results214] <;> omega) | refine T.r0 fun K hK => ?_ | refine T.rd mixed (fun _ => false) [] (by kernel_rfl) fun K hK => ?_ | refine T.ct rfl ?_ | refine T.seq ?_
  by_cases hlen : kidsM e.kind = e.kids.length
  rotate_left
  ·rw [show shapeTm 13 (d + 1) e = false by rw [hsh]; simp [hlen]]
   refine ACalls.of_body Tryz.func214 (by kernel_rfl) rfl (by kernel_rfl) (by simp [Tryz.ntmps214]) (by simp) ?_
   rw [Tryz.ntmps214]
   repeat' first | ((first | refine aops_end (hK _ ?_) | refine aopsD_end (hK _ ?_)); clear hK K) | ((first | refine aops_go ?_ | refine aopsD_go ?_); simp [hd1, hlen]; (try (refine gen fun q hq => ?_; cases q <;> (try simp [hd1, hlen] at hq) <;> (try (have hh : True := hq; clear hh hq))))) | (refine wpcall_pure rfl (hkids) ?_; simp [hd1, hlen]; (try first | (refine Ops.gen fun q hq => ?_; cases q <;> (try simp [hd1, hlen] at hq) <;> (try (have hh : True := hq; clear hh hq))) | (refine OpsD.gen fun q hq => ?_; cases q <;> (try simp [hd1, hlen] at hq) <;> (try (have hh : True := hq; clear hh hq))))) | (refine T.ret (Done.data (Or.inr rfl) ?_ ?_) <;> simp [Tryz.results214] <;> omega) | refine T.r0 fun K hK => ?_ | refine T.rd mixed (fun _ => false) [] (by kernel_rfl) fun K hK => ?_ | refine T.ct rfl ?_ | refine T.seq ?_
  rw [hlen] at hkids
  have hsh2 : shapeTm 13 (d + 1) e = (ownM e && e.kids.all (shapeTm 13 d)) := by rw [hsh]; simp [hk13, hlen]
  obtain ⟨R, hR⟩ : ∃ R, e.kids.all (shapeTm 13 d) = R := ⟨_, rfl⟩
  obtain ⟨O, hO⟩ : ∃ O, ownM e = O := ⟨_, rfl⟩
  rw [hsh2, hR, hO]
  have h14 : e.kind = 14 -> ACalls Tryz.prog 254 [aTm e] [] (.b O) [] [] := fun h => by rw [<- hO]; exact l4Own_ok e h hnt hnf
  have hno : ¬ e.kind = 14 -> ACalls Tryz.prog 208 [aTm e] [] (.b O) [] [] := fun h => by rw [<- hO]; exact l2Own_ok e h hnt
  clear hsh hsh2
  by_cases hk14 : e.kind = 14
  ·have hown := h14 hk14
   rw [hk14] at hkids
   cases O
   ·refine ACalls.of_body Tryz.func214 (by kernel_rfl) rfl (by kernel_rfl) (by simp [Tryz.ntmps214]) (by simp) ?_
    rw [Tryz.ntmps214]
    repeat' first | ((first | refine aops_end (hK _ ?_) | refine aopsD_end (hK _ ?_)); clear hK K) | ((first | refine aops_go ?_ | refine aopsD_go ?_); simp [hd1, hk13, hk14]; (try (refine gen fun q hq => ?_; cases q <;> (try simp [hd1, hk13, hk14] at hq) <;> (try (have hh : True := hq; clear hh hq))))) | (refine wpcall_pure rfl (hkids) ?_; simp [hd1, hk13, hk14]; (try first | (refine Ops.gen fun q hq => ?_; cases q <;> (try simp [hd1, hk13, hk14] at hq) <;> (try (have hh : True := hq; clear hh hq))) | (refine OpsD.gen fun q hq => ?_; cases q <;> (try simp [hd1, hk13, hk14] at hq) <;> (try (have hh : True := hq; clear hh hq))))) | (refine wpcall_pure (by simp [hd1, hk13, hk14]) (hown) ?_; simp [hd1, hk13, hk14]; (try first | (refine Ops.gen fun q hq => ?_; cases q <;> (try simp [hd1, hk13, hk14] at hq) <;> (try (have hh : True := hq; clear hh hq))) | (refine OpsD.gen fun q hq => ?_; cases q <;> (try simp [hd1, hk13, hk14] at hq) <;> (try (have hh : True := hq; clear hh hq))))) | (refine T.ret (Done.data (Or.inr rfl) ?_ ?_) <;> simp [Tryz.results214] <;> omega) | refine T.r0 fun K hK => ?_ | refine T.rd mixed (fun _ => false) [] (by kernel_rfl) fun K hK => ?_ | refine T.ct rfl ?_ | refine T.seq ?_
   refine ACalls.of_body Tryz.func214 (by kernel_rfl) rfl (by kernel_rfl) (by simp [Tryz.ntmps214]) (by simp) ?_
   rw [Tryz.ntmps214]
   repeat' first | ((first | refine aops_end (hK _ ?_) | refine aopsD_end (hK _ ?_)); clear hK K) | ((first | refine aops_go ?_ | refine aopsD_go ?_); simp [hd1, hk13, hk14]; (try (refine gen fun q hq => ?_; cases q <;> (try simp [hd1, hk13, hk14] at hq) <;> (try (have hh : True := hq; clear hh hq))))) | (refine wpcall_pure rfl (hkids) ?_; simp [hd1, hk13, hk14]; (try first | (refine Ops.gen fun q hq => ?_; cases q <;> (try simp [hd1, hk13, hk14] at hq) <;> (try (have hh : True := hq; clear hh hq))) | (refine OpsD.gen fun q hq => ?_; cases q <;> (try simp [hd1, hk13, hk14] at hq) <;> (try (have hh : True := hq; clear hh hq))))) | (refine wpcall_pure (by simp [hd1, hk13, hk14]) (hown) ?_; simp [hd1, hk13, hk14]; (try first | (refine Ops.gen fun q hq => ?_; cases q <;> (try simp [hd1, hk13, hk14] at hq) <;> (try (have hh : True := hq; clear hh hq))) | (refine OpsD.gen fun q hq => ?_; cases q <;> (try simp [hd1, hk13, hk14] at hq) <;> (try (have hh : True := hq; clear hh hq))))) | refine T.r0 fun K hK => ?_ | refine T.rd mixed (fun _ => false) [] (by kernel_rfl) fun K hK => ?_ | refine T.cf rfl ?_ | refine T.seq ?_ | refine T.block ?_ | refine T.skip ?_
   rw [Bool.true_and]
   refine T.loopF (fun p : Nat => ⟨[(1, .i (d + 1)), (2, .c (.ptr 0 0)), (5, .i p)], [(aTm e).cells], []⟩) (fun p => e.kids.length + 1 - p) (fun p => p <= e.kids.length /\ (e.kids.drop p).all (shapeTm 13 d) = R) (fun p hp => ?_) 0 (by simpa using hR) (by simp [hk14])
   obtain ⟨hi, he⟩ := hp
   by_cases hlt : p < e.kids.length
   ·obtain ⟨u, ht⟩ := get_lt hlt
    have htm : u ∈ e.kids := List.mem_of_getElem? ht
    have hgt : e.kids[p] = u := by rw [List.getElem?_eq_getElem hlt] at ht; exact Option.some.inj ht
    have hdr : e.kids.drop p = u :: e.kids.drop (p + 1) := by rw [List.drop_eq_getElem_cons hlt, hgt]
    have hu := l4Shape_ok d u (by omega) (hnu u htm)
    rw [hdr, List.all_cons] at he
    cases hb : shapeTm 13 d u <;> rw [hb] at hu he
    ·repeat' first | (refine aops_end (hK _ ?_); clear hK K) | (refine aops_go ?_; simp [hlt, hgt]; (try simp (disch := omega) only [wrap64]); (try (refine gen fun q hq => ?_; cases q <;> (try simp [hlt, hgt] at hq) <;> (try (have hh : True := hq; clear hh hq))))) | (refine wpcall_pure rfl (hu) ?_; simp [hlt, hgt]; (try simp (disch := omega) only [wrap64]); (try first | (refine Ops.gen fun q hq => ?_; cases q <;> (try simp [hlt, hgt] at hq) <;> (try (have hh : True := hq; clear hh hq))) | (refine OpsD.gen fun q hq => ?_; cases q <;> (try simp [hlt, hgt] at hq) <;> (try (have hh : True := hq; clear hh hq))))) | (refine T.ret (Done.data (Or.inr rfl) ?_ ?_) <;> simp [Tryz.results214, <- he] <;> omega) | refine T.r0 fun K hK => ?_ | refine T.ct rfl ?_ | refine T.seq ?_ | refine T.block ?_ | refine T.skip ?_
    ·repeat' first | (refine aops_end (hK _ ?_); clear hK K) | (refine aops_go ?_; simp [hlt, hgt]; (try simp (disch := omega) only [wrap64]); (try (refine gen fun q hq => ?_; cases q <;> (try simp [hlt, hgt] at hq) <;> (try (have hh : True := hq; clear hh hq))))) | (refine wpcall_pure rfl (hu) ?_; simp [hlt, hgt]; (try simp (disch := omega) only [wrap64]); (try first | (refine Ops.gen fun q hq => ?_; cases q <;> (try simp [hlt, hgt] at hq) <;> (try (have hh : True := hq; clear hh hq))) | (refine OpsD.gen fun q hq => ?_; cases q <;> (try simp [hlt, hgt] at hq) <;> (try (have hh : True := hq; clear hh hq))))) | (refine ⟨p + 1, by dsimp only; omega, ⟨by omega, by simpa using he⟩, rfl, rfl, ?_⟩; simp (disch := omega) [wrap64]) | refine T.r0 fun K hK => ?_ | refine T.r1 fun K hK => ?_ | refine T.ct rfl ?_ | refine T.cf rfl ?_ | refine T.seq ?_ | refine T.block ?_ | refine T.skip ?_
   ·have hp' : p = e.kids.length := by omega
    subst hp'
    simp at he
    repeat' first | (refine aops_end (hK _ ?_); clear hK K) | (refine aops_go ?_; simp [hlt]; (try (refine gen fun q hq => ?_; cases q <;> (try simp [hlt] at hq) <;> (try (have hh : True := hq; clear hh hq))))) | (refine T.ret (Done.data (Or.inr rfl) ?_ ?_) <;> simp [Tryz.results214, he] <;> omega) | refine T.r0 fun K hK => ?_ | refine T.cf rfl ?_ | refine T.seq ?_ | refine T.exit ?_
  ·have hown := hno hk14
   cases O
   ·refine ACalls.of_body Tryz.func214 (by kernel_rfl) rfl (by kernel_rfl) (by simp [Tryz.ntmps214]) (by simp) ?_
    rw [Tryz.ntmps214]
    repeat' first | ((first | refine aops_end (hK _ ?_) | refine aopsD_end (hK _ ?_)); clear hK K) | ((first | refine aops_go ?_ | refine aopsD_go ?_); simp [hd1, hk13, hk14]; (try (refine gen fun q hq => ?_; cases q <;> (try simp [hd1, hk13, hk14] at hq) <;> (try (have hh : True := hq; clear hh hq))))) | (refine wpcall_pure rfl (hkids) ?_; simp [hd1, hk13, hk14]; (try first | (refine Ops.gen fun q hq => ?_; cases q <;> (try simp [hd1, hk13, hk14] at hq) <;> (try (have hh : True := hq; clear hh hq))) | (refine OpsD.gen fun q hq => ?_; cases q <;> (try simp [hd1, hk13, hk14] at hq) <;> (try (have hh : True := hq; clear hh hq))))) | (refine wpcall_pure (by simp [hd1, hk13, hk14]) (hown) ?_; simp [hd1, hk13, hk14]; (try first | (refine Ops.gen fun q hq => ?_; cases q <;> (try simp [hd1, hk13, hk14] at hq) <;> (try (have hh : True := hq; clear hh hq))) | (refine OpsD.gen fun q hq => ?_; cases q <;> (try simp [hd1, hk13, hk14] at hq) <;> (try (have hh : True := hq; clear hh hq))))) | (refine T.ret (Done.data (Or.inr rfl) ?_ ?_) <;> simp [Tryz.results214] <;> omega) | refine T.r0 fun K hK => ?_ | refine T.rd mixed (fun _ => false) [] (by kernel_rfl) fun K hK => ?_ | refine T.ct rfl ?_ | refine T.seq ?_
   refine ACalls.of_body Tryz.func214 (by kernel_rfl) rfl (by kernel_rfl) (by simp [Tryz.ntmps214]) (by simp) ?_
   rw [Tryz.ntmps214]
   repeat' first | ((first | refine aops_end (hK _ ?_) | refine aopsD_end (hK _ ?_)); clear hK K) | ((first | refine aops_go ?_ | refine aopsD_go ?_); simp [hd1, hk13, hk14]; (try (refine gen fun q hq => ?_; cases q <;> (try simp [hd1, hk13, hk14] at hq) <;> (try (have hh : True := hq; clear hh hq))))) | (refine wpcall_pure rfl (hkids) ?_; simp [hd1, hk13, hk14]; (try first | (refine Ops.gen fun q hq => ?_; cases q <;> (try simp [hd1, hk13, hk14] at hq) <;> (try (have hh : True := hq; clear hh hq))) | (refine OpsD.gen fun q hq => ?_; cases q <;> (try simp [hd1, hk13, hk14] at hq) <;> (try (have hh : True := hq; clear hh hq))))) | (refine wpcall_pure (by simp [hd1, hk13, hk14]) (hown) ?_; simp [hd1, hk13, hk14]; (try first | (refine Ops.gen fun q hq => ?_; cases q <;> (try simp [hd1, hk13, hk14] at hq) <;> (try (have hh : True := hq; clear hh hq))) | (refine OpsD.gen fun q hq => ?_; cases q <;> (try simp [hd1, hk13, hk14] at hq) <;> (try (have hh : True := hq; clear hh hq))))) | refine T.r0 fun K hK => ?_ | refine T.rd mixed (fun _ => false) [] (by kernel_rfl) fun K hK => ?_ | refine T.cf rfl ?_ | refine T.seq ?_ | refine T.block ?_ | refine T.skip ?_
   rw [Bool.true_and]
   refine T.loopF (fun p : Nat => ⟨[(1, .i (d + 1)), (2, .c (.ptr 0 0)), (5, .i p)], [(aTm e).cells], []⟩) (fun p => e.kids.length + 1 - p) (fun p => p <= e.kids.length /\ (e.kids.drop p).all (shapeTm 13 d) = R) (fun p hp => ?_) 0 (by simpa using hR) (by simp)
   obtain ⟨hi, he⟩ := hp
   by_cases hlt : p < e.kids.length
   ·obtain ⟨u, ht⟩ := get_lt hlt
    have htm : u ∈ e.kids := List.mem_of_getElem? ht
    have hgt : e.kids[p] = u := by rw [List.getElem?_eq_getElem hlt] at ht; exact Option.some.inj ht
    have hdr : e.kids.drop p = u :: e.kids.drop (p + 1) := by rw [List.drop_eq_getElem_cons hlt, hgt]
    have hu := l4Shape_ok d u (by omega) (hnu u htm)
    rw [hdr, List.all_cons] at he
    cases hb : shapeTm 13 d u <;> rw [hb] at hu he
    ·repeat' first | (refine aops_end (hK _ ?_); clear hK K) | (refine aops_go ?_; simp [hlt, hgt]; (try simp (disch := omega) only [wrap64]); (try (refine gen fun q hq => ?_; cases q <;> (try simp [hlt, hgt] at hq) <;> (try (have hh : True := hq; clear hh hq))))) | (refine wpcall_pure rfl (hu) ?_; simp [hlt, hgt]; (try simp (disch := omega) only [wrap64]); (try first | (refine Ops.gen fun q hq => ?_; cases q <;> (try simp [hlt, hgt] at hq) <;> (try (have hh : True := hq; clear hh hq))) | (refine OpsD.gen fun q hq => ?_; cases q <;> (try simp [hlt, hgt] at hq) <;> (try (have hh : True := hq; clear hh hq))))) | (refine T.ret (Done.data (Or.inr rfl) ?_ ?_) <;> simp [Tryz.results214, <- he] <;> omega) | refine T.r0 fun K hK => ?_ | refine T.ct rfl ?_ | refine T.seq ?_ | refine T.block ?_ | refine T.skip ?_
    ·repeat' first | (refine aops_end (hK _ ?_); clear hK K) | (refine aops_go ?_; simp [hlt, hgt]; (try simp (disch := omega) only [wrap64]); (try (refine gen fun q hq => ?_; cases q <;> (try simp [hlt, hgt] at hq) <;> (try (have hh : True := hq; clear hh hq))))) | (refine wpcall_pure rfl (hu) ?_; simp [hlt, hgt]; (try simp (disch := omega) only [wrap64]); (try first | (refine Ops.gen fun q hq => ?_; cases q <;> (try simp [hlt, hgt] at hq) <;> (try (have hh : True := hq; clear hh hq))) | (refine OpsD.gen fun q hq => ?_; cases q <;> (try simp [hlt, hgt] at hq) <;> (try (have hh : True := hq; clear hh hq))))) | (refine ⟨p + 1, by dsimp only; omega, ⟨by omega, by simpa using he⟩, rfl, rfl, ?_⟩; simp (disch := omega) [wrap64]) | refine T.r0 fun K hK => ?_ | refine T.r1 fun K hK => ?_ | refine T.ct rfl ?_ | refine T.cf rfl ?_ | refine T.seq ?_ | refine T.block ?_ | refine T.skip ?_
   ·have hp' : p = e.kids.length := by omega
    subst hp'
    simp at he
    repeat' first | (refine aops_end (hK _ ?_); clear hK K) | (refine aops_go ?_; simp [hlt]; (try (refine gen fun q hq => ?_; cases q <;> (try simp [hlt] at hq) <;> (try (have hh : True := hq; clear hh hq))))) | (refine T.ret (Done.data (Or.inr rfl) ?_ ?_) <;> simp [Tryz.results214, he] <;> omega) | refine T.r0 fun K hK => ?_ | refine T.cf rfl ?_ | refine T.seq ?_ | refine T.exit ?_

theorem l2Count_ok : ∀ (d : Nat) (e : MTm), d <= 1000 -> nTm e <= 1099511627776 -> ACalls Tryz.prog 156 [aTm e, .i d] [] (.i (countTm d e)) [] []
 | 0, e, _, hn => by
  obtain ⟨hnt, hnf, hnk, hnu⟩ := nTm_parts hn
  refine ACalls.of_body Tryz.func156 (by kernel_rfl) rfl (by kernel_rfl) (by simp [Tryz.ntmps156]) (by simp) ?_
  rw [Tryz.ntmps156]
  repeat' first | (refine aops_end (hK _ ?_); clear hK K) | (refine aops_go ?_; simp; (try (refine gen fun q hq => ?_; cases q <;> (try simp at hq) <;> (try (have hh : True := hq; clear hh hq))))) | refine T.r0 fun K hK => ?_ | refine T.seq ?_ | refine T.block ?_
  refine T.loopF (fun _ : Unit => ⟨[(1, .i 0), (2, .c (.ptr 0 0)), (5, .i 1), (6, .i 0)], [(aTm e).cells], []⟩) (fun _ => 0) (fun _ => True) (fun _ _ => ?_) () trivial (by simp)
  repeat' first | (refine aops_end (hK _ ?_); clear hK K) | (refine aops_go ?_; simp; (try simp (disch := omega) only [wrap64]); (try (refine gen fun q hq => ?_; cases q <;> (try simp at hq) <;> (try (have hh : True := hq; clear hh hq))))) | (refine T.ret (Done.data (Or.inr rfl) ?_ ?_) <;> simp [Tryz.results156, countTm] <;> omega) | refine T.r0 fun K hK => ?_ | refine T.cf rfl ?_ | refine T.seq ?_ | refine T.exit ?_
 | d + 1, e, hd, hn => by
  obtain ⟨hnt, hnf, hnk, hnu⟩ := nTm_parts hn
  have hd1 : (0 : Int) < (d : Int) + 1 := by omega
  have hcl := countTm_le (d + 1) e
  obtain ⟨R, hR⟩ : ∃ R, countTm (d + 1) e = R := ⟨_, rfl⟩
  rw [hR] at hcl ⊢
  refine ACalls.of_body Tryz.func156 (by kernel_rfl) rfl (by kernel_rfl) (by simp [Tryz.ntmps156]) (by simp) ?_
  rw [Tryz.ntmps156]
  repeat' first | (refine aops_end (hK _ ?_); clear hK K) | (refine aops_go ?_; simp; (try (refine gen fun q hq => ?_; cases q <;> (try simp at hq) <;> (try (have hh : True := hq; clear hh hq))))) | refine T.r0 fun K hK => ?_ | refine T.seq ?_ | refine T.block ?_
  refine T.loopF (fun x : Nat × Nat => ⟨[(1, .i (d + 1)), (2, .c (.ptr 0 0)), (5, .i x.2), (6, .i x.1)], [(aTm e).cells], []⟩) (fun x => e.kids.length + 1 - x.1) (fun x => x.1 <= e.kids.length /\ x.2 + ((e.kids.drop x.1).map (countTm d)).sum = R) (fun x hx => ?_) (0, 1) (by simpa [countTm] using hR) (by simp)
  obtain ⟨p, k⟩ := x
  obtain ⟨hi, he⟩ := hx
  dsimp only at hi he ⊢
  by_cases hlt : p < e.kids.length
  ·obtain ⟨u, ht⟩ := get_lt hlt
   have htm : u ∈ e.kids := List.mem_of_getElem? ht
   have hgt : e.kids[p] = u := by rw [List.getElem?_eq_getElem hlt] at ht; exact Option.some.inj ht
   have hdr : e.kids.drop p = u :: e.kids.drop (p + 1) := by rw [List.drop_eq_getElem_cons hlt, hgt]
   have hu := l2Count_ok d u (by omega) (hnu u htm)
   rw [hdr, List.map_cons, List.sum_cons] at he
   generalize countTm d u = cu at hu he
   repeat' first | (refine aops_end (hK _ ?_); clear hK K) | (refine aops_go ?_; simp [hlt, hgt, hd1]; (try simp (disch := omega) only [wrap64]); (try (refine gen fun q hq => ?_; cases q <;> (try simp [hlt, hgt, hd1] at hq) <;> (try (have hh : True := hq; clear hh hq))))) | (refine wpcall_pure rfl (hu) ?_; simp [hlt, hgt, hd1]; (try simp (disch := omega) only [wrap64]); (try first | (refine Ops.gen fun q hq => ?_; cases q <;> (try simp [hlt, hgt, hd1] at hq) <;> (try (have hh : True := hq; clear hh hq))) | (refine OpsD.gen fun q hq => ?_; cases q <;> (try simp [hlt, hgt, hd1] at hq) <;> (try (have hh : True := hq; clear hh hq))))) | (refine ⟨(p + 1, k + cu), by dsimp only; omega, ⟨by dsimp only; omega, by dsimp only; omega⟩, rfl, rfl, ?_⟩; simp (disch := omega) [wrap64]) | refine T.r0 fun K hK => ?_ | refine T.r1 fun K hK => ?_ | refine T.ct rfl ?_ | refine T.seq ?_ | refine T.block ?_ | refine T.skip ?_
  ·have hp' : p = e.kids.length := by omega
   subst hp'
   simp at he
   repeat' first | (refine aops_end (hK _ ?_); clear hK K) | (refine aops_go ?_; simp [hlt]; (try (refine gen fun q hq => ?_; cases q <;> (try simp [hlt] at hq) <;> (try (have hh : True := hq; clear hh hq))))) | (refine T.ret (Done.data (Or.inr rfl) ?_ ?_) <;> simp [Tryz.results156, he] <;> omega) | refine T.r0 fun K hK => ?_ | refine T.cf rfl ?_ | refine T.seq ?_ | refine T.exit ?_

theorem scan_ok (mn md nt : Int) (hmn : mn <= 1000) (hmd : md <= 1000) : ∀ (e : MTm), nTm e <= 1099511627776 -> ∀ (deep c : Int), 0 <= c -> c <= 1000 -> 0 <= deep ->
  ACalls Tryz.prog 152 [aTm e, .i deep, .i mn, .i md, .i nt, .c (.ptr 0 0)] (dV [[.i c]]) (.b (scanM mn md nt deep e c).1) (dV [[.i (scanM mn md nt deep e c).2]]) [] := by
 intro e
 induction e using MTm.ind with
 | h e ih =>
  intro hn deep c h0 hc hdp
  obtain ⟨hnt, hnf, hnk, hnu⟩ := nTm_parts hn
  have hnode := nodeOk_ok e hnk hnt hnf
  rw [scanM_def]
  by_cases q1 : mn < c + 1
  ·rw [if_pos (by simp [q1])]
   refine ACalls.of_body Tryz.func152 (by kernel_rfl) rfl (by kernel_rfl) (by simp [Tryz.ntmps152]) (by simp) ?_
   rw [Tryz.ntmps152]
   repeat' first | (refine aops_end (hK _ ?_); clear hK K) | (refine aops_go ?_; simp [q1]; (try simp (disch := omega) only [wrap64]); (try (refine gen fun q hq => ?_; cases q <;> (try simp [q1] at hq) <;> (try (have hh : True := hq; clear hh hq))))) | (refine T.ret (Done.obj1 (Or.inr rfl) ?_ ?_ ?_) <;> simp [Tryz.results152] <;> omega) | refine T.r0 fun K hK => ?_ | refine T.ct rfl ?_ | refine T.seq ?_
  by_cases q2 : md < deep
  ·rw [if_pos (by simp [q2])]
   refine ACalls.of_body Tryz.func152 (by kernel_rfl) rfl (by kernel_rfl) (by simp [Tryz.ntmps152]) (by simp) ?_
   rw [Tryz.ntmps152]
   repeat' first | (refine aops_end (hK _ ?_); clear hK K) | (refine aops_go ?_; simp [q1, q2]; (try simp (disch := omega) only [wrap64]); (try (refine gen fun q hq => ?_; cases q <;> (try simp [q1, q2] at hq) <;> (try (have hh : True := hq; clear hh hq))))) | (refine T.ret (Done.obj1 (Or.inr rfl) ?_ ?_ ?_) <;> simp [Tryz.results152] <;> omega) | refine T.r0 fun K hK => ?_ | refine T.ct rfl ?_ | refine T.seq ?_
  by_cases q3 : e.kind = nt
  ·rw [if_pos (by simp [q3])]
   refine ACalls.of_body Tryz.func152 (by kernel_rfl) rfl (by kernel_rfl) (by simp [Tryz.ntmps152]) (by simp) ?_
   rw [Tryz.ntmps152]
   repeat' first | (refine aops_end (hK _ ?_); clear hK K) | (refine aops_go ?_; simp [q1, q2, q3]; (try simp (disch := omega) only [wrap64]); (try (refine gen fun q hq => ?_; cases q <;> (try simp [q1, q2, q3] at hq) <;> (try (have hh : True := hq; clear hh hq))))) | (refine T.ret (Done.obj1 (Or.inr rfl) ?_ ?_ ?_) <;> simp [Tryz.results152] <;> omega) | refine T.r0 fun K hK => ?_ | refine T.ct rfl ?_ | refine T.seq ?_
  cases hN : nodeM e
  ·rw [if_pos (by simp)]
   rw [hN] at hnode
   refine ACalls.of_body Tryz.func152 (by kernel_rfl) rfl (by kernel_rfl) (by simp [Tryz.ntmps152]) (by simp) ?_
   rw [Tryz.ntmps152]
   repeat' first | (refine aops_end (hK _ ?_); clear hK K) | (refine aops_go ?_; simp [q1, q2, q3]; (try simp (disch := omega) only [wrap64]); (try (refine gen fun q hq => ?_; cases q <;> (try simp [q1, q2, q3] at hq) <;> (try (have hh : True := hq; clear hh hq))))) | (refine wpcall_pure rfl (hnode) ?_; simp [q1, q2, q3]; (try simp (disch := omega) only [wrap64]); (try first | (refine Ops.gen fun q hq => ?_; cases q <;> (try simp [q1, q2, q3] at hq) <;> (try (have hh : True := hq; clear hh hq))) | (refine OpsD.gen fun q hq => ?_; cases q <;> (try simp [q1, q2, q3] at hq) <;> (try (have hh : True := hq; clear hh hq))))) | (refine T.ret (Done.obj1 (Or.inr rfl) ?_ ?_ ?_) <;> simp [Tryz.results152] <;> omega) | refine T.r0 fun K hK => ?_ | refine T.ct rfl ?_ | refine T.seq ?_
  rw [hN] at hnode
  rw [if_neg (by simp [q1, q2, q3])]
  obtain ⟨R, hR⟩ : ∃ R, scanS mn md nt (deep + 1) e.kids (c + 1) = R := ⟨_, rfl⟩
  rw [hR]
  refine ACalls.of_body Tryz.func152 (by kernel_rfl) rfl (by kernel_rfl) (by simp [Tryz.ntmps152]) (by simp) ?_
  rw [Tryz.ntmps152]
  repeat' first | (refine aops_end (hK _ ?_); clear hK K) | (refine aops_go ?_; simp [q1, q2, q3]; (try simp (disch := omega) only [wrap64]); (try (refine gen fun q hq => ?_; cases q <;> (try simp [q1, q2, q3] at hq) <;> (try (have hh : True := hq; clear hh hq))))) | (refine wpcall_pure rfl (hnode) ?_; simp [q1, q2, q3]; (try simp (disch := omega) only [wrap64]); (try first | (refine Ops.gen fun q hq => ?_; cases q <;> (try simp [q1, q2, q3] at hq) <;> (try (have hh : True := hq; clear hh hq))) | (refine OpsD.gen fun q hq => ?_; cases q <;> (try simp [q1, q2, q3] at hq) <;> (try (have hh : True := hq; clear hh hq))))) | refine T.r0 fun K hK => ?_ | refine T.cf rfl ?_ | refine T.seq ?_ | refine T.block ?_ | refine T.skip ?_
  refine T.loopF (fun x : Nat × Int × List (List CV) => ⟨[(1, .i deep), (2, .i mn), (3, .i md), (4, .i nt), (5, .c (.ptr 0 0)), (6, .c (.ptr 1 0)), (42, .l (e.kids.map eTm)), (43, .i e.kids.length), (44, .i x.1)], [.d (.i x.2.1)] :: (aTm e).cells :: x.2.2, []⟩) (fun x => e.kids.length + 1 - x.1) (fun x => x.1 <= e.kids.length /\ 0 <= x.2.1 /\ x.2.1 <= mn /\ scanS mn md nt (deep + 1) (e.kids.drop x.1) x.2.1 = R) (fun x hx => ?_) (0, c + 1, []) (by simpa using ⟨by omega, by omega, hR⟩) (by simp)
  obtain ⟨p, k, G⟩ := x
  obtain ⟨hi, hk0, hk1, he⟩ := hx
  dsimp only at hi hk0 hk1 he ⊢
  by_cases hlt : p < e.kids.length
  ·obtain ⟨u, ht⟩ := get_lt hlt
   have htm : u ∈ e.kids := List.mem_of_getElem? ht
   have hgt : e.kids[p] = u := by rw [List.getElem?_eq_getElem hlt] at ht; exact Option.some.inj ht
   have hdr : e.kids.drop p = u :: e.kids.drop (p + 1) := by rw [List.drop_eq_getElem_cons hlt, hgt]
   have hu := ih u htm (hnu u htm) (deep + 1) k hk0 (by omega) (by omega)
   have hle := scanM_le mn md nt u (deep + 1) k hk0
   rw [hdr, scanS] at he
   generalize scanM mn md nt (deep + 1) u k = r at hu hle he
   obtain ⟨b, k'⟩ := r
   dsimp only at hu hle he
   cases b
   ·repeat' first | (refine aops_end (hK _ ?_); clear hK K) | (refine aops_go ?_; simp [hlt, hgt]; (try simp (disch := omega) only [wrap64]); (try (refine gen fun q hq => ?_; cases q <;> (try simp [hlt, hgt] at hq) <;> (try (have hh : True := hq; clear hh hq))))) | (refine wpcall_upd1 0 [.i k] [.i k'] rfl rfl hu ?_; simp) | (refine T.ret (Done.obj1 (Or.inr rfl) ?_ ?_ ?_) <;> simp [Tryz.results152, <- he] <;> omega) | refine T.r0 fun K hK => ?_ | refine T.ct rfl ?_ | refine T.seq ?_ | refine T.block ?_ | refine T.skip ?_
   ·obtain ⟨hle1, hle2⟩ := hle rfl
    repeat' first | (refine aops_end (hK _ ?_); clear hK K) | (refine aops_go ?_; simp [hlt, hgt]; (try simp (disch := omega) only [wrap64]); (try (refine gen fun q hq => ?_; cases q <;> (try simp [hlt, hgt] at hq) <;> (try (have hh : True := hq; clear hh hq))))) | (refine wpcall_upd1 0 [.i k] [.i k'] rfl rfl hu ?_; simp) | (refine ⟨(p + 1, k', _), by dsimp only; omega, ⟨by dsimp only; omega, hle1, hle2, by simpa using he⟩, rfl, rfl, ?_⟩; simp (disch := omega) [wrap64]) | refine T.r0 fun K hK => ?_ | refine T.r1 fun K hK => ?_ | refine T.ct rfl ?_ | refine T.cf rfl ?_ | refine T.seq ?_ | refine T.block ?_ | refine T.skip ?_
  ·have hp' : p = e.kids.length := by omega
   subst hp'
   simp [scanS] at he
   repeat' first | (refine aops_end (hK _ ?_); clear hK K) | (refine aops_go ?_; simp [hlt]; (try (refine gen fun q hq => ?_; cases q <;> (try simp [hlt] at hq) <;> (try (have hh : True := hq; clear hh hq))))) | (refine T.ret (Done.obj1 (Or.inr rfl) ?_ ?_ ?_) <;> simp [Tryz.results152, <- he] <;> omega) | refine T.r0 fun K hK => ?_ | refine T.cf rfl ?_ | refine T.seq ?_ | refine T.exit ?_

theorem CastValid_ok (e : MTm) (hn : nTm e <= 1099511627776) : ACalls Tryz.prog 171 [aTm e] [] (.b (castValidM e)) [] [] := by
 have h := scan_ok 200 40 13 (by omega) (by omega) e hn 1 0 (by omega) (by omega) (by omega)
 have hl := (scanM_law 200 40 13 e 40 0 (by omega) (by omega)).1
 have hr : (scanM 200 40 13 1 e 0).1 = castValidM e := by
  rw [show ((40 : Int) + 1 - ((40 : Nat) : Int)) = 1 by omega] at hl
  rw [hl, castValidM]
  congr 1
  exact decide_eq_decide.2 (by omega)
 rw [hr] at h
 refine ACalls.of_body Tryz.func171 (by kernel_rfl) rfl (by kernel_rfl) (by simp [Tryz.ntmps171]) (by simp) ?_
 rw [Tryz.ntmps171]
 repeat' first | (refine aops_end (hK _ ?_); clear hK K) | (refine aops_go ?_; simp) | (refine wpcall_upd1 1 [.i 0] [.i (scanM 200 40 13 1 e 0).2] rfl rfl h ?_; simp) | (refine T.ret (Done.data (Or.inr rfl) ?_ ?_) <;> simp [Tryz.results171] <;> omega) | refine T.r0 fun K hK => ?_

end Go.Proofs.YtflmjilnecanhaaGreatDoor

namespace Go.Proofs.YtflmjilnecanhaaGreatDoor
attribute [-simp] Go.Av.keepL Go.Av.ups Go.Av.take_app_len Go.Av.innVs Go.Av.putBack Go.Av.objCells Go.Av.back Go.Av.resVs Go.Av.one Go.Av.freeStepG Go.Av.exA Go.Av.innAsH Go.Av.AV.innH Go.Av.CV.innH Go.Av.innHs Go.Av.AV.outnH Go.Av.CV.outnH
open Go Go.Av
attribute [local irreducible] T ACalls eTy eTm MTy.kind MTy.kids MTm.kind MTm.name MTm.num MTm.ty MTm.fr MTm.label MTm.kids
attribute [local simp] eTy_def eTm_def
set_option maxHeartbeats 4000000
attribute [local simp] Option.bind

theorem l1Any_ok : ACalls Tryz.prog 139 [] [] (aTy anyT) [] [] := by
 refine ACalls.of_body Tryz.func139 (by kernel_rfl) rfl (by kernel_rfl) (by simp [Tryz.ntmps139]) (by simp) ?_
 rw [Tryz.ntmps139]
 repeat' first | (refine aops_end (hK _ ?_); clear hK K) | (refine aops_go ?_; simp; (try (refine gen fun q hq => ?_; cases q <;> (try simp at hq) <;> (try (have hh : True := hq; clear hh hq))))) | (refine T.ret (Done.val (Or.inr rfl) ?_) <;> simp [resAs, Tryz.results139] <;> omega) | refine T.r0 fun K hK => ?_

theorem l3Int_ok : ACalls Tryz.prog 150 [] [] (aTy intT) [] [] := by
 refine ACalls.of_body Tryz.func150 (by kernel_rfl) rfl (by kernel_rfl) (by simp [Tryz.ntmps150]) (by simp) ?_
 rw [Tryz.ntmps150]
 repeat' first | (refine aops_end (hK _ ?_); clear hK K) | (refine aops_go ?_; simp; (try (refine gen fun q hq => ?_; cases q <;> (try simp at hq) <;> (try (have hh : True := hq; clear hh hq))))) | (refine T.ret (Done.val (Or.inr rfl) ?_) <;> simp [resAs, Tryz.results150] <;> omega) | refine T.r0 fun K hK => ?_

theorem l3Bool_ok : ACalls Tryz.prog 148 [] [] (aTy boolT) [] [] := by
 refine ACalls.of_body Tryz.func148 (by kernel_rfl) rfl (by kernel_rfl) (by simp [Tryz.ntmps148]) (by simp) ?_
 rw [Tryz.ntmps148]
 repeat' first | (refine aops_end (hK _ ?_); clear hK K) | (refine aops_go ?_; simp; (try (refine gen fun q hq => ?_; cases q <;> (try simp at hq) <;> (try (have hh : True := hq; clear hh hq))))) | (refine T.ret (Done.val (Or.inr rfl) ?_) <;> simp [resAs, Tryz.results148] <;> omega) | refine T.r0 fun K hK => ?_

theorem l1Copy_ok : ∀ (t : MTy), nTy t <= 1099511627776 -> ACalls Tryz.prog 145 [aTy t] [] (aTy t) [] [] := by
 intro t
 induction t using MTy.ind with
 | h t ih =>
  intro hn
  rw [nTy_def] at hn
  have hlen := nTyS_len t.kids
  refine ACalls.of_body Tryz.func145 (by kernel_rfl) rfl (by kernel_rfl) (by simp [Tryz.ntmps145]) (by simp) ?_
  rw [Tryz.ntmps145]
  repeat' first | (refine aops_end (hK _ ?_); clear hK K) | (refine aops_go ?_; simp; (try (refine gen fun q hq => ?_; cases q <;> (try simp at hq) <;> (try (have hh : True := hq; clear hh hq))))) | refine T.r0 fun K hK => ?_ | refine T.seq ?_ | refine T.block ?_
  refine T.ownifyObj 2 1 2 43 (row := [.d (.i t.kind), .nil]) (by simp) (by simp) ?_
  refine T.loopF (fun p : Nat => ⟨[(1, .c (.ptr 0 0)), (2, .c (.ptr 1 0)), (3, .c (.ptr 2 0)), (4, .i p)], [(aTy t).cells, [.d (.i 0), .nil], [.d (.i t.kind), .own 0 p]], [{ sz := 2, ety := 43, rows := (t.kids.take p).map eTy, wr := true }]⟩) (fun p => t.kids.length + 1 - p) (fun p => p <= t.kids.length) (fun p hi => ?_) 0 (by simp) (by simp)
  by_cases hlt : p < t.kids.length
  ·obtain ⟨u, ht⟩ := get_lt hlt
   have htm : u ∈ t.kids := List.mem_of_getElem? ht
   have hgt : t.kids[p] = u := by rw [List.getElem?_eq_getElem hlt] at ht; exact Option.some.inj ht
   have hdr : t.kids.drop p = u :: t.kids.drop (p + 1) := by rw [List.drop_eq_getElem_cons hlt, hgt]
   have hu := ih u htm (by have := nTyS_mem htm; omega)
   have htk : t.kids.take (p + 1) = t.kids.take p ++ [u] := by rw [List.take_add_one, ht]; rfl
   have hmin : min p t.kids.length = p := by omega
   repeat' first | ((first | refine aops_end (hK _ ?_) | refine aopsD_end (hK _ ?_)); clear hK K) | ((first | refine aops_go ?_ | refine aopsD_go ?_ | refine wpcall_pure rfl (hu) ?_); simp [hlt, hgt, hmin]; (try simp (disch := omega) only [wrap64]); (try (refine gen fun q hq => ?_; cases q <;> (try simp [hlt, hgt, hmin] at hq) <;> (try (have hh : True := hq; clear hh hq))))) | (refine ⟨by omega, by omega, ?_⟩) | (refine ⟨p + 1, by dsimp only; omega, by omega, ?_, ?_, ?_⟩ <;> simp (disch := omega) [wrap64, htk, eTy_def]) | refine T.rd1 (id := 5) mixed (fun _ => false) [9, 11] (by kernel_rfl) fun K hK => ?_ | refine T.r0 fun K hK => ?_ | refine T.r1 fun K hK => ?_ | refine T.ct rfl ?_ | refine T.seq ?_ | refine T.block ?_ | refine T.skip ?_
  ·have hp' : p = t.kids.length := by omega
   subst hp'
   repeat' first | (refine aops_end (hK _ ?_); clear hK K) | (refine aops_go ?_; simp [hlt]; (try (refine gen fun q hq => ?_; cases q <;> (try simp [hlt] at hq) <;> (try (have hh : True := hq; clear hh hq))))) | (refine T.ret (Done.val (Or.inr rfl) ?_) <;> simp [resAs, Tryz.results145, eTy_def] <;> omega) | refine T.r0 fun K hK => ?_ | refine T.cf rfl ?_ | refine T.seq ?_ | refine T.exit ?_

theorem l1Meet_ok : ∀ (a b : MTy), nTy a <= 1099511627776 -> nTy b <= 1099511627776 -> consTy a b = true -> ACalls Tryz.prog 305 [aTy a, aTy b] [] (aTy (meetTy a b)) [] [] := by
 intro a
 induction a using MTy.ind with
 | h a ih =>
  intro b hn hm hcon
  have hca := l1Copy_ok a hn
  have hcb := l1Copy_ok b hm
  rw [nTy_def] at hn hm
  have hlen := nTyS_len a.kids
  by_cases hk1 : a.kind = 1
  ·rw [show meetTy a b = b by rw [meetTy_def, if_pos hk1]]
   refine ACalls.of_body Tryz.func305 (by kernel_rfl) rfl (by kernel_rfl) (by simp [Tryz.ntmps305]) (by simp) ?_
   rw [Tryz.ntmps305]
   repeat' first | (refine aops_end (hK _ ?_); clear hK K) | ((first | refine aops_go ?_ | refine wpcall_pure rfl (hcb) ?_); simp [hk1]; (try (refine gen fun q hq => ?_; cases q <;> (try simp [hk1] at hq) <;> (try (have hh : True := hq; clear hh hq))))) | (refine T.ret (Done.val (Or.inr rfl) ?_) <;> simp [resAs, Tryz.results305] <;> omega) | refine T.r0 fun K hK => ?_ | refine T.ct rfl ?_ | refine T.seq ?_
  by_cases hk2 : b.kind = 1
  ·rw [show meetTy a b = a by rw [meetTy_def, if_neg hk1, if_pos hk2]]
   refine ACalls.of_body Tryz.func305 (by kernel_rfl) rfl (by kernel_rfl) (by simp [Tryz.ntmps305]) (by simp) ?_
   rw [Tryz.ntmps305]
   repeat' first | (refine aops_end (hK _ ?_); clear hK K) | ((first | refine aops_go ?_ | (refine wpcall_pure ?_ (hca) ?_; (focus (solve | simp [hk1, hk2])))); simp [hk1, hk2]; (try (refine gen fun q hq => ?_; cases q <;> (try simp [hk1, hk2] at hq) <;> (try (have hh : True := hq; clear hh hq))))) | (refine T.ret (Done.val (Or.inr rfl) ?_) <;> simp [resAs, Tryz.results305] <;> omega) | refine T.r0 fun K hK => ?_ | refine T.ct rfl ?_ | refine T.cf rfl ?_ | refine T.seq ?_ | refine T.skip ?_
  obtain ⟨hk, hq⟩ := consTy_kind hcon hk1 hk2
  have hlm := all2_len hq
  rw [show meetTy a b = .mk a.kind (List.zipWith meetTy a.kids b.kids) by rw [meetTy_def, if_neg hk1, if_neg hk2]]
  refine ACalls.of_body Tryz.func305 (by kernel_rfl) rfl (by kernel_rfl) (by simp [Tryz.ntmps305]) (by simp) ?_
  rw [Tryz.ntmps305]
  repeat' first | (refine aops_end (hK _ ?_); clear hK K) | (refine aops_go ?_; simp [hk1, hk2]; (try (refine gen fun q hq => ?_; cases q <;> (try simp [hk1, hk2] at hq) <;> (try (have hh : True := hq; clear hh hq))))) | refine T.r0 fun K hK => ?_ | refine T.cf rfl ?_ | refine T.seq ?_ | refine T.block ?_ | refine T.skip ?_
  refine T.ownifyObj 3 1 2 43 (row := [.d (.i a.kind), .nil]) (by simp) (by simp) ?_
  refine T.loopF (fun p : Nat => ⟨[(2, .c (.ptr 0 0)), (3, .c (.ptr 1 0)), (4, .c (.ptr 2 0)), (5, .c (.ptr 3 0)), (6, .i p)], [(aTy a).cells, (aTy b).cells, [.d (.i 0), .nil], [.d (.i a.kind), .own 0 p]], [{ sz := 2, ety := 43, rows := ((List.zipWith meetTy a.kids b.kids).take p).map eTy, wr := true }]⟩) (fun p => a.kids.length + 1 - p) (fun p => p <= a.kids.length) (fun p hi => ?_) 0 (by simp) (by simp)
  have hzl : (List.zipWith meetTy a.kids b.kids).length = a.kids.length := by simp [hlm]
  by_cases hlt : p < a.kids.length
  ·obtain ⟨u, ht⟩ := get_lt hlt
   have htm : u ∈ a.kids := List.mem_of_getElem? ht
   have hgt : a.kids[p] = u := by rw [List.getElem?_eq_getElem hlt] at ht; exact Option.some.inj ht
   have hdr : a.kids.drop p = u :: a.kids.drop (p + 1) := by rw [List.drop_eq_getElem_cons hlt, hgt]
   have hlt2 : p < b.kids.length := by omega
   obtain ⟨v, hv⟩ := get_lt hlt2
   have hvm : v ∈ b.kids := List.mem_of_getElem? hv
   have hgv : b.kids[p] = v := by rw [List.getElem?_eq_getElem hlt2] at hv; exact Option.some.inj hv
   have hu := ih u htm v (by have := nTyS_mem htm; omega) (by have := nTyS_mem hvm; omega) (all2_at hq ht hv)
   have hz : (List.zipWith meetTy a.kids b.kids)[p]? = some (meetTy u v) := by rw [List.getElem?_zipWith, ht, hv]
   have htk : (List.zipWith meetTy a.kids b.kids).take (p + 1) = (List.zipWith meetTy a.kids b.kids).take p ++ [meetTy u v] := by rw [List.take_add_one, hz]; rfl
   have hmin : min p a.kids.length = p := by omega
   have hmin2 : min p b.kids.length = p := by omega
   generalize hZ : List.zipWith meetTy a.kids b.kids = Z at *
   have hmin3 : min p Z.length = p := by omega
   generalize meetTy u v = mm at *
   repeat' first | ((first | refine aops_end (hK _ ?_) | refine aopsD_end (hK _ ?_)); clear hK K) | ((first | refine aops_go ?_ | refine aopsD_go ?_ | refine wpcall_pure rfl (hu) ?_); simp [hlt, hgt, hlt2, hgv, hmin3]; (try simp (disch := omega) only [wrap64]); (try (refine gen fun q hq => ?_; cases q <;> (try simp [hlt, hgt, hlt2, hgv, hmin3] at hq) <;> (try (have hh : True := hq; clear hh hq))))) | (refine ⟨by omega, by omega, ?_⟩) | (refine ⟨p + 1, by dsimp only; omega, by omega, ?_, ?_, ?_⟩ <;> simp (disch := omega) [wrap64, htk, eTy_def, hmin3]) | refine T.rd1 (id := 9) mixed (fun _ => false) [14, 16] (by kernel_rfl) fun K hK => ?_ | refine T.r0 fun K hK => ?_ | refine T.r1 fun K hK => ?_ | refine T.ct rfl ?_ | refine T.seq ?_ | refine T.block ?_ | refine T.skip ?_
  ·have hp' : p = a.kids.length := by omega
   subst hp'
   rw [List.take_of_length_le (by omega)]
   generalize hZ : List.zipWith meetTy a.kids b.kids = Z at *
   repeat' first | (refine aops_end (hK _ ?_); clear hK K) | (refine aops_go ?_; simp [hlt]; (try (refine gen fun q hq => ?_; cases q <;> (try simp [hlt] at hq) <;> (try (have hh : True := hq; clear hh hq))))) | (refine T.ret (Done.val (Or.inr rfl) ?_) <;> simp [resAs, Tryz.results305, hzl, eTy_def] <;> omega) | refine T.r0 fun K hK => ?_ | refine T.cf rfl ?_ | refine T.seq ?_ | refine T.exit ?_

theorem l3Sure_ok (t : MTy) (ok : Bool) : ACalls Tryz.prog 264 [aTy t, .b ok] [] (.tup [aTy (if ok = true then t else zeroT), .b ok]) [] [] := by
 cases ok
 ·refine ACalls.of_body Tryz.func264 (by kernel_rfl) rfl (by kernel_rfl) (by simp [Tryz.ntmps264]) (by simp) ?_
  rw [Tryz.ntmps264]
  repeat' first | (refine aops_end (hK _ ?_); clear hK K) | (refine aops_go ?_; simp; (try (refine gen fun q hq => ?_; cases q <;> (try simp at hq) <;> (try (have hh : True := hq; clear hh hq))))) | (refine T.ret (Done.tup (Or.inr rfl) ?_) <;> simp [resAs, Tryz.results264] <;> omega) | refine T.r0 fun K hK => ?_ | refine T.ct rfl ?_ | refine T.seq ?_
 ·refine ACalls.of_body Tryz.func264 (by kernel_rfl) rfl (by kernel_rfl) (by simp [Tryz.ntmps264]) (by simp) ?_
  rw [Tryz.ntmps264]
  repeat' first | (refine aops_end (hK _ ?_); clear hK K) | (refine aops_go ?_; simp; (try (refine gen fun q hq => ?_; cases q <;> (try simp at hq) <;> (try (have hh : True := hq; clear hh hq))))) | (refine T.ret (Done.tup (Or.inr rfl) ?_) <;> simp [resAs, Tryz.results264] <;> omega) | refine T.r0 fun K hK => ?_ | refine T.cf rfl ?_ | refine T.seq ?_ | refine T.skip ?_

theorem l3Match_ok (k : Int) (t : MTy) (hn : nTy t <= 1099511627776) (hl : t.kind = k -> 2 <= t.kids.length) :
  ACalls Tryz.prog 304 [.i k, aTy t] [] (.tup (match matchM k t with | some (a, b) => [aTy a, aTy b, .b true] | none => [aTy zeroT, aTy zeroT, .b false])) [] [] := by
 have hany := l1Any_ok
 simp only [matchM]
 by_cases hk1 : t.kind = 1
 ·rw [if_pos hk1]
  dsimp only
  refine ACalls.of_body Tryz.func304 (by kernel_rfl) rfl (by kernel_rfl) (by simp [Tryz.ntmps304]) (by simp) ?_
  rw [Tryz.ntmps304]
  repeat' first | (refine aops_end (hK _ ?_); clear hK K) | ((first | refine aops_go ?_ | refine wpcall_pure rfl (hany) ?_); simp [hk1]; (try (refine gen fun q hq => ?_; cases q <;> (try simp [hk1] at hq) <;> (try (have hh : True := hq; clear hh hq))))) | (refine T.ret (Done.tup (Or.inr rfl) ?_) <;> simp [resAs, Tryz.results304] <;> omega) | refine T.r0 fun K hK => ?_ | refine T.ct rfl ?_ | refine T.seq ?_
 rw [if_neg hk1]
 by_cases hk : t.kind = k
 rotate_left
 ·rw [if_neg hk]
  dsimp only
  refine ACalls.of_body Tryz.func304 (by kernel_rfl) rfl (by kernel_rfl) (by simp [Tryz.ntmps304]) (by simp) ?_
  rw [Tryz.ntmps304]
  repeat' first | (refine aops_end (hK _ ?_); clear hK K) | (refine aops_go ?_; simp [hk1, hk]; (try (refine gen fun q hq => ?_; cases q <;> (try simp [hk1, hk] at hq) <;> (try (have hh : True := hq; clear hh hq))))) | (refine T.ret (Done.tup (Or.inr rfl) ?_) <;> simp [resAs, Tryz.results304] <;> omega) | refine T.r0 fun K hK => ?_ | refine T.ct rfl ?_ | refine T.cf rfl ?_ | refine T.seq ?_ | refine T.skip ?_
 rw [if_pos hk]
 have hl2 := hl hk
 match hkd : t.kids, hl2 with
 | a :: b :: r, _ =>
  dsimp only
  rw [nTy_def, hkd] at hn
  have hk1' : ¬ k = 1 := by rw [<- hk]; exact hk1
  have ha := l1Copy_ok a (by simp [nTyS] at hn; omega)
  have hb := l1Copy_ok b (by simp [nTyS] at hn; omega)
  refine ACalls.of_body Tryz.func304 (by kernel_rfl) rfl (by kernel_rfl) (by simp [Tryz.ntmps304]) (by simp) ?_
  rw [Tryz.ntmps304]
  repeat' first | ((first | refine aops_end (hK _ ?_) | refine aopsD_end (hK _ ?_)); clear hK K) | ((first | refine aops_go ?_ | refine aopsD_go ?_ | refine wpcall_pure rfl (ha) ?_ | refine wpcall_pure rfl (hb) ?_); simp [hk1', hk, hkd]; (try (refine gen fun q hq => ?_; cases q <;> (try simp [hk1', hk, hkd] at hq) <;> (try (have hh : True := hq; clear hh hq))))) | (refine T.ret (Done.tup (Or.inr rfl) ?_) <;> simp [resAs, Tryz.results304] <;> omega) | refine T.rd (id := 5) mixed (fun _ => false) [10, 11] (by kernel_rfl) fun K hK => ?_ | refine T.r0 fun K hK => ?_ | refine T.cf rfl ?_ | refine T.seq ?_ | refine T.skip ?_

theorem l3Two_ok (k : Int) (a b : MTy) (ha : nTy a <= 549755813888) (hb : nTy b <= 549755813885) :
  ACalls Tryz.prog 287 [.i k, aTy a, aTy b] [] (.tup [aTy (.mk k [a, b]), .b (shapeTy 4 (.mk k [a, b]))]) [] [] := by
 have hca := l1Copy_ok a (by omega)
 have hcb := l1Copy_ok b (by omega)
 have hv := TypeValidS_ok (.mk k [a, b]) (by rw [nTy_def]; simp [nTyS]; omega)
 generalize shapeTy 4 (.mk k [a, b]) = ok at *
 refine ACalls.of_body Tryz.func287 (by kernel_rfl) rfl (by kernel_rfl) (by simp [Tryz.ntmps287]) (by simp) ?_
 rw [Tryz.ntmps287]
 repeat' first | ((first | refine aops_end (hK _ ?_) | refine aopsD_end (hK _ ?_) | refine aopsF_end (hK _ ?_)); clear hK K) | ((first | refine aops_go ?_ | refine aopsD_go ?_ | refine aopsF_go ?_ | refine wpcall_pure rfl (hca) ?_ | refine wpcall_pure rfl (hcb) ?_ | (refine wpcall_pure ?_ (hv) ?_; (focus (solve | simp)))); simp) | (refine T.ret (Done.tup (Or.inr rfl) ?_) <;> simp [resAs, Tryz.results287, eTy_def] <;> omega) | refine T.rdF (id := 1) mixed (fun _ => false) [7, 8] [1, 2, 3, 4, 5, 6] 8 [] (by kernel_rfl) fun K hK => ?_ | (refine ⟨?_, ?_⟩; (focus (intros; refine wpcall_pure rfl (hca) ?_; simp; done))) | (refine ⟨?_, ?_⟩; (focus (intros; refine wpcall_pure rfl (hcb) ?_; simp; done))) | refine T.rd (id := 2) mixed (fun _ => false) [3] (by kernel_rfl) fun K hK => ?_ | refine T.r0 fun K hK => ?_
end Go.Proofs.YtflmjilnecanhaaGreatDoor

namespace Go.Proofs.YtflmjilnecanhaaGreatDoor
attribute [-simp] Go.Av.keepL Go.Av.ups Go.Av.take_app_len Go.Av.innVs Go.Av.putBack Go.Av.objCells Go.Av.back Go.Av.resVs Go.Av.one Go.Av.freeStepG Go.Av.exA Go.Av.innAsH Go.Av.AV.innH Go.Av.CV.innH Go.Av.innHs Go.Av.AV.outnH Go.Av.CV.outnH
open Go Go.Av
attribute [local irreducible] T ACalls eTy eTm MTy.kind MTy.kids MTm.kind MTm.name MTm.num MTm.ty MTm.fr MTm.label MTm.kids
attribute [local simp] eTy_def eTm_def
set_option maxHeartbeats 4000000

@[simp] theorem td_bindS : td Tryz.prog 150 = some { ag := false, sz := 1, by_ := 24, zero := some [.nil], el := some 153, ar := none, fl := [], ik := none, isS := false, isB := false } := keep (by kernel_rfl)
@[simp] theorem td_bind : td Tryz.prog 153 = some { ag := true, sz := 3, by_ := 48, zero := some [.d (.str []), .d (.int .i64 0), .nil], el := none, ar := none, fl := [(0, 1), (1, 2)], ik := none, isS := false, isB := false } := keep (by kernel_rfl)

theorem l3Look_ok (ctx : List MBd) (s : List UInt8) (hl : ctx.length <= 1099511627776) (hn : ∀ b ∈ ctx, nTy b.ty <= 1099511627776) :
  ACalls Tryz.prog 142 [.l (ctx.map eBd), .s s] [] (.tup (match lookM ctx s with | some t => [aTy t, .b true] | none => [aTy zeroT, .b false])) [] [] := by
 have hlook : ∀ p, p < ctx.length -> lookM (ctx.take (p + 1)) s = if (ctx[p]?.map MBd.name) = some s then ctx[p]?.map MBd.ty else lookM (ctx.take p) s := by
  have happ : ∀ (l : List MBd) (b : MBd), lookM (l ++ [b]) s = if b.name = s then some b.ty else lookM l s := by
   intro l
   induction l with
   | nil => intro b; simp [lookM]
   | cons x r ih =>
    intro b
    simp only [List.cons_append, lookM, ih b]
    by_cases hb : b.name = s
    ·simp [hb]
    ·simp [hb]
  intro p hp
  rw [List.take_add_one, List.getElem?_eq_getElem hp]
  simp only [Option.toList_some, happ, Option.map_some, Option.some.injEq]
 refine ACalls.of_body Tryz.func142 (by kernel_rfl) rfl (by kernel_rfl) (by simp [Tryz.ntmps142]) (by simp) ?_
 rw [Tryz.ntmps142]
 repeat' first | (refine aops_end (hK _ ?_); clear hK K) | (refine aops_go ?_; simp; (try simp (disch := omega) only [wrap64]); (try (refine gen fun q hq => ?_; cases q <;> (try simp at hq) <;> (try (have hh : True := hq; clear hh hq))))) | refine T.r0 fun K hK => ?_ | refine T.seq ?_ | refine T.block ?_
 obtain ⟨R, hR⟩ : ∃ R, lookM ctx s = R := ⟨_, rfl⟩
 rw [hR]
 refine T.loopF (fun p : Nat => ⟨[(0, .l (ctx.map eBd)), (1, .s s), (4, .c (.ptr 0 0)), (6, .i ((p : Int) - 1))], [[.d (.i 0), .nil]], []⟩) (fun p => p) (fun p => p <= ctx.length /\ lookM (ctx.take p) s = R) (fun p hp => ?_) ctx.length (by simpa using hR) (by simp)
 obtain ⟨hi, he⟩ := hp
 cases p with
 | zero =>
  simp [lookM] at he
  subst he
  repeat' first | (refine aops_end (hK _ ?_); clear hK K) | (refine aops_go ?_; simp; (try (refine gen fun q hq => ?_; cases q <;> (try simp at hq) <;> (try (have hh : True := hq; clear hh hq))))) | (refine T.ret (Done.tup (Or.inr rfl) ?_) <;> simp [resAs, Tryz.results142] <;> omega) | refine T.r0 fun K hK => ?_ | refine T.cf rfl ?_ | refine T.seq ?_ | refine T.exit ?_
 | succ p =>
  rw [hlook p (by omega)] at he
  have hlt : p < ctx.length := by omega
  obtain ⟨b, ht⟩ := get_lt hlt
  have htm : b ∈ ctx := List.mem_of_getElem? ht
  have hgt : ctx[p] = b := by rw [List.getElem?_eq_getElem hlt] at ht; exact Option.some.inj ht
  have hge : (0 : Int) <= (p : Int) + 1 - 1 := by omega
  have hpp : ((p : Int) + 1 - 1) = p := by omega
  have hcp := l1Copy_ok b.ty (hn b htm)
  rw [ht] at he
  by_cases hb : b.name = s
  ·simp [hb] at he
   subst he
   repeat' first | (refine aops_end (hK _ ?_); clear hK K) | ((first | refine aops_go ?_ | refine wpcall_pure rfl (hcp) ?_); simp [hlt, hgt, hge, hpp, hb, eBd]; (try simp (disch := omega) only [wrap64]); (try (refine gen fun q hq => ?_; cases q <;> (try simp [hlt, hgt, hge, hpp, hb, eBd] at hq) <;> (try (have hh : True := hq; clear hh hq))))) | (refine T.ret (Done.tup (Or.inr rfl) ?_) <;> simp [resAs, Tryz.results142] <;> omega) | refine T.r0 fun K hK => ?_ | refine T.ct rfl ?_ | refine T.seq ?_ | refine T.block ?_ | refine T.skip ?_
  ·simp [hb] at he
   repeat' first | (refine aops_end (hK _ ?_); clear hK K) | (refine aops_go ?_; simp [hlt, hgt, hge, hpp, hb, eBd]; (try simp (disch := omega) only [wrap64]); (try (refine gen fun q hq => ?_; cases q <;> (try simp [hlt, hgt, hge, hpp, hb, eBd] at hq) <;> (try (have hh : True := hq; clear hh hq))))) | (refine ⟨p, by dsimp only; omega, ⟨by omega, he⟩, rfl, rfl, ?_⟩; simp (disch := omega) [wrap64]) | refine T.r0 fun K hK => ?_ | refine T.r1 fun K hK => ?_ | refine T.ct rfl ?_ | refine T.cf rfl ?_ | refine T.seq ?_ | refine T.block ?_ | refine T.skip ?_

theorem l3More_ok (ctx : List MBd) (s : List UInt8) (t : MTy) (hl : ctx.length <= 1099511627776) :
  ACalls Tryz.prog 205 [.l (ctx.map eBd), .s s, aTy t] [] (.l ((ctx ++ [MBd.mk s t]).map eBd)) [] [] := by
 refine ACalls.of_body Tryz.func205 (by kernel_rfl) rfl (by kernel_rfl) (by simp [Tryz.ntmps205]) (by simp) ?_
 rw [Tryz.ntmps205]
 repeat' first | ((first | refine aops_end (hK _ ?_) | refine aopsF_end (hK _ ?_)); clear hK K) | ((first | refine aops_go ?_ | refine aopsF_go ?_); simp [eBd]; (try (refine gen fun q hq => ?_; cases q <;> (try simp [eBd] at hq) <;> (try (have hh : True := hq; clear hh hq))))) | (refine ⟨by omega, by omega, ?_⟩) | (refine T.ret (Done.val (Or.inr rfl) ?_) <;> simp [resAs, Tryz.results205, eBd] <;> omega) | refine T.rdF (id := 1) mixed (fun i => i == 0) [0, 2, 7] [4, 5, 6] 3 [] (by kernel_rfl) fun K hK => ?_ | refine T.rs (id := 0) (fun _ => false) fun K hK => ?_

theorem CtxValidS_ok (ctx : List MBd) (hl : ctx.length <= 1099511627776) (hn : ∀ b ∈ ctx, nTy b.ty <= 1099511627776) : ACalls Tryz.prog 263 [.l (ctx.map eBd)] [] (.b (ctxM ctx)) [] [] := by
 simp only [ctxM]
 obtain ⟨R, hR⟩ : ∃ R, ctx.all (fun b => nameM b.name && shapeTy 4 b.ty) = R := ⟨_, rfl⟩
 rw [hR]
 refine ACalls.of_body Tryz.func263 (by kernel_rfl) rfl (by kernel_rfl) (by simp [Tryz.ntmps263]) (by simp) ?_
 rw [Tryz.ntmps263]
 repeat' first | (refine aops_end (hK _ ?_); clear hK K) | (refine aops_go ?_; simp; (try (refine gen fun q hq => ?_; cases q <;> (try simp at hq) <;> (try (have hh : True := hq; clear hh hq))))) | refine T.r0 fun K hK => ?_ | refine T.seq ?_ | refine T.block ?_
 refine T.loopF (fun p : Nat => ⟨[(0, .l (ctx.map eBd)), (3, .i p)], [], []⟩) (fun p => ctx.length + 1 - p) (fun p => p <= ctx.length /\ (ctx.drop p).all (fun b => nameM b.name && shapeTy 4 b.ty) = R) (fun p hp => ?_) 0 (by simpa using hR) (by simp)
 obtain ⟨hi, he⟩ := hp
 by_cases hlt : p < ctx.length
 ·obtain ⟨b, ht⟩ := get_lt hlt
  have htm : b ∈ ctx := List.mem_of_getElem? ht
  have hgt : ctx[p] = b := by rw [List.getElem?_eq_getElem hlt] at ht; exact Option.some.inj ht
  have hdr : ctx.drop p = b :: ctx.drop (p + 1) := by rw [List.drop_eq_getElem_cons hlt, hgt]
  have h1 := l2Name_ok b.name
  have h2 := TypeValidS_ok b.ty (hn b htm)
  rw [hdr, List.all_cons] at he
  cases hb1 : nameM b.name <;> rw [hb1] at h1 he
  ·repeat' first | (refine aops_end (hK _ ?_); clear hK K) | ((first | refine aops_go ?_ | refine wpcall_pure rfl (h1) ?_); simp [hlt, hgt, eBd]; (try simp (disch := omega) only [wrap64]); (try (refine gen fun q hq => ?_; cases q <;> (try simp [hlt, hgt, eBd] at hq) <;> (try (have hh : True := hq; clear hh hq))))) | (refine T.ret (Done.data (Or.inr rfl) ?_ ?_) <;> simp [Tryz.results263, <- he] <;> omega) | refine T.r0 fun K hK => ?_ | refine T.ct rfl ?_ | refine T.seq ?_ | refine T.block ?_ | refine T.skip ?_
  ·cases hb2 : shapeTy 4 b.ty <;> rw [hb2] at h2 he
   ·repeat' first | (refine aops_end (hK _ ?_); clear hK K) | ((first | refine aops_go ?_ | refine wpcall_pure rfl (h1) ?_ | refine wpcall_pure rfl (h2) ?_); simp [hlt, hgt, eBd]; (try simp (disch := omega) only [wrap64]); (try (refine gen fun q hq => ?_; cases q <;> (try simp [hlt, hgt, eBd] at hq) <;> (try (have hh : True := hq; clear hh hq))))) | (refine T.ret (Done.data (Or.inr rfl) ?_ ?_) <;> simp [Tryz.results263, <- he] <;> omega) | refine T.r0 fun K hK => ?_ | refine T.ct rfl ?_ | refine T.seq ?_ | refine T.block ?_ | refine T.skip ?_
   ·repeat' first | (refine aops_end (hK _ ?_); clear hK K) | ((first | refine aops_go ?_ | refine wpcall_pure rfl (h1) ?_ | refine wpcall_pure rfl (h2) ?_); simp [hlt, hgt, eBd]; (try simp (disch := omega) only [wrap64]); (try (refine gen fun q hq => ?_; cases q <;> (try simp [hlt, hgt, eBd] at hq) <;> (try (have hh : True := hq; clear hh hq))))) | (refine ⟨p + 1, by dsimp only; omega, ⟨by omega, by simpa using he⟩, rfl, rfl, ?_⟩; simp (disch := omega) [wrap64]) | refine T.r0 fun K hK => ?_ | refine T.r1 fun K hK => ?_ | refine T.ct rfl ?_ | refine T.cf rfl ?_ | refine T.seq ?_ | refine T.block ?_ | refine T.skip ?_
 ·have hp' : p = ctx.length := by omega
  subst hp'
  simp at he
  subst he
  repeat' first | (refine aops_end (hK _ ?_); clear hK K) | (refine aops_go ?_; simp [hlt]; (try (refine gen fun q hq => ?_; cases q <;> (try simp [hlt] at hq) <;> (try (have hh : True := hq; clear hh hq))))) | (refine T.ret (Done.data (Or.inr rfl) ?_ ?_) <;> simp [Tryz.results263, *] <;> omega) | refine T.r0 fun K hK => ?_ | refine T.cf rfl ?_ | refine T.seq ?_ | refine T.exit ?_
end Go.Proofs.YtflmjilnecanhaaGreatDoor

namespace Go.Proofs.YtflmjilnecanhaaGreatDoor
attribute [-simp] Go.Av.keepL Go.Av.ups Go.Av.take_app_len Go.Av.innVs Go.Av.putBack Go.Av.objCells Go.Av.back Go.Av.resVs Go.Av.one Go.Av.freeStepG Go.Av.exA Go.Av.innAsH Go.Av.AV.innH Go.Av.CV.innH Go.Av.innHs Go.Av.AV.outnH Go.Av.CV.outnH
open Go Go.Av
attribute [local irreducible] T ACalls eTy eTm MTy.kind MTy.kids MTm.kind MTm.name MTm.num MTm.ty MTm.fr MTm.label MTm.kids
attribute [local simp] eTy_def eTm_def
set_option maxHeartbeats 4000000

theorem shape_nTy : ∀ (d : Nat) (t : MTy), shapeTy d t = true -> nTy t + 2 <= 2 ^ d
 | 0, t, h => by simp [shapeTy] at h
 | d + 1, t, h => by
  obtain ⟨e, he, _, hl, hs⟩ := shapeTy_kids h
  obtain rfl : d = e := by omega
  rw [nTy_def]
  have hp : 1 <= 2 ^ d := Nat.one_le_two_pow
  have hpow : 2 ^ (d + 1) = 2 * 2 ^ d := by rw [Nat.pow_succ]; omega
  match hk : t.kids, hl with
  | [], _ => simp [nTyS]; omega
  | [a], _ => have := shape_nTy d a (hs a (by simp [hk])); simp [nTyS]; omega
  | [a, b], _ =>
   have h1 := shape_nTy d a (hs a (by simp [hk]))
   have h2 := shape_nTy d b (hs b (by simp [hk]))
   simp [nTyS]; omega

theorem shape4 {t : MTy} (h : shapeTy 4 t = true) : nTy t <= 14 := by have := shape_nTy 4 t h; omega

theorem shape_two {k : Int} {t : MTy} (hk : k = 4 \/ k = 5) (h : shapeTy 4 t = true) : t.kind = k -> 2 <= t.kids.length := by
 intro he
 obtain ⟨_, _, hl, _, _⟩ := shapeTy_kids h
 rw [he] at hl
 rcases hk with rfl | rfl <;> simp [tyKids] at hl <;> omega

theorem l2Shape_ok : ∀ (d : Nat) (e : MTm), d <= 1000 -> nTm e <= 1099511627776 -> ACalls Tryz.prog 155 [aTm e, .i d] [] (.b (shapeTm 14 d e)) [] []
 | 0, e, _, _ => by
  refine ACalls.of_body Tryz.func155 (by kernel_rfl) rfl (by kernel_rfl) (by simp [Tryz.ntmps155]) (by simp) ?_
  rw [Tryz.ntmps155]
  repeat' first | ((first | refine aops_end (hK _ ?_) | refine aopsD_end (hK _ ?_)); clear hK K) | ((first | refine aops_go ?_ | refine aopsD_go ?_); simp; (try (refine gen fun q hq => ?_; cases q <;> (try simp at hq) <;> (try (have hh : True := hq; clear hh hq))))) | (refine T.ret (Done.data (Or.inr rfl) ?_ ?_) <;> simp [Tryz.results155, shapeTm] <;> omega) | refine T.rd (id := 1) mixed (fun _ => false) [] (by kernel_rfl) fun K hK => ?_ | refine T.r0 fun K hK => ?_ | refine T.ct rfl ?_ | refine T.seq ?_
 | d + 1, e, hd, hn => by
  obtain ⟨hnt, hnf, hnk, hnu⟩ := nTm_parts hn
  have hkids := l2Kids_ok e.kind
  have hd1 : ¬ ((d : Int) + 1 < 1) := by omega
  have hsh : shapeTm 14 (d + 1) e = (decide (e.kind ≠ 14) && (decide (kidsM e.kind = e.kids.length) && ownM e) && e.kids.all (shapeTm 14 d)) := rfl
  by_cases hk14 : e.kind = 14
  ·rw [hk14] at hkids
   rw [show shapeTm 14 (d + 1) e = false by rw [hsh]; simp [hk14]]
   refine ACalls.of_body Tryz.func155 (by kernel_rfl) rfl (by kernel_rfl) (by simp [Tryz.ntmps155]) (by simp) ?_
   rw [Tryz.ntmps155]
   repeat' first | ((first | refine aops_end (hK _ ?_) | refine aopsD_end (hK _ ?_)); clear hK K) | ((first | refine aops_go ?_ | refine aopsD_go ?_ | refine wpcall_pure rfl (hkids) ?_); simp [hd1, hk14]; (try (refine gen fun q hq => ?_; cases q <;> (try simp [hd1, hk14] at hq) <;> (try (have hh : True := hq; clear hh hq))))) | (refine T.ret (Done.data (Or.inr rfl) ?_ ?_) <;> simp [Tryz.results155] <;> omega) | refine T.rd (id := 1) mixed (fun _ => false) [] (by kernel_rfl) fun K hK => ?_ | refine T.r0 fun K hK => ?_ | refine T.ct rfl ?_ | refine T.seq ?_
  by_cases hlen : kidsM e.kind = e.kids.length
  rotate_left
  ·rw [show shapeTm 14 (d + 1) e = false by rw [hsh]; simp [hlen]]
   refine ACalls.of_body Tryz.func155 (by kernel_rfl) rfl (by kernel_rfl) (by simp [Tryz.ntmps155]) (by simp) ?_
   rw [Tryz.ntmps155]
   repeat' first | ((first | refine aops_end (hK _ ?_) | refine aopsD_end (hK _ ?_)); clear hK K) | ((first | refine aops_go ?_ | refine aopsD_go ?_ | refine wpcall_pure rfl (hkids) ?_); simp [hd1, hlen]; (try (refine gen fun q hq => ?_; cases q <;> (try simp [hd1, hlen] at hq) <;> (try (have hh : True := hq; clear hh hq))))) | (refine T.ret (Done.data (Or.inr rfl) ?_ ?_) <;> simp [Tryz.results155] <;> omega) | refine T.rd (id := 1) mixed (fun _ => false) [] (by kernel_rfl) fun K hK => ?_ | refine T.r0 fun K hK => ?_ | refine T.ct rfl ?_ | refine T.seq ?_
  rw [hlen] at hkids
  have hsh2 : shapeTm 14 (d + 1) e = (ownM e && e.kids.all (shapeTm 14 d)) := by rw [hsh]; simp [hk14, hlen]
  have hown := l2Own_ok e hk14 hnt
  obtain ⟨R, hR⟩ : ∃ R, e.kids.all (shapeTm 14 d) = R := ⟨_, rfl⟩
  rw [hsh2, hR]
  generalize ownM e = O at hown
  clear hsh hsh2
  cases O
  ·refine ACalls.of_body Tryz.func155 (by kernel_rfl) rfl (by kernel_rfl) (by simp [Tryz.ntmps155]) (by simp) ?_
   rw [Tryz.ntmps155]
   repeat' first | ((first | refine aops_end (hK _ ?_) | refine aopsD_end (hK _ ?_)); clear hK K) | ((first | refine aops_go ?_ | refine aopsD_go ?_ | refine wpcall_pure rfl (hkids) ?_ | refine wpcall_pure rfl (hown) ?_); simp [hd1, hk14]; (try (refine gen fun q hq => ?_; cases q <;> (try simp [hd1, hk14] at hq) <;> (try (have hh : True := hq; clear hh hq))))) | (refine T.ret (Done.data (Or.inr rfl) ?_ ?_) <;> simp [Tryz.results155] <;> omega) | refine T.rd (id := 1) mixed (fun _ => false) [] (by kernel_rfl) fun K hK => ?_ | refine T.r0 fun K hK => ?_ | refine T.ct rfl ?_ | refine T.seq ?_
  refine ACalls.of_body Tryz.func155 (by kernel_rfl) rfl (by kernel_rfl) (by simp [Tryz.ntmps155]) (by simp) ?_
  rw [Tryz.ntmps155]
  repeat' first | ((first | refine aops_end (hK _ ?_) | refine aopsD_end (hK _ ?_)); clear hK K) | ((first | refine aops_go ?_ | refine aopsD_go ?_ | refine wpcall_pure rfl (hkids) ?_ | refine wpcall_pure rfl (hown) ?_); simp [hd1, hk14]; (try (refine gen fun q hq => ?_; cases q <;> (try simp [hd1, hk14] at hq) <;> (try (have hh : True := hq; clear hh hq))))) | refine T.rd (id := 1) mixed (fun _ => false) [] (by kernel_rfl) fun K hK => ?_ | refine T.r0 fun K hK => ?_ | refine T.cf rfl ?_ | refine T.seq ?_ | refine T.block ?_ | refine T.skip ?_
  rw [Bool.true_and]
  refine T.loopF (fun p : Nat => ⟨[(1, .i (d + 1)), (2, .c (.ptr 0 0)), (5, .i p)], [(aTm e).cells], []⟩) (fun p => e.kids.length + 1 - p) (fun p => p <= e.kids.length /\ (e.kids.drop p).all (shapeTm 14 d) = R) (fun p hp => ?_) 0 (by simpa using hR) (by simp)
  obtain ⟨hi, he⟩ := hp
  by_cases hlt : p < e.kids.length
  ·obtain ⟨u, ht⟩ := get_lt hlt
   have htm : u ∈ e.kids := List.mem_of_getElem? ht
   have hgt : e.kids[p] = u := by rw [List.getElem?_eq_getElem hlt] at ht; exact Option.some.inj ht
   have hdr : e.kids.drop p = u :: e.kids.drop (p + 1) := by rw [List.drop_eq_getElem_cons hlt, hgt]
   have hu := l2Shape_ok d u (by omega) (hnu u htm)
   rw [hdr, List.all_cons] at he
   cases hb : shapeTm 14 d u <;> rw [hb] at hu he
   ·repeat' first | (refine aops_end (hK _ ?_); clear hK K) | ((first | refine aops_go ?_ | refine wpcall_pure rfl (hu) ?_); simp [hlt, hgt]; (try simp (disch := omega) only [wrap64]); (try (refine gen fun q hq => ?_; cases q <;> (try simp [hlt, hgt] at hq) <;> (try (have hh : True := hq; clear hh hq))))) | (refine T.ret (Done.data (Or.inr rfl) ?_ ?_) <;> simp [Tryz.results155, <- he] <;> omega) | refine T.r0 fun K hK => ?_ | refine T.ct rfl ?_ | refine T.seq ?_ | refine T.block ?_ | refine T.skip ?_
   ·repeat' first | (refine aops_end (hK _ ?_); clear hK K) | ((first | refine aops_go ?_ | refine wpcall_pure rfl (hu) ?_); simp [hlt, hgt]; (try simp (disch := omega) only [wrap64]); (try (refine gen fun q hq => ?_; cases q <;> (try simp [hlt, hgt] at hq) <;> (try (have hh : True := hq; clear hh hq))))) | (refine ⟨p + 1, by dsimp only; omega, ⟨by omega, by simpa using he⟩, rfl, rfl, ?_⟩; simp (disch := omega) [wrap64]) | refine T.r0 fun K hK => ?_ | refine T.r1 fun K hK => ?_ | refine T.ct rfl ?_ | refine T.cf rfl ?_ | refine T.seq ?_ | refine T.block ?_ | refine T.skip ?_
  ·have hp' : p = e.kids.length := by omega
   subst hp'
   simp at he
   repeat' first | (refine aops_end (hK _ ?_); clear hK K) | (refine aops_go ?_; simp [hlt]; (try (refine gen fun q hq => ?_; cases q <;> (try simp [hlt] at hq) <;> (try (have hh : True := hq; clear hh hq))))) | (refine T.ret (Done.data (Or.inr rfl) ?_ ?_) <;> simp [Tryz.results155, he] <;> omega) | refine T.r0 fun K hK => ?_ | refine T.cf rfl ?_ | refine T.seq ?_ | refine T.exit ?_

theorem TermValidS_ok (e : MTm) (hn : nTm e <= 1099511627776) : ACalls Tryz.prog 81 [aTm e] [] (.b (termValidM e)) [] [] := by
 have h1 := l2Shape_ok 12 e (by omega) hn
 have h2 := l2Count_ok 12 e (by omega) hn
 rw [show termValidM e = (shapeTm 14 12 e && decide (countTm 12 e <= 30)) from rfl]
 generalize shapeTm 14 12 e = a at *
 generalize countTm 12 e = b at *
 refine ACalls.of_body Tryz.func81 (by kernel_rfl) rfl (by kernel_rfl) (by simp [Tryz.ntmps81]) (by simp) ?_
 rw [Tryz.ntmps81]
 repeat' first | (refine aops_end (hK _ ?_); clear hK K) | ((first | refine aops_go ?_ | refine wpcall_pure rfl (h1) ?_ | refine wpcall_pure rfl (h2) ?_); simp; (try (refine gen fun q hq => ?_; cases q <;> (try simp at hq) <;> (try (have hh : True := hq; clear hh hq))))) | (refine T.ret (Done.data (Or.inr rfl) ?_ ?_) <;> simp [Tryz.results81, *] <;> omega) | refine T.r0 fun K hK => ?_

def L3R (e : MTm) (ts : List MTy) (r : Option MTy) : Prop := ∃ t', (∀ t, r = some t -> t' = t) /\ ACalls Tryz.prog 288 [aTm e, .l (ts.map eTy)] [] (.tup [aTy t', .b r.isSome]) [] []

theorem l3R6 (e : MTm) (a b : MTy) (hk : e.kind = 6) (ha : shapeTy 4 a = true) (hb : shapeTy 4 b = true) :
  L3R e [a, b] (match matchM 4 a with | some (x, y) => if consTy b x = true then some y else none | none => none) := by
 have hm := l3Match_ok 4 a (by have := shape4 ha; omega) (shape_two (.inl rfl) ha)
 cases hr : matchM 4 a with
 | none =>
  rw [hr] at hm
  refine ⟨zeroT, by simp, ?_⟩
  refine ACalls.of_body Tryz.func288 (by kernel_rfl) rfl (by kernel_rfl) (by simp [Tryz.ntmps288]) (by simp) ?_
  rw [Tryz.ntmps288]
  repeat' first | ((first | refine aops_end (hK _ ?_) | refine aopsD_end (hK _ ?_)); clear hK K) | ((first | refine aops_go ?_ | refine aopsD_go ?_ | refine wpcall_pure rfl (hm) ?_); simp [hk]; (try (refine gen fun q hq => ?_; cases q <;> (try simp [hk] at hq) <;> (try (have hh : True := hq; clear hh hq))))) | (refine T.ret (Done.tup (Or.inr rfl) ?_) <;> simp [resAs, Tryz.results288] <;> omega) | refine T.rd (id := 4) mixed (fun _ => false) [9] (by kernel_rfl) fun K hK => ?_ | refine T.r0 fun K hK => ?_ | refine T.ct rfl ?_ | refine T.seq ?_ | refine T.block ?_
 | some p =>
  obtain ⟨x, y⟩ := p
  rw [hr] at hm
  obtain ⟨hx, hy⟩ := match_shape hr ha
  have hc := l1Consistent_ok 4 b x (by omega) hb hx
  refine ⟨y, ?_, ?_⟩
  ·intro t h; dsimp only at h; split at h <;> simp at h; exact h
  dsimp only at hm ⊢
  rw [show (if consTy b x = true then some y else none).isSome = consTy b x by cases consTy b x <;> rfl]
  generalize consTy b x = c at hc
  refine ACalls.of_body Tryz.func288 (by kernel_rfl) rfl (by kernel_rfl) (by simp [Tryz.ntmps288]) (by simp) ?_
  rw [Tryz.ntmps288]
  repeat' first | ((first | refine aops_end (hK _ ?_) | refine aopsD_end (hK _ ?_)); clear hK K) | ((first | refine aops_go ?_ | refine aopsD_go ?_ | refine wpcall_pure rfl (hm) ?_ | refine wpcall_pure rfl (hc) ?_); simp [hk]; (try (refine gen fun q hq => ?_; cases q <;> (try simp [hk] at hq) <;> (try (have hh : True := hq; clear hh hq))))) | (refine T.ret (Done.tup (Or.inr rfl) ?_) <;> simp [resAs, Tryz.results288, *] <;> omega) | refine T.rd (id := 4) mixed (fun _ => false) [9] (by kernel_rfl) fun K hK => ?_ | refine T.r0 fun K hK => ?_ | refine T.ct rfl ?_ | refine T.seq ?_ | refine T.block ?_

theorem l3R7 (e : MTm) (a b : MTy) (hk : e.kind = 7) (ha : shapeTy 4 a = true) (hb : shapeTy 4 b = true) :
  L3R e [a, b] (if consTy a intT = true /\ consTy b intT = true then some intT else none) := by
 have hi : shapeTy 4 intT = true := by simp [shapeTy, tyKids]
 have h1 := l1Consistent_ok 4 a intT (by omega) ha hi
 have h2 := l1Consistent_ok 4 b intT (by omega) hb hi
 have h3 := l3Int_ok
 have h4 := l3Bool_ok
 refine ⟨intT, ?_, ?_⟩
 ·intro t h; split at h <;> simp at h; exact h
 rw [show (if consTy a intT = true /\ consTy b intT = true then some intT else none).isSome = (consTy a intT && consTy b intT) by cases consTy a intT <;> cases consTy b intT <;> rfl]
 generalize consTy a intT = c1 at h1 ⊢
 generalize consTy b intT = c2 at h2 ⊢
 refine ACalls.of_body Tryz.func288 (by kernel_rfl) rfl (by kernel_rfl) (by simp [Tryz.ntmps288]) (by simp) ?_
 rw [Tryz.ntmps288]
 repeat' first | ((first | refine aops_end (hK _ ?_) | refine aopsD_end (hK _ ?_)); clear hK K) | ((first | refine aops_go ?_ | refine aopsD_go ?_ | refine wpcall_pure rfl (h3) ?_ | (refine wpcall_pure ?_ (h1) ?_; (focus (solve | simp [hk]))) | (refine wpcall_pure ?_ (h2) ?_; (focus (solve | simp [hk])))); simp [hk]; (try (refine gen fun q hq => ?_; cases q <;> (try simp [hk] at hq) <;> (try (have hh : True := hq; clear hh hq))))) | (refine T.ret (Done.tup (Or.inr rfl) ?_) <;> simp [resAs, Tryz.results288, *] <;> omega) | refine T.rd (id := 6) mixed (fun _ => false) [13] (by kernel_rfl) fun K hK => ?_ | refine T.r0 fun K hK => ?_ | refine T.ct rfl ?_ | refine T.cf rfl ?_ | refine T.seq ?_ | refine T.block ?_

theorem l3R8 (e : MTm) (a b : MTy) (hk : e.kind = 8) (ha : shapeTy 4 a = true) (hb : shapeTy 4 b = true) :
  L3R e [a, b] (if consTy a intT = true /\ consTy b intT = true then some boolT else none) := by
 have hi : shapeTy 4 intT = true := by simp [shapeTy, tyKids]
 have h1 := l1Consistent_ok 4 a intT (by omega) ha hi
 have h2 := l1Consistent_ok 4 b intT (by omega) hb hi
 have h3 := l3Int_ok
 have h4 := l3Bool_ok
 refine ⟨boolT, ?_, ?_⟩
 ·intro t h; split at h <;> simp at h; exact h
 rw [show (if consTy a intT = true /\ consTy b intT = true then some boolT else none).isSome = (consTy a intT && consTy b intT) by cases consTy a intT <;> cases consTy b intT <;> rfl]
 generalize consTy a intT = c1 at h1 ⊢
 generalize consTy b intT = c2 at h2 ⊢
 refine ACalls.of_body Tryz.func288 (by kernel_rfl) rfl (by kernel_rfl) (by simp [Tryz.ntmps288]) (by simp) ?_
 rw [Tryz.ntmps288]
 repeat' first | ((first | refine aops_end (hK _ ?_) | refine aopsD_end (hK _ ?_)); clear hK K) | ((first | refine aops_go ?_ | refine aopsD_go ?_ | refine wpcall_pure rfl (h3) ?_ | refine wpcall_pure rfl (h4) ?_ | (refine wpcall_pure ?_ (h1) ?_; (focus (solve | simp [hk]))) | (refine wpcall_pure ?_ (h2) ?_; (focus (solve | simp [hk])))); simp [hk]; (try (refine gen fun q hq => ?_; cases q <;> (try simp [hk] at hq) <;> (try (have hh : True := hq; clear hh hq))))) | (refine T.ret (Done.tup (Or.inr rfl) ?_) <;> simp [resAs, Tryz.results288, *] <;> omega) | refine T.rd (id := 8) mixed (fun _ => false) [13] (by kernel_rfl) fun K hK => ?_ | refine T.r0 fun K hK => ?_ | refine T.ct rfl ?_ | refine T.cf rfl ?_ | refine T.seq ?_ | refine T.block ?_

theorem l3R9 (e : MTm) (a b c : MTy) (hk : e.kind = 9) (ha : shapeTy 4 a = true) (hb : shapeTy 4 b = true) (hc : shapeTy 4 c = true) :
  L3R e [a, b, c] (if consTy b c = true /\ consTy a boolT = true then some (meetTy b c) else none) := by
 have hi : shapeTy 4 boolT = true := by simp [shapeTy, tyKids]
 have h1 := l1Consistent_ok 4 b c (by omega) hb hc
 have h2 := l1Consistent_ok 4 a boolT (by omega) ha hi
 have h4 := l3Bool_ok
 by_cases hbc : consTy b c = true
 rotate_left
 ·have hbc' : consTy b c = false := by simpa using hbc
  rw [hbc'] at h1
  refine ⟨zeroT, by simp [hbc'], ?_⟩
  rw [if_neg (by simp [hbc'])]
  refine ACalls.of_body Tryz.func288 (by kernel_rfl) rfl (by kernel_rfl) (by simp [Tryz.ntmps288]) (by simp) ?_
  rw [Tryz.ntmps288]
  repeat' first | ((first | refine aops_end (hK _ ?_) | refine aopsD_end (hK _ ?_)); clear hK K) | ((first | refine aops_go ?_ | refine aopsD_go ?_ | refine wpcall_pure rfl (h1) ?_); simp [hk]; (try (refine gen fun q hq => ?_; cases q <;> (try simp [hk] at hq) <;> (try (have hh : True := hq; clear hh hq))))) | (refine T.ret (Done.tup (Or.inr rfl) ?_) <;> simp [resAs, Tryz.results288] <;> omega) | refine T.rd (id := 10) mixed (fun _ => false) [] (by kernel_rfl) fun K hK => ?_ | refine T.r0 fun K hK => ?_ | refine T.ct rfl ?_ | refine T.cf rfl ?_ | refine T.seq ?_ | refine T.block ?_
 have h5 := l1Meet_ok b c (by have := shape4 hb; omega) (by have := shape4 hc; omega) hbc
 rw [hbc] at h1
 refine ⟨meetTy b c, ?_, ?_⟩
 ·intro t h; split at h <;> simp at h; exact h
 rw [show (if consTy b c = true /\ consTy a boolT = true then some (meetTy b c) else none).isSome = consTy a boolT by rw [hbc]; cases consTy a boolT <;> rfl]
 generalize consTy a boolT = c2 at h2 ⊢
 generalize meetTy b c = mt at h5 ⊢
 refine ACalls.of_body Tryz.func288 (by kernel_rfl) rfl (by kernel_rfl) (by simp [Tryz.ntmps288]) (by simp) ?_
 rw [Tryz.ntmps288]
 repeat' first | ((first | refine aops_end (hK _ ?_) | refine aopsD_end (hK _ ?_)); clear hK K) | ((first | refine aops_go ?_ | refine aopsD_go ?_ | refine wpcall_pure rfl (h1) ?_ | refine wpcall_pure rfl (h5) ?_ | refine wpcall_pure rfl (h4) ?_ | (refine wpcall_pure ?_ (h2) ?_; (focus (solve | simp [hk])))); simp [hk]; (try (refine gen fun q hq => ?_; cases q <;> (try simp [hk] at hq) <;> (try (have hh : True := hq; clear hh hq))))) | (refine T.ret (Done.tup (Or.inr rfl) ?_) <;> simp [resAs, Tryz.results288, *] <;> omega) | refine T.rd (id := 10) mixed (fun _ => false) [] (by kernel_rfl) fun K hK => ?_ | refine T.rd (id := 12) mixed (fun _ => false) [12] (by kernel_rfl) fun K hK => ?_ | refine T.r0 fun K hK => ?_ | refine T.ct rfl ?_ | refine T.cf rfl ?_ | refine T.seq ?_ | refine T.block ?_ | refine T.skip ?_

theorem l3R10 (e : MTm) (a b : MTy) (hk : e.kind = 10) (ha : shapeTy 4 a = true) (hb : shapeTy 4 b = true) : L3R e [a, b] (twoM 5 a b) := by
 have h1 := l3Two_ok 5 a b (by have := shape4 ha; omega) (by have := shape4 hb; omega)
 refine ⟨.mk 5 [a, b], ?_, ?_⟩
 ·intro t h; simp only [twoM] at h; split at h <;> simp at h; exact h
 rw [show (twoM 5 a b).isSome = shapeTy 4 (.mk 5 [a, b]) by simp only [twoM]; split <;> simp [*]]
 generalize shapeTy 4 (.mk 5 [a, b]) = c at h1 ⊢
 refine ACalls.of_body Tryz.func288 (by kernel_rfl) rfl (by kernel_rfl) (by simp [Tryz.ntmps288]) (by simp) ?_
 rw [Tryz.ntmps288]
 repeat' first | ((first | refine aops_end (hK _ ?_) | refine aopsD_end (hK _ ?_)); clear hK K) | ((first | refine aops_go ?_ | refine aopsD_go ?_ | refine wpcall_pure rfl (h1) ?_); simp [hk]; (try (refine gen fun q hq => ?_; cases q <;> (try simp [hk] at hq) <;> (try (have hh : True := hq; clear hh hq))))) | (refine T.ret (Done.tup (Or.inr rfl) ?_) <;> simp [resAs, Tryz.results288, *] <;> omega) | refine T.rd (id := 14) mixed (fun _ => false) [9] (by kernel_rfl) fun K hK => ?_ | refine T.r0 fun K hK => ?_ | refine T.ct rfl ?_ | refine T.cf rfl ?_ | refine T.seq ?_ | refine T.block ?_

theorem l3R11 (e : MTm) (a : MTy) (hk : e.kind = 11) (ha : shapeTy 4 a = true) : L3R e [a] ((matchM 5 a).map (·.1)) := by
 have hm := l3Match_ok 5 a (by have := shape4 ha; omega) (shape_two (.inr rfl) ha)
 cases hr : matchM 5 a with
 | none =>
  rw [hr] at hm
  refine ⟨zeroT, by simp, ?_⟩
  refine ACalls.of_body Tryz.func288 (by kernel_rfl) rfl (by kernel_rfl) (by simp [Tryz.ntmps288]) (by simp) ?_
  rw [Tryz.ntmps288]
  repeat' first | (refine aops_end (hK _ ?_); clear hK K) | ((first | refine aops_go ?_ | refine wpcall_pure rfl (hm) ?_); simp [hk]; (try (refine gen fun q hq => ?_; cases q <;> (try simp [hk] at hq) <;> (try (have hh : True := hq; clear hh hq))))) | (refine T.ret (Done.tup (Or.inr rfl) ?_) <;> simp [resAs, Tryz.results288] <;> omega) | refine T.r0 fun K hK => ?_ | refine T.ct rfl ?_ | refine T.cf rfl ?_ | refine T.seq ?_ | refine T.block ?_
 | some p =>
  obtain ⟨x, y⟩ := p
  rw [hr] at hm
  refine ⟨(x, y).1, by simp, ?_⟩
  dsimp only at hm ⊢
  refine ACalls.of_body Tryz.func288 (by kernel_rfl) rfl (by kernel_rfl) (by simp [Tryz.ntmps288]) (by simp) ?_
  rw [Tryz.ntmps288]
  repeat' first | (refine aops_end (hK _ ?_); clear hK K) | ((first | refine aops_go ?_ | refine wpcall_pure rfl (hm) ?_); simp [hk]; (try (refine gen fun q hq => ?_; cases q <;> (try simp [hk] at hq) <;> (try (have hh : True := hq; clear hh hq))))) | (refine T.ret (Done.tup (Or.inr rfl) ?_) <;> simp [resAs, Tryz.results288] <;> omega) | refine T.r0 fun K hK => ?_ | refine T.ct rfl ?_ | refine T.cf rfl ?_ | refine T.seq ?_ | refine T.block ?_

theorem l3R12 (e : MTm) (a : MTy) (hk : e.kind = 12) (ha : shapeTy 4 a = true) : L3R e [a] ((matchM 5 a).map (·.2)) := by
 have hm := l3Match_ok 5 a (by have := shape4 ha; omega) (shape_two (.inr rfl) ha)
 cases hr : matchM 5 a with
 | none =>
  rw [hr] at hm
  refine ⟨zeroT, by simp, ?_⟩
  refine ACalls.of_body Tryz.func288 (by kernel_rfl) rfl (by kernel_rfl) (by simp [Tryz.ntmps288]) (by simp) ?_
  rw [Tryz.ntmps288]
  repeat' first | (refine aops_end (hK _ ?_); clear hK K) | ((first | refine aops_go ?_ | refine wpcall_pure rfl (hm) ?_); simp [hk]; (try (refine gen fun q hq => ?_; cases q <;> (try simp [hk] at hq) <;> (try (have hh : True := hq; clear hh hq))))) | (refine T.ret (Done.tup (Or.inr rfl) ?_) <;> simp [resAs, Tryz.results288] <;> omega) | refine T.r0 fun K hK => ?_ | refine T.ct rfl ?_ | refine T.cf rfl ?_ | refine T.seq ?_ | refine T.block ?_
 | some p =>
  obtain ⟨x, y⟩ := p
  rw [hr] at hm
  refine ⟨(x, y).2, by simp, ?_⟩
  dsimp only at hm ⊢
  refine ACalls.of_body Tryz.func288 (by kernel_rfl) rfl (by kernel_rfl) (by simp [Tryz.ntmps288]) (by simp) ?_
  rw [Tryz.ntmps288]
  repeat' first | (refine aops_end (hK _ ?_); clear hK K) | ((first | refine aops_go ?_ | refine wpcall_pure rfl (hm) ?_); simp [hk]; (try (refine gen fun q hq => ?_; cases q <;> (try simp [hk] at hq) <;> (try (have hh : True := hq; clear hh hq))))) | (refine T.ret (Done.tup (Or.inr rfl) ?_) <;> simp [resAs, Tryz.results288] <;> omega) | refine T.r0 fun K hK => ?_ | refine T.ct rfl ?_ | refine T.cf rfl ?_ | refine T.seq ?_ | refine T.block ?_

theorem l3R13 (e : MTm) (a : MTy) (hk : e.kind = 13) (ha : shapeTy 4 a = true) (he : shapeTy 4 e.ty = true) : L3R e [a] (if consTy a e.ty = true then some e.ty else none) := by
 have h1 := l1Copy_ok e.ty (by have := shape4 he; omega)
 have h2 := l1Consistent_ok 4 a e.ty (by omega) ha he
 refine ⟨e.ty, ?_, ?_⟩
 ·intro t h; split at h <;> simp at h; exact h
 rw [show (if consTy a e.ty = true then some e.ty else none).isSome = consTy a e.ty by cases consTy a e.ty <;> rfl]
 generalize consTy a e.ty = c at h2 ⊢
 refine ACalls.of_body Tryz.func288 (by kernel_rfl) rfl (by kernel_rfl) (by simp [Tryz.ntmps288]) (by simp) ?_
 rw [Tryz.ntmps288]
 repeat' first | ((first | refine aops_end (hK _ ?_) | refine aopsD_end (hK _ ?_)); clear hK K) | ((first | refine aops_go ?_ | refine aopsD_go ?_ | refine wpcall_pure rfl (h1) ?_ | refine wpcall_pure rfl (h2) ?_); simp [hk]; (try (refine gen fun q hq => ?_; cases q <;> (try simp [hk] at hq) <;> (try (have hh : True := hq; clear hh hq))))) | (refine T.ret (Done.tup (Or.inr rfl) ?_) <;> simp [resAs, Tryz.results288, *] <;> omega) | refine T.rd (id := 22) mixed (fun _ => false) [9] (by kernel_rfl) fun K hK => ?_ | refine T.r0 fun K hK => ?_ | refine T.ct rfl ?_ | refine T.cf rfl ?_ | refine T.seq ?_ | refine T.block ?_

theorem l3Result_ok (ctx : List MBd) (e : MTm) (ts : List MTy) (hk : 5 < e.kind /\ e.kind < 14) (hlen : (ts.length : Int) = kidsM e.kind) (hts : ∀ u ∈ ts, shapeTy 4 u = true) (he : typedM e.kind = true -> shapeTy 4 e.ty = true) :
  L3R e ts (nodeTy ctx e.kind e.name e.ty ts) := by
 have hcases : e.kind = 6 \/ e.kind = 7 \/ e.kind = 8 \/ e.kind = 9 \/ e.kind = 10 \/ e.kind = 11 \/ e.kind = 12 \/ e.kind = 13 := by omega
 rcases hcases with h | h | h | h | h | h | h | h
 ·rw [h] at hlen
  match ts, hlen with
  | [a, b], _ =>
   have e1 : nodeTy ctx e.kind e.name e.ty [a, b] = (match matchM 4 a with | some (x, y) => if consTy b x = true then some y else none | none => none) := by rw [h]; rfl
   rw [e1]
   exact l3R6 e a b h (hts a (by simp)) (hts b (by simp))
 ·rw [h] at hlen
  match ts, hlen with
  | [a, b], _ => have := l3R7 e a b h (hts a (by simp)) (hts b (by simp)); simpa [nodeTy, h] using this
 ·rw [h] at hlen
  match ts, hlen with
  | [a, b], _ => have := l3R8 e a b h (hts a (by simp)) (hts b (by simp)); simpa [nodeTy, h] using this
 ·rw [h] at hlen
  match ts, hlen with
  | [a, b, c], _ => have := l3R9 e a b c h (hts a (by simp)) (hts b (by simp)) (hts c (by simp)); simpa [nodeTy, h] using this
 ·rw [h] at hlen
  match ts, hlen with
  | [a, b], _ => have := l3R10 e a b h (hts a (by simp)) (hts b (by simp)); simpa [nodeTy, h] using this
 ·rw [h] at hlen
  match ts, hlen with
  | [a], _ => have := l3R11 e a h (hts a (by simp)); simpa [nodeTy, h] using this
 ·rw [h] at hlen
  match ts, hlen with
  | [a], _ => have := l3R12 e a h (hts a (by simp)); simpa [nodeTy, h] using this
 ·rw [h] at hlen
  match ts, hlen with
  | [a], _ => have := l3R13 e a h (hts a (by simp)) (he (by simp [typedM, h])); simpa [nodeTy, h] using this
end Go.Proofs.YtflmjilnecanhaaGreatDoor

namespace Go.Proofs.YtflmjilnecanhaaGreatDoor
attribute [-simp] Go.Av.keepL Go.Av.ups Go.Av.take_app_len Go.Av.innVs Go.Av.putBack Go.Av.objCells Go.Av.back Go.Av.resVs Go.Av.one Go.Av.freeStepG Go.Av.exA Go.Av.innAsH Go.Av.AV.innH Go.Av.CV.innH Go.Av.innHs Go.Av.AV.outnH Go.Av.CV.outnH
open Go Go.Av
attribute [local irreducible] T ACalls eTy eTm MTy.kind MTy.kids MTm.kind MTm.name MTm.num MTm.ty MTm.fr MTm.label MTm.kids
attribute [local simp] eTy_def eTm_def
set_option maxHeartbeats 4000000

def L3T (ctx : List MBd) (e : MTm) : Prop := ∃ t', (∀ t, typeM ctx e = some t -> t' = t) /\ ACalls Tryz.prog 265 [.l (ctx.map eBd), aTm e] [] (.tup [aTy t', .b (typeM ctx e).isSome]) [] []

theorem l3Type_leaf (ctx : List MBd) (e : MTm) (hl : ctx.length <= 1099511627776) (hc : okCtx ctx) (hlen : kidsM e.kind = e.kids.length) (hk : e.kind = 1 \/ e.kind = 2 \/ e.kind = 3 \/ e.kind = 4) : L3T ctx e := by
 have hnil : e.kids = [] := by
  have : e.kids.length = 0 := by
   rcases hk with h | h | h | h <;> rw [h] at hlen <;> simp [kidsM] at hlen <;> omega
  exact List.eq_nil_of_length_eq_zero this
 have ht : typeM ctx e = nodeTy ctx e.kind e.name e.ty [] := by rw [typeM_def, hnil]; simp [typeMS]
 simp only [L3T, ht]
 have h3 := l3Int_ok
 have h4 := l3Bool_ok
 rcases hk with h | h | h | h
 ·have hlk := l3Look_ok ctx e.name hl (fun b hb => by have := shape4 (hc b hb); omega)
  rw [show nodeTy ctx e.kind e.name e.ty [] = lookM ctx e.name by simp [nodeTy, h]]
  cases hr : lookM ctx e.name with
  | none =>
   rw [hr] at hlk
   refine ⟨zeroT, by simp, ?_⟩
   dsimp only at hlk ⊢
   refine ACalls.of_body Tryz.func265 (by kernel_rfl) rfl (by kernel_rfl) (by simp [Tryz.ntmps265]) (by simp) ?_
   rw [Tryz.ntmps265]
   repeat' first | (refine aops_end (hK _ ?_); clear hK K) | ((first | refine aops_go ?_ | refine wpcall_pure rfl (hlk) ?_); simp [h]; (try (refine gen fun q hq => ?_; cases q <;> (try simp [h] at hq) <;> (try (have hh : True := hq; clear hh hq))))) | (refine T.ret (Done.tup (Or.inr rfl) ?_) <;> simp [resAs, Tryz.results265] <;> omega) | refine T.r0 fun K hK => ?_ | refine T.ct rfl ?_ | refine T.seq ?_ | refine T.block ?_
  | some t =>
   rw [hr] at hlk
   refine ⟨t, by simp, ?_⟩
   dsimp only at hlk ⊢
   refine ACalls.of_body Tryz.func265 (by kernel_rfl) rfl (by kernel_rfl) (by simp [Tryz.ntmps265]) (by simp) ?_
   rw [Tryz.ntmps265]
   repeat' first | (refine aops_end (hK _ ?_); clear hK K) | ((first | refine aops_go ?_ | refine wpcall_pure rfl (hlk) ?_); simp [h]; (try (refine gen fun q hq => ?_; cases q <;> (try simp [h] at hq) <;> (try (have hh : True := hq; clear hh hq))))) | (refine T.ret (Done.tup (Or.inr rfl) ?_) <;> simp [resAs, Tryz.results265] <;> omega) | refine T.r0 fun K hK => ?_ | refine T.ct rfl ?_ | refine T.seq ?_ | refine T.block ?_
 ·refine ⟨intT, by simp [nodeTy, h], ?_⟩
  rw [show (nodeTy ctx e.kind e.name e.ty []).isSome = true by simp [nodeTy, h]]
  refine ACalls.of_body Tryz.func265 (by kernel_rfl) rfl (by kernel_rfl) (by simp [Tryz.ntmps265]) (by simp) ?_
  rw [Tryz.ntmps265]
  repeat' first | (refine aops_end (hK _ ?_); clear hK K) | ((first | refine aops_go ?_ | refine wpcall_pure rfl (h3) ?_); simp [h]; (try (refine gen fun q hq => ?_; cases q <;> (try simp [h] at hq) <;> (try (have hh : True := hq; clear hh hq))))) | (refine T.ret (Done.tup (Or.inr rfl) ?_) <;> simp [resAs, Tryz.results265] <;> omega) | refine T.r0 fun K hK => ?_ | refine T.ct rfl ?_ | refine T.cf rfl ?_ | refine T.seq ?_ | refine T.block ?_
 ·refine ⟨boolT, by simp [nodeTy, h], ?_⟩
  rw [show (nodeTy ctx e.kind e.name e.ty []).isSome = true by simp [nodeTy, h]]
  refine ACalls.of_body Tryz.func265 (by kernel_rfl) rfl (by kernel_rfl) (by simp [Tryz.ntmps265]) (by simp) ?_
  rw [Tryz.ntmps265]
  repeat' first | (refine aops_end (hK _ ?_); clear hK K) | ((first | refine aops_go ?_ | refine wpcall_pure rfl (h4) ?_); simp [h]; (try (refine gen fun q hq => ?_; cases q <;> (try simp [h] at hq) <;> (try (have hh : True := hq; clear hh hq))))) | (refine T.ret (Done.tup (Or.inr rfl) ?_) <;> simp [resAs, Tryz.results265] <;> omega) | refine T.r0 fun K hK => ?_ | refine T.ct rfl ?_ | refine T.cf rfl ?_ | refine T.seq ?_ | refine T.block ?_ | refine T.skip ?_
 ·refine ⟨boolT, by simp [nodeTy, h], ?_⟩
  rw [show (nodeTy ctx e.kind e.name e.ty []).isSome = true by simp [nodeTy, h]]
  refine ACalls.of_body Tryz.func265 (by kernel_rfl) rfl (by kernel_rfl) (by simp [Tryz.ntmps265]) (by simp) ?_
  rw [Tryz.ntmps265]
  repeat' first | (refine aops_end (hK _ ?_); clear hK K) | ((first | refine aops_go ?_ | refine wpcall_pure rfl (h4) ?_); simp [h]; (try (refine gen fun q hq => ?_; cases q <;> (try simp [h] at hq) <;> (try (have hh : True := hq; clear hh hq))))) | (refine T.ret (Done.tup (Or.inr rfl) ?_) <;> simp [resAs, Tryz.results265] <;> omega) | refine T.r0 fun K hK => ?_ | refine T.r1 fun K hK => ?_ | refine T.ct rfl ?_ | refine T.cf rfl ?_ | refine T.seq ?_ | refine T.block ?_

theorem l3Type_lam (ctx : List MBd) (e b : MTm) (hl : ctx.length <= 1099511627776) (hk : e.kind = 5) (hb : e.kids = [b]) (hty : shapeTy 4 e.ty = true)
  (hs : ∀ t, typeM (ctx ++ [MBd.mk e.name e.ty]) b = some t -> shapeTy 4 t = true) (ih : L3T (ctx ++ [MBd.mk e.name e.ty]) b) : L3T ctx e := by
 have ht : typeM ctx e = match typeM (ctx ++ [MBd.mk e.name e.ty]) b with | some t => twoM 4 e.ty t | none => none := by
  rw [typeM_def, hb]
  simp only [insideM, hk, typeMS, if_true]
  cases typeM (ctx ++ [MBd.mk e.name e.ty]) b with
  | none => rfl
  | some t => simp [nodeTy]
 obtain ⟨t', h1, h2⟩ := ih
 have hm := l3More_ok ctx e.name e.ty hl
 generalize ctx ++ [MBd.mk e.name e.ty] = ctx' at *
 simp only [L3T, ht]
 cases hr : typeM ctx' b with
 | none =>
  rw [hr] at h2
  refine ⟨zeroT, by simp, ?_⟩
  dsimp only [Option.isSome] at h2 ⊢
  refine ACalls.of_body Tryz.func265 (by kernel_rfl) rfl (by kernel_rfl) (by simp [Tryz.ntmps265]) (by simp) ?_
  rw [Tryz.ntmps265]
  repeat' first | ((first | refine aops_end (hK _ ?_) | refine aopsF_end (hK _ ?_)); clear hK K) | ((first | refine aops_go ?_ | refine aopsF_go ?_ | refine wpcall_pure rfl (hm) ?_ | refine wpcall_pure rfl (h2) ?_); simp [hk, hb]; (try (refine gen fun q hq => ?_; cases q <;> (try simp [hk, hb] at hq) <;> (try (have hh : True := hq; clear hh hq))))) | (refine T.ret (Done.tup (Or.inr rfl) ?_) <;> simp [resAs, Tryz.results265] <;> omega) | refine T.rdF (id := 10) mixed (fun _ => false) [14, 15] [2, 4, 5, 7, 8, 9, 10] 15 [] (by kernel_rfl) fun K hK => ?_ | (refine ⟨?_, ?_⟩; (focus (intros; refine wpcall_pure rfl (hm) ?_; simp; done))) | (refine ⟨?_, ?_⟩; (focus (intros; refine wpcall_pure rfl (h2) ?_; simp; done))) | refine T.r0 fun K hK => ?_ | refine T.r1 fun K hK => ?_ | refine T.ct rfl ?_ | refine T.cf rfl ?_ | refine T.seq ?_ | refine T.block ?_
 | some t =>
  rw [hr] at h2
  obtain rfl := h1 t hr
  have htw := l3Two_ok 4 e.ty t' (by have := shape4 hty; omega) (by have := shape4 (hs t' hr); omega)
  refine ⟨.mk 4 [e.ty, t'], ?_, ?_⟩
  ·intro u h; simp only [twoM] at h; split at h <;> simp at h; exact h
  simp only [Option.isSome_some] at h2
  dsimp only
  rw [show (twoM 4 e.ty t').isSome = shapeTy 4 (.mk 4 [e.ty, t']) by simp only [twoM]; split <;> simp [*]]
  generalize shapeTy 4 (.mk 4 [e.ty, t']) = c at htw
  refine ACalls.of_body Tryz.func265 (by kernel_rfl) rfl (by kernel_rfl) (by simp [Tryz.ntmps265]) (by simp) ?_
  rw [Tryz.ntmps265]
  repeat' first | ((first | refine aops_end (hK _ ?_) | refine aopsF_end (hK _ ?_)); clear hK K) | ((first | refine aops_go ?_ | refine aopsF_go ?_ | refine wpcall_pure rfl (hm) ?_ | refine wpcall_pure rfl (h2) ?_ | refine wpcall_pure rfl (htw) ?_); simp [hk, hb]; (try (refine gen fun q hq => ?_; cases q <;> (try simp [hk, hb] at hq) <;> (try (have hh : True := hq; clear hh hq))))) | (refine T.ret (Done.tup (Or.inr rfl) ?_) <;> simp [resAs, Tryz.results265, eTy_def] <;> omega) | refine T.rdF (id := 10) mixed (fun _ => false) [14, 15] [2, 4, 5, 7, 8, 9, 10] 15 [] (by kernel_rfl) fun K hK => ?_ | (refine ⟨?_, ?_⟩; (focus (intros; refine wpcall_pure rfl (hm) ?_; simp; done))) | (refine ⟨?_, ?_⟩; (focus (intros; refine wpcall_pure rfl (h2) ?_; simp; done))) | refine T.r0 fun K hK => ?_ | refine T.r1 fun K hK => ?_ | refine T.ct rfl ?_ | refine T.cf rfl ?_ | refine T.seq ?_ | refine T.block ?_ | refine T.skip ?_

theorem l3Type_loop (ctx : List MBd) (e : MTm) (R : Option (List MTy)) (t' : MTy) (ok : Bool) (hl : ctx.length <= 1099511627776) (hk : 5 < e.kind /\ e.kind < 14) (hlen : e.kids.length <= 3) (hR : typeMS ctx e.kids = R)
  (hs : ∀ u ∈ e.kids, ∀ t, typeM ctx u = some t -> shapeTy 4 t = true) (ih : ∀ u ∈ e.kids, L3T ctx u) (hnone : R = none -> t' = zeroT /\ ok = false)
  (hsome : ∀ ts, R = some ts -> (∀ u ∈ ts, shapeTy 4 u = true) -> ACalls Tryz.prog 288 [aTm e, .l (ts.map eTy)] [] (.tup [aTy t', .b ok]) [] []) :
  ACalls Tryz.prog 265 [.l (ctx.map eBd), aTm e] [] (.tup [aTy t', .b ok]) [] [] := by
 have hk1 : ¬ e.kind = 1 := by omega
 have hk2 : ¬ e.kind = 2 := by omega
 have hk3 : ¬ e.kind = 3 := by omega
 have hk4 : ¬ e.kind = 4 := by omega
 have hk5 : ¬ e.kind = 5 := by omega
 refine ACalls.of_body Tryz.func265 (by kernel_rfl) rfl (by kernel_rfl) (by simp [Tryz.ntmps265]) (by simp) ?_
 rw [Tryz.ntmps265]
 repeat' first | (refine aops_end (hK _ ?_); clear hK K) | (refine aops_go ?_; simp [hk1, hk2, hk3, hk4, hk5]; (try (refine gen fun q hq => ?_; cases q <;> (try simp [hk1, hk2, hk3, hk4, hk5] at hq) <;> (try (have hh : True := hq; clear hh hq))))) | refine T.rs (id := 14) (fun i => i == 0) fun K hK => ?_ | refine T.rs (id := 0) (fun _ => false) fun K hK => ?_ | refine T.rs (id := 1) (fun _ => false) fun K hK => ?_ | refine T.rs (id := 2) (fun _ => false) fun K hK => ?_ | refine T.rs (id := 4) (fun _ => false) fun K hK => ?_ | refine T.rs (id := 6) (fun _ => false) fun K hK => ?_ | refine T.rs1 (id := 7) (fun _ => false) fun K hK => ?_ | refine T.rs (id := 9) (fun _ => false) fun K hK => ?_ | refine T.rs (id := 15) (fun _ => false) fun K hK => ?_ | refine T.cf rfl ?_ | refine T.seq ?_ | refine T.block ?_ | refine T.skip ?_
 refine T.loopF (fun x : Nat × List MTy × List (List CV) => ⟨[(0, .l (ctx.map eBd)), (3, .c (.ptr 0 0)), (4, .c (.ptr 1 0)), (8, .c (.own 0 x.1)), (9, .i x.1)], (aTm e).cells :: [.d (.i 0), .nil] :: x.2.2, [{ sz := 2, ety := 43, rows := x.2.1.map eTy, wr := true }]⟩) (fun x => e.kids.length + 1 - x.1) (fun x => x.1 <= e.kids.length /\ x.2.1.length = x.1 /\ (∀ u ∈ x.2.1, shapeTy 4 u = true) /\ (typeMS ctx (e.kids.drop x.1)).map (x.2.1 ++ ·) = R) (fun x hx => ?_) (0, [], []) (by simp [hR]) (by simp)
 obtain ⟨p, ts, G⟩ := x
 obtain ⟨hi, hp, hsh, he⟩ := hx
 dsimp only at hi hp hsh he ⊢
 by_cases hlt : p < e.kids.length
 ·obtain ⟨u, ht⟩ := get_lt hlt
  have htm : u ∈ e.kids := List.mem_of_getElem? ht
  have hgt : e.kids[p] = u := by rw [List.getElem?_eq_getElem hlt] at ht; exact Option.some.inj ht
  have hdr : e.kids.drop p = u :: e.kids.drop (p + 1) := by rw [List.drop_eq_getElem_cons hlt, hgt]
  obtain ⟨tu, h1, h2⟩ := ih u htm
  have hsu := hs u htm
  rw [hdr] at he
  simp only [typeMS] at he
  cases hb : typeM ctx u with
  | none =>
   rw [hb] at h2 he
   simp only [Option.isSome_none] at h2
   obtain ⟨rfl, rfl⟩ := hnone (by simpa using he.symm)
   repeat' first | (refine aops_end (hK _ ?_); clear hK K) | ((first | refine aops_go ?_ | refine wpcall_pure rfl (h2) ?_); simp [hlt, hgt, hp]; (try simp (disch := omega) only [wrap64]); (try (refine gen fun q hq => ?_; cases q <;> (try simp [hlt, hgt, hp] at hq) <;> (try (have hh : True := hq; clear hh hq))))) | (refine T.ret (Done.tup (Or.inr rfl) ?_) <;> simp [resAs, Tryz.results265] <;> omega) | refine T.rs (id := 16) (fun _ => false) fun K hK => ?_ | refine T.rs (id := 18) (fun _ => false) fun K hK => ?_ | refine T.rs (id := 19) (fun _ => false) fun K hK => ?_ | refine T.rs (id := 20) (fun _ => false) fun K hK => ?_ | refine T.ct rfl ?_ | refine T.seq ?_ | refine T.block ?_ | refine T.skip ?_
  | some t =>
   obtain rfl := h1 t hb
   rw [hb] at h2 he
   simp only [Option.isSome_some] at h2
   have he' : (typeMS ctx (e.kids.drop (p + 1))).map ((ts ++ [tu]) ++ ·) = R := by
    rw [<- he]
    cases typeMS ctx (e.kids.drop (p + 1)) <;> simp
   have hsh' : ∀ v ∈ ts ++ [tu], shapeTy 4 v = true := fun v hv => by
    rcases List.mem_append.1 hv with h | h
    ·exact hsh v h
    ·simp at h; subst h; exact hsu _ hb
   repeat' first | (refine aops_end (hK _ ?_); clear hK K) | ((first | refine aops_go ?_ | refine wpcall_pure rfl (h2) ?_); simp [hlt, hgt, hp]; (try simp (disch := omega) only [wrap64]); (try (refine gen fun q hq => ?_; cases q <;> (try simp [hlt, hgt, hp] at hq) <;> (try (have hh : True := hq; clear hh hq))))) | (refine ⟨by omega, by omega, ?_⟩) | (refine ⟨(p + 1, ts ++ [tu], _), by dsimp only; omega, ⟨by dsimp only; omega, by simp [hp], hsh', he'⟩, rfl, ?_, ?_⟩ <;> simp (disch := omega) [wrap64, eTy_def]) | refine T.rs (id := 16) (fun _ => false) fun K hK => ?_ | refine T.rs (id := 18) (fun _ => false) fun K hK => ?_ | refine T.rs (id := 19) (fun _ => false) fun K hK => ?_ | refine T.rs1 (id := 21) (fun _ => false) fun K hK => ?_ | refine T.rs1 (id := 17) (fun _ => false) fun K hK => ?_ | refine T.ct rfl ?_ | refine T.cf rfl ?_ | refine T.seq ?_ | refine T.block ?_ | refine T.skip ?_
 ·have hp' : p = e.kids.length := by omega
  subst hp'
  simp [typeMS] at he
  have hres := hsome ts he.symm hsh
  repeat' first | (refine aops_end (hK _ ?_); clear hK K) | ((first | refine aops_go ?_ | (refine wpcall_pure ?_ (hres) ?_; (focus (solve | simp [hlt, hp])))); simp [hlt, hp]; (try (refine gen fun q hq => ?_; cases q <;> (try simp [hlt, hp] at hq) <;> (try (have hh : True := hq; clear hh hq))))) | (refine T.ret (Done.tup (Or.inr rfl) ?_) <;> simp [resAs, Tryz.results265] <;> omega) | refine T.rs (id := 16) (fun _ => false) fun K hK => ?_ | refine T.rs (id := 22) (fun _ => false) fun K hK => ?_ | refine T.cf rfl ?_ | refine T.seq ?_ | refine T.exit ?_

theorem l3Type_node (ctx : List MBd) (e : MTm) (hl : ctx.length <= 1099511627776) (hk : 5 < e.kind /\ e.kind < 14) (hlen : kidsM e.kind = e.kids.length) (hty : typedM e.kind = true -> shapeTy 4 e.ty = true)
  (hs : ∀ u ∈ e.kids, ∀ t, typeM ctx u = some t -> shapeTy 4 t = true) (ih : ∀ u ∈ e.kids, L3T ctx u) : L3T ctx e := by
 have hk5 : ¬ e.kind = 5 := by omega
 have hk9 := kidsM_le e.kind
 have ht : typeM ctx e = (typeMS ctx e.kids).bind (nodeTy ctx e.kind e.name e.ty) := by
  rw [typeM_def, insideM, if_neg hk5]
  cases typeMS ctx e.kids <;> rfl
 simp only [L3T, ht]
 cases hr : typeMS ctx e.kids with
 | none =>
  refine ⟨zeroT, by simp, ?_⟩
  exact l3Type_loop ctx e none zeroT false hl hk (by omega) hr hs ih (fun _ => ⟨rfl, rfl⟩) (fun ts h => by simp at h)
 | some ts =>
  have hlt := typeMS_len hr
  have hsts : ∀ u ∈ ts, shapeTy 4 u = true := by
   have hl : ∀ (l : List MTm) (ts : List MTy), (∀ u ∈ l, u ∈ e.kids) -> typeMS ctx l = some ts -> ∀ u ∈ ts, shapeTy 4 u = true := by
    intro l
    induction l with
    | nil => intro ts _ h; simp [typeMS] at h; subst h; simp
    | cons x r ihl =>
     intro ts hm h
     simp only [typeMS] at h
     split at h
     ·simp at h
     ·rename_i tx htx
      split at h
      ·simp at h
      ·rename_i us hus
       simp at h; subst h
       intro u hu
       simp only [List.mem_cons] at hu
       rcases hu with rfl | hu
       ·exact hs x (hm x (by simp)) _ htx
       ·exact ihl us (fun v hv => hm v (by simp [hv])) hus u hu
   exact hl e.kids ts (fun _ h => h) hr
  obtain ⟨t', h1, h2⟩ := l3Result_ok ctx e ts hk (by rw [hlt]; exact hlen.symm) hsts hty
  refine ⟨t', by simpa using h1, ?_⟩
  rw [show ((some ts).bind (nodeTy ctx e.kind e.name e.ty)) = nodeTy ctx e.kind e.name e.ty ts from rfl]
  exact l3Type_loop ctx e (some ts) t' _ hl hk (by omega) hr hs ih (fun h => by simp at h) (fun us h _ => by simp at h; subst h; exact h2)

theorem kidsM_lt (k : Int) (n : Nat) (h : kidsM k = n) : 0 < k /\ k < 15 := by
 simp only [kidsM] at h
 split at h
 ·omega
 ·split at h
  ·omega
  ·split at h
   ·omega
   ·split at h <;> omega

theorem l3Type_ok : ∀ (e : MTm) (d : Nat) (ctx : List MBd), shapeTm 14 d e = true -> ctx.length + d <= 1099511627776 -> okCtx ctx -> L3T ctx e := by
 intro e
 induction e using MTm.ind with
 | h e ih =>
  intro d ctx hs hl hc
  obtain ⟨d', rfl, hne, hlen, hown, hkids⟩ := shapeTm_kids hs
  have hb := kidsM_lt e.kind _ hlen
  by_cases h5 : e.kind = 5
  ·have hty : shapeTy 4 e.ty = true := own_typed hown (by simp [typedM, h5])
   have hl1 : e.kids.length = 1 := by rw [h5] at hlen; simp [kidsM] at hlen; omega
   match hk : e.kids, hl1 with
   | [b], _ =>
    have hbm : b ∈ e.kids := by simp [hk]
    have hc' : okCtx (ctx ++ [MBd.mk e.name e.ty]) := by
     intro x hx
     rcases List.mem_append.1 hx with h | h
     ·exact hc x h
     ·simp at h; subst h; exact hty
    exact l3Type_lam ctx e b (by omega) h5 hk hty (fun t h => typeM_shape b d' 14 _ t (hkids b hbm) hc' h) (ih b hbm d' _ (hkids b hbm) (by simp; omega) hc')
  ·by_cases hsm : e.kind < 5
   ·exact l3Type_leaf ctx e (by omega) hc hlen (by omega)
   ·exact l3Type_node ctx e (by omega) ⟨by omega, by omega⟩ hlen (own_typed hown) (fun u hu t h => typeM_shape u d' 14 ctx t (hkids u hu) hc h) (fun u hu => ih u hu d' ctx (hkids u hu) (by omega) hc)

def typeInM (ctx : List MBd) (e : MTm) : Option MTy := if ctxM ctx = true /\ termValidM e = true then typeM ctx e else none

abbrev tyRes : Option MTy -> List AV
 | some t => [aTy t, .b true]
 | none => [aTy zeroT, .b false]

theorem TypeInS_ok (ctx : List MBd) (e : MTm) (hl : ctx.length <= 1073741824) (hnc : ∀ b ∈ ctx, nTy b.ty <= 1099511627776) (hn : nTm e <= 1099511627776) : ACalls Tryz.prog 224 [.l (ctx.map eBd), aTm e] [] (.tup (tyRes (typeInM ctx e))) [] [] := by
 have h1 := CtxValidS_ok ctx (by omega) hnc
 have h2 := TermValidS_ok e hn
 cases hc : ctxM ctx with
 | false =>
  rw [show typeInM ctx e = none by simp [typeInM, hc]]
  rw [hc] at h1
  refine ACalls.of_body Tryz.func224 (by kernel_rfl) rfl (by kernel_rfl) (by simp [Tryz.ntmps224]) (by simp) ?_
  rw [Tryz.ntmps224]
  repeat' first | (refine aops_end (hK _ ?_); clear hK K) | ((first | refine aops_go ?_ | refine wpcall_pure rfl (h1) ?_); simp; (try (refine gen fun q hq => ?_; cases q <;> (try simp at hq) <;> (try (have hh : True := hq; clear hh hq))))) | (refine T.ret (Done.tup (Or.inr rfl) ?_) <;> simp [resAs, Tryz.results224] <;> omega) | refine T.r0 fun K hK => ?_ | refine T.ct rfl ?_ | refine T.seq ?_
 | true =>
  rw [hc] at h1
  cases hv : termValidM e with
  | false =>
   rw [show typeInM ctx e = none by simp [typeInM, hv]]
   rw [hv] at h2
   refine ACalls.of_body Tryz.func224 (by kernel_rfl) rfl (by kernel_rfl) (by simp [Tryz.ntmps224]) (by simp) ?_
   rw [Tryz.ntmps224]
   repeat' first | (refine aops_end (hK _ ?_); clear hK K) | ((first | refine aops_go ?_ | refine wpcall_pure rfl (h1) ?_ | refine wpcall_pure rfl (h2) ?_); simp; (try (refine gen fun q hq => ?_; cases q <;> (try simp at hq) <;> (try (have hh : True := hq; clear hh hq))))) | (refine T.ret (Done.tup (Or.inr rfl) ?_) <;> simp [resAs, Tryz.results224] <;> omega) | refine T.r0 fun K hK => ?_ | refine T.ct rfl ?_ | refine T.seq ?_
  | true =>
   rw [hv] at h2
   have hok : okCtx ctx := fun b hb => by
    simp only [ctxM, Bool.and_eq_true, List.all_eq_true] at hc
    exact (hc.1 b hb).2
   have hsh : shapeTm 14 12 e = true := by simp only [termValidM, Bool.and_eq_true] at hv; exact hv.1
   obtain ⟨t', h3, h4⟩ := l3Type_ok e 12 ctx hsh (by omega) hok
   rw [show typeInM ctx e = typeM ctx e by simp [typeInM, hc, hv]]
   cases hr : typeM ctx e with
   | none =>
    rw [hr] at h4
    have h5 := l3Sure_ok t' false
    simp only [Option.isSome_none] at h4
    refine ACalls.of_body Tryz.func224 (by kernel_rfl) rfl (by kernel_rfl) (by simp [Tryz.ntmps224]) (by simp) ?_
    rw [Tryz.ntmps224]
    repeat' first | (refine aops_end (hK _ ?_); clear hK K) | ((first | refine aops_go ?_ | refine wpcall_pure rfl (h1) ?_ | refine wpcall_pure rfl (h2) ?_ | refine wpcall_pure rfl (h4) ?_ | refine wpcall_pure rfl (h5) ?_); simp; (try (refine gen fun q hq => ?_; cases q <;> (try simp at hq) <;> (try (have hh : True := hq; clear hh hq))))) | (refine T.ret (Done.tup (Or.inr rfl) ?_) <;> simp [resAs, Tryz.results224] <;> omega) | refine T.r0 fun K hK => ?_ | refine T.cf rfl ?_ | refine T.seq ?_ | refine T.skip ?_
   | some t =>
    obtain rfl := h3 t hr
    rw [hr] at h4
    have h5 := l3Sure_ok t' true
    simp only [Option.isSome_some] at h4
    refine ACalls.of_body Tryz.func224 (by kernel_rfl) rfl (by kernel_rfl) (by simp [Tryz.ntmps224]) (by simp) ?_
    rw [Tryz.ntmps224]
    repeat' first | (refine aops_end (hK _ ?_); clear hK K) | ((first | refine aops_go ?_ | refine wpcall_pure rfl (h1) ?_ | refine wpcall_pure rfl (h2) ?_ | refine wpcall_pure rfl (h4) ?_ | refine wpcall_pure rfl (h5) ?_); simp; (try (refine gen fun q hq => ?_; cases q <;> (try simp at hq) <;> (try (have hh : True := hq; clear hh hq))))) | (refine T.ret (Done.tup (Or.inr rfl) ?_) <;> simp [resAs, Tryz.results224] <;> omega) | refine T.r0 fun K hK => ?_ | refine T.cf rfl ?_ | refine T.seq ?_ | refine T.skip ?_

theorem TypeOfS_ok (e : MTm) (hn : nTm e <= 1099511627776) : ACalls Tryz.prog 178 [aTm e] [] (.tup (tyRes (typeInM [] e))) [] [] := by
 have h := TypeInS_ok [] e (by simp) (by simp) hn
 cases hr : typeInM [] e with
 | none =>
  rw [hr] at h
  refine ACalls.of_body Tryz.func178 (by kernel_rfl) rfl (by kernel_rfl) (by simp [Tryz.ntmps178]) (by simp) ?_
  rw [Tryz.ntmps178]
  repeat' first | (refine aops_end (hK _ ?_); clear hK K) | ((first | refine aops_go ?_ | (refine wpcall_pure ?_ (h) ?_; (focus (solve | simp)))); simp) | (refine T.ret (Done.tup (Or.inr rfl) ?_) <;> simp [resAs, Tryz.results178] <;> omega) | refine T.r0 fun K hK => ?_
 | some t =>
  rw [hr] at h
  refine ACalls.of_body Tryz.func178 (by kernel_rfl) rfl (by kernel_rfl) (by simp [Tryz.ntmps178]) (by simp) ?_
  rw [Tryz.ntmps178]
  repeat' first | (refine aops_end (hK _ ?_); clear hK K) | ((first | refine aops_go ?_ | (refine wpcall_pure ?_ (h) ?_; (focus (solve | simp)))); simp) | (refine T.ret (Done.tup (Or.inr rfl) ?_) <;> simp [resAs, Tryz.results178] <;> omega) | refine T.r0 fun K hK => ?_
end Go.Proofs.YtflmjilnecanhaaGreatDoor

namespace Go.Proofs.YtflmjilnecanhaaGreatDoor
attribute [-simp] Go.Av.take_app_len Go.Av.innVs Go.Av.putBack Go.Av.objCells Go.Av.back Go.Av.resVs Go.Av.one Go.Av.freeStepG Go.Av.exA Go.Av.innAsH Go.Av.AV.innH Go.Av.CV.innH Go.Av.innHs Go.Av.AV.outnH Go.Av.CV.outnH
open Go Go.Av
attribute [local irreducible] T ACalls TX EX LX Draws Some_ ACallsX eTy eTm MTy.kind MTy.kids MTm.kind MTm.name MTm.num MTm.ty MTm.fr MTm.label MTm.kids
attribute [local simp] eTy_def eTm_def
set_option maxHeartbeats 1000000

@[simp] theorem td_rd : td Tryz.prog 128 = some { ag := true, sz := 2, by_ := 32, zero := some [.nil, .d (.int .i64 0)], el := none, ar := none, fl := [(0, 1), (1, 1)], ik := none, isS := false, isB := false } := keep (by kernel_rfl)
@[simp] theorem td_u8 : td Tryz.prog 5 = some { ag := false, sz := 1, by_ := 1, zero := some [.d (.int .u8 0)], el := none, ar := none, fl := [], ik := some .u8, isS := false, isB := false } := keep (by kernel_rfl)
@[simp] theorem td_u8S : td Tryz.prog 22 = some { ag := false, sz := 1, by_ := 24, zero := some [.nil], el := some 5, ar := none, fl := [], ik := none, isS := false, isB := false } := keep (by kernel_rfl)
@[simp] theorem td_strS : td Tryz.prog 69 = some { ag := false, sz := 1, by_ := 24, zero := some [.nil], el := some 9, ar := none, fl := [], ik := none, isS := false, isB := false } := keep (by kernel_rfl)

theorem pick_at (b : List Int) (hb : okB b) (p : Nat) (hp : p <= 1099511627776) (n : Int) (hn : n <= 1099511627776) :
  ∃ r : Nat, (r = 0 \/ (r : Int) < n) /\ ACalls Tryz.prog 69 [.c (.ptr 0 0), .i n] (dV [rd b p]) (.i r) (dV [rd b (p + 1)]) [] := by
 by_cases hn1 : n < 1
 ·refine ⟨0, .inl rfl, ?_⟩
  refine ACalls.of_body Tryz.func69 (by kernel_rfl) rfl (by kernel_rfl) (by simp [Tryz.ntmps69]) (by simp) ?_
  rw [Tryz.ntmps69]
  repeat' first | (refine aops_end (hK _ ?_); clear hK K) | (refine aops_go ?_; simp [hn1]; (try simp (disch := omega) only [wrap64]); (try (refine gen fun q hq => ?_; cases q <;> (try simp [hn1] at hq) <;> (try (have hh : True := hq; clear hh hq))))) | (refine T.ret (Done.obj1 (Or.inr rfl) ?_ ?_ ?_) <;> simp [Tryz.results69] <;> omega) | refine T.r0 fun K hK => ?_ | refine T.ct rfl ?_ | refine T.seq ?_
 by_cases hb0 : b = []
 ·refine ⟨0, .inl rfl, ?_⟩
  subst hb0
  refine ACalls.of_body Tryz.func69 (by kernel_rfl) rfl (by kernel_rfl) (by simp [Tryz.ntmps69]) (by simp) ?_
  rw [Tryz.ntmps69]
  repeat' first | (refine aops_end (hK _ ?_); clear hK K) | (refine aops_go ?_; simp [hn1, rB]; (try simp (disch := omega) only [wrap64]); (try (refine gen fun q hq => ?_; cases q <;> (try simp [hn1, rB] at hq) <;> (try (have hh : True := hq; clear hh hq))))) | (refine T.ret (Done.obj1 (Or.inr rfl) ?_ ?_ ?_) <;> simp [Tryz.results69, rB] <;> omega) | refine T.r0 fun K hK => ?_ | refine T.ct rfl ?_ | refine T.seq ?_
 have hbl : 0 < b.length := List.length_pos_iff.2 hb0
 have hbl0 : ¬ (b.length : Int) = 0 := by omega
 have hn0 : ¬ n = 0 := by omega
 have hp1 : ((p : Int) + 1 - 1) = p := by omega
 by_cases hpl : p < b.length
 ·have hbp := hb.1 b[p] (List.getElem_mem hpl)
  obtain ⟨h1, h2⟩ := tmod_lt (n := n) hbp.1 (by omega)
  obtain ⟨r, hr⟩ := Int.eq_ofNat_of_zero_le h1
  refine ⟨r, .inr (by omega), ?_⟩
  have hx := rB_at hpl
  refine ACalls.of_body Tryz.func69 (by kernel_rfl) rfl (by kernel_rfl) (by simp [Tryz.ntmps69]) (by simp) ?_
  rw [Tryz.ntmps69]
  repeat' first | (refine aops_end (hK _ ?_); clear hK K) | (refine aops_go ?_; simp [hn1, hb0, hbl0, hn0, hp1, hpl, rB_get, rB_len, hr]; (try simp (disch := omega) only [wrap64]); (try (refine gen fun q hq => ?_; cases q <;> (try simp [hn1, hb0, hbl0, hn0, hp1, hpl, rB_get, rB_len, hr] at hq) <;> (try (have hh : True := hq; clear hh hq))))) | (refine T.ret (Done.obj1 (Or.inr rfl) ?_ ?_ ?_) <;> simp [Tryz.results69] <;> omega) | refine T.r0 fun K hK => ?_ | refine T.ct rfl ?_ | refine T.cf rfl ?_ | refine T.seq ?_ | refine T.skip ?_
 ·have hm1 : p % b.length < b.length := Nat.mod_lt _ hbl
  have hm2 : (p * 7 + 3) % b.length < b.length := Nat.mod_lt _ hbl
  have e1 : (p : Int).tmod b.length = ((p % b.length : Nat) : Int) := by rw [Int.tmod_eq_emod_of_nonneg (by omega)]; simp
  have e2 : ((p : Int) * 7 + 3).tmod b.length = (((p * 7 + 3) % b.length : Nat) : Int) := by rw [Int.tmod_eq_emod_of_nonneg (by omega)]; simp
  have hb1 := hb.1 _ (List.getElem_mem hm1)
  have hb2 := hb.1 _ (List.getElem_mem hm2)
  generalize p % b.length = i1 at *
  generalize (p * 7 + 3) % b.length = i2 at *
  obtain ⟨hd1, hd2⟩ := tdiv_le (a := (p : Int)) (n := b.length) (by omega) (by omega)
  generalize hD : (p : Int).tdiv b.length = D at hd1 hd2
  generalize hC1 : b[i1] = c1 at hb1
  generalize hC2 : b[i2] = c2 at hb2
  obtain ⟨X, hX⟩ : ∃ X, X = c1 * 131 + c2 * 1117 + (p : Int) * 29 + D * 53 := ⟨_, rfl⟩
  have hX0 : 0 <= X /\ X <= 1152921504606846976 := by omega
  obtain ⟨hy1, hy2⟩ := tdiv_le (a := X) (n := 64) (by omega) (by omega)
  obtain ⟨hz1, hz2⟩ := xor_bound (x := X) (y := X.tdiv 64) hX0.1 (by omega) hy1 (by omega)
  generalize hZ : bitI .xor .i64 X (X.tdiv 64) = Z at hz1 hz2
  obtain ⟨h1, h2⟩ := tmod_lt (n := n) hz1 (by omega)
  obtain ⟨r, hr⟩ := Int.eq_ofNat_of_zero_le h1
  refine ⟨r, .inr (by omega), ?_⟩
  refine ACalls.of_body Tryz.func69 (by kernel_rfl) rfl (by kernel_rfl) (by simp [Tryz.ntmps69]) (by simp) ?_
  rw [Tryz.ntmps69]
  repeat' first | ((first | refine aops_end (hK _ ?_) | refine aopsD_end (hK _ ?_)); clear hK K) | ((first | refine aops_go ?_ | refine aopsD_go ?_); simp [hn1, hb0, hbl0, hn0, hp1, hpl, e1, e2, rB_get, rB_len, hm1, hm2, hC1, hC2, hD, <- hX, hZ, hr]; (try simp (disch := omega) only [wrap64]); (try (refine gen fun q hq => ?_; cases q <;> (try simp [hn1, hb0, hbl0, hn0, hp1, hpl, e1, e2, rB_get, rB_len, hm1, hm2, hC1, hC2, hD, <- hX, hZ, hr] at hq) <;> (try (have hh : True := hq; clear hh hq))))) | (refine T.ret (Done.obj1 (Or.inr rfl) ?_ ?_ ?_) <;> simp [Tryz.results69] <;> omega) | refine T.rd (id := 7) mixed (fun _ => false) [] (by kernel_rfl) fun K hK => ?_ | refine T.r0 fun K hK => ?_ | refine T.cf rfl ?_ | refine T.seq ?_ | refine T.skip ?_




abbrev ints (l : List Int) : List (List DV) := l.map fun n => [.i n]
abbrev strs (l : List (List UInt8)) : List (List DV) := l.map fun s => [.str s]

theorem pick_ok (b : List Int) (hb : okB b) (p : Nat) (hp : p <= 1099511627776) (n : Int) (hn : n <= 1099511627776) :
  Draws Tryz.prog 69 [.i n] b p 1 (RV (fun r : Nat => .i r) noA fun r => r = 0 \/ (r : Int) < n) := by
 obtain ⟨r, hr, hc⟩ := pick_at b hb p hp n hn
 exact Draws.mk (p' := p + 1) r hr (by omega) (by omega) hc

theorem num_ok (b : List Int) (hb : okB b) (p : Nat) (hp : p <= 1099511627776) (l : List Int) (hl : l ≠ []) (hll : l.length <= 1000) :
  Draws Tryz.prog 74 [.l (ints l)] b p 1 (RV (fun x : Int => .i x) noA fun x => x ∈ l) := by
 obtain ⟨r, hr, hc⟩ := pick_at b hb p hp l.length (by omega)
 have hlp : 0 < l.length := List.length_pos_iff.2 hl
 have hrl : r < l.length := by rcases hr with h | h <;> omega
 obtain ⟨x, hx⟩ := get_lt hrl
 have hgx : l[r] = x := by rw [List.getElem?_eq_getElem hrl] at hx; exact Option.some.inj hx
 refine Draws.mk (p' := p + 1) x (List.mem_of_getElem? hx) (by omega) (by omega) ?_
 refine ACalls.of_body Tryz.func74 (by kernel_rfl) rfl (by kernel_rfl) (by simp [Tryz.ntmps74]) (by simp) ?_
 rw [Tryz.ntmps74]
 repeat' first | (refine aops_end (hK _ ?_); clear hK K) | (refine aops_go ?_; simp [hrl, hgx]; (try (refine gen fun q hq => ?_; cases q <;> (try simp [hrl, hgx] at hq) <;> (try (have hh : True := hq; clear hh hq))))) | (refine wpcall_upd1 0 (rd b p) (rd b (p + 1)) rfl (by simp) hc ?_; simp [hrl, hgx]) | (refine T.ret (Done.obj1 (Or.inr rfl) ?_ ?_ ?_) <;> simp [Tryz.results74] <;> omega) | refine T.r0 fun K hK => ?_

theorem of_ok (b : List Int) (hb : okB b) (p : Nat) (hp : p <= 1099511627776) (l : List (List UInt8)) (hl : l ≠ []) (hll : l.length <= 1000) :
  Draws Tryz.prog 116 [.l (strs l)] b p 1 (RV (fun x : List UInt8 => .s x) noA fun x => x ∈ l) := by
 obtain ⟨r, hr, hc⟩ := pick_at b hb p hp l.length (by omega)
 have hlp : 0 < l.length := List.length_pos_iff.2 hl
 have hrl : r < l.length := by rcases hr with h | h <;> omega
 obtain ⟨x, hx⟩ := get_lt hrl
 have hgx : l[r] = x := by rw [List.getElem?_eq_getElem hrl] at hx; exact Option.some.inj hx
 refine Draws.mk (p' := p + 1) x (List.mem_of_getElem? hx) (by omega) (by omega) ?_
 refine ACalls.of_body Tryz.func116 (by kernel_rfl) rfl (by kernel_rfl) (by simp [Tryz.ntmps116]) (by simp) ?_
 rw [Tryz.ntmps116]
 repeat' first | (refine aops_end (hK _ ?_); clear hK K) | (refine aops_go ?_; simp [hrl, hgx]; (try (refine gen fun q hq => ?_; cases q <;> (try simp [hrl, hgx] at hq) <;> (try (have hh : True := hq; clear hh hq))))) | (refine wpcall_upd1 0 (rd b p) (rd b (p + 1)) rfl (by simp) hc ?_; simp [hrl, hgx]) | (refine T.ret (Done.obj1 (Or.inr rfl) ?_ ?_ ?_) <;> simp [Tryz.results116] <;> omega) | refine T.r0 fun K hK => ?_

theorem l18Open_ok (b : List Int) (hb : ∀ n ∈ b, 0 <= n /\ n <= 255) : ∃ b' p', okB b' /\ p' = 0 /\ ACalls Tryz.prog 42 [.l (rB b)] [] (.c (.ptr 0 0)) (dV [rd b' p']) [] := by
 by_cases hl : (2000 : Int) < b.length
 ·refine ⟨b.take 2000, 0, ⟨fun n hn => hb n (List.mem_of_mem_take hn), by simp; omega⟩, rfl, ?_⟩
  have hr : ∀ r ∈ rB b, r.length = 1 := by intro r hr; simp [rB] at hr; obtain ⟨a, _, rfl⟩ := hr; rfl
  have ht : (rB b).take 2000 = rB (b.take 2000) := by simp [rB, List.map_take]
  refine ACalls.of_body Tryz.func42 (by kernel_rfl) rfl (by kernel_rfl) (by simp [Tryz.ntmps42]) (by simp) ?_
  rw [Tryz.ntmps42]
  repeat' first | (refine aops_end (hK _ ?_); clear hK K) | (refine aops_go ?_; simp [hl, rB_len, ht]; (try (refine gen fun q hq => ?_; cases q <;> (try simp [hl, rB_len, ht] at hq) <;> (try (have hh : True := hq; clear hh hq))))) | (refine ⟨by omega, hr, ?_⟩) | refine T.r0 fun K hK => ?_ | refine T.r1 fun K hK => ?_ | refine T.ct rfl ?_ | refine T.seq ?_
  refine T.ret (Done.new1 0 (Or.inr rfl) ?_ ?_) <;> simp [resAs, Tryz.results42]
 ·refine ⟨b, 0, ⟨hb, by omega⟩, rfl, ?_⟩
  refine ACalls.of_body Tryz.func42 (by kernel_rfl) rfl (by kernel_rfl) (by simp [Tryz.ntmps42]) (by simp) ?_
  rw [Tryz.ntmps42]
  repeat' first | (refine aops_end (hK _ ?_); clear hK K) | (refine aops_go ?_; simp [hl, rB_len]; (try (refine gen fun q hq => ?_; cases q <;> (try simp [hl, rB_len] at hq) <;> (try (have hh : True := hq; clear hh hq))))) | refine T.r0 fun K hK => ?_ | refine T.cf rfl ?_ | refine T.seq ?_ | refine T.skip ?_
  refine T.ret (Done.new1 0 (Or.inr rfl) ?_ ?_) <;> simp [resAs, Tryz.results42]
end Go.Proofs.YtflmjilnecanhaaGreatDoor

namespace Go.Proofs.YtflmjilnecanhaaGreatDoor
attribute [-simp] Go.Av.take_app_len Go.Av.innVs Go.Av.putBack Go.Av.objCells Go.Av.back Go.Av.resVs Go.Av.one Go.Av.freeStepG Go.Av.exA Go.Av.innAsH Go.Av.AV.innH Go.Av.CV.innH Go.Av.innHs Go.Av.AV.outnH Go.Av.CV.outnH
open Go Go.Av
attribute [local irreducible] T ACalls TX EX LX Draws Some_ ACallsX eTy eTm MTy.kind MTy.kids MTm.kind MTm.name MTm.num MTm.ty MTm.fr MTm.label MTm.kids
attribute [local simp] eTy_def eTm_def
set_option maxHeartbeats 1000000

theorem l1Draw_ok (b : List Int) (hb : okB b) : ∀ (d p : Nat), d <= 100 -> p + 4 ^ (d + 1) <= 1099511627776 -> Draws Tryz.prog 73 [.i (d + 1)] b p (4 ^ (d + 1)) (RV aTy noA fun t => shapeTy (d + 1) t = true) := by
 intro d
 induction d with
 | zero =>
  intro p hd100 hp
  refine Draws.of_body Tryz.func73 (by kernel_rfl) rfl (by kernel_rfl) (by simp [Tryz.ntmps73]) ?_
  rw [Tryz.ntmps73]
  repeat' first | (refine aops_end (hK _ ?_); clear hK K) | ((first | refine aops_go ?_ | refine wpcall_pure rfl (l1Kids_ok _) ?_); simp [tyKids]; (try simp (disch := omega) only [wrap64]); (try (refine gen fun q hq => ?_; cases q <;> (try simp [tyKids] at hq) <;> (try (have hh : True := hq; clear hh hq))))) | (refine wpcall_dr 0 rfl rfl (num_ok b hb _ (by omega) [2, 1, 4, 3, 5, 2, 4] (by simp) (by simp)) (fun x p1 hx hp1 hp1' => ?_); simp at hx; rcases hx with rfl | rfl | rfl | rfl | rfl | rfl | rfl <;> (simp [tyKids]; (try simp (disch := omega) only [wrap64]))) | refine TX.rs (fun _ => false) fun K hK => ?_ | refine TX.rs1 (fun _ => false) fun K hK => ?_ | refine TX.cond rfl (fun hcnd => ?_) (fun hcnd => absurd hcnd (by decide)) | refine TX.cond rfl (fun hcnd => absurd hcnd (by decide)) (fun hcnd => ?_) | refine TX.seq ?_ | refine TX.block ?_ | refine TX.skip ?_ | refine TX.exit ?_ | refine EX.thenN ?_ | refine EX.thenE ?_ | refine EX.blockE ?_ | refine EX.unrE ?_ | refine TX.unroll ?_
  all_goals (
   refine TX.ret ?_
   repeat' first | refine EX.outR ?_ | refine EX.thenR ?_ | refine EX.blockR ?_ | refine EX.unrR ?_
   apply EX.drA (ks := [])
   case he => exact Or.inr rfl
   case hys => simp [resAs, getAs, Tryz.results73] <;> rfl
   case hv => first | (dsimp only [Av.one]; exact rfl) | dsimp only [Av.one]
   case hx => repeat' first | exact IsT2.var _ | exact IsV.tmv _ | exact IsTm.var _ | exact IsTy.row _ | exact IsTm.row _ | exact IsTys.nil | exact IsTms.nil | exact IsBds.nil | exact IsTys.map _ | exact IsTms.map _ | exact IsBds.map _ | exact IsV.int _ | exact IsV.str _ | exact IsV.bool _ | apply IsV.p2 | apply IsV.p3 | apply IsV.tm | apply IsV.ty | apply IsTm.node | apply IsTy.of | apply IsTys.cons | apply IsTms.cons | apply IsBds.cons | apply IsV.tys | apply IsV.tms | apply IsV.bds | apply IsT2.node | apply IsTys.app | apply IsTms.app | apply IsBds.app
   case hA => exact rfl
   case hks => simp
   case hV => exact rfl
   case h1 => omega
   case h2 => omega
   case hg => simp [shape_mk, tyKids, *])
 | succ d ih =>
  intro p hd100 hp
  have h4 : 4 ^ (d + 1 + 1) = 4 * 4 ^ (d + 1) := by rw [Nat.pow_succ]; omega
  have h1 : 1 <= 4 ^ (d + 1) := Nat.pos_of_ne_zero (by simp)
  have hd : ¬ ((d : Int) + 1 + 1 < 2) := by omega
  have hd2 : (d : Int) + 1 + 1 - 1 = d + 1 := by omega
  rw [h4] at hp ⊢
  generalize hN : 4 ^ (d + 1) = N at *
  refine Draws.of_body Tryz.func73 (by kernel_rfl) rfl (by kernel_rfl) (by simp [Tryz.ntmps73]) ?_
  rw [Tryz.ntmps73]
  repeat' first | ((first | refine aops_end (hK _ ?_) | refine aopsF_end (hK _ ?_)); clear hK K) | ((first | refine aops_go ?_ | refine aopsF_go ?_ | refine wpcall_pure rfl (l1Kids_ok _) ?_); simp [tyKids, hd, hd2]; (try simp (disch := omega) only [wrap64]); (try (refine gen fun q hq => ?_; cases q <;> (try simp [tyKids, hd, hd2] at hq) <;> (try (have hh : True := hq; clear hh hq))))) | (refine wpcall_dr 0 rfl rfl (num_ok b hb _ (by omega) [2, 1, 4, 3, 5, 2, 4] (by simp) (by simp)) (fun x p1 hx hp1 hp1' => ?_); simp at hx; rcases hx with rfl | rfl | rfl | rfl | rfl | rfl | rfl <;> (simp [tyKids, hd, hd2]; (try simp (disch := omega) only [wrap64]))) | (refine wpcall_dr 0 rfl rfl (ih _ (by omega) (by omega)) (fun x1 p1 hx1 hp1 hp1' => ?_); simp [tyKids, hd, hd2]; (try simp (disch := omega) only [wrap64]); (try (refine gen fun q hq => ?_; cases q <;> (try simp [tyKids, hd, hd2] at hq) <;> (try (have hh : True := hq; clear hh hq))))) | refine TX.rdF1 (id := 8) mixed (fun _ => false) [5, 7, 9] [1] 6 [0] (by kernel_rfl) fun K hK => ?_ | refine TX.rs (fun _ => false) fun K hK => ?_ | refine TX.rs1 (fun _ => false) fun K hK => ?_ | refine TX.cond rfl (fun hcnd => ?_) (fun hcnd => absurd hcnd (by decide)) | refine TX.cond rfl (fun hcnd => absurd hcnd (by decide)) (fun hcnd => ?_) | refine TX.seq ?_ | refine TX.block ?_ | refine TX.skip ?_ | refine TX.exit ?_ | refine EX.thenN ?_ | refine EX.thenE ?_ | refine EX.blockN ?_ | refine EX.blockE ?_ | refine EX.unrE ?_ | refine EX.againN ?_ | refine TX.unroll ?_
  all_goals (
   refine TX.ret ?_
   repeat' first | refine EX.outR ?_ | refine EX.thenR ?_ | refine EX.blockR ?_ | refine EX.unrR ?_
   apply EX.drA (ks := [])
   case he => exact Or.inr rfl
   case hys => simp [resAs, getAs, Tryz.results73] <;> rfl
   case hv => first | (dsimp only [Av.one]; exact rfl) | dsimp only [Av.one]
   case hx => repeat' first | exact IsT2.var _ | exact IsV.tmv _ | exact IsTm.var _ | exact IsTy.row _ | exact IsTm.row _ | exact IsTys.nil | exact IsTms.nil | exact IsBds.nil | exact IsTys.map _ | exact IsTms.map _ | exact IsBds.map _ | exact IsV.int _ | exact IsV.str _ | exact IsV.bool _ | apply IsV.p2 | apply IsV.p3 | apply IsV.tm | apply IsV.ty | apply IsTm.node | apply IsTy.of | apply IsTys.cons | apply IsTms.cons | apply IsBds.cons | apply IsV.tys | apply IsV.tms | apply IsV.bds | apply IsT2.node | apply IsTys.app | apply IsTms.app | apply IsBds.app
   case hA => exact rfl
   case hks => simp
   case hV => exact rfl
   case h1 => omega
   case h2 => omega
   case hg => simp [shape_mk, tyKids, *])

theorem l1Type_ok (b : List Int) (hb : okB b) (p : Nat) (hp : p + 300 <= 1099511627776) : Draws Tryz.prog 135 [] b p 300 (RV aTy noA fun t => shapeTy 4 t = true) := by
 refine Draws.of_body Tryz.func135 (by kernel_rfl) rfl (by kernel_rfl) (by simp [Tryz.ntmps135]) ?_
 rw [Tryz.ntmps135]
 repeat' first | (refine aops_end (hK _ ?_); clear hK K) | (refine aops_go ?_; simp; (try (refine gen fun q hq => ?_; cases q <;> (try simp at hq) <;> (try (have hh : True := hq; clear hh hq))))) | (refine wpcall_dr 0 rfl rfl (num_ok b hb _ (by omega) [3, 2, 4, 1, 3] (by simp) (by simp)) (fun x p1 hx hp1 hp1' => ?_); simp at hx; rcases hx with rfl | rfl | rfl | rfl | rfl <;> (simp)) | (refine wpcall_dr 0 rfl rfl (l1Draw_ok b hb 3 _ (by omega) (by omega)) (fun x1 p1 hx1 hp1 hp1' => ?_); simp; (try (refine gen fun q hq => ?_; cases q <;> (try simp at hq) <;> (try (have hh : True := hq; clear hh hq))))) | (refine wpcall_dr 0 rfl rfl (l1Draw_ok b hb 2 _ (by omega) (by omega)) (fun x1 p1 hx1 hp1 hp1' => ?_); simp; (try (refine gen fun q hq => ?_; cases q <;> (try simp at hq) <;> (try (have hh : True := hq; clear hh hq))))) | (refine wpcall_dr 0 rfl rfl (l1Draw_ok b hb 1 _ (by omega) (by omega)) (fun x1 p1 hx1 hp1 hp1' => ?_); simp; (try (refine gen fun q hq => ?_; cases q <;> (try simp at hq) <;> (try (have hh : True := hq; clear hh hq))))) | (refine wpcall_dr 0 rfl rfl (l1Draw_ok b hb 0 _ (by omega) (by omega)) (fun x1 p1 hx1 hp1 hp1' => ?_); simp; (try (refine gen fun q hq => ?_; cases q <;> (try simp at hq) <;> (try (have hh : True := hq; clear hh hq))))) | refine TX.rs (fun _ => false) fun K hK => ?_
 all_goals (
  refine TX.ret ?_
  repeat' first | refine EX.outR ?_ | refine EX.thenR ?_ | refine EX.blockR ?_ | refine EX.unrR ?_
  apply EX.drA (ks := [])
  case he => exact Or.inr rfl
  case hys => simp [resAs, getAs, Tryz.results135] <;> rfl
  case hv => first | (dsimp only [Av.one]; exact rfl) | dsimp only [Av.one]
  case hx => repeat' first | exact IsT2.var _ | exact IsV.tmv _ | exact IsTm.var _ | exact IsTy.row _ | exact IsTm.row _ | exact IsTys.nil | exact IsTms.nil | exact IsBds.nil | exact IsTys.map _ | exact IsTms.map _ | exact IsBds.map _ | exact IsV.int _ | exact IsV.str _ | exact IsV.bool _ | apply IsV.p2 | apply IsV.p3 | apply IsV.tm | apply IsV.ty | apply IsTm.node | apply IsTy.of | apply IsTys.cons | apply IsTms.cons | apply IsBds.cons | apply IsV.tys | apply IsV.tms | apply IsV.bds | apply IsT2.node | apply IsTys.app | apply IsTms.app | apply IsBds.app
  case hA => exact rfl
  case hks => simp
  case hV => exact rfl
  case h1 => omega
  case h2 => omega
  case hg => first | assumption | exact shapeTy_mono (by assumption) | exact shapeTy_mono (shapeTy_mono (by assumption)) | exact shapeTy_mono (shapeTy_mono (shapeTy_mono (by assumption))))

theorem l1Blur_ok (b : List Int) (hb : okB b) : ∀ (d : Nat) (t : MTy) (p : Nat), shapeTy d t = true -> p + 4 ^ d <= 1099511627776 -> Draws Tryz.prog 146 [aTy t] b p (4 ^ d) (RV aTy noA fun t => shapeTy d t = true) := by
 intro d
 induction d with
 | zero => intro t p ht; simp [shapeTy] at ht
 | succ d ih =>
  intro t p ht hp
  have h4 : 4 ^ (d + 1) = 4 * 4 ^ d := by rw [Nat.pow_succ]; omega
  have h1 : 1 <= 4 ^ d := Nat.pos_of_ne_zero (by simp)
  rw [h4] at hp ⊢
  generalize hN : 4 ^ d = N at *
  have hany := l1Any_ok
  obtain ⟨e, he, hk, hl, hs⟩ := shapeTy_kids ht
  obtain rfl : d = e := by omega
  match hkd : t.kids, hl with
  | [], _ =>
   rw [hkd] at hk
   have hk0 : tyKids t.kind = 0 := by simpa using hk
   refine Draws.of_body Tryz.func146 (by kernel_rfl) rfl (by kernel_rfl) (by simp [Tryz.ntmps146]) ?_
   rw [Tryz.ntmps146]
   repeat' first | (refine aops_end (hK _ ?_); clear hK K) | ((first | refine aops_go ?_ | refine wpcall_pure rfl (hany) ?_); simp [hkd]; (try simp (disch := omega) only [wrap64]); (try (refine gen fun q hq => ?_; cases q <;> (try simp [hkd] at hq) <;> (try (have hh : True := hq; clear hh hq))))) | (refine wpcall_dr 0 rfl rfl (pick_ok b hb _ (by omega) 4 (by omega)) (fun x1 p1 hx1 hp1 hp1' => ?_); simp [hkd]; (try simp (disch := omega) only [wrap64]); (try (refine gen fun q hq => ?_; cases q <;> (try simp [hkd] at hq) <;> (try (have hh : True := hq; clear hh hq))))) | refine TX.rs (fun _ => false) fun K hK => ?_ | refine TX.cond rfl (fun hcnd => ?_) (fun hcnd => absurd hcnd (by decide)) | refine TX.cond rfl (fun hcnd => absurd hcnd (by decide)) (fun hcnd => ?_) | refine TX.seq ?_ | refine TX.block ?_ | refine TX.skip ?_ | refine TX.exit ?_ | refine EX.thenN ?_ | refine EX.thenE ?_ | refine EX.blockE ?_ | refine EX.unrE ?_ | refine TX.unroll ?_
   all_goals (
    refine TX.ret ?_
    repeat' first | refine EX.outR ?_ | refine EX.thenR ?_ | refine EX.blockR ?_ | refine EX.unrR ?_
    apply EX.drA (ks := [])
    case he => exact Or.inr rfl
    case hys => simp [resAs, getAs, Tryz.results146] <;> rfl
    case hv => first | (dsimp only [Av.one]; exact rfl) | dsimp only [Av.one]
    case hx => repeat' first | exact IsT2.var _ | exact IsV.tmv _ | exact IsTm.var _ | exact IsTy.row _ | exact IsTm.row _ | exact IsTys.nil | exact IsTms.nil | exact IsBds.nil | exact IsTys.map _ | exact IsTms.map _ | exact IsBds.map _ | exact IsV.int _ | exact IsV.str _ | exact IsV.bool _ | apply IsV.p2 | apply IsV.p3 | apply IsV.tm | apply IsV.ty | apply IsTm.node | apply IsTy.of | apply IsTys.cons | apply IsTms.cons | apply IsBds.cons | apply IsV.tys | apply IsV.tms | apply IsV.bds | apply IsT2.node | apply IsTys.app | apply IsTms.app | apply IsBds.app
    case hA => exact rfl
    case hks => simp
    case hV => exact rfl
    case h1 => omega
    case h2 => omega
    case hg => simp [shape_mk, show tyKids 1 = 0 from rfl, hk0, *])
  | [u], _ =>
   rw [hkd] at hk hs
   have hk0 : tyKids t.kind = 1 := by simpa using hk
   exfalso
   simp [tyKids] at hk0
   split at hk0
   ·omega
   ·split at hk0 <;> omega
  | [u, v], _ =>
   rw [hkd] at hk hs
   have hk0 : tyKids t.kind = 2 := by simpa using hk
   have hu := hs u (by simp)
   have hv := hs v (by simp)
   refine Draws.of_body Tryz.func146 (by kernel_rfl) rfl (by kernel_rfl) (by simp [Tryz.ntmps146]) ?_
   rw [Tryz.ntmps146]
   repeat' first | ((first | refine aops_end (hK _ ?_) | refine aopsF_end (hK _ ?_)); clear hK K) | ((first | refine aops_go ?_ | refine aopsF_go ?_ | refine wpcall_pure rfl (hany) ?_); simp [hkd]; (try simp (disch := omega) only [wrap64]); (try (refine gen fun q hq => ?_; cases q <;> (try simp [hkd] at hq) <;> (try (have hh : True := hq; clear hh hq))))) | (refine wpcall_dr 0 rfl rfl (pick_ok b hb _ (by omega) 4 (by omega)) (fun x1 p1 hx1 hp1 hp1' => ?_); simp [hkd]; (try simp (disch := omega) only [wrap64]); (try (refine gen fun q hq => ?_; cases q <;> (try simp [hkd] at hq) <;> (try (have hh : True := hq; clear hh hq))))) | (refine wpcall_dr 0 rfl rfl (ih u _ hu (by omega)) (fun x1 p1 hx1 hp1 hp1' => ?_); simp [hkd]; (try simp (disch := omega) only [wrap64]); (try (refine gen fun q hq => ?_; cases q <;> (try simp [hkd] at hq) <;> (try (have hh : True := hq; clear hh hq))))) | (refine wpcall_dr 0 rfl rfl (ih v _ hv (by omega)) (fun x1 p1 hx1 hp1 hp1' => ?_); simp [hkd]; (try simp (disch := omega) only [wrap64]); (try (refine gen fun q hq => ?_; cases q <;> (try simp [hkd] at hq) <;> (try (have hh : True := hq; clear hh hq))))) | refine TX.rdF1 (id := 7) mixed (fun _ => false) [8, 10, 12] [1] 9 [0] (by kernel_rfl) fun K hK => ?_ | refine TX.rs (fun _ => false) fun K hK => ?_ | refine TX.rs1 (fun _ => false) fun K hK => ?_ | refine TX.cond rfl (fun hcnd => ?_) (fun hcnd => absurd hcnd (by decide)) | refine TX.cond rfl (fun hcnd => absurd hcnd (by decide)) (fun hcnd => ?_) | refine TX.seq ?_ | refine TX.block ?_ | refine TX.skip ?_ | refine TX.exit ?_ | refine EX.thenN ?_ | refine EX.thenE ?_ | refine EX.blockN ?_ | refine EX.blockE ?_ | refine EX.unrE ?_ | refine EX.againN ?_ | refine TX.unroll ?_
   all_goals (
    refine TX.ret ?_
    repeat' first | refine EX.outR ?_ | refine EX.thenR ?_ | refine EX.blockR ?_ | refine EX.unrR ?_
    apply EX.drA (ks := [])
    case he => exact Or.inr rfl
    case hys => simp [resAs, getAs, Tryz.results146] <;> rfl
    case hv => first | (dsimp only [Av.one]; exact rfl) | dsimp only [Av.one]
    case hx => repeat' first | exact IsT2.var _ | exact IsV.tmv _ | exact IsTm.var _ | exact IsTy.row _ | exact IsTm.row _ | exact IsTys.nil | exact IsTms.nil | exact IsBds.nil | exact IsTys.map _ | exact IsTms.map _ | exact IsBds.map _ | exact IsV.int _ | exact IsV.str _ | exact IsV.bool _ | apply IsV.p2 | apply IsV.p3 | apply IsV.tm | apply IsV.ty | apply IsTm.node | apply IsTy.of | apply IsTys.cons | apply IsTms.cons | apply IsBds.cons | apply IsV.tys | apply IsV.tms | apply IsV.bds | apply IsT2.node | apply IsTys.app | apply IsTms.app | apply IsBds.app
    case hA => exact rfl
    case hks => simp
    case hV => exact rfl
    case h1 => omega
    case h2 => omega
    case hg => simp [shape_mk, show tyKids 1 = 0 from rfl, hk0, *])
  | _ :: _ :: _ :: _, h => exact absurd h (by simp)

theorem l1Copy_own (t : MTy) (hn : nTy t <= 1099511627776) : ACalls Tryz.prog 145 [aTy t] [] (.agg [.d (.i t.kind), .own 0 t.kids.length]) [] [{ sz := 2, ety := 43, rows := t.kids.map eTy, wr := true }] := by
 rw [nTy_def] at hn
 have hlen := nTyS_len t.kids
 refine ACalls.of_body Tryz.func145 (by kernel_rfl) rfl (by kernel_rfl) (by simp [Tryz.ntmps145]) (by simp) ?_
 rw [Tryz.ntmps145]
 repeat' first | (refine aops_end (hK _ ?_); clear hK K) | (refine aops_go ?_; simp; (try (refine gen fun q hq => ?_; cases q <;> (try simp at hq) <;> (try (have hh : True := hq; clear hh hq))))) | refine T.r0 fun K hK => ?_ | refine T.seq ?_ | refine T.block ?_
 refine T.ownifyObj 2 1 2 43 (row := [.d (.i t.kind), .nil]) (by simp) (by simp) ?_
 refine T.loopF (fun p : Nat => ⟨[(1, .c (.ptr 0 0)), (2, .c (.ptr 1 0)), (3, .c (.ptr 2 0)), (4, .i p)], [(aTy t).cells, [.d (.i 0), .nil], [.d (.i t.kind), .own 0 p]], [{ sz := 2, ety := 43, rows := (t.kids.take p).map eTy, wr := true }]⟩) (fun p => t.kids.length + 1 - p) (fun p => p <= t.kids.length) (fun p hi => ?_) 0 (by simp) (by simp)
 by_cases hlt : p < t.kids.length
 ·obtain ⟨u, ht⟩ := get_lt hlt
  have htm : u ∈ t.kids := List.mem_of_getElem? ht
  have hgt : t.kids[p] = u := by rw [List.getElem?_eq_getElem hlt] at ht; exact Option.some.inj ht
  have hdr : t.kids.drop p = u :: t.kids.drop (p + 1) := by rw [List.drop_eq_getElem_cons hlt, hgt]
  have hu := l1Copy_ok u (by have := nTyS_mem htm; omega)
  have htk : t.kids.take (p + 1) = t.kids.take p ++ [u] := by rw [List.take_add_one, ht]; rfl
  have hmin : min p t.kids.length = p := by omega
  repeat' first | ((first | refine aops_end (hK _ ?_) | refine aopsD_end (hK _ ?_)); clear hK K) | ((first | refine aops_go ?_ | refine aopsD_go ?_ | refine wpcall_pure rfl (hu) ?_); simp [hlt, hgt, hmin]; (try simp (disch := omega) only [wrap64]); (try (refine gen fun q hq => ?_; cases q <;> (try simp [hlt, hgt, hmin] at hq) <;> (try (have hh : True := hq; clear hh hq))))) | (refine ⟨by omega, by omega, ?_⟩) | (refine ⟨p + 1, by dsimp only; omega, by omega, ?_, ?_, ?_⟩ <;> simp (disch := omega) [wrap64, htk, eTy_def]) | refine T.rd1 (id := 5) mixed (fun _ => false) [9, 11] (by kernel_rfl) fun K hK => ?_ | refine T.r0 fun K hK => ?_ | refine T.r1 fun K hK => ?_ | refine T.ct rfl ?_ | refine T.seq ?_ | refine T.block ?_ | refine T.skip ?_
 ·have hp' : p = t.kids.length := by omega
  subst hp'
  repeat' first | (refine aops_end (hK _ ?_); clear hK K) | (refine aops_go ?_; simp [hlt]; (try (refine gen fun q hq => ?_; cases q <;> (try simp [hlt] at hq) <;> (try (have hh : True := hq; clear hh hq))))) | refine T.r0 fun K hK => ?_ | refine T.cf rfl ?_ | refine T.seq ?_ | refine T.exit ?_
  refine T.ret (Done.own1 0 (Or.inr rfl) (ys := [_]) ?_ rfl ?_) <;> simp [resAs, Tryz.results145]

theorem l1Mutate_ok (b : List Int) (hb : okB b) (t : MTy) (hn : nTy t <= 1000000) (p : Nat) (hp : p + 2 <= 1099511627776) : Draws Tryz.prog 138 [aTy t] b p 2 (RV aTy noA fun u => nTy u <= nTy t + 20) := by
 have hany := l1Any_ok
 have hcp := l1Copy_own t (by omega)
 have hlen := nTyS_len t.kids
 have hn2 := hn
 rw [nTy_def] at hn2
 refine Draws.of_body Tryz.func138 (by kernel_rfl) rfl (by kernel_rfl) (by simp [Tryz.ntmps138]) ?_
 rw [Tryz.ntmps138]
 repeat' first | ((first | refine aops_end (hK _ ?_) | refine aopsD_end (hK _ ?_)); clear hK K) | ((first | refine aops_go ?_ | refine aopsD_go ?_ | refine wpcall_pure rfl (hany) ?_); simp; (try simp (disch := omega) only [wrap64]); (try (refine gen fun q hq => ?_; cases q <;> (try simp at hq) <;> (try (have hh : True := hq; clear hh hq))))) | (refine wpcall_dr 0 rfl rfl (pick_ok b hb _ (by omega) 40 (by omega)) (fun x1 p1 hx1 hp1 hp1' => ?_); simp; (try simp (disch := omega) only [wrap64]); (try (refine gen fun q hq => ?_; cases q <;> (try simp at hq) <;> (try (have hh : True := hq; clear hh hq))))) | (refine wpcall_dr 0 rfl rfl (num_ok b hb _ (by omega) [0, 6, 1, 4, -1] (by simp) (by simp)) (fun x1 p1 hx1 hp1 hp1' => ?_); simp; (try simp (disch := omega) only [wrap64]); (try (refine gen fun q hq => ?_; cases q <;> (try simp at hq) <;> (try (have hh : True := hq; clear hh hq))))) | (refine wpcall_own rfl (hcp) ?_; simp; (try simp (disch := omega) only [wrap64]); (try (refine gen fun q hq => ?_; cases q <;> (try simp at hq) <;> (try (have hh : True := hq; clear hh hq))))) | (refine ⟨by omega, by omega, ?_⟩) | refine TX.rd1 (id := 6) mixed (fun _ => false) [4, 6] (by kernel_rfl) fun K hK => ?_ | refine TX.rd1 (id := 11) mixed (fun _ => false) [2, 4] (by kernel_rfl) fun K hK => ?_ | refine TX.rs (fun _ => false) fun K hK => ?_ | refine TX.rs1 (fun _ => false) fun K hK => ?_ | refine TX.cond rfl (fun hcnd => ?_) (fun hcnd => absurd hcnd (by decide)) | refine TX.cond rfl (fun hcnd => absurd hcnd (by decide)) (fun hcnd => ?_) | refine TX.seq ?_ | refine TX.block ?_ | refine TX.skip ?_ | refine TX.exit ?_ | refine EX.thenN ?_ | refine EX.thenE ?_ | refine EX.blockN ?_ | refine EX.blockE ?_ | refine EX.unrE ?_ | refine EX.againN ?_ | refine TX.unroll ?_
 all_goals (
  refine TX.ret ?_
  repeat' first | refine EX.outR ?_ | refine EX.thenR ?_ | refine EX.blockR ?_ | refine EX.unrR ?_
  apply EX.drA (ks := [])
  case he => exact Or.inr rfl
  case hys => simp [resAs, getAs, Tryz.results138] <;> rfl
  case hv => first | (dsimp only [Av.one]; exact rfl) | dsimp only [Av.one]
  case hx => repeat' first | exact IsT2.var _ | exact IsV.tmv _ | exact IsTm.var _ | exact IsTy.row _ | exact IsTm.row _ | exact IsTys.nil | exact IsTms.nil | exact IsBds.nil | exact IsTys.map _ | exact IsTms.map _ | exact IsBds.map _ | exact IsV.int _ | exact IsV.str _ | exact IsV.bool _ | apply IsV.p2 | apply IsV.p3 | apply IsV.tm | apply IsV.ty | apply IsTm.node | apply IsTy.of | apply IsTys.cons | apply IsTms.cons | apply IsBds.cons | apply IsV.tys | apply IsV.tms | apply IsV.bds | apply IsT2.node | apply IsTys.app | apply IsTms.app | apply IsBds.app
  case hA => exact rfl
  case hks => simp
  case hV => exact rfl
  case h1 => omega
  case h2 => omega
  case hg => simp [nTy_mk, nTyS, nTyS_app, nTy_def, *] <;> omega)

end Go.Proofs.YtflmjilnecanhaaGreatDoor

namespace Go.Proofs.YtflmjilnecanhaaGreatDoor
attribute [-simp] Go.Av.take_app_len Go.Av.innVs Go.Av.putBack Go.Av.objCells Go.Av.back Go.Av.resVs Go.Av.one Go.Av.freeStepG Go.Av.exA Go.Av.innAsH Go.Av.AV.innH Go.Av.CV.innH Go.Av.innHs Go.Av.AV.outnH Go.Av.CV.outnH
open Go Go.Av
attribute [local irreducible] T ACalls TX EX LX Draws Some_ ACallsX eTy eTm MTy.kind MTy.kids MTm.kind MTm.name MTm.num MTm.ty MTm.fr MTm.label MTm.kids
attribute [local simp] eTy_def eTm_def
set_option maxHeartbeats 16000000
set_option maxRecDepth 8000

theorem l2Num_ok (n : Int) : ACalls Tryz.prog 141 [.i n] [] (aTm (.mk 2 [] n zeroT zeroT 0 [])) [] [] := by
 refine ACalls.of_body Tryz.func141 (by kernel_rfl) rfl (by kernel_rfl) (by simp [Tryz.ntmps141]) (by simp) ?_
 rw [Tryz.ntmps141]
 repeat' first | (refine aops_end (hK _ ?_); clear hK K) | (refine aops_go ?_; simp; (try (refine gen fun q hq => ?_; cases q <;> (try simp at hq) <;> (try (have hh : True := hq; clear hh hq))))) | (refine T.ret (Done.val (Or.inr rfl) ?_) <;> simp [resAs, Tryz.results141] <;> omega) | refine T.r0 fun K hK => ?_

theorem l2Add_ok (s : List UInt8) (c : UInt8) (hs : s.length <= 1099511627776) : ACalls Tryz.prog 202 [.s s, .s [c]] [] (.s (addM c s)) [] [] := by
 refine ACalls.of_body Tryz.func202 (by kernel_rfl) rfl (by kernel_rfl) (by simp [Tryz.ntmps202]) (by simp) ?_
 rw [Tryz.ntmps202]
 repeat' first | (refine aops_end (hK _ ?_); clear hK K) | (refine aops_go ?_; simp; (try (refine gen fun q hq => ?_; cases q <;> (try simp at hq) <;> (try (have hh : True := hq; clear hh hq))))) | refine T.r0 fun K hK => ?_ | refine T.seq ?_ | refine T.block ?_
 refine T.loopF (fun k : Nat => ⟨[(0, .s s), (1, .s [c]), (4, .s []), (5, .i k)], [], []⟩) (fun k => s.length + 1 - k) (fun k => k <= s.length /\ addM c s = s.take k ++ addM c (s.drop k)) (fun k hk => ?_) 0 (by simp) (by simp)
 obtain ⟨hi, he⟩ := hk
 by_cases hlt : k < s.length
 ·have hsl := slice_one hlt
  have hdr := drop_cons hlt
  have htk : s.take (k + 1) = s.take k ++ [s[k]] := by rw [List.take_add_one, List.getElem?_eq_getElem hlt]; rfl
  generalize hx : s[k] = x at *
  have hbl := bytesLess_one x c
  have hto : ((k : Int) + 1).toNat = k + 1 := by omega
  have hk1 : (k : Int) <= k + 1 := by omega
  have hk2 : (k : Int) + 1 <= s.length := by omega
  by_cases h1 : x < c
  ·have he' : addM c s = s.take (k + 1) ++ addM c (s.drop (k + 1)) := by rw [he, hdr, htk]; simp [addM, h1]
   repeat' first | (refine aops_end (hK _ ?_); clear hK K) | (refine aops_go ?_; simp [hlt, hto, hsl, hbl, h1, hk2]; (try simp (disch := omega) only [wrap64]); (try (refine gen fun q hq => ?_; cases q <;> (try simp [hlt, hto, hsl, hbl, h1, hk2] at hq) <;> (try (have hh : True := hq; clear hh hq))))) | (refine ⟨k + 1, by dsimp only; omega, ⟨by omega, he'⟩, ?_⟩; simp (disch := omega) [wrap64]) | refine T.r0 fun K hK => ?_ | refine T.r1 fun K hK => ?_ | (refine ⟨by omega, ?_⟩) | refine T.ct rfl ?_ | refine T.seq ?_ | refine T.block ?_ | refine T.skip ?_
  ·by_cases h2 : x = c
   ·subst h2
    have he' : addM x s = s := by rw [he, hdr]; simp [addM]; rw [<- hdr]; simp
    rw [he']
    have hbl' : Op.bytesLess [x] [x] = false := by rw [hbl]; simp
    repeat' first | (refine aops_end (hK _ ?_); clear hK K) | (refine aops_go ?_; simp [hlt, hto, hsl, hbl', hk2]; (try simp (disch := omega) only [wrap64]); (try (refine gen fun q hq => ?_; cases q <;> (try simp [hlt, hto, hsl, hbl', hk2] at hq) <;> (try (have hh : True := hq; clear hh hq))))) | (refine T.ret (Done.data (Or.inr rfl) ?_ ?_) <;> simp [Tryz.results202] <;> omega) | refine T.r0 fun K hK => ?_ | (refine ⟨by omega, ?_⟩) | refine T.ct rfl ?_ | refine T.cf rfl ?_ | refine T.seq ?_ | refine T.exit ?_
   ·have he' : addM c s = s.take k ++ [c] ++ s.drop k := by rw [he, hdr]; simp [addM, h1, h2]
    rw [he']
    have hmin : min k s.length = k := by omega
    have ha1 : k + 1 <= 4611686018427387904 := by omega
    have ha2 : k + 1 + (s.length - k) <= 4611686018427387904 := by omega
    repeat' first | ((first | refine aops_end (hK _ ?_) | refine aopsD_end (hK _ ?_)); clear hK K) | ((first | refine aops_go ?_ | refine aopsD_go ?_); simp [hlt, hto, hsl, hbl, h1, h2, hk2, hmin, ha1, ha2]; (try simp (disch := omega) only [wrap64]); (try (refine gen fun q hq => ?_; cases q <;> (try simp [hlt, hto, hsl, hbl, h1, h2, hk2, hmin, ha1, ha2] at hq) <;> (try (have hh : True := hq; clear hh hq))))) | (refine T.ret (Done.data (Or.inr rfl) ?_ ?_) <;> simp [Tryz.results202] <;> omega) | refine T.rd (id := 6) mixed (fun _ => false) [] (by kernel_rfl) fun K hK => ?_ | refine T.r0 fun K hK => ?_ | (refine ⟨by omega, ?_⟩) | refine T.cf rfl ?_ | refine T.seq ?_ | refine T.skip ?_ | refine T.exit ?_
 ·have hk' : k = s.length := by omega
  subst hk'
  simp [addM] at he
  rw [he]
  have ha1 : s.length + 1 <= 4611686018427387904 := by omega
  repeat' first | ((first | refine aops_end (hK _ ?_) | refine aopsD_end (hK _ ?_)); clear hK K) | ((first | refine aops_go ?_ | refine aopsD_go ?_); simp [hlt, ha1]; (try simp (disch := omega) only [wrap64]); (try (refine gen fun q hq => ?_; cases q <;> (try simp [hlt, ha1] at hq) <;> (try (have hh : True := hq; clear hh hq))))) | (refine T.ret (Done.data (Or.inr rfl) ?_ ?_) <;> simp [Tryz.results202] <;> omega) | refine T.rd (id := 6) mixed (fun _ => false) [] (by kernel_rfl) fun K hK => ?_ | refine T.r0 fun K hK => ?_ | refine T.cf rfl ?_ | refine T.seq ?_ | refine T.skip ?_ | refine T.exit ?_

theorem l2Copy_ok : ∀ (e : MTm), nTm e <= 1099511627776 -> ACalls Tryz.prog 101 [aTm e] [] (aTm e) [] [] := by
 intro e
 induction e using MTm.ind with
 | h e ih =>
  intro hn
  obtain ⟨hnt, hnf, hnk, hnu⟩ := nTm_parts hn
  have h1 := l1Copy_ok e.ty hnt
  have h2 := l1Copy_ok e.fr hnf
  refine ACalls.of_body Tryz.func101 (by kernel_rfl) rfl (by kernel_rfl) (by simp [Tryz.ntmps101]) (by simp) ?_
  rw [Tryz.ntmps101]
  repeat' first | (refine aops_end (hK _ ?_); clear hK K) | ((first | refine aops_go ?_ | refine wpcall_pure rfl (h1) ?_ | refine wpcall_pure rfl (h2) ?_); simp; (try (refine gen fun q hq => ?_; cases q <;> (try simp at hq) <;> (try (have hh : True := hq; clear hh hq))))) | refine T.r0 fun K hK => ?_ | refine T.seq ?_ | refine T.block ?_
  refine T.ownifyObj 2 8 9 46 rfl rfl ?_
  refine T.loopF (fun p : Nat => ⟨[(1, .c (.ptr 0 0)), (2, .c (.ptr 1 0)), (3, .c (.ptr 2 0)), (4, .i p)], [(aTm e).cells, [.d (.i 0), .d (.str []), .d (.i 0), .d (.i 0), .nil, .d (.i 0), .nil, .d (.i 0), .nil], [.d (.i e.kind), .d (.str e.name), .d (.i e.num), .d (.i e.ty.kind), .d (.sl (e.ty.kids.map eTy)), .d (.i e.fr.kind), .d (.sl (e.fr.kids.map eTy)), .d (.i e.label), .own 0 p]], [{ sz := 9, ety := 46, rows := (e.kids.take p).map eTm, wr := true }]⟩) (fun p => e.kids.length + 1 - p) (fun p => p <= e.kids.length) (fun p hi => ?_) 0 (by simp) (by simp)
  by_cases hlt : p < e.kids.length
  ·obtain ⟨u, ht⟩ := get_lt hlt
   have htm : u ∈ e.kids := List.mem_of_getElem? ht
   have hgt : e.kids[p] = u := by rw [List.getElem?_eq_getElem hlt] at ht; exact Option.some.inj ht
   have hdr : e.kids.drop p = u :: e.kids.drop (p + 1) := by rw [List.drop_eq_getElem_cons hlt, hgt]
   have hu := ih u htm (hnu u htm)
   have htk : e.kids.take (p + 1) = e.kids.take p ++ [u] := by rw [List.take_add_one, ht]; rfl
   have hmin : min p e.kids.length = p := by omega
   repeat' first | ((first | refine aops_end (hK _ ?_) | refine aopsD_end (hK _ ?_)); clear hK K) | ((first | refine aops_go ?_ | refine aopsD_go ?_ | refine wpcall_pure rfl (hu) ?_); simp [hlt, hgt, hmin]; (try simp (disch := omega) only [wrap64]); (try (refine gen fun q hq => ?_; cases q <;> (try simp [hlt, hgt, hmin] at hq) <;> (try (have hh : True := hq; clear hh hq))))) | (refine ⟨p + 1, by dsimp only; omega, by omega, ?_, ?_, ?_⟩ <;> simp (disch := omega) [wrap64, htk, eTm_def]) | refine T.rd1 (id := 8) mixed (fun _ => false) [9, 11] (by kernel_rfl) fun K hK => ?_ | refine T.r0 fun K hK => ?_ | refine T.r1 fun K hK => ?_ | (refine ⟨by omega, ?_⟩) | refine T.ct rfl ?_ | refine T.seq ?_ | refine T.block ?_ | refine T.skip ?_
  ·have hp' : p = e.kids.length := by omega
   subst hp'
   repeat' first | (refine aops_end (hK _ ?_); clear hK K) | (refine aops_go ?_; simp [hlt]; (try (refine gen fun q hq => ?_; cases q <;> (try simp [hlt] at hq) <;> (try (have hh : True := hq; clear hh hq))))) | (refine T.ret (Done.val (Or.inr rfl) ?_) <;> simp [resAs, Tryz.results101] <;> omega) | refine T.r0 fun K hK => ?_ | refine T.cf rfl ?_ | refine T.seq ?_ | refine T.exit ?_

theorem l1DrawT_ok (b : List Int) (hb : okB b) (x : Int) (hx : x = 1 \/ x = 2 \/ x = 3 \/ x = 4) (p : Nat) (hp : p + 256 <= 1099511627776) : Draws Tryz.prog 73 [.i x] b p 256 (RV aTy noA fun t => shapeTy 4 t = true) := by
 rcases hx with rfl | rfl | rfl | rfl
 ·exact (l1Draw_ok b hb 0 p (by omega) (by omega)).mono (by omega) fun t h => shapeTy_mono (shapeTy_mono (shapeTy_mono h))
 ·exact (l1Draw_ok b hb 1 p (by omega) (by omega)).mono (by omega) fun t h => shapeTy_mono (shapeTy_mono h)
 ·exact (l1Draw_ok b hb 2 p (by omega) (by omega)).mono (by omega) fun t h => shapeTy_mono h
 ·exact (l1Draw_ok b hb 3 p (by omega) (by omega)).mono (by omega) fun t h => h

theorem l2Atom_ok (b : List Int) (hb : okB b) (s : List UInt8) (hs : s.length <= 1000) (p : Nat) (hp : p + 3 <= 1099511627776) : Draws Tryz.prog 201 [.s s] b p 3 (RV aTm noA fun e => nTm e <= 1) := by
 have hnum := l2Num_ok
 refine Draws.of_body Tryz.func201 (by kernel_rfl) rfl (by kernel_rfl) (by simp [Tryz.ntmps201]) ?_
 rw [Tryz.ntmps201]
 repeat' first | (refine aops_end (hK _ ?_); clear hK K) | ((first | refine aops_go ?_ | refine wpcall_pure rfl (hnum _) ?_); simp; (try simp (disch := omega) only [wrap64]); (try (refine gen fun q hq => ?_; cases q <;> (try simp at hq) <;> (try (have hh : True := hq; clear hh hq))))) | (refine wpcall_dr 0 rfl rfl (pick_ok b hb _ (by omega) 4 (by omega)) (fun x1 p1 hx1 hp1 hp1' => ?_); simp; (try simp (disch := omega) only [wrap64]); (try (refine gen fun q hq => ?_; cases q <;> (try simp at hq) <;> (try (have hh : True := hq; clear hh hq))))) | (refine wpcall_dr 0 rfl rfl (pick_ok b hb _ (by omega) 5 (by omega)) (fun x1 p1 hx1 hp1 hp1' => ?_); simp; (try simp (disch := omega) only [wrap64]); (try (refine gen fun q hq => ?_; cases q <;> (try simp at hq) <;> (try (have hh : True := hq; clear hh hq))))) | (refine wpcall_dr 0 rfl rfl (pick_ok b hb _ (by omega) s.length (by omega)) (fun x1 p1 hx1 hp1 hp1' => ?_); simp; (try simp (disch := omega) only [wrap64]); (try (refine gen fun q hq => ?_; cases q <;> (try simp at hq) <;> (try (have hh : True := hq; clear hh hq))))) | (refine wpcall_dr 0 rfl rfl (num_ok b hb _ (by omega) [1, 0, 2, 5, 999, 7] (by simp) (by simp)) (fun x1 p1 hx1 hp1 hp1' => ?_); simp; (try simp (disch := omega) only [wrap64]); (try (refine gen fun q hq => ?_; cases q <;> (try simp at hq) <;> (try (have hh : True := hq; clear hh hq))))) | refine TX.rs (fun _ => false) fun K hK => ?_ | (refine ⟨by omega, ?_⟩) | refine TX.cond rfl (fun hcnd => ?_) (fun hcnd => absurd hcnd (by decide)) | refine TX.cond rfl (fun hcnd => absurd hcnd (by decide)) (fun hcnd => ?_) | refine TX.seq ?_ | refine TX.block ?_ | refine TX.skip ?_ | refine EX.thenN ?_ | refine EX.blockN ?_
 all_goals (
  refine TX.ret ?_
  repeat' first | refine EX.outR ?_ | refine EX.thenR ?_ | refine EX.blockR ?_ | refine EX.unrR ?_
  apply EX.drA (ks := [])
  case he => exact Or.inr rfl
  case hys => simp [resAs, getAs, Tryz.results201] <;> rfl
  case hv => first | (dsimp only [Av.one]; exact rfl) | dsimp only [Av.one]
  case hx => repeat' first | exact IsT2.var _ | exact IsV.tmv _ | exact IsTm.var _ | exact IsTy.row _ | exact IsTm.row _ | exact IsTys.nil | exact IsTms.nil | exact IsBds.nil | exact IsTys.map _ | exact IsTms.map _ | exact IsBds.map _ | exact IsV.int _ | exact IsV.str _ | exact IsV.bool _ | apply IsV.p2 | apply IsV.p3 | apply IsV.tm | apply IsV.ty | apply IsTm.node | apply IsTy.of | apply IsTys.cons | apply IsTms.cons | apply IsBds.cons | apply IsV.tys | apply IsV.tms | apply IsV.bds | apply IsT2.node | apply IsTys.app | apply IsTms.app | apply IsBds.app
  case hA => exact rfl
  case hks => simp
  case hV => exact rfl
  case h1 => omega
  case h2 => omega
  case hg => simp [nTm_mk, nTy_mk, nTyS, nTmS] <;> omega)

theorem l2Draw_ok (b : List Int) (hb : okB b) : ∀ (d : Nat) (s : List UInt8) (p : Nat), d <= 50 -> s.length + d <= 100 -> p + 400 * 4 ^ d <= 1099511627776 -> Draws Tryz.prog 140 [.s s, .i d] b p (400 * 4 ^ d) (RV aTm noA fun e => nTm e <= 400 * 4 ^ d) := by
 intro d
 induction d with
 | zero =>
  intro s p hd hs hp
  refine Draws.of_body Tryz.func140 (by kernel_rfl) rfl (by kernel_rfl) (by simp [Tryz.ntmps140]) ?_
  rw [Tryz.ntmps140]
  repeat' first | (refine aops_end (hK _ ?_); clear hK K) | (refine aops_go ?_; simp; (try simp (disch := omega) only [wrap64]); (try (refine gen fun q hq => ?_; cases q <;> (try simp at hq) <;> (try (have hh : True := hq; clear hh hq))))) | (refine wpcall_dr 0 rfl rfl (l2Atom_ok b hb s (by omega) _ (by omega)) (fun x1 p1 hx1 hp1 hp1' => ?_); simp; (try simp (disch := omega) only [wrap64]); (try (refine gen fun q hq => ?_; cases q <;> (try simp at hq) <;> (try (have hh : True := hq; clear hh hq))))) | refine TX.rs (fun _ => false) fun K hK => ?_ | refine TX.cond rfl (fun hcnd => ?_) (fun hcnd => absurd hcnd (by decide)) | refine TX.seq ?_
  all_goals (
   refine TX.ret ?_
   repeat' first | refine EX.outR ?_ | refine EX.thenR ?_ | refine EX.blockR ?_ | refine EX.unrR ?_
   apply EX.drA (ks := [])
   case he => exact Or.inr rfl
   case hys => simp [resAs, getAs, Tryz.results140] <;> rfl
   case hv => first | (dsimp only [Av.one]; exact rfl) | dsimp only [Av.one]
   case hx => repeat' first | exact IsT2.var _ | exact IsV.tmv _ | exact IsTm.var _ | exact IsTy.row _ | exact IsTm.row _ | exact IsTys.nil | exact IsTms.nil | exact IsBds.nil | exact IsTys.map _ | exact IsTms.map _ | exact IsBds.map _ | exact IsV.int _ | exact IsV.str _ | exact IsV.bool _ | apply IsV.p2 | apply IsV.p3 | apply IsV.tm | apply IsV.ty | apply IsTm.node | apply IsTy.of | apply IsTys.cons | apply IsTms.cons | apply IsBds.cons | apply IsV.tys | apply IsV.tms | apply IsV.bds | apply IsT2.node | apply IsTys.app | apply IsTms.app | apply IsBds.app
   case hA => exact rfl
   case hks => simp
   case hV => exact rfl
   case h1 => omega
   case h2 => omega
   case hg => omega)
 | succ d ih =>
  intro s p hd hs hp
  have h4 : 4 ^ (d + 1) = 4 * 4 ^ d := by rw [Nat.pow_succ]; omega
  have h1 : 1 <= 4 ^ d := Nat.pos_of_ne_zero (by simp)
  rw [h4] at hp ⊢
  generalize hN : 4 ^ d = N at *
  by_cases hd0 : d = 0
  ·subst hd0
   refine Draws.of_body Tryz.func140 (by kernel_rfl) rfl (by kernel_rfl) (by simp [Tryz.ntmps140]) ?_
   rw [Tryz.ntmps140]
   repeat' first | (refine aops_end (hK _ ?_); clear hK K) | (refine aops_go ?_; simp; (try simp (disch := omega) only [wrap64]); (try (refine gen fun q hq => ?_; cases q <;> (try simp at hq) <;> (try (have hh : True := hq; clear hh hq))))) | (refine wpcall_dr 0 rfl rfl (l2Atom_ok b hb s (by omega) _ (by omega)) (fun x1 p1 hx1 hp1 hp1' => ?_); simp; (try simp (disch := omega) only [wrap64]); (try (refine gen fun q hq => ?_; cases q <;> (try simp at hq) <;> (try (have hh : True := hq; clear hh hq))))) | refine TX.rs (fun _ => false) fun K hK => ?_ | refine TX.cond rfl (fun hcnd => ?_) (fun hcnd => absurd hcnd (by decide)) | refine TX.seq ?_
   all_goals (
    refine TX.ret ?_
    repeat' first | refine EX.outR ?_ | refine EX.thenR ?_ | refine EX.blockR ?_ | refine EX.unrR ?_
    apply EX.drA (ks := [])
    case he => exact Or.inr rfl
    case hys => simp [resAs, getAs, Tryz.results140] <;> rfl
    case hv => first | (dsimp only [Av.one]; exact rfl) | dsimp only [Av.one]
    case hx => repeat' first | exact IsT2.var _ | exact IsV.tmv _ | exact IsTm.var _ | exact IsTy.row _ | exact IsTm.row _ | exact IsTys.nil | exact IsTms.nil | exact IsBds.nil | exact IsTys.map _ | exact IsTms.map _ | exact IsBds.map _ | exact IsV.int _ | exact IsV.str _ | exact IsV.bool _ | apply IsV.p2 | apply IsV.p3 | apply IsV.tm | apply IsV.ty | apply IsTm.node | apply IsTy.of | apply IsTys.cons | apply IsTms.cons | apply IsBds.cons | apply IsV.tys | apply IsV.tms | apply IsV.bds | apply IsT2.node | apply IsTys.app | apply IsTms.app | apply IsBds.app
    case hA => exact rfl
    case hks => simp
    case hV => exact rfl
    case h1 => omega
    case h2 => omega
    case hg => omega)
  have hd2 : ¬ ((d : Int) + 1 < 2) := by omega
  have hd3 : (d : Int) + 1 - 1 = d := by omega
  have hadd : ∀ c, (addM c s).length + d <= 100 := fun c => by have := addM_len c s; omega
  refine Draws.of_body Tryz.func140 (by kernel_rfl) rfl (by kernel_rfl) (by simp [Tryz.ntmps140]) ?_
  rw [Tryz.ntmps140]
  repeat' first | ((first | refine aops_end (hK _ ?_) | refine aopsF_end (hK _ ?_)); clear hK K) | ((first | refine aops_go ?_ | refine aopsF_go ?_ | refine wpcall_pure rfl (l2Kids_ok _) ?_ | refine wpcall_pure rfl (l2Add_ok s _ (by omega)) ?_); simp [kidsM, hd2, hd3]; (try simp (disch := omega) only [wrap64]); (try (refine gen fun q hq => ?_; cases q <;> (try simp [kidsM, hd2, hd3] at hq) <;> (try (have hh : True := hq; clear hh hq))))) | (refine wpcall_dr 0 rfl rfl (num_ok b hb _ (by omega) [6, 5, 7, 9, 13, 10, 11, 8, 12, 5, 6] (by simp) (by simp)) (fun x p1 hx hp1 hp1' => ?_); simp at hx; (have hx2 : x = 6 \/ x = 5 \/ x = 7 \/ x = 9 \/ x = 13 \/ x = 10 \/ x = 11 \/ x = 8 \/ x = 12 := by omega); clear hx; rcases hx2 with rfl | rfl | rfl | rfl | rfl | rfl | rfl | rfl | rfl <;> (simp [kidsM, hd2, hd3]; (try simp (disch := omega) only [wrap64]))) | (refine wpcall_dr 0 rfl rfl (l2Atom_ok b hb s (by omega) _ (by omega)) (fun x1 p1 hx1 hp1 hp1' => ?_); simp [kidsM, hd2, hd3]; (try simp (disch := omega) only [wrap64]); (try (refine gen fun q hq => ?_; cases q <;> (try simp [kidsM, hd2, hd3] at hq) <;> (try (have hh : True := hq; clear hh hq))))) | (refine wpcall_dr 0 rfl rfl (pick_ok b hb _ (by omega) 6 (by omega)) (fun x1 p1 hx1 hp1 hp1' => ?_); simp [kidsM, hd2, hd3]; (try simp (disch := omega) only [wrap64]); (try (refine gen fun q hq => ?_; cases q <;> (try simp [kidsM, hd2, hd3] at hq) <;> (try (have hh : True := hq; clear hh hq))))) | (refine wpcall_dr 0 rfl rfl (ih s _ (by omega) (by omega) (by omega)) (fun x1 p1 hx1 hp1 hp1' => ?_); simp [kidsM, hd2, hd3]; (try simp (disch := omega) only [wrap64]); (try (refine gen fun q hq => ?_; cases q <;> (try simp [kidsM, hd2, hd3] at hq) <;> (try (have hh : True := hq; clear hh hq))))) | (refine wpcall_dr 0 rfl rfl (ih (addM _ s) _ (by omega) (hadd _) (by omega)) (fun x1 p1 hx1 hp1 hp1' => ?_); simp [kidsM, hd2, hd3]; (try simp (disch := omega) only [wrap64]); (try (refine gen fun q hq => ?_; cases q <;> (try simp [kidsM, hd2, hd3] at hq) <;> (try (have hh : True := hq; clear hh hq))))) | (refine wpcall_dr 0 rfl rfl (of_ok b hb _ (by omega) [[120], [121], [122], [102]] (by simp) (by simp)) (fun x p1 hx hp1 hp1' => ?_); (obtain ⟨c, rfl⟩ : ∃ c, x = [c] := by simp at hx; rcases hx with rfl | rfl | rfl | rfl <;> exact ⟨_, rfl⟩); simp) | (refine wpcall_dr 0 rfl rfl (num_ok b hb _ (by omega) [2, 1, 3, 2] (by simp) (by simp)) (fun y p1 hy hp1 hp1' => ?_); simp at hy; simp) | (refine wpcall_dr 0 rfl rfl (l1DrawT_ok b hb _ (by omega) _ (by omega)) (fun t p1 ht hp1 hp1' => ?_); replace ht := shape4 ht; simp) | refine TX.rdF1 (id := 13) mixed (fun _ => false) [6, 8, 10] [1] 7 [0] (by kernel_rfl) fun K hK => ?_ | refine TX.rs (fun _ => false) fun K hK => ?_ | refine TX.rs1 (fun _ => false) fun K hK => ?_ | refine TX.cond rfl (fun hcnd => ?_) (fun hcnd => absurd hcnd (by decide)) | refine TX.cond rfl (fun hcnd => absurd hcnd (by decide)) (fun hcnd => ?_) | refine TX.seq ?_ | refine TX.block ?_ | refine TX.skip ?_ | refine TX.exit ?_ | refine EX.thenN ?_ | refine EX.thenE ?_ | refine EX.blockN ?_ | refine EX.blockE ?_ | refine EX.unrE ?_ | refine EX.againN ?_ | refine TX.unroll ?_
  all_goals (
   refine TX.ret ?_
   repeat' first | refine EX.outR ?_ | refine EX.thenR ?_ | refine EX.blockR ?_ | refine EX.unrR ?_
   apply EX.drA (ks := [])
   case he => exact Or.inr rfl
   case hys => simp [resAs, getAs, Tryz.results140] <;> rfl
   case hv => first | (dsimp only [Av.one]; exact rfl) | dsimp only [Av.one]
   case hx => repeat' first | exact IsT2.var _ | exact IsV.tmv _ | exact IsTm.var _ | exact IsTy.row _ | exact IsTm.row _ | exact IsTys.nil | exact IsTms.nil | exact IsBds.nil | exact IsTys.map _ | exact IsTms.map _ | exact IsBds.map _ | exact IsV.int _ | exact IsV.str _ | exact IsV.bool _ | apply IsV.p2 | apply IsV.p3 | apply IsV.tm | apply IsV.ty | apply IsTm.node | apply IsTy.of | apply IsTys.cons | apply IsTms.cons | apply IsBds.cons | apply IsV.tys | apply IsV.tms | apply IsV.bds | apply IsT2.node | apply IsTys.app | apply IsTms.app | apply IsBds.app
   case hA => exact rfl
   case hks => simp
   case hV => exact rfl
   case h1 => omega
   case h2 => omega
   case hg => (try simp [nTm_mk, nTy_mk, nTyS, nTmS]) <;> omega)
end Go.Proofs.YtflmjilnecanhaaGreatDoor
