/- A part of the library of this seat. -/
import Derived.Test.YtcgmmknfpfdghaaDoorA3
import Derived.Test.YtcgmmknfpfdghaaDoorChecked
set_option linter.unusedVariables false
set_option linter.unusedSimpArgs false
namespace Go.Proofs.YtcgmmknfpfdghaaDoor
attribute [-simp] Go.Av.get_app_len Go.Av.get_app_len0 Go.Av.set_app_len Go.Av.set_app_len0 Go.Av.freeStep Go.Av.exV Go.Av.keepL Go.Av.ups Go.Av.take_app_len Go.Av.MCo.kind_mk Go.Av.MCo.tag_mk Go.Av.MCo.label_mk Go.Av.MCo.kids_mk Go.Av.innVs Go.Av.putBack Go.Av.objCells Go.Av.back Go.Av.resVs Go.Av.one Go.Av.freeStepG Go.Av.exA Go.Av.innAsH Go.Av.AV.innH Go.Av.CV.innH Go.Av.innHs Go.Av.AV.outnH Go.Av.CV.outnH
open Go Go.Av
attribute [local irreducible] T
attribute [local simp] eTy_def eTm_def

@[simp] theorem td_int : td Tryd.prog 3 = some { ag := false, sz := 1, by_ := 8, zero := some [.d (.int .i64 0)], el := none, ar := none, fl := [], ik := some .i64, isS := false, isB := false } := keep (by kernel_rfl)
@[simp] theorem td_bool : td Tryd.prog 4 = some { ag := false, sz := 1, by_ := 1, zero := some [.d (.bool false)], el := none, ar := none, fl := [], ik := none, isS := false, isB := true } := keep (by kernel_rfl)
@[simp] theorem td_string : td Tryd.prog 9 = some { ag := false, sz := 1, by_ := 16, zero := some [.d (.str [])], el := none, ar := none, fl := [], ik := none, isS := true, isB := false } := keep (by kernel_rfl)
theorem mixed : Tryd.prog.follows .mixedOrders = true := by kernel_rfl

end Go.Proofs.YtcgmmknfpfdghaaDoor

namespace Go.Proofs.YtcgmmknfpfdghaaDoor
attribute [-simp] Go.Av.get_app_len Go.Av.get_app_len0 Go.Av.set_app_len Go.Av.set_app_len0 Go.Av.freeStep Go.Av.exV Go.Av.keepL Go.Av.ups Go.Av.take_app_len Go.Av.MCo.kind_mk Go.Av.MCo.tag_mk Go.Av.MCo.label_mk Go.Av.MCo.kids_mk Go.Av.innVs Go.Av.putBack Go.Av.objCells Go.Av.back Go.Av.resVs Go.Av.one Go.Av.freeStepG Go.Av.exA Go.Av.innAsH Go.Av.AV.innH Go.Av.CV.innH Go.Av.innHs Go.Av.AV.outnH Go.Av.CV.outnH
open Go Go.Av
attribute [local irreducible] T
attribute [local simp] eTy_def eTm_def

end Go.Proofs.YtcgmmknfpfdghaaDoor

namespace Go.Proofs.YtcgmmknfpfdghaaDoor
attribute [-simp] Go.Av.get_app_len Go.Av.get_app_len0 Go.Av.set_app_len Go.Av.set_app_len0 Go.Av.freeStep Go.Av.exV Go.Av.keepL Go.Av.ups Go.Av.take_app_len Go.Av.MCo.kind_mk Go.Av.MCo.tag_mk Go.Av.MCo.label_mk Go.Av.MCo.kids_mk Go.Av.innVs Go.Av.putBack Go.Av.objCells Go.Av.back Go.Av.resVs Go.Av.one Go.Av.freeStepG Go.Av.exA Go.Av.innAsH Go.Av.AV.innH Go.Av.CV.innH Go.Av.innHs Go.Av.AV.outnH Go.Av.CV.outnH
open Go Go.Av
attribute [local irreducible] T
attribute [local simp] eTy_def eTm_def

end Go.Proofs.YtcgmmknfpfdghaaDoor

namespace Go.Proofs.YtcgmmknfpfdghaaDoor
attribute [-simp] Go.Av.get_app_len Go.Av.get_app_len0 Go.Av.set_app_len Go.Av.set_app_len0 Go.Av.freeStep Go.Av.exV Go.Av.keepL Go.Av.ups Go.Av.take_app_len Go.Av.innVs Go.Av.putBack Go.Av.objCells Go.Av.back Go.Av.resVs Go.Av.one Go.Av.freeStepG Go.Av.exA Go.Av.innAsH Go.Av.AV.innH Go.Av.CV.innH Go.Av.innHs Go.Av.AV.outnH Go.Av.CV.outnH
open Go Go.Av
attribute [local irreducible] T
attribute [local simp] eCo_def

@[simp] theorem td_implCoercionS : td Tryd.prog 22 = some { ag := false, sz := 1, by_ := 24, zero := some [.nil], el := some 24, ar := none, fl := [], ik := none, isS := false, isB := false } := keep (by kernel_rfl)
@[simp] theorem td_implCoercion : td Tryd.prog 24 = some { ag := true, sz := 4, by_ := 48, zero := some [.d (.int .i64 0), .d (.int .i64 0), .d (.int .i64 0), .nil], el := none, ar := none, fl := [(0, 1), (1, 1), (2, 1), (3, 1)], ik := none, isS := false, isB := false } := keep (by kernel_rfl)

theorem eqCoercionS_step (l : List MCo) (hl : l.length <= 1048576) (h : ∀ t ∈ l, ACalls Tryd.prog 7 [aCo t, aCo t] [] (.b true) [] []) : ACalls Tryd.prog 21 [.l (l.map eCo), .l (l.map eCo)] [] (.b true) [] [] := by
 refine ACalls.of_body Tryd.func21 (by kernel_rfl) rfl (by kernel_rfl) (by simp [Tryd.ntmps21]) (by simp) ?_
 rw [Tryd.ntmps21]
 repeat' first | (refine T.rs (fun _ => false) fun K hK => ?_; (repeat (refine aops_go ?_; simp)); refine aops_end (hK _ ?_); clear hK K) | (refine T.rs1 (fun _ => false) fun K hK => ?_; (repeat (refine aops_go ?_; simp)); refine aops_end (hK _ ?_); clear hK K) | refine T.cond rfl (fun hc => ?_) (fun hc => absurd hc (by decide)) | refine T.cond rfl (fun hc => absurd hc (by decide)) (fun hc => ?_) | refine T.seq ?_ | refine T.block ?_ | refine T.skip ?_ | refine T.exit ?_
 refine T.loopF (fun p : Nat => ⟨[(0, .l (l.map eCo)), (1, .l (l.map eCo)), (5, .i p)], [], []⟩) (fun p => l.length + 1 - p) (fun p => p <= l.length) (fun p hp => ?_) 0 (by simp) (by simp)
 by_cases hlt : p < l.length
 ·obtain ⟨t, ht⟩ := get_lt hlt
  have htm : t ∈ l := List.mem_of_getElem? ht
  have hgt : l[p] = t := by rw [List.getElem?_eq_getElem hlt] at ht; exact Option.some.inj ht
  repeat' first | (refine T.rs (fun _ => false) fun K hK => ?_; (repeat (refine aops_go ?_; simp [hlt])); refine aops_end (hK _ ?_); clear hK K) | (refine T.rs1 (fun _ => false) fun K hK => ?_; (repeat (refine aops_go ?_; simp [hlt])); refine aops_end (hK _ ?_); clear hK K) | refine T.cond rfl (fun hc => ?_) (fun hc => absurd hc (by decide)) | refine T.cond rfl (fun hc => absurd hc (by decide)) (fun hc => ?_) | refine T.seq ?_ | refine T.block ?_ | refine T.skip ?_ | refine T.exit ?_
  refine T.rd1 mixed (fun _ => false) [] (by kernel_rfl) fun K hK => ?_
  repeat (refine aopsD_go ?_; simp [hlt, hgt])
  refine wpcall_pure (by simp) (h t htm) ?_
  simp
  repeat (refine aopsD_go ?_; simp)
  refine aopsD_end (hK _ ?_)
  clear hK K
  repeat' first | (refine T.rs (fun _ => false) fun K hK => ?_; (repeat (refine aops_go ?_; simp)); refine aops_end (hK _ ?_); clear hK K) | (refine T.rs1 (fun _ => false) fun K hK => ?_; (repeat (refine aops_go ?_; simp)); refine aops_end (hK _ ?_); clear hK K) | refine T.cond rfl (fun hc => ?_) (fun hc => absurd hc (by decide)) | refine T.cond rfl (fun hc => absurd hc (by decide)) (fun hc => ?_) | refine T.seq ?_ | refine T.block ?_ | refine T.skip ?_ | refine T.exit ?_
  refine ⟨p + 1, by dsimp only; omega, by omega, ?_⟩
  have hw2 : IntKind.i64.wrap ((p : Int) + 1) = p + 1 := wrap64 (by omega) (by omega)
  simp [hw2]
 ·have hp' : p = l.length := by omega
  subst hp'
  repeat' first | (refine T.rs (fun _ => false) fun K hK => ?_; (repeat (refine aops_go ?_; simp [hlt])); refine aops_end (hK _ ?_); clear hK K) | (refine T.rs1 (fun _ => false) fun K hK => ?_; (repeat (refine aops_go ?_; simp [hlt])); refine aops_end (hK _ ?_); clear hK K) | refine T.cond rfl (fun hc => ?_) (fun hc => absurd hc (by decide)) | refine T.cond rfl (fun hc => absurd hc (by decide)) (fun hc => ?_) | refine T.seq ?_ | refine T.block ?_ | refine T.skip ?_ | refine T.exit ?_
  refine T.ret (Done.data (Or.inr rfl) ?_ ?_) <;> simp [Tryd.results21]

theorem eqCoercion_step (t : MCo) (h : ACalls Tryd.prog 21 [.l (t.kids.map eCo), .l (t.kids.map eCo)] [] (.b true) [] []) : ACalls Tryd.prog 7 [aCo t, aCo t] [] (.b true) [] [] := by
 refine ACalls.of_body Tryd.func7 (by kernel_rfl) rfl (by kernel_rfl) (by simp [Tryd.ntmps7]) (by simp) ?_
 rw [Tryd.ntmps7]
 repeat' first | (refine T.rs (fun _ => false) fun K hK => ?_; (repeat (refine aops_go ?_; simp)); refine aops_end (hK _ ?_); clear hK K) | (refine T.rs1 (fun _ => false) fun K hK => ?_; (repeat (refine aops_go ?_; simp)); refine aops_end (hK _ ?_); clear hK K) | refine T.cond rfl (fun hc => ?_) (fun hc => absurd hc (by decide)) | refine T.cond rfl (fun hc => absurd hc (by decide)) (fun hc => ?_) | refine T.seq ?_ | refine T.block ?_ | refine T.skip ?_ | refine T.exit ?_
 refine T.rs1 (fun _ => false) fun K hK => ?_
 repeat (refine aops_go ?_; simp)
 refine wpcall_pure (by simp) (h) ?_
 simp
 repeat (refine aops_go ?_; simp)
 refine aops_end (hK _ ?_)
 clear hK K
 repeat' first | (refine T.rs (fun _ => false) fun K hK => ?_; (repeat (refine aops_go ?_; simp)); refine aops_end (hK _ ?_); clear hK K) | (refine T.rs1 (fun _ => false) fun K hK => ?_; (repeat (refine aops_go ?_; simp)); refine aops_end (hK _ ?_); clear hK K) | refine T.cond rfl (fun hc => ?_) (fun hc => absurd hc (by decide)) | refine T.cond rfl (fun hc => absurd hc (by decide)) (fun hc => ?_) | refine T.seq ?_ | refine T.block ?_ | refine T.skip ?_ | refine T.exit ?_
 refine T.ret (Done.data (Or.inr rfl) ?_ ?_) <;> simp [Tryd.results7]

theorem eqCoercion_ok : (t : MCo) -> nCo t <= 1048576 -> ACalls Tryd.prog 7 [aCo t, aCo t] [] (.b true) [] []
 | .mk k tg lb l, hn => by
  rw [nCo_def] at hn
  have hl := nCoS_len l
  exact eqCoercion_step _ (eqCoercionS_step l (by simp at hn; omega) (fun t ht => eqCoercion_ok t (by have := nCoS_mem ht; simp at hn; omega)))
termination_by t => SizeOf.sizeOf t
decreasing_by have := List.sizeOf_lt_of_mem ht; simp; omega

end Go.Proofs.YtcgmmknfpfdghaaDoor

namespace Go.Proofs.YtcgmmknfpfdghaaDoor
attribute [-simp] Go.Av.freeStep Go.Av.exV Go.Av.keepL Go.Av.ups Go.Av.take_app_len Go.Av.MCo.kind_mk Go.Av.MCo.tag_mk Go.Av.MCo.label_mk Go.Av.MCo.kids_mk Go.Av.innVs Go.Av.putBack Go.Av.objCells Go.Av.back Go.Av.resVs Go.Av.one Go.Av.freeStepG Go.Av.exA Go.Av.innAsH Go.Av.AV.innH Go.Av.CV.innH Go.Av.innHs Go.Av.AV.outnH Go.Av.CV.outnH
open Go Go.Av
attribute [local irreducible] T
attribute [local simp] eTy_def eTm_def

theorem inM_ok (x lo hi : Int) : ACalls Tryd.prog 56 [.i x, .i lo, .i hi] [] (.b (inM x lo hi)) [] [] := by
 refine ACalls.of_body Tryd.func56 (by kernel_rfl) rfl (by kernel_rfl) (by simp [Tryd.ntmps56]) (by simp) ?_
 rw [Tryd.ntmps56]
 repeat' first | (refine aops_end (hK _ ?_); clear hK K) | (refine aops_go ?_; simp; (try (refine gen fun q hq => ?_; cases q <;> (try simp at hq)))) | refine T.r0 fun K hK => ?_ | refine T.r1 fun K hK => ?_ | refine T.cond rfl (fun hc => ?_) (fun hc => absurd hc (by decide)) | refine T.cond rfl (fun hc => absurd hc (by decide)) (fun hc => ?_) | refine T.seq ?_ | refine T.block ?_ | refine T.skip ?_ | refine T.exit ?_
 all_goals (refine T.ret (Done.data (Or.inr rfl) ?_ ?_) <;> simp [Tryd.results56, inM, *] <;> omega)

theorem isLabel_ok (n : Int) : ACalls Tryd.prog 66 [.i n] [] (.b (labM n)) [] [] := by
 refine ACalls.of_body Tryd.func66 (by kernel_rfl) rfl (by kernel_rfl) (by simp [Tryd.ntmps66]) (by simp) ?_
 rw [Tryd.ntmps66]
 repeat' first | (refine T.rs (fun _ => false) fun K hK => ?_; (repeat (refine aops_go ?_; simp)); refine aops_end (hK _ ?_); clear hK K) | (refine T.rs1 (fun _ => false) fun K hK => ?_; (repeat (refine aops_go ?_; simp)); refine aops_end (hK _ ?_); clear hK K) | refine T.cond rfl (fun hc => ?_) (fun hc => absurd hc (by decide)) | refine T.cond rfl (fun hc => absurd hc (by decide)) (fun hc => ?_) | refine T.seq ?_ | refine T.block ?_ | refine T.skip ?_ | refine T.exit ?_
 refine T.rs1 (fun _ => false) fun K hK => ?_
 repeat (refine aops_go ?_; simp)
 refine wpcall_pure (by simp) (inM_ok n 1 99) ?_
 simp
 refine Ops.gen fun q hq => ?_
 cases q
 ·repeat (refine aops_go ?_; simp)
  refine wpcall_pure (by simp) (inM_ok n (-99) (-1)) ?_
  simp
  repeat' first | (refine aops_end (hK _ ?_); clear hK K) | (refine aops_go ?_; simp; (try (refine gen fun q hq => ?_; cases q <;> (try simp at hq)))) | refine T.r0 fun K hK => ?_ | refine T.r1 fun K hK => ?_ | refine T.cond rfl (fun hc => ?_) (fun hc => absurd hc (by decide)) | refine T.cond rfl (fun hc => absurd hc (by decide)) (fun hc => ?_) | refine T.seq ?_ | refine T.block ?_ | refine T.skip ?_ | refine T.exit ?_
  all_goals (refine T.ret (Done.data (Or.inr rfl) ?_ ?_) <;> simp [Tryd.results66, labM, *])
 ·repeat' first | (refine aops_end (hK _ ?_); clear hK K) | (refine aops_go ?_; simp; (try (refine gen fun q hq => ?_; cases q <;> (try simp at hq)))) | refine T.r0 fun K hK => ?_ | refine T.r1 fun K hK => ?_ | refine T.cond rfl (fun hc => ?_) (fun hc => absurd hc (by decide)) | refine T.cond rfl (fun hc => absurd hc (by decide)) (fun hc => ?_) | refine T.seq ?_ | refine T.block ?_ | refine T.skip ?_ | refine T.exit ?_
  all_goals (refine T.ret (Done.data (Or.inr rfl) ?_ ?_) <;> simp [Tryd.results66, labM, *])

@[simp] theorem td_intS : td Tryd.prog 95 = some { ag := false, sz := 1, by_ := 24, zero := some [.nil], el := some 3, ar := none, fl := [], ik := none, isS := false, isB := false } := keep (by kernel_rfl)

end Go.Proofs.YtcgmmknfpfdghaaDoor

namespace Go.Proofs.YtcgmmknfpfdghaaDoor
attribute [-simp] Go.Av.freeStep Go.Av.exV Go.Av.keepL Go.Av.ups Go.Av.take_app_len Go.Av.MCo.kind_mk Go.Av.MCo.tag_mk Go.Av.MCo.label_mk Go.Av.MCo.kids_mk Go.Av.innVs Go.Av.putBack Go.Av.objCells Go.Av.back Go.Av.resVs Go.Av.one Go.Av.freeStepG Go.Av.exA Go.Av.innAsH Go.Av.AV.innH Go.Av.CV.innH Go.Av.innHs Go.Av.AV.outnH Go.Av.CV.outnH
open Go Go.Av
attribute [local irreducible] T ACalls eTy eTm MTy.kind MTy.kids MTm.kind MTm.name MTm.num MTm.ty MTm.fr MTm.label MTm.kids
attribute [local simp] eTy_def eTm_def
set_option maxHeartbeats 4000000

end Go.Proofs.YtcgmmknfpfdghaaDoor

namespace Go.Proofs.YtcgmmknfpfdghaaDoor
attribute [-simp] Go.Av.freeStep Go.Av.exV Go.Av.keepL Go.Av.ups Go.Av.take_app_len Go.Av.MCo.kind_mk Go.Av.MCo.tag_mk Go.Av.MCo.label_mk Go.Av.MCo.kids_mk Go.Av.innVs Go.Av.putBack Go.Av.objCells Go.Av.back Go.Av.resVs Go.Av.one Go.Av.freeStepG Go.Av.exA Go.Av.innAsH Go.Av.AV.innH Go.Av.CV.innH Go.Av.innHs Go.Av.AV.outnH Go.Av.CV.outnH
open Go Go.Av
attribute [local irreducible] T ACalls eTy eTm MTy.kind MTy.kids MTm.kind MTm.name MTm.num MTm.ty MTm.fr MTm.label MTm.kids
attribute [local simp] eTy_def eTm_def
set_option maxHeartbeats 4000000

end Go.Proofs.YtcgmmknfpfdghaaDoor

namespace Go.Proofs.YtcgmmknfpfdghaaDoor
attribute [-simp] Go.Av.freeStep Go.Av.exV Go.Av.keepL Go.Av.ups Go.Av.take_app_len Go.Av.MCo.kind_mk Go.Av.MCo.tag_mk Go.Av.MCo.label_mk Go.Av.MCo.kids_mk Go.Av.innVs Go.Av.putBack Go.Av.objCells Go.Av.back Go.Av.resVs Go.Av.one Go.Av.freeStepG Go.Av.exA Go.Av.innAsH Go.Av.AV.innH Go.Av.CV.innH Go.Av.innHs Go.Av.AV.outnH Go.Av.CV.outnH
open Go Go.Av
attribute [local irreducible] T ACalls eTy eTm MTy.kind MTy.kids MTm.kind MTm.name MTm.num MTm.ty MTm.fr MTm.label MTm.kids
attribute [local simp] eTy_def eTm_def
set_option maxHeartbeats 4000000

end Go.Proofs.YtcgmmknfpfdghaaDoor

namespace Go.Proofs.YtcgmmknfpfdghaaDoor
attribute [-simp] Go.Av.freeStep Go.Av.exV Go.Av.keepL Go.Av.ups Go.Av.take_app_len Go.Av.MCo.kind_mk Go.Av.MCo.tag_mk Go.Av.MCo.label_mk Go.Av.MCo.kids_mk Go.Av.innVs Go.Av.putBack Go.Av.objCells Go.Av.back Go.Av.resVs Go.Av.one Go.Av.freeStepG Go.Av.exA Go.Av.innAsH Go.Av.AV.innH Go.Av.CV.innH Go.Av.innHs Go.Av.AV.outnH Go.Av.CV.outnH
open Go Go.Av
attribute [local irreducible] T ACalls eTy eTm MTy.kind MTy.kids MTm.kind MTm.name MTm.num MTm.ty MTm.fr MTm.label MTm.kids
attribute [local simp] eTy_def eTm_def
set_option maxHeartbeats 4000000

end Go.Proofs.YtcgmmknfpfdghaaDoor

namespace Go.Proofs.YtcgmmknfpfdghaaDoor
attribute [-simp] Go.Av.freeStep Go.Av.exV Go.Av.keepL Go.Av.ups Go.Av.take_app_len Go.Av.MCo.kind_mk Go.Av.MCo.tag_mk Go.Av.MCo.label_mk Go.Av.MCo.kids_mk Go.Av.innVs Go.Av.putBack Go.Av.objCells Go.Av.back Go.Av.resVs Go.Av.one Go.Av.freeStepG Go.Av.exA Go.Av.innAsH Go.Av.AV.innH Go.Av.CV.innH Go.Av.innHs Go.Av.AV.outnH Go.Av.CV.outnH
open Go Go.Av
attribute [local irreducible] T ACalls eTy eTm MTy.kind MTy.kids MTm.kind MTm.name MTm.num MTm.ty MTm.fr MTm.label MTm.kids
attribute [local simp] eTy_def eTm_def
set_option maxHeartbeats 4000000

theorem l1Abs_ok (k : Int) : ACalls Tryd.prog 98 [.i k] [] (.i (if k < -99 \/ 99 < k then 0 else if k < 0 then -k else k)) [] [] := by
 refine ACalls.of_body Tryd.func98 (by kernel_rfl) rfl (by kernel_rfl) (by simp [Tryd.ntmps98]) (by simp) ?_
 rw [Tryd.ntmps98]
 repeat' first | (refine aops_end (hK _ ?_); clear hK K) | (refine aops_go ?_; simp; (try simp (disch := omega) only [wrap64]); (try (refine gen2 ?_ ?_ <;> intro hq <;> try simp at hq))) | (refine T.ret (Done.data (Or.inr rfl) ?_ ?_) <;> simp [Tryd.results98, *] <;> omega) | refine T.r0 fun K hK => ?_ | refine T.ct rfl ?_ | refine T.cf rfl ?_ | refine T.seq ?_ | refine T.skip ?_

end Go.Proofs.YtcgmmknfpfdghaaDoor

namespace Go.Proofs.YtcgmmknfpfdghaaDoor
attribute [-simp] Go.Av.freeStep Go.Av.exV Go.Av.keepL Go.Av.ups Go.Av.take_app_len Go.Av.MCo.kind_mk Go.Av.MCo.tag_mk Go.Av.MCo.label_mk Go.Av.MCo.kids_mk Go.Av.innVs Go.Av.putBack Go.Av.objCells Go.Av.back Go.Av.resVs Go.Av.one Go.Av.freeStepG Go.Av.exA Go.Av.innAsH Go.Av.AV.innH Go.Av.CV.innH Go.Av.innHs Go.Av.AV.outnH Go.Av.CV.outnH
open Go Go.Av
attribute [local irreducible] T ACalls eTy eTm MTy.kind MTy.kids MTm.kind MTm.name MTm.num MTm.ty MTm.fr MTm.label MTm.kids
attribute [local simp] eTy_def eTm_def
set_option maxHeartbeats 4000000

end Go.Proofs.YtcgmmknfpfdghaaDoor

namespace Go.Proofs.YtcgmmknfpfdghaaDoor
attribute [-simp] Go.Av.freeStep Go.Av.exV Go.Av.keepL Go.Av.ups Go.Av.take_app_len Go.Av.MCo.kind_mk Go.Av.MCo.tag_mk Go.Av.MCo.label_mk Go.Av.MCo.kids_mk Go.Av.innVs Go.Av.putBack Go.Av.objCells Go.Av.back Go.Av.resVs Go.Av.one Go.Av.freeStepG Go.Av.exA Go.Av.innAsH Go.Av.AV.innH Go.Av.CV.innH Go.Av.innHs Go.Av.AV.outnH Go.Av.CV.outnH
open Go Go.Av
attribute [local irreducible] T ACalls eTy eTm MTy.kind MTy.kids MTm.kind MTm.name MTm.num MTm.ty MTm.fr MTm.label MTm.kids
attribute [local simp] eTy_def eTm_def
set_option maxHeartbeats 4000000

end Go.Proofs.YtcgmmknfpfdghaaDoor
