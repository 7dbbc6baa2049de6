/- A part of the library of this seat. -/
import Derived.Test.YtcmdpggdaiinpaaGreatDoorQ4
import Derived.Test.YtcmdpggdaiinpaaGreatDoorChecked
set_option linter.unusedVariables false
set_option linter.unusedSimpArgs false
namespace Go.Proofs.YtcmdpggdaiinpaaGreatDoor
attribute [-simp] Go.Av.get_app_len Go.Av.get_app_len0 Go.Av.set_app_len Go.Av.set_app_len0 Go.Av.freeStep Go.Av.exV Go.Av.keepL Go.Av.ups Go.Av.take_app_len Go.Av.MCo.kind_mk Go.Av.MCo.tag_mk Go.Av.MCo.label_mk Go.Av.MCo.kids_mk Go.Av.innVs Go.Av.putBack Go.Av.objCells Go.Av.back Go.Av.resVs Go.Av.one Go.Av.freeStepG Go.Av.exA Go.Av.innAsH Go.Av.AV.innH Go.Av.CV.innH Go.Av.innHs Go.Av.AV.outnH Go.Av.CV.outnH
open Go Go.Av
attribute [local irreducible] T
attribute [local simp] eTy_def eTm_def

@[simp] theorem td_int : td Tryz.prog 3 = some { ag := false, sz := 1, by_ := 8, zero := some [.d (.int .i64 0)], el := none, ar := none, fl := [], ik := some .i64, isS := false, isB := false } := keep (by kernel_rfl)
@[simp] theorem td_bool : td Tryz.prog 4 = some { ag := false, sz := 1, by_ := 1, zero := some [.d (.bool false)], el := none, ar := none, fl := [], ik := none, isS := false, isB := true } := keep (by kernel_rfl)
@[simp] theorem td_string : td Tryz.prog 9 = some { ag := false, sz := 1, by_ := 16, zero := some [.d (.str [])], el := none, ar := none, fl := [], ik := none, isS := true, isB := false } := keep (by kernel_rfl)
@[simp] theorem td_implTypeS : td Tryz.prog 76 = some { ag := false, sz := 1, by_ := 24, zero := some [.nil], el := some 78, ar := none, fl := [], ik := none, isS := false, isB := false } := keep (by kernel_rfl)
@[simp] theorem td_implType : td Tryz.prog 78 = some { ag := true, sz := 2, by_ := 32, zero := some [.d (.int .i64 0), .nil], el := none, ar := none, fl := [(0, 1), (1, 1)], ik := none, isS := false, isB := false } := keep (by kernel_rfl)
@[simp] theorem td_implTermS : td Tryz.prog 79 = some { ag := false, sz := 1, by_ := 24, zero := some [.nil], el := some 81, ar := none, fl := [], ik := none, isS := false, isB := false } := keep (by kernel_rfl)
@[simp] theorem td_implTerm : td Tryz.prog 81 = some { ag := true, sz := 9, by_ := 128, zero := some [.d (.int .i64 0), .d (.str []), .d (.int .i64 0), .d (.int .i64 0), .nil, .d (.int .i64 0), .nil, .d (.int .i64 0), .nil], el := none, ar := none, fl := [(0, 1), (1, 1), (2, 1), (3, 2), (5, 2), (7, 1), (8, 1)], ik := none, isS := false, isB := false } := keep (by kernel_rfl)
theorem mixed : Tryz.prog.follows .mixedOrders = true := by kernel_rfl

end Go.Proofs.YtcmdpggdaiinpaaGreatDoor

namespace Go.Proofs.YtcmdpggdaiinpaaGreatDoor
attribute [-simp] Go.Av.get_app_len Go.Av.get_app_len0 Go.Av.set_app_len Go.Av.set_app_len0 Go.Av.freeStep Go.Av.exV Go.Av.keepL Go.Av.ups Go.Av.take_app_len Go.Av.MCo.kind_mk Go.Av.MCo.tag_mk Go.Av.MCo.label_mk Go.Av.MCo.kids_mk Go.Av.innVs Go.Av.putBack Go.Av.objCells Go.Av.back Go.Av.resVs Go.Av.one Go.Av.freeStepG Go.Av.exA Go.Av.innAsH Go.Av.AV.innH Go.Av.CV.innH Go.Av.innHs Go.Av.AV.outnH Go.Av.CV.outnH
open Go Go.Av
attribute [local irreducible] T
attribute [local simp] eTy_def eTm_def

end Go.Proofs.YtcmdpggdaiinpaaGreatDoor

namespace Go.Proofs.YtcmdpggdaiinpaaGreatDoor
attribute [-simp] Go.Av.get_app_len Go.Av.get_app_len0 Go.Av.set_app_len Go.Av.set_app_len0 Go.Av.freeStep Go.Av.exV Go.Av.keepL Go.Av.ups Go.Av.take_app_len Go.Av.MCo.kind_mk Go.Av.MCo.tag_mk Go.Av.MCo.label_mk Go.Av.MCo.kids_mk Go.Av.innVs Go.Av.putBack Go.Av.objCells Go.Av.back Go.Av.resVs Go.Av.one Go.Av.freeStepG Go.Av.exA Go.Av.innAsH Go.Av.AV.innH Go.Av.CV.innH Go.Av.innHs Go.Av.AV.outnH Go.Av.CV.outnH
open Go Go.Av
attribute [local irreducible] T
attribute [local simp] eTy_def eTm_def

end Go.Proofs.YtcmdpggdaiinpaaGreatDoor

namespace Go.Proofs.YtcmdpggdaiinpaaGreatDoor
attribute [-simp] Go.Av.freeStep Go.Av.exV Go.Av.keepL Go.Av.ups Go.Av.take_app_len Go.Av.MCo.kind_mk Go.Av.MCo.tag_mk Go.Av.MCo.label_mk Go.Av.MCo.kids_mk Go.Av.innVs Go.Av.putBack Go.Av.objCells Go.Av.back Go.Av.resVs Go.Av.one Go.Av.freeStepG Go.Av.exA Go.Av.innAsH Go.Av.AV.innH Go.Av.CV.innH Go.Av.innHs Go.Av.AV.outnH Go.Av.CV.outnH
open Go Go.Av
attribute [local irreducible] T
attribute [local simp] eTy_def eTm_def

theorem inM_ok (x lo hi : Int) : ACalls Tryz.prog 34 [.i x, .i lo, .i hi] [] (.b (inM x lo hi)) [] [] := by
 refine ACalls.of_body Tryz.func34 (by kernel_rfl) rfl (by kernel_rfl) (by simp [Tryz.ntmps34]) (by simp) ?_
 rw [Tryz.ntmps34]
 repeat' first | (refine aops_end (hK _ ?_); clear hK K) | (refine aops_go ?_; simp; (try (refine gen fun q hq => ?_; cases q <;> (try simp at hq)))) | refine T.r0 fun K hK => ?_ | refine T.r1 fun K hK => ?_ | refine T.cond rfl (fun hc => ?_) (fun hc => absurd hc (by decide)) | refine T.cond rfl (fun hc => absurd hc (by decide)) (fun hc => ?_) | refine T.seq ?_ | refine T.block ?_ | refine T.skip ?_ | refine T.exit ?_
 all_goals (refine T.ret (Done.data (Or.inr rfl) ?_ ?_) <;> simp [Tryz.results34, inM, *] <;> omega)

theorem l2Name_ok (s : List UInt8) : ACalls Tryz.prog 164 [.s s] [] (.b (nameM s)) [] [] := by
 refine ACalls.of_body Tryz.func164 (by kernel_rfl) rfl (by kernel_rfl) (by simp [Tryz.ntmps164]) (by simp) ?_
 rw [Tryz.ntmps164]
 match s with
 | [] =>
  repeat' first | (refine aops_end (hK _ ?_); clear hK K) | (refine aops_go ?_; simp; (try (refine gen fun q hq => ?_; cases q <;> (try simp at hq)))) | refine T.r0 fun K hK => ?_ | refine T.r1 fun K hK => ?_ | refine T.cond rfl (fun hc => ?_) (fun hc => absurd hc (by decide)) | refine T.cond rfl (fun hc => absurd hc (by decide)) (fun hc => ?_) | refine T.seq ?_ | refine T.block ?_ | refine T.skip ?_ | refine T.exit ?_
  all_goals (refine T.ret (Done.data (Or.inr rfl) ?_ ?_) <;> simp [Tryz.results164, nameM])
 | [c] =>
  repeat' first | (refine aops_end (hK _ ?_); clear hK K) | (refine aops_go ?_; simp; (try (refine gen fun q hq => ?_; cases q <;> (try simp at hq)))) | refine T.r0 fun K hK => ?_ | refine T.r1 fun K hK => ?_ | refine T.cond rfl (fun hc => ?_) (fun hc => absurd hc (by decide)) | refine T.cond rfl (fun hc => absurd hc (by decide)) (fun hc => ?_) | refine T.seq ?_ | refine T.block ?_ | refine T.skip ?_ | refine T.exit ?_
  all_goals (refine T.ret (Done.data (Or.inr rfl) ?_ ?_) <;> simp [Tryz.results164, nameM, *] <;> omega)
 | c :: d :: r =>
  have h2 : ¬ ((r.length : Int) + 1 + 1 = 1) := by omega
  repeat' first | (refine aops_end (hK _ ?_); clear hK K) | (refine aops_go ?_; simp [h2, beq_f h2]; (try (refine gen fun q hq => ?_; cases q <;> (try simp [h2] at hq)))) | refine T.r0 fun K hK => ?_ | refine T.r1 fun K hK => ?_ | refine T.cond rfl (fun hc => ?_) (fun hc => absurd hc (by decide)) | refine T.cond rfl (fun hc => absurd hc (by decide)) (fun hc => ?_) | refine T.seq ?_ | refine T.block ?_ | refine T.skip ?_ | refine T.exit ?_
  all_goals (refine T.ret (Done.data (Or.inr rfl) ?_ ?_) <;> simp [Tryz.results164, nameM])

theorem l2None_ok (t : MTy) : ACalls Tryz.prog 167 [aTy t] [] (.b (noTyM t)) [] [] := by
 refine ACalls.of_body Tryz.func167 (by kernel_rfl) rfl (by kernel_rfl) (by simp [Tryz.ntmps167]) (by simp) ?_
 rw [Tryz.ntmps167]
 repeat' first | (refine aops_end (hK _ ?_); clear hK K) | (refine aops_go ?_; simp; (try (refine gen fun q hq => ?_; cases q <;> (try simp at hq)))) | refine T.r0 fun K hK => ?_ | refine T.r1 fun K hK => ?_ | refine T.cond rfl (fun hc => ?_) (fun hc => absurd hc (by decide)) | refine T.cond rfl (fun hc => absurd hc (by decide)) (fun hc => ?_) | refine T.seq ?_ | refine T.block ?_ | refine T.skip ?_ | refine T.exit ?_
 all_goals (refine T.ret (Done.data (Or.inr rfl) ?_ ?_) <;> simp [Tryz.results167, noTyM, *])

theorem l2Kids_ok (k : Int) : ACalls Tryz.prog 129 [.i k] [] (.i (kidsM k)) [] [] := by
 refine ACalls.of_body Tryz.func129 (by kernel_rfl) rfl (by kernel_rfl) (by simp [Tryz.ntmps129]) (by simp) ?_
 rw [Tryz.ntmps129]
 repeat' first | (refine aops_end (hK _ ?_); clear hK K) | (refine aops_go ?_; simp; (try (refine gen fun q hq => ?_; cases q <;> (try simp at hq)))) | refine T.r0 fun K hK => ?_ | refine T.r1 fun K hK => ?_ | refine T.cond rfl (fun hc => ?_) (fun hc => absurd hc (by decide)) | refine T.cond rfl (fun hc => absurd hc (by decide)) (fun hc => ?_) | refine T.seq ?_ | refine T.block ?_ | refine T.skip ?_ | refine T.exit ?_
 all_goals (refine T.ret (Done.data (Or.inr rfl) ?_ ?_) <;> simp [Tryz.results129, kidsM, *])

@[simp] theorem td_intS : td Tryz.prog 86 = some { ag := false, sz := 1, by_ := 24, zero := some [.nil], el := some 3, ar := none, fl := [], ik := none, isS := false, isB := false } := keep (by kernel_rfl)

end Go.Proofs.YtcmdpggdaiinpaaGreatDoor

namespace Go.Proofs.YtcmdpggdaiinpaaGreatDoor
attribute [-simp] Go.Av.freeStep Go.Av.exV Go.Av.keepL Go.Av.ups Go.Av.take_app_len Go.Av.MCo.kind_mk Go.Av.MCo.tag_mk Go.Av.MCo.label_mk Go.Av.MCo.kids_mk Go.Av.innVs Go.Av.putBack Go.Av.objCells Go.Av.back Go.Av.resVs Go.Av.one Go.Av.freeStepG Go.Av.exA Go.Av.innAsH Go.Av.AV.innH Go.Av.CV.innH Go.Av.innHs Go.Av.AV.outnH Go.Av.CV.outnH
open Go Go.Av
attribute [local irreducible] T ACalls eTy eTm MTy.kind MTy.kids MTm.kind MTm.name MTm.num MTm.ty MTm.fr MTm.label MTm.kids
attribute [local simp] eTy_def eTm_def
set_option maxHeartbeats 4000000

theorem l1Kids_ok (k : Int) : ACalls Tryz.prog 125 [.i k] [] (.i (tyKids k)) [] [] := by
 refine ACalls.of_body Tryz.func125 (by kernel_rfl) rfl (by kernel_rfl) (by simp [Tryz.ntmps125]) (by simp) ?_
 rw [Tryz.ntmps125]
 repeat' first | (refine aops_end (hK _ ?_); clear hK K) | (refine aops_go ?_; simp; (try (refine gen2 ?_ ?_ <;> intro hq <;> try simp at hq))) | (refine T.ret (Done.data (Or.inr rfl) ?_ ?_) <;> simp [Tryz.results125, tyKids, *] <;> omega) | refine T.r0 fun K hK => ?_ | refine T.r1 fun K hK => ?_ | refine T.ct rfl ?_ | refine T.cf rfl ?_ | refine T.seq ?_ | refine T.block ?_ | refine T.skip ?_

theorem l1Shape_ok : ∀ (d : Nat) (t : MTy), d <= 1000 -> nTy t <= 1099511627776 -> ACalls Tryz.prog 149 [aTy t, .i d] [] (.b (shapeTy d t)) [] []
 | 0, t, _, _ => by
  refine ACalls.of_body Tryz.func149 (by kernel_rfl) rfl (by kernel_rfl) (by simp [Tryz.ntmps149]) (by simp) ?_
  rw [Tryz.ntmps149]
  repeat' first | ((first | refine aops_end (hK _ ?_) | refine aopsD_end (hK _ ?_)); clear hK K) | ((first | refine aops_go ?_ | refine aopsD_go ?_); simp; (try (refine gen2 ?_ ?_ <;> intro hq <;> (try simp at hq) <;> try (have : True := hq; clear this hq)))) | (refine T.ret (Done.data (Or.inr rfl) ?_ ?_) <;> simp [Tryz.results149, shapeTy] <;> omega) | refine T.r0 fun K hK => ?_ | refine T.rd mixed (fun _ => false) [] (by kernel_rfl) fun K hK => ?_ | refine T.ct rfl ?_ | refine T.seq ?_
 | d + 1, t, hd, hn => by
  rw [nTy_def] at hn
  have hlen := nTyS_len t.kids
  have hd1 : ¬ ((d : Int) + 1 < 1) := by omega
  refine ACalls.of_body Tryz.func149 (by kernel_rfl) rfl (by kernel_rfl) (by simp [Tryz.ntmps149]) (by simp) ?_
  rw [Tryz.ntmps149]
  repeat' first | ((first | refine aops_end (hK _ ?_) | refine aopsD_end (hK _ ?_)); clear hK K) | ((first | (first | refine aops_go ?_ | refine aopsD_go ?_) | refine wpcall_pure rfl (l1Kids_ok _) ?_); simp [hd1]; (try (refine gen2 ?_ ?_ <;> intro hq <;> (try simp [hd1] at hq) <;> try (have : True := hq; clear this hq)))) | (refine T.ret (Done.data (Or.inr rfl) ?_ ?_) <;> simp [Tryz.results149, shapeTy, *] <;> omega) | refine T.r0 fun K hK => ?_ | refine T.rd mixed (fun _ => false) [] (by kernel_rfl) fun K hK => ?_ | refine T.ct rfl ?_ | refine T.cf rfl ?_ | refine T.seq ?_ | refine T.block ?_ | refine T.skip ?_
  obtain ⟨R, hR⟩ : ∃ R, t.kids.all (shapeTy d) = R := ⟨_, rfl⟩
  rw [show shapeTy (d + 1) t = R by simp [shapeTy, hq, hR]]
  refine T.loopF (fun p : Nat => ⟨[(1, .i (d + 1)), (2, .c (.ptr 0 0)), (5, .i p)], [(aTy t).cells], []⟩) (fun p => t.kids.length + 1 - p) (fun p => p <= t.kids.length /\ (t.kids.drop p).all (shapeTy d) = R) (fun p hp => ?_) 0 (by simpa using hR) (by simp)
  obtain ⟨hi, he⟩ := hp
  by_cases hlt : p < t.kids.length
  ·obtain ⟨u, ht⟩ := get_lt hlt
   have htm : u ∈ t.kids := List.mem_of_getElem? ht
   have hgt : t.kids[p] = u := by rw [List.getElem?_eq_getElem hlt] at ht; exact Option.some.inj ht
   have hdr : t.kids.drop p = u :: t.kids.drop (p + 1) := by rw [List.drop_eq_getElem_cons hlt, hgt]
   have hu := l1Shape_ok d u (by omega) (by have := nTyS_mem htm; omega)
   rw [hdr, List.all_cons] at he
   cases hb : shapeTy d u <;> rw [hb] at hu he
   ·repeat' first | (refine aops_end (hK _ ?_); clear hK K) | (refine aops_go ?_; simp [hlt, hgt]; (try simp (disch := omega) only [wrap64]); (try (refine gen2 ?_ ?_ <;> intro hq <;> (try simp [hlt, hgt] at hq) <;> try (have : True := hq; clear this hq)))) | (refine wpcall_pure rfl (hu) ?_; simp [hlt, hgt]; (try simp (disch := omega) only [wrap64]); (try (refine gen2 ?_ ?_ <;> intro hq <;> (try simp [hlt, hgt] at hq) <;> try (have : True := hq; clear this hq)))) | (refine T.ret (Done.data (Or.inr rfl) ?_ ?_) <;> simp [Tryz.results149, <- he] <;> omega) | refine T.r0 fun K hK => ?_ | refine T.ct rfl ?_ | refine T.seq ?_ | refine T.block ?_ | refine T.skip ?_
   ·repeat' first | (refine aops_end (hK _ ?_); clear hK K) | (refine aops_go ?_; simp [hlt, hgt]; (try simp (disch := omega) only [wrap64]); (try (refine gen2 ?_ ?_ <;> intro hq <;> (try simp [hlt, hgt] at hq) <;> try (have : True := hq; clear this hq)))) | (refine wpcall_pure rfl (hu) ?_; simp [hlt, hgt]; (try simp (disch := omega) only [wrap64]); (try (refine gen2 ?_ ?_ <;> intro hq <;> (try simp [hlt, hgt] at hq) <;> try (have : True := hq; clear this hq)))) | (refine ⟨p + 1, by dsimp only; omega, ⟨by omega, by simpa using he⟩, ?_⟩; simp (disch := omega) [wrap64]) | refine T.r0 fun K hK => ?_ | refine T.r1 fun K hK => ?_ | refine T.ct rfl ?_ | refine T.cf rfl ?_ | refine T.seq ?_ | refine T.block ?_ | refine T.skip ?_
  ·have hp' : p = t.kids.length := by omega
   subst hp'
   simp at he
   repeat' first | (refine aops_end (hK _ ?_); clear hK K) | (refine aops_go ?_; simp [hlt]; (try (refine gen2 ?_ ?_ <;> intro hq <;> (try simp [hlt] at hq) <;> try (have : True := hq; clear this hq)))) | (refine T.ret (Done.data (Or.inr rfl) ?_ ?_) <;> simp [Tryz.results149, he] <;> omega) | refine T.r0 fun K hK => ?_ | refine T.cf rfl ?_ | refine T.seq ?_ | refine T.exit ?_
end Go.Proofs.YtcmdpggdaiinpaaGreatDoor

namespace Go.Proofs.YtcmdpggdaiinpaaGreatDoor
attribute [-simp] Go.Av.freeStep Go.Av.exV Go.Av.keepL Go.Av.ups Go.Av.take_app_len Go.Av.MCo.kind_mk Go.Av.MCo.tag_mk Go.Av.MCo.label_mk Go.Av.MCo.kids_mk Go.Av.innVs Go.Av.putBack Go.Av.objCells Go.Av.back Go.Av.resVs Go.Av.one Go.Av.freeStepG Go.Av.exA Go.Av.innAsH Go.Av.AV.innH Go.Av.CV.innH Go.Av.innHs Go.Av.AV.outnH Go.Av.CV.outnH
open Go Go.Av
attribute [local irreducible] T ACalls eTy eTm MTy.kind MTy.kids MTm.kind MTm.name MTm.num MTm.ty MTm.fr MTm.label MTm.kids
attribute [local simp] eTy_def eTm_def
set_option maxHeartbeats 4000000

end Go.Proofs.YtcmdpggdaiinpaaGreatDoor

namespace Go.Proofs.YtcmdpggdaiinpaaGreatDoor
attribute [-simp] Go.Av.freeStep Go.Av.exV Go.Av.keepL Go.Av.ups Go.Av.take_app_len Go.Av.MCo.kind_mk Go.Av.MCo.tag_mk Go.Av.MCo.label_mk Go.Av.MCo.kids_mk Go.Av.innVs Go.Av.putBack Go.Av.objCells Go.Av.back Go.Av.resVs Go.Av.one Go.Av.freeStepG Go.Av.exA Go.Av.innAsH Go.Av.AV.innH Go.Av.CV.innH Go.Av.innHs Go.Av.AV.outnH Go.Av.CV.outnH
open Go Go.Av
attribute [local irreducible] T ACalls eTy eTm MTy.kind MTy.kids MTm.kind MTm.name MTm.num MTm.ty MTm.fr MTm.label MTm.kids
attribute [local simp] eTy_def eTm_def
set_option maxHeartbeats 4000000

end Go.Proofs.YtcmdpggdaiinpaaGreatDoor

namespace Go.Proofs.YtcmdpggdaiinpaaGreatDoor
attribute [-simp] Go.Av.freeStep Go.Av.exV Go.Av.keepL Go.Av.ups Go.Av.take_app_len Go.Av.MCo.kind_mk Go.Av.MCo.tag_mk Go.Av.MCo.label_mk Go.Av.MCo.kids_mk Go.Av.innVs Go.Av.putBack Go.Av.objCells Go.Av.back Go.Av.resVs Go.Av.one Go.Av.freeStepG Go.Av.exA Go.Av.innAsH Go.Av.AV.innH Go.Av.CV.innH Go.Av.innHs Go.Av.AV.outnH Go.Av.CV.outnH
open Go Go.Av
attribute [local irreducible] T ACalls eTy eTm MTy.kind MTy.kids MTm.kind MTm.name MTm.num MTm.ty MTm.fr MTm.label MTm.kids
attribute [local simp] eTy_def eTm_def
set_option maxHeartbeats 4000000

theorem TypeValidS_ok (t : MTy) (hn : nTy t <= 1099511627776) : ACalls Tryz.prog 116 [aTy t] [] (.b (shapeTy 4 t)) [] [] := by
 refine ACalls.of_body Tryz.func116 (by kernel_rfl) rfl (by kernel_rfl) (by simp [Tryz.ntmps116]) (by simp) ?_
 rw [Tryz.ntmps116]
 repeat' first | (refine aops_end (hK _ ?_); clear hK K) | ((first | refine aops_go ?_ | refine wpcall_pure rfl (l1Shape_ok 4 t (by omega) hn) ?_); simp) | (refine T.ret (Done.data (Or.inr rfl) ?_ ?_) <;> simp [Tryz.results116] <;> omega) | refine T.r0 fun K hK => ?_

theorem l1Consistent_ok : ∀ (d : Nat) (a b : MTy), d <= 1000 -> shapeTy d a = true -> shapeTy d b = true -> ACalls Tryz.prog 117 [aTy a, aTy b] [] (.b (consTy a b)) [] []
 | 0, a, b, _, ha, _ => by simp [shapeTy] at ha
 | d + 1, a, b, hd, ha, hb => by
  obtain ⟨e, he, hka, hla, hsa⟩ := shapeTy_kids ha
  obtain ⟨e', he', hkb, hlb, hsb⟩ := shapeTy_kids hb
  obtain rfl : d = e := by omega
  obtain rfl : d = e' := by omega
  rw [consTy_def]
  refine ACalls.of_body Tryz.func117 (by kernel_rfl) rfl (by kernel_rfl) (by simp [Tryz.ntmps117]) (by simp) ?_
  rw [Tryz.ntmps117]
  by_cases hk1 : a.kind = 1
  ·repeat' first | (refine aops_end (hK _ ?_); clear hK K) | (refine aops_go ?_; simp [hk1]; (try (refine gen2 ?_ ?_ <;> intro hq <;> try simp [hk1] at hq))) | (refine T.ret (Done.data (Or.inr rfl) ?_ ?_) <;> simp [Tryz.results117, hk1] <;> omega) | refine T.r0 fun K hK => ?_ | refine T.ct rfl ?_ | refine T.seq ?_
  by_cases hk2 : b.kind = 1
  ·repeat' first | (refine aops_end (hK _ ?_); clear hK K) | (refine aops_go ?_; simp [hk1, hk2, beq_f hk1]; (try (refine gen2 ?_ ?_ <;> intro hq <;> try simp [hk1, hk2, beq_f hk1] at hq))) | (refine T.ret (Done.data (Or.inr rfl) ?_ ?_) <;> simp [Tryz.results117, hk1, hk2] <;> omega) | refine T.r0 fun K hK => ?_ | refine T.ct rfl ?_ | refine T.seq ?_
  by_cases hk : a.kind = b.kind
  rotate_left
  ·repeat' first | (refine aops_end (hK _ ?_); clear hK K) | (refine aops_go ?_; simp [hk1, hk2, hk]; (try (refine gen2 ?_ ?_ <;> intro hq <;> try simp [hk1, hk2, hk] at hq))) | (refine T.ret (Done.data (Or.inr rfl) ?_ ?_) <;> simp [Tryz.results117, hk1, hk2, hk] <;> omega) | refine T.r0 fun K hK => ?_ | refine T.ct rfl ?_ | refine T.cf rfl ?_ | refine T.seq ?_ | refine T.skip ?_
  have hlm : a.kids.length = b.kids.length := by rw [hk] at hka; omega
  repeat' first | (refine aops_end (hK _ ?_); clear hK K) | (refine aops_go ?_; simp [hk1, hk2, hk]; (try (refine gen2 ?_ ?_ <;> intro hq <;> try simp [hk1, hk2, hk] at hq))) | refine T.r0 fun K hK => ?_ | refine T.cf rfl ?_ | refine T.seq ?_ | refine T.block ?_ | refine T.skip ?_
  obtain ⟨R, hR⟩ : ∃ R, all2 consTy a.kids b.kids = R := ⟨_, rfl⟩
  rw [show (decide (a.kind = 1) || decide (b.kind = 1) || (decide (a.kind = b.kind) && all2 consTy a.kids b.kids)) = R by simp [hk1, hk2, hk, hR]]
  refine T.loopF (fun p : Nat => ⟨[(2, .c (.ptr 0 0)), (3, .c (.ptr 1 0)), (5, .i p)], [(aTy a).cells, (aTy b).cells], []⟩) (fun p => a.kids.length + 1 - p) (fun p => p <= a.kids.length /\ all2 consTy (a.kids.drop p) (b.kids.drop p) = R) (fun p hp => ?_) 0 (by simpa using hR) (by simp [hk])
  obtain ⟨hi, he⟩ := hp
  by_cases hlt : p < a.kids.length
  ·have hlt2 : p < b.kids.length := by omega
   obtain ⟨u, ht⟩ := get_lt hlt
   have htm : u ∈ a.kids := List.mem_of_getElem? ht
   have hgt : a.kids[p] = u := by rw [List.getElem?_eq_getElem hlt] at ht; exact Option.some.inj ht
   have hdr : a.kids.drop p = u :: a.kids.drop (p + 1) := by rw [List.drop_eq_getElem_cons hlt, hgt]
   obtain ⟨v, hv⟩ := get_lt hlt2
   have hvm : v ∈ b.kids := List.mem_of_getElem? hv
   have hgv : b.kids[p] = v := by rw [List.getElem?_eq_getElem hlt2] at hv; exact Option.some.inj hv
   have hu := l1Consistent_ok d u v (by omega) (hsa u htm) (hsb v hvm)
   rw [hdr, drop_cons hlt2, hgv, all2_cons] at he
   cases hb : consTy u v <;> rw [hb] at hu he
   ·repeat' first | ((first | refine aops_end (hK _ ?_) | refine aopsD_end (hK _ ?_)); clear hK K) | ((first | refine aops_go ?_ | refine aopsD_go ?_); simp [hlt, hlt2, hgt, hgv]; (try simp (disch := omega) only [wrap64]); (try (refine gen2 ?_ ?_ <;> intro hq <;> try simp [hlt, hlt2, hgt, hgv] at hq))) | (refine wpcall_pure rfl (hu) ?_; simp [hlt, hlt2, hgt, hgv]; (try simp (disch := omega) only [wrap64]); (try (refine gen2 ?_ ?_ <;> intro hq <;> try simp [hlt, hlt2, hgt, hgv] at hq))) | (refine T.ret (Done.data (Or.inr rfl) ?_ ?_) <;> simp [Tryz.results117, <- he] <;> omega) | refine T.r0 fun K hK => ?_ | refine T.rd mixed (fun _ => false) [] (by kernel_rfl) fun K hK => ?_ | refine T.ct rfl ?_ | refine T.seq ?_ | refine T.block ?_ | refine T.skip ?_
   ·repeat' first | ((first | refine aops_end (hK _ ?_) | refine aopsD_end (hK _ ?_)); clear hK K) | ((first | refine aops_go ?_ | refine aopsD_go ?_); simp [hlt, hlt2, hgt, hgv]; (try simp (disch := omega) only [wrap64]); (try (refine gen2 ?_ ?_ <;> intro hq <;> try simp [hlt, hlt2, hgt, hgv] at hq))) | (refine wpcall_pure rfl (hu) ?_; simp [hlt, hlt2, hgt, hgv]; (try simp (disch := omega) only [wrap64]); (try (refine gen2 ?_ ?_ <;> intro hq <;> try simp [hlt, hlt2, hgt, hgv] at hq))) | (refine ⟨p + 1, by dsimp only; omega, ⟨by omega, by simpa using he⟩, rfl, rfl, ?_⟩; simp (disch := omega) [wrap64]) | refine T.r0 fun K hK => ?_ | refine T.r1 fun K hK => ?_ | refine T.rd mixed (fun _ => false) [] (by kernel_rfl) fun K hK => ?_ | refine T.ct rfl ?_ | refine T.cf rfl ?_ | refine T.seq ?_ | refine T.block ?_ | refine T.skip ?_
  ·have hp' : p = a.kids.length := by omega
   subst hp'
   rw [List.drop_length, hlm, List.drop_length, all2_nil] at he
   repeat' first | (refine aops_end (hK _ ?_); clear hK K) | (refine aops_go ?_; simp [hlt, hlm]; (try (refine gen2 ?_ ?_ <;> intro hq <;> try simp [hlt, hlm] at hq))) | (refine T.ret (Done.data (Or.inr rfl) ?_ ?_) <;> simp [Tryz.results117, <- he] <;> omega) | refine T.r0 fun K hK => ?_ | refine T.cf rfl ?_ | refine T.seq ?_ | refine T.exit ?_
end Go.Proofs.YtcmdpggdaiinpaaGreatDoor

namespace Go.Proofs.YtcmdpggdaiinpaaGreatDoor
attribute [-simp] Go.Av.freeStep Go.Av.exV Go.Av.keepL Go.Av.ups Go.Av.take_app_len Go.Av.MCo.kind_mk Go.Av.MCo.tag_mk Go.Av.MCo.label_mk Go.Av.MCo.kids_mk Go.Av.innVs Go.Av.putBack Go.Av.objCells Go.Av.back Go.Av.resVs Go.Av.one Go.Av.freeStepG Go.Av.exA Go.Av.innAsH Go.Av.AV.innH Go.Av.CV.innH Go.Av.innHs Go.Av.AV.outnH Go.Av.CV.outnH
open Go Go.Av
attribute [local irreducible] T ACalls eTy eTm MTy.kind MTy.kids MTm.kind MTm.name MTm.num MTm.ty MTm.fr MTm.label MTm.kids
attribute [local simp] eTy_def eTm_def
set_option maxHeartbeats 4000000

theorem kind_cases (k : Int) : k = 1 \/ k = 5 \/ k = 13 \/ k = 14 \/ k = 2 \/ (¬ k = 1 /\ ¬ k = 5 /\ ¬ k = 13 /\ ¬ k = 14 /\ ¬ k = 2) := by omega

theorem in00 (n : Int) : inM n 0 0 = decide (n = 0) := by simp only [inM, <- Bool.decide_and]; exact decide_eq_decide.2 (by omega)

theorem l2Own_ok (e : MTm) (hk : e.kind ≠ 14) (ht : nTy e.ty <= 1099511627776) : ACalls Tryz.prog 154 [aTm e] [] (.b (ownM e)) [] [] := by
 have hnm := l2Name_ok e.name
 have hty := TypeValidS_ok e.ty ht
 have hnt := l2None_ok e.ty
 have hnf := l2None_ok e.fr
 rcases kind_cases e.kind with h1 | h1 | h1 | h1 | h1 | ⟨h1, h2, h3, h4, h5⟩
 ·have hr : ownM e = (nameM e.name && decide (e.num = 0) && noTyM e.ty && (noTyM e.fr && decide (e.label = 0))) := by simp [ownM, h1, namedM, typedM, in00]
  rw [hr]
  refine ACalls.of_body Tryz.func154 (by kernel_rfl) rfl (by kernel_rfl) (by simp [Tryz.ntmps154]) (by simp) ?_
  rw [Tryz.ntmps154]
  repeat' first | (refine aops_end (hK _ ?_); clear hK K) | ((first | refine aops_go ?_ | refine wpcall_pure rfl (hnm) ?_ | refine wpcall_pure rfl (hnt) ?_ | refine wpcall_pure rfl (hnf) ?_); simp [h1]; (try (refine gen2 ?_ ?_ <;> intro hq <;> try simp [h1] at hq))) | (refine T.ret (Done.data (Or.inr rfl) ?_ ?_) <;> simp [Tryz.results154, *] <;> omega) | refine T.r0 fun K hK => ?_ | refine T.ct rfl ?_ | refine T.cf rfl ?_ | refine T.seq ?_ | refine T.skip ?_
 ·have hr : ownM e = (nameM e.name && decide (e.num = 0) && shapeTy 4 e.ty && (noTyM e.fr && decide (e.label = 0))) := by simp [ownM, h1, namedM, typedM, in00]
  rw [hr]
  refine ACalls.of_body Tryz.func154 (by kernel_rfl) rfl (by kernel_rfl) (by simp [Tryz.ntmps154]) (by simp) ?_
  rw [Tryz.ntmps154]
  repeat' first | (refine aops_end (hK _ ?_); clear hK K) | ((first | refine aops_go ?_ | refine wpcall_pure rfl (hnm) ?_ | refine wpcall_pure rfl (hty) ?_ | refine wpcall_pure rfl (hnf) ?_); simp [h1]; (try (refine gen2 ?_ ?_ <;> intro hq <;> try simp [h1] at hq))) | (refine T.ret (Done.data (Or.inr rfl) ?_ ?_) <;> simp [Tryz.results154, *] <;> omega) | refine T.r0 fun K hK => ?_ | refine T.ct rfl ?_ | refine T.cf rfl ?_ | refine T.seq ?_ | refine T.skip ?_
 ·have hr : ownM e = (decide (e.name = []) && decide (e.num = 0) && shapeTy 4 e.ty && (noTyM e.fr && decide (e.label = 0))) := by simp [ownM, h1, namedM, typedM, in00]
  have hn0 : e.name = [] -> nameM e.name = false := fun h => by rw [h]; rfl
  rw [hr]
  by_cases hne : e.name = []
  ·rw [hn0 hne, hne] at hnm
   refine ACalls.of_body Tryz.func154 (by kernel_rfl) rfl (by kernel_rfl) (by simp [Tryz.ntmps154]) (by simp) ?_
   rw [Tryz.ntmps154]
   repeat' first | (refine aops_end (hK _ ?_); clear hK K) | ((first | refine aops_go ?_ | refine wpcall_pure rfl (hnm) ?_ | refine wpcall_pure rfl (hty) ?_ | refine wpcall_pure rfl (hnf) ?_); simp [h1, hne]; (try (refine gen2 ?_ ?_ <;> intro hq <;> try simp [h1, hne] at hq))) | (refine T.ret (Done.data (Or.inr rfl) ?_ ?_) <;> simp [Tryz.results154, *] <;> omega) | refine T.r0 fun K hK => ?_ | refine T.ct rfl ?_ | refine T.cf rfl ?_ | refine T.seq ?_ | refine T.skip ?_
  ·generalize nameM e.name = nb at hnm
   refine ACalls.of_body Tryz.func154 (by kernel_rfl) rfl (by kernel_rfl) (by simp [Tryz.ntmps154]) (by simp) ?_
   rw [Tryz.ntmps154]
   repeat' first | (refine aops_end (hK _ ?_); clear hK K) | ((first | refine aops_go ?_ | refine wpcall_pure rfl (hnm) ?_); simp [h1, hne]; (try (refine gen2 ?_ ?_ <;> intro hq <;> try simp [h1, hne] at hq))) | (refine T.ret (Done.data (Or.inr rfl) ?_ ?_) <;> simp [Tryz.results154, *] <;> omega) | refine T.r0 fun K hK => ?_ | refine T.ct rfl ?_ | refine T.seq ?_
 ·exact absurd h1 hk
 ·have hr : ownM e = (decide (e.name = []) && (decide (0 <= e.num) && decide (e.num <= 999)) && noTyM e.ty && (noTyM e.fr && decide (e.label = 0))) := by simp [ownM, h1, namedM, typedM, inM]
  have hn0 : e.name = [] -> nameM e.name = false := fun h => by rw [h]; rfl
  rw [hr]
  by_cases hne : e.name = []
  ·rw [hn0 hne, hne] at hnm
   refine ACalls.of_body Tryz.func154 (by kernel_rfl) rfl (by kernel_rfl) (by simp [Tryz.ntmps154]) (by simp) ?_
   rw [Tryz.ntmps154]
   repeat' first | (refine aops_end (hK _ ?_); clear hK K) | ((first | refine aops_go ?_ | refine wpcall_pure rfl (hnm) ?_ | refine wpcall_pure rfl (hnt) ?_ | refine wpcall_pure rfl (hnf) ?_); simp [h1, hne]; (try (refine gen2 ?_ ?_ <;> intro hq <;> try simp [h1, hne] at hq))) | (refine T.ret (Done.data (Or.inr rfl) ?_ ?_) <;> simp [Tryz.results154, *] <;> omega) | refine T.r0 fun K hK => ?_ | refine T.ct rfl ?_ | refine T.cf rfl ?_ | refine T.seq ?_ | refine T.skip ?_
  ·generalize nameM e.name = nb at hnm
   refine ACalls.of_body Tryz.func154 (by kernel_rfl) rfl (by kernel_rfl) (by simp [Tryz.ntmps154]) (by simp) ?_
   rw [Tryz.ntmps154]
   repeat' first | (refine aops_end (hK _ ?_); clear hK K) | ((first | refine aops_go ?_ | refine wpcall_pure rfl (hnm) ?_); simp [h1, hne]; (try (refine gen2 ?_ ?_ <;> intro hq <;> try simp [h1, hne] at hq))) | (refine T.ret (Done.data (Or.inr rfl) ?_ ?_) <;> simp [Tryz.results154, *] <;> omega) | refine T.r0 fun K hK => ?_ | refine T.ct rfl ?_ | refine T.seq ?_
 ·have hr : ownM e = (decide (e.name = []) && decide (e.num = 0) && noTyM e.ty && (noTyM e.fr && decide (e.label = 0))) := by simp [ownM, h1, h2, h3, h4, h5, namedM, typedM, in00]
  have hn0 : e.name = [] -> nameM e.name = false := fun h => by rw [h]; rfl
  rw [hr]
  by_cases hne : e.name = []
  ·rw [hn0 hne, hne] at hnm
   refine ACalls.of_body Tryz.func154 (by kernel_rfl) rfl (by kernel_rfl) (by simp [Tryz.ntmps154]) (by simp) ?_
   rw [Tryz.ntmps154]
   repeat' first | (refine aops_end (hK _ ?_); clear hK K) | ((first | refine aops_go ?_ | refine wpcall_pure rfl (hnm) ?_ | refine wpcall_pure rfl (hnt) ?_ | refine wpcall_pure rfl (hnf) ?_); simp [h1, h2, h3, h4, h5, hne]; (try (refine gen2 ?_ ?_ <;> intro hq <;> try simp [h1, h2, h3, h4, h5, hne] at hq))) | (refine T.ret (Done.data (Or.inr rfl) ?_ ?_) <;> simp [Tryz.results154, *] <;> omega) | refine T.r0 fun K hK => ?_ | refine T.ct rfl ?_ | refine T.cf rfl ?_ | refine T.seq ?_ | refine T.skip ?_
  ·generalize nameM e.name = nb at hnm
   refine ACalls.of_body Tryz.func154 (by kernel_rfl) rfl (by kernel_rfl) (by simp [Tryz.ntmps154]) (by simp) ?_
   rw [Tryz.ntmps154]
   repeat' first | (refine aops_end (hK _ ?_); clear hK K) | ((first | refine aops_go ?_ | refine wpcall_pure rfl (hnm) ?_); simp [h1, h2, h3, h4, h5, hne]; (try (refine gen2 ?_ ?_ <;> intro hq <;> try simp [h1, h2, h3, h4, h5, hne] at hq))) | (refine T.ret (Done.data (Or.inr rfl) ?_ ?_) <;> simp [Tryz.results154, *] <;> omega) | refine T.r0 fun K hK => ?_ | refine T.ct rfl ?_ | refine T.seq ?_

end Go.Proofs.YtcmdpggdaiinpaaGreatDoor

namespace Go.Proofs.YtcmdpggdaiinpaaGreatDoor
attribute [-simp] Go.Av.freeStep Go.Av.exV Go.Av.keepL Go.Av.ups Go.Av.take_app_len Go.Av.MCo.kind_mk Go.Av.MCo.tag_mk Go.Av.MCo.label_mk Go.Av.MCo.kids_mk Go.Av.innVs Go.Av.putBack Go.Av.objCells Go.Av.back Go.Av.resVs Go.Av.one Go.Av.freeStepG Go.Av.exA Go.Av.innAsH Go.Av.AV.innH Go.Av.CV.innH Go.Av.innHs Go.Av.AV.outnH Go.Av.CV.outnH
open Go Go.Av
attribute [local irreducible] T ACalls eTy eTm MTy.kind MTy.kids MTm.kind MTm.name MTm.num MTm.ty MTm.fr MTm.label MTm.kids
attribute [local simp] eTy_def eTm_def
set_option maxHeartbeats 4000000

theorem nTm_parts {e : MTm} (h : nTm e <= 1099511627776) : nTy e.ty <= 1099511627776 /\ nTy e.fr <= 1099511627776 /\ e.kids.length <= 1099511627776 /\ ∀ u ∈ e.kids, nTm u <= 1099511627776 := by
 rw [nTm_def] at h
 have := nTmS_len e.kids
 exact ⟨by omega, by omega, by omega, fun u hu => by have := nTmS_mem hu; omega⟩

theorem l2Count_ok : ∀ (d : Nat) (e : MTm), d <= 1000 -> nTm e <= 1099511627776 -> ACalls Tryz.prog 131 [aTm e, .i d] [] (.i (countTm d e)) [] []
 | 0, e, _, hn => by
  obtain ⟨hnt, hnf, hnk, hnu⟩ := nTm_parts hn
  refine ACalls.of_body Tryz.func131 (by kernel_rfl) rfl (by kernel_rfl) (by simp [Tryz.ntmps131]) (by simp) ?_
  rw [Tryz.ntmps131]
  repeat' first | (refine aops_end (hK _ ?_); clear hK K) | (refine aops_go ?_; simp; (try (refine gen2 ?_ ?_ <;> intro hq <;> try simp at hq))) | refine T.r0 fun K hK => ?_ | refine T.seq ?_ | refine T.block ?_
  refine T.loopF (fun _ : Unit => ⟨[(1, .i 0), (2, .c (.ptr 0 0)), (5, .i 1), (6, .i 0)], [(aTm e).cells], []⟩) (fun _ => 0) (fun _ => True) (fun _ _ => ?_) () trivial (by simp)
  repeat' first | (refine aops_end (hK _ ?_); clear hK K) | (refine aops_go ?_; simp; (try simp (disch := omega) only [wrap64]); (try (refine gen2 ?_ ?_ <;> intro hq <;> try simp at hq))) | (refine T.ret (Done.data (Or.inr rfl) ?_ ?_) <;> simp [Tryz.results131, countTm] <;> omega) | refine T.r0 fun K hK => ?_ | refine T.cf rfl ?_ | refine T.seq ?_ | refine T.exit ?_
 | d + 1, e, hd, hn => by
  obtain ⟨hnt, hnf, hnk, hnu⟩ := nTm_parts hn
  have hd1 : (0 : Int) < (d : Int) + 1 := by omega
  have hcl := countTm_le (d + 1) e
  obtain ⟨R, hR⟩ : ∃ R, countTm (d + 1) e = R := ⟨_, rfl⟩
  rw [hR] at hcl ⊢
  refine ACalls.of_body Tryz.func131 (by kernel_rfl) rfl (by kernel_rfl) (by simp [Tryz.ntmps131]) (by simp) ?_
  rw [Tryz.ntmps131]
  repeat' first | (refine aops_end (hK _ ?_); clear hK K) | (refine aops_go ?_; simp; (try (refine gen2 ?_ ?_ <;> intro hq <;> try simp at hq))) | refine T.r0 fun K hK => ?_ | refine T.seq ?_ | refine T.block ?_
  refine T.loopF (fun x : Nat × Nat => ⟨[(1, .i (d + 1)), (2, .c (.ptr 0 0)), (5, .i x.2), (6, .i x.1)], [(aTm e).cells], []⟩) (fun x => e.kids.length + 1 - x.1) (fun x => x.1 <= e.kids.length /\ x.2 + ((e.kids.drop x.1).map (countTm d)).sum = R) (fun x hx => ?_) (0, 1) (by simpa [countTm] using hR) (by simp)
  obtain ⟨p, k⟩ := x
  obtain ⟨hi, he⟩ := hx
  dsimp only at hi he ⊢
  by_cases hlt : p < e.kids.length
  ·obtain ⟨u, ht⟩ := get_lt hlt
   have htm : u ∈ e.kids := List.mem_of_getElem? ht
   have hgt : e.kids[p] = u := by rw [List.getElem?_eq_getElem hlt] at ht; exact Option.some.inj ht
   have hdr : e.kids.drop p = u :: e.kids.drop (p + 1) := by rw [List.drop_eq_getElem_cons hlt, hgt]
   have hu := l2Count_ok d u (by omega) (hnu u htm)
   rw [hdr, List.map_cons, List.sum_cons] at he
   generalize countTm d u = cu at hu he
   repeat' first | (refine aops_end (hK _ ?_); clear hK K) | (refine aops_go ?_; simp [hlt, hgt, hd1]; (try simp (disch := omega) only [wrap64]); (try (refine gen2 ?_ ?_ <;> intro hq <;> try simp [hlt, hgt, hd1] at hq))) | (refine wpcall_pure rfl (hu) ?_; simp [hlt, hgt, hd1]; (try simp (disch := omega) only [wrap64]); (try (refine gen2 ?_ ?_ <;> intro hq <;> try simp [hlt, hgt, hd1] at hq))) | (refine ⟨(p + 1, k + cu), by dsimp only; omega, ⟨by dsimp only; omega, by dsimp only; omega⟩, rfl, rfl, ?_⟩; simp (disch := omega) [wrap64]) | refine T.r0 fun K hK => ?_ | refine T.r1 fun K hK => ?_ | refine T.ct rfl ?_ | refine T.seq ?_ | refine T.block ?_ | refine T.skip ?_
  ·have hp' : p = e.kids.length := by omega
   subst hp'
   simp at he
   repeat' first | (refine aops_end (hK _ ?_); clear hK K) | (refine aops_go ?_; simp [hlt]; (try (refine gen2 ?_ ?_ <;> intro hq <;> try simp [hlt] at hq))) | (refine T.ret (Done.data (Or.inr rfl) ?_ ?_) <;> simp [Tryz.results131, he] <;> omega) | refine T.r0 fun K hK => ?_ | refine T.cf rfl ?_ | refine T.seq ?_ | refine T.exit ?_

end Go.Proofs.YtcmdpggdaiinpaaGreatDoor

namespace Go.Proofs.YtcmdpggdaiinpaaGreatDoor
attribute [-simp] Go.Av.keepL Go.Av.ups Go.Av.take_app_len Go.Av.MCo.kind_mk Go.Av.MCo.tag_mk Go.Av.MCo.label_mk Go.Av.MCo.kids_mk Go.Av.innVs Go.Av.putBack Go.Av.objCells Go.Av.back Go.Av.resVs Go.Av.one Go.Av.freeStepG Go.Av.exA Go.Av.innAsH Go.Av.AV.innH Go.Av.CV.innH Go.Av.innHs Go.Av.AV.outnH Go.Av.CV.outnH
open Go Go.Av
attribute [local irreducible] T ACalls eTy eTm MTy.kind MTy.kids MTm.kind MTm.name MTm.num MTm.ty MTm.fr MTm.label MTm.kids
attribute [local simp] eTy_def eTm_def
set_option maxHeartbeats 4000000
attribute [local simp] Option.bind

theorem l1Any_ok : ACalls Tryz.prog 124 [] [] (aTy anyT) [] [] := by
 refine ACalls.of_body Tryz.func124 (by kernel_rfl) rfl (by kernel_rfl) (by simp [Tryz.ntmps124]) (by simp) ?_
 rw [Tryz.ntmps124]
 repeat' first | (refine aops_end (hK _ ?_); clear hK K) | (refine aops_go ?_; simp; (try (refine gen2 ?_ ?_ <;> intro hq <;> try simp at hq))) | (refine T.ret (Done.val (Or.inr rfl) ?_) <;> simp [resAs, Tryz.results124] <;> omega) | refine T.r0 fun K hK => ?_

theorem l3Int_ok : ACalls Tryz.prog 123 [] [] (aTy intT) [] [] := by
 refine ACalls.of_body Tryz.func123 (by kernel_rfl) rfl (by kernel_rfl) (by simp [Tryz.ntmps123]) (by simp) ?_
 rw [Tryz.ntmps123]
 repeat' first | (refine aops_end (hK _ ?_); clear hK K) | (refine aops_go ?_; simp; (try (refine gen2 ?_ ?_ <;> intro hq <;> try simp at hq))) | (refine T.ret (Done.val (Or.inr rfl) ?_) <;> simp [resAs, Tryz.results123] <;> omega) | refine T.r0 fun K hK => ?_

theorem l3Bool_ok : ACalls Tryz.prog 121 [] [] (aTy boolT) [] [] := by
 refine ACalls.of_body Tryz.func121 (by kernel_rfl) rfl (by kernel_rfl) (by simp [Tryz.ntmps121]) (by simp) ?_
 rw [Tryz.ntmps121]
 repeat' first | (refine aops_end (hK _ ?_); clear hK K) | (refine aops_go ?_; simp; (try (refine gen2 ?_ ?_ <;> intro hq <;> try simp at hq))) | (refine T.ret (Done.val (Or.inr rfl) ?_) <;> simp [resAs, Tryz.results121] <;> omega) | refine T.r0 fun K hK => ?_

theorem l1Copy_ok : ∀ (t : MTy), nTy t <= 1099511627776 -> ACalls Tryz.prog 118 [aTy t] [] (aTy t) [] [] := by
 intro t
 induction t using MTy.ind with
 | h t ih =>
  intro hn
  rw [nTy_def] at hn
  have hlen := nTyS_len t.kids
  refine ACalls.of_body Tryz.func118 (by kernel_rfl) rfl (by kernel_rfl) (by simp [Tryz.ntmps118]) (by simp) ?_
  rw [Tryz.ntmps118]
  repeat' first | (refine aops_end (hK _ ?_); clear hK K) | (refine aops_go ?_; simp; (try (refine gen2 ?_ ?_ <;> intro hq <;> try simp at hq))) | refine T.r0 fun K hK => ?_ | refine T.seq ?_ | refine T.block ?_
  refine T.ownifyObj 2 1 2 78 (row := [.d (.i t.kind), .nil]) (by simp) (by simp) ?_
  refine T.loopF (fun p : Nat => ⟨[(1, .c (.ptr 0 0)), (2, .c (.ptr 1 0)), (3, .c (.ptr 2 0)), (4, .i p)], [(aTy t).cells, [.d (.i 0), .nil], [.d (.i t.kind), .own 0 p]], [{ sz := 2, ety := 78, rows := (t.kids.take p).map eTy, wr := true }]⟩) (fun p => t.kids.length + 1 - p) (fun p => p <= t.kids.length) (fun p hi => ?_) 0 (by simp) (by simp)
  by_cases hlt : p < t.kids.length
  ·obtain ⟨u, ht⟩ := get_lt hlt
   have htm : u ∈ t.kids := List.mem_of_getElem? ht
   have hgt : t.kids[p] = u := by rw [List.getElem?_eq_getElem hlt] at ht; exact Option.some.inj ht
   have hdr : t.kids.drop p = u :: t.kids.drop (p + 1) := by rw [List.drop_eq_getElem_cons hlt, hgt]
   have hu := ih u htm (by have := nTyS_mem htm; omega)
   have htk : t.kids.take (p + 1) = t.kids.take p ++ [u] := by rw [List.take_add_one, ht]; rfl
   have hmin : min p t.kids.length = p := by omega
   repeat' first | ((first | refine aops_end (hK _ ?_) | refine aopsD_end (hK _ ?_)); clear hK K) | ((first | refine aops_go ?_ | refine aopsD_go ?_ | refine wpcall_pure rfl (hu) ?_); simp [hlt, hgt, hmin]; (try simp (disch := omega) only [wrap64]); (try (refine gen2 ?_ ?_ <;> intro hq <;> try simp [hlt, hgt, hmin] at hq))) | (refine ⟨by omega, by omega, ?_⟩) | (refine ⟨p + 1, by dsimp only; omega, by omega, ?_, ?_, ?_⟩ <;> simp (disch := omega) [wrap64, htk, eTy_def]) | refine T.rd1 (id := 5) mixed (fun _ => false) [9, 11] (by kernel_rfl) fun K hK => ?_ | refine T.r0 fun K hK => ?_ | refine T.r1 fun K hK => ?_ | refine T.ct rfl ?_ | refine T.seq ?_ | refine T.block ?_ | refine T.skip ?_
  ·have hp' : p = t.kids.length := by omega
   subst hp'
   repeat' first | (refine aops_end (hK _ ?_); clear hK K) | (refine aops_go ?_; simp [hlt]; (try (refine gen2 ?_ ?_ <;> intro hq <;> try simp [hlt] at hq))) | (refine T.ret (Done.val (Or.inr rfl) ?_) <;> simp [resAs, Tryz.results118, eTy_def] <;> omega) | refine T.r0 fun K hK => ?_ | refine T.cf rfl ?_ | refine T.seq ?_ | refine T.exit ?_

theorem l1Meet_ok : ∀ (a b : MTy), nTy a <= 1099511627776 -> nTy b <= 1099511627776 -> consTy a b = true -> ACalls Tryz.prog 174 [aTy a, aTy b] [] (aTy (meetTy a b)) [] [] := by
 intro a
 induction a using MTy.ind with
 | h a ih =>
  intro b hn hm hcon
  have hca := l1Copy_ok a hn
  have hcb := l1Copy_ok b hm
  rw [nTy_def] at hn hm
  have hlen := nTyS_len a.kids
  by_cases hk1 : a.kind = 1
  ·rw [show meetTy a b = b by rw [meetTy_def, if_pos hk1]]
   refine ACalls.of_body Tryz.func174 (by kernel_rfl) rfl (by kernel_rfl) (by simp [Tryz.ntmps174]) (by simp) ?_
   rw [Tryz.ntmps174]
   repeat' first | (refine aops_end (hK _ ?_); clear hK K) | ((first | refine aops_go ?_ | refine wpcall_pure rfl (hcb) ?_); simp [hk1]; (try (refine gen2 ?_ ?_ <;> intro hq <;> (try simp [hk1] at hq) <;> try (have : True := hq; clear this hq)))) | (refine T.ret (Done.val (Or.inr rfl) ?_) <;> simp [resAs, Tryz.results174] <;> omega) | refine T.r0 fun K hK => ?_ | refine T.ct rfl ?_ | refine T.seq ?_
  by_cases hk2 : b.kind = 1
  ·rw [show meetTy a b = a by rw [meetTy_def, if_neg hk1, if_pos hk2]]
   refine ACalls.of_body Tryz.func174 (by kernel_rfl) rfl (by kernel_rfl) (by simp [Tryz.ntmps174]) (by simp) ?_
   rw [Tryz.ntmps174]
   repeat' first | (refine aops_end (hK _ ?_); clear hK K) | ((first | refine aops_go ?_ | (refine wpcall_pure ?_ (hca) ?_; (focus (solve | simp [hk1, hk2])))); simp [hk1, hk2]; (try (refine gen2 ?_ ?_ <;> intro hq <;> (try simp [hk1, hk2] at hq) <;> try (have : True := hq; clear this hq)))) | (refine T.ret (Done.val (Or.inr rfl) ?_) <;> simp [resAs, Tryz.results174] <;> omega) | refine T.r0 fun K hK => ?_ | refine T.ct rfl ?_ | refine T.cf rfl ?_ | refine T.seq ?_ | refine T.skip ?_
  obtain ⟨hk, hq⟩ := consTy_kind hcon hk1 hk2
  have hlm := all2_len hq
  rw [show meetTy a b = .mk a.kind (List.zipWith meetTy a.kids b.kids) by rw [meetTy_def, if_neg hk1, if_neg hk2]]
  refine ACalls.of_body Tryz.func174 (by kernel_rfl) rfl (by kernel_rfl) (by simp [Tryz.ntmps174]) (by simp) ?_
  rw [Tryz.ntmps174]
  repeat' first | (refine aops_end (hK _ ?_); clear hK K) | (refine aops_go ?_; simp [hk1, hk2]; (try (refine gen2 ?_ ?_ <;> intro hq <;> (try simp [hk1, hk2] at hq) <;> try (have : True := hq; clear this hq)))) | refine T.r0 fun K hK => ?_ | refine T.cf rfl ?_ | refine T.seq ?_ | refine T.block ?_ | refine T.skip ?_
  refine T.ownifyObj 3 1 2 78 (row := [.d (.i a.kind), .nil]) (by simp) (by simp) ?_
  refine T.loopF (fun p : Nat => ⟨[(2, .c (.ptr 0 0)), (3, .c (.ptr 1 0)), (4, .c (.ptr 2 0)), (5, .c (.ptr 3 0)), (6, .i p)], [(aTy a).cells, (aTy b).cells, [.d (.i 0), .nil], [.d (.i a.kind), .own 0 p]], [{ sz := 2, ety := 78, rows := ((List.zipWith meetTy a.kids b.kids).take p).map eTy, wr := true }]⟩) (fun p => a.kids.length + 1 - p) (fun p => p <= a.kids.length) (fun p hi => ?_) 0 (by simp) (by simp)
  have hzl : (List.zipWith meetTy a.kids b.kids).length = a.kids.length := by simp [hlm]
  by_cases hlt : p < a.kids.length
  ·obtain ⟨u, ht⟩ := get_lt hlt
   have htm : u ∈ a.kids := List.mem_of_getElem? ht
   have hgt : a.kids[p] = u := by rw [List.getElem?_eq_getElem hlt] at ht; exact Option.some.inj ht
   have hdr : a.kids.drop p = u :: a.kids.drop (p + 1) := by rw [List.drop_eq_getElem_cons hlt, hgt]
   have hlt2 : p < b.kids.length := by omega
   obtain ⟨v, hv⟩ := get_lt hlt2
   have hvm : v ∈ b.kids := List.mem_of_getElem? hv
   have hgv : b.kids[p] = v := by rw [List.getElem?_eq_getElem hlt2] at hv; exact Option.some.inj hv
   have hu := ih u htm v (by have := nTyS_mem htm; omega) (by have := nTyS_mem hvm; omega) (all2_at hq ht hv)
   have hz : (List.zipWith meetTy a.kids b.kids)[p]? = some (meetTy u v) := by rw [List.getElem?_zipWith, ht, hv]
   have htk : (List.zipWith meetTy a.kids b.kids).take (p + 1) = (List.zipWith meetTy a.kids b.kids).take p ++ [meetTy u v] := by rw [List.take_add_one, hz]; rfl
   have hmin : min p a.kids.length = p := by omega
   have hmin2 : min p b.kids.length = p := by omega
   generalize hZ : List.zipWith meetTy a.kids b.kids = Z at *
   have hmin3 : min p Z.length = p := by omega
   generalize meetTy u v = mm at *
   repeat' first | ((first | refine aops_end (hK _ ?_) | refine aopsD_end (hK _ ?_)); clear hK K) | ((first | refine aops_go ?_ | refine aopsD_go ?_ | refine wpcall_pure rfl (hu) ?_); simp [hlt, hgt, hlt2, hgv, hmin3]; (try simp (disch := omega) only [wrap64]); (try (refine gen2 ?_ ?_ <;> intro hq <;> (try simp [hlt, hgt, hlt2, hgv, hmin3] at hq) <;> try (have : True := hq; clear this hq)))) | (refine ⟨by omega, by omega, ?_⟩) | (refine ⟨p + 1, by dsimp only; omega, by omega, ?_, ?_, ?_⟩ <;> simp (disch := omega) [wrap64, htk, eTy_def, hmin3]) | refine T.rd1 (id := 9) mixed (fun _ => false) [14, 16] (by kernel_rfl) fun K hK => ?_ | refine T.r0 fun K hK => ?_ | refine T.r1 fun K hK => ?_ | refine T.ct rfl ?_ | refine T.seq ?_ | refine T.block ?_ | refine T.skip ?_
  ·have hp' : p = a.kids.length := by omega
   subst hp'
   rw [List.take_of_length_le (by omega)]
   generalize hZ : List.zipWith meetTy a.kids b.kids = Z at *
   repeat' first | (refine aops_end (hK _ ?_); clear hK K) | (refine aops_go ?_; simp [hlt]; (try (refine gen2 ?_ ?_ <;> intro hq <;> (try simp [hlt] at hq) <;> try (have : True := hq; clear this hq)))) | (refine T.ret (Done.val (Or.inr rfl) ?_) <;> simp [resAs, Tryz.results174, hzl, eTy_def] <;> omega) | refine T.r0 fun K hK => ?_ | refine T.cf rfl ?_ | refine T.seq ?_ | refine T.exit ?_

theorem l3Sure_ok (t : MTy) (ok : Bool) : ACalls Tryz.prog 152 [aTy t, .b ok] [] (.tup [aTy (if ok = true then t else zeroT), .b ok]) [] [] := by
 cases ok
 ·refine ACalls.of_body Tryz.func152 (by kernel_rfl) rfl (by kernel_rfl) (by simp [Tryz.ntmps152]) (by simp) ?_
  rw [Tryz.ntmps152]
  repeat' first | (refine aops_end (hK _ ?_); clear hK K) | (refine aops_go ?_; simp; (try (refine gen2 ?_ ?_ <;> intro hq <;> try simp at hq))) | (refine T.ret (Done.tup (Or.inr rfl) ?_) <;> simp [resAs, Tryz.results152] <;> omega) | refine T.r0 fun K hK => ?_ | refine T.ct rfl ?_ | refine T.seq ?_
 ·refine ACalls.of_body Tryz.func152 (by kernel_rfl) rfl (by kernel_rfl) (by simp [Tryz.ntmps152]) (by simp) ?_
  rw [Tryz.ntmps152]
  repeat' first | (refine aops_end (hK _ ?_); clear hK K) | (refine aops_go ?_; simp; (try (refine gen2 ?_ ?_ <;> intro hq <;> try simp at hq))) | (refine T.ret (Done.tup (Or.inr rfl) ?_) <;> simp [resAs, Tryz.results152] <;> omega) | refine T.r0 fun K hK => ?_ | refine T.cf rfl ?_ | refine T.seq ?_ | refine T.skip ?_

theorem l3Match_ok (k : Int) (t : MTy) (hn : nTy t <= 1099511627776) (hl : t.kind = k -> 2 <= t.kids.length) :
  ACalls Tryz.prog 173 [.i k, aTy t] [] (.tup (match matchM k t with | some (a, b) => [aTy a, aTy b, .b true] | none => [aTy zeroT, aTy zeroT, .b false])) [] [] := by
 have hany := l1Any_ok
 simp only [matchM]
 by_cases hk1 : t.kind = 1
 ·rw [if_pos hk1]
  dsimp only
  refine ACalls.of_body Tryz.func173 (by kernel_rfl) rfl (by kernel_rfl) (by simp [Tryz.ntmps173]) (by simp) ?_
  rw [Tryz.ntmps173]
  repeat' first | (refine aops_end (hK _ ?_); clear hK K) | ((first | refine aops_go ?_ | refine wpcall_pure rfl (hany) ?_); simp [hk1]; (try (refine gen2 ?_ ?_ <;> intro hq <;> try simp [hk1] at hq))) | (refine T.ret (Done.tup (Or.inr rfl) ?_) <;> simp [resAs, Tryz.results173] <;> omega) | refine T.r0 fun K hK => ?_ | refine T.ct rfl ?_ | refine T.seq ?_
 rw [if_neg hk1]
 by_cases hk : t.kind = k
 rotate_left
 ·rw [if_neg hk]
  dsimp only
  refine ACalls.of_body Tryz.func173 (by kernel_rfl) rfl (by kernel_rfl) (by simp [Tryz.ntmps173]) (by simp) ?_
  rw [Tryz.ntmps173]
  repeat' first | (refine aops_end (hK _ ?_); clear hK K) | (refine aops_go ?_; simp [hk1, hk]; (try (refine gen2 ?_ ?_ <;> intro hq <;> try simp [hk1, hk] at hq))) | (refine T.ret (Done.tup (Or.inr rfl) ?_) <;> simp [resAs, Tryz.results173] <;> omega) | refine T.r0 fun K hK => ?_ | refine T.ct rfl ?_ | refine T.cf rfl ?_ | refine T.seq ?_ | refine T.skip ?_
 rw [if_pos hk]
 have hl2 := hl hk
 match hkd : t.kids, hl2 with
 | a :: b :: r, _ =>
  dsimp only
  rw [nTy_def, hkd] at hn
  have hk1' : ¬ k = 1 := by rw [<- hk]; exact hk1
  have ha := l1Copy_ok a (by simp [nTyS] at hn; omega)
  have hb := l1Copy_ok b (by simp [nTyS] at hn; omega)
  refine ACalls.of_body Tryz.func173 (by kernel_rfl) rfl (by kernel_rfl) (by simp [Tryz.ntmps173]) (by simp) ?_
  rw [Tryz.ntmps173]
  repeat' first | ((first | refine aops_end (hK _ ?_) | refine aopsD_end (hK _ ?_)); clear hK K) | ((first | refine aops_go ?_ | refine aopsD_go ?_ | refine wpcall_pure rfl (ha) ?_ | refine wpcall_pure rfl (hb) ?_); simp [hk1', hk, hkd]; (try (refine gen2 ?_ ?_ <;> intro hq <;> try simp [hk1', hk, hkd] at hq))) | (refine T.ret (Done.tup (Or.inr rfl) ?_) <;> simp [resAs, Tryz.results173] <;> omega) | refine T.rd (id := 5) mixed (fun _ => false) [10, 11] (by kernel_rfl) fun K hK => ?_ | refine T.r0 fun K hK => ?_ | refine T.cf rfl ?_ | refine T.seq ?_ | refine T.skip ?_

theorem l3Two_ok (k : Int) (a b : MTy) (ha : nTy a <= 549755813888) (hb : nTy b <= 549755813885) :
  ACalls Tryz.prog 165 [.i k, aTy a, aTy b] [] (.tup [aTy (.mk k [a, b]), .b (shapeTy 4 (.mk k [a, b]))]) [] [] := by
 have hca := l1Copy_ok a (by omega)
 have hcb := l1Copy_ok b (by omega)
 have hv := TypeValidS_ok (.mk k [a, b]) (by rw [nTy_def]; simp [nTyS]; omega)
 generalize shapeTy 4 (.mk k [a, b]) = ok at *
 refine ACalls.of_body Tryz.func165 (by kernel_rfl) rfl (by kernel_rfl) (by simp [Tryz.ntmps165]) (by simp) ?_
 rw [Tryz.ntmps165]
 repeat' first | ((first | refine aops_end (hK _ ?_) | refine aopsD_end (hK _ ?_) | refine aopsF_end (hK _ ?_)); clear hK K) | ((first | refine aops_go ?_ | refine aopsD_go ?_ | refine aopsF_go ?_ | refine wpcall_pure rfl (hca) ?_ | refine wpcall_pure rfl (hcb) ?_ | (refine wpcall_pure ?_ (hv) ?_; (focus (solve | simp)))); simp) | (refine T.ret (Done.tup (Or.inr rfl) ?_) <;> simp [resAs, Tryz.results165, eTy_def] <;> omega) | refine T.rdF (id := 1) mixed (fun _ => false) [7, 8] [1, 2, 3, 4, 5, 6] 8 [] (by kernel_rfl) fun K hK => ?_ | (refine ⟨?_, ?_⟩; (focus (intros; refine wpcall_pure rfl (hca) ?_; simp; done))) | (refine ⟨?_, ?_⟩; (focus (intros; refine wpcall_pure rfl (hcb) ?_; simp; done))) | refine T.rd (id := 2) mixed (fun _ => false) [3] (by kernel_rfl) fun K hK => ?_ | refine T.r0 fun K hK => ?_
end Go.Proofs.YtcmdpggdaiinpaaGreatDoor

namespace Go.Proofs.YtcmdpggdaiinpaaGreatDoor
attribute [-simp] Go.Av.keepL Go.Av.ups Go.Av.take_app_len Go.Av.MCo.kind_mk Go.Av.MCo.tag_mk Go.Av.MCo.label_mk Go.Av.MCo.kids_mk Go.Av.innVs Go.Av.putBack Go.Av.objCells Go.Av.back Go.Av.resVs Go.Av.one Go.Av.freeStepG Go.Av.exA Go.Av.innAsH Go.Av.AV.innH Go.Av.CV.innH Go.Av.innHs Go.Av.AV.outnH Go.Av.CV.outnH
open Go Go.Av
attribute [local irreducible] T ACalls eTy eTm MTy.kind MTy.kids MTm.kind MTm.name MTm.num MTm.ty MTm.fr MTm.label MTm.kids
attribute [local simp] eTy_def eTm_def
set_option maxHeartbeats 4000000

@[simp] theorem td_bindS : td Tryz.prog 131 = some { ag := false, sz := 1, by_ := 24, zero := some [.nil], el := some 134, ar := none, fl := [], ik := none, isS := false, isB := false } := keep (by kernel_rfl)
@[simp] theorem td_bind : td Tryz.prog 134 = some { ag := true, sz := 3, by_ := 48, zero := some [.d (.str []), .d (.int .i64 0), .nil], el := none, ar := none, fl := [(0, 1), (1, 2)], ik := none, isS := false, isB := false } := keep (by kernel_rfl)

theorem l3Look_ok (ctx : List MBd) (s : List UInt8) (hl : ctx.length <= 1099511627776) (hn : ∀ b ∈ ctx, nTy b.ty <= 1099511627776) :
  ACalls Tryz.prog 115 [.l (ctx.map eBd), .s s] [] (.tup (match lookM ctx s with | some t => [aTy t, .b true] | none => [aTy zeroT, .b false])) [] [] := by
 have hlook : ∀ p, p < ctx.length -> lookM (ctx.take (p + 1)) s = if (ctx[p]?.map MBd.name) = some s then ctx[p]?.map MBd.ty else lookM (ctx.take p) s := by
  have happ : ∀ (l : List MBd) (b : MBd), lookM (l ++ [b]) s = if b.name = s then some b.ty else lookM l s := by
   intro l
   induction l with
   | nil => intro b; simp [lookM]
   | cons x r ih =>
    intro b
    simp only [List.cons_append, lookM, ih b]
    by_cases hb : b.name = s
    ·simp [hb]
    ·simp [hb]
  intro p hp
  rw [List.take_add_one, List.getElem?_eq_getElem hp]
  simp only [Option.toList_some, happ, Option.map_some, Option.some.injEq]
 refine ACalls.of_body Tryz.func115 (by kernel_rfl) rfl (by kernel_rfl) (by simp [Tryz.ntmps115]) (by simp) ?_
 rw [Tryz.ntmps115]
 repeat' first | (refine aops_end (hK _ ?_); clear hK K) | (refine aops_go ?_; simp; (try simp (disch := omega) only [wrap64]); (try (refine gen2 ?_ ?_ <;> intro hq <;> try simp at hq))) | refine T.r0 fun K hK => ?_ | refine T.seq ?_ | refine T.block ?_
 obtain ⟨R, hR⟩ : ∃ R, lookM ctx s = R := ⟨_, rfl⟩
 rw [hR]
 refine T.loopF (fun p : Nat => ⟨[(0, .l (ctx.map eBd)), (1, .s s), (4, .c (.ptr 0 0)), (6, .i ((p : Int) - 1))], [[.d (.i 0), .nil]], []⟩) (fun p => p) (fun p => p <= ctx.length /\ lookM (ctx.take p) s = R) (fun p hp => ?_) ctx.length (by simpa using hR) (by simp)
 obtain ⟨hi, he⟩ := hp
 cases p with
 | zero =>
  simp [lookM] at he
  subst he
  repeat' first | (refine aops_end (hK _ ?_); clear hK K) | (refine aops_go ?_; simp; (try (refine gen2 ?_ ?_ <;> intro hq <;> try simp at hq))) | (refine T.ret (Done.tup (Or.inr rfl) ?_) <;> simp [resAs, Tryz.results115] <;> omega) | refine T.r0 fun K hK => ?_ | refine T.cf rfl ?_ | refine T.seq ?_ | refine T.exit ?_
 | succ p =>
  rw [hlook p (by omega)] at he
  have hlt : p < ctx.length := by omega
  obtain ⟨b, ht⟩ := get_lt hlt
  have htm : b ∈ ctx := List.mem_of_getElem? ht
  have hgt : ctx[p] = b := by rw [List.getElem?_eq_getElem hlt] at ht; exact Option.some.inj ht
  have hge : (0 : Int) <= (p : Int) + 1 - 1 := by omega
  have hpp : ((p : Int) + 1 - 1) = p := by omega
  have hcp := l1Copy_ok b.ty (hn b htm)
  rw [ht] at he
  by_cases hb : b.name = s
  ·simp [hb] at he
   subst he
   repeat' first | (refine aops_end (hK _ ?_); clear hK K) | ((first | refine aops_go ?_ | refine wpcall_pure rfl (hcp) ?_); simp [hlt, hgt, hge, hpp, hb, eBd]; (try simp (disch := omega) only [wrap64]); (try (refine gen2 ?_ ?_ <;> intro hq <;> try simp [hlt, hgt, hge, hpp, hb, eBd] at hq))) | (refine T.ret (Done.tup (Or.inr rfl) ?_) <;> simp [resAs, Tryz.results115] <;> omega) | refine T.r0 fun K hK => ?_ | refine T.ct rfl ?_ | refine T.seq ?_ | refine T.block ?_ | refine T.skip ?_
  ·simp [hb] at he
   repeat' first | (refine aops_end (hK _ ?_); clear hK K) | (refine aops_go ?_; simp [hlt, hgt, hge, hpp, hb, eBd]; (try simp (disch := omega) only [wrap64]); (try (refine gen2 ?_ ?_ <;> intro hq <;> try simp [hlt, hgt, hge, hpp, hb, eBd] at hq))) | (refine ⟨p, by dsimp only; omega, ⟨by omega, he⟩, rfl, rfl, ?_⟩; simp (disch := omega) [wrap64]) | refine T.r0 fun K hK => ?_ | refine T.r1 fun K hK => ?_ | refine T.ct rfl ?_ | refine T.cf rfl ?_ | refine T.seq ?_ | refine T.block ?_ | refine T.skip ?_

theorem l3More_ok (ctx : List MBd) (s : List UInt8) (t : MTy) (hl : ctx.length <= 1099511627776) :
  ACalls Tryz.prog 150 [.l (ctx.map eBd), .s s, aTy t] [] (.l ((ctx ++ [MBd.mk s t]).map eBd)) [] [] := by
 refine ACalls.of_body Tryz.func150 (by kernel_rfl) rfl (by kernel_rfl) (by simp [Tryz.ntmps150]) (by simp) ?_
 rw [Tryz.ntmps150]
 repeat' first | ((first | refine aops_end (hK _ ?_) | refine aopsF_end (hK _ ?_)); clear hK K) | ((first | refine aops_go ?_ | refine aopsF_go ?_); simp [eBd]; (try (refine gen2 ?_ ?_ <;> intro hq <;> try simp [eBd] at hq))) | (refine ⟨by omega, by omega, ?_⟩) | (refine T.ret (Done.val (Or.inr rfl) ?_) <;> simp [resAs, Tryz.results150, eBd] <;> omega) | refine T.rdF (id := 1) mixed (fun i => i == 0) [0, 2, 7] [4, 5, 6] 3 [] (by kernel_rfl) fun K hK => ?_ | refine T.rs (id := 0) (fun _ => false) fun K hK => ?_

theorem CtxValidS_ok (ctx : List MBd) (hl : ctx.length <= 1099511627776) (hn : ∀ b ∈ ctx, nTy b.ty <= 1099511627776) : ACalls Tryz.prog 151 [.l (ctx.map eBd)] [] (.b (ctxM ctx)) [] [] := by
 simp only [ctxM]
 obtain ⟨R, hR⟩ : ∃ R, ctx.all (fun b => nameM b.name && shapeTy 4 b.ty) = R := ⟨_, rfl⟩
 rw [hR]
 refine ACalls.of_body Tryz.func151 (by kernel_rfl) rfl (by kernel_rfl) (by simp [Tryz.ntmps151]) (by simp) ?_
 rw [Tryz.ntmps151]
 repeat' first | (refine aops_end (hK _ ?_); clear hK K) | (refine aops_go ?_; simp; (try (refine gen2 ?_ ?_ <;> intro hq <;> try simp at hq))) | refine T.r0 fun K hK => ?_ | refine T.seq ?_ | refine T.block ?_
 refine T.loopF (fun p : Nat => ⟨[(0, .l (ctx.map eBd)), (3, .i p)], [], []⟩) (fun p => ctx.length + 1 - p) (fun p => p <= ctx.length /\ (ctx.drop p).all (fun b => nameM b.name && shapeTy 4 b.ty) = R) (fun p hp => ?_) 0 (by simpa using hR) (by simp)
 obtain ⟨hi, he⟩ := hp
 by_cases hlt : p < ctx.length
 ·obtain ⟨b, ht⟩ := get_lt hlt
  have htm : b ∈ ctx := List.mem_of_getElem? ht
  have hgt : ctx[p] = b := by rw [List.getElem?_eq_getElem hlt] at ht; exact Option.some.inj ht
  have hdr : ctx.drop p = b :: ctx.drop (p + 1) := by rw [List.drop_eq_getElem_cons hlt, hgt]
  have h1 := l2Name_ok b.name
  have h2 := TypeValidS_ok b.ty (hn b htm)
  rw [hdr, List.all_cons] at he
  cases hb1 : nameM b.name <;> rw [hb1] at h1 he
  ·repeat' first | (refine aops_end (hK _ ?_); clear hK K) | ((first | refine aops_go ?_ | refine wpcall_pure rfl (h1) ?_); simp [hlt, hgt, eBd]; (try simp (disch := omega) only [wrap64]); (try (refine gen2 ?_ ?_ <;> intro hq <;> try simp [hlt, hgt, eBd] at hq))) | (refine T.ret (Done.data (Or.inr rfl) ?_ ?_) <;> simp [Tryz.results151, <- he] <;> omega) | refine T.r0 fun K hK => ?_ | refine T.ct rfl ?_ | refine T.seq ?_ | refine T.block ?_ | refine T.skip ?_
  ·cases hb2 : shapeTy 4 b.ty <;> rw [hb2] at h2 he
   ·repeat' first | (refine aops_end (hK _ ?_); clear hK K) | ((first | refine aops_go ?_ | refine wpcall_pure rfl (h1) ?_ | refine wpcall_pure rfl (h2) ?_); simp [hlt, hgt, eBd]; (try simp (disch := omega) only [wrap64]); (try (refine gen2 ?_ ?_ <;> intro hq <;> try simp [hlt, hgt, eBd] at hq))) | (refine T.ret (Done.data (Or.inr rfl) ?_ ?_) <;> simp [Tryz.results151, <- he] <;> omega) | refine T.r0 fun K hK => ?_ | refine T.ct rfl ?_ | refine T.seq ?_ | refine T.block ?_ | refine T.skip ?_
   ·repeat' first | (refine aops_end (hK _ ?_); clear hK K) | ((first | refine aops_go ?_ | refine wpcall_pure rfl (h1) ?_ | refine wpcall_pure rfl (h2) ?_); simp [hlt, hgt, eBd]; (try simp (disch := omega) only [wrap64]); (try (refine gen2 ?_ ?_ <;> intro hq <;> try simp [hlt, hgt, eBd] at hq))) | (refine ⟨p + 1, by dsimp only; omega, ⟨by omega, by simpa using he⟩, rfl, rfl, ?_⟩; simp (disch := omega) [wrap64]) | refine T.r0 fun K hK => ?_ | refine T.r1 fun K hK => ?_ | refine T.ct rfl ?_ | refine T.cf rfl ?_ | refine T.seq ?_ | refine T.block ?_ | refine T.skip ?_
 ·have hp' : p = ctx.length := by omega
  subst hp'
  simp at he
  subst he
  repeat' first | (refine aops_end (hK _ ?_); clear hK K) | (refine aops_go ?_; simp [hlt]; (try (refine gen2 ?_ ?_ <;> intro hq <;> try simp [hlt] at hq))) | (refine T.ret (Done.data (Or.inr rfl) ?_ ?_) <;> simp [Tryz.results151, *] <;> omega) | refine T.r0 fun K hK => ?_ | refine T.cf rfl ?_ | refine T.seq ?_ | refine T.exit ?_
end Go.Proofs.YtcmdpggdaiinpaaGreatDoor

namespace Go.Proofs.YtcmdpggdaiinpaaGreatDoor
attribute [-simp] Go.Av.keepL Go.Av.ups Go.Av.take_app_len Go.Av.MCo.kind_mk Go.Av.MCo.tag_mk Go.Av.MCo.label_mk Go.Av.MCo.kids_mk Go.Av.innVs Go.Av.putBack Go.Av.objCells Go.Av.back Go.Av.resVs Go.Av.one Go.Av.freeStepG Go.Av.exA Go.Av.innAsH Go.Av.AV.innH Go.Av.CV.innH Go.Av.innHs Go.Av.AV.outnH Go.Av.CV.outnH
open Go Go.Av
attribute [local irreducible] T ACalls eTy eTm MTy.kind MTy.kids MTm.kind MTm.name MTm.num MTm.ty MTm.fr MTm.label MTm.kids
attribute [local simp] eTy_def eTm_def
set_option maxHeartbeats 4000000

theorem shape_nTy : ∀ (d : Nat) (t : MTy), shapeTy d t = true -> nTy t + 2 <= 2 ^ d
 | 0, t, h => by simp [shapeTy] at h
 | d + 1, t, h => by
  obtain ⟨e, he, _, hl, hs⟩ := shapeTy_kids h
  obtain rfl : d = e := by omega
  rw [nTy_def]
  have hp : 1 <= 2 ^ d := Nat.one_le_two_pow
  have hpow : 2 ^ (d + 1) = 2 * 2 ^ d := by rw [Nat.pow_succ]; omega
  match hk : t.kids, hl with
  | [], _ => simp [nTyS]; omega
  | [a], _ => have := shape_nTy d a (hs a (by simp [hk])); simp [nTyS]; omega
  | [a, b], _ =>
   have h1 := shape_nTy d a (hs a (by simp [hk]))
   have h2 := shape_nTy d b (hs b (by simp [hk]))
   simp [nTyS]; omega

theorem shape4 {t : MTy} (h : shapeTy 4 t = true) : nTy t <= 14 := by have := shape_nTy 4 t h; omega

theorem shape_two {k : Int} {t : MTy} (hk : k = 4 \/ k = 5) (h : shapeTy 4 t = true) : t.kind = k -> 2 <= t.kids.length := by
 intro he
 obtain ⟨_, _, hl, _, _⟩ := shapeTy_kids h
 rw [he] at hl
 rcases hk with rfl | rfl <;> simp [tyKids] at hl <;> omega

theorem l2Shape_ok : ∀ (d : Nat) (e : MTm), d <= 1000 -> nTm e <= 1099511627776 -> ACalls Tryz.prog 130 [aTm e, .i d] [] (.b (shapeTm 14 d e)) [] []
 | 0, e, _, _ => by
  refine ACalls.of_body Tryz.func130 (by kernel_rfl) rfl (by kernel_rfl) (by simp [Tryz.ntmps130]) (by simp) ?_
  rw [Tryz.ntmps130]
  repeat' first | ((first | refine aops_end (hK _ ?_) | refine aopsD_end (hK _ ?_)); clear hK K) | ((first | refine aops_go ?_ | refine aopsD_go ?_); simp; (try (refine gen2 ?_ ?_ <;> intro hq <;> try simp at hq))) | (refine T.ret (Done.data (Or.inr rfl) ?_ ?_) <;> simp [Tryz.results130, shapeTm] <;> omega) | refine T.rd (id := 1) mixed (fun _ => false) [] (by kernel_rfl) fun K hK => ?_ | refine T.r0 fun K hK => ?_ | refine T.ct rfl ?_ | refine T.seq ?_
 | d + 1, e, hd, hn => by
  obtain ⟨hnt, hnf, hnk, hnu⟩ := nTm_parts hn
  have hkids := l2Kids_ok e.kind
  have hd1 : ¬ ((d : Int) + 1 < 1) := by omega
  have hsh : shapeTm 14 (d + 1) e = (decide (e.kind ≠ 14) && (decide (kidsM e.kind = e.kids.length) && ownM e) && e.kids.all (shapeTm 14 d)) := rfl
  by_cases hk14 : e.kind = 14
  ·rw [hk14] at hkids
   rw [show shapeTm 14 (d + 1) e = false by rw [hsh]; simp [hk14]]
   refine ACalls.of_body Tryz.func130 (by kernel_rfl) rfl (by kernel_rfl) (by simp [Tryz.ntmps130]) (by simp) ?_
   rw [Tryz.ntmps130]
   repeat' first | ((first | refine aops_end (hK _ ?_) | refine aopsD_end (hK _ ?_)); clear hK K) | ((first | refine aops_go ?_ | refine aopsD_go ?_ | refine wpcall_pure rfl (hkids) ?_); simp [hd1, hk14]; (try (refine gen2 ?_ ?_ <;> intro hq <;> try simp [hd1, hk14] at hq))) | (refine T.ret (Done.data (Or.inr rfl) ?_ ?_) <;> simp [Tryz.results130] <;> omega) | refine T.rd (id := 1) mixed (fun _ => false) [] (by kernel_rfl) fun K hK => ?_ | refine T.r0 fun K hK => ?_ | refine T.ct rfl ?_ | refine T.seq ?_
  by_cases hlen : kidsM e.kind = e.kids.length
  rotate_left
  ·rw [show shapeTm 14 (d + 1) e = false by rw [hsh]; simp [hlen]]
   refine ACalls.of_body Tryz.func130 (by kernel_rfl) rfl (by kernel_rfl) (by simp [Tryz.ntmps130]) (by simp) ?_
   rw [Tryz.ntmps130]
   repeat' first | ((first | refine aops_end (hK _ ?_) | refine aopsD_end (hK _ ?_)); clear hK K) | ((first | refine aops_go ?_ | refine aopsD_go ?_ | refine wpcall_pure rfl (hkids) ?_); simp [hd1, hlen]; (try (refine gen2 ?_ ?_ <;> intro hq <;> try simp [hd1, hlen] at hq))) | (refine T.ret (Done.data (Or.inr rfl) ?_ ?_) <;> simp [Tryz.results130] <;> omega) | refine T.rd (id := 1) mixed (fun _ => false) [] (by kernel_rfl) fun K hK => ?_ | refine T.r0 fun K hK => ?_ | refine T.ct rfl ?_ | refine T.seq ?_
  rw [hlen] at hkids
  have hsh2 : shapeTm 14 (d + 1) e = (ownM e && e.kids.all (shapeTm 14 d)) := by rw [hsh]; simp [hk14, hlen]
  have hown := l2Own_ok e hk14 hnt
  obtain ⟨R, hR⟩ : ∃ R, e.kids.all (shapeTm 14 d) = R := ⟨_, rfl⟩
  rw [hsh2, hR]
  generalize ownM e = O at hown
  clear hsh hsh2
  cases O
  ·refine ACalls.of_body Tryz.func130 (by kernel_rfl) rfl (by kernel_rfl) (by simp [Tryz.ntmps130]) (by simp) ?_
   rw [Tryz.ntmps130]
   repeat' first | ((first | refine aops_end (hK _ ?_) | refine aopsD_end (hK _ ?_)); clear hK K) | ((first | refine aops_go ?_ | refine aopsD_go ?_ | refine wpcall_pure rfl (hkids) ?_ | refine wpcall_pure rfl (hown) ?_); simp [hd1, hk14]; (try (refine gen2 ?_ ?_ <;> intro hq <;> try simp [hd1, hk14] at hq))) | (refine T.ret (Done.data (Or.inr rfl) ?_ ?_) <;> simp [Tryz.results130] <;> omega) | refine T.rd (id := 1) mixed (fun _ => false) [] (by kernel_rfl) fun K hK => ?_ | refine T.r0 fun K hK => ?_ | refine T.ct rfl ?_ | refine T.seq ?_
  refine ACalls.of_body Tryz.func130 (by kernel_rfl) rfl (by kernel_rfl) (by simp [Tryz.ntmps130]) (by simp) ?_
  rw [Tryz.ntmps130]
  repeat' first | ((first | refine aops_end (hK _ ?_) | refine aopsD_end (hK _ ?_)); clear hK K) | ((first | refine aops_go ?_ | refine aopsD_go ?_ | refine wpcall_pure rfl (hkids) ?_ | refine wpcall_pure rfl (hown) ?_); simp [hd1, hk14]; (try (refine gen2 ?_ ?_ <;> intro hq <;> try simp [hd1, hk14] at hq))) | refine T.rd (id := 1) mixed (fun _ => false) [] (by kernel_rfl) fun K hK => ?_ | refine T.r0 fun K hK => ?_ | refine T.cf rfl ?_ | refine T.seq ?_ | refine T.block ?_ | refine T.skip ?_
  rw [Bool.true_and]
  refine T.loopF (fun p : Nat => ⟨[(1, .i (d + 1)), (2, .c (.ptr 0 0)), (5, .i p)], [(aTm e).cells], []⟩) (fun p => e.kids.length + 1 - p) (fun p => p <= e.kids.length /\ (e.kids.drop p).all (shapeTm 14 d) = R) (fun p hp => ?_) 0 (by simpa using hR) (by simp)
  obtain ⟨hi, he⟩ := hp
  by_cases hlt : p < e.kids.length
  ·obtain ⟨u, ht⟩ := get_lt hlt
   have htm : u ∈ e.kids := List.mem_of_getElem? ht
   have hgt : e.kids[p] = u := by rw [List.getElem?_eq_getElem hlt] at ht; exact Option.some.inj ht
   have hdr : e.kids.drop p = u :: e.kids.drop (p + 1) := by rw [List.drop_eq_getElem_cons hlt, hgt]
   have hu := l2Shape_ok d u (by omega) (hnu u htm)
   rw [hdr, List.all_cons] at he
   cases hb : shapeTm 14 d u <;> rw [hb] at hu he
   ·repeat' first | (refine aops_end (hK _ ?_); clear hK K) | ((first | refine aops_go ?_ | refine wpcall_pure rfl (hu) ?_); simp [hlt, hgt]; (try simp (disch := omega) only [wrap64]); (try (refine gen2 ?_ ?_ <;> intro hq <;> try simp [hlt, hgt] at hq))) | (refine T.ret (Done.data (Or.inr rfl) ?_ ?_) <;> simp [Tryz.results130, <- he] <;> omega) | refine T.r0 fun K hK => ?_ | refine T.ct rfl ?_ | refine T.seq ?_ | refine T.block ?_ | refine T.skip ?_
   ·repeat' first | (refine aops_end (hK _ ?_); clear hK K) | ((first | refine aops_go ?_ | refine wpcall_pure rfl (hu) ?_); simp [hlt, hgt]; (try simp (disch := omega) only [wrap64]); (try (refine gen2 ?_ ?_ <;> intro hq <;> try simp [hlt, hgt] at hq))) | (refine ⟨p + 1, by dsimp only; omega, ⟨by omega, by simpa using he⟩, rfl, rfl, ?_⟩; simp (disch := omega) [wrap64]) | refine T.r0 fun K hK => ?_ | refine T.r1 fun K hK => ?_ | refine T.ct rfl ?_ | refine T.cf rfl ?_ | refine T.seq ?_ | refine T.block ?_ | refine T.skip ?_
  ·have hp' : p = e.kids.length := by omega
   subst hp'
   simp at he
   repeat' first | (refine aops_end (hK _ ?_); clear hK K) | (refine aops_go ?_; simp [hlt]; (try (refine gen2 ?_ ?_ <;> intro hq <;> try simp [hlt] at hq))) | (refine T.ret (Done.data (Or.inr rfl) ?_ ?_) <;> simp [Tryz.results130, he] <;> omega) | refine T.r0 fun K hK => ?_ | refine T.cf rfl ?_ | refine T.seq ?_ | refine T.exit ?_

theorem TermValidS_ok (e : MTm) (hn : nTm e <= 1099511627776) : ACalls Tryz.prog 90 [aTm e] [] (.b (termValidM e)) [] [] := by
 have h1 := l2Shape_ok 12 e (by omega) hn
 have h2 := l2Count_ok 12 e (by omega) hn
 rw [show termValidM e = (shapeTm 14 12 e && decide (countTm 12 e <= 30)) from rfl]
 generalize shapeTm 14 12 e = a at *
 generalize countTm 12 e = b at *
 refine ACalls.of_body Tryz.func90 (by kernel_rfl) rfl (by kernel_rfl) (by simp [Tryz.ntmps90]) (by simp) ?_
 rw [Tryz.ntmps90]
 repeat' first | (refine aops_end (hK _ ?_); clear hK K) | ((first | refine aops_go ?_ | refine wpcall_pure rfl (h1) ?_ | refine wpcall_pure rfl (h2) ?_); simp; (try (refine gen2 ?_ ?_ <;> intro hq <;> try simp at hq))) | (refine T.ret (Done.data (Or.inr rfl) ?_ ?_) <;> simp [Tryz.results90, *] <;> omega) | refine T.r0 fun K hK => ?_

def L3R (e : MTm) (ts : List MTy) (r : Option MTy) : Prop := ∃ t', (∀ t, r = some t -> t' = t) /\ ACalls Tryz.prog 166 [aTm e, .l (ts.map eTy)] [] (.tup [aTy t', .b r.isSome]) [] []

theorem l3R6 (e : MTm) (a b : MTy) (hk : e.kind = 6) (ha : shapeTy 4 a = true) (hb : shapeTy 4 b = true) :
  L3R e [a, b] (match matchM 4 a with | some (x, y) => if consTy b x = true then some y else none | none => none) := by
 have hm := l3Match_ok 4 a (by have := shape4 ha; omega) (shape_two (.inl rfl) ha)
 cases hr : matchM 4 a with
 | none =>
  rw [hr] at hm
  refine ⟨zeroT, by simp, ?_⟩
  refine ACalls.of_body Tryz.func166 (by kernel_rfl) rfl (by kernel_rfl) (by simp [Tryz.ntmps166]) (by simp) ?_
  rw [Tryz.ntmps166]
  repeat' first | ((first | refine aops_end (hK _ ?_) | refine aopsD_end (hK _ ?_)); clear hK K) | ((first | refine aops_go ?_ | refine aopsD_go ?_ | refine wpcall_pure rfl (hm) ?_); simp [hk]; (try (refine gen2 ?_ ?_ <;> intro hq <;> try simp [hk] at hq))) | (refine T.ret (Done.tup (Or.inr rfl) ?_) <;> simp [resAs, Tryz.results166] <;> omega) | refine T.rd (id := 4) mixed (fun _ => false) [9] (by kernel_rfl) fun K hK => ?_ | refine T.r0 fun K hK => ?_ | refine T.ct rfl ?_ | refine T.seq ?_ | refine T.block ?_
 | some p =>
  obtain ⟨x, y⟩ := p
  rw [hr] at hm
  obtain ⟨hx, hy⟩ := match_shape hr ha
  have hc := l1Consistent_ok 4 b x (by omega) hb hx
  refine ⟨y, ?_, ?_⟩
  ·intro t h; dsimp only at h; split at h <;> simp at h; exact h
  dsimp only at hm ⊢
  rw [show (if consTy b x = true then some y else none).isSome = consTy b x by cases consTy b x <;> rfl]
  generalize consTy b x = c at hc
  refine ACalls.of_body Tryz.func166 (by kernel_rfl) rfl (by kernel_rfl) (by simp [Tryz.ntmps166]) (by simp) ?_
  rw [Tryz.ntmps166]
  repeat' first | ((first | refine aops_end (hK _ ?_) | refine aopsD_end (hK _ ?_)); clear hK K) | ((first | refine aops_go ?_ | refine aopsD_go ?_ | refine wpcall_pure rfl (hm) ?_ | refine wpcall_pure rfl (hc) ?_); simp [hk]; (try (refine gen2 ?_ ?_ <;> intro hq <;> try simp [hk] at hq))) | (refine T.ret (Done.tup (Or.inr rfl) ?_) <;> simp [resAs, Tryz.results166, *] <;> omega) | refine T.rd (id := 4) mixed (fun _ => false) [9] (by kernel_rfl) fun K hK => ?_ | refine T.r0 fun K hK => ?_ | refine T.ct rfl ?_ | refine T.seq ?_ | refine T.block ?_

theorem l3R7 (e : MTm) (a b : MTy) (hk : e.kind = 7) (ha : shapeTy 4 a = true) (hb : shapeTy 4 b = true) :
  L3R e [a, b] (if consTy a intT = true /\ consTy b intT = true then some intT else none) := by
 have hi : shapeTy 4 intT = true := by simp [shapeTy, tyKids]
 have h1 := l1Consistent_ok 4 a intT (by omega) ha hi
 have h2 := l1Consistent_ok 4 b intT (by omega) hb hi
 have h3 := l3Int_ok
 have h4 := l3Bool_ok
 refine ⟨intT, ?_, ?_⟩
 ·intro t h; split at h <;> simp at h; exact h
 rw [show (if consTy a intT = true /\ consTy b intT = true then some intT else none).isSome = (consTy a intT && consTy b intT) by cases consTy a intT <;> cases consTy b intT <;> rfl]
 generalize consTy a intT = c1 at h1 ⊢
 generalize consTy b intT = c2 at h2 ⊢
 refine ACalls.of_body Tryz.func166 (by kernel_rfl) rfl (by kernel_rfl) (by simp [Tryz.ntmps166]) (by simp) ?_
 rw [Tryz.ntmps166]
 repeat' first | ((first | refine aops_end (hK _ ?_) | refine aopsD_end (hK _ ?_)); clear hK K) | ((first | refine aops_go ?_ | refine aopsD_go ?_ | refine wpcall_pure rfl (h3) ?_ | (refine wpcall_pure ?_ (h1) ?_; (focus (solve | simp [hk]))) | (refine wpcall_pure ?_ (h2) ?_; (focus (solve | simp [hk])))); simp [hk]; (try (refine gen2 ?_ ?_ <;> intro hq <;> try simp [hk] at hq))) | (refine T.ret (Done.tup (Or.inr rfl) ?_) <;> simp [resAs, Tryz.results166, *] <;> omega) | refine T.rd (id := 6) mixed (fun _ => false) [13] (by kernel_rfl) fun K hK => ?_ | refine T.r0 fun K hK => ?_ | refine T.ct rfl ?_ | refine T.cf rfl ?_ | refine T.seq ?_ | refine T.block ?_

theorem l3R8 (e : MTm) (a b : MTy) (hk : e.kind = 8) (ha : shapeTy 4 a = true) (hb : shapeTy 4 b = true) :
  L3R e [a, b] (if consTy a intT = true /\ consTy b intT = true then some boolT else none) := by
 have hi : shapeTy 4 intT = true := by simp [shapeTy, tyKids]
 have h1 := l1Consistent_ok 4 a intT (by omega) ha hi
 have h2 := l1Consistent_ok 4 b intT (by omega) hb hi
 have h3 := l3Int_ok
 have h4 := l3Bool_ok
 refine ⟨boolT, ?_, ?_⟩
 ·intro t h; split at h <;> simp at h; exact h
 rw [show (if consTy a intT = true /\ consTy b intT = true then some boolT else none).isSome = (consTy a intT && consTy b intT) by cases consTy a intT <;> cases consTy b intT <;> rfl]
 generalize consTy a intT = c1 at h1 ⊢
 generalize consTy b intT = c2 at h2 ⊢
 refine ACalls.of_body Tryz.func166 (by kernel_rfl) rfl (by kernel_rfl) (by simp [Tryz.ntmps166]) (by simp) ?_
 rw [Tryz.ntmps166]
 repeat' first | ((first | refine aops_end (hK _ ?_) | refine aopsD_end (hK _ ?_)); clear hK K) | ((first | refine aops_go ?_ | refine aopsD_go ?_ | refine wpcall_pure rfl (h3) ?_ | refine wpcall_pure rfl (h4) ?_ | (refine wpcall_pure ?_ (h1) ?_; (focus (solve | simp [hk]))) | (refine wpcall_pure ?_ (h2) ?_; (focus (solve | simp [hk])))); simp [hk]; (try (refine gen2 ?_ ?_ <;> intro hq <;> try simp [hk] at hq))) | (refine T.ret (Done.tup (Or.inr rfl) ?_) <;> simp [resAs, Tryz.results166, *] <;> omega) | refine T.rd (id := 8) mixed (fun _ => false) [13] (by kernel_rfl) fun K hK => ?_ | refine T.r0 fun K hK => ?_ | refine T.ct rfl ?_ | refine T.cf rfl ?_ | refine T.seq ?_ | refine T.block ?_

theorem l3R9 (e : MTm) (a b c : MTy) (hk : e.kind = 9) (ha : shapeTy 4 a = true) (hb : shapeTy 4 b = true) (hc : shapeTy 4 c = true) :
  L3R e [a, b, c] (if consTy b c = true /\ consTy a boolT = true then some (meetTy b c) else none) := by
 have hi : shapeTy 4 boolT = true := by simp [shapeTy, tyKids]
 have h1 := l1Consistent_ok 4 b c (by omega) hb hc
 have h2 := l1Consistent_ok 4 a boolT (by omega) ha hi
 have h4 := l3Bool_ok
 by_cases hbc : consTy b c = true
 rotate_left
 ·have hbc' : consTy b c = false := by simpa using hbc
  rw [hbc'] at h1
  refine ⟨zeroT, by simp [hbc'], ?_⟩
  rw [if_neg (by simp [hbc'])]
  refine ACalls.of_body Tryz.func166 (by kernel_rfl) rfl (by kernel_rfl) (by simp [Tryz.ntmps166]) (by simp) ?_
  rw [Tryz.ntmps166]
  repeat' first | ((first | refine aops_end (hK _ ?_) | refine aopsD_end (hK _ ?_)); clear hK K) | ((first | refine aops_go ?_ | refine aopsD_go ?_ | refine wpcall_pure rfl (h1) ?_); simp [hk]; (try (refine gen2 ?_ ?_ <;> intro hq <;> try simp [hk] at hq))) | (refine T.ret (Done.tup (Or.inr rfl) ?_) <;> simp [resAs, Tryz.results166] <;> omega) | refine T.rd (id := 10) mixed (fun _ => false) [] (by kernel_rfl) fun K hK => ?_ | refine T.r0 fun K hK => ?_ | refine T.ct rfl ?_ | refine T.cf rfl ?_ | refine T.seq ?_ | refine T.block ?_
 have h5 := l1Meet_ok b c (by have := shape4 hb; omega) (by have := shape4 hc; omega) hbc
 rw [hbc] at h1
 refine ⟨meetTy b c, ?_, ?_⟩
 ·intro t h; split at h <;> simp at h; exact h
 rw [show (if consTy b c = true /\ consTy a boolT = true then some (meetTy b c) else none).isSome = consTy a boolT by rw [hbc]; cases consTy a boolT <;> rfl]
 generalize consTy a boolT = c2 at h2 ⊢
 generalize meetTy b c = mt at h5 ⊢
 refine ACalls.of_body Tryz.func166 (by kernel_rfl) rfl (by kernel_rfl) (by simp [Tryz.ntmps166]) (by simp) ?_
 rw [Tryz.ntmps166]
 repeat' first | ((first | refine aops_end (hK _ ?_) | refine aopsD_end (hK _ ?_)); clear hK K) | ((first | refine aops_go ?_ | refine aopsD_go ?_ | refine wpcall_pure rfl (h1) ?_ | refine wpcall_pure rfl (h5) ?_ | refine wpcall_pure rfl (h4) ?_ | (refine wpcall_pure ?_ (h2) ?_; (focus (solve | simp [hk])))); simp [hk]; (try (refine gen2 ?_ ?_ <;> intro hq <;> try simp [hk] at hq))) | (refine T.ret (Done.tup (Or.inr rfl) ?_) <;> simp [resAs, Tryz.results166, *] <;> omega) | refine T.rd (id := 10) mixed (fun _ => false) [] (by kernel_rfl) fun K hK => ?_ | refine T.rd (id := 12) mixed (fun _ => false) [12] (by kernel_rfl) fun K hK => ?_ | refine T.r0 fun K hK => ?_ | refine T.ct rfl ?_ | refine T.cf rfl ?_ | refine T.seq ?_ | refine T.block ?_ | refine T.skip ?_

theorem l3R10 (e : MTm) (a b : MTy) (hk : e.kind = 10) (ha : shapeTy 4 a = true) (hb : shapeTy 4 b = true) : L3R e [a, b] (twoM 5 a b) := by
 have h1 := l3Two_ok 5 a b (by have := shape4 ha; omega) (by have := shape4 hb; omega)
 refine ⟨.mk 5 [a, b], ?_, ?_⟩
 ·intro t h; simp only [twoM] at h; split at h <;> simp at h; exact h
 rw [show (twoM 5 a b).isSome = shapeTy 4 (.mk 5 [a, b]) by simp only [twoM]; split <;> simp [*]]
 generalize shapeTy 4 (.mk 5 [a, b]) = c at h1 ⊢
 refine ACalls.of_body Tryz.func166 (by kernel_rfl) rfl (by kernel_rfl) (by simp [Tryz.ntmps166]) (by simp) ?_
 rw [Tryz.ntmps166]
 repeat' first | ((first | refine aops_end (hK _ ?_) | refine aopsD_end (hK _ ?_)); clear hK K) | ((first | refine aops_go ?_ | refine aopsD_go ?_ | refine wpcall_pure rfl (h1) ?_); simp [hk]; (try (refine gen2 ?_ ?_ <;> intro hq <;> try simp [hk] at hq))) | (refine T.ret (Done.tup (Or.inr rfl) ?_) <;> simp [resAs, Tryz.results166, *] <;> omega) | refine T.rd (id := 14) mixed (fun _ => false) [9] (by kernel_rfl) fun K hK => ?_ | refine T.r0 fun K hK => ?_ | refine T.ct rfl ?_ | refine T.cf rfl ?_ | refine T.seq ?_ | refine T.block ?_

theorem l3R11 (e : MTm) (a : MTy) (hk : e.kind = 11) (ha : shapeTy 4 a = true) : L3R e [a] ((matchM 5 a).map (·.1)) := by
 have hm := l3Match_ok 5 a (by have := shape4 ha; omega) (shape_two (.inr rfl) ha)
 cases hr : matchM 5 a with
 | none =>
  rw [hr] at hm
  refine ⟨zeroT, by simp, ?_⟩
  refine ACalls.of_body Tryz.func166 (by kernel_rfl) rfl (by kernel_rfl) (by simp [Tryz.ntmps166]) (by simp) ?_
  rw [Tryz.ntmps166]
  repeat' first | (refine aops_end (hK _ ?_); clear hK K) | ((first | refine aops_go ?_ | refine wpcall_pure rfl (hm) ?_); simp [hk]; (try (refine gen2 ?_ ?_ <;> intro hq <;> try simp [hk] at hq))) | (refine T.ret (Done.tup (Or.inr rfl) ?_) <;> simp [resAs, Tryz.results166] <;> omega) | refine T.r0 fun K hK => ?_ | refine T.ct rfl ?_ | refine T.cf rfl ?_ | refine T.seq ?_ | refine T.block ?_
 | some p =>
  obtain ⟨x, y⟩ := p
  rw [hr] at hm
  refine ⟨(x, y).1, by simp, ?_⟩
  dsimp only at hm ⊢
  refine ACalls.of_body Tryz.func166 (by kernel_rfl) rfl (by kernel_rfl) (by simp [Tryz.ntmps166]) (by simp) ?_
  rw [Tryz.ntmps166]
  repeat' first | (refine aops_end (hK _ ?_); clear hK K) | ((first | refine aops_go ?_ | refine wpcall_pure rfl (hm) ?_); simp [hk]; (try (refine gen2 ?_ ?_ <;> intro hq <;> try simp [hk] at hq))) | (refine T.ret (Done.tup (Or.inr rfl) ?_) <;> simp [resAs, Tryz.results166] <;> omega) | refine T.r0 fun K hK => ?_ | refine T.ct rfl ?_ | refine T.cf rfl ?_ | refine T.seq ?_ | refine T.block ?_

theorem l3R12 (e : MTm) (a : MTy) (hk : e.kind = 12) (ha : shapeTy 4 a = true) : L3R e [a] ((matchM 5 a).map (·.2)) := by
 have hm := l3Match_ok 5 a (by have := shape4 ha; omega) (shape_two (.inr rfl) ha)
 cases hr : matchM 5 a with
 | none =>
  rw [hr] at hm
  refine ⟨zeroT, by simp, ?_⟩
  refine ACalls.of_body Tryz.func166 (by kernel_rfl) rfl (by kernel_rfl) (by simp [Tryz.ntmps166]) (by simp) ?_
  rw [Tryz.ntmps166]
  repeat' first | (refine aops_end (hK _ ?_); clear hK K) | ((first | refine aops_go ?_ | refine wpcall_pure rfl (hm) ?_); simp [hk]; (try (refine gen2 ?_ ?_ <;> intro hq <;> try simp [hk] at hq))) | (refine T.ret (Done.tup (Or.inr rfl) ?_) <;> simp [resAs, Tryz.results166] <;> omega) | refine T.r0 fun K hK => ?_ | refine T.ct rfl ?_ | refine T.cf rfl ?_ | refine T.seq ?_ | refine T.block ?_
 | some p =>
  obtain ⟨x, y⟩ := p
  rw [hr] at hm
  refine ⟨(x, y).2, by simp, ?_⟩
  dsimp only at hm ⊢
  refine ACalls.of_body Tryz.func166 (by kernel_rfl) rfl (by kernel_rfl) (by simp [Tryz.ntmps166]) (by simp) ?_
  rw [Tryz.ntmps166]
  repeat' first | (refine aops_end (hK _ ?_); clear hK K) | ((first | refine aops_go ?_ | refine wpcall_pure rfl (hm) ?_); simp [hk]; (try (refine gen2 ?_ ?_ <;> intro hq <;> try simp [hk] at hq))) | (refine T.ret (Done.tup (Or.inr rfl) ?_) <;> simp [resAs, Tryz.results166] <;> omega) | refine T.r0 fun K hK => ?_ | refine T.ct rfl ?_ | refine T.cf rfl ?_ | refine T.seq ?_ | refine T.block ?_

theorem l3R13 (e : MTm) (a : MTy) (hk : e.kind = 13) (ha : shapeTy 4 a = true) (he : shapeTy 4 e.ty = true) : L3R e [a] (if consTy a e.ty = true then some e.ty else none) := by
 have h1 := l1Copy_ok e.ty (by have := shape4 he; omega)
 have h2 := l1Consistent_ok 4 a e.ty (by omega) ha he
 refine ⟨e.ty, ?_, ?_⟩
 ·intro t h; split at h <;> simp at h; exact h
 rw [show (if consTy a e.ty = true then some e.ty else none).isSome = consTy a e.ty by cases consTy a e.ty <;> rfl]
 generalize consTy a e.ty = c at h2 ⊢
 refine ACalls.of_body Tryz.func166 (by kernel_rfl) rfl (by kernel_rfl) (by simp [Tryz.ntmps166]) (by simp) ?_
 rw [Tryz.ntmps166]
 repeat' first | ((first | refine aops_end (hK _ ?_) | refine aopsD_end (hK _ ?_)); clear hK K) | ((first | refine aops_go ?_ | refine aopsD_go ?_ | refine wpcall_pure rfl (h1) ?_ | refine wpcall_pure rfl (h2) ?_); simp [hk]; (try (refine gen2 ?_ ?_ <;> intro hq <;> try simp [hk] at hq))) | (refine T.ret (Done.tup (Or.inr rfl) ?_) <;> simp [resAs, Tryz.results166, *] <;> omega) | refine T.rd (id := 22) mixed (fun _ => false) [9] (by kernel_rfl) fun K hK => ?_ | refine T.r0 fun K hK => ?_ | refine T.ct rfl ?_ | refine T.cf rfl ?_ | refine T.seq ?_ | refine T.block ?_

theorem l3Result_ok (ctx : List MBd) (e : MTm) (ts : List MTy) (hk : 5 < e.kind /\ e.kind < 14) (hlen : (ts.length : Int) = kidsM e.kind) (hts : ∀ u ∈ ts, shapeTy 4 u = true) (he : typedM e.kind = true -> shapeTy 4 e.ty = true) :
  L3R e ts (nodeTy ctx e.kind e.name e.ty ts) := by
 have hcases : e.kind = 6 \/ e.kind = 7 \/ e.kind = 8 \/ e.kind = 9 \/ e.kind = 10 \/ e.kind = 11 \/ e.kind = 12 \/ e.kind = 13 := by omega
 rcases hcases with h | h | h | h | h | h | h | h
 ·rw [h] at hlen
  match ts, hlen with
  | [a, b], _ =>
   have e1 : nodeTy ctx e.kind e.name e.ty [a, b] = (match matchM 4 a with | some (x, y) => if consTy b x = true then some y else none | none => none) := by rw [h]; rfl
   rw [e1]
   exact l3R6 e a b h (hts a (by simp)) (hts b (by simp))
 ·rw [h] at hlen
  match ts, hlen with
  | [a, b], _ => have := l3R7 e a b h (hts a (by simp)) (hts b (by simp)); simpa [nodeTy, h] using this
 ·rw [h] at hlen
  match ts, hlen with
  | [a, b], _ => have := l3R8 e a b h (hts a (by simp)) (hts b (by simp)); simpa [nodeTy, h] using this
 ·rw [h] at hlen
  match ts, hlen with
  | [a, b, c], _ => have := l3R9 e a b c h (hts a (by simp)) (hts b (by simp)) (hts c (by simp)); simpa [nodeTy, h] using this
 ·rw [h] at hlen
  match ts, hlen with
  | [a, b], _ => have := l3R10 e a b h (hts a (by simp)) (hts b (by simp)); simpa [nodeTy, h] using this
 ·rw [h] at hlen
  match ts, hlen with
  | [a], _ => have := l3R11 e a h (hts a (by simp)); simpa [nodeTy, h] using this
 ·rw [h] at hlen
  match ts, hlen with
  | [a], _ => have := l3R12 e a h (hts a (by simp)); simpa [nodeTy, h] using this
 ·rw [h] at hlen
  match ts, hlen with
  | [a], _ => have := l3R13 e a h (hts a (by simp)) (he (by simp [typedM, h])); simpa [nodeTy, h] using this
end Go.Proofs.YtcmdpggdaiinpaaGreatDoor

namespace Go.Proofs.YtcmdpggdaiinpaaGreatDoor
attribute [-simp] Go.Av.keepL Go.Av.ups Go.Av.take_app_len Go.Av.MCo.kind_mk Go.Av.MCo.tag_mk Go.Av.MCo.label_mk Go.Av.MCo.kids_mk Go.Av.innVs Go.Av.putBack Go.Av.objCells Go.Av.back Go.Av.resVs Go.Av.one Go.Av.freeStepG Go.Av.exA Go.Av.innAsH Go.Av.AV.innH Go.Av.CV.innH Go.Av.innHs Go.Av.AV.outnH Go.Av.CV.outnH
open Go Go.Av
attribute [local irreducible] T ACalls eTy eTm MTy.kind MTy.kids MTm.kind MTm.name MTm.num MTm.ty MTm.fr MTm.label MTm.kids
attribute [local simp] eTy_def eTm_def
set_option maxHeartbeats 4000000

def L3T (ctx : List MBd) (e : MTm) : Prop := ∃ t', (∀ t, typeM ctx e = some t -> t' = t) /\ ACalls Tryz.prog 153 [.l (ctx.map eBd), aTm e] [] (.tup [aTy t', .b (typeM ctx e).isSome]) [] []

theorem l3Type_leaf (ctx : List MBd) (e : MTm) (hl : ctx.length <= 1099511627776) (hc : okCtx ctx) (hlen : kidsM e.kind = e.kids.length) (hk : e.kind = 1 \/ e.kind = 2 \/ e.kind = 3 \/ e.kind = 4) : L3T ctx e := by
 have hnil : e.kids = [] := by
  have : e.kids.length = 0 := by
   rcases hk with h | h | h | h <;> rw [h] at hlen <;> simp [kidsM] at hlen <;> omega
  exact List.eq_nil_of_length_eq_zero this
 have ht : typeM ctx e = nodeTy ctx e.kind e.name e.ty [] := by rw [typeM_def, hnil]; simp [typeMS]
 simp only [L3T, ht]
 have h3 := l3Int_ok
 have h4 := l3Bool_ok
 rcases hk with h | h | h | h
 ·have hlk := l3Look_ok ctx e.name hl (fun b hb => by have := shape4 (hc b hb); omega)
  rw [show nodeTy ctx e.kind e.name e.ty [] = lookM ctx e.name by simp [nodeTy, h]]
  cases hr : lookM ctx e.name with
  | none =>
   rw [hr] at hlk
   refine ⟨zeroT, by simp, ?_⟩
   dsimp only at hlk ⊢
   refine ACalls.of_body Tryz.func153 (by kernel_rfl) rfl (by kernel_rfl) (by simp [Tryz.ntmps153]) (by simp) ?_
   rw [Tryz.ntmps153]
   repeat' first | (refine aops_end (hK _ ?_); clear hK K) | ((first | refine aops_go ?_ | refine wpcall_pure rfl (hlk) ?_); simp [h]; (try (refine gen2 ?_ ?_ <;> intro hq <;> try simp [h] at hq))) | (refine T.ret (Done.tup (Or.inr rfl) ?_) <;> simp [resAs, Tryz.results153] <;> omega) | refine T.r0 fun K hK => ?_ | refine T.ct rfl ?_ | refine T.seq ?_ | refine T.block ?_
  | some t =>
   rw [hr] at hlk
   refine ⟨t, by simp, ?_⟩
   dsimp only at hlk ⊢
   refine ACalls.of_body Tryz.func153 (by kernel_rfl) rfl (by kernel_rfl) (by simp [Tryz.ntmps153]) (by simp) ?_
   rw [Tryz.ntmps153]
   repeat' first | (refine aops_end (hK _ ?_); clear hK K) | ((first | refine aops_go ?_ | refine wpcall_pure rfl (hlk) ?_); simp [h]; (try (refine gen2 ?_ ?_ <;> intro hq <;> try simp [h] at hq))) | (refine T.ret (Done.tup (Or.inr rfl) ?_) <;> simp [resAs, Tryz.results153] <;> omega) | refine T.r0 fun K hK => ?_ | refine T.ct rfl ?_ | refine T.seq ?_ | refine T.block ?_
 ·refine ⟨intT, by simp [nodeTy, h], ?_⟩
  rw [show (nodeTy ctx e.kind e.name e.ty []).isSome = true by simp [nodeTy, h]]
  refine ACalls.of_body Tryz.func153 (by kernel_rfl) rfl (by kernel_rfl) (by simp [Tryz.ntmps153]) (by simp) ?_
  rw [Tryz.ntmps153]
  repeat' first | (refine aops_end (hK _ ?_); clear hK K) | ((first | refine aops_go ?_ | refine wpcall_pure rfl (h3) ?_); simp [h]; (try (refine gen2 ?_ ?_ <;> intro hq <;> try simp [h] at hq))) | (refine T.ret (Done.tup (Or.inr rfl) ?_) <;> simp [resAs, Tryz.results153] <;> omega) | refine T.r0 fun K hK => ?_ | refine T.ct rfl ?_ | refine T.cf rfl ?_ | refine T.seq ?_ | refine T.block ?_
 ·refine ⟨boolT, by simp [nodeTy, h], ?_⟩
  rw [show (nodeTy ctx e.kind e.name e.ty []).isSome = true by simp [nodeTy, h]]
  refine ACalls.of_body Tryz.func153 (by kernel_rfl) rfl (by kernel_rfl) (by simp [Tryz.ntmps153]) (by simp) ?_
  rw [Tryz.ntmps153]
  repeat' first | (refine aops_end (hK _ ?_); clear hK K) | ((first | refine aops_go ?_ | refine wpcall_pure rfl (h4) ?_); simp [h]; (try (refine gen2 ?_ ?_ <;> intro hq <;> try simp [h] at hq))) | (refine T.ret (Done.tup (Or.inr rfl) ?_) <;> simp [resAs, Tryz.results153] <;> omega) | refine T.r0 fun K hK => ?_ | refine T.ct rfl ?_ | refine T.cf rfl ?_ | refine T.seq ?_ | refine T.block ?_ | refine T.skip ?_
 ·refine ⟨boolT, by simp [nodeTy, h], ?_⟩
  rw [show (nodeTy ctx e.kind e.name e.ty []).isSome = true by simp [nodeTy, h]]
  refine ACalls.of_body Tryz.func153 (by kernel_rfl) rfl (by kernel_rfl) (by simp [Tryz.ntmps153]) (by simp) ?_
  rw [Tryz.ntmps153]
  repeat' first | (refine aops_end (hK _ ?_); clear hK K) | ((first | refine aops_go ?_ | refine wpcall_pure rfl (h4) ?_); simp [h]; (try (refine gen2 ?_ ?_ <;> intro hq <;> try simp [h] at hq))) | (refine T.ret (Done.tup (Or.inr rfl) ?_) <;> simp [resAs, Tryz.results153] <;> omega) | refine T.r0 fun K hK => ?_ | refine T.r1 fun K hK => ?_ | refine T.ct rfl ?_ | refine T.cf rfl ?_ | refine T.seq ?_ | refine T.block ?_

theorem l3Type_lam (ctx : List MBd) (e b : MTm) (hl : ctx.length <= 1099511627776) (hk : e.kind = 5) (hb : e.kids = [b]) (hty : shapeTy 4 e.ty = true)
  (hs : ∀ t, typeM (ctx ++ [MBd.mk e.name e.ty]) b = some t -> shapeTy 4 t = true) (ih : L3T (ctx ++ [MBd.mk e.name e.ty]) b) : L3T ctx e := by
 have ht : typeM ctx e = match typeM (ctx ++ [MBd.mk e.name e.ty]) b with | some t => twoM 4 e.ty t | none => none := by
  rw [typeM_def, hb]
  simp only [insideM, hk, typeMS, if_true]
  cases typeM (ctx ++ [MBd.mk e.name e.ty]) b with
  | none => rfl
  | some t => simp [nodeTy]
 obtain ⟨t', h1, h2⟩ := ih
 have hm := l3More_ok ctx e.name e.ty hl
 generalize ctx ++ [MBd.mk e.name e.ty] = ctx' at *
 simp only [L3T, ht]
 cases hr : typeM ctx' b with
 | none =>
  rw [hr] at h2
  refine ⟨zeroT, by simp, ?_⟩
  dsimp only [Option.isSome] at h2 ⊢
  refine ACalls.of_body Tryz.func153 (by kernel_rfl) rfl (by kernel_rfl) (by simp [Tryz.ntmps153]) (by simp) ?_
  rw [Tryz.ntmps153]
  repeat' first | ((first | refine aops_end (hK _ ?_) | refine aopsF_end (hK _ ?_)); clear hK K) | ((first | refine aops_go ?_ | refine aopsF_go ?_ | refine wpcall_pure rfl (hm) ?_ | refine wpcall_pure rfl (h2) ?_); simp [hk, hb]; (try (refine gen2 ?_ ?_ <;> intro hq <;> try simp [hk, hb] at hq))) | (refine T.ret (Done.tup (Or.inr rfl) ?_) <;> simp [resAs, Tryz.results153] <;> omega) | refine T.rdF (id := 10) mixed (fun _ => false) [14, 15] [2, 4, 5, 7, 8, 9, 10] 15 [] (by kernel_rfl) fun K hK => ?_ | (refine ⟨?_, ?_⟩; (focus (intros; refine wpcall_pure rfl (hm) ?_; simp; done))) | (refine ⟨?_, ?_⟩; (focus (intros; refine wpcall_pure rfl (h2) ?_; simp; done))) | refine T.r0 fun K hK => ?_ | refine T.r1 fun K hK => ?_ | refine T.ct rfl ?_ | refine T.cf rfl ?_ | refine T.seq ?_ | refine T.block ?_
 | some t =>
  rw [hr] at h2
  obtain rfl := h1 t hr
  have htw := l3Two_ok 4 e.ty t' (by have := shape4 hty; omega) (by have := shape4 (hs t' hr); omega)
  refine ⟨.mk 4 [e.ty, t'], ?_, ?_⟩
  ·intro u h; simp only [twoM] at h; split at h <;> simp at h; exact h
  simp only [Option.isSome_some] at h2
  dsimp only
  rw [show (twoM 4 e.ty t').isSome = shapeTy 4 (.mk 4 [e.ty, t']) by simp only [twoM]; split <;> simp [*]]
  generalize shapeTy 4 (.mk 4 [e.ty, t']) = c at htw
  refine ACalls.of_body Tryz.func153 (by kernel_rfl) rfl (by kernel_rfl) (by simp [Tryz.ntmps153]) (by simp) ?_
  rw [Tryz.ntmps153]
  repeat' first | ((first | refine aops_end (hK _ ?_) | refine aopsF_end (hK _ ?_)); clear hK K) | ((first | refine aops_go ?_ | refine aopsF_go ?_ | refine wpcall_pure rfl (hm) ?_ | refine wpcall_pure rfl (h2) ?_ | refine wpcall_pure rfl (htw) ?_); simp [hk, hb]; (try (refine gen2 ?_ ?_ <;> intro hq <;> try simp [hk, hb] at hq))) | (refine T.ret (Done.tup (Or.inr rfl) ?_) <;> simp [resAs, Tryz.results153, eTy_def] <;> omega) | refine T.rdF (id := 10) mixed (fun _ => false) [14, 15] [2, 4, 5, 7, 8, 9, 10] 15 [] (by kernel_rfl) fun K hK => ?_ | (refine ⟨?_, ?_⟩; (focus (intros; refine wpcall_pure rfl (hm) ?_; simp; done))) | (refine ⟨?_, ?_⟩; (focus (intros; refine wpcall_pure rfl (h2) ?_; simp; done))) | refine T.r0 fun K hK => ?_ | refine T.r1 fun K hK => ?_ | refine T.ct rfl ?_ | refine T.cf rfl ?_ | refine T.seq ?_ | refine T.block ?_ | refine T.skip ?_

theorem l3Type_loop (ctx : List MBd) (e : MTm) (R : Option (List MTy)) (t' : MTy) (ok : Bool) (hl : ctx.length <= 1099511627776) (hk : 5 < e.kind /\ e.kind < 14) (hlen : e.kids.length <= 3) (hR : typeMS ctx e.kids = R)
  (hs : ∀ u ∈ e.kids, ∀ t, typeM ctx u = some t -> shapeTy 4 t = true) (ih : ∀ u ∈ e.kids, L3T ctx u) (hnone : R = none -> t' = zeroT /\ ok = false)
  (hsome : ∀ ts, R = some ts -> (∀ u ∈ ts, shapeTy 4 u = true) -> ACalls Tryz.prog 166 [aTm e, .l (ts.map eTy)] [] (.tup [aTy t', .b ok]) [] []) :
  ACalls Tryz.prog 153 [.l (ctx.map eBd), aTm e] [] (.tup [aTy t', .b ok]) [] [] := by
 have hk1 : ¬ e.kind = 1 := by omega
 have hk2 : ¬ e.kind = 2 := by omega
 have hk3 : ¬ e.kind = 3 := by omega
 have hk4 : ¬ e.kind = 4 := by omega
 have hk5 : ¬ e.kind = 5 := by omega
 refine ACalls.of_body Tryz.func153 (by kernel_rfl) rfl (by kernel_rfl) (by simp [Tryz.ntmps153]) (by simp) ?_
 rw [Tryz.ntmps153]
 repeat' first | (refine aops_end (hK _ ?_); clear hK K) | (refine aops_go ?_; simp [hk1, hk2, hk3, hk4, hk5]; (try (refine gen2 ?_ ?_ <;> intro hq <;> try simp [hk1, hk2, hk3, hk4, hk5] at hq))) | refine T.rs (id := 14) (fun i => i == 0) fun K hK => ?_ | refine T.rs (id := 0) (fun _ => false) fun K hK => ?_ | refine T.rs (id := 1) (fun _ => false) fun K hK => ?_ | refine T.rs (id := 2) (fun _ => false) fun K hK => ?_ | refine T.rs (id := 4) (fun _ => false) fun K hK => ?_ | refine T.rs (id := 6) (fun _ => false) fun K hK => ?_ | refine T.rs1 (id := 7) (fun _ => false) fun K hK => ?_ | refine T.rs (id := 9) (fun _ => false) fun K hK => ?_ | refine T.rs (id := 15) (fun _ => false) fun K hK => ?_ | refine T.cf rfl ?_ | refine T.seq ?_ | refine T.block ?_ | refine T.skip ?_
 refine T.loopF (fun x : Nat × List MTy × List (List CV) => ⟨[(0, .l (ctx.map eBd)), (3, .c (.ptr 0 0)), (4, .c (.ptr 1 0)), (8, .c (.own 0 x.1)), (9, .i x.1)], (aTm e).cells :: [.d (.i 0), .nil] :: x.2.2, [{ sz := 2, ety := 78, rows := x.2.1.map eTy, wr := true }]⟩) (fun x => e.kids.length + 1 - x.1) (fun x => x.1 <= e.kids.length /\ x.2.1.length = x.1 /\ (∀ u ∈ x.2.1, shapeTy 4 u = true) /\ (typeMS ctx (e.kids.drop x.1)).map (x.2.1 ++ ·) = R) (fun x hx => ?_) (0, [], []) (by simp [hR]) (by simp)
 obtain ⟨p, ts, G⟩ := x
 obtain ⟨hi, hp, hsh, he⟩ := hx
 dsimp only at hi hp hsh he ⊢
 by_cases hlt : p < e.kids.length
 ·obtain ⟨u, ht⟩ := get_lt hlt
  have htm : u ∈ e.kids := List.mem_of_getElem? ht
  have hgt : e.kids[p] = u := by rw [List.getElem?_eq_getElem hlt] at ht; exact Option.some.inj ht
  have hdr : e.kids.drop p = u :: e.kids.drop (p + 1) := by rw [List.drop_eq_getElem_cons hlt, hgt]
  obtain ⟨tu, h1, h2⟩ := ih u htm
  have hsu := hs u htm
  rw [hdr] at he
  simp only [typeMS] at he
  cases hb : typeM ctx u with
  | none =>
   rw [hb] at h2 he
   simp only [Option.isSome_none] at h2
   obtain ⟨rfl, rfl⟩ := hnone (by simpa using he.symm)
   repeat' first | (refine aops_end (hK _ ?_); clear hK K) | ((first | refine aops_go ?_ | refine wpcall_pure rfl (h2) ?_); simp [hlt, hgt, hp]; (try simp (disch := omega) only [wrap64]); (try (refine gen2 ?_ ?_ <;> intro hq <;> try simp [hlt, hgt, hp] at hq))) | (refine T.ret (Done.tup (Or.inr rfl) ?_) <;> simp [resAs, Tryz.results153] <;> omega) | refine T.rs (id := 16) (fun _ => false) fun K hK => ?_ | refine T.rs (id := 18) (fun _ => false) fun K hK => ?_ | refine T.rs (id := 19) (fun _ => false) fun K hK => ?_ | refine T.rs (id := 20) (fun _ => false) fun K hK => ?_ | refine T.ct rfl ?_ | refine T.seq ?_ | refine T.block ?_ | refine T.skip ?_
  | some t =>
   obtain rfl := h1 t hb
   rw [hb] at h2 he
   simp only [Option.isSome_some] at h2
   have he' : (typeMS ctx (e.kids.drop (p + 1))).map ((ts ++ [tu]) ++ ·) = R := by
    rw [<- he]
    cases typeMS ctx (e.kids.drop (p + 1)) <;> simp
   have hsh' : ∀ v ∈ ts ++ [tu], shapeTy 4 v = true := fun v hv => by
    rcases List.mem_append.1 hv with h | h
    ·exact hsh v h
    ·simp at h; subst h; exact hsu _ hb
   repeat' first | (refine aops_end (hK _ ?_); clear hK K) | ((first | refine aops_go ?_ | refine wpcall_pure rfl (h2) ?_); simp [hlt, hgt, hp]; (try simp (disch := omega) only [wrap64]); (try (refine gen2 ?_ ?_ <;> intro hq <;> try simp [hlt, hgt, hp] at hq))) | (refine ⟨by omega, by omega, ?_⟩) | (refine ⟨(p + 1, ts ++ [tu], _), by dsimp only; omega, ⟨by dsimp only; omega, by simp [hp], hsh', he'⟩, rfl, ?_, ?_⟩ <;> simp (disch := omega) [wrap64, eTy_def]) | refine T.rs (id := 16) (fun _ => false) fun K hK => ?_ | refine T.rs (id := 18) (fun _ => false) fun K hK => ?_ | refine T.rs (id := 19) (fun _ => false) fun K hK => ?_ | refine T.rs1 (id := 21) (fun _ => false) fun K hK => ?_ | refine T.rs1 (id := 17) (fun _ => false) fun K hK => ?_ | refine T.ct rfl ?_ | refine T.cf rfl ?_ | refine T.seq ?_ | refine T.block ?_ | refine T.skip ?_
 ·have hp' : p = e.kids.length := by omega
  subst hp'
  simp [typeMS] at he
  have hres := hsome ts he.symm hsh
  repeat' first | (refine aops_end (hK _ ?_); clear hK K) | ((first | refine aops_go ?_ | (refine wpcall_pure ?_ (hres) ?_; (focus (solve | simp [hlt, hp])))); simp [hlt, hp]; (try (refine gen2 ?_ ?_ <;> intro hq <;> try simp [hlt, hp] at hq))) | (refine T.ret (Done.tup (Or.inr rfl) ?_) <;> simp [resAs, Tryz.results153] <;> omega) | refine T.rs (id := 16) (fun _ => false) fun K hK => ?_ | refine T.rs (id := 22) (fun _ => false) fun K hK => ?_ | refine T.cf rfl ?_ | refine T.seq ?_ | refine T.exit ?_

theorem l3Type_node (ctx : List MBd) (e : MTm) (hl : ctx.length <= 1099511627776) (hk : 5 < e.kind /\ e.kind < 14) (hlen : kidsM e.kind = e.kids.length) (hty : typedM e.kind = true -> shapeTy 4 e.ty = true)
  (hs : ∀ u ∈ e.kids, ∀ t, typeM ctx u = some t -> shapeTy 4 t = true) (ih : ∀ u ∈ e.kids, L3T ctx u) : L3T ctx e := by
 have hk5 : ¬ e.kind = 5 := by omega
 have hk9 := kidsM_le e.kind
 have ht : typeM ctx e = (typeMS ctx e.kids).bind (nodeTy ctx e.kind e.name e.ty) := by
  rw [typeM_def, insideM, if_neg hk5]
  cases typeMS ctx e.kids <;> rfl
 simp only [L3T, ht]
 cases hr : typeMS ctx e.kids with
 | none =>
  refine ⟨zeroT, by simp, ?_⟩
  exact l3Type_loop ctx e none zeroT false hl hk (by omega) hr hs ih (fun _ => ⟨rfl, rfl⟩) (fun ts h => by simp at h)
 | some ts =>
  have hlt := typeMS_len hr
  have hsts : ∀ u ∈ ts, shapeTy 4 u = true := by
   have hl : ∀ (l : List MTm) (ts : List MTy), (∀ u ∈ l, u ∈ e.kids) -> typeMS ctx l = some ts -> ∀ u ∈ ts, shapeTy 4 u = true := by
    intro l
    induction l with
    | nil => intro ts _ h; simp [typeMS] at h; subst h; simp
    | cons x r ihl =>
     intro ts hm h
     simp only [typeMS] at h
     split at h
     ·simp at h
     ·rename_i tx htx
      split at h
      ·simp at h
      ·rename_i us hus
       simp at h; subst h
       intro u hu
       simp only [List.mem_cons] at hu
       rcases hu with rfl | hu
       ·exact hs x (hm x (by simp)) _ htx
       ·exact ihl us (fun v hv => hm v (by simp [hv])) hus u hu
   exact hl e.kids ts (fun _ h => h) hr
  obtain ⟨t', h1, h2⟩ := l3Result_ok ctx e ts hk (by rw [hlt]; exact hlen.symm) hsts hty
  refine ⟨t', by simpa using h1, ?_⟩
  rw [show ((some ts).bind (nodeTy ctx e.kind e.name e.ty)) = nodeTy ctx e.kind e.name e.ty ts from rfl]
  exact l3Type_loop ctx e (some ts) t' _ hl hk (by omega) hr hs ih (fun h => by simp at h) (fun us h _ => by simp at h; subst h; exact h2)

theorem kidsM_lt (k : Int) (n : Nat) (h : kidsM k = n) : 0 < k /\ k < 15 := by
 simp only [kidsM] at h
 split at h
 ·omega
 ·split at h
  ·omega
  ·split at h
   ·omega
   ·split at h <;> omega

theorem l3Type_ok : ∀ (e : MTm) (d : Nat) (ctx : List MBd), shapeTm 14 d e = true -> ctx.length + d <= 1099511627776 -> okCtx ctx -> L3T ctx e := by
 intro e
 induction e using MTm.ind with
 | h e ih =>
  intro d ctx hs hl hc
  obtain ⟨d', rfl, hne, hlen, hown, hkids⟩ := shapeTm_kids hs
  have hb := kidsM_lt e.kind _ hlen
  by_cases h5 : e.kind = 5
  ·have hty : shapeTy 4 e.ty = true := own_typed hown (by simp [typedM, h5])
   have hl1 : e.kids.length = 1 := by rw [h5] at hlen; simp [kidsM] at hlen; omega
   match hk : e.kids, hl1 with
   | [b], _ =>
    have hbm : b ∈ e.kids := by simp [hk]
    have hc' : okCtx (ctx ++ [MBd.mk e.name e.ty]) := by
     intro x hx
     rcases List.mem_append.1 hx with h | h
     ·exact hc x h
     ·simp at h; subst h; exact hty
    exact l3Type_lam ctx e b (by omega) h5 hk hty (fun t h => typeM_shape b d' 14 _ t (hkids b hbm) hc' h) (ih b hbm d' _ (hkids b hbm) (by simp; omega) hc')
  ·by_cases hsm : e.kind < 5
   ·exact l3Type_leaf ctx e (by omega) hc hlen (by omega)
   ·exact l3Type_node ctx e (by omega) ⟨by omega, by omega⟩ hlen (own_typed hown) (fun u hu t h => typeM_shape u d' 14 ctx t (hkids u hu) hc h) (fun u hu => ih u hu d' ctx (hkids u hu) (by omega) hc)

def typeInM (ctx : List MBd) (e : MTm) : Option MTy := if ctxM ctx = true /\ termValidM e = true then typeM ctx e else none

abbrev tyRes : Option MTy -> List AV
 | some t => [aTy t, .b true]
 | none => [aTy zeroT, .b false]

theorem TypeInS_ok (ctx : List MBd) (e : MTm) (hl : ctx.length <= 1073741824) (hnc : ∀ b ∈ ctx, nTy b.ty <= 1099511627776) (hn : nTm e <= 1099511627776) : ACalls Tryz.prog 126 [.l (ctx.map eBd), aTm e] [] (.tup (tyRes (typeInM ctx e))) [] [] := by
 have h1 := CtxValidS_ok ctx (by omega) hnc
 have h2 := TermValidS_ok e hn
 cases hc : ctxM ctx with
 | false =>
  rw [show typeInM ctx e = none by simp [typeInM, hc]]
  rw [hc] at h1
  refine ACalls.of_body Tryz.func126 (by kernel_rfl) rfl (by kernel_rfl) (by simp [Tryz.ntmps126]) (by simp) ?_
  rw [Tryz.ntmps126]
  repeat' first | (refine aops_end (hK _ ?_); clear hK K) | ((first | refine aops_go ?_ | refine wpcall_pure rfl (h1) ?_); simp; (try (refine gen2 ?_ ?_ <;> intro hq <;> try simp at hq))) | (refine T.ret (Done.tup (Or.inr rfl) ?_) <;> simp [resAs, Tryz.results126] <;> omega) | refine T.r0 fun K hK => ?_ | refine T.ct rfl ?_ | refine T.seq ?_
 | true =>
  rw [hc] at h1
  cases hv : termValidM e with
  | false =>
   rw [show typeInM ctx e = none by simp [typeInM, hv]]
   rw [hv] at h2
   refine ACalls.of_body Tryz.func126 (by kernel_rfl) rfl (by kernel_rfl) (by simp [Tryz.ntmps126]) (by simp) ?_
   rw [Tryz.ntmps126]
   repeat' first | (refine aops_end (hK _ ?_); clear hK K) | ((first | refine aops_go ?_ | refine wpcall_pure rfl (h1) ?_ | refine wpcall_pure rfl (h2) ?_); simp; (try (refine gen2 ?_ ?_ <;> intro hq <;> try simp at hq))) | (refine T.ret (Done.tup (Or.inr rfl) ?_) <;> simp [resAs, Tryz.results126] <;> omega) | refine T.r0 fun K hK => ?_ | refine T.ct rfl ?_ | refine T.seq ?_
  | true =>
   rw [hv] at h2
   have hok : okCtx ctx := fun b hb => by
    simp only [ctxM, Bool.and_eq_true, List.all_eq_true] at hc
    exact (hc.1 b hb).2
   have hsh : shapeTm 14 12 e = true := by simp only [termValidM, Bool.and_eq_true] at hv; exact hv.1
   obtain ⟨t', h3, h4⟩ := l3Type_ok e 12 ctx hsh (by omega) hok
   rw [show typeInM ctx e = typeM ctx e by simp [typeInM, hc, hv]]
   cases hr : typeM ctx e with
   | none =>
    rw [hr] at h4
    have h5 := l3Sure_ok t' false
    simp only [Option.isSome_none] at h4
    refine ACalls.of_body Tryz.func126 (by kernel_rfl) rfl (by kernel_rfl) (by simp [Tryz.ntmps126]) (by simp) ?_
    rw [Tryz.ntmps126]
    repeat' first | (refine aops_end (hK _ ?_); clear hK K) | ((first | refine aops_go ?_ | refine wpcall_pure rfl (h1) ?_ | refine wpcall_pure rfl (h2) ?_ | refine wpcall_pure rfl (h4) ?_ | refine wpcall_pure rfl (h5) ?_); simp; (try (refine gen2 ?_ ?_ <;> intro hq <;> try simp at hq))) | (refine T.ret (Done.tup (Or.inr rfl) ?_) <;> simp [resAs, Tryz.results126] <;> omega) | refine T.r0 fun K hK => ?_ | refine T.cf rfl ?_ | refine T.seq ?_ | refine T.skip ?_
   | some t =>
    obtain rfl := h3 t hr
    rw [hr] at h4
    have h5 := l3Sure_ok t' true
    simp only [Option.isSome_some] at h4
    refine ACalls.of_body Tryz.func126 (by kernel_rfl) rfl (by kernel_rfl) (by simp [Tryz.ntmps126]) (by simp) ?_
    rw [Tryz.ntmps126]
    repeat' first | (refine aops_end (hK _ ?_); clear hK K) | ((first | refine aops_go ?_ | refine wpcall_pure rfl (h1) ?_ | refine wpcall_pure rfl (h2) ?_ | refine wpcall_pure rfl (h4) ?_ | refine wpcall_pure rfl (h5) ?_); simp; (try (refine gen2 ?_ ?_ <;> intro hq <;> try simp at hq))) | (refine T.ret (Done.tup (Or.inr rfl) ?_) <;> simp [resAs, Tryz.results126] <;> omega) | refine T.r0 fun K hK => ?_ | refine T.cf rfl ?_ | refine T.seq ?_ | refine T.skip ?_

theorem TypeOfS_ok (e : MTm) (hn : nTm e <= 1099511627776) : ACalls Tryz.prog 88 [aTm e] [] (.tup (tyRes (typeInM [] e))) [] [] := by
 have h := TypeInS_ok [] e (by simp) (by simp) hn
 cases hr : typeInM [] e with
 | none =>
  rw [hr] at h
  refine ACalls.of_body Tryz.func88 (by kernel_rfl) rfl (by kernel_rfl) (by simp [Tryz.ntmps88]) (by simp) ?_
  rw [Tryz.ntmps88]
  repeat' first | (refine aops_end (hK _ ?_); clear hK K) | ((first | refine aops_go ?_ | (refine wpcall_pure ?_ (h) ?_; (focus (solve | simp)))); simp) | (refine T.ret (Done.tup (Or.inr rfl) ?_) <;> simp [resAs, Tryz.results88] <;> omega) | refine T.r0 fun K hK => ?_
 | some t =>
  rw [hr] at h
  refine ACalls.of_body Tryz.func88 (by kernel_rfl) rfl (by kernel_rfl) (by simp [Tryz.ntmps88]) (by simp) ?_
  rw [Tryz.ntmps88]
  repeat' first | (refine aops_end (hK _ ?_); clear hK K) | ((first | refine aops_go ?_ | (refine wpcall_pure ?_ (h) ?_; (focus (solve | simp)))); simp) | (refine T.ret (Done.tup (Or.inr rfl) ?_) <;> simp [resAs, Tryz.results88] <;> omega) | refine T.r0 fun K hK => ?_
end Go.Proofs.YtcmdpggdaiinpaaGreatDoor

namespace Go.Proofs.YtcmdpggdaiinpaaGreatDoor
attribute [-simp] Go.Av.take_app_len Go.Av.MCo.kind_mk Go.Av.MCo.tag_mk Go.Av.MCo.label_mk Go.Av.MCo.kids_mk Go.Av.innVs Go.Av.putBack Go.Av.objCells Go.Av.back Go.Av.resVs Go.Av.one Go.Av.freeStepG Go.Av.exA Go.Av.innAsH Go.Av.AV.innH Go.Av.CV.innH Go.Av.innHs Go.Av.AV.outnH Go.Av.CV.outnH
open Go Go.Av
attribute [local irreducible] T ACalls TX EX LX Draws Some_ ACallsX eTy eTm MTy.kind MTy.kids MTm.kind MTm.name MTm.num MTm.ty MTm.fr MTm.label MTm.kids
attribute [local simp] eTy_def eTm_def
set_option maxHeartbeats 1000000

@[simp] theorem td_rd : td Tryz.prog 88 = some { ag := true, sz := 2, by_ := 32, zero := some [.nil, .d (.int .i64 0)], el := none, ar := none, fl := [(0, 1), (1, 1)], ik := none, isS := false, isB := false } := keep (by kernel_rfl)
@[simp] theorem td_u8 : td Tryz.prog 5 = some { ag := false, sz := 1, by_ := 1, zero := some [.d (.int .u8 0)], el := none, ar := none, fl := [], ik := some .u8, isS := false, isB := false } := keep (by kernel_rfl)
@[simp] theorem td_u8S : td Tryz.prog 22 = some { ag := false, sz := 1, by_ := 24, zero := some [.nil], el := some 5, ar := none, fl := [], ik := none, isS := false, isB := false } := keep (by kernel_rfl)
@[simp] theorem td_strS : td Tryz.prog 44 = some { ag := false, sz := 1, by_ := 24, zero := some [.nil], el := some 9, ar := none, fl := [], ik := none, isS := false, isB := false } := keep (by kernel_rfl)

theorem pick_at (b : List Int) (hb : okB b) (p : Nat) (hp : p <= 1099511627776) (n : Int) (hn : n <= 1099511627776) :
  ∃ r : Nat, (r = 0 \/ (r : Int) < n) /\ ACalls Tryz.prog 52 [.c (.ptr 0 0), .i n] (dV [rd b p]) (.i r) (dV [rd b (p + 1)]) [] := by
 by_cases hn1 : n < 1
 ·refine ⟨0, .inl rfl, ?_⟩
  refine ACalls.of_body Tryz.func52 (by kernel_rfl) rfl (by kernel_rfl) (by simp [Tryz.ntmps52]) (by simp) ?_
  rw [Tryz.ntmps52]
  repeat' first | (refine aops_end (hK _ ?_); clear hK K) | (refine aops_go ?_; simp [hn1]; (try simp (disch := omega) only [wrap64]); (try (refine gen2 ?_ ?_ <;> intro hq <;> try simp [hn1] at hq))) | (refine T.ret (Done.obj1 (Or.inr rfl) ?_ ?_ ?_) <;> simp [Tryz.results52] <;> omega) | refine T.r0 fun K hK => ?_ | refine T.ct rfl ?_ | refine T.seq ?_
 by_cases hb0 : b = []
 ·refine ⟨0, .inl rfl, ?_⟩
  subst hb0
  refine ACalls.of_body Tryz.func52 (by kernel_rfl) rfl (by kernel_rfl) (by simp [Tryz.ntmps52]) (by simp) ?_
  rw [Tryz.ntmps52]
  repeat' first | (refine aops_end (hK _ ?_); clear hK K) | (refine aops_go ?_; simp [hn1, rB]; (try simp (disch := omega) only [wrap64]); (try (refine gen2 ?_ ?_ <;> intro hq <;> try simp [hn1, rB] at hq))) | (refine T.ret (Done.obj1 (Or.inr rfl) ?_ ?_ ?_) <;> simp [Tryz.results52, rB] <;> omega) | refine T.r0 fun K hK => ?_ | refine T.ct rfl ?_ | refine T.seq ?_
 have hbl : 0 < b.length := List.length_pos_iff.2 hb0
 have hbl0 : ¬ (b.length : Int) = 0 := by omega
 have hn0 : ¬ n = 0 := by omega
 have hp1 : ((p : Int) + 1 - 1) = p := by omega
 by_cases hpl : p < b.length
 ·have hbp := hb.1 b[p] (List.getElem_mem hpl)
  obtain ⟨h1, h2⟩ := tmod_lt (n := n) hbp.1 (by omega)
  obtain ⟨r, hr⟩ := Int.eq_ofNat_of_zero_le h1
  refine ⟨r, .inr (by omega), ?_⟩
  have hx := rB_at hpl
  refine ACalls.of_body Tryz.func52 (by kernel_rfl) rfl (by kernel_rfl) (by simp [Tryz.ntmps52]) (by simp) ?_
  rw [Tryz.ntmps52]
  repeat' first | (refine aops_end (hK _ ?_); clear hK K) | (refine aops_go ?_; simp [hn1, hb0, hbl0, hn0, hp1, hpl, rB_get, rB_len, hr]; (try simp (disch := omega) only [wrap64]); (try (refine gen2 ?_ ?_ <;> intro hq <;> try simp [hn1, hb0, hbl0, hn0, hp1, hpl, rB_get, rB_len, hr] at hq))) | (refine T.ret (Done.obj1 (Or.inr rfl) ?_ ?_ ?_) <;> simp [Tryz.results52] <;> omega) | refine T.r0 fun K hK => ?_ | refine T.ct rfl ?_ | refine T.cf rfl ?_ | refine T.seq ?_ | refine T.skip ?_
 ·have hm1 : p % b.length < b.length := Nat.mod_lt _ hbl
  have hm2 : (p * 7 + 3) % b.length < b.length := Nat.mod_lt _ hbl
  have e1 : (p : Int).tmod b.length = ((p % b.length : Nat) : Int) := by rw [Int.tmod_eq_emod_of_nonneg (by omega)]; simp
  have e2 : ((p : Int) * 7 + 3).tmod b.length = (((p * 7 + 3) % b.length : Nat) : Int) := by rw [Int.tmod_eq_emod_of_nonneg (by omega)]; simp
  have hb1 := hb.1 _ (List.getElem_mem hm1)
  have hb2 := hb.1 _ (List.getElem_mem hm2)
  generalize p % b.length = i1 at *
  generalize (p * 7 + 3) % b.length = i2 at *
  obtain ⟨hd1, hd2⟩ := tdiv_le (a := (p : Int)) (n := b.length) (by omega) (by omega)
  generalize hD : (p : Int).tdiv b.length = D at hd1 hd2
  generalize hC1 : b[i1] = c1 at hb1
  generalize hC2 : b[i2] = c2 at hb2
  obtain ⟨X, hX⟩ : ∃ X, X = c1 * 131 + c2 * 1117 + (p : Int) * 29 + D * 53 := ⟨_, rfl⟩
  have hX0 : 0 <= X /\ X <= 1152921504606846976 := by omega
  obtain ⟨hy1, hy2⟩ := tdiv_le (a := X) (n := 64) (by omega) (by omega)
  obtain ⟨hz1, hz2⟩ := xor_bound (x := X) (y := X.tdiv 64) hX0.1 (by omega) hy1 (by omega)
  generalize hZ : bitI .xor .i64 X (X.tdiv 64) = Z at hz1 hz2
  obtain ⟨h1, h2⟩ := tmod_lt (n := n) hz1 (by omega)
  obtain ⟨r, hr⟩ := Int.eq_ofNat_of_zero_le h1
  refine ⟨r, .inr (by omega), ?_⟩
  refine ACalls.of_body Tryz.func52 (by kernel_rfl) rfl (by kernel_rfl) (by simp [Tryz.ntmps52]) (by simp) ?_
  rw [Tryz.ntmps52]
  repeat' first | ((first | refine aops_end (hK _ ?_) | refine aopsD_end (hK _ ?_)); clear hK K) | ((first | refine aops_go ?_ | refine aopsD_go ?_); simp [hn1, hb0, hbl0, hn0, hp1, hpl, e1, e2, rB_get, rB_len, hm1, hm2, hC1, hC2, hD, <- hX, hZ, hr]; (try simp (disch := omega) only [wrap64]); (try (refine gen2 ?_ ?_ <;> intro hq <;> try simp [hn1, hb0, hbl0, hn0, hp1, hpl, e1, e2, rB_get, rB_len, hm1, hm2, hC1, hC2, hD, <- hX, hZ, hr] at hq))) | (refine T.ret (Done.obj1 (Or.inr rfl) ?_ ?_ ?_) <;> simp [Tryz.results52] <;> omega) | refine T.rd (id := 7) mixed (fun _ => false) [] (by kernel_rfl) fun K hK => ?_ | refine T.r0 fun K hK => ?_ | refine T.cf rfl ?_ | refine T.seq ?_ | refine T.skip ?_




abbrev ints (l : List Int) : List (List DV) := l.map fun n => [.i n]
abbrev strs (l : List (List UInt8)) : List (List DV) := l.map fun s => [.str s]

theorem pick_ok (b : List Int) (hb : okB b) (p : Nat) (hp : p <= 1099511627776) (n : Int) (hn : n <= 1099511627776) :
  Draws Tryz.prog 52 [.i n] b p 1 (RV (fun r : Nat => .i r) noA fun r => r = 0 \/ (r : Int) < n) := by
 obtain ⟨r, hr, hc⟩ := pick_at b hb p hp n hn
 exact Draws.mk (p' := p + 1) r hr (by omega) (by omega) hc

theorem num_ok (b : List Int) (hb : okB b) (p : Nat) (hp : p <= 1099511627776) (l : List Int) (hl : l ≠ []) (hll : l.length <= 1000) :
  Draws Tryz.prog 55 [.l (ints l)] b p 1 (RV (fun x : Int => .i x) noA fun x => x ∈ l) := by
 obtain ⟨r, hr, hc⟩ := pick_at b hb p hp l.length (by omega)
 have hlp : 0 < l.length := List.length_pos_iff.2 hl
 have hrl : r < l.length := by rcases hr with h | h <;> omega
 obtain ⟨x, hx⟩ := get_lt hrl
 have hgx : l[r] = x := by rw [List.getElem?_eq_getElem hrl] at hx; exact Option.some.inj hx
 refine Draws.mk (p' := p + 1) x (List.mem_of_getElem? hx) (by omega) (by omega) ?_
 refine ACalls.of_body Tryz.func55 (by kernel_rfl) rfl (by kernel_rfl) (by simp [Tryz.ntmps55]) (by simp) ?_
 rw [Tryz.ntmps55]
 repeat' first | (refine aops_end (hK _ ?_); clear hK K) | ((first | refine aops_go ?_ | refine wpcall_upd1 0 (rd b p) (rd b (p + 1)) rfl (by simp) hc ?_); simp [hrl, hgx]; (try (refine gen2 ?_ ?_ <;> intro hq <;> try simp [hrl, hgx] at hq))) | (refine T.ret (Done.obj1 (Or.inr rfl) ?_ ?_ ?_) <;> simp [Tryz.results55] <;> omega) | refine T.r0 fun K hK => ?_

theorem of_ok (b : List Int) (hb : okB b) (p : Nat) (hp : p <= 1099511627776) (l : List (List UInt8)) (hl : l ≠ []) (hll : l.length <= 1000) :
  Draws Tryz.prog 64 [.l (strs l)] b p 1 (RV (fun x : List UInt8 => .s x) noA fun x => x ∈ l) := by
 obtain ⟨r, hr, hc⟩ := pick_at b hb p hp l.length (by omega)
 have hlp : 0 < l.length := List.length_pos_iff.2 hl
 have hrl : r < l.length := by rcases hr with h | h <;> omega
 obtain ⟨x, hx⟩ := get_lt hrl
 have hgx : l[r] = x := by rw [List.getElem?_eq_getElem hrl] at hx; exact Option.some.inj hx
 refine Draws.mk (p' := p + 1) x (List.mem_of_getElem? hx) (by omega) (by omega) ?_
 refine ACalls.of_body Tryz.func64 (by kernel_rfl) rfl (by kernel_rfl) (by simp [Tryz.ntmps64]) (by simp) ?_
 rw [Tryz.ntmps64]
 repeat' first | (refine aops_end (hK _ ?_); clear hK K) | ((first | refine aops_go ?_ | refine wpcall_upd1 0 (rd b p) (rd b (p + 1)) rfl (by simp) hc ?_); simp [hrl, hgx]; (try (refine gen2 ?_ ?_ <;> intro hq <;> try simp [hrl, hgx] at hq))) | (refine T.ret (Done.obj1 (Or.inr rfl) ?_ ?_ ?_) <;> simp [Tryz.results64] <;> omega) | refine T.r0 fun K hK => ?_

theorem l18Open_ok (b : List Int) (hb : ∀ n ∈ b, 0 <= n /\ n <= 255) : ∃ b' p', okB b' /\ p' = 0 /\ ACalls Tryz.prog 24 [.l (rB b)] [] (.c (.ptr 0 0)) (dV [rd b' p']) [] := by
 by_cases hl : (2000 : Int) < b.length
 ·refine ⟨b.take 2000, 0, ⟨fun n hn => hb n (List.mem_of_mem_take hn), by simp; omega⟩, rfl, ?_⟩
  have hr : ∀ r ∈ rB b, r.length = 1 := by intro r hr; simp [rB] at hr; obtain ⟨a, _, rfl⟩ := hr; rfl
  have ht : (rB b).take 2000 = rB (b.take 2000) := by simp [rB, List.map_take]
  refine ACalls.of_body Tryz.func24 (by kernel_rfl) rfl (by kernel_rfl) (by simp [Tryz.ntmps24]) (by simp) ?_
  rw [Tryz.ntmps24]
  repeat' first | (refine aops_end (hK _ ?_); clear hK K) | (refine aops_go ?_; simp [hl, rB_len, ht]; (try (refine gen2 ?_ ?_ <;> intro hq <;> try simp [hl, rB_len, ht] at hq))) | (refine ⟨by omega, hr, ?_⟩) | refine T.r0 fun K hK => ?_ | refine T.r1 fun K hK => ?_ | refine T.ct rfl ?_ | refine T.seq ?_
  refine T.ret (Done.new1 0 (Or.inr rfl) ?_ ?_) <;> simp [resAs, Tryz.results24]
 ·refine ⟨b, 0, ⟨hb, by omega⟩, rfl, ?_⟩
  refine ACalls.of_body Tryz.func24 (by kernel_rfl) rfl (by kernel_rfl) (by simp [Tryz.ntmps24]) (by simp) ?_
  rw [Tryz.ntmps24]
  repeat' first | (refine aops_end (hK _ ?_); clear hK K) | (refine aops_go ?_; simp [hl, rB_len]; (try (refine gen2 ?_ ?_ <;> intro hq <;> try simp [hl, rB_len] at hq))) | refine T.r0 fun K hK => ?_ | refine T.cf rfl ?_ | refine T.seq ?_ | refine T.skip ?_
  refine T.ret (Done.new1 0 (Or.inr rfl) ?_ ?_) <;> simp [resAs, Tryz.results24]
end Go.Proofs.YtcmdpggdaiinpaaGreatDoor

namespace Go.Proofs.YtcmdpggdaiinpaaGreatDoor
attribute [-simp] Go.Av.take_app_len Go.Av.MCo.kind_mk Go.Av.MCo.tag_mk Go.Av.MCo.label_mk Go.Av.MCo.kids_mk Go.Av.innVs Go.Av.putBack Go.Av.objCells Go.Av.back Go.Av.resVs Go.Av.one Go.Av.freeStepG Go.Av.exA Go.Av.innAsH Go.Av.AV.innH Go.Av.CV.innH Go.Av.innHs Go.Av.AV.outnH Go.Av.CV.outnH
open Go Go.Av
attribute [local irreducible] T ACalls TX EX LX Draws Some_ ACallsX eTy eTm MTy.kind MTy.kids MTm.kind MTm.name MTm.num MTm.ty MTm.fr MTm.label MTm.kids
attribute [local simp] eTy_def eTm_def
set_option maxHeartbeats 1000000

theorem l1Draw_ok (b : List Int) (hb : okB b) : ∀ (d p : Nat), d <= 100 -> p + 4 ^ (d + 1) <= 1099511627776 -> Draws Tryz.prog 87 [.i (d + 1)] b p (4 ^ (d + 1)) (RV aTy noA fun t => shapeTy (d + 1) t = true) := by
 intro d
 induction d with
 | zero =>
  intro p hd100 hp
  refine Draws.of_body Tryz.func87 (by kernel_rfl) rfl (by kernel_rfl) (by simp [Tryz.ntmps87]) ?_
  rw [Tryz.ntmps87]
  repeat' first | (refine aops_end (hK _ ?_); clear hK K) | ((first | refine aops_go ?_ | refine wpcall_pure rfl (l1Kids_ok _) ?_); simp [tyKids]; (try simp (disch := omega) only [wrap64]); (try (refine gen2 ?_ ?_ <;> intro hq <;> try simp [tyKids] at hq))) | (refine wpcall_dr 0 rfl rfl (num_ok b hb _ (by omega) [2, 1, 4, 3, 5, 2, 4] (by simp) (by simp)) (fun x p1 hx hp1 hp1' => ?_); simp at hx; rcases hx with rfl | rfl | rfl | rfl | rfl | rfl | rfl <;> (simp [tyKids]; (try simp (disch := omega) only [wrap64]))) | refine TX.rs (fun _ => false) fun K hK => ?_ | refine TX.rs1 (fun _ => false) fun K hK => ?_ | refine TX.cond rfl (fun hcnd => ?_) (fun hcnd => absurd hcnd (by decide)) | refine TX.cond rfl (fun hcnd => absurd hcnd (by decide)) (fun hcnd => ?_) | refine TX.seq ?_ | refine TX.block ?_ | refine TX.skip ?_ | refine TX.exit ?_ | refine EX.thenN ?_ | refine EX.thenE ?_ | refine EX.blockE ?_ | refine EX.unrE ?_ | refine TX.unroll ?_
  all_goals (
   refine TX.ret ?_
   repeat' first | refine EX.outR ?_ | refine EX.thenR ?_ | refine EX.blockR ?_ | refine EX.unrR ?_
   apply EX.drA (ks := [])
   case he => exact Or.inr rfl
   case hys => simp [resAs, getAs, Tryz.results87] <;> rfl
   case hv => first | (dsimp only [Av.one]; exact rfl) | dsimp only [Av.one]
   case hx => repeat' first | exact IsT2.var _ | exact IsV.tmv _ | exact IsTm.var _ | exact IsTy.row _ | exact IsTm.row _ | exact IsTys.nil | exact IsTms.nil | exact IsBds.nil | exact IsTys.map _ | exact IsTms.map _ | exact IsBds.map _ | exact IsV.int _ | exact IsV.str _ | exact IsV.bool _ | apply IsV.p2 | apply IsV.p3 | apply IsV.tm | apply IsV.ty | apply IsTm.node | apply IsTy.of | apply IsTys.cons | apply IsTms.cons | apply IsBds.cons | apply IsV.tys | apply IsV.tms | apply IsV.bds | apply IsT2.node | apply IsTys.app | apply IsTms.app | apply IsBds.app
   case hA => exact rfl
   case hks => simp
   case hV => exact rfl
   case h1 => omega
   case h2 => omega
   case hg => simp [shape_mk, tyKids, *])
 | succ d ih =>
  intro p hd100 hp
  have h4 : 4 ^ (d + 1 + 1) = 4 * 4 ^ (d + 1) := by rw [Nat.pow_succ]; omega
  have h1 : 1 <= 4 ^ (d + 1) := Nat.pos_of_ne_zero (by simp)
  have hd : ¬ ((d : Int) + 1 + 1 < 2) := by omega
  have hd2 : (d : Int) + 1 + 1 - 1 = d + 1 := by omega
  rw [h4] at hp ⊢
  generalize hN : 4 ^ (d + 1) = N at *
  refine Draws.of_body Tryz.func87 (by kernel_rfl) rfl (by kernel_rfl) (by simp [Tryz.ntmps87]) ?_
  rw [Tryz.ntmps87]
  repeat' first | ((first | refine aops_end (hK _ ?_) | refine aopsF_end (hK _ ?_)); clear hK K) | ((first | refine aops_go ?_ | refine aopsF_go ?_ | refine wpcall_pure rfl (l1Kids_ok _) ?_); simp [tyKids, hd, hd2]; (try simp (disch := omega) only [wrap64]); (try (refine gen2 ?_ ?_ <;> intro hq <;> try simp [tyKids, hd, hd2] at hq))) | (refine wpcall_dr 0 rfl rfl (num_ok b hb _ (by omega) [2, 1, 4, 3, 5, 2, 4] (by simp) (by simp)) (fun x p1 hx hp1 hp1' => ?_); simp at hx; rcases hx with rfl | rfl | rfl | rfl | rfl | rfl | rfl <;> (simp [tyKids, hd, hd2]; (try simp (disch := omega) only [wrap64]))) | (refine wpcall_dr 0 rfl rfl (ih _ (by omega) (by omega)) (fun x1 p1 hx1 hp1 hp1' => ?_); simp [tyKids, hd, hd2]; (try simp (disch := omega) only [wrap64]); (try (refine gen2 ?_ ?_ <;> intro hq <;> try simp [tyKids, hd, hd2] at hq))) | refine TX.rdF1 (id := 8) mixed (fun _ => false) [5, 7, 9] [1] 6 [0] (by kernel_rfl) fun K hK => ?_ | refine TX.rs (fun _ => false) fun K hK => ?_ | refine TX.rs1 (fun _ => false) fun K hK => ?_ | refine TX.cond rfl (fun hcnd => ?_) (fun hcnd => absurd hcnd (by decide)) | refine TX.cond rfl (fun hcnd => absurd hcnd (by decide)) (fun hcnd => ?_) | refine TX.seq ?_ | refine TX.block ?_ | refine TX.skip ?_ | refine TX.exit ?_ | refine EX.thenN ?_ | refine EX.thenE ?_ | refine EX.blockN ?_ | refine EX.blockE ?_ | refine EX.unrE ?_ | refine EX.againN ?_ | refine TX.unroll ?_
  all_goals (
   refine TX.ret ?_
   repeat' first | refine EX.outR ?_ | refine EX.thenR ?_ | refine EX.blockR ?_ | refine EX.unrR ?_
   apply EX.drA (ks := [])
   case he => exact Or.inr rfl
   case hys => simp [resAs, getAs, Tryz.results87] <;> rfl
   case hv => first | (dsimp only [Av.one]; exact rfl) | dsimp only [Av.one]
   case hx => repeat' first | exact IsT2.var _ | exact IsV.tmv _ | exact IsTm.var _ | exact IsTy.row _ | exact IsTm.row _ | exact IsTys.nil | exact IsTms.nil | exact IsBds.nil | exact IsTys.map _ | exact IsTms.map _ | exact IsBds.map _ | exact IsV.int _ | exact IsV.str _ | exact IsV.bool _ | apply IsV.p2 | apply IsV.p3 | apply IsV.tm | apply IsV.ty | apply IsTm.node | apply IsTy.of | apply IsTys.cons | apply IsTms.cons | apply IsBds.cons | apply IsV.tys | apply IsV.tms | apply IsV.bds | apply IsT2.node | apply IsTys.app | apply IsTms.app | apply IsBds.app
   case hA => exact rfl
   case hks => simp
   case hV => exact rfl
   case h1 => omega
   case h2 => omega
   case hg => simp [shape_mk, tyKids, *])

theorem l1Blur_ok (b : List Int) (hb : okB b) : ∀ (d : Nat) (t : MTy) (p : Nat), shapeTy d t = true -> p + 4 ^ d <= 1099511627776 -> Draws Tryz.prog 119 [aTy t] b p (4 ^ d) (RV aTy noA fun t => shapeTy d t = true) := by
 intro d
 induction d with
 | zero => intro t p ht; simp [shapeTy] at ht
 | succ d ih =>
  intro t p ht hp
  have h4 : 4 ^ (d + 1) = 4 * 4 ^ d := by rw [Nat.pow_succ]; omega
  have h1 : 1 <= 4 ^ d := Nat.pos_of_ne_zero (by simp)
  rw [h4] at hp ⊢
  generalize hN : 4 ^ d = N at *
  have hany := l1Any_ok
  obtain ⟨e, he, hk, hl, hs⟩ := shapeTy_kids ht
  obtain rfl : d = e := by omega
  match hkd : t.kids, hl with
  | [], _ =>
   rw [hkd] at hk
   have hk0 : tyKids t.kind = 0 := by simpa using hk
   refine Draws.of_body Tryz.func119 (by kernel_rfl) rfl (by kernel_rfl) (by simp [Tryz.ntmps119]) ?_
   rw [Tryz.ntmps119]
   repeat' first | (refine aops_end (hK _ ?_); clear hK K) | ((first | refine aops_go ?_ | refine wpcall_pure rfl (hany) ?_); simp [hkd]; (try simp (disch := omega) only [wrap64]); (try (refine gen2 ?_ ?_ <;> intro hq <;> try simp [hkd] at hq))) | (refine wpcall_dr 0 rfl rfl (pick_ok b hb _ (by omega) 4 (by omega)) (fun x1 p1 hx1 hp1 hp1' => ?_); simp [hkd]; (try simp (disch := omega) only [wrap64]); (try (refine gen2 ?_ ?_ <;> intro hq <;> try simp [hkd] at hq))) | refine TX.rs (fun _ => false) fun K hK => ?_ | refine TX.cond rfl (fun hcnd => ?_) (fun hcnd => absurd hcnd (by decide)) | refine TX.cond rfl (fun hcnd => absurd hcnd (by decide)) (fun hcnd => ?_) | refine TX.seq ?_ | refine TX.block ?_ | refine TX.skip ?_ | refine TX.exit ?_ | refine EX.thenN ?_ | refine EX.thenE ?_ | refine EX.blockE ?_ | refine EX.unrE ?_ | refine TX.unroll ?_
   all_goals (
    refine TX.ret ?_
    repeat' first | refine EX.outR ?_ | refine EX.thenR ?_ | refine EX.blockR ?_ | refine EX.unrR ?_
    apply EX.drA (ks := [])
    case he => exact Or.inr rfl
    case hys => simp [resAs, getAs, Tryz.results119] <;> rfl
    case hv => first | (dsimp only [Av.one]; exact rfl) | dsimp only [Av.one]
    case hx => repeat' first | exact IsT2.var _ | exact IsV.tmv _ | exact IsTm.var _ | exact IsTy.row _ | exact IsTm.row _ | exact IsTys.nil | exact IsTms.nil | exact IsBds.nil | exact IsTys.map _ | exact IsTms.map _ | exact IsBds.map _ | exact IsV.int _ | exact IsV.str _ | exact IsV.bool _ | apply IsV.p2 | apply IsV.p3 | apply IsV.tm | apply IsV.ty | apply IsTm.node | apply IsTy.of | apply IsTys.cons | apply IsTms.cons | apply IsBds.cons | apply IsV.tys | apply IsV.tms | apply IsV.bds | apply IsT2.node | apply IsTys.app | apply IsTms.app | apply IsBds.app
    case hA => exact rfl
    case hks => simp
    case hV => exact rfl
    case h1 => omega
    case h2 => omega
    case hg => simp [shape_mk, show tyKids 1 = 0 from rfl, hk0, *])
  | [u], _ =>
   rw [hkd] at hk hs
   have hk0 : tyKids t.kind = 1 := by simpa using hk
   exfalso
   simp [tyKids] at hk0
   split at hk0
   ·omega
   ·split at hk0 <;> omega
  | [u, v], _ =>
   rw [hkd] at hk hs
   have hk0 : tyKids t.kind = 2 := by simpa using hk
   have hu := hs u (by simp)
   have hv := hs v (by simp)
   refine Draws.of_body Tryz.func119 (by kernel_rfl) rfl (by kernel_rfl) (by simp [Tryz.ntmps119]) ?_
   rw [Tryz.ntmps119]
   repeat' first | ((first | refine aops_end (hK _ ?_) | refine aopsF_end (hK _ ?_)); clear hK K) | ((first | refine aops_go ?_ | refine aopsF_go ?_ | refine wpcall_pure rfl (hany) ?_); simp [hkd]; (try simp (disch := omega) only [wrap64]); (try (refine gen2 ?_ ?_ <;> intro hq <;> try simp [hkd] at hq))) | (refine wpcall_dr 0 rfl rfl (pick_ok b hb _ (by omega) 4 (by omega)) (fun x1 p1 hx1 hp1 hp1' => ?_); simp [hkd]; (try simp (disch := omega) only [wrap64]); (try (refine gen2 ?_ ?_ <;> intro hq <;> try simp [hkd] at hq))) | (refine wpcall_dr 0 rfl rfl (ih u _ hu (by omega)) (fun x1 p1 hx1 hp1 hp1' => ?_); simp [hkd]; (try simp (disch := omega) only [wrap64]); (try (refine gen2 ?_ ?_ <;> intro hq <;> try simp [hkd] at hq))) | (refine wpcall_dr 0 rfl rfl (ih v _ hv (by omega)) (fun x1 p1 hx1 hp1 hp1' => ?_); simp [hkd]; (try simp (disch := omega) only [wrap64]); (try (refine gen2 ?_ ?_ <;> intro hq <;> try simp [hkd] at hq))) | refine TX.rdF1 (id := 7) mixed (fun _ => false) [8, 10, 12] [1] 9 [0] (by kernel_rfl) fun K hK => ?_ | refine TX.rs (fun _ => false) fun K hK => ?_ | refine TX.rs1 (fun _ => false) fun K hK => ?_ | refine TX.cond rfl (fun hcnd => ?_) (fun hcnd => absurd hcnd (by decide)) | refine TX.cond rfl (fun hcnd => absurd hcnd (by decide)) (fun hcnd => ?_) | refine TX.seq ?_ | refine TX.block ?_ | refine TX.skip ?_ | refine TX.exit ?_ | refine EX.thenN ?_ | refine EX.thenE ?_ | refine EX.blockN ?_ | refine EX.blockE ?_ | refine EX.unrE ?_ | refine EX.againN ?_ | refine TX.unroll ?_
   all_goals (
    refine TX.ret ?_
    repeat' first | refine EX.outR ?_ | refine EX.thenR ?_ | refine EX.blockR ?_ | refine EX.unrR ?_
    apply EX.drA (ks := [])
    case he => exact Or.inr rfl
    case hys => simp [resAs, getAs, Tryz.results119] <;> rfl
    case hv => first | (dsimp only [Av.one]; exact rfl) | dsimp only [Av.one]
    case hx => repeat' first | exact IsT2.var _ | exact IsV.tmv _ | exact IsTm.var _ | exact IsTy.row _ | exact IsTm.row _ | exact IsTys.nil | exact IsTms.nil | exact IsBds.nil | exact IsTys.map _ | exact IsTms.map _ | exact IsBds.map _ | exact IsV.int _ | exact IsV.str _ | exact IsV.bool _ | apply IsV.p2 | apply IsV.p3 | apply IsV.tm | apply IsV.ty | apply IsTm.node | apply IsTy.of | apply IsTys.cons | apply IsTms.cons | apply IsBds.cons | apply IsV.tys | apply IsV.tms | apply IsV.bds | apply IsT2.node | apply IsTys.app | apply IsTms.app | apply IsBds.app
    case hA => exact rfl
    case hks => simp
    case hV => exact rfl
    case h1 => omega
    case h2 => omega
    case hg => simp [shape_mk, show tyKids 1 = 0 from rfl, hk0, *])
  | _ :: _ :: _ :: _, h => exact absurd h (by simp)

end Go.Proofs.YtcmdpggdaiinpaaGreatDoor

namespace Go.Proofs.YtcmdpggdaiinpaaGreatDoor
attribute [-simp] Go.Av.take_app_len Go.Av.MCo.kind_mk Go.Av.MCo.tag_mk Go.Av.MCo.label_mk Go.Av.MCo.kids_mk Go.Av.innVs Go.Av.putBack Go.Av.objCells Go.Av.back Go.Av.resVs Go.Av.one Go.Av.freeStepG Go.Av.exA Go.Av.innAsH Go.Av.AV.innH Go.Av.CV.innH Go.Av.innHs Go.Av.AV.outnH Go.Av.CV.outnH
open Go Go.Av
attribute [local irreducible] T ACalls TX EX LX Draws Some_ ACallsX eTy eTm MTy.kind MTy.kids MTm.kind MTm.name MTm.num MTm.ty MTm.fr MTm.label MTm.kids
attribute [local simp] eTy_def eTm_def
set_option maxHeartbeats 16000000
set_option maxRecDepth 8000

theorem l2Num_ok (n : Int) : ACalls Tryz.prog 91 [.i n] [] (aTm (.mk 2 [] n zeroT zeroT 0 [])) [] [] := by
 refine ACalls.of_body Tryz.func91 (by kernel_rfl) rfl (by kernel_rfl) (by simp [Tryz.ntmps91]) (by simp) ?_
 rw [Tryz.ntmps91]
 repeat' first | (refine aops_end (hK _ ?_); clear hK K) | (refine aops_go ?_; simp; (try (refine gen2 ?_ ?_ <;> intro hq <;> try simp at hq))) | (refine T.ret (Done.val (Or.inr rfl) ?_) <;> simp [resAs, Tryz.results91] <;> omega) | refine T.r0 fun K hK => ?_

theorem l2Add_ok (s : List UInt8) (c : UInt8) (hs : s.length <= 1099511627776) : ACalls Tryz.prog 128 [.s s, .s [c]] [] (.s (addM c s)) [] [] := by
 refine ACalls.of_body Tryz.func128 (by kernel_rfl) rfl (by kernel_rfl) (by simp [Tryz.ntmps128]) (by simp) ?_
 rw [Tryz.ntmps128]
 repeat' first | (refine aops_end (hK _ ?_); clear hK K) | (refine aops_go ?_; simp; (try (refine gen2 ?_ ?_ <;> intro hq <;> try simp at hq))) | refine T.r0 fun K hK => ?_ | refine T.seq ?_ | refine T.block ?_
 refine T.loopF (fun k : Nat => ⟨[(0, .s s), (1, .s [c]), (4, .s []), (5, .i k)], [], []⟩) (fun k => s.length + 1 - k) (fun k => k <= s.length /\ addM c s = s.take k ++ addM c (s.drop k)) (fun k hk => ?_) 0 (by simp) (by simp)
 obtain ⟨hi, he⟩ := hk
 by_cases hlt : k < s.length
 ·have hsl := slice_one hlt
  have hdr := drop_cons hlt
  have htk : s.take (k + 1) = s.take k ++ [s[k]] := by rw [List.take_add_one, List.getElem?_eq_getElem hlt]; rfl
  generalize hx : s[k] = x at *
  have hbl := bytesLess_one x c
  have hto : ((k : Int) + 1).toNat = k + 1 := by omega
  have hk1 : (k : Int) <= k + 1 := by omega
  have hk2 : (k : Int) + 1 <= s.length := by omega
  by_cases h1 : x < c
  ·have he' : addM c s = s.take (k + 1) ++ addM c (s.drop (k + 1)) := by rw [he, hdr, htk]; simp [addM, h1]
   repeat' first | (refine aops_end (hK _ ?_); clear hK K) | (refine aops_go ?_; simp [hlt, hto, hsl, hbl, h1, hk2]; (try simp (disch := omega) only [wrap64]); (try (refine gen2 ?_ ?_ <;> intro hq <;> try simp [hlt, hto, hsl, hbl, h1, hk2] at hq))) | (refine ⟨k + 1, by dsimp only; omega, ⟨by omega, he'⟩, ?_⟩; simp (disch := omega) [wrap64]) | refine T.r0 fun K hK => ?_ | refine T.r1 fun K hK => ?_ | (refine ⟨by omega, ?_⟩) | refine T.ct rfl ?_ | refine T.seq ?_ | refine T.block ?_ | refine T.skip ?_
  ·by_cases h2 : x = c
   ·subst h2
    have he' : addM x s = s := by rw [he, hdr]; simp [addM]; rw [<- hdr]; simp
    rw [he']
    have hbl' : Op.bytesLess [x] [x] = false := by rw [hbl]; simp
    repeat' first | (refine aops_end (hK _ ?_); clear hK K) | (refine aops_go ?_; simp [hlt, hto, hsl, hbl', hk2]; (try simp (disch := omega) only [wrap64]); (try (refine gen2 ?_ ?_ <;> intro hq <;> try simp [hlt, hto, hsl, hbl', hk2] at hq))) | (refine T.ret (Done.data (Or.inr rfl) ?_ ?_) <;> simp [Tryz.results128] <;> omega) | refine T.r0 fun K hK => ?_ | (refine ⟨by omega, ?_⟩) | refine T.ct rfl ?_ | refine T.cf rfl ?_ | refine T.seq ?_ | refine T.exit ?_
   ·have he' : addM c s = s.take k ++ [c] ++ s.drop k := by rw [he, hdr]; simp [addM, h1, h2]
    rw [he']
    have hmin : min k s.length = k := by omega
    have ha1 : k + 1 <= 4611686018427387904 := by omega
    have ha2 : k + 1 + (s.length - k) <= 4611686018427387904 := by omega
    repeat' first | ((first | refine aops_end (hK _ ?_) | refine aopsD_end (hK _ ?_)); clear hK K) | ((first | refine aops_go ?_ | refine aopsD_go ?_); simp [hlt, hto, hsl, hbl, h1, h2, hk2, hmin, ha1, ha2]; (try simp (disch := omega) only [wrap64]); (try (refine gen2 ?_ ?_ <;> intro hq <;> try simp [hlt, hto, hsl, hbl, h1, h2, hk2, hmin, ha1, ha2] at hq))) | (refine T.ret (Done.data (Or.inr rfl) ?_ ?_) <;> simp [Tryz.results128] <;> omega) | refine T.rd (id := 6) mixed (fun _ => false) [] (by kernel_rfl) fun K hK => ?_ | refine T.r0 fun K hK => ?_ | (refine ⟨by omega, ?_⟩) | refine T.cf rfl ?_ | refine T.seq ?_ | refine T.skip ?_ | refine T.exit ?_
 ·have hk' : k = s.length := by omega
  subst hk'
  simp [addM] at he
  rw [he]
  have ha1 : s.length + 1 <= 4611686018427387904 := by omega
  repeat' first | ((first | refine aops_end (hK _ ?_) | refine aopsD_end (hK _ ?_)); clear hK K) | ((first | refine aops_go ?_ | refine aopsD_go ?_); simp [hlt, ha1]; (try simp (disch := omega) only [wrap64]); (try (refine gen2 ?_ ?_ <;> intro hq <;> try simp [hlt, ha1] at hq))) | (refine T.ret (Done.data (Or.inr rfl) ?_ ?_) <;> simp [Tryz.results128] <;> omega) | refine T.rd (id := 6) mixed (fun _ => false) [] (by kernel_rfl) fun K hK => ?_ | refine T.r0 fun K hK => ?_ | refine T.cf rfl ?_ | refine T.seq ?_ | refine T.skip ?_ | refine T.exit ?_

theorem l1DrawT_ok (b : List Int) (hb : okB b) (x : Int) (hx : x = 1 \/ x = 2 \/ x = 3 \/ x = 4) (p : Nat) (hp : p + 256 <= 1099511627776) : Draws Tryz.prog 87 [.i x] b p 256 (RV aTy noA fun t => shapeTy 4 t = true) := by
 rcases hx with rfl | rfl | rfl | rfl
 ·exact (l1Draw_ok b hb 0 p (by omega) (by omega)).mono (by omega) fun t h => shapeTy_mono (shapeTy_mono (shapeTy_mono h))
 ·exact (l1Draw_ok b hb 1 p (by omega) (by omega)).mono (by omega) fun t h => shapeTy_mono (shapeTy_mono h)
 ·exact (l1Draw_ok b hb 2 p (by omega) (by omega)).mono (by omega) fun t h => shapeTy_mono h
 ·exact (l1Draw_ok b hb 3 p (by omega) (by omega)).mono (by omega) fun t h => h

theorem l2Atom_ok (b : List Int) (hb : okB b) (s : List UInt8) (hs : s.length <= 1000) (p : Nat) (hp : p + 3 <= 1099511627776) : Draws Tryz.prog 127 [.s s] b p 3 (RV aTm noA fun e => nTm e <= 1) := by
 have hnum := l2Num_ok
 refine Draws.of_body Tryz.func127 (by kernel_rfl) rfl (by kernel_rfl) (by simp [Tryz.ntmps127]) ?_
 rw [Tryz.ntmps127]
 repeat' first | (refine aops_end (hK _ ?_); clear hK K) | ((first | refine aops_go ?_ | refine wpcall_pure rfl (hnum _) ?_); simp; (try simp (disch := omega) only [wrap64]); (try (refine gen2 ?_ ?_ <;> intro hq <;> try simp at hq))) | (refine wpcall_dr 0 rfl rfl (pick_ok b hb _ (by omega) 4 (by omega)) (fun x1 p1 hx1 hp1 hp1' => ?_); simp; (try simp (disch := omega) only [wrap64]); (try (refine gen2 ?_ ?_ <;> intro hq <;> try simp at hq))) | (refine wpcall_dr 0 rfl rfl (pick_ok b hb _ (by omega) 5 (by omega)) (fun x1 p1 hx1 hp1 hp1' => ?_); simp; (try simp (disch := omega) only [wrap64]); (try (refine gen2 ?_ ?_ <;> intro hq <;> try simp at hq))) | (refine wpcall_dr 0 rfl rfl (pick_ok b hb _ (by omega) s.length (by omega)) (fun x1 p1 hx1 hp1 hp1' => ?_); simp; (try simp (disch := omega) only [wrap64]); (try (refine gen2 ?_ ?_ <;> intro hq <;> try simp at hq))) | (refine wpcall_dr 0 rfl rfl (num_ok b hb _ (by omega) [1, 0, 2, 5, 999, 7] (by simp) (by simp)) (fun x1 p1 hx1 hp1 hp1' => ?_); simp; (try simp (disch := omega) only [wrap64]); (try (refine gen2 ?_ ?_ <;> intro hq <;> try simp at hq))) | refine TX.rs (fun _ => false) fun K hK => ?_ | (refine ⟨by omega, ?_⟩) | refine TX.cond rfl (fun hcnd => ?_) (fun hcnd => absurd hcnd (by decide)) | refine TX.cond rfl (fun hcnd => absurd hcnd (by decide)) (fun hcnd => ?_) | refine TX.seq ?_ | refine TX.block ?_ | refine TX.skip ?_ | refine EX.thenN ?_ | refine EX.blockN ?_
 all_goals (
  refine TX.ret ?_
  repeat' first | refine EX.outR ?_ | refine EX.thenR ?_ | refine EX.blockR ?_ | refine EX.unrR ?_
  apply EX.drA (ks := [])
  case he => exact Or.inr rfl
  case hys => simp [resAs, getAs, Tryz.results127] <;> rfl
  case hv => first | (dsimp only [Av.one]; exact rfl) | dsimp only [Av.one]
  case hx => repeat' first | exact IsT2.var _ | exact IsV.tmv _ | exact IsTm.var _ | exact IsTy.row _ | exact IsTm.row _ | exact IsTys.nil | exact IsTms.nil | exact IsBds.nil | exact IsTys.map _ | exact IsTms.map _ | exact IsBds.map _ | exact IsV.int _ | exact IsV.str _ | exact IsV.bool _ | apply IsV.p2 | apply IsV.p3 | apply IsV.tm | apply IsV.ty | apply IsTm.node | apply IsTy.of | apply IsTys.cons | apply IsTms.cons | apply IsBds.cons | apply IsV.tys | apply IsV.tms | apply IsV.bds | apply IsT2.node | apply IsTys.app | apply IsTms.app | apply IsBds.app
  case hA => exact rfl
  case hks => simp
  case hV => exact rfl
  case h1 => omega
  case h2 => omega
  case hg => simp [nTm_mk, nTy_mk, nTyS, nTmS] <;> omega)

theorem l2Draw_ok (b : List Int) (hb : okB b) : ∀ (d : Nat) (s : List UInt8) (p : Nat), d <= 50 -> s.length + d <= 100 -> p + 400 * 4 ^ d <= 1099511627776 -> Draws Tryz.prog 89 [.s s, .i d] b p (400 * 4 ^ d) (RV aTm noA fun e => nTm e <= 400 * 4 ^ d) := by
 intro d
 induction d with
 | zero =>
  intro s p hd hs hp
  refine Draws.of_body Tryz.func89 (by kernel_rfl) rfl (by kernel_rfl) (by simp [Tryz.ntmps89]) ?_
  rw [Tryz.ntmps89]
  repeat' first | (refine aops_end (hK _ ?_); clear hK K) | (refine aops_go ?_; simp; (try simp (disch := omega) only [wrap64]); (try (refine gen2 ?_ ?_ <;> intro hq <;> try simp at hq))) | (refine wpcall_dr 0 rfl rfl (l2Atom_ok b hb s (by omega) _ (by omega)) (fun x1 p1 hx1 hp1 hp1' => ?_); simp; (try simp (disch := omega) only [wrap64]); (try (refine gen2 ?_ ?_ <;> intro hq <;> try simp at hq))) | refine TX.rs (fun _ => false) fun K hK => ?_ | refine TX.cond rfl (fun hcnd => ?_) (fun hcnd => absurd hcnd (by decide)) | refine TX.seq ?_
  all_goals (
   refine TX.ret ?_
   repeat' first | refine EX.outR ?_ | refine EX.thenR ?_ | refine EX.blockR ?_ | refine EX.unrR ?_
   apply EX.drA (ks := [])
   case he => exact Or.inr rfl
   case hys => simp [resAs, getAs, Tryz.results89] <;> rfl
   case hv => first | (dsimp only [Av.one]; exact rfl) | dsimp only [Av.one]
   case hx => repeat' first | exact IsT2.var _ | exact IsV.tmv _ | exact IsTm.var _ | exact IsTy.row _ | exact IsTm.row _ | exact IsTys.nil | exact IsTms.nil | exact IsBds.nil | exact IsTys.map _ | exact IsTms.map _ | exact IsBds.map _ | exact IsV.int _ | exact IsV.str _ | exact IsV.bool _ | apply IsV.p2 | apply IsV.p3 | apply IsV.tm | apply IsV.ty | apply IsTm.node | apply IsTy.of | apply IsTys.cons | apply IsTms.cons | apply IsBds.cons | apply IsV.tys | apply IsV.tms | apply IsV.bds | apply IsT2.node | apply IsTys.app | apply IsTms.app | apply IsBds.app
   case hA => exact rfl
   case hks => simp
   case hV => exact rfl
   case h1 => omega
   case h2 => omega
   case hg => omega)
 | succ d ih =>
  intro s p hd hs hp
  have h4 : 4 ^ (d + 1) = 4 * 4 ^ d := by rw [Nat.pow_succ]; omega
  have h1 : 1 <= 4 ^ d := Nat.pos_of_ne_zero (by simp)
  rw [h4] at hp ⊢
  generalize hN : 4 ^ d = N at *
  by_cases hd0 : d = 0
  ·subst hd0
   refine Draws.of_body Tryz.func89 (by kernel_rfl) rfl (by kernel_rfl) (by simp [Tryz.ntmps89]) ?_
   rw [Tryz.ntmps89]
   repeat' first | (refine aops_end (hK _ ?_); clear hK K) | (refine aops_go ?_; simp; (try simp (disch := omega) only [wrap64]); (try (refine gen2 ?_ ?_ <;> intro hq <;> try simp at hq))) | (refine wpcall_dr 0 rfl rfl (l2Atom_ok b hb s (by omega) _ (by omega)) (fun x1 p1 hx1 hp1 hp1' => ?_); simp; (try simp (disch := omega) only [wrap64]); (try (refine gen2 ?_ ?_ <;> intro hq <;> try simp at hq))) | refine TX.rs (fun _ => false) fun K hK => ?_ | refine TX.cond rfl (fun hcnd => ?_) (fun hcnd => absurd hcnd (by decide)) | refine TX.seq ?_
   all_goals (
    refine TX.ret ?_
    repeat' first | refine EX.outR ?_ | refine EX.thenR ?_ | refine EX.blockR ?_ | refine EX.unrR ?_
    apply EX.drA (ks := [])
    case he => exact Or.inr rfl
    case hys => simp [resAs, getAs, Tryz.results89] <;> rfl
    case hv => first | (dsimp only [Av.one]; exact rfl) | dsimp only [Av.one]
    case hx => repeat' first | exact IsT2.var _ | exact IsV.tmv _ | exact IsTm.var _ | exact IsTy.row _ | exact IsTm.row _ | exact IsTys.nil | exact IsTms.nil | exact IsBds.nil | exact IsTys.map _ | exact IsTms.map _ | exact IsBds.map _ | exact IsV.int _ | exact IsV.str _ | exact IsV.bool _ | apply IsV.p2 | apply IsV.p3 | apply IsV.tm | apply IsV.ty | apply IsTm.node | apply IsTy.of | apply IsTys.cons | apply IsTms.cons | apply IsBds.cons | apply IsV.tys | apply IsV.tms | apply IsV.bds | apply IsT2.node | apply IsTys.app | apply IsTms.app | apply IsBds.app
    case hA => exact rfl
    case hks => simp
    case hV => exact rfl
    case h1 => omega
    case h2 => omega
    case hg => omega)
  have hd2 : ¬ ((d : Int) + 1 < 2) := by omega
  have hd3 : (d : Int) + 1 - 1 = d := by omega
  have hadd : ∀ c, (addM c s).length + d <= 100 := fun c => by have := addM_len c s; omega
  refine Draws.of_body Tryz.func89 (by kernel_rfl) rfl (by kernel_rfl) (by simp [Tryz.ntmps89]) ?_
  rw [Tryz.ntmps89]
  repeat' first | ((first | refine aops_end (hK _ ?_) | refine aopsF_end (hK _ ?_)); clear hK K) | ((first | refine aops_go ?_ | refine aopsF_go ?_ | refine wpcall_pure rfl (l2Kids_ok _) ?_ | refine wpcall_pure rfl (l2Add_ok s _ (by omega)) ?_); simp [kidsM, hd2, hd3]; (try simp (disch := omega) only [wrap64]); (try (refine gen2 ?_ ?_ <;> intro hq <;> try simp [kidsM, hd2, hd3] at hq))) | (refine wpcall_dr 0 rfl rfl (num_ok b hb _ (by omega) [6, 5, 7, 9, 13, 10, 11, 8, 12, 5, 6] (by simp) (by simp)) (fun x p1 hx hp1 hp1' => ?_); simp at hx; (have hx2 : x = 6 \/ x = 5 \/ x = 7 \/ x = 9 \/ x = 13 \/ x = 10 \/ x = 11 \/ x = 8 \/ x = 12 := by omega); clear hx; rcases hx2 with rfl | rfl | rfl | rfl | rfl | rfl | rfl | rfl | rfl <;> (simp [kidsM, hd2, hd3]; (try simp (disch := omega) only [wrap64]))) | (refine wpcall_dr 0 rfl rfl (l2Atom_ok b hb s (by omega) _ (by omega)) (fun x1 p1 hx1 hp1 hp1' => ?_); simp [kidsM, hd2, hd3]; (try simp (disch := omega) only [wrap64]); (try (refine gen2 ?_ ?_ <;> intro hq <;> try simp [kidsM, hd2, hd3] at hq))) | (refine wpcall_dr 0 rfl rfl (pick_ok b hb _ (by omega) 6 (by omega)) (fun x1 p1 hx1 hp1 hp1' => ?_); simp [kidsM, hd2, hd3]; (try simp (disch := omega) only [wrap64]); (try (refine gen2 ?_ ?_ <;> intro hq <;> try simp [kidsM, hd2, hd3] at hq))) | (refine wpcall_dr 0 rfl rfl (ih s _ (by omega) (by omega) (by omega)) (fun x1 p1 hx1 hp1 hp1' => ?_); simp [kidsM, hd2, hd3]; (try simp (disch := omega) only [wrap64]); (try (refine gen2 ?_ ?_ <;> intro hq <;> try simp [kidsM, hd2, hd3] at hq))) | (refine wpcall_dr 0 rfl rfl (ih (addM _ s) _ (by omega) (hadd _) (by omega)) (fun x1 p1 hx1 hp1 hp1' => ?_); simp [kidsM, hd2, hd3]; (try simp (disch := omega) only [wrap64]); (try (refine gen2 ?_ ?_ <;> intro hq <;> try simp [kidsM, hd2, hd3] at hq))) | ((first | (refine wpcall_dr 0 rfl rfl (of_ok b hb _ (by omega) [[120], [121], [122], [102]] (by simp) (by simp)) (fun x p1 hx hp1 hp1' => ?_); (obtain ⟨c, rfl⟩ : ∃ c, x = [c] := by simp at hx; rcases hx with rfl | rfl | rfl | rfl <;> exact ⟨_, rfl⟩)) | (refine wpcall_dr 0 rfl rfl (num_ok b hb _ (by omega) [2, 1, 3, 2] (by simp) (by simp)) (fun y p1 hy hp1 hp1' => ?_); simp at hy) | (refine wpcall_dr 0 rfl rfl (l1DrawT_ok b hb _ (by omega) _ (by omega)) (fun t p1 ht hp1 hp1' => ?_); replace ht := shape4 ht)); simp) | refine TX.rdF1 (id := 13) mixed (fun _ => false) [6, 8, 10] [1] 7 [0] (by kernel_rfl) fun K hK => ?_ | refine TX.rs (fun _ => false) fun K hK => ?_ | refine TX.rs1 (fun _ => false) fun K hK => ?_ | refine TX.cond rfl (fun hcnd => ?_) (fun hcnd => absurd hcnd (by decide)) | refine TX.cond rfl (fun hcnd => absurd hcnd (by decide)) (fun hcnd => ?_) | refine TX.seq ?_ | refine TX.block ?_ | refine TX.skip ?_ | refine TX.exit ?_ | refine EX.thenN ?_ | refine EX.thenE ?_ | refine EX.blockN ?_ | refine EX.blockE ?_ | refine EX.unrE ?_ | refine EX.againN ?_ | refine TX.unroll ?_
  all_goals (
   refine TX.ret ?_
   repeat' first | refine EX.outR ?_ | refine EX.thenR ?_ | refine EX.blockR ?_ | refine EX.unrR ?_
   apply EX.drA (ks := [])
   case he => exact Or.inr rfl
   case hys => simp [resAs, getAs, Tryz.results89] <;> rfl
   case hv => first | (dsimp only [Av.one]; exact rfl) | dsimp only [Av.one]
   case hx => repeat' first | exact IsT2.var _ | exact IsV.tmv _ | exact IsTm.var _ | exact IsTy.row _ | exact IsTm.row _ | exact IsTys.nil | exact IsTms.nil | exact IsBds.nil | exact IsTys.map _ | exact IsTms.map _ | exact IsBds.map _ | exact IsV.int _ | exact IsV.str _ | exact IsV.bool _ | apply IsV.p2 | apply IsV.p3 | apply IsV.tm | apply IsV.ty | apply IsTm.node | apply IsTy.of | apply IsTys.cons | apply IsTms.cons | apply IsBds.cons | apply IsV.tys | apply IsV.tms | apply IsV.bds | apply IsT2.node | apply IsTys.app | apply IsTms.app | apply IsBds.app
   case hA => exact rfl
   case hks => simp
   case hV => exact rfl
   case h1 => omega
   case h2 => omega
   case hg => (try simp [nTm_mk, nTy_mk, nTyS, nTmS]) <;> omega)
end Go.Proofs.YtcmdpggdaiinpaaGreatDoor

namespace Go.Proofs.YtcmdpggdaiinpaaGreatDoor
attribute [-simp] Go.Av.take_app_len Go.Av.MCo.kind_mk Go.Av.MCo.tag_mk Go.Av.MCo.label_mk Go.Av.MCo.kids_mk Go.Av.innVs Go.Av.putBack Go.Av.objCells Go.Av.back Go.Av.resVs Go.Av.one Go.Av.freeStepG Go.Av.exA Go.Av.innAsH Go.Av.AV.innH Go.Av.CV.innH Go.Av.innHs Go.Av.AV.outnH Go.Av.CV.outnH
open Go Go.Av
attribute [local irreducible] T ACalls TX EX LX Draws Some_ ACallsX eTy eTm MTy.kind MTy.kids MTm.kind MTm.name MTm.num MTm.ty MTm.fr MTm.label MTm.kids
attribute [local simp] eTy_def eTm_def
set_option maxHeartbeats 16000000
set_option maxRecDepth 8000

theorem l2Closed_ok (b : List Int) (hb : okB b) (p : Nat) (hp : p + 500000 <= 1099511627776) : Draws Tryz.prog 53 [] b p 500000 (RV aTm noA fun e => nTm e <= 500000) := by
 have hnum := l2Num_ok
 refine Draws.of_body Tryz.func53 (by kernel_rfl) rfl (by kernel_rfl) (by simp [Tryz.ntmps53]) ?_
 rw [Tryz.ntmps53]
 repeat' first | (refine aops_end (hK _ ?_); clear hK K) | ((first | refine aops_go ?_ | refine wpcall_pure rfl (hnum _) ?_ | refine wpcall_pure rfl (TermValidS_ok _ (by omega)) ?_); simp; (try simp (disch := omega) only [wrap64]); (try (refine gen2 ?_ ?_ <;> intro hq <;> try simp at hq))) | (refine wpcall_dr 0 rfl rfl (num_ok b hb _ (by omega) [4, 3, 5, 4, 2] (by simp) (by simp)) (fun x p1 hx hp1 hp1' => ?_); simp at hx; (have hx2 : x = 4 \/ x = 3 \/ x = 5 \/ x = 2 := by omega); clear hx; rcases hx2 with rfl | rfl | rfl | rfl <;> (simp; (try simp (disch := omega) only [wrap64]))) | (refine wpcall_dr 0 rfl rfl (l2Draw_ok b hb 5 [] _ (by omega) (by simp) (by omega)) (fun x1 p1 hx1 hp1 hp1' => ?_); simp; (try simp (disch := omega) only [wrap64]); (try (refine gen2 ?_ ?_ <;> intro hq <;> try simp at hq))) | (refine wpcall_dr 0 rfl rfl (l2Draw_ok b hb 4 [] _ (by omega) (by simp) (by omega)) (fun x1 p1 hx1 hp1 hp1' => ?_); simp; (try simp (disch := omega) only [wrap64]); (try (refine gen2 ?_ ?_ <;> intro hq <;> try simp at hq))) | (refine wpcall_dr 0 rfl rfl (l2Draw_ok b hb 3 [] _ (by omega) (by simp) (by omega)) (fun x1 p1 hx1 hp1 hp1' => ?_); simp; (try simp (disch := omega) only [wrap64]); (try (refine gen2 ?_ ?_ <;> intro hq <;> try simp at hq))) | (refine wpcall_dr 0 rfl rfl (l2Draw_ok b hb 2 [] _ (by omega) (by simp) (by omega)) (fun x1 p1 hx1 hp1 hp1' => ?_); simp; (try simp (disch := omega) only [wrap64]); (try (refine gen2 ?_ ?_ <;> intro hq <;> try simp at hq))) | refine TX.rs (fun _ => false) fun K hK => ?_ | refine TX.cond rfl (fun hcnd => ?_) (fun hcnd => absurd hcnd (by decide)) | refine TX.cond rfl (fun hcnd => absurd hcnd (by decide)) (fun hcnd => ?_) | refine TX.seq ?_ | refine TX.skip ?_ | refine EX.thenN ?_
 all_goals (
  refine TX.ret ?_
  repeat' first | refine EX.outR ?_ | refine EX.thenR ?_ | refine EX.blockR ?_ | refine EX.unrR ?_
  apply EX.drA (ks := [])
  case he => exact Or.inr rfl
  case hys => simp [resAs, getAs, Tryz.results53] <;> rfl
  case hv => first | (dsimp only [Av.one]; exact rfl) | dsimp only [Av.one]
  case hx => repeat' first | exact IsT2.var _ | exact IsV.tmv _ | exact IsTm.var _ | exact IsTy.row _ | exact IsTm.row _ | exact IsTys.nil | exact IsTms.nil | exact IsBds.nil | exact IsTys.map _ | exact IsTms.map _ | exact IsBds.map _ | exact IsV.int _ | exact IsV.str _ | exact IsV.bool _ | apply IsV.p2 | apply IsV.p3 | apply IsV.tm | apply IsV.ty | apply IsTm.node | apply IsTy.of | apply IsTys.cons | apply IsTms.cons | apply IsBds.cons | apply IsV.tys | apply IsV.tms | apply IsV.bds | apply IsT2.node | apply IsTys.app | apply IsTms.app | apply IsBds.app
  case hA => exact rfl
  case hks => simp
  case hV => exact rfl
  case h1 => omega
  case h2 => omega
  case hg => (try simp [nTm_mk, nTy_mk, nTyS, nTmS]) <;> omega)

end Go.Proofs.YtcmdpggdaiinpaaGreatDoor

namespace Go.Proofs.YtcmdpggdaiinpaaGreatDoor
attribute [-simp] Go.Av.MCo.kind_mk Go.Av.MCo.tag_mk Go.Av.MCo.label_mk Go.Av.MCo.kids_mk Go.Av.innVs Go.Av.putBack Go.Av.objCells Go.Av.back Go.Av.resVs Go.Av.one Go.Av.freeStepG Go.Av.exA Go.Av.innAsH Go.Av.AV.innH Go.Av.CV.innH Go.Av.innHs Go.Av.AV.outnH Go.Av.CV.outnH
open Go Go.Av
attribute [local irreducible] T ACalls TX EX LX Draws Some_ ACallsX eTy eTm MTy.kind MTy.kids MTm.kind MTm.name MTm.num MTm.ty MTm.fr MTm.label MTm.kids
attribute [local simp] eTy_def eTm_def
set_option maxHeartbeats 16000000
set_option maxRecDepth 8000

theorem l2NodeR_ok (k : Int) (l : List (List DV)) : ACalls Tryz.prog 120 [.i k, .l l] [] (.agg [.d (.i k), .d (.str []), .d (.i 0), .d (.i 0), .d (.sl []), .d (.i 0), .d (.sl []), .d (.i 0), .d (.sl l)]) [] [] := by
 refine ACalls.of_body Tryz.func120 (by kernel_rfl) rfl (by kernel_rfl) (by simp [Tryz.ntmps120]) (by simp) ?_
 rw [Tryz.ntmps120]
 repeat' first | (refine aops_end (hK _ ?_); clear hK K) | (refine aops_go ?_; simp; (try (refine gen2 ?_ ?_ <;> intro hq <;> try simp at hq))) | (refine T.ret (Done.val (Or.inr rfl) ?_) <;> simp [resAs, Tryz.results120] <;> omega) | refine T.r0 fun K hK => ?_

theorem l3Lam_of (b : List Int) (hb : okB b) (ctx : List MBd) (s t : MTy) (hs : nTy s <= 100) (hl : ctx.length <= 1000) (d : Int) (hd : -1000 <= d) (hd' : d <= 1000) (N B p : Nat) (hp : p + N + 1 <= 1099511627776)
  (hm : ∀ (c : UInt8) (p : Nat), p + N <= 1099511627776 -> Draws Tryz.prog 86 [.l (ctx.map eBd ++ [eBd ⟨[c], s⟩]), aTy t, .i d] b p N (RV aTm noA fun e => nTm e <= B)) :
  Draws Tryz.prog 122 [aBds ctx, aTy s, aTy t, .i d] b p (N + 1) (RV aTm noA fun e => nTm e <= B + 102) := by
 have hcp := l1Copy_ok s (by omega)
 refine Draws.of_body Tryz.func122 (by kernel_rfl) rfl (by kernel_rfl) (by simp [Tryz.ntmps122]) ?_
 rw [Tryz.ntmps122]
 repeat' first | ((first | refine aops_end (hK _ ?_) | refine aopsD_end (hK _ ?_)); clear hK K) | ((first | refine aops_go ?_ | refine aopsD_go ?_ | refine wpcall_pure rfl (hcp) ?_ | refine wpcall_pure rfl (l3More_ok ctx _ s (by omega)) ?_); simp; (try simp (disch := omega) only [wrap64]); (try (refine gen2 ?_ ?_ <;> intro hq <;> try simp at hq))) | (refine wpcall_dr 0 rfl rfl (hm _ _ (by omega)) (fun x1 p1 hx1 hp1 hp1' => ?_); simp; (try simp (disch := omega) only [wrap64]); (try (refine gen2 ?_ ?_ <;> intro hq <;> try simp at hq))) | (refine wpcall_dr 0 rfl rfl (of_ok b hb _ (by omega) [[120], [121], [122], [102]] (by simp) (by simp)) (fun x p1 hx hp1 hp1' => ?_); (obtain ⟨c, rfl⟩ : ∃ c, x = [c] := by simp at hx; rcases hx with rfl | rfl | rfl | rfl <;> exact ⟨_, rfl⟩); simp) | refine TX.rd (id := 2) mixed (fun _ => false) [10, 13] (by kernel_rfl) fun K hK => ?_ | refine TX.rs (fun _ => false) fun K hK => ?_
 have hn2 := nTy_def s
 all_goals (
  refine TX.ret ?_
  repeat' first | refine EX.outR ?_ | refine EX.thenR ?_ | refine EX.blockR ?_ | refine EX.unrR ?_
  apply EX.drA (ks := [])
  case he => exact Or.inr rfl
  case hys => simp [resAs, getAs, Tryz.results122] <;> rfl
  case hv => first | (dsimp only [Av.one]; exact rfl) | dsimp only [Av.one]
  case hx => repeat' first | exact IsT2.var _ | exact IsV.tmv _ | exact IsTm.var _ | exact IsTy.row _ | exact IsTm.row _ | exact IsTys.nil | exact IsTms.nil | exact IsBds.nil | exact IsTys.map _ | exact IsTms.map _ | exact IsBds.map _ | exact IsV.int _ | exact IsV.str _ | exact IsV.bool _ | apply IsV.p2 | apply IsV.p3 | apply IsV.tm | apply IsV.ty | apply IsTm.node | apply IsTy.of | apply IsTys.cons | apply IsTms.cons | apply IsBds.cons | apply IsV.tys | apply IsV.tms | apply IsV.bds | apply IsT2.node | apply IsTys.app | apply IsTms.app | apply IsBds.app
  case hA => exact rfl
  case hks => simp
  case hV => exact rfl
  case h1 => omega
  case h2 => omega
  case hg => simp [nTm_mk, nTy_mk, nTyS, nTmS, *] <;> omega)

theorem l3Make_core (b : List Int) (hb : okB b) (ctx : List MBd) (hl : ctx.length <= 1000) (hct : ∀ u ∈ ctx, u.name.length <= 10 /\ nTy u.ty <= 1000) (t : MTy) (hts : shapeTy 4 t = true) (d : Int) (hd : -1000 <= d) (hd' : d <= 1000) (N B p : Nat) (hp : p + 3 * N + 3000 <= 1099511627776)
  (h1 : 1 < d -> ∀ (t' : MTy), shapeTy 4 t' = true -> ∀ p, p + N <= 1099511627776 -> Draws Tryz.prog 86 [aBds ctx, aTy t', .i (d - 1)] b p N (RV aTm noA fun e => nTm e <= B))
  (h1L : 1 < d -> ∀ (s t' : MTy), shapeTy 4 s = true -> shapeTy 4 t' = true -> ∀ p, p + N <= 1099511627776 -> Draws Tryz.prog 122 [aBds ctx, aTy s, aTy t', .i (d - 1)] b p N (RV aTm noA fun e => nTm e <= B))
  (h2 : ∀ u ∈ t.kids, ∀ p, p + N <= 1099511627776 -> Draws Tryz.prog 86 [aBds ctx, aTy u, .i (d - 1)] b p N (RV aTm noA fun e => nTm e <= B))
  (h2L : ∀ u ∈ t.kids, ∀ v ∈ t.kids, ∀ p, p + N <= 1099511627776 -> Draws Tryz.prog 122 [aBds ctx, aTy u, aTy v, .i (d - 1)] b p N (RV aTm noA fun e => nTm e <= B)) :
  Draws Tryz.prog 86 [aBds ctx, aTy t, .i d] b p (3 * N + 3000) (RV aTm noA fun e => nTm e <= 3 * B + 100) := by
 have hnt := shape4 hts
 have hblI := fun p hp => l1Blur_ok b hb 4 intT p shape_int hp
 simp only [aTy, MTy.kind_mk, MTy.kids_mk, List.map_nil] at hblI
 have hint := l3Int_ok
 have hbool := l3Bool_ok
 have hany := l1Any_ok
 have hnum := l2Num_ok
 have hnode := l2NodeR_ok
 refine Draws.of_body Tryz.func86 (by kernel_rfl) rfl (by kernel_rfl) (by simp [Tryz.ntmps86]) ?_
 rw [Tryz.ntmps86]
 repeat' first | (refine aops_end (hK _ ?_); clear hK K) | (refine aops_go ?_; simp; (try simp (disch := omega) only [wrap64]); (try (refine gen2 ?_ ?_ <;> intro hq <;> try simp at hq))) | refine TX.rs (fun _ => false) fun K hK => ?_ | refine TX.seq ?_ | refine TX.block ?_
 refine TX.loopF (fun x : Nat × Nat × List (List CV) => ⟨[(0, .c (.ptr 0 0)), (1, aBds ctx), (3, .i d), (6, .c (.ptr 1 0)), (8, .c (.ptr 2 0)), (9, .i ((x.1 : Int) - 1))], (rd b x.2.1).map CV.d :: (aTy t).cells :: [.d (.i 0), .d (.str []), .d (.i 0), .d (.i 0), .nil, .d (.i 0), .nil, .d (.i 0), .nil] :: x.2.2, []⟩) (fun x => x.1) (fun x => x.1 <= ctx.length /\ p <= x.2.1 /\ x.2.1 + x.1 <= p + ctx.length) (fun x hx => ?_) (ctx.length, p, []) (by simp) (by simp)
 obtain ⟨j, q1, G⟩ := x
 obtain ⟨hj, hq1, hq2⟩ := hx
 dsimp only at hj hq1 hq2 ⊢
 cases j with
 | succ k =>
  have hk : k < ctx.length := by omega
  have e1 : ((k : Int) + 1 - 1) = k := by omega
  have e2 : ¬ ((k : Int) < 0) := by omega
  obtain ⟨u, ht⟩ := get_lt hk
  have htm : u ∈ ctx := List.mem_of_getElem? ht
  have hgt : ctx[k] = u := by rw [List.getElem?_eq_getElem hk] at ht; exact Option.some.inj ht
  have hdr : ctx.drop k = u :: ctx.drop (k + 1) := by rw [List.drop_eq_getElem_cons hk, hgt]
  have hu := hct u htm
  have hlk := l3Look_ok ctx u.name (by omega) (fun v hv => by have := hct v hv; omega)
  cases hr : lookM ctx u.name with
  | none =>
   rw [hr] at hlk
   dsimp only at hlk
   have hv := TypeValidS_ok zeroT (by simp [nTy_mk, nTyS])
   rw [shape_zero] at hv
   repeat' first | (refine aops_end (hK _ ?_); clear hK K) | ((first | refine aops_go ?_ | refine wpcall_pure rfl (hlk) ?_ | (refine wpcall_pure ?_ (hv) ?_; (focus (solve | simp [hk, hgt, e1, e2, eBd])))); simp [hk, hgt, e1, e2, eBd]; (try simp (disch := omega) only [wrap64]); (try (refine gen2 ?_ ?_ <;> intro hq <;> try simp [hk, hgt, e1, e2, eBd] at hq))) | (refine wpcall_dr 0 rfl rfl (pick_ok b hb _ (by omega) 3 (by omega)) (fun x1 p1 hx1 hp1 hp1' => ?_); simp [hk, hgt, e1, e2, eBd]; (try simp (disch := omega) only [wrap64]); (try (refine gen2 ?_ ?_ <;> intro hq <;> try simp [hk, hgt, e1, e2, eBd] at hq))) | (refine EX.next (k, _, _) (by dsimp only; omega) ⟨by dsimp only; omega, by dsimp only; omega, by dsimp only; omega⟩ ⟨rfl, rfl, ?_⟩; simp (disch := omega) [wrap64]) | refine TX.rs (fun _ => false) fun K hK => ?_ | refine TX.rs1 (fun _ => false) fun K hK => ?_ | refine TX.cond rfl (fun hcnd => ?_) (fun hcnd => absurd hcnd (by decide)) | refine TX.cond rfl (fun hcnd => absurd hcnd (by decide)) (fun hcnd => ?_) | refine TX.seq ?_ | refine TX.block ?_ | refine TX.skip ?_ | refine EX.thenN ?_ | refine EX.blockN ?_
  | some tu =>
   rw [hr] at hlk
   dsimp only at hlk
   obtain ⟨bd, hbm, rfl, _⟩ := look_mem hr
   have hbt := hct bd hbm
   have hv := TypeValidS_ok bd.ty (by omega)
   cases hvv : shapeTy 4 bd.ty with
   | false =>
    rw [hvv] at hv
    repeat' first | (refine aops_end (hK _ ?_); clear hK K) | ((first | refine aops_go ?_ | refine wpcall_pure rfl (hlk) ?_ | refine wpcall_pure rfl (hv) ?_); simp [hk, hgt, e1, e2, eBd]; (try simp (disch := omega) only [wrap64]); (try (refine gen2 ?_ ?_ <;> intro hq <;> try simp [hk, hgt, e1, e2, eBd] at hq))) | (refine wpcall_dr 0 rfl rfl (pick_ok b hb _ (by omega) 3 (by omega)) (fun x1 p1 hx1 hp1 hp1' => ?_); simp [hk, hgt, e1, e2, eBd]; (try simp (disch := omega) only [wrap64]); (try (refine gen2 ?_ ?_ <;> intro hq <;> try simp [hk, hgt, e1, e2, eBd] at hq))) | (refine EX.next (k, _, _) (by dsimp only; omega) ⟨by dsimp only; omega, by dsimp only; omega, by dsimp only; omega⟩ ⟨rfl, rfl, ?_⟩; simp (disch := omega) [wrap64]) | refine TX.rs (fun _ => false) fun K hK => ?_ | refine TX.rs1 (fun _ => false) fun K hK => ?_ | refine TX.cond rfl (fun hcnd => ?_) (fun hcnd => absurd hcnd (by decide)) | refine TX.cond rfl (fun hcnd => absurd hcnd (by decide)) (fun hcnd => ?_) | refine TX.seq ?_ | refine TX.block ?_ | refine TX.skip ?_ | refine EX.thenN ?_ | refine EX.blockN ?_
   | true =>
    rw [hvv] at hv
    have hcc := l1Consistent_ok 4 bd.ty t (by omega) hvv hts
    cases hcv : consTy bd.ty t with
    | false =>
     rw [hcv] at hcc
     repeat' first | (refine aops_end (hK _ ?_); clear hK K) | ((first | refine aops_go ?_ | refine wpcall_pure rfl (hlk) ?_ | refine wpcall_pure rfl (hv) ?_ | refine wpcall_pure rfl (hcc) ?_); simp [hk, hgt, e1, e2, eBd]; (try simp (disch := omega) only [wrap64]); (try (refine gen2 ?_ ?_ <;> intro hq <;> try simp [hk, hgt, e1, e2, eBd] at hq))) | (refine wpcall_dr 0 rfl rfl (pick_ok b hb _ (by omega) 3 (by omega)) (fun x1 p1 hx1 hp1 hp1' => ?_); simp [hk, hgt, e1, e2, eBd]; (try simp (disch := omega) only [wrap64]); (try (refine gen2 ?_ ?_ <;> intro hq <;> try simp [hk, hgt, e1, e2, eBd] at hq))) | (refine EX.next (k, _, _) (by dsimp only; omega) ⟨by dsimp only; omega, by dsimp only; omega, by dsimp only; omega⟩ ⟨rfl, rfl, ?_⟩; simp (disch := omega) [wrap64]) | refine TX.rs (fun _ => false) fun K hK => ?_ | refine TX.rs1 (fun _ => false) fun K hK => ?_ | refine TX.cond rfl (fun hcnd => ?_) (fun hcnd => absurd hcnd (by decide)) | refine TX.cond rfl (fun hcnd => absurd hcnd (by decide)) (fun hcnd => ?_) | refine TX.seq ?_ | refine TX.block ?_ | refine TX.skip ?_ | refine EX.thenN ?_ | refine EX.blockN ?_
    | true =>
     rw [hcv] at hcc
     repeat' first | (refine aops_end (hK _ ?_); clear hK K) | ((first | refine aops_go ?_ | refine wpcall_pure rfl (hlk) ?_ | refine wpcall_pure rfl (hv) ?_ | refine wpcall_pure rfl (hcc) ?_); simp [hk, hgt, e1, e2, eBd]; (try simp (disch := omega) only [wrap64]); (try (refine gen2 ?_ ?_ <;> intro hq <;> try simp [hk, hgt, e1, e2, eBd] at hq))) | (refine wpcall_dr 0 rfl rfl (pick_ok b hb _ (by omega) 3 (by omega)) (fun x1 p1 hx1 hp1 hp1' => ?_); simp [hk, hgt, e1, e2, eBd]; (try simp (disch := omega) only [wrap64]); (try (refine gen2 ?_ ?_ <;> intro hq <;> try simp [hk, hgt, e1, e2, eBd] at hq))) | (refine EX.next (k, _, _) (by dsimp only; omega) ⟨by dsimp only; omega, by dsimp only; omega, by dsimp only; omega⟩ ⟨rfl, rfl, ?_⟩; simp (disch := omega) [wrap64]) | refine TX.rs (fun _ => false) fun K hK => ?_ | refine TX.rs1 (fun _ => false) fun K hK => ?_ | refine TX.cond rfl (fun hcnd => ?_) (fun hcnd => absurd hcnd (by decide)) | refine TX.cond rfl (fun hcnd => absurd hcnd (by decide)) (fun hcnd => ?_) | refine TX.seq ?_ | refine TX.block ?_ | refine TX.skip ?_ | refine EX.thenN ?_ | refine EX.blockN ?_
     all_goals (
      refine TX.ret ?_
      repeat' first | refine EX.outR ?_ | refine EX.thenR ?_ | refine EX.blockR ?_ | refine EX.unrR ?_
      apply EX.drA (ks := [])
      case he => exact Or.inr rfl
      case hys => simp [resAs, getAs, Tryz.results86] <;> rfl
      case hv => first | (dsimp only [Av.one]; exact rfl) | dsimp only [Av.one]
      case hx => repeat' first | exact IsT2.var _ | exact IsV.tmv _ | exact IsTm.var _ | exact IsTy.row _ | exact IsTm.row _ | exact IsTys.nil | exact IsTms.nil | exact IsBds.nil | exact IsTys.map _ | exact IsTms.map _ | exact IsBds.map _ | exact IsV.int _ | exact IsV.str _ | exact IsV.bool _ | apply IsV.p2 | apply IsV.p3 | apply IsV.tm | apply IsV.ty | apply IsTm.node | apply IsTy.of | apply IsTys.cons | apply IsTms.cons | apply IsBds.cons | apply IsV.tys | apply IsV.tms | apply IsV.bds | apply IsT2.node | apply IsTys.app | apply IsTms.app | apply IsBds.app
      case hA => exact rfl
      case hks => simp
      case hV => exact rfl
      case h1 => omega
      case h2 => omega
      case hg => (try simp [nTm_mk, nTy_mk, nTyS, nTmS]) <;> omega)
 | zero => 
  obtain ⟨tk, tl⟩ := t
  obtain ⟨_, _, hkk, hkl, hks⟩ := shapeTy_kids hts
  simp only [MTy.kids_mk, MTy.kind_mk] at hkk hkl hks h2 h2L
  cases tl with
  | nil =>
   have hk4 : ¬ tk = 4 := fun h => by rw [h] at hkk; simp [tyKids] at hkk
   have hk5 : ¬ tk = 5 := fun h => by rw [h] at hkk; simp [tyKids] at hkk
   by_cases hdp : 1 < d
   ·have h1' := h1 hdp
    have h1L' := h1L hdp
    have h1b := h1' boolT shape_bool
    have h1i := h1' intT shape_int
    simp only [aTy, MTy.kind_mk, MTy.kids_mk, List.map_nil] at h1b h1i
    have hcp := l1Copy_ok (.mk tk []) (by omega)
    have hbl := fun p hp => l1Blur_ok b hb 4 (.mk tk []) p hts hp
    simp only [aTy, MTy.kind_mk, MTy.kids_mk, List.map_cons, List.map_nil, eTy_def] at hcp hbl
    have h1t := h1' (.mk tk []) hts
    have h1Lt := fun a ha => h1L' a (.mk tk []) ha hts
    simp only [aTy, MTy.kind_mk, MTy.kids_mk, List.map_cons, List.map_nil, eTy_def] at h1t h1Lt
    repeat' first | ((first | refine aops_end (hK _ ?_) | refine aopsD_end (hK _ ?_) | refine aopsF_end (hK _ ?_)); clear hK K) | ((first | refine aops_go ?_ | refine aopsD_go ?_ | refine aopsF_go ?_ | refine wpcall_pure rfl (hcp) ?_ | refine wpcall_pure rfl (hint) ?_ | refine wpcall_pure rfl (hbool) ?_ | refine wpcall_pure rfl (hany) ?_ | refine wpcall_pure rfl (hnum _) ?_ | refine wpcall_pure rfl (hnode _ _) ?_); simp [hdp, hk4, hk5]; (try simp (disch := omega) only [wrap64]); (try (refine gen2 ?_ ?_ <;> intro hq <;> try simp [hdp, hk4, hk5] at hq))) | (refine wpcall_dr 0 rfl rfl (pick_ok b hb _ (by omega) 9 (by omega)) (fun x1 p1 hx1 hp1 hp1' => ?_); simp [hdp, hk4, hk5]; (try simp (disch := omega) only [wrap64]); (try (refine gen2 ?_ ?_ <;> intro hq <;> try simp [hdp, hk4, hk5] at hq))) | (refine wpcall_dr 0 rfl rfl (pick_ok b hb _ (by omega) 3 (by omega)) (fun x1 p1 hx1 hp1 hp1' => ?_); simp [hdp, hk4, hk5]; (try simp (disch := omega) only [wrap64]); (try (refine gen2 ?_ ?_ <;> intro hq <;> try simp [hdp, hk4, hk5] at hq))) | (refine wpcall_dr 0 rfl rfl (pick_ok b hb _ (by omega) 2 (by omega)) (fun x1 p1 hx1 hp1 hp1' => ?_); simp [hdp, hk4, hk5]; (try simp (disch := omega) only [wrap64]); (try (refine gen2 ?_ ?_ <;> intro hq <;> try simp [hdp, hk4, hk5] at hq))) | (refine wpcall_dr 0 rfl rfl (l1DrawT_ok b hb 1 (by omega) _ (by omega)) (fun x1 p1 hx1 hp1 hp1' => ?_); simp [hdp, hk4, hk5]; (try simp (disch := omega) only [wrap64]); (try (refine gen2 ?_ ?_ <;> intro hq <;> try simp [hdp, hk4, hk5] at hq))) | (refine wpcall_dr 0 rfl rfl (l1DrawT_ok b hb 2 (by omega) _ (by omega)) (fun x1 p1 hx1 hp1 hp1' => ?_); simp [hdp, hk4, hk5]; (try simp (disch := omega) only [wrap64]); (try (refine gen2 ?_ ?_ <;> intro hq <;> try simp [hdp, hk4, hk5] at hq))) | (refine wpcall_dr 0 rfl rfl (hbl _ (by omega)) (fun x1 p1 hx1 hp1 hp1' => ?_); simp [hdp, hk4, hk5]; (try simp (disch := omega) only [wrap64]); (try (refine gen2 ?_ ?_ <;> intro hq <;> try simp [hdp, hk4, hk5] at hq))) | (refine wpcall_dr 0 rfl rfl (hblI _ (by omega)) (fun x1 p1 hx1 hp1 hp1' => ?_); simp [hdp, hk4, hk5]; (try simp (disch := omega) only [wrap64]); (try (refine gen2 ?_ ?_ <;> intro hq <;> try simp [hdp, hk4, hk5] at hq))) | (refine wpcall_dr 0 rfl rfl (l1Blur_ok b hb 4 _ _ (by assumption) (by omega)) (fun x1 p1 hx1 hp1 hp1' => ?_); simp [hdp, hk4, hk5]; (try simp (disch := omega) only [wrap64]); (try (refine gen2 ?_ ?_ <;> intro hq <;> try simp [hdp, hk4, hk5] at hq))) | (refine wpcall_dr 0 rfl rfl (num_ok b hb _ (by omega) [1, 2, 0, 999, 5] (by simp) (by simp)) (fun x1 p1 hx1 hp1 hp1' => ?_); simp [hdp, hk4, hk5]; (try simp (disch := omega) only [wrap64]); (try (refine gen2 ?_ ?_ <;> intro hq <;> try simp [hdp, hk4, hk5] at hq))) | (refine wpcall_dr 0 rfl rfl (h1b _ (by omega)) (fun x1 p1 hx1 hp1 hp1' => ?_); simp [hdp, hk4, hk5]; (try simp (disch := omega) only [wrap64]); (try (refine gen2 ?_ ?_ <;> intro hq <;> try simp [hdp, hk4, hk5] at hq))) | (refine wpcall_dr 0 rfl rfl (h1i _ (by omega)) (fun x1 p1 hx1 hp1 hp1' => ?_); simp [hdp, hk4, hk5]; (try simp (disch := omega) only [wrap64]); (try (refine gen2 ?_ ?_ <;> intro hq <;> try simp [hdp, hk4, hk5] at hq))) | (refine wpcall_dr 0 rfl rfl (h1t _ (by omega)) (fun x1 p1 hx1 hp1 hp1' => ?_); simp [hdp, hk4, hk5]; (try simp (disch := omega) only [wrap64]); (try (refine gen2 ?_ ?_ <;> intro hq <;> try simp [hdp, hk4, hk5] at hq))) | (refine wpcall_dr 0 rfl rfl (h1' _ (by assumption) _ (by omega)) (fun x1 p1 hx1 hp1 hp1' => ?_); simp [hdp, hk4, hk5]; (try simp (disch := omega) only [wrap64]); (try (refine gen2 ?_ ?_ <;> intro hq <;> try simp [hdp, hk4, hk5] at hq))) | (refine wpcall_dr 0 rfl rfl (h1Lt _ (by assumption) _ (by omega)) (fun x1 p1 hx1 hp1 hp1' => ?_); simp [hdp, hk4, hk5]; (try simp (disch := omega) only [wrap64]); (try (refine gen2 ?_ ?_ <;> intro hq <;> try simp [hdp, hk4, hk5] at hq))) | refine TX.rd (id := 10) mixed (fun _ => false) [6, 9, 12] (by kernel_rfl) fun K hK => ?_ | refine TX.rdF (id := 12) mixed (fun _ => false) [5, 11, 17, 20] [8, 14] 12 [0] (by kernel_rfl) fun K hK => ?_ | refine TX.rdF (id := 15) mixed (fun _ => false) [6, 11, 14, 17] [10] 7 [0] (by kernel_rfl) fun K hK => ?_ | refine TX.rs (fun _ => false) fun K hK => ?_ | refine TX.cond rfl (fun hcnd => ?_) (fun hcnd => absurd hcnd (by decide)) | refine TX.cond rfl (fun hcnd => absurd hcnd (by decide)) (fun hcnd => ?_) | refine TX.seq ?_ | refine TX.block ?_ | refine TX.skip ?_ | refine TX.exit ?_ | refine EX.thenN ?_ | refine EX.thenE ?_ | refine EX.blockN ?_ | refine EX.blockE ?_ | refine EX.outE ?_
    all_goals (
     refine TX.ret ?_
     repeat' first | refine EX.outR ?_ | refine EX.thenR ?_ | refine EX.blockR ?_ | refine EX.unrR ?_
     apply EX.drA (ks := [])
     case he => exact Or.inr rfl
     case hys => simp [resAs, getAs, Tryz.results86] <;> rfl
     case hv => first | (dsimp only [Av.one]; exact rfl) | dsimp only [Av.one]
     case hx => repeat' first | exact IsT2.var _ | exact IsV.tmv _ | exact IsTm.var _ | exact IsTy.row _ | exact IsTm.row _ | exact IsTys.nil | exact IsTms.nil | exact IsBds.nil | exact IsTys.map _ | exact IsTms.map _ | exact IsBds.map _ | exact IsV.int _ | exact IsV.str _ | exact IsV.bool _ | apply IsV.p2 | apply IsV.p3 | apply IsV.tm | apply IsV.ty | apply IsTm.node | apply IsTy.of | apply IsTys.cons | apply IsTms.cons | apply IsBds.cons | apply IsV.tys | apply IsV.tms | apply IsV.bds | apply IsT2.node | apply IsTys.app | apply IsTms.app | apply IsBds.app
     case hA => exact rfl
     case hks => simp
     case hV => exact rfl
     case h1 => omega
     case h2 => omega
     case hg => (try simp [nTm_mk, nTy_mk, nTyS, nTmS]) <;> omega)
   ·have hcp := l1Copy_ok (.mk tk []) (by omega)
    have hbl := fun p hp => l1Blur_ok b hb 4 (.mk tk []) p hts hp
    simp only [aTy, MTy.kind_mk, MTy.kids_mk, List.map_cons, List.map_nil, eTy_def] at hcp hbl
    repeat' first | (refine aops_end (hK _ ?_); clear hK K) | ((first | refine aops_go ?_ | refine wpcall_pure rfl (hany) ?_ | refine wpcall_pure rfl (hnum _) ?_); simp [hdp, hk4, hk5]; (try simp (disch := omega) only [wrap64]); (try (refine gen2 ?_ ?_ <;> intro hq <;> try simp [hdp, hk4, hk5] at hq))) | (refine wpcall_dr 0 rfl rfl (pick_ok b hb _ (by omega) 3 (by omega)) (fun x1 p1 hx1 hp1 hp1' => ?_); simp [hdp, hk4, hk5]; (try simp (disch := omega) only [wrap64]); (try (refine gen2 ?_ ?_ <;> intro hq <;> try simp [hdp, hk4, hk5] at hq))) | (refine wpcall_dr 0 rfl rfl (num_ok b hb _ (by omega) [1, 2, 0, 999, 5] (by simp) (by simp)) (fun x1 p1 hx1 hp1 hp1' => ?_); simp [hdp, hk4, hk5]; (try simp (disch := omega) only [wrap64]); (try (refine gen2 ?_ ?_ <;> intro hq <;> try simp [hdp, hk4, hk5] at hq))) | refine TX.rs (fun _ => false) fun K hK => ?_ | refine TX.cond rfl (fun hcnd => ?_) (fun hcnd => absurd hcnd (by decide)) | refine TX.cond rfl (fun hcnd => absurd hcnd (by decide)) (fun hcnd => ?_) | refine TX.seq ?_ | refine TX.block ?_ | refine TX.skip ?_ | refine TX.exit ?_ | refine EX.thenN ?_ | refine EX.thenE ?_ | refine EX.blockN ?_ | refine EX.blockE ?_ | refine EX.outE ?_
    all_goals (
     refine TX.ret ?_
     repeat' first | refine EX.outR ?_ | refine EX.thenR ?_ | refine EX.blockR ?_ | refine EX.unrR ?_
     apply EX.drA (ks := [])
     case he => exact Or.inr rfl
     case hys => simp [resAs, getAs, Tryz.results86] <;> rfl
     case hv => first | (dsimp only [Av.one]; exact rfl) | dsimp only [Av.one]
     case hx => repeat' first | exact IsT2.var _ | exact IsV.tmv _ | exact IsTm.var _ | exact IsTy.row _ | exact IsTm.row _ | exact IsTys.nil | exact IsTms.nil | exact IsBds.nil | exact IsTys.map _ | exact IsTms.map _ | exact IsBds.map _ | exact IsV.int _ | exact IsV.str _ | exact IsV.bool _ | apply IsV.p2 | apply IsV.p3 | apply IsV.tm | apply IsV.ty | apply IsTm.node | apply IsTy.of | apply IsTys.cons | apply IsTms.cons | apply IsBds.cons | apply IsV.tys | apply IsV.tms | apply IsV.bds | apply IsT2.node | apply IsTys.app | apply IsTms.app | apply IsBds.app
     case hA => exact rfl
     case hks => simp
     case hV => exact rfl
     case h1 => omega
     case h2 => omega
     case hg => (try simp [nTm_mk, nTy_mk, nTyS, nTmS]) <;> omega)
  | cons s tl =>
   cases tl with
   | nil =>
    exfalso
    simp only [tyKids] at hkk
    split at hkk
    ·simp at hkk
    ·split at hkk <;> simp at hkk
   | cons v tl =>
    cases tl with
    | cons _ _ => exact absurd hkl (by simp)
    | nil =>
     have hnt2 := hnt
     simp only [nTy_mk, nTyS] at hnt2
     have h2a := h2 s (by simp)
     have h2b := h2 v (by simp)
     have h2c := h2L s (by simp) v (by simp)
     by_cases hdp : 1 < d
     ·have h1' := h1 hdp
      have h1L' := h1L hdp
      have h1b := h1' boolT shape_bool
      have h1i := h1' intT shape_int
      simp only [aTy, MTy.kind_mk, MTy.kids_mk, List.map_nil] at h1b h1i
      have hcp := l1Copy_ok (.mk tk [s, v]) (by omega)
      have hbl := fun p hp => l1Blur_ok b hb 4 (.mk tk [s, v]) p hts hp
      simp only [aTy, MTy.kind_mk, MTy.kids_mk, List.map_cons, List.map_nil, eTy_def] at hcp hbl
      have h1t := h1' (.mk tk [s, v]) hts
      have h1Lt := fun a ha => h1L' a (.mk tk [s, v]) ha hts
      simp only [aTy, MTy.kind_mk, MTy.kids_mk, List.map_cons, List.map_nil, eTy_def] at h1t h1Lt
      repeat' first | ((first | refine aops_end (hK _ ?_) | refine aopsD_end (hK _ ?_) | refine aopsF_end (hK _ ?_)); clear hK K) | ((first | refine aops_go ?_ | refine aopsD_go ?_ | refine aopsF_go ?_ | refine wpcall_pure rfl (hcp) ?_ | refine wpcall_pure rfl (hint) ?_ | refine wpcall_pure rfl (hbool) ?_ | refine wpcall_pure rfl (hany) ?_ | refine wpcall_pure rfl (hnum _) ?_ | refine wpcall_pure rfl (hnode _ _) ?_); simp [hdp]; (try simp (disch := omega) only [wrap64]); (try (refine gen2 ?_ ?_ <;> intro hq <;> try simp [hdp] at hq))) | (refine wpcall_dr 0 rfl rfl (pick_ok b hb _ (by omega) 9 (by omega)) (fun x1 p1 hx1 hp1 hp1' => ?_); simp [hdp]; (try simp (disch := omega) only [wrap64]); (try (refine gen2 ?_ ?_ <;> intro hq <;> try simp [hdp] at hq))) | (refine wpcall_dr 0 rfl rfl (pick_ok b hb _ (by omega) 3 (by omega)) (fun x1 p1 hx1 hp1 hp1' => ?_); simp [hdp]; (try simp (disch := omega) only [wrap64]); (try (refine gen2 ?_ ?_ <;> intro hq <;> try simp [hdp] at hq))) | (refine wpcall_dr 0 rfl rfl (pick_ok b hb _ (by omega) 2 (by omega)) (fun x1 p1 hx1 hp1 hp1' => ?_); simp [hdp]; (try simp (disch := omega) only [wrap64]); (try (refine gen2 ?_ ?_ <;> intro hq <;> try simp [hdp] at hq))) | (refine wpcall_dr 0 rfl rfl (l1DrawT_ok b hb 1 (by omega) _ (by omega)) (fun x1 p1 hx1 hp1 hp1' => ?_); simp [hdp]; (try simp (disch := omega) only [wrap64]); (try (refine gen2 ?_ ?_ <;> intro hq <;> try simp [hdp] at hq))) | (refine wpcall_dr 0 rfl rfl (l1DrawT_ok b hb 2 (by omega) _ (by omega)) (fun x1 p1 hx1 hp1 hp1' => ?_); simp [hdp]; (try simp (disch := omega) only [wrap64]); (try (refine gen2 ?_ ?_ <;> intro hq <;> try simp [hdp] at hq))) | (refine wpcall_dr 0 rfl rfl (hbl _ (by omega)) (fun x1 p1 hx1 hp1 hp1' => ?_); simp [hdp]; (try simp (disch := omega) only [wrap64]); (try (refine gen2 ?_ ?_ <;> intro hq <;> try simp [hdp] at hq))) | (refine wpcall_dr 0 rfl rfl (hblI _ (by omega)) (fun x1 p1 hx1 hp1 hp1' => ?_); simp [hdp]; (try simp (disch := omega) only [wrap64]); (try (refine gen2 ?_ ?_ <;> intro hq <;> try simp [hdp] at hq))) | (refine wpcall_dr 0 rfl rfl (l1Blur_ok b hb 4 _ _ (by assumption) (by omega)) (fun x1 p1 hx1 hp1 hp1' => ?_); simp [hdp]; (try simp (disch := omega) only [wrap64]); (try (refine gen2 ?_ ?_ <;> intro hq <;> try simp [hdp] at hq))) | (refine wpcall_dr 0 rfl rfl (num_ok b hb _ (by omega) [1, 2, 0, 999, 5] (by simp) (by simp)) (fun x1 p1 hx1 hp1 hp1' => ?_); simp [hdp]; (try simp (disch := omega) only [wrap64]); (try (refine gen2 ?_ ?_ <;> intro hq <;> try simp [hdp] at hq))) | (refine wpcall_dr 0 rfl rfl (h2a _ (by omega)) (fun x1 p1 hx1 hp1 hp1' => ?_); simp [hdp]; (try simp (disch := omega) only [wrap64]); (try (refine gen2 ?_ ?_ <;> intro hq <;> try simp [hdp] at hq))) | (refine wpcall_dr 0 rfl rfl (h2b _ (by omega)) (fun x1 p1 hx1 hp1 hp1' => ?_); simp [hdp]; (try simp (disch := omega) only [wrap64]); (try (refine gen2 ?_ ?_ <;> intro hq <;> try simp [hdp] at hq))) | (refine wpcall_dr 0 rfl rfl (h2c _ (by omega)) (fun x1 p1 hx1 hp1 hp1' => ?_); simp [hdp]; (try simp (disch := omega) only [wrap64]); (try (refine gen2 ?_ ?_ <;> intro hq <;> try simp [hdp] at hq))) | (refine wpcall_dr 0 rfl rfl (h1b _ (by omega)) (fun x1 p1 hx1 hp1 hp1' => ?_); simp [hdp]; (try simp (disch := omega) only [wrap64]); (try (refine gen2 ?_ ?_ <;> intro hq <;> try simp [hdp] at hq))) | (refine wpcall_dr 0 rfl rfl (h1i _ (by omega)) (fun x1 p1 hx1 hp1 hp1' => ?_); simp [hdp]; (try simp (disch := omega) only [wrap64]); (try (refine gen2 ?_ ?_ <;> intro hq <;> try simp [hdp] at hq))) | (refine wpcall_dr 0 rfl rfl (h1t _ (by omega)) (fun x1 p1 hx1 hp1 hp1' => ?_); simp [hdp]; (try simp (disch := omega) only [wrap64]); (try (refine gen2 ?_ ?_ <;> intro hq <;> try simp [hdp] at hq))) | (refine wpcall_dr 0 rfl rfl (h1' _ (by assumption) _ (by omega)) (fun x1 p1 hx1 hp1 hp1' => ?_); simp [hdp]; (try simp (disch := omega) only [wrap64]); (try (refine gen2 ?_ ?_ <;> intro hq <;> try simp [hdp] at hq))) | (refine wpcall_dr 0 rfl rfl (h1Lt _ (by assumption) _ (by omega)) (fun x1 p1 hx1 hp1 hp1' => ?_); simp [hdp]; (try simp (disch := omega) only [wrap64]); (try (refine gen2 ?_ ?_ <;> intro hq <;> try simp [hdp] at hq))) | refine TX.rd (id := 10) mixed (fun _ => false) [6, 9, 12] (by kernel_rfl) fun K hK => ?_ | refine TX.rdF (id := 12) mixed (fun _ => false) [5, 11, 17, 20] [8, 14] 12 [0] (by kernel_rfl) fun K hK => ?_ | refine TX.rdF (id := 15) mixed (fun _ => false) [6, 11, 14, 17] [10] 7 [0] (by kernel_rfl) fun K hK => ?_ | refine TX.rd (id := 24) mixed (fun _ => false) [12, 13] (by kernel_rfl) fun K hK => ?_ | refine TX.rdF (id := 26) mixed (fun _ => false) [8, 17, 20] [12, 13, 14] 9 [0] (by kernel_rfl) fun K hK => ?_ | refine TX.rs (fun _ => false) fun K hK => ?_ | refine TX.cond rfl (fun hcnd => ?_) (fun hcnd => absurd hcnd (by decide)) | refine TX.cond rfl (fun hcnd => absurd hcnd (by decide)) (fun hcnd => ?_) | refine TX.seq ?_ | refine TX.block ?_ | refine TX.skip ?_ | refine TX.exit ?_ | refine EX.thenN ?_ | refine EX.thenE ?_ | refine EX.blockN ?_ | refine EX.blockE ?_ | refine EX.outE ?_
      all_goals (
       refine TX.ret ?_
       repeat' first | refine EX.outR ?_ | refine EX.thenR ?_ | refine EX.blockR ?_ | refine EX.unrR ?_
       apply EX.drA (ks := [])
       case he => exact Or.inr rfl
       case hys => simp [resAs, getAs, Tryz.results86] <;> rfl
       case hv => first | (dsimp only [Av.one]; exact rfl) | dsimp only [Av.one]
       case hx => repeat' first | exact IsT2.var _ | exact IsV.tmv _ | exact IsTm.var _ | exact IsTy.row _ | exact IsTm.row _ | exact IsTys.nil | exact IsTms.nil | exact IsBds.nil | exact IsTys.map _ | exact IsTms.map _ | exact IsBds.map _ | exact IsV.int _ | exact IsV.str _ | exact IsV.bool _ | apply IsV.p2 | apply IsV.p3 | apply IsV.tm | apply IsV.ty | apply IsTm.node | apply IsTy.of | apply IsTys.cons | apply IsTms.cons | apply IsBds.cons | apply IsV.tys | apply IsV.tms | apply IsV.bds | apply IsT2.node | apply IsTys.app | apply IsTms.app | apply IsBds.app
       case hA => exact rfl
       case hks => simp
       case hV => exact rfl
       case h1 => omega
       case h2 => omega
       case hg => (try simp [nTm_mk, nTy_mk, nTyS, nTmS]) <;> omega)
     ·have hcp := l1Copy_ok (.mk tk [s, v]) (by omega)
      have hbl := fun p hp => l1Blur_ok b hb 4 (.mk tk [s, v]) p hts hp
      simp only [aTy, MTy.kind_mk, MTy.kids_mk, List.map_cons, List.map_nil, eTy_def] at hcp hbl
      repeat' first | ((first | refine aops_end (hK _ ?_) | refine aopsD_end (hK _ ?_) | refine aopsF_end (hK _ ?_)); clear hK K) | ((first | refine aops_go ?_ | refine aopsD_go ?_ | refine aopsF_go ?_ | refine wpcall_pure rfl (hany) ?_ | refine wpcall_pure rfl (hnum _) ?_ | refine wpcall_pure rfl (hnode _ _) ?_); simp [hdp]; (try simp (disch := omega) only [wrap64]); (try (refine gen2 ?_ ?_ <;> intro hq <;> try simp [hdp] at hq))) | (refine wpcall_dr 0 rfl rfl (pick_ok b hb _ (by omega) 3 (by omega)) (fun x1 p1 hx1 hp1 hp1' => ?_); simp [hdp]; (try simp (disch := omega) only [wrap64]); (try (refine gen2 ?_ ?_ <;> intro hq <;> try simp [hdp] at hq))) | (refine wpcall_dr 0 rfl rfl (num_ok b hb _ (by omega) [1, 2, 0, 999, 5] (by simp) (by simp)) (fun x1 p1 hx1 hp1 hp1' => ?_); simp [hdp]; (try simp (disch := omega) only [wrap64]); (try (refine gen2 ?_ ?_ <;> intro hq <;> try simp [hdp] at hq))) | (refine wpcall_dr 0 rfl rfl (h2a _ (by omega)) (fun x1 p1 hx1 hp1 hp1' => ?_); simp [hdp]; (try simp (disch := omega) only [wrap64]); (try (refine gen2 ?_ ?_ <;> intro hq <;> try simp [hdp] at hq))) | (refine wpcall_dr 0 rfl rfl (h2b _ (by omega)) (fun x1 p1 hx1 hp1 hp1' => ?_); simp [hdp]; (try simp (disch := omega) only [wrap64]); (try (refine gen2 ?_ ?_ <;> intro hq <;> try simp [hdp] at hq))) | (refine wpcall_dr 0 rfl rfl (h2c _ (by omega)) (fun x1 p1 hx1 hp1 hp1' => ?_); simp [hdp]; (try simp (disch := omega) only [wrap64]); (try (refine gen2 ?_ ?_ <;> intro hq <;> try simp [hdp] at hq))) | refine TX.rd (id := 24) mixed (fun _ => false) [12, 13] (by kernel_rfl) fun K hK => ?_ | refine TX.rdF (id := 26) mixed (fun _ => false) [8, 17, 20] [12, 13, 14] 9 [0] (by kernel_rfl) fun K hK => ?_ | refine TX.rs (fun _ => false) fun K hK => ?_ | refine TX.cond rfl (fun hcnd => ?_) (fun hcnd => absurd hcnd (by decide)) | refine TX.cond rfl (fun hcnd => absurd hcnd (by decide)) (fun hcnd => ?_) | refine TX.seq ?_ | refine TX.block ?_ | refine TX.skip ?_ | refine TX.exit ?_ | refine EX.thenN ?_ | refine EX.thenE ?_ | refine EX.blockN ?_ | refine EX.blockE ?_ | refine EX.outE ?_
      all_goals (
       refine TX.ret ?_
       repeat' first | refine EX.outR ?_ | refine EX.thenR ?_ | refine EX.blockR ?_ | refine EX.unrR ?_
       apply EX.drA (ks := [])
       case he => exact Or.inr rfl
       case hys => simp [resAs, getAs, Tryz.results86] <;> rfl
       case hv => first | (dsimp only [Av.one]; exact rfl) | dsimp only [Av.one]
       case hx => repeat' first | exact IsT2.var _ | exact IsV.tmv _ | exact IsTm.var _ | exact IsTy.row _ | exact IsTm.row _ | exact IsTys.nil | exact IsTms.nil | exact IsBds.nil | exact IsTys.map _ | exact IsTms.map _ | exact IsBds.map _ | exact IsV.int _ | exact IsV.str _ | exact IsV.bool _ | apply IsV.p2 | apply IsV.p3 | apply IsV.tm | apply IsV.ty | apply IsTm.node | apply IsTy.of | apply IsTys.cons | apply IsTms.cons | apply IsBds.cons | apply IsV.tys | apply IsV.tms | apply IsV.bds | apply IsT2.node | apply IsTys.app | apply IsTms.app | apply IsBds.app
       case hA => exact rfl
       case hks => simp
       case hV => exact rfl
       case h1 => omega
       case h2 => omega
       case hg => (try simp [nTm_mk, nTy_mk, nTyS, nTmS]) <;> omega)
end Go.Proofs.YtcmdpggdaiinpaaGreatDoor

namespace Go.Proofs.YtcmdpggdaiinpaaGreatDoor
attribute [-simp] Go.Av.MCo.kind_mk Go.Av.MCo.tag_mk Go.Av.MCo.label_mk Go.Av.MCo.kids_mk Go.Av.innVs Go.Av.putBack Go.Av.objCells Go.Av.back Go.Av.resVs Go.Av.one Go.Av.freeStepG Go.Av.exA Go.Av.innAsH Go.Av.AV.innH Go.Av.CV.innH Go.Av.innHs Go.Av.AV.outnH Go.Av.CV.outnH
open Go Go.Av
attribute [local irreducible] T ACalls TX EX LX Draws Some_ ACallsX eTy eTm MTy.kind MTy.kids MTm.kind MTm.name MTm.num MTm.ty MTm.fr MTm.label MTm.kids
attribute [local simp] eTy_def eTm_def
set_option maxHeartbeats 16000000
set_option maxRecDepth 8000

def mkN : Nat -> Nat | 0 => 0 | m + 1 => 3 * (mkN m + 1) + 3000
def mkB : Nat -> Nat | 0 => 0 | m + 1 => 3 * (mkB m + 102) + 100

theorem shapeTy_le {m n : Nat} {t : MTy} (h : m <= n) (ht : shapeTy m t = true) : shapeTy n t = true := by
 induction n with
 | zero => have : m = 0 := by omega
           subst this; exact ht
 | succ n ih =>
  by_cases e : m = n + 1
  ·subst e; exact ht
  ·exact shapeTy_mono (ih (by omega))

theorem l3Make_ok (b : List Int) (hb : okB b) : ∀ (k : Nat) (ctx : List MBd) (t : MTy) (d : Int) (p : Nat), ctx.length + k <= 900 -> (∀ u ∈ ctx, u.name.length <= 10 /\ nTy u.ty <= 1000) -> -900 + (k : Int) <= d -> d <= 900 ->
  ((d <= 1 /\ k <= 4 /\ shapeTy k t = true) \/ (shapeTy 4 t = true /\ d <= (k : Int) - 3 /\ 4 <= k)) -> p + mkN k <= 1099511627776 -> Draws Tryz.prog 86 [aBds ctx, aTy t, .i d] b p (mkN k) (RV aTm noA fun e => nTm e <= mkB k) := by
 intro k
 induction k with
 | zero =>
  intro ctx t d p _ _ _ _ h _
  rcases h with ⟨_, _, h⟩ | ⟨_, _, h⟩
  ·simp [shapeTy] at h
  ·omega
 | succ k ih =>
  intro ctx t d p hl hct hd hd' h hp
  have hts : shapeTy 4 t = true := by
   rcases h with ⟨_, h1, h2⟩ | ⟨h, _, _⟩
   ·exact shapeTy_le (by omega) h2
   ·exact h
  have hN : mkN (k + 1) = 3 * (mkN k + 1) + 3000 := rfl
  have hB : mkB (k + 1) = 3 * (mkB k + 102) + 100 := rfl
  rw [hN] at hp ⊢
  rw [hB]
  have hlam : ∀ (s u : MTy), shapeTy 4 s = true -> ((d - 1 <= 1 /\ k <= 4 /\ shapeTy k u = true) \/ (shapeTy 4 u = true /\ d - 1 <= (k : Int) - 3 /\ 4 <= k)) -> ∀ p, p + (mkN k + 1) <= 1099511627776 -> Draws Tryz.prog 122 [aBds ctx, aTy s, aTy u, .i (d - 1)] b p (mkN k + 1) (RV aTm noA fun e => nTm e <= mkB k + 102) := by
   intro s u hs hu p hp
   have hs4 := shape4 hs
   refine l3Lam_of b hb ctx s u (by omega) (by omega) (d - 1) (by omega) (by omega) (mkN k) (mkB k) p (by omega) fun c q hq => ?_
   have := ih (ctx ++ [⟨[c], s⟩]) u (d - 1) q (by simp; omega) (by
    intro v hv
    rcases List.mem_append.1 hv with hv | hv
    ·exact hct v hv
    ·simp at hv; subst hv; exact ⟨by simp, by show nTy s <= 1000; omega⟩) (by omega) (by omega) hu hq
   rw [aBds, List.map_append] at this
   exact this
  have hkid : ∀ u ∈ t.kids, (d - 1 <= 1 /\ k <= 4 /\ shapeTy k u = true) \/ (shapeTy 4 u = true /\ d - 1 <= (k : Int) - 3 /\ 4 <= k) := by
   intro u hu
   rcases h with ⟨h1, h2, h3⟩ | ⟨h1, h2, h3⟩
   ·obtain ⟨e, he, _, _, hs⟩ := shapeTy_kids h3
    obtain rfl : k = e := by omega
    exact .inl ⟨by omega, by omega, hs u hu⟩
   ·obtain ⟨e, he, _, _, hs⟩ := shapeTy_kids h1
    obtain rfl : e = 3 := by omega
    by_cases hk : k = 3
    ·subst hk; exact .inl ⟨by omega, by omega, hs u hu⟩
    ·exact .inr ⟨shapeTy_le (by omega) (hs u hu), by omega, by omega⟩
  have hk4 : ∀ u ∈ t.kids, shapeTy 4 u = true := by
   intro u hu
   obtain ⟨e, he, _, _, hs⟩ := shapeTy_kids hts
   exact shapeTy_le (by omega) (hs u hu)
  refine (l3Make_core b hb ctx (by omega) hct t hts d (by omega) (by omega) (mkN k + 1) (mkB k + 102) p (by omega) ?_ ?_ ?_ ?_).mono (by omega) (fun _ h => h)
  ·intro h1d t' ht' q hq
   have hk3 : 4 <= k := by
    rcases h with ⟨h1, _, _⟩ | ⟨_, h2, h3⟩
    ·omega
    ·omega
   refine (ih ctx t' (d - 1) q (by omega) hct (by omega) (by omega) (.inr ⟨ht', ?_, hk3⟩) (by omega)).mono (by omega) (fun e h => by omega)
   rcases h with ⟨h1, _, _⟩ | ⟨_, h2, _⟩ <;> omega
  ·intro h1d s t' hs ht' q hq
   have hk3 : 4 <= k := by
    rcases h with ⟨h1, _, _⟩ | ⟨_, h2, h3⟩
    ·omega
    ·omega
   refine hlam s t' hs (.inr ⟨ht', ?_, hk3⟩) q hq
   rcases h with ⟨h1, _, _⟩ | ⟨_, h2, _⟩ <;> omega
  ·intro u hu q hq
   exact (ih ctx u (d - 1) q (by omega) hct (by omega) (by omega) (hkid u hu) (by omega)).mono (by omega) (fun e h => by omega)
  ·intro u hu v hv q hq
   exact hlam u v (hk4 u hu) (hkid v hv) q hq

theorem l3Make5_ok (b : List Int) (hb : okB b) (ctx : List MBd) (hl : ctx.length <= 100) (hct : ∀ u ∈ ctx, u.name.length <= 10 /\ nTy u.ty <= 1000) (t : MTy) (ht : shapeTy 4 t = true) (d : Int) (hd : 1 <= d) (hd' : d <= 5) (p : Nat) (hp : p + 9849840 <= 1099511627776) :
  Draws Tryz.prog 86 [aBds ctx, aTy t, .i d] b p 9849840 (RV aTm noA fun e => nTm e <= 2000000) :=
 (l3Make_ok b hb 8 ctx t d p (by omega) hct (by omega) (by omega) (.inr ⟨ht, by omega, by omega⟩) hp).mono (by decide) (fun e h => Nat.le_trans h (by decide))

theorem l3Typed_ok (b : List Int) (hb : okB b) (p : Nat) (hp : p + 60000000 <= 1099511627776) : Draws Tryz.prog 51 [] b p 60000000 (RV aTm noA fun e => nTm e <= 2000000) := by
 obtain ⟨N, hN⟩ : ∃ N : Nat, N = 9900000 := ⟨_, rfl⟩
 have hN4 : N * 4 = 39600000 := by rw [hN]
 refine Draws.of_body Tryz.func51 (by kernel_rfl) rfl (by kernel_rfl) (by simp [Tryz.ntmps51]) ?_
 rw [Tryz.ntmps51]
 repeat' first | (refine aops_end (hK _ ?_); clear hK K) | (refine aops_go ?_; simp; (try simp (disch := omega) only [wrap64]); (try (refine gen2 ?_ ?_ <;> intro hq <;> try simp at hq))) | refine TX.rs (fun _ => false) fun K hK => ?_ | refine TX.seq ?_ | refine TX.block ?_
 refine TX.loopF (fun x : Nat × Nat × List (List CV) => ⟨[(0, .c (.ptr 0 0)), (2, .c (.ptr 1 0)), (3, .i x.1)], (rd b x.2.1).map CV.d :: [.d (.i 0), .d (.str []), .d (.i 0), .d (.i 0), .nil, .d (.i 0), .nil, .d (.i 0), .nil] :: x.2.2, []⟩) (fun x => 4 - x.1) (fun x => x.1 <= 4 /\ p <= x.2.1 /\ x.2.1 <= p + N * x.1) (fun x hx => ?_) (0, p, []) (by simp) (by simp)
 obtain ⟨j, q1, G⟩ := x
 obtain ⟨hj, hq1, hq2⟩ := hx
 dsimp only at hj hq1 hq2 ⊢
 have hNj : N * j <= 39600000 := by have := Nat.mul_le_mul_left N hj; omega
 have hNs : N * (j + 1) = N * j + N := Nat.mul_succ N j
 generalize N * j = M at hNj hNs hq2
 generalize hM2 : N * (j + 1) = M2 at hNs
 clear hN4
 by_cases hlt : j < 4
 ·have h1 : (j : Int) < 4 := by omega
  repeat' first | (refine aops_end (hK _ ?_); clear hK K) | (refine aops_go ?_; simp [h1]; (try simp (disch := omega) only [wrap64]); (try (refine gen2 ?_ ?_ <;> intro hq <;> try simp [h1] at hq))) | ((first | (refine wpcall_dr 0 rfl rfl (num_ok b hb _ (by omega) [1, 2, 2, 3] (by simp) (by simp)) (fun y p1 hy hp1 hp1' => ?_); simp at hy) | refine wpcall_dr 0 rfl rfl (l1DrawT_ok b hb _ (by omega) _ (by omega)) (fun t p1 ht hp1 hp1' => ?_) | (refine wpcall_dr 0 rfl rfl (num_ok b hb _ (by omega) [4, 3, 5, 4] (by simp) (by simp)) (fun z p1 hz hp1 hp1' => ?_); simp at hz) | refine wpcall_dr 0 rfl rfl (l3Make5_ok b hb [] (by simp) (by simp) _ (by assumption) _ (by omega) (by omega) _ (by omega)) (fun e p1 he hp1 hp1' => ?_)); simp) | (refine wpcall_pure rfl (TypeOfS_ok _ (by omega)) ?_; cases typeInM [] e <;> simp) | (refine EX.next (j + 1, p1, G ++ [(aTm e).cells, [.d (.i 0), .d (.sl [])]]) (by dsimp only; omega) ?_ ⟨by simp, rfl, ?_⟩; (exact ⟨by show j + 1 <= 4; omega, by show p <= p1; omega, by show p1 <= p + N * (j + 1); rw [hM2]; omega⟩); simp (disch := omega) [wrap64]) | refine TX.rs (fun _ => false) fun K hK => ?_ | refine TX.rs1 (fun _ => false) fun K hK => ?_ | refine TX.cond rfl (fun hcnd => ?_) (fun hcnd => absurd hcnd (by decide)) | refine TX.cond rfl (fun hcnd => absurd hcnd (by decide)) (fun hcnd => ?_) | refine TX.seq ?_ | refine TX.block ?_ | refine TX.skip ?_ | refine EX.thenN ?_ | refine EX.blockN ?_
  all_goals (
   refine TX.ret ?_
   repeat' first | refine EX.outR ?_ | refine EX.thenR ?_ | refine EX.blockR ?_ | refine EX.unrR ?_
   apply EX.drA (ks := [])
   case he => exact Or.inr rfl
   case hys => simp [resAs, getAs, Tryz.results51] <;> rfl
   case hv => first | (dsimp only [Av.one]; exact rfl) | dsimp only [Av.one]
   case hx => repeat' first | exact IsT2.var _ | exact IsV.tmv _ | exact IsTm.var _ | exact IsTy.row _ | exact IsTm.row _ | exact IsTys.nil | exact IsTms.nil | exact IsBds.nil | exact IsTys.map _ | exact IsTms.map _ | exact IsBds.map _ | exact IsV.int _ | exact IsV.str _ | exact IsV.bool _ | apply IsV.p2 | apply IsV.p3 | apply IsV.tm | apply IsV.ty | apply IsTm.node | apply IsTy.of | apply IsTys.cons | apply IsTms.cons | apply IsBds.cons | apply IsV.tys | apply IsV.tms | apply IsV.bds | apply IsT2.node | apply IsTys.app | apply IsTms.app | apply IsBds.app
   case hA => exact rfl
   case hks => simp
   case hV => exact rfl
   case h1 => omega
   case h2 => omega
   case hg => omega)
 ·have h1 : ¬ (j : Int) < 4 := by omega
  repeat' first | (refine aops_end (hK _ ?_); clear hK K) | (refine aops_go ?_; simp [h1]; (try simp (disch := omega) only [wrap64]); (try (refine gen2 ?_ ?_ <;> intro hq <;> try simp [h1] at hq))) | (refine wpcall_dr 0 rfl rfl (l2Closed_ok b hb _ (by omega)) (fun x1 p1 hx1 hp1 hp1' => ?_); simp [h1]; (try simp (disch := omega) only [wrap64]); (try (refine gen2 ?_ ?_ <;> intro hq <;> try simp [h1] at hq))) | refine TX.rs (fun _ => false) fun K hK => ?_ | refine TX.cond rfl (fun hcnd => absurd hcnd (by decide)) (fun hcnd => ?_) | refine TX.seq ?_ | refine TX.exit ?_ | refine EX.thenN ?_ | refine EX.thenE ?_ | refine EX.blockE ?_ | refine EX.outE ?_
  all_goals (
   refine TX.ret ?_
   repeat' first | refine EX.outR ?_ | refine EX.thenR ?_ | refine EX.blockR ?_ | refine EX.unrR ?_
   apply EX.drA (ks := [])
   case he => exact Or.inr rfl
   case hys => simp [resAs, getAs, Tryz.results51] <;> rfl
   case hv => first | (dsimp only [Av.one]; exact rfl) | dsimp only [Av.one]
   case hx => repeat' first | exact IsT2.var _ | exact IsV.tmv _ | exact IsTm.var _ | exact IsTy.row _ | exact IsTm.row _ | exact IsTys.nil | exact IsTms.nil | exact IsBds.nil | exact IsTys.map _ | exact IsTms.map _ | exact IsBds.map _ | exact IsV.int _ | exact IsV.str _ | exact IsV.bool _ | apply IsV.p2 | apply IsV.p3 | apply IsV.tm | apply IsV.ty | apply IsTm.node | apply IsTy.of | apply IsTys.cons | apply IsTms.cons | apply IsBds.cons | apply IsV.tys | apply IsV.tms | apply IsV.bds | apply IsT2.node | apply IsTys.app | apply IsTms.app | apply IsBds.app
   case hA => exact rfl
   case hks => simp
   case hV => exact rfl
   case h1 => omega
   case h2 => omega
   case hg => omega)
end Go.Proofs.YtcmdpggdaiinpaaGreatDoor
