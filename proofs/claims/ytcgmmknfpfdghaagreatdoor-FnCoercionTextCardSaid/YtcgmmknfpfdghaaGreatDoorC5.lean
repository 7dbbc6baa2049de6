/- A part of the library of this seat. -/
import Derived.Test.YtcgmmknfpfdghaaGreatDoorC4
import Derived.Test.YtcgmmknfpfdghaaGreatDoorChecked
set_option linter.unusedVariables false
set_option linter.unusedSimpArgs false
namespace Go.Proofs.YtcgmmknfpfdghaaGreatDoor
attribute [-simp] Go.Av.get_app_len Go.Av.get_app_len0 Go.Av.set_app_len Go.Av.set_app_len0 Go.Av.freeStep Go.Av.exV Go.Av.keepL Go.Av.ups Go.Av.take_app_len Go.Av.MCo.kind_mk Go.Av.MCo.tag_mk Go.Av.MCo.label_mk Go.Av.MCo.kids_mk Go.Av.innVs Go.Av.putBack Go.Av.objCells Go.Av.back Go.Av.resVs Go.Av.one Go.Av.freeStepG Go.Av.exA Go.Av.innAsH Go.Av.AV.innH Go.Av.CV.innH Go.Av.innHs Go.Av.AV.outnH Go.Av.CV.outnH Go.Av.astepJ Go.Av.relC Go.Av.relL Go.Av.relV Go.Av.relVs Go.Av.callJ
open Go Go.Av
attribute [local irreducible] T
attribute [local simp] eTy_def eTm_def

@[simp] theorem td_int : td Tryz.prog 3 = some { ag := false, sz := 1, by_ := 8, zero := some [.d (.int .i64 0)], el := none, ar := none, fl := [], ik := some .i64, isS := false, isB := false } := keep (by kernel_rfl)
@[simp] theorem td_bool : td Tryz.prog 4 = some { ag := false, sz := 1, by_ := 1, zero := some [.d (.bool false)], el := none, ar := none, fl := [], ik := none, isS := false, isB := true } := keep (by kernel_rfl)
@[simp] theorem td_string : td Tryz.prog 9 = some { ag := false, sz := 1, by_ := 16, zero := some [.d (.str [])], el := none, ar := none, fl := [], ik := none, isS := true, isB := false } := keep (by kernel_rfl)
@[simp] theorem td_implTypeS : td Tryz.prog 76 = some { ag := false, sz := 1, by_ := 24, zero := some [.nil], el := some 78, ar := none, fl := [], ik := none, isS := false, isB := false } := keep (by kernel_rfl)
@[simp] theorem td_implType : td Tryz.prog 78 = some { ag := true, sz := 2, by_ := 32, zero := some [.d (.int .i64 0), .nil], el := none, ar := none, fl := [(0, 1), (1, 1)], ik := none, isS := false, isB := false } := keep (by kernel_rfl)
@[simp] theorem td_implTermS : td Tryz.prog 79 = some { ag := false, sz := 1, by_ := 24, zero := some [.nil], el := some 81, ar := none, fl := [], ik := none, isS := false, isB := false } := keep (by kernel_rfl)
@[simp] theorem td_implTerm : td Tryz.prog 81 = some { ag := true, sz := 9, by_ := 128, zero := some [.d (.int .i64 0), .d (.str []), .d (.int .i64 0), .d (.int .i64 0), .nil, .d (.int .i64 0), .nil, .d (.int .i64 0), .nil], el := none, ar := none, fl := [(0, 1), (1, 1), (2, 1), (3, 2), (5, 2), (7, 1), (8, 1)], ik := none, isS := false, isB := false } := keep (by kernel_rfl)
theorem mixed : Tryz.prog.follows .mixedOrders = true := by kernel_rfl

end Go.Proofs.YtcgmmknfpfdghaaGreatDoor

namespace Go.Proofs.YtcgmmknfpfdghaaGreatDoor
attribute [-simp] Go.Av.get_app_len Go.Av.get_app_len0 Go.Av.set_app_len Go.Av.set_app_len0 Go.Av.freeStep Go.Av.exV Go.Av.keepL Go.Av.ups Go.Av.take_app_len Go.Av.MCo.kind_mk Go.Av.MCo.tag_mk Go.Av.MCo.label_mk Go.Av.MCo.kids_mk Go.Av.innVs Go.Av.putBack Go.Av.objCells Go.Av.back Go.Av.resVs Go.Av.one Go.Av.freeStepG Go.Av.exA Go.Av.innAsH Go.Av.AV.innH Go.Av.CV.innH Go.Av.innHs Go.Av.AV.outnH Go.Av.CV.outnH Go.Av.astepJ Go.Av.relC Go.Av.relL Go.Av.relV Go.Av.relVs Go.Av.callJ
open Go Go.Av
attribute [local irreducible] T
attribute [local simp] eTy_def eTm_def

end Go.Proofs.YtcgmmknfpfdghaaGreatDoor

namespace Go.Proofs.YtcgmmknfpfdghaaGreatDoor
attribute [-simp] Go.Av.get_app_len Go.Av.get_app_len0 Go.Av.set_app_len Go.Av.set_app_len0 Go.Av.freeStep Go.Av.exV Go.Av.keepL Go.Av.ups Go.Av.take_app_len Go.Av.MCo.kind_mk Go.Av.MCo.tag_mk Go.Av.MCo.label_mk Go.Av.MCo.kids_mk Go.Av.innVs Go.Av.putBack Go.Av.objCells Go.Av.back Go.Av.resVs Go.Av.one Go.Av.freeStepG Go.Av.exA Go.Av.innAsH Go.Av.AV.innH Go.Av.CV.innH Go.Av.innHs Go.Av.AV.outnH Go.Av.CV.outnH Go.Av.astepJ Go.Av.relC Go.Av.relL Go.Av.relV Go.Av.relVs Go.Av.callJ
open Go Go.Av
attribute [local irreducible] T
attribute [local simp] eTy_def eTm_def

end Go.Proofs.YtcgmmknfpfdghaaGreatDoor

namespace Go.Proofs.YtcgmmknfpfdghaaGreatDoor
attribute [-simp] Go.Av.freeStep Go.Av.exV Go.Av.keepL Go.Av.ups Go.Av.take_app_len Go.Av.MCo.kind_mk Go.Av.MCo.tag_mk Go.Av.MCo.label_mk Go.Av.MCo.kids_mk Go.Av.innVs Go.Av.putBack Go.Av.objCells Go.Av.back Go.Av.resVs Go.Av.one Go.Av.freeStepG Go.Av.exA Go.Av.innAsH Go.Av.AV.innH Go.Av.CV.innH Go.Av.innHs Go.Av.AV.outnH Go.Av.CV.outnH Go.Av.astepJ Go.Av.relC Go.Av.relL Go.Av.relV Go.Av.relVs Go.Av.callJ
open Go Go.Av
attribute [local irreducible] T
attribute [local simp] eTy_def eTm_def

theorem inM_ok (x lo hi : Int) : ACalls Tryz.prog 34 [.i x, .i lo, .i hi] [] (.b (inM x lo hi)) [] [] := by
 refine ACalls.of_body Tryz.func34 (by kernel_rfl) rfl (by kernel_rfl) (by simp [Tryz.ntmps34]) (by simp) ?_
 rw [Tryz.ntmps34]
 repeat' first | (refine aops_end (hK _ ?_); clear hK K) | (refine aops_go ?_; simp; (try (refine gen fun q hq => ?_; cases q <;> (try simp at hq)))) | refine T.r0 fun K hK => ?_ | refine T.r1 fun K hK => ?_ | refine T.cond rfl (fun hc => ?_) (fun hc => absurd hc (by decide)) | refine T.cond rfl (fun hc => absurd hc (by decide)) (fun hc => ?_) | refine T.seq ?_ | refine T.block ?_ | refine T.skip ?_ | refine T.exit ?_
 all_goals (refine T.ret (Done.data (Or.inr rfl) ?_ ?_) <;> simp [Tryz.results34, inM, *] <;> omega)

theorem isLabel_ok (n : Int) : ACalls Tryz.prog 75 [.i n] [] (.b (labM n)) [] [] := by
 refine ACalls.of_body Tryz.func75 (by kernel_rfl) rfl (by kernel_rfl) (by simp [Tryz.ntmps75]) (by simp) ?_
 rw [Tryz.ntmps75]
 repeat' first | (refine T.rs (fun _ => false) fun K hK => ?_; (repeat (refine aops_go ?_; simp)); refine aops_end (hK _ ?_); clear hK K) | (refine T.rs1 (fun _ => false) fun K hK => ?_; (repeat (refine aops_go ?_; simp)); refine aops_end (hK _ ?_); clear hK K) | refine T.cond rfl (fun hc => ?_) (fun hc => absurd hc (by decide)) | refine T.cond rfl (fun hc => absurd hc (by decide)) (fun hc => ?_) | refine T.seq ?_ | refine T.block ?_ | refine T.skip ?_ | refine T.exit ?_
 refine T.rs1 (fun _ => false) fun K hK => ?_
 repeat (refine aops_go ?_; simp)
 refine wpcall_pure (by simp) (inM_ok n 1 99) ?_
 simp
 refine Ops.gen fun q hq => ?_
 cases q
 ·repeat (refine aops_go ?_; simp)
  refine wpcall_pure (by simp) (inM_ok n (-99) (-1)) ?_
  simp
  repeat' first | (refine aops_end (hK _ ?_); clear hK K) | (refine aops_go ?_; simp; (try (refine gen fun q hq => ?_; cases q <;> (try simp at hq)))) | refine T.r0 fun K hK => ?_ | refine T.r1 fun K hK => ?_ | refine T.cond rfl (fun hc => ?_) (fun hc => absurd hc (by decide)) | refine T.cond rfl (fun hc => absurd hc (by decide)) (fun hc => ?_) | refine T.seq ?_ | refine T.block ?_ | refine T.skip ?_ | refine T.exit ?_
  all_goals (refine T.ret (Done.data (Or.inr rfl) ?_ ?_) <;> simp [Tryz.results75, labM, *])
 ·repeat' first | (refine aops_end (hK _ ?_); clear hK K) | (refine aops_go ?_; simp; (try (refine gen fun q hq => ?_; cases q <;> (try simp at hq)))) | refine T.r0 fun K hK => ?_ | refine T.r1 fun K hK => ?_ | refine T.cond rfl (fun hc => ?_) (fun hc => absurd hc (by decide)) | refine T.cond rfl (fun hc => absurd hc (by decide)) (fun hc => ?_) | refine T.seq ?_ | refine T.block ?_ | refine T.skip ?_ | refine T.exit ?_
  all_goals (refine T.ret (Done.data (Or.inr rfl) ?_ ?_) <;> simp [Tryz.results75, labM, *])

@[simp] theorem td_intS : td Tryz.prog 86 = some { ag := false, sz := 1, by_ := 24, zero := some [.nil], el := some 3, ar := none, fl := [], ik := none, isS := false, isB := false } := keep (by kernel_rfl)

end Go.Proofs.YtcgmmknfpfdghaaGreatDoor

namespace Go.Proofs.YtcgmmknfpfdghaaGreatDoor
attribute [-simp] Go.Av.freeStep Go.Av.exV Go.Av.keepL Go.Av.ups Go.Av.take_app_len Go.Av.MCo.kind_mk Go.Av.MCo.tag_mk Go.Av.MCo.label_mk Go.Av.MCo.kids_mk Go.Av.innVs Go.Av.putBack Go.Av.objCells Go.Av.back Go.Av.resVs Go.Av.one Go.Av.freeStepG Go.Av.exA Go.Av.innAsH Go.Av.AV.innH Go.Av.CV.innH Go.Av.innHs Go.Av.AV.outnH Go.Av.CV.outnH Go.Av.astepJ Go.Av.relC Go.Av.relL Go.Av.relV Go.Av.relVs Go.Av.callJ
open Go Go.Av
attribute [local irreducible] T ACalls eTy eTm MTy.kind MTy.kids MTm.kind MTm.name MTm.num MTm.ty MTm.fr MTm.label MTm.kids
attribute [local simp] eTy_def eTm_def
set_option maxHeartbeats 4000000

theorem l1Kids_ok (k : Int) : ACalls Tryz.prog 125 [.i k] [] (.i (tyKids k)) [] [] := by
 refine ACalls.of_body Tryz.func125 (by kernel_rfl) rfl (by kernel_rfl) (by simp [Tryz.ntmps125]) (by simp) ?_
 rw [Tryz.ntmps125]
 repeat' first | (refine aops_end (hK _ ?_); clear hK K) | (refine aops_go ?_; simp; (try (refine gen2 ?_ ?_ <;> intro hq <;> try simp at hq))) | (refine T.ret (Done.data (Or.inr rfl) ?_ ?_) <;> simp [Tryz.results125, tyKids, *] <;> omega) | refine T.r0 fun K hK => ?_ | refine T.r1 fun K hK => ?_ | refine T.ct rfl ?_ | refine T.cf rfl ?_ | refine T.seq ?_ | refine T.block ?_ | refine T.skip ?_

theorem l1Shape_ok : ∀ (d : Nat) (t : MTy), d <= 1000 -> nTy t <= 1099511627776 -> ACalls Tryz.prog 149 [aTy t, .i d] [] (.b (shapeTy d t)) [] []
 | 0, t, _, _ => by
  refine ACalls.of_body Tryz.func149 (by kernel_rfl) rfl (by kernel_rfl) (by simp [Tryz.ntmps149]) (by simp) ?_
  rw [Tryz.ntmps149]
  repeat' first | ((first | refine aops_end (hK _ ?_) | refine aopsD_end (hK _ ?_)); clear hK K) | ((first | refine aops_go ?_ | refine aopsD_go ?_); simp; (try (refine gen2 ?_ ?_ <;> intro hq <;> (try simp at hq) <;> try (have : True := hq; clear this hq)))) | (refine T.ret (Done.data (Or.inr rfl) ?_ ?_) <;> simp [Tryz.results149, shapeTy] <;> omega) | refine T.r0 fun K hK => ?_ | refine T.rd mixed (fun _ => false) [] (by kernel_rfl) fun K hK => ?_ | refine T.ct rfl ?_ | refine T.seq ?_
 | d + 1, t, hd, hn => by
  rw [nTy_def] at hn
  have hlen := nTyS_len t.kids
  have hd1 : ¬ ((d : Int) + 1 < 1) := by omega
  refine ACalls.of_body Tryz.func149 (by kernel_rfl) rfl (by kernel_rfl) (by simp [Tryz.ntmps149]) (by simp) ?_
  rw [Tryz.ntmps149]
  repeat' first | ((first | refine aops_end (hK _ ?_) | refine aopsD_end (hK _ ?_)); clear hK K) | ((first | (first | refine aops_go ?_ | refine aopsD_go ?_) | refine wpcall_pure rfl (l1Kids_ok _) ?_); simp [hd1]; (try (refine gen2 ?_ ?_ <;> intro hq <;> (try simp [hd1] at hq) <;> try (have : True := hq; clear this hq)))) | (refine T.ret (Done.data (Or.inr rfl) ?_ ?_) <;> simp [Tryz.results149, shapeTy, *] <;> omega) | refine T.r0 fun K hK => ?_ | refine T.rd mixed (fun _ => false) [] (by kernel_rfl) fun K hK => ?_ | refine T.ct rfl ?_ | refine T.cf rfl ?_ | refine T.seq ?_ | refine T.block ?_ | refine T.skip ?_
  obtain ⟨R, hR⟩ : ∃ R, t.kids.all (shapeTy d) = R := ⟨_, rfl⟩
  rw [show shapeTy (d + 1) t = R by simp [shapeTy, hq, hR]]
  refine T.loopF (fun p : Nat => ⟨[(1, .i (d + 1)), (2, .c (.ptr 0 0)), (5, .i p)], [(aTy t).cells], []⟩) (fun p => t.kids.length + 1 - p) (fun p => p <= t.kids.length /\ (t.kids.drop p).all (shapeTy d) = R) (fun p hp => ?_) 0 (by simpa using hR) (by simp)
  obtain ⟨hi, he⟩ := hp
  by_cases hlt : p < t.kids.length
  ·obtain ⟨u, ht⟩ := get_lt hlt
   have htm : u ∈ t.kids := List.mem_of_getElem? ht
   have hgt : t.kids[p] = u := by rw [List.getElem?_eq_getElem hlt] at ht; exact Option.some.inj ht
   have hdr : t.kids.drop p = u :: t.kids.drop (p + 1) := by rw [List.drop_eq_getElem_cons hlt, hgt]
   have hu := l1Shape_ok d u (by omega) (by have := nTyS_mem htm; omega)
   rw [hdr, List.all_cons] at he
   cases hb : shapeTy d u <;> rw [hb] at hu he
   ·repeat' first | (refine aops_end (hK _ ?_); clear hK K) | (refine aops_go ?_; simp [hlt, hgt]; (try simp (disch := omega) only [wrap64]); (try (refine gen2 ?_ ?_ <;> intro hq <;> (try simp [hlt, hgt] at hq) <;> try (have : True := hq; clear this hq)))) | (refine wpcall_pure rfl (hu) ?_; simp [hlt, hgt]; (try simp (disch := omega) only [wrap64]); (try (refine gen2 ?_ ?_ <;> intro hq <;> (try simp [hlt, hgt] at hq) <;> try (have : True := hq; clear this hq)))) | (refine T.ret (Done.data (Or.inr rfl) ?_ ?_) <;> simp [Tryz.results149, <- he] <;> omega) | refine T.r0 fun K hK => ?_ | refine T.ct rfl ?_ | refine T.seq ?_ | refine T.block ?_ | refine T.skip ?_
   ·repeat' first | (refine aops_end (hK _ ?_); clear hK K) | (refine aops_go ?_; simp [hlt, hgt]; (try simp (disch := omega) only [wrap64]); (try (refine gen2 ?_ ?_ <;> intro hq <;> (try simp [hlt, hgt] at hq) <;> try (have : True := hq; clear this hq)))) | (refine wpcall_pure rfl (hu) ?_; simp [hlt, hgt]; (try simp (disch := omega) only [wrap64]); (try (refine gen2 ?_ ?_ <;> intro hq <;> (try simp [hlt, hgt] at hq) <;> try (have : True := hq; clear this hq)))) | (refine ⟨p + 1, by dsimp only; omega, ⟨by omega, by simpa using he⟩, ?_⟩; simp (disch := omega) [wrap64]) | refine T.r0 fun K hK => ?_ | refine T.r1 fun K hK => ?_ | refine T.ct rfl ?_ | refine T.cf rfl ?_ | refine T.seq ?_ | refine T.block ?_ | refine T.skip ?_
  ·have hp' : p = t.kids.length := by omega
   subst hp'
   simp at he
   repeat' first | (refine aops_end (hK _ ?_); clear hK K) | (refine aops_go ?_; simp [hlt]; (try (refine gen2 ?_ ?_ <;> intro hq <;> (try simp [hlt] at hq) <;> try (have : True := hq; clear this hq)))) | (refine T.ret (Done.data (Or.inr rfl) ?_ ?_) <;> simp [Tryz.results149, he] <;> omega) | refine T.r0 fun K hK => ?_ | refine T.cf rfl ?_ | refine T.seq ?_ | refine T.exit ?_
end Go.Proofs.YtcgmmknfpfdghaaGreatDoor

namespace Go.Proofs.YtcgmmknfpfdghaaGreatDoor
attribute [-simp] Go.Av.freeStep Go.Av.exV Go.Av.keepL Go.Av.ups Go.Av.take_app_len Go.Av.MCo.kind_mk Go.Av.MCo.tag_mk Go.Av.MCo.label_mk Go.Av.MCo.kids_mk Go.Av.innVs Go.Av.putBack Go.Av.objCells Go.Av.back Go.Av.resVs Go.Av.one Go.Av.freeStepG Go.Av.exA Go.Av.innAsH Go.Av.AV.innH Go.Av.CV.innH Go.Av.innHs Go.Av.AV.outnH Go.Av.CV.outnH Go.Av.astepJ Go.Av.relC Go.Av.relL Go.Av.relV Go.Av.relVs Go.Av.callJ
open Go Go.Av
attribute [local irreducible] T ACalls eTy eTm MTy.kind MTy.kids MTm.kind MTm.name MTm.num MTm.ty MTm.fr MTm.label MTm.kids
attribute [local simp] eTy_def eTm_def
set_option maxHeartbeats 4000000

end Go.Proofs.YtcgmmknfpfdghaaGreatDoor

namespace Go.Proofs.YtcgmmknfpfdghaaGreatDoor
attribute [-simp] Go.Av.freeStep Go.Av.exV Go.Av.keepL Go.Av.ups Go.Av.take_app_len Go.Av.MCo.kind_mk Go.Av.MCo.tag_mk Go.Av.MCo.label_mk Go.Av.MCo.kids_mk Go.Av.innVs Go.Av.putBack Go.Av.objCells Go.Av.back Go.Av.resVs Go.Av.one Go.Av.freeStepG Go.Av.exA Go.Av.innAsH Go.Av.AV.innH Go.Av.CV.innH Go.Av.innHs Go.Av.AV.outnH Go.Av.CV.outnH Go.Av.astepJ Go.Av.relC Go.Av.relL Go.Av.relV Go.Av.relVs Go.Av.callJ
open Go Go.Av
attribute [local irreducible] T ACalls eTy eTm MTy.kind MTy.kids MTm.kind MTm.name MTm.num MTm.ty MTm.fr MTm.label MTm.kids
attribute [local simp] eTy_def eTm_def
set_option maxHeartbeats 4000000

end Go.Proofs.YtcgmmknfpfdghaaGreatDoor

namespace Go.Proofs.YtcgmmknfpfdghaaGreatDoor
attribute [-simp] Go.Av.freeStep Go.Av.exV Go.Av.keepL Go.Av.ups Go.Av.take_app_len Go.Av.MCo.kind_mk Go.Av.MCo.tag_mk Go.Av.MCo.label_mk Go.Av.MCo.kids_mk Go.Av.innVs Go.Av.putBack Go.Av.objCells Go.Av.back Go.Av.resVs Go.Av.one Go.Av.freeStepG Go.Av.exA Go.Av.innAsH Go.Av.AV.innH Go.Av.CV.innH Go.Av.innHs Go.Av.AV.outnH Go.Av.CV.outnH Go.Av.astepJ Go.Av.relC Go.Av.relL Go.Av.relV Go.Av.relVs Go.Av.callJ
open Go Go.Av
attribute [local irreducible] T ACalls eTy eTm MTy.kind MTy.kids MTm.kind MTm.name MTm.num MTm.ty MTm.fr MTm.label MTm.kids
attribute [local simp] eTy_def eTm_def
set_option maxHeartbeats 4000000

theorem TypeValidS_ok (t : MTy) (hn : nTy t <= 1099511627776) : ACalls Tryz.prog 116 [aTy t] [] (.b (shapeTy 4 t)) [] [] := by
 refine ACalls.of_body Tryz.func116 (by kernel_rfl) rfl (by kernel_rfl) (by simp [Tryz.ntmps116]) (by simp) ?_
 rw [Tryz.ntmps116]
 repeat' first | (refine aops_end (hK _ ?_); clear hK K) | ((first | refine aops_go ?_ | refine wpcall_pure rfl (l1Shape_ok 4 t (by omega) hn) ?_); simp) | (refine T.ret (Done.data (Or.inr rfl) ?_ ?_) <;> simp [Tryz.results116] <;> omega) | refine T.r0 fun K hK => ?_

end Go.Proofs.YtcgmmknfpfdghaaGreatDoor

namespace Go.Proofs.YtcgmmknfpfdghaaGreatDoor
attribute [-simp] Go.Av.freeStep Go.Av.exV Go.Av.keepL Go.Av.ups Go.Av.take_app_len Go.Av.MCo.kind_mk Go.Av.MCo.tag_mk Go.Av.MCo.label_mk Go.Av.MCo.kids_mk Go.Av.innVs Go.Av.putBack Go.Av.objCells Go.Av.back Go.Av.resVs Go.Av.one Go.Av.freeStepG Go.Av.exA Go.Av.innAsH Go.Av.AV.innH Go.Av.CV.innH Go.Av.innHs Go.Av.AV.outnH Go.Av.CV.outnH Go.Av.astepJ Go.Av.relC Go.Av.relL Go.Av.relV Go.Av.relVs Go.Av.callJ
open Go Go.Av
attribute [local irreducible] T ACalls eTy eTm MTy.kind MTy.kids MTm.kind MTm.name MTm.num MTm.ty MTm.fr MTm.label MTm.kids
attribute [local simp] eTy_def eTm_def
set_option maxHeartbeats 4000000

theorem l1Abs_ok (k : Int) : ACalls Tryz.prog 110 [.i k] [] (.i (if k < -99 \/ 99 < k then 0 else if k < 0 then -k else k)) [] [] := by
 refine ACalls.of_body Tryz.func110 (by kernel_rfl) rfl (by kernel_rfl) (by simp [Tryz.ntmps110]) (by simp) ?_
 rw [Tryz.ntmps110]
 repeat' first | (refine aops_end (hK _ ?_); clear hK K) | (refine aops_go ?_; simp; (try simp (disch := omega) only [wrap64]); (try (refine gen2 ?_ ?_ <;> intro hq <;> try simp at hq))) | (refine T.ret (Done.data (Or.inr rfl) ?_ ?_) <;> simp [Tryz.results110, *] <;> omega) | refine T.r0 fun K hK => ?_ | refine T.ct rfl ?_ | refine T.cf rfl ?_ | refine T.seq ?_ | refine T.skip ?_

end Go.Proofs.YtcgmmknfpfdghaaGreatDoor

namespace Go.Proofs.YtcgmmknfpfdghaaGreatDoor
attribute [-simp] Go.Av.freeStep Go.Av.exV Go.Av.keepL Go.Av.ups Go.Av.take_app_len Go.Av.MCo.kind_mk Go.Av.MCo.tag_mk Go.Av.MCo.label_mk Go.Av.MCo.kids_mk Go.Av.innVs Go.Av.putBack Go.Av.objCells Go.Av.back Go.Av.resVs Go.Av.one Go.Av.freeStepG Go.Av.exA Go.Av.innAsH Go.Av.AV.innH Go.Av.CV.innH Go.Av.innHs Go.Av.AV.outnH Go.Av.CV.outnH Go.Av.astepJ Go.Av.relC Go.Av.relL Go.Av.relV Go.Av.relVs Go.Av.callJ
open Go Go.Av
attribute [local irreducible] T ACalls eTy eTm MTy.kind MTy.kids MTm.kind MTm.name MTm.num MTm.ty MTm.fr MTm.label MTm.kids
attribute [local simp] eTy_def eTm_def
set_option maxHeartbeats 4000000

end Go.Proofs.YtcgmmknfpfdghaaGreatDoor

namespace Go.Proofs.YtcgmmknfpfdghaaGreatDoor
attribute [-simp] Go.Av.keepL Go.Av.ups Go.Av.take_app_len Go.Av.MCo.kind_mk Go.Av.MCo.tag_mk Go.Av.MCo.label_mk Go.Av.MCo.kids_mk Go.Av.innVs Go.Av.putBack Go.Av.objCells Go.Av.back Go.Av.resVs Go.Av.one Go.Av.freeStepG Go.Av.exA Go.Av.innAsH Go.Av.AV.innH Go.Av.CV.innH Go.Av.innHs Go.Av.AV.outnH Go.Av.CV.outnH Go.Av.astepJ Go.Av.relC Go.Av.relL Go.Av.relV Go.Av.relVs Go.Av.callJ
open Go Go.Av
attribute [local irreducible] T ACalls eTy eTm MTy.kind MTy.kids MTm.kind MTm.name MTm.num MTm.ty MTm.fr MTm.label MTm.kids
attribute [local simp] eTy_def eTm_def
set_option maxHeartbeats 4000000
attribute [local simp] Option.bind

theorem l1Any_ok : ACalls Tryz.prog 124 [] [] (aTy anyT) [] [] := by
 refine ACalls.of_body Tryz.func124 (by kernel_rfl) rfl (by kernel_rfl) (by simp [Tryz.ntmps124]) (by simp) ?_
 rw [Tryz.ntmps124]
 repeat' first | (refine aops_end (hK _ ?_); clear hK K) | (refine aops_go ?_; simp; (try (refine gen2 ?_ ?_ <;> intro hq <;> try simp at hq))) | (refine T.ret (Done.val (Or.inr rfl) ?_) <;> simp [resAs, Tryz.results124] <;> omega) | refine T.r0 fun K hK => ?_

theorem l1Copy_ok : ∀ (t : MTy), nTy t <= 1099511627776 -> ACalls Tryz.prog 118 [aTy t] [] (aTy t) [] [] := by
 intro t
 induction t using MTy.ind with
 | h t ih =>
  intro hn
  rw [nTy_def] at hn
  have hlen := nTyS_len t.kids
  refine ACalls.of_body Tryz.func118 (by kernel_rfl) rfl (by kernel_rfl) (by simp [Tryz.ntmps118]) (by simp) ?_
  rw [Tryz.ntmps118]
  repeat' first | (refine aops_end (hK _ ?_); clear hK K) | (refine aops_go ?_; simp; (try (refine gen2 ?_ ?_ <;> intro hq <;> try simp at hq))) | refine T.r0 fun K hK => ?_ | refine T.seq ?_ | refine T.block ?_
  refine T.ownifyObj 2 1 2 78 (row := [.d (.i t.kind), .nil]) (by simp) (by simp) ?_
  refine T.loopF (fun p : Nat => ⟨[(1, .c (.ptr 0 0)), (2, .c (.ptr 1 0)), (3, .c (.ptr 2 0)), (4, .i p)], [(aTy t).cells, [.d (.i 0), .nil], [.d (.i t.kind), .own 0 p]], [{ sz := 2, ety := 78, rows := (t.kids.take p).map eTy, wr := true }]⟩) (fun p => t.kids.length + 1 - p) (fun p => p <= t.kids.length) (fun p hi => ?_) 0 (by simp) (by simp)
  by_cases hlt : p < t.kids.length
  ·obtain ⟨u, ht⟩ := get_lt hlt
   have htm : u ∈ t.kids := List.mem_of_getElem? ht
   have hgt : t.kids[p] = u := by rw [List.getElem?_eq_getElem hlt] at ht; exact Option.some.inj ht
   have hdr : t.kids.drop p = u :: t.kids.drop (p + 1) := by rw [List.drop_eq_getElem_cons hlt, hgt]
   have hu := ih u htm (by have := nTyS_mem htm; omega)
   have htk : t.kids.take (p + 1) = t.kids.take p ++ [u] := by rw [List.take_add_one, ht]; rfl
   have hmin : min p t.kids.length = p := by omega
   repeat' first | ((first | refine aops_end (hK _ ?_) | refine aopsD_end (hK _ ?_)); clear hK K) | ((first | refine aops_go ?_ | refine aopsD_go ?_ | refine wpcall_pure rfl (hu) ?_); simp [hlt, hgt, hmin]; (try simp (disch := omega) only [wrap64]); (try (refine gen2 ?_ ?_ <;> intro hq <;> try simp [hlt, hgt, hmin] at hq))) | (refine ⟨by omega, by omega, ?_⟩) | (refine ⟨p + 1, by dsimp only; omega, by omega, ?_, ?_, ?_⟩ <;> simp (disch := omega) [wrap64, htk, eTy_def]) | refine T.rd1 (id := 5) mixed (fun _ => false) [9, 11] (by kernel_rfl) fun K hK => ?_ | refine T.r0 fun K hK => ?_ | refine T.r1 fun K hK => ?_ | refine T.ct rfl ?_ | refine T.seq ?_ | refine T.block ?_ | refine T.skip ?_
  ·have hp' : p = t.kids.length := by omega
   subst hp'
   repeat' first | (refine aops_end (hK _ ?_); clear hK K) | (refine aops_go ?_; simp [hlt]; (try (refine gen2 ?_ ?_ <;> intro hq <;> try simp [hlt] at hq))) | (refine T.ret (Done.val (Or.inr rfl) ?_) <;> simp [resAs, Tryz.results118, eTy_def] <;> omega) | refine T.r0 fun K hK => ?_ | refine T.cf rfl ?_ | refine T.seq ?_ | refine T.exit ?_

end Go.Proofs.YtcgmmknfpfdghaaGreatDoor

namespace Go.Proofs.YtcgmmknfpfdghaaGreatDoor
attribute [-simp] Go.Av.keepL Go.Av.ups Go.Av.take_app_len Go.Av.MCo.kind_mk Go.Av.MCo.tag_mk Go.Av.MCo.label_mk Go.Av.MCo.kids_mk Go.Av.innVs Go.Av.putBack Go.Av.objCells Go.Av.back Go.Av.resVs Go.Av.one Go.Av.freeStepG Go.Av.exA Go.Av.innAsH Go.Av.AV.innH Go.Av.CV.innH Go.Av.innHs Go.Av.AV.outnH Go.Av.CV.outnH Go.Av.astepJ Go.Av.relC Go.Av.relL Go.Av.relV Go.Av.relVs Go.Av.callJ
open Go Go.Av
attribute [local irreducible] T ACalls eTy eTm MTy.kind MTy.kids MTm.kind MTm.name MTm.num MTm.ty MTm.fr MTm.label MTm.kids
attribute [local simp] eTy_def eTm_def
set_option maxHeartbeats 4000000

@[simp] theorem td_bindS : td Tryz.prog 131 = some { ag := false, sz := 1, by_ := 24, zero := some [.nil], el := some 134, ar := none, fl := [], ik := none, isS := false, isB := false } := keep (by kernel_rfl)
@[simp] theorem td_bind : td Tryz.prog 134 = some { ag := true, sz := 3, by_ := 48, zero := some [.d (.str []), .d (.int .i64 0), .nil], el := none, ar := none, fl := [(0, 1), (1, 2)], ik := none, isS := false, isB := false } := keep (by kernel_rfl)

end Go.Proofs.YtcgmmknfpfdghaaGreatDoor

namespace Go.Proofs.YtcgmmknfpfdghaaGreatDoor
attribute [-simp] Go.Av.keepL Go.Av.ups Go.Av.take_app_len Go.Av.MCo.kind_mk Go.Av.MCo.tag_mk Go.Av.MCo.label_mk Go.Av.MCo.kids_mk Go.Av.innVs Go.Av.putBack Go.Av.objCells Go.Av.back Go.Av.resVs Go.Av.one Go.Av.freeStepG Go.Av.exA Go.Av.innAsH Go.Av.AV.innH Go.Av.CV.innH Go.Av.innHs Go.Av.AV.outnH Go.Av.CV.outnH Go.Av.astepJ Go.Av.relC Go.Av.relL Go.Av.relV Go.Av.relVs Go.Av.callJ
open Go Go.Av
attribute [local irreducible] T ACalls eTy eTm MTy.kind MTy.kids MTm.kind MTm.name MTm.num MTm.ty MTm.fr MTm.label MTm.kids
attribute [local simp] eTy_def eTm_def
set_option maxHeartbeats 4000000

theorem shape_nTy : ∀ (d : Nat) (t : MTy), shapeTy d t = true -> nTy t + 2 <= 2 ^ d
 | 0, t, h => by simp [shapeTy] at h
 | d + 1, t, h => by
  obtain ⟨e, he, _, hl, hs⟩ := shapeTy_kids h
  obtain rfl : d = e := by omega
  rw [nTy_def]
  have hp : 1 <= 2 ^ d := Nat.one_le_two_pow
  have hpow : 2 ^ (d + 1) = 2 * 2 ^ d := by rw [Nat.pow_succ]; omega
  match hk : t.kids, hl with
  | [], _ => simp [nTyS]; omega
  | [a], _ => have := shape_nTy d a (hs a (by simp [hk])); simp [nTyS]; omega
  | [a, b], _ =>
   have h1 := shape_nTy d a (hs a (by simp [hk]))
   have h2 := shape_nTy d b (hs b (by simp [hk]))
   simp [nTyS]; omega

theorem shape4 {t : MTy} (h : shapeTy 4 t = true) : nTy t <= 14 := by have := shape_nTy 4 t h; omega

def L3R (e : MTm) (ts : List MTy) (r : Option MTy) : Prop := ∃ t', (∀ t, r = some t -> t' = t) /\ ACalls Tryz.prog 166 [aTm e, .l (ts.map eTy)] [] (.tup [aTy t', .b r.isSome]) [] []

end Go.Proofs.YtcgmmknfpfdghaaGreatDoor

namespace Go.Proofs.YtcgmmknfpfdghaaGreatDoor
attribute [-simp] Go.Av.keepL Go.Av.ups Go.Av.take_app_len Go.Av.MCo.kind_mk Go.Av.MCo.tag_mk Go.Av.MCo.label_mk Go.Av.MCo.kids_mk Go.Av.innVs Go.Av.putBack Go.Av.objCells Go.Av.back Go.Av.resVs Go.Av.one Go.Av.freeStepG Go.Av.exA Go.Av.innAsH Go.Av.AV.innH Go.Av.CV.innH Go.Av.innHs Go.Av.AV.outnH Go.Av.CV.outnH Go.Av.astepJ Go.Av.relC Go.Av.relL Go.Av.relV Go.Av.relVs Go.Av.callJ
open Go Go.Av
attribute [local irreducible] T ACalls eTy eTm MTy.kind MTy.kids MTm.kind MTm.name MTm.num MTm.ty MTm.fr MTm.label MTm.kids
attribute [local simp] eTy_def eTm_def
set_option maxHeartbeats 4000000

def L3T (ctx : List MBd) (e : MTm) : Prop := ∃ t', (∀ t, typeM ctx e = some t -> t' = t) /\ ACalls Tryz.prog 153 [.l (ctx.map eBd), aTm e] [] (.tup [aTy t', .b (typeM ctx e).isSome]) [] []

def typeInM (ctx : List MBd) (e : MTm) : Option MTy := if ctxM ctx = true /\ termValidM e = true then typeM ctx e else none

abbrev tyRes : Option MTy -> List AV
 | some t => [aTy t, .b true]
 | none => [aTy zeroT, .b false]

end Go.Proofs.YtcgmmknfpfdghaaGreatDoor

namespace Go.Proofs.YtcgmmknfpfdghaaGreatDoor
attribute [-simp] Go.Av.take_app_len Go.Av.MCo.kind_mk Go.Av.MCo.tag_mk Go.Av.MCo.label_mk Go.Av.MCo.kids_mk Go.Av.innVs Go.Av.putBack Go.Av.objCells Go.Av.back Go.Av.resVs Go.Av.one Go.Av.freeStepG Go.Av.exA Go.Av.innAsH Go.Av.AV.innH Go.Av.CV.innH Go.Av.innHs Go.Av.AV.outnH Go.Av.CV.outnH Go.Av.astepJ Go.Av.relC Go.Av.relL Go.Av.relV Go.Av.relVs Go.Av.callJ
open Go Go.Av
attribute [local irreducible] T ACalls TX EX LX Draws Some_ ACallsX eTy eTm MTy.kind MTy.kids MTm.kind MTm.name MTm.num MTm.ty MTm.fr MTm.label MTm.kids
attribute [local simp] eTy_def eTm_def
set_option maxHeartbeats 1000000

@[simp] theorem td_rd : td Tryz.prog 88 = some { ag := true, sz := 2, by_ := 32, zero := some [.nil, .d (.int .i64 0)], el := none, ar := none, fl := [(0, 1), (1, 1)], ik := none, isS := false, isB := false } := keep (by kernel_rfl)
@[simp] theorem td_u8 : td Tryz.prog 5 = some { ag := false, sz := 1, by_ := 1, zero := some [.d (.int .u8 0)], el := none, ar := none, fl := [], ik := some .u8, isS := false, isB := false } := keep (by kernel_rfl)
@[simp] theorem td_u8S : td Tryz.prog 22 = some { ag := false, sz := 1, by_ := 24, zero := some [.nil], el := some 5, ar := none, fl := [], ik := none, isS := false, isB := false } := keep (by kernel_rfl)
@[simp] theorem td_strS : td Tryz.prog 44 = some { ag := false, sz := 1, by_ := 24, zero := some [.nil], el := some 9, ar := none, fl := [], ik := none, isS := false, isB := false } := keep (by kernel_rfl)

theorem pick_at (b : List Int) (hb : okB b) (p : Nat) (hp : p <= 1099511627776) (n : Int) (hn : n <= 1099511627776) :
  ∃ r : Nat, (r = 0 \/ (r : Int) < n) /\ ACalls Tryz.prog 52 [.c (.ptr 0 0), .i n] (dV [rd b p]) (.i r) (dV [rd b (p + 1)]) [] := by
 by_cases hn1 : n < 1
 ·refine ⟨0, .inl rfl, ?_⟩
  refine ACalls.of_body Tryz.func52 (by kernel_rfl) rfl (by kernel_rfl) (by simp [Tryz.ntmps52]) (by simp) ?_
  rw [Tryz.ntmps52]
  repeat' first | (refine aops_end (hK _ ?_); clear hK K) | (refine aops_go ?_; simp [hn1]; (try simp (disch := omega) only [wrap64]); (try (refine gen2 ?_ ?_ <;> intro hq <;> try simp [hn1] at hq))) | (refine T.ret (Done.obj1 (Or.inr rfl) ?_ ?_ ?_) <;> simp [Tryz.results52] <;> omega) | refine T.r0 fun K hK => ?_ | refine T.ct rfl ?_ | refine T.seq ?_
 by_cases hb0 : b = []
 ·refine ⟨0, .inl rfl, ?_⟩
  subst hb0
  refine ACalls.of_body Tryz.func52 (by kernel_rfl) rfl (by kernel_rfl) (by simp [Tryz.ntmps52]) (by simp) ?_
  rw [Tryz.ntmps52]
  repeat' first | (refine aops_end (hK _ ?_); clear hK K) | (refine aops_go ?_; simp [hn1, rB]; (try simp (disch := omega) only [wrap64]); (try (refine gen2 ?_ ?_ <;> intro hq <;> try simp [hn1, rB] at hq))) | (refine T.ret (Done.obj1 (Or.inr rfl) ?_ ?_ ?_) <;> simp [Tryz.results52, rB] <;> omega) | refine T.r0 fun K hK => ?_ | refine T.ct rfl ?_ | refine T.seq ?_
 have hbl : 0 < b.length := List.length_pos_iff.2 hb0
 have hbl0 : ¬ (b.length : Int) = 0 := by omega
 have hn0 : ¬ n = 0 := by omega
 have hp1 : ((p : Int) + 1 - 1) = p := by omega
 by_cases hpl : p < b.length
 ·have hbp := hb.1 b[p] (List.getElem_mem hpl)
  obtain ⟨h1, h2⟩ := tmod_lt (n := n) hbp.1 (by omega)
  obtain ⟨r, hr⟩ := Int.eq_ofNat_of_zero_le h1
  refine ⟨r, .inr (by omega), ?_⟩
  have hx := rB_at hpl
  refine ACalls.of_body Tryz.func52 (by kernel_rfl) rfl (by kernel_rfl) (by simp [Tryz.ntmps52]) (by simp) ?_
  rw [Tryz.ntmps52]
  repeat' first | (refine aops_end (hK _ ?_); clear hK K) | (refine aops_go ?_; simp [hn1, hb0, hbl0, hn0, hp1, hpl, rB_get, rB_len, hr]; (try simp (disch := omega) only [wrap64]); (try (refine gen2 ?_ ?_ <;> intro hq <;> try simp [hn1, hb0, hbl0, hn0, hp1, hpl, rB_get, rB_len, hr] at hq))) | (refine T.ret (Done.obj1 (Or.inr rfl) ?_ ?_ ?_) <;> simp [Tryz.results52] <;> omega) | refine T.r0 fun K hK => ?_ | refine T.ct rfl ?_ | refine T.cf rfl ?_ | refine T.seq ?_ | refine T.skip ?_
 ·have hm1 : p % b.length < b.length := Nat.mod_lt _ hbl
  have hm2 : (p * 7 + 3) % b.length < b.length := Nat.mod_lt _ hbl
  have e1 : (p : Int).tmod b.length = ((p % b.length : Nat) : Int) := by rw [Int.tmod_eq_emod_of_nonneg (by omega)]; simp
  have e2 : ((p : Int) * 7 + 3).tmod b.length = (((p * 7 + 3) % b.length : Nat) : Int) := by rw [Int.tmod_eq_emod_of_nonneg (by omega)]; simp
  have hb1 := hb.1 _ (List.getElem_mem hm1)
  have hb2 := hb.1 _ (List.getElem_mem hm2)
  generalize p % b.length = i1 at *
  generalize (p * 7 + 3) % b.length = i2 at *
  obtain ⟨hd1, hd2⟩ := tdiv_le (a := (p : Int)) (n := b.length) (by omega) (by omega)
  generalize hD : (p : Int).tdiv b.length = D at hd1 hd2
  generalize hC1 : b[i1] = c1 at hb1
  generalize hC2 : b[i2] = c2 at hb2
  obtain ⟨X, hX⟩ : ∃ X, X = c1 * 131 + c2 * 1117 + (p : Int) * 29 + D * 53 := ⟨_, rfl⟩
  have hX0 : 0 <= X /\ X <= 1152921504606846976 := by omega
  obtain ⟨hy1, hy2⟩ := tdiv_le (a := X) (n := 64) (by omega) (by omega)
  obtain ⟨hz1, hz2⟩ := xor_bound (x := X) (y := X.tdiv 64) hX0.1 (by omega) hy1 (by omega)
  generalize hZ : bitI .xor .i64 X (X.tdiv 64) = Z at hz1 hz2
  obtain ⟨h1, h2⟩ := tmod_lt (n := n) hz1 (by omega)
  obtain ⟨r, hr⟩ := Int.eq_ofNat_of_zero_le h1
  refine ⟨r, .inr (by omega), ?_⟩
  refine ACalls.of_body Tryz.func52 (by kernel_rfl) rfl (by kernel_rfl) (by simp [Tryz.ntmps52]) (by simp) ?_
  rw [Tryz.ntmps52]
  repeat' first | ((first | refine aops_end (hK _ ?_) | refine aopsD_end (hK _ ?_)); clear hK K) | ((first | refine aops_go ?_ | refine aopsD_go ?_); simp [hn1, hb0, hbl0, hn0, hp1, hpl, e1, e2, rB_get, rB_len, hm1, hm2, hC1, hC2, hD, <- hX, hZ, hr]; (try simp (disch := omega) only [wrap64]); (try (refine gen2 ?_ ?_ <;> intro hq <;> try simp [hn1, hb0, hbl0, hn0, hp1, hpl, e1, e2, rB_get, rB_len, hm1, hm2, hC1, hC2, hD, <- hX, hZ, hr] at hq))) | (refine T.ret (Done.obj1 (Or.inr rfl) ?_ ?_ ?_) <;> simp [Tryz.results52] <;> omega) | refine T.rd (id := 7) mixed (fun _ => false) [] (by kernel_rfl) fun K hK => ?_ | refine T.r0 fun K hK => ?_ | refine T.cf rfl ?_ | refine T.seq ?_ | refine T.skip ?_




abbrev ints (l : List Int) : List (List DV) := l.map fun n => [.i n]
abbrev strs (l : List (List UInt8)) : List (List DV) := l.map fun s => [.str s]

theorem pick_ok (b : List Int) (hb : okB b) (p : Nat) (hp : p <= 1099511627776) (n : Int) (hn : n <= 1099511627776) :
  Draws Tryz.prog 52 [.i n] b p 1 (RV (fun r : Nat => .i r) noA fun r => r = 0 \/ (r : Int) < n) := by
 obtain ⟨r, hr, hc⟩ := pick_at b hb p hp n hn
 exact Draws.mk (p' := p + 1) r hr (by omega) (by omega) hc

theorem num_ok (b : List Int) (hb : okB b) (p : Nat) (hp : p <= 1099511627776) (l : List Int) (hl : l ≠ []) (hll : l.length <= 1000) :
  Draws Tryz.prog 55 [.l (ints l)] b p 1 (RV (fun x : Int => .i x) noA fun x => x ∈ l) := by
 obtain ⟨r, hr, hc⟩ := pick_at b hb p hp l.length (by omega)
 have hlp : 0 < l.length := List.length_pos_iff.2 hl
 have hrl : r < l.length := by rcases hr with h | h <;> omega
 obtain ⟨x, hx⟩ := get_lt hrl
 have hgx : l[r] = x := by rw [List.getElem?_eq_getElem hrl] at hx; exact Option.some.inj hx
 refine Draws.mk (p' := p + 1) x (List.mem_of_getElem? hx) (by omega) (by omega) ?_
 refine ACalls.of_body Tryz.func55 (by kernel_rfl) rfl (by kernel_rfl) (by simp [Tryz.ntmps55]) (by simp) ?_
 rw [Tryz.ntmps55]
 repeat' first | (refine aops_end (hK _ ?_); clear hK K) | ((first | refine aops_go ?_ | refine wpcall_upd1 0 (rd b p) (rd b (p + 1)) rfl (by simp) hc ?_); simp [hrl, hgx]; (try (refine gen2 ?_ ?_ <;> intro hq <;> try simp [hrl, hgx] at hq))) | (refine T.ret (Done.obj1 (Or.inr rfl) ?_ ?_ ?_) <;> simp [Tryz.results55] <;> omega) | refine T.r0 fun K hK => ?_

theorem of_ok (b : List Int) (hb : okB b) (p : Nat) (hp : p <= 1099511627776) (l : List (List UInt8)) (hl : l ≠ []) (hll : l.length <= 1000) :
  Draws Tryz.prog 64 [.l (strs l)] b p 1 (RV (fun x : List UInt8 => .s x) noA fun x => x ∈ l) := by
 obtain ⟨r, hr, hc⟩ := pick_at b hb p hp l.length (by omega)
 have hlp : 0 < l.length := List.length_pos_iff.2 hl
 have hrl : r < l.length := by rcases hr with h | h <;> omega
 obtain ⟨x, hx⟩ := get_lt hrl
 have hgx : l[r] = x := by rw [List.getElem?_eq_getElem hrl] at hx; exact Option.some.inj hx
 refine Draws.mk (p' := p + 1) x (List.mem_of_getElem? hx) (by omega) (by omega) ?_
 refine ACalls.of_body Tryz.func64 (by kernel_rfl) rfl (by kernel_rfl) (by simp [Tryz.ntmps64]) (by simp) ?_
 rw [Tryz.ntmps64]
 repeat' first | (refine aops_end (hK _ ?_); clear hK K) | ((first | refine aops_go ?_ | refine wpcall_upd1 0 (rd b p) (rd b (p + 1)) rfl (by simp) hc ?_); simp [hrl, hgx]; (try (refine gen2 ?_ ?_ <;> intro hq <;> try simp [hrl, hgx] at hq))) | (refine T.ret (Done.obj1 (Or.inr rfl) ?_ ?_ ?_) <;> simp [Tryz.results64] <;> omega) | refine T.r0 fun K hK => ?_

theorem l18Open_ok (b : List Int) (hb : ∀ n ∈ b, 0 <= n /\ n <= 255) : ∃ b' p', okB b' /\ p' = 0 /\ ACalls Tryz.prog 24 [.l (rB b)] [] (.c (.ptr 0 0)) (dV [rd b' p']) [] := by
 by_cases hl : (2000 : Int) < b.length
 ·refine ⟨b.take 2000, 0, ⟨fun n hn => hb n (List.mem_of_mem_take hn), by simp; omega⟩, rfl, ?_⟩
  have hr : ∀ r ∈ rB b, r.length = 1 := by intro r hr; simp [rB] at hr; obtain ⟨a, _, rfl⟩ := hr; rfl
  have ht : (rB b).take 2000 = rB (b.take 2000) := by simp [rB, List.map_take]
  refine ACalls.of_body Tryz.func24 (by kernel_rfl) rfl (by kernel_rfl) (by simp [Tryz.ntmps24]) (by simp) ?_
  rw [Tryz.ntmps24]
  repeat' first | (refine aops_end (hK _ ?_); clear hK K) | (refine aops_go ?_; simp [hl, rB_len, ht]; (try (refine gen2 ?_ ?_ <;> intro hq <;> try simp [hl, rB_len, ht] at hq))) | (refine ⟨by omega, hr, ?_⟩) | refine T.r0 fun K hK => ?_ | refine T.r1 fun K hK => ?_ | refine T.ct rfl ?_ | refine T.seq ?_
  refine T.ret (Done.new1 0 (Or.inr rfl) ?_ ?_) <;> simp [resAs, Tryz.results24]
 ·refine ⟨b, 0, ⟨hb, by omega⟩, rfl, ?_⟩
  refine ACalls.of_body Tryz.func24 (by kernel_rfl) rfl (by kernel_rfl) (by simp [Tryz.ntmps24]) (by simp) ?_
  rw [Tryz.ntmps24]
  repeat' first | (refine aops_end (hK _ ?_); clear hK K) | (refine aops_go ?_; simp [hl, rB_len]; (try (refine gen2 ?_ ?_ <;> intro hq <;> try simp [hl, rB_len] at hq))) | refine T.r0 fun K hK => ?_ | refine T.cf rfl ?_ | refine T.seq ?_ | refine T.skip ?_
  refine T.ret (Done.new1 0 (Or.inr rfl) ?_ ?_) <;> simp [resAs, Tryz.results24]
end Go.Proofs.YtcgmmknfpfdghaaGreatDoor

namespace Go.Proofs.YtcgmmknfpfdghaaGreatDoor
attribute [-simp] Go.Av.take_app_len Go.Av.MCo.kind_mk Go.Av.MCo.tag_mk Go.Av.MCo.label_mk Go.Av.MCo.kids_mk Go.Av.innVs Go.Av.putBack Go.Av.objCells Go.Av.back Go.Av.resVs Go.Av.one Go.Av.freeStepG Go.Av.exA Go.Av.innAsH Go.Av.AV.innH Go.Av.CV.innH Go.Av.innHs Go.Av.AV.outnH Go.Av.CV.outnH Go.Av.astepJ Go.Av.relC Go.Av.relL Go.Av.relV Go.Av.relVs Go.Av.callJ
open Go Go.Av
attribute [local irreducible] T ACalls TX EX LX Draws Some_ ACallsX eTy eTm MTy.kind MTy.kids MTm.kind MTm.name MTm.num MTm.ty MTm.fr MTm.label MTm.kids
attribute [local simp] eTy_def eTm_def
set_option maxHeartbeats 1000000

theorem l1Draw_ok (b : List Int) (hb : okB b) : ∀ (d p : Nat), d <= 100 -> p + 4 ^ (d + 1) <= 1099511627776 -> Draws Tryz.prog 87 [.i (d + 1)] b p (4 ^ (d + 1)) (RV aTy noA fun t => shapeTy (d + 1) t = true) := by
 intro d
 induction d with
 | zero =>
  intro p hd100 hp
  refine Draws.of_body Tryz.func87 (by kernel_rfl) rfl (by kernel_rfl) (by simp [Tryz.ntmps87]) ?_
  rw [Tryz.ntmps87]
  repeat' first | (refine aops_end (hK _ ?_); clear hK K) | ((first | refine aops_go ?_ | refine wpcall_pure rfl (l1Kids_ok _) ?_); simp [tyKids]; (try simp (disch := omega) only [wrap64]); (try (refine gen2 ?_ ?_ <;> intro hq <;> try simp [tyKids] at hq))) | (refine wpcall_dr 0 rfl rfl (num_ok b hb _ (by omega) [2, 1, 4, 3, 5, 2, 4] (by simp) (by simp)) (fun x p1 hx hp1 hp1' => ?_); simp at hx; rcases hx with rfl | rfl | rfl | rfl | rfl | rfl | rfl <;> (simp [tyKids]; (try simp (disch := omega) only [wrap64]))) | refine TX.rs (fun _ => false) fun K hK => ?_ | refine TX.rs1 (fun _ => false) fun K hK => ?_ | refine TX.cond rfl (fun hcnd => ?_) (fun hcnd => absurd hcnd (by decide)) | refine TX.cond rfl (fun hcnd => absurd hcnd (by decide)) (fun hcnd => ?_) | refine TX.seq ?_ | refine TX.block ?_ | refine TX.skip ?_ | refine TX.exit ?_ | refine EX.thenN ?_ | refine EX.thenE ?_ | refine EX.blockE ?_ | refine EX.unrE ?_ | refine TX.unroll ?_
  all_goals (
   refine TX.ret ?_
   repeat' first | refine EX.outR ?_ | refine EX.thenR ?_ | refine EX.blockR ?_ | refine EX.unrR ?_
   apply EX.drA (ks := [])
   case he => exact Or.inr rfl
   case hys => simp [resAs, getAs, Tryz.results87] <;> rfl
   case hv => first | (dsimp only [Av.one]; exact rfl) | dsimp only [Av.one]
   case hx => repeat' first | exact IsT2.var _ | exact IsV.tmv _ | exact IsTm.var _ | exact IsTy.row _ | exact IsTm.row _ | exact IsTys.nil | exact IsTms.nil | exact IsBds.nil | exact IsTys.map _ | exact IsTms.map _ | exact IsBds.map _ | exact IsV.int _ | exact IsV.str _ | exact IsV.bool _ | apply IsV.p2 | apply IsV.p3 | apply IsV.tm | apply IsV.ty | apply IsTm.node | apply IsTy.of | apply IsTys.cons | apply IsTms.cons | apply IsBds.cons | apply IsV.tys | apply IsV.tms | apply IsV.bds | apply IsT2.node | apply IsTys.app | apply IsTms.app | apply IsBds.app
   case hA => exact rfl
   case hks => simp
   case hV => exact rfl
   case h1 => omega
   case h2 => omega
   case hg => simp [shape_mk, tyKids, *])
 | succ d ih =>
  intro p hd100 hp
  have h4 : 4 ^ (d + 1 + 1) = 4 * 4 ^ (d + 1) := by rw [Nat.pow_succ]; omega
  have h1 : 1 <= 4 ^ (d + 1) := Nat.pos_of_ne_zero (by simp)
  have hd : ¬ ((d : Int) + 1 + 1 < 2) := by omega
  have hd2 : (d : Int) + 1 + 1 - 1 = d + 1 := by omega
  rw [h4] at hp ⊢
  generalize hN : 4 ^ (d + 1) = N at *
  refine Draws.of_body Tryz.func87 (by kernel_rfl) rfl (by kernel_rfl) (by simp [Tryz.ntmps87]) ?_
  rw [Tryz.ntmps87]
  repeat' first | ((first | refine aops_end (hK _ ?_) | refine aopsF_end (hK _ ?_)); clear hK K) | ((first | refine aops_go ?_ | refine aopsF_go ?_ | refine wpcall_pure rfl (l1Kids_ok _) ?_); simp [tyKids, hd, hd2]; (try simp (disch := omega) only [wrap64]); (try (refine gen2 ?_ ?_ <;> intro hq <;> try simp [tyKids, hd, hd2] at hq))) | (refine wpcall_dr 0 rfl rfl (num_ok b hb _ (by omega) [2, 1, 4, 3, 5, 2, 4] (by simp) (by simp)) (fun x p1 hx hp1 hp1' => ?_); simp at hx; rcases hx with rfl | rfl | rfl | rfl | rfl | rfl | rfl <;> (simp [tyKids, hd, hd2]; (try simp (disch := omega) only [wrap64]))) | (refine wpcall_dr 0 rfl rfl (ih _ (by omega) (by omega)) (fun x1 p1 hx1 hp1 hp1' => ?_); simp [tyKids, hd, hd2]; (try simp (disch := omega) only [wrap64]); (try (refine gen2 ?_ ?_ <;> intro hq <;> try simp [tyKids, hd, hd2] at hq))) | refine TX.rdF1 (id := 8) mixed (fun _ => false) [5, 7, 9] [1] 6 [0] (by kernel_rfl) fun K hK => ?_ | refine TX.rs (fun _ => false) fun K hK => ?_ | refine TX.rs1 (fun _ => false) fun K hK => ?_ | refine TX.cond rfl (fun hcnd => ?_) (fun hcnd => absurd hcnd (by decide)) | refine TX.cond rfl (fun hcnd => absurd hcnd (by decide)) (fun hcnd => ?_) | refine TX.seq ?_ | refine TX.block ?_ | refine TX.skip ?_ | refine TX.exit ?_ | refine EX.thenN ?_ | refine EX.thenE ?_ | refine EX.blockN ?_ | refine EX.blockE ?_ | refine EX.unrE ?_ | refine EX.againN ?_ | refine TX.unroll ?_
  all_goals (
   refine TX.ret ?_
   repeat' first | refine EX.outR ?_ | refine EX.thenR ?_ | refine EX.blockR ?_ | refine EX.unrR ?_
   apply EX.drA (ks := [])
   case he => exact Or.inr rfl
   case hys => simp [resAs, getAs, Tryz.results87] <;> rfl
   case hv => first | (dsimp only [Av.one]; exact rfl) | dsimp only [Av.one]
   case hx => repeat' first | exact IsT2.var _ | exact IsV.tmv _ | exact IsTm.var _ | exact IsTy.row _ | exact IsTm.row _ | exact IsTys.nil | exact IsTms.nil | exact IsBds.nil | exact IsTys.map _ | exact IsTms.map _ | exact IsBds.map _ | exact IsV.int _ | exact IsV.str _ | exact IsV.bool _ | apply IsV.p2 | apply IsV.p3 | apply IsV.tm | apply IsV.ty | apply IsTm.node | apply IsTy.of | apply IsTys.cons | apply IsTms.cons | apply IsBds.cons | apply IsV.tys | apply IsV.tms | apply IsV.bds | apply IsT2.node | apply IsTys.app | apply IsTms.app | apply IsBds.app
   case hA => exact rfl
   case hks => simp
   case hV => exact rfl
   case h1 => omega
   case h2 => omega
   case hg => simp [shape_mk, tyKids, *])

theorem l1Type_ok (b : List Int) (hb : okB b) (p : Nat) (hp : p + 300 <= 1099511627776) : Draws Tryz.prog 83 [] b p 300 (RV aTy noA fun t => shapeTy 4 t = true) := by
 refine Draws.of_body Tryz.func83 (by kernel_rfl) rfl (by kernel_rfl) (by simp [Tryz.ntmps83]) ?_
 rw [Tryz.ntmps83]
 repeat' first | (refine aops_end (hK _ ?_); clear hK K) | (refine wpcall_dr 0 rfl rfl (num_ok b hb _ (by omega) [3, 2, 4, 1, 3] (by simp) (by simp)) (fun x p1 hx hp1 hp1' => ?_); simp at hx; rcases hx with rfl | rfl | rfl | rfl | rfl <;> (simp)) | ((first | refine aops_go ?_ | refine wpcall_dr 0 rfl rfl (l1Draw_ok b hb 3 _ (by omega) (by omega)) (fun x1 p1 hx1 hp1 hp1' => ?_) | refine wpcall_dr 0 rfl rfl (l1Draw_ok b hb 2 _ (by omega) (by omega)) (fun x1 p1 hx1 hp1 hp1' => ?_) | refine wpcall_dr 0 rfl rfl (l1Draw_ok b hb 1 _ (by omega) (by omega)) (fun x1 p1 hx1 hp1 hp1' => ?_) | refine wpcall_dr 0 rfl rfl (l1Draw_ok b hb 0 _ (by omega) (by omega)) (fun x1 p1 hx1 hp1 hp1' => ?_)); simp; (try (refine gen2 ?_ ?_ <;> intro hq <;> try simp at hq))) | refine TX.rs (fun _ => false) fun K hK => ?_
 all_goals (
  refine TX.ret ?_
  repeat' first | refine EX.outR ?_ | refine EX.thenR ?_ | refine EX.blockR ?_ | refine EX.unrR ?_
  apply EX.drA (ks := [])
  case he => exact Or.inr rfl
  case hys => simp [resAs, getAs, Tryz.results83] <;> rfl
  case hv => first | (dsimp only [Av.one]; exact rfl) | dsimp only [Av.one]
  case hx => repeat' first | exact IsT2.var _ | exact IsV.tmv _ | exact IsTm.var _ | exact IsTy.row _ | exact IsTm.row _ | exact IsTys.nil | exact IsTms.nil | exact IsBds.nil | exact IsTys.map _ | exact IsTms.map _ | exact IsBds.map _ | exact IsV.int _ | exact IsV.str _ | exact IsV.bool _ | apply IsV.p2 | apply IsV.p3 | apply IsV.tm | apply IsV.ty | apply IsTm.node | apply IsTy.of | apply IsTys.cons | apply IsTms.cons | apply IsBds.cons | apply IsV.tys | apply IsV.tms | apply IsV.bds | apply IsT2.node | apply IsTys.app | apply IsTms.app | apply IsBds.app
  case hA => exact rfl
  case hks => simp
  case hV => exact rfl
  case h1 => omega
  case h2 => omega
  case hg => first | assumption | exact shapeTy_mono (by assumption) | exact shapeTy_mono (shapeTy_mono (by assumption)) | exact shapeTy_mono (shapeTy_mono (shapeTy_mono (by assumption))))

end Go.Proofs.YtcgmmknfpfdghaaGreatDoor

namespace Go.Proofs.YtcgmmknfpfdghaaGreatDoor
attribute [-simp] Go.Av.take_app_len Go.Av.MCo.kind_mk Go.Av.MCo.tag_mk Go.Av.MCo.label_mk Go.Av.MCo.kids_mk Go.Av.innVs Go.Av.putBack Go.Av.objCells Go.Av.back Go.Av.resVs Go.Av.one Go.Av.freeStepG Go.Av.exA Go.Av.innAsH Go.Av.AV.innH Go.Av.CV.innH Go.Av.innHs Go.Av.AV.outnH Go.Av.CV.outnH Go.Av.astepJ Go.Av.relC Go.Av.relL Go.Av.relV Go.Av.relVs Go.Av.callJ
open Go Go.Av
attribute [local irreducible] T ACalls TX EX LX Draws Some_ ACallsX eTy eTm MTy.kind MTy.kids MTm.kind MTm.name MTm.num MTm.ty MTm.fr MTm.label MTm.kids
attribute [local simp] eTy_def eTm_def
set_option maxHeartbeats 16000000
set_option maxRecDepth 8000

theorem l1DrawT_ok (b : List Int) (hb : okB b) (x : Int) (hx : x = 1 \/ x = 2 \/ x = 3 \/ x = 4) (p : Nat) (hp : p + 256 <= 1099511627776) : Draws Tryz.prog 87 [.i x] b p 256 (RV aTy noA fun t => shapeTy 4 t = true) := by
 rcases hx with rfl | rfl | rfl | rfl
 ·exact (l1Draw_ok b hb 0 p (by omega) (by omega)).mono (by omega) fun t h => shapeTy_mono (shapeTy_mono (shapeTy_mono h))
 ·exact (l1Draw_ok b hb 1 p (by omega) (by omega)).mono (by omega) fun t h => shapeTy_mono (shapeTy_mono h)
 ·exact (l1Draw_ok b hb 2 p (by omega) (by omega)).mono (by omega) fun t h => shapeTy_mono h
 ·exact (l1Draw_ok b hb 3 p (by omega) (by omega)).mono (by omega) fun t h => h

end Go.Proofs.YtcgmmknfpfdghaaGreatDoor

namespace Go.Proofs.YtcgmmknfpfdghaaGreatDoor
attribute [-simp] Go.Av.take_app_len Go.Av.MCo.kind_mk Go.Av.MCo.tag_mk Go.Av.MCo.label_mk Go.Av.MCo.kids_mk Go.Av.innVs Go.Av.putBack Go.Av.objCells Go.Av.back Go.Av.resVs Go.Av.one Go.Av.freeStepG Go.Av.exA Go.Av.innAsH Go.Av.AV.innH Go.Av.CV.innH Go.Av.innHs Go.Av.AV.outnH Go.Av.CV.outnH Go.Av.astepJ Go.Av.relC Go.Av.relL Go.Av.relV Go.Av.relVs Go.Av.callJ
open Go Go.Av
attribute [local irreducible] T ACalls TX EX LX Draws Some_ ACallsX eTy eTm MTy.kind MTy.kids MTm.kind MTm.name MTm.num MTm.ty MTm.fr MTm.label MTm.kids
attribute [local simp] eTy_def eTm_def
set_option maxHeartbeats 16000000
set_option maxRecDepth 8000

end Go.Proofs.YtcgmmknfpfdghaaGreatDoor

namespace Go.Proofs.YtcgmmknfpfdghaaGreatDoor
attribute [-simp] Go.Av.MCo.kind_mk Go.Av.MCo.tag_mk Go.Av.MCo.label_mk Go.Av.MCo.kids_mk Go.Av.innVs Go.Av.putBack Go.Av.objCells Go.Av.back Go.Av.resVs Go.Av.one Go.Av.freeStepG Go.Av.exA Go.Av.innAsH Go.Av.AV.innH Go.Av.CV.innH Go.Av.innHs Go.Av.AV.outnH Go.Av.CV.outnH Go.Av.astepJ Go.Av.relC Go.Av.relL Go.Av.relV Go.Av.relVs Go.Av.callJ
open Go Go.Av
attribute [local irreducible] T ACalls TX EX LX Draws Some_ ACallsX eTy eTm MTy.kind MTy.kids MTm.kind MTm.name MTm.num MTm.ty MTm.fr MTm.label MTm.kids
attribute [local simp] eTy_def eTm_def
set_option maxHeartbeats 16000000
set_option maxRecDepth 8000

end Go.Proofs.YtcgmmknfpfdghaaGreatDoor

namespace Go.Proofs.YtcgmmknfpfdghaaGreatDoor
attribute [-simp] Go.Av.MCo.kind_mk Go.Av.MCo.tag_mk Go.Av.MCo.label_mk Go.Av.MCo.kids_mk Go.Av.innVs Go.Av.putBack Go.Av.objCells Go.Av.back Go.Av.resVs Go.Av.one Go.Av.freeStepG Go.Av.exA Go.Av.innAsH Go.Av.AV.innH Go.Av.CV.innH Go.Av.innHs Go.Av.AV.outnH Go.Av.CV.outnH Go.Av.astepJ Go.Av.relC Go.Av.relL Go.Av.relV Go.Av.relVs Go.Av.callJ
open Go Go.Av
attribute [local irreducible] T ACalls TX EX LX Draws Some_ ACallsX eTy eTm MTy.kind MTy.kids MTm.kind MTm.name MTm.num MTm.ty MTm.fr MTm.label MTm.kids
attribute [local simp] eTy_def eTm_def
set_option maxHeartbeats 16000000
set_option maxRecDepth 8000

def mkN : Nat -> Nat | 0 => 0 | m + 1 => 3 * (mkN m + 1) + 3000
def mkB : Nat -> Nat | 0 => 0 | m + 1 => 3 * (mkB m + 102) + 100

theorem shapeTy_le {m n : Nat} {t : MTy} (h : m <= n) (ht : shapeTy m t = true) : shapeTy n t = true := by
 induction n with
 | zero => have : m = 0 := by omega
           subst this; exact ht
 | succ n ih =>
  by_cases e : m = n + 1
  ·subst e; exact ht
  ·exact shapeTy_mono (ih (by omega))

end Go.Proofs.YtcgmmknfpfdghaaGreatDoor

namespace Go.Proofs.YtcgmmknfpfdghaaGreatDoor
attribute [-simp] Go.Av.MCo.kind_mk Go.Av.MCo.tag_mk Go.Av.MCo.label_mk Go.Av.MCo.kids_mk Go.Av.innVs Go.Av.putBack Go.Av.objCells Go.Av.back Go.Av.resVs Go.Av.one Go.Av.freeStepG Go.Av.exA Go.Av.innAsH Go.Av.AV.innH Go.Av.CV.innH Go.Av.innHs Go.Av.AV.outnH Go.Av.CV.outnH Go.Av.astepJ Go.Av.relC Go.Av.relL Go.Av.relV Go.Av.relVs Go.Av.callJ
open Go Go.Av
attribute [local irreducible] T ACalls TX EX LX Draws Some_ ACallsX eTy eTm MTy.kind MTy.kids MTm.kind MTm.name MTm.num MTm.ty MTm.fr MTm.label MTm.kids
attribute [local simp] eTy_def eTm_def
set_option maxHeartbeats 16000000
set_option maxRecDepth 8000

end Go.Proofs.YtcgmmknfpfdghaaGreatDoor

namespace Go.Proofs.YtcgmmknfpfdghaaGreatDoor
attribute [-simp] Go.Av.get_app_len Go.Av.get_app_len0 Go.Av.set_app_len Go.Av.set_app_len0 Go.Av.freeStep Go.Av.exV Go.Av.keepL Go.Av.ups Go.Av.take_app_len Go.Av.innVs Go.Av.putBack Go.Av.objCells Go.Av.back Go.Av.resVs Go.Av.one Go.Av.freeStepG Go.Av.exA Go.Av.innAsH Go.Av.AV.innH Go.Av.CV.innH Go.Av.innHs Go.Av.AV.outnH Go.Av.CV.outnH Go.Av.astepJ Go.Av.relC Go.Av.relL Go.Av.relV Go.Av.relVs Go.Av.callJ
open Go Go.Av
attribute [local irreducible] T
attribute [local simp] eCo_def

@[simp] theorem td_implCoercionS : td Tryz.prog 32 = some { ag := false, sz := 1, by_ := 24, zero := some [.nil], el := some 34, ar := none, fl := [], ik := none, isS := false, isB := false } := keep (by kernel_rfl)
@[simp] theorem td_implCoercion : td Tryz.prog 34 = some { ag := true, sz := 4, by_ := 48, zero := some [.d (.int .i64 0), .d (.int .i64 0), .d (.int .i64 0), .nil], el := none, ar := none, fl := [(0, 1), (1, 1), (2, 1), (3, 1)], ik := none, isS := false, isB := false } := keep (by kernel_rfl)

end Go.Proofs.YtcgmmknfpfdghaaGreatDoor

namespace Go.Proofs.YtcgmmknfpfdghaaGreatDoor
attribute [-simp] Go.Av.freeStep Go.Av.exV Go.Av.keepL Go.Av.ups Go.Av.take_app_len Go.Av.MCo.kind_mk Go.Av.MCo.tag_mk Go.Av.MCo.label_mk Go.Av.MCo.kids_mk Go.Av.innVs Go.Av.putBack Go.Av.objCells Go.Av.back Go.Av.resVs Go.Av.one Go.Av.freeStepG Go.Av.exA Go.Av.innAsH Go.Av.AV.innH Go.Av.CV.innH Go.Av.innHs Go.Av.AV.outnH Go.Av.CV.outnH Go.Av.astepJ Go.Av.relC Go.Av.relL Go.Av.relV Go.Av.relVs Go.Av.callJ
open Go Go.Av
attribute [local irreducible] T ACalls eTy eTm MTy.kind MTy.kids MTm.kind MTm.name MTm.num MTm.ty MTm.fr MTm.label MTm.kids
attribute [local simp] eTy_def eTm_def
set_option maxHeartbeats 4000000

end Go.Proofs.YtcgmmknfpfdghaaGreatDoor
