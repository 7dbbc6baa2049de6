/- A part of the library of this seat: a value-semantic program logic over the model, plain models, and walks of functions. -/
import Derived.Test.YtgpgcnahoieedaaDoorS4
import Derived.Test.YtgpgcnahoieedaaDoorChecked
set_option linter.unusedVariables false
set_option linter.unusedSimpArgs false
namespace Go.Proofs.YtgpgcnahoieedaaDoor
attribute [-simp] Go.Av.get_app_len Go.Av.get_app_len0 Go.Av.set_app_len Go.Av.set_app_len0 Go.Av.freeStep Go.Av.exV Go.Av.keepL Go.Av.ups Go.Av.take_app_len Go.Av.MCo.kind_mk Go.Av.MCo.tag_mk Go.Av.MCo.label_mk Go.Av.MCo.kids_mk Go.Av.innVs Go.Av.putBack Go.Av.objCells Go.Av.back Go.Av.resVs Go.Av.one Go.Av.freeStepG Go.Av.exA Go.Av.innAsH Go.Av.AV.innH Go.Av.CV.innH Go.Av.innHs Go.Av.AV.outnH Go.Av.CV.outnH
open Go Go.Av
attribute [local irreducible] T
attribute [local simp] eTy_def eTm_def

@[simp] theorem td_int : td Tryd.prog 3 = some { ag := false, sz := 1, by_ := 8, zero := some [.d (.int .i64 0)], el := none, ar := none, fl := [], ik := some .i64, isS := false, isB := false } := keep (by kernel_rfl)
@[simp] theorem td_bool : td Tryd.prog 4 = some { ag := false, sz := 1, by_ := 1, zero := some [.d (.bool false)], el := none, ar := none, fl := [], ik := none, isS := false, isB := true } := keep (by kernel_rfl)
@[simp] theorem td_string : td Tryd.prog 9 = some { ag := false, sz := 1, by_ := 16, zero := some [.d (.str [])], el := none, ar := none, fl := [], ik := none, isS := true, isB := false } := keep (by kernel_rfl)
@[simp] theorem td_implTypeS : td Tryd.prog 41 = some { ag := false, sz := 1, by_ := 24, zero := some [.nil], el := some 43, ar := none, fl := [], ik := none, isS := false, isB := false } := keep (by kernel_rfl)
@[simp] theorem td_implType : td Tryd.prog 43 = some { ag := true, sz := 2, by_ := 32, zero := some [.d (.int .i64 0), .nil], el := none, ar := none, fl := [(0, 1), (1, 1)], ik := none, isS := false, isB := false } := keep (by kernel_rfl)
theorem mixed : Tryd.prog.follows .mixedOrders = true := by kernel_rfl

end Go.Proofs.YtgpgcnahoieedaaDoor

namespace Go.Proofs.YtgpgcnahoieedaaDoor
attribute [-simp] Go.Av.get_app_len Go.Av.get_app_len0 Go.Av.set_app_len Go.Av.set_app_len0 Go.Av.freeStep Go.Av.exV Go.Av.keepL Go.Av.ups Go.Av.take_app_len Go.Av.MCo.kind_mk Go.Av.MCo.tag_mk Go.Av.MCo.label_mk Go.Av.MCo.kids_mk Go.Av.innVs Go.Av.putBack Go.Av.objCells Go.Av.back Go.Av.resVs Go.Av.one Go.Av.freeStepG Go.Av.exA Go.Av.innAsH Go.Av.AV.innH Go.Av.CV.innH Go.Av.innHs Go.Av.AV.outnH Go.Av.CV.outnH
open Go Go.Av
attribute [local irreducible] T
attribute [local simp] eTy_def eTm_def

end Go.Proofs.YtgpgcnahoieedaaDoor

namespace Go.Proofs.YtgpgcnahoieedaaDoor
attribute [-simp] Go.Av.get_app_len Go.Av.get_app_len0 Go.Av.set_app_len Go.Av.set_app_len0 Go.Av.freeStep Go.Av.exV Go.Av.keepL Go.Av.ups Go.Av.take_app_len Go.Av.MCo.kind_mk Go.Av.MCo.tag_mk Go.Av.MCo.label_mk Go.Av.MCo.kids_mk Go.Av.innVs Go.Av.putBack Go.Av.objCells Go.Av.back Go.Av.resVs Go.Av.one Go.Av.freeStepG Go.Av.exA Go.Av.innAsH Go.Av.AV.innH Go.Av.CV.innH Go.Av.innHs Go.Av.AV.outnH Go.Av.CV.outnH
open Go Go.Av
attribute [local irreducible] T
attribute [local simp] eTy_def eTm_def

end Go.Proofs.YtgpgcnahoieedaaDoor

namespace Go.Proofs.YtgpgcnahoieedaaDoor
attribute [-simp] Go.Av.freeStep Go.Av.exV Go.Av.keepL Go.Av.ups Go.Av.take_app_len Go.Av.MCo.kind_mk Go.Av.MCo.tag_mk Go.Av.MCo.label_mk Go.Av.MCo.kids_mk Go.Av.innVs Go.Av.putBack Go.Av.objCells Go.Av.back Go.Av.resVs Go.Av.one Go.Av.freeStepG Go.Av.exA Go.Av.innAsH Go.Av.AV.innH Go.Av.CV.innH Go.Av.innHs Go.Av.AV.outnH Go.Av.CV.outnH
open Go Go.Av
attribute [local irreducible] T
attribute [local simp] eTy_def eTm_def

theorem inM_ok (x lo hi : Int) : ACalls Tryd.prog 29 [.i x, .i lo, .i hi] [] (.b (inM x lo hi)) [] [] := by
  refine ACalls.of_body Tryd.func29 (by kernel_rfl) rfl (by kernel_rfl) (by simp [Tryd.ntmps29]) (by simp) ?_
  rw [Tryd.ntmps29]
  repeat' first | (refine aops_end (hK _ ?_); clear hK K) | (refine aops_go ?_; simp; (try (refine gen fun q hq => ?_; cases q <;> (try simp at hq)))) | refine T.r0 fun K hK => ?_ | refine T.r1 fun K hK => ?_ | refine T.cond rfl (fun hc => ?_) (fun hc => absurd hc (by decide)) | refine T.cond rfl (fun hc => absurd hc (by decide)) (fun hc => ?_) | refine T.seq ?_ | refine T.block ?_ | refine T.skip ?_ | refine T.exit ?_
  all_goals (refine T.ret (Done.data (Or.inr rfl) ?_ ?_) <;> simp [Tryd.results29, inM, *] <;> omega)

theorem isLabel_ok (n : Int) : ACalls Tryd.prog 30 [.i n] [] (.b (labM n)) [] [] := by
  refine ACalls.of_body Tryd.func30 (by kernel_rfl) rfl (by kernel_rfl) (by simp [Tryd.ntmps30]) (by simp) ?_
  rw [Tryd.ntmps30]
  repeat' first | (refine T.rs (fun _ => false) fun K hK => ?_; (repeat (refine aops_go ?_; simp)); refine aops_end (hK _ ?_); clear hK K) | (refine T.rs1 (fun _ => false) fun K hK => ?_; (repeat (refine aops_go ?_; simp)); refine aops_end (hK _ ?_); clear hK K) | refine T.cond rfl (fun hc => ?_) (fun hc => absurd hc (by decide)) | refine T.cond rfl (fun hc => absurd hc (by decide)) (fun hc => ?_) | refine T.seq ?_ | refine T.block ?_ | refine T.skip ?_ | refine T.exit ?_
  refine T.rs1 (fun _ => false) fun K hK => ?_
  repeat (refine aops_go ?_; simp)
  refine wpcall_pure (by simp) (inM_ok n 1 99) ?_
  simp
  refine Ops.gen fun q hq => ?_
  cases q
  · repeat (refine aops_go ?_; simp)
    refine wpcall_pure (by simp) (inM_ok n (-99) (-1)) ?_
    simp
    repeat' first | (refine aops_end (hK _ ?_); clear hK K) | (refine aops_go ?_; simp; (try (refine gen fun q hq => ?_; cases q <;> (try simp at hq)))) | refine T.r0 fun K hK => ?_ | refine T.r1 fun K hK => ?_ | refine T.cond rfl (fun hc => ?_) (fun hc => absurd hc (by decide)) | refine T.cond rfl (fun hc => absurd hc (by decide)) (fun hc => ?_) | refine T.seq ?_ | refine T.block ?_ | refine T.skip ?_ | refine T.exit ?_
    all_goals (refine T.ret (Done.data (Or.inr rfl) ?_ ?_) <;> simp [Tryd.results30, labM, *])
  · repeat' first | (refine aops_end (hK _ ?_); clear hK K) | (refine aops_go ?_; simp; (try (refine gen fun q hq => ?_; cases q <;> (try simp at hq)))) | refine T.r0 fun K hK => ?_ | refine T.r1 fun K hK => ?_ | refine T.cond rfl (fun hc => ?_) (fun hc => absurd hc (by decide)) | refine T.cond rfl (fun hc => absurd hc (by decide)) (fun hc => ?_) | refine T.seq ?_ | refine T.block ?_ | refine T.skip ?_ | refine T.exit ?_
    all_goals (refine T.ret (Done.data (Or.inr rfl) ?_ ?_) <;> simp [Tryd.results30, labM, *])

@[simp] theorem td_intS : td Tryd.prog 49 = some { ag := false, sz := 1, by_ := 24, zero := some [.nil], el := some 3, ar := none, fl := [], ik := none, isS := false, isB := false } := keep (by kernel_rfl)

end Go.Proofs.YtgpgcnahoieedaaDoor

namespace Go.Proofs.YtgpgcnahoieedaaDoor
attribute [-simp] Go.Av.freeStep Go.Av.exV Go.Av.keepL Go.Av.ups Go.Av.take_app_len Go.Av.MCo.kind_mk Go.Av.MCo.tag_mk Go.Av.MCo.label_mk Go.Av.MCo.kids_mk Go.Av.innVs Go.Av.putBack Go.Av.objCells Go.Av.back Go.Av.resVs Go.Av.one Go.Av.freeStepG Go.Av.exA Go.Av.innAsH Go.Av.AV.innH Go.Av.CV.innH Go.Av.innHs Go.Av.AV.outnH Go.Av.CV.outnH
open Go Go.Av
attribute [local irreducible] T ACalls eTy eTm MTy.kind MTy.kids MTm.kind MTm.name MTm.num MTm.ty MTm.fr MTm.label MTm.kids
attribute [local simp] eTy_def eTm_def
set_option maxHeartbeats 4000000

theorem l1Kids_ok (k : Int) : ACalls Tryd.prog 42 [.i k] [] (.i (tyKids k)) [] [] := by
  refine ACalls.of_body Tryd.func42 (by kernel_rfl) rfl (by kernel_rfl) (by simp [Tryd.ntmps42]) (by simp) ?_
  rw [Tryd.ntmps42]
  repeat' first | (refine aops_end (hK _ ?_); clear hK K) | (refine aops_go ?_; simp; (try (refine gen fun q hq => ?_; cases q <;> (try simp at hq) <;> (try (have hh : True := hq; clear hh hq))))) | (refine T.ret (Done.data (Or.inr rfl) ?_ ?_) <;> simp [Tryd.results42, tyKids, *] <;> omega) | refine T.r0 fun K hK => ?_ | refine T.r1 fun K hK => ?_ | refine T.ct rfl ?_ | refine T.cf rfl ?_ | refine T.seq ?_ | refine T.block ?_ | refine T.skip ?_

theorem l1Shape_ok : ∀ (d : Nat) (t : MTy), d ≤ 1000 → nTy t ≤ 1099511627776 → ACalls Tryd.prog 45 [aTy t, .i d] [] (.b (shapeTy d t)) [] []
  | 0, t, _, _ => by
    refine ACalls.of_body Tryd.func45 (by kernel_rfl) rfl (by kernel_rfl) (by simp [Tryd.ntmps45]) (by simp) ?_
    rw [Tryd.ntmps45]
    repeat' first | ((first | refine aops_end (hK _ ?_) | refine aopsD_end (hK _ ?_)); clear hK K) | ((first | refine aops_go ?_ | refine aopsD_go ?_); simp; (try (refine gen fun q hq => ?_; cases q <;> (try simp at hq) <;> (try (have hh : True := hq; clear hh hq))))) | (refine T.ret (Done.data (Or.inr rfl) ?_ ?_) <;> simp [Tryd.results45, shapeTy] <;> omega) | refine T.r0 fun K hK => ?_ | refine T.rd mixed (fun _ => false) [] (by kernel_rfl) fun K hK => ?_ | refine T.ct rfl ?_ | refine T.seq ?_
  | d + 1, t, hd, hn => by
    rw [nTy_def] at hn
    have hlen := nTyS_len t.kids
    have hd1 : ¬ ((d : Int) + 1 < 1) := by omega
    refine ACalls.of_body Tryd.func45 (by kernel_rfl) rfl (by kernel_rfl) (by simp [Tryd.ntmps45]) (by simp) ?_
    rw [Tryd.ntmps45]
    repeat' first | ((first | refine aops_end (hK _ ?_) | refine aopsD_end (hK _ ?_)); clear hK K) | ((first | refine aops_go ?_ | refine aopsD_go ?_); simp [hd1]; (try (refine gen fun q hq => ?_; cases q <;> (try simp [hd1] at hq) <;> (try (have hh : True := hq; clear hh hq))))) | (refine wpcall_pure rfl (l1Kids_ok _) ?_; simp [hd1]; (try first | (refine Ops.gen fun q hq => ?_; cases q <;> (try simp [hd1] at hq) <;> (try (have hh : True := hq; clear hh hq))) | (refine OpsD.gen fun q hq => ?_; cases q <;> (try simp [hd1] at hq) <;> (try (have hh : True := hq; clear hh hq))))) | (refine T.ret (Done.data (Or.inr rfl) ?_ ?_) <;> simp [Tryd.results45, shapeTy, *] <;> omega) | refine T.r0 fun K hK => ?_ | refine T.rd mixed (fun _ => false) [] (by kernel_rfl) fun K hK => ?_ | refine T.ct rfl ?_ | refine T.cf rfl ?_ | refine T.seq ?_ | refine T.block ?_ | refine T.skip ?_
    obtain ⟨R, hR⟩ : ∃ R, t.kids.all (shapeTy d) = R := ⟨_, rfl⟩
    rw [show shapeTy (d + 1) t = R by simp [shapeTy, hq, hR]]
    refine T.loopF (fun p : Nat => ⟨[(1, .i (d + 1)), (2, .c (.ptr 0 0)), (5, .i p)], [(aTy t).cells], []⟩) (fun p => t.kids.length + 1 - p) (fun p => p ≤ t.kids.length ∧ (t.kids.drop p).all (shapeTy d) = R) (fun p hp => ?_) 0 (by simpa using hR) (by simp)
    obtain ⟨hi, he⟩ := hp
    by_cases hlt : p < t.kids.length
    · obtain ⟨u, ht⟩ := get_lt hlt
      have htm : u ∈ t.kids := List.mem_of_getElem? ht
      have hgt : t.kids[p] = u := by rw [List.getElem?_eq_getElem hlt] at ht; exact Option.some.inj ht
      have hdr : t.kids.drop p = u :: t.kids.drop (p + 1) := by rw [List.drop_eq_getElem_cons hlt, hgt]
      have hu := l1Shape_ok d u (by omega) (by have := nTyS_mem htm; omega)
      rw [hdr, List.all_cons] at he
      cases hb : shapeTy d u <;> rw [hb] at hu he
      · repeat' first | (refine aops_end (hK _ ?_); clear hK K) | (refine aops_go ?_; simp [hlt, hgt]; (try simp (disch := omega) only [wrap64]); (try (refine gen fun q hq => ?_; cases q <;> (try simp [hlt, hgt] at hq) <;> (try (have hh : True := hq; clear hh hq))))) | (refine wpcall_pure rfl (hu) ?_; simp [hlt, hgt]; (try simp (disch := omega) only [wrap64]); (try first | (refine Ops.gen fun q hq => ?_; cases q <;> (try simp [hlt, hgt] at hq) <;> (try (have hh : True := hq; clear hh hq))) | (refine OpsD.gen fun q hq => ?_; cases q <;> (try simp [hlt, hgt] at hq) <;> (try (have hh : True := hq; clear hh hq))))) | (refine T.ret (Done.data (Or.inr rfl) ?_ ?_) <;> simp [Tryd.results45, ← he] <;> omega) | refine T.r0 fun K hK => ?_ | refine T.ct rfl ?_ | refine T.seq ?_ | refine T.block ?_ | refine T.skip ?_
      · repeat' first | (refine aops_end (hK _ ?_); clear hK K) | (refine aops_go ?_; simp [hlt, hgt]; (try simp (disch := omega) only [wrap64]); (try (refine gen fun q hq => ?_; cases q <;> (try simp [hlt, hgt] at hq) <;> (try (have hh : True := hq; clear hh hq))))) | (refine wpcall_pure rfl (hu) ?_; simp [hlt, hgt]; (try simp (disch := omega) only [wrap64]); (try first | (refine Ops.gen fun q hq => ?_; cases q <;> (try simp [hlt, hgt] at hq) <;> (try (have hh : True := hq; clear hh hq))) | (refine OpsD.gen fun q hq => ?_; cases q <;> (try simp [hlt, hgt] at hq) <;> (try (have hh : True := hq; clear hh hq))))) | (refine ⟨p + 1, by dsimp only; omega, ⟨by omega, by simpa using he⟩, ?_⟩; simp (disch := omega) [wrap64]) | refine T.r0 fun K hK => ?_ | refine T.r1 fun K hK => ?_ | refine T.ct rfl ?_ | refine T.cf rfl ?_ | refine T.seq ?_ | refine T.block ?_ | refine T.skip ?_
    · have hp' : p = t.kids.length := by omega
      subst hp'
      simp at he
      repeat' first | (refine aops_end (hK _ ?_); clear hK K) | (refine aops_go ?_; simp [hlt]; (try (refine gen fun q hq => ?_; cases q <;> (try simp [hlt] at hq) <;> (try (have hh : True := hq; clear hh hq))))) | (refine T.ret (Done.data (Or.inr rfl) ?_ ?_) <;> simp [Tryd.results45, he] <;> omega) | refine T.r0 fun K hK => ?_ | refine T.cf rfl ?_ | refine T.seq ?_ | refine T.exit ?_
end Go.Proofs.YtgpgcnahoieedaaDoor

namespace Go.Proofs.YtgpgcnahoieedaaDoor
attribute [-simp] Go.Av.freeStep Go.Av.exV Go.Av.keepL Go.Av.ups Go.Av.take_app_len Go.Av.MCo.kind_mk Go.Av.MCo.tag_mk Go.Av.MCo.label_mk Go.Av.MCo.kids_mk Go.Av.innVs Go.Av.putBack Go.Av.objCells Go.Av.back Go.Av.resVs Go.Av.one Go.Av.freeStepG Go.Av.exA Go.Av.innAsH Go.Av.AV.innH Go.Av.CV.innH Go.Av.innHs Go.Av.AV.outnH Go.Av.CV.outnH
open Go Go.Av
attribute [local irreducible] T ACalls eTy eTm MTy.kind MTy.kids MTm.kind MTm.name MTm.num MTm.ty MTm.fr MTm.label MTm.kids
attribute [local simp] eTy_def eTm_def
set_option maxHeartbeats 4000000

end Go.Proofs.YtgpgcnahoieedaaDoor

namespace Go.Proofs.YtgpgcnahoieedaaDoor
attribute [-simp] Go.Av.freeStep Go.Av.exV Go.Av.keepL Go.Av.ups Go.Av.take_app_len Go.Av.MCo.kind_mk Go.Av.MCo.tag_mk Go.Av.MCo.label_mk Go.Av.MCo.kids_mk Go.Av.innVs Go.Av.putBack Go.Av.objCells Go.Av.back Go.Av.resVs Go.Av.one Go.Av.freeStepG Go.Av.exA Go.Av.innAsH Go.Av.AV.innH Go.Av.CV.innH Go.Av.innHs Go.Av.AV.outnH Go.Av.CV.outnH
open Go Go.Av
attribute [local irreducible] T ACalls eTy eTm MTy.kind MTy.kids MTm.kind MTm.name MTm.num MTm.ty MTm.fr MTm.label MTm.kids
attribute [local simp] eTy_def eTm_def
set_option maxHeartbeats 4000000

end Go.Proofs.YtgpgcnahoieedaaDoor

namespace Go.Proofs.YtgpgcnahoieedaaDoor
attribute [-simp] Go.Av.freeStep Go.Av.exV Go.Av.keepL Go.Av.ups Go.Av.take_app_len Go.Av.MCo.kind_mk Go.Av.MCo.tag_mk Go.Av.MCo.label_mk Go.Av.MCo.kids_mk Go.Av.innVs Go.Av.putBack Go.Av.objCells Go.Av.back Go.Av.resVs Go.Av.one Go.Av.freeStepG Go.Av.exA Go.Av.innAsH Go.Av.AV.innH Go.Av.CV.innH Go.Av.innHs Go.Av.AV.outnH Go.Av.CV.outnH
open Go Go.Av
attribute [local irreducible] T ACalls eTy eTm MTy.kind MTy.kids MTm.kind MTm.name MTm.num MTm.ty MTm.fr MTm.label MTm.kids
attribute [local simp] eTy_def eTm_def
set_option maxHeartbeats 4000000

theorem TypeValidS_ok (t : MTy) (hn : nTy t ≤ 1099511627776) : ACalls Tryd.prog 37 [aTy t] [] (.b (shapeTy 4 t)) [] [] := by
  refine ACalls.of_body Tryd.func37 (by kernel_rfl) rfl (by kernel_rfl) (by simp [Tryd.ntmps37]) (by simp) ?_
  rw [Tryd.ntmps37]
  repeat' first | (refine aops_end (hK _ ?_); clear hK K) | (refine aops_go ?_; simp) | (refine wpcall_pure rfl (l1Shape_ok 4 t (by omega) hn) ?_; simp) | (refine T.ret (Done.data (Or.inr rfl) ?_ ?_) <;> simp [Tryd.results37] <;> omega) | refine T.r0 fun K hK => ?_

end Go.Proofs.YtgpgcnahoieedaaDoor

namespace Go.Proofs.YtgpgcnahoieedaaDoor
attribute [-simp] Go.Av.freeStep Go.Av.exV Go.Av.keepL Go.Av.ups Go.Av.take_app_len Go.Av.MCo.kind_mk Go.Av.MCo.tag_mk Go.Av.MCo.label_mk Go.Av.MCo.kids_mk Go.Av.innVs Go.Av.putBack Go.Av.objCells Go.Av.back Go.Av.resVs Go.Av.one Go.Av.freeStepG Go.Av.exA Go.Av.innAsH Go.Av.AV.innH Go.Av.CV.innH Go.Av.innHs Go.Av.AV.outnH Go.Av.CV.outnH
open Go Go.Av
attribute [local irreducible] T ACalls eTy eTm MTy.kind MTy.kids MTm.kind MTm.name MTm.num MTm.ty MTm.fr MTm.label MTm.kids
attribute [local simp] eTy_def eTm_def
set_option maxHeartbeats 4000000

end Go.Proofs.YtgpgcnahoieedaaDoor

namespace Go.Proofs.YtgpgcnahoieedaaDoor
attribute [-simp] Go.Av.get_app_len Go.Av.get_app_len0 Go.Av.set_app_len Go.Av.set_app_len0 Go.Av.freeStep Go.Av.exV Go.Av.keepL Go.Av.ups Go.Av.take_app_len Go.Av.innVs Go.Av.putBack Go.Av.objCells Go.Av.back Go.Av.resVs Go.Av.one Go.Av.freeStepG Go.Av.exA Go.Av.innAsH Go.Av.AV.innH Go.Av.CV.innH Go.Av.innHs Go.Av.AV.outnH Go.Av.CV.outnH
open Go Go.Av
attribute [local irreducible] T
attribute [local simp] eCo_def

@[simp] theorem td_implCoercionS : td Tryd.prog 23 = some { ag := false, sz := 1, by_ := 24, zero := some [.nil], el := some 25, ar := none, fl := [], ik := none, isS := false, isB := false } := keep (by kernel_rfl)
@[simp] theorem td_implCoercion : td Tryd.prog 25 = some { ag := true, sz := 4, by_ := 48, zero := some [.d (.int .i64 0), .d (.int .i64 0), .d (.int .i64 0), .nil], el := none, ar := none, fl := [(0, 1), (1, 1), (2, 1), (3, 1)], ik := none, isS := false, isB := false } := keep (by kernel_rfl)

end Go.Proofs.YtgpgcnahoieedaaDoor

namespace Go.Proofs.YtgpgcnahoieedaaDoor
attribute [-simp] Go.Av.freeStep Go.Av.exV Go.Av.keepL Go.Av.ups Go.Av.take_app_len Go.Av.MCo.kind_mk Go.Av.MCo.tag_mk Go.Av.MCo.label_mk Go.Av.MCo.kids_mk Go.Av.innVs Go.Av.putBack Go.Av.objCells Go.Av.back Go.Av.resVs Go.Av.one Go.Av.freeStepG Go.Av.exA Go.Av.innAsH Go.Av.AV.innH Go.Av.CV.innH Go.Av.innHs Go.Av.AV.outnH Go.Av.CV.outnH
open Go Go.Av
attribute [local irreducible] T ACalls eTy eTm MTy.kind MTy.kids MTm.kind MTm.name MTm.num MTm.ty MTm.fr MTm.label MTm.kids
attribute [local simp] eTy_def eTm_def
set_option maxHeartbeats 4000000

end Go.Proofs.YtgpgcnahoieedaaDoor

namespace Go.Proofs.YtgpgcnahoieedaaDoor
attribute [-simp] Go.Av.keepL Go.Av.ups Go.Av.take_app_len Go.Av.MCo.kind_mk Go.Av.MCo.tag_mk Go.Av.MCo.label_mk Go.Av.MCo.kids_mk Go.Av.innVs Go.Av.putBack Go.Av.objCells Go.Av.back Go.Av.resVs Go.Av.one Go.Av.freeStepG Go.Av.exA Go.Av.innAsH Go.Av.AV.innH Go.Av.CV.innH Go.Av.innHs Go.Av.AV.outnH Go.Av.CV.outnH
open Go Go.Av
attribute [local irreducible] T ACalls eTy eTm MTy.kind MTy.kids MTm.kind MTm.name MTm.num MTm.ty MTm.fr MTm.label MTm.kids
attribute [local simp] eTy_def eTm_def
set_option maxHeartbeats 4000000
attribute [local simp] Option.bind

theorem l1Any_ok : ACalls Tryd.prog 36 [] [] (aTy anyT) [] [] := by
  refine ACalls.of_body Tryd.func36 (by kernel_rfl) rfl (by kernel_rfl) (by simp [Tryd.ntmps36]) (by simp) ?_
  rw [Tryd.ntmps36]
  repeat' first | (refine aops_end (hK _ ?_); clear hK K) | (refine aops_go ?_; simp; (try (refine gen fun q hq => ?_; cases q <;> (try simp at hq) <;> (try (have hh : True := hq; clear hh hq))))) | (refine T.ret (Done.val (Or.inr rfl) ?_) <;> simp [resAs, Tryd.results36] <;> omega) | refine T.r0 fun K hK => ?_

theorem l1Copy_ok : ∀ (t : MTy), nTy t ≤ 1099511627776 → ACalls Tryd.prog 38 [aTy t] [] (aTy t) [] [] := by
  intro t
  induction t using MTy.ind with
  | h t ih =>
    intro hn
    rw [nTy_def] at hn
    have hlen := nTyS_len t.kids
    refine ACalls.of_body Tryd.func38 (by kernel_rfl) rfl (by kernel_rfl) (by simp [Tryd.ntmps38]) (by simp) ?_
    rw [Tryd.ntmps38]
    repeat' first | (refine aops_end (hK _ ?_); clear hK K) | (refine aops_go ?_; simp; (try (refine gen fun q hq => ?_; cases q <;> (try simp at hq) <;> (try (have hh : True := hq; clear hh hq))))) | refine T.r0 fun K hK => ?_ | refine T.seq ?_ | refine T.block ?_
    refine T.ownifyObj 2 1 2 43 (row := [.d (.i t.kind), .nil]) (by simp) (by simp) ?_
    refine T.loopF (fun p : Nat => ⟨[(1, .c (.ptr 0 0)), (2, .c (.ptr 1 0)), (3, .c (.ptr 2 0)), (4, .i p)], [(aTy t).cells, [.d (.i 0), .nil], [.d (.i t.kind), .own 0 p]], [{ sz := 2, ety := 43, rows := (t.kids.take p).map eTy, wr := true }]⟩) (fun p => t.kids.length + 1 - p) (fun p => p ≤ t.kids.length) (fun p hi => ?_) 0 (by simp) (by simp)
    by_cases hlt : p < t.kids.length
    · obtain ⟨u, ht⟩ := get_lt hlt
      have htm : u ∈ t.kids := List.mem_of_getElem? ht
      have hgt : t.kids[p] = u := by rw [List.getElem?_eq_getElem hlt] at ht; exact Option.some.inj ht
      have hdr : t.kids.drop p = u :: t.kids.drop (p + 1) := by rw [List.drop_eq_getElem_cons hlt, hgt]
      have hu := ih u htm (by have := nTyS_mem htm; omega)
      have htk : t.kids.take (p + 1) = t.kids.take p ++ [u] := by rw [List.take_add_one, ht]; rfl
      have hmin : min p t.kids.length = p := by omega
      repeat' first | ((first | refine aops_end (hK _ ?_) | refine aopsD_end (hK _ ?_)); clear hK K) | ((first | refine aops_go ?_ | refine aopsD_go ?_); simp [hlt, hgt, hmin]; (try simp (disch := omega) only [wrap64]); (try (refine gen fun q hq => ?_; cases q <;> (try simp [hlt, hgt, hmin] at hq) <;> (try (have hh : True := hq; clear hh hq))))) | (refine wpcall_pure rfl (hu) ?_; simp [hlt, hgt, hmin]; (try simp (disch := omega) only [wrap64]); (try (refine gen fun q hq => ?_; cases q <;> (try simp [hlt, hgt, hmin] at hq) <;> (try (have hh : True := hq; clear hh hq))))) | (refine ⟨by omega, by omega, ?_⟩) | (refine ⟨p + 1, by dsimp only; omega, by omega, ?_, ?_, ?_⟩ <;> simp (disch := omega) [wrap64, htk, eTy_def]) | refine T.rd1 (id := 5) mixed (fun _ => false) [9, 11] (by kernel_rfl) fun K hK => ?_ | refine T.r0 fun K hK => ?_ | refine T.r1 fun K hK => ?_ | refine T.ct rfl ?_ | refine T.seq ?_ | refine T.block ?_ | refine T.skip ?_
    · have hp' : p = t.kids.length := by omega
      subst hp'
      repeat' first | (refine aops_end (hK _ ?_); clear hK K) | (refine aops_go ?_; simp [hlt]; (try (refine gen fun q hq => ?_; cases q <;> (try simp [hlt] at hq) <;> (try (have hh : True := hq; clear hh hq))))) | (refine T.ret (Done.val (Or.inr rfl) ?_) <;> simp [resAs, Tryd.results38, eTy_def] <;> omega) | refine T.r0 fun K hK => ?_ | refine T.cf rfl ?_ | refine T.seq ?_ | refine T.exit ?_

end Go.Proofs.YtgpgcnahoieedaaDoor

namespace Go.Proofs.YtgpgcnahoieedaaDoor
attribute [-simp] Go.Av.keepL Go.Av.ups Go.Av.take_app_len Go.Av.MCo.kind_mk Go.Av.MCo.tag_mk Go.Av.MCo.label_mk Go.Av.MCo.kids_mk Go.Av.innVs Go.Av.putBack Go.Av.objCells Go.Av.back Go.Av.resVs Go.Av.one Go.Av.freeStepG Go.Av.exA Go.Av.innAsH Go.Av.AV.innH Go.Av.CV.innH Go.Av.innHs Go.Av.AV.outnH Go.Av.CV.outnH
open Go Go.Av
attribute [local irreducible] T ACalls eTy eTm MTy.kind MTy.kids MTm.kind MTm.name MTm.num MTm.ty MTm.fr MTm.label MTm.kids
attribute [local simp] eTy_def eTm_def
set_option maxHeartbeats 4000000

end Go.Proofs.YtgpgcnahoieedaaDoor

namespace Go.Proofs.YtgpgcnahoieedaaDoor
attribute [-simp] Go.Av.keepL Go.Av.ups Go.Av.take_app_len Go.Av.MCo.kind_mk Go.Av.MCo.tag_mk Go.Av.MCo.label_mk Go.Av.MCo.kids_mk Go.Av.innVs Go.Av.putBack Go.Av.objCells Go.Av.back Go.Av.resVs Go.Av.one Go.Av.freeStepG Go.Av.exA Go.Av.innAsH Go.Av.AV.innH Go.Av.CV.innH Go.Av.innHs Go.Av.AV.outnH Go.Av.CV.outnH
open Go Go.Av
attribute [local irreducible] T ACalls eTy eTm MTy.kind MTy.kids MTm.kind MTm.name MTm.num MTm.ty MTm.fr MTm.label MTm.kids
attribute [local simp] eTy_def eTm_def
set_option maxHeartbeats 4000000

theorem shape_nTy : ∀ (d : Nat) (t : MTy), shapeTy d t = true → nTy t + 2 ≤ 2 ^ d
  | 0, t, h => by simp [shapeTy] at h
  | d + 1, t, h => by
    obtain ⟨e, he, _, hl, hs⟩ := shapeTy_kids h
    obtain rfl : d = e := by omega
    rw [nTy_def]
    have hp : 1 ≤ 2 ^ d := Nat.one_le_two_pow
    have hpow : 2 ^ (d + 1) = 2 * 2 ^ d := by rw [Nat.pow_succ]; omega
    match hk : t.kids, hl with
    | [], _ => simp [nTyS]; omega
    | [a], _ => have := shape_nTy d a (hs a (by simp [hk])); simp [nTyS]; omega
    | [a, b], _ =>
      have h1 := shape_nTy d a (hs a (by simp [hk]))
      have h2 := shape_nTy d b (hs b (by simp [hk]))
      simp [nTyS]; omega

theorem shape4 {t : MTy} (h : shapeTy 4 t = true) : nTy t ≤ 14 := by have := shape_nTy 4 t h; omega

end Go.Proofs.YtgpgcnahoieedaaDoor

namespace Go.Proofs.YtgpgcnahoieedaaDoor
attribute [-simp] Go.Av.keepL Go.Av.ups Go.Av.take_app_len Go.Av.MCo.kind_mk Go.Av.MCo.tag_mk Go.Av.MCo.label_mk Go.Av.MCo.kids_mk Go.Av.innVs Go.Av.putBack Go.Av.objCells Go.Av.back Go.Av.resVs Go.Av.one Go.Av.freeStepG Go.Av.exA Go.Av.innAsH Go.Av.AV.innH Go.Av.CV.innH Go.Av.innHs Go.Av.AV.outnH Go.Av.CV.outnH
open Go Go.Av
attribute [local irreducible] T ACalls eTy eTm MTy.kind MTy.kids MTm.kind MTm.name MTm.num MTm.ty MTm.fr MTm.label MTm.kids
attribute [local simp] eTy_def eTm_def
set_option maxHeartbeats 4000000

/-- The type of a term in a context, as TypeIn answers it. -/
def typeInM (ctx : List MBd) (e : MTm) : Option MTy := if ctxM ctx = true ∧ termValidM e = true then typeM ctx e else none

abbrev tyRes : Option MTy → List AV
  | some t => [aTy t, .b true]
  | none => [aTy zeroT, .b false]

end Go.Proofs.YtgpgcnahoieedaaDoor

namespace Go.Proofs.YtgpgcnahoieedaaDoor
attribute [-simp] Go.Av.take_app_len Go.Av.MCo.kind_mk Go.Av.MCo.tag_mk Go.Av.MCo.label_mk Go.Av.MCo.kids_mk Go.Av.innVs Go.Av.putBack Go.Av.objCells Go.Av.back Go.Av.resVs Go.Av.one Go.Av.freeStepG Go.Av.exA Go.Av.innAsH Go.Av.AV.innH Go.Av.CV.innH Go.Av.innHs Go.Av.AV.outnH Go.Av.CV.outnH
open Go Go.Av
attribute [local irreducible] T ACalls TX EX LX Draws Some_ ACallsX eTy eTm MTy.kind MTy.kids MTm.kind MTm.name MTm.num MTm.ty MTm.fr MTm.label MTm.kids
attribute [local simp] eTy_def eTm_def
set_option maxHeartbeats 1000000

@[simp] theorem td_rd : td Tryd.prog 40 = some { ag := true, sz := 2, by_ := 32, zero := some [.nil, .d (.int .i64 0)], el := none, ar := none, fl := [(0, 1), (1, 1)], ik := none, isS := false, isB := false } := keep (by kernel_rfl)
@[simp] theorem td_u8 : td Tryd.prog 5 = some { ag := false, sz := 1, by_ := 1, zero := some [.d (.int .u8 0)], el := none, ar := none, fl := [], ik := some .u8, isS := false, isB := false } := keep (by kernel_rfl)
@[simp] theorem td_u8S : td Tryd.prog 22 = some { ag := false, sz := 1, by_ := 24, zero := some [.nil], el := some 5, ar := none, fl := [], ik := none, isS := false, isB := false } := keep (by kernel_rfl)

/-- What pick answers, as a contract. -/
theorem pick_at (b : List Int) (hb : okB b) (p : Nat) (hp : p ≤ 1099511627776) (n : Int) (hn : n ≤ 1099511627776) :
    ∃ r : Nat, (r = 0 ∨ (r : Int) < n) ∧ ACalls Tryd.prog 10 [.c (.ptr 0 0), .i n] (dV [rd b p]) (.i r) (dV [rd b (p + 1)]) [] := by
  by_cases hn1 : n < 1
  · refine ⟨0, .inl rfl, ?_⟩
    refine ACalls.of_body Tryd.func10 (by kernel_rfl) rfl (by kernel_rfl) (by simp [Tryd.ntmps10]) (by simp) ?_
    rw [Tryd.ntmps10]
    repeat' first | (refine aops_end (hK _ ?_); clear hK K) | (refine aops_go ?_; simp [hn1]; (try simp (disch := omega) only [wrap64]); (try (refine gen fun q hq => ?_; cases q <;> (try simp [hn1] at hq) <;> (try (have hh : True := hq; clear hh hq))))) | (refine T.ret (Done.obj1 (Or.inr rfl) ?_ ?_ ?_) <;> simp [Tryd.results10] <;> omega) | refine T.r0 fun K hK => ?_ | refine T.ct rfl ?_ | refine T.seq ?_
  by_cases hb0 : b = []
  · refine ⟨0, .inl rfl, ?_⟩
    subst hb0
    refine ACalls.of_body Tryd.func10 (by kernel_rfl) rfl (by kernel_rfl) (by simp [Tryd.ntmps10]) (by simp) ?_
    rw [Tryd.ntmps10]
    repeat' first | (refine aops_end (hK _ ?_); clear hK K) | (refine aops_go ?_; simp [hn1, rB]; (try simp (disch := omega) only [wrap64]); (try (refine gen fun q hq => ?_; cases q <;> (try simp [hn1, rB] at hq) <;> (try (have hh : True := hq; clear hh hq))))) | (refine T.ret (Done.obj1 (Or.inr rfl) ?_ ?_ ?_) <;> simp [Tryd.results10, rB] <;> omega) | refine T.r0 fun K hK => ?_ | refine T.ct rfl ?_ | refine T.seq ?_
  have hbl : 0 < b.length := List.length_pos_iff.2 hb0
  have hbl0 : ¬ (b.length : Int) = 0 := by omega
  have hn0 : ¬ n = 0 := by omega
  have hp1 : ((p : Int) + 1 - 1) = p := by omega
  by_cases hpl : p < b.length
  · have hbp := hb.1 b[p] (List.getElem_mem hpl)
    obtain ⟨h1, h2⟩ := tmod_lt (n := n) hbp.1 (by omega)
    obtain ⟨r, hr⟩ := Int.eq_ofNat_of_zero_le h1
    refine ⟨r, .inr (by omega), ?_⟩
    have hx := rB_at hpl
    refine ACalls.of_body Tryd.func10 (by kernel_rfl) rfl (by kernel_rfl) (by simp [Tryd.ntmps10]) (by simp) ?_
    rw [Tryd.ntmps10]
    repeat' first | (refine aops_end (hK _ ?_); clear hK K) | (refine aops_go ?_; simp [hn1, hb0, hbl0, hn0, hp1, hpl, rB_get, rB_len, hr]; (try simp (disch := omega) only [wrap64]); (try (refine gen fun q hq => ?_; cases q <;> (try simp [hn1, hb0, hbl0, hn0, hp1, hpl, rB_get, rB_len, hr] at hq) <;> (try (have hh : True := hq; clear hh hq))))) | (refine T.ret (Done.obj1 (Or.inr rfl) ?_ ?_ ?_) <;> simp [Tryd.results10] <;> omega) | refine T.r0 fun K hK => ?_ | refine T.ct rfl ?_ | refine T.cf rfl ?_ | refine T.seq ?_ | refine T.skip ?_
  · have hm1 : p % b.length < b.length := Nat.mod_lt _ hbl
    have hm2 : (p * 7 + 3) % b.length < b.length := Nat.mod_lt _ hbl
    have e1 : (p : Int).tmod b.length = ((p % b.length : Nat) : Int) := by rw [Int.tmod_eq_emod_of_nonneg (by omega)]; simp
    have e2 : ((p : Int) * 7 + 3).tmod b.length = (((p * 7 + 3) % b.length : Nat) : Int) := by rw [Int.tmod_eq_emod_of_nonneg (by omega)]; simp
    have hb1 := hb.1 _ (List.getElem_mem hm1)
    have hb2 := hb.1 _ (List.getElem_mem hm2)
    generalize p % b.length = i1 at *
    generalize (p * 7 + 3) % b.length = i2 at *
    obtain ⟨hd1, hd2⟩ := tdiv_le (a := (p : Int)) (n := b.length) (by omega) (by omega)
    generalize hD : (p : Int).tdiv b.length = D at hd1 hd2
    generalize hC1 : b[i1] = c1 at hb1
    generalize hC2 : b[i2] = c2 at hb2
    obtain ⟨X, hX⟩ : ∃ X, X = c1 * 131 + c2 * 1117 + (p : Int) * 29 + D * 53 := ⟨_, rfl⟩
    have hX0 : 0 ≤ X ∧ X ≤ 1152921504606846976 := by omega
    obtain ⟨hy1, hy2⟩ := tdiv_le (a := X) (n := 64) (by omega) (by omega)
    obtain ⟨hz1, hz2⟩ := xor_bound (x := X) (y := X.tdiv 64) hX0.1 (by omega) hy1 (by omega)
    generalize hZ : bitI .xor .i64 X (X.tdiv 64) = Z at hz1 hz2
    obtain ⟨h1, h2⟩ := tmod_lt (n := n) hz1 (by omega)
    obtain ⟨r, hr⟩ := Int.eq_ofNat_of_zero_le h1
    refine ⟨r, .inr (by omega), ?_⟩
    refine ACalls.of_body Tryd.func10 (by kernel_rfl) rfl (by kernel_rfl) (by simp [Tryd.ntmps10]) (by simp) ?_
    rw [Tryd.ntmps10]
    repeat' first | ((first | refine aops_end (hK _ ?_) | refine aopsD_end (hK _ ?_)); clear hK K) | ((first | refine aops_go ?_ | refine aopsD_go ?_); simp [hn1, hb0, hbl0, hn0, hp1, hpl, e1, e2, rB_get, rB_len, hm1, hm2, hC1, hC2, hD, ← hX, hZ, hr]; (try simp (disch := omega) only [wrap64]); (try (refine gen fun q hq => ?_; cases q <;> (try simp [hn1, hb0, hbl0, hn0, hp1, hpl, e1, e2, rB_get, rB_len, hm1, hm2, hC1, hC2, hD, ← hX, hZ, hr] at hq) <;> (try (have hh : True := hq; clear hh hq))))) | (refine T.ret (Done.obj1 (Or.inr rfl) ?_ ?_ ?_) <;> simp [Tryd.results10] <;> omega) | refine T.rd (id := 7) mixed (fun _ => false) [] (by kernel_rfl) fun K hK => ?_ | refine T.r0 fun K hK => ?_ | refine T.cf rfl ?_ | refine T.seq ?_ | refine T.skip ?_




abbrev ints (l : List Int) : List (List DV) := l.map fun n => [.i n]
abbrev strs (l : List (List UInt8)) : List (List DV) := l.map fun s => [.str s]

theorem pick_ok (b : List Int) (hb : okB b) (p : Nat) (hp : p ≤ 1099511627776) (n : Int) (hn : n ≤ 1099511627776) :
    Draws Tryd.prog 10 [.i n] b p 1 (RV (fun r : Nat => .i r) noA fun r => r = 0 ∨ (r : Int) < n) := by
  obtain ⟨r, hr, hc⟩ := pick_at b hb p hp n hn
  exact Draws.mk (p' := p + 1) r hr (by omega) (by omega) hc

theorem num_ok (b : List Int) (hb : okB b) (p : Nat) (hp : p ≤ 1099511627776) (l : List Int) (hl : l ≠ []) (hll : l.length ≤ 1000) :
    Draws Tryd.prog 18 [.l (ints l)] b p 1 (RV (fun x : Int => .i x) noA fun x => x ∈ l) := by
  obtain ⟨r, hr, hc⟩ := pick_at b hb p hp l.length (by omega)
  have hlp : 0 < l.length := List.length_pos_iff.2 hl
  have hrl : r < l.length := by rcases hr with h | h <;> omega
  obtain ⟨x, hx⟩ := get_lt hrl
  have hgx : l[r] = x := by rw [List.getElem?_eq_getElem hrl] at hx; exact Option.some.inj hx
  refine Draws.mk (p' := p + 1) x (List.mem_of_getElem? hx) (by omega) (by omega) ?_
  refine ACalls.of_body Tryd.func18 (by kernel_rfl) rfl (by kernel_rfl) (by simp [Tryd.ntmps18]) (by simp) ?_
  rw [Tryd.ntmps18]
  repeat' first | (refine aops_end (hK _ ?_); clear hK K) | (refine aops_go ?_; simp [hrl, hgx]; (try (refine gen fun q hq => ?_; cases q <;> (try simp [hrl, hgx] at hq) <;> (try (have hh : True := hq; clear hh hq))))) | (refine wpcall_upd1 0 (rd b p) (rd b (p + 1)) rfl (by simp) hc ?_; simp [hrl, hgx]) | (refine T.ret (Done.obj1 (Or.inr rfl) ?_ ?_ ?_) <;> simp [Tryd.results18] <;> omega) | refine T.r0 fun K hK => ?_

theorem l18Open_ok (b : List Int) (hb : ∀ n ∈ b, 0 ≤ n ∧ n ≤ 255) : ∃ b' p', okB b' ∧ p' = 0 ∧ ACalls Tryd.prog 8 [.l (rB b)] [] (.c (.ptr 0 0)) (dV [rd b' p']) [] := by
  by_cases hl : (2000 : Int) < b.length
  · refine ⟨b.take 2000, 0, ⟨fun n hn => hb n (List.mem_of_mem_take hn), by simp; omega⟩, rfl, ?_⟩
    have hr : ∀ r ∈ rB b, r.length = 1 := by intro r hr; simp [rB] at hr; obtain ⟨a, _, rfl⟩ := hr; rfl
    have ht : (rB b).take 2000 = rB (b.take 2000) := by simp [rB, List.map_take]
    refine ACalls.of_body Tryd.func8 (by kernel_rfl) rfl (by kernel_rfl) (by simp [Tryd.ntmps8]) (by simp) ?_
    rw [Tryd.ntmps8]
    repeat' first | (refine aops_end (hK _ ?_); clear hK K) | (refine aops_go ?_; simp [hl, rB_len, ht]; (try (refine gen fun q hq => ?_; cases q <;> (try simp [hl, rB_len, ht] at hq) <;> (try (have hh : True := hq; clear hh hq))))) | (refine ⟨by omega, hr, ?_⟩) | refine T.r0 fun K hK => ?_ | refine T.r1 fun K hK => ?_ | refine T.ct rfl ?_ | refine T.seq ?_
    refine T.ret (Done.new1 0 (Or.inr rfl) ?_ ?_) <;> simp [resAs, Tryd.results8]
  · refine ⟨b, 0, ⟨hb, by omega⟩, rfl, ?_⟩
    refine ACalls.of_body Tryd.func8 (by kernel_rfl) rfl (by kernel_rfl) (by simp [Tryd.ntmps8]) (by simp) ?_
    rw [Tryd.ntmps8]
    repeat' first | (refine aops_end (hK _ ?_); clear hK K) | (refine aops_go ?_; simp [hl, rB_len]; (try (refine gen fun q hq => ?_; cases q <;> (try simp [hl, rB_len] at hq) <;> (try (have hh : True := hq; clear hh hq))))) | refine T.r0 fun K hK => ?_ | refine T.cf rfl ?_ | refine T.seq ?_ | refine T.skip ?_
    refine T.ret (Done.new1 0 (Or.inr rfl) ?_ ?_) <;> simp [resAs, Tryd.results8]
end Go.Proofs.YtgpgcnahoieedaaDoor

namespace Go.Proofs.YtgpgcnahoieedaaDoor
attribute [-simp] Go.Av.take_app_len Go.Av.MCo.kind_mk Go.Av.MCo.tag_mk Go.Av.MCo.label_mk Go.Av.MCo.kids_mk Go.Av.innVs Go.Av.putBack Go.Av.objCells Go.Av.back Go.Av.resVs Go.Av.one Go.Av.freeStepG Go.Av.exA Go.Av.innAsH Go.Av.AV.innH Go.Av.CV.innH Go.Av.innHs Go.Av.AV.outnH Go.Av.CV.outnH
open Go Go.Av
attribute [local irreducible] T ACalls TX EX LX Draws Some_ ACallsX eTy eTm MTy.kind MTy.kids MTm.kind MTm.name MTm.num MTm.ty MTm.fr MTm.label MTm.kids
attribute [local simp] eTy_def eTm_def
set_option maxHeartbeats 1000000

theorem l1Draw_ok (b : List Int) (hb : okB b) : ∀ (d p : Nat), d ≤ 100 → p + 4 ^ (d + 1) ≤ 1099511627776 → Draws Tryd.prog 27 [.i (d + 1)] b p (4 ^ (d + 1)) (RV aTy noA fun t => shapeTy (d + 1) t = true) := by
  intro d
  induction d with
  | zero =>
    intro p hd100 hp
    refine Draws.of_body Tryd.func27 (by kernel_rfl) rfl (by kernel_rfl) (by simp [Tryd.ntmps27]) ?_
    rw [Tryd.ntmps27]
    repeat' first | (refine aops_end (hK _ ?_); clear hK K) | (refine aops_go ?_; simp [tyKids]; (try simp (disch := omega) only [wrap64]); (try (refine gen fun q hq => ?_; cases q <;> (try simp [tyKids] at hq) <;> (try (have hh : True := hq; clear hh hq))))) | (refine wpcall_pure rfl (l1Kids_ok _) ?_; simp [tyKids]; (try simp (disch := omega) only [wrap64]); (try (refine gen fun q hq => ?_; cases q <;> (try simp [tyKids] at hq) <;> (try (have hh : True := hq; clear hh hq))))) | (refine wpcall_dr 0 rfl rfl (num_ok b hb _ (by omega) [2, 1, 4, 3, 5, 2, 4] (by simp) (by simp)) (fun x p1 hx hp1 hp1' => ?_); simp at hx; rcases hx with rfl | rfl | rfl | rfl | rfl | rfl | rfl <;> (simp [tyKids]; (try simp (disch := omega) only [wrap64]))) | refine TX.rs (fun _ => false) fun K hK => ?_ | refine TX.rs1 (fun _ => false) fun K hK => ?_ | refine TX.cond rfl (fun hcnd => ?_) (fun hcnd => absurd hcnd (by decide)) | refine TX.cond rfl (fun hcnd => absurd hcnd (by decide)) (fun hcnd => ?_) | refine TX.seq ?_ | refine TX.block ?_ | refine TX.skip ?_ | refine TX.exit ?_ | refine EX.thenN ?_ | refine EX.thenE ?_ | refine EX.blockE ?_ | refine EX.unrE ?_ | refine TX.unroll ?_
    all_goals (
      refine TX.ret ?_
      repeat' first | refine EX.outR ?_ | refine EX.thenR ?_ | refine EX.blockR ?_ | refine EX.unrR ?_
      apply EX.drA (ks := [])
      case he => exact Or.inr rfl
      case hys => simp [resAs, getAs, Tryd.results27] <;> rfl
      case hv => first | (dsimp only [Av.one]; exact rfl) | dsimp only [Av.one]
      case hx => repeat' first | exact IsT2.var _ | exact IsV.tmv _ | exact IsTm.var _ | exact IsTy.row _ | exact IsTm.row _ | exact IsTys.nil | exact IsTms.nil | exact IsBds.nil | exact IsTys.map _ | exact IsTms.map _ | exact IsBds.map _ | exact IsV.int _ | exact IsV.str _ | exact IsV.bool _ | apply IsV.p2 | apply IsV.p3 | apply IsV.tm | apply IsV.ty | apply IsTm.node | apply IsTy.of | apply IsTys.cons | apply IsTms.cons | apply IsBds.cons | apply IsV.tys | apply IsV.tms | apply IsV.bds | apply IsT2.node | apply IsTys.app | apply IsTms.app | apply IsBds.app
      case hA => exact rfl
      case hks => simp
      case hV => exact rfl
      case h1 => omega
      case h2 => omega
      case hg => simp [shape_mk, tyKids, *])
  | succ d ih =>
    intro p hd100 hp
    have h4 : 4 ^ (d + 1 + 1) = 4 * 4 ^ (d + 1) := by rw [Nat.pow_succ]; omega
    have h1 : 1 ≤ 4 ^ (d + 1) := Nat.pos_of_ne_zero (by simp)
    have hd : ¬ ((d : Int) + 1 + 1 < 2) := by omega
    have hd2 : (d : Int) + 1 + 1 - 1 = d + 1 := by omega
    rw [h4] at hp ⊢
    generalize hN : 4 ^ (d + 1) = N at *
    refine Draws.of_body Tryd.func27 (by kernel_rfl) rfl (by kernel_rfl) (by simp [Tryd.ntmps27]) ?_
    rw [Tryd.ntmps27]
    repeat' first | ((first | refine aops_end (hK _ ?_) | refine aopsF_end (hK _ ?_)); clear hK K) | ((first | refine aops_go ?_ | refine aopsF_go ?_); simp [tyKids, hd, hd2]; (try simp (disch := omega) only [wrap64]); (try (refine gen fun q hq => ?_; cases q <;> (try simp [tyKids, hd, hd2] at hq) <;> (try (have hh : True := hq; clear hh hq))))) | (refine wpcall_pure rfl (l1Kids_ok _) ?_; simp [tyKids, hd, hd2]; (try simp (disch := omega) only [wrap64]); (try (refine gen fun q hq => ?_; cases q <;> (try simp [tyKids, hd, hd2] at hq) <;> (try (have hh : True := hq; clear hh hq))))) | (refine wpcall_dr 0 rfl rfl (num_ok b hb _ (by omega) [2, 1, 4, 3, 5, 2, 4] (by simp) (by simp)) (fun x p1 hx hp1 hp1' => ?_); simp at hx; rcases hx with rfl | rfl | rfl | rfl | rfl | rfl | rfl <;> (simp [tyKids, hd, hd2]; (try simp (disch := omega) only [wrap64]))) | (refine wpcall_dr 0 rfl rfl (ih _ (by omega) (by omega)) (fun x1 p1 hx1 hp1 hp1' => ?_); simp [tyKids, hd, hd2]; (try simp (disch := omega) only [wrap64]); (try (refine gen fun q hq => ?_; cases q <;> (try simp [tyKids, hd, hd2] at hq) <;> (try (have hh : True := hq; clear hh hq))))) | refine TX.rdF1 (id := 8) mixed (fun _ => false) [5, 7, 9] [1] 6 [0] (by kernel_rfl) fun K hK => ?_ | refine TX.rs (fun _ => false) fun K hK => ?_ | refine TX.rs1 (fun _ => false) fun K hK => ?_ | refine TX.cond rfl (fun hcnd => ?_) (fun hcnd => absurd hcnd (by decide)) | refine TX.cond rfl (fun hcnd => absurd hcnd (by decide)) (fun hcnd => ?_) | refine TX.seq ?_ | refine TX.block ?_ | refine TX.skip ?_ | refine TX.exit ?_ | refine EX.thenN ?_ | refine EX.thenE ?_ | refine EX.blockN ?_ | refine EX.blockE ?_ | refine EX.unrE ?_ | refine EX.againN ?_ | refine TX.unroll ?_
    all_goals (
      refine TX.ret ?_
      repeat' first | refine EX.outR ?_ | refine EX.thenR ?_ | refine EX.blockR ?_ | refine EX.unrR ?_
      apply EX.drA (ks := [])
      case he => exact Or.inr rfl
      case hys => simp [resAs, getAs, Tryd.results27] <;> rfl
      case hv => first | (dsimp only [Av.one]; exact rfl) | dsimp only [Av.one]
      case hx => repeat' first | exact IsT2.var _ | exact IsV.tmv _ | exact IsTm.var _ | exact IsTy.row _ | exact IsTm.row _ | exact IsTys.nil | exact IsTms.nil | exact IsBds.nil | exact IsTys.map _ | exact IsTms.map _ | exact IsBds.map _ | exact IsV.int _ | exact IsV.str _ | exact IsV.bool _ | apply IsV.p2 | apply IsV.p3 | apply IsV.tm | apply IsV.ty | apply IsTm.node | apply IsTy.of | apply IsTys.cons | apply IsTms.cons | apply IsBds.cons | apply IsV.tys | apply IsV.tms | apply IsV.bds | apply IsT2.node | apply IsTys.app | apply IsTms.app | apply IsBds.app
      case hA => exact rfl
      case hks => simp
      case hV => exact rfl
      case h1 => omega
      case h2 => omega
      case hg => simp [shape_mk, tyKids, *])

theorem l1Type_ok (b : List Int) (hb : okB b) (p : Nat) (hp : p + 300 ≤ 1099511627776) : Draws Tryd.prog 16 [] b p 300 (RV aTy noA fun t => shapeTy 4 t = true) := by
  refine Draws.of_body Tryd.func16 (by kernel_rfl) rfl (by kernel_rfl) (by simp [Tryd.ntmps16]) ?_
  rw [Tryd.ntmps16]
  repeat' first | (refine aops_end (hK _ ?_); clear hK K) | (refine aops_go ?_; simp; (try (refine gen fun q hq => ?_; cases q <;> (try simp at hq) <;> (try (have hh : True := hq; clear hh hq))))) | (refine wpcall_dr 0 rfl rfl (num_ok b hb _ (by omega) [3, 2, 4, 1, 3] (by simp) (by simp)) (fun x p1 hx hp1 hp1' => ?_); simp at hx; rcases hx with rfl | rfl | rfl | rfl | rfl <;> (simp)) | (refine wpcall_dr 0 rfl rfl (l1Draw_ok b hb 3 _ (by omega) (by omega)) (fun x1 p1 hx1 hp1 hp1' => ?_); simp; (try (refine gen fun q hq => ?_; cases q <;> (try simp at hq) <;> (try (have hh : True := hq; clear hh hq))))) | (refine wpcall_dr 0 rfl rfl (l1Draw_ok b hb 2 _ (by omega) (by omega)) (fun x1 p1 hx1 hp1 hp1' => ?_); simp; (try (refine gen fun q hq => ?_; cases q <;> (try simp at hq) <;> (try (have hh : True := hq; clear hh hq))))) | (refine wpcall_dr 0 rfl rfl (l1Draw_ok b hb 1 _ (by omega) (by omega)) (fun x1 p1 hx1 hp1 hp1' => ?_); simp; (try (refine gen fun q hq => ?_; cases q <;> (try simp at hq) <;> (try (have hh : True := hq; clear hh hq))))) | (refine wpcall_dr 0 rfl rfl (l1Draw_ok b hb 0 _ (by omega) (by omega)) (fun x1 p1 hx1 hp1 hp1' => ?_); simp; (try (refine gen fun q hq => ?_; cases q <;> (try simp at hq) <;> (try (have hh : True := hq; clear hh hq))))) | refine TX.rs (fun _ => false) fun K hK => ?_
  all_goals (
    refine TX.ret ?_
    repeat' first | refine EX.outR ?_ | refine EX.thenR ?_ | refine EX.blockR ?_ | refine EX.unrR ?_
    apply EX.drA (ks := [])
    case he => exact Or.inr rfl
    case hys => simp [resAs, getAs, Tryd.results16] <;> rfl
    case hv => first | (dsimp only [Av.one]; exact rfl) | dsimp only [Av.one]
    case hx => repeat' first | exact IsT2.var _ | exact IsV.tmv _ | exact IsTm.var _ | exact IsTy.row _ | exact IsTm.row _ | exact IsTys.nil | exact IsTms.nil | exact IsBds.nil | exact IsTys.map _ | exact IsTms.map _ | exact IsBds.map _ | exact IsV.int _ | exact IsV.str _ | exact IsV.bool _ | apply IsV.p2 | apply IsV.p3 | apply IsV.tm | apply IsV.ty | apply IsTm.node | apply IsTy.of | apply IsTys.cons | apply IsTms.cons | apply IsBds.cons | apply IsV.tys | apply IsV.tms | apply IsV.bds | apply IsT2.node | apply IsTys.app | apply IsTms.app | apply IsBds.app
    case hA => exact rfl
    case hks => simp
    case hV => exact rfl
    case h1 => omega
    case h2 => omega
    case hg => first | assumption | exact shapeTy_mono (by assumption) | exact shapeTy_mono (shapeTy_mono (by assumption)) | exact shapeTy_mono (shapeTy_mono (shapeTy_mono (by assumption))))

end Go.Proofs.YtgpgcnahoieedaaDoor

namespace Go.Proofs.YtgpgcnahoieedaaDoor
attribute [-simp] Go.Av.take_app_len Go.Av.MCo.kind_mk Go.Av.MCo.tag_mk Go.Av.MCo.label_mk Go.Av.MCo.kids_mk Go.Av.innVs Go.Av.putBack Go.Av.objCells Go.Av.back Go.Av.resVs Go.Av.one Go.Av.freeStepG Go.Av.exA Go.Av.innAsH Go.Av.AV.innH Go.Av.CV.innH Go.Av.innHs Go.Av.AV.outnH Go.Av.CV.outnH
open Go Go.Av
attribute [local irreducible] T ACalls TX EX LX Draws Some_ ACallsX eTy eTm MTy.kind MTy.kids MTm.kind MTm.name MTm.num MTm.ty MTm.fr MTm.label MTm.kids
attribute [local simp] eTy_def eTm_def
set_option maxHeartbeats 16000000
set_option maxRecDepth 8000

theorem l1DrawT_ok (b : List Int) (hb : okB b) (x : Int) (hx : x = 1 ∨ x = 2 ∨ x = 3 ∨ x = 4) (p : Nat) (hp : p + 256 ≤ 1099511627776) : Draws Tryd.prog 27 [.i x] b p 256 (RV aTy noA fun t => shapeTy 4 t = true) := by
  rcases hx with rfl | rfl | rfl | rfl
  · exact (l1Draw_ok b hb 0 p (by omega) (by omega)).mono (by omega) fun t h => shapeTy_mono (shapeTy_mono (shapeTy_mono h))
  · exact (l1Draw_ok b hb 1 p (by omega) (by omega)).mono (by omega) fun t h => shapeTy_mono (shapeTy_mono h)
  · exact (l1Draw_ok b hb 2 p (by omega) (by omega)).mono (by omega) fun t h => shapeTy_mono h
  · exact (l1Draw_ok b hb 3 p (by omega) (by omega)).mono (by omega) fun t h => h

end Go.Proofs.YtgpgcnahoieedaaDoor

namespace Go.Proofs.YtgpgcnahoieedaaDoor
attribute [-simp] Go.Av.take_app_len Go.Av.MCo.kind_mk Go.Av.MCo.tag_mk Go.Av.MCo.label_mk Go.Av.MCo.kids_mk Go.Av.innVs Go.Av.putBack Go.Av.objCells Go.Av.back Go.Av.resVs Go.Av.one Go.Av.freeStepG Go.Av.exA Go.Av.innAsH Go.Av.AV.innH Go.Av.CV.innH Go.Av.innHs Go.Av.AV.outnH Go.Av.CV.outnH
open Go Go.Av
attribute [local irreducible] T ACalls TX EX LX Draws Some_ ACallsX eTy eTm MTy.kind MTy.kids MTm.kind MTm.name MTm.num MTm.ty MTm.fr MTm.label MTm.kids
attribute [local simp] eTy_def eTm_def
set_option maxHeartbeats 16000000
set_option maxRecDepth 8000

end Go.Proofs.YtgpgcnahoieedaaDoor

namespace Go.Proofs.YtgpgcnahoieedaaDoor
attribute [-simp] Go.Av.MCo.kind_mk Go.Av.MCo.tag_mk Go.Av.MCo.label_mk Go.Av.MCo.kids_mk Go.Av.innVs Go.Av.putBack Go.Av.objCells Go.Av.back Go.Av.resVs Go.Av.one Go.Av.freeStepG Go.Av.exA Go.Av.innAsH Go.Av.AV.innH Go.Av.CV.innH Go.Av.innHs Go.Av.AV.outnH Go.Av.CV.outnH
open Go Go.Av
attribute [local irreducible] T ACalls TX EX LX Draws Some_ ACallsX eTy eTm MTy.kind MTy.kids MTm.kind MTm.name MTm.num MTm.ty MTm.fr MTm.label MTm.kids
attribute [local simp] eTy_def eTm_def
set_option maxHeartbeats 16000000
set_option maxRecDepth 8000

end Go.Proofs.YtgpgcnahoieedaaDoor

namespace Go.Proofs.YtgpgcnahoieedaaDoor
attribute [-simp] Go.Av.MCo.kind_mk Go.Av.MCo.tag_mk Go.Av.MCo.label_mk Go.Av.MCo.kids_mk Go.Av.innVs Go.Av.putBack Go.Av.objCells Go.Av.back Go.Av.resVs Go.Av.one Go.Av.freeStepG Go.Av.exA Go.Av.innAsH Go.Av.AV.innH Go.Av.CV.innH Go.Av.innHs Go.Av.AV.outnH Go.Av.CV.outnH
open Go Go.Av
attribute [local irreducible] T ACalls TX EX LX Draws Some_ ACallsX eTy eTm MTy.kind MTy.kids MTm.kind MTm.name MTm.num MTm.ty MTm.fr MTm.label MTm.kids
attribute [local simp] eTy_def eTm_def
set_option maxHeartbeats 16000000
set_option maxRecDepth 8000

def mkN : Nat → Nat | 0 => 0 | m + 1 => 3 * (mkN m + 1) + 3000
def mkB : Nat → Nat | 0 => 0 | m + 1 => 3 * (mkB m + 102) + 100

theorem shapeTy_le {m n : Nat} {t : MTy} (h : m ≤ n) (ht : shapeTy m t = true) : shapeTy n t = true := by
  induction n with
  | zero => have : m = 0 := by omega
            subst this; exact ht
  | succ n ih =>
    by_cases e : m = n + 1
    · subst e; exact ht
    · exact shapeTy_mono (ih (by omega))

end Go.Proofs.YtgpgcnahoieedaaDoor

namespace Go.Proofs.YtgpgcnahoieedaaDoor
attribute [-simp] Go.Av.MCo.kind_mk Go.Av.MCo.tag_mk Go.Av.MCo.label_mk Go.Av.MCo.kids_mk Go.Av.innVs Go.Av.putBack Go.Av.objCells Go.Av.back Go.Av.resVs Go.Av.one Go.Av.freeStepG Go.Av.exA Go.Av.innAsH Go.Av.AV.innH Go.Av.CV.innH Go.Av.innHs Go.Av.AV.outnH Go.Av.CV.outnH
open Go Go.Av
attribute [local irreducible] T ACalls TX EX LX Draws Some_ ACallsX eTy eTm MTy.kind MTy.kids MTm.kind MTm.name MTm.num MTm.ty MTm.fr MTm.label MTm.kids
attribute [local simp] eTy_def eTm_def
set_option maxHeartbeats 16000000
set_option maxRecDepth 8000

end Go.Proofs.YtgpgcnahoieedaaDoor
