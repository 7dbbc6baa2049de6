/- A part of the library of this seat. -/
import Derived.Test.YtloolmchekcmeaaK5
set_option linter.unusedVariables false
set_option linter.unusedSimpArgs false
namespace Go.Proofs.Ytloolmchekcmeaa
attribute [-simp] Go.Av.keepL Go.Av.ups Go.Av.take_app_len Go.Av.innVs Go.Av.putBack Go.Av.objCells Go.Av.back Go.Av.resVs Go.Av.one Go.Av.freeStepG Go.Av.exA Go.Av.innAsH Go.Av.AV.innH Go.Av.CV.innH Go.Av.innHs Go.Av.AV.outnH Go.Av.CV.outnH Go.Av.astepJ Go.Av.relC Go.Av.relL Go.Av.relV Go.Av.relVs Go.Av.callJ
open Go Go.Av
attribute [local irreducible] T ACalls eTy eTm MTy.kind MTy.kids MTm.kind MTm.name MTm.num MTm.ty MTm.fr MTm.label MTm.kids
attribute [local simp] eTy_def eTm_def
set_option maxHeartbeats 4000000

end Go.Proofs.Ytloolmchekcmeaa

namespace Go.Proofs.Ytloolmchekcmeaa
attribute [-simp] Go.Av.keepL Go.Av.ups Go.Av.take_app_len Go.Av.innVs Go.Av.putBack Go.Av.objCells Go.Av.back Go.Av.resVs Go.Av.one Go.Av.freeStepG Go.Av.exA Go.Av.innAsH Go.Av.AV.innH Go.Av.CV.innH Go.Av.innHs Go.Av.AV.outnH Go.Av.CV.outnH Go.Av.astepJ Go.Av.relC Go.Av.relL Go.Av.relV Go.Av.relVs Go.Av.callJ
open Go Go.Av
attribute [local irreducible] T ACalls eTy eTm MTy.kind MTy.kids MTm.kind MTm.name MTm.num MTm.ty MTm.fr MTm.label MTm.kids
attribute [local simp] eTy_def eTm_def
set_option maxHeartbeats 4000000

theorem l2Shape_ok : ∀ (d : Nat) (e : MTm), d <= 1000 -> nTm e <= 1099511627776 -> ACalls Try.prog 24 [aTm e, .i d] [] (.b (shapeTm 14 d e)) [] []
 | 0, e, _, _ => by
  refine ACalls.of_body Try.func24 (by kernel_rfl) rfl (by kernel_rfl) (by simp [Try.ntmps24]) (by simp) ?_
  rw [Try.ntmps24]
  repeat' first | ((first | refine aops_end (hK _ ?_) | refine aopsD_end (hK _ ?_)); clear hK K) | ((first | refine aops_go ?_ | refine aopsD_go ?_); simp; (try (refine gen2 ?_ ?_ <;> intro hq <;> try simp at hq))) | (refine T.ret (Done.data (Or.inr rfl) ?_ ?_) <;> simp [Try.results24, shapeTm] <;> omega) | refine T.rd (id := 1) mixed (fun _ => false) [] (by kernel_rfl) fun K hK => ?_ | refine T.r0 fun K hK => ?_ | refine T.ct rfl ?_ | refine T.seq ?_
 | d + 1, e, hd, hn => by
  obtain ⟨hnt, hnf, hnk, hnu⟩ := nTm_parts hn
  have hkids := l2Kids_ok e.kind
  have hd1 : ¬ ((d : Int) + 1 < 1) := by omega
  have hsh : shapeTm 14 (d + 1) e = (decide (e.kind ≠ 14) && (decide (kidsM e.kind = e.kids.length) && ownM e) && e.kids.all (shapeTm 14 d)) := rfl
  by_cases hk14 : e.kind = 14
  ·rw [hk14] at hkids
   rw [show shapeTm 14 (d + 1) e = false by rw [hsh]; simp [hk14]]
   refine ACalls.of_body Try.func24 (by kernel_rfl) rfl (by kernel_rfl) (by simp [Try.ntmps24]) (by simp) ?_
   rw [Try.ntmps24]
   repeat' first | ((first | refine aops_end (hK _ ?_) | refine aopsD_end (hK _ ?_)); clear hK K) | ((first | refine aops_go ?_ | refine aopsD_go ?_ | refine wpcall_pure rfl (hkids) ?_); simp [hd1, hk14]; (try (refine gen2 ?_ ?_ <;> intro hq <;> try simp [hd1, hk14] at hq))) | (refine T.ret (Done.data (Or.inr rfl) ?_ ?_) <;> simp [Try.results24] <;> omega) | refine T.rd (id := 1) mixed (fun _ => false) [] (by kernel_rfl) fun K hK => ?_ | refine T.r0 fun K hK => ?_ | refine T.ct rfl ?_ | refine T.seq ?_
  by_cases hlen : kidsM e.kind = e.kids.length
  rotate_left
  ·rw [show shapeTm 14 (d + 1) e = false by rw [hsh]; simp [hlen]]
   refine ACalls.of_body Try.func24 (by kernel_rfl) rfl (by kernel_rfl) (by simp [Try.ntmps24]) (by simp) ?_
   rw [Try.ntmps24]
   repeat' first | ((first | refine aops_end (hK _ ?_) | refine aopsD_end (hK _ ?_)); clear hK K) | ((first | refine aops_go ?_ | refine aopsD_go ?_ | refine wpcall_pure rfl (hkids) ?_); simp [hd1, hlen]; (try (refine gen2 ?_ ?_ <;> intro hq <;> try simp [hd1, hlen] at hq))) | (refine T.ret (Done.data (Or.inr rfl) ?_ ?_) <;> simp [Try.results24] <;> omega) | refine T.rd (id := 1) mixed (fun _ => false) [] (by kernel_rfl) fun K hK => ?_ | refine T.r0 fun K hK => ?_ | refine T.ct rfl ?_ | refine T.seq ?_
  rw [hlen] at hkids
  have hsh2 : shapeTm 14 (d + 1) e = (ownM e && e.kids.all (shapeTm 14 d)) := by rw [hsh]; simp [hk14, hlen]
  have hown := l2Own_ok e hk14 hnt
  obtain ⟨R, hR⟩ : ∃ R, e.kids.all (shapeTm 14 d) = R := ⟨_, rfl⟩
  rw [hsh2, hR]
  generalize ownM e = O at hown
  clear hsh hsh2
  cases O
  ·refine ACalls.of_body Try.func24 (by kernel_rfl) rfl (by kernel_rfl) (by simp [Try.ntmps24]) (by simp) ?_
   rw [Try.ntmps24]
   repeat' first | ((first | refine aops_end (hK _ ?_) | refine aopsD_end (hK _ ?_)); clear hK K) | ((first | refine aops_go ?_ | refine aopsD_go ?_ | refine wpcall_pure rfl (hkids) ?_ | refine wpcall_pure rfl (hown) ?_); simp [hd1, hk14]; (try (refine gen2 ?_ ?_ <;> intro hq <;> try simp [hd1, hk14] at hq))) | (refine T.ret (Done.data (Or.inr rfl) ?_ ?_) <;> simp [Try.results24] <;> omega) | refine T.rd (id := 1) mixed (fun _ => false) [] (by kernel_rfl) fun K hK => ?_ | refine T.r0 fun K hK => ?_ | refine T.ct rfl ?_ | refine T.seq ?_
  refine ACalls.of_body Try.func24 (by kernel_rfl) rfl (by kernel_rfl) (by simp [Try.ntmps24]) (by simp) ?_
  rw [Try.ntmps24]
  repeat' first | ((first | refine aops_end (hK _ ?_) | refine aopsD_end (hK _ ?_)); clear hK K) | ((first | refine aops_go ?_ | refine aopsD_go ?_ | refine wpcall_pure rfl (hkids) ?_ | refine wpcall_pure rfl (hown) ?_); simp [hd1, hk14]; (try (refine gen2 ?_ ?_ <;> intro hq <;> try simp [hd1, hk14] at hq))) | refine T.rd (id := 1) mixed (fun _ => false) [] (by kernel_rfl) fun K hK => ?_ | refine T.r0 fun K hK => ?_ | refine T.cf rfl ?_ | refine T.seq ?_ | refine T.block ?_ | refine T.skip ?_
  rw [Bool.true_and]
  refine T.loopF (fun p : Nat => ⟨[(1, .i (d + 1)), (2, .c (.ptr 0 0)), (5, .i p)], [(aTm e).cells], []⟩) (fun p => e.kids.length + 1 - p) (fun p => p <= e.kids.length /\ (e.kids.drop p).all (shapeTm 14 d) = R) (fun p hp => ?_) 0 (by simpa using hR) (by simp)
  obtain ⟨hi, he⟩ := hp
  by_cases hlt : p < e.kids.length
  ·obtain ⟨u, ht⟩ := get_lt hlt
   have htm : u ∈ e.kids := List.mem_of_getElem? ht
   have hgt : e.kids[p] = u := by rw [List.getElem?_eq_getElem hlt] at ht; exact Option.some.inj ht
   have hdr : e.kids.drop p = u :: e.kids.drop (p + 1) := by rw [List.drop_eq_getElem_cons hlt, hgt]
   have hu := l2Shape_ok d u (by omega) (hnu u htm)
   rw [hdr, List.all_cons] at he
   cases hb : shapeTm 14 d u <;> rw [hb] at hu he
   ·repeat' first | (refine aops_end (hK _ ?_); clear hK K) | ((first | refine aops_go ?_ | refine wpcall_pure rfl (hu) ?_); simp [hlt, hgt]; (try simp (disch := omega) only [wrap64]); (try (refine gen2 ?_ ?_ <;> intro hq <;> try simp [hlt, hgt] at hq))) | (refine T.ret (Done.data (Or.inr rfl) ?_ ?_) <;> simp [Try.results24, <- he] <;> omega) | refine T.r0 fun K hK => ?_ | refine T.ct rfl ?_ | refine T.seq ?_ | refine T.block ?_ | refine T.skip ?_
   ·repeat' first | (refine aops_end (hK _ ?_); clear hK K) | ((first | refine aops_go ?_ | refine wpcall_pure rfl (hu) ?_); simp [hlt, hgt]; (try simp (disch := omega) only [wrap64]); (try (refine gen2 ?_ ?_ <;> intro hq <;> try simp [hlt, hgt] at hq))) | (refine ⟨p + 1, by dsimp only; omega, ⟨by omega, by simpa using he⟩, rfl, rfl, ?_⟩; simp (disch := omega) [wrap64]) | refine T.r0 fun K hK => ?_ | refine T.r1 fun K hK => ?_ | refine T.ct rfl ?_ | refine T.cf rfl ?_ | refine T.seq ?_ | refine T.block ?_ | refine T.skip ?_
  ·have hp' : p = e.kids.length := by omega
   subst hp'
   simp at he
   repeat' first | (refine aops_end (hK _ ?_); clear hK K) | (refine aops_go ?_; simp [hlt]; (try (refine gen2 ?_ ?_ <;> intro hq <;> try simp [hlt] at hq))) | (refine T.ret (Done.data (Or.inr rfl) ?_ ?_) <;> simp [Try.results24, he] <;> omega) | refine T.r0 fun K hK => ?_ | refine T.cf rfl ?_ | refine T.seq ?_ | refine T.exit ?_

theorem TermValidS_ok (e : MTm) (hn : nTm e <= 1099511627776) : ACalls Try.prog 11 [aTm e] [] (.b (termValidM e)) [] [] := by
 have h1 := l2Shape_ok 12 e (by omega) hn
 have h2 := l2Count_ok 12 e (by omega) hn
 rw [show termValidM e = (shapeTm 14 12 e && decide (countTm 12 e <= 30)) from rfl]
 generalize shapeTm 14 12 e = a at *
 generalize countTm 12 e = b at *
 refine ACalls.of_body Try.func11 (by kernel_rfl) rfl (by kernel_rfl) (by simp [Try.ntmps11]) (by simp) ?_
 rw [Try.ntmps11]
 repeat' first | (refine aops_end (hK _ ?_); clear hK K) | ((first | refine aops_go ?_ | refine wpcall_pure rfl (h1) ?_ | refine wpcall_pure rfl (h2) ?_); simp; (try (refine gen2 ?_ ?_ <;> intro hq <;> try simp at hq))) | (refine T.ret (Done.data (Or.inr rfl) ?_ ?_) <;> simp [Try.results11, *] <;> omega) | refine T.r0 fun K hK => ?_

end Go.Proofs.Ytloolmchekcmeaa

namespace Go.Proofs.Ytloolmchekcmeaa
attribute [-simp] Go.Av.keepL Go.Av.ups Go.Av.take_app_len Go.Av.innVs Go.Av.putBack Go.Av.objCells Go.Av.back Go.Av.resVs Go.Av.one Go.Av.freeStepG Go.Av.exA Go.Av.innAsH Go.Av.AV.innH Go.Av.CV.innH Go.Av.innHs Go.Av.AV.outnH Go.Av.CV.outnH Go.Av.astepJ Go.Av.relC Go.Av.relL Go.Av.relV Go.Av.relVs Go.Av.callJ
open Go Go.Av
attribute [local irreducible] T ACalls eTy eTm MTy.kind MTy.kids MTm.kind MTm.name MTm.num MTm.ty MTm.fr MTm.label MTm.kids
attribute [local simp] eTy_def eTm_def
set_option maxHeartbeats 4000000

def typeInM (ctx : List MBd) (e : MTm) : Option MTy := if ctxM ctx = true /\ termValidM e = true then typeM ctx e else none

abbrev tyRes : Option MTy -> List AV
 | some t => [aTy t, .b true]
 | none => [aTy zeroT, .b false]

end Go.Proofs.Ytloolmchekcmeaa

namespace Go.Proofs.Ytloolmchekcmeaa
attribute [-simp] Go.Av.take_app_len Go.Av.innVs Go.Av.putBack Go.Av.objCells Go.Av.back Go.Av.resVs Go.Av.one Go.Av.freeStepG Go.Av.exA Go.Av.innAsH Go.Av.AV.innH Go.Av.CV.innH Go.Av.innHs Go.Av.AV.outnH Go.Av.CV.outnH Go.Av.astepJ Go.Av.relC Go.Av.relL Go.Av.relV Go.Av.relVs Go.Av.callJ
open Go Go.Av
attribute [local irreducible] T ACalls TX EX LX Draws Some_ ACallsX eTy eTm MTy.kind MTy.kids MTm.kind MTm.name MTm.num MTm.ty MTm.fr MTm.label MTm.kids
attribute [local simp] eTy_def eTm_def
set_option maxHeartbeats 1000000

@[simp] theorem td_u8 : td Try.prog 5 = some { ag := false, sz := 1, by_ := 1, zero := some [.d (.int .u8 0)], el := none, ar := none, fl := [], ik := some .u8, isS := false, isB := false } := keep (by kernel_rfl)
@[simp] theorem td_u8S : td Try.prog 90 = some { ag := false, sz := 1, by_ := 24, zero := some [.nil], el := some 5, ar := none, fl := [], ik := none, isS := false, isB := false } := keep (by kernel_rfl)




abbrev ints (l : List Int) : List (List DV) := l.map fun n => [.i n]
abbrev strs (l : List (List UInt8)) : List (List DV) := l.map fun s => [.str s]

end Go.Proofs.Ytloolmchekcmeaa

namespace Go.Proofs.Ytloolmchekcmeaa
attribute [-simp] Go.Av.take_app_len Go.Av.innVs Go.Av.putBack Go.Av.objCells Go.Av.back Go.Av.resVs Go.Av.one Go.Av.freeStepG Go.Av.exA Go.Av.innAsH Go.Av.AV.innH Go.Av.CV.innH Go.Av.innHs Go.Av.AV.outnH Go.Av.CV.outnH Go.Av.astepJ Go.Av.relC Go.Av.relL Go.Av.relV Go.Av.relVs Go.Av.callJ
open Go Go.Av
attribute [local irreducible] T ACalls TX EX LX Draws Some_ ACallsX eTy eTm MTy.kind MTy.kids MTm.kind MTm.name MTm.num MTm.ty MTm.fr MTm.label MTm.kids
attribute [local simp] eTy_def eTm_def
set_option maxHeartbeats 1000000

end Go.Proofs.Ytloolmchekcmeaa

namespace Go.Proofs.Ytloolmchekcmeaa
attribute [-simp] Go.Av.take_app_len Go.Av.innVs Go.Av.putBack Go.Av.objCells Go.Av.back Go.Av.resVs Go.Av.one Go.Av.freeStepG Go.Av.exA Go.Av.innAsH Go.Av.AV.innH Go.Av.CV.innH Go.Av.innHs Go.Av.AV.outnH Go.Av.CV.outnH Go.Av.astepJ Go.Av.relC Go.Av.relL Go.Av.relV Go.Av.relVs Go.Av.callJ
open Go Go.Av
attribute [local irreducible] T ACalls TX EX LX Draws Some_ ACallsX eTy eTm MTy.kind MTy.kids MTm.kind MTm.name MTm.num MTm.ty MTm.fr MTm.label MTm.kids
attribute [local simp] eTy_def eTm_def
set_option maxHeartbeats 16000000
set_option maxRecDepth 8000

end Go.Proofs.Ytloolmchekcmeaa

namespace Go.Proofs.Ytloolmchekcmeaa
attribute [-simp] Go.Av.take_app_len Go.Av.innVs Go.Av.putBack Go.Av.objCells Go.Av.back Go.Av.resVs Go.Av.one Go.Av.freeStepG Go.Av.exA Go.Av.innAsH Go.Av.AV.innH Go.Av.CV.innH Go.Av.innHs Go.Av.AV.outnH Go.Av.CV.outnH Go.Av.astepJ Go.Av.relC Go.Av.relL Go.Av.relV Go.Av.relVs Go.Av.callJ
open Go Go.Av
attribute [local irreducible] T ACalls TX EX LX Draws Some_ ACallsX eTy eTm MTy.kind MTy.kids MTm.kind MTm.name MTm.num MTm.ty MTm.fr MTm.label MTm.kids
attribute [local simp] eTy_def eTm_def
set_option maxHeartbeats 16000000
set_option maxRecDepth 8000

end Go.Proofs.Ytloolmchekcmeaa

namespace Go.Proofs.Ytloolmchekcmeaa
attribute [-simp] Go.Av.innVs Go.Av.putBack Go.Av.objCells Go.Av.back Go.Av.resVs Go.Av.one Go.Av.freeStepG Go.Av.exA Go.Av.innAsH Go.Av.AV.innH Go.Av.CV.innH Go.Av.innHs Go.Av.AV.outnH Go.Av.CV.outnH Go.Av.astepJ Go.Av.relC Go.Av.relL Go.Av.relV Go.Av.relVs Go.Av.callJ
open Go Go.Av
attribute [local irreducible] T ACalls TX EX LX Draws Some_ ACallsX eTy eTm MTy.kind MTy.kids MTm.kind MTm.name MTm.num MTm.ty MTm.fr MTm.label MTm.kids
attribute [local simp] eTy_def eTm_def
set_option maxHeartbeats 16000000
set_option maxRecDepth 8000

end Go.Proofs.Ytloolmchekcmeaa

namespace Go.Proofs.Ytloolmchekcmeaa
attribute [-simp] Go.Av.innVs Go.Av.putBack Go.Av.objCells Go.Av.back Go.Av.resVs Go.Av.one Go.Av.freeStepG Go.Av.exA Go.Av.innAsH Go.Av.AV.innH Go.Av.CV.innH Go.Av.innHs Go.Av.AV.outnH Go.Av.CV.outnH Go.Av.astepJ Go.Av.relC Go.Av.relL Go.Av.relV Go.Av.relVs Go.Av.callJ
open Go Go.Av
attribute [local irreducible] T ACalls TX EX LX Draws Some_ ACallsX eTy eTm MTy.kind MTy.kids MTm.kind MTm.name MTm.num MTm.ty MTm.fr MTm.label MTm.kids
attribute [local simp] eTy_def eTm_def
set_option maxHeartbeats 16000000
set_option maxRecDepth 8000

def mkN : Nat -> Nat | 0 => 0 | m + 1 => 3 * (mkN m + 1) + 3000
def mkB : Nat -> Nat | 0 => 0 | m + 1 => 3 * (mkB m + 102) + 100

end Go.Proofs.Ytloolmchekcmeaa

namespace Go.Proofs.Ytloolmchekcmeaa
attribute [-simp] Go.Av.innVs Go.Av.putBack Go.Av.objCells Go.Av.back Go.Av.resVs Go.Av.one Go.Av.freeStepG Go.Av.exA Go.Av.innAsH Go.Av.AV.innH Go.Av.CV.innH Go.Av.innHs Go.Av.AV.outnH Go.Av.CV.outnH Go.Av.astepJ Go.Av.relC Go.Av.relL Go.Av.relV Go.Av.relVs Go.Av.callJ
open Go Go.Av
attribute [local irreducible] T ACalls TX EX LX Draws Some_ ACallsX eTy eTm MTy.kind MTy.kids MTm.kind MTm.name MTm.num MTm.ty MTm.fr MTm.label MTm.kids
attribute [local simp] eTy_def eTm_def
set_option maxHeartbeats 16000000
set_option maxRecDepth 8000

end Go.Proofs.Ytloolmchekcmeaa
