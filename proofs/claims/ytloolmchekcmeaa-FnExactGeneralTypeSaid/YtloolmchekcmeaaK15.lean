/- A part of the library of this seat. -/
import Derived.Test.YtloolmchekcmeaaK14
set_option linter.unusedVariables false
set_option linter.unusedSimpArgs false
namespace Go.Proofs.Ytloolmchekcmeaa
attribute [-simp] Go.Av.innAsH Go.Av.AV.innH Go.Av.CV.innH Go.Av.innHs Go.Av.AV.outnH Go.Av.CV.outnH Go.Av.astepJ Go.Av.relC Go.Av.relL Go.Av.relV Go.Av.relVs Go.Av.callJ
open Go Go.Av
attribute [local irreducible] T ACalls TX EX LX Draws Some_ ACallsX eTy eTm MTy.kind MTy.kids MTm.kind MTm.name MTm.num MTm.ty MTm.fr MTm.label MTm.kids
attribute [local simp] eTy_def eTm_def
set_option maxHeartbeats 16000000
set_option maxRecDepth 8000
attribute [local simp] Option.bind

end Go.Proofs.Ytloolmchekcmeaa

namespace Go.Proofs.Ytloolmchekcmeaa
attribute [-simp] Go.Av.innAsH Go.Av.AV.innH Go.Av.CV.innH Go.Av.innHs Go.Av.AV.outnH Go.Av.CV.outnH Go.Av.astepJ Go.Av.relC Go.Av.relL Go.Av.relV Go.Av.relVs Go.Av.callJ
open Go Go.Av
attribute [local irreducible] T ACalls TX EX LX Draws Some_ ACallsX eTy eTm MTy.kind MTy.kids MTm.kind MTm.name MTm.num MTm.ty MTm.fr MTm.label MTm.kids
attribute [local simp] eTy_def eTm_def
set_option maxHeartbeats 16000000
set_option maxRecDepth 8000
attribute [local simp] Option.bind

end Go.Proofs.Ytloolmchekcmeaa

namespace Go.Proofs.Ytloolmchekcmeaa
attribute [-simp] Go.Av.innAsH Go.Av.AV.innH Go.Av.CV.innH Go.Av.innHs Go.Av.AV.outnH Go.Av.CV.outnH Go.Av.astepJ Go.Av.relC Go.Av.relL Go.Av.relV Go.Av.relVs Go.Av.callJ
open Go Go.Av
attribute [local irreducible] T ACalls TX EX LX Draws Some_ ACallsX eTy eTm MTy.kind MTy.kids MTm.kind MTm.name MTm.num MTm.ty MTm.fr MTm.label MTm.kids
attribute [local simp] eTy_def eTm_def
set_option maxHeartbeats 16000000
set_option maxRecDepth 8000

end Go.Proofs.Ytloolmchekcmeaa

namespace Go.Proofs.Ytloolmchekcmeaa
attribute [-simp] Go.Av.innAsH Go.Av.AV.innH Go.Av.CV.innH Go.Av.innHs Go.Av.AV.outnH Go.Av.CV.outnH Go.Av.astepJ Go.Av.relC Go.Av.relL Go.Av.relV Go.Av.relVs Go.Av.callJ
open Go Go.Av
attribute [local irreducible] T ACalls TX EX LX Draws Some_ ACallsX eTy eTm MTy.kind MTy.kids MTm.kind MTm.name MTm.num MTm.ty MTm.fr MTm.label MTm.kids
attribute [local simp] eTy_def eTm_def
set_option maxHeartbeats 16000000
set_option maxRecDepth 8000
attribute [local simp] Option.bind

theorem bare1_ok (e : MTm) (hl : kidsM e.kind = e.kids.length) : ACalls Try.prog 48 [aTm e] [] (aTm (bareG e)) [] [] := by
 have hb := base_ok 1
 by_cases h13 : e.kind = 13
 ·have h1 : e.kids.length = 1 := by rw [h13] at hl; simp [kidsM] at hl; omega
  match hk : e.kids, h1 with
  | [x], _ =>
   rw [show bareG e = x by simp [bareG, h13, hk]]
   refine ACalls.of_body Try.func48 (by kernel_rfl) rfl (by kernel_rfl) (by simp [Try.ntmps48]) (by simp) ?_
   rw [Try.ntmps48]
   repeat' first | (refine aops_end (hK _ ?_); clear hK K) | (refine aops_go ?_; simp [h13, hk]; (try (refine gen2 ?_ ?_ <;> intro hq <;> try simp [h13, hk] at hq))) | (refine T.ret (Done.val (Or.inr rfl) ?_) <;> simp [resAs, Try.results48, eTm_def] <;> omega) | refine T.r0 fun K hK => ?_ | refine T.ct rfl ?_ | refine T.seq ?_ | refine T.block ?_ | refine T.skip ?_
 by_cases h14 : e.kind = 14
 ·have h1 : e.kids.length = 1 := by rw [h14] at hl; simp [kidsM] at hl; omega
  match hk : e.kids, h1 with
  | [x], _ =>
   rw [show bareG e = x by simp [bareG, h14, hk]]
   refine ACalls.of_body Try.func48 (by kernel_rfl) rfl (by kernel_rfl) (by simp [Try.ntmps48]) (by simp) ?_
   rw [Try.ntmps48]
   repeat' first | (refine aops_end (hK _ ?_); clear hK K) | (refine aops_go ?_; simp [h14, hk]; (try (refine gen2 ?_ ?_ <;> intro hq <;> try simp [h14, hk] at hq))) | (refine T.ret (Done.val (Or.inr rfl) ?_) <;> simp [resAs, Try.results48, eTm_def] <;> omega) | refine T.r0 fun K hK => ?_ | refine T.r1 fun K hK => ?_ | refine T.ct rfl ?_ | refine T.cf rfl ?_ | refine T.seq ?_ | refine T.block ?_
 by_cases h5 : e.kind = 5
 ·rw [show bareG e = .mk 5 e.name e.num anyT e.fr e.label e.kids by simp [bareG, h5]]
  refine ACalls.of_body Try.func48 (by kernel_rfl) rfl (by kernel_rfl) (by simp [Try.ntmps48]) (by simp) ?_
  rw [Try.ntmps48]
  repeat' first | (refine aops_end (hK _ ?_); clear hK K) | ((first | refine aops_go ?_ | refine wpcall_pure rfl (hb) ?_); simp [h5]; (try (refine gen2 ?_ ?_ <;> intro hq <;> try simp [h5] at hq))) | (refine T.ret (Done.val (Or.inr rfl) ?_) <;> simp [resAs, Try.results48, h5] <;> omega) | refine T.r0 fun K hK => ?_ | refine T.r1 fun K hK => ?_ | refine T.ct rfl ?_ | refine T.cf rfl ?_ | refine T.seq ?_ | refine T.block ?_
 ·rw [show bareG e = e by simp [bareG, h13, h14, h5]]
  refine ACalls.of_body Try.func48 (by kernel_rfl) rfl (by kernel_rfl) (by simp [Try.ntmps48]) (by simp) ?_
  rw [Try.ntmps48]
  repeat' first | (refine aops_end (hK _ ?_); clear hK K) | (refine aops_go ?_; simp [h13, h14, h5]; (try (refine gen2 ?_ ?_ <;> intro hq <;> try simp [h13, h14, h5] at hq))) | (refine T.ret (Done.val (Or.inr rfl) ?_) <;> simp [resAs, Try.results48] <;> omega) | refine T.r0 fun K hK => ?_ | refine T.r1 fun K hK => ?_ | refine T.cf rfl ?_ | refine T.seq ?_ | refine T.block ?_ | refine T.skip ?_

def fitM (e : MTm) : Prop := ∃ nt d, shapeTm nt d e = true
theorem bare_ok (e : MTm) (hq : fitM e) (hn : nTm e <= 1099511627776) : ACalls Try.prog 36 [aTm e] [] (aTm (mapM bareG e)) [] [] := by
 have h := mapped_ok 48 bareG fitM (fun e h u hu => by obtain ⟨nt, d, h⟩ := h; obtain ⟨d', rfl, _, _, _, hk⟩ := shapeTm_kids h; exact ⟨nt, d', hk u hu⟩)
  (fun e h => by obtain ⟨nt, d, h⟩ := h; obtain ⟨d', rfl, _, hl, _, _⟩ := shapeTm_kids h; rw [mapM_def]; exact bare1_ok _ (by simpa using hl)) e hq hn
 generalize mapM bareG e = R at h
 refine ACalls.of_body Try.func36 (by kernel_rfl) rfl (by kernel_rfl) (by simp [Try.ntmps36]) (by simp) ?_
 rw [Try.ntmps36]
 repeat' first | (refine aops_end (hK _ ?_); clear hK K) | ((first | refine aops_go ?_ | refine wpcall_pure rfl (h) ?_); simp; (try (refine gen2 ?_ ?_ <;> intro hq <;> (try simp at hq) <;> try (have : True := hq; clear this hq)))) | (refine T.ret (Done.val (Or.inr rfl) ?_) <;> simp [resAs, Try.results36] <;> omega) | refine T.r0 fun K hK => ?_

def insertM (e : MTm) : Option (MTm × MTy) := if termValidM e = true then (elabM [] e 0).1 else none
end Go.Proofs.Ytloolmchekcmeaa

namespace Go.Proofs.Ytloolmchekcmeaa
attribute [-simp] Go.Av.astepJ Go.Av.relC Go.Av.relL Go.Av.relV Go.Av.relVs Go.Av.callJ
open Go Go.Av
attribute [local irreducible] T ACalls TX EX LX Draws Some_ ACallsX eTy eTm MTy.kind MTy.kids MTm.kind MTm.name MTm.num MTm.ty MTm.fr MTm.label MTm.kids
attribute [local simp] eTy_def eTm_def
set_option maxHeartbeats 16000000
set_option maxRecDepth 8000

end Go.Proofs.Ytloolmchekcmeaa

namespace Go.Proofs.Ytloolmchekcmeaa
attribute [-simp] Go.Av.astepJ Go.Av.relC Go.Av.relL Go.Av.relV Go.Av.relVs Go.Av.callJ
open Go Go.Av
attribute [local irreducible] T ACalls TX EX LX Draws Some_ ACallsX eTy eTm MTy.kind MTy.kids MTm.kind MTm.name MTm.num MTm.ty MTm.fr MTm.label MTm.kids
attribute [local simp] eTy_def eTm_def
set_option maxHeartbeats 16000000
set_option maxRecDepth 8000

end Go.Proofs.Ytloolmchekcmeaa

namespace Go.Proofs.Ytloolmchekcmeaa
attribute [-simp] Go.Av.innAsH Go.Av.AV.innH Go.Av.CV.innH Go.Av.innHs Go.Av.AV.outnH Go.Av.CV.outnH Go.Av.astepJ Go.Av.relC Go.Av.relL Go.Av.relV Go.Av.relVs Go.Av.callJ
open Go Go.Av
attribute [local irreducible] T ACalls TX EX LX Draws Some_ ACallsX eTy eTm MTy.kind MTy.kids MTm.kind MTm.name MTm.num MTm.ty MTm.fr MTm.label MTm.kids
attribute [local simp] eTy_def eTm_def
set_option maxHeartbeats 16000000
set_option maxRecDepth 8000

abbrev goodBd (u : MBd) : Prop := u.name ∈ ([[120], [122], [121], [88], []] : List (List UInt8)) /\ nTy u.ty <= 1000

end Go.Proofs.Ytloolmchekcmeaa
