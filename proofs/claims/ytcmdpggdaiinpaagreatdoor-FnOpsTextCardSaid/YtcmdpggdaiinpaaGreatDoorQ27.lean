/- A part of the library of this seat. -/
import Derived.Test.YtcmdpggdaiinpaaGreatDoorQ26
set_option linter.unusedVariables false
set_option linter.unusedSimpArgs false
namespace Go.Proofs.YtcmdpggdaiinpaaGreatDoor
attribute [-simp] Go.Av.MCo.kind_mk Go.Av.MCo.tag_mk Go.Av.MCo.label_mk Go.Av.MCo.kids_mk Go.Av.astepJ Go.Av.relC Go.Av.relL Go.Av.relV Go.Av.relVs Go.Av.callJ
open Go Go.Av
attribute [local irreducible] T ACalls TX EX LX Draws Some_ ACallsX eTy eTm MTy.kind MTy.kids MTm.kind MTm.name MTm.num MTm.ty MTm.fr MTm.label MTm.kids
attribute [local simp] eTy_def eTm_def
set_option maxHeartbeats 16000000
set_option maxRecDepth 8000
attribute [local simp] Option.bind

abbrev ruleR (o : Option MTm) : List AV := match o with
 | some x => [aTm x, .i 1]
 | none => [aTm zeroE, .i 3]

end Go.Proofs.YtcmdpggdaiinpaaGreatDoor

namespace Go.Proofs.YtcmdpggdaiinpaaGreatDoor
attribute [-simp] Go.Av.MCo.kind_mk Go.Av.MCo.tag_mk Go.Av.MCo.label_mk Go.Av.MCo.kids_mk Go.Av.astepJ Go.Av.relC Go.Av.relL Go.Av.relV Go.Av.relVs Go.Av.callJ
open Go Go.Av
attribute [local irreducible] T ACalls TX EX LX Draws Some_ ACallsX eTy eTm MTy.kind MTy.kids MTm.kind MTm.name MTm.num MTm.ty MTm.fr MTm.label MTm.kids
attribute [local simp] eTy_def eTm_def
set_option maxHeartbeats 16000000
set_option maxRecDepth 8000

def redM (e : MTm) : Int := if castValidM e = true then ((castsM e).length : Int) - (castsM (simpM e)).length else 0

def mixM (l : List MTm) (p : Nat) : List MTm := (l.map simpM).take p ++ l.drop p
end Go.Proofs.YtcmdpggdaiinpaaGreatDoor

namespace Go.Proofs.YtcmdpggdaiinpaaGreatDoor
attribute [-simp] Go.Av.MCo.kind_mk Go.Av.MCo.tag_mk Go.Av.MCo.label_mk Go.Av.MCo.kids_mk Go.Av.astepJ Go.Av.relC Go.Av.relL Go.Av.relV Go.Av.relVs Go.Av.callJ
open Go Go.Av
attribute [local irreducible] T ACalls TX EX LX Draws Some_ ACallsX eTy eTm MTy.kind MTy.kids MTm.kind MTm.name MTm.num MTm.ty MTm.fr MTm.label MTm.kids
attribute [local simp] eTy_def eTm_def
set_option maxHeartbeats 16000000
set_option maxRecDepth 8000
attribute [local simp] Option.bind

abbrev stepR (p : MTm × Int × Int) : List AV := [aTm p.1, .i p.2.1, .i p.2.2]

abbrev runR (p : MTm × Int × Int × Int) : List AV := [aTm p.1, .i p.2.1, .i p.2.2.1, .i p.2.2.2]

end Go.Proofs.YtcmdpggdaiinpaaGreatDoor

namespace Go.Proofs.YtcmdpggdaiinpaaGreatDoor
attribute [-simp] Go.Av.MCo.kind_mk Go.Av.MCo.tag_mk Go.Av.MCo.label_mk Go.Av.MCo.kids_mk Go.Av.astepJ Go.Av.relC Go.Av.relL Go.Av.relV Go.Av.relVs Go.Av.callJ
open Go Go.Av
attribute [local irreducible] T ACalls TX EX LX Draws Some_ ACallsX eTy eTm MTy.kind MTy.kids MTm.kind MTm.name MTm.num MTm.ty MTm.fr MTm.label MTm.kids
attribute [local simp] eTy_def eTm_def
set_option maxHeartbeats 16000000
set_option maxRecDepth 8000
attribute [local simp] Option.bind

abbrev redR (e : MTm) : List AV := match ruleM e with
 | some x => [aTm x, .i 1, .i 0]
 | none => [aTm zeroE, .i 2, .i (wrongM e.kind)]

def stepS (p : MTm × Int × Int) : MTm × Int × Int := if p.2.1 = 1 then (p.1, 1, 0) else (zeroE, p.2.1, p.2.2)

def evR (p : MTm × Int × Int × Int) : MTm × Int × Int × Int := if p.2.1 = 1 then (zeroE, 5, 0, p.2.2.2) else p

end Go.Proofs.YtcmdpggdaiinpaaGreatDoor

namespace Go.Proofs.YtcmdpggdaiinpaaGreatDoor
attribute [-simp] Go.Av.MCo.kind_mk Go.Av.MCo.tag_mk Go.Av.MCo.label_mk Go.Av.MCo.kids_mk Go.Av.astepJ Go.Av.relC Go.Av.relL Go.Av.relV Go.Av.relVs Go.Av.callJ
open Go Go.Av
attribute [local irreducible] T ACalls TX EX LX Draws Some_ ACallsX eTy eTm MTy.kind MTy.kids MTm.kind MTm.name MTm.num MTm.ty MTm.fr MTm.label MTm.kids
attribute [local simp] eTy_def eTm_def
set_option maxHeartbeats 16000000
set_option maxRecDepth 8000

end Go.Proofs.YtcmdpggdaiinpaaGreatDoor

namespace Go.Proofs.YtcmdpggdaiinpaaGreatDoor
attribute [-simp] Go.Av.MCo.kind_mk Go.Av.MCo.tag_mk Go.Av.MCo.label_mk Go.Av.MCo.kids_mk Go.Av.astepJ Go.Av.relC Go.Av.relL Go.Av.relV Go.Av.relVs Go.Av.callJ
open Go Go.Av
attribute [local irreducible] T ACalls TX EX LX Draws Some_ ACallsX eTy eTm MTy.kind MTy.kids MTm.kind MTm.name MTm.num MTm.ty MTm.fr MTm.label MTm.kids
attribute [local simp] eTy_def eTm_def
set_option maxHeartbeats 16000000
set_option maxRecDepth 8000

def castC (e : MTm) (f t : MTy) (l : Int) : MTm := if sameTy f t = true then e else tCast e f t l
end Go.Proofs.YtcmdpggdaiinpaaGreatDoor

namespace Go.Proofs.YtcmdpggdaiinpaaGreatDoor
attribute [-simp] Go.Av.MCo.kind_mk Go.Av.MCo.tag_mk Go.Av.MCo.label_mk Go.Av.MCo.kids_mk Go.Av.astepJ Go.Av.relC Go.Av.relL Go.Av.relV Go.Av.relVs Go.Av.callJ
open Go Go.Av
attribute [local irreducible] T ACalls TX EX LX Draws Some_ ACallsX eTy eTm MTy.kind MTy.kids MTm.kind MTm.name MTm.num MTm.ty MTm.fr MTm.label MTm.kids
attribute [local simp] eTy_def eTm_def
set_option maxHeartbeats 16000000
set_option maxRecDepth 8000

theorem l4Bare_lam (e : MTm) (h13 : ¬ e.kind = 13) (h14 : ¬ e.kind = 14) (h5 : e.kind = 5) (hn : nTm e <= 1073741824)
  (ih : ∀ u ∈ e.kids, ACalls Tryz.prog 94 [aTm u] [] (aTm (mapM bareG u)) [] []) : ACalls Tryz.prog 94 [aTm e] [] (aTm (.mk e.kind e.name e.num anyT zeroT 0 (e.kids.map (mapM bareG)))) [] [] := by
 have hnk2 : e.kids.length <= 1073741824 := by have := nTmS_len e.kids; rw [nTm_def] at hn; omega
 have hany := l1Any_ok
 refine ACalls.of_body Tryz.func94 (by kernel_rfl) rfl (by kernel_rfl) (by simp [Tryz.ntmps94]) (by simp) ?_
 rw [Tryz.ntmps94]
 repeat' first | (refine aops_end (hK _ ?_); clear hK K) | ((first | refine aops_go ?_ | refine wpcall_pure rfl (hany) ?_); simp [h13, h14, h5]; (try (refine gen2 ?_ ?_ <;> intro hq <;> try simp [h13, h14, h5] at hq))) | refine T.r0 fun K hK => ?_ | refine T.r1 fun K hK => ?_ | refine T.ct rfl ?_ | refine T.cf rfl ?_ | refine T.seq ?_ | refine T.block ?_ | refine T.skip ?_
 refine T.ownifyObj 2 8 9 81 (row := [.d (.i 5), .d (.str e.name), .d (.i e.num), .d (.i 1), .d (.sl []), .d (.i 0), .nil, .d (.i 0), .nil]) (by simp) (by simp) ?_
 refine T.loopK (α := Nat) [1, 2, 3] (fun x => [(4, .i x)]) (fun x => [(2, [.d (.i 5), .d (.str e.name), .d (.i e.num), .d (.i 1), .d (.sl []), .d (.i 0), .nil, .d (.i 0), .own 0 x])]) (fun x => []) (fun p _ => [{ sz := 9, ety := 81, rows := ((e.kids.map (mapM bareG)).take p).map eTm, wr := true }]) (fun x => e.kids.length + 1 - x) (fun x => x <= e.kids.length) (by simp; rfl) (fun p hp => ?_) 0 (by simp) (by simp) (by simp) (by simp)
 dsimp only at hp ⊢
 simp only [ups, List.set_cons_zero, List.set_cons_succ, List.cons_append, List.nil_append, List.append_nil]
 by_cases hlt : p < e.kids.length
 ·obtain ⟨u, ht⟩ := get_lt hlt
  have htm : u ∈ e.kids := List.mem_of_getElem? ht
  have hgt : e.kids[p] = u := by rw [List.getElem?_eq_getElem hlt] at ht; exact Option.some.inj ht
  have hdr : e.kids.drop p = u :: e.kids.drop (p + 1) := by rw [List.drop_eq_getElem_cons hlt, hgt]
  have hu := ih u htm
  have htk : (e.kids.map (mapM bareG)).take (p + 1) = (e.kids.map (mapM bareG)).take p ++ [mapM bareG u] := by rw [List.take_add_one, List.getElem?_map, ht]; rfl
  have hlm : min p (e.kids.map (mapM bareG)).length = p := by simp; omega
  generalize e.kids.map (mapM bareG) = Z at *
  generalize mapM bareG u = su at *
  repeat' first | ((first | refine aops_end (hK _ ?_) | refine aopsD_end (hK _ ?_)); clear hK K) | ((first | refine aops_go ?_ | refine aopsD_go ?_ | refine wpcall_pure rfl (hu) ?_); simp [hlt, hgt, hlm]; (try simp (disch := omega) only [wrap64]); (try (refine gen2 ?_ ?_ <;> intro hq <;> try simp [hlt, hgt, hlm] at hq))) | (refine ⟨by omega, by omega, ?_⟩) | (refine ⟨p + 1, by dsimp only; omega, by dsimp only; omega, ?_, ?_, ?_⟩ <;> simp (disch := omega) [ups, wrap64, htk, eTm_def, hlm]) | refine T.rd1 (id := 9) mixed (fun _ => false) [9, 11] (by kernel_rfl) fun K hK => ?_ | refine T.r0 fun K hK => ?_ | refine T.r1 fun K hK => ?_ | refine T.ct rfl ?_ | refine T.seq ?_ | refine T.block ?_ | refine T.skip ?_
 ·have hp' : p = e.kids.length := by omega
  subst hp'
  have hlm : (e.kids.map (mapM bareG)).length = e.kids.length := by simp
  rw [List.take_of_length_le (by omega)]
  generalize e.kids.map (mapM bareG) = Z at *
  repeat' first | (refine aops_end (hK _ ?_); clear hK K) | (refine aops_go ?_; simp [hlt, hlm]; (try (refine gen2 ?_ ?_ <;> intro hq <;> try simp [hlt, hlm] at hq))) | (refine T.ret (Done.val (Or.inr rfl) ?_) <;> simp [resAs, Tryz.results94, hlm, h5] <;> omega) | refine T.r0 fun K hK => ?_ | refine T.cf rfl ?_ | refine T.seq ?_ | refine T.exit ?_

theorem l4Bare_non (e : MTm) (h13 : ¬ e.kind = 13) (h14 : ¬ e.kind = 14) (h5 : ¬ e.kind = 5) (hn : nTm e <= 1073741824)
  (ih : ∀ u ∈ e.kids, ACalls Tryz.prog 94 [aTm u] [] (aTm (mapM bareG u)) [] []) : ACalls Tryz.prog 94 [aTm e] [] (aTm (.mk e.kind e.name e.num zeroT zeroT 0 (e.kids.map (mapM bareG)))) [] [] := by
 have hnk2 : e.kids.length <= 1073741824 := by have := nTmS_len e.kids; rw [nTm_def] at hn; omega
 have hany := l1Any_ok
 refine ACalls.of_body Tryz.func94 (by kernel_rfl) rfl (by kernel_rfl) (by simp [Tryz.ntmps94]) (by simp) ?_
 rw [Tryz.ntmps94]
 repeat' first | (refine aops_end (hK _ ?_); clear hK K) | (refine aops_go ?_; simp [h13, h14, h5]; (try (refine gen2 ?_ ?_ <;> intro hq <;> try simp [h13, h14, h5] at hq))) | refine T.r0 fun K hK => ?_ | refine T.cf rfl ?_ | refine T.seq ?_ | refine T.block ?_ | refine T.skip ?_
 refine T.ownifyObj 2 8 9 81 (row := [.d (.i e.kind), .d (.str e.name), .d (.i e.num), .d (.i 0), .nil, .d (.i 0), .nil, .d (.i 0), .nil]) (by simp) (by simp) ?_
 refine T.loopK (α := Nat) [1, 2, 3] (fun x => [(4, .i x)]) (fun x => [(2, [.d (.i e.kind), .d (.str e.name), .d (.i e.num), .d (.i 0), .nil, .d (.i 0), .nil, .d (.i 0), .own 0 x])]) (fun x => []) (fun p _ => [{ sz := 9, ety := 81, rows := ((e.kids.map (mapM bareG)).take p).map eTm, wr := true }]) (fun x => e.kids.length + 1 - x) (fun x => x <= e.kids.length) (by simp; rfl) (fun p hp => ?_) 0 (by simp) (by simp) (by simp) (by simp)
 dsimp only at hp ⊢
 simp only [ups, List.set_cons_zero, List.set_cons_succ, List.cons_append, List.nil_append, List.append_nil]
 by_cases hlt : p < e.kids.length
 ·obtain ⟨u, ht⟩ := get_lt hlt
  have htm : u ∈ e.kids := List.mem_of_getElem? ht
  have hgt : e.kids[p] = u := by rw [List.getElem?_eq_getElem hlt] at ht; exact Option.some.inj ht
  have hdr : e.kids.drop p = u :: e.kids.drop (p + 1) := by rw [List.drop_eq_getElem_cons hlt, hgt]
  have hu := ih u htm
  have htk : (e.kids.map (mapM bareG)).take (p + 1) = (e.kids.map (mapM bareG)).take p ++ [mapM bareG u] := by rw [List.take_add_one, List.getElem?_map, ht]; rfl
  have hlm : min p (e.kids.map (mapM bareG)).length = p := by simp; omega
  generalize e.kids.map (mapM bareG) = Z at *
  generalize mapM bareG u = su at *
  repeat' first | ((first | refine aops_end (hK _ ?_) | refine aopsD_end (hK _ ?_)); clear hK K) | ((first | refine aops_go ?_ | refine aopsD_go ?_ | refine wpcall_pure rfl (hu) ?_); simp [hlt, hgt, hlm]; (try simp (disch := omega) only [wrap64]); (try (refine gen2 ?_ ?_ <;> intro hq <;> try simp [hlt, hgt, hlm] at hq))) | (refine ⟨by omega, by omega, ?_⟩) | (refine ⟨p + 1, by dsimp only; omega, by dsimp only; omega, ?_, ?_, ?_⟩ <;> simp (disch := omega) [ups, wrap64, htk, eTm_def, hlm]) | refine T.rd1 (id := 9) mixed (fun _ => false) [9, 11] (by kernel_rfl) fun K hK => ?_ | refine T.r0 fun K hK => ?_ | refine T.r1 fun K hK => ?_ | refine T.ct rfl ?_ | refine T.seq ?_ | refine T.block ?_ | refine T.skip ?_
 ·have hp' : p = e.kids.length := by omega
  subst hp'
  have hlm : (e.kids.map (mapM bareG)).length = e.kids.length := by simp
  rw [List.take_of_length_le (by omega)]
  generalize e.kids.map (mapM bareG) = Z at *
  repeat' first | (refine aops_end (hK _ ?_); clear hK K) | (refine aops_go ?_; simp [hlt, hlm]; (try (refine gen2 ?_ ?_ <;> intro hq <;> try simp [hlt, hlm] at hq))) | (refine T.ret (Done.val (Or.inr rfl) ?_) <;> simp [resAs, Tryz.results94, hlm, h5] <;> omega) | refine T.r0 fun K hK => ?_ | refine T.cf rfl ?_ | refine T.seq ?_ | refine T.exit ?_

theorem l4Bare_ok (nt : Int) : ∀ (e : MTm) (d : Nat), TmV nt d e -> nTm e <= 1073741824 -> ACalls Tryz.prog 94 [aTm e] [] (aTm (mapM bareG e)) [] [] := by
 intro e
 induction e using MTm.ind with
 | h e ih =>
  intro d hv hn
  obtain ⟨hp1, hp2⟩ := hv.plain
  obtain ⟨d', rfl, _, _, _, hk⟩ := shapeTm_kids hv.shape
  have ih' : ∀ u ∈ e.kids, ACalls Tryz.prog 94 [aTm u] [] (aTm (mapM bareG u)) [] [] := fun u hu => ih u hu d' (TmV.of (hk u hu)) (by have := nTmS_mem hu; rw [nTm_def] at hn; omega)
  by_cases hh : e.kind = 13 \/ e.kind = 14
  ·obtain ⟨x, hx⟩ := hp1 hh
   have h1 := ih' x (by simp [hx])
   rw [show mapM bareG e = mapM bareG x by rw [mapM_def]; simp [bareG, hh, hx]]
   generalize mapM bareG x = R at *
   rcases hh with hh | hh
   ·refine ACalls.of_body Tryz.func94 (by kernel_rfl) rfl (by kernel_rfl) (by simp [Tryz.ntmps94]) (by simp) ?_
    rw [Tryz.ntmps94]
    repeat' first | (refine aops_end (hK _ ?_); clear hK K) | ((first | refine aops_go ?_ | (refine wpcall_pure ?_ (h1) ?_; (focus (solve | simp [hh, hx, eTm_def])))); simp [hh, hx, eTm_def]; (try (refine gen2 ?_ ?_ <;> intro hq <;> try simp [hh, hx, eTm_def] at hq))) | (refine T.ret (Done.val (Or.inr rfl) ?_) <;> simp [resAs, Tryz.results94] <;> omega) | refine T.r0 fun K hK => ?_ | refine T.ct rfl ?_ | refine T.seq ?_
   ·refine ACalls.of_body Tryz.func94 (by kernel_rfl) rfl (by kernel_rfl) (by simp [Tryz.ntmps94]) (by simp) ?_
    rw [Tryz.ntmps94]
    repeat' first | (refine aops_end (hK _ ?_); clear hK K) | ((first | refine aops_go ?_ | (refine wpcall_pure ?_ (h1) ?_; (focus (solve | simp [hh, hx, eTm_def])))); simp [hh, hx, eTm_def]; (try (refine gen2 ?_ ?_ <;> intro hq <;> try simp [hh, hx, eTm_def] at hq))) | (refine T.ret (Done.val (Or.inr rfl) ?_) <;> simp [resAs, Tryz.results94] <;> omega) | refine T.r0 fun K hK => ?_ | refine T.ct rfl ?_ | refine T.seq ?_
  ·obtain ⟨hf, hl, ht⟩ := hp2 hh
   have h13 : ¬ e.kind = 13 := fun h => hh (.inl h)
   have h14 : ¬ e.kind = 14 := fun h => hh (.inr h)
   by_cases h5 : e.kind = 5
   ·rw [show mapM bareG e = .mk e.kind e.name e.num anyT zeroT 0 (e.kids.map (mapM bareG)) by rw [mapM_def]; simp [bareG, h5, hf, hl]]
    exact l4Bare_lam e h13 h14 h5 hn ih'
   ·rw [show mapM bareG e = .mk e.kind e.name e.num zeroT zeroT 0 (e.kids.map (mapM bareG)) by rw [mapM_def]; simp [bareG, hh, h5, hf, hl, ht h5]]
    exact l4Bare_non e h13 h14 h5 hn ih'

end Go.Proofs.YtcmdpggdaiinpaaGreatDoor
