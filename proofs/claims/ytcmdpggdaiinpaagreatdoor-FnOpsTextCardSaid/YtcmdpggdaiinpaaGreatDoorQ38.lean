/- A part of the library of this seat. -/
import Derived.Test.YtcmdpggdaiinpaaGreatDoorQ37
set_option linter.unusedVariables false
set_option linter.unusedSimpArgs false
namespace Go.Proofs.YtcmdpggdaiinpaaGreatDoor
attribute [-simp] Go.Av.MCo.kind_mk Go.Av.MCo.tag_mk Go.Av.MCo.label_mk Go.Av.MCo.kids_mk Go.Av.IT.kind_v Go.Av.IT.kind_b Go.Av.IT.kind_p Go.Av.IT.name_v Go.Av.IT.name_b Go.Av.IT.name_p Go.Av.IT.kids_v Go.Av.IT.kids_b Go.Av.IT.kids_p Go.Av.eIT_len Go.Av.gT_cons Go.Av.sT_cons
open Go Go.Av
attribute [local irreducible] T ACalls TX EX LX Draws Some_ ACallsX eTy eTm MTy.kind MTy.kids MTm.kind MTm.name MTm.num MTm.ty MTm.fr MTm.label MTm.kids
attribute [local simp] eTy_def eTm_def
set_option maxHeartbeats 16000000
set_option maxRecDepth 8000
attribute [local irreducible] TJ FCalls lastUp

end Go.Proofs.YtcmdpggdaiinpaaGreatDoor

namespace Go.Proofs.YtcmdpggdaiinpaaGreatDoor
attribute [-simp] Go.Av.MCo.kind_mk Go.Av.MCo.tag_mk Go.Av.MCo.label_mk Go.Av.MCo.kids_mk Go.Av.IT.kind_v Go.Av.IT.kind_b Go.Av.IT.kind_p Go.Av.IT.name_v Go.Av.IT.name_b Go.Av.IT.name_p Go.Av.IT.kids_v Go.Av.IT.kids_b Go.Av.IT.kids_p Go.Av.eIT_len Go.Av.gT_cons Go.Av.sT_cons
open Go Go.Av
attribute [local irreducible] T ACalls TX EX LX Draws Some_ ACallsX eTy eTm MTy.kind MTy.kids MTm.kind MTm.name MTm.num MTm.ty MTm.fr MTm.label MTm.kids
attribute [local simp] eTy_def eTm_def
set_option maxHeartbeats 16000000
set_option maxRecDepth 8000
attribute [local irreducible] TJ FCalls lastUp lastIx compM

end Go.Proofs.YtcmdpggdaiinpaaGreatDoor

namespace Go.Proofs.YtcmdpggdaiinpaaGreatDoor
attribute [-simp] Go.Av.MCo.kind_mk Go.Av.MCo.tag_mk Go.Av.MCo.label_mk Go.Av.MCo.kids_mk Go.Av.IT.kind_v Go.Av.IT.kind_b Go.Av.IT.kind_p Go.Av.IT.name_v Go.Av.IT.name_b Go.Av.IT.name_p Go.Av.IT.kids_v Go.Av.IT.kids_b Go.Av.IT.kids_p Go.Av.eIT_len Go.Av.gT_cons Go.Av.sT_cons
open Go Go.Av
attribute [local irreducible] T ACalls TX EX LX Draws Some_ ACallsX eTy eTm MTy.kind MTy.kids MTm.kind MTm.name MTm.num MTm.ty MTm.fr MTm.label MTm.kids
attribute [local simp] eTy_def eTm_def
set_option maxHeartbeats 16000000
set_option maxRecDepth 8000
attribute [local irreducible] TJ FCalls lastUp lastIx compM

theorem l14Index_ok (s : List UInt8) (c : UInt8) (hs : s.length <= 1099511627776) (hc : c ∈ s) : ACalls Tryz.prog 133 [.s s, .s [c]] [] (.i (s.length - 1 - lastIx s c)) [] [] := by
 have hpos := lastIx_pos hc
 refine ACalls.of_body Tryz.func133 (by kernel_rfl) rfl (by kernel_rfl) (by simp [Tryz.ntmps133]) (by simp) ?_
 rw [Tryz.ntmps133]
 repeat' first | ((first | refine aops_end (hK _ ?_) | refine aopsD_end (hK _ ?_) | refine aopsF_end (hK _ ?_)); clear hK K) | ((first | refine aops_go ?_ | refine aopsD_go ?_ | refine aopsF_go ?_); simp; (try simp (disch := omega) only [wrap64]); (try (refine gen2 ?_ ?_ <;> intro hq <;> try simp at hq))) | refine T.r0 fun K hK => ?_ | refine T.r1 fun K hK => ?_ | (refine ⟨by omega, ?_⟩) | refine T.ct rfl ?_ | refine T.cf rfl ?_ | refine T.seq ?_ | refine T.block ?_ | refine T.skip ?_ | refine T.exit ?_
 refine T.loopK (α := Nat) [0, 1] (fun p => [(4, .i 0), (5, .i ((p : Int) - 1))]) (fun _ => []) (fun _ => []) (fun _ A => A) (fun p => p) (fun p => p <= s.length /\ lastUp s c p = lastIx s c) (by simp; rfl) (fun p hx => ?_) s.length ⟨by omega, by rw [lastIx]⟩ (by simp) (by simp) (by simp (disch := omega) [wrap64])
 obtain ⟨hp, he⟩ := hx
 dsimp only
 simp only [ups, List.set_cons_zero, List.set_cons_succ, List.cons_append, List.nil_append]
 cases p with
 | zero => rw [lastUp] at he; omega
 | succ p =>
  have hlt : p < s.length := by omega
  have hsl := slice_one hlt
  obtain ⟨x, hx⟩ := get_lt hlt
  have hgt : s[p] = x := by rw [List.getElem?_eq_getElem hlt] at hx; exact Option.some.inj hx
  rw [hgt] at hsl
  rw [lastUp, hx] at he
  have hge : (0 : Int) <= p := by omega
  have hpp : ((p + 1 : Nat) : Int) - 1 = p := by omega
  have hto : ((p : Int) + 1).toNat = p + 1 := by omega
  have hk1 : (p : Int) <= p + 1 := by omega
  have hk2 : (p : Int) + 1 <= s.length := by omega
  rw [hpp]
  by_cases hc : x = c
  ·subst hc
   rw [if_pos rfl] at he
   rw [<- he]
   repeat' first | ((first | refine aops_end (hK _ ?_) | refine aopsD_end (hK _ ?_) | refine aopsF_end (hK _ ?_)); clear hK K) | ((first | refine aops_go ?_ | refine aopsD_go ?_ | refine aopsF_go ?_); simp [hlt, hge, hto, hsl, hk2]; (try simp (disch := omega) only [wrap64]); (try (refine gen2 ?_ ?_ <;> intro hq <;> try simp [hlt, hge, hto, hsl, hk2] at hq))) | (refine T.ret (Done.data (Or.inr rfl) ?_ ?_) <;> simp [Tryz.results133] <;> omega) | refine T.r0 fun K hK => ?_ | refine T.r1 fun K hK => ?_ | (refine ⟨by omega, ?_⟩) | refine T.ct rfl ?_ | refine T.cf rfl ?_ | refine T.seq ?_ | refine T.block ?_ | refine T.skip ?_ | refine T.exit ?_
  ·rw [if_neg (by simpa using hc)] at he
   repeat' first | ((first | refine aops_end (hK _ ?_) | refine aopsD_end (hK _ ?_) | refine aopsF_end (hK _ ?_)); clear hK K) | ((first | refine aops_go ?_ | refine aopsD_go ?_ | refine aopsF_go ?_); simp [hlt, hge, hto, hsl, hk2, hc]; (try simp (disch := omega) only [wrap64]); (try (refine gen2 ?_ ?_ <;> intro hq <;> try simp [hlt, hge, hto, hsl, hk2, hc] at hq))) | (refine ⟨p, by dsimp only; omega, ⟨by omega, he⟩, ?_⟩; simp (disch := omega) [wrap64]) | refine T.r0 fun K hK => ?_ | refine T.r1 fun K hK => ?_ | (refine ⟨by omega, ?_⟩) | refine T.ct rfl ?_ | refine T.cf rfl ?_ | refine T.seq ?_ | refine T.block ?_ | refine T.skip ?_ | refine T.exit ?_

theorem l14Compile_lam (e : MTm) (names : List UInt8) (h5 : e.kind = 5) (hn : names.length <= 1000000) (hd : BaHead names e) (hsm : ∀ u ∈ e.kids, (compM (names ++ e.name) u).length <= 1000000)
  (ih : ∀ u ∈ e.kids, ACalls Tryz.prog 93 [aTm u, .s (names ++ e.name)] [] (.c (.own 0 (compM (names ++ e.name) u).length)) [] [{ sz := 2, ety := 51, rows := (compM (names ++ e.name) u).map eOp, wr := true }]) :
  ACalls Tryz.prog 93 [aTm e, .s names] [] (.c (.own 0 (opNode e.kind (names.length - 1 - lastIx names (e.name.headD 0)) e.num (e.kids.map (compM (names ++ e.name)))).length)) [] [{ sz := 2, ety := 51, rows := (opNode e.kind (names.length - 1 - lastIx names (e.name.headD 0)) e.num (e.kids.map (compM (names ++ e.name)))).map eOp, wr := true }] := by
 have hnl := hd.nlen
 have hnm : names.length + e.name.length <= 4611686018427387904 := by omega
 obtain ⟨c, b, hnm1, hkids⟩ := hd.lam h5
 have hb := hsm b (by rw [hkids]; simp)
 have hB := ih b (by rw [hkids]; simp)
 rw [hkids]
 simp only [List.map_cons, List.map_nil, opNode, h5]
 generalize compM (names ++ e.name) b = B at *
 refine ACalls.of_body Tryz.func93 (by kernel_rfl) rfl (by kernel_rfl) (by simp [Tryz.ntmps93]) (by simp) ?_
 rw [Tryz.ntmps93]
 repeat' first | ((first | refine aops_end (hK _ ?_) | refine aopsD_end (hK _ ?_) | refine aopsF_end (hK _ ?_)); clear hK K) | ((first | refine aops_go ?_ | refine aopsD_go ?_ | refine aopsF_go ?_); simp [h5, hkids, hnm]; (try simp (disch := omega) only [wrap64]); (try (refine gen2 ?_ ?_ <;> intro hq <;> try simp [h5, hkids, hnm] at hq))) | (refine wpcall_own rfl (hB) ?_; simp [h5, hkids, hnm]; (try simp (disch := omega) only [wrap64]); (try (refine gen2 ?_ ?_ <;> intro hq <;> try simp [h5, hkids, hnm] at hq))) | (refine ⟨by omega, by omega, ?_⟩) | (refine ⟨by rintro r (⟨a, _, rfl⟩ | rfl) <;> rfl, by omega, ?_⟩) | refine T.rdF (id := 11) mixed (fun _ => false) [8, 11] [9, 10] 9 [] (by kernel_rfl) fun K hK => ?_ | refine T.rdF1 (id := 11) mixed (fun _ => false) [8, 11] [9, 10] 9 [] (by kernel_rfl) fun K hK => ?_ | refine T.rs (id := 12) (fun i => i == 3) fun K hK => ?_ | refine T.rs1 (id := 12) (fun i => i == 3) fun K hK => ?_ | refine T.rs (id := 0) (fun _ => false) fun K hK => ?_ | refine T.rs1 (id := 0) (fun _ => false) fun K hK => ?_ | refine T.rs (id := 1) (fun _ => false) fun K hK => ?_ | refine T.rs1 (id := 1) (fun _ => false) fun K hK => ?_ | refine T.rs (id := 2) (fun _ => false) fun K hK => ?_ | refine T.rs1 (id := 2) (fun _ => false) fun K hK => ?_ | refine T.rs (id := 3) (fun _ => false) fun K hK => ?_ | refine T.rs1 (id := 3) (fun _ => false) fun K hK => ?_ | refine T.rs (id := 4) (fun _ => false) fun K hK => ?_ | refine T.rs1 (id := 4) (fun _ => false) fun K hK => ?_ | refine T.rs (id := 5) (fun _ => false) fun K hK => ?_ | refine T.rs1 (id := 5) (fun _ => false) fun K hK => ?_ | refine T.rs (id := 6) (fun _ => false) fun K hK => ?_ | refine T.rs1 (id := 6) (fun _ => false) fun K hK => ?_ | refine T.rs (id := 7) (fun _ => false) fun K hK => ?_ | refine T.rs1 (id := 7) (fun _ => false) fun K hK => ?_ | refine T.rs (id := 8) (fun _ => false) fun K hK => ?_ | refine T.rs1 (id := 8) (fun _ => false) fun K hK => ?_ | refine T.rs (id := 9) (fun _ => false) fun K hK => ?_ | refine T.rs1 (id := 9) (fun _ => false) fun K hK => ?_ | refine T.rs (id := 10) (fun _ => false) fun K hK => ?_ | refine T.rs1 (id := 10) (fun _ => false) fun K hK => ?_ | refine T.rs (id := 13) (fun _ => false) fun K hK => ?_ | refine T.rs1 (id := 13) (fun _ => false) fun K hK => ?_ | refine T.rs (id := 14) (fun _ => false) fun K hK => ?_ | refine T.rs1 (id := 14) (fun _ => false) fun K hK => ?_ | refine T.rs (id := 15) (fun _ => false) fun K hK => ?_ | refine T.rs1 (id := 15) (fun _ => false) fun K hK => ?_ | refine T.rs (id := 16) (fun _ => false) fun K hK => ?_ | refine T.rs1 (id := 16) (fun _ => false) fun K hK => ?_ | refine T.rs (id := 17) (fun _ => false) fun K hK => ?_ | refine T.rs1 (id := 17) (fun _ => false) fun K hK => ?_ | refine T.rs (id := 18) (fun _ => false) fun K hK => ?_ | refine T.rs1 (id := 18) (fun _ => false) fun K hK => ?_ | refine T.rs (id := 19) (fun _ => false) fun K hK => ?_ | refine T.rs1 (id := 19) (fun _ => false) fun K hK => ?_ | refine T.rs (id := 20) (fun _ => false) fun K hK => ?_ | refine T.rs1 (id := 20) (fun _ => false) fun K hK => ?_ | refine T.rs (id := 21) (fun _ => false) fun K hK => ?_ | refine T.rs1 (id := 21) (fun _ => false) fun K hK => ?_ | refine T.rs (id := 23) (fun _ => false) fun K hK => ?_ | refine T.rs1 (id := 23) (fun _ => false) fun K hK => ?_ | refine T.rs (id := 22) (fun _ => false) fun K hK => ?_ | refine T.rs1 (id := 22) (fun _ => false) fun K hK => ?_ | refine T.rs (id := 24) (fun _ => false) fun K hK => ?_ | refine T.rs1 (id := 24) (fun _ => false) fun K hK => ?_ | refine T.rs (id := 25) (fun _ => false) fun K hK => ?_ | refine T.rs1 (id := 25) (fun _ => false) fun K hK => ?_ | refine T.rs (id := 26) (fun _ => false) fun K hK => ?_ | refine T.rs1 (id := 26) (fun _ => false) fun K hK => ?_ | refine T.rs (id := 27) (fun _ => false) fun K hK => ?_ | refine T.rs1 (id := 27) (fun _ => false) fun K hK => ?_ | refine T.rs (id := 28) (fun _ => false) fun K hK => ?_ | refine T.rs1 (id := 28) (fun _ => false) fun K hK => ?_ | refine T.rs (id := 29) (fun _ => false) fun K hK => ?_ | refine T.rs1 (id := 29) (fun _ => false) fun K hK => ?_ | refine T.rs (id := 30) (fun _ => false) fun K hK => ?_ | refine T.rs1 (id := 30) (fun _ => false) fun K hK => ?_ | refine T.rs (id := 31) (fun _ => false) fun K hK => ?_ | refine T.rs1 (id := 31) (fun _ => false) fun K hK => ?_ | refine T.rs (id := 32) (fun _ => false) fun K hK => ?_ | refine T.rs1 (id := 32) (fun _ => false) fun K hK => ?_ | refine T.rs (id := 33) (fun _ => false) fun K hK => ?_ | refine T.rs1 (id := 33) (fun _ => false) fun K hK => ?_ | refine T.rs (id := 34) (fun _ => false) fun K hK => ?_ | refine T.rs1 (id := 34) (fun _ => false) fun K hK => ?_ | refine T.rs (id := 35) (fun _ => false) fun K hK => ?_ | refine T.rs1 (id := 35) (fun _ => false) fun K hK => ?_ | (refine ⟨by omega, ?_⟩) | refine T.ct rfl ?_ | refine T.cf rfl ?_ | refine T.seq ?_ | refine T.block ?_ | refine T.skip ?_ | refine T.exit ?_
 all_goals (refine T.ret (Done.own1 1 (Or.inr rfl) (ys := [_]) ?_ rfl ?_) <;> simp [resAs, Tryz.results93, show 1 + (B.length + 1) = B.length + 1 + 1 by omega])

theorem l14Compile_var (e : MTm) (names : List UInt8) (h5 : e.kind = 1) (hn : names.length <= 1000000) (hd : BaHead names e) (hsm : ∀ u ∈ e.kids, (compM (names) u).length <= 1000000)
  (ih : ∀ u ∈ e.kids, ACalls Tryz.prog 93 [aTm u, .s (names)] [] (.c (.own 0 (compM (names) u).length)) [] [{ sz := 2, ety := 51, rows := (compM (names) u).map eOp, wr := true }]) :
  ACalls Tryz.prog 93 [aTm e, .s names] [] (.c (.own 0 (opNode e.kind (names.length - 1 - lastIx names (e.name.headD 0)) e.num (e.kids.map (compM (names)))).length)) [] [{ sz := 2, ety := 51, rows := (opNode e.kind (names.length - 1 - lastIx names (e.name.headD 0)) e.num (e.kids.map (compM (names)))).map eOp, wr := true }] := by
 have hnl := hd.nlen
 have hnm : names.length + e.name.length <= 4611686018427387904 := by omega
 obtain ⟨c, hnm1, hcn, hkids⟩ := hd.var h5
 have hli := l14Index_ok names c (by omega) hcn
 rw [hnm1]
 simp only [opNode, h5, if_true, List.headD_cons]
 generalize (names.length : Int) - 1 - lastIx names c = ix at *
 refine ACalls.of_body Tryz.func93 (by kernel_rfl) rfl (by kernel_rfl) (by simp [Tryz.ntmps93]) (by simp) ?_
 rw [Tryz.ntmps93]
 repeat' first | ((first | refine aops_end (hK _ ?_) | refine aopsD_end (hK _ ?_) | refine aopsF_end (hK _ ?_)); clear hK K) | ((first | refine aops_go ?_ | refine aopsD_go ?_ | refine aopsF_go ?_ | refine wpcall_pure rfl (hli) ?_); simp [h5, hnm1]; (try simp (disch := omega) only [wrap64]); (try (refine gen2 ?_ ?_ <;> intro hq <;> try simp [h5, hnm1] at hq))) | refine T.rs (id := 3) (fun i => i == 5) fun K hK => ?_ | refine T.rs1 (id := 3) (fun i => i == 5) fun K hK => ?_ | refine T.rd (id := 11) mixed (fun _ => false) [11] (by kernel_rfl) fun K hK => ?_ | refine T.rd1 (id := 11) mixed (fun _ => false) [11] (by kernel_rfl) fun K hK => ?_ | refine T.rs (id := 0) (fun _ => false) fun K hK => ?_ | refine T.rs1 (id := 0) (fun _ => false) fun K hK => ?_ | refine T.rs (id := 1) (fun _ => false) fun K hK => ?_ | refine T.rs1 (id := 1) (fun _ => false) fun K hK => ?_ | refine T.rs (id := 2) (fun _ => false) fun K hK => ?_ | refine T.rs1 (id := 2) (fun _ => false) fun K hK => ?_ | refine T.rs (id := 4) (fun _ => false) fun K hK => ?_ | refine T.rs1 (id := 4) (fun _ => false) fun K hK => ?_ | refine T.rs (id := 5) (fun _ => false) fun K hK => ?_ | refine T.rs1 (id := 5) (fun _ => false) fun K hK => ?_ | refine T.rs (id := 6) (fun _ => false) fun K hK => ?_ | refine T.rs1 (id := 6) (fun _ => false) fun K hK => ?_ | refine T.rs (id := 7) (fun _ => false) fun K hK => ?_ | refine T.rs1 (id := 7) (fun _ => false) fun K hK => ?_ | refine T.rs (id := 8) (fun _ => false) fun K hK => ?_ | refine T.rs1 (id := 8) (fun _ => false) fun K hK => ?_ | refine T.rs (id := 9) (fun _ => false) fun K hK => ?_ | refine T.rs1 (id := 9) (fun _ => false) fun K hK => ?_ | refine T.rs (id := 10) (fun _ => false) fun K hK => ?_ | refine T.rs1 (id := 10) (fun _ => false) fun K hK => ?_ | refine T.rs (id := 12) (fun _ => false) fun K hK => ?_ | refine T.rs1 (id := 12) (fun _ => false) fun K hK => ?_ | refine T.rs (id := 13) (fun _ => false) fun K hK => ?_ | refine T.rs1 (id := 13) (fun _ => false) fun K hK => ?_ | refine T.rs (id := 14) (fun _ => false) fun K hK => ?_ | refine T.rs1 (id := 14) (fun _ => false) fun K hK => ?_ | refine T.rs (id := 15) (fun _ => false) fun K hK => ?_ | refine T.rs1 (id := 15) (fun _ => false) fun K hK => ?_ | refine T.rs (id := 16) (fun _ => false) fun K hK => ?_ | refine T.rs1 (id := 16) (fun _ => false) fun K hK => ?_ | refine T.rs (id := 17) (fun _ => false) fun K hK => ?_ | refine T.rs1 (id := 17) (fun _ => false) fun K hK => ?_ | refine T.rs (id := 18) (fun _ => false) fun K hK => ?_ | refine T.rs1 (id := 18) (fun _ => false) fun K hK => ?_ | refine T.rs (id := 19) (fun _ => false) fun K hK => ?_ | refine T.rs1 (id := 19) (fun _ => false) fun K hK => ?_ | refine T.rs (id := 20) (fun _ => false) fun K hK => ?_ | refine T.rs1 (id := 20) (fun _ => false) fun K hK => ?_ | refine T.rs (id := 21) (fun _ => false) fun K hK => ?_ | refine T.rs1 (id := 21) (fun _ => false) fun K hK => ?_ | refine T.rs (id := 23) (fun _ => false) fun K hK => ?_ | refine T.rs1 (id := 23) (fun _ => false) fun K hK => ?_ | refine T.rs (id := 22) (fun _ => false) fun K hK => ?_ | refine T.rs1 (id := 22) (fun _ => false) fun K hK => ?_ | refine T.rs (id := 24) (fun _ => false) fun K hK => ?_ | refine T.rs1 (id := 24) (fun _ => false) fun K hK => ?_ | refine T.rs (id := 25) (fun _ => false) fun K hK => ?_ | refine T.rs1 (id := 25) (fun _ => false) fun K hK => ?_ | refine T.rs (id := 26) (fun _ => false) fun K hK => ?_ | refine T.rs1 (id := 26) (fun _ => false) fun K hK => ?_ | refine T.rs (id := 27) (fun _ => false) fun K hK => ?_ | refine T.rs1 (id := 27) (fun _ => false) fun K hK => ?_ | refine T.rs (id := 28) (fun _ => false) fun K hK => ?_ | refine T.rs1 (id := 28) (fun _ => false) fun K hK => ?_ | refine T.rs (id := 29) (fun _ => false) fun K hK => ?_ | refine T.rs1 (id := 29) (fun _ => false) fun K hK => ?_ | refine T.rs (id := 30) (fun _ => false) fun K hK => ?_ | refine T.rs1 (id := 30) (fun _ => false) fun K hK => ?_ | refine T.rs (id := 31) (fun _ => false) fun K hK => ?_ | refine T.rs1 (id := 31) (fun _ => false) fun K hK => ?_ | refine T.rs (id := 32) (fun _ => false) fun K hK => ?_ | refine T.rs1 (id := 32) (fun _ => false) fun K hK => ?_ | refine T.rs (id := 33) (fun _ => false) fun K hK => ?_ | refine T.rs1 (id := 33) (fun _ => false) fun K hK => ?_ | refine T.rs (id := 34) (fun _ => false) fun K hK => ?_ | refine T.rs1 (id := 34) (fun _ => false) fun K hK => ?_ | refine T.rs (id := 35) (fun _ => false) fun K hK => ?_ | refine T.rs1 (id := 35) (fun _ => false) fun K hK => ?_ | (refine ⟨by omega, ?_⟩) | refine T.ct rfl ?_ | refine T.cf rfl ?_ | refine T.seq ?_ | refine T.block ?_ | refine T.skip ?_ | refine T.exit ?_
 all_goals (refine T.ret (Done.own1 0 (Or.inr rfl) (ys := [_]) ?_ rfl ?_) <;> simp [resAs, Tryz.results93])

theorem l14Compile_num (e : MTm) (names : List UInt8) (h5 : e.kind = 2) (hn : names.length <= 1000000) (hd : BaHead names e) (hsm : ∀ u ∈ e.kids, (compM (names) u).length <= 1000000)
  (ih : ∀ u ∈ e.kids, ACalls Tryz.prog 93 [aTm u, .s (names)] [] (.c (.own 0 (compM (names) u).length)) [] [{ sz := 2, ety := 51, rows := (compM (names) u).map eOp, wr := true }]) :
  ACalls Tryz.prog 93 [aTm e, .s names] [] (.c (.own 0 (opNode e.kind (names.length - 1 - lastIx names (e.name.headD 0)) e.num (e.kids.map (compM (names)))).length)) [] [{ sz := 2, ety := 51, rows := (opNode e.kind (names.length - 1 - lastIx names (e.name.headD 0)) e.num (e.kids.map (compM (names)))).map eOp, wr := true }] := by
 have hnl := hd.nlen
 have hnm : names.length + e.name.length <= 4611686018427387904 := by omega
 simp [opNode, h5]
 refine ACalls.of_body Tryz.func93 (by kernel_rfl) rfl (by kernel_rfl) (by simp [Tryz.ntmps93]) (by simp) ?_
 rw [Tryz.ntmps93]
 repeat' first | ((first | refine aops_end (hK _ ?_) | refine aopsD_end (hK _ ?_) | refine aopsF_end (hK _ ?_)); clear hK K) | ((first | refine aops_go ?_ | refine aopsD_go ?_ | refine aopsF_go ?_); simp [h5]; (try simp (disch := omega) only [wrap64]); (try (refine gen2 ?_ ?_ <;> intro hq <;> try simp [h5] at hq))) | refine T.rs (id := 5) (fun i => i == 3) fun K hK => ?_ | refine T.rs1 (id := 5) (fun i => i == 3) fun K hK => ?_ | refine T.rd (id := 11) mixed (fun _ => false) [11] (by kernel_rfl) fun K hK => ?_ | refine T.rd1 (id := 11) mixed (fun _ => false) [11] (by kernel_rfl) fun K hK => ?_ | refine T.rs (id := 0) (fun _ => false) fun K hK => ?_ | refine T.rs1 (id := 0) (fun _ => false) fun K hK => ?_ | refine T.rs (id := 1) (fun _ => false) fun K hK => ?_ | refine T.rs1 (id := 1) (fun _ => false) fun K hK => ?_ | refine T.rs (id := 2) (fun _ => false) fun K hK => ?_ | refine T.rs1 (id := 2) (fun _ => false) fun K hK => ?_ | refine T.rs (id := 3) (fun _ => false) fun K hK => ?_ | refine T.rs1 (id := 3) (fun _ => false) fun K hK => ?_ | refine T.rs (id := 4) (fun _ => false) fun K hK => ?_ | refine T.rs1 (id := 4) (fun _ => false) fun K hK => ?_ | refine T.rs (id := 6) (fun _ => false) fun K hK => ?_ | refine T.rs1 (id := 6) (fun _ => false) fun K hK => ?_ | refine T.rs (id := 7) (fun _ => false) fun K hK => ?_ | refine T.rs1 (id := 7) (fun _ => false) fun K hK => ?_ | refine T.rs (id := 8) (fun _ => false) fun K hK => ?_ | refine T.rs1 (id := 8) (fun _ => false) fun K hK => ?_ | refine T.rs (id := 9) (fun _ => false) fun K hK => ?_ | refine T.rs1 (id := 9) (fun _ => false) fun K hK => ?_ | refine T.rs (id := 10) (fun _ => false) fun K hK => ?_ | refine T.rs1 (id := 10) (fun _ => false) fun K hK => ?_ | refine T.rs (id := 12) (fun _ => false) fun K hK => ?_ | refine T.rs1 (id := 12) (fun _ => false) fun K hK => ?_ | refine T.rs (id := 13) (fun _ => false) fun K hK => ?_ | refine T.rs1 (id := 13) (fun _ => false) fun K hK => ?_ | refine T.rs (id := 14) (fun _ => false) fun K hK => ?_ | refine T.rs1 (id := 14) (fun _ => false) fun K hK => ?_ | refine T.rs (id := 15) (fun _ => false) fun K hK => ?_ | refine T.rs1 (id := 15) (fun _ => false) fun K hK => ?_ | refine T.rs (id := 16) (fun _ => false) fun K hK => ?_ | refine T.rs1 (id := 16) (fun _ => false) fun K hK => ?_ | refine T.rs (id := 17) (fun _ => false) fun K hK => ?_ | refine T.rs1 (id := 17) (fun _ => false) fun K hK => ?_ | refine T.rs (id := 18) (fun _ => false) fun K hK => ?_ | refine T.rs1 (id := 18) (fun _ => false) fun K hK => ?_ | refine T.rs (id := 19) (fun _ => false) fun K hK => ?_ | refine T.rs1 (id := 19) (fun _ => false) fun K hK => ?_ | refine T.rs (id := 20) (fun _ => false) fun K hK => ?_ | refine T.rs1 (id := 20) (fun _ => false) fun K hK => ?_ | refine T.rs (id := 21) (fun _ => false) fun K hK => ?_ | refine T.rs1 (id := 21) (fun _ => false) fun K hK => ?_ | refine T.rs (id := 23) (fun _ => false) fun K hK => ?_ | refine T.rs1 (id := 23) (fun _ => false) fun K hK => ?_ | refine T.rs (id := 22) (fun _ => false) fun K hK => ?_ | refine T.rs1 (id := 22) (fun _ => false) fun K hK => ?_ | refine T.rs (id := 24) (fun _ => false) fun K hK => ?_ | refine T.rs1 (id := 24) (fun _ => false) fun K hK => ?_ | refine T.rs (id := 25) (fun _ => false) fun K hK => ?_ | refine T.rs1 (id := 25) (fun _ => false) fun K hK => ?_ | refine T.rs (id := 26) (fun _ => false) fun K hK => ?_ | refine T.rs1 (id := 26) (fun _ => false) fun K hK => ?_ | refine T.rs (id := 27) (fun _ => false) fun K hK => ?_ | refine T.rs1 (id := 27) (fun _ => false) fun K hK => ?_ | refine T.rs (id := 28) (fun _ => false) fun K hK => ?_ | refine T.rs1 (id := 28) (fun _ => false) fun K hK => ?_ | refine T.rs (id := 29) (fun _ => false) fun K hK => ?_ | refine T.rs1 (id := 29) (fun _ => false) fun K hK => ?_ | refine T.rs (id := 30) (fun _ => false) fun K hK => ?_ | refine T.rs1 (id := 30) (fun _ => false) fun K hK => ?_ | refine T.rs (id := 31) (fun _ => false) fun K hK => ?_ | refine T.rs1 (id := 31) (fun _ => false) fun K hK => ?_ | refine T.rs (id := 32) (fun _ => false) fun K hK => ?_ | refine T.rs1 (id := 32) (fun _ => false) fun K hK => ?_ | refine T.rs (id := 33) (fun _ => false) fun K hK => ?_ | refine T.rs1 (id := 33) (fun _ => false) fun K hK => ?_ | refine T.rs (id := 34) (fun _ => false) fun K hK => ?_ | refine T.rs1 (id := 34) (fun _ => false) fun K hK => ?_ | refine T.rs (id := 35) (fun _ => false) fun K hK => ?_ | refine T.rs1 (id := 35) (fun _ => false) fun K hK => ?_ | (refine ⟨by omega, ?_⟩) | refine T.ct rfl ?_ | refine T.cf rfl ?_ | refine T.seq ?_ | refine T.block ?_ | refine T.skip ?_ | refine T.exit ?_
 all_goals (refine T.ret (Done.own1 0 (Or.inr rfl) (ys := [_]) ?_ rfl ?_) <;> simp [resAs, Tryz.results93])

theorem l14Compile_tru (e : MTm) (names : List UInt8) (h5 : e.kind = 3) (hn : names.length <= 1000000) (hd : BaHead names e) (hsm : ∀ u ∈ e.kids, (compM (names) u).length <= 1000000)
  (ih : ∀ u ∈ e.kids, ACalls Tryz.prog 93 [aTm u, .s (names)] [] (.c (.own 0 (compM (names) u).length)) [] [{ sz := 2, ety := 51, rows := (compM (names) u).map eOp, wr := true }]) :
  ACalls Tryz.prog 93 [aTm e, .s names] [] (.c (.own 0 (opNode e.kind (names.length - 1 - lastIx names (e.name.headD 0)) e.num (e.kids.map (compM (names)))).length)) [] [{ sz := 2, ety := 51, rows := (opNode e.kind (names.length - 1 - lastIx names (e.name.headD 0)) e.num (e.kids.map (compM (names)))).map eOp, wr := true }] := by
 have hnl := hd.nlen
 have hnm : names.length + e.name.length <= 4611686018427387904 := by omega
 simp [opNode, h5]
 refine ACalls.of_body Tryz.func93 (by kernel_rfl) rfl (by kernel_rfl) (by simp [Tryz.ntmps93]) (by simp) ?_
 rw [Tryz.ntmps93]
 repeat' first | ((first | refine aops_end (hK _ ?_) | refine aopsD_end (hK _ ?_) | refine aopsF_end (hK _ ?_)); clear hK K) | ((first | refine aops_go ?_ | refine aopsD_go ?_ | refine aopsF_go ?_); simp [h5]; (try simp (disch := omega) only [wrap64]); (try (refine gen2 ?_ ?_ <;> intro hq <;> try simp [h5] at hq))) | refine T.rs (id := 7) (fun i => i == 1) fun K hK => ?_ | refine T.rs1 (id := 7) (fun i => i == 1) fun K hK => ?_ | refine T.rd (id := 11) mixed (fun _ => false) [11] (by kernel_rfl) fun K hK => ?_ | refine T.rd1 (id := 11) mixed (fun _ => false) [11] (by kernel_rfl) fun K hK => ?_ | refine T.rs (id := 0) (fun _ => false) fun K hK => ?_ | refine T.rs1 (id := 0) (fun _ => false) fun K hK => ?_ | refine T.rs (id := 1) (fun _ => false) fun K hK => ?_ | refine T.rs1 (id := 1) (fun _ => false) fun K hK => ?_ | refine T.rs (id := 2) (fun _ => false) fun K hK => ?_ | refine T.rs1 (id := 2) (fun _ => false) fun K hK => ?_ | refine T.rs (id := 3) (fun _ => false) fun K hK => ?_ | refine T.rs1 (id := 3) (fun _ => false) fun K hK => ?_ | refine T.rs (id := 4) (fun _ => false) fun K hK => ?_ | refine T.rs1 (id := 4) (fun _ => false) fun K hK => ?_ | refine T.rs (id := 5) (fun _ => false) fun K hK => ?_ | refine T.rs1 (id := 5) (fun _ => false) fun K hK => ?_ | refine T.rs (id := 6) (fun _ => false) fun K hK => ?_ | refine T.rs1 (id := 6) (fun _ => false) fun K hK => ?_ | refine T.rs (id := 8) (fun _ => false) fun K hK => ?_ | refine T.rs1 (id := 8) (fun _ => false) fun K hK => ?_ | refine T.rs (id := 9) (fun _ => false) fun K hK => ?_ | refine T.rs1 (id := 9) (fun _ => false) fun K hK => ?_ | refine T.rs (id := 10) (fun _ => false) fun K hK => ?_ | refine T.rs1 (id := 10) (fun _ => false) fun K hK => ?_ | refine T.rs (id := 12) (fun _ => false) fun K hK => ?_ | refine T.rs1 (id := 12) (fun _ => false) fun K hK => ?_ | refine T.rs (id := 13) (fun _ => false) fun K hK => ?_ | refine T.rs1 (id := 13) (fun _ => false) fun K hK => ?_ | refine T.rs (id := 14) (fun _ => false) fun K hK => ?_ | refine T.rs1 (id := 14) (fun _ => false) fun K hK => ?_ | refine T.rs (id := 15) (fun _ => false) fun K hK => ?_ | refine T.rs1 (id := 15) (fun _ => false) fun K hK => ?_ | refine T.rs (id := 16) (fun _ => false) fun K hK => ?_ | refine T.rs1 (id := 16) (fun _ => false) fun K hK => ?_ | refine T.rs (id := 17) (fun _ => false) fun K hK => ?_ | refine T.rs1 (id := 17) (fun _ => false) fun K hK => ?_ | refine T.rs (id := 18) (fun _ => false) fun K hK => ?_ | refine T.rs1 (id := 18) (fun _ => false) fun K hK => ?_ | refine T.rs (id := 19) (fun _ => false) fun K hK => ?_ | refine T.rs1 (id := 19) (fun _ => false) fun K hK => ?_ | refine T.rs (id := 20) (fun _ => false) fun K hK => ?_ | refine T.rs1 (id := 20) (fun _ => false) fun K hK => ?_ | refine T.rs (id := 21) (fun _ => false) fun K hK => ?_ | refine T.rs1 (id := 21) (fun _ => false) fun K hK => ?_ | refine T.rs (id := 23) (fun _ => false) fun K hK => ?_ | refine T.rs1 (id := 23) (fun _ => false) fun K hK => ?_ | refine T.rs (id := 22) (fun _ => false) fun K hK => ?_ | refine T.rs1 (id := 22) (fun _ => false) fun K hK => ?_ | refine T.rs (id := 24) (fun _ => false) fun K hK => ?_ | refine T.rs1 (id := 24) (fun _ => false) fun K hK => ?_ | refine T.rs (id := 25) (fun _ => false) fun K hK => ?_ | refine T.rs1 (id := 25) (fun _ => false) fun K hK => ?_ | refine T.rs (id := 26) (fun _ => false) fun K hK => ?_ | refine T.rs1 (id := 26) (fun _ => false) fun K hK => ?_ | refine T.rs (id := 27) (fun _ => false) fun K hK => ?_ | refine T.rs1 (id := 27) (fun _ => false) fun K hK => ?_ | refine T.rs (id := 28) (fun _ => false) fun K hK => ?_ | refine T.rs1 (id := 28) (fun _ => false) fun K hK => ?_ | refine T.rs (id := 29) (fun _ => false) fun K hK => ?_ | refine T.rs1 (id := 29) (fun _ => false) fun K hK => ?_ | refine T.rs (id := 30) (fun _ => false) fun K hK => ?_ | refine T.rs1 (id := 30) (fun _ => false) fun K hK => ?_ | refine T.rs (id := 31) (fun _ => false) fun K hK => ?_ | refine T.rs1 (id := 31) (fun _ => false) fun K hK => ?_ | refine T.rs (id := 32) (fun _ => false) fun K hK => ?_ | refine T.rs1 (id := 32) (fun _ => false) fun K hK => ?_ | refine T.rs (id := 33) (fun _ => false) fun K hK => ?_ | refine T.rs1 (id := 33) (fun _ => false) fun K hK => ?_ | refine T.rs (id := 34) (fun _ => false) fun K hK => ?_ | refine T.rs1 (id := 34) (fun _ => false) fun K hK => ?_ | refine T.rs (id := 35) (fun _ => false) fun K hK => ?_ | refine T.rs1 (id := 35) (fun _ => false) fun K hK => ?_ | (refine ⟨by omega, ?_⟩) | refine T.ct rfl ?_ | refine T.cf rfl ?_ | refine T.seq ?_ | refine T.block ?_ | refine T.skip ?_ | refine T.exit ?_
 all_goals (refine T.ret (Done.own1 0 (Or.inr rfl) (ys := [_]) ?_ rfl ?_) <;> simp [resAs, Tryz.results93])

theorem l14Compile_fls (e : MTm) (names : List UInt8) (h5 : e.kind = 4) (hn : names.length <= 1000000) (hd : BaHead names e) (hsm : ∀ u ∈ e.kids, (compM (names) u).length <= 1000000)
  (ih : ∀ u ∈ e.kids, ACalls Tryz.prog 93 [aTm u, .s (names)] [] (.c (.own 0 (compM (names) u).length)) [] [{ sz := 2, ety := 51, rows := (compM (names) u).map eOp, wr := true }]) :
  ACalls Tryz.prog 93 [aTm e, .s names] [] (.c (.own 0 (opNode e.kind (names.length - 1 - lastIx names (e.name.headD 0)) e.num (e.kids.map (compM (names)))).length)) [] [{ sz := 2, ety := 51, rows := (opNode e.kind (names.length - 1 - lastIx names (e.name.headD 0)) e.num (e.kids.map (compM (names)))).map eOp, wr := true }] := by
 have hnl := hd.nlen
 have hnm : names.length + e.name.length <= 4611686018427387904 := by omega
 simp [opNode, h5]
 refine ACalls.of_body Tryz.func93 (by kernel_rfl) rfl (by kernel_rfl) (by simp [Tryz.ntmps93]) (by simp) ?_
 rw [Tryz.ntmps93]
 repeat' first | ((first | refine aops_end (hK _ ?_) | refine aopsD_end (hK _ ?_) | refine aopsF_end (hK _ ?_)); clear hK K) | ((first | refine aops_go ?_ | refine aopsD_go ?_ | refine aopsF_go ?_); simp [h5]; (try simp (disch := omega) only [wrap64]); (try (refine gen2 ?_ ?_ <;> intro hq <;> try simp [h5] at hq))) | refine T.rs (id := 9) (fun i => i == 1) fun K hK => ?_ | refine T.rs1 (id := 9) (fun i => i == 1) fun K hK => ?_ | refine T.rd (id := 11) mixed (fun _ => false) [11] (by kernel_rfl) fun K hK => ?_ | refine T.rd1 (id := 11) mixed (fun _ => false) [11] (by kernel_rfl) fun K hK => ?_ | refine T.rs (id := 0) (fun _ => false) fun K hK => ?_ | refine T.rs1 (id := 0) (fun _ => false) fun K hK => ?_ | refine T.rs (id := 1) (fun _ => false) fun K hK => ?_ | refine T.rs1 (id := 1) (fun _ => false) fun K hK => ?_ | refine T.rs (id := 2) (fun _ => false) fun K hK => ?_ | refine T.rs1 (id := 2) (fun _ => false) fun K hK => ?_ | refine T.rs (id := 3) (fun _ => false) fun K hK => ?_ | refine T.rs1 (id := 3) (fun _ => false) fun K hK => ?_ | refine T.rs (id := 4) (fun _ => false) fun K hK => ?_ | refine T.rs1 (id := 4) (fun _ => false) fun K hK => ?_ | refine T.rs (id := 5) (fun _ => false) fun K hK => ?_ | refine T.rs1 (id := 5) (fun _ => false) fun K hK => ?_ | refine T.rs (id := 6) (fun _ => false) fun K hK => ?_ | refine T.rs1 (id := 6) (fun _ => false) fun K hK => ?_ | refine T.rs (id := 7) (fun _ => false) fun K hK => ?_ | refine T.rs1 (id := 7) (fun _ => false) fun K hK => ?_ | refine T.rs (id := 8) (fun _ => false) fun K hK => ?_ | refine T.rs1 (id := 8) (fun _ => false) fun K hK => ?_ | refine T.rs (id := 10) (fun _ => false) fun K hK => ?_ | refine T.rs1 (id := 10) (fun _ => false) fun K hK => ?_ | refine T.rs (id := 12) (fun _ => false) fun K hK => ?_ | refine T.rs1 (id := 12) (fun _ => false) fun K hK => ?_ | refine T.rs (id := 13) (fun _ => false) fun K hK => ?_ | refine T.rs1 (id := 13) (fun _ => false) fun K hK => ?_ | refine T.rs (id := 14) (fun _ => false) fun K hK => ?_ | refine T.rs1 (id := 14) (fun _ => false) fun K hK => ?_ | refine T.rs (id := 15) (fun _ => false) fun K hK => ?_ | refine T.rs1 (id := 15) (fun _ => false) fun K hK => ?_ | refine T.rs (id := 16) (fun _ => false) fun K hK => ?_ | refine T.rs1 (id := 16) (fun _ => false) fun K hK => ?_ | refine T.rs (id := 17) (fun _ => false) fun K hK => ?_ | refine T.rs1 (id := 17) (fun _ => false) fun K hK => ?_ | refine T.rs (id := 18) (fun _ => false) fun K hK => ?_ | refine T.rs1 (id := 18) (fun _ => false) fun K hK => ?_ | refine T.rs (id := 19) (fun _ => false) fun K hK => ?_ | refine T.rs1 (id := 19) (fun _ => false) fun K hK => ?_ | refine T.rs (id := 20) (fun _ => false) fun K hK => ?_ | refine T.rs1 (id := 20) (fun _ => false) fun K hK => ?_ | refine T.rs (id := 21) (fun _ => false) fun K hK => ?_ | refine T.rs1 (id := 21) (fun _ => false) fun K hK => ?_ | refine T.rs (id := 23) (fun _ => false) fun K hK => ?_ | refine T.rs1 (id := 23) (fun _ => false) fun K hK => ?_ | refine T.rs (id := 22) (fun _ => false) fun K hK => ?_ | refine T.rs1 (id := 22) (fun _ => false) fun K hK => ?_ | refine T.rs (id := 24) (fun _ => false) fun K hK => ?_ | refine T.rs1 (id := 24) (fun _ => false) fun K hK => ?_ | refine T.rs (id := 25) (fun _ => false) fun K hK => ?_ | refine T.rs1 (id := 25) (fun _ => false) fun K hK => ?_ | refine T.rs (id := 26) (fun _ => false) fun K hK => ?_ | refine T.rs1 (id := 26) (fun _ => false) fun K hK => ?_ | refine T.rs (id := 27) (fun _ => false) fun K hK => ?_ | refine T.rs1 (id := 27) (fun _ => false) fun K hK => ?_ | refine T.rs (id := 28) (fun _ => false) fun K hK => ?_ | refine T.rs1 (id := 28) (fun _ => false) fun K hK => ?_ | refine T.rs (id := 29) (fun _ => false) fun K hK => ?_ | refine T.rs1 (id := 29) (fun _ => false) fun K hK => ?_ | refine T.rs (id := 30) (fun _ => false) fun K hK => ?_ | refine T.rs1 (id := 30) (fun _ => false) fun K hK => ?_ | refine T.rs (id := 31) (fun _ => false) fun K hK => ?_ | refine T.rs1 (id := 31) (fun _ => false) fun K hK => ?_ | refine T.rs (id := 32) (fun _ => false) fun K hK => ?_ | refine T.rs1 (id := 32) (fun _ => false) fun K hK => ?_ | refine T.rs (id := 33) (fun _ => false) fun K hK => ?_ | refine T.rs1 (id := 33) (fun _ => false) fun K hK => ?_ | refine T.rs (id := 34) (fun _ => false) fun K hK => ?_ | refine T.rs1 (id := 34) (fun _ => false) fun K hK => ?_ | refine T.rs (id := 35) (fun _ => false) fun K hK => ?_ | refine T.rs1 (id := 35) (fun _ => false) fun K hK => ?_ | (refine ⟨by omega, ?_⟩) | refine T.ct rfl ?_ | refine T.cf rfl ?_ | refine T.seq ?_ | refine T.block ?_ | refine T.skip ?_ | refine T.exit ?_
 all_goals (refine T.ret (Done.own1 0 (Or.inr rfl) (ys := [_]) ?_ rfl ?_) <;> simp [resAs, Tryz.results93])

theorem l14Compile_ite (e : MTm) (names : List UInt8) (h5 : e.kind = 9) (hn : names.length <= 1000000) (hd : BaHead names e) (hsm : ∀ u ∈ e.kids, (compM (names) u).length <= 1000000)
  (ih : ∀ u ∈ e.kids, ACalls Tryz.prog 93 [aTm u, .s (names)] [] (.c (.own 0 (compM (names) u).length)) [] [{ sz := 2, ety := 51, rows := (compM (names) u).map eOp, wr := true }]) :
  ACalls Tryz.prog 93 [aTm e, .s names] [] (.c (.own 0 (opNode e.kind (names.length - 1 - lastIx names (e.name.headD 0)) e.num (e.kids.map (compM (names)))).length)) [] [{ sz := 2, ety := 51, rows := (opNode e.kind (names.length - 1 - lastIx names (e.name.headD 0)) e.num (e.kids.map (compM (names)))).map eOp, wr := true }] := by
 have hnl := hd.nlen
 have hnm : names.length + e.name.length <= 4611686018427387904 := by omega
 obtain ⟨a, b, c, hkids⟩ := hd.ite h5
 have ha := hsm a (by rw [hkids]; simp)
 have hb := hsm b (by rw [hkids]; simp)
 have hc := hsm c (by rw [hkids]; simp)
 have hA := ih a (by rw [hkids]; simp)
 have hB := (ih b (by rw [hkids]; simp)).sealed (by simp)
 have hC := (ih c (by rw [hkids]; simp)).sealed (by simp)
 dsimp only at hB hC
 rw [hkids]
 simp only [List.map_cons, List.map_nil, opNode, h5]
 generalize compM names a = A1 at *
 generalize compM names b = B1 at *
 generalize compM names c = C1 at *
 refine ACalls.of_body Tryz.func93 (by kernel_rfl) rfl (by kernel_rfl) (by simp [Tryz.ntmps93]) (by simp) ?_
 rw [Tryz.ntmps93]
 repeat' first | ((first | refine aops_end (hK _ ?_) | refine aopsD_end (hK _ ?_) | refine aopsF_end (hK _ ?_)); clear hK K) | ((first | refine aops_go ?_ | refine aopsD_go ?_ | refine aopsF_go ?_ | refine wpcall_pure rfl (hB) ?_ | refine wpcall_pure rfl (hC) ?_); simp [h5, hkids]; (try simp (disch := omega) only [wrap64]); (try (refine gen2 ?_ ?_ <;> intro hq <;> try simp [h5, hkids] at hq))) | (refine wpcall_own rfl (hA) ?_; simp [h5, hkids]; (try simp (disch := omega) only [wrap64]); (try (refine gen2 ?_ ?_ <;> intro hq <;> try simp [h5, hkids] at hq))) | (refine ⟨by omega, by omega, ?_⟩) | refine T.rd (id := 11) mixed (fun _ => false) [11] (by kernel_rfl) fun K hK => ?_ | refine T.rd1 (id := 11) mixed (fun _ => false) [11] (by kernel_rfl) fun K hK => ?_ | refine T.r0 fun K hK => ?_ | refine T.r1 fun K hK => ?_ | (refine ⟨by omega, ?_⟩) | refine T.ct rfl ?_ | refine T.cf rfl ?_ | refine T.seq ?_ | refine T.block ?_ | refine T.skip ?_ | refine T.exit ?_
 all_goals (refine T.ret (Done.own1 0 (Or.inr rfl) (ys := [_]) ?_ rfl ?_) <;> simp [resAs, Tryz.results93, show A1.length + 1 + B1.length + 1 + C1.length = A1.length + (B1.length + (C1.length + 1) + 1) by omega])

theorem l14Compile_app (e : MTm) (names : List UInt8) (h5 : e.kind = 6) (hn : names.length <= 1000000) (hd : BaHead names e) (hsm : ∀ u ∈ e.kids, (compM (names) u).length <= 1000000)
  (ih : ∀ u ∈ e.kids, ACalls Tryz.prog 93 [aTm u, .s (names)] [] (.c (.own 0 (compM (names) u).length)) [] [{ sz := 2, ety := 51, rows := (compM (names) u).map eOp, wr := true }]) :
  ACalls Tryz.prog 93 [aTm e, .s names] [] (.c (.own 0 (opNode e.kind (names.length - 1 - lastIx names (e.name.headD 0)) e.num (e.kids.map (compM (names)))).length)) [] [{ sz := 2, ety := 51, rows := (opNode e.kind (names.length - 1 - lastIx names (e.name.headD 0)) e.num (e.kids.map (compM (names)))).map eOp, wr := true }] := by
 have hnl := hd.nlen
 have hnm : names.length + e.name.length <= 4611686018427387904 := by omega
 have hl := hd.len
 have hfl : ∀ p, ((e.kids.take p).map (compM names)).flatten.length <= 4000000 := fun p => by
  have hs : ∀ (m : List (List MOp)), (∀ l ∈ m, l.length <= 1000000) -> m.flatten.length <= m.length * 1000000 := by
   intro m
   induction m with
   | nil => simp
   | cons a r ih => intro h; have e1 := h a (by simp); have e2 := ih (fun l hl => h l (by simp [hl])); rw [List.flatten_cons, List.length_append, List.length_cons]; omega
  have := hs ((e.kids.take p).map (compM names)) (fun l hl => by obtain ⟨u, hu, rfl⟩ := List.mem_map.1 hl; exact hsm u (List.mem_of_mem_take hu))
  rw [List.length_map, List.length_take] at this; omega
 rw [show opNode e.kind (names.length - 1 - lastIx names (e.name.headD 0)) e.num (e.kids.map (compM names)) = (e.kids.map (compM names)).flatten ++ [⟨6, 0⟩] by simp [opNode, lastOp, h5]]
 obtain ⟨F, hF⟩ : ∃ F : Nat -> List MOp, ∀ p, F p = ((e.kids.take p).map (compM names)).flatten := ⟨_, fun p => rfl⟩
 have hF0 : F 0 = [] := by rw [hF]; rfl
 have hFl : F e.kids.length = (e.kids.map (compM names)).flatten := by rw [hF, List.take_length]
 simp only [<- hF] at hfl
 rw [<- hFl]
 refine ACalls.of_body Tryz.func93 (by kernel_rfl) rfl (by kernel_rfl) (by simp [Tryz.ntmps93]) (by simp) ?_
 rw [Tryz.ntmps93]
 repeat' first | ((first | refine aops_end (hK _ ?_) | refine aopsD_end (hK _ ?_) | refine aopsF_end (hK _ ?_)); clear hK K) | ((first | refine aops_go ?_ | refine aopsD_go ?_ | refine aopsF_go ?_); simp [h5]; (try simp (disch := omega) only [wrap64]); (try (refine gen2 ?_ ?_ <;> intro hq <;> try simp [h5] at hq))) | refine T.rd (id := 11) mixed (fun _ => false) [11] (by kernel_rfl) fun K hK => ?_ | refine T.rd1 (id := 11) mixed (fun _ => false) [11] (by kernel_rfl) fun K hK => ?_ | refine T.rs (id := 19) (fun i => i == 0) fun K hK => ?_ | refine T.rs1 (id := 19) (fun i => i == 0) fun K hK => ?_ | refine T.rs (id := 0) (fun _ => false) fun K hK => ?_ | refine T.rs1 (id := 0) (fun _ => false) fun K hK => ?_ | refine T.rs (id := 1) (fun _ => false) fun K hK => ?_ | refine T.rs1 (id := 1) (fun _ => false) fun K hK => ?_ | refine T.rs (id := 2) (fun _ => false) fun K hK => ?_ | refine T.rs1 (id := 2) (fun _ => false) fun K hK => ?_ | refine T.rs (id := 3) (fun _ => false) fun K hK => ?_ | refine T.rs1 (id := 3) (fun _ => false) fun K hK => ?_ | refine T.rs (id := 4) (fun _ => false) fun K hK => ?_ | refine T.rs1 (id := 4) (fun _ => false) fun K hK => ?_ | refine T.rs (id := 5) (fun _ => false) fun K hK => ?_ | refine T.rs1 (id := 5) (fun _ => false) fun K hK => ?_ | refine T.rs (id := 6) (fun _ => false) fun K hK => ?_ | refine T.rs1 (id := 6) (fun _ => false) fun K hK => ?_ | refine T.rs (id := 7) (fun _ => false) fun K hK => ?_ | refine T.rs1 (id := 7) (fun _ => false) fun K hK => ?_ | refine T.rs (id := 8) (fun _ => false) fun K hK => ?_ | refine T.rs1 (id := 8) (fun _ => false) fun K hK => ?_ | refine T.rs (id := 9) (fun _ => false) fun K hK => ?_ | refine T.rs1 (id := 9) (fun _ => false) fun K hK => ?_ | refine T.rs (id := 10) (fun _ => false) fun K hK => ?_ | refine T.rs1 (id := 10) (fun _ => false) fun K hK => ?_ | refine T.rs (id := 12) (fun _ => false) fun K hK => ?_ | refine T.rs1 (id := 12) (fun _ => false) fun K hK => ?_ | refine T.rs (id := 13) (fun _ => false) fun K hK => ?_ | refine T.rs1 (id := 13) (fun _ => false) fun K hK => ?_ | refine T.rs (id := 14) (fun _ => false) fun K hK => ?_ | refine T.rs1 (id := 14) (fun _ => false) fun K hK => ?_ | refine T.rs (id := 15) (fun _ => false) fun K hK => ?_ | refine T.rs1 (id := 15) (fun _ => false) fun K hK => ?_ | refine T.rs (id := 16) (fun _ => false) fun K hK => ?_ | refine T.rs1 (id := 16) (fun _ => false) fun K hK => ?_ | refine T.rs (id := 17) (fun _ => false) fun K hK => ?_ | refine T.rs1 (id := 17) (fun _ => false) fun K hK => ?_ | refine T.rs (id := 18) (fun _ => false) fun K hK => ?_ | refine T.rs1 (id := 18) (fun _ => false) fun K hK => ?_ | refine T.rs (id := 20) (fun _ => false) fun K hK => ?_ | refine T.rs1 (id := 20) (fun _ => false) fun K hK => ?_ | refine T.rs (id := 21) (fun _ => false) fun K hK => ?_ | refine T.rs1 (id := 21) (fun _ => false) fun K hK => ?_ | refine T.rs (id := 23) (fun _ => false) fun K hK => ?_ | refine T.rs1 (id := 23) (fun _ => false) fun K hK => ?_ | refine T.rs (id := 22) (fun _ => false) fun K hK => ?_ | refine T.rs1 (id := 22) (fun _ => false) fun K hK => ?_ | refine T.rs (id := 24) (fun _ => false) fun K hK => ?_ | refine T.rs1 (id := 24) (fun _ => false) fun K hK => ?_ | refine T.rs (id := 25) (fun _ => false) fun K hK => ?_ | refine T.rs1 (id := 25) (fun _ => false) fun K hK => ?_ | refine T.rs (id := 26) (fun _ => false) fun K hK => ?_ | refine T.rs1 (id := 26) (fun _ => false) fun K hK => ?_ | refine T.rs (id := 27) (fun _ => false) fun K hK => ?_ | refine T.rs1 (id := 27) (fun _ => false) fun K hK => ?_ | refine T.rs (id := 28) (fun _ => false) fun K hK => ?_ | refine T.rs1 (id := 28) (fun _ => false) fun K hK => ?_ | refine T.rs (id := 29) (fun _ => false) fun K hK => ?_ | refine T.rs1 (id := 29) (fun _ => false) fun K hK => ?_ | refine T.rs (id := 30) (fun _ => false) fun K hK => ?_ | refine T.rs1 (id := 30) (fun _ => false) fun K hK => ?_ | refine T.rs (id := 31) (fun _ => false) fun K hK => ?_ | refine T.rs1 (id := 31) (fun _ => false) fun K hK => ?_ | refine T.rs (id := 32) (fun _ => false) fun K hK => ?_ | refine T.rs1 (id := 32) (fun _ => false) fun K hK => ?_ | refine T.rs (id := 33) (fun _ => false) fun K hK => ?_ | refine T.rs1 (id := 33) (fun _ => false) fun K hK => ?_ | refine T.rs (id := 34) (fun _ => false) fun K hK => ?_ | refine T.rs1 (id := 34) (fun _ => false) fun K hK => ?_ | refine T.rs (id := 35) (fun _ => false) fun K hK => ?_ | refine T.rs1 (id := 35) (fun _ => false) fun K hK => ?_ | (refine ⟨by omega, ?_⟩) | refine T.ct rfl ?_ | refine T.cf rfl ?_ | refine T.seq ?_ | refine T.block ?_ | refine T.skip ?_ | refine T.exit ?_
 refine T.loopK (α := Nat × List (List CV) × List Arr) [1, 2, 4] (fun x => [(9, .c (.own 0 (F x.1).length)), (10, .i x.1)]) (fun _ => []) (fun x => x.2.1) (fun x _ => { sz := 2, ety := 51, rows := (F x.1).map eOp, wr := true } :: x.2.2) (fun x => e.kids.length + 1 - x.1) (fun x => x.1 <= e.kids.length) (by simp; rfl) (fun x hx => ?_) (0, [], []) (by simp) (by simp) (by simp [hF0]) (by simp [hF0])
 obtain ⟨p, G, GA⟩ := x
 dsimp only at hx ⊢
 simp only [ups, List.set_cons_zero, List.set_cons_succ, List.cons_append, List.nil_append]
 by_cases hlt : p < e.kids.length
 ·obtain ⟨u, ht⟩ := get_lt hlt
  have htm : u ∈ e.kids := List.mem_of_getElem? ht
  have hgt : e.kids[p] = u := by rw [List.getElem?_eq_getElem hlt] at ht; exact Option.some.inj ht
  have hdr : e.kids.drop p = u :: e.kids.drop (p + 1) := by rw [List.drop_eq_getElem_cons hlt, hgt]
  have hu := (ih u htm).sealed (by simp)
  dsimp only at hu
  have hul := hsm u htm
  have hp1 := hfl p
  have htk : F (p + 1) = F p ++ compM names u := by rw [hF, hF, take_succ_of ht]; simp
  generalize F p = fl at *
  generalize compM names u = cu at *
  repeat' first | ((first | refine aops_end (hK _ ?_) | refine aopsD_end (hK _ ?_) | refine aopsF_end (hK _ ?_)); clear hK K) | ((first | refine aops_go ?_ | refine aopsD_go ?_ | refine aopsF_go ?_ | refine wpcall_pure rfl (hu) ?_); simp [hlt, hgt]; (try simp (disch := omega) only [wrap64]); (try (refine gen2 ?_ ?_ <;> intro hq <;> try simp [hlt, hgt] at hq))) | (refine ⟨by omega, by omega, ?_⟩) | (refine ⟨(p + 1, _, GA), by dsimp only; omega, by dsimp only; omega, rfl, ?_, ?_⟩ <;> simp (disch := omega) [wrap64, htk]) | refine T.rd (id := 11) mixed (fun _ => false) [11] (by kernel_rfl) fun K hK => ?_ | refine T.rd1 (id := 11) mixed (fun _ => false) [11] (by kernel_rfl) fun K hK => ?_ | refine T.r0 fun K hK => ?_ | refine T.r1 fun K hK => ?_ | (refine ⟨by omega, ?_⟩) | refine T.ct rfl ?_ | refine T.cf rfl ?_ | refine T.seq ?_ | refine T.block ?_ | refine T.skip ?_ | refine T.exit ?_
 ·have hp' : p = e.kids.length := by omega
  subst hp'
  have hp1 := hfl e.kids.length
  generalize F e.kids.length = fl at *
  repeat' first | ((first | refine aops_end (hK _ ?_) | refine aopsD_end (hK _ ?_) | refine aopsF_end (hK _ ?_)); clear hK K) | ((first | refine aops_go ?_ | refine aopsD_go ?_ | refine aopsF_go ?_); simp [hlt, h5]; (try simp (disch := omega) only [wrap64]); (try (refine gen2 ?_ ?_ <;> intro hq <;> try simp [hlt, h5] at hq))) | (refine ⟨by omega, by omega, ?_⟩) | refine T.rd (id := 11) mixed (fun _ => false) [11] (by kernel_rfl) fun K hK => ?_ | refine T.rd1 (id := 11) mixed (fun _ => false) [11] (by kernel_rfl) fun K hK => ?_ | refine T.r0 fun K hK => ?_ | refine T.r1 fun K hK => ?_ | (refine ⟨by omega, ?_⟩) | refine T.ct rfl ?_ | refine T.cf rfl ?_ | refine T.seq ?_ | refine T.block ?_ | refine T.skip ?_ | refine T.exit ?_
  all_goals (refine T.ret (Done.own1 0 (Or.inr rfl) (ys := [_]) ?_ rfl ?_) <;> simp [resAs, Tryz.results93])

theorem l14Compile_add (e : MTm) (names : List UInt8) (h5 : e.kind = 7) (hn : names.length <= 1000000) (hd : BaHead names e) (hsm : ∀ u ∈ e.kids, (compM (names) u).length <= 1000000)
  (ih : ∀ u ∈ e.kids, ACalls Tryz.prog 93 [aTm u, .s (names)] [] (.c (.own 0 (compM (names) u).length)) [] [{ sz := 2, ety := 51, rows := (compM (names) u).map eOp, wr := true }]) :
  ACalls Tryz.prog 93 [aTm e, .s names] [] (.c (.own 0 (opNode e.kind (names.length - 1 - lastIx names (e.name.headD 0)) e.num (e.kids.map (compM (names)))).length)) [] [{ sz := 2, ety := 51, rows := (opNode e.kind (names.length - 1 - lastIx names (e.name.headD 0)) e.num (e.kids.map (compM (names)))).map eOp, wr := true }] := by
 have hnl := hd.nlen
 have hnm : names.length + e.name.length <= 4611686018427387904 := by omega
 have hl := hd.len
 have hfl : ∀ p, ((e.kids.take p).map (compM names)).flatten.length <= 4000000 := fun p => by
  have hs : ∀ (m : List (List MOp)), (∀ l ∈ m, l.length <= 1000000) -> m.flatten.length <= m.length * 1000000 := by
   intro m
   induction m with
   | nil => simp
   | cons a r ih => intro h; have e1 := h a (by simp); have e2 := ih (fun l hl => h l (by simp [hl])); rw [List.flatten_cons, List.length_append, List.length_cons]; omega
  have := hs ((e.kids.take p).map (compM names)) (fun l hl => by obtain ⟨u, hu, rfl⟩ := List.mem_map.1 hl; exact hsm u (List.mem_of_mem_take hu))
  rw [List.length_map, List.length_take] at this; omega
 rw [show opNode e.kind (names.length - 1 - lastIx names (e.name.headD 0)) e.num (e.kids.map (compM names)) = (e.kids.map (compM names)).flatten ++ [⟨7, 0⟩] by simp [opNode, lastOp, h5]]
 obtain ⟨F, hF⟩ : ∃ F : Nat -> List MOp, ∀ p, F p = ((e.kids.take p).map (compM names)).flatten := ⟨_, fun p => rfl⟩
 have hF0 : F 0 = [] := by rw [hF]; rfl
 have hFl : F e.kids.length = (e.kids.map (compM names)).flatten := by rw [hF, List.take_length]
 simp only [<- hF] at hfl
 rw [<- hFl]
 refine ACalls.of_body Tryz.func93 (by kernel_rfl) rfl (by kernel_rfl) (by simp [Tryz.ntmps93]) (by simp) ?_
 rw [Tryz.ntmps93]
 repeat' first | ((first | refine aops_end (hK _ ?_) | refine aopsD_end (hK _ ?_) | refine aopsF_end (hK _ ?_)); clear hK K) | ((first | refine aops_go ?_ | refine aopsD_go ?_ | refine aopsF_go ?_); simp [h5]; (try simp (disch := omega) only [wrap64]); (try (refine gen2 ?_ ?_ <;> intro hq <;> try simp [h5] at hq))) | refine T.rd (id := 11) mixed (fun _ => false) [11] (by kernel_rfl) fun K hK => ?_ | refine T.rd1 (id := 11) mixed (fun _ => false) [11] (by kernel_rfl) fun K hK => ?_ | refine T.rs (id := 19) (fun i => i == 0) fun K hK => ?_ | refine T.rs1 (id := 19) (fun i => i == 0) fun K hK => ?_ | refine T.rs (id := 0) (fun _ => false) fun K hK => ?_ | refine T.rs1 (id := 0) (fun _ => false) fun K hK => ?_ | refine T.rs (id := 1) (fun _ => false) fun K hK => ?_ | refine T.rs1 (id := 1) (fun _ => false) fun K hK => ?_ | refine T.rs (id := 2) (fun _ => false) fun K hK => ?_ | refine T.rs1 (id := 2) (fun _ => false) fun K hK => ?_ | refine T.rs (id := 3) (fun _ => false) fun K hK => ?_ | refine T.rs1 (id := 3) (fun _ => false) fun K hK => ?_ | refine T.rs (id := 4) (fun _ => false) fun K hK => ?_ | refine T.rs1 (id := 4) (fun _ => false) fun K hK => ?_ | refine T.rs (id := 5) (fun _ => false) fun K hK => ?_ | refine T.rs1 (id := 5) (fun _ => false) fun K hK => ?_ | refine T.rs (id := 6) (fun _ => false) fun K hK => ?_ | refine T.rs1 (id := 6) (fun _ => false) fun K hK => ?_ | refine T.rs (id := 7) (fun _ => false) fun K hK => ?_ | refine T.rs1 (id := 7) (fun _ => false) fun K hK => ?_ | refine T.rs (id := 8) (fun _ => false) fun K hK => ?_ | refine T.rs1 (id := 8) (fun _ => false) fun K hK => ?_ | refine T.rs (id := 9) (fun _ => false) fun K hK => ?_ | refine T.rs1 (id := 9) (fun _ => false) fun K hK => ?_ | refine T.rs (id := 10) (fun _ => false) fun K hK => ?_ | refine T.rs1 (id := 10) (fun _ => false) fun K hK => ?_ | refine T.rs (id := 12) (fun _ => false) fun K hK => ?_ | refine T.rs1 (id := 12) (fun _ => false) fun K hK => ?_ | refine T.rs (id := 13) (fun _ => false) fun K hK => ?_ | refine T.rs1 (id := 13) (fun _ => false) fun K hK => ?_ | refine T.rs (id := 14) (fun _ => false) fun K hK => ?_ | refine T.rs1 (id := 14) (fun _ => false) fun K hK => ?_ | refine T.rs (id := 15) (fun _ => false) fun K hK => ?_ | refine T.rs1 (id := 15) (fun _ => false) fun K hK => ?_ | refine T.rs (id := 16) (fun _ => false) fun K hK => ?_ | refine T.rs1 (id := 16) (fun _ => false) fun K hK => ?_ | refine T.rs (id := 17) (fun _ => false) fun K hK => ?_ | refine T.rs1 (id := 17) (fun _ => false) fun K hK => ?_ | refine T.rs (id := 18) (fun _ => false) fun K hK => ?_ | refine T.rs1 (id := 18) (fun _ => false) fun K hK => ?_ | refine T.rs (id := 20) (fun _ => false) fun K hK => ?_ | refine T.rs1 (id := 20) (fun _ => false) fun K hK => ?_ | refine T.rs (id := 21) (fun _ => false) fun K hK => ?_ | refine T.rs1 (id := 21) (fun _ => false) fun K hK => ?_ | refine T.rs (id := 23) (fun _ => false) fun K hK => ?_ | refine T.rs1 (id := 23) (fun _ => false) fun K hK => ?_ | refine T.rs (id := 22) (fun _ => false) fun K hK => ?_ | refine T.rs1 (id := 22) (fun _ => false) fun K hK => ?_ | refine T.rs (id := 24) (fun _ => false) fun K hK => ?_ | refine T.rs1 (id := 24) (fun _ => false) fun K hK => ?_ | refine T.rs (id := 25) (fun _ => false) fun K hK => ?_ | refine T.rs1 (id := 25) (fun _ => false) fun K hK => ?_ | refine T.rs (id := 26) (fun _ => false) fun K hK => ?_ | refine T.rs1 (id := 26) (fun _ => false) fun K hK => ?_ | refine T.rs (id := 27) (fun _ => false) fun K hK => ?_ | refine T.rs1 (id := 27) (fun _ => false) fun K hK => ?_ | refine T.rs (id := 28) (fun _ => false) fun K hK => ?_ | refine T.rs1 (id := 28) (fun _ => false) fun K hK => ?_ | refine T.rs (id := 29) (fun _ => false) fun K hK => ?_ | refine T.rs1 (id := 29) (fun _ => false) fun K hK => ?_ | refine T.rs (id := 30) (fun _ => false) fun K hK => ?_ | refine T.rs1 (id := 30) (fun _ => false) fun K hK => ?_ | refine T.rs (id := 31) (fun _ => false) fun K hK => ?_ | refine T.rs1 (id := 31) (fun _ => false) fun K hK => ?_ | refine T.rs (id := 32) (fun _ => false) fun K hK => ?_ | refine T.rs1 (id := 32) (fun _ => false) fun K hK => ?_ | refine T.rs (id := 33) (fun _ => false) fun K hK => ?_ | refine T.rs1 (id := 33) (fun _ => false) fun K hK => ?_ | refine T.rs (id := 34) (fun _ => false) fun K hK => ?_ | refine T.rs1 (id := 34) (fun _ => false) fun K hK => ?_ | refine T.rs (id := 35) (fun _ => false) fun K hK => ?_ | refine T.rs1 (id := 35) (fun _ => false) fun K hK => ?_ | (refine ⟨by omega, ?_⟩) | refine T.ct rfl ?_ | refine T.cf rfl ?_ | refine T.seq ?_ | refine T.block ?_ | refine T.skip ?_ | refine T.exit ?_
 refine T.loopK (α := Nat × List (List CV) × List Arr) [1, 2, 4] (fun x => [(9, .c (.own 0 (F x.1).length)), (10, .i x.1)]) (fun _ => []) (fun x => x.2.1) (fun x _ => { sz := 2, ety := 51, rows := (F x.1).map eOp, wr := true } :: x.2.2) (fun x => e.kids.length + 1 - x.1) (fun x => x.1 <= e.kids.length) (by simp; rfl) (fun x hx => ?_) (0, [], []) (by simp) (by simp) (by simp [hF0]) (by simp [hF0])
 obtain ⟨p, G, GA⟩ := x
 dsimp only at hx ⊢
 simp only [ups, List.set_cons_zero, List.set_cons_succ, List.cons_append, List.nil_append]
 by_cases hlt : p < e.kids.length
 ·obtain ⟨u, ht⟩ := get_lt hlt
  have htm : u ∈ e.kids := List.mem_of_getElem? ht
  have hgt : e.kids[p] = u := by rw [List.getElem?_eq_getElem hlt] at ht; exact Option.some.inj ht
  have hdr : e.kids.drop p = u :: e.kids.drop (p + 1) := by rw [List.drop_eq_getElem_cons hlt, hgt]
  have hu := (ih u htm).sealed (by simp)
  dsimp only at hu
  have hul := hsm u htm
  have hp1 := hfl p
  have htk : F (p + 1) = F p ++ compM names u := by rw [hF, hF, take_succ_of ht]; simp
  generalize F p = fl at *
  generalize compM names u = cu at *
  repeat' first | ((first | refine aops_end (hK _ ?_) | refine aopsD_end (hK _ ?_) | refine aopsF_end (hK _ ?_)); clear hK K) | ((first | refine aops_go ?_ | refine aopsD_go ?_ | refine aopsF_go ?_ | refine wpcall_pure rfl (hu) ?_); simp [hlt, hgt]; (try simp (disch := omega) only [wrap64]); (try (refine gen2 ?_ ?_ <;> intro hq <;> try simp [hlt, hgt] at hq))) | (refine ⟨by omega, by omega, ?_⟩) | (refine ⟨(p + 1, _, GA), by dsimp only; omega, by dsimp only; omega, rfl, ?_, ?_⟩ <;> simp (disch := omega) [wrap64, htk]) | refine T.rd (id := 11) mixed (fun _ => false) [11] (by kernel_rfl) fun K hK => ?_ | refine T.rd1 (id := 11) mixed (fun _ => false) [11] (by kernel_rfl) fun K hK => ?_ | refine T.r0 fun K hK => ?_ | refine T.r1 fun K hK => ?_ | (refine ⟨by omega, ?_⟩) | refine T.ct rfl ?_ | refine T.cf rfl ?_ | refine T.seq ?_ | refine T.block ?_ | refine T.skip ?_ | refine T.exit ?_
 ·have hp' : p = e.kids.length := by omega
  subst hp'
  have hp1 := hfl e.kids.length
  generalize F e.kids.length = fl at *
  repeat' first | ((first | refine aops_end (hK _ ?_) | refine aopsD_end (hK _ ?_) | refine aopsF_end (hK _ ?_)); clear hK K) | ((first | refine aops_go ?_ | refine aopsD_go ?_ | refine aopsF_go ?_); simp [hlt, h5]; (try simp (disch := omega) only [wrap64]); (try (refine gen2 ?_ ?_ <;> intro hq <;> try simp [hlt, h5] at hq))) | (refine ⟨by omega, by omega, ?_⟩) | refine T.rd (id := 11) mixed (fun _ => false) [11] (by kernel_rfl) fun K hK => ?_ | refine T.rd1 (id := 11) mixed (fun _ => false) [11] (by kernel_rfl) fun K hK => ?_ | refine T.r0 fun K hK => ?_ | refine T.r1 fun K hK => ?_ | (refine ⟨by omega, ?_⟩) | refine T.ct rfl ?_ | refine T.cf rfl ?_ | refine T.seq ?_ | refine T.block ?_ | refine T.skip ?_ | refine T.exit ?_
  all_goals (refine T.ret (Done.own1 0 (Or.inr rfl) (ys := [_]) ?_ rfl ?_) <;> simp [resAs, Tryz.results93])

theorem l14Compile_less (e : MTm) (names : List UInt8) (h5 : e.kind = 8) (hn : names.length <= 1000000) (hd : BaHead names e) (hsm : ∀ u ∈ e.kids, (compM (names) u).length <= 1000000)
  (ih : ∀ u ∈ e.kids, ACalls Tryz.prog 93 [aTm u, .s (names)] [] (.c (.own 0 (compM (names) u).length)) [] [{ sz := 2, ety := 51, rows := (compM (names) u).map eOp, wr := true }]) :
  ACalls Tryz.prog 93 [aTm e, .s names] [] (.c (.own 0 (opNode e.kind (names.length - 1 - lastIx names (e.name.headD 0)) e.num (e.kids.map (compM (names)))).length)) [] [{ sz := 2, ety := 51, rows := (opNode e.kind (names.length - 1 - lastIx names (e.name.headD 0)) e.num (e.kids.map (compM (names)))).map eOp, wr := true }] := by
 have hnl := hd.nlen
 have hnm : names.length + e.name.length <= 4611686018427387904 := by omega
 have hl := hd.len
 have hfl : ∀ p, ((e.kids.take p).map (compM names)).flatten.length <= 4000000 := fun p => by
  have hs : ∀ (m : List (List MOp)), (∀ l ∈ m, l.length <= 1000000) -> m.flatten.length <= m.length * 1000000 := by
   intro m
   induction m with
   | nil => simp
   | cons a r ih => intro h; have e1 := h a (by simp); have e2 := ih (fun l hl => h l (by simp [hl])); rw [List.flatten_cons, List.length_append, List.length_cons]; omega
  have := hs ((e.kids.take p).map (compM names)) (fun l hl => by obtain ⟨u, hu, rfl⟩ := List.mem_map.1 hl; exact hsm u (List.mem_of_mem_take hu))
  rw [List.length_map, List.length_take] at this; omega
 rw [show opNode e.kind (names.length - 1 - lastIx names (e.name.headD 0)) e.num (e.kids.map (compM names)) = (e.kids.map (compM names)).flatten ++ [⟨8, 0⟩] by simp [opNode, lastOp, h5]]
 obtain ⟨F, hF⟩ : ∃ F : Nat -> List MOp, ∀ p, F p = ((e.kids.take p).map (compM names)).flatten := ⟨_, fun p => rfl⟩
 have hF0 : F 0 = [] := by rw [hF]; rfl
 have hFl : F e.kids.length = (e.kids.map (compM names)).flatten := by rw [hF, List.take_length]
 simp only [<- hF] at hfl
 rw [<- hFl]
 refine ACalls.of_body Tryz.func93 (by kernel_rfl) rfl (by kernel_rfl) (by simp [Tryz.ntmps93]) (by simp) ?_
 rw [Tryz.ntmps93]
 repeat' first | ((first | refine aops_end (hK _ ?_) | refine aopsD_end (hK _ ?_) | refine aopsF_end (hK _ ?_)); clear hK K) | ((first | refine aops_go ?_ | refine aopsD_go ?_ | refine aopsF_go ?_); simp [h5]; (try simp (disch := omega) only [wrap64]); (try (refine gen2 ?_ ?_ <;> intro hq <;> try simp [h5] at hq))) | refine T.rd (id := 11) mixed (fun _ => false) [11] (by kernel_rfl) fun K hK => ?_ | refine T.rd1 (id := 11) mixed (fun _ => false) [11] (by kernel_rfl) fun K hK => ?_ | refine T.rs (id := 19) (fun i => i == 0) fun K hK => ?_ | refine T.rs1 (id := 19) (fun i => i == 0) fun K hK => ?_ | refine T.rs (id := 0) (fun _ => false) fun K hK => ?_ | refine T.rs1 (id := 0) (fun _ => false) fun K hK => ?_ | refine T.rs (id := 1) (fun _ => false) fun K hK => ?_ | refine T.rs1 (id := 1) (fun _ => false) fun K hK => ?_ | refine T.rs (id := 2) (fun _ => false) fun K hK => ?_ | refine T.rs1 (id := 2) (fun _ => false) fun K hK => ?_ | refine T.rs (id := 3) (fun _ => false) fun K hK => ?_ | refine T.rs1 (id := 3) (fun _ => false) fun K hK => ?_ | refine T.rs (id := 4) (fun _ => false) fun K hK => ?_ | refine T.rs1 (id := 4) (fun _ => false) fun K hK => ?_ | refine T.rs (id := 5) (fun _ => false) fun K hK => ?_ | refine T.rs1 (id := 5) (fun _ => false) fun K hK => ?_ | refine T.rs (id := 6) (fun _ => false) fun K hK => ?_ | refine T.rs1 (id := 6) (fun _ => false) fun K hK => ?_ | refine T.rs (id := 7) (fun _ => false) fun K hK => ?_ | refine T.rs1 (id := 7) (fun _ => false) fun K hK => ?_ | refine T.rs (id := 8) (fun _ => false) fun K hK => ?_ | refine T.rs1 (id := 8) (fun _ => false) fun K hK => ?_ | refine T.rs (id := 9) (fun _ => false) fun K hK => ?_ | refine T.rs1 (id := 9) (fun _ => false) fun K hK => ?_ | refine T.rs (id := 10) (fun _ => false) fun K hK => ?_ | refine T.rs1 (id := 10) (fun _ => false) fun K hK => ?_ | refine T.rs (id := 12) (fun _ => false) fun K hK => ?_ | refine T.rs1 (id := 12) (fun _ => false) fun K hK => ?_ | refine T.rs (id := 13) (fun _ => false) fun K hK => ?_ | refine T.rs1 (id := 13) (fun _ => false) fun K hK => ?_ | refine T.rs (id := 14) (fun _ => false) fun K hK => ?_ | refine T.rs1 (id := 14) (fun _ => false) fun K hK => ?_ | refine T.rs (id := 15) (fun _ => false) fun K hK => ?_ | refine T.rs1 (id := 15) (fun _ => false) fun K hK => ?_ | refine T.rs (id := 16) (fun _ => false) fun K hK => ?_ | refine T.rs1 (id := 16) (fun _ => false) fun K hK => ?_ | refine T.rs (id := 17) (fun _ => false) fun K hK => ?_ | refine T.rs1 (id := 17) (fun _ => false) fun K hK => ?_ | refine T.rs (id := 18) (fun _ => false) fun K hK => ?_ | refine T.rs1 (id := 18) (fun _ => false) fun K hK => ?_ | refine T.rs (id := 20) (fun _ => false) fun K hK => ?_ | refine T.rs1 (id := 20) (fun _ => false) fun K hK => ?_ | refine T.rs (id := 21) (fun _ => false) fun K hK => ?_ | refine T.rs1 (id := 21) (fun _ => false) fun K hK => ?_ | refine T.rs (id := 23) (fun _ => false) fun K hK => ?_ | refine T.rs1 (id := 23) (fun _ => false) fun K hK => ?_ | refine T.rs (id := 22) (fun _ => false) fun K hK => ?_ | refine T.rs1 (id := 22) (fun _ => false) fun K hK => ?_ | refine T.rs (id := 24) (fun _ => false) fun K hK => ?_ | refine T.rs1 (id := 24) (fun _ => false) fun K hK => ?_ | refine T.rs (id := 25) (fun _ => false) fun K hK => ?_ | refine T.rs1 (id := 25) (fun _ => false) fun K hK => ?_ | refine T.rs (id := 26) (fun _ => false) fun K hK => ?_ | refine T.rs1 (id := 26) (fun _ => false) fun K hK => ?_ | refine T.rs (id := 27) (fun _ => false) fun K hK => ?_ | refine T.rs1 (id := 27) (fun _ => false) fun K hK => ?_ | refine T.rs (id := 28) (fun _ => false) fun K hK => ?_ | refine T.rs1 (id := 28) (fun _ => false) fun K hK => ?_ | refine T.rs (id := 29) (fun _ => false) fun K hK => ?_ | refine T.rs1 (id := 29) (fun _ => false) fun K hK => ?_ | refine T.rs (id := 30) (fun _ => false) fun K hK => ?_ | refine T.rs1 (id := 30) (fun _ => false) fun K hK => ?_ | refine T.rs (id := 31) (fun _ => false) fun K hK => ?_ | refine T.rs1 (id := 31) (fun _ => false) fun K hK => ?_ | refine T.rs (id := 32) (fun _ => false) fun K hK => ?_ | refine T.rs1 (id := 32) (fun _ => false) fun K hK => ?_ | refine T.rs (id := 33) (fun _ => false) fun K hK => ?_ | refine T.rs1 (id := 33) (fun _ => false) fun K hK => ?_ | refine T.rs (id := 34) (fun _ => false) fun K hK => ?_ | refine T.rs1 (id := 34) (fun _ => false) fun K hK => ?_ | refine T.rs (id := 35) (fun _ => false) fun K hK => ?_ | refine T.rs1 (id := 35) (fun _ => false) fun K hK => ?_ | (refine ⟨by omega, ?_⟩) | refine T.ct rfl ?_ | refine T.cf rfl ?_ | refine T.seq ?_ | refine T.block ?_ | refine T.skip ?_ | refine T.exit ?_
 refine T.loopK (α := Nat × List (List CV) × List Arr) [1, 2, 4] (fun x => [(9, .c (.own 0 (F x.1).length)), (10, .i x.1)]) (fun _ => []) (fun x => x.2.1) (fun x _ => { sz := 2, ety := 51, rows := (F x.1).map eOp, wr := true } :: x.2.2) (fun x => e.kids.length + 1 - x.1) (fun x => x.1 <= e.kids.length) (by simp; rfl) (fun x hx => ?_) (0, [], []) (by simp) (by simp) (by simp [hF0]) (by simp [hF0])
 obtain ⟨p, G, GA⟩ := x
 dsimp only at hx ⊢
 simp only [ups, List.set_cons_zero, List.set_cons_succ, List.cons_append, List.nil_append]
 by_cases hlt : p < e.kids.length
 ·obtain ⟨u, ht⟩ := get_lt hlt
  have htm : u ∈ e.kids := List.mem_of_getElem? ht
  have hgt : e.kids[p] = u := by rw [List.getElem?_eq_getElem hlt] at ht; exact Option.some.inj ht
  have hdr : e.kids.drop p = u :: e.kids.drop (p + 1) := by rw [List.drop_eq_getElem_cons hlt, hgt]
  have hu := (ih u htm).sealed (by simp)
  dsimp only at hu
  have hul := hsm u htm
  have hp1 := hfl p
  have htk : F (p + 1) = F p ++ compM names u := by rw [hF, hF, take_succ_of ht]; simp
  generalize F p = fl at *
  generalize compM names u = cu at *
  repeat' first | ((first | refine aops_end (hK _ ?_) | refine aopsD_end (hK _ ?_) | refine aopsF_end (hK _ ?_)); clear hK K) | ((first | refine aops_go ?_ | refine aopsD_go ?_ | refine aopsF_go ?_ | refine wpcall_pure rfl (hu) ?_); simp [hlt, hgt]; (try simp (disch := omega) only [wrap64]); (try (refine gen2 ?_ ?_ <;> intro hq <;> try simp [hlt, hgt] at hq))) | (refine ⟨by omega, by omega, ?_⟩) | (refine ⟨(p + 1, _, GA), by dsimp only; omega, by dsimp only; omega, rfl, ?_, ?_⟩ <;> simp (disch := omega) [wrap64, htk]) | refine T.rd (id := 11) mixed (fun _ => false) [11] (by kernel_rfl) fun K hK => ?_ | refine T.rd1 (id := 11) mixed (fun _ => false) [11] (by kernel_rfl) fun K hK => ?_ | refine T.r0 fun K hK => ?_ | refine T.r1 fun K hK => ?_ | (refine ⟨by omega, ?_⟩) | refine T.ct rfl ?_ | refine T.cf rfl ?_ | refine T.seq ?_ | refine T.block ?_ | refine T.skip ?_ | refine T.exit ?_
 ·have hp' : p = e.kids.length := by omega
  subst hp'
  have hp1 := hfl e.kids.length
  generalize F e.kids.length = fl at *
  repeat' first | ((first | refine aops_end (hK _ ?_) | refine aopsD_end (hK _ ?_) | refine aopsF_end (hK _ ?_)); clear hK K) | ((first | refine aops_go ?_ | refine aopsD_go ?_ | refine aopsF_go ?_); simp [hlt, h5]; (try simp (disch := omega) only [wrap64]); (try (refine gen2 ?_ ?_ <;> intro hq <;> try simp [hlt, h5] at hq))) | (refine ⟨by omega, by omega, ?_⟩) | refine T.rd (id := 11) mixed (fun _ => false) [11] (by kernel_rfl) fun K hK => ?_ | refine T.rd1 (id := 11) mixed (fun _ => false) [11] (by kernel_rfl) fun K hK => ?_ | refine T.r0 fun K hK => ?_ | refine T.r1 fun K hK => ?_ | (refine ⟨by omega, ?_⟩) | refine T.ct rfl ?_ | refine T.cf rfl ?_ | refine T.seq ?_ | refine T.block ?_ | refine T.skip ?_ | refine T.exit ?_
  all_goals (refine T.ret (Done.own1 0 (Or.inr rfl) (ys := [_]) ?_ rfl ?_) <;> simp [resAs, Tryz.results93])

theorem l14Compile_pair (e : MTm) (names : List UInt8) (h5 : e.kind = 10) (hn : names.length <= 1000000) (hd : BaHead names e) (hsm : ∀ u ∈ e.kids, (compM (names) u).length <= 1000000)
  (ih : ∀ u ∈ e.kids, ACalls Tryz.prog 93 [aTm u, .s (names)] [] (.c (.own 0 (compM (names) u).length)) [] [{ sz := 2, ety := 51, rows := (compM (names) u).map eOp, wr := true }]) :
  ACalls Tryz.prog 93 [aTm e, .s names] [] (.c (.own 0 (opNode e.kind (names.length - 1 - lastIx names (e.name.headD 0)) e.num (e.kids.map (compM (names)))).length)) [] [{ sz := 2, ety := 51, rows := (opNode e.kind (names.length - 1 - lastIx names (e.name.headD 0)) e.num (e.kids.map (compM (names)))).map eOp, wr := true }] := by
 have hnl := hd.nlen
 have hnm : names.length + e.name.length <= 4611686018427387904 := by omega
 have hl := hd.len
 have hfl : ∀ p, ((e.kids.take p).map (compM names)).flatten.length <= 4000000 := fun p => by
  have hs : ∀ (m : List (List MOp)), (∀ l ∈ m, l.length <= 1000000) -> m.flatten.length <= m.length * 1000000 := by
   intro m
   induction m with
   | nil => simp
   | cons a r ih => intro h; have e1 := h a (by simp); have e2 := ih (fun l hl => h l (by simp [hl])); rw [List.flatten_cons, List.length_append, List.length_cons]; omega
  have := hs ((e.kids.take p).map (compM names)) (fun l hl => by obtain ⟨u, hu, rfl⟩ := List.mem_map.1 hl; exact hsm u (List.mem_of_mem_take hu))
  rw [List.length_map, List.length_take] at this; omega
 rw [show opNode e.kind (names.length - 1 - lastIx names (e.name.headD 0)) e.num (e.kids.map (compM names)) = (e.kids.map (compM names)).flatten ++ [⟨11, 0⟩] by simp [opNode, lastOp, h5]]
 obtain ⟨F, hF⟩ : ∃ F : Nat -> List MOp, ∀ p, F p = ((e.kids.take p).map (compM names)).flatten := ⟨_, fun p => rfl⟩
 have hF0 : F 0 = [] := by rw [hF]; rfl
 have hFl : F e.kids.length = (e.kids.map (compM names)).flatten := by rw [hF, List.take_length]
 simp only [<- hF] at hfl
 rw [<- hFl]
 refine ACalls.of_body Tryz.func93 (by kernel_rfl) rfl (by kernel_rfl) (by simp [Tryz.ntmps93]) (by simp) ?_
 rw [Tryz.ntmps93]
 repeat' first | ((first | refine aops_end (hK _ ?_) | refine aopsD_end (hK _ ?_) | refine aopsF_end (hK _ ?_)); clear hK K) | ((first | refine aops_go ?_ | refine aopsD_go ?_ | refine aopsF_go ?_); simp [h5]; (try simp (disch := omega) only [wrap64]); (try (refine gen2 ?_ ?_ <;> intro hq <;> try simp [h5] at hq))) | refine T.rd (id := 11) mixed (fun _ => false) [11] (by kernel_rfl) fun K hK => ?_ | refine T.rd1 (id := 11) mixed (fun _ => false) [11] (by kernel_rfl) fun K hK => ?_ | refine T.rs (id := 19) (fun i => i == 0) fun K hK => ?_ | refine T.rs1 (id := 19) (fun i => i == 0) fun K hK => ?_ | refine T.rs (id := 0) (fun _ => false) fun K hK => ?_ | refine T.rs1 (id := 0) (fun _ => false) fun K hK => ?_ | refine T.rs (id := 1) (fun _ => false) fun K hK => ?_ | refine T.rs1 (id := 1) (fun _ => false) fun K hK => ?_ | refine T.rs (id := 2) (fun _ => false) fun K hK => ?_ | refine T.rs1 (id := 2) (fun _ => false) fun K hK => ?_ | refine T.rs (id := 3) (fun _ => false) fun K hK => ?_ | refine T.rs1 (id := 3) (fun _ => false) fun K hK => ?_ | refine T.rs (id := 4) (fun _ => false) fun K hK => ?_ | refine T.rs1 (id := 4) (fun _ => false) fun K hK => ?_ | refine T.rs (id := 5) (fun _ => false) fun K hK => ?_ | refine T.rs1 (id := 5) (fun _ => false) fun K hK => ?_ | refine T.rs (id := 6) (fun _ => false) fun K hK => ?_ | refine T.rs1 (id := 6) (fun _ => false) fun K hK => ?_ | refine T.rs (id := 7) (fun _ => false) fun K hK => ?_ | refine T.rs1 (id := 7) (fun _ => false) fun K hK => ?_ | refine T.rs (id := 8) (fun _ => false) fun K hK => ?_ | refine T.rs1 (id := 8) (fun _ => false) fun K hK => ?_ | refine T.rs (id := 9) (fun _ => false) fun K hK => ?_ | refine T.rs1 (id := 9) (fun _ => false) fun K hK => ?_ | refine T.rs (id := 10) (fun _ => false) fun K hK => ?_ | refine T.rs1 (id := 10) (fun _ => false) fun K hK => ?_ | refine T.rs (id := 12) (fun _ => false) fun K hK => ?_ | refine T.rs1 (id := 12) (fun _ => false) fun K hK => ?_ | refine T.rs (id := 13) (fun _ => false) fun K hK => ?_ | refine T.rs1 (id := 13) (fun _ => false) fun K hK => ?_ | refine T.rs (id := 14) (fun _ => false) fun K hK => ?_ | refine T.rs1 (id := 14) (fun _ => false) fun K hK => ?_ | refine T.rs (id := 15) (fun _ => false) fun K hK => ?_ | refine T.rs1 (id := 15) (fun _ => false) fun K hK => ?_ | refine T.rs (id := 16) (fun _ => false) fun K hK => ?_ | refine T.rs1 (id := 16) (fun _ => false) fun K hK => ?_ | refine T.rs (id := 17) (fun _ => false) fun K hK => ?_ | refine T.rs1 (id := 17) (fun _ => false) fun K hK => ?_ | refine T.rs (id := 18) (fun _ => false) fun K hK => ?_ | refine T.rs1 (id := 18) (fun _ => false) fun K hK => ?_ | refine T.rs (id := 20) (fun _ => false) fun K hK => ?_ | refine T.rs1 (id := 20) (fun _ => false) fun K hK => ?_ | refine T.rs (id := 21) (fun _ => false) fun K hK => ?_ | refine T.rs1 (id := 21) (fun _ => false) fun K hK => ?_ | refine T.rs (id := 23) (fun _ => false) fun K hK => ?_ | refine T.rs1 (id := 23) (fun _ => false) fun K hK => ?_ | refine T.rs (id := 22) (fun _ => false) fun K hK => ?_ | refine T.rs1 (id := 22) (fun _ => false) fun K hK => ?_ | refine T.rs (id := 24) (fun _ => false) fun K hK => ?_ | refine T.rs1 (id := 24) (fun _ => false) fun K hK => ?_ | refine T.rs (id := 25) (fun _ => false) fun K hK => ?_ | refine T.rs1 (id := 25) (fun _ => false) fun K hK => ?_ | refine T.rs (id := 26) (fun _ => false) fun K hK => ?_ | refine T.rs1 (id := 26) (fun _ => false) fun K hK => ?_ | refine T.rs (id := 27) (fun _ => false) fun K hK => ?_ | refine T.rs1 (id := 27) (fun _ => false) fun K hK => ?_ | refine T.rs (id := 28) (fun _ => false) fun K hK => ?_ | refine T.rs1 (id := 28) (fun _ => false) fun K hK => ?_ | refine T.rs (id := 29) (fun _ => false) fun K hK => ?_ | refine T.rs1 (id := 29) (fun _ => false) fun K hK => ?_ | refine T.rs (id := 30) (fun _ => false) fun K hK => ?_ | refine T.rs1 (id := 30) (fun _ => false) fun K hK => ?_ | refine T.rs (id := 31) (fun _ => false) fun K hK => ?_ | refine T.rs1 (id := 31) (fun _ => false) fun K hK => ?_ | refine T.rs (id := 32) (fun _ => false) fun K hK => ?_ | refine T.rs1 (id := 32) (fun _ => false) fun K hK => ?_ | refine T.rs (id := 33) (fun _ => false) fun K hK => ?_ | refine T.rs1 (id := 33) (fun _ => false) fun K hK => ?_ | refine T.rs (id := 34) (fun _ => false) fun K hK => ?_ | refine T.rs1 (id := 34) (fun _ => false) fun K hK => ?_ | refine T.rs (id := 35) (fun _ => false) fun K hK => ?_ | refine T.rs1 (id := 35) (fun _ => false) fun K hK => ?_ | (refine ⟨by omega, ?_⟩) | refine T.ct rfl ?_ | refine T.cf rfl ?_ | refine T.seq ?_ | refine T.block ?_ | refine T.skip ?_ | refine T.exit ?_
 refine T.loopK (α := Nat × List (List CV) × List Arr) [1, 2, 4] (fun x => [(9, .c (.own 0 (F x.1).length)), (10, .i x.1)]) (fun _ => []) (fun x => x.2.1) (fun x _ => { sz := 2, ety := 51, rows := (F x.1).map eOp, wr := true } :: x.2.2) (fun x => e.kids.length + 1 - x.1) (fun x => x.1 <= e.kids.length) (by simp; rfl) (fun x hx => ?_) (0, [], []) (by simp) (by simp) (by simp [hF0]) (by simp [hF0])
 obtain ⟨p, G, GA⟩ := x
 dsimp only at hx ⊢
 simp only [ups, List.set_cons_zero, List.set_cons_succ, List.cons_append, List.nil_append]
 by_cases hlt : p < e.kids.length
 ·obtain ⟨u, ht⟩ := get_lt hlt
  have htm : u ∈ e.kids := List.mem_of_getElem? ht
  have hgt : e.kids[p] = u := by rw [List.getElem?_eq_getElem hlt] at ht; exact Option.some.inj ht
  have hdr : e.kids.drop p = u :: e.kids.drop (p + 1) := by rw [List.drop_eq_getElem_cons hlt, hgt]
  have hu := (ih u htm).sealed (by simp)
  dsimp only at hu
  have hul := hsm u htm
  have hp1 := hfl p
  have htk : F (p + 1) = F p ++ compM names u := by rw [hF, hF, take_succ_of ht]; simp
  generalize F p = fl at *
  generalize compM names u = cu at *
  repeat' first | ((first | refine aops_end (hK _ ?_) | refine aopsD_end (hK _ ?_) | refine aopsF_end (hK _ ?_)); clear hK K) | ((first | refine aops_go ?_ | refine aopsD_go ?_ | refine aopsF_go ?_ | refine wpcall_pure rfl (hu) ?_); simp [hlt, hgt]; (try simp (disch := omega) only [wrap64]); (try (refine gen2 ?_ ?_ <;> intro hq <;> try simp [hlt, hgt] at hq))) | (refine ⟨by omega, by omega, ?_⟩) | (refine ⟨(p + 1, _, GA), by dsimp only; omega, by dsimp only; omega, rfl, ?_, ?_⟩ <;> simp (disch := omega) [wrap64, htk]) | refine T.rd (id := 11) mixed (fun _ => false) [11] (by kernel_rfl) fun K hK => ?_ | refine T.rd1 (id := 11) mixed (fun _ => false) [11] (by kernel_rfl) fun K hK => ?_ | refine T.r0 fun K hK => ?_ | refine T.r1 fun K hK => ?_ | (refine ⟨by omega, ?_⟩) | refine T.ct rfl ?_ | refine T.cf rfl ?_ | refine T.seq ?_ | refine T.block ?_ | refine T.skip ?_ | refine T.exit ?_
 ·have hp' : p = e.kids.length := by omega
  subst hp'
  have hp1 := hfl e.kids.length
  generalize F e.kids.length = fl at *
  repeat' first | ((first | refine aops_end (hK _ ?_) | refine aopsD_end (hK _ ?_) | refine aopsF_end (hK _ ?_)); clear hK K) | ((first | refine aops_go ?_ | refine aopsD_go ?_ | refine aopsF_go ?_); simp [hlt, h5]; (try simp (disch := omega) only [wrap64]); (try (refine gen2 ?_ ?_ <;> intro hq <;> try simp [hlt, h5] at hq))) | (refine ⟨by omega, by omega, ?_⟩) | refine T.rd (id := 11) mixed (fun _ => false) [11] (by kernel_rfl) fun K hK => ?_ | refine T.rd1 (id := 11) mixed (fun _ => false) [11] (by kernel_rfl) fun K hK => ?_ | refine T.r0 fun K hK => ?_ | refine T.r1 fun K hK => ?_ | (refine ⟨by omega, ?_⟩) | refine T.ct rfl ?_ | refine T.cf rfl ?_ | refine T.seq ?_ | refine T.block ?_ | refine T.skip ?_ | refine T.exit ?_
  all_goals (refine T.ret (Done.own1 0 (Or.inr rfl) (ys := [_]) ?_ rfl ?_) <;> simp [resAs, Tryz.results93])

theorem l14Compile_fst (e : MTm) (names : List UInt8) (h5 : e.kind = 11) (hn : names.length <= 1000000) (hd : BaHead names e) (hsm : ∀ u ∈ e.kids, (compM (names) u).length <= 1000000)
  (ih : ∀ u ∈ e.kids, ACalls Tryz.prog 93 [aTm u, .s (names)] [] (.c (.own 0 (compM (names) u).length)) [] [{ sz := 2, ety := 51, rows := (compM (names) u).map eOp, wr := true }]) :
  ACalls Tryz.prog 93 [aTm e, .s names] [] (.c (.own 0 (opNode e.kind (names.length - 1 - lastIx names (e.name.headD 0)) e.num (e.kids.map (compM (names)))).length)) [] [{ sz := 2, ety := 51, rows := (opNode e.kind (names.length - 1 - lastIx names (e.name.headD 0)) e.num (e.kids.map (compM (names)))).map eOp, wr := true }] := by
 have hnl := hd.nlen
 have hnm : names.length + e.name.length <= 4611686018427387904 := by omega
 have hl := hd.len
 have hfl : ∀ p, ((e.kids.take p).map (compM names)).flatten.length <= 4000000 := fun p => by
  have hs : ∀ (m : List (List MOp)), (∀ l ∈ m, l.length <= 1000000) -> m.flatten.length <= m.length * 1000000 := by
   intro m
   induction m with
   | nil => simp
   | cons a r ih => intro h; have e1 := h a (by simp); have e2 := ih (fun l hl => h l (by simp [hl])); rw [List.flatten_cons, List.length_append, List.length_cons]; omega
  have := hs ((e.kids.take p).map (compM names)) (fun l hl => by obtain ⟨u, hu, rfl⟩ := List.mem_map.1 hl; exact hsm u (List.mem_of_mem_take hu))
  rw [List.length_map, List.length_take] at this; omega
 rw [show opNode e.kind (names.length - 1 - lastIx names (e.name.headD 0)) e.num (e.kids.map (compM names)) = (e.kids.map (compM names)).flatten ++ [⟨12, 0⟩] by simp [opNode, lastOp, h5]]
 obtain ⟨F, hF⟩ : ∃ F : Nat -> List MOp, ∀ p, F p = ((e.kids.take p).map (compM names)).flatten := ⟨_, fun p => rfl⟩
 have hF0 : F 0 = [] := by rw [hF]; rfl
 have hFl : F e.kids.length = (e.kids.map (compM names)).flatten := by rw [hF, List.take_length]
 simp only [<- hF] at hfl
 rw [<- hFl]
 refine ACalls.of_body Tryz.func93 (by kernel_rfl) rfl (by kernel_rfl) (by simp [Tryz.ntmps93]) (by simp) ?_
 rw [Tryz.ntmps93]
 repeat' first | ((first | refine aops_end (hK _ ?_) | refine aopsD_end (hK _ ?_) | refine aopsF_end (hK _ ?_)); clear hK K) | ((first | refine aops_go ?_ | refine aopsD_go ?_ | refine aopsF_go ?_); simp [h5]; (try simp (disch := omega) only [wrap64]); (try (refine gen2 ?_ ?_ <;> intro hq <;> try simp [h5] at hq))) | refine T.rd (id := 11) mixed (fun _ => false) [11] (by kernel_rfl) fun K hK => ?_ | refine T.rd1 (id := 11) mixed (fun _ => false) [11] (by kernel_rfl) fun K hK => ?_ | refine T.rs (id := 19) (fun i => i == 0) fun K hK => ?_ | refine T.rs1 (id := 19) (fun i => i == 0) fun K hK => ?_ | refine T.rs (id := 0) (fun _ => false) fun K hK => ?_ | refine T.rs1 (id := 0) (fun _ => false) fun K hK => ?_ | refine T.rs (id := 1) (fun _ => false) fun K hK => ?_ | refine T.rs1 (id := 1) (fun _ => false) fun K hK => ?_ | refine T.rs (id := 2) (fun _ => false) fun K hK => ?_ | refine T.rs1 (id := 2) (fun _ => false) fun K hK => ?_ | refine T.rs (id := 3) (fun _ => false) fun K hK => ?_ | refine T.rs1 (id := 3) (fun _ => false) fun K hK => ?_ | refine T.rs (id := 4) (fun _ => false) fun K hK => ?_ | refine T.rs1 (id := 4) (fun _ => false) fun K hK => ?_ | refine T.rs (id := 5) (fun _ => false) fun K hK => ?_ | refine T.rs1 (id := 5) (fun _ => false) fun K hK => ?_ | refine T.rs (id := 6) (fun _ => false) fun K hK => ?_ | refine T.rs1 (id := 6) (fun _ => false) fun K hK => ?_ | refine T.rs (id := 7) (fun _ => false) fun K hK => ?_ | refine T.rs1 (id := 7) (fun _ => false) fun K hK => ?_ | refine T.rs (id := 8) (fun _ => false) fun K hK => ?_ | refine T.rs1 (id := 8) (fun _ => false) fun K hK => ?_ | refine T.rs (id := 9) (fun _ => false) fun K hK => ?_ | refine T.rs1 (id := 9) (fun _ => false) fun K hK => ?_ | refine T.rs (id := 10) (fun _ => false) fun K hK => ?_ | refine T.rs1 (id := 10) (fun _ => false) fun K hK => ?_ | refine T.rs (id := 12) (fun _ => false) fun K hK => ?_ | refine T.rs1 (id := 12) (fun _ => false) fun K hK => ?_ | refine T.rs (id := 13) (fun _ => false) fun K hK => ?_ | refine T.rs1 (id := 13) (fun _ => false) fun K hK => ?_ | refine T.rs (id := 14) (fun _ => false) fun K hK => ?_ | refine T.rs1 (id := 14) (fun _ => false) fun K hK => ?_ | refine T.rs (id := 15) (fun _ => false) fun K hK => ?_ | refine T.rs1 (id := 15) (fun _ => false) fun K hK => ?_ | refine T.rs (id := 16) (fun _ => false) fun K hK => ?_ | refine T.rs1 (id := 16) (fun _ => false) fun K hK => ?_ | refine T.rs (id := 17) (fun _ => false) fun K hK => ?_ | refine T.rs1 (id := 17) (fun _ => false) fun K hK => ?_ | refine T.rs (id := 18) (fun _ => false) fun K hK => ?_ | refine T.rs1 (id := 18) (fun _ => false) fun K hK => ?_ | refine T.rs (id := 20) (fun _ => false) fun K hK => ?_ | refine T.rs1 (id := 20) (fun _ => false) fun K hK => ?_ | refine T.rs (id := 21) (fun _ => false) fun K hK => ?_ | refine T.rs1 (id := 21) (fun _ => false) fun K hK => ?_ | refine T.rs (id := 23) (fun _ => false) fun K hK => ?_ | refine T.rs1 (id := 23) (fun _ => false) fun K hK => ?_ | refine T.rs (id := 22) (fun _ => false) fun K hK => ?_ | refine T.rs1 (id := 22) (fun _ => false) fun K hK => ?_ | refine T.rs (id := 24) (fun _ => false) fun K hK => ?_ | refine T.rs1 (id := 24) (fun _ => false) fun K hK => ?_ | refine T.rs (id := 25) (fun _ => false) fun K hK => ?_ | refine T.rs1 (id := 25) (fun _ => false) fun K hK => ?_ | refine T.rs (id := 26) (fun _ => false) fun K hK => ?_ | refine T.rs1 (id := 26) (fun _ => false) fun K hK => ?_ | refine T.rs (id := 27) (fun _ => false) fun K hK => ?_ | refine T.rs1 (id := 27) (fun _ => false) fun K hK => ?_ | refine T.rs (id := 28) (fun _ => false) fun K hK => ?_ | refine T.rs1 (id := 28) (fun _ => false) fun K hK => ?_ | refine T.rs (id := 29) (fun _ => false) fun K hK => ?_ | refine T.rs1 (id := 29) (fun _ => false) fun K hK => ?_ | refine T.rs (id := 30) (fun _ => false) fun K hK => ?_ | refine T.rs1 (id := 30) (fun _ => false) fun K hK => ?_ | refine T.rs (id := 31) (fun _ => false) fun K hK => ?_ | refine T.rs1 (id := 31) (fun _ => false) fun K hK => ?_ | refine T.rs (id := 32) (fun _ => false) fun K hK => ?_ | refine T.rs1 (id := 32) (fun _ => false) fun K hK => ?_ | refine T.rs (id := 33) (fun _ => false) fun K hK => ?_ | refine T.rs1 (id := 33) (fun _ => false) fun K hK => ?_ | refine T.rs (id := 34) (fun _ => false) fun K hK => ?_ | refine T.rs1 (id := 34) (fun _ => false) fun K hK => ?_ | refine T.rs (id := 35) (fun _ => false) fun K hK => ?_ | refine T.rs1 (id := 35) (fun _ => false) fun K hK => ?_ | (refine ⟨by omega, ?_⟩) | refine T.ct rfl ?_ | refine T.cf rfl ?_ | refine T.seq ?_ | refine T.block ?_ | refine T.skip ?_ | refine T.exit ?_
 refine T.loopK (α := Nat × List (List CV) × List Arr) [1, 2, 4] (fun x => [(9, .c (.own 0 (F x.1).length)), (10, .i x.1)]) (fun _ => []) (fun x => x.2.1) (fun x _ => { sz := 2, ety := 51, rows := (F x.1).map eOp, wr := true } :: x.2.2) (fun x => e.kids.length + 1 - x.1) (fun x => x.1 <= e.kids.length) (by simp; rfl) (fun x hx => ?_) (0, [], []) (by simp) (by simp) (by simp [hF0]) (by simp [hF0])
 obtain ⟨p, G, GA⟩ := x
 dsimp only at hx ⊢
 simp only [ups, List.set_cons_zero, List.set_cons_succ, List.cons_append, List.nil_append]
 by_cases hlt : p < e.kids.length
 ·obtain ⟨u, ht⟩ := get_lt hlt
  have htm : u ∈ e.kids := List.mem_of_getElem? ht
  have hgt : e.kids[p] = u := by rw [List.getElem?_eq_getElem hlt] at ht; exact Option.some.inj ht
  have hdr : e.kids.drop p = u :: e.kids.drop (p + 1) := by rw [List.drop_eq_getElem_cons hlt, hgt]
  have hu := (ih u htm).sealed (by simp)
  dsimp only at hu
  have hul := hsm u htm
  have hp1 := hfl p
  have htk : F (p + 1) = F p ++ compM names u := by rw [hF, hF, take_succ_of ht]; simp
  generalize F p = fl at *
  generalize compM names u = cu at *
  repeat' first | ((first | refine aops_end (hK _ ?_) | refine aopsD_end (hK _ ?_) | refine aopsF_end (hK _ ?_)); clear hK K) | ((first | refine aops_go ?_ | refine aopsD_go ?_ | refine aopsF_go ?_ | refine wpcall_pure rfl (hu) ?_); simp [hlt, hgt]; (try simp (disch := omega) only [wrap64]); (try (refine gen2 ?_ ?_ <;> intro hq <;> try simp [hlt, hgt] at hq))) | (refine ⟨by omega, by omega, ?_⟩) | (refine ⟨(p + 1, _, GA), by dsimp only; omega, by dsimp only; omega, rfl, ?_, ?_⟩ <;> simp (disch := omega) [wrap64, htk]) | refine T.rd (id := 11) mixed (fun _ => false) [11] (by kernel_rfl) fun K hK => ?_ | refine T.rd1 (id := 11) mixed (fun _ => false) [11] (by kernel_rfl) fun K hK => ?_ | refine T.r0 fun K hK => ?_ | refine T.r1 fun K hK => ?_ | (refine ⟨by omega, ?_⟩) | refine T.ct rfl ?_ | refine T.cf rfl ?_ | refine T.seq ?_ | refine T.block ?_ | refine T.skip ?_ | refine T.exit ?_
 ·have hp' : p = e.kids.length := by omega
  subst hp'
  have hp1 := hfl e.kids.length
  generalize F e.kids.length = fl at *
  repeat' first | ((first | refine aops_end (hK _ ?_) | refine aopsD_end (hK _ ?_) | refine aopsF_end (hK _ ?_)); clear hK K) | ((first | refine aops_go ?_ | refine aopsD_go ?_ | refine aopsF_go ?_); simp [hlt, h5]; (try simp (disch := omega) only [wrap64]); (try (refine gen2 ?_ ?_ <;> intro hq <;> try simp [hlt, h5] at hq))) | (refine ⟨by omega, by omega, ?_⟩) | refine T.rd (id := 11) mixed (fun _ => false) [11] (by kernel_rfl) fun K hK => ?_ | refine T.rd1 (id := 11) mixed (fun _ => false) [11] (by kernel_rfl) fun K hK => ?_ | refine T.r0 fun K hK => ?_ | refine T.r1 fun K hK => ?_ | (refine ⟨by omega, ?_⟩) | refine T.ct rfl ?_ | refine T.cf rfl ?_ | refine T.seq ?_ | refine T.block ?_ | refine T.skip ?_ | refine T.exit ?_
  all_goals (refine T.ret (Done.own1 0 (Or.inr rfl) (ys := [_]) ?_ rfl ?_) <;> simp [resAs, Tryz.results93])

theorem l14Compile_snd (e : MTm) (names : List UInt8) (h5 : e.kind = 12) (hn : names.length <= 1000000) (hd : BaHead names e) (hsm : ∀ u ∈ e.kids, (compM (names) u).length <= 1000000)
  (ih : ∀ u ∈ e.kids, ACalls Tryz.prog 93 [aTm u, .s (names)] [] (.c (.own 0 (compM (names) u).length)) [] [{ sz := 2, ety := 51, rows := (compM (names) u).map eOp, wr := true }]) :
  ACalls Tryz.prog 93 [aTm e, .s names] [] (.c (.own 0 (opNode e.kind (names.length - 1 - lastIx names (e.name.headD 0)) e.num (e.kids.map (compM (names)))).length)) [] [{ sz := 2, ety := 51, rows := (opNode e.kind (names.length - 1 - lastIx names (e.name.headD 0)) e.num (e.kids.map (compM (names)))).map eOp, wr := true }] := by
 have hnl := hd.nlen
 have hnm : names.length + e.name.length <= 4611686018427387904 := by omega
 have hl := hd.len
 have hfl : ∀ p, ((e.kids.take p).map (compM names)).flatten.length <= 4000000 := fun p => by
  have hs : ∀ (m : List (List MOp)), (∀ l ∈ m, l.length <= 1000000) -> m.flatten.length <= m.length * 1000000 := by
   intro m
   induction m with
   | nil => simp
   | cons a r ih => intro h; have e1 := h a (by simp); have e2 := ih (fun l hl => h l (by simp [hl])); rw [List.flatten_cons, List.length_append, List.length_cons]; omega
  have := hs ((e.kids.take p).map (compM names)) (fun l hl => by obtain ⟨u, hu, rfl⟩ := List.mem_map.1 hl; exact hsm u (List.mem_of_mem_take hu))
  rw [List.length_map, List.length_take] at this; omega
 rw [show opNode e.kind (names.length - 1 - lastIx names (e.name.headD 0)) e.num (e.kids.map (compM names)) = (e.kids.map (compM names)).flatten ++ [⟨13, 0⟩] by simp [opNode, lastOp, h5]]
 obtain ⟨F, hF⟩ : ∃ F : Nat -> List MOp, ∀ p, F p = ((e.kids.take p).map (compM names)).flatten := ⟨_, fun p => rfl⟩
 have hF0 : F 0 = [] := by rw [hF]; rfl
 have hFl : F e.kids.length = (e.kids.map (compM names)).flatten := by rw [hF, List.take_length]
 simp only [<- hF] at hfl
 rw [<- hFl]
 refine ACalls.of_body Tryz.func93 (by kernel_rfl) rfl (by kernel_rfl) (by simp [Tryz.ntmps93]) (by simp) ?_
 rw [Tryz.ntmps93]
 repeat' first | ((first | refine aops_end (hK _ ?_) | refine aopsD_end (hK _ ?_) | refine aopsF_end (hK _ ?_)); clear hK K) | ((first | refine aops_go ?_ | refine aopsD_go ?_ | refine aopsF_go ?_); simp [h5]; (try simp (disch := omega) only [wrap64]); (try (refine gen2 ?_ ?_ <;> intro hq <;> try simp [h5] at hq))) | refine T.rd (id := 11) mixed (fun _ => false) [11] (by kernel_rfl) fun K hK => ?_ | refine T.rd1 (id := 11) mixed (fun _ => false) [11] (by kernel_rfl) fun K hK => ?_ | refine T.rs (id := 19) (fun i => i == 0) fun K hK => ?_ | refine T.rs1 (id := 19) (fun i => i == 0) fun K hK => ?_ | refine T.rs (id := 0) (fun _ => false) fun K hK => ?_ | refine T.rs1 (id := 0) (fun _ => false) fun K hK => ?_ | refine T.rs (id := 1) (fun _ => false) fun K hK => ?_ | refine T.rs1 (id := 1) (fun _ => false) fun K hK => ?_ | refine T.rs (id := 2) (fun _ => false) fun K hK => ?_ | refine T.rs1 (id := 2) (fun _ => false) fun K hK => ?_ | refine T.rs (id := 3) (fun _ => false) fun K hK => ?_ | refine T.rs1 (id := 3) (fun _ => false) fun K hK => ?_ | refine T.rs (id := 4) (fun _ => false) fun K hK => ?_ | refine T.rs1 (id := 4) (fun _ => false) fun K hK => ?_ | refine T.rs (id := 5) (fun _ => false) fun K hK => ?_ | refine T.rs1 (id := 5) (fun _ => false) fun K hK => ?_ | refine T.rs (id := 6) (fun _ => false) fun K hK => ?_ | refine T.rs1 (id := 6) (fun _ => false) fun K hK => ?_ | refine T.rs (id := 7) (fun _ => false) fun K hK => ?_ | refine T.rs1 (id := 7) (fun _ => false) fun K hK => ?_ | refine T.rs (id := 8) (fun _ => false) fun K hK => ?_ | refine T.rs1 (id := 8) (fun _ => false) fun K hK => ?_ | refine T.rs (id := 9) (fun _ => false) fun K hK => ?_ | refine T.rs1 (id := 9) (fun _ => false) fun K hK => ?_ | refine T.rs (id := 10) (fun _ => false) fun K hK => ?_ | refine T.rs1 (id := 10) (fun _ => false) fun K hK => ?_ | refine T.rs (id := 12) (fun _ => false) fun K hK => ?_ | refine T.rs1 (id := 12) (fun _ => false) fun K hK => ?_ | refine T.rs (id := 13) (fun _ => false) fun K hK => ?_ | refine T.rs1 (id := 13) (fun _ => false) fun K hK => ?_ | refine T.rs (id := 14) (fun _ => false) fun K hK => ?_ | refine T.rs1 (id := 14) (fun _ => false) fun K hK => ?_ | refine T.rs (id := 15) (fun _ => false) fun K hK => ?_ | refine T.rs1 (id := 15) (fun _ => false) fun K hK => ?_ | refine T.rs (id := 16) (fun _ => false) fun K hK => ?_ | refine T.rs1 (id := 16) (fun _ => false) fun K hK => ?_ | refine T.rs (id := 17) (fun _ => false) fun K hK => ?_ | refine T.rs1 (id := 17) (fun _ => false) fun K hK => ?_ | refine T.rs (id := 18) (fun _ => false) fun K hK => ?_ | refine T.rs1 (id := 18) (fun _ => false) fun K hK => ?_ | refine T.rs (id := 20) (fun _ => false) fun K hK => ?_ | refine T.rs1 (id := 20) (fun _ => false) fun K hK => ?_ | refine T.rs (id := 21) (fun _ => false) fun K hK => ?_ | refine T.rs1 (id := 21) (fun _ => false) fun K hK => ?_ | refine T.rs (id := 23) (fun _ => false) fun K hK => ?_ | refine T.rs1 (id := 23) (fun _ => false) fun K hK => ?_ | refine T.rs (id := 22) (fun _ => false) fun K hK => ?_ | refine T.rs1 (id := 22) (fun _ => false) fun K hK => ?_ | refine T.rs (id := 24) (fun _ => false) fun K hK => ?_ | refine T.rs1 (id := 24) (fun _ => false) fun K hK => ?_ | refine T.rs (id := 25) (fun _ => false) fun K hK => ?_ | refine T.rs1 (id := 25) (fun _ => false) fun K hK => ?_ | refine T.rs (id := 26) (fun _ => false) fun K hK => ?_ | refine T.rs1 (id := 26) (fun _ => false) fun K hK => ?_ | refine T.rs (id := 27) (fun _ => false) fun K hK => ?_ | refine T.rs1 (id := 27) (fun _ => false) fun K hK => ?_ | refine T.rs (id := 28) (fun _ => false) fun K hK => ?_ | refine T.rs1 (id := 28) (fun _ => false) fun K hK => ?_ | refine T.rs (id := 29) (fun _ => false) fun K hK => ?_ | refine T.rs1 (id := 29) (fun _ => false) fun K hK => ?_ | refine T.rs (id := 30) (fun _ => false) fun K hK => ?_ | refine T.rs1 (id := 30) (fun _ => false) fun K hK => ?_ | refine T.rs (id := 31) (fun _ => false) fun K hK => ?_ | refine T.rs1 (id := 31) (fun _ => false) fun K hK => ?_ | refine T.rs (id := 32) (fun _ => false) fun K hK => ?_ | refine T.rs1 (id := 32) (fun _ => false) fun K hK => ?_ | refine T.rs (id := 33) (fun _ => false) fun K hK => ?_ | refine T.rs1 (id := 33) (fun _ => false) fun K hK => ?_ | refine T.rs (id := 34) (fun _ => false) fun K hK => ?_ | refine T.rs1 (id := 34) (fun _ => false) fun K hK => ?_ | refine T.rs (id := 35) (fun _ => false) fun K hK => ?_ | refine T.rs1 (id := 35) (fun _ => false) fun K hK => ?_ | (refine ⟨by omega, ?_⟩) | refine T.ct rfl ?_ | refine T.cf rfl ?_ | refine T.seq ?_ | refine T.block ?_ | refine T.skip ?_ | refine T.exit ?_
 refine T.loopK (α := Nat × List (List CV) × List Arr) [1, 2, 4] (fun x => [(9, .c (.own 0 (F x.1).length)), (10, .i x.1)]) (fun _ => []) (fun x => x.2.1) (fun x _ => { sz := 2, ety := 51, rows := (F x.1).map eOp, wr := true } :: x.2.2) (fun x => e.kids.length + 1 - x.1) (fun x => x.1 <= e.kids.length) (by simp; rfl) (fun x hx => ?_) (0, [], []) (by simp) (by simp) (by simp [hF0]) (by simp [hF0])
 obtain ⟨p, G, GA⟩ := x
 dsimp only at hx ⊢
 simp only [ups, List.set_cons_zero, List.set_cons_succ, List.cons_append, List.nil_append]
 by_cases hlt : p < e.kids.length
 ·obtain ⟨u, ht⟩ := get_lt hlt
  have htm : u ∈ e.kids := List.mem_of_getElem? ht
  have hgt : e.kids[p] = u := by rw [List.getElem?_eq_getElem hlt] at ht; exact Option.some.inj ht
  have hdr : e.kids.drop p = u :: e.kids.drop (p + 1) := by rw [List.drop_eq_getElem_cons hlt, hgt]
  have hu := (ih u htm).sealed (by simp)
  dsimp only at hu
  have hul := hsm u htm
  have hp1 := hfl p
  have htk : F (p + 1) = F p ++ compM names u := by rw [hF, hF, take_succ_of ht]; simp
  generalize F p = fl at *
  generalize compM names u = cu at *
  repeat' first | ((first | refine aops_end (hK _ ?_) | refine aopsD_end (hK _ ?_) | refine aopsF_end (hK _ ?_)); clear hK K) | ((first | refine aops_go ?_ | refine aopsD_go ?_ | refine aopsF_go ?_ | refine wpcall_pure rfl (hu) ?_); simp [hlt, hgt]; (try simp (disch := omega) only [wrap64]); (try (refine gen2 ?_ ?_ <;> intro hq <;> try simp [hlt, hgt] at hq))) | (refine ⟨by omega, by omega, ?_⟩) | (refine ⟨(p + 1, _, GA), by dsimp only; omega, by dsimp only; omega, rfl, ?_, ?_⟩ <;> simp (disch := omega) [wrap64, htk]) | refine T.rd (id := 11) mixed (fun _ => false) [11] (by kernel_rfl) fun K hK => ?_ | refine T.rd1 (id := 11) mixed (fun _ => false) [11] (by kernel_rfl) fun K hK => ?_ | refine T.r0 fun K hK => ?_ | refine T.r1 fun K hK => ?_ | (refine ⟨by omega, ?_⟩) | refine T.ct rfl ?_ | refine T.cf rfl ?_ | refine T.seq ?_ | refine T.block ?_ | refine T.skip ?_ | refine T.exit ?_
 ·have hp' : p = e.kids.length := by omega
  subst hp'
  have hp1 := hfl e.kids.length
  generalize F e.kids.length = fl at *
  repeat' first | ((first | refine aops_end (hK _ ?_) | refine aopsD_end (hK _ ?_) | refine aopsF_end (hK _ ?_)); clear hK K) | ((first | refine aops_go ?_ | refine aopsD_go ?_ | refine aopsF_go ?_); simp [hlt, h5]; (try simp (disch := omega) only [wrap64]); (try (refine gen2 ?_ ?_ <;> intro hq <;> try simp [hlt, h5] at hq))) | (refine ⟨by omega, by omega, ?_⟩) | refine T.rd (id := 11) mixed (fun _ => false) [11] (by kernel_rfl) fun K hK => ?_ | refine T.rd1 (id := 11) mixed (fun _ => false) [11] (by kernel_rfl) fun K hK => ?_ | refine T.r0 fun K hK => ?_ | refine T.r1 fun K hK => ?_ | (refine ⟨by omega, ?_⟩) | refine T.ct rfl ?_ | refine T.cf rfl ?_ | refine T.seq ?_ | refine T.block ?_ | refine T.skip ?_ | refine T.exit ?_
  all_goals (refine T.ret (Done.own1 0 (Or.inr rfl) (ys := [_]) ?_ rfl ?_) <;> simp [resAs, Tryz.results93])

theorem l14Compile_own : ∀ (e : MTm) (names : List UInt8), BaV names e -> names.length + nodesM e <= 1000 -> ACalls Tryz.prog 93 [aTm e, .s names] [] (.c (.own 0 (compM names e).length)) [] [{ sz := 2, ety := 51, rows := (compM names e).map eOp, wr := true }] := by
 intro e
 induction e using MTm.ind with
 | h e ih =>
  intro names hb hn
  have hd := hb.head
  have hnd : nodesM e = 1 + nodesS e.kids := by rw [nodesM_def, nodesS_sum]
  have hnl := hd.nlen
  have hin : (if e.kind = 5 then names ++ e.name else names).length <= names.length + 1 := by split <;> simp; omega
  have hsm : ∀ u ∈ e.kids, (compM (if e.kind = 5 then names ++ e.name else names) u).length <= 1000000 := fun u hu => by
   have := comp_len u (if e.kind = 5 then names ++ e.name else names)
   have := nodesS_mem hu
   omega
  have ih' := fun u hu => ih u hu (if e.kind = 5 then names ++ e.name else names) (hd.kids u hu) (by have := nodesS_mem hu; omega)
  rw [compM_def]
  have hk := hd.kind
  rcases (by omega : e.kind = 5 \/ e.kind = 1 \/ e.kind = 2 \/ e.kind = 3 \/ e.kind = 4 \/ e.kind = 9 \/ e.kind = 6 \/ e.kind = 7 \/ e.kind = 8 \/ e.kind = 10 \/ e.kind = 11 \/ e.kind = 12) with h | h | h | h | h | h | h | h | h | h | h | h
  ·simp only [if_pos h] at hsm ih' ⊢
   exact l14Compile_lam e names h (by omega) hd hsm ih'
  ·simp only [if_neg (show ¬ e.kind = 5 by omega)] at hsm ih' ⊢
   exact l14Compile_var e names h (by omega) hd hsm ih'
  ·simp only [if_neg (show ¬ e.kind = 5 by omega)] at hsm ih' ⊢
   exact l14Compile_num e names h (by omega) hd hsm ih'
  ·simp only [if_neg (show ¬ e.kind = 5 by omega)] at hsm ih' ⊢
   exact l14Compile_tru e names h (by omega) hd hsm ih'
  ·simp only [if_neg (show ¬ e.kind = 5 by omega)] at hsm ih' ⊢
   exact l14Compile_fls e names h (by omega) hd hsm ih'
  ·simp only [if_neg (show ¬ e.kind = 5 by omega)] at hsm ih' ⊢
   exact l14Compile_ite e names h (by omega) hd hsm ih'
  ·simp only [if_neg (show ¬ e.kind = 5 by omega)] at hsm ih' ⊢
   exact l14Compile_app e names h (by omega) hd hsm ih'
  ·simp only [if_neg (show ¬ e.kind = 5 by omega)] at hsm ih' ⊢
   exact l14Compile_add e names h (by omega) hd hsm ih'
  ·simp only [if_neg (show ¬ e.kind = 5 by omega)] at hsm ih' ⊢
   exact l14Compile_less e names h (by omega) hd hsm ih'
  ·simp only [if_neg (show ¬ e.kind = 5 by omega)] at hsm ih' ⊢
   exact l14Compile_pair e names h (by omega) hd hsm ih'
  ·simp only [if_neg (show ¬ e.kind = 5 by omega)] at hsm ih' ⊢
   exact l14Compile_fst e names h (by omega) hd hsm ih'
  ·simp only [if_neg (show ¬ e.kind = 5 by omega)] at hsm ih' ⊢
   exact l14Compile_snd e names h (by omega) hd hsm ih'
end Go.Proofs.YtcmdpggdaiinpaaGreatDoor

namespace Go.Proofs.YtcmdpggdaiinpaaGreatDoor
attribute [-simp] Go.Av.MCo.kind_mk Go.Av.MCo.tag_mk Go.Av.MCo.label_mk Go.Av.MCo.kids_mk Go.Av.IT.kind_v Go.Av.IT.kind_b Go.Av.IT.kind_p Go.Av.IT.name_v Go.Av.IT.name_b Go.Av.IT.name_p Go.Av.IT.kids_v Go.Av.IT.kids_b Go.Av.IT.kids_p Go.Av.eIT_len Go.Av.gT_cons Go.Av.sT_cons
open Go Go.Av
attribute [local irreducible] T ACalls TX EX LX Draws Some_ ACallsX eTy eTm MTy.kind MTy.kids MTm.kind MTm.name MTm.num MTm.ty MTm.fr MTm.label MTm.kids
attribute [local simp] eTy_def eTm_def
set_option maxHeartbeats 16000000
set_option maxRecDepth 8000
attribute [local irreducible] TJ FCalls compM sfree sfreeS

theorem l2Has_ok (s : List UInt8) (c : UInt8) (hs : s.length <= 1099511627776) : ACalls Tryz.prog 132 [.s s, .s [c]] [] (.b (decide (c ∈ s))) [] [] := by
 refine ACalls.of_body Tryz.func132 (by kernel_rfl) rfl (by kernel_rfl) (by simp [Tryz.ntmps132]) (by simp) ?_
 rw [Tryz.ntmps132]
 repeat' first | ((first | refine aops_end (hK _ ?_) | refine aopsD_end (hK _ ?_) | refine aopsF_end (hK _ ?_)); clear hK K) | ((first | refine aops_go ?_ | refine aopsD_go ?_ | refine aopsF_go ?_); simp; (try (refine gen2 ?_ ?_ <;> intro hq <;> try simp at hq))) | refine T.r0 fun K hK => ?_ | refine T.r1 fun K hK => ?_ | (refine ⟨by omega, ?_⟩) | refine T.ct rfl ?_ | refine T.cf rfl ?_ | refine T.seq ?_ | refine T.block ?_ | refine T.skip ?_ | refine T.exit ?_
 refine T.loopK (α := Nat) [0, 1] (fun p => [(4, .b false), (5, .i p)]) (fun _ => []) (fun _ => []) (fun _ A => A) (fun p => s.length + 1 - p) (fun p => p <= s.length /\ decide (c ∈ s) = decide (c ∈ s.drop p)) (by simp; rfl) (fun p hx => ?_) 0 ⟨by omega, by simp⟩ (by simp) (by simp) (by simp)
 obtain ⟨hp, he⟩ := hx
 dsimp only
 simp only [ups, List.set_cons_zero, List.set_cons_succ, List.cons_append, List.nil_append]
 by_cases hlt : p < s.length
 ·have hsl := slice_one hlt
  have hdr := drop_cons hlt
  have hto : ((p : Int) + 1).toNat = p + 1 := by omega
  have hk1 : (p : Int) <= p + 1 := by omega
  have hk2 : (p : Int) + 1 <= s.length := by omega
  generalize hx : s[p] = x at *
  rw [hdr] at he
  by_cases hc : x = c
  ·subst hc
   rw [he]
   simp only [List.mem_cons, true_or, decide_true]
   repeat' first | ((first | refine aops_end (hK _ ?_) | refine aopsD_end (hK _ ?_) | refine aopsF_end (hK _ ?_)); clear hK K) | ((first | refine aops_go ?_ | refine aopsD_go ?_ | refine aopsF_go ?_); simp [hlt, hto, hsl, hk2]; (try simp (disch := omega) only [wrap64]); (try (refine gen2 ?_ ?_ <;> intro hq <;> try simp [hlt, hto, hsl, hk2] at hq))) | (refine T.ret (Done.data (Or.inr rfl) ?_ ?_) <;> simp [Tryz.results132] <;> omega) | refine T.r0 fun K hK => ?_ | refine T.r1 fun K hK => ?_ | (refine ⟨by omega, ?_⟩) | refine T.ct rfl ?_ | refine T.cf rfl ?_ | refine T.seq ?_ | refine T.block ?_ | refine T.skip ?_ | refine T.exit ?_
  ·have hc' : ¬ c = x := fun h => hc h.symm
   simp only [List.mem_cons, hc', false_or] at he
   repeat' first | ((first | refine aops_end (hK _ ?_) | refine aopsD_end (hK _ ?_) | refine aopsF_end (hK _ ?_)); clear hK K) | ((first | refine aops_go ?_ | refine aopsD_go ?_ | refine aopsF_go ?_); simp [hlt, hto, hsl, hk2, hc]; (try simp (disch := omega) only [wrap64]); (try (refine gen2 ?_ ?_ <;> intro hq <;> try simp [hlt, hto, hsl, hk2, hc] at hq))) | (refine ⟨p + 1, by dsimp only; omega, ⟨by omega, he⟩, ?_⟩; simp (disch := omega) [wrap64]) | refine T.r0 fun K hK => ?_ | refine T.r1 fun K hK => ?_ | (refine ⟨by omega, ?_⟩) | refine T.ct rfl ?_ | refine T.cf rfl ?_ | refine T.seq ?_ | refine T.block ?_ | refine T.skip ?_ | refine T.exit ?_
 ·have hp' : p = s.length := by omega
  subst hp'
  rw [List.drop_length] at he
  rw [he]
  simp only [List.not_mem_nil, decide_false]
  repeat' first | ((first | refine aops_end (hK _ ?_) | refine aopsD_end (hK _ ?_) | refine aopsF_end (hK _ ?_)); clear hK K) | ((first | refine aops_go ?_ | refine aopsD_go ?_ | refine aopsF_go ?_); simp [hlt]; (try (refine gen2 ?_ ?_ <;> intro hq <;> try simp [hlt] at hq))) | (refine T.ret (Done.data (Or.inr rfl) ?_ ?_) <;> simp [Tryz.results132] <;> omega) | refine T.r0 fun K hK => ?_ | refine T.r1 fun K hK => ?_ | (refine ⟨by omega, ?_⟩) | refine T.ct rfl ?_ | refine T.cf rfl ?_ | refine T.seq ?_ | refine T.block ?_ | refine T.skip ?_ | refine T.exit ?_

theorem l2Free_var (e : MTm) (bd out : List UInt8) (c : UInt8) (hnm : e.name = [c]) (h1 : e.kind = 1) (hb : bd.length <= 1000000) (ho : out.length + nodesM e <= 1000000) (hl : e.kids.length <= 3)
  (ih : ∀ u ∈ e.kids, ∀ (o : List UInt8), o.length + nodesM u <= 1000000 -> ACalls Tryz.prog 92 [.s o, aTm u, .s bd] [] (.s (sfree bd u o)) [] []) :
  ACalls Tryz.prog 92 [.s out, aTm e, .s bd] [] (.s (sfreeS bd e.kids (if c ∈ bd then out else addM c out))) [] [] := by
 have hlen : ∀ (p : Nat) (u : MTm), e.kids[p]? = some u -> (sfreeS bd (e.kids.take p) (if c ∈ bd then out else addM c out)).length + nodesM u <= 1000000 := fun p u hu => by
  have h1 := sfree_lenS (e.kids.take p) bd (if c ∈ bd then out else addM c out)
  have h2 := nodesS_take e.kids (p + 1)
  have h4 : nodesS (e.kids.take (p + 1)) = nodesS (e.kids.take p) + nodesM u := nodesS_take_succ hu
  have h5 : nodesM e = 1 + nodesS e.kids := by rw [nodesM_def, nodesS_sum]
  have h3 : (if c ∈ bd then out else addM c out).length <= out.length + 1 := by split; omega; exact addM_len _ _
  omega
 obtain ⟨F, hF⟩ : ∃ F : Nat -> List UInt8, ∀ p, F p = sfreeS bd (e.kids.take p) (if c ∈ bd then out else addM c out) := ⟨_, fun p => rfl⟩
 have hF0 : F 0 = (if c ∈ bd then out else addM c out) := by rw [hF]; simp [sfreeS]
 have hFl : F e.kids.length = sfreeS bd e.kids (if c ∈ bd then out else addM c out) := by rw [hF, List.take_length]
 simp only [<- hF] at hlen
 rw [<- hFl]
 have hha := l2Has_ok bd c (by omega)
 have had := l2Add_ok out c (by omega)
 by_cases hc : c ∈ bd
 ·rw [if_pos hc] at hF0
  rw [decide_eq_true hc] at hha
  refine ACalls.of_body Tryz.func92 (by kernel_rfl) rfl (by kernel_rfl) (by simp [Tryz.ntmps92]) (by simp) ?_
  rw [Tryz.ntmps92]
  repeat' first | ((first | refine aops_end (hK _ ?_) | refine aopsD_end (hK _ ?_) | refine aopsF_end (hK _ ?_)); clear hK K) | ((first | refine aops_go ?_ | refine aopsD_go ?_ | refine aopsF_go ?_ | refine wpcall_pure rfl (hha) ?_); simp [h1, hnm]; (try (refine gen2 ?_ ?_ <;> intro hq <;> try simp [h1, hnm] at hq))) | refine T.r0 fun K hK => ?_ | refine T.r1 fun K hK => ?_ | (refine ⟨by omega, ?_⟩) | refine T.ct rfl ?_ | refine T.cf rfl ?_ | refine T.seq ?_ | refine T.block ?_ | refine T.skip ?_ | refine T.exit ?_
  refine T.loopK (α := Nat) [2, 4, 6] (fun p => [(0, .s (F p)), (7, .i p)]) (fun _ => []) (fun _ => []) (fun _ A => A) (fun p => e.kids.length + 1 - p) (fun p => p <= e.kids.length) (by simp; rfl) (fun p hx => ?_) 0 (by simp) (by simp) (by simp) (by simp [hF0])
  dsimp only at hx ⊢
  simp only [ups, List.set_cons_zero, List.set_cons_succ, List.cons_append, List.nil_append]
  by_cases hlt : p < e.kids.length
  ·obtain ⟨u, ht⟩ := get_lt hlt
   have htm : u ∈ e.kids := List.mem_of_getElem? ht
   have hgt : e.kids[p] = u := by rw [List.getElem?_eq_getElem hlt] at ht; exact Option.some.inj ht
   have hdr : e.kids.drop p = u :: e.kids.drop (p + 1) := by rw [List.drop_eq_getElem_cons hlt, hgt]
   have hl1 := hlen p u ht
   have hu := ih u htm (F p) hl1
   rw [show sfree bd u (F p) = F (p + 1) by rw [hF, hF, sfreeS_take ht]] at hu
   repeat' first | ((first | refine aops_end (hK _ ?_) | refine aopsD_end (hK _ ?_) | refine aopsF_end (hK _ ?_)); clear hK K) | ((first | refine aops_go ?_ | refine aopsD_go ?_ | refine aopsF_go ?_ | refine wpcall_pure rfl (hu) ?_); simp [hlt, hgt]; (try simp (disch := omega) only [wrap64]); (try (refine gen2 ?_ ?_ <;> intro hq <;> try simp [hlt, hgt] at hq))) | (refine ⟨p + 1, by dsimp only; omega, by dsimp only; omega, ?_⟩; simp (disch := omega) [wrap64]) | refine T.r0 fun K hK => ?_ | refine T.r1 fun K hK => ?_ | (refine ⟨by omega, ?_⟩) | refine T.ct rfl ?_ | refine T.cf rfl ?_ | refine T.seq ?_ | refine T.block ?_ | refine T.skip ?_ | refine T.exit ?_
  ·have hp' : p = e.kids.length := by omega
   subst hp'
   repeat' first | ((first | refine aops_end (hK _ ?_) | refine aopsD_end (hK _ ?_) | refine aopsF_end (hK _ ?_)); clear hK K) | ((first | refine aops_go ?_ | refine aopsD_go ?_ | refine aopsF_go ?_); simp [hlt]; (try (refine gen2 ?_ ?_ <;> intro hq <;> try simp [hlt] at hq))) | (refine T.ret (Done.data (Or.inr rfl) ?_ ?_) <;> simp [Tryz.results92] <;> omega) | refine T.r0 fun K hK => ?_ | refine T.r1 fun K hK => ?_ | (refine ⟨by omega, ?_⟩) | refine T.ct rfl ?_ | refine T.cf rfl ?_ | refine T.seq ?_ | refine T.block ?_ | refine T.skip ?_ | refine T.exit ?_
 ·rw [if_neg hc] at hF0
  rw [decide_eq_false hc] at hha
  refine ACalls.of_body Tryz.func92 (by kernel_rfl) rfl (by kernel_rfl) (by simp [Tryz.ntmps92]) (by simp) ?_
  rw [Tryz.ntmps92]
  repeat' first | ((first | refine aops_end (hK _ ?_) | refine aopsD_end (hK _ ?_) | refine aopsF_end (hK _ ?_)); clear hK K) | ((first | refine aops_go ?_ | refine aopsD_go ?_ | refine aopsF_go ?_ | refine wpcall_pure rfl (hha) ?_ | refine wpcall_pure rfl (had) ?_); simp [h1, hnm]; (try (refine gen2 ?_ ?_ <;> intro hq <;> try simp [h1, hnm] at hq))) | refine T.r0 fun K hK => ?_ | refine T.r1 fun K hK => ?_ | (refine ⟨by omega, ?_⟩) | refine T.ct rfl ?_ | refine T.cf rfl ?_ | refine T.seq ?_ | refine T.block ?_ | refine T.skip ?_ | refine T.exit ?_
  refine T.loopK (α := Nat) [2, 4, 6] (fun p => [(0, .s (F p)), (7, .i p)]) (fun _ => []) (fun _ => []) (fun _ A => A) (fun p => e.kids.length + 1 - p) (fun p => p <= e.kids.length) (by simp; rfl) (fun p hx => ?_) 0 (by simp) (by simp) (by simp) (by simp [hF0])
  dsimp only at hx ⊢
  simp only [ups, List.set_cons_zero, List.set_cons_succ, List.cons_append, List.nil_append]
  by_cases hlt : p < e.kids.length
  ·obtain ⟨u, ht⟩ := get_lt hlt
   have htm : u ∈ e.kids := List.mem_of_getElem? ht
   have hgt : e.kids[p] = u := by rw [List.getElem?_eq_getElem hlt] at ht; exact Option.some.inj ht
   have hdr : e.kids.drop p = u :: e.kids.drop (p + 1) := by rw [List.drop_eq_getElem_cons hlt, hgt]
   have hl1 := hlen p u ht
   have hu := ih u htm (F p) hl1
   rw [show sfree bd u (F p) = F (p + 1) by rw [hF, hF, sfreeS_take ht]] at hu
   repeat' first | ((first | refine aops_end (hK _ ?_) | refine aopsD_end (hK _ ?_) | refine aopsF_end (hK _ ?_)); clear hK K) | ((first | refine aops_go ?_ | refine aopsD_go ?_ | refine aopsF_go ?_ | refine wpcall_pure rfl (hu) ?_); simp [hlt, hgt]; (try simp (disch := omega) only [wrap64]); (try (refine gen2 ?_ ?_ <;> intro hq <;> try simp [hlt, hgt] at hq))) | (refine ⟨p + 1, by dsimp only; omega, by dsimp only; omega, ?_⟩; simp (disch := omega) [wrap64]) | refine T.r0 fun K hK => ?_ | refine T.r1 fun K hK => ?_ | (refine ⟨by omega, ?_⟩) | refine T.ct rfl ?_ | refine T.cf rfl ?_ | refine T.seq ?_ | refine T.block ?_ | refine T.skip ?_ | refine T.exit ?_
  ·have hp' : p = e.kids.length := by omega
   subst hp'
   repeat' first | ((first | refine aops_end (hK _ ?_) | refine aopsD_end (hK _ ?_) | refine aopsF_end (hK _ ?_)); clear hK K) | ((first | refine aops_go ?_ | refine aopsD_go ?_ | refine aopsF_go ?_); simp [hlt]; (try (refine gen2 ?_ ?_ <;> intro hq <;> try simp [hlt] at hq))) | (refine T.ret (Done.data (Or.inr rfl) ?_ ?_) <;> simp [Tryz.results92] <;> omega) | refine T.r0 fun K hK => ?_ | refine T.r1 fun K hK => ?_ | (refine ⟨by omega, ?_⟩) | refine T.ct rfl ?_ | refine T.cf rfl ?_ | refine T.seq ?_ | refine T.block ?_ | refine T.skip ?_ | refine T.exit ?_

theorem l2Free_lam (e : MTm) (bd out : List UInt8) (c : UInt8) (hnm : e.name = [c]) (h1 : e.kind = 5) (hb : bd.length <= 1000000) (ho : out.length + nodesM e <= 1000000) (hl : e.kids.length <= 3)
  (ih : ∀ u ∈ e.kids, ∀ (o : List UInt8), o.length + nodesM u <= 1000000 -> ACalls Tryz.prog 92 [.s o, aTm u, .s (addM c bd)] [] (.s (sfree (addM c bd) u o)) [] []) :
  ACalls Tryz.prog 92 [.s out, aTm e, .s bd] [] (.s (sfreeS (addM c bd) e.kids out)) [] [] := by
 have hlen : ∀ (p : Nat) (u : MTm), e.kids[p]? = some u -> (sfreeS (addM c bd) (e.kids.take p) out).length + nodesM u <= 1000000 := fun p u hu => by
  have h1 := sfree_lenS (e.kids.take p) (addM c bd) out
  have h2 := nodesS_take e.kids (p + 1)
  have h4 : nodesS (e.kids.take (p + 1)) = nodesS (e.kids.take p) + nodesM u := nodesS_take_succ hu
  have h5 : nodesM e = 1 + nodesS e.kids := by rw [nodesM_def, nodesS_sum]
  omega
 obtain ⟨F, hF⟩ : ∃ F : Nat -> List UInt8, ∀ p, F p = sfreeS (addM c bd) (e.kids.take p) out := ⟨_, fun p => rfl⟩
 have hF0 : F 0 = out := by rw [hF]; simp [sfreeS]
 have hFl : F e.kids.length = sfreeS (addM c bd) e.kids out := by rw [hF, List.take_length]
 simp only [<- hF] at hlen
 rw [<- hFl]
 have had := l2Add_ok bd c (by omega)
 refine ACalls.of_body Tryz.func92 (by kernel_rfl) rfl (by kernel_rfl) (by simp [Tryz.ntmps92]) (by simp) ?_
 rw [Tryz.ntmps92]
 repeat' first | ((first | refine aops_end (hK _ ?_) | refine aopsD_end (hK _ ?_) | refine aopsF_end (hK _ ?_)); clear hK K) | ((first | refine aops_go ?_ | refine aopsD_go ?_ | refine aopsF_go ?_ | refine wpcall_pure rfl (had) ?_); simp [h1, hnm]; (try (refine gen2 ?_ ?_ <;> intro hq <;> try simp [h1, hnm] at hq))) | refine T.r0 fun K hK => ?_ | refine T.r1 fun K hK => ?_ | (refine ⟨by omega, ?_⟩) | refine T.ct rfl ?_ | refine T.cf rfl ?_ | refine T.seq ?_ | refine T.block ?_ | refine T.skip ?_ | refine T.exit ?_
 refine T.loopK (α := Nat) [2, 4, 6] (fun p => [(0, .s (F p)), (7, .i p)]) (fun _ => []) (fun _ => []) (fun _ A => A) (fun p => e.kids.length + 1 - p) (fun p => p <= e.kids.length) (by simp; rfl) (fun p hx => ?_) 0 (by simp) (by simp) (by simp) (by simp [hF0])
 dsimp only at hx ⊢
 simp only [ups, List.set_cons_zero, List.set_cons_succ, List.cons_append, List.nil_append]
 by_cases hlt : p < e.kids.length
 ·obtain ⟨u, ht⟩ := get_lt hlt
  have htm : u ∈ e.kids := List.mem_of_getElem? ht
  have hgt : e.kids[p] = u := by rw [List.getElem?_eq_getElem hlt] at ht; exact Option.some.inj ht
  have hdr : e.kids.drop p = u :: e.kids.drop (p + 1) := by rw [List.drop_eq_getElem_cons hlt, hgt]
  have hl1 := hlen p u ht
  have hu := ih u htm (F p) hl1
  rw [show sfree (addM c bd) u (F p) = F (p + 1) by rw [hF, hF, sfreeS_take ht]] at hu
  repeat' first | ((first | refine aops_end (hK _ ?_) | refine aopsD_end (hK _ ?_) | refine aopsF_end (hK _ ?_)); clear hK K) | ((first | refine aops_go ?_ | refine aopsD_go ?_ | refine aopsF_go ?_ | refine wpcall_pure rfl (hu) ?_); simp [hlt, hgt]; (try simp (disch := omega) only [wrap64]); (try (refine gen2 ?_ ?_ <;> intro hq <;> try simp [hlt, hgt] at hq))) | (refine ⟨p + 1, by dsimp only; omega, by dsimp only; omega, ?_⟩; simp (disch := omega) [wrap64]) | refine T.r0 fun K hK => ?_ | refine T.r1 fun K hK => ?_ | (refine ⟨by omega, ?_⟩) | refine T.ct rfl ?_ | refine T.cf rfl ?_ | refine T.seq ?_ | refine T.block ?_ | refine T.skip ?_ | refine T.exit ?_
 ·have hp' : p = e.kids.length := by omega
  subst hp'
  repeat' first | ((first | refine aops_end (hK _ ?_) | refine aopsD_end (hK _ ?_) | refine aopsF_end (hK _ ?_)); clear hK K) | ((first | refine aops_go ?_ | refine aopsD_go ?_ | refine aopsF_go ?_); simp [hlt]; (try (refine gen2 ?_ ?_ <;> intro hq <;> try simp [hlt] at hq))) | (refine T.ret (Done.data (Or.inr rfl) ?_ ?_) <;> simp [Tryz.results92] <;> omega) | refine T.r0 fun K hK => ?_ | refine T.r1 fun K hK => ?_ | (refine ⟨by omega, ?_⟩) | refine T.ct rfl ?_ | refine T.cf rfl ?_ | refine T.seq ?_ | refine T.block ?_ | refine T.skip ?_ | refine T.exit ?_

theorem l2Free_non (e : MTm) (bd out : List UInt8) (h1 : ¬ e.kind = 1) (h5 : ¬ e.kind = 5) (hb : bd.length <= 1000000) (ho : out.length + nodesM e <= 1000000) (hl : e.kids.length <= 3)
  (ih : ∀ u ∈ e.kids, ∀ (o : List UInt8), o.length + nodesM u <= 1000000 -> ACalls Tryz.prog 92 [.s o, aTm u, .s bd] [] (.s (sfree bd u o)) [] []) :
  ACalls Tryz.prog 92 [.s out, aTm e, .s bd] [] (.s (sfreeS bd e.kids out)) [] [] := by
 have hlen : ∀ (p : Nat) (u : MTm), e.kids[p]? = some u -> (sfreeS bd (e.kids.take p) out).length + nodesM u <= 1000000 := fun p u hu => by
  have h1 := sfree_lenS (e.kids.take p) bd out
  have h2 := nodesS_take e.kids (p + 1)
  have h4 : nodesS (e.kids.take (p + 1)) = nodesS (e.kids.take p) + nodesM u := nodesS_take_succ hu
  have h5 : nodesM e = 1 + nodesS e.kids := by rw [nodesM_def, nodesS_sum]
  omega
 obtain ⟨F, hF⟩ : ∃ F : Nat -> List UInt8, ∀ p, F p = sfreeS bd (e.kids.take p) out := ⟨_, fun p => rfl⟩
 have hF0 : F 0 = out := by rw [hF]; simp [sfreeS]
 have hFl : F e.kids.length = sfreeS bd e.kids out := by rw [hF, List.take_length]
 simp only [<- hF] at hlen
 rw [<- hFl]
 refine ACalls.of_body Tryz.func92 (by kernel_rfl) rfl (by kernel_rfl) (by simp [Tryz.ntmps92]) (by simp) ?_
 rw [Tryz.ntmps92]
 repeat' first | ((first | refine aops_end (hK _ ?_) | refine aopsD_end (hK _ ?_) | refine aopsF_end (hK _ ?_)); clear hK K) | ((first | refine aops_go ?_ | refine aopsD_go ?_ | refine aopsF_go ?_); simp [h1, h5]; (try (refine gen2 ?_ ?_ <;> intro hq <;> try simp [h1, h5] at hq))) | refine T.r0 fun K hK => ?_ | refine T.r1 fun K hK => ?_ | (refine ⟨by omega, ?_⟩) | refine T.ct rfl ?_ | refine T.cf rfl ?_ | refine T.seq ?_ | refine T.block ?_ | refine T.skip ?_ | refine T.exit ?_
 refine T.loopK (α := Nat) [2, 4, 6] (fun p => [(0, .s (F p)), (7, .i p)]) (fun _ => []) (fun _ => []) (fun _ A => A) (fun p => e.kids.length + 1 - p) (fun p => p <= e.kids.length) (by simp; rfl) (fun p hx => ?_) 0 (by simp) (by simp) (by simp) (by simp [hF0])
 dsimp only at hx ⊢
 simp only [ups, List.set_cons_zero, List.set_cons_succ, List.cons_append, List.nil_append]
 by_cases hlt : p < e.kids.length
 ·obtain ⟨u, ht⟩ := get_lt hlt
  have htm : u ∈ e.kids := List.mem_of_getElem? ht
  have hgt : e.kids[p] = u := by rw [List.getElem?_eq_getElem hlt] at ht; exact Option.some.inj ht
  have hdr : e.kids.drop p = u :: e.kids.drop (p + 1) := by rw [List.drop_eq_getElem_cons hlt, hgt]
  have hl1 := hlen p u ht
  have hu := ih u htm (F p) hl1
  rw [show sfree bd u (F p) = F (p + 1) by rw [hF, hF, sfreeS_take ht]] at hu
  repeat' first | ((first | refine aops_end (hK _ ?_) | refine aopsD_end (hK _ ?_) | refine aopsF_end (hK _ ?_)); clear hK K) | ((first | refine aops_go ?_ | refine aopsD_go ?_ | refine aopsF_go ?_ | refine wpcall_pure rfl (hu) ?_); simp [hlt, hgt]; (try simp (disch := omega) only [wrap64]); (try (refine gen2 ?_ ?_ <;> intro hq <;> try simp [hlt, hgt] at hq))) | (refine ⟨p + 1, by dsimp only; omega, by dsimp only; omega, ?_⟩; simp (disch := omega) [wrap64]) | refine T.r0 fun K hK => ?_ | refine T.r1 fun K hK => ?_ | (refine ⟨by omega, ?_⟩) | refine T.ct rfl ?_ | refine T.cf rfl ?_ | refine T.seq ?_ | refine T.block ?_ | refine T.skip ?_ | refine T.exit ?_
 ·have hp' : p = e.kids.length := by omega
  subst hp'
  repeat' first | ((first | refine aops_end (hK _ ?_) | refine aopsD_end (hK _ ?_) | refine aopsF_end (hK _ ?_)); clear hK K) | ((first | refine aops_go ?_ | refine aopsD_go ?_ | refine aopsF_go ?_); simp [hlt]; (try (refine gen2 ?_ ?_ <;> intro hq <;> try simp [hlt] at hq))) | (refine T.ret (Done.data (Or.inr rfl) ?_ ?_) <;> simp [Tryz.results92] <;> omega) | refine T.r0 fun K hK => ?_ | refine T.r1 fun K hK => ?_ | (refine ⟨by omega, ?_⟩) | refine T.ct rfl ?_ | refine T.cf rfl ?_ | refine T.seq ?_ | refine T.block ?_ | refine T.skip ?_ | refine T.exit ?_

theorem l2Free_ok : ∀ (e : MTm) {nt : Int} {d : Nat}, TmV nt d e -> ∀ (bd out : List UInt8), bd.length + nodesM e <= 1000000 -> out.length + nodesM e <= 1000000 -> ACalls Tryz.prog 92 [.s out, aTm e, .s bd] [] (.s (sfree bd e out)) [] [] := by
 intro e
 induction e using MTm.ind with
 | h e ih =>
  intro nt d hv bd out hb ho
  have hk := hv.kidsV
  have hnd : nodesM e = 1 + nodesS e.kids := by rw [nodesM_def, nodesS_sum]
  have hl := hv.len3
  have hih : ∀ bd' : List UInt8, bd'.length <= bd.length + 1 -> ∀ u ∈ e.kids, ∀ (o : List UInt8), o.length + nodesM u <= 1000000 -> ACalls Tryz.prog 92 [.s o, aTm u, .s bd'] [] (.s (sfree bd' u o)) [] [] := fun bd' hbd u hu o ho => by
   obtain ⟨d', hd'⟩ := hk u hu
   have := nodesS_mem hu
   exact ih u hu hd' bd' o (by omega) ho
  rw [sfree_def]
  by_cases h1 : e.kind = 1
  ·obtain ⟨c, hc⟩ := hv.one (.inl h1)
   have h5 : ¬ e.kind = 5 := by omega
   rw [if_neg h5, hc]
   simp only [h1, true_and, List.headD_cons]
   rw [show (if ¬c ∈ bd then addM c out else out) = (if c ∈ bd then out else addM c out) by by_cases h : c ∈ bd <;> simp [h]]
   exact l2Free_var e bd out c hc h1 (by omega) ho hl (hih bd (by omega))
  ·simp only [h1, false_and, if_false]
   by_cases h5 : e.kind = 5
   ·obtain ⟨c, hc⟩ := hv.one (.inr h5)
    rw [if_pos h5, hc]
    simp only [List.headD_cons]
    exact l2Free_lam e bd out c hc h5 (by omega) ho hl (hih _ (addM_len _ _))
   ·rw [if_neg h5]
    exact l2Free_non e bd out h1 h5 (by omega) ho hl (hih bd (by omega))

theorem CompileTermS_ok (e : MTm) (hn : nTm e <= 1073741824) : ACalls Tryz.prog 54 [aTm e] [] (.tup [.l ((ops0 (compileM e)).map eOp), .b (compileM e).isSome]) [] [] := by
 have h1 := TermValidS_ok e (by omega)
 rw [compileM]
 cases hv : termValidM e with
 | false =>
  rw [hv] at h1
  simp only [Bool.false_eq_true, false_and, if_false, ops0, Option.getD_none, Option.isSome_none, List.map_nil]
  refine ACalls.of_body Tryz.func54 (by kernel_rfl) rfl (by kernel_rfl) (by simp [Tryz.ntmps54]) (by simp) ?_
  rw [Tryz.ntmps54]
  repeat' first | ((first | refine aops_end (hK _ ?_) | refine aopsD_end (hK _ ?_) | refine aopsF_end (hK _ ?_)); clear hK K) | ((first | refine aops_go ?_ | refine aopsD_go ?_ | refine aopsF_go ?_ | refine wpcall_pure rfl (h1) ?_); simp; (try (refine gen2 ?_ ?_ <;> intro hq <;> try simp at hq))) | (refine T.ret (Done.tup (Or.inr rfl) ?_) <;> simp [resAs, Tryz.results54] <;> omega) | refine T.r0 fun K hK => ?_ | refine T.r1 fun K hK => ?_ | (refine ⟨by omega, ?_⟩) | refine T.ct rfl ?_ | refine T.cf rfl ?_ | refine T.seq ?_ | refine T.block ?_ | refine T.skip ?_ | refine T.exit ?_
 | true =>
  rw [hv] at h1
  obtain ⟨hv1, hv2⟩ := termValidM_iff.1 hv
  have h2 := l2Free_ok e hv1 [] [] (by simp; omega) (by simp; omega)
  have hnm := sfree_names hv
  simp only [true_and]
  by_cases hf : sfree [] e [] = []
  ·rw [hf] at h2
   rw [if_pos (hnm.1 hf)]
   have h3 := l4Bare_ok 14 e 12 hv1 hn
   have hba := BaV.of hv1 [] ((names_nil hv1).1 (hnm.1 hf))
   have hnb := (bare_valid hv1 (.inr rfl)).2.2
   have h4 := (l14Compile_own (mapM bareG e) [] hba (by simp; omega)).sealed (by simp)
   dsimp only at h4
   have hcl := comp_len (mapM bareG e) []
   have h5 := OpsValidS2_ok (compM [] (mapM bareG e)) (by omega)
   generalize mapM bareG e = B at *
   generalize compM [] B = C at *
   cases ho : opsValidM C <;> rw [ho] at h5
   ·simp only [Bool.false_eq_true, if_false, ops0, Option.getD_none, Option.isSome_none, List.map_nil]
    refine ACalls.of_body Tryz.func54 (by kernel_rfl) rfl (by kernel_rfl) (by simp [Tryz.ntmps54]) (by simp) ?_
    rw [Tryz.ntmps54]
    repeat' first | ((first | refine aops_end (hK _ ?_) | refine aopsD_end (hK _ ?_) | refine aopsF_end (hK _ ?_)); clear hK K) | ((first | refine aops_go ?_ | refine aopsD_go ?_ | refine aopsF_go ?_ | refine wpcall_pure rfl (h1) ?_ | refine wpcall_pure rfl (h2) ?_ | refine wpcall_pure rfl (h3) ?_ | refine wpcall_pure rfl (h4) ?_ | refine wpcall_pure rfl (h5) ?_); simp; (try (refine gen2 ?_ ?_ <;> intro hq <;> try simp at hq))) | (refine T.ret (Done.tup (Or.inr rfl) ?_) <;> simp [resAs, Tryz.results54] <;> omega) | refine T.r0 fun K hK => ?_ | refine T.r1 fun K hK => ?_ | (refine ⟨by omega, ?_⟩) | refine T.ct rfl ?_ | refine T.cf rfl ?_ | refine T.seq ?_ | refine T.block ?_ | refine T.skip ?_ | refine T.exit ?_
   ·simp only [if_true, ops0, Option.getD_some, Option.isSome_some]
    refine ACalls.of_body Tryz.func54 (by kernel_rfl) rfl (by kernel_rfl) (by simp [Tryz.ntmps54]) (by simp) ?_
    rw [Tryz.ntmps54]
    repeat' first | ((first | refine aops_end (hK _ ?_) | refine aopsD_end (hK _ ?_) | refine aopsF_end (hK _ ?_)); clear hK K) | ((first | refine aops_go ?_ | refine aopsD_go ?_ | refine aopsF_go ?_ | refine wpcall_pure rfl (h1) ?_ | refine wpcall_pure rfl (h2) ?_ | refine wpcall_pure rfl (h3) ?_ | refine wpcall_pure rfl (h4) ?_ | refine wpcall_pure rfl (h5) ?_); simp; (try (refine gen2 ?_ ?_ <;> intro hq <;> try simp at hq))) | (refine T.ret (Done.tup (Or.inr rfl) ?_) <;> simp [resAs, Tryz.results54] <;> omega) | refine T.r0 fun K hK => ?_ | refine T.r1 fun K hK => ?_ | (refine ⟨by omega, ?_⟩) | refine T.ct rfl ?_ | refine T.cf rfl ?_ | refine T.seq ?_ | refine T.block ?_ | refine T.skip ?_ | refine T.exit ?_
  ·rw [if_neg (fun h => hf (hnm.2 h))]
   simp only [ops0, Option.getD_none, Option.isSome_none, List.map_nil]
   generalize sfree [] e [] = F at *
   refine ACalls.of_body Tryz.func54 (by kernel_rfl) rfl (by kernel_rfl) (by simp [Tryz.ntmps54]) (by simp) ?_
   rw [Tryz.ntmps54]
   repeat' first | ((first | refine aops_end (hK _ ?_) | refine aopsD_end (hK _ ?_) | refine aopsF_end (hK _ ?_)); clear hK K) | ((first | refine aops_go ?_ | refine aopsD_go ?_ | refine aopsF_go ?_ | refine wpcall_pure rfl (h1) ?_ | refine wpcall_pure rfl (h2) ?_); simp [hf]; (try (refine gen2 ?_ ?_ <;> intro hq <;> try simp [hf] at hq))) | (refine T.ret (Done.tup (Or.inr rfl) ?_) <;> simp [resAs, Tryz.results54] <;> omega) | refine T.r0 fun K hK => ?_ | refine T.r1 fun K hK => ?_ | (refine ⟨by omega, ?_⟩) | refine T.ct rfl ?_ | refine T.cf rfl ?_ | refine T.seq ?_ | refine T.block ?_ | refine T.skip ?_ | refine T.exit ?_

end Go.Proofs.YtcmdpggdaiinpaaGreatDoor

namespace Go.Proofs.YtcmdpggdaiinpaaGreatDoor
attribute [-simp] Go.Av.MCo.kind_mk Go.Av.MCo.tag_mk Go.Av.MCo.label_mk Go.Av.MCo.kids_mk Go.Av.IT.kind_v Go.Av.IT.kind_b Go.Av.IT.kind_p Go.Av.IT.name_v Go.Av.IT.name_b Go.Av.IT.name_p Go.Av.IT.kids_v Go.Av.IT.kids_b Go.Av.IT.kids_p Go.Av.eIT_len Go.Av.gT_cons Go.Av.sT_cons
open Go Go.Av
attribute [local irreducible] T ACalls TX EX LX Draws Some_ ACallsX eTy eTm MTy.kind MTy.kids MTm.kind MTm.name MTm.num MTm.ty MTm.fr MTm.label MTm.kids
attribute [local simp] eTy_def eTm_def
set_option maxHeartbeats 16000000
set_option maxRecDepth 8000
attribute [local irreducible] TJ FCalls compM

theorem CompileTermS_tree (e : MTm) (l : List MOp) (hn : nTm e <= 1073741824) (hl : compileM e = some l) : FCalls Tryz.prog 54 [aTm e] [] fun r L' => ∃ v, r = .tup [.c (.d (.raw v)), .b true] /\ L' = [(opK 51 l, v)] := by
 have h1 := TermValidS_ok e (by omega)
 rw [compileM] at hl
 cases hv : termValidM e with
 | false => rw [hv] at hl; simp at hl
 | true =>
  rw [hv] at h1 hl
  obtain ⟨hv1, hv2⟩ := termValidM_iff.1 hv
  have h2 := l2Free_ok e hv1 [] [] (by simp; omega) (by simp; omega)
  have hnm := sfree_names hv
  simp only [true_and] at hl
  by_cases hf : namesM e = []
  ·rw [if_pos hf] at hl
   rw [hnm.2 hf] at h2
   have h3 := l4Bare_ok 14 e 12 hv1 hn
   have hba := BaV.of hv1 [] ((names_nil hv1).1 hf)
   have hnb := (bare_valid hv1 (.inr rfl)).2.2
   have h4 := FCalls.of_own (l14Compile_own (mapM bareG e) [] hba (by simp; omega)) (by simp) (mk_op (compM [] (mapM bareG e)))
   dsimp only at h4
   simp only [<- opK_unf] at h4
   have hcl := comp_len (mapM bareG e) []
   have h5 := OpsValidS2_ok (compM [] (mapM bareG e)) (by omega)
   generalize mapM bareG e = B at *
   generalize compM [] B = C at *
   cases ho : opsValidM C <;> rw [ho] at h5 hl
   ·simp at hl
   ·simp at hl
    subst hl
    refine FCalls.of_body Tryz.func54 (by kernel_rfl) rfl (by kernel_rfl) (by simp [Tryz.ntmps54]) ?_
    rw [Tryz.ntmps54]
    repeat' first | (refine aopsJ_end (hK _ _ ?_); clear hK K) | (refine aopsD_end (hK _ ?_); clear hK K) | (refine aopsF_end (hK _ ?_); clear hK K) | ((first | refine aopsD_go ?_ | refine aopsF_go ?_ | refine wpcall_pure rfl (h1) ?_ | refine wpcall_pure rfl (h2) ?_ | refine wpcall_pure rfl (h3) ?_); simp; (try (refine gen2 ?_ ?_ <;> intro hq <;> try simp at hq))) | ((first | refine aopsJ_go ?_ | refine wpcallJ_pure rfl (h1) ?_ | refine wpcallJ_pure rfl (h2) ?_ | refine wpcallJ_pure rfl (h3) ?_ | (refine wpcallJ_scal ?_ (h5) rfl ?_; (focus (solve | (repeat' first | exact FzVs.nil | apply FzVs.cons | apply FzV.c | apply FzV.agg | exact FzL.nil | apply FzL.cons | exact FzC.d | exact FzC.nil | exact FzC.np | exact FzC.fn | (refine FzC.thaw' ?_ (opK_dp 51 _); (focus (solve | simp))) | (refine FzC.thaw' ?_ (tyK_dp 78 _); (focus (solve | simp [tTm]))) | (refine FzC.thaw' ?_ (tmK_dp 78 81 _); (focus (solve | simp [tTm]))))))) | (refine wpcallJ_new ?_ (h4) ?_; (focus (solve | (repeat' first | exact FzVs.nil | apply FzVs.cons | apply FzV.c | apply FzV.agg | exact FzL.nil | apply FzL.cons | exact FzC.d | exact FzC.nil | exact FzC.np | exact FzC.fn | (refine FzC.thaw' ?_ (opK_dp 51 _); (focus (solve | simp))) | (refine FzC.thaw' ?_ (tyK_dp 78 _); (focus (solve | simp [tTm]))) | (refine FzC.thaw' ?_ (tmK_dp 78 81 _); (focus (solve | simp [tTm])))))); rintro _ _ ⟨v, rfl, rfl⟩)); simp; (try (refine J2 ?_ ?_ <;> intro hq <;> try simp at hq))) | refine TJ.rs (fun _ => false) fun K hK => ?_ | refine TJ.rs1 (fun _ => false) fun K hK => ?_ | (refine And.intro (by omega) ?_) | refine TJ.cond rfl (fun hcnd => ?_) (fun hcnd => absurd hcnd (by decide)) | refine TJ.cond rfl (fun hcnd => absurd hcnd (by decide)) (fun hcnd => ?_) | refine TJ.seq ?_ | refine TJ.block ?_ | refine TJ.skip ?_ | refine TJ.exit ?_
    refine TJ.ret ?_; (repeat first | refine ThenJ.ret ?_ | refine InBlockJ.ret ?_); refine (DoneJ.tup (rs := [.c (.d (.raw v)), .b true]) (rs' := [.c (.d (.raw v)), .b true]) (Or.inr rfl) (by simp [Tryz.results54]) (by simp [DV.scal]) (M := []) (by simp) ⟨v, rfl, rfl⟩)
  ·rw [if_neg hf] at hl; simp at hl

theorem compS_cases (e : MTm) (hn : nTm e <= 1073741824) : ACalls Tryz.prog 54 [aTm e] [] (.tup [.l [], .b false]) [] [] \/
  ∃ l : List MOp, 1 <= l.length /\ l.length <= 120 /\ ACalls Tryz.prog 54 [aTm e] [] (.tup [.c (.own 0 l.length), .b true]) [] [{ sz := 2, ety := 51, rows := l.map eOp, wr := true }] := by
 cases hc : compileM e with
 | none =>
  have h := CompileTermS_ok e hn
  rw [hc] at h
  exact .inl h
 | some l =>
  have h := CompileTermS_tree e l hn hc
  refine .inr ⟨l, ?_, ?_, ?_⟩
  ·rw [compileM] at hc
   split at hc
   ·split at hc
    ·rename_i ho; cases hc; exact (opsValid_iff.1 ho).2.1
    ·cases hc
   ·cases hc
  ·have := compile_small e
   rw [hc] at this
   exact this
  ·simp only [opK_unf] at h
   exact ACalls.of_tree2 h (opRows_scal l) (fun ds Lc hmk => mk_op_inv hmk)

theorem wpsplit {s : St} {f : FuncId} {xs : List AV} {K : AV -> List (List CV) -> List Arr -> Prop} {A : Prop} {C : List MOp -> Prop} (h : A \/ ∃ l : List MOp, 1 <= l.length /\ l.length <= 120 /\ C l) (h1 : A -> wpcall Tryz.prog s f xs K) (h2 : ∀ l : List MOp, 1 <= l.length -> l.length <= 120 -> C l -> wpcall Tryz.prog s f xs K) : wpcall Tryz.prog s f xs K := by
 rcases h with h | ⟨l, h3, h4, h5⟩
 ·exact h1 h
 ·exact h2 l h3 h4 h5

def aOps (l : List MOp) : AV := .l (l.map eOp)
def IsOps (rs : List (List DV)) (x : List MOp) : Prop := rs = x.map eOp
theorem IsV.ops {rs : List (List DV)} {x : List MOp} (h : IsOps rs x) : IsV aOps (.c (.d (.sl rs))) x := by rw [IsV, h]; rfl
theorem IsOps.map (x : List MOp) : IsOps (x.map eOp) x := rfl
theorem IsOps.nil : IsOps [] [] := rfl
theorem IsOps.app {a c : List (List DV)} {x y : List MOp} (h : IsOps a x) (h' : IsOps c y) : IsOps (a ++ c) (x ++ y) := by rw [IsOps, h, h', List.map_append]
theorem IsOps.cons {k n : Int} {a : List (List DV)} {x : List MOp} (h : IsOps a x) : IsOps ([.int .i64 k, .int .i64 n] :: a) (⟨k, n⟩ :: x) := by rw [IsOps, h] <;> rfl
theorem IsOps.set {k n : Int} {i : Nat} {a : List (List DV)} {x : List MOp} (h : IsOps a x) : IsOps (a.set i [.int .i64 k, .int .i64 n]) (x.set i ⟨k, n⟩) := by rw [IsOps, h, List.map_set] <;> rfl
theorem IsOps.take {i : Nat} {a : List (List DV)} {x : List MOp} (h : IsOps a x) : IsOps (a.take i) (x.take i) := by rw [IsOps, h, List.map_take]

theorem l14Draw_ok (b : List Int) (hb : okB b) (p : Nat) (hp : p + 61000000 <= 1099511627776) : Draws Tryz.prog 23 [] b p 61000000 (RV aOps noA fun l => l.length <= 121) := by
 refine Draws.of_body Tryz.func23 (by kernel_rfl) rfl (by kernel_rfl) (by simp [Tryz.ntmps23]) ?_
 rw [Tryz.ntmps23]
 repeat' first | ((first | refine aops_end (hK _ ?_) | refine aopsD_end (hK _ ?_) | refine aopsF_end (hK _ ?_)); clear hK K) | ((first | refine aops_go ?_ | refine aopsD_go ?_ | refine aopsF_go ?_ | refine wpcall_pure rfl (hcc) ?_); simp; (try simp (disch := omega) only [wrap64]); (try (refine gen2 ?_ ?_ <;> intro hq <;> try simp at hq))) | (refine wpcall_dr 0 rfl rfl (pick_ok b hb _ (by omega) 3 (by omega)) (fun x1 p1 hx1 hp1 hp1' => ?_); simp; (try simp (disch := omega) only [wrap64]); (try (refine gen2 ?_ ?_ <;> intro hq <;> try simp at hq))) | (refine wpcall_dr 0 rfl rfl (pick_ok b hb _ (by omega) 15 (by omega)) (fun x1 p1 hx1 hp1 hp1' => ?_); simp; (try simp (disch := omega) only [wrap64]); (try (refine gen2 ?_ ?_ <;> intro hq <;> try simp at hq))) | (refine wpcall_dr 0 rfl rfl (pick_ok b hb _ (by omega) 16 (by omega)) (fun x1 p1 hx1 hp1 hp1' => ?_); simp; (try simp (disch := omega) only [wrap64]); (try (refine gen2 ?_ ?_ <;> intro hq <;> try simp at hq))) | (refine wpcall_dr 0 rfl rfl (pick_ok b hb _ (by omega) 1 (by omega)) (fun x1 p1 hx1 hp1 hp1' => ?_); simp; (try simp (disch := omega) only [wrap64]); (try (refine gen2 ?_ ?_ <;> intro hq <;> try simp at hq))) | (refine wpcall_dr 0 rfl rfl (pick_ok b hb _ (by omega) l.length (by omega)) (fun x1 p1 hx1 hp1 hp1' => ?_); simp; (try simp (disch := omega) only [wrap64]); (try (refine gen2 ?_ ?_ <;> intro hq <;> try simp at hq))) | (refine wpcall_dr 0 rfl rfl (num_ok b hb _ (by omega) [0, 1, 2, 1000, -1, 9223372036854775807] (by simp) (by simp)) (fun x1 p1 hx1 hp1 hp1' => ?_); simp; (try simp (disch := omega) only [wrap64]); (try (refine gen2 ?_ ?_ <;> intro hq <;> try simp at hq))) | (refine wpcall_dr 0 rfl rfl (num_ok b hb _ (by omega) [7, 6, 5, 12] (by simp) (by simp)) (fun x1 p1 hx1 hp1 hp1' => ?_); simp; (try simp (disch := omega) only [wrap64]); (try (refine gen2 ?_ ?_ <;> intro hq <;> try simp at hq))) | (refine wpcall_own rfl (hco) ?_; simp; (try simp (disch := omega) only [wrap64]); (try (refine gen2 ?_ ?_ <;> intro hq <;> try simp at hq))) | ((first | refine wpcall_dr 0 rfl rfl (l3Typed_ok b hb _ (by omega)) (fun e p1 he hp1 hp1' => ?_) | refine wpcall_dr 0 rfl rfl (l2Closed_ok b hb _ (by omega)) (fun e2 p1 he2 hp1 hp1' => ?_)); simp) | (refine wpsplit (f := 54) (compS_cases e2 (by omega)) (fun hcc => ?_) (fun l hl1 hl2 hco => ?_)) | (refine wpsplit (f := 54) (compS_cases e (by omega)) (fun hcc => ?_) (fun l hl1 hl2 hco => ?_)) | ((rw [List.getElem?_eq_getElem (by first | assumption | omega | (simp; omega))]; simp)) | refine TX.rs (id := 6) (fun i => i == 1) fun K hK => ?_ | refine TX.rs1 (id := 6) (fun i => i == 1) fun K hK => ?_ | refine TX.rs (id := 0) (fun _ => false) fun K hK => ?_ | refine TX.rs1 (id := 0) (fun _ => false) fun K hK => ?_ | refine TX.rs (id := 1) (fun _ => false) fun K hK => ?_ | refine TX.rs1 (id := 1) (fun _ => false) fun K hK => ?_ | refine TX.rs (id := 2) (fun _ => false) fun K hK => ?_ | refine TX.rs1 (id := 2) (fun _ => false) fun K hK => ?_ | refine TX.rs (id := 3) (fun _ => false) fun K hK => ?_ | refine TX.rs1 (id := 3) (fun _ => false) fun K hK => ?_ | refine TX.rs (id := 4) (fun _ => false) fun K hK => ?_ | refine TX.rs1 (id := 4) (fun _ => false) fun K hK => ?_ | refine TX.rs (id := 5) (fun _ => false) fun K hK => ?_ | refine TX.rs1 (id := 5) (fun _ => false) fun K hK => ?_ | refine TX.rs (id := 7) (fun _ => false) fun K hK => ?_ | refine TX.rs1 (id := 7) (fun _ => false) fun K hK => ?_ | refine TX.rs (id := 8) (fun _ => false) fun K hK => ?_ | refine TX.rs1 (id := 8) (fun _ => false) fun K hK => ?_ | refine TX.rs (id := 9) (fun _ => false) fun K hK => ?_ | refine TX.rs1 (id := 9) (fun _ => false) fun K hK => ?_ | refine TX.rs (id := 10) (fun _ => false) fun K hK => ?_ | refine TX.rs1 (id := 10) (fun _ => false) fun K hK => ?_ | refine TX.rs (id := 11) (fun _ => false) fun K hK => ?_ | refine TX.rs1 (id := 11) (fun _ => false) fun K hK => ?_ | refine TX.rs (id := 12) (fun _ => false) fun K hK => ?_ | refine TX.rs1 (id := 12) (fun _ => false) fun K hK => ?_ | refine TX.rs (id := 13) (fun _ => false) fun K hK => ?_ | refine TX.rs1 (id := 13) (fun _ => false) fun K hK => ?_ | refine TX.rs (id := 14) (fun _ => false) fun K hK => ?_ | refine TX.rs1 (id := 14) (fun _ => false) fun K hK => ?_ | refine TX.rs (id := 15) (fun _ => false) fun K hK => ?_ | refine TX.rs1 (id := 15) (fun _ => false) fun K hK => ?_ | (refine ⟨by omega, ?_⟩) | refine TX.cond rfl (fun hcnd => ?_) (fun hcnd => absurd hcnd (by decide)) | refine TX.cond rfl (fun hcnd => absurd hcnd (by decide)) (fun hcnd => ?_) | refine TX.seq ?_ | refine TX.block ?_ | refine TX.skip ?_ | refine TX.exit ?_ | refine EX.thenN ?_ | refine EX.thenR ?_ | refine EX.thenE ?_ | refine EX.blockN ?_ | refine EX.blockR ?_ | refine EX.blockE ?_ | refine EX.blockO (by simp) ?_ | refine EX.outR ?_ | refine EX.outE ?_
 all_goals (
  refine TX.ret ?_
  repeat' first | refine EX.outR ?_ | refine EX.thenR ?_ | refine EX.blockR ?_ | refine EX.unrR ?_
  apply EX.drA (ks := [])
  case he => exact Or.inr rfl
  case hys => simp [resAs, getAs, Tryz.results23] <;> rfl
  case hv => first | (dsimp only [Av.one]; exact rfl) | dsimp only [Av.one]
  case hx => repeat' first | exact IsT2.var _ | exact IsV.tmv _ | exact IsTm.var _ | exact IsTy.row _ | exact IsTm.row _ | exact IsTys.nil | exact IsTms.nil | exact IsBds.nil | exact IsTys.map _ | exact IsTms.map _ | exact IsBds.map _ | exact IsV.int _ | exact IsV.str _ | exact IsV.bool _ | apply IsV.p2 | apply IsV.p3 | apply IsV.tm | apply IsV.ty | apply IsTm.node | apply IsTy.of | apply IsTys.cons | apply IsTms.cons | apply IsBds.cons | apply IsV.tys | apply IsV.tms | apply IsV.bds | apply IsT2.node | apply IsTys.app | apply IsTms.app | apply IsBds.app | exact IsCos.map _ | exact IsCos.nil | apply IsV.co | apply IsCos.cons | apply IsCos.app | apply IsV.ops | exact IsOps.map _ | exact IsOps.nil | apply IsOps.cons | apply IsOps.app | apply IsOps.set | apply IsOps.take
  case hA => exact rfl
  case hks => simp
  case hV => exact rfl
  case h1 => omega
  case h2 => omega
  case hg => first | omega | (simp <;> omega) | (simp [List.length_take] <;> omega))

end Go.Proofs.YtcmdpggdaiinpaaGreatDoor
