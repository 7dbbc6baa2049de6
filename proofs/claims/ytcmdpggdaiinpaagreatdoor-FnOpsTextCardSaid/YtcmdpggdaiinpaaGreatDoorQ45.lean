/- A part of the library of this seat. -/
import Derived.Test.YtcmdpggdaiinpaaGreatDoorQ44
set_option linter.unusedVariables false
set_option linter.unusedSimpArgs false
namespace Go.Proofs.YtcmdpggdaiinpaaGreatDoor
attribute [-simp] Go.Av.astepJ Go.Av.relC Go.Av.relL Go.Av.relV Go.Av.relVs Go.Av.callJ Go.Av.IT.kind_v Go.Av.IT.kind_b Go.Av.IT.kind_p Go.Av.IT.name_v Go.Av.IT.name_b Go.Av.IT.name_p Go.Av.IT.kids_v Go.Av.IT.kids_b Go.Av.IT.kids_p Go.Av.eIT_len Go.Av.gT_cons Go.Av.sT_cons
open Go Go.Av
attribute [local irreducible] T ACalls TX EX LX Draws Some_ ACallsX eTy eTm MTy.kind MTy.kids MTm.kind MTm.name MTm.num MTm.ty MTm.fr MTm.label MTm.kids
attribute [local simp] eTy_def eTm_def
set_option maxHeartbeats 16000000
set_option maxRecDepth 8000

theorem sCut_ok (s : List UInt8) (c : UInt8) (hs : s.length <= 1099511627776) : ACalls Tryz.prog 61 [.s s, .s [c]] [] (.tup [.s (cutA c s), .s (cutB c s), .b (decide (0 <= Lib.indexByte s c))]) [] [] := by
 have h1 := Index12_ok s c
 rcases ix_or s c with q0 | ⟨m, q0⟩
 ·rw [q0] at h1
  rw [show cutA c s = s by simp [cutA, q0], show cutB c s = [] by simp [cutB, q0], show decide (0 <= Lib.indexByte s c) = false by rw [q0]; rfl]
  refine ACalls.of_body Tryz.func61 (by kernel_rfl) rfl (by kernel_rfl) (by simp [Tryz.ntmps61]) (by simp) ?_
  rw [Tryz.ntmps61]
  repeat' first | ((first | refine aops_end (hK _ ?_) | refine aopsD_end (hK _ ?_) | refine aopsF_end (hK _ ?_)); clear hK K) | ((first | refine aops_go ?_ | refine aopsD_go ?_ | refine aopsF_go ?_ | refine wpcall_pure rfl (h1) ?_); simp; (try simp (disch := omega) only [wrap64]); (try (refine gen2 ?_ ?_ <;> intro hq <;> try simp at hq))) | (refine T.ret (Done.tup (Or.inr rfl) ?_) <;> simp [resAs, Tryz.results61] <;> omega) | refine T.rd (id := 3) mixed (fun _ => false) [] (by kernel_rfl) fun K hK => ?_ | refine T.rd1 (id := 3) mixed (fun _ => false) [] (by kernel_rfl) fun K hK => ?_ | refine T.r0 fun K hK => ?_ | refine T.r1 fun K hK => ?_ | (refine ⟨by omega, ?_⟩) | refine T.ct rfl ?_ | refine T.cf rfl ?_ | refine T.seq ?_ | refine T.block ?_ | refine T.skip ?_ | refine T.exit ?_
 ·rw [q0] at h1
  obtain ⟨hm, _, _⟩ := ix_some q0
  have hm0 : ¬ ((m : Int) < 0) := by omega
  rw [show cutA c s = s.take m by simp [cutA, q0, hm0], show cutB c s = s.drop (m + 1) by simp [cutB, q0, hm0], show decide (0 <= Lib.indexByte s c) = true by rw [q0]; simp]
  have hto : ((m : Int) + 1).toNat = m + 1 := by omega
  have hm1 : (m : Int) <= s.length := by omega
  have hm2 : (m : Int) + 1 <= s.length := by omega
  have hm4 : (0 : Int) <= (m : Int) + 1 := by omega
  have hm5 : (0 : Int) <= (m : Int) := by omega
  refine ACalls.of_body Tryz.func61 (by kernel_rfl) rfl (by kernel_rfl) (by simp [Tryz.ntmps61]) (by simp) ?_
  rw [Tryz.ntmps61]
  repeat' first | ((first | refine aops_end (hK _ ?_) | refine aopsD_end (hK _ ?_) | refine aopsF_end (hK _ ?_)); clear hK K) | ((first | refine aops_go ?_ | refine aopsD_go ?_ | refine aopsF_go ?_ | refine wpcall_pure rfl (h1) ?_); simp [hto, hm0, hm1, hm2, hm4, hm5]; (try simp (disch := omega) only [wrap64]); (try (refine gen2 ?_ ?_ <;> intro hq <;> try simp [hto, hm0, hm1, hm2, hm4, hm5] at hq))) | (refine T.ret (Done.tup (Or.inr rfl) ?_) <;> simp [resAs, Tryz.results61] <;> omega) | refine T.rd (id := 3) mixed (fun _ => false) [] (by kernel_rfl) fun K hK => ?_ | refine T.rd1 (id := 3) mixed (fun _ => false) [] (by kernel_rfl) fun K hK => ?_ | refine T.r0 fun K hK => ?_ | refine T.r1 fun K hK => ?_ | (refine ⟨by omega, ?_⟩) | refine T.ct rfl ?_ | refine T.cf rfl ?_ | refine T.seq ?_ | refine T.block ?_ | refine T.skip ?_ | refine T.exit ?_

theorem Cut2_ok (s : List UInt8) (c : UInt8) (hs : s.length <= 1099511627776) : ACalls Tryz.prog 27 [.s s, .s [c]] [] (.tup [.s (cutA c s), .s (cutB c s), .b (decide (0 <= Lib.indexByte s c))]) [] [] := by
 have h := sCut_ok s c hs
 generalize decide (0 <= Lib.indexByte s c) = q1 at *
 generalize cutA c s = a at *
 generalize cutB c s = b at *
 refine ACalls.of_body Tryz.func27 (by kernel_rfl) rfl (by kernel_rfl) (by simp [Tryz.ntmps27]) (by simp) ?_
 rw [Tryz.ntmps27]
 repeat' first | ((first | refine aops_end (hK _ ?_) | refine aopsD_end (hK _ ?_) | refine aopsF_end (hK _ ?_)); clear hK K) | ((first | refine aops_go ?_ | refine aopsD_go ?_ | refine aopsF_go ?_ | refine wpcall_pure rfl (h) ?_); simp) | (refine T.ret (Done.tup (Or.inr rfl) ?_) <;> simp [resAs, Tryz.results27] <;> omega) | refine T.r0 fun K hK => ?_ | refine T.r1 fun K hK => ?_ | (refine ⟨by omega, ?_⟩) | refine T.ct rfl ?_ | refine T.cf rfl ?_ | refine T.seq ?_ | refine T.block ?_ | refine T.skip ?_ | refine T.exit ?_

theorem Split2_ok (s : List UInt8) (c : UInt8) (hs : s.length <= 1099511627776) : ACalls Tryz.prog 26 [.s s, .s [c]] [] (.l ((cutL c s).map eW)) [] [] := by
 have h := genSplit_ok s c hs
 refine ACalls.of_body Tryz.func26 (by kernel_rfl) rfl (by kernel_rfl) (by simp [Tryz.ntmps26]) (by simp) ?_
 rw [Tryz.ntmps26]
 repeat' first | ((first | refine aops_end (hK _ ?_) | refine aopsD_end (hK _ ?_) | refine aopsF_end (hK _ ?_)); clear hK K) | ((first | refine aops_go ?_ | refine aopsD_go ?_ | refine aopsF_go ?_ | refine wpcall_pure rfl (h) ?_); simp; (try (refine gen2 ?_ ?_ <;> intro hq <;> try simp at hq))) | (refine T.ret (Done.data (Or.inr rfl) ?_ ?_) <;> simp [Tryz.results26] <;> omega) | refine T.r0 fun K hK => ?_ | refine T.r1 fun K hK => ?_ | (refine ⟨by omega, ?_⟩) | refine T.ct rfl ?_ | refine T.cf rfl ?_ | refine T.seq ?_ | refine T.block ?_ | refine T.skip ?_ | refine T.exit ?_

theorem IndexW_ok (w : List UInt8) (l : List (List UInt8)) (hl : l.length <= 1099511627776) : ACalls Tryz.prog 28 [.l (l.map eW), .s w] [] (.i (ixW w 0 l)) [] [] := by
 obtain ⟨R, hR⟩ : ∃ R, ixW w 0 l = R := ⟨_, rfl⟩
 rw [hR]
 refine ACalls.of_body Tryz.func28 (by kernel_rfl) rfl (by kernel_rfl) (by simp [Tryz.ntmps28]) (by simp) ?_
 rw [Tryz.ntmps28]
 repeat' first | ((first | refine aops_end (hK _ ?_) | refine aopsD_end (hK _ ?_) | refine aopsF_end (hK _ ?_)); clear hK K) | ((first | refine aops_go ?_ | refine aopsD_go ?_ | refine aopsF_go ?_); simp; (try (refine gen2 ?_ ?_ <;> intro hq <;> try simp at hq))) | refine T.r0 fun K hK => ?_ | refine T.r1 fun K hK => ?_ | (refine ⟨by omega, ?_⟩) | refine T.ct rfl ?_ | refine T.cf rfl ?_ | refine T.seq ?_ | refine T.block ?_ | refine T.skip ?_ | refine T.exit ?_
 refine T.loopK (α := Nat) [0, 1, 7] (fun p => [(4, .i 0), (8, .i p)]) (fun _ => []) (fun _ => []) (fun _ _ => []) (fun p => l.length + 1 - p) (fun p => p <= l.length /\ ixW w p (l.drop p) = R) (by simp; rfl) (fun p hx => ?_) 0 ⟨by omega, by simpa using hR⟩ (by simp) (by simp) (by simp)
 obtain ⟨hp, he⟩ := hx
 dsimp only
 simp only [ups, List.set_cons_zero, List.set_cons_succ, List.cons_append, List.nil_append]
 by_cases hlt : p < l.length
 ·obtain ⟨u, ht⟩ := get_lt hlt
  have htm : u ∈ l := List.mem_of_getElem? ht
  have hgt : l[p] = u := by rw [List.getElem?_eq_getElem hlt] at ht; exact Option.some.inj ht
  have hdr : l.drop p = u :: l.drop (p + 1) := by rw [List.drop_eq_getElem_cons hlt, hgt]
  rw [hdr, ixW] at he
  by_cases hc : u = w
  ·subst hc
   rw [if_pos rfl] at he
   rw [<- he]
   repeat' first | ((first | refine aops_end (hK _ ?_) | refine aopsD_end (hK _ ?_) | refine aopsF_end (hK _ ?_)); clear hK K) | ((first | refine aops_go ?_ | refine aopsD_go ?_ | refine aopsF_go ?_); simp [hlt, hgt]; (try simp (disch := omega) only [wrap64]); (try (refine gen2 ?_ ?_ <;> intro hq <;> try simp [hlt, hgt] at hq))) | (refine T.ret (Done.data (Or.inr rfl) ?_ ?_) <;> simp [Tryz.results28] <;> omega) | refine T.r0 fun K hK => ?_ | refine T.r1 fun K hK => ?_ | (refine ⟨by omega, ?_⟩) | refine T.ct rfl ?_ | refine T.cf rfl ?_ | refine T.seq ?_ | refine T.block ?_ | refine T.skip ?_ | refine T.exit ?_
  ·rw [if_neg hc] at he
   have hc' : ¬ w = u := fun h => hc h.symm
   repeat' first | ((first | refine aops_end (hK _ ?_) | refine aopsD_end (hK _ ?_) | refine aopsF_end (hK _ ?_)); clear hK K) | ((first | refine aops_go ?_ | refine aopsD_go ?_ | refine aopsF_go ?_); simp [hlt, hgt, hc, hc']; (try simp (disch := omega) only [wrap64]); (try (refine gen2 ?_ ?_ <;> intro hq <;> try simp [hlt, hgt, hc, hc'] at hq))) | (refine ⟨p + 1, by dsimp only; omega, ⟨by omega, he⟩, ?_⟩; simp (disch := omega) [wrap64]) | refine T.r0 fun K hK => ?_ | refine T.r1 fun K hK => ?_ | (refine ⟨by omega, ?_⟩) | refine T.ct rfl ?_ | refine T.cf rfl ?_ | refine T.seq ?_ | refine T.block ?_ | refine T.skip ?_ | refine T.exit ?_
 ·have hp' : p = l.length := by omega
  subst hp'
  rw [List.drop_length, ixW] at he
  rw [<- he]
  repeat' first | ((first | refine aops_end (hK _ ?_) | refine aopsD_end (hK _ ?_) | refine aopsF_end (hK _ ?_)); clear hK K) | ((first | refine aops_go ?_ | refine aopsD_go ?_ | refine aopsF_go ?_); simp [hlt]; (try (refine gen2 ?_ ?_ <;> intro hq <;> try simp [hlt] at hq))) | (refine T.ret (Done.data (Or.inr rfl) ?_ ?_) <;> simp [Tryz.results28] <;> omega) | refine T.r0 fun K hK => ?_ | refine T.r1 fun K hK => ?_ | (refine ⟨by omega, ?_⟩) | refine T.ct rfl ?_ | refine T.cf rfl ?_ | refine T.seq ?_ | refine T.block ?_ | refine T.skip ?_ | refine T.exit ?_

def atoiRen : Go.Shelf.Ren := ⟨fun n => match n with | 129 => 169 | 171 => 58 | 172 => 30 | 205 => 145 | 243 => 96 | 244 => 62 | 245 => 63 | 246 => 135 | 247 => 101 | 279 => 102 | 280 => 103 | 281 => 104 | 282 => 105 | 283 => 155 | 284 => 156 | 285 => 157 | 286 => 158 | 287 => 143 | 316 => 144 | 317 => 168 | 318 => 170 | 319 => 171 | 320 => 172 | 321 => 162 | 322 => 163 | 337 => 175 | 338 => 176 | _ => 0, fun n => match n with | 0 => 0 | 2 => 2 | 3 => 3 | 4 => 4 | 5 => 5 | 9 => 9 | 20 => 20 | 21 => 21 | 37 => 22 | 46 => 153 | 51 => 171 | 53 => 154 | 75 => 53 | 76 => 54 | 80 => 65 | 85 => 120 | 127 => 116 | 143 => 176 | 145 => 178 | 167 => 119 | 168 => 122 | 171 => 166 | 173 => 169 | 175 => 155 | 210 => 159 | 212 => 182 | 213 => 183 | 232 => 193 | 233 => 194 | _ => 0, fun n => match n with | 15 => 1 | 16 => 2 | 17 => 3 | 18 => 6 | 19 => 7 | _ => 0⟩
theorem atoiLays : Go.Proofs.LaysC.n172 Tryz.prog atoiRen where
 mixed := mixed
 f129 := by kernel_rfl
 f171 := by kernel_rfl
 f172 := by kernel_rfl
 f205 := by kernel_rfl
 f243 := by kernel_rfl
 f244 := by kernel_rfl
 f245 := by kernel_rfl
 f246 := by kernel_rfl
 f247 := by kernel_rfl
 f279 := by kernel_rfl
 f280 := by kernel_rfl
 f281 := by kernel_rfl
 f282 := by kernel_rfl
 f283 := by kernel_rfl
 f284 := by kernel_rfl
 f285 := by kernel_rfl
 f286 := by kernel_rfl
 f287 := by kernel_rfl
 f316 := by kernel_rfl
 f317 := by kernel_rfl
 f318 := by kernel_rfl
 f319 := by kernel_rfl
 f320 := by kernel_rfl
 f321 := by kernel_rfl
 f322 := by kernel_rfl
 f337 := by kernel_rfl
 f338 := by kernel_rfl
 t0 := by kernel_rfl
 a0 := by intro w; kernel_rfl
 z0 := by intro w; kernel_rfl
 v0 := by intro w; kernel_rfl
 t2 := by kernel_rfl
 a2 := by intro w; kernel_rfl
 z2 := by intro w; kernel_rfl
 v2 := by intro w; kernel_rfl
 t3 := by kernel_rfl
 a3 := by intro w; kernel_rfl
 z3 := by intro w; kernel_rfl
 v3 := by intro w; kernel_rfl
 t4 := by kernel_rfl
 a4 := by intro w; kernel_rfl
 z4 := by intro w; kernel_rfl
 v4 := by intro w; kernel_rfl
 t5 := by kernel_rfl
 a5 := by intro w; kernel_rfl
 z5 := by intro w; kernel_rfl
 v5 := by intro w; kernel_rfl
 t9 := by kernel_rfl
 a9 := by intro w; kernel_rfl
 z9 := by intro w; kernel_rfl
 v9 := by intro w; kernel_rfl
 t20 := by kernel_rfl
 a20 := by intro w; kernel_rfl
 z20 := by intro w; kernel_rfl
 v20 := by intro w; kernel_rfl
 t21 := by kernel_rfl
 a21 := by intro w; kernel_rfl
 z21 := by intro w; kernel_rfl
 v21 := by intro w; kernel_rfl
 t37 := by kernel_rfl
 a37 := by intro w; kernel_rfl
 z37 := by intro w; kernel_rfl
 v37 := by intro w; kernel_rfl
 t46 := by kernel_rfl
 a46 := by intro w; kernel_rfl
 z46 := by intro w; kernel_rfl
 v46 := by intro w; kernel_rfl
 t51 := by kernel_rfl
 a51 := by intro w; kernel_rfl
 z51 := by intro w; kernel_rfl
 v51 := by intro w; kernel_rfl
 t53 := by kernel_rfl
 a53 := by intro w; kernel_rfl
 z53 := by intro w; kernel_rfl
 v53 := by intro w; kernel_rfl
 t75 := by kernel_rfl
 a75 := by intro w; kernel_rfl
 z75 := by intro w; kernel_rfl
 v75 := by intro w; kernel_rfl
 t76 := by kernel_rfl
 a76 := by intro w; kernel_rfl
 z76 := by intro w; kernel_rfl
 v76 := by intro w; kernel_rfl
 t85 := by kernel_rfl
 a85 := by intro w; kernel_rfl
 z85 := by intro w; kernel_rfl
 v85 := by intro w; kernel_rfl
 t127 := by kernel_rfl
 a127 := by intro w; kernel_rfl
 z127 := by intro w; kernel_rfl
 v127 := by intro w; kernel_rfl
 t143 := by kernel_rfl
 a143 := by intro w; kernel_rfl
 z143 := by intro w; kernel_rfl
 v143 := by intro w; kernel_rfl
 t145 := by kernel_rfl
 a145 := by intro w; kernel_rfl
 z145 := by intro w; kernel_rfl
 v145 := by intro w; kernel_rfl
 t167 := by kernel_rfl
 a167 := by intro w; kernel_rfl
 z167 := by intro w; kernel_rfl
 v167 := by intro w; kernel_rfl
 t168 := by kernel_rfl
 a168 := by intro w; kernel_rfl
 z168 := by intro w; kernel_rfl
 v168 := by intro w; kernel_rfl
 t171 := by kernel_rfl
 a171 := by intro w; kernel_rfl
 z171 := by intro w; kernel_rfl
 v171 := by intro w; kernel_rfl
 t173 := by kernel_rfl
 a173 := by intro w; kernel_rfl
 z173 := by intro w; kernel_rfl
 v173 := by intro w; kernel_rfl
 t175 := by kernel_rfl
 a175 := by intro w; kernel_rfl
 z175 := by intro w; kernel_rfl
 v175 := by intro w; kernel_rfl
 t210 := by kernel_rfl
 a210 := by intro w; kernel_rfl
 z210 := by intro w; kernel_rfl
 v210 := by intro w; kernel_rfl
 t212 := by kernel_rfl
 a212 := by intro w; kernel_rfl
 z212 := by intro w; kernel_rfl
 v212 := by intro w; kernel_rfl
 t213 := by kernel_rfl
 a213 := by intro w; kernel_rfl
 z213 := by intro w; kernel_rfl
 t232 := by kernel_rfl
 a232 := by intro w; kernel_rfl
 z232 := by intro w; kernel_rfl
 v232 := by intro w; kernel_rfl
 t233 := by kernel_rfl
 a233 := by intro w; kernel_rfl
 z233 := by intro w; kernel_rfl
 v233 := by intro w; kernel_rfl
 g15 := by kernel_rfl
 g16 := by kernel_rfl
 g17 := by kernel_rfl
 g18 := by kernel_rfl
 g19 := by kernel_rfl
 t80 := by kernel_rfl
 a80 := by intro w; kernel_rfl
 z80 := by intro w; kernel_rfl
 v80 := by intro w; kernel_rfl
 i0 := by kernel_rfl
 i2 := by kernel_rfl
 i3 := by kernel_rfl
 i4 := by kernel_rfl
 i5 := by kernel_rfl
 i9 := by kernel_rfl
 i20 := by kernel_rfl
 i21 := by kernel_rfl
 i37 := by kernel_rfl
 i46 := by kernel_rfl
 i51 := by kernel_rfl
 i53 := by kernel_rfl
 i75 := by kernel_rfl
 i76 := by kernel_rfl
 i80 := by kernel_rfl
 i85 := by kernel_rfl
 i127 := by kernel_rfl
 i143 := by kernel_rfl
 i145 := by kernel_rfl
 i167 := by kernel_rfl
 i168 := by kernel_rfl
 i171 := by kernel_rfl
 i173 := by kernel_rfl
 i175 := by kernel_rfl
 i210 := by kernel_rfl
 i212 := by kernel_rfl
 i232 := by kernel_rfl
 i233 := by kernel_rfl
 m15 := by kernel_rfl
 m16 := by kernel_rfl
 m17 := by kernel_rfl
 m18 := by kernel_rfl
 m19 := by kernel_rfl
 c0 := by kernel_rfl
 c2 := by kernel_rfl
 c3 := by kernel_rfl
 c4 := by kernel_rfl
 c5 := by kernel_rfl
 c9 := by kernel_rfl
 c20 := by kernel_rfl
 c21 := by kernel_rfl
 c37 := by kernel_rfl
 c46 := by kernel_rfl
 c51 := by kernel_rfl
 c53 := by kernel_rfl
 c75 := by kernel_rfl
 c76 := by kernel_rfl
 c80 := by kernel_rfl
 c85 := by kernel_rfl
 c127 := by kernel_rfl
 c143 := by kernel_rfl
 c145 := by kernel_rfl
 c167 := by kernel_rfl
 c168 := by kernel_rfl
 c171 := by kernel_rfl
 c173 := by kernel_rfl
 c175 := by kernel_rfl
 c210 := by kernel_rfl
 c212 := by kernel_rfl
 c213 := by kernel_rfl
 c232 := by kernel_rfl
 c233 := by kernel_rfl

theorem atoi_ok (s : List UInt8) (hs : s.length <= 1099511627776) : FCalls Tryz.prog 30 [.s s] [] (RAtoi s) :=
 atoi_contract atoiLays (enters Tryz.func30 (by kernel_rfl) rfl) (by decide) (by decide) s hs
end Go.Proofs.YtcmdpggdaiinpaaGreatDoor
