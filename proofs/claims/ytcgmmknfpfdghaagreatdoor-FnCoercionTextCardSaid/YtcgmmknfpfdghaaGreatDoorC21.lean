/- A part of the library of this seat. -/
import Derived.Test.YtcgmmknfpfdghaaGreatDoorC20
set_option linter.unusedVariables false
set_option linter.unusedSimpArgs false
namespace Go.Proofs.YtcgmmknfpfdghaaGreatDoor
attribute [-simp] Go.Av.MCo.kind_mk Go.Av.MCo.tag_mk Go.Av.MCo.label_mk Go.Av.MCo.kids_mk Go.Av.astepJ Go.Av.relC Go.Av.relL Go.Av.relV Go.Av.relVs Go.Av.callJ Go.Av.IT.kind_v Go.Av.IT.kind_b Go.Av.IT.kind_p Go.Av.IT.name_v Go.Av.IT.name_b Go.Av.IT.name_p Go.Av.IT.kids_v Go.Av.IT.kids_b Go.Av.IT.kids_p Go.Av.eIT_len
open Go Go.Av
attribute [local irreducible] T ACalls TX EX LX Draws Some_ ACallsX eTy eTm MTy.kind MTy.kids MTm.kind MTm.name MTm.num MTm.ty MTm.fr MTm.label MTm.kids
attribute [local simp] eTy_def eTm_def
set_option maxHeartbeats 16000000
set_option maxRecDepth 8000
def itoaRen : Go.Shelf.Ren := ⟨fun n => match n with | 129 => 169 | 171 => 58 | 243 => 96 | 246 => 135 | 283 => 155 | 284 => 156 | 285 => 157 | 286 => 158 | 317 => 168 | 318 => 170 | 319 => 171 | 320 => 172 | 337 => 175 | 338 => 176 | _ => 0, fun n => match n with | 0 => 0 | 2 => 2 | 3 => 3 | 4 => 4 | 5 => 5 | 9 => 9 | 20 => 20 | 37 => 22 | 46 => 153 | 51 => 171 | 53 => 154 | 171 => 166 | 173 => 169 | 212 => 182 | 213 => 183 | 232 => 193 | 233 => 194 | _ => 0, fun n => match n with | 17 => 3 | 18 => 6 | 19 => 7 | _ => 0⟩
theorem itoaLays : Go.Proofs.LaysM.n171 Tryz.prog itoaRen where
 mixed := mixed
 f129 := by kernel_rfl
 f171 := by kernel_rfl
 f243 := by kernel_rfl
 f246 := by kernel_rfl
 f283 := by kernel_rfl
 f284 := by kernel_rfl
 f285 := by kernel_rfl
 f286 := by kernel_rfl
 f317 := by kernel_rfl
 f318 := by kernel_rfl
 f319 := by kernel_rfl
 f320 := by kernel_rfl
 f337 := by kernel_rfl
 f338 := by kernel_rfl
 t0 := by kernel_rfl
 a0 := by intro w; kernel_rfl
 z0 := by intro w; kernel_rfl
 v0 := by intro w; kernel_rfl
 t2 := by kernel_rfl
 a2 := by intro w; kernel_rfl
 z2 := by intro w; kernel_rfl
 v2 := by intro w; kernel_rfl
 t3 := by kernel_rfl
 a3 := by intro w; kernel_rfl
 z3 := by intro w; kernel_rfl
 v3 := by intro w; kernel_rfl
 t4 := by kernel_rfl
 a4 := by intro w; kernel_rfl
 z4 := by intro w; kernel_rfl
 v4 := by intro w; kernel_rfl
 t5 := by kernel_rfl
 a5 := by intro w; kernel_rfl
 z5 := by intro w; kernel_rfl
 v5 := by intro w; kernel_rfl
 t9 := by kernel_rfl
 a9 := by intro w; kernel_rfl
 z9 := by intro w; kernel_rfl
 v9 := by intro w; kernel_rfl
 t20 := by kernel_rfl
 a20 := by intro w; kernel_rfl
 z20 := by intro w; kernel_rfl
 v20 := by intro w; kernel_rfl
 t37 := by kernel_rfl
 a37 := by intro w; kernel_rfl
 z37 := by intro w; kernel_rfl
 v37 := by intro w; kernel_rfl
 t46 := by kernel_rfl
 a46 := by intro w; kernel_rfl
 z46 := by intro w; kernel_rfl
 v46 := by intro w; kernel_rfl
 t51 := by kernel_rfl
 a51 := by intro w; kernel_rfl
 z51 := by intro w; kernel_rfl
 v51 := by intro w; kernel_rfl
 t53 := by kernel_rfl
 a53 := by intro w; kernel_rfl
 z53 := by intro w; kernel_rfl
 v53 := by intro w; kernel_rfl
 t171 := by kernel_rfl
 a171 := by intro w; kernel_rfl
 z171 := by intro w; kernel_rfl
 v171 := by intro w; kernel_rfl
 t173 := by kernel_rfl
 a173 := by intro w; kernel_rfl
 z173 := by intro w; kernel_rfl
 v173 := by intro w; kernel_rfl
 t212 := by kernel_rfl
 a212 := by intro w; kernel_rfl
 z212 := by intro w; kernel_rfl
 v212 := by intro w; kernel_rfl
 t213 := by kernel_rfl
 a213 := by intro w; kernel_rfl
 z213 := by intro w; kernel_rfl
 t232 := by kernel_rfl
 a232 := by intro w; kernel_rfl
 z232 := by intro w; kernel_rfl
 v232 := by intro w; kernel_rfl
 t233 := by kernel_rfl
 a233 := by intro w; kernel_rfl
 z233 := by intro w; kernel_rfl
 v233 := by intro w; kernel_rfl
 g17 := by kernel_rfl
 g18 := by kernel_rfl
 g19 := by kernel_rfl
 i0 := by kernel_rfl
 i2 := by kernel_rfl
 i3 := by kernel_rfl
 i4 := by kernel_rfl
 i5 := by kernel_rfl
 i9 := by kernel_rfl
 i20 := by kernel_rfl
 i37 := by kernel_rfl
 i46 := by kernel_rfl
 i51 := by kernel_rfl
 i53 := by kernel_rfl
 i171 := by kernel_rfl
 i173 := by kernel_rfl
 i212 := by kernel_rfl
 i232 := by kernel_rfl
 i233 := by kernel_rfl
 m17 := by kernel_rfl
 m18 := by kernel_rfl
 m19 := by kernel_rfl
theorem Itoa_ok (n : Int) (h0 : -9223372036854775808 <= n) (h1 : n <= 9223372036854775807) : ACalls Tryz.prog 58 [.i n] [] (.s (Lib.itoa n)) [] [] :=
 itoa_contract (ρ := itoaRen) itoaLays (enters Tryz.func58 (by kernel_rfl) rfl) (k := 3) rfl (by kernel_rfl) n h0 h1
end Go.Proofs.YtcgmmknfpfdghaaGreatDoor

namespace Go.Proofs.YtcgmmknfpfdghaaGreatDoor
attribute [-simp] Go.Av.MCo.kind_mk Go.Av.MCo.tag_mk Go.Av.MCo.label_mk Go.Av.MCo.kids_mk Go.Av.astepJ Go.Av.relC Go.Av.relL Go.Av.relV Go.Av.relVs Go.Av.callJ Go.Av.IT.kind_v Go.Av.IT.kind_b Go.Av.IT.kind_p Go.Av.IT.name_v Go.Av.IT.name_b Go.Av.IT.name_p Go.Av.IT.kids_v Go.Av.IT.kids_b Go.Av.IT.kids_p Go.Av.eIT_len
open Go Go.Av
attribute [local irreducible] T ACalls TX EX LX Draws Some_ ACallsX eTy eTm MTy.kind MTy.kids MTm.kind MTm.name MTm.num MTm.ty MTm.fr MTm.label MTm.kids
attribute [local simp] eTy_def eTm_def
set_option maxHeartbeats 16000000
set_option maxRecDepth 8000

theorem sign_ok {k : Int} (h1 : 1 <= k) (h5 : k <= 5) : ACalls Tryz.prog 66 [.i k] [] (.s [signB k]) [] [] := by
 have hk : k = 1 \/ k = 2 \/ k = 3 \/ k = 4 \/ k = 5 := by omega
 have hw : ∀ z : Int, 0 <= z -> z <= 5 -> IntKind.i64.wrap z = z := fun z h1 h2 => wrap64 (by omega) (by omega)
 have w0 := hw 0 (by omega) (by omega)
 have w1 := hw 1 (by omega) (by omega)
 have w2 := hw 2 (by omega) (by omega)
 have w3 := hw 3 (by omega) (by omega)
 have w4 := hw 4 (by omega) (by omega)
 have w5 := hw 5 (by omega) (by omega)
 rcases hk with rfl | rfl | rfl | rfl | rfl
 ·refine ACalls.of_body Tryz.func66 (by kernel_rfl) rfl (by kernel_rfl) (by simp [Tryz.ntmps66]) (by simp) ?_
  rw [Tryz.ntmps66]
  repeat' first | ((first | refine aops_end (hK _ ?_) | refine aopsD_end (hK _ ?_) | refine aopsF_end (hK _ ?_)); clear hK K) | ((first | refine aops_go ?_ | refine aopsD_go ?_ | refine aopsF_go ?_); simp [w0, w1, w2, w3, w4, w5]; (try (refine gen2 ?_ ?_ <;> intro hq <;> try simp [w0, w1, w2, w3, w4, w5] at hq))) | (refine T.ret (Done.data (Or.inr rfl) ?_ ?_) <;> simp [Tryz.results66, signB] <;> omega) | refine T.r0 fun K hK => ?_ | refine T.r1 fun K hK => ?_ | (refine ⟨by omega, ?_⟩) | refine T.ct rfl ?_ | refine T.cf rfl ?_ | refine T.seq ?_ | refine T.block ?_ | refine T.skip ?_ | refine T.exit ?_
 ·refine ACalls.of_body Tryz.func66 (by kernel_rfl) rfl (by kernel_rfl) (by simp [Tryz.ntmps66]) (by simp) ?_
  rw [Tryz.ntmps66]
  repeat' first | ((first | refine aops_end (hK _ ?_) | refine aopsD_end (hK _ ?_) | refine aopsF_end (hK _ ?_)); clear hK K) | ((first | refine aops_go ?_ | refine aopsD_go ?_ | refine aopsF_go ?_); simp [w0, w1, w2, w3, w4, w5]; (try (refine gen2 ?_ ?_ <;> intro hq <;> try simp [w0, w1, w2, w3, w4, w5] at hq))) | (refine T.ret (Done.data (Or.inr rfl) ?_ ?_) <;> simp [Tryz.results66, signB] <;> omega) | refine T.r0 fun K hK => ?_ | refine T.r1 fun K hK => ?_ | (refine ⟨by omega, ?_⟩) | refine T.ct rfl ?_ | refine T.cf rfl ?_ | refine T.seq ?_ | refine T.block ?_ | refine T.skip ?_ | refine T.exit ?_
 ·refine ACalls.of_body Tryz.func66 (by kernel_rfl) rfl (by kernel_rfl) (by simp [Tryz.ntmps66]) (by simp) ?_
  rw [Tryz.ntmps66]
  repeat' first | ((first | refine aops_end (hK _ ?_) | refine aopsD_end (hK _ ?_) | refine aopsF_end (hK _ ?_)); clear hK K) | ((first | refine aops_go ?_ | refine aopsD_go ?_ | refine aopsF_go ?_); simp [w0, w1, w2, w3, w4, w5]; (try (refine gen2 ?_ ?_ <;> intro hq <;> try simp [w0, w1, w2, w3, w4, w5] at hq))) | (refine T.ret (Done.data (Or.inr rfl) ?_ ?_) <;> simp [Tryz.results66, signB] <;> omega) | refine T.r0 fun K hK => ?_ | refine T.r1 fun K hK => ?_ | (refine ⟨by omega, ?_⟩) | refine T.ct rfl ?_ | refine T.cf rfl ?_ | refine T.seq ?_ | refine T.block ?_ | refine T.skip ?_ | refine T.exit ?_
 ·refine ACalls.of_body Tryz.func66 (by kernel_rfl) rfl (by kernel_rfl) (by simp [Tryz.ntmps66]) (by simp) ?_
  rw [Tryz.ntmps66]
  repeat' first | ((first | refine aops_end (hK _ ?_) | refine aopsD_end (hK _ ?_) | refine aopsF_end (hK _ ?_)); clear hK K) | ((first | refine aops_go ?_ | refine aopsD_go ?_ | refine aopsF_go ?_); simp [w0, w1, w2, w3, w4, w5]; (try (refine gen2 ?_ ?_ <;> intro hq <;> try simp [w0, w1, w2, w3, w4, w5] at hq))) | (refine T.ret (Done.data (Or.inr rfl) ?_ ?_) <;> simp [Tryz.results66, signB] <;> omega) | refine T.r0 fun K hK => ?_ | refine T.r1 fun K hK => ?_ | (refine ⟨by omega, ?_⟩) | refine T.ct rfl ?_ | refine T.cf rfl ?_ | refine T.seq ?_ | refine T.block ?_ | refine T.skip ?_ | refine T.exit ?_
 ·refine ACalls.of_body Tryz.func66 (by kernel_rfl) rfl (by kernel_rfl) (by simp [Tryz.ntmps66]) (by simp) ?_
  rw [Tryz.ntmps66]
  repeat' first | ((first | refine aops_end (hK _ ?_) | refine aopsD_end (hK _ ?_) | refine aopsF_end (hK _ ?_)); clear hK K) | ((first | refine aops_go ?_ | refine aopsD_go ?_ | refine aopsF_go ?_); simp [w0, w1, w2, w3, w4, w5]; (try (refine gen2 ?_ ?_ <;> intro hq <;> try simp [w0, w1, w2, w3, w4, w5] at hq))) | (refine T.ret (Done.data (Or.inr rfl) ?_ ?_) <;> simp [Tryz.results66, signB] <;> omega) | refine T.r0 fun K hK => ?_ | refine T.r1 fun K hK => ?_ | (refine ⟨by omega, ?_⟩) | refine T.ct rfl ?_ | refine T.cf rfl ?_ | refine T.seq ?_ | refine T.block ?_ | refine T.skip ?_ | refine T.exit ?_

@[simp] theorem td_u8x : td Tryz.prog 5 = some { ag := false, sz := 1, by_ := 1, zero := some [.d (.int .u8 0)], el := none, ar := none, fl := [], ik := some .u8, isS := false, isB := false } := keep (by kernel_rfl)
@[simp] theorem td_u8Sx : td Tryz.prog 22 = some { ag := false, sz := 1, by_ := 24, zero := some [.nil], el := some 5, ar := none, fl := [], ik := none, isS := false, isB := false } := keep (by kernel_rfl)
theorem l18DecN_ok (n : Nat) (hn : n <= 1099511627776) : ACalls Tryz.prog 33 [.i n] [] (.s (Lib.decDigits n)) [] [] := by
 have hlo : ¬ (n : Int) < -9223372036854775807 := by omega
 have hn0 : ¬ (n : Int) < 0 := by omega
 refine ACalls.of_body Tryz.func33 (by kernel_rfl) rfl (by kernel_rfl) (by simp [Tryz.ntmps33]) (by simp) ?_
 rw [Tryz.ntmps33]
 repeat' first | ((first | refine aops_end (hK _ ?_) | refine aopsD_end (hK _ ?_) | refine aopsF_end (hK _ ?_)); clear hK K) | ((first | refine aops_go ?_ | refine aopsD_go ?_ | refine aopsF_go ?_); simp [hlo, hn0]; (try (refine gen2 ?_ ?_ <;> intro hq <;> (try simp [hlo, hn0] at hq) <;> try (have : True := hq; clear this hq)))) | refine T.r0 fun K hK => ?_ | refine T.r1 fun K hK => ?_ | (refine ⟨by omega, ?_⟩) | refine T.ct rfl ?_ | refine T.cf rfl ?_ | refine T.seq ?_ | refine T.block ?_ | refine T.skip ?_ | refine T.exit ?_
 refine T.loopK (α := Nat × List UInt8) [2] (fun x => [(0, .i x.1), (3, .s x.2)]) (fun x => []) (fun x => []) (fun x A => A) (fun x => x.1 + 1) (fun x => Lib.decDigits x.1 ++ x.2 = Lib.decDigits n /\ x.1 <= n /\ x.2.length + x.1 <= n) (by simp; rfl) (fun x hx => ?_) (n, []) (by simp) (by simp) (by simp) (by simp)
 obtain ⟨m, out⟩ := x
 obtain ⟨h1, h2, h3⟩ := hx
 dsimp only at h1 h2 h3 ⊢
 simp only [ups, List.set_cons_zero, List.set_cons_succ, List.cons_append, List.nil_append, List.append_nil]
 have key : ∀ k : Nat, k <= 9 -> ∃ z : Int, IntKind.i64.wrap (48 + (k : Int)) = z /\ IntKind.u8.wrap z = z /\ 0 <= z /\ z < 256 /\ UInt8.ofNat z.toNat = UInt8.ofNat (48 + k) := fun k hk => by
  refine ⟨((48 + k : Nat) : Int), ?_, wrap8 (by omega), by omega, by omega, by rw [Int.toNat_natCast]⟩
  rw [wrap64 (by omega) (by omega)]; omega
 by_cases hlt : 9 < m
 ·have hlt' : (9 : Int) < (m : Int) := by omega
  obtain ⟨q, hq⟩ : ∃ q, m / 10 = q := ⟨_, rfl⟩
  obtain ⟨r, hr⟩ : ∃ r, m % 10 = r := ⟨_, rfl⟩
  have hr9 : r <= 9 := by omega
  obtain ⟨z, z1, z2, z3, z4, z5⟩ := key r hr9
  have e1 : (m : Int).tmod 10 = (r : Int) := by rw [Int.tmod_eq_emod_of_nonneg (by omega)]; omega
  have e2 : (m : Int).tdiv 10 = (q : Int) := by rw [Int.tdiv_eq_ediv_of_nonneg (by omega)]; omega
  have hstep := decDigits_step hlt
  rw [hq, hr] at hstep
  rw [hstep] at h1
  obtain ⟨c, hc⟩ : ∃ c, UInt8.ofNat (48 + r) = c := ⟨_, rfl⟩
  rw [hc] at h1 z5
  repeat' first | ((first | refine aops_end (hK _ ?_) | refine aopsD_end (hK _ ?_) | refine aopsF_end (hK _ ?_)); clear hK K) | ((first | refine aops_go ?_ | refine aopsD_go ?_ | refine aopsF_go ?_); simp [hlt', hlt, e1, e2, z1, z2, z3, z4, z5, bytesOf, byteOfRow]; (try simp (disch := omega) only [wrap64, catLe]); (try (refine gen2 ?_ ?_ <;> intro hq <;> (try simp [hlt', hlt, e1, e2, z1, z2, z3, z4, z5, bytesOf, byteOfRow] at hq) <;> try (have : True := hq; clear this hq)))) | refine T.r0 fun K hK => ?_ | refine T.r1 fun K hK => ?_ | (refine ⟨by omega, ?_⟩) | refine T.ct rfl ?_ | refine T.cf rfl ?_ | refine T.seq ?_ | refine T.block ?_ | refine T.skip ?_ | refine T.exit ?_
  refine ⟨(q, c :: out), by dsimp only; omega, ⟨by simpa using h1, by dsimp only; omega, by simp only [List.length_cons]; omega⟩, rfl, ?_, ?_⟩ <;> simp [e2, hlt']
 ·have hlt' : ¬ (9 : Int) < (m : Int) := by omega
  obtain ⟨z, z1, z2, z3, z4, z5⟩ := key m (by omega)
  rw [decDigits_small (by omega)] at h1
  obtain ⟨c, hc⟩ : ∃ c, UInt8.ofNat (48 + m) = c := ⟨_, rfl⟩
  rw [hc] at h1 z5
  repeat' first | ((first | refine aops_end (hK _ ?_) | refine aopsD_end (hK _ ?_) | refine aopsF_end (hK _ ?_)); clear hK K) | ((first | refine aops_go ?_ | refine aopsD_go ?_ | refine aopsF_go ?_); simp [hlt', hlt, z1, z2, z3, z4, z5, bytesOf, byteOfRow]; (try simp (disch := omega) only [wrap64, catLe]); (try (refine gen2 ?_ ?_ <;> intro hq <;> (try simp [hlt', hlt, z1, z2, z3, z4, z5, bytesOf, byteOfRow] at hq) <;> try (have : True := hq; clear this hq)))) | (refine T.ret (Done.data (Or.inr rfl) ?_ ?_) <;> simp [Tryz.results33, <- h1] <;> omega) | refine T.r0 fun K hK => ?_ | refine T.r1 fun K hK => ?_ | (refine ⟨by omega, ?_⟩) | refine T.ct rfl ?_ | refine T.cf rfl ?_ | refine T.seq ?_ | refine T.block ?_ | refine T.skip ?_ | refine T.exit ?_

end Go.Proofs.YtcgmmknfpfdghaaGreatDoor

namespace Go.Proofs.YtcgmmknfpfdghaaGreatDoor
attribute [-simp] Go.Av.astepJ Go.Av.relC Go.Av.relL Go.Av.relV Go.Av.relVs Go.Av.callJ Go.Av.IT.kind_v Go.Av.IT.kind_b Go.Av.IT.kind_p Go.Av.IT.name_v Go.Av.IT.name_b Go.Av.IT.name_p Go.Av.IT.kids_v Go.Av.IT.kids_b Go.Av.IT.kids_p Go.Av.eIT_len
open Go Go.Av
attribute [local irreducible] T ACalls TX EX LX Draws Some_ ACallsX eTy eTm MTy.kind MTy.kids MTm.kind MTm.name MTm.num MTm.ty MTm.fr MTm.label MTm.kids
attribute [local simp] eTy_def eTm_def
set_option maxHeartbeats 16000000
set_option maxRecDepth 8000
attribute [local irreducible] eCo MCo.kind MCo.tag MCo.label MCo.kids
attribute [local simp] eCo_def

theorem coOperands_ok (k : Int) : ACalls Tryz.prog 74 [.i k] [] (.i (coKidsM k)) [] [] := by
 have hw : ∀ z : Int, 0 <= z -> z <= 6 -> IntKind.i64.wrap z = z := fun z h1 h2 => wrap64 (by omega) (by omega)
 have w0 := hw 0 (by omega) (by omega)
 have w1 := hw 1 (by omega) (by omega)
 have w2 := hw 2 (by omega) (by omega)
 have w3 := hw 3 (by omega) (by omega)
 have w4 := hw 4 (by omega) (by omega)
 have w5 := hw 5 (by omega) (by omega)
 have h1 := inM_ok k 1 6
 by_cases h : 1 <= k /\ k <= 6
 ·rw [show inM k 1 6 = true by simp [inM]; omega] at h1
  have hr : k = 1 \/ k = 2 \/ k = 3 \/ k = 4 \/ k = 5 \/ k = 6 := by omega
  rcases hr with rfl | rfl | rfl | rfl | rfl | rfl
  ·refine ACalls.of_body Tryz.func74 (by kernel_rfl) rfl (by kernel_rfl) (by simp [Tryz.ntmps74]) (by simp) ?_
   rw [Tryz.ntmps74]
   repeat' first | ((first | refine aops_end (hK _ ?_) | refine aopsD_end (hK _ ?_) | refine aopsF_end (hK _ ?_)); clear hK K) | ((first | refine aops_go ?_ | refine aopsD_go ?_ | refine aopsF_go ?_ | refine wpcall_pure rfl (h1) ?_); simp [w0, w1, w2, w3, w4, w5]; (try (refine gen2 ?_ ?_ <;> intro hq <;> try simp [w0, w1, w2, w3, w4, w5] at hq))) | (refine T.ret (Done.data (Or.inr rfl) ?_ ?_) <;> simp [Tryz.results74, coKidsM] <;> omega) | refine T.r0 fun K hK => ?_ | refine T.r1 fun K hK => ?_ | (refine ⟨by omega, ?_⟩) | refine T.ct rfl ?_ | refine T.cf rfl ?_ | refine T.seq ?_ | refine T.block ?_ | refine T.skip ?_ | refine T.exit ?_
  ·refine ACalls.of_body Tryz.func74 (by kernel_rfl) rfl (by kernel_rfl) (by simp [Tryz.ntmps74]) (by simp) ?_
   rw [Tryz.ntmps74]
   repeat' first | ((first | refine aops_end (hK _ ?_) | refine aopsD_end (hK _ ?_) | refine aopsF_end (hK _ ?_)); clear hK K) | ((first | refine aops_go ?_ | refine aopsD_go ?_ | refine aopsF_go ?_ | refine wpcall_pure rfl (h1) ?_); simp [w0, w1, w2, w3, w4, w5]; (try (refine gen2 ?_ ?_ <;> intro hq <;> try simp [w0, w1, w2, w3, w4, w5] at hq))) | (refine T.ret (Done.data (Or.inr rfl) ?_ ?_) <;> simp [Tryz.results74, coKidsM] <;> omega) | refine T.r0 fun K hK => ?_ | refine T.r1 fun K hK => ?_ | (refine ⟨by omega, ?_⟩) | refine T.ct rfl ?_ | refine T.cf rfl ?_ | refine T.seq ?_ | refine T.block ?_ | refine T.skip ?_ | refine T.exit ?_
  ·refine ACalls.of_body Tryz.func74 (by kernel_rfl) rfl (by kernel_rfl) (by simp [Tryz.ntmps74]) (by simp) ?_
   rw [Tryz.ntmps74]
   repeat' first | ((first | refine aops_end (hK _ ?_) | refine aopsD_end (hK _ ?_) | refine aopsF_end (hK _ ?_)); clear hK K) | ((first | refine aops_go ?_ | refine aopsD_go ?_ | refine aopsF_go ?_ | refine wpcall_pure rfl (h1) ?_); simp [w0, w1, w2, w3, w4, w5]; (try (refine gen2 ?_ ?_ <;> intro hq <;> try simp [w0, w1, w2, w3, w4, w5] at hq))) | (refine T.ret (Done.data (Or.inr rfl) ?_ ?_) <;> simp [Tryz.results74, coKidsM] <;> omega) | refine T.r0 fun K hK => ?_ | refine T.r1 fun K hK => ?_ | (refine ⟨by omega, ?_⟩) | refine T.ct rfl ?_ | refine T.cf rfl ?_ | refine T.seq ?_ | refine T.block ?_ | refine T.skip ?_ | refine T.exit ?_
  ·refine ACalls.of_body Tryz.func74 (by kernel_rfl) rfl (by kernel_rfl) (by simp [Tryz.ntmps74]) (by simp) ?_
   rw [Tryz.ntmps74]
   repeat' first | ((first | refine aops_end (hK _ ?_) | refine aopsD_end (hK _ ?_) | refine aopsF_end (hK _ ?_)); clear hK K) | ((first | refine aops_go ?_ | refine aopsD_go ?_ | refine aopsF_go ?_ | refine wpcall_pure rfl (h1) ?_); simp [w0, w1, w2, w3, w4, w5]; (try (refine gen2 ?_ ?_ <;> intro hq <;> try simp [w0, w1, w2, w3, w4, w5] at hq))) | (refine T.ret (Done.data (Or.inr rfl) ?_ ?_) <;> simp [Tryz.results74, coKidsM] <;> omega) | refine T.r0 fun K hK => ?_ | refine T.r1 fun K hK => ?_ | (refine ⟨by omega, ?_⟩) | refine T.ct rfl ?_ | refine T.cf rfl ?_ | refine T.seq ?_ | refine T.block ?_ | refine T.skip ?_ | refine T.exit ?_
  ·refine ACalls.of_body Tryz.func74 (by kernel_rfl) rfl (by kernel_rfl) (by simp [Tryz.ntmps74]) (by simp) ?_
   rw [Tryz.ntmps74]
   repeat' first | ((first | refine aops_end (hK _ ?_) | refine aopsD_end (hK _ ?_) | refine aopsF_end (hK _ ?_)); clear hK K) | ((first | refine aops_go ?_ | refine aopsD_go ?_ | refine aopsF_go ?_ | refine wpcall_pure rfl (h1) ?_); simp [w0, w1, w2, w3, w4, w5]; (try (refine gen2 ?_ ?_ <;> intro hq <;> try simp [w0, w1, w2, w3, w4, w5] at hq))) | (refine T.ret (Done.data (Or.inr rfl) ?_ ?_) <;> simp [Tryz.results74, coKidsM] <;> omega) | refine T.r0 fun K hK => ?_ | refine T.r1 fun K hK => ?_ | (refine ⟨by omega, ?_⟩) | refine T.ct rfl ?_ | refine T.cf rfl ?_ | refine T.seq ?_ | refine T.block ?_ | refine T.skip ?_ | refine T.exit ?_
  ·refine ACalls.of_body Tryz.func74 (by kernel_rfl) rfl (by kernel_rfl) (by simp [Tryz.ntmps74]) (by simp) ?_
   rw [Tryz.ntmps74]
   repeat' first | ((first | refine aops_end (hK _ ?_) | refine aopsD_end (hK _ ?_) | refine aopsF_end (hK _ ?_)); clear hK K) | ((first | refine aops_go ?_ | refine aopsD_go ?_ | refine aopsF_go ?_ | refine wpcall_pure rfl (h1) ?_); simp [w0, w1, w2, w3, w4, w5]; (try (refine gen2 ?_ ?_ <;> intro hq <;> try simp [w0, w1, w2, w3, w4, w5] at hq))) | (refine T.ret (Done.data (Or.inr rfl) ?_ ?_) <;> simp [Tryz.results74, coKidsM] <;> omega) | refine T.r0 fun K hK => ?_ | refine T.r1 fun K hK => ?_ | (refine ⟨by omega, ?_⟩) | refine T.ct rfl ?_ | refine T.cf rfl ?_ | refine T.seq ?_ | refine T.block ?_ | refine T.skip ?_ | refine T.exit ?_
 ·rw [show inM k 1 6 = false by simp [inM]; omega] at h1
  have hk : coKidsM k = -1 := by simp only [coKidsM]; rw [if_neg (by omega), if_neg (by omega), if_neg (by omega)]
  rw [hk]
  refine ACalls.of_body Tryz.func74 (by kernel_rfl) rfl (by kernel_rfl) (by simp [Tryz.ntmps74]) (by simp) ?_
  rw [Tryz.ntmps74]
  repeat' first | ((first | refine aops_end (hK _ ?_) | refine aopsD_end (hK _ ?_) | refine aopsF_end (hK _ ?_)); clear hK K) | ((first | refine aops_go ?_ | refine aopsD_go ?_ | refine aopsF_go ?_ | refine wpcall_pure rfl (h1) ?_); simp; (try (refine gen2 ?_ ?_ <;> intro hq <;> try simp at hq))) | (refine T.ret (Done.data (Or.inr rfl) ?_ ?_) <;> simp [Tryz.results74] <;> omega) | refine T.r0 fun K hK => ?_ | refine T.r1 fun K hK => ?_ | (refine ⟨by omega, ?_⟩) | refine T.ct rfl ?_ | refine T.cf rfl ?_ | refine T.seq ?_ | refine T.block ?_ | refine T.skip ?_ | refine T.exit ?_

theorem coPlain_ok (c : MCo) : ACalls Tryz.prog 76 [aCo c] [] (.b (groundCo c)) [] [] := by
 refine ACalls.of_body Tryz.func76 (by kernel_rfl) rfl (by kernel_rfl) (by simp [Tryz.ntmps76]) (by simp) ?_
 rw [Tryz.ntmps76]
 repeat' first | ((first | refine aops_end (hK _ ?_) | refine aopsD_end (hK _ ?_) | refine aopsF_end (hK _ ?_)); clear hK K) | ((first | refine aops_go ?_ | refine aopsD_go ?_ | refine aopsF_go ?_); simp; (try (refine gen2 ?_ ?_ <;> intro hq <;> try simp at hq))) | (refine T.ret (Done.data (Or.inr rfl) ?_ ?_) <;> simp [Tryz.results76, groundCo, *] <;> omega) | refine T.r0 fun K hK => ?_ | refine T.r1 fun K hK => ?_ | (refine ⟨by omega, ?_⟩) | refine T.ct rfl ?_ | refine T.cf rfl ?_ | refine T.seq ?_ | refine T.block ?_ | refine T.skip ?_ | refine T.exit ?_

theorem coAny_ok (c : MCo) : ACalls Tryz.prog 77 [aCo c] [] (.b (anyCo c)) [] [] := by
 refine ACalls.of_body Tryz.func77 (by kernel_rfl) rfl (by kernel_rfl) (by simp [Tryz.ntmps77]) (by simp) ?_
 rw [Tryz.ntmps77]
 repeat' first | ((first | refine aops_end (hK _ ?_) | refine aopsD_end (hK _ ?_) | refine aopsF_end (hK _ ?_)); clear hK K) | ((first | refine aops_go ?_ | refine aopsD_go ?_ | refine aopsF_go ?_); simp; (try (refine gen2 ?_ ?_ <;> intro hq <;> try simp at hq))) | (refine T.ret (Done.data (Or.inr rfl) ?_ ?_) <;> simp [Tryz.results77, anyCo, *] <;> omega) | refine T.r0 fun K hK => ?_ | refine T.r1 fun K hK => ?_ | (refine ⟨by omega, ?_⟩) | refine T.ct rfl ?_ | refine T.cf rfl ?_ | refine T.seq ?_ | refine T.block ?_ | refine T.skip ?_ | refine T.exit ?_

theorem l6Ground_ok (c : MCo) : ACalls Tryz.prog 80 [aCo c] [] (.b (groundCo c)) [] [] := by
 refine ACalls.of_body Tryz.func80 (by kernel_rfl) rfl (by kernel_rfl) (by simp [Tryz.ntmps80]) (by simp) ?_
 rw [Tryz.ntmps80]
 repeat' first | ((first | refine aops_end (hK _ ?_) | refine aopsD_end (hK _ ?_) | refine aopsF_end (hK _ ?_)); clear hK K) | ((first | refine aops_go ?_ | refine aopsD_go ?_ | refine aopsF_go ?_); simp; (try (refine gen2 ?_ ?_ <;> intro hq <;> try simp at hq))) | (refine T.ret (Done.data (Or.inr rfl) ?_ ?_) <;> simp [Tryz.results80, groundCo, *] <;> omega) | refine T.r0 fun K hK => ?_ | refine T.r1 fun K hK => ?_ | (refine ⟨by omega, ?_⟩) | refine T.ct rfl ?_ | refine T.cf rfl ?_ | refine T.seq ?_ | refine T.block ?_ | refine T.skip ?_ | refine T.exit ?_

theorem l6Label_ok (n : Int) : ACalls Tryz.prog 81 [.i n] [] (.b (labM n)) [] [] := by
 generalize hm : (if n < -99 \/ 99 < n then 0 else if n < 0 then -n else n) = m
 have hl : labM n = decide (1 <= m) := by
  simp only [labM, inM, <- Bool.decide_and, <- Bool.decide_or]
  refine decide_eq_decide.2 ?_
  rw [<- hm]
  split <;> (try split) <;> omega
 have habs := l1Abs_ok n
 rw [hm] at habs
 rw [hl]
 refine ACalls.of_body Tryz.func81 (by kernel_rfl) rfl (by kernel_rfl) (by simp [Tryz.ntmps81]) (by simp) ?_
 rw [Tryz.ntmps81]
 repeat' first | ((first | refine aops_end (hK _ ?_) | refine aopsD_end (hK _ ?_) | refine aopsF_end (hK _ ?_)); clear hK K) | ((first | refine aops_go ?_ | refine aopsD_go ?_ | refine aopsF_go ?_ | refine wpcall_pure rfl (habs) ?_); simp; (try (refine gen2 ?_ ?_ <;> intro hq <;> try simp at hq))) | (refine T.ret (Done.data (Or.inr rfl) ?_ ?_) <;> simp [Tryz.results81, *] <;> omega) | refine T.r0 fun K hK => ?_ | refine T.r1 fun K hK => ?_ | (refine ⟨by omega, ?_⟩) | refine T.ct rfl ?_ | refine T.cf rfl ?_ | refine T.seq ?_ | refine T.block ?_ | refine T.skip ?_ | refine T.exit ?_

theorem indexFuncCo_1 (f : FuncId) (d : DV) (l : List MCo) (q : MCo -> Bool) (hl : l.length <= 4611686018427387904) (hf : ∀ t ∈ l, ACalls Tryz.prog f [aCo t, .c (.ptr 0 0)] (dV [[d]]) (.b (q t)) (dV [[d]]) []) :
  ACalls Tryz.prog 109 [.l (l.map eCo), .c (.fn f [0])] (dV [[d]]) (.i (firstIx q l 0)) (dV [[d]]) [] := by
 refine ACalls.of_body Tryz.func109 (by kernel_rfl) rfl (by kernel_rfl) (by simp [Tryz.ntmps109]) (by simp) ?_
 rw [Tryz.ntmps109]
 repeat' first | ((first | refine aops_end (hK _ ?_) | refine aopsD_end (hK _ ?_) | refine aopsF_end (hK _ ?_)); clear hK K) | ((first | refine aops_go ?_ | refine aopsD_go ?_ | refine aopsF_go ?_); simp; (try (refine gen2 ?_ ?_ <;> intro hq <;> try simp at hq))) | refine T.r0 fun K hK => ?_ | refine T.r1 fun K hK => ?_ | (refine ⟨by omega, ?_⟩) | refine T.ct rfl ?_ | refine T.cf rfl ?_ | refine T.seq ?_ | refine T.block ?_ | refine T.skip ?_ | refine T.exit ?_
 obtain ⟨R, hR⟩ : ∃ R, firstIx q l 0 = R := ⟨_, rfl⟩
 rw [hR]
 refine T.loopF (fun p : Nat => ⟨[(0, .l (l.map eCo)), (1, .c (.fn f [0])), (7, .i l.length), (8, .i p)], [[.d d]], []⟩) (fun p => l.length + 1 - p) (fun p => p <= l.length /\ firstIx q (l.drop p) p = R) (fun p hp => ?_) 0 (by simpa using hR) (by simp)
 obtain ⟨hi, he⟩ := hp
 by_cases hlt : p < l.length
 ·obtain ⟨u, ht⟩ := get_lt hlt
  have htm : u ∈ l := List.mem_of_getElem? ht
  have hgt : l[p] = u := by rw [List.getElem?_eq_getElem hlt] at ht; exact Option.some.inj ht
  have hdr : l.drop p = u :: l.drop (p + 1) := by rw [List.drop_eq_getElem_cons hlt, hgt]
  have hu := hf u htm
  rw [hdr, firstIx] at he
  cases hb : q u <;> rw [hb] at hu he
  ·repeat' first | ((first | refine aops_end (hK _ ?_) | refine aopsD_end (hK _ ?_) | refine aopsF_end (hK _ ?_)); clear hK K) | ((first | refine aops_go ?_ | refine aopsD_go ?_ | refine aopsF_go ?_); simp [hlt, hgt]; (try simp (disch := omega) only [wrap64]); (try (refine gen2 ?_ ?_ <;> intro hq <;> try simp [hlt, hgt] at hq))) | (refine wpcall_obj1 0 [d] rfl rfl hu ?_; simp) | (refine ⟨p + 1, by dsimp only; omega, ⟨by omega, by simpa using he⟩, ?_⟩; simp (disch := omega) [wrap64]) | refine T.r0 fun K hK => ?_ | refine T.r1 fun K hK => ?_ | (refine ⟨by omega, ?_⟩) | refine T.ct rfl ?_ | refine T.cf rfl ?_ | refine T.seq ?_ | refine T.block ?_ | refine T.skip ?_ | refine T.exit ?_
  ·repeat' first | ((first | refine aops_end (hK _ ?_) | refine aopsD_end (hK _ ?_) | refine aopsF_end (hK _ ?_)); clear hK K) | ((first | refine aops_go ?_ | refine aopsD_go ?_ | refine aopsF_go ?_); simp [hlt, hgt]; (try simp (disch := omega) only [wrap64]); (try (refine gen2 ?_ ?_ <;> intro hq <;> try simp [hlt, hgt] at hq))) | (refine wpcall_obj1 0 [d] rfl rfl hu ?_; simp) | refine T.r0 fun K hK => ?_ | refine T.r1 fun K hK => ?_ | (refine ⟨by omega, ?_⟩) | refine T.ct rfl ?_ | refine T.cf rfl ?_ | refine T.seq ?_ | refine T.block ?_ | refine T.skip ?_ | refine T.exit ?_
   refine T.ret (Done.obj1 (Or.inr rfl) ?_ ?_ ?_) <;> simp [Tryz.results109, <- he]
 ·have hp' : p = l.length := by omega
  subst hp'
  simp [firstIx] at he
  repeat' first | ((first | refine aops_end (hK _ ?_) | refine aopsD_end (hK _ ?_) | refine aopsF_end (hK _ ?_)); clear hK K) | ((first | refine aops_go ?_ | refine aopsD_go ?_ | refine aopsF_go ?_); simp [hlt]; (try (refine gen2 ?_ ?_ <;> intro hq <;> try simp [hlt] at hq))) | refine T.r0 fun K hK => ?_ | refine T.r1 fun K hK => ?_ | (refine ⟨by omega, ?_⟩) | refine T.ct rfl ?_ | refine T.cf rfl ?_ | refine T.seq ?_ | refine T.block ?_ | refine T.skip ?_ | refine T.exit ?_
  refine T.ret (Done.obj1 (Or.inr rfl) ?_ ?_ ?_) <;> simp [Tryz.results109, he]

theorem containsFuncCo_1 (f : FuncId) (d : DV) (l : List MCo) (q : MCo -> Bool) (hl : l.length <= 4611686018427387904) (hf : ∀ t ∈ l, ACalls Tryz.prog f [aCo t, .c (.ptr 0 0)] (dV [[d]]) (.b (q t)) (dV [[d]]) []) :
  ACalls Tryz.prog 78 [.l (l.map eCo), .c (.fn f [0])] (dV [[d]]) (.b (l.any q)) (dV [[d]]) [] := by
 refine ACalls.of_body Tryz.func78 (by kernel_rfl) rfl (by kernel_rfl) (by simp [Tryz.ntmps78]) (by simp) ?_
 rw [Tryz.ntmps78]
 rw [<- firstIx_any (i := 0) (by omega)]
 repeat' first | ((first | refine aops_end (hK _ ?_) | refine aopsD_end (hK _ ?_) | refine aopsF_end (hK _ ?_)); clear hK K) | ((first | (first | refine aops_go ?_ | refine aopsD_go ?_ | refine aopsF_go ?_) | refine wpcall_obj1 0 [d] rfl rfl (indexFuncCo_1 f d l q hl hf) ?_); simp; (try (refine gen2 ?_ ?_ <;> intro hq <;> try simp at hq))) | refine T.r0 fun K hK => ?_ | refine T.r1 fun K hK => ?_ | (refine ⟨by omega, ?_⟩) | refine T.ct rfl ?_ | refine T.cf rfl ?_ | refine T.seq ?_ | refine T.block ?_ | refine T.skip ?_ | refine T.exit ?_
 all_goals (refine T.ret (Done.obj1 (Or.inr rfl) ?_ ?_ ?_) <;> simp [Tryz.results78, *])

theorem equalFuncCo_0 (f : FuncId) (l m : List MCo) (q : MCo -> MCo -> Bool) (hl : l.length <= 4611686018427387904) (hf : ∀ a ∈ l, ∀ b ∈ m, ACalls Tryz.prog f [aCo a, aCo b] [] (.b (q a b)) [] []) :
  ACalls Tryz.prog 48 [.l (l.map eCo), .l (m.map eCo), .c (.fn f [])] [] (.b (all2 q l m)) [] [] := by
 refine ACalls.of_body Tryz.func48 (by kernel_rfl) rfl (by kernel_rfl) (by simp [Tryz.ntmps48]) (by simp) ?_
 rw [Tryz.ntmps48]
 by_cases hlm : l.length = m.length
 rotate_left
 ·have hne : ¬ (l.length : Int) = m.length := by omega
  repeat' first | ((first | refine aops_end (hK _ ?_) | refine aopsD_end (hK _ ?_)); clear hK K) | ((first | refine aops_go ?_ | refine aopsD_go ?_); simp [hne]; (try (refine gen2 ?_ ?_ <;> intro hq <;> try simp [hne] at hq))) | (refine T.ret (Done.data (Or.inr rfl) ?_ ?_) <;> simp [Tryz.results48, all2_ne hlm] <;> omega) | refine T.r0 fun K hK => ?_ | refine T.r1 fun K hK => ?_ | refine T.rd mixed (fun _ => false) [] (by kernel_rfl) fun K hK => ?_ | refine T.rd1 mixed (fun _ => false) [] (by kernel_rfl) fun K hK => ?_ | (refine ⟨by omega, ?_⟩) | refine T.ct rfl ?_ | refine T.cf rfl ?_ | refine T.seq ?_ | refine T.block ?_ | refine T.skip ?_ | refine T.exit ?_
 repeat' first | ((first | refine aops_end (hK _ ?_) | refine aopsD_end (hK _ ?_)); clear hK K) | ((first | refine aops_go ?_ | refine aopsD_go ?_); simp [hlm]; (try (refine gen2 ?_ ?_ <;> intro hq <;> try simp [hlm] at hq))) | refine T.r0 fun K hK => ?_ | refine T.r1 fun K hK => ?_ | refine T.rd mixed (fun _ => false) [] (by kernel_rfl) fun K hK => ?_ | refine T.rd1 mixed (fun _ => false) [] (by kernel_rfl) fun K hK => ?_ | (refine ⟨by omega, ?_⟩) | refine T.ct rfl ?_ | refine T.cf rfl ?_ | refine T.seq ?_ | refine T.block ?_ | refine T.skip ?_ | refine T.exit ?_
 obtain ⟨R, hR⟩ : ∃ R, all2 q l m = R := ⟨_, rfl⟩
 rw [hR]
 refine T.loopF (fun x : Nat × List (List CV) => ⟨[(0, .l (l.map eCo)), (1, .l (m.map eCo)), (2, .c (.fn f [])), (15, .l (l.map eCo)), (16, .i m.length), (17, .i x.1)], x.2, []⟩) (fun x => l.length + 1 - x.1) (fun x => x.1 <= l.length /\ all2 q (l.drop x.1) (m.drop x.1) = R) (fun x hp => ?_) (0, []) (by simpa using hR) (by simp)
 obtain ⟨p, G⟩ := x
 obtain ⟨hi, he⟩ := hp
 dsimp only at hi he ⊢
 by_cases hlt : p < l.length
 ·have hlt2 : p < m.length := by omega
  obtain ⟨u, ht⟩ := get_lt hlt
  have htm : u ∈ l := List.mem_of_getElem? ht
  have hgt : l[p] = u := by rw [List.getElem?_eq_getElem hlt] at ht; exact Option.some.inj ht
  have hdr : l.drop p = u :: l.drop (p + 1) := by rw [List.drop_eq_getElem_cons hlt, hgt]
  obtain ⟨v, hv⟩ := get_lt hlt2
  have hvm : v ∈ m := List.mem_of_getElem? hv
  have hgv : m[p] = v := by rw [List.getElem?_eq_getElem hlt2] at hv; exact Option.some.inj hv
  have hu := hf u htm v hvm
  rw [hdr, drop_cons hlt2, hgv, all2_cons] at he
  cases hb : q u v <;> rw [hb] at hu he
  ·repeat' first | ((first | refine aops_end (hK _ ?_) | refine aopsD_end (hK _ ?_)); clear hK K) | ((first | refine aops_go ?_ | refine aopsD_go ?_ | refine wpcall_pure rfl (hu) ?_); simp [hlt, hlt2, hgt, hgv]; (try simp (disch := omega) only [wrap64]); (try (refine gen2 ?_ ?_ <;> intro hq <;> try simp [hlt, hlt2, hgt, hgv] at hq))) | (refine T.ret (Done.data (Or.inr rfl) ?_ ?_) <;> simp [Tryz.results48, <- he] <;> omega) | refine T.r0 fun K hK => ?_ | refine T.r1 fun K hK => ?_ | refine T.rd mixed (fun _ => false) [] (by kernel_rfl) fun K hK => ?_ | refine T.rd1 mixed (fun _ => false) [] (by kernel_rfl) fun K hK => ?_ | (refine ⟨by omega, ?_⟩) | refine T.ct rfl ?_ | refine T.cf rfl ?_ | refine T.seq ?_ | refine T.block ?_ | refine T.skip ?_ | refine T.exit ?_
  ·repeat' first | ((first | refine aops_end (hK _ ?_) | refine aopsD_end (hK _ ?_)); clear hK K) | ((first | refine aops_go ?_ | refine aopsD_go ?_ | refine wpcall_pure rfl (hu) ?_); simp [hlt, hlt2, hgt, hgv]; (try simp (disch := omega) only [wrap64]); (try (refine gen2 ?_ ?_ <;> intro hq <;> try simp [hlt, hlt2, hgt, hgv] at hq))) | (refine ⟨(p + 1, _), by dsimp only; omega, ⟨by dsimp only; omega, by simpa using he⟩, rfl, rfl, ?_⟩; simp (disch := omega) [wrap64]) | refine T.r0 fun K hK => ?_ | refine T.r1 fun K hK => ?_ | refine T.rd mixed (fun _ => false) [] (by kernel_rfl) fun K hK => ?_ | refine T.rd1 mixed (fun _ => false) [] (by kernel_rfl) fun K hK => ?_ | (refine ⟨by omega, ?_⟩) | refine T.ct rfl ?_ | refine T.cf rfl ?_ | refine T.seq ?_ | refine T.block ?_ | refine T.skip ?_ | refine T.exit ?_
 ·have hp' : p = l.length := by omega
  subst hp'
  rw [List.drop_length, hlm, List.drop_length, all2_nil] at he
  repeat' first | ((first | refine aops_end (hK _ ?_) | refine aopsD_end (hK _ ?_)); clear hK K) | ((first | refine aops_go ?_ | refine aopsD_go ?_); simp [hlt, hlm]; (try (refine gen2 ?_ ?_ <;> intro hq <;> try simp [hlt, hlm] at hq))) | (refine T.ret (Done.data (Or.inr rfl) ?_ ?_) <;> simp [Tryz.results48, <- he] <;> omega) | refine T.r0 fun K hK => ?_ | refine T.r1 fun K hK => ?_ | refine T.rd mixed (fun _ => false) [] (by kernel_rfl) fun K hK => ?_ | refine T.rd1 mixed (fun _ => false) [] (by kernel_rfl) fun K hK => ?_ | (refine ⟨by omega, ?_⟩) | refine T.ct rfl ?_ | refine T.cf rfl ?_ | refine T.seq ?_ | refine T.block ?_ | refine T.skip ?_ | refine T.exit ?_

theorem CoercionSame_ok : (a b : MCo) -> nCo a <= 1099511627776 -> ACalls Tryz.prog 20 [aCo a, aCo b] [] (.b (sameCo a b)) [] []
 | .mk k t lb l, b, hn => by
  rw [nCo_def] at hn
  have hlen := nCoS_len l
  have hc := equalFuncCo_0 20 l b.kids sameCo (by simp at hn; omega) (fun u hu v hv => CoercionSame_ok u v (by have := nCoS_mem hu; simp at hn; omega))
  rw [sameCo_def]
  simp only [MCo.kids_mk, MCo.kind_mk, MCo.tag_mk, MCo.label_mk]
  generalize all2 sameCo l b.kids = R at hc ⊢
  refine ACalls.of_body Tryz.func20 (by kernel_rfl) rfl (by kernel_rfl) (by simp [Tryz.ntmps20]) (by simp) ?_
  rw [Tryz.ntmps20]
  repeat' first | ((first | refine aops_end (hK _ ?_) | refine aopsD_end (hK _ ?_) | refine aopsF_end (hK _ ?_)); clear hK K) | ((first | refine aops_go ?_ | refine aopsD_go ?_ | refine aopsF_go ?_ | refine wpcall_pure rfl (hc) ?_); simp; (try (refine gen2 ?_ ?_ <;> intro hq <;> try simp at hq))) | (refine T.ret (Done.data (Or.inr rfl) ?_ ?_) <;> simp [Tryz.results20, *] <;> omega) | refine T.r0 fun K hK => ?_ | refine T.r1 fun K hK => ?_ | (refine ⟨by omega, ?_⟩) | refine T.ct rfl ?_ | refine T.cf rfl ?_ | refine T.seq ?_ | refine T.block ?_ | refine T.skip ?_ | refine T.exit ?_
termination_by a => SizeOf.sizeOf a
decreasing_by have := List.sizeOf_lt_of_mem hu; simp; omega

end Go.Proofs.YtcgmmknfpfdghaaGreatDoor

namespace Go.Proofs.YtcgmmknfpfdghaaGreatDoor
attribute [-simp] Go.Av.astepJ Go.Av.relC Go.Av.relL Go.Av.relV Go.Av.relVs Go.Av.callJ Go.Av.IT.kind_v Go.Av.IT.kind_b Go.Av.IT.kind_p Go.Av.IT.name_v Go.Av.IT.name_b Go.Av.IT.name_p Go.Av.IT.kids_v Go.Av.IT.kids_b Go.Av.IT.kids_p Go.Av.eIT_len
open Go Go.Av
attribute [local irreducible] T ACalls TX EX LX Draws Some_ ACallsX eTy eTm MTy.kind MTy.kids MTm.kind MTm.name MTm.num MTm.ty MTm.fr MTm.label MTm.kids
attribute [local simp] eTy_def eTm_def
set_option maxHeartbeats 16000000
set_option maxRecDepth 8000
attribute [local irreducible] eCo MCo.kind MCo.tag MCo.label MCo.kids
attribute [local simp] eCo_def

theorem l6Id_ok (t : Int) : ACalls Tryz.prog 107 [.i t] [] (aCo (cId t)) [] [] := by
 refine ACalls.of_body Tryz.func107 (by kernel_rfl) rfl (by kernel_rfl) (by simp [Tryz.ntmps107]) (by simp) ?_
 rw [Tryz.ntmps107]
 repeat' first | ((first | refine aops_end (hK _ ?_) | refine aopsD_end (hK _ ?_) | refine aopsF_end (hK _ ?_)); clear hK K) | ((first | refine aops_go ?_ | refine aopsD_go ?_ | refine aopsF_go ?_); simp; (try (refine gen2 ?_ ?_ <;> intro hq <;> try simp at hq))) | (refine T.ret (Done.val (Or.inr rfl) ?_) <;> simp [resAs, Tryz.results107] <;> omega) | refine T.r0 fun K hK => ?_ | refine T.r1 fun K hK => ?_ | (refine ⟨by omega, ?_⟩) | refine T.ct rfl ?_ | refine T.cf rfl ?_ | refine T.seq ?_ | refine T.block ?_ | refine T.skip ?_ | refine T.exit ?_

theorem l6Tag_ok {d : Nat} {c : MCo} (h : CoV d c) : ∃ t, ACalls Tryz.prog 147 [aCo c] [] (.i t) [] [] := by
 induction h with
 | @id d t h1 h2 =>
  refine ⟨t, ?_⟩
  refine ACalls.of_body Tryz.func147 (by kernel_rfl) rfl (by kernel_rfl) (by simp [Tryz.ntmps147]) (by simp) ?_
  rw [Tryz.ntmps147]
  repeat' first | ((first | refine aops_end (hK _ ?_) | refine aopsD_end (hK _ ?_) | refine aopsF_end (hK _ ?_)); clear hK K) | ((first | refine aops_go ?_ | refine aopsD_go ?_ | refine aopsF_go ?_); simp; (try (refine gen2 ?_ ?_ <;> intro hq <;> try simp at hq))) | (refine T.ret (Done.data (Or.inr rfl) ?_ ?_) <;> simp [Tryz.results147] <;> omega) | refine T.r0 fun K hK => ?_ | refine T.r1 fun K hK => ?_ | (refine ⟨by omega, ?_⟩) | refine T.ct rfl ?_ | refine T.cf rfl ?_ | refine T.seq ?_ | refine T.block ?_ | refine T.skip ?_ | refine T.exit ?_
 | @fail d b t hb h1 h2 =>
  refine ⟨t, ?_⟩
  refine ACalls.of_body Tryz.func147 (by kernel_rfl) rfl (by kernel_rfl) (by simp [Tryz.ntmps147]) (by simp) ?_
  rw [Tryz.ntmps147]
  repeat' first | ((first | refine aops_end (hK _ ?_) | refine aopsD_end (hK _ ?_) | refine aopsF_end (hK _ ?_)); clear hK K) | ((first | refine aops_go ?_ | refine aopsD_go ?_ | refine aopsF_go ?_); simp; (try (refine gen2 ?_ ?_ <;> intro hq <;> try simp at hq))) | (refine T.ret (Done.data (Or.inr rfl) ?_ ?_) <;> simp [Tryz.results147] <;> omega) | refine T.r0 fun K hK => ?_ | refine T.r1 fun K hK => ?_ | (refine ⟨by omega, ?_⟩) | refine T.ct rfl ?_ | refine T.cf rfl ?_ | refine T.seq ?_ | refine T.block ?_ | refine T.skip ?_ | refine T.exit ?_
 | @inj d x hx hg ih =>
  obtain ⟨t, ih⟩ := ih
  refine ⟨t, ?_⟩
  refine ACalls.of_body Tryz.func147 (by kernel_rfl) rfl (by kernel_rfl) (by simp [Tryz.ntmps147]) (by simp) ?_
  rw [Tryz.ntmps147]
  repeat' first | ((first | refine aops_end (hK _ ?_) | refine aopsD_end (hK _ ?_) | refine aopsF_end (hK _ ?_)); clear hK K) | ((first | refine aops_go ?_ | refine aopsD_go ?_ | refine aopsF_go ?_ | refine wpcall_pure rfl (ih) ?_); simp; (try (refine gen2 ?_ ?_ <;> intro hq <;> try simp at hq))) | (refine T.ret (Done.data (Or.inr rfl) ?_ ?_) <;> simp [Tryz.results147] <;> omega) | refine T.r0 fun K hK => ?_ | refine T.r1 fun K hK => ?_ | (refine ⟨by omega, ?_⟩) | refine T.ct rfl ?_ | refine T.cf rfl ?_ | refine T.seq ?_ | refine T.block ?_ | refine T.skip ?_ | refine T.exit ?_
 | @proj d b x hb hx hg ih =>
  refine ⟨0, ?_⟩
  refine ACalls.of_body Tryz.func147 (by kernel_rfl) rfl (by kernel_rfl) (by simp [Tryz.ntmps147]) (by simp) ?_
  rw [Tryz.ntmps147]
  repeat' first | ((first | refine aops_end (hK _ ?_) | refine aopsD_end (hK _ ?_) | refine aopsF_end (hK _ ?_)); clear hK K) | ((first | refine aops_go ?_ | refine aopsD_go ?_ | refine aopsF_go ?_); simp; (try (refine gen2 ?_ ?_ <;> intro hq <;> try simp at hq))) | (refine T.ret (Done.data (Or.inr rfl) ?_ ?_) <;> simp [Tryz.results147] <;> omega) | refine T.r0 fun K hK => ?_ | refine T.r1 fun K hK => ?_ | (refine ⟨by omega, ?_⟩) | refine T.ct rfl ?_ | refine T.cf rfl ?_ | refine T.seq ?_ | refine T.block ?_ | refine T.skip ?_ | refine T.exit ?_
 | @two d k x y hk hx hy ih1 ih2 =>
  rcases hk with rfl | rfl
  ·refine ⟨4, ?_⟩
   refine ACalls.of_body Tryz.func147 (by kernel_rfl) rfl (by kernel_rfl) (by simp [Tryz.ntmps147]) (by simp) ?_
   rw [Tryz.ntmps147]
   repeat' first | ((first | refine aops_end (hK _ ?_) | refine aopsD_end (hK _ ?_) | refine aopsF_end (hK _ ?_)); clear hK K) | ((first | refine aops_go ?_ | refine aopsD_go ?_ | refine aopsF_go ?_); simp; (try (refine gen2 ?_ ?_ <;> intro hq <;> try simp at hq))) | (refine T.ret (Done.data (Or.inr rfl) ?_ ?_) <;> simp [Tryz.results147] <;> omega) | refine T.r0 fun K hK => ?_ | refine T.r1 fun K hK => ?_ | (refine ⟨by omega, ?_⟩) | refine T.ct rfl ?_ | refine T.cf rfl ?_ | refine T.seq ?_ | refine T.block ?_ | refine T.skip ?_ | refine T.exit ?_
  ·refine ⟨5, ?_⟩
   refine ACalls.of_body Tryz.func147 (by kernel_rfl) rfl (by kernel_rfl) (by simp [Tryz.ntmps147]) (by simp) ?_
   rw [Tryz.ntmps147]
   repeat' first | ((first | refine aops_end (hK _ ?_) | refine aopsD_end (hK _ ?_) | refine aopsF_end (hK _ ?_)); clear hK K) | ((first | refine aops_go ?_ | refine aopsD_go ?_ | refine aopsF_go ?_); simp; (try (refine gen2 ?_ ?_ <;> intro hq <;> try simp at hq))) | (refine T.ret (Done.data (Or.inr rfl) ?_ ?_) <;> simp [Tryz.results147] <;> omega) | refine T.r0 fun K hK => ?_ | refine T.r1 fun K hK => ?_ | (refine ⟨by omega, ?_⟩) | refine T.ct rfl ?_ | refine T.cf rfl ?_ | refine T.seq ?_ | refine T.block ?_ | refine T.skip ?_ | refine T.exit ?_

theorem l6Copy_ok : ∀ (e : MCo), nCo e <= 1099511627776 -> ACalls Tryz.prog 106 [aCo e] [] (aCo e) [] [] := by
 intro e
 induction e using MCo.ind with
 | h e ih =>
  intro hn
  rw [nCo_def] at hn
  have hlen := nCoS_len e.kids
  refine ACalls.of_body Tryz.func106 (by kernel_rfl) rfl (by kernel_rfl) (by simp [Tryz.ntmps106]) (by simp) ?_
  rw [Tryz.ntmps106]
  repeat' first | ((first | refine aops_end (hK _ ?_) | refine aopsD_end (hK _ ?_) | refine aopsF_end (hK _ ?_)); clear hK K) | ((first | refine aops_go ?_ | refine aopsD_go ?_ | refine aopsF_go ?_); simp; (try (refine gen2 ?_ ?_ <;> intro hq <;> try simp at hq))) | refine T.rd (id := 5) mixed (fun _ => false) [9, 11] (by kernel_rfl) fun K hK => ?_ | refine T.rd1 (id := 5) mixed (fun _ => false) [9, 11] (by kernel_rfl) fun K hK => ?_ | refine T.r0 fun K hK => ?_ | refine T.r1 fun K hK => ?_ | (refine ⟨by omega, ?_⟩) | refine T.ct rfl ?_ | refine T.cf rfl ?_ | refine T.seq ?_ | refine T.block ?_ | refine T.skip ?_ | refine T.exit ?_
  refine T.ownifyObj 2 3 4 34 rfl rfl ?_
  refine T.loopF (fun p : Nat => ⟨[(1, .c (.ptr 0 0)), (2, .c (.ptr 1 0)), (3, .c (.ptr 2 0)), (4, .i p)], [(aCo e).cells, [.d (.i 0), .d (.i 0), .d (.i 0), .nil], [.d (.i e.kind), .d (.i e.tag), .d (.i e.label), .own 0 p]], [{ sz := 4, ety := 34, rows := (e.kids.take p).map eCo, wr := true }]⟩) (fun p => e.kids.length + 1 - p) (fun p => p <= e.kids.length) (fun p hi => ?_) 0 (by simp) (by simp)
  by_cases hlt : p < e.kids.length
  ·obtain ⟨u, ht⟩ := get_lt hlt
   have htm : u ∈ e.kids := List.mem_of_getElem? ht
   have hgt : e.kids[p] = u := by rw [List.getElem?_eq_getElem hlt] at ht; exact Option.some.inj ht
   have hdr : e.kids.drop p = u :: e.kids.drop (p + 1) := by rw [List.drop_eq_getElem_cons hlt, hgt]
   have hu := ih u htm (by have := nCoS_mem htm; omega)
   have htk : e.kids.take (p + 1) = e.kids.take p ++ [u] := by rw [List.take_add_one, ht]; rfl
   have hmin : min p e.kids.length = p := by omega
   repeat' first | ((first | refine aops_end (hK _ ?_) | refine aopsD_end (hK _ ?_) | refine aopsF_end (hK _ ?_)); clear hK K) | ((first | refine aops_go ?_ | refine aopsD_go ?_ | refine aopsF_go ?_ | refine wpcall_pure rfl (hu) ?_); simp [hlt, hgt, hmin]; (try simp (disch := omega) only [wrap64]); (try (refine gen2 ?_ ?_ <;> intro hq <;> try simp [hlt, hgt, hmin] at hq))) | (refine ⟨p + 1, by dsimp only; omega, by omega, ?_, ?_, ?_⟩ <;> simp (disch := omega) [wrap64, htk, eCo_def]) | refine T.rd (id := 5) mixed (fun _ => false) [9, 11] (by kernel_rfl) fun K hK => ?_ | refine T.rd1 (id := 5) mixed (fun _ => false) [9, 11] (by kernel_rfl) fun K hK => ?_ | refine T.r0 fun K hK => ?_ | refine T.r1 fun K hK => ?_ | (refine ⟨by omega, ?_⟩) | refine T.ct rfl ?_ | refine T.cf rfl ?_ | refine T.seq ?_ | refine T.block ?_ | refine T.skip ?_ | refine T.exit ?_
  ·have hp' : p = e.kids.length := by omega
   subst hp'
   repeat' first | ((first | refine aops_end (hK _ ?_) | refine aopsD_end (hK _ ?_) | refine aopsF_end (hK _ ?_)); clear hK K) | ((first | refine aops_go ?_ | refine aopsD_go ?_ | refine aopsF_go ?_); simp [hlt]; (try (refine gen2 ?_ ?_ <;> intro hq <;> try simp [hlt] at hq))) | (refine T.ret (Done.val (Or.inr rfl) ?_) <;> simp [resAs, Tryz.results106] <;> omega) | refine T.rd (id := 5) mixed (fun _ => false) [9, 11] (by kernel_rfl) fun K hK => ?_ | refine T.rd1 (id := 5) mixed (fun _ => false) [9, 11] (by kernel_rfl) fun K hK => ?_ | refine T.r0 fun K hK => ?_ | refine T.r1 fun K hK => ?_ | (refine ⟨by omega, ?_⟩) | refine T.ct rfl ?_ | refine T.cf rfl ?_ | refine T.seq ?_ | refine T.block ?_ | refine T.skip ?_ | refine T.exit ?_

theorem coGround_ok (t : MTy) (hn : nTy t <= 1099511627776) : ACalls Tryz.prog 146 [aTy t] [] (aTy (.mk t.kind (List.replicate t.kids.length anyT))) [] [] := by
 have h1 := l1Any_ok
 have hlen := nTyS_len t.kids
 rw [nTy_def] at hn
 refine ACalls.of_body Tryz.func146 (by kernel_rfl) rfl (by kernel_rfl) (by simp [Tryz.ntmps146]) (by simp) ?_
 rw [Tryz.ntmps146]
 repeat' first | ((first | refine aops_end (hK _ ?_) | refine aopsD_end (hK _ ?_) | refine aopsF_end (hK _ ?_)); clear hK K) | ((first | refine aops_go ?_ | refine aopsD_go ?_ | refine aopsF_go ?_); simp; (try (refine gen2 ?_ ?_ <;> intro hq <;> try simp at hq))) | refine T.rd (id := 5) mixed (fun _ => false) [4, 6] (by kernel_rfl) fun K hK => ?_ | refine T.rd1 (id := 5) mixed (fun _ => false) [4, 6] (by kernel_rfl) fun K hK => ?_ | refine T.r0 fun K hK => ?_ | refine T.r1 fun K hK => ?_ | (refine ⟨by omega, ?_⟩) | refine T.ct rfl ?_ | refine T.cf rfl ?_ | refine T.seq ?_ | refine T.block ?_ | refine T.skip ?_ | refine T.exit ?_
 refine T.ownifyObj 2 1 2 78 (row := [.d (.i t.kind), .nil]) (by simp) (by simp) ?_
 refine T.loopF (fun p : Nat => ⟨[(1, .c (.ptr 0 0)), (2, .c (.ptr 1 0)), (3, .c (.ptr 2 0)), (4, .i p)], [(aTy t).cells, [.d (.i 0), .nil], [.d (.i t.kind), .own 0 p]], [{ sz := 2, ety := 78, rows := (List.replicate p anyT).map eTy, wr := true }]⟩) (fun p => t.kids.length + 1 - p) (fun p => p <= t.kids.length) (fun p hp => ?_) 0 (by simp) (by simp)
 by_cases hlt : p < t.kids.length
 ·repeat' first | ((first | refine aops_end (hK _ ?_) | refine aopsD_end (hK _ ?_) | refine aopsF_end (hK _ ?_)); clear hK K) | ((first | refine aops_go ?_ | refine aopsD_go ?_ | refine aopsF_go ?_ | refine wpcall_pure rfl (h1) ?_); simp [hlt]; (try simp (disch := omega) only [wrap64]); (try (refine gen2 ?_ ?_ <;> intro hq <;> try simp [hlt] at hq))) | (refine ⟨by omega, by omega, ?_⟩) | (refine ⟨p + 1, by dsimp only; omega, by omega, ?_, ?_, ?_⟩ <;> simp (disch := omega) [wrap64, List.replicate_succ', eTy_def]) | refine T.rd (id := 5) mixed (fun _ => false) [4, 6] (by kernel_rfl) fun K hK => ?_ | refine T.rd1 (id := 5) mixed (fun _ => false) [4, 6] (by kernel_rfl) fun K hK => ?_ | refine T.r0 fun K hK => ?_ | refine T.r1 fun K hK => ?_ | (refine ⟨by omega, ?_⟩) | refine T.ct rfl ?_ | refine T.cf rfl ?_ | refine T.seq ?_ | refine T.block ?_ | refine T.skip ?_ | refine T.exit ?_
 ·have hp' : p = t.kids.length := by omega
  subst hp'
  repeat' first | ((first | refine aops_end (hK _ ?_) | refine aopsD_end (hK _ ?_) | refine aopsF_end (hK _ ?_)); clear hK K) | ((first | refine aops_go ?_ | refine aopsD_go ?_ | refine aopsF_go ?_); simp [hlt]; (try (refine gen2 ?_ ?_ <;> intro hq <;> try simp [hlt] at hq))) | (refine T.ret (Done.val (Or.inr rfl) ?_) <;> simp [resAs, Tryz.results146] <;> omega) | refine T.rd (id := 5) mixed (fun _ => false) [4, 6] (by kernel_rfl) fun K hK => ?_ | refine T.rd1 (id := 5) mixed (fun _ => false) [4, 6] (by kernel_rfl) fun K hK => ?_ | refine T.r0 fun K hK => ?_ | refine T.r1 fun K hK => ?_ | (refine ⟨by omega, ?_⟩) | refine T.ct rfl ?_ | refine T.cf rfl ?_ | refine T.seq ?_ | refine T.block ?_ | refine T.skip ?_ | refine T.exit ?_

def CastEx (d : Nat) : Prop := ∀ f t : MTy, VTy d f -> VTy d t -> consTy f t = true -> ∀ l, labM l = true -> ∃ c, CoV (2 * d) c /\ ACalls Tryz.prog 112 [aTy f, aTy t, .i l] [] (aCo c) [] []
theorem cast_same {d : Nat} (ih : CastEx d) {f t : MTy} (hf : VTy (d + 1) f) (ht : VTy (d + 1) t) (h1 : ¬ f.kind = 1) (h2 : f.kind = t.kind) (hc : consTy f t = true) (l : Int) (hl : labM l = true) :
  ∃ c, CoV (2 * d + 1) c /\ groundCo c = true /\ ACalls Tryz.prog 112 [aTy f, aTy t, .i l] [] (aCo c) [] [] := by
 have hlb := lab_bound hl
 have wn : IntKind.i64.wrap (-l) = -l := wrap64 (by omega) (by omega)
 cases hf with
 | any => exact absurd (by simp) h1
 | int =>
  cases ht with
  | int =>
   have k := l6Id_ok 2
   refine ⟨cId 2, .id (by omega) (by omega), by simp [groundCo], ?_⟩
   refine ACalls.of_body Tryz.func112 (by kernel_rfl) rfl (by kernel_rfl) (by simp [Tryz.ntmps112]) (by simp) ?_
   rw [Tryz.ntmps112]
   repeat' first | ((first | refine aops_end (hK _ ?_) | refine aopsD_end (hK _ ?_) | refine aopsF_end (hK _ ?_)); clear hK K) | ((first | refine aops_go ?_ | refine aopsD_go ?_ | refine aopsF_go ?_ | refine wpcall_pure rfl (k) ?_); simp; (try (refine gen2 ?_ ?_ <;> intro hq <;> try simp at hq))) | (refine T.ret (Done.data (Or.inr rfl) ?_ ?_) <;> simp [Tryz.results112] <;> omega) | refine T.rd (id := 4) mixed (fun _ => false) [7] (by kernel_rfl) fun K hK => ?_ | refine T.rd1 (id := 4) mixed (fun _ => false) [7] (by kernel_rfl) fun K hK => ?_ | refine T.rd (id := 6) mixed (fun _ => false) [8] (by kernel_rfl) fun K hK => ?_ | refine T.rd1 (id := 6) mixed (fun _ => false) [8] (by kernel_rfl) fun K hK => ?_ | refine T.rd (id := 8) mixed (fun _ => false) [23] (by kernel_rfl) fun K hK => ?_ | refine T.rd1 (id := 8) mixed (fun _ => false) [23] (by kernel_rfl) fun K hK => ?_ | refine T.rd (id := 10) mixed (fun _ => false) [22] (by kernel_rfl) fun K hK => ?_ | refine T.rd1 (id := 10) mixed (fun _ => false) [22] (by kernel_rfl) fun K hK => ?_ | refine T.r0 fun K hK => ?_ | refine T.r1 fun K hK => ?_ | (refine ⟨by omega, ?_⟩) | refine T.ct rfl ?_ | refine T.cf rfl ?_ | refine T.seq ?_ | refine T.block ?_ | refine T.skip ?_ | refine T.exit ?_
  | _ => simp at h2
 | bool =>
  cases ht with
  | bool =>
   have k := l6Id_ok 3
   refine ⟨cId 3, .id (by omega) (by omega), by simp [groundCo], ?_⟩
   refine ACalls.of_body Tryz.func112 (by kernel_rfl) rfl (by kernel_rfl) (by simp [Tryz.ntmps112]) (by simp) ?_
   rw [Tryz.ntmps112]
   repeat' first | ((first | refine aops_end (hK _ ?_) | refine aopsD_end (hK _ ?_) | refine aopsF_end (hK _ ?_)); clear hK K) | ((first | refine aops_go ?_ | refine aopsD_go ?_ | refine aopsF_go ?_ | refine wpcall_pure rfl (k) ?_); simp; (try (refine gen2 ?_ ?_ <;> intro hq <;> try simp at hq))) | (refine T.ret (Done.data (Or.inr rfl) ?_ ?_) <;> simp [Tryz.results112] <;> omega) | refine T.rd (id := 4) mixed (fun _ => false) [7] (by kernel_rfl) fun K hK => ?_ | refine T.rd1 (id := 4) mixed (fun _ => false) [7] (by kernel_rfl) fun K hK => ?_ | refine T.rd (id := 6) mixed (fun _ => false) [8] (by kernel_rfl) fun K hK => ?_ | refine T.rd1 (id := 6) mixed (fun _ => false) [8] (by kernel_rfl) fun K hK => ?_ | refine T.rd (id := 8) mixed (fun _ => false) [23] (by kernel_rfl) fun K hK => ?_ | refine T.rd1 (id := 8) mixed (fun _ => false) [23] (by kernel_rfl) fun K hK => ?_ | refine T.rd (id := 10) mixed (fun _ => false) [22] (by kernel_rfl) fun K hK => ?_ | refine T.rd1 (id := 10) mixed (fun _ => false) [22] (by kernel_rfl) fun K hK => ?_ | refine T.r0 fun K hK => ?_ | refine T.r1 fun K hK => ?_ | (refine ⟨by omega, ?_⟩) | refine T.ct rfl ?_ | refine T.cf rfl ?_ | refine T.seq ?_ | refine T.block ?_ | refine T.skip ?_ | refine T.exit ?_
  | _ => simp at h2
 | @fn d a b ha hb =>
  cases ht with
  | @fn d a' b' ha' hb' =>
   rw [consTy_def] at hc
   simp [all2] at hc
   obtain ⟨x, hx, kx⟩ := ih a' a ha' ha (consTy_sym _ _ hc.1) (-l) (labM_neg hl)
   obtain ⟨y, hy, ky⟩ := ih b b' hb hb' hc.2 l hl
   refine ⟨cTwo 2 x y, .two (.inl rfl) hx hy, by simp [groundCo], ?_⟩
   refine ACalls.of_body Tryz.func112 (by kernel_rfl) rfl (by kernel_rfl) (by simp [Tryz.ntmps112]) (by simp) ?_
   rw [Tryz.ntmps112]
   repeat' first | ((first | refine aops_end (hK _ ?_) | refine aopsD_end (hK _ ?_) | refine aopsF_end (hK _ ?_)); clear hK K) | ((first | refine aops_go ?_ | refine aopsD_go ?_ | refine aopsF_go ?_ | refine wpcall_pure rfl (kx) ?_ | refine wpcall_pure rfl (ky) ?_); simp [wn]; (try (refine gen2 ?_ ?_ <;> intro hq <;> try simp [wn] at hq))) | (refine T.ret (Done.data (Or.inr rfl) ?_ ?_) <;> simp [Tryz.results112] <;> omega) | refine T.rd (id := 4) mixed (fun _ => false) [7] (by kernel_rfl) fun K hK => ?_ | refine T.rd1 (id := 4) mixed (fun _ => false) [7] (by kernel_rfl) fun K hK => ?_ | refine T.rd (id := 6) mixed (fun _ => false) [8] (by kernel_rfl) fun K hK => ?_ | refine T.rd1 (id := 6) mixed (fun _ => false) [8] (by kernel_rfl) fun K hK => ?_ | refine T.rd (id := 8) mixed (fun _ => false) [23] (by kernel_rfl) fun K hK => ?_ | refine T.rd1 (id := 8) mixed (fun _ => false) [23] (by kernel_rfl) fun K hK => ?_ | refine T.rd (id := 10) mixed (fun _ => false) [22] (by kernel_rfl) fun K hK => ?_ | refine T.rd1 (id := 10) mixed (fun _ => false) [22] (by kernel_rfl) fun K hK => ?_ | refine T.r0 fun K hK => ?_ | refine T.r1 fun K hK => ?_ | (refine ⟨by omega, ?_⟩) | refine T.ct rfl ?_ | refine T.cf rfl ?_ | refine T.seq ?_ | refine T.block ?_ | refine T.skip ?_ | refine T.exit ?_
  | _ => simp at h2
 | @pair d a b ha hb =>
  cases ht with
  | @pair d a' b' ha' hb' =>
   rw [consTy_def] at hc
   simp [all2] at hc
   obtain ⟨x, hx, kx⟩ := ih a a' ha ha' hc.1 l hl
   obtain ⟨y, hy, ky⟩ := ih b b' hb hb' hc.2 l hl
   refine ⟨cTwo 3 x y, .two (.inr rfl) hx hy, by simp [groundCo], ?_⟩
   refine ACalls.of_body Tryz.func112 (by kernel_rfl) rfl (by kernel_rfl) (by simp [Tryz.ntmps112]) (by simp) ?_
   rw [Tryz.ntmps112]
   repeat' first | ((first | refine aops_end (hK _ ?_) | refine aopsD_end (hK _ ?_) | refine aopsF_end (hK _ ?_)); clear hK K) | ((first | refine aops_go ?_ | refine aopsD_go ?_ | refine aopsF_go ?_ | refine wpcall_pure rfl (kx) ?_ | refine wpcall_pure rfl (ky) ?_); simp [wn]; (try (refine gen2 ?_ ?_ <;> intro hq <;> try simp [wn] at hq))) | (refine T.ret (Done.data (Or.inr rfl) ?_ ?_) <;> simp [Tryz.results112] <;> omega) | refine T.rd (id := 4) mixed (fun _ => false) [7] (by kernel_rfl) fun K hK => ?_ | refine T.rd1 (id := 4) mixed (fun _ => false) [7] (by kernel_rfl) fun K hK => ?_ | refine T.rd (id := 6) mixed (fun _ => false) [8] (by kernel_rfl) fun K hK => ?_ | refine T.rd1 (id := 6) mixed (fun _ => false) [8] (by kernel_rfl) fun K hK => ?_ | refine T.rd (id := 8) mixed (fun _ => false) [23] (by kernel_rfl) fun K hK => ?_ | refine T.rd1 (id := 8) mixed (fun _ => false) [23] (by kernel_rfl) fun K hK => ?_ | refine T.rd (id := 10) mixed (fun _ => false) [22] (by kernel_rfl) fun K hK => ?_ | refine T.rd1 (id := 10) mixed (fun _ => false) [22] (by kernel_rfl) fun K hK => ?_ | refine T.r0 fun K hK => ?_ | refine T.r1 fun K hK => ?_ | (refine ⟨by omega, ?_⟩) | refine T.ct rfl ?_ | refine T.cf rfl ?_ | refine T.seq ?_ | refine T.block ?_ | refine T.skip ?_ | refine T.exit ?_
  | _ => simp at h2

theorem castEx : ∀ d : Nat, d <= 38 -> CastEx d
 | 0, _ => fun f t hf => by cases hf
 | d + 1, hd => fun f t hf ht hc l hl => by
  have ih := castEx d (by omega)
  have hlb := lab_bound hl
  have hp : 2 ^ d <= 274877906944 := Nat.le_trans (Nat.pow_le_pow_right (n := 2) (by omega) (show d <= 38 by omega)) (by decide)
  have hnf := hf.small
  have hnt := ht.small
  by_cases h1 : f.kind = 1
  ·by_cases h2 : t.kind = 1
   ·have k := l6Id_ok 1
    refine ⟨cId 1, .id (by omega) (by omega), ?_⟩
    refine ACalls.of_body Tryz.func112 (by kernel_rfl) rfl (by kernel_rfl) (by simp [Tryz.ntmps112]) (by simp) ?_
    rw [Tryz.ntmps112]
    repeat' first | ((first | refine aops_end (hK _ ?_) | refine aopsD_end (hK _ ?_) | refine aopsF_end (hK _ ?_)); clear hK K) | ((first | refine aops_go ?_ | refine aopsD_go ?_ | refine aopsF_go ?_ | refine wpcall_pure rfl (k) ?_); simp [h1, h2]; (try (refine gen2 ?_ ?_ <;> intro hq <;> try simp [h1, h2] at hq))) | (refine T.ret (Done.data (Or.inr rfl) ?_ ?_) <;> simp [Tryz.results112] <;> omega) | refine T.rd (id := 4) mixed (fun _ => false) [7] (by kernel_rfl) fun K hK => ?_ | refine T.rd1 (id := 4) mixed (fun _ => false) [7] (by kernel_rfl) fun K hK => ?_ | refine T.rd (id := 6) mixed (fun _ => false) [8] (by kernel_rfl) fun K hK => ?_ | refine T.rd1 (id := 6) mixed (fun _ => false) [8] (by kernel_rfl) fun K hK => ?_ | refine T.rd (id := 8) mixed (fun _ => false) [23] (by kernel_rfl) fun K hK => ?_ | refine T.rd1 (id := 8) mixed (fun _ => false) [23] (by kernel_rfl) fun K hK => ?_ | refine T.rd (id := 10) mixed (fun _ => false) [22] (by kernel_rfl) fun K hK => ?_ | refine T.rd1 (id := 10) mixed (fun _ => false) [22] (by kernel_rfl) fun K hK => ?_ | refine T.r0 fun K hK => ?_ | refine T.r1 fun K hK => ?_ | (refine ⟨by omega, ?_⟩) | refine T.ct rfl ?_ | refine T.cf rfl ?_ | refine T.seq ?_ | refine T.block ?_ | refine T.skip ?_ | refine T.exit ?_
   ·obtain ⟨g1, g2⟩ := grd_valid ht h2
    obtain ⟨c, hcv, hcg, k⟩ := cast_same ih (f := .mk t.kind (List.replicate t.kids.length anyT)) (t := t) g1 ht (by simpa using h2) (by simp) (consTy_sym _ _ g2) l hl
    have kg := coGround_ok t (by omega)
    refine ⟨cProj l c, .proj hl hcv (ground_proj hcg), ?_⟩
    refine ACalls.of_body Tryz.func112 (by kernel_rfl) rfl (by kernel_rfl) (by simp [Tryz.ntmps112]) (by simp) ?_
    rw [Tryz.ntmps112]
    repeat' first | ((first | refine aops_end (hK _ ?_) | refine aopsD_end (hK _ ?_) | refine aopsF_end (hK _ ?_)); clear hK K) | ((first | refine aops_go ?_ | refine aopsD_go ?_ | refine aopsF_go ?_ | refine wpcall_pure rfl (kg) ?_ | (refine wpcall_pure ?_ (k) ?_; (focus (solve | simp [h1, h2])))); simp [h1, h2]; (try (refine gen2 ?_ ?_ <;> intro hq <;> try simp [h1, h2] at hq))) | (refine T.ret (Done.data (Or.inr rfl) ?_ ?_) <;> simp [Tryz.results112] <;> omega) | refine T.rd (id := 4) mixed (fun _ => false) [7] (by kernel_rfl) fun K hK => ?_ | refine T.rd1 (id := 4) mixed (fun _ => false) [7] (by kernel_rfl) fun K hK => ?_ | refine T.rd (id := 6) mixed (fun _ => false) [8] (by kernel_rfl) fun K hK => ?_ | refine T.rd1 (id := 6) mixed (fun _ => false) [8] (by kernel_rfl) fun K hK => ?_ | refine T.rd (id := 8) mixed (fun _ => false) [23] (by kernel_rfl) fun K hK => ?_ | refine T.rd1 (id := 8) mixed (fun _ => false) [23] (by kernel_rfl) fun K hK => ?_ | refine T.rd (id := 10) mixed (fun _ => false) [22] (by kernel_rfl) fun K hK => ?_ | refine T.rd1 (id := 10) mixed (fun _ => false) [22] (by kernel_rfl) fun K hK => ?_ | refine T.r0 fun K hK => ?_ | refine T.r1 fun K hK => ?_ | (refine ⟨by omega, ?_⟩) | refine T.ct rfl ?_ | refine T.cf rfl ?_ | refine T.seq ?_ | refine T.block ?_ | refine T.skip ?_ | refine T.exit ?_
  ·by_cases h2 : t.kind = 1
   ·obtain ⟨g1, g2⟩ := grd_valid hf h1
    obtain ⟨c, hcv, hcg, k⟩ := cast_same ih (f := f) (t := .mk f.kind (List.replicate f.kids.length anyT)) hf g1 h1 (by simp) g2 l hl
    have kg := coGround_ok f (by omega)
    refine ⟨cInj c, .inj hcv hcg, ?_⟩
    refine ACalls.of_body Tryz.func112 (by kernel_rfl) rfl (by kernel_rfl) (by simp [Tryz.ntmps112]) (by simp) ?_
    rw [Tryz.ntmps112]
    repeat' first | ((first | refine aops_end (hK _ ?_) | refine aopsD_end (hK _ ?_) | refine aopsF_end (hK _ ?_)); clear hK K) | ((first | refine aops_go ?_ | refine aopsD_go ?_ | refine aopsF_go ?_ | refine wpcall_pure rfl (kg) ?_ | (refine wpcall_pure ?_ (k) ?_; (focus (solve | simp [h1, h2])))); simp [h1, h2]; (try (refine gen2 ?_ ?_ <;> intro hq <;> try simp [h1, h2] at hq))) | (refine T.ret (Done.data (Or.inr rfl) ?_ ?_) <;> simp [Tryz.results112] <;> omega) | refine T.rd (id := 4) mixed (fun _ => false) [7] (by kernel_rfl) fun K hK => ?_ | refine T.rd1 (id := 4) mixed (fun _ => false) [7] (by kernel_rfl) fun K hK => ?_ | refine T.rd (id := 6) mixed (fun _ => false) [8] (by kernel_rfl) fun K hK => ?_ | refine T.rd1 (id := 6) mixed (fun _ => false) [8] (by kernel_rfl) fun K hK => ?_ | refine T.rd (id := 8) mixed (fun _ => false) [23] (by kernel_rfl) fun K hK => ?_ | refine T.rd1 (id := 8) mixed (fun _ => false) [23] (by kernel_rfl) fun K hK => ?_ | refine T.rd (id := 10) mixed (fun _ => false) [22] (by kernel_rfl) fun K hK => ?_ | refine T.rd1 (id := 10) mixed (fun _ => false) [22] (by kernel_rfl) fun K hK => ?_ | refine T.r0 fun K hK => ?_ | refine T.r1 fun K hK => ?_ | (refine ⟨by omega, ?_⟩) | refine T.ct rfl ?_ | refine T.cf rfl ?_ | refine T.seq ?_ | refine T.block ?_ | refine T.skip ?_ | refine T.exit ?_
   ·obtain ⟨h3, _⟩ := consTy_kind hc h1 h2
    obtain ⟨c, hcv, _, k⟩ := cast_same ih hf ht h1 h3 hc l hl
    exact ⟨c, CoV.mono_ hcv, k⟩
end Go.Proofs.YtcgmmknfpfdghaaGreatDoor

namespace Go.Proofs.YtcgmmknfpfdghaaGreatDoor
attribute [-simp] Go.Av.astepJ Go.Av.relC Go.Av.relL Go.Av.relV Go.Av.relVs Go.Av.callJ Go.Av.IT.kind_v Go.Av.IT.kind_b Go.Av.IT.kind_p Go.Av.IT.name_v Go.Av.IT.name_b Go.Av.IT.name_p Go.Av.IT.kids_v Go.Av.IT.kids_b Go.Av.IT.kids_p Go.Av.eIT_len
open Go Go.Av
attribute [local irreducible] T ACalls TX EX LX Draws Some_ ACallsX eTy eTm MTy.kind MTy.kids MTm.kind MTm.name MTm.num MTm.ty MTm.fr MTm.label MTm.kids
attribute [local simp] eTy_def eTm_def
set_option maxHeartbeats 16000000
set_option maxRecDepth 8000
attribute [local irreducible] eCo MCo.kind MCo.tag MCo.label MCo.kids
attribute [local simp] eCo_def

theorem l6TagG_ok {d : Nat} {c : MCo} (h : CoV d c) (hg : groundCo c = true) : ∃ t, 2 <= t /\ t <= 5 /\ ACalls Tryz.prog 147 [aCo c] [] (.i t) [] [] := by
 cases h with
 | @id d t h1 h2 =>
  have ht : ¬ t = 1 := by intro e; subst e; simp [groundCo] at hg
  refine ⟨t, by omega, by omega, ?_⟩
  refine ACalls.of_body Tryz.func147 (by kernel_rfl) rfl (by kernel_rfl) (by simp [Tryz.ntmps147]) (by simp) ?_
  rw [Tryz.ntmps147]
  repeat' first | ((first | refine aops_end (hK _ ?_) | refine aopsD_end (hK _ ?_) | refine aopsF_end (hK _ ?_)); clear hK K) | ((first | refine aops_go ?_ | refine aopsD_go ?_ | refine aopsF_go ?_); simp; (try (refine gen2 ?_ ?_ <;> intro hq <;> try simp at hq))) | (refine T.ret (Done.data (Or.inr rfl) ?_ ?_) <;> simp [Tryz.results147] <;> omega) | refine T.r0 fun K hK => ?_ | refine T.r1 fun K hK => ?_ | (refine ⟨by omega, ?_⟩) | refine T.ct rfl ?_ | refine T.cf rfl ?_ | refine T.seq ?_ | refine T.block ?_ | refine T.skip ?_ | refine T.exit ?_
 | fail _ _ _ => simp [groundCo] at hg
 | inj _ _ => simp [groundCo] at hg
 | proj _ _ _ => simp [groundCo] at hg
 | @two d k x y hk hx hy =>
  rcases hk with rfl | rfl
  ·refine ⟨4, by omega, by omega, ?_⟩
   refine ACalls.of_body Tryz.func147 (by kernel_rfl) rfl (by kernel_rfl) (by simp [Tryz.ntmps147]) (by simp) ?_
   rw [Tryz.ntmps147]
   repeat' first | ((first | refine aops_end (hK _ ?_) | refine aopsD_end (hK _ ?_) | refine aopsF_end (hK _ ?_)); clear hK K) | ((first | refine aops_go ?_ | refine aopsD_go ?_ | refine aopsF_go ?_); simp; (try (refine gen2 ?_ ?_ <;> intro hq <;> try simp at hq))) | (refine T.ret (Done.data (Or.inr rfl) ?_ ?_) <;> simp [Tryz.results147] <;> omega) | refine T.r0 fun K hK => ?_ | refine T.r1 fun K hK => ?_ | (refine ⟨by omega, ?_⟩) | refine T.ct rfl ?_ | refine T.cf rfl ?_ | refine T.seq ?_ | refine T.block ?_ | refine T.skip ?_ | refine T.exit ?_
  ·refine ⟨5, by omega, by omega, ?_⟩
   refine ACalls.of_body Tryz.func147 (by kernel_rfl) rfl (by kernel_rfl) (by simp [Tryz.ntmps147]) (by simp) ?_
   rw [Tryz.ntmps147]
   repeat' first | ((first | refine aops_end (hK _ ?_) | refine aopsD_end (hK _ ?_) | refine aopsF_end (hK _ ?_)); clear hK K) | ((first | refine aops_go ?_ | refine aopsD_go ?_ | refine aopsF_go ?_); simp; (try (refine gen2 ?_ ?_ <;> intro hq <;> try simp at hq))) | (refine T.ret (Done.data (Or.inr rfl) ?_ ?_) <;> simp [Tryz.results147] <;> omega) | refine T.r0 fun K hK => ?_ | refine T.r1 fun K hK => ?_ | (refine ⟨by omega, ?_⟩) | refine T.ct rfl ?_ | refine T.cf rfl ?_ | refine T.seq ?_ | refine T.block ?_ | refine T.skip ?_ | refine T.exit ?_

def CompEx (n : Nat) : Prop := ∀ (a b : MCo) (da db : Nat), CoV da a -> CoV db b -> da <= 30 -> db <= 30 -> nCo a + nCo b < n -> ∃ (c : MCo) (ok : Bool), nCo c <= nCo a + nCo b /\ (ok = true -> CoV (da + db) c /\ (projCo a = true -> projCo c = true) /\ (groundCo a = true -> groundCo b = true -> groundCo c = true)) /\
 ACalls Tryz.prog 113 [aCo a, aCo b] [] (.tup [aCo c, .b ok]) [] []
theorem twoEx {n : Nat} (ih : CompEx n) {a b : MCo} {da db : Nat} (ha : CoV da a) (hb : CoV db b) (hda : da <= 30) (hdb : db <= 30) (hg : groundCo a = true) (hn : nCo a + nCo b < n + 1) :
  ∃ (c : MCo) (ok : Bool), nCo c <= nCo a + nCo b /\ (ok = true -> CoV (da + db) c /\ groundCo c = true) /\ ACalls Tryz.prog 148 [aCo a, aCo b] [] (.tup [aCo c, .b ok]) [] [] := by
 by_cases hk : a.kind = b.kind
 rotate_left
 ·refine ⟨.mk 0 0 0 [], false, by simp [nCo, nCoS], by simp, ?_⟩
  refine ACalls.of_body Tryz.func148 (by kernel_rfl) rfl (by kernel_rfl) (by simp [Tryz.ntmps148]) (by simp) ?_
  rw [Tryz.ntmps148]
  repeat' first | ((first | refine aops_end (hK _ ?_) | refine aopsD_end (hK _ ?_) | refine aopsF_end (hK _ ?_)); clear hK K) | ((first | refine aops_go ?_ | refine aopsD_go ?_ | refine aopsF_go ?_); simp [hk]; (try (refine gen2 ?_ ?_ <;> intro hq <;> try simp [hk] at hq))) | (refine T.ret (Done.tup (Or.inr rfl) ?_) <;> simp [resAs, Tryz.results148] <;> omega) | refine T.rdF (id := 4) mixed (fun _ => false) [8] [4, 6] 9 [] (by kernel_rfl) fun K hK => ?_ | refine T.rdF1 (id := 4) mixed (fun _ => false) [8] [4, 6] 9 [] (by kernel_rfl) fun K hK => ?_ | refine T.rdF (id := 5) mixed (fun _ => false) [12, 13] [1, 2, 3, 5, 6, 7, 8] 13 [] (by kernel_rfl) fun K hK => ?_ | refine T.rdF1 (id := 5) mixed (fun _ => false) [12, 13] [1, 2, 3, 5, 6, 7, 8] 13 [] (by kernel_rfl) fun K hK => ?_ | refine T.rd (id := 7) mixed (fun _ => false) [12] (by kernel_rfl) fun K hK => ?_ | refine T.rd1 (id := 7) mixed (fun _ => false) [12] (by kernel_rfl) fun K hK => ?_ | refine T.rdF (id := 8) mixed (fun _ => false) [12, 13] [1, 2, 3, 5, 6, 7, 8] 13 [] (by kernel_rfl) fun K hK => ?_ | refine T.rdF1 (id := 8) mixed (fun _ => false) [12, 13] [1, 2, 3, 5, 6, 7, 8] 13 [] (by kernel_rfl) fun K hK => ?_ | refine T.r0 fun K hK => ?_ | refine T.r1 fun K hK => ?_ | (refine ⟨by omega, ?_⟩) | refine T.ct rfl ?_ | refine T.cf rfl ?_ | refine T.seq ?_ | refine T.block ?_ | refine T.skip ?_ | refine T.exit ?_
 cases ha with
 | fail _ _ _ => simp [groundCo] at hg
 | inj _ _ => simp [groundCo] at hg
 | proj _ _ _ => simp [groundCo] at hg
 | @id d t h1 h2 =>
  have ht : ¬ t = 1 := by intro e; subst e; simp [groundCo] at hg
  cases hb with
  | @id d' t' h3 h4 =>
   have k := l6Id_ok t
   refine ⟨cId t, decide (t = t'), by simp [nCo, nCoS], fun _ => ⟨(CoV.id (d := d) h1 h2).le (by omega), by simp [groundCo, ht]⟩, ?_⟩
   refine ACalls.of_body Tryz.func148 (by kernel_rfl) rfl (by kernel_rfl) (by simp [Tryz.ntmps148]) (by simp) ?_
   rw [Tryz.ntmps148]
   repeat' first | ((first | refine aops_end (hK _ ?_) | refine aopsD_end (hK _ ?_) | refine aopsF_end (hK _ ?_)); clear hK K) | ((first | refine aops_go ?_ | refine aopsD_go ?_ | refine aopsF_go ?_ | refine wpcall_pure rfl (k) ?_); simp; (try (refine gen2 ?_ ?_ <;> intro hq <;> try simp at hq))) | (refine T.ret (Done.tup (Or.inr rfl) ?_) <;> simp [resAs, Tryz.results148, *] <;> omega) | refine T.rdF (id := 4) mixed (fun _ => false) [8] [4, 6] 9 [2] (by kernel_rfl) fun K hK => ?_ | refine T.rdF1 (id := 4) mixed (fun _ => false) [8] [4, 6] 9 [2] (by kernel_rfl) fun K hK => ?_ | (refine ⟨?_, ?_⟩; (focus (intros; refine wpcall_pure rfl (k) ?_; simp; done))) | refine T.rdF (id := 5) mixed (fun _ => false) [12, 13] [1, 2, 3, 5, 6, 7, 8] 13 [2] (by kernel_rfl) fun K hK => ?_ | refine T.rdF1 (id := 5) mixed (fun _ => false) [12, 13] [1, 2, 3, 5, 6, 7, 8] 13 [2] (by kernel_rfl) fun K hK => ?_ | (refine ⟨?_, ?_⟩; (focus (intros; refine wpcall_pure rfl (k) ?_; simp; done))) | refine T.rd (id := 7) mixed (fun _ => false) [12] (by kernel_rfl) fun K hK => ?_ | refine T.rd1 (id := 7) mixed (fun _ => false) [12] (by kernel_rfl) fun K hK => ?_ | refine T.rdF (id := 8) mixed (fun _ => false) [12, 13] [1, 2, 3, 5, 6, 7, 8] 13 [2] (by kernel_rfl) fun K hK => ?_ | refine T.rdF1 (id := 8) mixed (fun _ => false) [12, 13] [1, 2, 3, 5, 6, 7, 8] 13 [2] (by kernel_rfl) fun K hK => ?_ | (refine ⟨?_, ?_⟩; (focus (intros; refine wpcall_pure rfl (k) ?_; simp; done))) | refine T.r0 fun K hK => ?_ | refine T.r1 fun K hK => ?_ | (refine ⟨by omega, ?_⟩) | refine T.ct rfl ?_ | refine T.cf rfl ?_ | refine T.seq ?_ | refine T.block ?_ | refine T.skip ?_ | refine T.exit ?_
  | two hk2 _ _ => simp at hk; omega
  | _ => simp at hk
 | @two d k x y hkk hx hy =>
  cases hb with
  | @two d' k' x' y' hkk' hx' hy' =>
   simp at hk
   subst hk
   have e1 : nCo (cTwo k x y) = 2 + nCo x + nCo y := by simp [nCo, nCoS]; omega
   have e2 : nCo (cTwo k x' y') = 2 + nCo x' + nCo y' := by simp [nCo, nCoS]; omega
   obtain ⟨c1, o1, n1, g1, k1⟩ := ih x x' d d' hx hx' (by omega) (by omega) (by omega)
   obtain ⟨c2, o2, n2, g2, k2⟩ := ih x' x d' d hx' hx (by omega) (by omega) (by omega)
   obtain ⟨c3, o3, n3, g3, k3⟩ := ih y y' d d' hy hy' (by omega) (by omega) (by omega)
   rcases hkk with rfl | rfl
   ·refine ⟨cTwo 2 c2 c3, o2 && o3, by simp [nCo, nCoS] at *; omega, fun h => ?_, ?_⟩
    ·simp only [Bool.and_eq_true] at h
     exact ⟨(CoV.two (d := d + d') (.inl rfl) ((g2 h.1).1.le (by omega)) (g3 h.2).1).le (by omega), by simp [groundCo]⟩
    ·clear g1 g2 g3 n1 n2 n3 e1 e2 hn
     refine ACalls.of_body Tryz.func148 (by kernel_rfl) rfl (by kernel_rfl) (by simp [Tryz.ntmps148]) (by simp) ?_
     rw [Tryz.ntmps148]
     repeat' first | ((first | refine aops_end (hK _ ?_) | refine aopsD_end (hK _ ?_) | refine aopsF_end (hK _ ?_)); clear hK K) | ((first | refine aops_go ?_ | refine aopsD_go ?_ | refine aopsF_go ?_ | refine wpcall_pure rfl (k1) ?_ | refine wpcall_pure rfl (k2) ?_ | refine wpcall_pure rfl (k3) ?_); simp; (try (refine gen2 ?_ ?_ <;> intro hq <;> try simp at hq))) | (refine T.ret (Done.tup (Or.inr rfl) ?_) <;> simp [resAs, Tryz.results148, *] <;> omega) | refine T.rdF (id := 4) mixed (fun _ => false) [8] [4, 6] 9 [] (by kernel_rfl) fun K hK => ?_ | refine T.rdF1 (id := 4) mixed (fun _ => false) [8] [4, 6] 9 [] (by kernel_rfl) fun K hK => ?_ | (refine ⟨?_, ?_⟩; (focus (intros; refine wpcall_pure rfl (k1) ?_; simp; done))) | (refine ⟨?_, ?_⟩; (focus (intros; refine wpcall_pure rfl (k2) ?_; simp; done))) | (refine ⟨?_, ?_⟩; (focus (intros; refine wpcall_pure rfl (k3) ?_; simp; done))) | refine T.rdF (id := 5) mixed (fun _ => false) [12, 13] [1, 2, 3, 5, 6, 7, 8] 13 [] (by kernel_rfl) fun K hK => ?_ | refine T.rdF1 (id := 5) mixed (fun _ => false) [12, 13] [1, 2, 3, 5, 6, 7, 8] 13 [] (by kernel_rfl) fun K hK => ?_ | (refine ⟨?_, ?_⟩; (focus (intros; refine wpcall_pure rfl (k1) ?_; simp; done))) | (refine ⟨?_, ?_⟩; (focus (intros; refine wpcall_pure rfl (k2) ?_; simp; done))) | (refine ⟨?_, ?_⟩; (focus (intros; refine wpcall_pure rfl (k3) ?_; simp; done))) | refine T.rd (id := 7) mixed (fun _ => false) [12] (by kernel_rfl) fun K hK => ?_ | refine T.rd1 (id := 7) mixed (fun _ => false) [12] (by kernel_rfl) fun K hK => ?_ | refine T.rdF (id := 8) mixed (fun _ => false) [12, 13] [1, 2, 3, 5, 6, 7, 8] 13 [] (by kernel_rfl) fun K hK => ?_ | refine T.rdF1 (id := 8) mixed (fun _ => false) [12, 13] [1, 2, 3, 5, 6, 7, 8] 13 [] (by kernel_rfl) fun K hK => ?_ | (refine ⟨?_, ?_⟩; (focus (intros; refine wpcall_pure rfl (k1) ?_; simp; done))) | (refine ⟨?_, ?_⟩; (focus (intros; refine wpcall_pure rfl (k2) ?_; simp; done))) | (refine ⟨?_, ?_⟩; (focus (intros; refine wpcall_pure rfl (k3) ?_; simp; done))) | refine T.r0 fun K hK => ?_ | refine T.r1 fun K hK => ?_ | (refine ⟨by omega, ?_⟩) | refine T.ct rfl ?_ | refine T.cf rfl ?_ | refine T.seq ?_ | refine T.block ?_ | refine T.skip ?_ | refine T.exit ?_
   ·refine ⟨cTwo 3 c1 c3, o1 && o3, by simp [nCo, nCoS] at *; omega, fun h => ?_, ?_⟩
    ·simp only [Bool.and_eq_true] at h
     exact ⟨(CoV.two (d := d + d') (.inr rfl) (g1 h.1).1 (g3 h.2).1).le (by omega), by simp [groundCo]⟩
    ·clear g1 g2 g3 n1 n2 n3 e1 e2 hn
     refine ACalls.of_body Tryz.func148 (by kernel_rfl) rfl (by kernel_rfl) (by simp [Tryz.ntmps148]) (by simp) ?_
     rw [Tryz.ntmps148]
     repeat' first | ((first | refine aops_end (hK _ ?_) | refine aopsD_end (hK _ ?_) | refine aopsF_end (hK _ ?_)); clear hK K) | ((first | refine aops_go ?_ | refine aopsD_go ?_ | refine aopsF_go ?_ | refine wpcall_pure rfl (k1) ?_ | refine wpcall_pure rfl (k2) ?_ | refine wpcall_pure rfl (k3) ?_); simp; (try (refine gen2 ?_ ?_ <;> intro hq <;> try simp at hq))) | (refine T.ret (Done.tup (Or.inr rfl) ?_) <;> simp [resAs, Tryz.results148, *] <;> omega) | refine T.rdF (id := 4) mixed (fun _ => false) [8] [4, 6] 9 [] (by kernel_rfl) fun K hK => ?_ | refine T.rdF1 (id := 4) mixed (fun _ => false) [8] [4, 6] 9 [] (by kernel_rfl) fun K hK => ?_ | (refine ⟨?_, ?_⟩; (focus (intros; refine wpcall_pure rfl (k1) ?_; simp; done))) | (refine ⟨?_, ?_⟩; (focus (intros; refine wpcall_pure rfl (k2) ?_; simp; done))) | (refine ⟨?_, ?_⟩; (focus (intros; refine wpcall_pure rfl (k3) ?_; simp; done))) | refine T.rdF (id := 5) mixed (fun _ => false) [12, 13] [1, 2, 3, 5, 6, 7, 8] 13 [] (by kernel_rfl) fun K hK => ?_ | refine T.rdF1 (id := 5) mixed (fun _ => false) [12, 13] [1, 2, 3, 5, 6, 7, 8] 13 [] (by kernel_rfl) fun K hK => ?_ | (refine ⟨?_, ?_⟩; (focus (intros; refine wpcall_pure rfl (k1) ?_; simp; done))) | (refine ⟨?_, ?_⟩; (focus (intros; refine wpcall_pure rfl (k2) ?_; simp; done))) | (refine ⟨?_, ?_⟩; (focus (intros; refine wpcall_pure rfl (k3) ?_; simp; done))) | refine T.rd (id := 7) mixed (fun _ => false) [12] (by kernel_rfl) fun K hK => ?_ | refine T.rd1 (id := 7) mixed (fun _ => false) [12] (by kernel_rfl) fun K hK => ?_ | refine T.rdF (id := 8) mixed (fun _ => false) [12, 13] [1, 2, 3, 5, 6, 7, 8] 13 [] (by kernel_rfl) fun K hK => ?_ | refine T.rdF1 (id := 8) mixed (fun _ => false) [12, 13] [1, 2, 3, 5, 6, 7, 8] 13 [] (by kernel_rfl) fun K hK => ?_ | (refine ⟨?_, ?_⟩; (focus (intros; refine wpcall_pure rfl (k1) ?_; simp; done))) | (refine ⟨?_, ?_⟩; (focus (intros; refine wpcall_pure rfl (k2) ?_; simp; done))) | (refine ⟨?_, ?_⟩; (focus (intros; refine wpcall_pure rfl (k3) ?_; simp; done))) | refine T.r0 fun K hK => ?_ | refine T.r1 fun K hK => ?_ | (refine ⟨by omega, ?_⟩) | refine T.ct rfl ?_ | refine T.cf rfl ?_ | refine T.seq ?_ | refine T.block ?_ | refine T.skip ?_ | refine T.exit ?_
  | id _ _ => simp at hk; omega
  | fail _ _ _ => simp at hk; omega
  | inj _ _ => simp at hk; omega
  | proj _ _ _ => simp at hk; omega

theorem compEx_step {n : Nat} (ih : CompEx n) : CompEx (n + 1) := by
 intro a b da db ha hb hda hdb hn
 have hcb := l6Copy_ok b (hb.sz (by omega))
 have hca := l6Copy_ok a (ha.sz (by omega))
 have ha0 := ha
 have hb0 := hb
 cases ha with
 | @fail d lb t h1 h2 h3 =>
  refine ⟨cFail lb t, true, by omega, fun _ => ⟨ha0.le (by omega), fun h => h, fun h => by simp [groundCo] at h⟩, ?_⟩
  refine ACalls.of_body Tryz.func113 (by kernel_rfl) rfl (by kernel_rfl) (by simp [Tryz.ntmps113]) (by simp) ?_
  rw [Tryz.ntmps113]
  repeat' first | ((first | refine aops_end (hK _ ?_) | refine aopsD_end (hK _ ?_) | refine aopsF_end (hK _ ?_)); clear hK K) | ((first | refine aops_go ?_ | refine aopsD_go ?_ | refine aopsF_go ?_ | (refine wpcall_pure ?_ (hca) ?_; (focus (solve | simp)))); simp; (try (refine gen2 ?_ ?_ <;> intro hq <;> try simp at hq))) | (refine T.ret (Done.tup (Or.inr rfl) ?_) <;> simp [resAs, Tryz.results113] <;> omega) | refine T.rdF (id := 5) mixed (fun _ => false) [9, 10] [1, 2, 3, 4, 5] 10 [] (by kernel_rfl) fun K hK => ?_ | refine T.rdF1 (id := 5) mixed (fun _ => false) [9, 10] [1, 2, 3, 4, 5] 10 [] (by kernel_rfl) fun K hK => ?_ | (refine ⟨?_, ?_⟩; (focus (intros; refine wpcall_pure ?_ (hca) ?_; (focus (solve | simp)); simp; done))) | refine T.rd (id := 10) mixed (fun _ => false) [] (by kernel_rfl) fun K hK => ?_ | refine T.rd1 (id := 10) mixed (fun _ => false) [] (by kernel_rfl) fun K hK => ?_ | refine T.rd (id := 11) mixed (fun _ => false) [11] (by kernel_rfl) fun K hK => ?_ | refine T.rd1 (id := 11) mixed (fun _ => false) [11] (by kernel_rfl) fun K hK => ?_ | refine T.rd (id := 12) mixed (fun _ => false) [8] (by kernel_rfl) fun K hK => ?_ | refine T.rd1 (id := 12) mixed (fun _ => false) [8] (by kernel_rfl) fun K hK => ?_ | refine T.rdF (id := 16) mixed (fun _ => false) [7] [5] 8 [] (by kernel_rfl) fun K hK => ?_ | refine T.rdF1 (id := 16) mixed (fun _ => false) [7] [5] 8 [] (by kernel_rfl) fun K hK => ?_ | (refine ⟨?_, ?_⟩; (focus (intros; refine wpcall_pure ?_ (hca) ?_; (focus (solve | simp)); simp; done))) | refine T.rdF (id := 18) mixed (fun _ => false) [9, 10] [0, 2, 3, 4, 5] 10 [] (by kernel_rfl) fun K hK => ?_ | refine T.rdF1 (id := 18) mixed (fun _ => false) [9, 10] [0, 2, 3, 4, 5] 10 [] (by kernel_rfl) fun K hK => ?_ | (refine ⟨?_, ?_⟩; (focus (intros; refine wpcall_pure ?_ (hca) ?_; (focus (solve | simp)); simp; done))) | refine T.r0 fun K hK => ?_ | refine T.r1 fun K hK => ?_ | (refine ⟨by omega, ?_⟩) | refine T.ct rfl ?_ | refine T.cf rfl ?_ | refine T.seq ?_ | refine T.block ?_ | refine T.skip ?_ | refine T.exit ?_
 | @proj d lb x h1 hx hp =>
  have e1 : nCo (cProj lb x) = 1 + nCo x := by simp [nCo, nCoS]
  obtain ⟨c, ok, n1, g1, k1⟩ := ih x b d db hx hb (by omega) hdb (by omega)
  refine ⟨cProj lb c, ok, by simp [nCo, nCoS] at *; omega, fun h => ⟨(CoV.proj (d := d + db) h1 (g1 h).1 ((g1 h).2.1 hp)).le (by omega), fun h => by simp [projCo] at h, fun h => by simp [groundCo] at h⟩, ?_⟩
  clear g1 n1 e1 hn
  refine ACalls.of_body Tryz.func113 (by kernel_rfl) rfl (by kernel_rfl) (by simp [Tryz.ntmps113]) (by simp) ?_
  rw [Tryz.ntmps113]
  repeat' first | ((first | refine aops_end (hK _ ?_) | refine aopsD_end (hK _ ?_) | refine aopsF_end (hK _ ?_)); clear hK K) | ((first | refine aops_go ?_ | refine aopsD_go ?_ | refine aopsF_go ?_ | refine wpcall_pure rfl (k1) ?_); simp; (try (refine gen2 ?_ ?_ <;> intro hq <;> try simp at hq))) | (refine T.ret (Done.tup (Or.inr rfl) ?_) <;> simp [resAs, Tryz.results113] <;> omega) | refine T.rdF (id := 5) mixed (fun _ => false) [9, 10] [1, 2, 3, 4, 5] 10 [] (by kernel_rfl) fun K hK => ?_ | refine T.rdF1 (id := 5) mixed (fun _ => false) [9, 10] [1, 2, 3, 4, 5] 10 [] (by kernel_rfl) fun K hK => ?_ | (refine ⟨?_, ?_⟩; (focus (intros; refine wpcall_pure rfl (k1) ?_; simp; done))) | refine T.rd (id := 10) mixed (fun _ => false) [] (by kernel_rfl) fun K hK => ?_ | refine T.rd1 (id := 10) mixed (fun _ => false) [] (by kernel_rfl) fun K hK => ?_ | refine T.rd (id := 11) mixed (fun _ => false) [11] (by kernel_rfl) fun K hK => ?_ | refine T.rd1 (id := 11) mixed (fun _ => false) [11] (by kernel_rfl) fun K hK => ?_ | refine T.rd (id := 12) mixed (fun _ => false) [8] (by kernel_rfl) fun K hK => ?_ | refine T.rd1 (id := 12) mixed (fun _ => false) [8] (by kernel_rfl) fun K hK => ?_ | refine T.rdF (id := 16) mixed (fun _ => false) [7] [5] 8 [] (by kernel_rfl) fun K hK => ?_ | refine T.rdF1 (id := 16) mixed (fun _ => false) [7] [5] 8 [] (by kernel_rfl) fun K hK => ?_ | (refine ⟨?_, ?_⟩; (focus (intros; refine wpcall_pure rfl (k1) ?_; simp; done))) | refine T.rdF (id := 18) mixed (fun _ => false) [9, 10] [0, 2, 3, 4, 5] 10 [] (by kernel_rfl) fun K hK => ?_ | refine T.rdF1 (id := 18) mixed (fun _ => false) [9, 10] [0, 2, 3, 4, 5] 10 [] (by kernel_rfl) fun K hK => ?_ | (refine ⟨?_, ?_⟩; (focus (intros; refine wpcall_pure rfl (k1) ?_; simp; done))) | refine T.r0 fun K hK => ?_ | refine T.r1 fun K hK => ?_ | (refine ⟨by omega, ?_⟩) | refine T.ct rfl ?_ | refine T.cf rfl ?_ | refine T.seq ?_ | refine T.block ?_ | refine T.skip ?_ | refine T.exit ?_
 | @inj d x hx hg =>
  have e1 : nCo (cInj x) = 1 + nCo x := by simp [nCo, nCoS]
  cases hb with
  | @proj d' lb y h1 hy hp =>
   obtain ⟨t1, r1, r2, q1⟩ := l6TagG_ok hx hg
   obtain ⟨t2, q2⟩ := l6Tag_ok hy
   have e2 : nCo (cProj lb y) = 1 + nCo y := by simp [nCo, nCoS]
   by_cases hte : t1 = t2
   ·obtain ⟨c, ok, n1, g1, k1⟩ := ih x y d d' hx hy (by omega) (by omega) (by omega)
    refine ⟨c, ok, by omega, fun h => ⟨(g1 h).1.le (by omega), fun _ => (g1 h).2.1 (ground_proj hg), fun h => by simp [groundCo] at h⟩, ?_⟩
    clear g1 n1 e1 e2 hn
    refine ACalls.of_body Tryz.func113 (by kernel_rfl) rfl (by kernel_rfl) (by simp [Tryz.ntmps113]) (by simp) ?_
    rw [Tryz.ntmps113]
    repeat' first | ((first | refine aops_end (hK _ ?_) | refine aopsD_end (hK _ ?_) | refine aopsF_end (hK _ ?_)); clear hK K) | ((first | refine aops_go ?_ | refine aopsD_go ?_ | refine aopsF_go ?_ | refine wpcall_pure rfl (q1) ?_ | refine wpcall_pure rfl (q2) ?_ | refine wpcall_pure rfl (k1) ?_); simp [hte]; (try (refine gen2 ?_ ?_ <;> intro hq <;> try simp [hte] at hq))) | (refine T.ret (Done.tup (Or.inr rfl) ?_) <;> simp [resAs, Tryz.results113, *] <;> omega) | refine T.rdF (id := 5) mixed (fun _ => false) [9, 10] [1, 2, 3, 4, 5] 10 [2] (by kernel_rfl) fun K hK => ?_ | refine T.rdF1 (id := 5) mixed (fun _ => false) [9, 10] [1, 2, 3, 4, 5] 10 [2] (by kernel_rfl) fun K hK => ?_ | (refine ⟨?_, ?_⟩; (focus (intros; refine wpcall_pure rfl (q1) ?_; simp; done))) | (refine ⟨?_, ?_⟩; (focus (intros; refine wpcall_pure rfl (q2) ?_; simp; done))) | (refine ⟨?_, ?_⟩; (focus (intros; refine wpcall_pure rfl (k1) ?_; simp; done))) | refine T.rd (id := 10) mixed (fun _ => false) [] (by kernel_rfl) fun K hK => ?_ | refine T.rd1 (id := 10) mixed (fun _ => false) [] (by kernel_rfl) fun K hK => ?_ | refine T.rd (id := 11) mixed (fun _ => false) [11] (by kernel_rfl) fun K hK => ?_ | refine T.rd1 (id := 11) mixed (fun _ => false) [11] (by kernel_rfl) fun K hK => ?_ | refine T.rd (id := 12) mixed (fun _ => false) [8] (by kernel_rfl) fun K hK => ?_ | refine T.rd1 (id := 12) mixed (fun _ => false) [8] (by kernel_rfl) fun K hK => ?_ | refine T.rdF (id := 16) mixed (fun _ => false) [7] [5] 8 [2] (by kernel_rfl) fun K hK => ?_ | refine T.rdF1 (id := 16) mixed (fun _ => false) [7] [5] 8 [2] (by kernel_rfl) fun K hK => ?_ | (refine ⟨?_, ?_⟩; (focus (intros; refine wpcall_pure rfl (q1) ?_; simp; done))) | (refine ⟨?_, ?_⟩; (focus (intros; refine wpcall_pure rfl (q2) ?_; simp; done))) | (refine ⟨?_, ?_⟩; (focus (intros; refine wpcall_pure rfl (k1) ?_; simp; done))) | refine T.rdF (id := 18) mixed (fun _ => false) [9, 10] [0, 2, 3, 4, 5] 10 [2] (by kernel_rfl) fun K hK => ?_ | refine T.rdF1 (id := 18) mixed (fun _ => false) [9, 10] [0, 2, 3, 4, 5] 10 [2] (by kernel_rfl) fun K hK => ?_ | (refine ⟨?_, ?_⟩; (focus (intros; refine wpcall_pure rfl (q1) ?_; simp; done))) | (refine ⟨?_, ?_⟩; (focus (intros; refine wpcall_pure rfl (q2) ?_; simp; done))) | (refine ⟨?_, ?_⟩; (focus (intros; refine wpcall_pure rfl (k1) ?_; simp; done))) | refine T.r0 fun K hK => ?_ | refine T.r1 fun K hK => ?_ | (refine ⟨by omega, ?_⟩) | refine T.ct rfl ?_ | refine T.cf rfl ?_ | refine T.seq ?_ | refine T.block ?_ | refine T.skip ?_ | refine T.exit ?_
   ·refine ⟨cFail lb t1, true, by simp [nCo, nCoS], fun _ => ⟨(CoV.fail (d := 0) h1 r1 r2).le (by omega), fun _ => by simp [projCo], fun h => by simp [groundCo] at h⟩, ?_⟩
    clear e1 e2 hn
    refine ACalls.of_body Tryz.func113 (by kernel_rfl) rfl (by kernel_rfl) (by simp [Tryz.ntmps113]) (by simp) ?_
    rw [Tryz.ntmps113]
    repeat' first | ((first | refine aops_end (hK _ ?_) | refine aopsD_end (hK _ ?_) | refine aopsF_end (hK _ ?_)); clear hK K) | ((first | refine aops_go ?_ | refine aopsD_go ?_ | refine aopsF_go ?_ | refine wpcall_pure rfl (q1) ?_ | refine wpcall_pure rfl (q2) ?_); simp [hte]; (try (refine gen2 ?_ ?_ <;> intro hq <;> try simp [hte] at hq))) | (refine T.ret (Done.tup (Or.inr rfl) ?_) <;> simp [resAs, Tryz.results113, *] <;> omega) | refine T.rdF (id := 5) mixed (fun _ => false) [9, 10] [1, 2, 3, 4, 5] 10 [2] (by kernel_rfl) fun K hK => ?_ | refine T.rdF1 (id := 5) mixed (fun _ => false) [9, 10] [1, 2, 3, 4, 5] 10 [2] (by kernel_rfl) fun K hK => ?_ | (refine ⟨?_, ?_⟩; (focus (intros; refine wpcall_pure rfl (q1) ?_; simp; done))) | (refine ⟨?_, ?_⟩; (focus (intros; refine wpcall_pure rfl (q2) ?_; simp; done))) | refine T.rd (id := 10) mixed (fun _ => false) [] (by kernel_rfl) fun K hK => ?_ | refine T.rd1 (id := 10) mixed (fun _ => false) [] (by kernel_rfl) fun K hK => ?_ | refine T.rd (id := 11) mixed (fun _ => false) [11] (by kernel_rfl) fun K hK => ?_ | refine T.rd1 (id := 11) mixed (fun _ => false) [11] (by kernel_rfl) fun K hK => ?_ | refine T.rd (id := 12) mixed (fun _ => false) [8] (by kernel_rfl) fun K hK => ?_ | refine T.rd1 (id := 12) mixed (fun _ => false) [8] (by kernel_rfl) fun K hK => ?_ | refine T.rdF (id := 16) mixed (fun _ => false) [7] [5] 8 [2] (by kernel_rfl) fun K hK => ?_ | refine T.rdF1 (id := 16) mixed (fun _ => false) [7] [5] 8 [2] (by kernel_rfl) fun K hK => ?_ | (refine ⟨?_, ?_⟩; (focus (intros; refine wpcall_pure rfl (q1) ?_; simp; done))) | (refine ⟨?_, ?_⟩; (focus (intros; refine wpcall_pure rfl (q2) ?_; simp; done))) | refine T.rdF (id := 18) mixed (fun _ => false) [9, 10] [0, 2, 3, 4, 5] 10 [2] (by kernel_rfl) fun K hK => ?_ | refine T.rdF1 (id := 18) mixed (fun _ => false) [9, 10] [0, 2, 3, 4, 5] 10 [2] (by kernel_rfl) fun K hK => ?_ | (refine ⟨?_, ?_⟩; (focus (intros; refine wpcall_pure rfl (q1) ?_; simp; done))) | (refine ⟨?_, ?_⟩; (focus (intros; refine wpcall_pure rfl (q2) ?_; simp; done))) | refine T.r0 fun K hK => ?_ | refine T.r1 fun K hK => ?_ | (refine ⟨by omega, ?_⟩) | refine T.ct rfl ?_ | refine T.cf rfl ?_ | refine T.seq ?_ | refine T.block ?_ | refine T.skip ?_ | refine T.exit ?_
  | @id d' t h1 h2 =>
   refine ⟨cInj x, decide (t = 1), by omega, fun _ => ⟨ha0.le (by omega), fun h => h, fun h => by simp [groundCo] at h⟩, ?_⟩
   refine ACalls.of_body Tryz.func113 (by kernel_rfl) rfl (by kernel_rfl) (by simp [Tryz.ntmps113]) (by simp) ?_
   rw [Tryz.ntmps113]
   repeat' first | ((first | refine aops_end (hK _ ?_) | refine aopsD_end (hK _ ?_) | refine aopsF_end (hK _ ?_)); clear hK K) | ((first | refine aops_go ?_ | refine aopsD_go ?_ | refine aopsF_go ?_ | (refine wpcall_pure ?_ (hca) ?_; (focus (solve | simp)))); simp; (try (refine gen2 ?_ ?_ <;> intro hq <;> try simp at hq))) | (refine T.ret (Done.tup (Or.inr rfl) ?_) <;> simp [resAs, Tryz.results113, *] <;> omega) | refine T.rdF (id := 5) mixed (fun _ => false) [9, 10] [1, 2, 3, 4, 5] 10 [] (by kernel_rfl) fun K hK => ?_ | refine T.rdF1 (id := 5) mixed (fun _ => false) [9, 10] [1, 2, 3, 4, 5] 10 [] (by kernel_rfl) fun K hK => ?_ | (refine ⟨?_, ?_⟩; (focus (intros; refine wpcall_pure ?_ (hca) ?_; (focus (solve | simp)); simp; done))) | refine T.rd (id := 10) mixed (fun _ => false) [] (by kernel_rfl) fun K hK => ?_ | refine T.rd1 (id := 10) mixed (fun _ => false) [] (by kernel_rfl) fun K hK => ?_ | refine T.rd (id := 11) mixed (fun _ => false) [11] (by kernel_rfl) fun K hK => ?_ | refine T.rd1 (id := 11) mixed (fun _ => false) [11] (by kernel_rfl) fun K hK => ?_ | refine T.rd (id := 12) mixed (fun _ => false) [8] (by kernel_rfl) fun K hK => ?_ | refine T.rd1 (id := 12) mixed (fun _ => false) [8] (by kernel_rfl) fun K hK => ?_ | refine T.rdF (id := 16) mixed (fun _ => false) [7] [5] 8 [] (by kernel_rfl) fun K hK => ?_ | refine T.rdF1 (id := 16) mixed (fun _ => false) [7] [5] 8 [] (by kernel_rfl) fun K hK => ?_ | (refine ⟨?_, ?_⟩; (focus (intros; refine wpcall_pure ?_ (hca) ?_; (focus (solve | simp)); simp; done))) | refine T.rdF (id := 18) mixed (fun _ => false) [9, 10] [0, 2, 3, 4, 5] 10 [] (by kernel_rfl) fun K hK => ?_ | refine T.rdF1 (id := 18) mixed (fun _ => false) [9, 10] [0, 2, 3, 4, 5] 10 [] (by kernel_rfl) fun K hK => ?_ | (refine ⟨?_, ?_⟩; (focus (intros; refine wpcall_pure ?_ (hca) ?_; (focus (solve | simp)); simp; done))) | refine T.r0 fun K hK => ?_ | refine T.r1 fun K hK => ?_ | (refine ⟨by omega, ?_⟩) | refine T.ct rfl ?_ | refine T.cf rfl ?_ | refine T.seq ?_ | refine T.block ?_ | refine T.skip ?_ | refine T.exit ?_
  | @fail d' lb t h1 h2 h3 =>
   refine ⟨cInj x, false, by omega, fun h => by simp at h, ?_⟩
   refine ACalls.of_body Tryz.func113 (by kernel_rfl) rfl (by kernel_rfl) (by simp [Tryz.ntmps113]) (by simp) ?_
   rw [Tryz.ntmps113]
   repeat' first | ((first | refine aops_end (hK _ ?_) | refine aopsD_end (hK _ ?_) | refine aopsF_end (hK _ ?_)); clear hK K) | ((first | refine aops_go ?_ | refine aopsD_go ?_ | refine aopsF_go ?_ | (refine wpcall_pure ?_ (hca) ?_; (focus (solve | simp)))); simp; (try (refine gen2 ?_ ?_ <;> intro hq <;> try simp at hq))) | (refine T.ret (Done.tup (Or.inr rfl) ?_) <;> simp [resAs, Tryz.results113, *] <;> omega) | refine T.rdF (id := 5) mixed (fun _ => false) [9, 10] [1, 2, 3, 4, 5] 10 [] (by kernel_rfl) fun K hK => ?_ | refine T.rdF1 (id := 5) mixed (fun _ => false) [9, 10] [1, 2, 3, 4, 5] 10 [] (by kernel_rfl) fun K hK => ?_ | (refine ⟨?_, ?_⟩; (focus (intros; refine wpcall_pure ?_ (hca) ?_; (focus (solve | simp)); simp; done))) | refine T.rd (id := 10) mixed (fun _ => false) [] (by kernel_rfl) fun K hK => ?_ | refine T.rd1 (id := 10) mixed (fun _ => false) [] (by kernel_rfl) fun K hK => ?_ | refine T.rd (id := 11) mixed (fun _ => false) [11] (by kernel_rfl) fun K hK => ?_ | refine T.rd1 (id := 11) mixed (fun _ => false) [11] (by kernel_rfl) fun K hK => ?_ | refine T.rd (id := 12) mixed (fun _ => false) [8] (by kernel_rfl) fun K hK => ?_ | refine T.rd1 (id := 12) mixed (fun _ => false) [8] (by kernel_rfl) fun K hK => ?_ | refine T.rdF (id := 16) mixed (fun _ => false) [7] [5] 8 [] (by kernel_rfl) fun K hK => ?_ | refine T.rdF1 (id := 16) mixed (fun _ => false) [7] [5] 8 [] (by kernel_rfl) fun K hK => ?_ | (refine ⟨?_, ?_⟩; (focus (intros; refine wpcall_pure ?_ (hca) ?_; (focus (solve | simp)); simp; done))) | refine T.rdF (id := 18) mixed (fun _ => false) [9, 10] [0, 2, 3, 4, 5] 10 [] (by kernel_rfl) fun K hK => ?_ | refine T.rdF1 (id := 18) mixed (fun _ => false) [9, 10] [0, 2, 3, 4, 5] 10 [] (by kernel_rfl) fun K hK => ?_ | (refine ⟨?_, ?_⟩; (focus (intros; refine wpcall_pure ?_ (hca) ?_; (focus (solve | simp)); simp; done))) | refine T.r0 fun K hK => ?_ | refine T.r1 fun K hK => ?_ | (refine ⟨by omega, ?_⟩) | refine T.ct rfl ?_ | refine T.cf rfl ?_ | refine T.seq ?_ | refine T.block ?_ | refine T.skip ?_ | refine T.exit ?_
  | @inj d' y hy hg' =>
   refine ⟨cInj x, false, by omega, fun h => by simp at h, ?_⟩
   refine ACalls.of_body Tryz.func113 (by kernel_rfl) rfl (by kernel_rfl) (by simp [Tryz.ntmps113]) (by simp) ?_
   rw [Tryz.ntmps113]
   repeat' first | ((first | refine aops_end (hK _ ?_) | refine aopsD_end (hK _ ?_) | refine aopsF_end (hK _ ?_)); clear hK K) | ((first | refine aops_go ?_ | refine aopsD_go ?_ | refine aopsF_go ?_ | (refine wpcall_pure ?_ (hca) ?_; (focus (solve | simp)))); simp; (try (refine gen2 ?_ ?_ <;> intro hq <;> try simp at hq))) | (refine T.ret (Done.tup (Or.inr rfl) ?_) <;> simp [resAs, Tryz.results113, *] <;> omega) | refine T.rdF (id := 5) mixed (fun _ => false) [9, 10] [1, 2, 3, 4, 5] 10 [] (by kernel_rfl) fun K hK => ?_ | refine T.rdF1 (id := 5) mixed (fun _ => false) [9, 10] [1, 2, 3, 4, 5] 10 [] (by kernel_rfl) fun K hK => ?_ | (refine ⟨?_, ?_⟩; (focus (intros; refine wpcall_pure ?_ (hca) ?_; (focus (solve | simp)); simp; done))) | refine T.rd (id := 10) mixed (fun _ => false) [] (by kernel_rfl) fun K hK => ?_ | refine T.rd1 (id := 10) mixed (fun _ => false) [] (by kernel_rfl) fun K hK => ?_ | refine T.rd (id := 11) mixed (fun _ => false) [11] (by kernel_rfl) fun K hK => ?_ | refine T.rd1 (id := 11) mixed (fun _ => false) [11] (by kernel_rfl) fun K hK => ?_ | refine T.rd (id := 12) mixed (fun _ => false) [8] (by kernel_rfl) fun K hK => ?_ | refine T.rd1 (id := 12) mixed (fun _ => false) [8] (by kernel_rfl) fun K hK => ?_ | refine T.rdF (id := 16) mixed (fun _ => false) [7] [5] 8 [] (by kernel_rfl) fun K hK => ?_ | refine T.rdF1 (id := 16) mixed (fun _ => false) [7] [5] 8 [] (by kernel_rfl) fun K hK => ?_ | (refine ⟨?_, ?_⟩; (focus (intros; refine wpcall_pure ?_ (hca) ?_; (focus (solve | simp)); simp; done))) | refine T.rdF (id := 18) mixed (fun _ => false) [9, 10] [0, 2, 3, 4, 5] 10 [] (by kernel_rfl) fun K hK => ?_ | refine T.rdF1 (id := 18) mixed (fun _ => false) [9, 10] [0, 2, 3, 4, 5] 10 [] (by kernel_rfl) fun K hK => ?_ | (refine ⟨?_, ?_⟩; (focus (intros; refine wpcall_pure ?_ (hca) ?_; (focus (solve | simp)); simp; done))) | refine T.r0 fun K hK => ?_ | refine T.r1 fun K hK => ?_ | (refine ⟨by omega, ?_⟩) | refine T.ct rfl ?_ | refine T.cf rfl ?_ | refine T.seq ?_ | refine T.block ?_ | refine T.skip ?_ | refine T.exit ?_
  | @two d' k y z hk hy hz =>
   refine ⟨cInj x, false, by omega, fun h => by simp at h, ?_⟩
   rcases hk with rfl | rfl
   all_goals
    refine ACalls.of_body Tryz.func113 (by kernel_rfl) rfl (by kernel_rfl) (by simp [Tryz.ntmps113]) (by simp) ?_
    rw [Tryz.ntmps113]
    repeat' first | ((first | refine aops_end (hK _ ?_) | refine aopsD_end (hK _ ?_) | refine aopsF_end (hK _ ?_)); clear hK K) | ((first | refine aops_go ?_ | refine aopsD_go ?_ | refine aopsF_go ?_ | (refine wpcall_pure ?_ (hca) ?_; (focus (solve | simp)))); simp; (try (refine gen2 ?_ ?_ <;> intro hq <;> try simp at hq))) | (refine T.ret (Done.tup (Or.inr rfl) ?_) <;> simp [resAs, Tryz.results113, *] <;> omega) | refine T.rdF (id := 5) mixed (fun _ => false) [9, 10] [1, 2, 3, 4, 5] 10 [] (by kernel_rfl) fun K hK => ?_ | refine T.rdF1 (id := 5) mixed (fun _ => false) [9, 10] [1, 2, 3, 4, 5] 10 [] (by kernel_rfl) fun K hK => ?_ | (refine ⟨?_, ?_⟩; (focus (intros; refine wpcall_pure ?_ (hca) ?_; (focus (solve | simp)); simp; done))) | refine T.rd (id := 10) mixed (fun _ => false) [] (by kernel_rfl) fun K hK => ?_ | refine T.rd1 (id := 10) mixed (fun _ => false) [] (by kernel_rfl) fun K hK => ?_ | refine T.rd (id := 11) mixed (fun _ => false) [11] (by kernel_rfl) fun K hK => ?_ | refine T.rd1 (id := 11) mixed (fun _ => false) [11] (by kernel_rfl) fun K hK => ?_ | refine T.rd (id := 12) mixed (fun _ => false) [8] (by kernel_rfl) fun K hK => ?_ | refine T.rd1 (id := 12) mixed (fun _ => false) [8] (by kernel_rfl) fun K hK => ?_ | refine T.rdF (id := 16) mixed (fun _ => false) [7] [5] 8 [] (by kernel_rfl) fun K hK => ?_ | refine T.rdF1 (id := 16) mixed (fun _ => false) [7] [5] 8 [] (by kernel_rfl) fun K hK => ?_ | (refine ⟨?_, ?_⟩; (focus (intros; refine wpcall_pure ?_ (hca) ?_; (focus (solve | simp)); simp; done))) | refine T.rdF (id := 18) mixed (fun _ => false) [9, 10] [0, 2, 3, 4, 5] 10 [] (by kernel_rfl) fun K hK => ?_ | refine T.rdF1 (id := 18) mixed (fun _ => false) [9, 10] [0, 2, 3, 4, 5] 10 [] (by kernel_rfl) fun K hK => ?_ | (refine ⟨?_, ?_⟩; (focus (intros; refine wpcall_pure ?_ (hca) ?_; (focus (solve | simp)); simp; done))) | refine T.r0 fun K hK => ?_ | refine T.r1 fun K hK => ?_ | (refine ⟨by omega, ?_⟩) | refine T.ct rfl ?_ | refine T.cf rfl ?_ | refine T.seq ?_ | refine T.block ?_ | refine T.skip ?_ | refine T.exit ?_
 | @id d t h1 h2 =>
  by_cases ht : t = 1
  ·subst ht
   refine ⟨b, decide (b.kind = 5) || (decide (b.kind = 1) && decide (b.tag = 1)), by omega, fun _ => ⟨hb.le (by omega), fun h => by simp [projCo] at h, fun h => by simp [groundCo] at h⟩, ?_⟩
   refine ACalls.of_body Tryz.func113 (by kernel_rfl) rfl (by kernel_rfl) (by simp [Tryz.ntmps113]) (by simp) ?_
   rw [Tryz.ntmps113]
   repeat' first | ((first | refine aops_end (hK _ ?_) | refine aopsD_end (hK _ ?_) | refine aopsF_end (hK _ ?_)); clear hK K) | ((first | refine aops_go ?_ | refine aopsD_go ?_ | refine aopsF_go ?_ | refine wpcall_pure rfl (hcb) ?_); simp; (try (refine gen2 ?_ ?_ <;> intro hq <;> try simp at hq))) | (refine T.ret (Done.tup (Or.inr rfl) ?_) <;> simp [resAs, Tryz.results113, *] <;> omega) | refine T.rdF (id := 5) mixed (fun _ => false) [9, 10] [1, 2, 3, 4, 5] 10 [] (by kernel_rfl) fun K hK => ?_ | refine T.rdF1 (id := 5) mixed (fun _ => false) [9, 10] [1, 2, 3, 4, 5] 10 [] (by kernel_rfl) fun K hK => ?_ | (refine ⟨?_, ?_⟩; (focus (intros; refine wpcall_pure rfl (hcb) ?_; simp; done))) | refine T.rd (id := 10) mixed (fun _ => false) [] (by kernel_rfl) fun K hK => ?_ | refine T.rd1 (id := 10) mixed (fun _ => false) [] (by kernel_rfl) fun K hK => ?_ | refine T.rd (id := 11) mixed (fun _ => false) [11] (by kernel_rfl) fun K hK => ?_ | refine T.rd1 (id := 11) mixed (fun _ => false) [11] (by kernel_rfl) fun K hK => ?_ | refine T.rd (id := 12) mixed (fun _ => false) [8] (by kernel_rfl) fun K hK => ?_ | refine T.rd1 (id := 12) mixed (fun _ => false) [8] (by kernel_rfl) fun K hK => ?_ | refine T.rdF (id := 16) mixed (fun _ => false) [7] [5] 8 [] (by kernel_rfl) fun K hK => ?_ | refine T.rdF1 (id := 16) mixed (fun _ => false) [7] [5] 8 [] (by kernel_rfl) fun K hK => ?_ | (refine ⟨?_, ?_⟩; (focus (intros; refine wpcall_pure rfl (hcb) ?_; simp; done))) | refine T.rdF (id := 18) mixed (fun _ => false) [9, 10] [0, 2, 3, 4, 5] 10 [] (by kernel_rfl) fun K hK => ?_ | refine T.rdF1 (id := 18) mixed (fun _ => false) [9, 10] [0, 2, 3, 4, 5] 10 [] (by kernel_rfl) fun K hK => ?_ | (refine ⟨?_, ?_⟩; (focus (intros; refine wpcall_pure rfl (hcb) ?_; simp; done))) | refine T.r0 fun K hK => ?_ | refine T.r1 fun K hK => ?_ | (refine ⟨by omega, ?_⟩) | refine T.ct rfl ?_ | refine T.cf rfl ?_ | refine T.seq ?_ | refine T.block ?_ | refine T.skip ?_ | refine T.exit ?_
  have hgr : groundCo (cId t) = true := by simp [groundCo, ht]
  cases hb with
  | @fail d' lb u h3 h4 h5 =>
   obtain ⟨t1, r1, r2, q1⟩ := l6TagG_ok ha0 hgr
   refine ⟨cFail lb u, decide (t1 = u), by omega, fun _ => ⟨hb0.le (by omega), fun _ => by simp [projCo], fun _ h => by simp [groundCo] at h⟩, ?_⟩
   clear hn
   refine ACalls.of_body Tryz.func113 (by kernel_rfl) rfl (by kernel_rfl) (by simp [Tryz.ntmps113]) (by simp) ?_
   rw [Tryz.ntmps113]
   repeat' first | ((first | refine aops_end (hK _ ?_) | refine aopsD_end (hK _ ?_) | refine aopsF_end (hK _ ?_)); clear hK K) | ((first | refine aops_go ?_ | refine aopsD_go ?_ | refine aopsF_go ?_ | (refine wpcall_pure ?_ (hcb) ?_; (focus (solve | simp [ht]))) | (refine wpcall_pure ?_ (q1) ?_; (focus (solve | simp [ht])))); simp [ht]; (try (refine gen2 ?_ ?_ <;> intro hq <;> try simp [ht] at hq))) | (refine T.ret (Done.tup (Or.inr rfl) ?_) <;> simp [resAs, Tryz.results113, *] <;> omega) | refine T.rdF (id := 5) mixed (fun _ => false) [9, 10] [1, 2, 3, 4, 5] 10 [2] (by kernel_rfl) fun K hK => ?_ | refine T.rdF1 (id := 5) mixed (fun _ => false) [9, 10] [1, 2, 3, 4, 5] 10 [2] (by kernel_rfl) fun K hK => ?_ | (refine ⟨?_, ?_⟩; (focus (intros; refine wpcall_pure ?_ (hcb) ?_; (focus (solve | simp [ht])); simp; done))) | (refine ⟨?_, ?_⟩; (focus (intros; refine wpcall_pure ?_ (q1) ?_; (focus (solve | simp [ht])); simp; done))) | refine T.rd (id := 10) mixed (fun _ => false) [] (by kernel_rfl) fun K hK => ?_ | refine T.rd1 (id := 10) mixed (fun _ => false) [] (by kernel_rfl) fun K hK => ?_ | refine T.rd (id := 11) mixed (fun _ => false) [11] (by kernel_rfl) fun K hK => ?_ | refine T.rd1 (id := 11) mixed (fun _ => false) [11] (by kernel_rfl) fun K hK => ?_ | refine T.rd (id := 12) mixed (fun _ => false) [8] (by kernel_rfl) fun K hK => ?_ | refine T.rd1 (id := 12) mixed (fun _ => false) [8] (by kernel_rfl) fun K hK => ?_ | refine T.rdF (id := 16) mixed (fun _ => false) [7] [5] 8 [2] (by kernel_rfl) fun K hK => ?_ | refine T.rdF1 (id := 16) mixed (fun _ => false) [7] [5] 8 [2] (by kernel_rfl) fun K hK => ?_ | (refine ⟨?_, ?_⟩; (focus (intros; refine wpcall_pure ?_ (hcb) ?_; (focus (solve | simp [ht])); simp; done))) | (refine ⟨?_, ?_⟩; (focus (intros; refine wpcall_pure ?_ (q1) ?_; (focus (solve | simp [ht])); simp; done))) | refine T.rdF (id := 18) mixed (fun _ => false) [9, 10] [0, 2, 3, 4, 5] 10 [2] (by kernel_rfl) fun K hK => ?_ | refine T.rdF1 (id := 18) mixed (fun _ => false) [9, 10] [0, 2, 3, 4, 5] 10 [2] (by kernel_rfl) fun K hK => ?_ | (refine ⟨?_, ?_⟩; (focus (intros; refine wpcall_pure ?_ (hcb) ?_; (focus (solve | simp [ht])); simp; done))) | (refine ⟨?_, ?_⟩; (focus (intros; refine wpcall_pure ?_ (q1) ?_; (focus (solve | simp [ht])); simp; done))) | refine T.r0 fun K hK => ?_ | refine T.r1 fun K hK => ?_ | (refine ⟨by omega, ?_⟩) | refine T.ct rfl ?_ | refine T.cf rfl ?_ | refine T.seq ?_ | refine T.block ?_ | refine T.skip ?_ | refine T.exit ?_
  | @inj d' y hy hg' =>
   have e2 : nCo (cInj y) = 1 + nCo y := by simp [nCo, nCoS]
   obtain ⟨c, ok, n1, g1, k1⟩ := twoEx ih ha0 hy hda (by omega) hgr (by omega)
   refine ⟨cInj c, ok, by simp [nCo, nCoS] at *; omega, fun h => ⟨(CoV.inj (g1 h).1 (g1 h).2).le (by omega), fun _ => by simp [projCo], fun _ h => by simp [groundCo] at h⟩, ?_⟩
   clear g1 n1 e2 hn
   refine ACalls.of_body Tryz.func113 (by kernel_rfl) rfl (by kernel_rfl) (by simp [Tryz.ntmps113]) (by simp) ?_
   rw [Tryz.ntmps113]
   repeat' first | ((first | refine aops_end (hK _ ?_) | refine aopsD_end (hK _ ?_) | refine aopsF_end (hK _ ?_)); clear hK K) | ((first | refine aops_go ?_ | refine aopsD_go ?_ | refine aopsF_go ?_ | (refine wpcall_pure ?_ (k1) ?_; (focus (solve | simp [ht])))); simp [ht]; (try (refine gen2 ?_ ?_ <;> intro hq <;> try simp [ht] at hq))) | (refine T.ret (Done.tup (Or.inr rfl) ?_) <;> simp [resAs, Tryz.results113, *] <;> omega) | refine T.rdF (id := 5) mixed (fun _ => false) [9, 10] [1, 2, 3, 4, 5] 10 [2] (by kernel_rfl) fun K hK => ?_ | refine T.rdF1 (id := 5) mixed (fun _ => false) [9, 10] [1, 2, 3, 4, 5] 10 [2] (by kernel_rfl) fun K hK => ?_ | (refine ⟨?_, ?_⟩; (focus (intros; refine wpcall_pure ?_ (k1) ?_; (focus (solve | simp [ht])); simp; done))) | refine T.rd (id := 10) mixed (fun _ => false) [] (by kernel_rfl) fun K hK => ?_ | refine T.rd1 (id := 10) mixed (fun _ => false) [] (by kernel_rfl) fun K hK => ?_ | refine T.rd (id := 11) mixed (fun _ => false) [11] (by kernel_rfl) fun K hK => ?_ | refine T.rd1 (id := 11) mixed (fun _ => false) [11] (by kernel_rfl) fun K hK => ?_ | refine T.rd (id := 12) mixed (fun _ => false) [8] (by kernel_rfl) fun K hK => ?_ | refine T.rd1 (id := 12) mixed (fun _ => false) [8] (by kernel_rfl) fun K hK => ?_ | refine T.rdF (id := 16) mixed (fun _ => false) [7] [5] 8 [2] (by kernel_rfl) fun K hK => ?_ | refine T.rdF1 (id := 16) mixed (fun _ => false) [7] [5] 8 [2] (by kernel_rfl) fun K hK => ?_ | (refine ⟨?_, ?_⟩; (focus (intros; refine wpcall_pure ?_ (k1) ?_; (focus (solve | simp [ht])); simp; done))) | refine T.rdF (id := 18) mixed (fun _ => false) [9, 10] [0, 2, 3, 4, 5] 10 [2] (by kernel_rfl) fun K hK => ?_ | refine T.rdF1 (id := 18) mixed (fun _ => false) [9, 10] [0, 2, 3, 4, 5] 10 [2] (by kernel_rfl) fun K hK => ?_ | (refine ⟨?_, ?_⟩; (focus (intros; refine wpcall_pure ?_ (k1) ?_; (focus (solve | simp [ht])); simp; done))) | refine T.r0 fun K hK => ?_ | refine T.r1 fun K hK => ?_ | (refine ⟨by omega, ?_⟩) | refine T.ct rfl ?_ | refine T.cf rfl ?_ | refine T.seq ?_ | refine T.block ?_ | refine T.skip ?_ | refine T.exit ?_
  | @id d' u h3 h4 =>
   obtain ⟨c, ok, n1, g1, k1⟩ := twoEx ih ha0 hb0 hda hdb hgr hn
   refine ⟨c, ok, n1, fun h => ⟨(g1 h).1, fun _ => ground_proj (g1 h).2, fun _ _ => (g1 h).2⟩, ?_⟩
   clear g1 n1 hn
   refine ACalls.of_body Tryz.func113 (by kernel_rfl) rfl (by kernel_rfl) (by simp [Tryz.ntmps113]) (by simp) ?_
   rw [Tryz.ntmps113]
   repeat' first | ((first | refine aops_end (hK _ ?_) | refine aopsD_end (hK _ ?_) | refine aopsF_end (hK _ ?_)); clear hK K) | ((first | refine aops_go ?_ | refine aopsD_go ?_ | refine aopsF_go ?_ | (refine wpcall_pure ?_ (k1) ?_; (focus (solve | simp [ht])))); simp [ht]; (try (refine gen2 ?_ ?_ <;> intro hq <;> try simp [ht] at hq))) | (refine T.ret (Done.tup (Or.inr rfl) ?_) <;> simp [resAs, Tryz.results113, *] <;> omega) | refine T.rdF (id := 5) mixed (fun _ => false) [9, 10] [1, 2, 3, 4, 5] 10 [] (by kernel_rfl) fun K hK => ?_ | refine T.rdF1 (id := 5) mixed (fun _ => false) [9, 10] [1, 2, 3, 4, 5] 10 [] (by kernel_rfl) fun K hK => ?_ | (refine ⟨?_, ?_⟩; (focus (intros; refine wpcall_pure ?_ (k1) ?_; (focus (solve | simp [ht])); simp; done))) | refine T.rd (id := 10) mixed (fun _ => false) [] (by kernel_rfl) fun K hK => ?_ | refine T.rd1 (id := 10) mixed (fun _ => false) [] (by kernel_rfl) fun K hK => ?_ | refine T.rd (id := 11) mixed (fun _ => false) [11] (by kernel_rfl) fun K hK => ?_ | refine T.rd1 (id := 11) mixed (fun _ => false) [11] (by kernel_rfl) fun K hK => ?_ | refine T.rd (id := 12) mixed (fun _ => false) [8] (by kernel_rfl) fun K hK => ?_ | refine T.rd1 (id := 12) mixed (fun _ => false) [8] (by kernel_rfl) fun K hK => ?_ | refine T.rdF (id := 16) mixed (fun _ => false) [7] [5] 8 [] (by kernel_rfl) fun K hK => ?_ | refine T.rdF1 (id := 16) mixed (fun _ => false) [7] [5] 8 [] (by kernel_rfl) fun K hK => ?_ | (refine ⟨?_, ?_⟩; (focus (intros; refine wpcall_pure ?_ (k1) ?_; (focus (solve | simp [ht])); simp; done))) | refine T.rdF (id := 18) mixed (fun _ => false) [9, 10] [0, 2, 3, 4, 5] 10 [] (by kernel_rfl) fun K hK => ?_ | refine T.rdF1 (id := 18) mixed (fun _ => false) [9, 10] [0, 2, 3, 4, 5] 10 [] (by kernel_rfl) fun K hK => ?_ | (refine ⟨?_, ?_⟩; (focus (intros; refine wpcall_pure ?_ (k1) ?_; (focus (solve | simp [ht])); simp; done))) | refine T.r0 fun K hK => ?_ | refine T.r1 fun K hK => ?_ | (refine ⟨by omega, ?_⟩) | refine T.ct rfl ?_ | refine T.cf rfl ?_ | refine T.seq ?_ | refine T.block ?_ | refine T.skip ?_ | refine T.exit ?_
  | @proj d' lb y h3 hy hp =>
   obtain ⟨c, ok, n1, g1, k1⟩ := twoEx ih ha0 hb0 hda hdb hgr hn
   refine ⟨c, ok, n1, fun h => ⟨(g1 h).1, fun _ => ground_proj (g1 h).2, fun _ _ => (g1 h).2⟩, ?_⟩
   clear g1 n1 hn
   refine ACalls.of_body Tryz.func113 (by kernel_rfl) rfl (by kernel_rfl) (by simp [Tryz.ntmps113]) (by simp) ?_
   rw [Tryz.ntmps113]
   repeat' first | ((first | refine aops_end (hK _ ?_) | refine aopsD_end (hK _ ?_) | refine aopsF_end (hK _ ?_)); clear hK K) | ((first | refine aops_go ?_ | refine aopsD_go ?_ | refine aopsF_go ?_ | (refine wpcall_pure ?_ (k1) ?_; (focus (solve | simp [ht])))); simp [ht]; (try (refine gen2 ?_ ?_ <;> intro hq <;> try simp [ht] at hq))) | (refine T.ret (Done.tup (Or.inr rfl) ?_) <;> simp [resAs, Tryz.results113, *] <;> omega) | refine T.rdF (id := 5) mixed (fun _ => false) [9, 10] [1, 2, 3, 4, 5] 10 [] (by kernel_rfl) fun K hK => ?_ | refine T.rdF1 (id := 5) mixed (fun _ => false) [9, 10] [1, 2, 3, 4, 5] 10 [] (by kernel_rfl) fun K hK => ?_ | (refine ⟨?_, ?_⟩; (focus (intros; refine wpcall_pure ?_ (k1) ?_; (focus (solve | simp [ht])); simp; done))) | refine T.rd (id := 10) mixed (fun _ => false) [] (by kernel_rfl) fun K hK => ?_ | refine T.rd1 (id := 10) mixed (fun _ => false) [] (by kernel_rfl) fun K hK => ?_ | refine T.rd (id := 11) mixed (fun _ => false) [11] (by kernel_rfl) fun K hK => ?_ | refine T.rd1 (id := 11) mixed (fun _ => false) [11] (by kernel_rfl) fun K hK => ?_ | refine T.rd (id := 12) mixed (fun _ => false) [8] (by kernel_rfl) fun K hK => ?_ | refine T.rd1 (id := 12) mixed (fun _ => false) [8] (by kernel_rfl) fun K hK => ?_ | refine T.rdF (id := 16) mixed (fun _ => false) [7] [5] 8 [] (by kernel_rfl) fun K hK => ?_ | refine T.rdF1 (id := 16) mixed (fun _ => false) [7] [5] 8 [] (by kernel_rfl) fun K hK => ?_ | (refine ⟨?_, ?_⟩; (focus (intros; refine wpcall_pure ?_ (k1) ?_; (focus (solve | simp [ht])); simp; done))) | refine T.rdF (id := 18) mixed (fun _ => false) [9, 10] [0, 2, 3, 4, 5] 10 [] (by kernel_rfl) fun K hK => ?_ | refine T.rdF1 (id := 18) mixed (fun _ => false) [9, 10] [0, 2, 3, 4, 5] 10 [] (by kernel_rfl) fun K hK => ?_ | (refine ⟨?_, ?_⟩; (focus (intros; refine wpcall_pure ?_ (k1) ?_; (focus (solve | simp [ht])); simp; done))) | refine T.r0 fun K hK => ?_ | refine T.r1 fun K hK => ?_ | (refine ⟨by omega, ?_⟩) | refine T.ct rfl ?_ | refine T.cf rfl ?_ | refine T.seq ?_ | refine T.block ?_ | refine T.skip ?_ | refine T.exit ?_
  | @two d' k' y z hk' hy hz =>
   obtain ⟨c, ok, n1, g1, k1⟩ := twoEx ih ha0 hb0 hda hdb hgr hn
   refine ⟨c, ok, n1, fun h => ⟨(g1 h).1, fun _ => ground_proj (g1 h).2, fun _ _ => (g1 h).2⟩, ?_⟩
   clear g1 n1 hn
   rcases hk' with rfl | rfl
   all_goals
    refine ACalls.of_body Tryz.func113 (by kernel_rfl) rfl (by kernel_rfl) (by simp [Tryz.ntmps113]) (by simp) ?_
    rw [Tryz.ntmps113]
    repeat' first | ((first | refine aops_end (hK _ ?_) | refine aopsD_end (hK _ ?_) | refine aopsF_end (hK _ ?_)); clear hK K) | ((first | refine aops_go ?_ | refine aopsD_go ?_ | refine aopsF_go ?_ | (refine wpcall_pure ?_ (k1) ?_; (focus (solve | simp [ht])))); simp [ht]; (try (refine gen2 ?_ ?_ <;> intro hq <;> try simp [ht] at hq))) | (refine T.ret (Done.tup (Or.inr rfl) ?_) <;> simp [resAs, Tryz.results113, *] <;> omega) | refine T.rdF (id := 5) mixed (fun _ => false) [9, 10] [1, 2, 3, 4, 5] 10 [] (by kernel_rfl) fun K hK => ?_ | refine T.rdF1 (id := 5) mixed (fun _ => false) [9, 10] [1, 2, 3, 4, 5] 10 [] (by kernel_rfl) fun K hK => ?_ | (refine ⟨?_, ?_⟩; (focus (intros; refine wpcall_pure ?_ (k1) ?_; (focus (solve | simp [ht])); simp; done))) | refine T.rd (id := 10) mixed (fun _ => false) [] (by kernel_rfl) fun K hK => ?_ | refine T.rd1 (id := 10) mixed (fun _ => false) [] (by kernel_rfl) fun K hK => ?_ | refine T.rd (id := 11) mixed (fun _ => false) [11] (by kernel_rfl) fun K hK => ?_ | refine T.rd1 (id := 11) mixed (fun _ => false) [11] (by kernel_rfl) fun K hK => ?_ | refine T.rd (id := 12) mixed (fun _ => false) [8] (by kernel_rfl) fun K hK => ?_ | refine T.rd1 (id := 12) mixed (fun _ => false) [8] (by kernel_rfl) fun K hK => ?_ | refine T.rdF (id := 16) mixed (fun _ => false) [7] [5] 8 [] (by kernel_rfl) fun K hK => ?_ | refine T.rdF1 (id := 16) mixed (fun _ => false) [7] [5] 8 [] (by kernel_rfl) fun K hK => ?_ | (refine ⟨?_, ?_⟩; (focus (intros; refine wpcall_pure ?_ (k1) ?_; (focus (solve | simp [ht])); simp; done))) | refine T.rdF (id := 18) mixed (fun _ => false) [9, 10] [0, 2, 3, 4, 5] 10 [] (by kernel_rfl) fun K hK => ?_ | refine T.rdF1 (id := 18) mixed (fun _ => false) [9, 10] [0, 2, 3, 4, 5] 10 [] (by kernel_rfl) fun K hK => ?_ | (refine ⟨?_, ?_⟩; (focus (intros; refine wpcall_pure ?_ (k1) ?_; (focus (solve | simp [ht])); simp; done))) | refine T.r0 fun K hK => ?_ | refine T.r1 fun K hK => ?_ | (refine ⟨by omega, ?_⟩) | refine T.ct rfl ?_ | refine T.cf rfl ?_ | refine T.seq ?_ | refine T.block ?_ | refine T.skip ?_ | refine T.exit ?_
 | @two d k x y hk hx hy =>
  have ht : True := trivial
  have hgr : groundCo (cTwo k x y) = true := by rcases hk with rfl | rfl <;> simp [groundCo]
  rcases hk with rfl | rfl
  all_goals
   cases hb with
   | @fail d' lb u h3 h4 h5 =>
    obtain ⟨t1, r1, r2, q1⟩ := l6TagG_ok ha0 hgr
    refine ⟨cFail lb u, decide (t1 = u), by omega, fun _ => ⟨hb0.le (by omega), fun _ => by simp [projCo], fun _ h => by simp [groundCo] at h⟩, ?_⟩
    clear hn
    refine ACalls.of_body Tryz.func113 (by kernel_rfl) rfl (by kernel_rfl) (by simp [Tryz.ntmps113]) (by simp) ?_
    rw [Tryz.ntmps113]
    repeat' first | ((first | refine aops_end (hK _ ?_) | refine aopsD_end (hK _ ?_) | refine aopsF_end (hK _ ?_)); clear hK K) | ((first | refine aops_go ?_ | refine aopsD_go ?_ | refine aopsF_go ?_ | (refine wpcall_pure ?_ (hcb) ?_; (focus (solve | simp [ht]))) | (refine wpcall_pure ?_ (q1) ?_; (focus (solve | simp [ht])))); simp [ht]; (try (refine gen2 ?_ ?_ <;> intro hq <;> try simp [ht] at hq))) | (refine T.ret (Done.tup (Or.inr rfl) ?_) <;> simp [resAs, Tryz.results113, *] <;> omega) | refine T.rdF (id := 5) mixed (fun _ => false) [9, 10] [1, 2, 3, 4, 5] 10 [2] (by kernel_rfl) fun K hK => ?_ | refine T.rdF1 (id := 5) mixed (fun _ => false) [9, 10] [1, 2, 3, 4, 5] 10 [2] (by kernel_rfl) fun K hK => ?_ | (refine ⟨?_, ?_⟩; (focus (intros; refine wpcall_pure ?_ (hcb) ?_; (focus (solve | simp [ht])); simp; done))) | (refine ⟨?_, ?_⟩; (focus (intros; refine wpcall_pure ?_ (q1) ?_; (focus (solve | simp [ht])); simp; done))) | refine T.rd (id := 10) mixed (fun _ => false) [] (by kernel_rfl) fun K hK => ?_ | refine T.rd1 (id := 10) mixed (fun _ => false) [] (by kernel_rfl) fun K hK => ?_ | refine T.rd (id := 11) mixed (fun _ => false) [11] (by kernel_rfl) fun K hK => ?_ | refine T.rd1 (id := 11) mixed (fun _ => false) [11] (by kernel_rfl) fun K hK => ?_ | refine T.rd (id := 12) mixed (fun _ => false) [8] (by kernel_rfl) fun K hK => ?_ | refine T.rd1 (id := 12) mixed (fun _ => false) [8] (by kernel_rfl) fun K hK => ?_ | refine T.rdF (id := 16) mixed (fun _ => false) [7] [5] 8 [2] (by kernel_rfl) fun K hK => ?_ | refine T.rdF1 (id := 16) mixed (fun _ => false) [7] [5] 8 [2] (by kernel_rfl) fun K hK => ?_ | (refine ⟨?_, ?_⟩; (focus (intros; refine wpcall_pure ?_ (hcb) ?_; (focus (solve | simp [ht])); simp; done))) | (refine ⟨?_, ?_⟩; (focus (intros; refine wpcall_pure ?_ (q1) ?_; (focus (solve | simp [ht])); simp; done))) | refine T.rdF (id := 18) mixed (fun _ => false) [9, 10] [0, 2, 3, 4, 5] 10 [2] (by kernel_rfl) fun K hK => ?_ | refine T.rdF1 (id := 18) mixed (fun _ => false) [9, 10] [0, 2, 3, 4, 5] 10 [2] (by kernel_rfl) fun K hK => ?_ | (refine ⟨?_, ?_⟩; (focus (intros; refine wpcall_pure ?_ (hcb) ?_; (focus (solve | simp [ht])); simp; done))) | (refine ⟨?_, ?_⟩; (focus (intros; refine wpcall_pure ?_ (q1) ?_; (focus (solve | simp [ht])); simp; done))) | refine T.r0 fun K hK => ?_ | refine T.r1 fun K hK => ?_ | (refine ⟨by omega, ?_⟩) | refine T.ct rfl ?_ | refine T.cf rfl ?_ | refine T.seq ?_ | refine T.block ?_ | refine T.skip ?_ | refine T.exit ?_
   | @inj d' y hy hg' =>
    have e2 : nCo (cInj y) = 1 + nCo y := by simp [nCo, nCoS]
    obtain ⟨c, ok, n1, g1, k1⟩ := twoEx ih ha0 hy hda (by omega) hgr (by omega)
    refine ⟨cInj c, ok, by simp [nCo, nCoS] at *; omega, fun h => ⟨(CoV.inj (g1 h).1 (g1 h).2).le (by omega), fun _ => by simp [projCo], fun _ h => by simp [groundCo] at h⟩, ?_⟩
    clear g1 n1 e2 hn
    refine ACalls.of_body Tryz.func113 (by kernel_rfl) rfl (by kernel_rfl) (by simp [Tryz.ntmps113]) (by simp) ?_
    rw [Tryz.ntmps113]
    repeat' first | ((first | refine aops_end (hK _ ?_) | refine aopsD_end (hK _ ?_) | refine aopsF_end (hK _ ?_)); clear hK K) | ((first | refine aops_go ?_ | refine aopsD_go ?_ | refine aopsF_go ?_ | (refine wpcall_pure ?_ (k1) ?_; (focus (solve | simp [ht])))); simp [ht]; (try (refine gen2 ?_ ?_ <;> intro hq <;> try simp [ht] at hq))) | (refine T.ret (Done.tup (Or.inr rfl) ?_) <;> simp [resAs, Tryz.results113, *] <;> omega) | refine T.rdF (id := 5) mixed (fun _ => false) [9, 10] [1, 2, 3, 4, 5] 10 [2] (by kernel_rfl) fun K hK => ?_ | refine T.rdF1 (id := 5) mixed (fun _ => false) [9, 10] [1, 2, 3, 4, 5] 10 [2] (by kernel_rfl) fun K hK => ?_ | (refine ⟨?_, ?_⟩; (focus (intros; refine wpcall_pure ?_ (k1) ?_; (focus (solve | simp [ht])); simp; done))) | refine T.rd (id := 10) mixed (fun _ => false) [] (by kernel_rfl) fun K hK => ?_ | refine T.rd1 (id := 10) mixed (fun _ => false) [] (by kernel_rfl) fun K hK => ?_ | refine T.rd (id := 11) mixed (fun _ => false) [11] (by kernel_rfl) fun K hK => ?_ | refine T.rd1 (id := 11) mixed (fun _ => false) [11] (by kernel_rfl) fun K hK => ?_ | refine T.rd (id := 12) mixed (fun _ => false) [8] (by kernel_rfl) fun K hK => ?_ | refine T.rd1 (id := 12) mixed (fun _ => false) [8] (by kernel_rfl) fun K hK => ?_ | refine T.rdF (id := 16) mixed (fun _ => false) [7] [5] 8 [2] (by kernel_rfl) fun K hK => ?_ | refine T.rdF1 (id := 16) mixed (fun _ => false) [7] [5] 8 [2] (by kernel_rfl) fun K hK => ?_ | (refine ⟨?_, ?_⟩; (focus (intros; refine wpcall_pure ?_ (k1) ?_; (focus (solve | simp [ht])); simp; done))) | refine T.rdF (id := 18) mixed (fun _ => false) [9, 10] [0, 2, 3, 4, 5] 10 [2] (by kernel_rfl) fun K hK => ?_ | refine T.rdF1 (id := 18) mixed (fun _ => false) [9, 10] [0, 2, 3, 4, 5] 10 [2] (by kernel_rfl) fun K hK => ?_ | (refine ⟨?_, ?_⟩; (focus (intros; refine wpcall_pure ?_ (k1) ?_; (focus (solve | simp [ht])); simp; done))) | refine T.r0 fun K hK => ?_ | refine T.r1 fun K hK => ?_ | (refine ⟨by omega, ?_⟩) | refine T.ct rfl ?_ | refine T.cf rfl ?_ | refine T.seq ?_ | refine T.block ?_ | refine T.skip ?_ | refine T.exit ?_
   | @id d' u h3 h4 =>
    obtain ⟨c, ok, n1, g1, k1⟩ := twoEx ih ha0 hb0 hda hdb hgr hn
    refine ⟨c, ok, n1, fun h => ⟨(g1 h).1, fun _ => ground_proj (g1 h).2, fun _ _ => (g1 h).2⟩, ?_⟩
    clear g1 n1 hn
    refine ACalls.of_body Tryz.func113 (by kernel_rfl) rfl (by kernel_rfl) (by simp [Tryz.ntmps113]) (by simp) ?_
    rw [Tryz.ntmps113]
    repeat' first | ((first | refine aops_end (hK _ ?_) | refine aopsD_end (hK _ ?_) | refine aopsF_end (hK _ ?_)); clear hK K) | ((first | refine aops_go ?_ | refine aopsD_go ?_ | refine aopsF_go ?_ | (refine wpcall_pure ?_ (k1) ?_; (focus (solve | simp [ht])))); simp [ht]; (try (refine gen2 ?_ ?_ <;> intro hq <;> try simp [ht] at hq))) | (refine T.ret (Done.tup (Or.inr rfl) ?_) <;> simp [resAs, Tryz.results113, *] <;> omega) | refine T.rdF (id := 5) mixed (fun _ => false) [9, 10] [1, 2, 3, 4, 5] 10 [] (by kernel_rfl) fun K hK => ?_ | refine T.rdF1 (id := 5) mixed (fun _ => false) [9, 10] [1, 2, 3, 4, 5] 10 [] (by kernel_rfl) fun K hK => ?_ | (refine ⟨?_, ?_⟩; (focus (intros; refine wpcall_pure ?_ (k1) ?_; (focus (solve | simp [ht])); simp; done))) | refine T.rd (id := 10) mixed (fun _ => false) [] (by kernel_rfl) fun K hK => ?_ | refine T.rd1 (id := 10) mixed (fun _ => false) [] (by kernel_rfl) fun K hK => ?_ | refine T.rd (id := 11) mixed (fun _ => false) [11] (by kernel_rfl) fun K hK => ?_ | refine T.rd1 (id := 11) mixed (fun _ => false) [11] (by kernel_rfl) fun K hK => ?_ | refine T.rd (id := 12) mixed (fun _ => false) [8] (by kernel_rfl) fun K hK => ?_ | refine T.rd1 (id := 12) mixed (fun _ => false) [8] (by kernel_rfl) fun K hK => ?_ | refine T.rdF (id := 16) mixed (fun _ => false) [7] [5] 8 [] (by kernel_rfl) fun K hK => ?_ | refine T.rdF1 (id := 16) mixed (fun _ => false) [7] [5] 8 [] (by kernel_rfl) fun K hK => ?_ | (refine ⟨?_, ?_⟩; (focus (intros; refine wpcall_pure ?_ (k1) ?_; (focus (solve | simp [ht])); simp; done))) | refine T.rdF (id := 18) mixed (fun _ => false) [9, 10] [0, 2, 3, 4, 5] 10 [] (by kernel_rfl) fun K hK => ?_ | refine T.rdF1 (id := 18) mixed (fun _ => false) [9, 10] [0, 2, 3, 4, 5] 10 [] (by kernel_rfl) fun K hK => ?_ | (refine ⟨?_, ?_⟩; (focus (intros; refine wpcall_pure ?_ (k1) ?_; (focus (solve | simp [ht])); simp; done))) | refine T.r0 fun K hK => ?_ | refine T.r1 fun K hK => ?_ | (refine ⟨by omega, ?_⟩) | refine T.ct rfl ?_ | refine T.cf rfl ?_ | refine T.seq ?_ | refine T.block ?_ | refine T.skip ?_ | refine T.exit ?_
   | @proj d' lb y h3 hy hp =>
    obtain ⟨c, ok, n1, g1, k1⟩ := twoEx ih ha0 hb0 hda hdb hgr hn
    refine ⟨c, ok, n1, fun h => ⟨(g1 h).1, fun _ => ground_proj (g1 h).2, fun _ _ => (g1 h).2⟩, ?_⟩
    clear g1 n1 hn
    refine ACalls.of_body Tryz.func113 (by kernel_rfl) rfl (by kernel_rfl) (by simp [Tryz.ntmps113]) (by simp) ?_
    rw [Tryz.ntmps113]
    repeat' first | ((first | refine aops_end (hK _ ?_) | refine aopsD_end (hK _ ?_) | refine aopsF_end (hK _ ?_)); clear hK K) | ((first | refine aops_go ?_ | refine aopsD_go ?_ | refine aopsF_go ?_ | (refine wpcall_pure ?_ (k1) ?_; (focus (solve | simp [ht])))); simp [ht]; (try (refine gen2 ?_ ?_ <;> intro hq <;> try simp [ht] at hq))) | (refine T.ret (Done.tup (Or.inr rfl) ?_) <;> simp [resAs, Tryz.results113, *] <;> omega) | refine T.rdF (id := 5) mixed (fun _ => false) [9, 10] [1, 2, 3, 4, 5] 10 [] (by kernel_rfl) fun K hK => ?_ | refine T.rdF1 (id := 5) mixed (fun _ => false) [9, 10] [1, 2, 3, 4, 5] 10 [] (by kernel_rfl) fun K hK => ?_ | (refine ⟨?_, ?_⟩; (focus (intros; refine wpcall_pure ?_ (k1) ?_; (focus (solve | simp [ht])); simp; done))) | refine T.rd (id := 10) mixed (fun _ => false) [] (by kernel_rfl) fun K hK => ?_ | refine T.rd1 (id := 10) mixed (fun _ => false) [] (by kernel_rfl) fun K hK => ?_ | refine T.rd (id := 11) mixed (fun _ => false) [11] (by kernel_rfl) fun K hK => ?_ | refine T.rd1 (id := 11) mixed (fun _ => false) [11] (by kernel_rfl) fun K hK => ?_ | refine T.rd (id := 12) mixed (fun _ => false) [8] (by kernel_rfl) fun K hK => ?_ | refine T.rd1 (id := 12) mixed (fun _ => false) [8] (by kernel_rfl) fun K hK => ?_ | refine T.rdF (id := 16) mixed (fun _ => false) [7] [5] 8 [] (by kernel_rfl) fun K hK => ?_ | refine T.rdF1 (id := 16) mixed (fun _ => false) [7] [5] 8 [] (by kernel_rfl) fun K hK => ?_ | (refine ⟨?_, ?_⟩; (focus (intros; refine wpcall_pure ?_ (k1) ?_; (focus (solve | simp [ht])); simp; done))) | refine T.rdF (id := 18) mixed (fun _ => false) [9, 10] [0, 2, 3, 4, 5] 10 [] (by kernel_rfl) fun K hK => ?_ | refine T.rdF1 (id := 18) mixed (fun _ => false) [9, 10] [0, 2, 3, 4, 5] 10 [] (by kernel_rfl) fun K hK => ?_ | (refine ⟨?_, ?_⟩; (focus (intros; refine wpcall_pure ?_ (k1) ?_; (focus (solve | simp [ht])); simp; done))) | refine T.r0 fun K hK => ?_ | refine T.r1 fun K hK => ?_ | (refine ⟨by omega, ?_⟩) | refine T.ct rfl ?_ | refine T.cf rfl ?_ | refine T.seq ?_ | refine T.block ?_ | refine T.skip ?_ | refine T.exit ?_
   | @two d' k' y z hk' hy hz =>
    obtain ⟨c, ok, n1, g1, k1⟩ := twoEx ih ha0 hb0 hda hdb hgr hn
    refine ⟨c, ok, n1, fun h => ⟨(g1 h).1, fun _ => ground_proj (g1 h).2, fun _ _ => (g1 h).2⟩, ?_⟩
    clear g1 n1 hn
    rcases hk' with rfl | rfl
    all_goals
     refine ACalls.of_body Tryz.func113 (by kernel_rfl) rfl (by kernel_rfl) (by simp [Tryz.ntmps113]) (by simp) ?_
     rw [Tryz.ntmps113]
     repeat' first | ((first | refine aops_end (hK _ ?_) | refine aopsD_end (hK _ ?_) | refine aopsF_end (hK _ ?_)); clear hK K) | ((first | refine aops_go ?_ | refine aopsD_go ?_ | refine aopsF_go ?_ | (refine wpcall_pure ?_ (k1) ?_; (focus (solve | simp [ht])))); simp [ht]; (try (refine gen2 ?_ ?_ <;> intro hq <;> try simp [ht] at hq))) | (refine T.ret (Done.tup (Or.inr rfl) ?_) <;> simp [resAs, Tryz.results113, *] <;> omega) | refine T.rdF (id := 5) mixed (fun _ => false) [9, 10] [1, 2, 3, 4, 5] 10 [] (by kernel_rfl) fun K hK => ?_ | refine T.rdF1 (id := 5) mixed (fun _ => false) [9, 10] [1, 2, 3, 4, 5] 10 [] (by kernel_rfl) fun K hK => ?_ | (refine ⟨?_, ?_⟩; (focus (intros; refine wpcall_pure ?_ (k1) ?_; (focus (solve | simp [ht])); simp; done))) | refine T.rd (id := 10) mixed (fun _ => false) [] (by kernel_rfl) fun K hK => ?_ | refine T.rd1 (id := 10) mixed (fun _ => false) [] (by kernel_rfl) fun K hK => ?_ | refine T.rd (id := 11) mixed (fun _ => false) [11] (by kernel_rfl) fun K hK => ?_ | refine T.rd1 (id := 11) mixed (fun _ => false) [11] (by kernel_rfl) fun K hK => ?_ | refine T.rd (id := 12) mixed (fun _ => false) [8] (by kernel_rfl) fun K hK => ?_ | refine T.rd1 (id := 12) mixed (fun _ => false) [8] (by kernel_rfl) fun K hK => ?_ | refine T.rdF (id := 16) mixed (fun _ => false) [7] [5] 8 [] (by kernel_rfl) fun K hK => ?_ | refine T.rdF1 (id := 16) mixed (fun _ => false) [7] [5] 8 [] (by kernel_rfl) fun K hK => ?_ | (refine ⟨?_, ?_⟩; (focus (intros; refine wpcall_pure ?_ (k1) ?_; (focus (solve | simp [ht])); simp; done))) | refine T.rdF (id := 18) mixed (fun _ => false) [9, 10] [0, 2, 3, 4, 5] 10 [] (by kernel_rfl) fun K hK => ?_ | refine T.rdF1 (id := 18) mixed (fun _ => false) [9, 10] [0, 2, 3, 4, 5] 10 [] (by kernel_rfl) fun K hK => ?_ | (refine ⟨?_, ?_⟩; (focus (intros; refine wpcall_pure ?_ (k1) ?_; (focus (solve | simp [ht])); simp; done))) | refine T.r0 fun K hK => ?_ | refine T.r1 fun K hK => ?_ | (refine ⟨by omega, ?_⟩) | refine T.ct rfl ?_ | refine T.cf rfl ?_ | refine T.seq ?_ | refine T.block ?_ | refine T.skip ?_ | refine T.exit ?_

theorem compEx : ∀ n, CompEx n
 | 0 => fun a b da db _ _ _ _ h => absurd h (by omega)
 | n + 1 => compEx_step (compEx n)
end Go.Proofs.YtcgmmknfpfdghaaGreatDoor

namespace Go.Proofs.YtcgmmknfpfdghaaGreatDoor
attribute [-simp] Go.Av.astepJ Go.Av.relC Go.Av.relL Go.Av.relV Go.Av.relVs Go.Av.callJ Go.Av.IT.kind_v Go.Av.IT.kind_b Go.Av.IT.kind_p Go.Av.IT.name_v Go.Av.IT.name_b Go.Av.IT.name_p Go.Av.IT.kids_v Go.Av.IT.kids_b Go.Av.IT.kids_p Go.Av.eIT_len
open Go Go.Av
attribute [local irreducible] T ACalls TX EX LX Draws Some_ ACallsX eTy eTm MTy.kind MTy.kids MTm.kind MTm.name MTm.num MTm.ty MTm.fr MTm.label MTm.kids
attribute [local simp] eTy_def eTm_def
set_option maxHeartbeats 16000000
set_option maxRecDepth 8000
attribute [local irreducible] MCo.kind MCo.tag MCo.label MCo.kids
attribute [local simp] eCo_def

theorem l6Copy_own (e : MCo) (hn : nCo e <= 1099511627776) : ACalls Tryz.prog 106 [aCo e] [] (.agg [.d (.i e.kind), .d (.i e.tag), .d (.i e.label), .own 0 e.kids.length]) [] [{ sz := 4, ety := 34, rows := e.kids.map eCo, wr := true }] := by
 rw [nCo_def] at hn
 have hlen := nCoS_len e.kids
 refine ACalls.of_body Tryz.func106 (by kernel_rfl) rfl (by kernel_rfl) (by simp [Tryz.ntmps106]) (by simp) ?_
 rw [Tryz.ntmps106]
 repeat' first | ((first | refine aops_end (hK _ ?_) | refine aopsD_end (hK _ ?_) | refine aopsF_end (hK _ ?_)); clear hK K) | ((first | refine aops_go ?_ | refine aopsD_go ?_ | refine aopsF_go ?_); simp; (try (refine gen2 ?_ ?_ <;> intro hq <;> try simp at hq))) | refine T.rd (id := 5) mixed (fun _ => false) [9, 11] (by kernel_rfl) fun K hK => ?_ | refine T.rd1 (id := 5) mixed (fun _ => false) [9, 11] (by kernel_rfl) fun K hK => ?_ | refine T.r0 fun K hK => ?_ | refine T.r1 fun K hK => ?_ | (refine ⟨by omega, ?_⟩) | refine T.ct rfl ?_ | refine T.cf rfl ?_ | refine T.seq ?_ | refine T.block ?_ | refine T.skip ?_ | refine T.exit ?_
 refine T.ownifyObj 2 3 4 34 rfl rfl ?_
 refine T.loopF (fun p : Nat => ⟨[(1, .c (.ptr 0 0)), (2, .c (.ptr 1 0)), (3, .c (.ptr 2 0)), (4, .i p)], [(aCo e).cells, [.d (.i 0), .d (.i 0), .d (.i 0), .nil], [.d (.i e.kind), .d (.i e.tag), .d (.i e.label), .own 0 p]], [{ sz := 4, ety := 34, rows := (e.kids.take p).map eCo, wr := true }]⟩) (fun p => e.kids.length + 1 - p) (fun p => p <= e.kids.length) (fun p hi => ?_) 0 (by simp) (by simp)
 by_cases hlt : p < e.kids.length
 ·obtain ⟨u, ht⟩ := get_lt hlt
  have htm : u ∈ e.kids := List.mem_of_getElem? ht
  have hgt : e.kids[p] = u := by rw [List.getElem?_eq_getElem hlt] at ht; exact Option.some.inj ht
  have hdr : e.kids.drop p = u :: e.kids.drop (p + 1) := by rw [List.drop_eq_getElem_cons hlt, hgt]
  have hu := l6Copy_ok u (by have := nCoS_mem htm; omega)
  have htk : e.kids.take (p + 1) = e.kids.take p ++ [u] := by rw [List.take_add_one, ht]; rfl
  have hmin : min p e.kids.length = p := by omega
  repeat' first | ((first | refine aops_end (hK _ ?_) | refine aopsD_end (hK _ ?_) | refine aopsF_end (hK _ ?_)); clear hK K) | ((first | refine aops_go ?_ | refine aopsD_go ?_ | refine aopsF_go ?_ | refine wpcall_pure rfl (hu) ?_); simp [hlt, hgt, hmin]; (try simp (disch := omega) only [wrap64]); (try (refine gen2 ?_ ?_ <;> intro hq <;> try simp [hlt, hgt, hmin] at hq))) | (refine ⟨p + 1, by dsimp only; omega, by omega, ?_, ?_, ?_⟩ <;> simp (disch := omega) [wrap64, htk, eCo_def]) | refine T.rd (id := 5) mixed (fun _ => false) [9, 11] (by kernel_rfl) fun K hK => ?_ | refine T.rd1 (id := 5) mixed (fun _ => false) [9, 11] (by kernel_rfl) fun K hK => ?_ | refine T.r0 fun K hK => ?_ | refine T.r1 fun K hK => ?_ | (refine ⟨by omega, ?_⟩) | refine T.ct rfl ?_ | refine T.cf rfl ?_ | refine T.seq ?_ | refine T.block ?_ | refine T.skip ?_ | refine T.exit ?_
 ·have hp' : p = e.kids.length := by omega
  subst hp'
  repeat' first | ((first | refine aops_end (hK _ ?_) | refine aopsD_end (hK _ ?_) | refine aopsF_end (hK _ ?_)); clear hK K) | ((first | refine aops_go ?_ | refine aopsD_go ?_ | refine aopsF_go ?_); simp [hlt]; (try (refine gen2 ?_ ?_ <;> intro hq <;> try simp [hlt] at hq))) | refine T.rd (id := 5) mixed (fun _ => false) [9, 11] (by kernel_rfl) fun K hK => ?_ | refine T.rd1 (id := 5) mixed (fun _ => false) [9, 11] (by kernel_rfl) fun K hK => ?_ | refine T.r0 fun K hK => ?_ | refine T.r1 fun K hK => ?_ | (refine ⟨by omega, ?_⟩) | refine T.ct rfl ?_ | refine T.cf rfl ?_ | refine T.seq ?_ | refine T.block ?_ | refine T.skip ?_ | refine T.exit ?_
  all_goals (refine T.ret (Done.own1 0 (Or.inr rfl) (ys := [_]) ?_ rfl ?_) <;> simp [resAs, Tryz.results106])

theorem nCo_mk (k t l : Int) (x : List MCo) : nCo (.mk k t l x) = nCoS x := by simp [nCo]
theorem nCoS_app (x y : List MCo) : nCoS (x ++ y) = nCoS x + nCoS y := by
 induction x with
 | nil => simp [nCoS]
 | cons a x ih => simp [nCoS, ih]; omega

def IsCos (rs : List (List DV)) (x : List MCo) : Prop := rs = x.map eCo
theorem IsCos.nil : IsCos [] [] := rfl
theorem IsCos.map (x : List MCo) : IsCos (x.map eCo) x := rfl
theorem IsCos.app {a c : List (List DV)} {x y : List MCo} (h : IsCos a x) (h' : IsCos c y) : IsCos (a ++ c) (x ++ y) := by rw [IsCos, h, h', List.map_append]
theorem IsCos.cons {k t l : Int} {rs a : List (List DV)} {x y : List MCo} (h : IsCos rs x) (h' : IsCos a y) : IsCos ([.int .i64 k, .int .i64 t, .int .i64 l, .sl rs] :: a) (.mk k t l x :: y) := by rw [IsCos, h, h', List.map_cons, eCo_def]; simp
theorem IsV.co {k t l : Int} {rs : List (List DV)} {x : List MCo} (h : IsCos rs x) : IsV aCo (.agg [.d (.int .i64 k), .d (.int .i64 t), .d (.int .i64 l), .d (.sl rs)]) (.mk k t l x) := by rw [IsV, h]; simp [aCo]

theorem l6Mutate_ok (b : List Int) (hb : okB b) (c : MCo) (hn : nCo c <= 1000000000) (p : Nat) (hp : p + 2 <= 1099511627776) : Draws Tryz.prog 65 [aCo c] b p 2 (RV aCo noA fun u => nCo u <= nCo c + 20) := by
 have hid := l6Id_ok 2
 have hcp := l6Copy_own c (by omega)
 have hlen := nCoS_len c.kids
 have hn2 := hn
 rw [nCo_def] at hn2
 refine Draws.of_body Tryz.func65 (by kernel_rfl) rfl (by kernel_rfl) (by simp [Tryz.ntmps65]) ?_
 rw [Tryz.ntmps65]
 repeat' first | ((first | refine aops_end (hK _ ?_) | refine aopsD_end (hK _ ?_) | refine aopsF_end (hK _ ?_)); clear hK K) | ((first | refine aops_go ?_ | refine aopsD_go ?_ | refine aopsF_go ?_ | refine wpcall_pure rfl (hid) ?_); simp; (try simp (disch := omega) only [wrap64]); (try (refine gen2 ?_ ?_ <;> intro hq <;> try simp at hq))) | (refine wpcall_dr 0 rfl rfl (pick_ok b hb _ (by omega) 40 (by omega)) (fun x1 p1 hx1 hp1 hp1' => ?_); simp; (try simp (disch := omega) only [wrap64]); (try (refine gen2 ?_ ?_ <;> intro hq <;> try simp at hq))) | (refine wpcall_dr 0 rfl rfl (num_ok b hb _ (by omega) [0, 7, 1, 4, 5] (by simp) (by simp)) (fun x1 p1 hx1 hp1 hp1' => ?_); simp; (try simp (disch := omega) only [wrap64]); (try (refine gen2 ?_ ?_ <;> intro hq <;> try simp at hq))) | (refine wpcall_dr 0 rfl rfl (num_ok b hb _ (by omega) [0, 1, 2, 6, -1] (by simp) (by simp)) (fun x1 p1 hx1 hp1 hp1' => ?_); simp; (try simp (disch := omega) only [wrap64]); (try (refine gen2 ?_ ?_ <;> intro hq <;> try simp at hq))) | (refine wpcall_dr 0 rfl rfl (num_ok b hb _ (by omega) [0, 100, -9223372036854775808, 3] (by simp) (by simp)) (fun x1 p1 hx1 hp1 hp1' => ?_); simp; (try simp (disch := omega) only [wrap64]); (try (refine gen2 ?_ ?_ <;> intro hq <;> try simp at hq))) | (refine wpcall_own rfl (hcp) ?_; simp; (try simp (disch := omega) only [wrap64]); (try (refine gen2 ?_ ?_ <;> intro hq <;> try simp at hq))) | (refine ⟨by omega, by omega, ?_⟩) | refine TX.rd (id := 10) mixed (fun _ => false) [4, 6] (by kernel_rfl) fun K hK => ?_ | refine TX.rd1 (id := 10) mixed (fun _ => false) [4, 6] (by kernel_rfl) fun K hK => ?_ | refine TX.rs (fun _ => false) fun K hK => ?_ | refine TX.rs1 (fun _ => false) fun K hK => ?_ | (refine ⟨by omega, ?_⟩) | refine TX.cond rfl (fun hcnd => ?_) (fun hcnd => absurd hcnd (by decide)) | refine TX.cond rfl (fun hcnd => absurd hcnd (by decide)) (fun hcnd => ?_) | refine TX.seq ?_ | refine TX.block ?_ | refine TX.skip ?_ | refine TX.exit ?_ | refine EX.thenN ?_ | refine EX.thenR ?_ | refine EX.thenE ?_ | refine EX.blockN ?_ | refine EX.blockR ?_ | refine EX.blockE ?_ | refine EX.blockO (by simp) ?_ | refine EX.outR ?_ | refine EX.outE ?_ | refine EX.unrR ?_ | refine EX.unrE ?_ | refine EX.againN ?_ | refine TX.unroll ?_
 all_goals (
  refine TX.ret ?_
  repeat' first | refine EX.outR ?_ | refine EX.thenR ?_ | refine EX.blockR ?_ | refine EX.unrR ?_
  apply EX.drA (ks := [])
  case he => exact Or.inr rfl
  case hys => simp [resAs, getAs, Tryz.results65] <;> rfl
  case hv => first | (dsimp only [Av.one]; exact rfl) | dsimp only [Av.one]
  case hx => repeat' first | exact IsT2.var _ | exact IsV.tmv _ | exact IsTm.var _ | exact IsTy.row _ | exact IsTm.row _ | exact IsTys.nil | exact IsTms.nil | exact IsBds.nil | exact IsTys.map _ | exact IsTms.map _ | exact IsBds.map _ | exact IsV.int _ | exact IsV.str _ | exact IsV.bool _ | apply IsV.p2 | apply IsV.p3 | apply IsV.tm | apply IsV.ty | apply IsTm.node | apply IsTy.of | apply IsTys.cons | apply IsTms.cons | apply IsBds.cons | apply IsV.tys | apply IsV.tms | apply IsV.bds | apply IsT2.node | apply IsTys.app | apply IsTms.app | apply IsBds.app | exact IsCos.map _ | exact IsCos.nil | apply IsV.co | apply IsCos.cons | apply IsCos.app
  case hA => exact rfl
  case hks => simp
  case hV => exact rfl
  case h1 => omega
  case h2 => omega
  case hg => simp [nCo_mk, nCoS, nCoS_app, nCo_def, *] <;> omega)

theorem l6Near_ok (b : List Int) (hb : okB b) : ∀ (d : Nat) (t : MTy) (p : Nat), d <= 4 -> VTy d t -> shapeTy 4 t = true -> p + 600 * 4 ^ d <= 1099511627776 -> Draws Tryz.prog 111 [aTy t] b p (600 * 4 ^ d) (RV aTy noA fun u => shapeTy 4 u = true /\ consTy t u = true) := by
 intro d
 induction d with
 | zero => intro t p hd h; cases h
 | succ d ih =>
  intro t p hd4 h hs hp
  have h4 : 4 ^ (d + 1) = 4 * 4 ^ d := by rw [Nat.pow_succ]; omega
  have h1 : 1 <= 4 ^ d := Nat.pos_of_ne_zero (by simp)
  rw [h4] at hp ⊢
  generalize hN : 4 ^ d = N at *
  have hany := l1Any_ok
  have hcp := l1Copy_ok t (by have := shape4 hs; omega)
  have hrefl : consTy t t = true := cons_refl t
  have hca : ∀ u : MTy, u.kind = 1 -> consTy t u = true := fun u hu => by rw [consTy_def]; simp [hu]
  have hany1 : shapeTy 4 anyT = true := (VTy.any 3).shape
  cases h with
  | any =>
   refine Draws.of_body Tryz.func111 (by kernel_rfl) rfl (by kernel_rfl) (by simp [Tryz.ntmps111]) ?_
   rw [Tryz.ntmps111]
   repeat' first | ((first | refine aops_end (hK _ ?_) | refine aopsD_end (hK _ ?_) | refine aopsF_end (hK _ ?_)); clear hK K) | ((first | refine aops_go ?_ | refine aopsD_go ?_ | refine aopsF_go ?_); simp; (try simp (disch := omega) only [wrap64]); (try (refine gen2 ?_ ?_ <;> intro hq <;> try simp at hq))) | ((first | (refine wpcall_dr 0 rfl rfl (num_ok b hb _ (by omega) [2, 1, 3] (by simp) (by simp)) (fun y p1 hy hp1 hp1' => ?_); simp at hy) | refine wpcall_dr 0 rfl rfl (l1DrawT_ok b hb _ (by omega) _ (by omega)) (fun t p1 ht hp1 hp1' => ?_)); simp) | refine TX.rdF (id := 9) mixed (fun _ => false) [8, 10, 12] [1] 9 [] (by kernel_rfl) fun K hK => ?_ | refine TX.rdF1 (id := 9) mixed (fun _ => false) [8, 10, 12] [1] 9 [] (by kernel_rfl) fun K hK => ?_ | refine TX.rs (fun _ => false) fun K hK => ?_ | refine TX.rs1 (fun _ => false) fun K hK => ?_ | (refine ⟨by omega, ?_⟩) | refine TX.cond rfl (fun hcnd => ?_) (fun hcnd => absurd hcnd (by decide)) | refine TX.cond rfl (fun hcnd => absurd hcnd (by decide)) (fun hcnd => ?_) | refine TX.seq ?_ | refine TX.block ?_ | refine TX.skip ?_ | refine TX.exit ?_ | refine EX.thenN ?_ | refine EX.thenR ?_ | refine EX.thenE ?_ | refine EX.blockN ?_ | refine EX.blockR ?_ | refine EX.blockE ?_ | refine EX.blockO (by simp) ?_ | refine EX.outR ?_ | refine EX.outE ?_
   all_goals (
    refine TX.ret ?_
    repeat' first | refine EX.outR ?_ | refine EX.thenR ?_ | refine EX.blockR ?_ | refine EX.unrR ?_
    apply EX.drA (ks := [])
    case he => exact Or.inr rfl
    case hys => simp [resAs, getAs, Tryz.results111] <;> rfl
    case hv => first | (dsimp only [Av.one]; exact rfl) | dsimp only [Av.one]
    case hx => repeat' first | exact IsT2.var _ | exact IsV.tmv _ | exact IsTm.var _ | exact IsTy.row _ | exact IsTm.row _ | exact IsTys.nil | exact IsTms.nil | exact IsBds.nil | exact IsTys.map _ | exact IsTms.map _ | exact IsBds.map _ | exact IsV.int _ | exact IsV.str _ | exact IsV.bool _ | apply IsV.p2 | apply IsV.p3 | apply IsV.tm | apply IsV.ty | apply IsTm.node | apply IsTy.of | apply IsTys.cons | apply IsTms.cons | apply IsBds.cons | apply IsV.tys | apply IsV.tms | apply IsV.bds | apply IsT2.node | apply IsTys.app | apply IsTms.app | apply IsBds.app | exact IsCos.map _ | exact IsCos.nil | apply IsV.co | apply IsCos.cons | apply IsCos.app
    case hA => exact rfl
    case hks => simp
    case hV => exact rfl
    case h1 => omega
    case h2 => omega
    case hg => exact ⟨by assumption, by rw [consTy_def]; simp⟩)
  | int =>
   have k := TypeValidS_ok intT (by simp [nTy, nTyS])
   rw [show shapeTy 4 intT = true from hs] at k
   refine Draws.of_body Tryz.func111 (by kernel_rfl) rfl (by kernel_rfl) (by simp [Tryz.ntmps111]) ?_
   rw [Tryz.ntmps111]
   repeat' first | ((first | refine aops_end (hK _ ?_) | refine aopsD_end (hK _ ?_) | refine aopsF_end (hK _ ?_)); clear hK K) | ((first | refine aops_go ?_ | refine aopsD_go ?_ | refine aopsF_go ?_ | refine wpcall_pure rfl (hany) ?_ | (refine wpcall_pure ?_ (k) ?_; (focus (solve | simp [aTy])))); simp [aTy]; (try simp (disch := omega) only [wrap64]); (try (refine gen2 ?_ ?_ <;> intro hq <;> try simp [aTy] at hq))) | (refine wpcall_dr 0 rfl rfl (pick_ok b hb _ (by omega) 4 (by omega)) (fun x1 p1 hx1 hp1 hp1' => ?_); simp [aTy]; (try simp (disch := omega) only [wrap64]); (try (refine gen2 ?_ ?_ <;> intro hq <;> try simp [aTy] at hq))) | refine TX.rdF (id := 9) mixed (fun _ => false) [8, 10, 12] [1] 9 [0] (by kernel_rfl) fun K hK => ?_ | refine TX.rdF1 (id := 9) mixed (fun _ => false) [8, 10, 12] [1] 9 [0] (by kernel_rfl) fun K hK => ?_ | (refine ⟨?_, ?_⟩; (focus (intros; refine wpcall_pure rfl (hany) ?_; simp; done))) | (refine ⟨?_, ?_⟩; (focus (intros; refine wpcall_pure ?_ (k) ?_; (focus (solve | simp [aTy])); simp; done))) | refine TX.rs (fun _ => false) fun K hK => ?_ | refine TX.rs1 (fun _ => false) fun K hK => ?_ | (refine ⟨by omega, ?_⟩) | refine TX.cond rfl (fun hcnd => ?_) (fun hcnd => absurd hcnd (by decide)) | refine TX.cond rfl (fun hcnd => absurd hcnd (by decide)) (fun hcnd => ?_) | refine TX.seq ?_ | refine TX.block ?_ | refine TX.skip ?_ | refine TX.exit ?_ | refine EX.thenN ?_ | refine EX.thenR ?_ | refine EX.thenE ?_ | refine EX.blockN ?_ | refine EX.blockR ?_ | refine EX.blockE ?_ | refine EX.blockO (by simp) ?_ | refine EX.outR ?_ | refine EX.outE ?_ | refine EX.unrR ?_ | refine EX.unrE ?_ | refine EX.againN ?_ | refine TX.unroll ?_
   all_goals (
    refine TX.ret ?_
    repeat' first | refine EX.outR ?_ | refine EX.thenR ?_ | refine EX.blockR ?_ | refine EX.unrR ?_
    apply EX.drA (ks := [])
    case he => exact Or.inr rfl
    case hys => simp [resAs, getAs, Tryz.results111] <;> rfl
    case hv => first | (dsimp only [Av.one]; exact rfl) | dsimp only [Av.one]
    case hx => repeat' first | exact IsT2.var _ | exact IsV.tmv _ | exact IsTm.var _ | exact IsTy.row _ | exact IsTm.row _ | exact IsTys.nil | exact IsTms.nil | exact IsBds.nil | exact IsTys.map _ | exact IsTms.map _ | exact IsBds.map _ | exact IsV.int _ | exact IsV.str _ | exact IsV.bool _ | apply IsV.p2 | apply IsV.p3 | apply IsV.tm | apply IsV.ty | apply IsTm.node | apply IsTy.of | apply IsTys.cons | apply IsTms.cons | apply IsBds.cons | apply IsV.tys | apply IsV.tms | apply IsV.bds | apply IsT2.node | apply IsTys.app | apply IsTms.app | apply IsBds.app | exact IsCos.map _ | exact IsCos.nil | apply IsV.co | apply IsCos.cons | apply IsCos.app
    case hA => exact rfl
    case hks => simp
    case hV => exact rfl
    case h1 => omega
    case h2 => omega
    case hg => first | exact ⟨hs, hrefl⟩ | exact ⟨hany1, hca _ (by simp)⟩)
  | bool =>
   have k := TypeValidS_ok boolT (by simp [nTy, nTyS])
   rw [show shapeTy 4 boolT = true from hs] at k
   refine Draws.of_body Tryz.func111 (by kernel_rfl) rfl (by kernel_rfl) (by simp [Tryz.ntmps111]) ?_
   rw [Tryz.ntmps111]
   repeat' first | ((first | refine aops_end (hK _ ?_) | refine aopsD_end (hK _ ?_) | refine aopsF_end (hK _ ?_)); clear hK K) | ((first | refine aops_go ?_ | refine aopsD_go ?_ | refine aopsF_go ?_ | refine wpcall_pure rfl (hany) ?_ | (refine wpcall_pure ?_ (k) ?_; (focus (solve | simp [aTy])))); simp [aTy]; (try simp (disch := omega) only [wrap64]); (try (refine gen2 ?_ ?_ <;> intro hq <;> try simp [aTy] at hq))) | (refine wpcall_dr 0 rfl rfl (pick_ok b hb _ (by omega) 4 (by omega)) (fun x1 p1 hx1 hp1 hp1' => ?_); simp [aTy]; (try simp (disch := omega) only [wrap64]); (try (refine gen2 ?_ ?_ <;> intro hq <;> try simp [aTy] at hq))) | refine TX.rdF (id := 9) mixed (fun _ => false) [8, 10, 12] [1] 9 [0] (by kernel_rfl) fun K hK => ?_ | refine TX.rdF1 (id := 9) mixed (fun _ => false) [8, 10, 12] [1] 9 [0] (by kernel_rfl) fun K hK => ?_ | (refine ⟨?_, ?_⟩; (focus (intros; refine wpcall_pure rfl (hany) ?_; simp; done))) | (refine ⟨?_, ?_⟩; (focus (intros; refine wpcall_pure ?_ (k) ?_; (focus (solve | simp [aTy])); simp; done))) | refine TX.rs (fun _ => false) fun K hK => ?_ | refine TX.rs1 (fun _ => false) fun K hK => ?_ | (refine ⟨by omega, ?_⟩) | refine TX.cond rfl (fun hcnd => ?_) (fun hcnd => absurd hcnd (by decide)) | refine TX.cond rfl (fun hcnd => absurd hcnd (by decide)) (fun hcnd => ?_) | refine TX.seq ?_ | refine TX.block ?_ | refine TX.skip ?_ | refine TX.exit ?_ | refine EX.thenN ?_ | refine EX.thenR ?_ | refine EX.thenE ?_ | refine EX.blockN ?_ | refine EX.blockR ?_ | refine EX.blockE ?_ | refine EX.blockO (by simp) ?_ | refine EX.outR ?_ | refine EX.outE ?_ | refine EX.unrR ?_ | refine EX.unrE ?_ | refine EX.againN ?_ | refine TX.unroll ?_
   all_goals (
    refine TX.ret ?_
    repeat' first | refine EX.outR ?_ | refine EX.thenR ?_ | refine EX.blockR ?_ | refine EX.unrR ?_
    apply EX.drA (ks := [])
    case he => exact Or.inr rfl
    case hys => simp [resAs, getAs, Tryz.results111] <;> rfl
    case hv => first | (dsimp only [Av.one]; exact rfl) | dsimp only [Av.one]
    case hx => repeat' first | exact IsT2.var _ | exact IsV.tmv _ | exact IsTm.var _ | exact IsTy.row _ | exact IsTm.row _ | exact IsTys.nil | exact IsTms.nil | exact IsBds.nil | exact IsTys.map _ | exact IsTms.map _ | exact IsBds.map _ | exact IsV.int _ | exact IsV.str _ | exact IsV.bool _ | apply IsV.p2 | apply IsV.p3 | apply IsV.tm | apply IsV.ty | apply IsTm.node | apply IsTy.of | apply IsTys.cons | apply IsTms.cons | apply IsBds.cons | apply IsV.tys | apply IsV.tms | apply IsV.bds | apply IsT2.node | apply IsTys.app | apply IsTms.app | apply IsBds.app | exact IsCos.map _ | exact IsCos.nil | apply IsV.co | apply IsCos.cons | apply IsCos.app
    case hA => exact rfl
    case hks => simp
    case hV => exact rfl
    case h1 => omega
    case h2 => omega
    case hg => first | exact ⟨hs, hrefl⟩ | exact ⟨hany1, hca _ (by simp)⟩)
  | @fn d x y hx hy =>
   have hsx : shapeTy 4 x = true := shapeTy_le (by omega) hx.shape
   have hsy : shapeTy 4 y = true := shapeTy_le (by omega) hy.shape
   have hcon : ∀ u1 u2 : MTy, consTy x u1 = true -> consTy y u2 = true -> consTy (.mk 4 [x, y]) (.mk 4 [u1, u2]) = true := fun u1 u2 g1 g2 => by rw [consTy_def]; simp [all2, g1, g2]
   have hkd : (MTy.mk 4 [x, y]).kids = [x, y] := by simp
   have hkk : (MTy.mk 4 [x, y]).kind = 4 := by simp
   generalize hte : MTy.mk 4 [x, y] = t at *
   rw [<- hkk] at hcon
   have h1k : ¬ t.kind = 1 := by omega
   refine Draws.of_body Tryz.func111 (by kernel_rfl) rfl (by kernel_rfl) (by simp [Tryz.ntmps111]) ?_
   rw [Tryz.ntmps111]
   repeat' first | ((first | refine aops_end (hK _ ?_) | refine aopsD_end (hK _ ?_) | refine aopsF_end (hK _ ?_)); clear hK K) | ((first | refine aops_go ?_ | refine aopsD_go ?_ | refine aopsF_go ?_ | refine wpcall_pure rfl (hany) ?_ | (refine wpcall_pure ?_ (hcp) ?_; (focus (solve | simp [hkd, h1k]))) | (refine wpcall_pure ?_ (TypeValidS_ok (.mk t.kind [u1, u2]) (by have := shape4 hu1.1; have := shape4 hu2.1; simp [nTy, nTyS]; omega)) ?_; (focus (solve | simp [hkd, h1k])))); simp [hkd, h1k]; (try simp (disch := omega) only [wrap64]); (try (refine gen2 ?_ ?_ <;> intro hq <;> try simp [hkd, h1k] at hq))) | (refine wpcall_dr 0 rfl rfl (pick_ok b hb _ (by omega) 4 (by omega)) (fun x1 p1 hx1 hp1 hp1' => ?_); simp [hkd, h1k]; (try simp (disch := omega) only [wrap64]); (try (refine gen2 ?_ ?_ <;> intro hq <;> try simp [hkd, h1k] at hq))) | ((first | refine wpcall_dr 0 rfl rfl (ih x _ (by omega) hx hsx (by omega)) (fun u1 p1 hu1 hp1 hp1' => ?_) | refine wpcall_dr 0 rfl rfl (ih y _ (by omega) hy hsy (by omega)) (fun u2 p1 hu2 hp1 hp1' => ?_)); simp) | refine TX.rdF (id := 9) mixed (fun _ => false) [8, 10, 12] [1] 9 [0] (by kernel_rfl) fun K hK => ?_ | refine TX.rdF1 (id := 9) mixed (fun _ => false) [8, 10, 12] [1] 9 [0] (by kernel_rfl) fun K hK => ?_ | (refine ⟨?_, ?_⟩; (focus (intros; refine wpcall_pure rfl (hany) ?_; simp; done))) | (refine ⟨?_, ?_⟩; (focus (intros; refine wpcall_pure ?_ (hcp) ?_; (focus (solve | simp [hkd, h1k])); simp; done))) | (refine ⟨?_, ?_⟩; (focus (intros; refine wpcall_pure ?_ (TypeValidS_ok (.mk t.kind [u1, u2]) (by have := shape4 hu1.1; have := shape4 hu2.1; simp [nTy, nTyS]; omega)) ?_; (focus (solve | simp [hkd, h1k])); simp; done))) | refine TX.rs (fun _ => false) fun K hK => ?_ | refine TX.rs1 (fun _ => false) fun K hK => ?_ | (refine ⟨by omega, ?_⟩) | refine TX.cond rfl (fun hcnd => ?_) (fun hcnd => absurd hcnd (by decide)) | refine TX.cond rfl (fun hcnd => absurd hcnd (by decide)) (fun hcnd => ?_) | refine TX.seq ?_ | refine TX.block ?_ | refine TX.skip ?_ | refine TX.exit ?_ | refine EX.thenN ?_ | refine EX.thenR ?_ | refine EX.thenE ?_ | refine EX.blockN ?_ | refine EX.blockR ?_ | refine EX.blockE ?_ | refine EX.blockO (by simp) ?_ | refine EX.outR ?_ | refine EX.outE ?_ | refine EX.unrR ?_ | refine EX.unrE ?_ | refine EX.againN ?_ | refine TX.unroll ?_
   all_goals (
    refine TX.ret ?_
    repeat' first | refine EX.outR ?_ | refine EX.thenR ?_ | refine EX.blockR ?_ | refine EX.unrR ?_
    apply EX.drA (ks := [])
    case he => exact Or.inr rfl
    case hys => simp [resAs, getAs, Tryz.results111] <;> rfl
    case hv => first | (dsimp only [Av.one]; exact rfl) | dsimp only [Av.one]
    case hx => repeat' first | exact IsT2.var _ | exact IsV.tmv _ | exact IsTm.var _ | exact IsTy.row _ | exact IsTm.row _ | exact IsTys.nil | exact IsTms.nil | exact IsBds.nil | exact IsTys.map _ | exact IsTms.map _ | exact IsBds.map _ | exact IsV.int _ | exact IsV.str _ | exact IsV.bool _ | apply IsV.p2 | apply IsV.p3 | apply IsV.tm | apply IsV.ty | apply IsTm.node | apply IsTy.of | apply IsTys.cons | apply IsTms.cons | apply IsBds.cons | apply IsV.tys | apply IsV.tms | apply IsV.bds | apply IsT2.node | apply IsTys.app | apply IsTms.app | apply IsBds.app | exact IsCos.map _ | exact IsCos.nil | apply IsV.co | apply IsCos.cons | apply IsCos.app
    case hA => exact rfl
    case hks => simp
    case hV => exact rfl
    case h1 => omega
    case h2 => omega
    case hg => first | exact ⟨hs, hrefl⟩ | exact ⟨hany1, hca _ (by simp)⟩ | exact ⟨by assumption, hcon _ _ hu1.2 hu2.2⟩ | (rw [hkk, hte]; exact ⟨hs, hrefl⟩))
  | @pair d x y hx hy =>
   have hsx : shapeTy 4 x = true := shapeTy_le (by omega) hx.shape
   have hsy : shapeTy 4 y = true := shapeTy_le (by omega) hy.shape
   have hcon : ∀ u1 u2 : MTy, consTy x u1 = true -> consTy y u2 = true -> consTy (.mk 5 [x, y]) (.mk 5 [u1, u2]) = true := fun u1 u2 g1 g2 => by rw [consTy_def]; simp [all2, g1, g2]
   have hkd : (MTy.mk 5 [x, y]).kids = [x, y] := by simp
   have hkk : (MTy.mk 5 [x, y]).kind = 5 := by simp
   generalize hte : MTy.mk 5 [x, y] = t at *
   rw [<- hkk] at hcon
   have h1k : ¬ t.kind = 1 := by omega
   refine Draws.of_body Tryz.func111 (by kernel_rfl) rfl (by kernel_rfl) (by simp [Tryz.ntmps111]) ?_
   rw [Tryz.ntmps111]
   repeat' first | ((first | refine aops_end (hK _ ?_) | refine aopsD_end (hK _ ?_) | refine aopsF_end (hK _ ?_)); clear hK K) | ((first | refine aops_go ?_ | refine aopsD_go ?_ | refine aopsF_go ?_ | refine wpcall_pure rfl (hany) ?_ | (refine wpcall_pure ?_ (hcp) ?_; (focus (solve | simp [hkd, h1k]))) | (refine wpcall_pure ?_ (TypeValidS_ok (.mk t.kind [u1, u2]) (by have := shape4 hu1.1; have := shape4 hu2.1; simp [nTy, nTyS]; omega)) ?_; (focus (solve | simp [hkd, h1k])))); simp [hkd, h1k]; (try simp (disch := omega) only [wrap64]); (try (refine gen2 ?_ ?_ <;> intro hq <;> try simp [hkd, h1k] at hq))) | (refine wpcall_dr 0 rfl rfl (pick_ok b hb _ (by omega) 4 (by omega)) (fun x1 p1 hx1 hp1 hp1' => ?_); simp [hkd, h1k]; (try simp (disch := omega) only [wrap64]); (try (refine gen2 ?_ ?_ <;> intro hq <;> try simp [hkd, h1k] at hq))) | ((first | refine wpcall_dr 0 rfl rfl (ih x _ (by omega) hx hsx (by omega)) (fun u1 p1 hu1 hp1 hp1' => ?_) | refine wpcall_dr 0 rfl rfl (ih y _ (by omega) hy hsy (by omega)) (fun u2 p1 hu2 hp1 hp1' => ?_)); simp) | refine TX.rdF (id := 9) mixed (fun _ => false) [8, 10, 12] [1] 9 [0] (by kernel_rfl) fun K hK => ?_ | refine TX.rdF1 (id := 9) mixed (fun _ => false) [8, 10, 12] [1] 9 [0] (by kernel_rfl) fun K hK => ?_ | (refine ⟨?_, ?_⟩; (focus (intros; refine wpcall_pure rfl (hany) ?_; simp; done))) | (refine ⟨?_, ?_⟩; (focus (intros; refine wpcall_pure ?_ (hcp) ?_; (focus (solve | simp [hkd, h1k])); simp; done))) | (refine ⟨?_, ?_⟩; (focus (intros; refine wpcall_pure ?_ (TypeValidS_ok (.mk t.kind [u1, u2]) (by have := shape4 hu1.1; have := shape4 hu2.1; simp [nTy, nTyS]; omega)) ?_; (focus (solve | simp [hkd, h1k])); simp; done))) | refine TX.rs (fun _ => false) fun K hK => ?_ | refine TX.rs1 (fun _ => false) fun K hK => ?_ | (refine ⟨by omega, ?_⟩) | refine TX.cond rfl (fun hcnd => ?_) (fun hcnd => absurd hcnd (by decide)) | refine TX.cond rfl (fun hcnd => absurd hcnd (by decide)) (fun hcnd => ?_) | refine TX.seq ?_ | refine TX.block ?_ | refine TX.skip ?_ | refine TX.exit ?_ | refine EX.thenN ?_ | refine EX.thenR ?_ | refine EX.thenE ?_ | refine EX.blockN ?_ | refine EX.blockR ?_ | refine EX.blockE ?_ | refine EX.blockO (by simp) ?_ | refine EX.outR ?_ | refine EX.outE ?_ | refine EX.unrR ?_ | refine EX.unrE ?_ | refine EX.againN ?_ | refine TX.unroll ?_
   all_goals (
    refine TX.ret ?_
    repeat' first | refine EX.outR ?_ | refine EX.thenR ?_ | refine EX.blockR ?_ | refine EX.unrR ?_
    apply EX.drA (ks := [])
    case he => exact Or.inr rfl
    case hys => simp [resAs, getAs, Tryz.results111] <;> rfl
    case hv => first | (dsimp only [Av.one]; exact rfl) | dsimp only [Av.one]
    case hx => repeat' first | exact IsT2.var _ | exact IsV.tmv _ | exact IsTm.var _ | exact IsTy.row _ | exact IsTm.row _ | exact IsTys.nil | exact IsTms.nil | exact IsBds.nil | exact IsTys.map _ | exact IsTms.map _ | exact IsBds.map _ | exact IsV.int _ | exact IsV.str _ | exact IsV.bool _ | apply IsV.p2 | apply IsV.p3 | apply IsV.tm | apply IsV.ty | apply IsTm.node | apply IsTy.of | apply IsTys.cons | apply IsTms.cons | apply IsBds.cons | apply IsV.tys | apply IsV.tms | apply IsV.bds | apply IsT2.node | apply IsTys.app | apply IsTms.app | apply IsBds.app | exact IsCos.map _ | exact IsCos.nil | apply IsV.co | apply IsCos.cons | apply IsCos.app
    case hA => exact rfl
    case hks => simp
    case hV => exact rfl
    case h1 => omega
    case h2 => omega
    case hg => first | exact ⟨hs, hrefl⟩ | exact ⟨hany1, hca _ (by simp)⟩ | exact ⟨by assumption, hcon _ _ hu1.2 hu2.2⟩ | (rw [hkk, hte]; exact ⟨hs, hrefl⟩))
end Go.Proofs.YtcgmmknfpfdghaaGreatDoor

namespace Go.Proofs.YtcgmmknfpfdghaaGreatDoor
attribute [-simp] Go.Av.astepJ Go.Av.relC Go.Av.relL Go.Av.relV Go.Av.relVs Go.Av.callJ Go.Av.IT.kind_v Go.Av.IT.kind_b Go.Av.IT.kind_p Go.Av.IT.name_v Go.Av.IT.name_b Go.Av.IT.name_p Go.Av.IT.kids_v Go.Av.IT.kids_b Go.Av.IT.kids_p Go.Av.eIT_len
open Go Go.Av
attribute [local irreducible] T ACalls TX EX LX Draws Some_ ACallsX eTy eTm MTy.kind MTy.kids MTm.kind MTm.name MTm.num MTm.ty MTm.fr MTm.label MTm.kids
attribute [local simp] eTy_def eTm_def
set_option maxHeartbeats 16000000
set_option maxRecDepth 8000
attribute [local irreducible] MCo.kind MCo.tag MCo.label MCo.kids
attribute [local simp] eCo_def

theorem cast_fun : ∃ F : MTy -> MTy -> Int -> MCo, ∀ f t l, shapeTy 4 f = true -> shapeTy 4 t = true -> consTy f t = true -> labM l = true -> CoV 8 (F f t l) /\ ACalls Tryz.prog 112 [aTy f, aTy t, .i l] [] (aCo (F f t l)) [] [] := by
 have h := castEx 4 (by omega)
 have key : ∀ f t l, ∃ c : MCo, shapeTy 4 f = true -> shapeTy 4 t = true -> consTy f t = true -> labM l = true -> CoV 8 c /\ ACalls Tryz.prog 112 [aTy f, aTy t, .i l] [] (aCo c) [] [] := by
  intro f t l
  by_cases q : shapeTy 4 f = true /\ shapeTy 4 t = true /\ consTy f t = true /\ labM l = true
  ·obtain ⟨c, h1, h2⟩ := h f t (VTy.of q.1) (VTy.of q.2.1) q.2.2.1 l q.2.2.2
   exact ⟨c, fun _ _ _ _ => ⟨h1, h2⟩⟩
  ·exact ⟨cId 1, fun a b c d => absurd ⟨a, b, c, d⟩ q⟩
 exact ⟨fun f t l => (key f t l).choose, fun f t l => (key f t l).choose_spec⟩
theorem comp_fun : ∃ (G : Nat -> MCo -> MCo -> MCo) (O : Nat -> MCo -> MCo -> Bool), ∀ da a b, CoV da a -> CoV 8 b -> da <= 30 -> (O da a b = true -> CoV (da + 8) (G da a b)) /\ ACalls Tryz.prog 113 [aCo a, aCo b] [] (.tup [aCo (G da a b), .b (O da a b)]) [] [] := by
 have key : ∀ (da : Nat) (a b : MCo), ∃ r : MCo × Bool, CoV da a -> CoV 8 b -> da <= 30 -> (r.2 = true -> CoV (da + 8) r.1) /\ ACalls Tryz.prog 113 [aCo a, aCo b] [] (.tup [aCo r.1, .b r.2]) [] [] := by
  intro da a b
  by_cases q : CoV da a /\ CoV 8 b /\ da <= 30
  ·obtain ⟨c, ok, h1, h2, h3⟩ := compEx (nCo a + nCo b + 1) a b da 8 q.1 q.2.1 q.2.2 (by omega) (by omega)
   exact ⟨(c, ok), fun _ _ _ => ⟨fun h => (h2 h).1, h3⟩⟩
  ·exact ⟨(cId 1, true), fun a b c => absurd ⟨a, b, c⟩ q⟩
 exact ⟨fun d a b => (key d a b).choose.1, fun d a b => (key d a b).choose.2, fun d a b => (key d a b).choose_spec⟩

theorem near4 (b : List Int) (hb : okB b) (t : MTy) (ht : shapeTy 4 t = true) (p : Nat) (hp : p + 153600 <= 1099511627776) : Draws Tryz.prog 111 [aTy t] b p 153600 (RV aTy noA fun u => shapeTy 4 u = true /\ consTy t u = true) :=
 l6Near_ok b hb 4 t p (by omega) (VTy.of ht) ht (by omega)

theorem co_eta (x : MCo) : MCo.mk x.kind x.tag x.label x.kids = x := by cases x; simp
theorem cov24 {c : MCo} (h : CoV 24 c) : nCo c <= 40000000 := by
 have := h.small
 omega

set_option maxRecDepth 20000 in
theorem l6Draw_ok (b : List Int) (hb : okB b) (t : MTy) (ht : shapeTy 4 t = true) (p : Nat) (hp : p + 1000000 <= 1099511627776) : Draws Tryz.prog 82 [aTy t] b p 1000000 (RV (aP aCo aTy) noA fun x => CoV 24 x.1) := by
 obtain ⟨F, hF⟩ := cast_fun
 obtain ⟨G, O, hG⟩ := comp_fun
 refine Draws.of_body Tryz.func82 (by kernel_rfl) rfl (by kernel_rfl) (by simp [Tryz.ntmps82]) ?_
 rw [Tryz.ntmps82]
 repeat' first | ((first | refine aops_end (hK _ ?_) | refine aopsD_end (hK _ ?_) | refine aopsF_end (hK _ ?_)); clear hK K) | ((first | refine aops_go ?_ | refine aopsD_go ?_ | refine aopsF_go ?_); simp; (try simp (disch := omega) only [wrap64]); (try (refine gen2 ?_ ?_ <;> intro hq <;> try simp at hq))) | (refine wpcall_pure rfl ((hF _ _ _ (by assumption) ht1.1 ht1.2 (by simp [labM, inM]; omega)).2) ?_; simp; (try simp (disch := omega) only [wrap64]); (try (refine gen2 ?_ ?_ <;> intro hq <;> try simp at hq))) | ((first | refine wpcall_dr 0 rfl rfl (near4 b hb _ (by assumption) _ (by omega)) (fun t1 p1 ht1 hp1 hp1' => ?_) | refine wpcall_dr 0 rfl rfl (pick_ok b hb _ (by omega) 4 (by omega)) (fun y1 p2 hy1 hp2 hp2' => ?_) | refine wpcall_dr 0 rfl rfl (pick_ok b hb _ (by omega) 3 (by omega)) (fun y2 p3 hy2 hp3 hp3' => ?_)); simp) | refine TX.rdL (id := 2) mixed (fun _ => false) [3, 6, 7] [0, 1, 5] 7 [0] 6 7 (by kernel_rfl) rfl rfl rfl rfl td_implCoercion rfl (by simp) fun K hK => ?_ | (refine ⟨?_, ?_⟩; (focus (intros; refine wpcall_pure rfl ((hF _ _ _ (by assumption) ht1.1 ht1.2 (by simp [labM, inM]; omega)).2) ?_; simp; done))) | refine TX.rdF (id := 10) mixed (fun _ => false) [9, 10] [0, 1, 2, 4, 5] 10 [0] (by kernel_rfl) fun K hK => ?_ | refine TX.rdF1 (id := 10) mixed (fun _ => false) [9, 10] [0, 1, 2, 4, 5] 10 [0] (by kernel_rfl) fun K hK => ?_ | (refine ⟨?_, ?_⟩; (focus (intros; refine wpcall_pure rfl ((hF _ _ _ (by assumption) ht1.1 ht1.2 (by simp [labM, inM]; omega)).2) ?_; simp; done))) | refine TX.rdF (id := 14) mixed (fun _ => false) [2, 3] [1] 3 [0] (by kernel_rfl) fun K hK => ?_ | refine TX.rdF1 (id := 14) mixed (fun _ => false) [2, 3] [1] 3 [0] (by kernel_rfl) fun K hK => ?_ | (refine ⟨?_, ?_⟩; (focus (intros; refine wpcall_pure rfl ((hF _ _ _ (by assumption) ht1.1 ht1.2 (by simp [labM, inM]; omega)).2) ?_; simp; done))) | refine TX.rs (fun _ => false) fun K hK => ?_ | refine TX.rs1 (fun _ => false) fun K hK => ?_ | (refine ⟨by omega, ?_⟩) | refine TX.cond rfl (fun hcnd => ?_) (fun hcnd => absurd hcnd (by decide)) | refine TX.cond rfl (fun hcnd => absurd hcnd (by decide)) (fun hcnd => ?_) | refine TX.seq ?_ | refine TX.block ?_ | refine TX.skip ?_ | refine TX.exit ?_ | refine EX.thenN ?_ | refine EX.thenR ?_ | refine EX.thenE ?_ | refine EX.blockN ?_ | refine EX.blockR ?_ | refine EX.blockE ?_ | refine EX.blockO (by simp) ?_ | refine EX.outR ?_ | refine EX.outE ?_
 obtain ⟨M, hM1, hM2⟩ : ∃ M : Nat, 160000 <= M /\ M <= 200000 := ⟨160000, by omega, by omega⟩
 have hMy : M * y2 <= M * 2 := Nat.mul_le_mul_left M (by omega)
 refine TX.loopK (α := Nat × Nat × Nat × MCo × MTy × List (List CV)) [0, 4, 5, 6, 7] (fun x => [(8, .i x.1)]) (fun x => [(0, (rd b x.2.1).map CV.d), (4, (aTy x.2.2.2.2.1).cells), (5, (aCo x.2.2.2.1).cells)]) (fun x => x.2.2.2.2.2) (fun x A => A) (fun x => x.1) (fun x => x.1 <= 2 /\ p <= x.2.1 /\ x.2.1 + M * x.1 <= p + 154000 + M * 2 /\ shapeTy 4 x.2.2.2.2.1 = true /\ CoV x.2.2.1 x.2.2.2.1 /\ x.2.2.1 + 8 * x.1 <= 24) (by simp; rfl) (fun x hx => ?_) (y2, p3, 8, F t t1 (1 + y1), t1, []) (by refine ⟨by dsimp only; omega, by dsimp only; omega, by dsimp only; omega, ht1.1, (hF _ _ _ (by assumption) ht1.1 ht1.2 (by simp [labM, inM]; omega)).1, by dsimp only; omega⟩) (by simp) (by simp) (by simp)
 obtain ⟨j, q, da, c, t3, G1⟩ := x
 obtain ⟨h1, h2, h3, h4, h5, h6⟩ := hx
 dsimp only at h1 h2 h3 h4 h5 h6 ⊢
 have hsz : nCo c <= 40000000 := by have := h5.small; have := Nat.pow_le_pow_right (n := 2) (by omega) (show da <= 24 by omega); omega
 simp only [ups, List.set_cons_zero, List.set_cons_succ, List.cons_append, List.nil_append, List.append_nil]
 cases j with
 | zero =>
  repeat' first | ((first | refine aops_end (hK _ ?_) | refine aopsD_end (hK _ ?_) | refine aopsF_end (hK _ ?_)); clear hK K) | ((first | refine aops_go ?_ | refine aopsD_go ?_ | refine aopsF_go ?_); simp; (try simp (disch := omega) only [wrap64]); (try (refine gen2 ?_ ?_ <;> intro hq <;> try simp at hq))) | refine TX.rdL (id := 2) mixed (fun _ => false) [3, 6, 7] [0, 1, 5] 7 [2] 6 7 (by kernel_rfl) rfl rfl rfl rfl td_implCoercion rfl (by simp) fun K hK => ?_ | refine TX.rdF (id := 10) mixed (fun _ => false) [9, 10] [0, 1, 2, 4, 5] 10 [2] (by kernel_rfl) fun K hK => ?_ | refine TX.rdF1 (id := 10) mixed (fun _ => false) [9, 10] [0, 1, 2, 4, 5] 10 [2] (by kernel_rfl) fun K hK => ?_ | refine TX.rdF (id := 14) mixed (fun _ => false) [2, 3] [1] 3 [2] (by kernel_rfl) fun K hK => ?_ | refine TX.rdF1 (id := 14) mixed (fun _ => false) [2, 3] [1] 3 [2] (by kernel_rfl) fun K hK => ?_ | refine TX.rs (fun _ => false) fun K hK => ?_ | refine TX.rs1 (fun _ => false) fun K hK => ?_ | (refine ⟨by omega, ?_⟩) | refine TX.cond rfl (fun hcnd => ?_) (fun hcnd => absurd hcnd (by decide)) | refine TX.cond rfl (fun hcnd => absurd hcnd (by decide)) (fun hcnd => ?_) | refine TX.seq ?_ | refine TX.block ?_ | refine TX.skip ?_ | refine TX.exit ?_ | refine EX.thenN ?_ | refine EX.thenR ?_ | refine EX.thenE ?_ | refine EX.blockN ?_ | refine EX.blockR ?_ | refine EX.blockE ?_ | refine EX.blockO (by simp) ?_ | refine EX.outR ?_ | refine EX.outE ?_
  all_goals (
   refine TX.ret ?_
   repeat' first | refine EX.outR ?_ | refine EX.thenR ?_ | refine EX.blockR ?_ | refine EX.unrR ?_
   apply EX.drA (ks := [])
   case he => exact Or.inr rfl
   case hys => simp [resAs, getAs, Tryz.results82] <;> rfl
   case hv => first | (dsimp only [Av.one]; exact rfl) | dsimp only [Av.one]
   case hx => repeat' first | exact IsT2.var _ | exact IsV.tmv _ | exact IsTm.var _ | exact IsTy.row _ | exact IsTm.row _ | exact IsTys.nil | exact IsTms.nil | exact IsBds.nil | exact IsTys.map _ | exact IsTms.map _ | exact IsBds.map _ | exact IsV.int _ | exact IsV.str _ | exact IsV.bool _ | apply IsV.p2 | apply IsV.p3 | apply IsV.tm | apply IsV.ty | apply IsTm.node | apply IsTy.of | apply IsTys.cons | apply IsTms.cons | apply IsBds.cons | apply IsV.tys | apply IsV.tms | apply IsV.bds | apply IsT2.node | apply IsTys.app | apply IsTms.app | apply IsBds.app | exact IsCos.map _ | exact IsCos.nil | apply IsV.co | apply IsCos.cons | apply IsCos.app | apply IsV.ops | exact IsOps.map _ | exact IsOps.nil | apply IsOps.cons | apply IsOps.app | apply IsOps.set | apply IsOps.take
   case hA => exact rfl
   case hks => simp
   case hV => exact rfl
   case h1 => omega
   case h2 => omega
   case hg => (dsimp only; rw [co_eta]; exact h5.le (by omega)))
 | succ j =>
  have q1 : (0 : Int) < (j : Int) + 1 := by omega
  rw [Nat.mul_add, Nat.mul_one] at h3
  have hq1 : q + 153600 <= 1099511627776 := by
   have h7 : q <= p + 154000 + M * 2 := Nat.le_trans (Nat.le_add_right _ _) h3
   clear h3 h6 hsz h1 h5 hMy q1
   omega
  repeat' first | ((first | refine aops_end (hK _ ?_) | refine aopsD_end (hK _ ?_) | refine aopsF_end (hK _ ?_)); clear hK K) | ((first | refine aops_go ?_ | refine aopsD_go ?_ | refine aopsF_go ?_); simp [q1]; (try simp (disch := omega) only [wrap64]); (try (refine gen2 ?_ ?_ <;> intro hq <;> try simp [q1] at hq))) | (refine wpcall_pure rfl ((hF _ _ _ (by assumption) ht4.1 ht4.2 (by simp [labM, inM]; omega)).2) ?_; simp [q1]; (try simp (disch := omega) only [wrap64]); (try (refine gen2 ?_ ?_ <;> intro hq <;> try simp [q1] at hq))) | (refine wpcall_pure rfl ((hG _ _ _ (by assumption) (hF _ _ _ (by assumption) ht4.1 ht4.2 (by simp [labM, inM]; omega)).1 (by omega)).2) ?_; simp [q1]; (try simp (disch := omega) only [wrap64]); (try (refine gen2 ?_ ?_ <;> intro hq <;> try simp [q1] at hq))) | ((first | refine wpcall_dr 0 rfl rfl (near4 b hb _ h4 _ hq1) (fun t4 p4 ht4 hp4 hp4' => ?_) | refine wpcall_dr 0 rfl rfl (pick_ok b hb _ (by omega) 3 (by omega)) (fun y4 p5 hy4 hp5 hp5' => ?_) | refine wpcall_dr 0 rfl rfl (pick_ok b hb _ (by omega) 2 (by omega)) (fun y5 p6 hy5 hp6 hp6' => ?_)); simp) | (focus (refine EX.next (j, p6, da + 8, _, _, _) (by dsimp only; omega) ?_ ⟨rfl, by simp, ?_⟩; (refine ⟨by dsimp only; omega, by dsimp only; omega, by dsimp only; omega, ht4.1, (hG _ _ _ (by assumption) (hF _ _ _ (by assumption) ht4.1 ht4.2 (by simp [labM, inM]; omega)).1 (by omega)).1 (by assumption), by dsimp only; omega⟩); simp (disch := omega) [wrap64]; done)) | (focus (refine EX.next (j, p6, da, _, _, _) (by dsimp only; omega) ?_ ⟨rfl, by simp, ?_⟩; (refine ⟨by dsimp only; omega, by dsimp only; omega, by dsimp only; omega, h4, h5, by dsimp only; omega⟩); simp (disch := omega) [wrap64]; done)) | refine TX.rdL (id := 2) mixed (fun _ => false) [3, 6, 7] [0, 1, 5] 7 [0] 6 7 (by kernel_rfl) rfl rfl rfl rfl td_implCoercion rfl (by simp) fun K hK => ?_ | (refine ⟨?_, ?_⟩; (focus (intros; refine wpcall_pure rfl ((hF _ _ _ (by assumption) ht4.1 ht4.2 (by simp [labM, inM]; omega)).2) ?_; simp; done))) | (refine ⟨?_, ?_⟩; (focus (intros; refine wpcall_pure rfl ((hG _ _ _ (by assumption) (hF _ _ _ (by assumption) ht4.1 ht4.2 (by simp [labM, inM]; omega)).1 (by omega)).2) ?_; simp; done))) | refine TX.rdF (id := 10) mixed (fun _ => false) [9, 10] [0, 1, 2, 4, 5] 10 [0] (by kernel_rfl) fun K hK => ?_ | refine TX.rdF1 (id := 10) mixed (fun _ => false) [9, 10] [0, 1, 2, 4, 5] 10 [0] (by kernel_rfl) fun K hK => ?_ | (refine ⟨?_, ?_⟩; (focus (intros; refine wpcall_pure rfl ((hF _ _ _ (by assumption) ht4.1 ht4.2 (by simp [labM, inM]; omega)).2) ?_; simp; done))) | (refine ⟨?_, ?_⟩; (focus (intros; refine wpcall_pure rfl ((hG _ _ _ (by assumption) (hF _ _ _ (by assumption) ht4.1 ht4.2 (by simp [labM, inM]; omega)).1 (by omega)).2) ?_; simp; done))) | refine TX.rdF (id := 14) mixed (fun _ => false) [2, 3] [1] 3 [0] (by kernel_rfl) fun K hK => ?_ | refine TX.rdF1 (id := 14) mixed (fun _ => false) [2, 3] [1] 3 [0] (by kernel_rfl) fun K hK => ?_ | (refine ⟨?_, ?_⟩; (focus (intros; refine wpcall_pure rfl ((hF _ _ _ (by assumption) ht4.1 ht4.2 (by simp [labM, inM]; omega)).2) ?_; simp; done))) | (refine ⟨?_, ?_⟩; (focus (intros; refine wpcall_pure rfl ((hG _ _ _ (by assumption) (hF _ _ _ (by assumption) ht4.1 ht4.2 (by simp [labM, inM]; omega)).1 (by omega)).2) ?_; simp; done))) | refine TX.rs (fun _ => false) fun K hK => ?_ | refine TX.rs1 (fun _ => false) fun K hK => ?_ | (refine ⟨by omega, ?_⟩) | refine TX.cond rfl (fun hcnd => ?_) (fun hcnd => absurd hcnd (by decide)) | refine TX.cond rfl (fun hcnd => absurd hcnd (by decide)) (fun hcnd => ?_) | refine TX.seq ?_ | refine TX.block ?_ | refine TX.skip ?_ | refine TX.exit ?_ | refine EX.thenN ?_ | refine EX.thenR ?_ | refine EX.thenE ?_ | refine EX.blockN ?_ | refine EX.blockR ?_ | refine EX.blockE ?_ | refine EX.blockO (by simp) ?_ | refine EX.outR ?_ | refine EX.outE ?_

theorem nCo_eta (x : MCo) : nCo (.mk x.kind x.tag x.label x.kids) = nCo x := by rw [nCo_mk, <- nCo_def]
theorem l6One_ok (b : List Int) (hb : okB b) (p : Nat) (hp : p + 1001000 <= 1099511627776) : Draws Tryz.prog 49 [] b p 1001000 (RV aCo noA fun x => CoV 24 x) := by
 refine Draws.of_body Tryz.func49 (by kernel_rfl) rfl (by kernel_rfl) (by simp [Tryz.ntmps49]) ?_
 rw [Tryz.ntmps49]
 repeat' first | ((first | refine aops_end (hK _ ?_) | refine aopsD_end (hK _ ?_) | refine aopsF_end (hK _ ?_)); clear hK K) | ((first | refine aops_go ?_ | refine aopsD_go ?_ | refine aopsF_go ?_); simp; (try simp (disch := omega) only [wrap64]); (try (refine gen2 ?_ ?_ <;> intro hq <;> try simp at hq))) | (refine wpcall_dr 0 rfl rfl (l1Type_ok b hb _ (by omega)) (fun t p1 ht hp1 hp1' => ?_); simp) | (refine wpcall_dr 0 rfl rfl (l6Draw_ok b hb _ (by assumption) _ (by omega)) (fun z p2 hz hp2 hp2' => ?_); (obtain ⟨c, t⟩ := z); simp at hz; simp [aP]) | refine TX.rs (fun _ => false) fun K hK => ?_ | refine TX.rs1 (fun _ => false) fun K hK => ?_ | (refine ⟨by omega, ?_⟩) | refine TX.cond rfl (fun hcnd => ?_) (fun hcnd => absurd hcnd (by decide)) | refine TX.cond rfl (fun hcnd => absurd hcnd (by decide)) (fun hcnd => ?_) | refine TX.seq ?_ | refine TX.block ?_ | refine TX.skip ?_ | refine TX.exit ?_ | refine EX.thenN ?_ | refine EX.thenR ?_ | refine EX.thenE ?_ | refine EX.blockN ?_ | refine EX.blockR ?_ | refine EX.blockE ?_ | refine EX.blockO (by simp) ?_ | refine EX.outR ?_ | refine EX.outE ?_
 all_goals (
  refine TX.ret ?_
  repeat' first | refine EX.outR ?_ | refine EX.thenR ?_ | refine EX.blockR ?_ | refine EX.unrR ?_
  apply EX.drA (ks := [])
  case he => exact Or.inr rfl
  case hys => simp [resAs, getAs, Tryz.results49] <;> rfl
  case hv => first | (dsimp only [Av.one]; exact rfl) | dsimp only [Av.one]
  case hx => repeat' first | exact IsT2.var _ | exact IsV.tmv _ | exact IsTm.var _ | exact IsTy.row _ | exact IsTm.row _ | exact IsTys.nil | exact IsTms.nil | exact IsBds.nil | exact IsTys.map _ | exact IsTms.map _ | exact IsBds.map _ | exact IsV.int _ | exact IsV.str _ | exact IsV.bool _ | apply IsV.p2 | apply IsV.p3 | apply IsV.tm | apply IsV.ty | apply IsTm.node | apply IsTy.of | apply IsTys.cons | apply IsTms.cons | apply IsBds.cons | apply IsV.tys | apply IsV.tms | apply IsV.bds | apply IsT2.node | apply IsTys.app | apply IsTms.app | apply IsBds.app | exact IsCos.map _ | exact IsCos.nil | apply IsV.co | apply IsCos.cons | apply IsCos.app | apply IsV.ops | exact IsOps.map _ | exact IsOps.nil | apply IsOps.cons | apply IsOps.app | apply IsOps.set | apply IsOps.take
  case hA => exact rfl
  case hks => simp
  case hV => exact rfl
  case h1 => omega
  case h2 => omega
  case hg => rw [co_eta]; exact hz)

end Go.Proofs.YtcgmmknfpfdghaaGreatDoor

namespace Go.Proofs.YtcgmmknfpfdghaaGreatDoor
attribute [-simp] Go.Av.astepJ Go.Av.relC Go.Av.relL Go.Av.relV Go.Av.relVs Go.Av.callJ Go.Av.IT.kind_v Go.Av.IT.kind_b Go.Av.IT.kind_p Go.Av.IT.name_v Go.Av.IT.name_b Go.Av.IT.name_p Go.Av.IT.kids_v Go.Av.IT.kids_b Go.Av.IT.kids_p Go.Av.eIT_len
open Go Go.Av
attribute [local irreducible] T ACalls TX EX LX Draws Some_ ACallsX eTy eTm MTy.kind MTy.kids MTm.kind MTm.name MTm.num MTm.ty MTm.fr MTm.label MTm.kids
attribute [local simp] eTy_def eTm_def
set_option maxHeartbeats 16000000
set_option maxRecDepth 8000
attribute [local irreducible] eCo MCo.kind MCo.tag MCo.label MCo.kids
attribute [local simp] eCo_def

theorem l6Letter_ok {k : Int} (h1 : 1 <= k) (h5 : k <= 5) : ACalls Tryz.prog 73 [.i k] [] (.s [signB k]) [] [] := by
 have hk : k = 1 \/ k = 2 \/ k = 3 \/ k = 4 \/ k = 5 := by omega
 have hw : ∀ z : Int, 0 <= z -> z <= 7 -> IntKind.i64.wrap z = z := fun z h1 h2 => wrap64 (by omega) (by omega)
 have w2 := hw 2 (by omega) (by omega)
 have w3 := hw 3 (by omega) (by omega)
 have w4 := hw 4 (by omega) (by omega)
 have w5 := hw 5 (by omega) (by omega)
 have w6 := hw 6 (by omega) (by omega)
 have w7 := hw 7 (by omega) (by omega)
 rcases hk with rfl | rfl | rfl | rfl | rfl
 ·refine ACalls.of_body Tryz.func73 (by kernel_rfl) rfl (by kernel_rfl) (by simp [Tryz.ntmps73]) (by simp) ?_
  rw [Tryz.ntmps73]
  repeat' first | ((first | refine aops_end (hK _ ?_) | refine aopsD_end (hK _ ?_) | refine aopsF_end (hK _ ?_)); clear hK K) | ((first | refine aops_go ?_ | refine aopsD_go ?_ | refine aopsF_go ?_); simp [w2, w3, w4, w5, w6, w7]; (try (refine gen2 ?_ ?_ <;> intro hq <;> try simp [w2, w3, w4, w5, w6, w7] at hq))) | (refine T.ret (Done.data (Or.inr rfl) ?_ ?_) <;> simp [Tryz.results73, signB] <;> omega) | refine T.r0 fun K hK => ?_ | refine T.r1 fun K hK => ?_ | (refine ⟨by omega, ?_⟩) | refine T.ct rfl ?_ | refine T.cf rfl ?_ | refine T.seq ?_ | refine T.block ?_ | refine T.skip ?_ | refine T.exit ?_
 ·refine ACalls.of_body Tryz.func73 (by kernel_rfl) rfl (by kernel_rfl) (by simp [Tryz.ntmps73]) (by simp) ?_
  rw [Tryz.ntmps73]
  repeat' first | ((first | refine aops_end (hK _ ?_) | refine aopsD_end (hK _ ?_) | refine aopsF_end (hK _ ?_)); clear hK K) | ((first | refine aops_go ?_ | refine aopsD_go ?_ | refine aopsF_go ?_); simp [w2, w3, w4, w5, w6, w7]; (try (refine gen2 ?_ ?_ <;> intro hq <;> try simp [w2, w3, w4, w5, w6, w7] at hq))) | (refine T.ret (Done.data (Or.inr rfl) ?_ ?_) <;> simp [Tryz.results73, signB] <;> omega) | refine T.r0 fun K hK => ?_ | refine T.r1 fun K hK => ?_ | (refine ⟨by omega, ?_⟩) | refine T.ct rfl ?_ | refine T.cf rfl ?_ | refine T.seq ?_ | refine T.block ?_ | refine T.skip ?_ | refine T.exit ?_
 ·refine ACalls.of_body Tryz.func73 (by kernel_rfl) rfl (by kernel_rfl) (by simp [Tryz.ntmps73]) (by simp) ?_
  rw [Tryz.ntmps73]
  repeat' first | ((first | refine aops_end (hK _ ?_) | refine aopsD_end (hK _ ?_) | refine aopsF_end (hK _ ?_)); clear hK K) | ((first | refine aops_go ?_ | refine aopsD_go ?_ | refine aopsF_go ?_); simp [w2, w3, w4, w5, w6, w7]; (try (refine gen2 ?_ ?_ <;> intro hq <;> try simp [w2, w3, w4, w5, w6, w7] at hq))) | (refine T.ret (Done.data (Or.inr rfl) ?_ ?_) <;> simp [Tryz.results73, signB] <;> omega) | refine T.r0 fun K hK => ?_ | refine T.r1 fun K hK => ?_ | (refine ⟨by omega, ?_⟩) | refine T.ct rfl ?_ | refine T.cf rfl ?_ | refine T.seq ?_ | refine T.block ?_ | refine T.skip ?_ | refine T.exit ?_
 ·refine ACalls.of_body Tryz.func73 (by kernel_rfl) rfl (by kernel_rfl) (by simp [Tryz.ntmps73]) (by simp) ?_
  rw [Tryz.ntmps73]
  repeat' first | ((first | refine aops_end (hK _ ?_) | refine aopsD_end (hK _ ?_) | refine aopsF_end (hK _ ?_)); clear hK K) | ((first | refine aops_go ?_ | refine aopsD_go ?_ | refine aopsF_go ?_); simp [w2, w3, w4, w5, w6, w7]; (try (refine gen2 ?_ ?_ <;> intro hq <;> try simp [w2, w3, w4, w5, w6, w7] at hq))) | (refine T.ret (Done.data (Or.inr rfl) ?_ ?_) <;> simp [Tryz.results73, signB] <;> omega) | refine T.r0 fun K hK => ?_ | refine T.r1 fun K hK => ?_ | (refine ⟨by omega, ?_⟩) | refine T.ct rfl ?_ | refine T.cf rfl ?_ | refine T.seq ?_ | refine T.block ?_ | refine T.skip ?_ | refine T.exit ?_
 ·refine ACalls.of_body Tryz.func73 (by kernel_rfl) rfl (by kernel_rfl) (by simp [Tryz.ntmps73]) (by simp) ?_
  rw [Tryz.ntmps73]
  repeat' first | ((first | refine aops_end (hK _ ?_) | refine aopsD_end (hK _ ?_) | refine aopsF_end (hK _ ?_)); clear hK K) | ((first | refine aops_go ?_ | refine aopsD_go ?_ | refine aopsF_go ?_); simp [w2, w3, w4, w5, w6, w7]; (try (refine gen2 ?_ ?_ <;> intro hq <;> try simp [w2, w3, w4, w5, w6, w7] at hq))) | (refine T.ret (Done.data (Or.inr rfl) ?_ ?_) <;> simp [Tryz.results73, signB] <;> omega) | refine T.r0 fun K hK => ?_ | refine T.r1 fun K hK => ?_ | (refine ⟨by omega, ?_⟩) | refine T.ct rfl ?_ | refine T.cf rfl ?_ | refine T.seq ?_ | refine T.block ?_ | refine T.skip ?_ | refine T.exit ?_

theorem tag2_ok (k : Int) (x y : MCo) (hk : k = 2 \/ k = 3) : ACalls Tryz.prog 67 [aCo (cTwo k x y)] [] (.i (if k = 2 then 4 else 5)) [] [] := by
 rcases hk with rfl | rfl
 ·refine ACalls.of_body Tryz.func67 (by kernel_rfl) rfl (by kernel_rfl) (by simp [Tryz.ntmps67]) (by simp) ?_
  rw [Tryz.ntmps67]
  repeat' first | ((first | refine aops_end (hK _ ?_) | refine aopsD_end (hK _ ?_) | refine aopsF_end (hK _ ?_)); clear hK K) | ((first | refine aops_go ?_ | refine aopsD_go ?_ | refine aopsF_go ?_); simp; (try (refine gen2 ?_ ?_ <;> intro hq <;> try simp at hq))) | (refine T.ret (Done.data (Or.inr rfl) ?_ ?_) <;> simp [Tryz.results67] <;> omega) | refine T.r0 fun K hK => ?_ | refine T.r1 fun K hK => ?_ | (refine ⟨by omega, ?_⟩) | refine T.ct rfl ?_ | refine T.cf rfl ?_ | refine T.seq ?_ | refine T.block ?_ | refine T.skip ?_ | refine T.exit ?_
 ·refine ACalls.of_body Tryz.func67 (by kernel_rfl) rfl (by kernel_rfl) (by simp [Tryz.ntmps67]) (by simp) ?_
  rw [Tryz.ntmps67]
  repeat' first | ((first | refine aops_end (hK _ ?_) | refine aopsD_end (hK _ ?_) | refine aopsF_end (hK _ ?_)); clear hK K) | ((first | refine aops_go ?_ | refine aopsD_go ?_ | refine aopsF_go ?_); simp; (try (refine gen2 ?_ ?_ <;> intro hq <;> try simp at hq))) | (refine T.ret (Done.data (Or.inr rfl) ?_ ?_) <;> simp [Tryz.results67] <;> omega) | refine T.r0 fun K hK => ?_ | refine T.r1 fun K hK => ?_ | (refine ⟨by omega, ?_⟩) | refine T.ct rfl ?_ | refine T.cf rfl ?_ | refine T.seq ?_ | refine T.block ?_ | refine T.skip ?_ | refine T.exit ?_

theorem coText_ok {d : Nat} {c : MCo} (h : CoV d c) (hd : d <= 24) : ACalls Tryz.prog 42 [aCo c] [] (.s (coTextF d c)) [] [] := by
 induction h with
 | @id d t h1 h2 =>
  have k1 := sign_ok (k := t) (by omega) (by omega)
  rw [coTextF_id]
  generalize signB t = z at k1 ⊢
  refine ACalls.of_body Tryz.func42 (by kernel_rfl) rfl (by kernel_rfl) (by simp [Tryz.ntmps42]) (by simp) ?_
  rw [Tryz.ntmps42]
  repeat' first | ((first | refine aops_end (hK _ ?_) | refine aopsD_end (hK _ ?_) | refine aopsF_end (hK _ ?_)); clear hK K) | ((first | refine aops_go ?_ | refine aopsD_go ?_ | refine aopsF_go ?_ | refine wpcall_pure rfl (k1) ?_); simp; (try (refine gen2 ?_ ?_ <;> intro hq <;> try simp at hq))) | (refine T.ret (Done.data (Or.inr rfl) ?_ ?_) <;> simp [Tryz.results42] <;> omega) | refine T.rd (id := 7) mixed (fun _ => false) [] (by kernel_rfl) fun K hK => ?_ | refine T.rd1 (id := 7) mixed (fun _ => false) [] (by kernel_rfl) fun K hK => ?_ | refine T.rd (id := 9) mixed (fun _ => false) [] (by kernel_rfl) fun K hK => ?_ | refine T.rd1 (id := 9) mixed (fun _ => false) [] (by kernel_rfl) fun K hK => ?_ | refine T.rd (id := 10) mixed (fun _ => false) [] (by kernel_rfl) fun K hK => ?_ | refine T.rd1 (id := 10) mixed (fun _ => false) [] (by kernel_rfl) fun K hK => ?_ | refine T.r0 fun K hK => ?_ | refine T.r1 fun K hK => ?_ | (refine ⟨by omega, ?_⟩) | refine T.ct rfl ?_ | refine T.cf rfl ?_ | refine T.seq ?_ | refine T.block ?_ | refine T.skip ?_ | refine T.exit ?_
 | @fail d b t hb h1 h2 =>
  have k1 := sign_ok (k := t) (by omega) (by omega)
  have hlb := lab_bound hb
  have k2 := Itoa_ok b (by omega) (by omega)
  have la := itoa_len_le (n := b) (by omega) (by omega)
  rw [coTextF_fail]
  generalize signB t = z at k1 ⊢
  generalize Lib.itoa b = A at *
  refine ACalls.of_body Tryz.func42 (by kernel_rfl) rfl (by kernel_rfl) (by simp [Tryz.ntmps42]) (by simp) ?_
  rw [Tryz.ntmps42]
  repeat' first | ((first | refine aops_end (hK _ ?_) | refine aopsD_end (hK _ ?_) | refine aopsF_end (hK _ ?_)); clear hK K) | ((first | refine aops_go ?_ | refine aopsD_go ?_ | refine aopsF_go ?_ | refine wpcall_pure rfl (k1) ?_ | refine wpcall_pure rfl (k2) ?_); simp; (try simp (disch := omega) only [wrap64, catLe]); (try (refine gen2 ?_ ?_ <;> intro hq <;> try simp at hq))) | (refine T.ret (Done.data (Or.inr rfl) ?_ ?_) <;> simp [Tryz.results42] <;> omega) | refine T.rd (id := 7) mixed (fun _ => false) [] (by kernel_rfl) fun K hK => ?_ | refine T.rd1 (id := 7) mixed (fun _ => false) [] (by kernel_rfl) fun K hK => ?_ | refine T.rd (id := 9) mixed (fun _ => false) [] (by kernel_rfl) fun K hK => ?_ | refine T.rd1 (id := 9) mixed (fun _ => false) [] (by kernel_rfl) fun K hK => ?_ | refine T.rd (id := 10) mixed (fun _ => false) [] (by kernel_rfl) fun K hK => ?_ | refine T.rd1 (id := 10) mixed (fun _ => false) [] (by kernel_rfl) fun K hK => ?_ | refine T.r0 fun K hK => ?_ | refine T.r1 fun K hK => ?_ | (refine ⟨by omega, ?_⟩) | refine T.ct rfl ?_ | refine T.cf rfl ?_ | refine T.seq ?_ | refine T.block ?_ | refine T.skip ?_ | refine T.exit ?_
 | @inj d x hx hg ih =>
  replace ih := ih (by omega)
  have la := coTextF_le hx (by omega)
  rw [coTextF_inj]
  generalize coTextF d x = A at *
  refine ACalls.of_body Tryz.func42 (by kernel_rfl) rfl (by kernel_rfl) (by simp [Tryz.ntmps42]) (by simp) ?_
  rw [Tryz.ntmps42]
  repeat' first | ((first | refine aops_end (hK _ ?_) | refine aopsD_end (hK _ ?_) | refine aopsF_end (hK _ ?_)); clear hK K) | ((first | refine aops_go ?_ | refine aopsD_go ?_ | refine aopsF_go ?_ | refine wpcall_pure rfl (ih) ?_); simp; (try simp (disch := omega) only [wrap64, catLe]); (try (refine gen2 ?_ ?_ <;> intro hq <;> try simp at hq))) | (refine T.ret (Done.data (Or.inr rfl) ?_ ?_) <;> simp [Tryz.results42] <;> omega) | refine T.rd (id := 7) mixed (fun _ => false) [] (by kernel_rfl) fun K hK => ?_ | refine T.rd1 (id := 7) mixed (fun _ => false) [] (by kernel_rfl) fun K hK => ?_ | refine T.rd (id := 9) mixed (fun _ => false) [] (by kernel_rfl) fun K hK => ?_ | refine T.rd1 (id := 9) mixed (fun _ => false) [] (by kernel_rfl) fun K hK => ?_ | refine T.rd (id := 10) mixed (fun _ => false) [] (by kernel_rfl) fun K hK => ?_ | refine T.rd1 (id := 10) mixed (fun _ => false) [] (by kernel_rfl) fun K hK => ?_ | refine T.r0 fun K hK => ?_ | refine T.r1 fun K hK => ?_ | (refine ⟨by omega, ?_⟩) | refine T.ct rfl ?_ | refine T.cf rfl ?_ | refine T.seq ?_ | refine T.block ?_ | refine T.skip ?_ | refine T.exit ?_
 | @proj d b x hb hx hg ih =>
  replace ih := ih (by omega)
  have hlb := lab_bound hb
  have k2 := Itoa_ok b (by omega) (by omega)
  have lb := itoa_len_le (n := b) (by omega) (by omega)
  have la := coTextF_le hx (by omega)
  rw [coTextF_proj]
  generalize coTextF d x = A at *
  generalize Lib.itoa b = B at *
  refine ACalls.of_body Tryz.func42 (by kernel_rfl) rfl (by kernel_rfl) (by simp [Tryz.ntmps42]) (by simp) ?_
  rw [Tryz.ntmps42]
  repeat' first | ((first | refine aops_end (hK _ ?_) | refine aopsD_end (hK _ ?_) | refine aopsF_end (hK _ ?_)); clear hK K) | ((first | refine aops_go ?_ | refine aopsD_go ?_ | refine aopsF_go ?_ | refine wpcall_pure rfl (ih) ?_ | refine wpcall_pure rfl (k2) ?_); simp; (try simp (disch := omega) only [wrap64, catLe]); (try (refine gen2 ?_ ?_ <;> intro hq <;> try simp at hq))) | (refine T.ret (Done.data (Or.inr rfl) ?_ ?_) <;> simp [Tryz.results42] <;> omega) | refine T.rd (id := 7) mixed (fun _ => false) [] (by kernel_rfl) fun K hK => ?_ | refine T.rd1 (id := 7) mixed (fun _ => false) [] (by kernel_rfl) fun K hK => ?_ | refine T.rd (id := 9) mixed (fun _ => false) [] (by kernel_rfl) fun K hK => ?_ | refine T.rd1 (id := 9) mixed (fun _ => false) [] (by kernel_rfl) fun K hK => ?_ | refine T.rd (id := 10) mixed (fun _ => false) [] (by kernel_rfl) fun K hK => ?_ | refine T.rd1 (id := 10) mixed (fun _ => false) [] (by kernel_rfl) fun K hK => ?_ | refine T.r0 fun K hK => ?_ | refine T.r1 fun K hK => ?_ | (refine ⟨by omega, ?_⟩) | refine T.ct rfl ?_ | refine T.cf rfl ?_ | refine T.seq ?_ | refine T.block ?_ | refine T.skip ?_ | refine T.exit ?_
 | @two d k x y hk hx hy ih1 ih2 =>
  replace ih1 := ih1 (by omega)
  replace ih2 := ih2 (by omega)
  have la := coTextF_le hx (by omega)
  have lb := coTextF_le hy (by omega)
  have k1 := tag2_ok k x y hk
  rw [coTextF_two]
  generalize coTextF d x = A at *
  generalize coTextF d y = B at *
  rcases hk with rfl | rfl
  ·have k2 := sign_ok (k := 4) (by omega) (by omega)
   rw [show signB 4 = 62 from rfl] at k2
   rw [if_pos rfl] at k1 ⊢
   refine ACalls.of_body Tryz.func42 (by kernel_rfl) rfl (by kernel_rfl) (by simp [Tryz.ntmps42]) (by simp) ?_
   rw [Tryz.ntmps42]
   repeat' first | ((first | refine aops_end (hK _ ?_) | refine aopsD_end (hK _ ?_) | refine aopsF_end (hK _ ?_)); clear hK K) | ((first | refine aops_go ?_ | refine aopsD_go ?_ | refine aopsF_go ?_ | refine wpcall_pure rfl (ih1) ?_ | refine wpcall_pure rfl (ih2) ?_ | (refine wpcall_pure ?_ (k1) ?_; (focus (solve | simp))) | refine wpcall_pure rfl (k2) ?_); simp; (try simp (disch := omega) only [wrap64, catLe]); (try (refine gen2 ?_ ?_ <;> intro hq <;> try simp at hq))) | (refine T.ret (Done.data (Or.inr rfl) ?_ ?_) <;> simp [Tryz.results42] <;> omega) | refine T.rd (id := 7) mixed (fun _ => false) [] (by kernel_rfl) fun K hK => ?_ | refine T.rd1 (id := 7) mixed (fun _ => false) [] (by kernel_rfl) fun K hK => ?_ | refine T.rd (id := 9) mixed (fun _ => false) [] (by kernel_rfl) fun K hK => ?_ | refine T.rd1 (id := 9) mixed (fun _ => false) [] (by kernel_rfl) fun K hK => ?_ | refine T.rd (id := 10) mixed (fun _ => false) [] (by kernel_rfl) fun K hK => ?_ | refine T.rd1 (id := 10) mixed (fun _ => false) [] (by kernel_rfl) fun K hK => ?_ | refine T.r0 fun K hK => ?_ | refine T.r1 fun K hK => ?_ | (refine ⟨by omega, ?_⟩) | refine T.ct rfl ?_ | refine T.cf rfl ?_ | refine T.seq ?_ | refine T.block ?_ | refine T.skip ?_ | refine T.exit ?_
  ·have k2 := sign_ok (k := 5) (by omega) (by omega)
   rw [show signB 5 = 42 from rfl] at k2
   rw [if_neg (by decide)] at k1 ⊢
   refine ACalls.of_body Tryz.func42 (by kernel_rfl) rfl (by kernel_rfl) (by simp [Tryz.ntmps42]) (by simp) ?_
   rw [Tryz.ntmps42]
   repeat' first | ((first | refine aops_end (hK _ ?_) | refine aopsD_end (hK _ ?_) | refine aopsF_end (hK _ ?_)); clear hK K) | ((first | refine aops_go ?_ | refine aopsD_go ?_ | refine aopsF_go ?_ | refine wpcall_pure rfl (ih1) ?_ | refine wpcall_pure rfl (ih2) ?_ | (refine wpcall_pure ?_ (k1) ?_; (focus (solve | simp))) | refine wpcall_pure rfl (k2) ?_); simp; (try simp (disch := omega) only [wrap64, catLe]); (try (refine gen2 ?_ ?_ <;> intro hq <;> try simp at hq))) | (refine T.ret (Done.data (Or.inr rfl) ?_ ?_) <;> simp [Tryz.results42] <;> omega) | refine T.rd (id := 7) mixed (fun _ => false) [] (by kernel_rfl) fun K hK => ?_ | refine T.rd1 (id := 7) mixed (fun _ => false) [] (by kernel_rfl) fun K hK => ?_ | refine T.rd (id := 9) mixed (fun _ => false) [] (by kernel_rfl) fun K hK => ?_ | refine T.rd1 (id := 9) mixed (fun _ => false) [] (by kernel_rfl) fun K hK => ?_ | refine T.rd (id := 10) mixed (fun _ => false) [] (by kernel_rfl) fun K hK => ?_ | refine T.rd1 (id := 10) mixed (fun _ => false) [] (by kernel_rfl) fun K hK => ?_ | refine T.r0 fun K hK => ?_ | refine T.r1 fun K hK => ?_ | (refine ⟨by omega, ?_⟩) | refine T.ct rfl ?_ | refine T.cf rfl ?_ | refine T.seq ?_ | refine T.block ?_ | refine T.skip ?_ | refine T.exit ?_

theorem l6Text_ok {d : Nat} {c : MCo} (h : CoV d c) (hd : d <= 24) : ACalls Tryz.prog 45 [aCo c] [] (.s (coTextF d c)) [] [] := by
 have hdec : ∀ b : Int, labM b = true -> (b < 0 /\ ∃ n : Nat, -b = n /\ IntKind.i64.wrap (-b) = n /\ Lib.itoa b = 45 :: Lib.decDigits n /\ (Lib.decDigits n).length <= 4 /\ n <= 1099511627776) \/ (¬ b < 0 /\ ∃ n : Nat, b = n /\ Lib.itoa b = Lib.decDigits n /\ (Lib.decDigits n).length <= 4 /\ n <= 1099511627776) := fun b hb => by
  have hlb := lab_bound hb
  by_cases h0 : b < 0
  ·obtain ⟨n, hn⟩ : ∃ n : Nat, -b = n := ⟨(-b).toNat, by omega⟩
   refine .inl ⟨h0, n, hn, by rw [wrap64 (by omega) (by omega), hn], by rw [itoa_neg h0, hn, itoa_nonneg], dec_len_le n (by omega), by omega⟩
  ·obtain ⟨n, rfl⟩ : ∃ n : Nat, b = n := ⟨b.toNat, by omega⟩
   exact .inr ⟨h0, n, rfl, itoa_nonneg n, dec_len_le n (by omega), by omega⟩
 induction h with
 | @id d t h1 h2 =>
  have k1 := l6Letter_ok (k := t) (by omega) (by omega)
  rw [coTextF_id]
  generalize signB t = z at k1 ⊢
  refine ACalls.of_body Tryz.func45 (by kernel_rfl) rfl (by kernel_rfl) (by simp [Tryz.ntmps45]) (by simp) ?_
  rw [Tryz.ntmps45]
  repeat' first | ((first | refine aops_end (hK _ ?_) | refine aopsD_end (hK _ ?_) | refine aopsF_end (hK _ ?_)); clear hK K) | ((first | refine aops_go ?_ | refine aopsD_go ?_ | refine aopsF_go ?_ | refine wpcall_pure rfl (k1) ?_); simp; (try (refine gen2 ?_ ?_ <;> intro hq <;> try simp at hq))) | (refine T.ret (Done.data (Or.inr rfl) ?_ ?_) <;> simp [Tryz.results45] <;> omega) | refine T.rd (id := 10) mixed (fun _ => false) [] (by kernel_rfl) fun K hK => ?_ | refine T.rd1 (id := 10) mixed (fun _ => false) [] (by kernel_rfl) fun K hK => ?_ | refine T.rd (id := 12) mixed (fun _ => false) [] (by kernel_rfl) fun K hK => ?_ | refine T.rd1 (id := 12) mixed (fun _ => false) [] (by kernel_rfl) fun K hK => ?_ | refine T.rd (id := 16) mixed (fun _ => false) [] (by kernel_rfl) fun K hK => ?_ | refine T.rd1 (id := 16) mixed (fun _ => false) [] (by kernel_rfl) fun K hK => ?_ | refine T.rd (id := 17) mixed (fun _ => false) [] (by kernel_rfl) fun K hK => ?_ | refine T.rd1 (id := 17) mixed (fun _ => false) [] (by kernel_rfl) fun K hK => ?_ | refine T.r0 fun K hK => ?_ | refine T.r1 fun K hK => ?_ | (refine ⟨by omega, ?_⟩) | refine T.ct rfl ?_ | refine T.cf rfl ?_ | refine T.seq ?_ | refine T.block ?_ | refine T.skip ?_ | refine T.exit ?_
 | @fail d b t hb h1 h2 =>
  have k1 := l6Letter_ok (k := t) (by omega) (by omega)
  rw [coTextF_fail]
  generalize signB t = z at k1 ⊢
  rcases hdec b hb with ⟨h0, n, e1, e2, e3, e4, e5⟩ | ⟨h0, n, rfl, e3, e4, e5⟩
  ·have k2 := l18DecN_ok n e5
   rw [e3]
   generalize Lib.decDigits n = A at *
   clear hdec e1 e3
   refine ACalls.of_body Tryz.func45 (by kernel_rfl) rfl (by kernel_rfl) (by simp [Tryz.ntmps45]) (by simp) ?_
   rw [Tryz.ntmps45]
   repeat' first | ((first | refine aops_end (hK _ ?_) | refine aopsD_end (hK _ ?_) | refine aopsF_end (hK _ ?_)); clear hK K) | ((first | refine aops_go ?_ | refine aopsD_go ?_ | refine aopsF_go ?_ | refine wpcall_pure rfl (k1) ?_ | refine wpcall_pure rfl (k2) ?_); simp [h0, e2]; (try simp (disch := omega) only [wrap64, catLe]); (try (refine gen2 ?_ ?_ <;> intro hq <;> try simp [h0, e2] at hq))) | (refine T.ret (Done.data (Or.inr rfl) ?_ ?_) <;> simp [Tryz.results45] <;> omega) | refine T.rd (id := 10) mixed (fun _ => false) [] (by kernel_rfl) fun K hK => ?_ | refine T.rd1 (id := 10) mixed (fun _ => false) [] (by kernel_rfl) fun K hK => ?_ | refine T.rd (id := 12) mixed (fun _ => false) [] (by kernel_rfl) fun K hK => ?_ | refine T.rd1 (id := 12) mixed (fun _ => false) [] (by kernel_rfl) fun K hK => ?_ | refine T.rd (id := 16) mixed (fun _ => false) [] (by kernel_rfl) fun K hK => ?_ | refine T.rd1 (id := 16) mixed (fun _ => false) [] (by kernel_rfl) fun K hK => ?_ | refine T.rd (id := 17) mixed (fun _ => false) [] (by kernel_rfl) fun K hK => ?_ | refine T.rd1 (id := 17) mixed (fun _ => false) [] (by kernel_rfl) fun K hK => ?_ | refine T.r0 fun K hK => ?_ | refine T.r1 fun K hK => ?_ | (refine ⟨by omega, ?_⟩) | refine T.ct rfl ?_ | refine T.cf rfl ?_ | refine T.seq ?_ | refine T.block ?_ | refine T.skip ?_ | refine T.exit ?_
  ·have k2 := l18DecN_ok n e5
   rw [e3]
   generalize Lib.decDigits n = A at *
   clear hdec e3
   refine ACalls.of_body Tryz.func45 (by kernel_rfl) rfl (by kernel_rfl) (by simp [Tryz.ntmps45]) (by simp) ?_
   rw [Tryz.ntmps45]
   repeat' first | ((first | refine aops_end (hK _ ?_) | refine aopsD_end (hK _ ?_) | refine aopsF_end (hK _ ?_)); clear hK K) | ((first | refine aops_go ?_ | refine aopsD_go ?_ | refine aopsF_go ?_ | refine wpcall_pure rfl (k1) ?_ | refine wpcall_pure rfl (k2) ?_); simp [h0]; (try simp (disch := omega) only [wrap64, catLe]); (try (refine gen2 ?_ ?_ <;> intro hq <;> try simp [h0] at hq))) | (refine T.ret (Done.data (Or.inr rfl) ?_ ?_) <;> simp [Tryz.results45] <;> omega) | refine T.rd (id := 10) mixed (fun _ => false) [] (by kernel_rfl) fun K hK => ?_ | refine T.rd1 (id := 10) mixed (fun _ => false) [] (by kernel_rfl) fun K hK => ?_ | refine T.rd (id := 12) mixed (fun _ => false) [] (by kernel_rfl) fun K hK => ?_ | refine T.rd1 (id := 12) mixed (fun _ => false) [] (by kernel_rfl) fun K hK => ?_ | refine T.rd (id := 16) mixed (fun _ => false) [] (by kernel_rfl) fun K hK => ?_ | refine T.rd1 (id := 16) mixed (fun _ => false) [] (by kernel_rfl) fun K hK => ?_ | refine T.rd (id := 17) mixed (fun _ => false) [] (by kernel_rfl) fun K hK => ?_ | refine T.rd1 (id := 17) mixed (fun _ => false) [] (by kernel_rfl) fun K hK => ?_ | refine T.r0 fun K hK => ?_ | refine T.r1 fun K hK => ?_ | (refine ⟨by omega, ?_⟩) | refine T.ct rfl ?_ | refine T.cf rfl ?_ | refine T.seq ?_ | refine T.block ?_ | refine T.skip ?_ | refine T.exit ?_
 | @inj d x hx hg ih =>
  replace ih := ih (by omega)
  have la := coTextF_le hx (by omega)
  rw [coTextF_inj]
  generalize coTextF d x = A at *
  refine ACalls.of_body Tryz.func45 (by kernel_rfl) rfl (by kernel_rfl) (by simp [Tryz.ntmps45]) (by simp) ?_
  rw [Tryz.ntmps45]
  repeat' first | ((first | refine aops_end (hK _ ?_) | refine aopsD_end (hK _ ?_) | refine aopsF_end (hK _ ?_)); clear hK K) | ((first | refine aops_go ?_ | refine aopsD_go ?_ | refine aopsF_go ?_ | refine wpcall_pure rfl (ih) ?_); simp; (try simp (disch := omega) only [wrap64, catLe]); (try (refine gen2 ?_ ?_ <;> intro hq <;> try simp at hq))) | (refine T.ret (Done.data (Or.inr rfl) ?_ ?_) <;> simp [Tryz.results45] <;> omega) | refine T.rd (id := 10) mixed (fun _ => false) [] (by kernel_rfl) fun K hK => ?_ | refine T.rd1 (id := 10) mixed (fun _ => false) [] (by kernel_rfl) fun K hK => ?_ | refine T.rd (id := 12) mixed (fun _ => false) [] (by kernel_rfl) fun K hK => ?_ | refine T.rd1 (id := 12) mixed (fun _ => false) [] (by kernel_rfl) fun K hK => ?_ | refine T.rd (id := 16) mixed (fun _ => false) [] (by kernel_rfl) fun K hK => ?_ | refine T.rd1 (id := 16) mixed (fun _ => false) [] (by kernel_rfl) fun K hK => ?_ | refine T.rd (id := 17) mixed (fun _ => false) [] (by kernel_rfl) fun K hK => ?_ | refine T.rd1 (id := 17) mixed (fun _ => false) [] (by kernel_rfl) fun K hK => ?_ | refine T.r0 fun K hK => ?_ | refine T.r1 fun K hK => ?_ | (refine ⟨by omega, ?_⟩) | refine T.ct rfl ?_ | refine T.cf rfl ?_ | refine T.seq ?_ | refine T.block ?_ | refine T.skip ?_ | refine T.exit ?_
 | @proj d b x hb hx hg ih =>
  replace ih := ih (by omega)
  have la := coTextF_le hx (by omega)
  rw [coTextF_proj]
  generalize coTextF d x = B at *
  rcases hdec b hb with ⟨h0, n, e1, e2, e3, e4, e5⟩ | ⟨h0, n, rfl, e3, e4, e5⟩
  ·have k2 := l18DecN_ok n e5
   rw [e3]
   generalize Lib.decDigits n = A at *
   clear hdec e1 e3
   refine ACalls.of_body Tryz.func45 (by kernel_rfl) rfl (by kernel_rfl) (by simp [Tryz.ntmps45]) (by simp) ?_
   rw [Tryz.ntmps45]
   repeat' first | ((first | refine aops_end (hK _ ?_) | refine aopsD_end (hK _ ?_) | refine aopsF_end (hK _ ?_)); clear hK K) | ((first | refine aops_go ?_ | refine aopsD_go ?_ | refine aopsF_go ?_ | refine wpcall_pure rfl (ih) ?_ | refine wpcall_pure rfl (k2) ?_); simp [h0, e2]; (try simp (disch := omega) only [wrap64, catLe]); (try (refine gen2 ?_ ?_ <;> intro hq <;> try simp [h0, e2] at hq))) | (refine T.ret (Done.data (Or.inr rfl) ?_ ?_) <;> simp [Tryz.results45] <;> omega) | refine T.rd (id := 10) mixed (fun _ => false) [] (by kernel_rfl) fun K hK => ?_ | refine T.rd1 (id := 10) mixed (fun _ => false) [] (by kernel_rfl) fun K hK => ?_ | refine T.rd (id := 12) mixed (fun _ => false) [] (by kernel_rfl) fun K hK => ?_ | refine T.rd1 (id := 12) mixed (fun _ => false) [] (by kernel_rfl) fun K hK => ?_ | refine T.rd (id := 16) mixed (fun _ => false) [] (by kernel_rfl) fun K hK => ?_ | refine T.rd1 (id := 16) mixed (fun _ => false) [] (by kernel_rfl) fun K hK => ?_ | refine T.rd (id := 17) mixed (fun _ => false) [] (by kernel_rfl) fun K hK => ?_ | refine T.rd1 (id := 17) mixed (fun _ => false) [] (by kernel_rfl) fun K hK => ?_ | refine T.r0 fun K hK => ?_ | refine T.r1 fun K hK => ?_ | (refine ⟨by omega, ?_⟩) | refine T.ct rfl ?_ | refine T.cf rfl ?_ | refine T.seq ?_ | refine T.block ?_ | refine T.skip ?_ | refine T.exit ?_
  ·have k2 := l18DecN_ok n e5
   rw [e3]
   generalize Lib.decDigits n = A at *
   clear hdec e3
   refine ACalls.of_body Tryz.func45 (by kernel_rfl) rfl (by kernel_rfl) (by simp [Tryz.ntmps45]) (by simp) ?_
   rw [Tryz.ntmps45]
   repeat' first | ((first | refine aops_end (hK _ ?_) | refine aopsD_end (hK _ ?_) | refine aopsF_end (hK _ ?_)); clear hK K) | ((first | refine aops_go ?_ | refine aopsD_go ?_ | refine aopsF_go ?_ | refine wpcall_pure rfl (ih) ?_ | refine wpcall_pure rfl (k2) ?_); simp [h0]; (try simp (disch := omega) only [wrap64, catLe]); (try (refine gen2 ?_ ?_ <;> intro hq <;> try simp [h0] at hq))) | (refine T.ret (Done.data (Or.inr rfl) ?_ ?_) <;> simp [Tryz.results45] <;> omega) | refine T.rd (id := 10) mixed (fun _ => false) [] (by kernel_rfl) fun K hK => ?_ | refine T.rd1 (id := 10) mixed (fun _ => false) [] (by kernel_rfl) fun K hK => ?_ | refine T.rd (id := 12) mixed (fun _ => false) [] (by kernel_rfl) fun K hK => ?_ | refine T.rd1 (id := 12) mixed (fun _ => false) [] (by kernel_rfl) fun K hK => ?_ | refine T.rd (id := 16) mixed (fun _ => false) [] (by kernel_rfl) fun K hK => ?_ | refine T.rd1 (id := 16) mixed (fun _ => false) [] (by kernel_rfl) fun K hK => ?_ | refine T.rd (id := 17) mixed (fun _ => false) [] (by kernel_rfl) fun K hK => ?_ | refine T.rd1 (id := 17) mixed (fun _ => false) [] (by kernel_rfl) fun K hK => ?_ | refine T.r0 fun K hK => ?_ | refine T.r1 fun K hK => ?_ | (refine ⟨by omega, ?_⟩) | refine T.ct rfl ?_ | refine T.cf rfl ?_ | refine T.seq ?_ | refine T.block ?_ | refine T.skip ?_ | refine T.exit ?_
 | @two d k x y hk hx hy ih1 ih2 =>
  replace ih1 := ih1 (by omega)
  replace ih2 := ih2 (by omega)
  have la := coTextF_le hx (by omega)
  have lb := coTextF_le hy (by omega)
  rw [coTextF_two]
  generalize coTextF d x = A at *
  generalize coTextF d y = B at *
  rcases hk with rfl | rfl
  ·refine ACalls.of_body Tryz.func45 (by kernel_rfl) rfl (by kernel_rfl) (by simp [Tryz.ntmps45]) (by simp) ?_
   rw [Tryz.ntmps45]
   repeat' first | ((first | refine aops_end (hK _ ?_) | refine aopsD_end (hK _ ?_) | refine aopsF_end (hK _ ?_)); clear hK K) | ((first | refine aops_go ?_ | refine aopsD_go ?_ | refine aopsF_go ?_ | refine wpcall_pure rfl (ih1) ?_ | refine wpcall_pure rfl (ih2) ?_); simp; (try simp (disch := omega) only [wrap64, catLe]); (try (refine gen2 ?_ ?_ <;> intro hq <;> try simp at hq))) | (refine T.ret (Done.data (Or.inr rfl) ?_ ?_) <;> simp [Tryz.results45] <;> omega) | refine T.rd (id := 10) mixed (fun _ => false) [] (by kernel_rfl) fun K hK => ?_ | refine T.rd1 (id := 10) mixed (fun _ => false) [] (by kernel_rfl) fun K hK => ?_ | refine T.rd (id := 12) mixed (fun _ => false) [] (by kernel_rfl) fun K hK => ?_ | refine T.rd1 (id := 12) mixed (fun _ => false) [] (by kernel_rfl) fun K hK => ?_ | refine T.rd (id := 16) mixed (fun _ => false) [] (by kernel_rfl) fun K hK => ?_ | refine T.rd1 (id := 16) mixed (fun _ => false) [] (by kernel_rfl) fun K hK => ?_ | refine T.rd (id := 17) mixed (fun _ => false) [] (by kernel_rfl) fun K hK => ?_ | refine T.rd1 (id := 17) mixed (fun _ => false) [] (by kernel_rfl) fun K hK => ?_ | refine T.r0 fun K hK => ?_ | refine T.r1 fun K hK => ?_ | (refine ⟨by omega, ?_⟩) | refine T.ct rfl ?_ | refine T.cf rfl ?_ | refine T.seq ?_ | refine T.block ?_ | refine T.skip ?_ | refine T.exit ?_
  ·refine ACalls.of_body Tryz.func45 (by kernel_rfl) rfl (by kernel_rfl) (by simp [Tryz.ntmps45]) (by simp) ?_
   rw [Tryz.ntmps45]
   repeat' first | ((first | refine aops_end (hK _ ?_) | refine aopsD_end (hK _ ?_) | refine aopsF_end (hK _ ?_)); clear hK K) | ((first | refine aops_go ?_ | refine aopsD_go ?_ | refine aopsF_go ?_ | refine wpcall_pure rfl (ih1) ?_ | refine wpcall_pure rfl (ih2) ?_); simp; (try simp (disch := omega) only [wrap64, catLe]); (try (refine gen2 ?_ ?_ <;> intro hq <;> try simp at hq))) | (refine T.ret (Done.data (Or.inr rfl) ?_ ?_) <;> simp [Tryz.results45] <;> omega) | refine T.rd (id := 10) mixed (fun _ => false) [] (by kernel_rfl) fun K hK => ?_ | refine T.rd1 (id := 10) mixed (fun _ => false) [] (by kernel_rfl) fun K hK => ?_ | refine T.rd (id := 12) mixed (fun _ => false) [] (by kernel_rfl) fun K hK => ?_ | refine T.rd1 (id := 12) mixed (fun _ => false) [] (by kernel_rfl) fun K hK => ?_ | refine T.rd (id := 16) mixed (fun _ => false) [] (by kernel_rfl) fun K hK => ?_ | refine T.rd1 (id := 16) mixed (fun _ => false) [] (by kernel_rfl) fun K hK => ?_ | refine T.rd (id := 17) mixed (fun _ => false) [] (by kernel_rfl) fun K hK => ?_ | refine T.rd1 (id := 17) mixed (fun _ => false) [] (by kernel_rfl) fun K hK => ?_ | refine T.r0 fun K hK => ?_ | refine T.r1 fun K hK => ?_ | (refine ⟨by omega, ?_⟩) | refine T.ct rfl ?_ | refine T.cf rfl ?_ | refine T.seq ?_ | refine T.block ?_ | refine T.skip ?_ | refine T.exit ?_
end Go.Proofs.YtcgmmknfpfdghaaGreatDoor

namespace Go.Proofs.YtcgmmknfpfdghaaGreatDoor
attribute [-simp] Go.Av.astepJ Go.Av.relC Go.Av.relL Go.Av.relV Go.Av.relVs Go.Av.callJ Go.Av.IT.kind_v Go.Av.IT.kind_b Go.Av.IT.kind_p Go.Av.IT.name_v Go.Av.IT.name_b Go.Av.IT.name_p Go.Av.IT.kids_v Go.Av.IT.kids_b Go.Av.IT.kids_p Go.Av.eIT_len
open Go Go.Av
attribute [local irreducible] T ACalls TX EX LX Draws Some_ ACallsX eTy eTm MTy.kind MTy.kids MTm.kind MTm.name MTm.num MTm.ty MTm.fr MTm.label MTm.kids
attribute [local simp] eTy_def eTm_def
set_option maxHeartbeats 16000000
set_option maxRecDepth 8000
attribute [local irreducible] eCo MCo.kind MCo.tag MCo.label MCo.kids
attribute [local simp] eCo_def

theorem coScan1_ok (d : Int) (hd : 0 <= d /\ d <= 1000) (t : MCo) (q : Bool) (h : ACalls Tryz.prog 46 [aCo t, .i (d + 1)] [] (.b q) [] []) :
  ACalls Tryz.prog 79 [aCo t, .c (.ptr 0 0)] (dV [[.i d]]) (.b (!q)) (dV [[.i d]]) [] := by
 refine ACalls.of_body Tryz.func79 (by kernel_rfl) rfl (by kernel_rfl) (by simp [Tryz.ntmps79]) (by simp) ?_
 rw [Tryz.ntmps79]
 repeat' first | ((first | refine aops_end (hK _ ?_) | refine aopsD_end (hK _ ?_) | refine aopsF_end (hK _ ?_)); clear hK K) | ((first | refine aops_go ?_ | refine aopsD_go ?_ | refine aopsF_go ?_ | refine wpcall_pure rfl (h) ?_); simp; (try simp (disch := omega) only [wrap64])) | refine T.r0 fun K hK => ?_ | refine T.r1 fun K hK => ?_ | (refine ⟨by omega, ?_⟩) | refine T.ct rfl ?_ | refine T.cf rfl ?_ | refine T.seq ?_ | refine T.block ?_ | refine T.skip ?_ | refine T.exit ?_
 refine T.ret (Done.obj1 (Or.inr rfl) ?_ ?_ ?_) <;> simp [Tryz.results79]

theorem coScan_ok : ∀ (d : Nat) (c : MCo), d <= 9 -> nCo c <= 1099511627776 -> ACalls Tryz.prog 46 [aCo c, .i (10 - d)] [] (.b (shapeCo d c)) [] []
 | 0, c, _, _ => by
  refine ACalls.of_body Tryz.func46 (by kernel_rfl) rfl (by kernel_rfl) (by simp [Tryz.ntmps46]) (by simp) ?_
  rw [Tryz.ntmps46]
  repeat' first | ((first | refine aops_end (hK _ ?_) | refine aopsD_end (hK _ ?_) | refine aopsF_end (hK _ ?_)); clear hK K) | ((first | refine aops_go ?_ | refine aopsD_go ?_ | refine aopsF_go ?_); simp; (try (refine gen2 ?_ ?_ <;> intro hq <;> try simp at hq))) | (refine T.ret (Done.data (Or.inr rfl) ?_ ?_) <;> simp [Tryz.results46, shapeCo] <;> omega) | refine T.rd (id := 1) mixed (fun _ => false) [] (by kernel_rfl) fun K hK => ?_ | refine T.rd1 (id := 1) mixed (fun _ => false) [] (by kernel_rfl) fun K hK => ?_ | refine T.r0 fun K hK => ?_ | refine T.r1 fun K hK => ?_ | (refine ⟨by omega, ?_⟩) | refine T.ct rfl ?_ | refine T.cf rfl ?_ | refine T.seq ?_ | refine T.block ?_ | refine T.skip ?_ | refine T.exit ?_
 | d + 1, .mk k t b l, hd, hn => by
  rw [nCo_def] at hn
  have hlen := nCoS_len l
  simp only [MCo.kids_mk] at hn
  have hd1 : (10 : Int) - (d + 1) <= 9 := by omega
  have hc := containsFuncCo_1 79 (.i (10 - (d + 1))) l (fun t => !shapeCo d t) (by omega) (fun u hu => coScan1_ok (10 - (d + 1)) (by omega) u _ (by
   have := coScan_ok d u (by omega) (by have := nCoS_mem hu; omega)
   rwa [show (10 : Int) - (d + 1) + 1 = 10 - d by omega]))
  have hall : (!l.any fun t => !shapeCo d t) = l.all (shapeCo d) := not_any_not _ _
  rw [shapeCo_def, MCo.kids_mk, <- hall]
  have hop := coOperands_ok k
  have h13 := inM_ok t 1 3
  have h25 := inM_ok t 2 5
  have hlab := isLabel_ok b
  by_cases hk : coKidsM k = l.length
  rotate_left
  ·rw [coNode_bad hk]
   generalize (l.any fun t => !shapeCo d t) = R at hc ⊢
   refine ACalls.of_body Tryz.func46 (by kernel_rfl) rfl (by kernel_rfl) (by simp [Tryz.ntmps46]) (by simp) ?_
   rw [Tryz.ntmps46]
   repeat' first | ((first | refine aops_end (hK _ ?_) | refine aopsD_end (hK _ ?_) | refine aopsF_end (hK _ ?_)); clear hK K) | ((first | refine aops_go ?_ | refine aopsD_go ?_ | refine aopsF_go ?_ | refine wpcall_pure rfl (hop) ?_); simp [hd1, hk]; (try (refine gen2 ?_ ?_ <;> intro hq <;> try simp [hd1, hk] at hq))) | (refine T.ret (Done.data (Or.inr rfl) ?_ ?_) <;> simp [Tryz.results46] <;> omega) | refine T.rd (id := 1) mixed (fun _ => false) [] (by kernel_rfl) fun K hK => ?_ | refine T.rd1 (id := 1) mixed (fun _ => false) [] (by kernel_rfl) fun K hK => ?_ | refine T.r0 fun K hK => ?_ | refine T.r1 fun K hK => ?_ | (refine ⟨by omega, ?_⟩) | refine T.ct rfl ?_ | refine T.cf rfl ?_ | refine T.seq ?_ | refine T.block ?_ | refine T.skip ?_ | refine T.exit ?_
  rw [hk] at hop
  clear hall
  have hkc := coKids_cases hk
  clear hk hlen hn
  rcases hkc with ⟨hk1 | hk1, rfl⟩ | ⟨x, hk1 | hk1, rfl⟩ | ⟨x, y, hk1 | hk1, rfl⟩
  ·subst hk1
   rw [show coNode (.mk 1 t b []) = (decide (b = 0) && inM t 1 3) by simp [coNode]]
   generalize inM t 1 3 = i1 at h13 ⊢
   generalize ([].any fun t => !shapeCo d t) = R at hc ⊢
   refine ACalls.of_body Tryz.func46 (by kernel_rfl) rfl (by kernel_rfl) (by simp [Tryz.ntmps46]) (by simp) ?_
   rw [Tryz.ntmps46]
   repeat' first | ((first | refine aops_end (hK _ ?_) | refine aopsD_end (hK _ ?_) | refine aopsF_end (hK _ ?_)); clear hK K) | ((first | refine aops_go ?_ | refine aopsD_go ?_ | refine aopsF_go ?_ | refine wpcall_pure rfl (hop) ?_ | refine wpcall_pure rfl (h13) ?_ | refine wpcall_pure rfl (hlab) ?_); simp [hd1]; (try (refine gen2 ?_ ?_ <;> intro hq <;> try simp [hd1] at hq))) | (refine wpcall_obj1 1 [.i (10 - (d + 1))] rfl (by simp) hc ?_; simp) | (refine T.ret (Done.data (Or.inr rfl) ?_ ?_) <;> simp [Tryz.results46, *] <;> omega) | refine T.rd (id := 1) mixed (fun _ => false) [] (by kernel_rfl) fun K hK => ?_ | refine T.rd1 (id := 1) mixed (fun _ => false) [] (by kernel_rfl) fun K hK => ?_ | refine T.r0 fun K hK => ?_ | refine T.r1 fun K hK => ?_ | (refine ⟨by omega, ?_⟩) | refine T.ct rfl ?_ | refine T.cf rfl ?_ | refine T.seq ?_ | refine T.block ?_ | refine T.skip ?_ | refine T.exit ?_
  ·subst hk1
   rw [show coNode (.mk 6 t b []) = (labM b && inM t 2 5) by simp [coNode]]
   generalize inM t 2 5 = i1 at h25 ⊢
   generalize labM b = i2 at hlab ⊢
   generalize ([].any fun t => !shapeCo d t) = R at hc ⊢
   refine ACalls.of_body Tryz.func46 (by kernel_rfl) rfl (by kernel_rfl) (by simp [Tryz.ntmps46]) (by simp) ?_
   rw [Tryz.ntmps46]
   repeat' first | ((first | refine aops_end (hK _ ?_) | refine aopsD_end (hK _ ?_) | refine aopsF_end (hK _ ?_)); clear hK K) | ((first | refine aops_go ?_ | refine aopsD_go ?_ | refine aopsF_go ?_ | refine wpcall_pure rfl (hop) ?_ | refine wpcall_pure rfl (h25) ?_ | refine wpcall_pure rfl (hlab) ?_); simp [hd1]; (try (refine gen2 ?_ ?_ <;> intro hq <;> try simp [hd1] at hq))) | (refine wpcall_obj1 1 [.i (10 - (d + 1))] rfl (by simp) hc ?_; simp) | (refine T.ret (Done.data (Or.inr rfl) ?_ ?_) <;> simp [Tryz.results46, *] <;> omega) | refine T.rd (id := 1) mixed (fun _ => false) [] (by kernel_rfl) fun K hK => ?_ | refine T.rd1 (id := 1) mixed (fun _ => false) [] (by kernel_rfl) fun K hK => ?_ | refine T.r0 fun K hK => ?_ | refine T.r1 fun K hK => ?_ | (refine ⟨by omega, ?_⟩) | refine T.ct rfl ?_ | refine T.cf rfl ?_ | refine T.seq ?_ | refine T.block ?_ | refine T.skip ?_ | refine T.exit ?_
  ·subst hk1
   have hpl := coPlain_ok x
   rw [show coNode (.mk 4 t b [x]) = (decide (b = 0) && decide (t = 0) && groundCo x) by simp [coNode]]
   generalize groundCo x = i2 at hpl ⊢
   generalize ([x].any fun t => !shapeCo d t) = R at hc ⊢
   refine ACalls.of_body Tryz.func46 (by kernel_rfl) rfl (by kernel_rfl) (by simp [Tryz.ntmps46]) (by simp) ?_
   rw [Tryz.ntmps46]
   repeat' first | ((first | refine aops_end (hK _ ?_) | refine aopsD_end (hK _ ?_) | refine aopsF_end (hK _ ?_)); clear hK K) | ((first | refine aops_go ?_ | refine aopsD_go ?_ | refine aopsF_go ?_ | refine wpcall_pure rfl (hop) ?_ | refine wpcall_pure rfl (hpl) ?_ | refine wpcall_pure rfl (hlab) ?_); simp [hd1]; (try (refine gen2 ?_ ?_ <;> intro hq <;> try simp [hd1] at hq))) | (refine wpcall_obj1 1 [.i (10 - (d + 1))] rfl (by simp) hc ?_; simp) | (refine T.ret (Done.data (Or.inr rfl) ?_ ?_) <;> simp [Tryz.results46, *] <;> omega) | refine T.rd (id := 1) mixed (fun _ => false) [] (by kernel_rfl) fun K hK => ?_ | refine T.rd1 (id := 1) mixed (fun _ => false) [] (by kernel_rfl) fun K hK => ?_ | refine T.r0 fun K hK => ?_ | refine T.r1 fun K hK => ?_ | (refine ⟨by omega, ?_⟩) | refine T.ct rfl ?_ | refine T.cf rfl ?_ | refine T.seq ?_ | refine T.block ?_ | refine T.skip ?_ | refine T.exit ?_
  ·subst hk1
   have hpl := coAny_ok x
   rw [show coNode (.mk 5 t b [x]) = (labM b && decide (t = 0) && (!decide (x.kind = 5) && !anyCo x)) by simp [coNode, projCo, anyCo]]
   generalize anyCo x = i2 at hpl ⊢
   generalize labM b = i3 at hlab ⊢
   generalize ([x].any fun t => !shapeCo d t) = R at hc ⊢
   refine ACalls.of_body Tryz.func46 (by kernel_rfl) rfl (by kernel_rfl) (by simp [Tryz.ntmps46]) (by simp) ?_
   rw [Tryz.ntmps46]
   repeat' first | ((first | refine aops_end (hK _ ?_) | refine aopsD_end (hK _ ?_) | refine aopsF_end (hK _ ?_)); clear hK K) | ((first | refine aops_go ?_ | refine aopsD_go ?_ | refine aopsF_go ?_ | refine wpcall_pure rfl (hop) ?_ | refine wpcall_pure rfl (hpl) ?_ | refine wpcall_pure rfl (hlab) ?_); simp [hd1]; (try (refine gen2 ?_ ?_ <;> intro hq <;> try simp [hd1] at hq))) | (refine wpcall_obj1 1 [.i (10 - (d + 1))] rfl (by simp) hc ?_; simp) | (refine T.ret (Done.data (Or.inr rfl) ?_ ?_) <;> simp [Tryz.results46, *] <;> omega) | refine T.rd (id := 1) mixed (fun _ => false) [] (by kernel_rfl) fun K hK => ?_ | refine T.rd1 (id := 1) mixed (fun _ => false) [] (by kernel_rfl) fun K hK => ?_ | refine T.r0 fun K hK => ?_ | refine T.r1 fun K hK => ?_ | (refine ⟨by omega, ?_⟩) | refine T.ct rfl ?_ | refine T.cf rfl ?_ | refine T.seq ?_ | refine T.block ?_ | refine T.skip ?_ | refine T.exit ?_
  ·subst hk1
   rw [show coNode (.mk 2 t b [x, y]) = (decide (b = 0) && decide (t = 0)) by simp [coNode]]
   generalize ([x, y].any fun t => !shapeCo d t) = R at hc ⊢
   refine ACalls.of_body Tryz.func46 (by kernel_rfl) rfl (by kernel_rfl) (by simp [Tryz.ntmps46]) (by simp) ?_
   rw [Tryz.ntmps46]
   repeat' first | ((first | refine aops_end (hK _ ?_) | refine aopsD_end (hK _ ?_) | refine aopsF_end (hK _ ?_)); clear hK K) | ((first | refine aops_go ?_ | refine aopsD_go ?_ | refine aopsF_go ?_ | refine wpcall_pure rfl (hop) ?_ | refine wpcall_pure rfl (hlab) ?_); simp [hd1]; (try (refine gen2 ?_ ?_ <;> intro hq <;> try simp [hd1] at hq))) | (refine wpcall_obj1 1 [.i (10 - (d + 1))] rfl (by simp) hc ?_; simp) | (refine T.ret (Done.data (Or.inr rfl) ?_ ?_) <;> simp [Tryz.results46, *] <;> omega) | refine T.rd (id := 1) mixed (fun _ => false) [] (by kernel_rfl) fun K hK => ?_ | refine T.rd1 (id := 1) mixed (fun _ => false) [] (by kernel_rfl) fun K hK => ?_ | refine T.r0 fun K hK => ?_ | refine T.r1 fun K hK => ?_ | (refine ⟨by omega, ?_⟩) | refine T.ct rfl ?_ | refine T.cf rfl ?_ | refine T.seq ?_ | refine T.block ?_ | refine T.skip ?_ | refine T.exit ?_
  ·subst hk1
   rw [show coNode (.mk 3 t b [x, y]) = (decide (b = 0) && decide (t = 0)) by simp [coNode]]
   generalize ([x, y].any fun t => !shapeCo d t) = R at hc ⊢
   refine ACalls.of_body Tryz.func46 (by kernel_rfl) rfl (by kernel_rfl) (by simp [Tryz.ntmps46]) (by simp) ?_
   rw [Tryz.ntmps46]
   repeat' first | ((first | refine aops_end (hK _ ?_) | refine aopsD_end (hK _ ?_) | refine aopsF_end (hK _ ?_)); clear hK K) | ((first | refine aops_go ?_ | refine aopsD_go ?_ | refine aopsF_go ?_ | refine wpcall_pure rfl (hop) ?_ | refine wpcall_pure rfl (hlab) ?_); simp [hd1]; (try (refine gen2 ?_ ?_ <;> intro hq <;> try simp [hd1] at hq))) | (refine wpcall_obj1 1 [.i (10 - (d + 1))] rfl (by simp) hc ?_; simp) | (refine T.ret (Done.data (Or.inr rfl) ?_ ?_) <;> simp [Tryz.results46, *] <;> omega) | refine T.rd (id := 1) mixed (fun _ => false) [] (by kernel_rfl) fun K hK => ?_ | refine T.rd1 (id := 1) mixed (fun _ => false) [] (by kernel_rfl) fun K hK => ?_ | refine T.r0 fun K hK => ?_ | refine T.r1 fun K hK => ?_ | (refine ⟨by omega, ?_⟩) | refine T.ct rfl ?_ | refine T.cf rfl ?_ | refine T.seq ?_ | refine T.block ?_ | refine T.skip ?_ | refine T.exit ?_

theorem CoercionValid_ok (c : MCo) (hn : nCo c <= 1099511627776) : ACalls Tryz.prog 18 [aCo c] [] (.b (shapeCo 9 c)) [] [] := by
 have h := coScan_ok 9 c (by omega) hn
 generalize shapeCo 9 c = q at h ⊢
 refine ACalls.of_body Tryz.func18 (by kernel_rfl) rfl (by kernel_rfl) (by simp [Tryz.ntmps18]) (by simp) ?_
 rw [Tryz.ntmps18]
 repeat' first | ((first | refine aops_end (hK _ ?_) | refine aopsD_end (hK _ ?_) | refine aopsF_end (hK _ ?_)); clear hK K) | ((first | refine aops_go ?_ | refine aopsD_go ?_ | refine aopsF_go ?_ | refine wpcall_pure rfl (h) ?_); simp; (try (refine gen2 ?_ ?_ <;> intro hq <;> try simp at hq))) | (refine T.ret (Done.data (Or.inr rfl) ?_ ?_) <;> simp [Tryz.results18] <;> omega) | refine T.r0 fun K hK => ?_ | refine T.r1 fun K hK => ?_ | (refine ⟨by omega, ?_⟩) | refine T.ct rfl ?_ | refine T.cf rfl ?_ | refine T.seq ?_ | refine T.block ?_ | refine T.skip ?_ | refine T.exit ?_

end Go.Proofs.YtcgmmknfpfdghaaGreatDoor

namespace Go.Proofs.YtcgmmknfpfdghaaGreatDoor
attribute [-simp] Go.Av.astepJ Go.Av.relC Go.Av.relL Go.Av.relV Go.Av.relVs Go.Av.callJ Go.Av.IT.kind_v Go.Av.IT.kind_b Go.Av.IT.kind_p Go.Av.IT.name_v Go.Av.IT.name_b Go.Av.IT.name_p Go.Av.IT.kids_v Go.Av.IT.kids_b Go.Av.IT.kids_p Go.Av.eIT_len
open Go Go.Av
attribute [local irreducible] T ACalls TX EX LX Draws Some_ ACallsX eTy eTm MTy.kind MTy.kids MTm.kind MTm.name MTm.num MTm.ty MTm.fr MTm.label MTm.kids
attribute [local simp] eTy_def eTm_def
set_option maxHeartbeats 16000000
set_option maxRecDepth 8000
attribute [local irreducible] eCo MCo.kind MCo.tag MCo.label MCo.kids
attribute [local simp] eCo_def

theorem l6Shape_ok : ∀ (d : Nat) (c : MCo), d <= 1000 -> nCo c <= 1099511627776 -> ACalls Tryz.prog 47 [aCo c, .i d] [] (.b (shapeCo d c)) [] []
 | 0, c, _, _ => by
  refine ACalls.of_body Tryz.func47 (by kernel_rfl) rfl (by kernel_rfl) (by simp [Tryz.ntmps47]) (by simp) ?_
  rw [Tryz.ntmps47]
  repeat' first | ((first | refine aops_end (hK _ ?_) | refine aopsD_end (hK _ ?_) | refine aopsF_end (hK _ ?_)); clear hK K) | ((first | refine aops_go ?_ | refine aopsD_go ?_ | refine aopsF_go ?_); simp; (try (refine gen2 ?_ ?_ <;> intro hq <;> try simp at hq))) | (refine T.ret (Done.data (Or.inr rfl) ?_ ?_) <;> simp [Tryz.results47, shapeCo] <;> omega) | refine T.r0 fun K hK => ?_ | refine T.r1 fun K hK => ?_ | (refine ⟨by omega, ?_⟩) | refine T.ct rfl ?_ | refine T.cf rfl ?_ | refine T.seq ?_ | refine T.block ?_ | refine T.skip ?_ | refine T.exit ?_
 | d + 1, .mk k t b l, hd, hn => by
  rw [nCo_def] at hn
  have hlen := nCoS_len l
  simp only [MCo.kids_mk] at hn
  have hd1 : ¬ ((d : Int) + 1 < 1) := by omega
  rw [shapeCo_def, MCo.kids_mk]
  obtain ⟨R, hR⟩ : ∃ R, l.all (shapeCo d) = R := ⟨_, rfl⟩
  rw [hR]
  refine ACalls.of_body Tryz.func47 (by kernel_rfl) rfl (by kernel_rfl) (by simp [Tryz.ntmps47]) (by simp) ?_
  rw [Tryz.ntmps47]
  repeat' first | ((first | refine aops_end (hK _ ?_) | refine aopsD_end (hK _ ?_) | refine aopsF_end (hK _ ?_)); clear hK K) | ((first | refine aops_go ?_ | refine aopsD_go ?_ | refine aopsF_go ?_); simp [hd1]; (try (refine gen2 ?_ ?_ <;> intro hq <;> try simp [hd1] at hq))) | refine T.r0 fun K hK => ?_ | refine T.r1 fun K hK => ?_ | (refine ⟨by omega, ?_⟩) | refine T.ct rfl ?_ | refine T.cf rfl ?_ | refine T.seq ?_ | refine T.block ?_ | refine T.skip ?_ | refine T.exit ?_
  refine T.loopF (fun p : Nat => ⟨[(1, .i (d + 1)), (2, .c (.ptr 0 0)), (5, .i p)], [[.d (.i k), .d (.i t), .d (.i b), .d (.sl (l.map eCo))]], []⟩) (fun p => l.length + 1 - p) (fun p => p <= l.length /\ (l.drop p).all (shapeCo d) = R) (fun p hp => ?_) 0 (by simpa using hR) (by simp)
  obtain ⟨hi, he⟩ := hp
  by_cases hlt : p < l.length
  ·obtain ⟨u, ht⟩ := get_lt hlt
   have htm : u ∈ l := List.mem_of_getElem? ht
   have hgt : l[p] = u := by rw [List.getElem?_eq_getElem hlt] at ht; exact Option.some.inj ht
   have hdr : l.drop p = u :: l.drop (p + 1) := by rw [List.drop_eq_getElem_cons hlt, hgt]
   have hu := l6Shape_ok d u (by omega) (by have := nCoS_mem htm; omega)
   rw [hdr, List.all_cons] at he
   cases hb : shapeCo d u <;> rw [hb] at hu he
   ·have hR0 : R = false := by simpa using he.symm
    subst hR0
    repeat' first | ((first | refine aops_end (hK _ ?_) | refine aopsD_end (hK _ ?_) | refine aopsF_end (hK _ ?_)); clear hK K) | ((first | refine aops_go ?_ | refine aopsD_go ?_ | refine aopsF_go ?_ | refine wpcall_pure rfl (hu) ?_); simp [hlt, hgt]; (try simp (disch := omega) only [wrap64]); (try (refine gen2 ?_ ?_ <;> intro hq <;> try simp [hlt, hgt] at hq))) | (refine T.ret (Done.data (Or.inr rfl) ?_ ?_) <;> simp [Tryz.results47] <;> omega) | refine T.r0 fun K hK => ?_ | refine T.r1 fun K hK => ?_ | (refine ⟨by omega, ?_⟩) | refine T.ct rfl ?_ | refine T.cf rfl ?_ | refine T.seq ?_ | refine T.block ?_ | refine T.skip ?_ | refine T.exit ?_
   ·repeat' first | ((first | refine aops_end (hK _ ?_) | refine aopsD_end (hK _ ?_) | refine aopsF_end (hK _ ?_)); clear hK K) | ((first | refine aops_go ?_ | refine aopsD_go ?_ | refine aopsF_go ?_ | refine wpcall_pure rfl (hu) ?_); simp [hlt, hgt]; (try simp (disch := omega) only [wrap64]); (try (refine gen2 ?_ ?_ <;> intro hq <;> try simp [hlt, hgt] at hq))) | (refine ⟨p + 1, by dsimp only; omega, ⟨by omega, by simpa using he⟩, ?_⟩; simp (disch := omega) [wrap64]) | refine T.r0 fun K hK => ?_ | refine T.r1 fun K hK => ?_ | (refine ⟨by omega, ?_⟩) | refine T.ct rfl ?_ | refine T.cf rfl ?_ | refine T.seq ?_ | refine T.block ?_ | refine T.skip ?_ | refine T.exit ?_
  ·have hp' : p = l.length := by omega
   have hR1 : R = true := by rw [hp', List.drop_length] at he; exact he.symm
   subst hR1
   rw [Bool.true_and]
   clear he hR hi hlt
   subst hp'
   by_cases hk : coKidsM k = l.length
   rotate_left
   ·rw [coNode_bad hk]
    have hx : ∀ m : Int, k = m -> ¬ coKidsM m = l.length := fun m e => e ▸ hk
    by_cases e1 : k = 1
    ·have h0 : ¬ l = [] := fun e => hx 1 e1 (by rw [e]; rfl)
     subst e1
     repeat' first | ((first | refine aops_end (hK _ ?_) | refine aopsD_end (hK _ ?_) | refine aopsF_end (hK _ ?_)); clear hK K) | ((first | refine aops_go ?_ | refine aopsD_go ?_ | refine aopsF_go ?_); simp [h0]; (try (refine gen2 ?_ ?_ <;> intro hq <;> try simp [h0] at hq))) | (refine T.ret (Done.data (Or.inr rfl) ?_ ?_) <;> simp [Tryz.results47] <;> omega) | refine T.r0 fun K hK => ?_ | refine T.r1 fun K hK => ?_ | (refine ⟨by omega, ?_⟩) | refine T.ct rfl ?_ | refine T.cf rfl ?_ | refine T.seq ?_ | refine T.block ?_ | refine T.skip ?_ | refine T.exit ?_
    by_cases e2 : k = 2
    ·have h0 : ¬ (l.length : Int) = 2 := fun e => hx 2 e2 (by rw [e]; rfl)
     subst e2
     repeat' first | ((first | refine aops_end (hK _ ?_) | refine aopsD_end (hK _ ?_) | refine aopsF_end (hK _ ?_)); clear hK K) | ((first | refine aops_go ?_ | refine aopsD_go ?_ | refine aopsF_go ?_); simp [h0]; (try (refine gen2 ?_ ?_ <;> intro hq <;> try simp [h0] at hq))) | (refine T.ret (Done.data (Or.inr rfl) ?_ ?_) <;> simp [Tryz.results47] <;> omega) | refine T.r0 fun K hK => ?_ | refine T.r1 fun K hK => ?_ | (refine ⟨by omega, ?_⟩) | refine T.ct rfl ?_ | refine T.cf rfl ?_ | refine T.seq ?_ | refine T.block ?_ | refine T.skip ?_ | refine T.exit ?_
    by_cases e3 : k = 3
    ·have h0 : ¬ (l.length : Int) = 2 := fun e => hx 3 e3 (by rw [e]; rfl)
     subst e3
     repeat' first | ((first | refine aops_end (hK _ ?_) | refine aopsD_end (hK _ ?_) | refine aopsF_end (hK _ ?_)); clear hK K) | ((first | refine aops_go ?_ | refine aopsD_go ?_ | refine aopsF_go ?_); simp [h0]; (try (refine gen2 ?_ ?_ <;> intro hq <;> try simp [h0] at hq))) | (refine T.ret (Done.data (Or.inr rfl) ?_ ?_) <;> simp [Tryz.results47] <;> omega) | refine T.r0 fun K hK => ?_ | refine T.r1 fun K hK => ?_ | (refine ⟨by omega, ?_⟩) | refine T.ct rfl ?_ | refine T.cf rfl ?_ | refine T.seq ?_ | refine T.block ?_ | refine T.skip ?_ | refine T.exit ?_
    by_cases e4 : k = 4
    ·have h0 : ¬ (l.length : Int) = 1 := fun e => hx 4 e4 (by rw [e]; rfl)
     subst e4
     repeat' first | ((first | refine aops_end (hK _ ?_) | refine aopsD_end (hK _ ?_) | refine aopsF_end (hK _ ?_)); clear hK K) | ((first | refine aops_go ?_ | refine aopsD_go ?_ | refine aopsF_go ?_); simp [h0]; (try (refine gen2 ?_ ?_ <;> intro hq <;> try simp [h0] at hq))) | (refine T.ret (Done.data (Or.inr rfl) ?_ ?_) <;> simp [Tryz.results47] <;> omega) | refine T.r0 fun K hK => ?_ | refine T.r1 fun K hK => ?_ | (refine ⟨by omega, ?_⟩) | refine T.ct rfl ?_ | refine T.cf rfl ?_ | refine T.seq ?_ | refine T.block ?_ | refine T.skip ?_ | refine T.exit ?_
    by_cases e5 : k = 5
    ·have h0 : ¬ (l.length : Int) = 1 := fun e => hx 5 e5 (by rw [e]; rfl)
     subst e5
     repeat' first | ((first | refine aops_end (hK _ ?_) | refine aopsD_end (hK _ ?_) | refine aopsF_end (hK _ ?_)); clear hK K) | ((first | refine aops_go ?_ | refine aopsD_go ?_ | refine aopsF_go ?_); simp [h0]; (try (refine gen2 ?_ ?_ <;> intro hq <;> try simp [h0] at hq))) | (refine T.ret (Done.data (Or.inr rfl) ?_ ?_) <;> simp [Tryz.results47] <;> omega) | refine T.r0 fun K hK => ?_ | refine T.r1 fun K hK => ?_ | (refine ⟨by omega, ?_⟩) | refine T.ct rfl ?_ | refine T.cf rfl ?_ | refine T.seq ?_ | refine T.block ?_ | refine T.skip ?_ | refine T.exit ?_
    by_cases e6 : k = 6
    ·have h0 : ¬ l = [] := fun e => hx 6 e6 (by rw [e]; rfl)
     subst e6
     repeat' first | ((first | refine aops_end (hK _ ?_) | refine aopsD_end (hK _ ?_) | refine aopsF_end (hK _ ?_)); clear hK K) | ((first | refine aops_go ?_ | refine aopsD_go ?_ | refine aopsF_go ?_); simp [h0]; (try (refine gen2 ?_ ?_ <;> intro hq <;> try simp [h0] at hq))) | (refine T.ret (Done.data (Or.inr rfl) ?_ ?_) <;> simp [Tryz.results47] <;> omega) | refine T.r0 fun K hK => ?_ | refine T.r1 fun K hK => ?_ | (refine ⟨by omega, ?_⟩) | refine T.ct rfl ?_ | refine T.cf rfl ?_ | refine T.seq ?_ | refine T.block ?_ | refine T.skip ?_ | refine T.exit ?_
    repeat' first | ((first | refine aops_end (hK _ ?_) | refine aopsD_end (hK _ ?_) | refine aopsF_end (hK _ ?_)); clear hK K) | ((first | refine aops_go ?_ | refine aopsD_go ?_ | refine aopsF_go ?_); simp [e1, e2, e3, e4, e5, e6]; (try (refine gen2 ?_ ?_ <;> intro hq <;> try simp [e1, e2, e3, e4, e5, e6] at hq))) | (refine T.ret (Done.data (Or.inr rfl) ?_ ?_) <;> simp [Tryz.results47] <;> omega) | refine T.r0 fun K hK => ?_ | refine T.r1 fun K hK => ?_ | (refine ⟨by omega, ?_⟩) | refine T.ct rfl ?_ | refine T.cf rfl ?_ | refine T.seq ?_ | refine T.block ?_ | refine T.skip ?_ | refine T.exit ?_
   have hlab := l6Label_ok b
   have hkc := coKids_cases hk
   clear hk
   rcases hkc with ⟨hk1 | hk1, rfl⟩ | ⟨x, hk1 | hk1, rfl⟩ | ⟨x, y, hk1 | hk1, rfl⟩
   ·subst hk1
    have hr : coNode (.mk 1 t b []) = (decide (b = 0) && (decide (1 <= t) && decide (t <= 3))) := by simp [coNode, inM]
    rw [hr]
    repeat' first | ((first | refine aops_end (hK _ ?_) | refine aopsD_end (hK _ ?_) | refine aopsF_end (hK _ ?_)); clear hK K) | ((first | refine aops_go ?_ | refine aopsD_go ?_ | refine aopsF_go ?_); simp; (try (refine gen2 ?_ ?_ <;> intro hq <;> try simp at hq))) | (refine T.ret (Done.data (Or.inr rfl) ?_ ?_) <;> simp [Tryz.results47, *] <;> omega) | refine T.r0 fun K hK => ?_ | refine T.r1 fun K hK => ?_ | (refine ⟨by omega, ?_⟩) | refine T.ct rfl ?_ | refine T.cf rfl ?_ | refine T.seq ?_ | refine T.block ?_ | refine T.skip ?_ | refine T.exit ?_
   ·subst hk1
    rw [show coNode (.mk 6 t b []) = (labM b && (decide (2 <= t) && decide (t <= 5))) by simp [coNode, inM]]
    generalize labM b = i2 at hlab ⊢
    repeat' first | ((first | refine aops_end (hK _ ?_) | refine aopsD_end (hK _ ?_) | refine aopsF_end (hK _ ?_)); clear hK K) | ((first | refine aops_go ?_ | refine aopsD_go ?_ | refine aopsF_go ?_ | refine wpcall_pure rfl (hlab) ?_); simp; (try (refine gen2 ?_ ?_ <;> intro hq <;> try simp at hq))) | (refine T.ret (Done.data (Or.inr rfl) ?_ ?_) <;> simp [Tryz.results47, *] <;> omega) | refine T.r0 fun K hK => ?_ | refine T.r1 fun K hK => ?_ | (refine ⟨by omega, ?_⟩) | refine T.ct rfl ?_ | refine T.cf rfl ?_ | refine T.seq ?_ | refine T.block ?_ | refine T.skip ?_ | refine T.exit ?_
   ·subst hk1
    have hpl := l6Ground_ok x
    rw [show coNode (.mk 4 t b [x]) = (decide (b = 0) && decide (t = 0) && groundCo x) by simp [coNode]]
    generalize groundCo x = i2 at hpl ⊢
    repeat' first | ((first | refine aops_end (hK _ ?_) | refine aopsD_end (hK _ ?_) | refine aopsF_end (hK _ ?_)); clear hK K) | ((first | refine aops_go ?_ | refine aopsD_go ?_ | refine aopsF_go ?_ | refine wpcall_pure rfl (hpl) ?_); simp; (try (refine gen2 ?_ ?_ <;> intro hq <;> try simp at hq))) | (refine T.ret (Done.data (Or.inr rfl) ?_ ?_) <;> simp [Tryz.results47, *] <;> omega) | refine T.r0 fun K hK => ?_ | refine T.r1 fun K hK => ?_ | (refine ⟨by omega, ?_⟩) | refine T.ct rfl ?_ | refine T.cf rfl ?_ | refine T.seq ?_ | refine T.block ?_ | refine T.skip ?_ | refine T.exit ?_
   ·subst hk1
    rw [show coNode (.mk 5 t b [x]) = (labM b && decide (t = 0) && (!decide (x.kind = 5) && !(decide (x.kind = 1) && decide (x.tag = 1)))) by simp [coNode, projCo]]
    generalize labM b = i3 at hlab ⊢
    repeat' first | ((first | refine aops_end (hK _ ?_) | refine aopsD_end (hK _ ?_) | refine aopsF_end (hK _ ?_)); clear hK K) | ((first | refine aops_go ?_ | refine aopsD_go ?_ | refine aopsF_go ?_ | refine wpcall_pure rfl (hlab) ?_); simp; (try (refine gen2 ?_ ?_ <;> intro hq <;> try simp at hq))) | (refine T.ret (Done.data (Or.inr rfl) ?_ ?_) <;> simp [Tryz.results47, *] <;> omega) | refine T.r0 fun K hK => ?_ | refine T.r1 fun K hK => ?_ | (refine ⟨by omega, ?_⟩) | refine T.ct rfl ?_ | refine T.cf rfl ?_ | refine T.seq ?_ | refine T.block ?_ | refine T.skip ?_ | refine T.exit ?_
   ·subst hk1
    rw [show coNode (.mk 2 t b [x, y]) = (decide (b = 0) && decide (t = 0)) by simp [coNode]]
    repeat' first | ((first | refine aops_end (hK _ ?_) | refine aopsD_end (hK _ ?_) | refine aopsF_end (hK _ ?_)); clear hK K) | ((first | refine aops_go ?_ | refine aopsD_go ?_ | refine aopsF_go ?_); simp; (try (refine gen2 ?_ ?_ <;> intro hq <;> try simp at hq))) | (refine T.ret (Done.data (Or.inr rfl) ?_ ?_) <;> simp [Tryz.results47, *] <;> omega) | refine T.r0 fun K hK => ?_ | refine T.r1 fun K hK => ?_ | (refine ⟨by omega, ?_⟩) | refine T.ct rfl ?_ | refine T.cf rfl ?_ | refine T.seq ?_ | refine T.block ?_ | refine T.skip ?_ | refine T.exit ?_
   ·subst hk1
    rw [show coNode (.mk 3 t b [x, y]) = (decide (b = 0) && decide (t = 0)) by simp [coNode]]
    repeat' first | ((first | refine aops_end (hK _ ?_) | refine aopsD_end (hK _ ?_) | refine aopsF_end (hK _ ?_)); clear hK K) | ((first | refine aops_go ?_ | refine aopsD_go ?_ | refine aopsF_go ?_); simp; (try (refine gen2 ?_ ?_ <;> intro hq <;> try simp at hq))) | (refine T.ret (Done.data (Or.inr rfl) ?_ ?_) <;> simp [Tryz.results47, *] <;> omega) | refine T.r0 fun K hK => ?_ | refine T.r1 fun K hK => ?_ | (refine ⟨by omega, ?_⟩) | refine T.ct rfl ?_ | refine T.cf rfl ?_ | refine T.seq ?_ | refine T.block ?_ | refine T.skip ?_ | refine T.exit ?_

theorem CoercionValidS_ok (c : MCo) (hn : nCo c <= 1099511627776) : ACalls Tryz.prog 19 [aCo c] [] (.b (shapeCo 9 c)) [] [] := by
 have h := l6Shape_ok 9 c (by omega) hn
 generalize shapeCo 9 c = q at h ⊢
 refine ACalls.of_body Tryz.func19 (by kernel_rfl) rfl (by kernel_rfl) (by simp [Tryz.ntmps19]) (by simp) ?_
 rw [Tryz.ntmps19]
 repeat' first | ((first | refine aops_end (hK _ ?_) | refine aopsD_end (hK _ ?_) | refine aopsF_end (hK _ ?_)); clear hK K) | ((first | refine aops_go ?_ | refine aopsD_go ?_ | refine aopsF_go ?_ | refine wpcall_pure rfl (h) ?_); simp; (try (refine gen2 ?_ ?_ <;> intro hq <;> try simp at hq))) | (refine T.ret (Done.data (Or.inr rfl) ?_ ?_) <;> simp [Tryz.results19] <;> omega) | refine T.r0 fun K hK => ?_ | refine T.r1 fun K hK => ?_ | (refine ⟨by omega, ?_⟩) | refine T.ct rfl ?_ | refine T.cf rfl ?_ | refine T.seq ?_ | refine T.block ?_ | refine T.skip ?_ | refine T.exit ?_
end Go.Proofs.YtcgmmknfpfdghaaGreatDoor

namespace Go.Proofs.YtcgmmknfpfdghaaGreatDoor
attribute [-simp] Go.Av.astepJ Go.Av.relC Go.Av.relL Go.Av.relV Go.Av.relVs Go.Av.callJ Go.Av.IT.kind_v Go.Av.IT.kind_b Go.Av.IT.kind_p Go.Av.IT.name_v Go.Av.IT.name_b Go.Av.IT.name_p Go.Av.IT.kids_v Go.Av.IT.kids_b Go.Av.IT.kids_p Go.Av.eIT_len
open Go Go.Av
attribute [local irreducible] T ACalls TX EX LX Draws Some_ ACallsX eTy eTm MTy.kind MTy.kids MTm.kind MTm.name MTm.num MTm.ty MTm.fr MTm.label MTm.kids
attribute [local simp] eTy_def eTm_def
set_option maxHeartbeats 16000000
set_option maxRecDepth 8000
attribute [local irreducible] eCo MCo.kind MCo.tag MCo.label MCo.kids
attribute [local simp] eCo_def

theorem FormatCoercion_ok (c : MCo) (hn : nCo c <= 1099511627776) : ACalls Tryz.prog 15 [aCo c] [] (.s (formatCoM c)) [] [] := by
 have h := CoercionValid_ok c hn
 rw [formatCoM]
 by_cases hv : shapeCo 9 c = true
 ·rw [hv] at h
  rw [if_pos hv]
  have k := coText_ok (CoV.of hv) (by omega)
  rw [show coTextF 9 c = coText c from rfl] at k
  generalize coText c = A at *
  refine ACalls.of_body Tryz.func15 (by kernel_rfl) rfl (by kernel_rfl) (by simp [Tryz.ntmps15]) (by simp) ?_
  rw [Tryz.ntmps15]
  repeat' first | ((first | refine aops_end (hK _ ?_) | refine aopsD_end (hK _ ?_) | refine aopsF_end (hK _ ?_)); clear hK K) | ((first | refine aops_go ?_ | refine aopsD_go ?_ | refine aopsF_go ?_ | refine wpcall_pure rfl (h) ?_ | refine wpcall_pure rfl (k) ?_); simp; (try (refine gen2 ?_ ?_ <;> intro hq <;> try simp at hq))) | (refine T.ret (Done.data (Or.inr rfl) ?_ ?_) <;> simp [Tryz.results15] <;> omega) | refine T.r0 fun K hK => ?_ | refine T.r1 fun K hK => ?_ | (refine ⟨by omega, ?_⟩) | refine T.ct rfl ?_ | refine T.cf rfl ?_ | refine T.seq ?_ | refine T.block ?_ | refine T.skip ?_ | refine T.exit ?_
 ·rw [if_neg hv]
  rw [Bool.not_eq_true] at hv
  rw [hv] at h
  refine ACalls.of_body Tryz.func15 (by kernel_rfl) rfl (by kernel_rfl) (by simp [Tryz.ntmps15]) (by simp) ?_
  rw [Tryz.ntmps15]
  repeat' first | ((first | refine aops_end (hK _ ?_) | refine aopsD_end (hK _ ?_) | refine aopsF_end (hK _ ?_)); clear hK K) | ((first | refine aops_go ?_ | refine aopsD_go ?_ | refine aopsF_go ?_ | refine wpcall_pure rfl (h) ?_); simp; (try (refine gen2 ?_ ?_ <;> intro hq <;> try simp at hq))) | (refine T.ret (Done.data (Or.inr rfl) ?_ ?_) <;> simp [Tryz.results15] <;> omega) | refine T.r0 fun K hK => ?_ | refine T.r1 fun K hK => ?_ | (refine ⟨by omega, ?_⟩) | refine T.ct rfl ?_ | refine T.cf rfl ?_ | refine T.seq ?_ | refine T.block ?_ | refine T.skip ?_ | refine T.exit ?_

theorem FormatCoercionS_ok (c : MCo) (hn : nCo c <= 1099511627776) : ACalls Tryz.prog 17 [aCo c] [] (.s (formatCoM c)) [] [] := by
 have h := CoercionValidS_ok c hn
 rw [formatCoM]
 by_cases hv : shapeCo 9 c = true
 ·rw [hv] at h
  rw [if_pos hv]
  have k := l6Text_ok (CoV.of hv) (by omega)
  rw [show coTextF 9 c = coText c from rfl] at k
  generalize coText c = A at *
  refine ACalls.of_body Tryz.func17 (by kernel_rfl) rfl (by kernel_rfl) (by simp [Tryz.ntmps17]) (by simp) ?_
  rw [Tryz.ntmps17]
  repeat' first | ((first | refine aops_end (hK _ ?_) | refine aopsD_end (hK _ ?_) | refine aopsF_end (hK _ ?_)); clear hK K) | ((first | refine aops_go ?_ | refine aopsD_go ?_ | refine aopsF_go ?_ | refine wpcall_pure rfl (h) ?_ | refine wpcall_pure rfl (k) ?_); simp; (try (refine gen2 ?_ ?_ <;> intro hq <;> try simp at hq))) | (refine T.ret (Done.data (Or.inr rfl) ?_ ?_) <;> simp [Tryz.results17] <;> omega) | refine T.r0 fun K hK => ?_ | refine T.r1 fun K hK => ?_ | (refine ⟨by omega, ?_⟩) | refine T.ct rfl ?_ | refine T.cf rfl ?_ | refine T.seq ?_ | refine T.block ?_ | refine T.skip ?_ | refine T.exit ?_
 ·rw [if_neg hv]
  rw [Bool.not_eq_true] at hv
  rw [hv] at h
  refine ACalls.of_body Tryz.func17 (by kernel_rfl) rfl (by kernel_rfl) (by simp [Tryz.ntmps17]) (by simp) ?_
  rw [Tryz.ntmps17]
  repeat' first | ((first | refine aops_end (hK _ ?_) | refine aopsD_end (hK _ ?_) | refine aopsF_end (hK _ ?_)); clear hK K) | ((first | refine aops_go ?_ | refine aopsD_go ?_ | refine aopsF_go ?_ | refine wpcall_pure rfl (h) ?_); simp; (try (refine gen2 ?_ ?_ <;> intro hq <;> try simp at hq))) | (refine T.ret (Done.data (Or.inr rfl) ?_ ?_) <;> simp [Tryz.results17] <;> omega) | refine T.r0 fun K hK => ?_ | refine T.r1 fun K hK => ?_ | (refine ⟨by omega, ?_⟩) | refine T.ct rfl ?_ | refine T.cf rfl ?_ | refine T.seq ?_ | refine T.block ?_ | refine T.skip ?_ | refine T.exit ?_

end Go.Proofs.YtcgmmknfpfdghaaGreatDoor
