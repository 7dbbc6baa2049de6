/- A part of the library of this seat. -/
import Derived.Test.YtcmdpggdaiinpaaGreatDoorQ32
set_option linter.unusedVariables false
set_option linter.unusedSimpArgs false
namespace Go.Proofs.YtcmdpggdaiinpaaGreatDoor
attribute [-simp] Go.Av.MCo.kind_mk Go.Av.MCo.tag_mk Go.Av.MCo.label_mk Go.Av.MCo.kids_mk Go.Av.astepJ Go.Av.relC Go.Av.relL Go.Av.relV Go.Av.relVs Go.Av.callJ Go.Av.IT.kind_v Go.Av.IT.kind_b Go.Av.IT.kind_p Go.Av.IT.name_v Go.Av.IT.name_b Go.Av.IT.name_p Go.Av.IT.kids_v Go.Av.IT.kids_b Go.Av.IT.kids_p Go.Av.eIT_len
open Go Go.Av
attribute [local irreducible] T ACalls TX EX LX Draws Some_ ACallsX eTy eTm MTy.kind MTy.kids MTm.kind MTm.name MTm.num MTm.ty MTm.fr MTm.label MTm.kids
attribute [local simp] eTy_def eTm_def
set_option maxHeartbeats 16000000
set_option maxRecDepth 8000
def itoaRen : Go.Shelf.Ren := ⟨fun n => match n with | 129 => 169 | 171 => 58 | 243 => 96 | 246 => 135 | 283 => 155 | 284 => 156 | 285 => 157 | 286 => 158 | 317 => 168 | 318 => 170 | 319 => 171 | 320 => 172 | 337 => 175 | 338 => 176 | _ => 0, fun n => match n with | 0 => 0 | 2 => 2 | 3 => 3 | 4 => 4 | 5 => 5 | 9 => 9 | 20 => 20 | 37 => 22 | 46 => 153 | 51 => 171 | 53 => 154 | 171 => 166 | 173 => 169 | 212 => 182 | 213 => 183 | 232 => 193 | 233 => 194 | _ => 0, fun n => match n with | 17 => 3 | 18 => 6 | 19 => 7 | _ => 0⟩
theorem itoaLays : Go.Proofs.LaysM.n171 Tryz.prog itoaRen where
 mixed := mixed
 f129 := by kernel_rfl
 f171 := by kernel_rfl
 f243 := by kernel_rfl
 f246 := by kernel_rfl
 f283 := by kernel_rfl
 f284 := by kernel_rfl
 f285 := by kernel_rfl
 f286 := by kernel_rfl
 f317 := by kernel_rfl
 f318 := by kernel_rfl
 f319 := by kernel_rfl
 f320 := by kernel_rfl
 f337 := by kernel_rfl
 f338 := by kernel_rfl
 t0 := by kernel_rfl
 a0 := by intro w; kernel_rfl
 z0 := by intro w; kernel_rfl
 v0 := by intro w; kernel_rfl
 t2 := by kernel_rfl
 a2 := by intro w; kernel_rfl
 z2 := by intro w; kernel_rfl
 v2 := by intro w; kernel_rfl
 t3 := by kernel_rfl
 a3 := by intro w; kernel_rfl
 z3 := by intro w; kernel_rfl
 v3 := by intro w; kernel_rfl
 t4 := by kernel_rfl
 a4 := by intro w; kernel_rfl
 z4 := by intro w; kernel_rfl
 v4 := by intro w; kernel_rfl
 t5 := by kernel_rfl
 a5 := by intro w; kernel_rfl
 z5 := by intro w; kernel_rfl
 v5 := by intro w; kernel_rfl
 t9 := by kernel_rfl
 a9 := by intro w; kernel_rfl
 z9 := by intro w; kernel_rfl
 v9 := by intro w; kernel_rfl
 t20 := by kernel_rfl
 a20 := by intro w; kernel_rfl
 z20 := by intro w; kernel_rfl
 v20 := by intro w; kernel_rfl
 t37 := by kernel_rfl
 a37 := by intro w; kernel_rfl
 z37 := by intro w; kernel_rfl
 v37 := by intro w; kernel_rfl
 t46 := by kernel_rfl
 a46 := by intro w; kernel_rfl
 z46 := by intro w; kernel_rfl
 v46 := by intro w; kernel_rfl
 t51 := by kernel_rfl
 a51 := by intro w; kernel_rfl
 z51 := by intro w; kernel_rfl
 v51 := by intro w; kernel_rfl
 t53 := by kernel_rfl
 a53 := by intro w; kernel_rfl
 z53 := by intro w; kernel_rfl
 v53 := by intro w; kernel_rfl
 t171 := by kernel_rfl
 a171 := by intro w; kernel_rfl
 z171 := by intro w; kernel_rfl
 v171 := by intro w; kernel_rfl
 t173 := by kernel_rfl
 a173 := by intro w; kernel_rfl
 z173 := by intro w; kernel_rfl
 v173 := by intro w; kernel_rfl
 t212 := by kernel_rfl
 a212 := by intro w; kernel_rfl
 z212 := by intro w; kernel_rfl
 v212 := by intro w; kernel_rfl
 t213 := by kernel_rfl
 a213 := by intro w; kernel_rfl
 z213 := by intro w; kernel_rfl
 t232 := by kernel_rfl
 a232 := by intro w; kernel_rfl
 z232 := by intro w; kernel_rfl
 v232 := by intro w; kernel_rfl
 t233 := by kernel_rfl
 a233 := by intro w; kernel_rfl
 z233 := by intro w; kernel_rfl
 v233 := by intro w; kernel_rfl
 g17 := by kernel_rfl
 g18 := by kernel_rfl
 g19 := by kernel_rfl
 i0 := by kernel_rfl
 i2 := by kernel_rfl
 i3 := by kernel_rfl
 i4 := by kernel_rfl
 i5 := by kernel_rfl
 i9 := by kernel_rfl
 i20 := by kernel_rfl
 i37 := by kernel_rfl
 i46 := by kernel_rfl
 i51 := by kernel_rfl
 i53 := by kernel_rfl
 i171 := by kernel_rfl
 i173 := by kernel_rfl
 i212 := by kernel_rfl
 i232 := by kernel_rfl
 i233 := by kernel_rfl
 m17 := by kernel_rfl
 m18 := by kernel_rfl
 m19 := by kernel_rfl
theorem Itoa_ok (n : Int) (h0 : -9223372036854775808 <= n) (h1 : n <= 9223372036854775807) : ACalls Tryz.prog 58 [.i n] [] (.s (Lib.itoa n)) [] [] :=
 itoa_contract (ρ := itoaRen) itoaLays (enters Tryz.func58 (by kernel_rfl) rfl) (k := 3) rfl (by kernel_rfl) n h0 h1
end Go.Proofs.YtcmdpggdaiinpaaGreatDoor

namespace Go.Proofs.YtcmdpggdaiinpaaGreatDoor
attribute [-simp] Go.Av.MCo.kind_mk Go.Av.MCo.tag_mk Go.Av.MCo.label_mk Go.Av.MCo.kids_mk Go.Av.astepJ Go.Av.relC Go.Av.relL Go.Av.relV Go.Av.relVs Go.Av.callJ Go.Av.IT.kind_v Go.Av.IT.kind_b Go.Av.IT.kind_p Go.Av.IT.name_v Go.Av.IT.name_b Go.Av.IT.name_p Go.Av.IT.kids_v Go.Av.IT.kids_b Go.Av.IT.kids_p Go.Av.eIT_len
open Go Go.Av
attribute [local irreducible] T ACalls TX EX LX Draws Some_ ACallsX eTy eTm MTy.kind MTy.kids MTm.kind MTm.name MTm.num MTm.ty MTm.fr MTm.label MTm.kids
attribute [local simp] eTy_def eTm_def
set_option maxHeartbeats 16000000
set_option maxRecDepth 8000

@[simp] theorem td_u8x : td Tryz.prog 5 = some { ag := false, sz := 1, by_ := 1, zero := some [.d (.int .u8 0)], el := none, ar := none, fl := [], ik := some .u8, isS := false, isB := false } := keep (by kernel_rfl)
@[simp] theorem td_u8Sx : td Tryz.prog 22 = some { ag := false, sz := 1, by_ := 24, zero := some [.nil], el := some 5, ar := none, fl := [], ik := none, isS := false, isB := false } := keep (by kernel_rfl)
theorem l18DecN_ok (n : Nat) (hn : n <= 1099511627776) : ACalls Tryz.prog 33 [.i n] [] (.s (Lib.decDigits n)) [] [] := by
 have hlo : ¬ (n : Int) < -9223372036854775807 := by omega
 have hn0 : ¬ (n : Int) < 0 := by omega
 refine ACalls.of_body Tryz.func33 (by kernel_rfl) rfl (by kernel_rfl) (by simp [Tryz.ntmps33]) (by simp) ?_
 rw [Tryz.ntmps33]
 repeat' first | ((first | refine aops_end (hK _ ?_) | refine aopsD_end (hK _ ?_) | refine aopsF_end (hK _ ?_)); clear hK K) | ((first | refine aops_go ?_ | refine aopsD_go ?_ | refine aopsF_go ?_); simp [hlo, hn0]; (try (refine gen2 ?_ ?_ <;> intro hq <;> (try simp [hlo, hn0] at hq) <;> try (have : True := hq; clear this hq)))) | refine T.r0 fun K hK => ?_ | refine T.r1 fun K hK => ?_ | (refine ⟨by omega, ?_⟩) | refine T.ct rfl ?_ | refine T.cf rfl ?_ | refine T.seq ?_ | refine T.block ?_ | refine T.skip ?_ | refine T.exit ?_
 refine T.loopK (α := Nat × List UInt8) [2] (fun x => [(0, .i x.1), (3, .s x.2)]) (fun x => []) (fun x => []) (fun x A => A) (fun x => x.1 + 1) (fun x => Lib.decDigits x.1 ++ x.2 = Lib.decDigits n /\ x.1 <= n /\ x.2.length + x.1 <= n) (by simp; rfl) (fun x hx => ?_) (n, []) (by simp) (by simp) (by simp) (by simp)
 obtain ⟨m, out⟩ := x
 obtain ⟨h1, h2, h3⟩ := hx
 dsimp only at h1 h2 h3 ⊢
 simp only [ups, List.set_cons_zero, List.set_cons_succ, List.cons_append, List.nil_append, List.append_nil]
 have key : ∀ k : Nat, k <= 9 -> ∃ z : Int, IntKind.i64.wrap (48 + (k : Int)) = z /\ IntKind.u8.wrap z = z /\ 0 <= z /\ z < 256 /\ UInt8.ofNat z.toNat = UInt8.ofNat (48 + k) := fun k hk => by
  refine ⟨((48 + k : Nat) : Int), ?_, wrap8 (by omega), by omega, by omega, by rw [Int.toNat_natCast]⟩
  rw [wrap64 (by omega) (by omega)]; omega
 by_cases hlt : 9 < m
 ·have hlt' : (9 : Int) < (m : Int) := by omega
  obtain ⟨q, hq⟩ : ∃ q, m / 10 = q := ⟨_, rfl⟩
  obtain ⟨r, hr⟩ : ∃ r, m % 10 = r := ⟨_, rfl⟩
  have hr9 : r <= 9 := by omega
  obtain ⟨z, z1, z2, z3, z4, z5⟩ := key r hr9
  have e1 : (m : Int).tmod 10 = (r : Int) := by rw [Int.tmod_eq_emod_of_nonneg (by omega)]; omega
  have e2 : (m : Int).tdiv 10 = (q : Int) := by rw [Int.tdiv_eq_ediv_of_nonneg (by omega)]; omega
  have hstep := decDigits_step hlt
  rw [hq, hr] at hstep
  rw [hstep] at h1
  obtain ⟨c, hc⟩ : ∃ c, UInt8.ofNat (48 + r) = c := ⟨_, rfl⟩
  rw [hc] at h1 z5
  repeat' first | ((first | refine aops_end (hK _ ?_) | refine aopsD_end (hK _ ?_) | refine aopsF_end (hK _ ?_)); clear hK K) | ((first | refine aops_go ?_ | refine aopsD_go ?_ | refine aopsF_go ?_); simp [hlt', hlt, e1, e2, z1, z2, z3, z4, z5, bytesOf, byteOfRow]; (try simp (disch := omega) only [wrap64, catLe]); (try (refine gen2 ?_ ?_ <;> intro hq <;> (try simp [hlt', hlt, e1, e2, z1, z2, z3, z4, z5, bytesOf, byteOfRow] at hq) <;> try (have : True := hq; clear this hq)))) | refine T.r0 fun K hK => ?_ | refine T.r1 fun K hK => ?_ | (refine ⟨by omega, ?_⟩) | refine T.ct rfl ?_ | refine T.cf rfl ?_ | refine T.seq ?_ | refine T.block ?_ | refine T.skip ?_ | refine T.exit ?_
  refine ⟨(q, c :: out), by dsimp only; omega, ⟨by simpa using h1, by dsimp only; omega, by simp only [List.length_cons]; omega⟩, rfl, ?_, ?_⟩ <;> simp [e2, hlt']
 ·have hlt' : ¬ (9 : Int) < (m : Int) := by omega
  obtain ⟨z, z1, z2, z3, z4, z5⟩ := key m (by omega)
  rw [decDigits_small (by omega)] at h1
  obtain ⟨c, hc⟩ : ∃ c, UInt8.ofNat (48 + m) = c := ⟨_, rfl⟩
  rw [hc] at h1 z5
  repeat' first | ((first | refine aops_end (hK _ ?_) | refine aopsD_end (hK _ ?_) | refine aopsF_end (hK _ ?_)); clear hK K) | ((first | refine aops_go ?_ | refine aopsD_go ?_ | refine aopsF_go ?_); simp [hlt', hlt, z1, z2, z3, z4, z5, bytesOf, byteOfRow]; (try simp (disch := omega) only [wrap64, catLe]); (try (refine gen2 ?_ ?_ <;> intro hq <;> (try simp [hlt', hlt, z1, z2, z3, z4, z5, bytesOf, byteOfRow] at hq) <;> try (have : True := hq; clear this hq)))) | (refine T.ret (Done.data (Or.inr rfl) ?_ ?_) <;> simp [Tryz.results33, <- h1] <;> omega) | refine T.r0 fun K hK => ?_ | refine T.r1 fun K hK => ?_ | (refine ⟨by omega, ?_⟩) | refine T.ct rfl ?_ | refine T.cf rfl ?_ | refine T.seq ?_ | refine T.block ?_ | refine T.skip ?_ | refine T.exit ?_

end Go.Proofs.YtcmdpggdaiinpaaGreatDoor
