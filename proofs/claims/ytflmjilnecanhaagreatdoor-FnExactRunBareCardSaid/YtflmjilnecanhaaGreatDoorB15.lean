/- A part of the library of this seat. -/
import Derived.Test.YtflmjilnecanhaaGreatDoorB14
set_option linter.unusedVariables false
set_option linter.unusedSimpArgs false
namespace Go.Proofs.YtflmjilnecanhaaGreatDoor
open Go Go.Av
attribute [local irreducible] T ACalls TX EX LX Draws Some_ ACallsX eTy eTm MTy.kind MTy.kids MTm.kind MTm.name MTm.num MTm.ty MTm.fr MTm.label MTm.kids
attribute [local simp] eTy_def eTm_def
set_option maxHeartbeats 16000000
set_option maxRecDepth 8000
def itoaRen : Go.Shelf.Ren := ⟨fun n => match n with | 129 => 290 | 171 => 110 | 243 => 182 | 246 => 228 | 283 => 266 | 284 => 267 | 285 => 268 | 286 => 269 | 317 => 289 | 318 => 291 | 319 => 292 | 320 => 293 | 337 => 306 | 338 => 307 | _ => 0, fun n => match n with | 0 => 0 | 2 => 2 | 3 => 3 | 4 => 4 | 5 => 5 | 9 => 9 | 20 => 20 | 37 => 22 | 46 => 210 | 51 => 231 | 53 => 211 | 171 => 226 | 173 => 229 | 212 => 246 | 213 => 247 | 232 => 261 | 233 => 262 | _ => 0, fun n => match n with | 17 => 3 | 18 => 6 | 19 => 7 | _ => 0⟩
theorem itoaLays : Go.Proofs.LaysM.n171 Tryz.prog itoaRen where
 mixed := mixed
 f129 := by kernel_rfl
 f171 := by kernel_rfl
 f243 := by kernel_rfl
 f246 := by kernel_rfl
 f283 := by kernel_rfl
 f284 := by kernel_rfl
 f285 := by kernel_rfl
 f286 := by kernel_rfl
 f317 := by kernel_rfl
 f318 := by kernel_rfl
 f319 := by kernel_rfl
 f320 := by kernel_rfl
 f337 := by kernel_rfl
 f338 := by kernel_rfl
 t0 := by kernel_rfl
 a0 := by intro w; kernel_rfl
 z0 := by intro w; kernel_rfl
 v0 := by intro w; kernel_rfl
 t2 := by kernel_rfl
 a2 := by intro w; kernel_rfl
 z2 := by intro w; kernel_rfl
 v2 := by intro w; kernel_rfl
 t3 := by kernel_rfl
 a3 := by intro w; kernel_rfl
 z3 := by intro w; kernel_rfl
 v3 := by intro w; kernel_rfl
 t4 := by kernel_rfl
 a4 := by intro w; kernel_rfl
 z4 := by intro w; kernel_rfl
 v4 := by intro w; kernel_rfl
 t5 := by kernel_rfl
 a5 := by intro w; kernel_rfl
 z5 := by intro w; kernel_rfl
 v5 := by intro w; kernel_rfl
 t9 := by kernel_rfl
 a9 := by intro w; kernel_rfl
 z9 := by intro w; kernel_rfl
 v9 := by intro w; kernel_rfl
 t20 := by kernel_rfl
 a20 := by intro w; kernel_rfl
 z20 := by intro w; kernel_rfl
 v20 := by intro w; kernel_rfl
 t37 := by kernel_rfl
 a37 := by intro w; kernel_rfl
 z37 := by intro w; kernel_rfl
 v37 := by intro w; kernel_rfl
 t46 := by kernel_rfl
 a46 := by intro w; kernel_rfl
 z46 := by intro w; kernel_rfl
 v46 := by intro w; kernel_rfl
 t51 := by kernel_rfl
 a51 := by intro w; kernel_rfl
 z51 := by intro w; kernel_rfl
 v51 := by intro w; kernel_rfl
 t53 := by kernel_rfl
 a53 := by intro w; kernel_rfl
 z53 := by intro w; kernel_rfl
 v53 := by intro w; kernel_rfl
 t171 := by kernel_rfl
 a171 := by intro w; kernel_rfl
 z171 := by intro w; kernel_rfl
 v171 := by intro w; kernel_rfl
 t173 := by kernel_rfl
 a173 := by intro w; kernel_rfl
 z173 := by intro w; kernel_rfl
 v173 := by intro w; kernel_rfl
 t212 := by kernel_rfl
 a212 := by intro w; kernel_rfl
 z212 := by intro w; kernel_rfl
 v212 := by intro w; kernel_rfl
 t213 := by kernel_rfl
 a213 := by intro w; kernel_rfl
 z213 := by intro w; kernel_rfl
 t232 := by kernel_rfl
 a232 := by intro w; kernel_rfl
 z232 := by intro w; kernel_rfl
 v232 := by intro w; kernel_rfl
 t233 := by kernel_rfl
 a233 := by intro w; kernel_rfl
 z233 := by intro w; kernel_rfl
 v233 := by intro w; kernel_rfl
 g17 := by kernel_rfl
 g18 := by kernel_rfl
 g19 := by kernel_rfl
 i0 := by kernel_rfl
 i2 := by kernel_rfl
 i3 := by kernel_rfl
 i4 := by kernel_rfl
 i5 := by kernel_rfl
 i9 := by kernel_rfl
 i20 := by kernel_rfl
 i37 := by kernel_rfl
 i46 := by kernel_rfl
 i51 := by kernel_rfl
 i53 := by kernel_rfl
 i171 := by kernel_rfl
 i173 := by kernel_rfl
 i212 := by kernel_rfl
 i232 := by kernel_rfl
 i233 := by kernel_rfl
 m17 := by kernel_rfl
 m18 := by kernel_rfl
 m19 := by kernel_rfl
theorem Itoa_ok (n : Int) (h0 : -9223372036854775808 <= n) (h1 : n <= 9223372036854775807) : ACalls Tryz.prog 110 [.i n] [] (.s (Lib.itoa n)) [] [] :=
 itoa_contract (ρ := itoaRen) itoaLays (enters Tryz.func110 (by kernel_rfl) rfl) (k := 3) rfl (by kernel_rfl) n h0 h1
end Go.Proofs.YtflmjilnecanhaaGreatDoor

namespace Go.Proofs.YtflmjilnecanhaaGreatDoor
open Go Go.Av
attribute [local irreducible] T ACalls TX EX LX Draws Some_ ACallsX eTy eTm MTy.kind MTy.kids MTm.kind MTm.name MTm.num MTm.ty MTm.fr MTm.label MTm.kids
attribute [local simp] eTy_def eTm_def
set_option maxHeartbeats 16000000
set_option maxRecDepth 8000

theorem sign_ok {k : Int} (h1 : 1 <= k) (h5 : k <= 5) : ACalls Tryz.prog 118 [.i k] [] (.s [signB k]) [] [] := by
 have hk : k = 1 \/ k = 2 \/ k = 3 \/ k = 4 \/ k = 5 := by omega
 have hw : ∀ z : Int, 0 <= z -> z <= 5 -> IntKind.i64.wrap z = z := fun z h1 h2 => wrap64 (by omega) (by omega)
 have w0 := hw 0 (by omega) (by omega)
 have w1 := hw 1 (by omega) (by omega)
 have w2 := hw 2 (by omega) (by omega)
 have w3 := hw 3 (by omega) (by omega)
 have w4 := hw 4 (by omega) (by omega)
 have w5 := hw 5 (by omega) (by omega)
 rcases hk with rfl | rfl | rfl | rfl | rfl
 ·refine ACalls.of_body Tryz.func118 (by kernel_rfl) rfl (by kernel_rfl) (by simp [Tryz.ntmps118]) (by simp) ?_
  rw [Tryz.ntmps118]
  repeat' first | ((first | refine aops_end (hK _ ?_) | refine aopsD_end (hK _ ?_) | refine aopsF_end (hK _ ?_)); clear hK K) | ((first | refine aops_go ?_ | refine aopsD_go ?_ | refine aopsF_go ?_); simp [w0, w1, w2, w3, w4, w5]; (try (refine gen fun q hq => ?_; cases q <;> (try simp [w0, w1, w2, w3, w4, w5] at hq) <;> (try (have hh : True := hq; clear hh hq))))) | (refine T.ret (Done.data (Or.inr rfl) ?_ ?_) <;> simp [Tryz.results118, signB] <;> omega) | refine T.r0 fun K hK => ?_ | refine T.r1 fun K hK => ?_ | (refine ⟨by omega, ?_⟩) | refine T.ct rfl ?_ | refine T.cf rfl ?_ | refine T.seq ?_ | refine T.block ?_ | refine T.skip ?_ | refine T.exit ?_
 ·refine ACalls.of_body Tryz.func118 (by kernel_rfl) rfl (by kernel_rfl) (by simp [Tryz.ntmps118]) (by simp) ?_
  rw [Tryz.ntmps118]
  repeat' first | ((first | refine aops_end (hK _ ?_) | refine aopsD_end (hK _ ?_) | refine aopsF_end (hK _ ?_)); clear hK K) | ((first | refine aops_go ?_ | refine aopsD_go ?_ | refine aopsF_go ?_); simp [w0, w1, w2, w3, w4, w5]; (try (refine gen fun q hq => ?_; cases q <;> (try simp [w0, w1, w2, w3, w4, w5] at hq) <;> (try (have hh : True := hq; clear hh hq))))) | (refine T.ret (Done.data (Or.inr rfl) ?_ ?_) <;> simp [Tryz.results118, signB] <;> omega) | refine T.r0 fun K hK => ?_ | refine T.r1 fun K hK => ?_ | (refine ⟨by omega, ?_⟩) | refine T.ct rfl ?_ | refine T.cf rfl ?_ | refine T.seq ?_ | refine T.block ?_ | refine T.skip ?_ | refine T.exit ?_
 ·refine ACalls.of_body Tryz.func118 (by kernel_rfl) rfl (by kernel_rfl) (by simp [Tryz.ntmps118]) (by simp) ?_
  rw [Tryz.ntmps118]
  repeat' first | ((first | refine aops_end (hK _ ?_) | refine aopsD_end (hK _ ?_) | refine aopsF_end (hK _ ?_)); clear hK K) | ((first | refine aops_go ?_ | refine aopsD_go ?_ | refine aopsF_go ?_); simp [w0, w1, w2, w3, w4, w5]; (try (refine gen fun q hq => ?_; cases q <;> (try simp [w0, w1, w2, w3, w4, w5] at hq) <;> (try (have hh : True := hq; clear hh hq))))) | (refine T.ret (Done.data (Or.inr rfl) ?_ ?_) <;> simp [Tryz.results118, signB] <;> omega) | refine T.r0 fun K hK => ?_ | refine T.r1 fun K hK => ?_ | (refine ⟨by omega, ?_⟩) | refine T.ct rfl ?_ | refine T.cf rfl ?_ | refine T.seq ?_ | refine T.block ?_ | refine T.skip ?_ | refine T.exit ?_
 ·refine ACalls.of_body Tryz.func118 (by kernel_rfl) rfl (by kernel_rfl) (by simp [Tryz.ntmps118]) (by simp) ?_
  rw [Tryz.ntmps118]
  repeat' first | ((first | refine aops_end (hK _ ?_) | refine aopsD_end (hK _ ?_) | refine aopsF_end (hK _ ?_)); clear hK K) | ((first | refine aops_go ?_ | refine aopsD_go ?_ | refine aopsF_go ?_); simp [w0, w1, w2, w3, w4, w5]; (try (refine gen fun q hq => ?_; cases q <;> (try simp [w0, w1, w2, w3, w4, w5] at hq) <;> (try (have hh : True := hq; clear hh hq))))) | (refine T.ret (Done.data (Or.inr rfl) ?_ ?_) <;> simp [Tryz.results118, signB] <;> omega) | refine T.r0 fun K hK => ?_ | refine T.r1 fun K hK => ?_ | (refine ⟨by omega, ?_⟩) | refine T.ct rfl ?_ | refine T.cf rfl ?_ | refine T.seq ?_ | refine T.block ?_ | refine T.skip ?_ | refine T.exit ?_
 ·refine ACalls.of_body Tryz.func118 (by kernel_rfl) rfl (by kernel_rfl) (by simp [Tryz.ntmps118]) (by simp) ?_
  rw [Tryz.ntmps118]
  repeat' first | ((first | refine aops_end (hK _ ?_) | refine aopsD_end (hK _ ?_) | refine aopsF_end (hK _ ?_)); clear hK K) | ((first | refine aops_go ?_ | refine aopsD_go ?_ | refine aopsF_go ?_); simp [w0, w1, w2, w3, w4, w5]; (try (refine gen fun q hq => ?_; cases q <;> (try simp [w0, w1, w2, w3, w4, w5] at hq) <;> (try (have hh : True := hq; clear hh hq))))) | (refine T.ret (Done.data (Or.inr rfl) ?_ ?_) <;> simp [Tryz.results118, signB] <;> omega) | refine T.r0 fun K hK => ?_ | refine T.r1 fun K hK => ?_ | (refine ⟨by omega, ?_⟩) | refine T.ct rfl ?_ | refine T.cf rfl ?_ | refine T.seq ?_ | refine T.block ?_ | refine T.skip ?_ | refine T.exit ?_

theorem typeText_ok {d : Nat} {t : MTy} (h : VTy d t) (hd : d <= 40) : ACalls Tryz.prog 104 [aTy t] [] (.s (tyTextF d t)) [] [] := by
 induction h with
 | any d =>
  have k1 := sign_ok (k := 1) (by omega) (by omega)
  rw [tyTextF_any]
  refine ACalls.of_body Tryz.func104 (by kernel_rfl) rfl (by kernel_rfl) (by simp [Tryz.ntmps104]) (by simp) ?_
  rw [Tryz.ntmps104]
  repeat' first | ((first | refine aops_end (hK _ ?_) | refine aopsD_end (hK _ ?_) | refine aopsF_end (hK _ ?_)); clear hK K) | ((first | refine aops_go ?_ | refine aopsD_go ?_ | refine aopsF_go ?_); simp; (try (refine gen fun q hq => ?_; cases q <;> (try simp at hq) <;> (try (have hh : True := hq; clear hh hq))))) | (refine wpcall_pure rfl (k1) ?_; simp; (try (refine gen fun q hq => ?_; cases q <;> (try simp at hq) <;> (try (have hh : True := hq; clear hh hq))))) | (refine T.ret (Done.data (Or.inr rfl) ?_ ?_) <;> simp [Tryz.results104, signB] <;> omega) | refine T.rd (id := 3) mixed (fun _ => false) [] (by kernel_rfl) fun K hK => ?_ | refine T.rd1 (id := 3) mixed (fun _ => false) [] (by kernel_rfl) fun K hK => ?_ | refine T.r0 fun K hK => ?_ | refine T.r1 fun K hK => ?_ | (refine ⟨by omega, ?_⟩) | refine T.ct rfl ?_ | refine T.cf rfl ?_ | refine T.seq ?_ | refine T.block ?_ | refine T.skip ?_ | refine T.exit ?_
 | int d =>
  have k1 := sign_ok (k := 2) (by omega) (by omega)
  rw [tyTextF_int]
  refine ACalls.of_body Tryz.func104 (by kernel_rfl) rfl (by kernel_rfl) (by simp [Tryz.ntmps104]) (by simp) ?_
  rw [Tryz.ntmps104]
  repeat' first | ((first | refine aops_end (hK _ ?_) | refine aopsD_end (hK _ ?_) | refine aopsF_end (hK _ ?_)); clear hK K) | ((first | refine aops_go ?_ | refine aopsD_go ?_ | refine aopsF_go ?_); simp; (try (refine gen fun q hq => ?_; cases q <;> (try simp at hq) <;> (try (have hh : True := hq; clear hh hq))))) | (refine wpcall_pure rfl (k1) ?_; simp; (try (refine gen fun q hq => ?_; cases q <;> (try simp at hq) <;> (try (have hh : True := hq; clear hh hq))))) | (refine T.ret (Done.data (Or.inr rfl) ?_ ?_) <;> simp [Tryz.results104, signB] <;> omega) | refine T.rd (id := 3) mixed (fun _ => false) [] (by kernel_rfl) fun K hK => ?_ | refine T.rd1 (id := 3) mixed (fun _ => false) [] (by kernel_rfl) fun K hK => ?_ | refine T.r0 fun K hK => ?_ | refine T.r1 fun K hK => ?_ | (refine ⟨by omega, ?_⟩) | refine T.ct rfl ?_ | refine T.cf rfl ?_ | refine T.seq ?_ | refine T.block ?_ | refine T.skip ?_ | refine T.exit ?_
 | bool d =>
  have k1 := sign_ok (k := 3) (by omega) (by omega)
  rw [tyTextF_bool]
  refine ACalls.of_body Tryz.func104 (by kernel_rfl) rfl (by kernel_rfl) (by simp [Tryz.ntmps104]) (by simp) ?_
  rw [Tryz.ntmps104]
  repeat' first | ((first | refine aops_end (hK _ ?_) | refine aopsD_end (hK _ ?_) | refine aopsF_end (hK _ ?_)); clear hK K) | ((first | refine aops_go ?_ | refine aopsD_go ?_ | refine aopsF_go ?_); simp; (try (refine gen fun q hq => ?_; cases q <;> (try simp at hq) <;> (try (have hh : True := hq; clear hh hq))))) | (refine wpcall_pure rfl (k1) ?_; simp; (try (refine gen fun q hq => ?_; cases q <;> (try simp at hq) <;> (try (have hh : True := hq; clear hh hq))))) | (refine T.ret (Done.data (Or.inr rfl) ?_ ?_) <;> simp [Tryz.results104, signB] <;> omega) | refine T.rd (id := 3) mixed (fun _ => false) [] (by kernel_rfl) fun K hK => ?_ | refine T.rd1 (id := 3) mixed (fun _ => false) [] (by kernel_rfl) fun K hK => ?_ | refine T.r0 fun K hK => ?_ | refine T.r1 fun K hK => ?_ | (refine ⟨by omega, ?_⟩) | refine T.ct rfl ?_ | refine T.cf rfl ?_ | refine T.seq ?_ | refine T.block ?_ | refine T.skip ?_ | refine T.exit ?_
 | @fn d a b ha hb iha ihb =>
  have k1 := sign_ok (k := 4) (by omega) (by omega)
  rw [tyTextF_fn]
  have la := tyTextF_le ha (by omega)
  have lb := tyTextF_le hb (by omega)
  replace iha := iha (by omega)
  replace ihb := ihb (by omega)
  generalize tyTextF d a = A at *
  generalize tyTextF d b = B at *
  refine ACalls.of_body Tryz.func104 (by kernel_rfl) rfl (by kernel_rfl) (by simp [Tryz.ntmps104]) (by simp) ?_
  rw [Tryz.ntmps104]
  repeat' first | ((first | refine aops_end (hK _ ?_) | refine aopsD_end (hK _ ?_) | refine aopsF_end (hK _ ?_)); clear hK K) | ((first | refine aops_go ?_ | refine aopsD_go ?_ | refine aopsF_go ?_); simp; (try simp (disch := omega) only [wrap64, catLe]); (try (refine gen fun q hq => ?_; cases q <;> (try simp at hq) <;> (try (have hh : True := hq; clear hh hq))))) | (refine wpcall_pure rfl (k1) ?_; simp; (try simp (disch := omega) only [wrap64, catLe]); (try (refine gen fun q hq => ?_; cases q <;> (try simp at hq) <;> (try (have hh : True := hq; clear hh hq))))) | (refine wpcall_pure rfl (iha) ?_; simp; (try simp (disch := omega) only [wrap64, catLe]); (try (refine gen fun q hq => ?_; cases q <;> (try simp at hq) <;> (try (have hh : True := hq; clear hh hq))))) | (refine wpcall_pure rfl (ihb) ?_; simp; (try simp (disch := omega) only [wrap64, catLe]); (try (refine gen fun q hq => ?_; cases q <;> (try simp at hq) <;> (try (have hh : True := hq; clear hh hq))))) | (refine T.ret (Done.data (Or.inr rfl) ?_ ?_) <;> simp [Tryz.results104, signB] <;> omega) | refine T.rd (id := 3) mixed (fun _ => false) [] (by kernel_rfl) fun K hK => ?_ | refine T.rd1 (id := 3) mixed (fun _ => false) [] (by kernel_rfl) fun K hK => ?_ | refine T.r0 fun K hK => ?_ | refine T.r1 fun K hK => ?_ | (refine ⟨by omega, ?_⟩) | refine T.ct rfl ?_ | refine T.cf rfl ?_ | refine T.seq ?_ | refine T.block ?_ | refine T.skip ?_ | refine T.exit ?_
 | @pair d a b ha hb iha ihb =>
  have k1 := sign_ok (k := 5) (by omega) (by omega)
  rw [tyTextF_pair]
  have la := tyTextF_le ha (by omega)
  have lb := tyTextF_le hb (by omega)
  replace iha := iha (by omega)
  replace ihb := ihb (by omega)
  generalize tyTextF d a = A at *
  generalize tyTextF d b = B at *
  refine ACalls.of_body Tryz.func104 (by kernel_rfl) rfl (by kernel_rfl) (by simp [Tryz.ntmps104]) (by simp) ?_
  rw [Tryz.ntmps104]
  repeat' first | ((first | refine aops_end (hK _ ?_) | refine aopsD_end (hK _ ?_) | refine aopsF_end (hK _ ?_)); clear hK K) | ((first | refine aops_go ?_ | refine aopsD_go ?_ | refine aopsF_go ?_); simp; (try simp (disch := omega) only [wrap64, catLe]); (try (refine gen fun q hq => ?_; cases q <;> (try simp at hq) <;> (try (have hh : True := hq; clear hh hq))))) | (refine wpcall_pure rfl (k1) ?_; simp; (try simp (disch := omega) only [wrap64, catLe]); (try (refine gen fun q hq => ?_; cases q <;> (try simp at hq) <;> (try (have hh : True := hq; clear hh hq))))) | (refine wpcall_pure rfl (iha) ?_; simp; (try simp (disch := omega) only [wrap64, catLe]); (try (refine gen fun q hq => ?_; cases q <;> (try simp at hq) <;> (try (have hh : True := hq; clear hh hq))))) | (refine wpcall_pure rfl (ihb) ?_; simp; (try simp (disch := omega) only [wrap64, catLe]); (try (refine gen fun q hq => ?_; cases q <;> (try simp at hq) <;> (try (have hh : True := hq; clear hh hq))))) | (refine T.ret (Done.data (Or.inr rfl) ?_ ?_) <;> simp [Tryz.results104, signB] <;> omega) | refine T.rd (id := 3) mixed (fun _ => false) [] (by kernel_rfl) fun K hK => ?_ | refine T.rd1 (id := 3) mixed (fun _ => false) [] (by kernel_rfl) fun K hK => ?_ | refine T.r0 fun K hK => ?_ | refine T.r1 fun K hK => ?_ | (refine ⟨by omega, ?_⟩) | refine T.ct rfl ?_ | refine T.cf rfl ?_ | refine T.seq ?_ | refine T.block ?_ | refine T.skip ?_ | refine T.exit ?_

@[simp] theorem td_u8x : td Tryz.prog 5 = some { ag := false, sz := 1, by_ := 1, zero := some [.d (.int .u8 0)], el := none, ar := none, fl := [], ik := some .u8, isS := false, isB := false } := keep (by kernel_rfl)
@[simp] theorem td_u8Sx : td Tryz.prog 22 = some { ag := false, sz := 1, by_ := 24, zero := some [.nil], el := some 5, ar := none, fl := [], ik := none, isS := false, isB := false } := keep (by kernel_rfl)
theorem l18DecN_ok (n : Nat) (hn : n <= 1099511627776) : ACalls Tryz.prog 51 [.i n] [] (.s (Lib.decDigits n)) [] [] := by
 have hlo : ¬ (n : Int) < -9223372036854775807 := by omega
 have hn0 : ¬ (n : Int) < 0 := by omega
 refine ACalls.of_body Tryz.func51 (by kernel_rfl) rfl (by kernel_rfl) (by simp [Tryz.ntmps51]) (by simp) ?_
 rw [Tryz.ntmps51]
 repeat' first | ((first | refine aops_end (hK _ ?_) | refine aopsD_end (hK _ ?_) | refine aopsF_end (hK _ ?_)); clear hK K) | ((first | refine aops_go ?_ | refine aopsD_go ?_ | refine aopsF_go ?_); simp [hlo, hn0]; (try (refine gen fun q hq => ?_; cases q <;> (try simp [hlo, hn0] at hq) <;> (try (have hh : True := hq; clear hh hq))))) | refine T.r0 fun K hK => ?_ | refine T.r1 fun K hK => ?_ | (refine ⟨by omega, ?_⟩) | refine T.ct rfl ?_ | refine T.cf rfl ?_ | refine T.seq ?_ | refine T.block ?_ | refine T.skip ?_ | refine T.exit ?_
 refine T.loopK (α := Nat × List UInt8) [2] (fun x => [(0, .i x.1), (3, .s x.2)]) (fun x => []) (fun x => []) (fun x A => A) (fun x => x.1 + 1) (fun x => Lib.decDigits x.1 ++ x.2 = Lib.decDigits n /\ x.1 <= n /\ x.2.length + x.1 <= n) (by simp; rfl) (fun x hx => ?_) (n, []) (by simp) (by simp) (by simp) (by simp)
 obtain ⟨m, out⟩ := x
 obtain ⟨h1, h2, h3⟩ := hx
 dsimp only at h1 h2 h3 ⊢
 simp only [ups, List.set_cons_zero, List.set_cons_succ, List.cons_append, List.nil_append, List.append_nil]
 have key : ∀ k : Nat, k <= 9 -> ∃ z : Int, IntKind.i64.wrap (48 + (k : Int)) = z /\ IntKind.u8.wrap z = z /\ 0 <= z /\ z < 256 /\ UInt8.ofNat z.toNat = UInt8.ofNat (48 + k) := fun k hk => by
  refine ⟨((48 + k : Nat) : Int), ?_, wrap8 (by omega), by omega, by omega, by rw [Int.toNat_natCast]⟩
  rw [wrap64 (by omega) (by omega)]; omega
 by_cases hlt : 9 < m
 ·have hlt' : (9 : Int) < (m : Int) := by omega
  obtain ⟨q, hq⟩ : ∃ q, m / 10 = q := ⟨_, rfl⟩
  obtain ⟨r, hr⟩ : ∃ r, m % 10 = r := ⟨_, rfl⟩
  have hr9 : r <= 9 := by omega
  obtain ⟨z, z1, z2, z3, z4, z5⟩ := key r hr9
  have e1 : (m : Int).tmod 10 = (r : Int) := by rw [Int.tmod_eq_emod_of_nonneg (by omega)]; omega
  have e2 : (m : Int).tdiv 10 = (q : Int) := by rw [Int.tdiv_eq_ediv_of_nonneg (by omega)]; omega
  have hstep := decDigits_step hlt
  rw [hq, hr] at hstep
  rw [hstep] at h1
  obtain ⟨c, hc⟩ : ∃ c, UInt8.ofNat (48 + r) = c := ⟨_, rfl⟩
  rw [hc] at h1 z5
  repeat' first | ((first | refine aops_end (hK _ ?_) | refine aopsD_end (hK _ ?_) | refine aopsF_end (hK _ ?_)); clear hK K) | ((first | refine aops_go ?_ | refine aopsD_go ?_ | refine aopsF_go ?_); simp [hlt', hlt, e1, e2, z1, z2, z3, z4, z5, bytesOf, byteOfRow]; (try simp (disch := omega) only [wrap64, catLe]); (try (refine gen fun q hq => ?_; cases q <;> (try simp [hlt', hlt, e1, e2, z1, z2, z3, z4, z5, bytesOf, byteOfRow] at hq) <;> (try (have hh : True := hq; clear hh hq))))) | refine T.r0 fun K hK => ?_ | refine T.r1 fun K hK => ?_ | (refine ⟨by omega, ?_⟩) | refine T.ct rfl ?_ | refine T.cf rfl ?_ | refine T.seq ?_ | refine T.block ?_ | refine T.skip ?_ | refine T.exit ?_
  refine ⟨(q, c :: out), by dsimp only; omega, ⟨by simpa using h1, by dsimp only; omega, by simp only [List.length_cons]; omega⟩, rfl, ?_, ?_⟩ <;> simp [e2, hlt']
 ·have hlt' : ¬ (9 : Int) < (m : Int) := by omega
  obtain ⟨z, z1, z2, z3, z4, z5⟩ := key m (by omega)
  rw [decDigits_small (by omega)] at h1
  obtain ⟨c, hc⟩ : ∃ c, UInt8.ofNat (48 + m) = c := ⟨_, rfl⟩
  rw [hc] at h1 z5
  repeat' first | ((first | refine aops_end (hK _ ?_) | refine aopsD_end (hK _ ?_) | refine aopsF_end (hK _ ?_)); clear hK K) | ((first | refine aops_go ?_ | refine aopsD_go ?_ | refine aopsF_go ?_); simp [hlt', hlt, z1, z2, z3, z4, z5, bytesOf, byteOfRow]; (try simp (disch := omega) only [wrap64, catLe]); (try (refine gen fun q hq => ?_; cases q <;> (try simp [hlt', hlt, z1, z2, z3, z4, z5, bytesOf, byteOfRow] at hq) <;> (try (have hh : True := hq; clear hh hq))))) | (refine T.ret (Done.data (Or.inr rfl) ?_ ?_) <;> simp [Tryz.results51, <- h1] <;> omega) | refine T.r0 fun K hK => ?_ | refine T.r1 fun K hK => ?_ | (refine ⟨by omega, ?_⟩) | refine T.ct rfl ?_ | refine T.cf rfl ?_ | refine T.seq ?_ | refine T.block ?_ | refine T.skip ?_ | refine T.exit ?_

end Go.Proofs.YtflmjilnecanhaaGreatDoor

namespace Go.Proofs.YtflmjilnecanhaaGreatDoor
open Go Go.Av
attribute [local irreducible] T ACalls TX EX LX Draws Some_ ACallsX eTy eTm MTy.kind MTy.kids MTm.kind MTm.name MTm.num MTm.ty MTm.fr MTm.label MTm.kids
attribute [local simp] eTy_def eTm_def
set_option maxHeartbeats 16000000
set_option maxRecDepth 8000

abbrev rTm (e : MTm) : List DV := [.i e.kind, .str e.name, .i e.num, .i e.ty.kind, .sl (e.ty.kids.map eTy), .i e.fr.kind, .sl (e.fr.kids.map eTy), .i e.label, .sl (e.kids.map eTm)]
theorem kid_ok (e : MTm) (i : Nat) {a : MTm} {S : List UInt8} (hi : e.kids[i]? = some a) (h : ACalls Tryz.prog 163 [aTm a] [] (.s S) [] []) : ACalls Tryz.prog 213 [.i i, .c (.ptr 0 0)] (dV [rTm e]) (.s S) (dV [rTm e]) [] := by
 have hlt : i < e.kids.length := (List.getElem?_eq_some_iff.1 hi).1
 have hgt : e.kids[i] = a := by rw [List.getElem?_eq_getElem hlt] at hi; exact Option.some.inj hi
 refine ACalls.of_body Tryz.func213 (by kernel_rfl) rfl (by kernel_rfl) (by simp [Tryz.ntmps213]) (by simp) ?_
 rw [Tryz.ntmps213]
 repeat' first | ((first | refine aops_end (hK _ ?_) | refine aopsD_end (hK _ ?_) | refine aopsF_end (hK _ ?_)); clear hK K) | ((first | refine aops_go ?_ | refine aopsD_go ?_ | refine aopsF_go ?_); simp [hlt, hgt]; (try (refine gen fun q hq => ?_; cases q <;> (try simp [hlt, hgt] at hq) <;> (try (have hh : True := hq; clear hh hq))))) | (refine wpcall_pure rfl (h) ?_; simp [hlt, hgt]; (try (refine gen fun q hq => ?_; cases q <;> (try simp [hlt, hgt] at hq) <;> (try (have hh : True := hq; clear hh hq))))) | refine T.r0 fun K hK => ?_ | refine T.r1 fun K hK => ?_ | (refine ⟨by omega, ?_⟩) | refine T.ct rfl ?_ | refine T.cf rfl ?_ | refine T.seq ?_ | refine T.block ?_ | refine T.skip ?_ | refine T.exit ?_
 refine T.ret (Done.obj1 (Or.inr rfl) ?_ ?_ ?_) <;> simp [Tryz.results213]

theorem text_ok {nt : Int} {d : Nat} {e : MTm} (h : TmV nt d e) (hn : nodesM e <= 1000) : ACalls Tryz.prog 163 [aTm e] [] (.s (tmTextF d e)) [] [] := by
 induction h with
 | @var d s _ hs =>
  rw [tmTextF_var]
  refine ACalls.of_body Tryz.func163 (by kernel_rfl) rfl (by kernel_rfl) (by simp [Tryz.ntmps163]) (by simp) ?_
  rw [Tryz.ntmps163]
  repeat' first | ((first | refine aops_end (hK _ ?_) | refine aopsD_end (hK _ ?_) | refine aopsF_end (hK _ ?_)); clear hK K) | ((first | refine aops_go ?_ | refine aopsD_go ?_ | refine aopsF_go ?_); simp; (try (refine gen fun q hq => ?_; cases q <;> (try simp at hq) <;> (try (have hh : True := hq; clear hh hq))))) | (refine T.ret (Done.data (Or.inr rfl) ?_ ?_) <;> simp [Tryz.results163] <;> omega) | refine T.rd (id := 12) mixed (fun _ => false) [] (by kernel_rfl) fun K hK => ?_ | refine T.rd1 (id := 12) mixed (fun _ => false) [] (by kernel_rfl) fun K hK => ?_ | refine T.rd (id := 28) mixed (fun _ => false) [] (by kernel_rfl) fun K hK => ?_ | refine T.rd1 (id := 28) mixed (fun _ => false) [] (by kernel_rfl) fun K hK => ?_ | refine T.rd (id := 29) mixed (fun _ => false) [] (by kernel_rfl) fun K hK => ?_ | refine T.rd1 (id := 29) mixed (fun _ => false) [] (by kernel_rfl) fun K hK => ?_ | refine T.r0 fun K hK => ?_ | refine T.r1 fun K hK => ?_ | (refine ⟨by omega, ?_⟩) | refine T.ct rfl ?_ | refine T.cf rfl ?_ | refine T.seq ?_ | refine T.block ?_ | refine T.skip ?_ | refine T.exit ?_
 | @num d n _ h0 h1 =>
  have k1 := Itoa_ok n (by omega) (by omega)
  rw [tmTextF_num]
  generalize Lib.itoa n = A at *
  refine ACalls.of_body Tryz.func163 (by kernel_rfl) rfl (by kernel_rfl) (by simp [Tryz.ntmps163]) (by simp) ?_
  rw [Tryz.ntmps163]
  repeat' first | ((first | refine aops_end (hK _ ?_) | refine aopsD_end (hK _ ?_) | refine aopsF_end (hK _ ?_)); clear hK K) | ((first | refine aops_go ?_ | refine aopsD_go ?_ | refine aopsF_go ?_); simp; (try (refine gen fun q hq => ?_; cases q <;> (try simp at hq) <;> (try (have hh : True := hq; clear hh hq))))) | (refine wpcall_pure rfl (k1) ?_; simp; (try (refine gen fun q hq => ?_; cases q <;> (try simp at hq) <;> (try (have hh : True := hq; clear hh hq))))) | (refine T.ret (Done.data (Or.inr rfl) ?_ ?_) <;> simp [Tryz.results163] <;> omega) | refine T.rd (id := 12) mixed (fun _ => false) [] (by kernel_rfl) fun K hK => ?_ | refine T.rd1 (id := 12) mixed (fun _ => false) [] (by kernel_rfl) fun K hK => ?_ | refine T.rd (id := 28) mixed (fun _ => false) [] (by kernel_rfl) fun K hK => ?_ | refine T.rd1 (id := 28) mixed (fun _ => false) [] (by kernel_rfl) fun K hK => ?_ | refine T.rd (id := 29) mixed (fun _ => false) [] (by kernel_rfl) fun K hK => ?_ | refine T.rd1 (id := 29) mixed (fun _ => false) [] (by kernel_rfl) fun K hK => ?_ | refine T.r0 fun K hK => ?_ | refine T.r1 fun K hK => ?_ | (refine ⟨by omega, ?_⟩) | refine T.ct rfl ?_ | refine T.cf rfl ?_ | refine T.seq ?_ | refine T.block ?_ | refine T.skip ?_ | refine T.exit ?_
 | @tru d _ =>
  rw [tmTextF_true]
  refine ACalls.of_body Tryz.func163 (by kernel_rfl) rfl (by kernel_rfl) (by simp [Tryz.ntmps163]) (by simp) ?_
  rw [Tryz.ntmps163]
  repeat' first | ((first | refine aops_end (hK _ ?_) | refine aopsD_end (hK _ ?_) | refine aopsF_end (hK _ ?_)); clear hK K) | ((first | refine aops_go ?_ | refine aopsD_go ?_ | refine aopsF_go ?_); simp; (try (refine gen fun q hq => ?_; cases q <;> (try simp at hq) <;> (try (have hh : True := hq; clear hh hq))))) | (refine T.ret (Done.data (Or.inr rfl) ?_ ?_) <;> simp [Tryz.results163] <;> omega) | refine T.rd (id := 12) mixed (fun _ => false) [] (by kernel_rfl) fun K hK => ?_ | refine T.rd1 (id := 12) mixed (fun _ => false) [] (by kernel_rfl) fun K hK => ?_ | refine T.rd (id := 28) mixed (fun _ => false) [] (by kernel_rfl) fun K hK => ?_ | refine T.rd1 (id := 28) mixed (fun _ => false) [] (by kernel_rfl) fun K hK => ?_ | refine T.rd (id := 29) mixed (fun _ => false) [] (by kernel_rfl) fun K hK => ?_ | refine T.rd1 (id := 29) mixed (fun _ => false) [] (by kernel_rfl) fun K hK => ?_ | refine T.r0 fun K hK => ?_ | refine T.r1 fun K hK => ?_ | (refine ⟨by omega, ?_⟩) | refine T.ct rfl ?_ | refine T.cf rfl ?_ | refine T.seq ?_ | refine T.block ?_ | refine T.skip ?_ | refine T.exit ?_
 | @fls d _ =>
  rw [tmTextF_false]
  refine ACalls.of_body Tryz.func163 (by kernel_rfl) rfl (by kernel_rfl) (by simp [Tryz.ntmps163]) (by simp) ?_
  rw [Tryz.ntmps163]
  repeat' first | ((first | refine aops_end (hK _ ?_) | refine aopsD_end (hK _ ?_) | refine aopsF_end (hK _ ?_)); clear hK K) | ((first | refine aops_go ?_ | refine aopsD_go ?_ | refine aopsF_go ?_); simp; (try (refine gen fun q hq => ?_; cases q <;> (try simp at hq) <;> (try (have hh : True := hq; clear hh hq))))) | (refine T.ret (Done.data (Or.inr rfl) ?_ ?_) <;> simp [Tryz.results163] <;> omega) | refine T.rd (id := 12) mixed (fun _ => false) [] (by kernel_rfl) fun K hK => ?_ | refine T.rd1 (id := 12) mixed (fun _ => false) [] (by kernel_rfl) fun K hK => ?_ | refine T.rd (id := 28) mixed (fun _ => false) [] (by kernel_rfl) fun K hK => ?_ | refine T.rd1 (id := 28) mixed (fun _ => false) [] (by kernel_rfl) fun K hK => ?_ | refine T.rd (id := 29) mixed (fun _ => false) [] (by kernel_rfl) fun K hK => ?_ | refine T.rd1 (id := 29) mixed (fun _ => false) [] (by kernel_rfl) fun K hK => ?_ | refine T.r0 fun K hK => ?_ | refine T.r1 fun K hK => ?_ | (refine ⟨by omega, ?_⟩) | refine T.ct rfl ?_ | refine T.cf rfl ?_ | refine T.seq ?_ | refine T.block ?_ | refine T.skip ?_ | refine T.exit ?_
 | @lam d s t a _ hs ht ha ih =>
  rw [nodesM_def] at hn
  simp only [MTm.kids_mk, List.map_cons, List.map_nil, List.sum_cons, List.sum_nil] at hn
  have la := tmText_le ha (by omega)
  replace ih := ih (by omega)
  have lt := tyText_le ht
  have hs1 : s.length = 1 := by obtain ⟨c, rfl, _⟩ := name_one hs; rfl
  have k1 := kid_ok (tLam s t a) 0 (by simp) ih
  have k2 := typeText_ok (VTy.of ht) (by omega)
  rw [tmTextF_lam]
  rw [show tyTextF 4 t = tyText t from rfl] at k2
  generalize tyText t = A at *
  generalize tmTextF d a = B at *
  refine ACalls.of_body Tryz.func163 (by kernel_rfl) rfl (by kernel_rfl) (by simp [Tryz.ntmps163]) (by simp) ?_
  rw [Tryz.ntmps163]
  repeat' first | ((first | refine aops_end (hK _ ?_) | refine aopsD_end (hK _ ?_) | refine aopsF_end (hK _ ?_)); clear hK K) | ((first | refine aops_go ?_ | refine aopsD_go ?_ | refine aopsF_go ?_); simp; (try simp (disch := omega) only [wrap64, catLe]); (try (refine gen fun q hq => ?_; cases q <;> (try simp at hq) <;> (try (have hh : True := hq; clear hh hq))))) | (refine wpcall_pure rfl (k2) ?_; simp; (try simp (disch := omega) only [wrap64, catLe]); (try (refine gen fun q hq => ?_; cases q <;> (try simp at hq) <;> (try (have hh : True := hq; clear hh hq))))) | (refine wpcall_obj1 0 (rTm (tLam s t a)) ?_ ?_ k1 ?_; (focus (solve | simp)); (focus (solve | simp)); simp; (try simp (disch := omega) only [catLe])) | (refine T.ret (Done.data (Or.inr rfl) ?_ ?_) <;> simp [Tryz.results163] <;> omega) | refine T.rd (id := 12) mixed (fun _ => false) [] (by kernel_rfl) fun K hK => ?_ | refine T.rd1 (id := 12) mixed (fun _ => false) [] (by kernel_rfl) fun K hK => ?_ | refine T.rd (id := 28) mixed (fun _ => false) [] (by kernel_rfl) fun K hK => ?_ | refine T.rd1 (id := 28) mixed (fun _ => false) [] (by kernel_rfl) fun K hK => ?_ | refine T.rd (id := 29) mixed (fun _ => false) [] (by kernel_rfl) fun K hK => ?_ | refine T.rd1 (id := 29) mixed (fun _ => false) [] (by kernel_rfl) fun K hK => ?_ | refine T.r0 fun K hK => ?_ | refine T.r1 fun K hK => ?_ | (refine ⟨by omega, ?_⟩) | refine T.ct rfl ?_ | refine T.cf rfl ?_ | refine T.seq ?_ | refine T.block ?_ | refine T.skip ?_ | refine T.exit ?_
 | @n2 d k a b _ hk ha hb iha ihb =>
  rw [nodesM_def] at hn
  simp only [MTm.kids_mk, List.map_cons, List.map_nil, List.sum_cons, List.sum_nil] at hn
  have la := tmText_le ha (by omega)
  have lb := tmText_le hb (by omega)
  replace iha := iha (by omega)
  replace ihb := ihb (by omega)
  have k1 := kid_ok (tN2 k a b) 0 (by simp) iha
  have k2 := kid_ok (tN2 k a b) 1 (by simp) ihb
  by_cases h10 : k = 10
  ·subst h10
   rw [tmTextF_pair]
   generalize tmTextF d a = A at *
   generalize tmTextF d b = B at *
   refine ACalls.of_body Tryz.func163 (by kernel_rfl) rfl (by kernel_rfl) (by simp [Tryz.ntmps163]) (by simp) ?_
   rw [Tryz.ntmps163]
   repeat' first | ((first | refine aops_end (hK _ ?_) | refine aopsD_end (hK _ ?_) | refine aopsF_end (hK _ ?_)); clear hK K) | ((first | refine aops_go ?_ | refine aopsD_go ?_ | refine aopsF_go ?_); simp; (try simp (disch := omega) only [wrap64, catLe]); (try (refine gen fun q hq => ?_; cases q <;> (try simp at hq) <;> (try (have hh : True := hq; clear hh hq))))) | (refine wpcall_obj1 0 (rTm (tN2 10 a b)) ?_ ?_ k1 ?_; (focus (solve | simp)); (focus (solve | simp)); simp; (try simp (disch := omega) only [catLe])) | (refine wpcall_obj1 0 (rTm (tN2 10 a b)) ?_ ?_ k2 ?_; (focus (solve | simp)); (focus (solve | simp)); simp; (try simp (disch := omega) only [catLe])) | (refine T.ret (Done.data (Or.inr rfl) ?_ ?_) <;> simp [Tryz.results163] <;> omega) | refine T.rd (id := 12) mixed (fun _ => false) [] (by kernel_rfl) fun K hK => ?_ | refine T.rd1 (id := 12) mixed (fun _ => false) [] (by kernel_rfl) fun K hK => ?_ | refine T.rd (id := 28) mixed (fun _ => false) [] (by kernel_rfl) fun K hK => ?_ | refine T.rd1 (id := 28) mixed (fun _ => false) [] (by kernel_rfl) fun K hK => ?_ | refine T.rd (id := 29) mixed (fun _ => false) [] (by kernel_rfl) fun K hK => ?_ | refine T.rd1 (id := 29) mixed (fun _ => false) [] (by kernel_rfl) fun K hK => ?_ | refine T.r0 fun K hK => ?_ | refine T.r1 fun K hK => ?_ | (refine ⟨by omega, ?_⟩) | refine T.ct rfl ?_ | refine T.cf rfl ?_ | refine T.seq ?_ | refine T.block ?_ | refine T.skip ?_ | refine T.exit ?_
  ·have hk' : k = 6 \/ k = 7 \/ k = 8 := by omega
   rw [tmTextF_n2 _ hk']
   generalize tmTextF d a = A at *
   generalize tmTextF d b = B at *
   rcases hk' with rfl | rfl | rfl
   ·refine ACalls.of_body Tryz.func163 (by kernel_rfl) rfl (by kernel_rfl) (by simp [Tryz.ntmps163]) (by simp) ?_
    rw [Tryz.ntmps163]
    repeat' first | ((first | refine aops_end (hK _ ?_) | refine aopsD_end (hK _ ?_) | refine aopsF_end (hK _ ?_)); clear hK K) | ((first | refine aops_go ?_ | refine aopsD_go ?_ | refine aopsF_go ?_); simp; (try simp (disch := omega) only [wrap64, catLe]); (try (refine gen fun q hq => ?_; cases q <;> (try simp at hq) <;> (try (have hh : True := hq; clear hh hq))))) | (refine wpcall_obj1 0 (rTm (tN2 6 a b)) ?_ ?_ k1 ?_; (focus (solve | simp)); (focus (solve | simp)); simp; (try simp (disch := omega) only [catLe])) | (refine wpcall_obj1 0 (rTm (tN2 6 a b)) ?_ ?_ k2 ?_; (focus (solve | simp)); (focus (solve | simp)); simp; (try simp (disch := omega) only [catLe])) | (refine T.ret (Done.data (Or.inr rfl) ?_ ?_) <;> simp [Tryz.results163, opB] <;> omega) | refine T.rd (id := 12) mixed (fun _ => false) [] (by kernel_rfl) fun K hK => ?_ | refine T.rd1 (id := 12) mixed (fun _ => false) [] (by kernel_rfl) fun K hK => ?_ | refine T.rd (id := 28) mixed (fun _ => false) [] (by kernel_rfl) fun K hK => ?_ | refine T.rd1 (id := 28) mixed (fun _ => false) [] (by kernel_rfl) fun K hK => ?_ | refine T.rd (id := 29) mixed (fun _ => false) [] (by kernel_rfl) fun K hK => ?_ | refine T.rd1 (id := 29) mixed (fun _ => false) [] (by kernel_rfl) fun K hK => ?_ | refine T.r0 fun K hK => ?_ | refine T.r1 fun K hK => ?_ | (refine ⟨by omega, ?_⟩) | refine T.ct rfl ?_ | refine T.cf rfl ?_ | refine T.seq ?_ | refine T.block ?_ | refine T.skip ?_ | refine T.exit ?_
   ·refine ACalls.of_body Tryz.func163 (by kernel_rfl) rfl (by kernel_rfl) (by simp [Tryz.ntmps163]) (by simp) ?_
    rw [Tryz.ntmps163]
    repeat' first | ((first | refine aops_end (hK _ ?_) | refine aopsD_end (hK _ ?_) | refine aopsF_end (hK _ ?_)); clear hK K) | ((first | refine aops_go ?_ | refine aopsD_go ?_ | refine aopsF_go ?_); simp; (try simp (disch := omega) only [wrap64, catLe]); (try (refine gen fun q hq => ?_; cases q <;> (try simp at hq) <;> (try (have hh : True := hq; clear hh hq))))) | (refine wpcall_obj1 0 (rTm (tN2 7 a b)) ?_ ?_ k1 ?_; (focus (solve | simp)); (focus (solve | simp)); simp; (try simp (disch := omega) only [catLe])) | (refine wpcall_obj1 0 (rTm (tN2 7 a b)) ?_ ?_ k2 ?_; (focus (solve | simp)); (focus (solve | simp)); simp; (try simp (disch := omega) only [catLe])) | (refine T.ret (Done.data (Or.inr rfl) ?_ ?_) <;> simp [Tryz.results163, opB] <;> omega) | refine T.rd (id := 12) mixed (fun _ => false) [] (by kernel_rfl) fun K hK => ?_ | refine T.rd1 (id := 12) mixed (fun _ => false) [] (by kernel_rfl) fun K hK => ?_ | refine T.rd (id := 28) mixed (fun _ => false) [] (by kernel_rfl) fun K hK => ?_ | refine T.rd1 (id := 28) mixed (fun _ => false) [] (by kernel_rfl) fun K hK => ?_ | refine T.rd (id := 29) mixed (fun _ => false) [] (by kernel_rfl) fun K hK => ?_ | refine T.rd1 (id := 29) mixed (fun _ => false) [] (by kernel_rfl) fun K hK => ?_ | refine T.r0 fun K hK => ?_ | refine T.r1 fun K hK => ?_ | (refine ⟨by omega, ?_⟩) | refine T.ct rfl ?_ | refine T.cf rfl ?_ | refine T.seq ?_ | refine T.block ?_ | refine T.skip ?_ | refine T.exit ?_
   ·refine ACalls.of_body Tryz.func163 (by kernel_rfl) rfl (by kernel_rfl) (by simp [Tryz.ntmps163]) (by simp) ?_
    rw [Tryz.ntmps163]
    repeat' first | ((first | refine aops_end (hK _ ?_) | refine aopsD_end (hK _ ?_) | refine aopsF_end (hK _ ?_)); clear hK K) | ((first | refine aops_go ?_ | refine aopsD_go ?_ | refine aopsF_go ?_); simp; (try simp (disch := omega) only [wrap64, catLe]); (try (refine gen fun q hq => ?_; cases q <;> (try simp at hq) <;> (try (have hh : True := hq; clear hh hq))))) | (refine wpcall_obj1 0 (rTm (tN2 8 a b)) ?_ ?_ k1 ?_; (focus (solve | simp)); (focus (solve | simp)); simp; (try simp (disch := omega) only [catLe])) | (refine wpcall_obj1 0 (rTm (tN2 8 a b)) ?_ ?_ k2 ?_; (focus (solve | simp)); (focus (solve | simp)); simp; (try simp (disch := omega) only [catLe])) | (refine T.ret (Done.data (Or.inr rfl) ?_ ?_) <;> simp [Tryz.results163, opB] <;> omega) | refine T.rd (id := 12) mixed (fun _ => false) [] (by kernel_rfl) fun K hK => ?_ | refine T.rd1 (id := 12) mixed (fun _ => false) [] (by kernel_rfl) fun K hK => ?_ | refine T.rd (id := 28) mixed (fun _ => false) [] (by kernel_rfl) fun K hK => ?_ | refine T.rd1 (id := 28) mixed (fun _ => false) [] (by kernel_rfl) fun K hK => ?_ | refine T.rd (id := 29) mixed (fun _ => false) [] (by kernel_rfl) fun K hK => ?_ | refine T.rd1 (id := 29) mixed (fun _ => false) [] (by kernel_rfl) fun K hK => ?_ | refine T.r0 fun K hK => ?_ | refine T.r1 fun K hK => ?_ | (refine ⟨by omega, ?_⟩) | refine T.ct rfl ?_ | refine T.cf rfl ?_ | refine T.seq ?_ | refine T.block ?_ | refine T.skip ?_ | refine T.exit ?_
 | @ite d a b c _ ha hb hc iha ihb ihc =>
  rw [nodesM_def] at hn
  simp only [MTm.kids_mk, List.map_cons, List.map_nil, List.sum_cons, List.sum_nil] at hn
  have la := tmText_le ha (by omega)
  have lb := tmText_le hb (by omega)
  replace iha := iha (by omega)
  replace ihb := ihb (by omega)
  have lc := tmText_le hc (by omega)
  replace ihc := ihc (by omega)
  have k1 := kid_ok (tIf a b c) 0 (by simp) iha
  have k2 := kid_ok (tIf a b c) 1 (by simp) ihb
  have k3 := kid_ok (tIf a b c) 2 (by simp) ihc
  rw [tmTextF_ite]
  generalize tmTextF d a = A at *
  generalize tmTextF d b = B at *
  generalize tmTextF d c = C at *
  refine ACalls.of_body Tryz.func163 (by kernel_rfl) rfl (by kernel_rfl) (by simp [Tryz.ntmps163]) (by simp) ?_
  rw [Tryz.ntmps163]
  repeat' first | ((first | refine aops_end (hK _ ?_) | refine aopsD_end (hK _ ?_) | refine aopsF_end (hK _ ?_)); clear hK K) | ((first | refine aops_go ?_ | refine aopsD_go ?_ | refine aopsF_go ?_); simp; (try simp (disch := omega) only [wrap64, catLe]); (try (refine gen fun q hq => ?_; cases q <;> (try simp at hq) <;> (try (have hh : True := hq; clear hh hq))))) | (refine wpcall_obj1 0 (rTm (tIf a b c)) ?_ ?_ k1 ?_; (focus (solve | simp)); (focus (solve | simp)); simp; (try simp (disch := omega) only [catLe])) | (refine wpcall_obj1 0 (rTm (tIf a b c)) ?_ ?_ k2 ?_; (focus (solve | simp)); (focus (solve | simp)); simp; (try simp (disch := omega) only [catLe])) | (refine wpcall_obj1 0 (rTm (tIf a b c)) ?_ ?_ k3 ?_; (focus (solve | simp)); (focus (solve | simp)); simp; (try simp (disch := omega) only [catLe])) | (refine T.ret (Done.data (Or.inr rfl) ?_ ?_) <;> simp [Tryz.results163] <;> omega) | refine T.rd (id := 12) mixed (fun _ => false) [] (by kernel_rfl) fun K hK => ?_ | refine T.rd1 (id := 12) mixed (fun _ => false) [] (by kernel_rfl) fun K hK => ?_ | refine T.rd (id := 28) mixed (fun _ => false) [] (by kernel_rfl) fun K hK => ?_ | refine T.rd1 (id := 28) mixed (fun _ => false) [] (by kernel_rfl) fun K hK => ?_ | refine T.rd (id := 29) mixed (fun _ => false) [] (by kernel_rfl) fun K hK => ?_ | refine T.rd1 (id := 29) mixed (fun _ => false) [] (by kernel_rfl) fun K hK => ?_ | refine T.r0 fun K hK => ?_ | refine T.r1 fun K hK => ?_ | (refine ⟨by omega, ?_⟩) | refine T.ct rfl ?_ | refine T.cf rfl ?_ | refine T.seq ?_ | refine T.block ?_ | refine T.skip ?_ | refine T.exit ?_
 | @n1 d k a _ hk ha ih =>
  rw [nodesM_def] at hn
  simp only [MTm.kids_mk, List.map_cons, List.map_nil, List.sum_cons, List.sum_nil] at hn
  have la := tmText_le ha (by omega)
  replace ih := ih (by omega)
  have k1 := kid_ok (tN1 k a) 0 (by simp) ih
  rw [tmTextF_n1 _ hk]
  generalize tmTextF d a = A at *
  rcases hk with rfl | rfl
  ·refine ACalls.of_body Tryz.func163 (by kernel_rfl) rfl (by kernel_rfl) (by simp [Tryz.ntmps163]) (by simp) ?_
   rw [Tryz.ntmps163]
   repeat' first | ((first | refine aops_end (hK _ ?_) | refine aopsD_end (hK _ ?_) | refine aopsF_end (hK _ ?_)); clear hK K) | ((first | refine aops_go ?_ | refine aopsD_go ?_ | refine aopsF_go ?_); simp; (try simp (disch := omega) only [wrap64, catLe]); (try (refine gen fun q hq => ?_; cases q <;> (try simp at hq) <;> (try (have hh : True := hq; clear hh hq))))) | (refine wpcall_obj1 0 (rTm (tN1 11 a)) ?_ ?_ k1 ?_; (focus (solve | simp)); (focus (solve | simp)); simp; (try simp (disch := omega) only [catLe])) | (refine T.ret (Done.data (Or.inr rfl) ?_ ?_) <;> simp [Tryz.results163] <;> omega) | refine T.rd (id := 12) mixed (fun _ => false) [] (by kernel_rfl) fun K hK => ?_ | refine T.rd1 (id := 12) mixed (fun _ => false) [] (by kernel_rfl) fun K hK => ?_ | refine T.rd (id := 28) mixed (fun _ => false) [] (by kernel_rfl) fun K hK => ?_ | refine T.rd1 (id := 28) mixed (fun _ => false) [] (by kernel_rfl) fun K hK => ?_ | refine T.rd (id := 29) mixed (fun _ => false) [] (by kernel_rfl) fun K hK => ?_ | refine T.rd1 (id := 29) mixed (fun _ => false) [] (by kernel_rfl) fun K hK => ?_ | refine T.r0 fun K hK => ?_ | refine T.r1 fun K hK => ?_ | (refine ⟨by omega, ?_⟩) | refine T.ct rfl ?_ | refine T.cf rfl ?_ | refine T.seq ?_ | refine T.block ?_ | refine T.skip ?_ | refine T.exit ?_
  ·refine ACalls.of_body Tryz.func163 (by kernel_rfl) rfl (by kernel_rfl) (by simp [Tryz.ntmps163]) (by simp) ?_
   rw [Tryz.ntmps163]
   repeat' first | ((first | refine aops_end (hK _ ?_) | refine aopsD_end (hK _ ?_) | refine aopsF_end (hK _ ?_)); clear hK K) | ((first | refine aops_go ?_ | refine aopsD_go ?_ | refine aopsF_go ?_); simp; (try simp (disch := omega) only [wrap64, catLe]); (try (refine gen fun q hq => ?_; cases q <;> (try simp at hq) <;> (try (have hh : True := hq; clear hh hq))))) | (refine wpcall_obj1 0 (rTm (tN1 12 a)) ?_ ?_ k1 ?_; (focus (solve | simp)); (focus (solve | simp)); simp; (try simp (disch := omega) only [catLe])) | (refine T.ret (Done.data (Or.inr rfl) ?_ ?_) <;> simp [Tryz.results163] <;> omega) | refine T.rd (id := 12) mixed (fun _ => false) [] (by kernel_rfl) fun K hK => ?_ | refine T.rd1 (id := 12) mixed (fun _ => false) [] (by kernel_rfl) fun K hK => ?_ | refine T.rd (id := 28) mixed (fun _ => false) [] (by kernel_rfl) fun K hK => ?_ | refine T.rd1 (id := 28) mixed (fun _ => false) [] (by kernel_rfl) fun K hK => ?_ | refine T.rd (id := 29) mixed (fun _ => false) [] (by kernel_rfl) fun K hK => ?_ | refine T.rd1 (id := 29) mixed (fun _ => false) [] (by kernel_rfl) fun K hK => ?_ | refine T.r0 fun K hK => ?_ | refine T.r1 fun K hK => ?_ | (refine ⟨by omega, ?_⟩) | refine T.ct rfl ?_ | refine T.cf rfl ?_ | refine T.seq ?_ | refine T.block ?_ | refine T.skip ?_ | refine T.exit ?_
 | @asc d t a _ ht ha ih =>
  rw [nodesM_def] at hn
  simp only [MTm.kids_mk, List.map_cons, List.map_nil, List.sum_cons, List.sum_nil] at hn
  have la := tmText_le ha (by omega)
  replace ih := ih (by omega)
  have lt := tyText_le ht
  have k1 := kid_ok (tAs a t) 0 (by simp) ih
  have k2 := typeText_ok (VTy.of ht) (by omega)
  rw [tmTextF_as]
  rw [show tyTextF 4 t = tyText t from rfl] at k2
  generalize tyText t = A at *
  generalize tmTextF d a = B at *
  refine ACalls.of_body Tryz.func163 (by kernel_rfl) rfl (by kernel_rfl) (by simp [Tryz.ntmps163]) (by simp) ?_
  rw [Tryz.ntmps163]
  repeat' first | ((first | refine aops_end (hK _ ?_) | refine aopsD_end (hK _ ?_) | refine aopsF_end (hK _ ?_)); clear hK K) | ((first | refine aops_go ?_ | refine aopsD_go ?_ | refine aopsF_go ?_); simp; (try simp (disch := omega) only [wrap64, catLe]); (try (refine gen fun q hq => ?_; cases q <;> (try simp at hq) <;> (try (have hh : True := hq; clear hh hq))))) | (refine wpcall_pure rfl (k2) ?_; simp; (try simp (disch := omega) only [wrap64, catLe]); (try (refine gen fun q hq => ?_; cases q <;> (try simp at hq) <;> (try (have hh : True := hq; clear hh hq))))) | (refine wpcall_obj1 0 (rTm (tAs a t)) ?_ ?_ k1 ?_; (focus (solve | simp)); (focus (solve | simp)); simp; (try simp (disch := omega) only [catLe])) | (refine T.ret (Done.data (Or.inr rfl) ?_ ?_) <;> simp [Tryz.results163] <;> omega) | refine T.rd (id := 12) mixed (fun _ => false) [] (by kernel_rfl) fun K hK => ?_ | refine T.rd1 (id := 12) mixed (fun _ => false) [] (by kernel_rfl) fun K hK => ?_ | refine T.rd (id := 28) mixed (fun _ => false) [] (by kernel_rfl) fun K hK => ?_ | refine T.rd1 (id := 28) mixed (fun _ => false) [] (by kernel_rfl) fun K hK => ?_ | refine T.rd (id := 29) mixed (fun _ => false) [] (by kernel_rfl) fun K hK => ?_ | refine T.rd1 (id := 29) mixed (fun _ => false) [] (by kernel_rfl) fun K hK => ?_ | refine T.r0 fun K hK => ?_ | refine T.r1 fun K hK => ?_ | (refine ⟨by omega, ?_⟩) | refine T.ct rfl ?_ | refine T.cf rfl ?_ | refine T.seq ?_ | refine T.block ?_ | refine T.skip ?_ | refine T.exit ?_
 | @cast d f t l a _ hf ht _ hl ha ih =>
  rw [nodesM_def] at hn
  simp only [MTm.kids_mk, List.map_cons, List.map_nil, List.sum_cons, List.sum_nil] at hn
  have la := tmText_le ha (by omega)
  replace ih := ih (by omega)
  have lt := tyText_le ht
  have lf := tyText_le hf
  have hlb := lab_bound hl
  have ll := itoa_len_le (n := l) (by omega) (by omega)
  have k1 := kid_ok (tCast a f t l) 0 (by simp) ih
  have k2 := typeText_ok (VTy.of ht) (by omega)
  have k3 := typeText_ok (VTy.of hf) (by omega)
  have hl' : -1000 <= l /\ l <= 1000 := by
   simp only [labM, inM, Bool.or_eq_true, Bool.and_eq_true, decide_eq_true_eq] at hl
   omega
  have k4 := Itoa_ok l (by omega) (by omega)
  rw [tmTextF_cast]
  rw [show tyTextF 4 t = tyText t from rfl] at k2
  rw [show tyTextF 4 f = tyText f from rfl] at k3
  generalize tyText t = A at *
  generalize tyText f = C at *
  generalize tmTextF d a = B at *
  generalize Lib.itoa l = D at *
  refine ACalls.of_body Tryz.func163 (by kernel_rfl) rfl (by kernel_rfl) (by simp [Tryz.ntmps163]) (by simp) ?_
  rw [Tryz.ntmps163]
  repeat' first | ((first | refine aops_end (hK _ ?_) | refine aopsD_end (hK _ ?_) | refine aopsF_end (hK _ ?_)); clear hK K) | ((first | refine aops_go ?_ | refine aopsD_go ?_ | refine aopsF_go ?_); simp; (try simp (disch := omega) only [wrap64, catLe]); (try (refine gen fun q hq => ?_; cases q <;> (try simp at hq) <;> (try (have hh : True := hq; clear hh hq))))) | (refine wpcall_pure rfl (k3) ?_; simp; (try simp (disch := omega) only [wrap64, catLe]); (try (refine gen fun q hq => ?_; cases q <;> (try simp at hq) <;> (try (have hh : True := hq; clear hh hq))))) | (refine wpcall_pure rfl (k2) ?_; simp; (try simp (disch := omega) only [wrap64, catLe]); (try (refine gen fun q hq => ?_; cases q <;> (try simp at hq) <;> (try (have hh : True := hq; clear hh hq))))) | (refine wpcall_pure rfl (k4) ?_; simp; (try simp (disch := omega) only [wrap64, catLe]); (try (refine gen fun q hq => ?_; cases q <;> (try simp at hq) <;> (try (have hh : True := hq; clear hh hq))))) | (refine wpcall_obj1 0 (rTm (tCast a f t l)) ?_ ?_ k1 ?_; (focus (solve | simp)); (focus (solve | simp)); simp; (try simp (disch := omega) only [catLe])) | (refine T.ret (Done.data (Or.inr rfl) ?_ ?_) <;> simp [Tryz.results163] <;> omega) | refine T.rd (id := 12) mixed (fun _ => false) [] (by kernel_rfl) fun K hK => ?_ | refine T.rd1 (id := 12) mixed (fun _ => false) [] (by kernel_rfl) fun K hK => ?_ | refine T.rd (id := 28) mixed (fun _ => false) [] (by kernel_rfl) fun K hK => ?_ | refine T.rd1 (id := 28) mixed (fun _ => false) [] (by kernel_rfl) fun K hK => ?_ | refine T.rd (id := 29) mixed (fun _ => false) [] (by kernel_rfl) fun K hK => ?_ | refine T.rd1 (id := 29) mixed (fun _ => false) [] (by kernel_rfl) fun K hK => ?_ | refine T.r0 fun K hK => ?_ | refine T.r1 fun K hK => ?_ | (refine ⟨by omega, ?_⟩) | refine T.ct rfl ?_ | refine T.cf rfl ?_ | refine T.seq ?_ | refine T.block ?_ | refine T.skip ?_ | refine T.exit ?_

end Go.Proofs.YtflmjilnecanhaaGreatDoor

namespace Go.Proofs.YtflmjilnecanhaaGreatDoor
open Go Go.Av
attribute [local irreducible] T ACalls TX EX LX Draws Some_ ACallsX eTy eTm MTy.kind MTy.kids MTm.kind MTm.name MTm.num MTm.ty MTm.fr MTm.label MTm.kids
attribute [local simp] eTy_def eTm_def
set_option maxHeartbeats 16000000
set_option maxRecDepth 8000

theorem valueText_ok {d : Nat} {e : MTm} (h : TmV 13 d e) (hv : valM e = true) : ACalls Tryz.prog 87 [aTm e] [] (.s (valTextF d e)) [] [] := by
 induction h with
 | @var d s _ hs => exact absurd hv (by simp [valM_def, proxyM, injM, plainM])
 | @num d n hn h0 h1 =>
  have k1 := isProxy_ok (tNum n)
  rw [show proxyM (tNum n) = false by simp [proxyM]] at k1
  have k2 := text_ok (TmV.num (d := d) hn h0 h1) (by simp [nodesM_def])
  rw [tmTextF_num] at k2
  rw [valTextF_num]
  generalize Lib.itoa n = A at *
  refine ACalls.of_body Tryz.func87 (by kernel_rfl) rfl (by kernel_rfl) (by simp [Tryz.ntmps87]) (by simp) ?_
  rw [Tryz.ntmps87]
  repeat' first | ((first | refine aops_end (hK _ ?_) | refine aopsD_end (hK _ ?_) | refine aopsF_end (hK _ ?_)); clear hK K) | ((first | refine aops_go ?_ | refine aopsD_go ?_ | refine aopsF_go ?_); simp; (try (refine gen fun q hq => ?_; cases q <;> (try simp at hq) <;> (try (have hh : True := hq; clear hh hq))))) | (refine wpcall_pure ?_ (k1) ?_; (focus (solve | simp)); simp; (try (refine gen fun q hq => ?_; cases q <;> (try simp at hq) <;> (try (have hh : True := hq; clear hh hq))))) | (refine wpcall_pure ?_ (k2) ?_; (focus (solve | simp)); simp; (try (refine gen fun q hq => ?_; cases q <;> (try simp at hq) <;> (try (have hh : True := hq; clear hh hq))))) | (refine T.ret (Done.data (Or.inr rfl) ?_ ?_) <;> simp [Tryz.results87] <;> omega) | refine T.r0 fun K hK => ?_ | refine T.r1 fun K hK => ?_ | (refine ⟨by omega, ?_⟩) | refine T.ct rfl ?_ | refine T.cf rfl ?_ | refine T.seq ?_ | refine T.block ?_ | refine T.skip ?_ | refine T.exit ?_
 | @tru d hn =>
  have k1 := isProxy_ok tTrue
  rw [show proxyM tTrue = false by simp [proxyM]] at k1
  have k2 := text_ok (TmV.tru (d := d) hn) (by simp [nodesM_def])
  rw [tmTextF_true] at k2
  rw [valTextF_true]
  refine ACalls.of_body Tryz.func87 (by kernel_rfl) rfl (by kernel_rfl) (by simp [Tryz.ntmps87]) (by simp) ?_
  rw [Tryz.ntmps87]
  repeat' first | ((first | refine aops_end (hK _ ?_) | refine aopsD_end (hK _ ?_) | refine aopsF_end (hK _ ?_)); clear hK K) | ((first | refine aops_go ?_ | refine aopsD_go ?_ | refine aopsF_go ?_); simp; (try (refine gen fun q hq => ?_; cases q <;> (try simp at hq) <;> (try (have hh : True := hq; clear hh hq))))) | (refine wpcall_pure ?_ (k1) ?_; (focus (solve | simp)); simp; (try (refine gen fun q hq => ?_; cases q <;> (try simp at hq) <;> (try (have hh : True := hq; clear hh hq))))) | (refine wpcall_pure ?_ (k2) ?_; (focus (solve | simp)); simp; (try (refine gen fun q hq => ?_; cases q <;> (try simp at hq) <;> (try (have hh : True := hq; clear hh hq))))) | (refine T.ret (Done.data (Or.inr rfl) ?_ ?_) <;> simp [Tryz.results87] <;> omega) | refine T.r0 fun K hK => ?_ | refine T.r1 fun K hK => ?_ | (refine ⟨by omega, ?_⟩) | refine T.ct rfl ?_ | refine T.cf rfl ?_ | refine T.seq ?_ | refine T.block ?_ | refine T.skip ?_ | refine T.exit ?_
 | @fls d hn =>
  have k1 := isProxy_ok tFalse
  rw [show proxyM tFalse = false by simp [proxyM]] at k1
  have k2 := text_ok (TmV.fls (d := d) hn) (by simp [nodesM_def])
  rw [tmTextF_false] at k2
  rw [valTextF_false]
  refine ACalls.of_body Tryz.func87 (by kernel_rfl) rfl (by kernel_rfl) (by simp [Tryz.ntmps87]) (by simp) ?_
  rw [Tryz.ntmps87]
  repeat' first | ((first | refine aops_end (hK _ ?_) | refine aopsD_end (hK _ ?_) | refine aopsF_end (hK _ ?_)); clear hK K) | ((first | refine aops_go ?_ | refine aopsD_go ?_ | refine aopsF_go ?_); simp; (try (refine gen fun q hq => ?_; cases q <;> (try simp at hq) <;> (try (have hh : True := hq; clear hh hq))))) | (refine wpcall_pure ?_ (k1) ?_; (focus (solve | simp)); simp; (try (refine gen fun q hq => ?_; cases q <;> (try simp at hq) <;> (try (have hh : True := hq; clear hh hq))))) | (refine wpcall_pure ?_ (k2) ?_; (focus (solve | simp)); simp; (try (refine gen fun q hq => ?_; cases q <;> (try simp at hq) <;> (try (have hh : True := hq; clear hh hq))))) | (refine T.ret (Done.data (Or.inr rfl) ?_ ?_) <;> simp [Tryz.results87] <;> omega) | refine T.r0 fun K hK => ?_ | refine T.r1 fun K hK => ?_ | (refine ⟨by omega, ?_⟩) | refine T.ct rfl ?_ | refine T.cf rfl ?_ | refine T.seq ?_ | refine T.block ?_ | refine T.skip ?_ | refine T.exit ?_
 | @lam d s t a _ hs ht ha ih =>
  have k1 := isProxy_ok (tLam s t a)
  rw [show proxyM (tLam s t a) = false by simp [proxyM]] at k1
  rw [valTextF_lam, funB]
  refine ACalls.of_body Tryz.func87 (by kernel_rfl) rfl (by kernel_rfl) (by simp [Tryz.ntmps87]) (by simp) ?_
  rw [Tryz.ntmps87]
  repeat' first | ((first | refine aops_end (hK _ ?_) | refine aopsD_end (hK _ ?_) | refine aopsF_end (hK _ ?_)); clear hK K) | ((first | refine aops_go ?_ | refine aopsD_go ?_ | refine aopsF_go ?_); simp [eTm_def]; (try (refine gen fun q hq => ?_; cases q <;> (try simp [eTm_def] at hq) <;> (try (have hh : True := hq; clear hh hq))))) | (refine wpcall_pure ?_ (k1) ?_; (focus (solve | simp [eTm_def])); simp [eTm_def]; (try (refine gen fun q hq => ?_; cases q <;> (try simp [eTm_def] at hq) <;> (try (have hh : True := hq; clear hh hq))))) | (refine T.ret (Done.data (Or.inr rfl) ?_ ?_) <;> simp [Tryz.results87] <;> omega) | refine T.r0 fun K hK => ?_ | refine T.r1 fun K hK => ?_ | (refine ⟨by omega, ?_⟩) | refine T.ct rfl ?_ | refine T.cf rfl ?_ | refine T.seq ?_ | refine T.block ?_ | refine T.skip ?_ | refine T.exit ?_
 | @n2 d k a b _ hk ha hb iha ihb =>
  have h10 : k = 10 := by
   rcases hk with rfl | rfl | rfl | rfl
   ·exact absurd hv (by simp [valM_def, proxyM, injM, plainM])
   ·exact absurd hv (by simp [valM_def, proxyM, injM, plainM])
   ·exact absurd hv (by simp [valM_def, proxyM, injM, plainM])
   ·rfl
  subst h10
  rw [valTextF_pair, pairB]
  refine ACalls.of_body Tryz.func87 (by kernel_rfl) rfl (by kernel_rfl) (by simp [Tryz.ntmps87]) (by simp) ?_
  rw [Tryz.ntmps87]
  repeat' first | ((first | refine aops_end (hK _ ?_) | refine aopsD_end (hK _ ?_) | refine aopsF_end (hK _ ?_)); clear hK K) | ((first | refine aops_go ?_ | refine aopsD_go ?_ | refine aopsF_go ?_); simp [eTm_def]; (try (refine gen fun q hq => ?_; cases q <;> (try simp [eTm_def] at hq) <;> (try (have hh : True := hq; clear hh hq))))) | (refine T.ret (Done.data (Or.inr rfl) ?_ ?_) <;> simp [Tryz.results87] <;> omega) | refine T.r0 fun K hK => ?_ | refine T.r1 fun K hK => ?_ | (refine ⟨by omega, ?_⟩) | refine T.ct rfl ?_ | refine T.cf rfl ?_ | refine T.seq ?_ | refine T.block ?_ | refine T.skip ?_ | refine T.exit ?_
 | @ite d a b c _ ha hb hc iha ihb ihc => exact absurd hv (by simp [valM_def, proxyM, injM, plainM])
 | @n1 d k a _ hk ha ih => rcases hk with rfl | rfl <;> exact absurd hv (by simp [valM_def, proxyM, injM, plainM])
 | @asc d t a hn ht ha ih => exact absurd rfl hn
 | @cast d f t l a _ hf ht _ hl ha ih =>
  have k1 := isProxy_ok (tCast a f t l)
  rw [proxy_cast] at k1
  rw [valTextF_cast]
  rcases val_cast hv with hp | ⟨hp, hi, hva⟩
  ·rw [if_pos hp]
   rw [decide_eq_true hp] at k1
   by_cases h5 : t.kind = 5
   ·rw [if_pos h5, pairB]
    refine ACalls.of_body Tryz.func87 (by kernel_rfl) rfl (by kernel_rfl) (by simp [Tryz.ntmps87]) (by simp) ?_
    rw [Tryz.ntmps87]
    repeat' first | ((first | refine aops_end (hK _ ?_) | refine aopsD_end (hK _ ?_) | refine aopsF_end (hK _ ?_)); clear hK K) | ((first | refine aops_go ?_ | refine aopsD_go ?_ | refine aopsF_go ?_); simp [eTm_def, h5]; (try (refine gen fun q hq => ?_; cases q <;> (try simp [eTm_def, h5] at hq) <;> (try (have hh : True := hq; clear hh hq))))) | (refine wpcall_pure ?_ (k1) ?_; (focus (solve | simp [eTm_def, h5])); simp [eTm_def, h5]; (try (refine gen fun q hq => ?_; cases q <;> (try simp [eTm_def, h5] at hq) <;> (try (have hh : True := hq; clear hh hq))))) | (refine T.ret (Done.data (Or.inr rfl) ?_ ?_) <;> simp [Tryz.results87] <;> omega) | refine T.r0 fun K hK => ?_ | refine T.r1 fun K hK => ?_ | (refine ⟨by omega, ?_⟩) | refine T.ct rfl ?_ | refine T.cf rfl ?_ | refine T.seq ?_ | refine T.block ?_ | refine T.skip ?_ | refine T.exit ?_
   ·rw [if_neg h5, funB]
    refine ACalls.of_body Tryz.func87 (by kernel_rfl) rfl (by kernel_rfl) (by simp [Tryz.ntmps87]) (by simp) ?_
    rw [Tryz.ntmps87]
    repeat' first | ((first | refine aops_end (hK _ ?_) | refine aopsD_end (hK _ ?_) | refine aopsF_end (hK _ ?_)); clear hK K) | ((first | refine aops_go ?_ | refine aopsD_go ?_ | refine aopsF_go ?_); simp [eTm_def, h5]; (try (refine gen fun q hq => ?_; cases q <;> (try simp [eTm_def, h5] at hq) <;> (try (have hh : True := hq; clear hh hq))))) | (refine wpcall_pure ?_ (k1) ?_; (focus (solve | simp [eTm_def, h5])); simp [eTm_def, h5]; (try (refine gen fun q hq => ?_; cases q <;> (try simp [eTm_def, h5] at hq) <;> (try (have hh : True := hq; clear hh hq))))) | (refine T.ret (Done.data (Or.inr rfl) ?_ ?_) <;> simp [Tryz.results87] <;> omega) | refine T.r0 fun K hK => ?_ | refine T.r1 fun K hK => ?_ | (refine ⟨by omega, ?_⟩) | refine T.ct rfl ?_ | refine T.cf rfl ?_ | refine T.seq ?_ | refine T.block ?_ | refine T.skip ?_ | refine T.exit ?_
  ·rw [if_neg hp]
   rw [decide_eq_false hp] at k1
   have k2 := ih hva
   generalize valTextF d a = A at *
   refine ACalls.of_body Tryz.func87 (by kernel_rfl) rfl (by kernel_rfl) (by simp [Tryz.ntmps87]) (by simp) ?_
   rw [Tryz.ntmps87]
   repeat' first | ((first | refine aops_end (hK _ ?_) | refine aopsD_end (hK _ ?_) | refine aopsF_end (hK _ ?_)); clear hK K) | ((first | refine aops_go ?_ | refine aopsD_go ?_ | refine aopsF_go ?_); simp [eTm_def]; (try (refine gen fun q hq => ?_; cases q <;> (try simp [eTm_def] at hq) <;> (try (have hh : True := hq; clear hh hq))))) | (refine wpcall_pure ?_ (k1) ?_; (focus (solve | simp [eTm_def])); simp [eTm_def]; (try (refine gen fun q hq => ?_; cases q <;> (try simp [eTm_def] at hq) <;> (try (have hh : True := hq; clear hh hq))))) | (refine wpcall_pure ?_ (k2) ?_; (focus (solve | simp [eTm_def])); simp [eTm_def]; (try (refine gen fun q hq => ?_; cases q <;> (try simp [eTm_def] at hq) <;> (try (have hh : True := hq; clear hh hq))))) | (refine T.ret (Done.data (Or.inr rfl) ?_ ?_) <;> simp [Tryz.results87] <;> omega) | refine T.r0 fun K hK => ?_ | refine T.r1 fun K hK => ?_ | (refine ⟨by omega, ?_⟩) | refine T.ct rfl ?_ | refine T.cf rfl ?_ | refine T.seq ?_ | refine T.block ?_ | refine T.skip ?_ | refine T.exit ?_

theorem l5Text_ok {d : Nat} {e : MTm} (h : TmV 13 d e) (hv : valM e = true) : ACalls Tryz.prog 92 [aTm e] [] (.s (valTextF d e)) [] [] := by
 induction h with
 | @var d s _ hs => exact absurd hv (by simp [valM_def, proxyM, injM, plainM])
 | @num d n hn h0 h1 =>
  obtain ⟨m, rfl⟩ : ∃ m : Nat, n = m := ⟨n.toNat, by omega⟩
  have k2 := l18DecN_ok m (by omega)
  rw [valTextF_num, itoa_nonneg]
  generalize Lib.decDigits m = A at *
  refine ACalls.of_body Tryz.func92 (by kernel_rfl) rfl (by kernel_rfl) (by simp [Tryz.ntmps92]) (by simp) ?_
  rw [Tryz.ntmps92]
  repeat' first | ((first | refine aops_end (hK _ ?_) | refine aopsD_end (hK _ ?_) | refine aopsF_end (hK _ ?_)); clear hK K) | ((first | refine aops_go ?_ | refine aopsD_go ?_ | refine aopsF_go ?_); simp; (try (refine gen fun q hq => ?_; cases q <;> (try simp at hq) <;> (try (have hh : True := hq; clear hh hq))))) | (refine wpcall_pure rfl (k2) ?_; simp; (try (refine gen fun q hq => ?_; cases q <;> (try simp at hq) <;> (try (have hh : True := hq; clear hh hq))))) | (refine T.ret (Done.data (Or.inr rfl) ?_ ?_) <;> simp [Tryz.results92] <;> omega) | refine T.r0 fun K hK => ?_ | refine T.r1 fun K hK => ?_ | (refine ⟨by omega, ?_⟩) | refine T.ct rfl ?_ | refine T.cf rfl ?_ | refine T.seq ?_ | refine T.block ?_ | refine T.skip ?_ | refine T.exit ?_
 | @tru d hn =>
  rw [valTextF_true]
  refine ACalls.of_body Tryz.func92 (by kernel_rfl) rfl (by kernel_rfl) (by simp [Tryz.ntmps92]) (by simp) ?_
  rw [Tryz.ntmps92]
  repeat' first | ((first | refine aops_end (hK _ ?_) | refine aopsD_end (hK _ ?_) | refine aopsF_end (hK _ ?_)); clear hK K) | ((first | refine aops_go ?_ | refine aopsD_go ?_ | refine aopsF_go ?_); simp; (try (refine gen fun q hq => ?_; cases q <;> (try simp at hq) <;> (try (have hh : True := hq; clear hh hq))))) | (refine T.ret (Done.data (Or.inr rfl) ?_ ?_) <;> simp [Tryz.results92] <;> omega) | refine T.r0 fun K hK => ?_ | refine T.r1 fun K hK => ?_ | (refine ⟨by omega, ?_⟩) | refine T.ct rfl ?_ | refine T.cf rfl ?_ | refine T.seq ?_ | refine T.block ?_ | refine T.skip ?_ | refine T.exit ?_
 | @fls d hn =>
  rw [valTextF_false]
  refine ACalls.of_body Tryz.func92 (by kernel_rfl) rfl (by kernel_rfl) (by simp [Tryz.ntmps92]) (by simp) ?_
  rw [Tryz.ntmps92]
  repeat' first | ((first | refine aops_end (hK _ ?_) | refine aopsD_end (hK _ ?_) | refine aopsF_end (hK _ ?_)); clear hK K) | ((first | refine aops_go ?_ | refine aopsD_go ?_ | refine aopsF_go ?_); simp; (try (refine gen fun q hq => ?_; cases q <;> (try simp at hq) <;> (try (have hh : True := hq; clear hh hq))))) | (refine T.ret (Done.data (Or.inr rfl) ?_ ?_) <;> simp [Tryz.results92] <;> omega) | refine T.r0 fun K hK => ?_ | refine T.r1 fun K hK => ?_ | (refine ⟨by omega, ?_⟩) | refine T.ct rfl ?_ | refine T.cf rfl ?_ | refine T.seq ?_ | refine T.block ?_ | refine T.skip ?_ | refine T.exit ?_
 | @lam d s t a _ hs ht ha ih =>
  have k1 := l5Proxy_ok (tLam s t a)
  rw [show proxyM (tLam s t a) = false by simp [proxyM]] at k1
  have k2 := l5Inject_ok (tLam s t a) (fun h => by simp at h)
  rw [show injM (tLam s t a) = false by simp [injM]] at k2
  rw [valTextF_lam, funB]
  refine ACalls.of_body Tryz.func92 (by kernel_rfl) rfl (by kernel_rfl) (by simp [Tryz.ntmps92]) (by simp) ?_
  rw [Tryz.ntmps92]
  repeat' first | ((first | refine aops_end (hK _ ?_) | refine aopsD_end (hK _ ?_) | refine aopsF_end (hK _ ?_)); clear hK K) | ((first | refine aops_go ?_ | refine aopsD_go ?_ | refine aopsF_go ?_); simp [eTm_def]; (try (refine gen fun q hq => ?_; cases q <;> (try simp [eTm_def] at hq) <;> (try (have hh : True := hq; clear hh hq))))) | (refine wpcall_pure ?_ (k1) ?_; (focus (solve | simp [eTm_def])); simp [eTm_def]; (try (refine gen fun q hq => ?_; cases q <;> (try simp [eTm_def] at hq) <;> (try (have hh : True := hq; clear hh hq))))) | (refine wpcall_pure ?_ (k2) ?_; (focus (solve | simp [eTm_def])); simp [eTm_def]; (try (refine gen fun q hq => ?_; cases q <;> (try simp [eTm_def] at hq) <;> (try (have hh : True := hq; clear hh hq))))) | (refine T.ret (Done.data (Or.inr rfl) ?_ ?_) <;> simp [Tryz.results92] <;> omega) | refine T.r0 fun K hK => ?_ | refine T.r1 fun K hK => ?_ | (refine ⟨by omega, ?_⟩) | refine T.ct rfl ?_ | refine T.cf rfl ?_ | refine T.seq ?_ | refine T.block ?_ | refine T.skip ?_ | refine T.exit ?_
 | @n2 d k a b _ hk ha hb iha ihb =>
  have h10 : k = 10 := by
   rcases hk with rfl | rfl | rfl | rfl
   ·exact absurd hv (by simp [valM_def, proxyM, injM, plainM])
   ·exact absurd hv (by simp [valM_def, proxyM, injM, plainM])
   ·exact absurd hv (by simp [valM_def, proxyM, injM, plainM])
   ·rfl
  subst h10
  rw [valTextF_pair, pairB]
  refine ACalls.of_body Tryz.func92 (by kernel_rfl) rfl (by kernel_rfl) (by simp [Tryz.ntmps92]) (by simp) ?_
  rw [Tryz.ntmps92]
  repeat' first | ((first | refine aops_end (hK _ ?_) | refine aopsD_end (hK _ ?_) | refine aopsF_end (hK _ ?_)); clear hK K) | ((first | refine aops_go ?_ | refine aopsD_go ?_ | refine aopsF_go ?_); simp [eTm_def]; (try (refine gen fun q hq => ?_; cases q <;> (try simp [eTm_def] at hq) <;> (try (have hh : True := hq; clear hh hq))))) | (refine T.ret (Done.data (Or.inr rfl) ?_ ?_) <;> simp [Tryz.results92] <;> omega) | refine T.r0 fun K hK => ?_ | refine T.r1 fun K hK => ?_ | (refine ⟨by omega, ?_⟩) | refine T.ct rfl ?_ | refine T.cf rfl ?_ | refine T.seq ?_ | refine T.block ?_ | refine T.skip ?_ | refine T.exit ?_
 | @ite d a b c _ ha hb hc iha ihb ihc => exact absurd hv (by simp [valM_def, proxyM, injM, plainM])
 | @n1 d k a _ hk ha ih => rcases hk with rfl | rfl <;> exact absurd hv (by simp [valM_def, proxyM, injM, plainM])
 | @asc d t a hn ht ha ih => exact absurd rfl hn
 | @cast d f t l a _ hf ht _ hl ha ih =>
  have k1 := l5Proxy_ok (tCast a f t l)
  rw [proxy_cast] at k1
  have k2 := l5Inject_ok (tCast a f t l) (fun _ => by simpa using hf)
  rw [valTextF_cast]
  rcases val_cast hv with hp | ⟨hp, hi, hva⟩
  ·rw [if_pos hp]
   rw [decide_eq_true hp] at k1
   rw [inj_not hp] at k2
   have hfk := hp.1
   by_cases h5 : t.kind = 5
   ·rw [if_pos h5, pairB]
    rw [h5] at hfk
    refine ACalls.of_body Tryz.func92 (by kernel_rfl) rfl (by kernel_rfl) (by simp [Tryz.ntmps92]) (by simp) ?_
    rw [Tryz.ntmps92]
    repeat' first | ((first | refine aops_end (hK _ ?_) | refine aopsD_end (hK _ ?_) | refine aopsF_end (hK _ ?_)); clear hK K) | ((first | refine aops_go ?_ | refine aopsD_go ?_ | refine aopsF_go ?_); simp [eTm_def, h5, hfk]; (try (refine gen fun q hq => ?_; cases q <;> (try simp [eTm_def, h5, hfk] at hq) <;> (try (have hh : True := hq; clear hh hq))))) | (refine wpcall_pure ?_ (k1) ?_; (focus (solve | simp [eTm_def, h5, hfk])); simp [eTm_def, h5, hfk]; (try (refine gen fun q hq => ?_; cases q <;> (try simp [eTm_def, h5, hfk] at hq) <;> (try (have hh : True := hq; clear hh hq))))) | (refine wpcall_pure ?_ (k2) ?_; (focus (solve | simp [eTm_def, h5, hfk])); simp [eTm_def, h5, hfk]; (try (refine gen fun q hq => ?_; cases q <;> (try simp [eTm_def, h5, hfk] at hq) <;> (try (have hh : True := hq; clear hh hq))))) | (refine T.ret (Done.data (Or.inr rfl) ?_ ?_) <;> simp [Tryz.results92] <;> omega) | refine T.r0 fun K hK => ?_ | refine T.r1 fun K hK => ?_ | (refine ⟨by omega, ?_⟩) | refine T.ct rfl ?_ | refine T.cf rfl ?_ | refine T.seq ?_ | refine T.block ?_ | refine T.skip ?_ | refine T.exit ?_
   ·rw [if_neg h5, funB]
    have hf5 : ¬ f.kind = 5 := by omega
    refine ACalls.of_body Tryz.func92 (by kernel_rfl) rfl (by kernel_rfl) (by simp [Tryz.ntmps92]) (by simp) ?_
    rw [Tryz.ntmps92]
    repeat' first | ((first | refine aops_end (hK _ ?_) | refine aopsD_end (hK _ ?_) | refine aopsF_end (hK _ ?_)); clear hK K) | ((first | refine aops_go ?_ | refine aopsD_go ?_ | refine aopsF_go ?_); simp [eTm_def, h5, hf5]; (try (refine gen fun q hq => ?_; cases q <;> (try simp [eTm_def, h5, hf5] at hq) <;> (try (have hh : True := hq; clear hh hq))))) | (refine wpcall_pure ?_ (k1) ?_; (focus (solve | simp [eTm_def, h5, hf5])); simp [eTm_def, h5, hf5]; (try (refine gen fun q hq => ?_; cases q <;> (try simp [eTm_def, h5, hf5] at hq) <;> (try (have hh : True := hq; clear hh hq))))) | (refine wpcall_pure ?_ (k2) ?_; (focus (solve | simp [eTm_def, h5, hf5])); simp [eTm_def, h5, hf5]; (try (refine gen fun q hq => ?_; cases q <;> (try simp [eTm_def, h5, hf5] at hq) <;> (try (have hh : True := hq; clear hh hq))))) | (refine T.ret (Done.data (Or.inr rfl) ?_ ?_) <;> simp [Tryz.results92] <;> omega) | refine T.r0 fun K hK => ?_ | refine T.r1 fun K hK => ?_ | (refine ⟨by omega, ?_⟩) | refine T.ct rfl ?_ | refine T.cf rfl ?_ | refine T.seq ?_ | refine T.block ?_ | refine T.skip ?_ | refine T.exit ?_
  ·rw [if_neg hp]
   rw [decide_eq_false hp] at k1
   rw [hi] at k2
   have k3 := ih hva
   generalize valTextF d a = A at *
   refine ACalls.of_body Tryz.func92 (by kernel_rfl) rfl (by kernel_rfl) (by simp [Tryz.ntmps92]) (by simp) ?_
   rw [Tryz.ntmps92]
   repeat' first | ((first | refine aops_end (hK _ ?_) | refine aopsD_end (hK _ ?_) | refine aopsF_end (hK _ ?_)); clear hK K) | ((first | refine aops_go ?_ | refine aopsD_go ?_ | refine aopsF_go ?_); simp [eTm_def]; (try (refine gen fun q hq => ?_; cases q <;> (try simp [eTm_def] at hq) <;> (try (have hh : True := hq; clear hh hq))))) | (refine wpcall_pure ?_ (k1) ?_; (focus (solve | simp [eTm_def])); simp [eTm_def]; (try (refine gen fun q hq => ?_; cases q <;> (try simp [eTm_def] at hq) <;> (try (have hh : True := hq; clear hh hq))))) | (refine wpcall_pure ?_ (k2) ?_; (focus (solve | simp [eTm_def])); simp [eTm_def]; (try (refine gen fun q hq => ?_; cases q <;> (try simp [eTm_def] at hq) <;> (try (have hh : True := hq; clear hh hq))))) | (refine wpcall_pure ?_ (k3) ?_; (focus (solve | simp [eTm_def])); simp [eTm_def]; (try (refine gen fun q hq => ?_; cases q <;> (try simp [eTm_def] at hq) <;> (try (have hh : True := hq; clear hh hq))))) | (refine T.ret (Done.data (Or.inr rfl) ?_ ?_) <;> simp [Tryz.results92] <;> omega) | refine T.r0 fun K hK => ?_ | refine T.r1 fun K hK => ?_ | (refine ⟨by omega, ?_⟩) | refine T.ct rfl ?_ | refine T.cf rfl ?_ | refine T.seq ?_ | refine T.block ?_ | refine T.skip ?_ | refine T.exit ?_

end Go.Proofs.YtflmjilnecanhaaGreatDoor

namespace Go.Proofs.YtflmjilnecanhaaGreatDoor
open Go Go.Av
attribute [local irreducible] T ACalls TX EX LX Draws Some_ ACallsX eTy eTm MTy.kind MTy.kids MTm.kind MTm.name MTm.num MTm.ty MTm.fr MTm.label MTm.kids
attribute [local simp] eTy_def eTm_def
set_option maxHeartbeats 16000000
set_option maxRecDepth 8000

theorem BareTerm_no (e : MTm) (hn : nTm e <= 1099511627776) (hv : termValidM e = false) (hc : castValidM e = false) : ACalls Tryz.prog 95 [aTm e] [] (.tup [aTm zeroE, .b false]) [] [] := by
 have h1 := TermValid_ok e hn
 have h2 := CastValid_ok e hn
 rw [hv] at h1
 rw [hc] at h2
 refine ACalls.of_body Tryz.func95 (by kernel_rfl) rfl (by kernel_rfl) (by simp [Tryz.ntmps95]) (by simp) ?_
 rw [Tryz.ntmps95]
 repeat' first | ((first | refine aops_end (hK _ ?_) | refine aopsD_end (hK _ ?_) | refine aopsF_end (hK _ ?_)); clear hK K) | ((first | refine aops_go ?_ | refine aopsD_go ?_ | refine aopsF_go ?_); simp; (try (refine gen fun q hq => ?_; cases q <;> (try simp at hq) <;> (try (have hh : True := hq; clear hh hq))))) | (refine wpcall_pure rfl (h1) ?_; simp; (try (refine gen fun q hq => ?_; cases q <;> (try simp at hq) <;> (try (have hh : True := hq; clear hh hq))))) | (refine wpcall_pure rfl (h2) ?_; simp; (try (refine gen fun q hq => ?_; cases q <;> (try simp at hq) <;> (try (have hh : True := hq; clear hh hq))))) | (refine T.ret (Done.tup (Or.inr rfl) ?_) <;> simp [resAs, Tryz.results95] <;> omega) | refine T.r0 fun K hK => ?_ | refine T.r1 fun K hK => ?_ | (refine ⟨by omega, ?_⟩) | refine T.ct rfl ?_ | refine T.cf rfl ?_ | refine T.seq ?_ | refine T.block ?_ | refine T.skip ?_ | refine T.exit ?_
theorem BareTermS_no (e : MTm) (hn : nTm e <= 1073741824) (hv : termValidM e = false) (hc : castValidM e = false) : ACalls Tryz.prog 90 [aTm e] [] (.tup [aTm zeroE, .b false]) [] [] := by
 have h1 := TermValidS_ok e (by omega)
 have h2 := CastValidS_ok e (by omega)
 rw [hv] at h1
 rw [hc] at h2
 refine ACalls.of_body Tryz.func90 (by kernel_rfl) rfl (by kernel_rfl) (by simp [Tryz.ntmps90]) (by simp) ?_
 rw [Tryz.ntmps90]
 repeat' first | ((first | refine aops_end (hK _ ?_) | refine aopsD_end (hK _ ?_) | refine aopsF_end (hK _ ?_)); clear hK K) | ((first | refine aops_go ?_ | refine aopsD_go ?_ | refine aopsF_go ?_); simp; (try (refine gen fun q hq => ?_; cases q <;> (try simp at hq) <;> (try (have hh : True := hq; clear hh hq))))) | (refine wpcall_pure rfl (h1) ?_; simp; (try (refine gen fun q hq => ?_; cases q <;> (try simp at hq) <;> (try (have hh : True := hq; clear hh hq))))) | (refine wpcall_pure rfl (h2) ?_; simp; (try (refine gen fun q hq => ?_; cases q <;> (try simp at hq) <;> (try (have hh : True := hq; clear hh hq))))) | (refine T.ret (Done.tup (Or.inr rfl) ?_) <;> simp [resAs, Tryz.results90] <;> omega) | refine T.r0 fun K hK => ?_ | refine T.r1 fun K hK => ?_ | (refine ⟨by omega, ?_⟩) | refine T.ct rfl ?_ | refine T.cf rfl ?_ | refine T.seq ?_ | refine T.block ?_ | refine T.skip ?_ | refine T.exit ?_
theorem BareTermS_some (e : MTm) (hn : nTm e <= 1073741824) (hv : termValidM e = true \/ castValidM e = true) : ACalls Tryz.prog 90 [aTm e] [] (.tup [aTm (mapM bareG e), .b true]) [] [] := by
 have h1 := TermValidS_ok e (by omega)
 have h2 := CastValidS_ok e (by omega)
 have h3 : ACalls Tryz.prog 166 [aTm e] [] (aTm (mapM bareG e)) [] [] := by
  rcases hv with h | h
  ·exact l4Bare_ok 14 e 12 (termValidM_iff.1 h).1 hn
  ·exact l4Bare_ok 13 e 40 (castValidM_iff.1 h).1 hn
 generalize mapM bareG e = R at h3
 cases ht : termValidM e with
 | true =>
  rw [ht] at h1
  cases hc : castValidM e <;> rw [hc] at h2
  ·refine ACalls.of_body Tryz.func90 (by kernel_rfl) rfl (by kernel_rfl) (by simp [Tryz.ntmps90]) (by simp) ?_
   rw [Tryz.ntmps90]
   repeat' first | ((first | refine aops_end (hK _ ?_) | refine aopsD_end (hK _ ?_) | refine aopsF_end (hK _ ?_)); clear hK K) | ((first | refine aops_go ?_ | refine aopsD_go ?_ | refine aopsF_go ?_); simp; (try (refine gen fun q hq => ?_; cases q <;> (try simp at hq) <;> (try (have hh : True := hq; clear hh hq))))) | (refine wpcall_pure rfl (h1) ?_; simp; (try (refine gen fun q hq => ?_; cases q <;> (try simp at hq) <;> (try (have hh : True := hq; clear hh hq))))) | (refine wpcall_pure rfl (h2) ?_; simp; (try (refine gen fun q hq => ?_; cases q <;> (try simp at hq) <;> (try (have hh : True := hq; clear hh hq))))) | (refine wpcall_pure rfl (h3) ?_; simp; (try (refine gen fun q hq => ?_; cases q <;> (try simp at hq) <;> (try (have hh : True := hq; clear hh hq))))) | (refine T.ret (Done.tup (Or.inr rfl) ?_) <;> simp [resAs, Tryz.results90] <;> omega) | refine T.r0 fun K hK => ?_ | refine T.r1 fun K hK => ?_ | (refine ⟨by omega, ?_⟩) | refine T.ct rfl ?_ | refine T.cf rfl ?_ | refine T.seq ?_ | refine T.block ?_ | refine T.skip ?_ | refine T.exit ?_
  ·refine ACalls.of_body Tryz.func90 (by kernel_rfl) rfl (by kernel_rfl) (by simp [Tryz.ntmps90]) (by simp) ?_
   rw [Tryz.ntmps90]
   repeat' first | ((first | refine aops_end (hK _ ?_) | refine aopsD_end (hK _ ?_) | refine aopsF_end (hK _ ?_)); clear hK K) | ((first | refine aops_go ?_ | refine aopsD_go ?_ | refine aopsF_go ?_); simp; (try (refine gen fun q hq => ?_; cases q <;> (try simp at hq) <;> (try (have hh : True := hq; clear hh hq))))) | (refine wpcall_pure rfl (h1) ?_; simp; (try (refine gen fun q hq => ?_; cases q <;> (try simp at hq) <;> (try (have hh : True := hq; clear hh hq))))) | (refine wpcall_pure rfl (h2) ?_; simp; (try (refine gen fun q hq => ?_; cases q <;> (try simp at hq) <;> (try (have hh : True := hq; clear hh hq))))) | (refine wpcall_pure rfl (h3) ?_; simp; (try (refine gen fun q hq => ?_; cases q <;> (try simp at hq) <;> (try (have hh : True := hq; clear hh hq))))) | (refine T.ret (Done.tup (Or.inr rfl) ?_) <;> simp [resAs, Tryz.results90] <;> omega) | refine T.r0 fun K hK => ?_ | refine T.r1 fun K hK => ?_ | (refine ⟨by omega, ?_⟩) | refine T.ct rfl ?_ | refine T.cf rfl ?_ | refine T.seq ?_ | refine T.block ?_ | refine T.skip ?_ | refine T.exit ?_
 | false =>
  rw [ht] at h1
  rw [show castValidM e = true by rcases hv with h | h; rw [ht] at h; cases h; exact h] at h2
  refine ACalls.of_body Tryz.func90 (by kernel_rfl) rfl (by kernel_rfl) (by simp [Tryz.ntmps90]) (by simp) ?_
  rw [Tryz.ntmps90]
  repeat' first | ((first | refine aops_end (hK _ ?_) | refine aopsD_end (hK _ ?_) | refine aopsF_end (hK _ ?_)); clear hK K) | ((first | refine aops_go ?_ | refine aopsD_go ?_ | refine aopsF_go ?_); simp; (try (refine gen fun q hq => ?_; cases q <;> (try simp at hq) <;> (try (have hh : True := hq; clear hh hq))))) | (refine wpcall_pure rfl (h1) ?_; simp; (try (refine gen fun q hq => ?_; cases q <;> (try simp at hq) <;> (try (have hh : True := hq; clear hh hq))))) | (refine wpcall_pure rfl (h2) ?_; simp; (try (refine gen fun q hq => ?_; cases q <;> (try simp at hq) <;> (try (have hh : True := hq; clear hh hq))))) | (refine wpcall_pure rfl (h3) ?_; simp; (try (refine gen fun q hq => ?_; cases q <;> (try simp at hq) <;> (try (have hh : True := hq; clear hh hq))))) | (refine T.ret (Done.tup (Or.inr rfl) ?_) <;> simp [resAs, Tryz.results90] <;> omega) | refine T.r0 fun K hK => ?_ | refine T.r1 fun K hK => ?_ | (refine ⟨by omega, ?_⟩) | refine T.ct rfl ?_ | refine T.cf rfl ?_ | refine T.seq ?_ | refine T.block ?_ | refine T.skip ?_ | refine T.exit ?_

theorem bare_sz {e : MTm} (hv : termValidM e = true \/ castValidM e = true) : nTm (mapM bareG e) <= 1073741824 := by
 rcases hv with h | h
 ·have := (bare_valid (termValidM_iff.1 h).1 (.inr rfl)).2.1.small
  have h2 := (bare_valid (termValidM_iff.1 h).1 (.inr rfl)).2.2
  have h3 := (termValidM_iff.1 h).2
  omega
 ·have := (bare_valid (castValidM_iff.1 h).1 (.inl rfl)).2.1.small
  have h2 := (bare_valid (castValidM_iff.1 h).1 (.inl rfl)).2.2
  have h3 := (castValidM_iff.1 h).2
  omega

theorem RunBare_ok (e : MTm) (n : Int) (hn : nTm e <= 1073741824) : ACalls Tryz.prog 34 [aTm e, .i n] [] (.tup [.s (runBareM e n).1, .i (runBareM e n).2.1, .i (runBareM e n).2.2]) [] [] := by
 rw [runBareM]
 cases hq : termValidM e || castValidM e with
 | false =>
  simp only [Bool.or_eq_false_iff] at hq
  have h1 := BareTerm_no e (by omega) hq.1 hq.2
  simp only [Bool.false_eq_true, if_false]
  refine ACalls.of_body Tryz.func34 (by kernel_rfl) rfl (by kernel_rfl) (by simp [Tryz.ntmps34]) (by simp) ?_
  rw [Tryz.ntmps34]
  repeat' first | ((first | refine aops_end (hK _ ?_) | refine aopsD_end (hK _ ?_) | refine aopsF_end (hK _ ?_)); clear hK K) | ((first | refine aops_go ?_ | refine aopsD_go ?_ | refine aopsF_go ?_); simp; (try (refine gen fun q hq => ?_; cases q <;> (try simp at hq) <;> (try (have hh : True := hq; clear hh hq))))) | (refine wpcall_pure rfl (h1) ?_; simp; (try (refine gen fun q hq => ?_; cases q <;> (try simp at hq) <;> (try (have hh : True := hq; clear hh hq))))) | (refine T.ret (Done.tup (Or.inr rfl) ?_) <;> simp [resAs, Tryz.results34] <;> omega) | refine T.r0 fun K hK => ?_ | refine T.r1 fun K hK => ?_ | (refine ⟨by omega, ?_⟩) | refine T.ct rfl ?_ | refine T.cf rfl ?_ | refine T.seq ?_ | refine T.block ?_ | refine T.skip ?_ | refine T.exit ?_
 | true =>
  rw [Bool.or_eq_true] at hq
  have h1 := BareTerm_some e (by omega) hq
  have h2 := EvalBare_ok (mapM bareG e) n (bare_sz hq)
  have h3 := fun h => evalBare_zero (e := mapM bareG e) (n := n) h
  simp only [if_true]
  generalize mapM bareG e = b at *
  generalize evalBareM b n = p at *
  obtain ⟨v, code, err⟩ := p
  simp only [stepR] at h2
  dsimp only at h3 ⊢
  by_cases hc : code = 0
  ·subst hc
   have h4 := valueText_ok (castValidM_iff.1 (h3 rfl).1).1 (h3 rfl).2
   simp only [if_true]
   generalize valTextF 40 v = W at *
   refine ACalls.of_body Tryz.func34 (by kernel_rfl) rfl (by kernel_rfl) (by simp [Tryz.ntmps34]) (by simp) ?_
   rw [Tryz.ntmps34]
   repeat' first | ((first | refine aops_end (hK _ ?_) | refine aopsD_end (hK _ ?_) | refine aopsF_end (hK _ ?_)); clear hK K) | ((first | refine aops_go ?_ | refine aopsD_go ?_ | refine aopsF_go ?_); simp; (try (refine gen fun q hq => ?_; cases q <;> (try simp at hq) <;> (try (have hh : True := hq; clear hh hq))))) | (refine wpcall_pure rfl (h1) ?_; simp; (try (refine gen fun q hq => ?_; cases q <;> (try simp at hq) <;> (try (have hh : True := hq; clear hh hq))))) | (refine wpcall_pure rfl (h2) ?_; simp; (try (refine gen fun q hq => ?_; cases q <;> (try simp at hq) <;> (try (have hh : True := hq; clear hh hq))))) | (refine wpcall_pure rfl (h4) ?_; simp; (try (refine gen fun q hq => ?_; cases q <;> (try simp at hq) <;> (try (have hh : True := hq; clear hh hq))))) | (refine T.ret (Done.tup (Or.inr rfl) ?_) <;> simp [resAs, Tryz.results34] <;> omega) | refine T.r0 fun K hK => ?_ | refine T.r1 fun K hK => ?_ | (refine ⟨by omega, ?_⟩) | refine T.ct rfl ?_ | refine T.cf rfl ?_ | refine T.seq ?_ | refine T.block ?_ | refine T.skip ?_ | refine T.exit ?_
  ·rw [if_neg hc]
   refine ACalls.of_body Tryz.func34 (by kernel_rfl) rfl (by kernel_rfl) (by simp [Tryz.ntmps34]) (by simp) ?_
   rw [Tryz.ntmps34]
   repeat' first | ((first | refine aops_end (hK _ ?_) | refine aopsD_end (hK _ ?_) | refine aopsF_end (hK _ ?_)); clear hK K) | ((first | refine aops_go ?_ | refine aopsD_go ?_ | refine aopsF_go ?_); simp [hc]; (try (refine gen fun q hq => ?_; cases q <;> (try simp [hc] at hq) <;> (try (have hh : True := hq; clear hh hq))))) | (refine wpcall_pure rfl (h1) ?_; simp [hc]; (try (refine gen fun q hq => ?_; cases q <;> (try simp [hc] at hq) <;> (try (have hh : True := hq; clear hh hq))))) | (refine wpcall_pure rfl (h2) ?_; simp [hc]; (try (refine gen fun q hq => ?_; cases q <;> (try simp [hc] at hq) <;> (try (have hh : True := hq; clear hh hq))))) | (refine T.ret (Done.tup (Or.inr rfl) ?_) <;> simp [resAs, Tryz.results34] <;> omega) | refine T.r0 fun K hK => ?_ | refine T.r1 fun K hK => ?_ | (refine ⟨by omega, ?_⟩) | refine T.ct rfl ?_ | refine T.cf rfl ?_ | refine T.seq ?_ | refine T.block ?_ | refine T.skip ?_ | refine T.exit ?_

theorem RunBareS_ok (e : MTm) (n : Int) (hn : nTm e <= 1073741824) : ACalls Tryz.prog 32 [aTm e, .i n] [] (.tup [.s (runBareM e n).1, .i (runBareM e n).2.1, .i (runBareM e n).2.2]) [] [] := by
 rw [runBareM]
 cases hq : termValidM e || castValidM e with
 | false =>
  simp only [Bool.or_eq_false_iff] at hq
  have h1 := BareTermS_no e hn hq.1 hq.2
  simp only [Bool.false_eq_true, if_false]
  refine ACalls.of_body Tryz.func32 (by kernel_rfl) rfl (by kernel_rfl) (by simp [Tryz.ntmps32]) (by simp) ?_
  rw [Tryz.ntmps32]
  repeat' first | ((first | refine aops_end (hK _ ?_) | refine aopsD_end (hK _ ?_) | refine aopsF_end (hK _ ?_)); clear hK K) | ((first | refine aops_go ?_ | refine aopsD_go ?_ | refine aopsF_go ?_); simp; (try (refine gen fun q hq => ?_; cases q <;> (try simp at hq) <;> (try (have hh : True := hq; clear hh hq))))) | (refine wpcall_pure rfl (h1) ?_; simp; (try (refine gen fun q hq => ?_; cases q <;> (try simp at hq) <;> (try (have hh : True := hq; clear hh hq))))) | (refine T.ret (Done.tup (Or.inr rfl) ?_) <;> simp [resAs, Tryz.results32] <;> omega) | refine T.r0 fun K hK => ?_ | refine T.r1 fun K hK => ?_ | (refine ⟨by omega, ?_⟩) | refine T.ct rfl ?_ | refine T.cf rfl ?_ | refine T.seq ?_ | refine T.block ?_ | refine T.skip ?_ | refine T.exit ?_
 | true =>
  rw [Bool.or_eq_true] at hq
  have h1 := BareTermS_some e hn hq
  have h2 := EvalBareS_ok (mapM bareG e) n (bare_sz hq)
  have h3 := fun h => evalBare_zero (e := mapM bareG e) (n := n) h
  simp only [if_true]
  generalize mapM bareG e = b at *
  generalize evalBareM b n = p at *
  obtain ⟨v, code, err⟩ := p
  simp only [stepR] at h2
  dsimp only at h3 ⊢
  by_cases hc : code = 0
  ·subst hc
   have h4 := l5Text_ok (castValidM_iff.1 (h3 rfl).1).1 (h3 rfl).2
   simp only [if_true]
   generalize valTextF 40 v = W at *
   refine ACalls.of_body Tryz.func32 (by kernel_rfl) rfl (by kernel_rfl) (by simp [Tryz.ntmps32]) (by simp) ?_
   rw [Tryz.ntmps32]
   repeat' first | ((first | refine aops_end (hK _ ?_) | refine aopsD_end (hK _ ?_) | refine aopsF_end (hK _ ?_)); clear hK K) | ((first | refine aops_go ?_ | refine aopsD_go ?_ | refine aopsF_go ?_); simp; (try (refine gen fun q hq => ?_; cases q <;> (try simp at hq) <;> (try (have hh : True := hq; clear hh hq))))) | (refine wpcall_pure rfl (h1) ?_; simp; (try (refine gen fun q hq => ?_; cases q <;> (try simp at hq) <;> (try (have hh : True := hq; clear hh hq))))) | (refine wpcall_pure rfl (h2) ?_; simp; (try (refine gen fun q hq => ?_; cases q <;> (try simp at hq) <;> (try (have hh : True := hq; clear hh hq))))) | (refine wpcall_pure rfl (h4) ?_; simp; (try (refine gen fun q hq => ?_; cases q <;> (try simp at hq) <;> (try (have hh : True := hq; clear hh hq))))) | (refine T.ret (Done.tup (Or.inr rfl) ?_) <;> simp [resAs, Tryz.results32] <;> omega) | refine T.r0 fun K hK => ?_ | refine T.r1 fun K hK => ?_ | (refine ⟨by omega, ?_⟩) | refine T.ct rfl ?_ | refine T.cf rfl ?_ | refine T.seq ?_ | refine T.block ?_ | refine T.skip ?_ | refine T.exit ?_
  ·rw [if_neg hc]
   refine ACalls.of_body Tryz.func32 (by kernel_rfl) rfl (by kernel_rfl) (by simp [Tryz.ntmps32]) (by simp) ?_
   rw [Tryz.ntmps32]
   repeat' first | ((first | refine aops_end (hK _ ?_) | refine aopsD_end (hK _ ?_) | refine aopsF_end (hK _ ?_)); clear hK K) | ((first | refine aops_go ?_ | refine aopsD_go ?_ | refine aopsF_go ?_); simp [hc]; (try (refine gen fun q hq => ?_; cases q <;> (try simp [hc] at hq) <;> (try (have hh : True := hq; clear hh hq))))) | (refine wpcall_pure rfl (h1) ?_; simp [hc]; (try (refine gen fun q hq => ?_; cases q <;> (try simp [hc] at hq) <;> (try (have hh : True := hq; clear hh hq))))) | (refine wpcall_pure rfl (h2) ?_; simp [hc]; (try (refine gen fun q hq => ?_; cases q <;> (try simp [hc] at hq) <;> (try (have hh : True := hq; clear hh hq))))) | (refine T.ret (Done.tup (Or.inr rfl) ?_) <;> simp [resAs, Tryz.results32] <;> omega) | refine T.r0 fun K hK => ?_ | refine T.r1 fun K hK => ?_ | (refine ⟨by omega, ?_⟩) | refine T.ct rfl ?_ | refine T.cf rfl ?_ | refine T.seq ?_ | refine T.block ?_ | refine T.skip ?_ | refine T.exit ?_

theorem lawExactRunBare_ok (e : MTm) (n : Int) (hw : wTm e) (hn1 : -9223372036854775808 <= n) (hn2 : n <= 9223372036854775807) : ACalls Tryz.prog 6 [aTm e, .i n] [] (.b true) [] [] := by
 have hsz := szTerm_ok e hw 1048576 (by omega) (by omega)
 by_cases hn : nTm e <= 1048576
 rotate_left
 ·rw [show szM (nTm e) 1048576 = -1 by simp only [szM]; rw [if_neg (by omega)]] at hsz
  refine ACalls.of_body Tryz.func6 (by kernel_rfl) rfl (by kernel_rfl) (by simp [Tryz.ntmps6]) (by simp) ?_
  rw [Tryz.ntmps6]
  repeat' first | ((first | refine aops_end (hK _ ?_) | refine aopsD_end (hK _ ?_) | refine aopsF_end (hK _ ?_)); clear hK K) | ((first | refine aops_go ?_ | refine aopsD_go ?_ | refine aopsF_go ?_); simp; (try (refine gen fun q hq => ?_; cases q <;> (try simp at hq) <;> (try (have hh : True := hq; clear hh hq))))) | (refine wpcall_pure rfl (hsz) ?_; simp; (try (refine gen fun q hq => ?_; cases q <;> (try simp at hq) <;> (try (have hh : True := hq; clear hh hq))))) | (refine T.ret (Done.data (Or.inr rfl) ?_ ?_) <;> simp [Tryz.results6] <;> omega) | refine T.rd (id := 10) mixed (fun _ => false) [] (by kernel_rfl) fun K hK => ?_ | refine T.rd1 (id := 10) mixed (fun _ => false) [] (by kernel_rfl) fun K hK => ?_ | refine T.r0 fun K hK => ?_ | refine T.r1 fun K hK => ?_ | (refine ⟨by omega, ?_⟩) | refine T.ct rfl ?_ | refine T.cf rfl ?_ | refine T.seq ?_ | refine T.block ?_ | refine T.skip ?_ | refine T.exit ?_
 have hpos : ¬ szM (nTm e) 1048576 < 0 := by simp only [szM]; rw [if_pos (by omega)]; omega
 have hto := toTerm_ok e hn
 have heq := eqTerm_ok e hn
 have h1 := RunBareS_ok e n (by omega)
 have h2 := RunBare_ok e n (by omega)
 generalize szM (nTm e) 1048576 = z at hsz hpos
 generalize runBareM e n = p at h1 h2
 obtain ⟨t, code, err⟩ := p
 dsimp only at h1 h2
 refine ACalls.of_body Tryz.func6 (by kernel_rfl) rfl (by kernel_rfl) (by simp [Tryz.ntmps6]) (by simp) ?_
 rw [Tryz.ntmps6]
 repeat' first | ((first | refine aops_end (hK _ ?_) | refine aopsD_end (hK _ ?_) | refine aopsF_end (hK _ ?_)); clear hK K) | ((first | refine aops_go ?_ | refine aopsD_go ?_ | refine aopsF_go ?_); simp [hpos]) | (refine wpcall_pure rfl (hsz) ?_; simp [hpos]) | (refine wpcall_pure rfl (hto) ?_; simp [hpos]) | (refine wpcall_pure rfl (h1) ?_; simp [hpos]) | (refine wpcall_pure rfl (h2) ?_; simp [hpos]) | (refine wpcall_pure rfl (heq) ?_; simp [hpos]) | (refine T.ret (Done.data (Or.inr rfl) ?_ ?_) <;> simp [Tryz.results6] <;> omega) | refine T.rd (id := 10) mixed (fun _ => false) [] (by kernel_rfl) fun K hK => ?_ | refine T.rd1 (id := 10) mixed (fun _ => false) [] (by kernel_rfl) fun K hK => ?_ | refine T.r0 fun K hK => ?_ | refine T.r1 fun K hK => ?_ | (refine ⟨by omega, ?_⟩) | refine T.ct rfl ?_ | refine T.cf rfl ?_ | refine T.seq ?_ | refine T.block ?_ | refine T.skip ?_ | refine T.exit ?_
end Go.Proofs.YtflmjilnecanhaaGreatDoor
