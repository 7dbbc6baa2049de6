/- A part of the library of this seat. -/
import Derived.Test.YtflmjilnecanhaaGreatDoorWW16
set_option linter.unusedVariables false
set_option linter.unusedSimpArgs false
namespace Go.Proofs.YtflmjilnecanhaaGreatDoor
open Go Go.Av
attribute [local irreducible] T ACalls TX EX LX Draws Some_ ACallsX eTy eTm MTy.kind MTy.kids MTm.kind MTm.name MTm.num MTm.ty MTm.fr MTm.label MTm.kids
attribute [local simp] eTy_def eTm_def
set_option maxHeartbeats 16000000
set_option maxRecDepth 8000
def itoaRen : Go.Shelf.Ren := ⟨fun n => match n with | 129 => 290 | 171 => 110 | 243 => 182 | 246 => 228 | 283 => 266 | 284 => 267 | 285 => 268 | 286 => 269 | 317 => 289 | 318 => 291 | 319 => 292 | 320 => 293 | 337 => 306 | 338 => 307 | _ => 0, fun n => match n with | 0 => 0 | 2 => 2 | 3 => 3 | 4 => 4 | 5 => 5 | 9 => 9 | 20 => 20 | 37 => 22 | 46 => 210 | 51 => 231 | 53 => 211 | 171 => 226 | 173 => 229 | 212 => 246 | 213 => 247 | 232 => 261 | 233 => 262 | _ => 0, fun n => match n with | 17 => 3 | 18 => 6 | 19 => 7 | _ => 0⟩
theorem itoaLays : Go.Proofs.LaysM.n171 Tryz.prog itoaRen where
 mixed := mixed
 f129 := by kernel_rfl
 f171 := by kernel_rfl
 f243 := by kernel_rfl
 f246 := by kernel_rfl
 f283 := by kernel_rfl
 f284 := by kernel_rfl
 f285 := by kernel_rfl
 f286 := by kernel_rfl
 f317 := by kernel_rfl
 f318 := by kernel_rfl
 f319 := by kernel_rfl
 f320 := by kernel_rfl
 f337 := by kernel_rfl
 f338 := by kernel_rfl
 t0 := by kernel_rfl
 a0 := by intro w; kernel_rfl
 z0 := by intro w; kernel_rfl
 v0 := by intro w; kernel_rfl
 t2 := by kernel_rfl
 a2 := by intro w; kernel_rfl
 z2 := by intro w; kernel_rfl
 v2 := by intro w; kernel_rfl
 t3 := by kernel_rfl
 a3 := by intro w; kernel_rfl
 z3 := by intro w; kernel_rfl
 v3 := by intro w; kernel_rfl
 t4 := by kernel_rfl
 a4 := by intro w; kernel_rfl
 z4 := by intro w; kernel_rfl
 v4 := by intro w; kernel_rfl
 t5 := by kernel_rfl
 a5 := by intro w; kernel_rfl
 z5 := by intro w; kernel_rfl
 v5 := by intro w; kernel_rfl
 t9 := by kernel_rfl
 a9 := by intro w; kernel_rfl
 z9 := by intro w; kernel_rfl
 v9 := by intro w; kernel_rfl
 t20 := by kernel_rfl
 a20 := by intro w; kernel_rfl
 z20 := by intro w; kernel_rfl
 v20 := by intro w; kernel_rfl
 t37 := by kernel_rfl
 a37 := by intro w; kernel_rfl
 z37 := by intro w; kernel_rfl
 v37 := by intro w; kernel_rfl
 t46 := by kernel_rfl
 a46 := by intro w; kernel_rfl
 z46 := by intro w; kernel_rfl
 v46 := by intro w; kernel_rfl
 t51 := by kernel_rfl
 a51 := by intro w; kernel_rfl
 z51 := by intro w; kernel_rfl
 v51 := by intro w; kernel_rfl
 t53 := by kernel_rfl
 a53 := by intro w; kernel_rfl
 z53 := by intro w; kernel_rfl
 v53 := by intro w; kernel_rfl
 t171 := by kernel_rfl
 a171 := by intro w; kernel_rfl
 z171 := by intro w; kernel_rfl
 v171 := by intro w; kernel_rfl
 t173 := by kernel_rfl
 a173 := by intro w; kernel_rfl
 z173 := by intro w; kernel_rfl
 v173 := by intro w; kernel_rfl
 t212 := by kernel_rfl
 a212 := by intro w; kernel_rfl
 z212 := by intro w; kernel_rfl
 v212 := by intro w; kernel_rfl
 t213 := by kernel_rfl
 a213 := by intro w; kernel_rfl
 z213 := by intro w; kernel_rfl
 t232 := by kernel_rfl
 a232 := by intro w; kernel_rfl
 z232 := by intro w; kernel_rfl
 v232 := by intro w; kernel_rfl
 t233 := by kernel_rfl
 a233 := by intro w; kernel_rfl
 z233 := by intro w; kernel_rfl
 v233 := by intro w; kernel_rfl
 g17 := by kernel_rfl
 g18 := by kernel_rfl
 g19 := by kernel_rfl
 i0 := by kernel_rfl
 i2 := by kernel_rfl
 i3 := by kernel_rfl
 i4 := by kernel_rfl
 i5 := by kernel_rfl
 i9 := by kernel_rfl
 i20 := by kernel_rfl
 i37 := by kernel_rfl
 i46 := by kernel_rfl
 i51 := by kernel_rfl
 i53 := by kernel_rfl
 i171 := by kernel_rfl
 i173 := by kernel_rfl
 i212 := by kernel_rfl
 i232 := by kernel_rfl
 i233 := by kernel_rfl
 m17 := by kernel_rfl
 m18 := by kernel_rfl
 m19 := by kernel_rfl
theorem Itoa_ok (n : Int) (h0 : -9223372036854775808 <= n) (h1 : n <= 9223372036854775807) : ACalls Tryz.prog 110 [.i n] [] (.s (Lib.itoa n)) [] [] :=
 itoa_contract (ρ := itoaRen) itoaLays (enters Tryz.func110 (by kernel_rfl) rfl) (k := 3) rfl (by kernel_rfl) n h0 h1
end Go.Proofs.YtflmjilnecanhaaGreatDoor

namespace Go.Proofs.YtflmjilnecanhaaGreatDoor
open Go Go.Av
attribute [local irreducible] T ACalls TX EX LX Draws Some_ ACallsX eTy eTm MTy.kind MTy.kids MTm.kind MTm.name MTm.num MTm.ty MTm.fr MTm.label MTm.kids
attribute [local simp] eTy_def eTm_def
set_option maxHeartbeats 16000000
set_option maxRecDepth 8000

theorem sign_ok {k : Int} (h1 : 1 <= k) (h5 : k <= 5) : ACalls Tryz.prog 118 [.i k] [] (.s [signB k]) [] [] := by
 have hk : k = 1 \/ k = 2 \/ k = 3 \/ k = 4 \/ k = 5 := by omega
 have hw : ∀ z : Int, 0 <= z -> z <= 5 -> IntKind.i64.wrap z = z := fun z h1 h2 => wrap64 (by omega) (by omega)
 have w0 := hw 0 (by omega) (by omega)
 have w1 := hw 1 (by omega) (by omega)
 have w2 := hw 2 (by omega) (by omega)
 have w3 := hw 3 (by omega) (by omega)
 have w4 := hw 4 (by omega) (by omega)
 have w5 := hw 5 (by omega) (by omega)
 rcases hk with rfl | rfl | rfl | rfl | rfl
 ·refine ACalls.of_body Tryz.func118 (by kernel_rfl) rfl (by kernel_rfl) (by simp [Tryz.ntmps118]) (by simp) ?_
  rw [Tryz.ntmps118]
  repeat' first | ((first | refine aops_end (hK _ ?_) | refine aopsD_end (hK _ ?_) | refine aopsF_end (hK _ ?_)); clear hK K) | ((first | refine aops_go ?_ | refine aopsD_go ?_ | refine aopsF_go ?_); simp [w0, w1, w2, w3, w4, w5]; (try (refine gen fun q hq => ?_; cases q <;> (try simp [w0, w1, w2, w3, w4, w5] at hq) <;> (try (have hh : True := hq; clear hh hq))))) | (refine T.ret (Done.data (Or.inr rfl) ?_ ?_) <;> simp [Tryz.results118, signB] <;> omega) | refine T.r0 fun K hK => ?_ | refine T.r1 fun K hK => ?_ | (refine ⟨by omega, ?_⟩) | refine T.ct rfl ?_ | refine T.cf rfl ?_ | refine T.seq ?_ | refine T.block ?_ | refine T.skip ?_ | refine T.exit ?_
 ·refine ACalls.of_body Tryz.func118 (by kernel_rfl) rfl (by kernel_rfl) (by simp [Tryz.ntmps118]) (by simp) ?_
  rw [Tryz.ntmps118]
  repeat' first | ((first | refine aops_end (hK _ ?_) | refine aopsD_end (hK _ ?_) | refine aopsF_end (hK _ ?_)); clear hK K) | ((first | refine aops_go ?_ | refine aopsD_go ?_ | refine aopsF_go ?_); simp [w0, w1, w2, w3, w4, w5]; (try (refine gen fun q hq => ?_; cases q <;> (try simp [w0, w1, w2, w3, w4, w5] at hq) <;> (try (have hh : True := hq; clear hh hq))))) | (refine T.ret (Done.data (Or.inr rfl) ?_ ?_) <;> simp [Tryz.results118, signB] <;> omega) | refine T.r0 fun K hK => ?_ | refine T.r1 fun K hK => ?_ | (refine ⟨by omega, ?_⟩) | refine T.ct rfl ?_ | refine T.cf rfl ?_ | refine T.seq ?_ | refine T.block ?_ | refine T.skip ?_ | refine T.exit ?_
 ·refine ACalls.of_body Tryz.func118 (by kernel_rfl) rfl (by kernel_rfl) (by simp [Tryz.ntmps118]) (by simp) ?_
  rw [Tryz.ntmps118]
  repeat' first | ((first | refine aops_end (hK _ ?_) | refine aopsD_end (hK _ ?_) | refine aopsF_end (hK _ ?_)); clear hK K) | ((first | refine aops_go ?_ | refine aopsD_go ?_ | refine aopsF_go ?_); simp [w0, w1, w2, w3, w4, w5]; (try (refine gen fun q hq => ?_; cases q <;> (try simp [w0, w1, w2, w3, w4, w5] at hq) <;> (try (have hh : True := hq; clear hh hq))))) | (refine T.ret (Done.data (Or.inr rfl) ?_ ?_) <;> simp [Tryz.results118, signB] <;> omega) | refine T.r0 fun K hK => ?_ | refine T.r1 fun K hK => ?_ | (refine ⟨by omega, ?_⟩) | refine T.ct rfl ?_ | refine T.cf rfl ?_ | refine T.seq ?_ | refine T.block ?_ | refine T.skip ?_ | refine T.exit ?_
 ·refine ACalls.of_body Tryz.func118 (by kernel_rfl) rfl (by kernel_rfl) (by simp [Tryz.ntmps118]) (by simp) ?_
  rw [Tryz.ntmps118]
  repeat' first | ((first | refine aops_end (hK _ ?_) | refine aopsD_end (hK _ ?_) | refine aopsF_end (hK _ ?_)); clear hK K) | ((first | refine aops_go ?_ | refine aopsD_go ?_ | refine aopsF_go ?_); simp [w0, w1, w2, w3, w4, w5]; (try (refine gen fun q hq => ?_; cases q <;> (try simp [w0, w1, w2, w3, w4, w5] at hq) <;> (try (have hh : True := hq; clear hh hq))))) | (refine T.ret (Done.data (Or.inr rfl) ?_ ?_) <;> simp [Tryz.results118, signB] <;> omega) | refine T.r0 fun K hK => ?_ | refine T.r1 fun K hK => ?_ | (refine ⟨by omega, ?_⟩) | refine T.ct rfl ?_ | refine T.cf rfl ?_ | refine T.seq ?_ | refine T.block ?_ | refine T.skip ?_ | refine T.exit ?_
 ·refine ACalls.of_body Tryz.func118 (by kernel_rfl) rfl (by kernel_rfl) (by simp [Tryz.ntmps118]) (by simp) ?_
  rw [Tryz.ntmps118]
  repeat' first | ((first | refine aops_end (hK _ ?_) | refine aopsD_end (hK _ ?_) | refine aopsF_end (hK _ ?_)); clear hK K) | ((first | refine aops_go ?_ | refine aopsD_go ?_ | refine aopsF_go ?_); simp [w0, w1, w2, w3, w4, w5]; (try (refine gen fun q hq => ?_; cases q <;> (try simp [w0, w1, w2, w3, w4, w5] at hq) <;> (try (have hh : True := hq; clear hh hq))))) | (refine T.ret (Done.data (Or.inr rfl) ?_ ?_) <;> simp [Tryz.results118, signB] <;> omega) | refine T.r0 fun K hK => ?_ | refine T.r1 fun K hK => ?_ | (refine ⟨by omega, ?_⟩) | refine T.ct rfl ?_ | refine T.cf rfl ?_ | refine T.seq ?_ | refine T.block ?_ | refine T.skip ?_ | refine T.exit ?_

theorem typeText_ok {d : Nat} {t : MTy} (h : VTy d t) (hd : d <= 40) : ACalls Tryz.prog 104 [aTy t] [] (.s (tyTextF d t)) [] [] := by
 induction h with
 | any d =>
  have k1 := sign_ok (k := 1) (by omega) (by omega)
  rw [tyTextF_any]
  refine ACalls.of_body Tryz.func104 (by kernel_rfl) rfl (by kernel_rfl) (by simp [Tryz.ntmps104]) (by simp) ?_
  rw [Tryz.ntmps104]
  repeat' first | ((first | refine aops_end (hK _ ?_) | refine aopsD_end (hK _ ?_) | refine aopsF_end (hK _ ?_)); clear hK K) | ((first | refine aops_go ?_ | refine aopsD_go ?_ | refine aopsF_go ?_ | refine wpcall_pure rfl (k1) ?_); simp; (try (refine gen fun q hq => ?_; cases q <;> (try simp at hq) <;> (try (have hh : True := hq; clear hh hq))))) | (refine T.ret (Done.data (Or.inr rfl) ?_ ?_) <;> simp [Tryz.results104, signB] <;> omega) | refine T.rd (id := 3) mixed (fun _ => false) [] (by kernel_rfl) fun K hK => ?_ | refine T.rd1 (id := 3) mixed (fun _ => false) [] (by kernel_rfl) fun K hK => ?_ | refine T.r0 fun K hK => ?_ | refine T.r1 fun K hK => ?_ | (refine ⟨by omega, ?_⟩) | refine T.ct rfl ?_ | refine T.cf rfl ?_ | refine T.seq ?_ | refine T.block ?_ | refine T.skip ?_ | refine T.exit ?_
 | int d =>
  have k1 := sign_ok (k := 2) (by omega) (by omega)
  rw [tyTextF_int]
  refine ACalls.of_body Tryz.func104 (by kernel_rfl) rfl (by kernel_rfl) (by simp [Tryz.ntmps104]) (by simp) ?_
  rw [Tryz.ntmps104]
  repeat' first | ((first | refine aops_end (hK _ ?_) | refine aopsD_end (hK _ ?_) | refine aopsF_end (hK _ ?_)); clear hK K) | ((first | refine aops_go ?_ | refine aopsD_go ?_ | refine aopsF_go ?_ | refine wpcall_pure rfl (k1) ?_); simp; (try (refine gen fun q hq => ?_; cases q <;> (try simp at hq) <;> (try (have hh : True := hq; clear hh hq))))) | (refine T.ret (Done.data (Or.inr rfl) ?_ ?_) <;> simp [Tryz.results104, signB] <;> omega) | refine T.rd (id := 3) mixed (fun _ => false) [] (by kernel_rfl) fun K hK => ?_ | refine T.rd1 (id := 3) mixed (fun _ => false) [] (by kernel_rfl) fun K hK => ?_ | refine T.r0 fun K hK => ?_ | refine T.r1 fun K hK => ?_ | (refine ⟨by omega, ?_⟩) | refine T.ct rfl ?_ | refine T.cf rfl ?_ | refine T.seq ?_ | refine T.block ?_ | refine T.skip ?_ | refine T.exit ?_
 | bool d =>
  have k1 := sign_ok (k := 3) (by omega) (by omega)
  rw [tyTextF_bool]
  refine ACalls.of_body Tryz.func104 (by kernel_rfl) rfl (by kernel_rfl) (by simp [Tryz.ntmps104]) (by simp) ?_
  rw [Tryz.ntmps104]
  repeat' first | ((first | refine aops_end (hK _ ?_) | refine aopsD_end (hK _ ?_) | refine aopsF_end (hK _ ?_)); clear hK K) | ((first | refine aops_go ?_ | refine aopsD_go ?_ | refine aopsF_go ?_ | refine wpcall_pure rfl (k1) ?_); simp; (try (refine gen fun q hq => ?_; cases q <;> (try simp at hq) <;> (try (have hh : True := hq; clear hh hq))))) | (refine T.ret (Done.data (Or.inr rfl) ?_ ?_) <;> simp [Tryz.results104, signB] <;> omega) | refine T.rd (id := 3) mixed (fun _ => false) [] (by kernel_rfl) fun K hK => ?_ | refine T.rd1 (id := 3) mixed (fun _ => false) [] (by kernel_rfl) fun K hK => ?_ | refine T.r0 fun K hK => ?_ | refine T.r1 fun K hK => ?_ | (refine ⟨by omega, ?_⟩) | refine T.ct rfl ?_ | refine T.cf rfl ?_ | refine T.seq ?_ | refine T.block ?_ | refine T.skip ?_ | refine T.exit ?_
 | @fn d a b ha hb iha ihb =>
  have k1 := sign_ok (k := 4) (by omega) (by omega)
  rw [tyTextF_fn]
  have la := tyTextF_le ha (by omega)
  have lb := tyTextF_le hb (by omega)
  replace iha := iha (by omega)
  replace ihb := ihb (by omega)
  generalize tyTextF d a = A at *
  generalize tyTextF d b = B at *
  refine ACalls.of_body Tryz.func104 (by kernel_rfl) rfl (by kernel_rfl) (by simp [Tryz.ntmps104]) (by simp) ?_
  rw [Tryz.ntmps104]
  repeat' first | ((first | refine aops_end (hK _ ?_) | refine aopsD_end (hK _ ?_) | refine aopsF_end (hK _ ?_)); clear hK K) | ((first | refine aops_go ?_ | refine aopsD_go ?_ | refine aopsF_go ?_ | refine wpcall_pure rfl (k1) ?_ | refine wpcall_pure rfl (iha) ?_ | refine wpcall_pure rfl (ihb) ?_); simp; (try simp (disch := omega) only [wrap64, catLe]); (try (refine gen fun q hq => ?_; cases q <;> (try simp at hq) <;> (try (have hh : True := hq; clear hh hq))))) | (refine T.ret (Done.data (Or.inr rfl) ?_ ?_) <;> simp [Tryz.results104, signB] <;> omega) | refine T.rd (id := 3) mixed (fun _ => false) [] (by kernel_rfl) fun K hK => ?_ | refine T.rd1 (id := 3) mixed (fun _ => false) [] (by kernel_rfl) fun K hK => ?_ | refine T.r0 fun K hK => ?_ | refine T.r1 fun K hK => ?_ | (refine ⟨by omega, ?_⟩) | refine T.ct rfl ?_ | refine T.cf rfl ?_ | refine T.seq ?_ | refine T.block ?_ | refine T.skip ?_ | refine T.exit ?_
 | @pair d a b ha hb iha ihb =>
  have k1 := sign_ok (k := 5) (by omega) (by omega)
  rw [tyTextF_pair]
  have la := tyTextF_le ha (by omega)
  have lb := tyTextF_le hb (by omega)
  replace iha := iha (by omega)
  replace ihb := ihb (by omega)
  generalize tyTextF d a = A at *
  generalize tyTextF d b = B at *
  refine ACalls.of_body Tryz.func104 (by kernel_rfl) rfl (by kernel_rfl) (by simp [Tryz.ntmps104]) (by simp) ?_
  rw [Tryz.ntmps104]
  repeat' first | ((first | refine aops_end (hK _ ?_) | refine aopsD_end (hK _ ?_) | refine aopsF_end (hK _ ?_)); clear hK K) | ((first | refine aops_go ?_ | refine aopsD_go ?_ | refine aopsF_go ?_ | refine wpcall_pure rfl (k1) ?_ | refine wpcall_pure rfl (iha) ?_ | refine wpcall_pure rfl (ihb) ?_); simp; (try simp (disch := omega) only [wrap64, catLe]); (try (refine gen fun q hq => ?_; cases q <;> (try simp at hq) <;> (try (have hh : True := hq; clear hh hq))))) | (refine T.ret (Done.data (Or.inr rfl) ?_ ?_) <;> simp [Tryz.results104, signB] <;> omega) | refine T.rd (id := 3) mixed (fun _ => false) [] (by kernel_rfl) fun K hK => ?_ | refine T.rd1 (id := 3) mixed (fun _ => false) [] (by kernel_rfl) fun K hK => ?_ | refine T.r0 fun K hK => ?_ | refine T.r1 fun K hK => ?_ | (refine ⟨by omega, ?_⟩) | refine T.ct rfl ?_ | refine T.cf rfl ?_ | refine T.seq ?_ | refine T.block ?_ | refine T.skip ?_ | refine T.exit ?_

@[simp] theorem td_u8x : td Tryz.prog 5 = some { ag := false, sz := 1, by_ := 1, zero := some [.d (.int .u8 0)], el := none, ar := none, fl := [], ik := some .u8, isS := false, isB := false } := keep (by kernel_rfl)
@[simp] theorem td_u8Sx : td Tryz.prog 22 = some { ag := false, sz := 1, by_ := 24, zero := some [.nil], el := some 5, ar := none, fl := [], ik := none, isS := false, isB := false } := keep (by kernel_rfl)
end Go.Proofs.YtflmjilnecanhaaGreatDoor

namespace Go.Proofs.YtflmjilnecanhaaGreatDoor
open Go Go.Av
attribute [local irreducible] T ACalls TX EX LX Draws Some_ ACallsX eTy eTm MTy.kind MTy.kids MTm.kind MTm.name MTm.num MTm.ty MTm.fr MTm.label MTm.kids
attribute [local simp] eTy_def eTm_def
set_option maxHeartbeats 16000000
set_option maxRecDepth 8000

abbrev rTm (e : MTm) : List DV := [.i e.kind, .str e.name, .i e.num, .i e.ty.kind, .sl (e.ty.kids.map eTy), .i e.fr.kind, .sl (e.fr.kids.map eTy), .i e.label, .sl (e.kids.map eTm)]
theorem kid_ok (e : MTm) (i : Nat) {a : MTm} {S : List UInt8} (hi : e.kids[i]? = some a) (h : ACalls Tryz.prog 163 [aTm a] [] (.s S) [] []) : ACalls Tryz.prog 213 [.i i, .c (.ptr 0 0)] (dV [rTm e]) (.s S) (dV [rTm e]) [] := by
 have hlt : i < e.kids.length := (List.getElem?_eq_some_iff.1 hi).1
 have hgt : e.kids[i] = a := by rw [List.getElem?_eq_getElem hlt] at hi; exact Option.some.inj hi
 refine ACalls.of_body Tryz.func213 (by kernel_rfl) rfl (by kernel_rfl) (by simp [Tryz.ntmps213]) (by simp) ?_
 rw [Tryz.ntmps213]
 repeat' first | ((first | refine aops_end (hK _ ?_) | refine aopsD_end (hK _ ?_) | refine aopsF_end (hK _ ?_)); clear hK K) | ((first | refine aops_go ?_ | refine aopsD_go ?_ | refine aopsF_go ?_ | refine wpcall_pure rfl (h) ?_); simp [hlt, hgt]; (try (refine gen fun q hq => ?_; cases q <;> (try simp [hlt, hgt] at hq) <;> (try (have hh : True := hq; clear hh hq))))) | refine T.r0 fun K hK => ?_ | refine T.r1 fun K hK => ?_ | (refine ⟨by omega, ?_⟩) | refine T.ct rfl ?_ | refine T.cf rfl ?_ | refine T.seq ?_ | refine T.block ?_ | refine T.skip ?_ | refine T.exit ?_
 refine T.ret (Done.obj1 (Or.inr rfl) ?_ ?_ ?_) <;> simp [Tryz.results213]

theorem text_ok {nt : Int} {d : Nat} {e : MTm} (h : TmV nt d e) (hn : nodesM e <= 1000) : ACalls Tryz.prog 163 [aTm e] [] (.s (tmTextF d e)) [] [] := by
 induction h with
 | @var d s _ hs =>
  rw [tmTextF_var]
  refine ACalls.of_body Tryz.func163 (by kernel_rfl) rfl (by kernel_rfl) (by simp [Tryz.ntmps163]) (by simp) ?_
  rw [Tryz.ntmps163]
  repeat' first | ((first | refine aops_end (hK _ ?_) | refine aopsD_end (hK _ ?_) | refine aopsF_end (hK _ ?_)); clear hK K) | ((first | refine aops_go ?_ | refine aopsD_go ?_ | refine aopsF_go ?_); simp; (try (refine gen fun q hq => ?_; cases q <;> (try simp at hq) <;> (try (have hh : True := hq; clear hh hq))))) | (refine T.ret (Done.data (Or.inr rfl) ?_ ?_) <;> simp [Tryz.results163] <;> omega) | refine T.rd (id := 12) mixed (fun _ => false) [] (by kernel_rfl) fun K hK => ?_ | refine T.rd1 (id := 12) mixed (fun _ => false) [] (by kernel_rfl) fun K hK => ?_ | refine T.rd (id := 28) mixed (fun _ => false) [] (by kernel_rfl) fun K hK => ?_ | refine T.rd1 (id := 28) mixed (fun _ => false) [] (by kernel_rfl) fun K hK => ?_ | refine T.rd (id := 29) mixed (fun _ => false) [] (by kernel_rfl) fun K hK => ?_ | refine T.rd1 (id := 29) mixed (fun _ => false) [] (by kernel_rfl) fun K hK => ?_ | refine T.r0 fun K hK => ?_ | refine T.r1 fun K hK => ?_ | (refine ⟨by omega, ?_⟩) | refine T.ct rfl ?_ | refine T.cf rfl ?_ | refine T.seq ?_ | refine T.block ?_ | refine T.skip ?_ | refine T.exit ?_
 | @num d n _ h0 h1 =>
  have k1 := Itoa_ok n (by omega) (by omega)
  rw [tmTextF_num]
  generalize Lib.itoa n = A at *
  refine ACalls.of_body Tryz.func163 (by kernel_rfl) rfl (by kernel_rfl) (by simp [Tryz.ntmps163]) (by simp) ?_
  rw [Tryz.ntmps163]
  repeat' first | ((first | refine aops_end (hK _ ?_) | refine aopsD_end (hK _ ?_) | refine aopsF_end (hK _ ?_)); clear hK K) | ((first | refine aops_go ?_ | refine aopsD_go ?_ | refine aopsF_go ?_ | refine wpcall_pure rfl (k1) ?_); simp; (try (refine gen fun q hq => ?_; cases q <;> (try simp at hq) <;> (try (have hh : True := hq; clear hh hq))))) | (refine T.ret (Done.data (Or.inr rfl) ?_ ?_) <;> simp [Tryz.results163] <;> omega) | refine T.rd (id := 12) mixed (fun _ => false) [] (by kernel_rfl) fun K hK => ?_ | refine T.rd1 (id := 12) mixed (fun _ => false) [] (by kernel_rfl) fun K hK => ?_ | refine T.rd (id := 28) mixed (fun _ => false) [] (by kernel_rfl) fun K hK => ?_ | refine T.rd1 (id := 28) mixed (fun _ => false) [] (by kernel_rfl) fun K hK => ?_ | refine T.rd (id := 29) mixed (fun _ => false) [] (by kernel_rfl) fun K hK => ?_ | refine T.rd1 (id := 29) mixed (fun _ => false) [] (by kernel_rfl) fun K hK => ?_ | refine T.r0 fun K hK => ?_ | refine T.r1 fun K hK => ?_ | (refine ⟨by omega, ?_⟩) | refine T.ct rfl ?_ | refine T.cf rfl ?_ | refine T.seq ?_ | refine T.block ?_ | refine T.skip ?_ | refine T.exit ?_
 | @tru d _ =>
  rw [tmTextF_true]
  refine ACalls.of_body Tryz.func163 (by kernel_rfl) rfl (by kernel_rfl) (by simp [Tryz.ntmps163]) (by simp) ?_
  rw [Tryz.ntmps163]
  repeat' first | ((first | refine aops_end (hK _ ?_) | refine aopsD_end (hK _ ?_) | refine aopsF_end (hK _ ?_)); clear hK K) | ((first | refine aops_go ?_ | refine aopsD_go ?_ | refine aopsF_go ?_); simp; (try (refine gen fun q hq => ?_; cases q <;> (try simp at hq) <;> (try (have hh : True := hq; clear hh hq))))) | (refine T.ret (Done.data (Or.inr rfl) ?_ ?_) <;> simp [Tryz.results163] <;> omega) | refine T.rd (id := 12) mixed (fun _ => false) [] (by kernel_rfl) fun K hK => ?_ | refine T.rd1 (id := 12) mixed (fun _ => false) [] (by kernel_rfl) fun K hK => ?_ | refine T.rd (id := 28) mixed (fun _ => false) [] (by kernel_rfl) fun K hK => ?_ | refine T.rd1 (id := 28) mixed (fun _ => false) [] (by kernel_rfl) fun K hK => ?_ | refine T.rd (id := 29) mixed (fun _ => false) [] (by kernel_rfl) fun K hK => ?_ | refine T.rd1 (id := 29) mixed (fun _ => false) [] (by kernel_rfl) fun K hK => ?_ | refine T.r0 fun K hK => ?_ | refine T.r1 fun K hK => ?_ | (refine ⟨by omega, ?_⟩) | refine T.ct rfl ?_ | refine T.cf rfl ?_ | refine T.seq ?_ | refine T.block ?_ | refine T.skip ?_ | refine T.exit ?_
 | @fls d _ =>
  rw [tmTextF_false]
  refine ACalls.of_body Tryz.func163 (by kernel_rfl) rfl (by kernel_rfl) (by simp [Tryz.ntmps163]) (by simp) ?_
  rw [Tryz.ntmps163]
  repeat' first | ((first | refine aops_end (hK _ ?_) | refine aopsD_end (hK _ ?_) | refine aopsF_end (hK _ ?_)); clear hK K) | ((first | refine aops_go ?_ | refine aopsD_go ?_ | refine aopsF_go ?_); simp; (try (refine gen fun q hq => ?_; cases q <;> (try simp at hq) <;> (try (have hh : True := hq; clear hh hq))))) | (refine T.ret (Done.data (Or.inr rfl) ?_ ?_) <;> simp [Tryz.results163] <;> omega) | refine T.rd (id := 12) mixed (fun _ => false) [] (by kernel_rfl) fun K hK => ?_ | refine T.rd1 (id := 12) mixed (fun _ => false) [] (by kernel_rfl) fun K hK => ?_ | refine T.rd (id := 28) mixed (fun _ => false) [] (by kernel_rfl) fun K hK => ?_ | refine T.rd1 (id := 28) mixed (fun _ => false) [] (by kernel_rfl) fun K hK => ?_ | refine T.rd (id := 29) mixed (fun _ => false) [] (by kernel_rfl) fun K hK => ?_ | refine T.rd1 (id := 29) mixed (fun _ => false) [] (by kernel_rfl) fun K hK => ?_ | refine T.r0 fun K hK => ?_ | refine T.r1 fun K hK => ?_ | (refine ⟨by omega, ?_⟩) | refine T.ct rfl ?_ | refine T.cf rfl ?_ | refine T.seq ?_ | refine T.block ?_ | refine T.skip ?_ | refine T.exit ?_
 | @lam d s t a _ hs ht ha ih =>
  rw [nodesM_def] at hn
  simp only [MTm.kids_mk, List.map_cons, List.map_nil, List.sum_cons, List.sum_nil] at hn
  have la := tmText_le ha (by omega)
  replace ih := ih (by omega)
  have lt := tyText_le ht
  have hs1 : s.length = 1 := by obtain ⟨c, rfl, _⟩ := name_one hs; rfl
  have k1 := kid_ok (tLam s t a) 0 (by simp) ih
  have k2 := typeText_ok (VTy.of ht) (by omega)
  rw [tmTextF_lam]
  rw [show tyTextF 4 t = tyText t from rfl] at k2
  generalize tyText t = A at *
  generalize tmTextF d a = B at *
  refine ACalls.of_body Tryz.func163 (by kernel_rfl) rfl (by kernel_rfl) (by simp [Tryz.ntmps163]) (by simp) ?_
  rw [Tryz.ntmps163]
  repeat' first | ((first | refine aops_end (hK _ ?_) | refine aopsD_end (hK _ ?_) | refine aopsF_end (hK _ ?_)); clear hK K) | ((first | refine aops_go ?_ | refine aopsD_go ?_ | refine aopsF_go ?_ | refine wpcall_pure rfl (k2) ?_); simp; (try simp (disch := omega) only [wrap64, catLe]); (try (refine gen fun q hq => ?_; cases q <;> (try simp at hq) <;> (try (have hh : True := hq; clear hh hq))))) | (refine wpcall_obj1 0 (rTm (tLam s t a)) ?_ ?_ k1 ?_; (focus (solve | simp)); (focus (solve | simp)); simp; (try simp (disch := omega) only [catLe])) | (refine T.ret (Done.data (Or.inr rfl) ?_ ?_) <;> simp [Tryz.results163] <;> omega) | refine T.rd (id := 12) mixed (fun _ => false) [] (by kernel_rfl) fun K hK => ?_ | refine T.rd1 (id := 12) mixed (fun _ => false) [] (by kernel_rfl) fun K hK => ?_ | refine T.rd (id := 28) mixed (fun _ => false) [] (by kernel_rfl) fun K hK => ?_ | refine T.rd1 (id := 28) mixed (fun _ => false) [] (by kernel_rfl) fun K hK => ?_ | refine T.rd (id := 29) mixed (fun _ => false) [] (by kernel_rfl) fun K hK => ?_ | refine T.rd1 (id := 29) mixed (fun _ => false) [] (by kernel_rfl) fun K hK => ?_ | refine T.r0 fun K hK => ?_ | refine T.r1 fun K hK => ?_ | (refine ⟨by omega, ?_⟩) | refine T.ct rfl ?_ | refine T.cf rfl ?_ | refine T.seq ?_ | refine T.block ?_ | refine T.skip ?_ | refine T.exit ?_
 | @n2 d k a b _ hk ha hb iha ihb =>
  rw [nodesM_def] at hn
  simp only [MTm.kids_mk, List.map_cons, List.map_nil, List.sum_cons, List.sum_nil] at hn
  have la := tmText_le ha (by omega)
  have lb := tmText_le hb (by omega)
  replace iha := iha (by omega)
  replace ihb := ihb (by omega)
  have k1 := kid_ok (tN2 k a b) 0 (by simp) iha
  have k2 := kid_ok (tN2 k a b) 1 (by simp) ihb
  by_cases h10 : k = 10
  ·subst h10
   rw [tmTextF_pair]
   generalize tmTextF d a = A at *
   generalize tmTextF d b = B at *
   refine ACalls.of_body Tryz.func163 (by kernel_rfl) rfl (by kernel_rfl) (by simp [Tryz.ntmps163]) (by simp) ?_
   rw [Tryz.ntmps163]
   repeat' first | ((first | refine aops_end (hK _ ?_) | refine aopsD_end (hK _ ?_) | refine aopsF_end (hK _ ?_)); clear hK K) | ((first | refine aops_go ?_ | refine aopsD_go ?_ | refine aopsF_go ?_); simp; (try simp (disch := omega) only [wrap64, catLe]); (try (refine gen fun q hq => ?_; cases q <;> (try simp at hq) <;> (try (have hh : True := hq; clear hh hq))))) | (refine wpcall_obj1 0 (rTm (tN2 10 a b)) ?_ ?_ k1 ?_; (focus (solve | simp)); (focus (solve | simp)); simp; (try simp (disch := omega) only [catLe])) | (refine wpcall_obj1 0 (rTm (tN2 10 a b)) ?_ ?_ k2 ?_; (focus (solve | simp)); (focus (solve | simp)); simp; (try simp (disch := omega) only [catLe])) | (refine T.ret (Done.data (Or.inr rfl) ?_ ?_) <;> simp [Tryz.results163] <;> omega) | refine T.rd (id := 12) mixed (fun _ => false) [] (by kernel_rfl) fun K hK => ?_ | refine T.rd1 (id := 12) mixed (fun _ => false) [] (by kernel_rfl) fun K hK => ?_ | refine T.rd (id := 28) mixed (fun _ => false) [] (by kernel_rfl) fun K hK => ?_ | refine T.rd1 (id := 28) mixed (fun _ => false) [] (by kernel_rfl) fun K hK => ?_ | refine T.rd (id := 29) mixed (fun _ => false) [] (by kernel_rfl) fun K hK => ?_ | refine T.rd1 (id := 29) mixed (fun _ => false) [] (by kernel_rfl) fun K hK => ?_ | refine T.r0 fun K hK => ?_ | refine T.r1 fun K hK => ?_ | (refine ⟨by omega, ?_⟩) | refine T.ct rfl ?_ | refine T.cf rfl ?_ | refine T.seq ?_ | refine T.block ?_ | refine T.skip ?_ | refine T.exit ?_
  ·have hk' : k = 6 \/ k = 7 \/ k = 8 := by omega
   rw [tmTextF_n2 _ hk']
   generalize tmTextF d a = A at *
   generalize tmTextF d b = B at *
   rcases hk' with rfl | rfl | rfl
   ·refine ACalls.of_body Tryz.func163 (by kernel_rfl) rfl (by kernel_rfl) (by simp [Tryz.ntmps163]) (by simp) ?_
    rw [Tryz.ntmps163]
    repeat' first | ((first | refine aops_end (hK _ ?_) | refine aopsD_end (hK _ ?_) | refine aopsF_end (hK _ ?_)); clear hK K) | ((first | refine aops_go ?_ | refine aopsD_go ?_ | refine aopsF_go ?_); simp; (try simp (disch := omega) only [wrap64, catLe]); (try (refine gen fun q hq => ?_; cases q <;> (try simp at hq) <;> (try (have hh : True := hq; clear hh hq))))) | (refine wpcall_obj1 0 (rTm (tN2 6 a b)) ?_ ?_ k1 ?_; (focus (solve | simp)); (focus (solve | simp)); simp; (try simp (disch := omega) only [catLe])) | (refine wpcall_obj1 0 (rTm (tN2 6 a b)) ?_ ?_ k2 ?_; (focus (solve | simp)); (focus (solve | simp)); simp; (try simp (disch := omega) only [catLe])) | (refine T.ret (Done.data (Or.inr rfl) ?_ ?_) <;> simp [Tryz.results163, opB] <;> omega) | refine T.rd (id := 12) mixed (fun _ => false) [] (by kernel_rfl) fun K hK => ?_ | refine T.rd1 (id := 12) mixed (fun _ => false) [] (by kernel_rfl) fun K hK => ?_ | refine T.rd (id := 28) mixed (fun _ => false) [] (by kernel_rfl) fun K hK => ?_ | refine T.rd1 (id := 28) mixed (fun _ => false) [] (by kernel_rfl) fun K hK => ?_ | refine T.rd (id := 29) mixed (fun _ => false) [] (by kernel_rfl) fun K hK => ?_ | refine T.rd1 (id := 29) mixed (fun _ => false) [] (by kernel_rfl) fun K hK => ?_ | refine T.r0 fun K hK => ?_ | refine T.r1 fun K hK => ?_ | (refine ⟨by omega, ?_⟩) | refine T.ct rfl ?_ | refine T.cf rfl ?_ | refine T.seq ?_ | refine T.block ?_ | refine T.skip ?_ | refine T.exit ?_
   ·refine ACalls.of_body Tryz.func163 (by kernel_rfl) rfl (by kernel_rfl) (by simp [Tryz.ntmps163]) (by simp) ?_
    rw [Tryz.ntmps163]
    repeat' first | ((first | refine aops_end (hK _ ?_) | refine aopsD_end (hK _ ?_) | refine aopsF_end (hK _ ?_)); clear hK K) | ((first | refine aops_go ?_ | refine aopsD_go ?_ | refine aopsF_go ?_); simp; (try simp (disch := omega) only [wrap64, catLe]); (try (refine gen fun q hq => ?_; cases q <;> (try simp at hq) <;> (try (have hh : True := hq; clear hh hq))))) | (refine wpcall_obj1 0 (rTm (tN2 7 a b)) ?_ ?_ k1 ?_; (focus (solve | simp)); (focus (solve | simp)); simp; (try simp (disch := omega) only [catLe])) | (refine wpcall_obj1 0 (rTm (tN2 7 a b)) ?_ ?_ k2 ?_; (focus (solve | simp)); (focus (solve | simp)); simp; (try simp (disch := omega) only [catLe])) | (refine T.ret (Done.data (Or.inr rfl) ?_ ?_) <;> simp [Tryz.results163, opB] <;> omega) | refine T.rd (id := 12) mixed (fun _ => false) [] (by kernel_rfl) fun K hK => ?_ | refine T.rd1 (id := 12) mixed (fun _ => false) [] (by kernel_rfl) fun K hK => ?_ | refine T.rd (id := 28) mixed (fun _ => false) [] (by kernel_rfl) fun K hK => ?_ | refine T.rd1 (id := 28) mixed (fun _ => false) [] (by kernel_rfl) fun K hK => ?_ | refine T.rd (id := 29) mixed (fun _ => false) [] (by kernel_rfl) fun K hK => ?_ | refine T.rd1 (id := 29) mixed (fun _ => false) [] (by kernel_rfl) fun K hK => ?_ | refine T.r0 fun K hK => ?_ | refine T.r1 fun K hK => ?_ | (refine ⟨by omega, ?_⟩) | refine T.ct rfl ?_ | refine T.cf rfl ?_ | refine T.seq ?_ | refine T.block ?_ | refine T.skip ?_ | refine T.exit ?_
   ·refine ACalls.of_body Tryz.func163 (by kernel_rfl) rfl (by kernel_rfl) (by simp [Tryz.ntmps163]) (by simp) ?_
    rw [Tryz.ntmps163]
    repeat' first | ((first | refine aops_end (hK _ ?_) | refine aopsD_end (hK _ ?_) | refine aopsF_end (hK _ ?_)); clear hK K) | ((first | refine aops_go ?_ | refine aopsD_go ?_ | refine aopsF_go ?_); simp; (try simp (disch := omega) only [wrap64, catLe]); (try (refine gen fun q hq => ?_; cases q <;> (try simp at hq) <;> (try (have hh : True := hq; clear hh hq))))) | (refine wpcall_obj1 0 (rTm (tN2 8 a b)) ?_ ?_ k1 ?_; (focus (solve | simp)); (focus (solve | simp)); simp; (try simp (disch := omega) only [catLe])) | (refine wpcall_obj1 0 (rTm (tN2 8 a b)) ?_ ?_ k2 ?_; (focus (solve | simp)); (focus (solve | simp)); simp; (try simp (disch := omega) only [catLe])) | (refine T.ret (Done.data (Or.inr rfl) ?_ ?_) <;> simp [Tryz.results163, opB] <;> omega) | refine T.rd (id := 12) mixed (fun _ => false) [] (by kernel_rfl) fun K hK => ?_ | refine T.rd1 (id := 12) mixed (fun _ => false) [] (by kernel_rfl) fun K hK => ?_ | refine T.rd (id := 28) mixed (fun _ => false) [] (by kernel_rfl) fun K hK => ?_ | refine T.rd1 (id := 28) mixed (fun _ => false) [] (by kernel_rfl) fun K hK => ?_ | refine T.rd (id := 29) mixed (fun _ => false) [] (by kernel_rfl) fun K hK => ?_ | refine T.rd1 (id := 29) mixed (fun _ => false) [] (by kernel_rfl) fun K hK => ?_ | refine T.r0 fun K hK => ?_ | refine T.r1 fun K hK => ?_ | (refine ⟨by omega, ?_⟩) | refine T.ct rfl ?_ | refine T.cf rfl ?_ | refine T.seq ?_ | refine T.block ?_ | refine T.skip ?_ | refine T.exit ?_
 | @ite d a b c _ ha hb hc iha ihb ihc =>
  rw [nodesM_def] at hn
  simp only [MTm.kids_mk, List.map_cons, List.map_nil, List.sum_cons, List.sum_nil] at hn
  have la := tmText_le ha (by omega)
  have lb := tmText_le hb (by omega)
  replace iha := iha (by omega)
  replace ihb := ihb (by omega)
  have lc := tmText_le hc (by omega)
  replace ihc := ihc (by omega)
  have k1 := kid_ok (tIf a b c) 0 (by simp) iha
  have k2 := kid_ok (tIf a b c) 1 (by simp) ihb
  have k3 := kid_ok (tIf a b c) 2 (by simp) ihc
  rw [tmTextF_ite]
  generalize tmTextF d a = A at *
  generalize tmTextF d b = B at *
  generalize tmTextF d c = C at *
  refine ACalls.of_body Tryz.func163 (by kernel_rfl) rfl (by kernel_rfl) (by simp [Tryz.ntmps163]) (by simp) ?_
  rw [Tryz.ntmps163]
  repeat' first | ((first | refine aops_end (hK _ ?_) | refine aopsD_end (hK _ ?_) | refine aopsF_end (hK _ ?_)); clear hK K) | ((first | refine aops_go ?_ | refine aopsD_go ?_ | refine aopsF_go ?_); simp; (try simp (disch := omega) only [wrap64, catLe]); (try (refine gen fun q hq => ?_; cases q <;> (try simp at hq) <;> (try (have hh : True := hq; clear hh hq))))) | (refine wpcall_obj1 0 (rTm (tIf a b c)) ?_ ?_ k1 ?_; (focus (solve | simp)); (focus (solve | simp)); simp; (try simp (disch := omega) only [catLe])) | (refine wpcall_obj1 0 (rTm (tIf a b c)) ?_ ?_ k2 ?_; (focus (solve | simp)); (focus (solve | simp)); simp; (try simp (disch := omega) only [catLe])) | (refine wpcall_obj1 0 (rTm (tIf a b c)) ?_ ?_ k3 ?_; (focus (solve | simp)); (focus (solve | simp)); simp; (try simp (disch := omega) only [catLe])) | (refine T.ret (Done.data (Or.inr rfl) ?_ ?_) <;> simp [Tryz.results163] <;> omega) | refine T.rd (id := 12) mixed (fun _ => false) [] (by kernel_rfl) fun K hK => ?_ | refine T.rd1 (id := 12) mixed (fun _ => false) [] (by kernel_rfl) fun K hK => ?_ | refine T.rd (id := 28) mixed (fun _ => false) [] (by kernel_rfl) fun K hK => ?_ | refine T.rd1 (id := 28) mixed (fun _ => false) [] (by kernel_rfl) fun K hK => ?_ | refine T.rd (id := 29) mixed (fun _ => false) [] (by kernel_rfl) fun K hK => ?_ | refine T.rd1 (id := 29) mixed (fun _ => false) [] (by kernel_rfl) fun K hK => ?_ | refine T.r0 fun K hK => ?_ | refine T.r1 fun K hK => ?_ | (refine ⟨by omega, ?_⟩) | refine T.ct rfl ?_ | refine T.cf rfl ?_ | refine T.seq ?_ | refine T.block ?_ | refine T.skip ?_ | refine T.exit ?_
 | @n1 d k a _ hk ha ih =>
  rw [nodesM_def] at hn
  simp only [MTm.kids_mk, List.map_cons, List.map_nil, List.sum_cons, List.sum_nil] at hn
  have la := tmText_le ha (by omega)
  replace ih := ih (by omega)
  have k1 := kid_ok (tN1 k a) 0 (by simp) ih
  rw [tmTextF_n1 _ hk]
  generalize tmTextF d a = A at *
  rcases hk with rfl | rfl
  ·refine ACalls.of_body Tryz.func163 (by kernel_rfl) rfl (by kernel_rfl) (by simp [Tryz.ntmps163]) (by simp) ?_
   rw [Tryz.ntmps163]
   repeat' first | ((first | refine aops_end (hK _ ?_) | refine aopsD_end (hK _ ?_) | refine aopsF_end (hK _ ?_)); clear hK K) | ((first | refine aops_go ?_ | refine aopsD_go ?_ | refine aopsF_go ?_); simp; (try simp (disch := omega) only [wrap64, catLe]); (try (refine gen fun q hq => ?_; cases q <;> (try simp at hq) <;> (try (have hh : True := hq; clear hh hq))))) | (refine wpcall_obj1 0 (rTm (tN1 11 a)) ?_ ?_ k1 ?_; (focus (solve | simp)); (focus (solve | simp)); simp; (try simp (disch := omega) only [catLe])) | (refine T.ret (Done.data (Or.inr rfl) ?_ ?_) <;> simp [Tryz.results163] <;> omega) | refine T.rd (id := 12) mixed (fun _ => false) [] (by kernel_rfl) fun K hK => ?_ | refine T.rd1 (id := 12) mixed (fun _ => false) [] (by kernel_rfl) fun K hK => ?_ | refine T.rd (id := 28) mixed (fun _ => false) [] (by kernel_rfl) fun K hK => ?_ | refine T.rd1 (id := 28) mixed (fun _ => false) [] (by kernel_rfl) fun K hK => ?_ | refine T.rd (id := 29) mixed (fun _ => false) [] (by kernel_rfl) fun K hK => ?_ | refine T.rd1 (id := 29) mixed (fun _ => false) [] (by kernel_rfl) fun K hK => ?_ | refine T.r0 fun K hK => ?_ | refine T.r1 fun K hK => ?_ | (refine ⟨by omega, ?_⟩) | refine T.ct rfl ?_ | refine T.cf rfl ?_ | refine T.seq ?_ | refine T.block ?_ | refine T.skip ?_ | refine T.exit ?_
  ·refine ACalls.of_body Tryz.func163 (by kernel_rfl) rfl (by kernel_rfl) (by simp [Tryz.ntmps163]) (by simp) ?_
   rw [Tryz.ntmps163]
   repeat' first | ((first | refine aops_end (hK _ ?_) | refine aopsD_end (hK _ ?_) | refine aopsF_end (hK _ ?_)); clear hK K) | ((first | refine aops_go ?_ | refine aopsD_go ?_ | refine aopsF_go ?_); simp; (try simp (disch := omega) only [wrap64, catLe]); (try (refine gen fun q hq => ?_; cases q <;> (try simp at hq) <;> (try (have hh : True := hq; clear hh hq))))) | (refine wpcall_obj1 0 (rTm (tN1 12 a)) ?_ ?_ k1 ?_; (focus (solve | simp)); (focus (solve | simp)); simp; (try simp (disch := omega) only [catLe])) | (refine T.ret (Done.data (Or.inr rfl) ?_ ?_) <;> simp [Tryz.results163] <;> omega) | refine T.rd (id := 12) mixed (fun _ => false) [] (by kernel_rfl) fun K hK => ?_ | refine T.rd1 (id := 12) mixed (fun _ => false) [] (by kernel_rfl) fun K hK => ?_ | refine T.rd (id := 28) mixed (fun _ => false) [] (by kernel_rfl) fun K hK => ?_ | refine T.rd1 (id := 28) mixed (fun _ => false) [] (by kernel_rfl) fun K hK => ?_ | refine T.rd (id := 29) mixed (fun _ => false) [] (by kernel_rfl) fun K hK => ?_ | refine T.rd1 (id := 29) mixed (fun _ => false) [] (by kernel_rfl) fun K hK => ?_ | refine T.r0 fun K hK => ?_ | refine T.r1 fun K hK => ?_ | (refine ⟨by omega, ?_⟩) | refine T.ct rfl ?_ | refine T.cf rfl ?_ | refine T.seq ?_ | refine T.block ?_ | refine T.skip ?_ | refine T.exit ?_
 | @asc d t a _ ht ha ih =>
  rw [nodesM_def] at hn
  simp only [MTm.kids_mk, List.map_cons, List.map_nil, List.sum_cons, List.sum_nil] at hn
  have la := tmText_le ha (by omega)
  replace ih := ih (by omega)
  have lt := tyText_le ht
  have k1 := kid_ok (tAs a t) 0 (by simp) ih
  have k2 := typeText_ok (VTy.of ht) (by omega)
  rw [tmTextF_as]
  rw [show tyTextF 4 t = tyText t from rfl] at k2
  generalize tyText t = A at *
  generalize tmTextF d a = B at *
  refine ACalls.of_body Tryz.func163 (by kernel_rfl) rfl (by kernel_rfl) (by simp [Tryz.ntmps163]) (by simp) ?_
  rw [Tryz.ntmps163]
  repeat' first | ((first | refine aops_end (hK _ ?_) | refine aopsD_end (hK _ ?_) | refine aopsF_end (hK _ ?_)); clear hK K) | ((first | refine aops_go ?_ | refine aopsD_go ?_ | refine aopsF_go ?_ | refine wpcall_pure rfl (k2) ?_); simp; (try simp (disch := omega) only [wrap64, catLe]); (try (refine gen fun q hq => ?_; cases q <;> (try simp at hq) <;> (try (have hh : True := hq; clear hh hq))))) | (refine wpcall_obj1 0 (rTm (tAs a t)) ?_ ?_ k1 ?_; (focus (solve | simp)); (focus (solve | simp)); simp; (try simp (disch := omega) only [catLe])) | (refine T.ret (Done.data (Or.inr rfl) ?_ ?_) <;> simp [Tryz.results163] <;> omega) | refine T.rd (id := 12) mixed (fun _ => false) [] (by kernel_rfl) fun K hK => ?_ | refine T.rd1 (id := 12) mixed (fun _ => false) [] (by kernel_rfl) fun K hK => ?_ | refine T.rd (id := 28) mixed (fun _ => false) [] (by kernel_rfl) fun K hK => ?_ | refine T.rd1 (id := 28) mixed (fun _ => false) [] (by kernel_rfl) fun K hK => ?_ | refine T.rd (id := 29) mixed (fun _ => false) [] (by kernel_rfl) fun K hK => ?_ | refine T.rd1 (id := 29) mixed (fun _ => false) [] (by kernel_rfl) fun K hK => ?_ | refine T.r0 fun K hK => ?_ | refine T.r1 fun K hK => ?_ | (refine ⟨by omega, ?_⟩) | refine T.ct rfl ?_ | refine T.cf rfl ?_ | refine T.seq ?_ | refine T.block ?_ | refine T.skip ?_ | refine T.exit ?_
 | @cast d f t l a _ hf ht _ hl ha ih =>
  rw [nodesM_def] at hn
  simp only [MTm.kids_mk, List.map_cons, List.map_nil, List.sum_cons, List.sum_nil] at hn
  have la := tmText_le ha (by omega)
  replace ih := ih (by omega)
  have lt := tyText_le ht
  have lf := tyText_le hf
  have hlb := lab_bound hl
  have ll := itoa_len_le (n := l) (by omega) (by omega)
  have k1 := kid_ok (tCast a f t l) 0 (by simp) ih
  have k2 := typeText_ok (VTy.of ht) (by omega)
  have k3 := typeText_ok (VTy.of hf) (by omega)
  have hl' : -1000 <= l /\ l <= 1000 := by
   simp only [labM, inM, Bool.or_eq_true, Bool.and_eq_true, decide_eq_true_eq] at hl
   omega
  have k4 := Itoa_ok l (by omega) (by omega)
  rw [tmTextF_cast]
  rw [show tyTextF 4 t = tyText t from rfl] at k2
  rw [show tyTextF 4 f = tyText f from rfl] at k3
  generalize tyText t = A at *
  generalize tyText f = C at *
  generalize tmTextF d a = B at *
  generalize Lib.itoa l = D at *
  refine ACalls.of_body Tryz.func163 (by kernel_rfl) rfl (by kernel_rfl) (by simp [Tryz.ntmps163]) (by simp) ?_
  rw [Tryz.ntmps163]
  repeat' first | ((first | refine aops_end (hK _ ?_) | refine aopsD_end (hK _ ?_) | refine aopsF_end (hK _ ?_)); clear hK K) | ((first | refine aops_go ?_ | refine aopsD_go ?_ | refine aopsF_go ?_ | refine wpcall_pure rfl (k3) ?_ | refine wpcall_pure rfl (k2) ?_ | refine wpcall_pure rfl (k4) ?_); simp; (try simp (disch := omega) only [wrap64, catLe]); (try (refine gen fun q hq => ?_; cases q <;> (try simp at hq) <;> (try (have hh : True := hq; clear hh hq))))) | (refine wpcall_obj1 0 (rTm (tCast a f t l)) ?_ ?_ k1 ?_; (focus (solve | simp)); (focus (solve | simp)); simp; (try simp (disch := omega) only [catLe])) | (refine T.ret (Done.data (Or.inr rfl) ?_ ?_) <;> simp [Tryz.results163] <;> omega) | refine T.rd (id := 12) mixed (fun _ => false) [] (by kernel_rfl) fun K hK => ?_ | refine T.rd1 (id := 12) mixed (fun _ => false) [] (by kernel_rfl) fun K hK => ?_ | refine T.rd (id := 28) mixed (fun _ => false) [] (by kernel_rfl) fun K hK => ?_ | refine T.rd1 (id := 28) mixed (fun _ => false) [] (by kernel_rfl) fun K hK => ?_ | refine T.rd (id := 29) mixed (fun _ => false) [] (by kernel_rfl) fun K hK => ?_ | refine T.rd1 (id := 29) mixed (fun _ => false) [] (by kernel_rfl) fun K hK => ?_ | refine T.r0 fun K hK => ?_ | refine T.r1 fun K hK => ?_ | (refine ⟨by omega, ?_⟩) | refine T.ct rfl ?_ | refine T.cf rfl ?_ | refine T.seq ?_ | refine T.block ?_ | refine T.skip ?_ | refine T.exit ?_

end Go.Proofs.YtflmjilnecanhaaGreatDoor

namespace Go.Proofs.YtflmjilnecanhaaGreatDoor
open Go Go.Av
attribute [local irreducible] T ACalls TX EX LX Draws Some_ ACallsX eTy eTm MTy.kind MTy.kids MTm.kind MTm.name MTm.num MTm.ty MTm.fr MTm.label MTm.kids
attribute [local simp] eTy_def eTm_def
set_option maxHeartbeats 16000000
set_option maxRecDepth 8000

theorem valueText_ok {d : Nat} {e : MTm} (h : TmV 13 d e) (hv : valM e = true) : ACalls Tryz.prog 87 [aTm e] [] (.s (valTextF d e)) [] [] := by
 induction h with
 | @var d s _ hs => exact absurd hv (by simp [valM_def, proxyM, injM, plainM])
 | @num d n hn h0 h1 =>
  have k1 := isProxy_ok (tNum n)
  rw [show proxyM (tNum n) = false by simp [proxyM]] at k1
  have k2 := text_ok (TmV.num (d := d) hn h0 h1) (by simp [nodesM_def])
  rw [tmTextF_num] at k2
  rw [valTextF_num]
  generalize Lib.itoa n = A at *
  refine ACalls.of_body Tryz.func87 (by kernel_rfl) rfl (by kernel_rfl) (by simp [Tryz.ntmps87]) (by simp) ?_
  rw [Tryz.ntmps87]
  repeat' first | ((first | refine aops_end (hK _ ?_) | refine aopsD_end (hK _ ?_) | refine aopsF_end (hK _ ?_)); clear hK K) | ((first | refine aops_go ?_ | refine aopsD_go ?_ | refine aopsF_go ?_ | (refine wpcall_pure ?_ (k1) ?_; (focus (solve | simp))) | (refine wpcall_pure ?_ (k2) ?_; (focus (solve | simp)))); simp; (try (refine gen fun q hq => ?_; cases q <;> (try simp at hq) <;> (try (have hh : True := hq; clear hh hq))))) | (refine T.ret (Done.data (Or.inr rfl) ?_ ?_) <;> simp [Tryz.results87] <;> omega) | refine T.r0 fun K hK => ?_ | refine T.r1 fun K hK => ?_ | (refine ⟨by omega, ?_⟩) | refine T.ct rfl ?_ | refine T.cf rfl ?_ | refine T.seq ?_ | refine T.block ?_ | refine T.skip ?_ | refine T.exit ?_
 | @tru d hn =>
  have k1 := isProxy_ok tTrue
  rw [show proxyM tTrue = false by simp [proxyM]] at k1
  have k2 := text_ok (TmV.tru (d := d) hn) (by simp [nodesM_def])
  rw [tmTextF_true] at k2
  rw [valTextF_true]
  refine ACalls.of_body Tryz.func87 (by kernel_rfl) rfl (by kernel_rfl) (by simp [Tryz.ntmps87]) (by simp) ?_
  rw [Tryz.ntmps87]
  repeat' first | ((first | refine aops_end (hK _ ?_) | refine aopsD_end (hK _ ?_) | refine aopsF_end (hK _ ?_)); clear hK K) | ((first | refine aops_go ?_ | refine aopsD_go ?_ | refine aopsF_go ?_ | (refine wpcall_pure ?_ (k1) ?_; (focus (solve | simp))) | (refine wpcall_pure ?_ (k2) ?_; (focus (solve | simp)))); simp; (try (refine gen fun q hq => ?_; cases q <;> (try simp at hq) <;> (try (have hh : True := hq; clear hh hq))))) | (refine T.ret (Done.data (Or.inr rfl) ?_ ?_) <;> simp [Tryz.results87] <;> omega) | refine T.r0 fun K hK => ?_ | refine T.r1 fun K hK => ?_ | (refine ⟨by omega, ?_⟩) | refine T.ct rfl ?_ | refine T.cf rfl ?_ | refine T.seq ?_ | refine T.block ?_ | refine T.skip ?_ | refine T.exit ?_
 | @fls d hn =>
  have k1 := isProxy_ok tFalse
  rw [show proxyM tFalse = false by simp [proxyM]] at k1
  have k2 := text_ok (TmV.fls (d := d) hn) (by simp [nodesM_def])
  rw [tmTextF_false] at k2
  rw [valTextF_false]
  refine ACalls.of_body Tryz.func87 (by kernel_rfl) rfl (by kernel_rfl) (by simp [Tryz.ntmps87]) (by simp) ?_
  rw [Tryz.ntmps87]
  repeat' first | ((first | refine aops_end (hK _ ?_) | refine aopsD_end (hK _ ?_) | refine aopsF_end (hK _ ?_)); clear hK K) | ((first | refine aops_go ?_ | refine aopsD_go ?_ | refine aopsF_go ?_ | (refine wpcall_pure ?_ (k1) ?_; (focus (solve | simp))) | (refine wpcall_pure ?_ (k2) ?_; (focus (solve | simp)))); simp; (try (refine gen fun q hq => ?_; cases q <;> (try simp at hq) <;> (try (have hh : True := hq; clear hh hq))))) | (refine T.ret (Done.data (Or.inr rfl) ?_ ?_) <;> simp [Tryz.results87] <;> omega) | refine T.r0 fun K hK => ?_ | refine T.r1 fun K hK => ?_ | (refine ⟨by omega, ?_⟩) | refine T.ct rfl ?_ | refine T.cf rfl ?_ | refine T.seq ?_ | refine T.block ?_ | refine T.skip ?_ | refine T.exit ?_
 | @lam d s t a _ hs ht ha ih =>
  have k1 := isProxy_ok (tLam s t a)
  rw [show proxyM (tLam s t a) = false by simp [proxyM]] at k1
  rw [valTextF_lam, funB]
  refine ACalls.of_body Tryz.func87 (by kernel_rfl) rfl (by kernel_rfl) (by simp [Tryz.ntmps87]) (by simp) ?_
  rw [Tryz.ntmps87]
  repeat' first | ((first | refine aops_end (hK _ ?_) | refine aopsD_end (hK _ ?_) | refine aopsF_end (hK _ ?_)); clear hK K) | ((first | refine aops_go ?_ | refine aopsD_go ?_ | refine aopsF_go ?_ | (refine wpcall_pure ?_ (k1) ?_; (focus (solve | simp [eTm_def])))); simp [eTm_def]; (try (refine gen fun q hq => ?_; cases q <;> (try simp [eTm_def] at hq) <;> (try (have hh : True := hq; clear hh hq))))) | (refine T.ret (Done.data (Or.inr rfl) ?_ ?_) <;> simp [Tryz.results87] <;> omega) | refine T.r0 fun K hK => ?_ | refine T.r1 fun K hK => ?_ | (refine ⟨by omega, ?_⟩) | refine T.ct rfl ?_ | refine T.cf rfl ?_ | refine T.seq ?_ | refine T.block ?_ | refine T.skip ?_ | refine T.exit ?_
 | @n2 d k a b _ hk ha hb iha ihb =>
  have h10 : k = 10 := by
   rcases hk with rfl | rfl | rfl | rfl
   ·exact absurd hv (by simp [valM_def, proxyM, injM, plainM])
   ·exact absurd hv (by simp [valM_def, proxyM, injM, plainM])
   ·exact absurd hv (by simp [valM_def, proxyM, injM, plainM])
   ·rfl
  subst h10
  rw [valTextF_pair, pairB]
  refine ACalls.of_body Tryz.func87 (by kernel_rfl) rfl (by kernel_rfl) (by simp [Tryz.ntmps87]) (by simp) ?_
  rw [Tryz.ntmps87]
  repeat' first | ((first | refine aops_end (hK _ ?_) | refine aopsD_end (hK _ ?_) | refine aopsF_end (hK _ ?_)); clear hK K) | ((first | refine aops_go ?_ | refine aopsD_go ?_ | refine aopsF_go ?_); simp [eTm_def]; (try (refine gen fun q hq => ?_; cases q <;> (try simp [eTm_def] at hq) <;> (try (have hh : True := hq; clear hh hq))))) | (refine T.ret (Done.data (Or.inr rfl) ?_ ?_) <;> simp [Tryz.results87] <;> omega) | refine T.r0 fun K hK => ?_ | refine T.r1 fun K hK => ?_ | (refine ⟨by omega, ?_⟩) | refine T.ct rfl ?_ | refine T.cf rfl ?_ | refine T.seq ?_ | refine T.block ?_ | refine T.skip ?_ | refine T.exit ?_
 | @ite d a b c _ ha hb hc iha ihb ihc => exact absurd hv (by simp [valM_def, proxyM, injM, plainM])
 | @n1 d k a _ hk ha ih => rcases hk with rfl | rfl <;> exact absurd hv (by simp [valM_def, proxyM, injM, plainM])
 | @asc d t a hn ht ha ih => exact absurd rfl hn
 | @cast d f t l a _ hf ht _ hl ha ih =>
  have k1 := isProxy_ok (tCast a f t l)
  rw [proxy_cast] at k1
  rw [valTextF_cast]
  rcases val_cast hv with hp | ⟨hp, hi, hva⟩
  ·rw [if_pos hp]
   rw [decide_eq_true hp] at k1
   by_cases h5 : t.kind = 5
   ·rw [if_pos h5, pairB]
    refine ACalls.of_body Tryz.func87 (by kernel_rfl) rfl (by kernel_rfl) (by simp [Tryz.ntmps87]) (by simp) ?_
    rw [Tryz.ntmps87]
    repeat' first | ((first | refine aops_end (hK _ ?_) | refine aopsD_end (hK _ ?_) | refine aopsF_end (hK _ ?_)); clear hK K) | ((first | refine aops_go ?_ | refine aopsD_go ?_ | refine aopsF_go ?_ | (refine wpcall_pure ?_ (k1) ?_; (focus (solve | simp [eTm_def, h5])))); simp [eTm_def, h5]; (try (refine gen fun q hq => ?_; cases q <;> (try simp [eTm_def, h5] at hq) <;> (try (have hh : True := hq; clear hh hq))))) | (refine T.ret (Done.data (Or.inr rfl) ?_ ?_) <;> simp [Tryz.results87] <;> omega) | refine T.r0 fun K hK => ?_ | refine T.r1 fun K hK => ?_ | (refine ⟨by omega, ?_⟩) | refine T.ct rfl ?_ | refine T.cf rfl ?_ | refine T.seq ?_ | refine T.block ?_ | refine T.skip ?_ | refine T.exit ?_
   ·rw [if_neg h5, funB]
    refine ACalls.of_body Tryz.func87 (by kernel_rfl) rfl (by kernel_rfl) (by simp [Tryz.ntmps87]) (by simp) ?_
    rw [Tryz.ntmps87]
    repeat' first | ((first | refine aops_end (hK _ ?_) | refine aopsD_end (hK _ ?_) | refine aopsF_end (hK _ ?_)); clear hK K) | ((first | refine aops_go ?_ | refine aopsD_go ?_ | refine aopsF_go ?_ | (refine wpcall_pure ?_ (k1) ?_; (focus (solve | simp [eTm_def, h5])))); simp [eTm_def, h5]; (try (refine gen fun q hq => ?_; cases q <;> (try simp [eTm_def, h5] at hq) <;> (try (have hh : True := hq; clear hh hq))))) | (refine T.ret (Done.data (Or.inr rfl) ?_ ?_) <;> simp [Tryz.results87] <;> omega) | refine T.r0 fun K hK => ?_ | refine T.r1 fun K hK => ?_ | (refine ⟨by omega, ?_⟩) | refine T.ct rfl ?_ | refine T.cf rfl ?_ | refine T.seq ?_ | refine T.block ?_ | refine T.skip ?_ | refine T.exit ?_
  ·rw [if_neg hp]
   rw [decide_eq_false hp] at k1
   have k2 := ih hva
   generalize valTextF d a = A at *
   refine ACalls.of_body Tryz.func87 (by kernel_rfl) rfl (by kernel_rfl) (by simp [Tryz.ntmps87]) (by simp) ?_
   rw [Tryz.ntmps87]
   repeat' first | ((first | refine aops_end (hK _ ?_) | refine aopsD_end (hK _ ?_) | refine aopsF_end (hK _ ?_)); clear hK K) | ((first | refine aops_go ?_ | refine aopsD_go ?_ | refine aopsF_go ?_ | (refine wpcall_pure ?_ (k1) ?_; (focus (solve | simp [eTm_def]))) | (refine wpcall_pure ?_ (k2) ?_; (focus (solve | simp [eTm_def])))); simp [eTm_def]; (try (refine gen fun q hq => ?_; cases q <;> (try simp [eTm_def] at hq) <;> (try (have hh : True := hq; clear hh hq))))) | (refine T.ret (Done.data (Or.inr rfl) ?_ ?_) <;> simp [Tryz.results87] <;> omega) | refine T.r0 fun K hK => ?_ | refine T.r1 fun K hK => ?_ | (refine ⟨by omega, ?_⟩) | refine T.ct rfl ?_ | refine T.cf rfl ?_ | refine T.seq ?_ | refine T.block ?_ | refine T.skip ?_ | refine T.exit ?_

end Go.Proofs.YtflmjilnecanhaaGreatDoor

namespace Go.Proofs.YtflmjilnecanhaaGreatDoor
open Go Go.Av
attribute [local irreducible] T ACalls TX EX LX Draws Some_ ACallsX eTy eTm MTy.kind MTy.kids MTm.kind MTm.name MTm.num MTm.ty MTm.fr MTm.label MTm.kids
attribute [local simp] eTy_def eTm_def
set_option maxHeartbeats 16000000
set_option maxRecDepth 8000
attribute [local simp] Option.bind

theorem castedC_ok (e : MTm) (f t : MTy) (l : Int) : ACalls Tryz.prog 298 [aTm e, aTy f, aTy t, .i l] [] (aTm (tCast e f t l)) [] [] := by
 refine ACalls.of_body Tryz.func298 (by kernel_rfl) rfl (by kernel_rfl) (by simp [Tryz.ntmps298]) (by simp) ?_
 rw [Tryz.ntmps298]
 repeat' first | ((first | refine aops_end (hK _ ?_) | refine aopsD_end (hK _ ?_) | refine aopsF_end (hK _ ?_)); clear hK K) | ((first | refine aops_go ?_ | refine aopsD_go ?_ | refine aopsF_go ?_); simp; (try (refine gen fun q hq => ?_; cases q <;> (try simp at hq) <;> (try (have hh : True := hq; clear hh hq))))) | (refine T.ret (Done.val (Or.inr rfl) ?_) <;> simp [resAs, Tryz.results298, eTm_def] <;> omega) | refine T.r0 fun K hK => ?_ | refine T.r1 fun K hK => ?_ | (refine ⟨by omega, ?_⟩) | refine T.ct rfl ?_ | refine T.cf rfl ?_ | refine T.seq ?_ | refine T.block ?_ | refine T.skip ?_ | refine T.exit ?_

theorem nodeC1_ok (k : Int) (a : MTm) : ACalls Tryz.prog 299 [.i k, .l [eTm a]] [] (aTm (tN1 k a)) [] [] := by
 refine ACalls.of_body Tryz.func299 (by kernel_rfl) rfl (by kernel_rfl) (by simp [Tryz.ntmps299]) (by simp) ?_
 rw [Tryz.ntmps299]
 repeat' first | ((first | refine aops_end (hK _ ?_) | refine aopsD_end (hK _ ?_) | refine aopsF_end (hK _ ?_)); clear hK K) | ((first | refine aops_go ?_ | refine aopsD_go ?_ | refine aopsF_go ?_); simp; (try (refine gen fun q hq => ?_; cases q <;> (try simp at hq) <;> (try (have hh : True := hq; clear hh hq))))) | (refine T.ret (Done.val (Or.inr rfl) ?_) <;> simp [resAs, Tryz.results299, eTm_def] <;> omega) | refine T.r0 fun K hK => ?_ | refine T.r1 fun K hK => ?_ | (refine ⟨by omega, ?_⟩) | refine T.ct rfl ?_ | refine T.cf rfl ?_ | refine T.seq ?_ | refine T.block ?_ | refine T.skip ?_ | refine T.exit ?_

theorem nodeC2_ok (k : Int) (a b : MTm) : ACalls Tryz.prog 299 [.i k, .l [eTm a, eTm b]] [] (aTm (tN2 k a b)) [] [] := by
 refine ACalls.of_body Tryz.func299 (by kernel_rfl) rfl (by kernel_rfl) (by simp [Tryz.ntmps299]) (by simp) ?_
 rw [Tryz.ntmps299]
 repeat' first | ((first | refine aops_end (hK _ ?_) | refine aopsD_end (hK _ ?_) | refine aopsF_end (hK _ ?_)); clear hK K) | ((first | refine aops_go ?_ | refine aopsD_go ?_ | refine aopsF_go ?_); simp; (try (refine gen fun q hq => ?_; cases q <;> (try simp at hq) <;> (try (have hh : True := hq; clear hh hq))))) | (refine T.ret (Done.val (Or.inr rfl) ?_) <;> simp [resAs, Tryz.results299, eTm_def] <;> omega) | refine T.r0 fun K hK => ?_ | refine T.r1 fun K hK => ?_ | (refine ⟨by omega, ?_⟩) | refine T.ct rfl ?_ | refine T.cf rfl ?_ | refine T.seq ?_ | refine T.block ?_ | refine T.skip ?_ | refine T.exit ?_

theorem castRule_cast_ok (a : MTm) (f t : MTy) (l : Int) (d : Nat) (ha : TmV 13 d a) (hn : nTm (tCast a f t l) <= 1073741824) : ACalls Tryz.prog 282 [aTm (tCast a f t l)] [] (.tup (stepR (castCast a f t l))) [] [] := by
 rw [nTm_cast] at hn
 have han := nTm_def a
 have k1 := isProxy_ok a
 have k2 := ground_ok f.kind
 have k3 := ground_ok t.kind
 have k4 := isGround_ok t (by omega)
 have k5 := isInjection_ok a (by omega)
 have k6 := TypeSame_ok a.fr t (by omega)
 have k7 := castedC_ok a f (groundT f.kind) l
 have k8 := castedC_ok (tCast a f (groundT f.kind) l) (groundT f.kind) t l
 have k9 := castedC_ok a f (groundT t.kind) l
 have k10 := castedC_ok (tCast a f (groundT t.kind) l) (groundT t.kind) t l
 unfold castCast
 by_cases h1 : f.kind = t.kind
 ·rw [if_pos h1]
  refine ACalls.of_body Tryz.func282 (by kernel_rfl) rfl (by kernel_rfl) (by simp [Tryz.ntmps282]) (by simp) ?_
  rw [Tryz.ntmps282]
  repeat' first | ((first | refine aops_end (hK _ ?_) | refine aopsD_end (hK _ ?_) | refine aopsF_end (hK _ ?_)); clear hK K) | ((first | refine aops_go ?_ | refine aopsD_go ?_ | refine aopsF_go ?_ | refine wpcall_pure rfl (k1) ?_); simp [eTm_def, h1]; (try simp (disch := omega) only [wrap64]); (try (refine gen fun q hq => ?_; cases q <;> (try simp [eTm_def, h1] at hq) <;> (try (have hh : True := hq; clear hh hq))))) | (refine T.ret (Done.tup (Or.inr rfl) ?_) <;> simp [resAs, Tryz.results282, eTm_def] <;> omega) | refine T.rdF (id := 3) mixed (fun _ => false) [8, 9, 10, 11] [1, 2, 3, 5, 6, 7] 11 [] (by kernel_rfl) fun K hK => ?_ | refine T.rdF1 (id := 3) mixed (fun _ => false) [8, 9, 10, 11] [1, 2, 3, 5, 6, 7] 11 [] (by kernel_rfl) fun K hK => ?_ | (refine ⟨?_, ?_⟩; (focus (intros; refine wpcall_pure rfl (k1) ?_; simp; done))) | refine T.rd (id := 4) mixed (fun _ => false) [31] (by kernel_rfl) fun K hK => ?_ | refine T.rd1 (id := 4) mixed (fun _ => false) [31] (by kernel_rfl) fun K hK => ?_ | refine T.rd (id := 7) mixed (fun _ => false) [23] (by kernel_rfl) fun K hK => ?_ | refine T.rd1 (id := 7) mixed (fun _ => false) [23] (by kernel_rfl) fun K hK => ?_ | refine T.rd (id := 14) mixed (fun _ => false) [13] (by kernel_rfl) fun K hK => ?_ | refine T.rd1 (id := 14) mixed (fun _ => false) [13] (by kernel_rfl) fun K hK => ?_ | refine T.rd (id := 17) mixed (fun _ => false) [13] (by kernel_rfl) fun K hK => ?_ | refine T.rd1 (id := 17) mixed (fun _ => false) [13] (by kernel_rfl) fun K hK => ?_ | refine T.rdF (id := 22) mixed (fun _ => false) [3] [2] 4 [] (by kernel_rfl) fun K hK => ?_ | refine T.rdF1 (id := 22) mixed (fun _ => false) [3] [2] 4 [] (by kernel_rfl) fun K hK => ?_ | (refine ⟨?_, ?_⟩; (focus (intros; refine wpcall_pure rfl (k1) ?_; simp; done))) | refine T.r0 fun K hK => ?_ | refine T.r1 fun K hK => ?_ | (refine ⟨by omega, ?_⟩) | refine T.ct rfl ?_ | refine T.cf rfl ?_ | refine T.seq ?_ | refine T.block ?_ | refine T.skip ?_ | refine T.exit ?_
 rw [if_neg h1]
 by_cases h2 : t.kind = 1
 ·rw [if_pos h2]
  generalize hg : groundT f.kind = g at *
  refine ACalls.of_body Tryz.func282 (by kernel_rfl) rfl (by kernel_rfl) (by simp [Tryz.ntmps282]) (by simp) ?_
  rw [Tryz.ntmps282]
  repeat' first | ((first | refine aops_end (hK _ ?_) | refine aopsD_end (hK _ ?_) | refine aopsF_end (hK _ ?_)); clear hK K) | ((first | refine aops_go ?_ | refine aopsD_go ?_ | refine aopsF_go ?_ | refine wpcall_pure rfl (k1) ?_ | refine wpcall_pure rfl (k2) ?_ | (refine wpcall_pure ?_ (k7) ?_; (focus (solve | simp [eTm_def, h1, h2]))) | (refine wpcall_pure ?_ (k8) ?_; (focus (solve | simp [eTm_def, h1, h2])))); simp [eTm_def, h1, h2]; (try simp (disch := omega) only [wrap64]); (try (refine gen fun q hq => ?_; cases q <;> (try simp [eTm_def, h1, h2] at hq) <;> (try (have hh : True := hq; clear hh hq))))) | (refine T.ret (Done.tup (Or.inr rfl) ?_) <;> simp [resAs, Tryz.results282, eTm_def] <;> omega) | refine T.rdF (id := 3) mixed (fun _ => false) [8, 9, 10, 11] [1, 2, 3, 5, 6, 7] 11 [] (by kernel_rfl) fun K hK => ?_ | refine T.rdF1 (id := 3) mixed (fun _ => false) [8, 9, 10, 11] [1, 2, 3, 5, 6, 7] 11 [] (by kernel_rfl) fun K hK => ?_ | (refine ⟨?_, ?_⟩; (focus (intros; refine wpcall_pure rfl (k1) ?_; simp; done))) | (refine ⟨?_, ?_⟩; (focus (intros; refine wpcall_pure rfl (k2) ?_; simp; done))) | (refine ⟨?_, ?_⟩; (focus (intros; refine wpcall_pure ?_ (k7) ?_; (focus (solve | simp [eTm_def, h1, h2])); simp; done))) | (refine ⟨?_, ?_⟩; (focus (intros; refine wpcall_pure ?_ (k8) ?_; (focus (solve | simp [eTm_def, h1, h2])); simp; done))) | refine T.rd (id := 4) mixed (fun _ => false) [31] (by kernel_rfl) fun K hK => ?_ | refine T.rd1 (id := 4) mixed (fun _ => false) [31] (by kernel_rfl) fun K hK => ?_ | refine T.rd (id := 7) mixed (fun _ => false) [23] (by kernel_rfl) fun K hK => ?_ | refine T.rd1 (id := 7) mixed (fun _ => false) [23] (by kernel_rfl) fun K hK => ?_ | refine T.rd (id := 14) mixed (fun _ => false) [13] (by kernel_rfl) fun K hK => ?_ | refine T.rd1 (id := 14) mixed (fun _ => false) [13] (by kernel_rfl) fun K hK => ?_ | refine T.rd (id := 17) mixed (fun _ => false) [13] (by kernel_rfl) fun K hK => ?_ | refine T.rd1 (id := 17) mixed (fun _ => false) [13] (by kernel_rfl) fun K hK => ?_ | refine T.rdF (id := 22) mixed (fun _ => false) [3] [2] 4 [] (by kernel_rfl) fun K hK => ?_ | refine T.rdF1 (id := 22) mixed (fun _ => false) [3] [2] 4 [] (by kernel_rfl) fun K hK => ?_ | (refine ⟨?_, ?_⟩; (focus (intros; refine wpcall_pure rfl (k1) ?_; simp; done))) | (refine ⟨?_, ?_⟩; (focus (intros; refine wpcall_pure rfl (k2) ?_; simp; done))) | (refine ⟨?_, ?_⟩; (focus (intros; refine wpcall_pure ?_ (k7) ?_; (focus (solve | simp [eTm_def, h1, h2])); simp; done))) | (refine ⟨?_, ?_⟩; (focus (intros; refine wpcall_pure ?_ (k8) ?_; (focus (solve | simp [eTm_def, h1, h2])); simp; done))) | refine T.r0 fun K hK => ?_ | refine T.r1 fun K hK => ?_ | (refine ⟨by omega, ?_⟩) | refine T.ct rfl ?_ | refine T.cf rfl ?_ | refine T.seq ?_ | refine T.block ?_ | refine T.skip ?_ | refine T.exit ?_
 rw [if_neg h2]
 cases hgr : isGroundM t with
 | false =>
  rw [hgr] at k4
  simp only [if_true]
  generalize hg : groundT t.kind = g at *
  refine ACalls.of_body Tryz.func282 (by kernel_rfl) rfl (by kernel_rfl) (by simp [Tryz.ntmps282]) (by simp) ?_
  rw [Tryz.ntmps282]
  repeat' first | ((first | refine aops_end (hK _ ?_) | refine aopsD_end (hK _ ?_) | refine aopsF_end (hK _ ?_)); clear hK K) | ((first | refine aops_go ?_ | refine aopsD_go ?_ | refine aopsF_go ?_ | refine wpcall_pure rfl (k1) ?_ | refine wpcall_pure rfl (k3) ?_ | refine wpcall_pure rfl (k4) ?_ | (refine wpcall_pure ?_ (k9) ?_; (focus (solve | simp [eTm_def, h1, h2]))) | (refine wpcall_pure ?_ (k10) ?_; (focus (solve | simp [eTm_def, h1, h2])))); simp [eTm_def, h1, h2]; (try simp (disch := omega) only [wrap64]); (try (refine gen fun q hq => ?_; cases q <;> (try simp [eTm_def, h1, h2] at hq) <;> (try (have hh : True := hq; clear hh hq))))) | (refine T.ret (Done.tup (Or.inr rfl) ?_) <;> simp [resAs, Tryz.results282, eTm_def] <;> omega) | refine T.rdF (id := 3) mixed (fun _ => false) [8, 9, 10, 11] [1, 2, 3, 5, 6, 7] 11 [] (by kernel_rfl) fun K hK => ?_ | refine T.rdF1 (id := 3) mixed (fun _ => false) [8, 9, 10, 11] [1, 2, 3, 5, 6, 7] 11 [] (by kernel_rfl) fun K hK => ?_ | (refine ⟨?_, ?_⟩; (focus (intros; refine wpcall_pure rfl (k1) ?_; simp; done))) | (refine ⟨?_, ?_⟩; (focus (intros; refine wpcall_pure rfl (k3) ?_; simp; done))) | (refine ⟨?_, ?_⟩; (focus (intros; refine wpcall_pure rfl (k4) ?_; simp; done))) | (refine ⟨?_, ?_⟩; (focus (intros; refine wpcall_pure ?_ (k9) ?_; (focus (solve | simp [eTm_def, h1, h2])); simp; done))) | (refine ⟨?_, ?_⟩; (focus (intros; refine wpcall_pure ?_ (k10) ?_; (focus (solve | simp [eTm_def, h1, h2])); simp; done))) | refine T.rd (id := 4) mixed (fun _ => false) [31] (by kernel_rfl) fun K hK => ?_ | refine T.rd1 (id := 4) mixed (fun _ => false) [31] (by kernel_rfl) fun K hK => ?_ | refine T.rd (id := 7) mixed (fun _ => false) [23] (by kernel_rfl) fun K hK => ?_ | refine T.rd1 (id := 7) mixed (fun _ => false) [23] (by kernel_rfl) fun K hK => ?_ | refine T.rd (id := 14) mixed (fun _ => false) [13] (by kernel_rfl) fun K hK => ?_ | refine T.rd1 (id := 14) mixed (fun _ => false) [13] (by kernel_rfl) fun K hK => ?_ | refine T.rd (id := 17) mixed (fun _ => false) [13] (by kernel_rfl) fun K hK => ?_ | refine T.rd1 (id := 17) mixed (fun _ => false) [13] (by kernel_rfl) fun K hK => ?_ | refine T.rdF (id := 22) mixed (fun _ => false) [3] [2] 4 [] (by kernel_rfl) fun K hK => ?_ | refine T.rdF1 (id := 22) mixed (fun _ => false) [3] [2] 4 [] (by kernel_rfl) fun K hK => ?_ | (refine ⟨?_, ?_⟩; (focus (intros; refine wpcall_pure rfl (k1) ?_; simp; done))) | (refine ⟨?_, ?_⟩; (focus (intros; refine wpcall_pure rfl (k3) ?_; simp; done))) | (refine ⟨?_, ?_⟩; (focus (intros; refine wpcall_pure rfl (k4) ?_; simp; done))) | (refine ⟨?_, ?_⟩; (focus (intros; refine wpcall_pure ?_ (k9) ?_; (focus (solve | simp [eTm_def, h1, h2])); simp; done))) | (refine ⟨?_, ?_⟩; (focus (intros; refine wpcall_pure ?_ (k10) ?_; (focus (solve | simp [eTm_def, h1, h2])); simp; done))) | refine T.r0 fun K hK => ?_ | refine T.r1 fun K hK => ?_ | (refine ⟨by omega, ?_⟩) | refine T.ct rfl ?_ | refine T.cf rfl ?_ | refine T.seq ?_ | refine T.block ?_ | refine T.skip ?_ | refine T.exit ?_
 | true =>
  rw [hgr] at k4
  simp only [Bool.true_eq_false, if_false]
  cases hin : injM a with
  | false =>
   rw [hin] at k5
   simp only [if_true]
   refine ACalls.of_body Tryz.func282 (by kernel_rfl) rfl (by kernel_rfl) (by simp [Tryz.ntmps282]) (by simp) ?_
   rw [Tryz.ntmps282]
   repeat' first | ((first | refine aops_end (hK _ ?_) | refine aopsD_end (hK _ ?_) | refine aopsF_end (hK _ ?_)); clear hK K) | ((first | refine aops_go ?_ | refine aopsD_go ?_ | refine aopsF_go ?_ | refine wpcall_pure rfl (k1) ?_ | refine wpcall_pure rfl (k4) ?_ | refine wpcall_pure rfl (k5) ?_); simp [eTm_def, h1, h2]; (try simp (disch := omega) only [wrap64]); (try (refine gen fun q hq => ?_; cases q <;> (try simp [eTm_def, h1, h2] at hq) <;> (try (have hh : True := hq; clear hh hq))))) | (refine T.ret (Done.tup (Or.inr rfl) ?_) <;> simp [resAs, Tryz.results282, eTm_def] <;> omega) | refine T.rdF (id := 3) mixed (fun _ => false) [8, 9, 10, 11] [1, 2, 3, 5, 6, 7] 11 [] (by kernel_rfl) fun K hK => ?_ | refine T.rdF1 (id := 3) mixed (fun _ => false) [8, 9, 10, 11] [1, 2, 3, 5, 6, 7] 11 [] (by kernel_rfl) fun K hK => ?_ | (refine ⟨?_, ?_⟩; (focus (intros; refine wpcall_pure rfl (k1) ?_; simp; done))) | (refine ⟨?_, ?_⟩; (focus (intros; refine wpcall_pure rfl (k4) ?_; simp; done))) | (refine ⟨?_, ?_⟩; (focus (intros; refine wpcall_pure rfl (k5) ?_; simp; done))) | refine T.rd (id := 4) mixed (fun _ => false) [31] (by kernel_rfl) fun K hK => ?_ | refine T.rd1 (id := 4) mixed (fun _ => false) [31] (by kernel_rfl) fun K hK => ?_ | refine T.rd (id := 7) mixed (fun _ => false) [23] (by kernel_rfl) fun K hK => ?_ | refine T.rd1 (id := 7) mixed (fun _ => false) [23] (by kernel_rfl) fun K hK => ?_ | refine T.rd (id := 14) mixed (fun _ => false) [13] (by kernel_rfl) fun K hK => ?_ | refine T.rd1 (id := 14) mixed (fun _ => false) [13] (by kernel_rfl) fun K hK => ?_ | refine T.rd (id := 17) mixed (fun _ => false) [13] (by kernel_rfl) fun K hK => ?_ | refine T.rd1 (id := 17) mixed (fun _ => false) [13] (by kernel_rfl) fun K hK => ?_ | refine T.rdF (id := 22) mixed (fun _ => false) [3] [2] 4 [] (by kernel_rfl) fun K hK => ?_ | refine T.rdF1 (id := 22) mixed (fun _ => false) [3] [2] 4 [] (by kernel_rfl) fun K hK => ?_ | (refine ⟨?_, ?_⟩; (focus (intros; refine wpcall_pure rfl (k1) ?_; simp; done))) | (refine ⟨?_, ?_⟩; (focus (intros; refine wpcall_pure rfl (k4) ?_; simp; done))) | (refine ⟨?_, ?_⟩; (focus (intros; refine wpcall_pure rfl (k5) ?_; simp; done))) | refine T.r0 fun K hK => ?_ | refine T.r1 fun K hK => ?_ | (refine ⟨by omega, ?_⟩) | refine T.ct rfl ?_ | refine T.cf rfl ?_ | refine T.seq ?_ | refine T.block ?_ | refine T.skip ?_ | refine T.exit ?_
  | true =>
   rw [hin] at k5
   simp only [Bool.true_eq_false, if_false]
   obtain ⟨u, f', t', l', rfl⟩ := inj_kids ha hin
   have hfr : (tCast u f' t' l').fr = f' := by simp
   cases hs : sameTy f' t with
   | true =>
    rw [hfr, hs] at k6
    rw [if_pos (show sameTy (tCast u f' t' l').fr t = true by rw [hfr]; exact hs)]
    refine ACalls.of_body Tryz.func282 (by kernel_rfl) rfl (by kernel_rfl) (by simp [Tryz.ntmps282]) (by simp) ?_
    rw [Tryz.ntmps282]
    repeat' first | ((first | refine aops_end (hK _ ?_) | refine aopsD_end (hK _ ?_) | refine aopsF_end (hK _ ?_)); clear hK K) | ((first | refine aops_go ?_ | refine aopsD_go ?_ | refine aopsF_go ?_ | (refine wpcall_pure ?_ (k1) ?_; (focus (solve | simp [eTm_def, h1, h2]))) | refine wpcall_pure rfl (k4) ?_ | (refine wpcall_pure ?_ (k5) ?_; (focus (solve | simp [eTm_def, h1, h2]))) | (refine wpcall_pure ?_ (k6) ?_; (focus (solve | simp [eTm_def, h1, h2])))); simp [eTm_def, h1, h2]; (try simp (disch := omega) only [wrap64]); (try (refine gen fun q hq => ?_; cases q <;> (try simp [eTm_def, h1, h2] at hq) <;> (try (have hh : True := hq; clear hh hq))))) | (refine T.ret (Done.tup (Or.inr rfl) ?_) <;> simp [resAs, Tryz.results282, eTm_def] <;> omega) | refine T.rdF (id := 3) mixed (fun _ => false) [8, 9, 10, 11] [1, 2, 3, 5, 6, 7] 11 [] (by kernel_rfl) fun K hK => ?_ | refine T.rdF1 (id := 3) mixed (fun _ => false) [8, 9, 10, 11] [1, 2, 3, 5, 6, 7] 11 [] (by kernel_rfl) fun K hK => ?_ | (refine ⟨?_, ?_⟩; (focus (intros; refine wpcall_pure ?_ (k1) ?_; (focus (solve | simp [eTm_def, h1, h2])); simp; done))) | (refine ⟨?_, ?_⟩; (focus (intros; refine wpcall_pure rfl (k4) ?_; simp; done))) | (refine ⟨?_, ?_⟩; (focus (intros; refine wpcall_pure ?_ (k5) ?_; (focus (solve | simp [eTm_def, h1, h2])); simp; done))) | (refine ⟨?_, ?_⟩; (focus (intros; refine wpcall_pure ?_ (k6) ?_; (focus (solve | simp [eTm_def, h1, h2])); simp; done))) | refine T.rd (id := 4) mixed (fun _ => false) [31] (by kernel_rfl) fun K hK => ?_ | refine T.rd1 (id := 4) mixed (fun _ => false) [31] (by kernel_rfl) fun K hK => ?_ | refine T.rd (id := 7) mixed (fun _ => false) [23] (by kernel_rfl) fun K hK => ?_ | refine T.rd1 (id := 7) mixed (fun _ => false) [23] (by kernel_rfl) fun K hK => ?_ | refine T.rd (id := 14) mixed (fun _ => false) [13] (by kernel_rfl) fun K hK => ?_ | refine T.rd1 (id := 14) mixed (fun _ => false) [13] (by kernel_rfl) fun K hK => ?_ | refine T.rd (id := 17) mixed (fun _ => false) [13] (by kernel_rfl) fun K hK => ?_ | refine T.rd1 (id := 17) mixed (fun _ => false) [13] (by kernel_rfl) fun K hK => ?_ | refine T.rdF (id := 22) mixed (fun _ => false) [3] [2] 4 [] (by kernel_rfl) fun K hK => ?_ | refine T.rdF1 (id := 22) mixed (fun _ => false) [3] [2] 4 [] (by kernel_rfl) fun K hK => ?_ | (refine ⟨?_, ?_⟩; (focus (intros; refine wpcall_pure ?_ (k1) ?_; (focus (solve | simp [eTm_def, h1, h2])); simp; done))) | (refine ⟨?_, ?_⟩; (focus (intros; refine wpcall_pure rfl (k4) ?_; simp; done))) | (refine ⟨?_, ?_⟩; (focus (intros; refine wpcall_pure ?_ (k5) ?_; (focus (solve | simp [eTm_def, h1, h2])); simp; done))) | (refine ⟨?_, ?_⟩; (focus (intros; refine wpcall_pure ?_ (k6) ?_; (focus (solve | simp [eTm_def, h1, h2])); simp; done))) | refine T.r0 fun K hK => ?_ | refine T.r1 fun K hK => ?_ | (refine ⟨by omega, ?_⟩) | refine T.ct rfl ?_ | refine T.cf rfl ?_ | refine T.seq ?_ | refine T.block ?_ | refine T.skip ?_ | refine T.exit ?_
   | false =>
    rw [hfr, hs] at k6
    rw [if_neg (show ¬ sameTy (tCast u f' t' l').fr t = true by rw [hfr, hs]; simp)]
    refine ACalls.of_body Tryz.func282 (by kernel_rfl) rfl (by kernel_rfl) (by simp [Tryz.ntmps282]) (by simp) ?_
    rw [Tryz.ntmps282]
    repeat' first | ((first | refine aops_end (hK _ ?_) | refine aopsD_end (hK _ ?_) | refine aopsF_end (hK _ ?_)); clear hK K) | ((first | refine aops_go ?_ | refine aopsD_go ?_ | refine aopsF_go ?_ | (refine wpcall_pure ?_ (k1) ?_; (focus (solve | simp [eTm_def, h1, h2]))) | refine wpcall_pure rfl (k4) ?_ | (refine wpcall_pure ?_ (k5) ?_; (focus (solve | simp [eTm_def, h1, h2]))) | (refine wpcall_pure ?_ (k6) ?_; (focus (solve | simp [eTm_def, h1, h2])))); simp [eTm_def, h1, h2]; (try simp (disch := omega) only [wrap64]); (try (refine gen fun q hq => ?_; cases q <;> (try simp [eTm_def, h1, h2] at hq) <;> (try (have hh : True := hq; clear hh hq))))) | (refine T.ret (Done.tup (Or.inr rfl) ?_) <;> simp [resAs, Tryz.results282, eTm_def] <;> omega) | refine T.rdF (id := 3) mixed (fun _ => false) [8, 9, 10, 11] [1, 2, 3, 5, 6, 7] 11 [] (by kernel_rfl) fun K hK => ?_ | refine T.rdF1 (id := 3) mixed (fun _ => false) [8, 9, 10, 11] [1, 2, 3, 5, 6, 7] 11 [] (by kernel_rfl) fun K hK => ?_ | (refine ⟨?_, ?_⟩; (focus (intros; refine wpcall_pure ?_ (k1) ?_; (focus (solve | simp [eTm_def, h1, h2])); simp; done))) | (refine ⟨?_, ?_⟩; (focus (intros; refine wpcall_pure rfl (k4) ?_; simp; done))) | (refine ⟨?_, ?_⟩; (focus (intros; refine wpcall_pure ?_ (k5) ?_; (focus (solve | simp [eTm_def, h1, h2])); simp; done))) | (refine ⟨?_, ?_⟩; (focus (intros; refine wpcall_pure ?_ (k6) ?_; (focus (solve | simp [eTm_def, h1, h2])); simp; done))) | refine T.rd (id := 4) mixed (fun _ => false) [31] (by kernel_rfl) fun K hK => ?_ | refine T.rd1 (id := 4) mixed (fun _ => false) [31] (by kernel_rfl) fun K hK => ?_ | refine T.rd (id := 7) mixed (fun _ => false) [23] (by kernel_rfl) fun K hK => ?_ | refine T.rd1 (id := 7) mixed (fun _ => false) [23] (by kernel_rfl) fun K hK => ?_ | refine T.rd (id := 14) mixed (fun _ => false) [13] (by kernel_rfl) fun K hK => ?_ | refine T.rd1 (id := 14) mixed (fun _ => false) [13] (by kernel_rfl) fun K hK => ?_ | refine T.rd (id := 17) mixed (fun _ => false) [13] (by kernel_rfl) fun K hK => ?_ | refine T.rd1 (id := 17) mixed (fun _ => false) [13] (by kernel_rfl) fun K hK => ?_ | refine T.rdF (id := 22) mixed (fun _ => false) [3] [2] 4 [] (by kernel_rfl) fun K hK => ?_ | refine T.rdF1 (id := 22) mixed (fun _ => false) [3] [2] 4 [] (by kernel_rfl) fun K hK => ?_ | (refine ⟨?_, ?_⟩; (focus (intros; refine wpcall_pure ?_ (k1) ?_; (focus (solve | simp [eTm_def, h1, h2])); simp; done))) | (refine ⟨?_, ?_⟩; (focus (intros; refine wpcall_pure rfl (k4) ?_; simp; done))) | (refine ⟨?_, ?_⟩; (focus (intros; refine wpcall_pure ?_ (k5) ?_; (focus (solve | simp [eTm_def, h1, h2])); simp; done))) | (refine ⟨?_, ?_⟩; (focus (intros; refine wpcall_pure ?_ (k6) ?_; (focus (solve | simp [eTm_def, h1, h2])); simp; done))) | refine T.r0 fun K hK => ?_ | refine T.r1 fun K hK => ?_ | (refine ⟨by omega, ?_⟩) | refine T.ct rfl ?_ | refine T.cf rfl ?_ | refine T.seq ?_ | refine T.block ?_ | refine T.skip ?_ | refine T.exit ?_

theorem castRule_app_ok (a b : MTm) (d : Nat) (ha : TmV 13 d a) (hb : TmV 13 d b) (hn : nTm (tN2 6 a b) <= 1073741824) : ACalls Tryz.prog 282 [aTm (tN2 6 a b)] [] (.tup (stepR (castRuleM (tN2 6 a b)))) [] [] := by
 have k1 := isProxy_ok a
 cases hp : proxyM a with
 | false =>
  rw [hp] at k1
  rw [show castRuleM (tN2 6 a b) = (zeroE, 3, 0) by simp [castRuleM, hp]]
  refine ACalls.of_body Tryz.func282 (by kernel_rfl) rfl (by kernel_rfl) (by simp [Tryz.ntmps282]) (by simp) ?_
  rw [Tryz.ntmps282]
  repeat' first | ((first | refine aops_end (hK _ ?_) | refine aopsD_end (hK _ ?_) | refine aopsF_end (hK _ ?_)); clear hK K) | ((first | refine aops_go ?_ | refine aopsD_go ?_ | refine aopsF_go ?_ | refine wpcall_pure rfl (k1) ?_); simp [eTm_def]; (try simp (disch := omega) only [wrap64]); (try (refine gen fun q hq => ?_; cases q <;> (try simp [eTm_def] at hq) <;> (try (have hh : True := hq; clear hh hq))))) | (refine T.ret (Done.tup (Or.inr rfl) ?_) <;> simp [resAs, Tryz.results282, eTm_def] <;> omega) | refine T.rdF (id := 3) mixed (fun _ => false) [8, 9, 10, 11] [1, 2, 3, 5, 6, 7] 11 [] (by kernel_rfl) fun K hK => ?_ | refine T.rdF1 (id := 3) mixed (fun _ => false) [8, 9, 10, 11] [1, 2, 3, 5, 6, 7] 11 [] (by kernel_rfl) fun K hK => ?_ | (refine ⟨?_, ?_⟩; (focus (intros; refine wpcall_pure rfl (k1) ?_; simp; done))) | refine T.rd (id := 4) mixed (fun _ => false) [31] (by kernel_rfl) fun K hK => ?_ | refine T.rd1 (id := 4) mixed (fun _ => false) [31] (by kernel_rfl) fun K hK => ?_ | refine T.rd (id := 7) mixed (fun _ => false) [23] (by kernel_rfl) fun K hK => ?_ | refine T.rd1 (id := 7) mixed (fun _ => false) [23] (by kernel_rfl) fun K hK => ?_ | refine T.rd (id := 14) mixed (fun _ => false) [13] (by kernel_rfl) fun K hK => ?_ | refine T.rd1 (id := 14) mixed (fun _ => false) [13] (by kernel_rfl) fun K hK => ?_ | refine T.rd (id := 17) mixed (fun _ => false) [13] (by kernel_rfl) fun K hK => ?_ | refine T.rd1 (id := 17) mixed (fun _ => false) [13] (by kernel_rfl) fun K hK => ?_ | refine T.rdF (id := 22) mixed (fun _ => false) [3] [2] 4 [] (by kernel_rfl) fun K hK => ?_ | refine T.rdF1 (id := 22) mixed (fun _ => false) [3] [2] 4 [] (by kernel_rfl) fun K hK => ?_ | (refine ⟨?_, ?_⟩; (focus (intros; refine wpcall_pure rfl (k1) ?_; simp; done))) | refine T.r0 fun K hK => ?_ | refine T.r1 fun K hK => ?_ | (refine ⟨by omega, ?_⟩) | refine T.ct rfl ?_ | refine T.cf rfl ?_ | refine T.seq ?_ | refine T.block ?_ | refine T.skip ?_ | refine T.exit ?_
 | true =>
  rw [hp] at k1
  obtain ⟨u, f, t, l, rfl, h4, _⟩ := proxy_kids ha hp
  by_cases ht : t.kind = 4
  ·obtain ⟨x, y, p, q, rfl, rfl⟩ := h4 ht
   rw [show castRuleM (tN2 6 (tCast u (.mk 4 [p, q]) (.mk 4 [x, y]) l) b) = (tCast (tN2 6 u (tCast b x p (-l))) q y l, 1, 0) by simp [castRuleM, proxyM]]
   obtain ⟨d', _, _, _, _, hl, _⟩ := ha.inv_cast
   have hl2 : -99 <= l /\ l <= 99 := by simp only [labM, inM, Bool.or_eq_true, Bool.and_eq_true, decide_eq_true_eq] at hl; omega
   have k2 := castedC_ok b x p (-l)
   have k3 := nodeC2_ok 6 u (tCast b x p (-l))
   have k4 := castedC_ok (tN2 6 u (tCast b x p (-l))) q y l
   have hw : IntKind.i64.wrap (-l) = -l := wrap64 (by omega) (by omega)
   refine ACalls.of_body Tryz.func282 (by kernel_rfl) rfl (by kernel_rfl) (by simp [Tryz.ntmps282]) (by simp) ?_
   rw [Tryz.ntmps282]
   repeat' first | ((first | refine aops_end (hK _ ?_) | refine aopsD_end (hK _ ?_) | refine aopsF_end (hK _ ?_)); clear hK K) | ((first | refine aops_go ?_ | refine aopsD_go ?_ | refine aopsF_go ?_ | (refine wpcall_pure ?_ (k1) ?_; (focus (solve | simp [eTm_def, eTy_def, hw]))) | (refine wpcall_pure ?_ (k2) ?_; (focus (solve | simp [eTm_def, eTy_def, hw]))) | (refine wpcall_pure ?_ (k3) ?_; (focus (solve | simp [eTm_def, eTy_def, hw]))) | (refine wpcall_pure ?_ (k4) ?_; (focus (solve | simp [eTm_def, eTy_def, hw])))); simp [eTm_def, eTy_def, hw]; (try simp (disch := omega) only [wrap64]); (try (refine gen fun q hq => ?_; cases q <;> (try simp [eTm_def, eTy_def, hw] at hq) <;> (try (have hh : True := hq; clear hh hq))))) | (refine T.ret (Done.tup (Or.inr rfl) ?_) <;> simp [resAs, Tryz.results282, eTm_def, eTy_def] <;> omega) | refine T.rdM (id := 3) mixed (fun _ => false) [8, 9, 10, 11] [1, 2, 3, 5, 6, 7] 11 [] 9 _ (by kernel_rfl) rfl rfl rfl rfl td_implTerm rfl (by simp) fun K hK => ?_ | refine T.rd (id := 4) mixed (fun _ => false) [31] (by kernel_rfl) fun K hK => ?_ | refine T.rd1 (id := 4) mixed (fun _ => false) [31] (by kernel_rfl) fun K hK => ?_ | refine T.rd (id := 7) mixed (fun _ => false) [23] (by kernel_rfl) fun K hK => ?_ | refine T.rd1 (id := 7) mixed (fun _ => false) [23] (by kernel_rfl) fun K hK => ?_ | refine T.rd (id := 14) mixed (fun _ => false) [13] (by kernel_rfl) fun K hK => ?_ | refine T.rd1 (id := 14) mixed (fun _ => false) [13] (by kernel_rfl) fun K hK => ?_ | refine T.rd (id := 17) mixed (fun _ => false) [13] (by kernel_rfl) fun K hK => ?_ | refine T.rd1 (id := 17) mixed (fun _ => false) [13] (by kernel_rfl) fun K hK => ?_ | refine T.rdF (id := 22) mixed (fun _ => false) [3] [2] 4 [] (by kernel_rfl) fun K hK => ?_ | refine T.rdF1 (id := 22) mixed (fun _ => false) [3] [2] 4 [] (by kernel_rfl) fun K hK => ?_ | (refine ⟨?_, ?_⟩; (focus (intros; refine wpcall_pure ?_ (k1) ?_; (focus (solve | simp [eTm_def, eTy_def, hw])); simp; done))) | (refine ⟨?_, ?_⟩; (focus (intros; refine wpcall_pure ?_ (k2) ?_; (focus (solve | simp [eTm_def, eTy_def, hw])); simp; done))) | (refine ⟨?_, ?_⟩; (focus (intros; refine wpcall_pure ?_ (k3) ?_; (focus (solve | simp [eTm_def, eTy_def, hw])); simp; done))) | (refine ⟨?_, ?_⟩; (focus (intros; refine wpcall_pure ?_ (k4) ?_; (focus (solve | simp [eTm_def, eTy_def, hw])); simp; done))) | refine T.r0 fun K hK => ?_ | refine T.r1 fun K hK => ?_ | (refine ⟨by omega, ?_⟩) | refine T.ct rfl ?_ | refine T.cf rfl ?_ | refine T.seq ?_ | refine T.block ?_ | refine T.skip ?_ | refine T.exit ?_
  ·rw [show castRuleM (tN2 6 (tCast u f t l) b) = (zeroE, 3, 0) by simp [castRuleM, ht]]
   refine ACalls.of_body Tryz.func282 (by kernel_rfl) rfl (by kernel_rfl) (by simp [Tryz.ntmps282]) (by simp) ?_
   rw [Tryz.ntmps282]
   repeat' first | ((first | refine aops_end (hK _ ?_) | refine aopsD_end (hK _ ?_) | refine aopsF_end (hK _ ?_)); clear hK K) | ((first | refine aops_go ?_ | refine aopsD_go ?_ | refine aopsF_go ?_ | (refine wpcall_pure ?_ (k1) ?_; (focus (solve | simp [eTm_def, ht])))); simp [eTm_def, ht]; (try simp (disch := omega) only [wrap64]); (try (refine gen fun q hq => ?_; cases q <;> (try simp [eTm_def, ht] at hq) <;> (try (have hh : True := hq; clear hh hq))))) | (refine T.ret (Done.tup (Or.inr rfl) ?_) <;> simp [resAs, Tryz.results282, eTm_def] <;> omega) | refine T.rdF (id := 3) mixed (fun _ => false) [8, 9, 10, 11] [1, 2, 3, 5, 6, 7] 11 [] (by kernel_rfl) fun K hK => ?_ | refine T.rdF1 (id := 3) mixed (fun _ => false) [8, 9, 10, 11] [1, 2, 3, 5, 6, 7] 11 [] (by kernel_rfl) fun K hK => ?_ | (refine ⟨?_, ?_⟩; (focus (intros; refine wpcall_pure ?_ (k1) ?_; (focus (solve | simp [eTm_def, ht])); simp; done))) | refine T.rd (id := 4) mixed (fun _ => false) [31] (by kernel_rfl) fun K hK => ?_ | refine T.rd1 (id := 4) mixed (fun _ => false) [31] (by kernel_rfl) fun K hK => ?_ | refine T.rd (id := 7) mixed (fun _ => false) [23] (by kernel_rfl) fun K hK => ?_ | refine T.rd1 (id := 7) mixed (fun _ => false) [23] (by kernel_rfl) fun K hK => ?_ | refine T.rd (id := 14) mixed (fun _ => false) [13] (by kernel_rfl) fun K hK => ?_ | refine T.rd1 (id := 14) mixed (fun _ => false) [13] (by kernel_rfl) fun K hK => ?_ | refine T.rd (id := 17) mixed (fun _ => false) [13] (by kernel_rfl) fun K hK => ?_ | refine T.rd1 (id := 17) mixed (fun _ => false) [13] (by kernel_rfl) fun K hK => ?_ | refine T.rdF (id := 22) mixed (fun _ => false) [3] [2] 4 [] (by kernel_rfl) fun K hK => ?_ | refine T.rdF1 (id := 22) mixed (fun _ => false) [3] [2] 4 [] (by kernel_rfl) fun K hK => ?_ | (refine ⟨?_, ?_⟩; (focus (intros; refine wpcall_pure ?_ (k1) ?_; (focus (solve | simp [eTm_def, ht])); simp; done))) | refine T.r0 fun K hK => ?_ | refine T.r1 fun K hK => ?_ | (refine ⟨by omega, ?_⟩) | refine T.ct rfl ?_ | refine T.cf rfl ?_ | refine T.seq ?_ | refine T.block ?_ | refine T.skip ?_ | refine T.exit ?_

theorem castRule_11_ok (a : MTm) (d : Nat) (ha : TmV 13 d a) (hn : nTm (tN1 11 a) <= 1073741824) : ACalls Tryz.prog 282 [aTm (tN1 11 a)] [] (.tup (stepR (castRuleM (tN1 11 a)))) [] [] := by
 have k1 := isProxy_ok a
 cases hp : proxyM a with
 | false =>
  rw [hp] at k1
  rw [show castRuleM (tN1 11 a) = (zeroE, 3, 0) by simp [castRuleM, hp]]
  refine ACalls.of_body Tryz.func282 (by kernel_rfl) rfl (by kernel_rfl) (by simp [Tryz.ntmps282]) (by simp) ?_
  rw [Tryz.ntmps282]
  repeat' first | ((first | refine aops_end (hK _ ?_) | refine aopsD_end (hK _ ?_) | refine aopsF_end (hK _ ?_)); clear hK K) | ((first | refine aops_go ?_ | refine aopsD_go ?_ | refine aopsF_go ?_ | refine wpcall_pure rfl (k1) ?_); simp [eTm_def]; (try simp (disch := omega) only [wrap64]); (try (refine gen fun q hq => ?_; cases q <;> (try simp [eTm_def] at hq) <;> (try (have hh : True := hq; clear hh hq))))) | (refine T.ret (Done.tup (Or.inr rfl) ?_) <;> simp [resAs, Tryz.results282, eTm_def] <;> omega) | refine T.rdF (id := 3) mixed (fun _ => false) [8, 9, 10, 11] [1, 2, 3, 5, 6, 7] 11 [] (by kernel_rfl) fun K hK => ?_ | refine T.rdF1 (id := 3) mixed (fun _ => false) [8, 9, 10, 11] [1, 2, 3, 5, 6, 7] 11 [] (by kernel_rfl) fun K hK => ?_ | (refine ⟨?_, ?_⟩; (focus (intros; refine wpcall_pure rfl (k1) ?_; simp; done))) | refine T.rd (id := 4) mixed (fun _ => false) [31] (by kernel_rfl) fun K hK => ?_ | refine T.rd1 (id := 4) mixed (fun _ => false) [31] (by kernel_rfl) fun K hK => ?_ | refine T.rd (id := 7) mixed (fun _ => false) [23] (by kernel_rfl) fun K hK => ?_ | refine T.rd1 (id := 7) mixed (fun _ => false) [23] (by kernel_rfl) fun K hK => ?_ | refine T.rd (id := 14) mixed (fun _ => false) [13] (by kernel_rfl) fun K hK => ?_ | refine T.rd1 (id := 14) mixed (fun _ => false) [13] (by kernel_rfl) fun K hK => ?_ | refine T.rd (id := 17) mixed (fun _ => false) [13] (by kernel_rfl) fun K hK => ?_ | refine T.rd1 (id := 17) mixed (fun _ => false) [13] (by kernel_rfl) fun K hK => ?_ | refine T.rdF (id := 22) mixed (fun _ => false) [3] [2] 4 [] (by kernel_rfl) fun K hK => ?_ | refine T.rdF1 (id := 22) mixed (fun _ => false) [3] [2] 4 [] (by kernel_rfl) fun K hK => ?_ | (refine ⟨?_, ?_⟩; (focus (intros; refine wpcall_pure rfl (k1) ?_; simp; done))) | refine T.r0 fun K hK => ?_ | refine T.r1 fun K hK => ?_ | (refine ⟨by omega, ?_⟩) | refine T.ct rfl ?_ | refine T.cf rfl ?_ | refine T.seq ?_ | refine T.block ?_ | refine T.skip ?_ | refine T.exit ?_
 | true =>
  rw [hp] at k1
  obtain ⟨u, f, t, l, rfl, _, h5⟩ := proxy_kids ha hp
  by_cases ht : t.kind = 5
  ·obtain ⟨x, y, p, q, rfl, rfl⟩ := h5 ht
   rw [show castRuleM (tN1 11 (tCast u (.mk 5 [p, q]) (.mk 5 [x, y]) l)) = (tCast (tN1 11 u) p x l, 1, 0) by simp [castRuleM, proxyM]]
   have k3 := nodeC1_ok 11 u
   have k4 := castedC_ok (tN1 11 u) p x l
   refine ACalls.of_body Tryz.func282 (by kernel_rfl) rfl (by kernel_rfl) (by simp [Tryz.ntmps282]) (by simp) ?_
   rw [Tryz.ntmps282]
   repeat' first | ((first | refine aops_end (hK _ ?_) | refine aopsD_end (hK _ ?_) | refine aopsF_end (hK _ ?_)); clear hK K) | ((first | refine aops_go ?_ | refine aopsD_go ?_ | refine aopsF_go ?_ | (refine wpcall_pure ?_ (k1) ?_; (focus (solve | simp [eTm_def, eTy_def]))) | (refine wpcall_pure ?_ (k3) ?_; (focus (solve | simp [eTm_def, eTy_def]))) | (refine wpcall_pure ?_ (k4) ?_; (focus (solve | simp [eTm_def, eTy_def])))); simp [eTm_def, eTy_def]; (try simp (disch := omega) only [wrap64]); (try (refine gen fun q hq => ?_; cases q <;> (try simp [eTm_def, eTy_def] at hq) <;> (try (have hh : True := hq; clear hh hq))))) | (refine T.ret (Done.tup (Or.inr rfl) ?_) <;> simp [resAs, Tryz.results282, eTm_def, eTy_def] <;> omega) | refine T.rdF (id := 3) mixed (fun _ => false) [8, 9, 10, 11] [1, 2, 3, 5, 6, 7] 11 [] (by kernel_rfl) fun K hK => ?_ | refine T.rdF1 (id := 3) mixed (fun _ => false) [8, 9, 10, 11] [1, 2, 3, 5, 6, 7] 11 [] (by kernel_rfl) fun K hK => ?_ | (refine ⟨?_, ?_⟩; (focus (intros; refine wpcall_pure ?_ (k1) ?_; (focus (solve | simp [eTm_def, eTy_def])); simp; done))) | (refine ⟨?_, ?_⟩; (focus (intros; refine wpcall_pure ?_ (k3) ?_; (focus (solve | simp [eTm_def, eTy_def])); simp; done))) | (refine ⟨?_, ?_⟩; (focus (intros; refine wpcall_pure ?_ (k4) ?_; (focus (solve | simp [eTm_def, eTy_def])); simp; done))) | refine T.rd (id := 4) mixed (fun _ => false) [31] (by kernel_rfl) fun K hK => ?_ | refine T.rd1 (id := 4) mixed (fun _ => false) [31] (by kernel_rfl) fun K hK => ?_ | refine T.rd (id := 7) mixed (fun _ => false) [23] (by kernel_rfl) fun K hK => ?_ | refine T.rd1 (id := 7) mixed (fun _ => false) [23] (by kernel_rfl) fun K hK => ?_ | refine T.rd (id := 14) mixed (fun _ => false) [13] (by kernel_rfl) fun K hK => ?_ | refine T.rd1 (id := 14) mixed (fun _ => false) [13] (by kernel_rfl) fun K hK => ?_ | refine T.rd (id := 17) mixed (fun _ => false) [13] (by kernel_rfl) fun K hK => ?_ | refine T.rd1 (id := 17) mixed (fun _ => false) [13] (by kernel_rfl) fun K hK => ?_ | refine T.rdF (id := 22) mixed (fun _ => false) [3] [2] 4 [] (by kernel_rfl) fun K hK => ?_ | refine T.rdF1 (id := 22) mixed (fun _ => false) [3] [2] 4 [] (by kernel_rfl) fun K hK => ?_ | (refine ⟨?_, ?_⟩; (focus (intros; refine wpcall_pure ?_ (k1) ?_; (focus (solve | simp [eTm_def, eTy_def])); simp; done))) | (refine ⟨?_, ?_⟩; (focus (intros; refine wpcall_pure ?_ (k3) ?_; (focus (solve | simp [eTm_def, eTy_def])); simp; done))) | (refine ⟨?_, ?_⟩; (focus (intros; refine wpcall_pure ?_ (k4) ?_; (focus (solve | simp [eTm_def, eTy_def])); simp; done))) | refine T.r0 fun K hK => ?_ | refine T.r1 fun K hK => ?_ | (refine ⟨by omega, ?_⟩) | refine T.ct rfl ?_ | refine T.cf rfl ?_ | refine T.seq ?_ | refine T.block ?_ | refine T.skip ?_ | refine T.exit ?_
  ·rw [show castRuleM (tN1 11 (tCast u f t l)) = (zeroE, 3, 0) by simp [castRuleM, ht]]
   refine ACalls.of_body Tryz.func282 (by kernel_rfl) rfl (by kernel_rfl) (by simp [Tryz.ntmps282]) (by simp) ?_
   rw [Tryz.ntmps282]
   repeat' first | ((first | refine aops_end (hK _ ?_) | refine aopsD_end (hK _ ?_) | refine aopsF_end (hK _ ?_)); clear hK K) | ((first | refine aops_go ?_ | refine aopsD_go ?_ | refine aopsF_go ?_ | (refine wpcall_pure ?_ (k1) ?_; (focus (solve | simp [eTm_def, ht])))); simp [eTm_def, ht]; (try simp (disch := omega) only [wrap64]); (try (refine gen fun q hq => ?_; cases q <;> (try simp [eTm_def, ht] at hq) <;> (try (have hh : True := hq; clear hh hq))))) | (refine T.ret (Done.tup (Or.inr rfl) ?_) <;> simp [resAs, Tryz.results282, eTm_def] <;> omega) | refine T.rdF (id := 3) mixed (fun _ => false) [8, 9, 10, 11] [1, 2, 3, 5, 6, 7] 11 [] (by kernel_rfl) fun K hK => ?_ | refine T.rdF1 (id := 3) mixed (fun _ => false) [8, 9, 10, 11] [1, 2, 3, 5, 6, 7] 11 [] (by kernel_rfl) fun K hK => ?_ | (refine ⟨?_, ?_⟩; (focus (intros; refine wpcall_pure ?_ (k1) ?_; (focus (solve | simp [eTm_def, ht])); simp; done))) | refine T.rd (id := 4) mixed (fun _ => false) [31] (by kernel_rfl) fun K hK => ?_ | refine T.rd1 (id := 4) mixed (fun _ => false) [31] (by kernel_rfl) fun K hK => ?_ | refine T.rd (id := 7) mixed (fun _ => false) [23] (by kernel_rfl) fun K hK => ?_ | refine T.rd1 (id := 7) mixed (fun _ => false) [23] (by kernel_rfl) fun K hK => ?_ | refine T.rd (id := 14) mixed (fun _ => false) [13] (by kernel_rfl) fun K hK => ?_ | refine T.rd1 (id := 14) mixed (fun _ => false) [13] (by kernel_rfl) fun K hK => ?_ | refine T.rd (id := 17) mixed (fun _ => false) [13] (by kernel_rfl) fun K hK => ?_ | refine T.rd1 (id := 17) mixed (fun _ => false) [13] (by kernel_rfl) fun K hK => ?_ | refine T.rdF (id := 22) mixed (fun _ => false) [3] [2] 4 [] (by kernel_rfl) fun K hK => ?_ | refine T.rdF1 (id := 22) mixed (fun _ => false) [3] [2] 4 [] (by kernel_rfl) fun K hK => ?_ | (refine ⟨?_, ?_⟩; (focus (intros; refine wpcall_pure ?_ (k1) ?_; (focus (solve | simp [eTm_def, ht])); simp; done))) | refine T.r0 fun K hK => ?_ | refine T.r1 fun K hK => ?_ | (refine ⟨by omega, ?_⟩) | refine T.ct rfl ?_ | refine T.cf rfl ?_ | refine T.seq ?_ | refine T.block ?_ | refine T.skip ?_ | refine T.exit ?_

theorem castRule_12_ok (a : MTm) (d : Nat) (ha : TmV 13 d a) (hn : nTm (tN1 12 a) <= 1073741824) : ACalls Tryz.prog 282 [aTm (tN1 12 a)] [] (.tup (stepR (castRuleM (tN1 12 a)))) [] [] := by
 have k1 := isProxy_ok a
 cases hp : proxyM a with
 | false =>
  rw [hp] at k1
  rw [show castRuleM (tN1 12 a) = (zeroE, 3, 0) by simp [castRuleM, hp]]
  refine ACalls.of_body Tryz.func282 (by kernel_rfl) rfl (by kernel_rfl) (by simp [Tryz.ntmps282]) (by simp) ?_
  rw [Tryz.ntmps282]
  repeat' first | ((first | refine aops_end (hK _ ?_) | refine aopsD_end (hK _ ?_) | refine aopsF_end (hK _ ?_)); clear hK K) | ((first | refine aops_go ?_ | refine aopsD_go ?_ | refine aopsF_go ?_ | refine wpcall_pure rfl (k1) ?_); simp [eTm_def]; (try simp (disch := omega) only [wrap64]); (try (refine gen fun q hq => ?_; cases q <;> (try simp [eTm_def] at hq) <;> (try (have hh : True := hq; clear hh hq))))) | (refine T.ret (Done.tup (Or.inr rfl) ?_) <;> simp [resAs, Tryz.results282, eTm_def] <;> omega) | refine T.rdF (id := 3) mixed (fun _ => false) [8, 9, 10, 11] [1, 2, 3, 5, 6, 7] 11 [] (by kernel_rfl) fun K hK => ?_ | refine T.rdF1 (id := 3) mixed (fun _ => false) [8, 9, 10, 11] [1, 2, 3, 5, 6, 7] 11 [] (by kernel_rfl) fun K hK => ?_ | (refine ⟨?_, ?_⟩; (focus (intros; refine wpcall_pure rfl (k1) ?_; simp; done))) | refine T.rd (id := 4) mixed (fun _ => false) [31] (by kernel_rfl) fun K hK => ?_ | refine T.rd1 (id := 4) mixed (fun _ => false) [31] (by kernel_rfl) fun K hK => ?_ | refine T.rd (id := 7) mixed (fun _ => false) [23] (by kernel_rfl) fun K hK => ?_ | refine T.rd1 (id := 7) mixed (fun _ => false) [23] (by kernel_rfl) fun K hK => ?_ | refine T.rd (id := 14) mixed (fun _ => false) [13] (by kernel_rfl) fun K hK => ?_ | refine T.rd1 (id := 14) mixed (fun _ => false) [13] (by kernel_rfl) fun K hK => ?_ | refine T.rd (id := 17) mixed (fun _ => false) [13] (by kernel_rfl) fun K hK => ?_ | refine T.rd1 (id := 17) mixed (fun _ => false) [13] (by kernel_rfl) fun K hK => ?_ | refine T.rdF (id := 22) mixed (fun _ => false) [3] [2] 4 [] (by kernel_rfl) fun K hK => ?_ | refine T.rdF1 (id := 22) mixed (fun _ => false) [3] [2] 4 [] (by kernel_rfl) fun K hK => ?_ | (refine ⟨?_, ?_⟩; (focus (intros; refine wpcall_pure rfl (k1) ?_; simp; done))) | refine T.r0 fun K hK => ?_ | refine T.r1 fun K hK => ?_ | (refine ⟨by omega, ?_⟩) | refine T.ct rfl ?_ | refine T.cf rfl ?_ | refine T.seq ?_ | refine T.block ?_ | refine T.skip ?_ | refine T.exit ?_
 | true =>
  rw [hp] at k1
  obtain ⟨u, f, t, l, rfl, _, h5⟩ := proxy_kids ha hp
  by_cases ht : t.kind = 5
  ·obtain ⟨x, y, p, q, rfl, rfl⟩ := h5 ht
   rw [show castRuleM (tN1 12 (tCast u (.mk 5 [p, q]) (.mk 5 [x, y]) l)) = (tCast (tN1 12 u) q y l, 1, 0) by simp [castRuleM, proxyM]]
   have k3 := nodeC1_ok 12 u
   have k4 := castedC_ok (tN1 12 u) q y l
   refine ACalls.of_body Tryz.func282 (by kernel_rfl) rfl (by kernel_rfl) (by simp [Tryz.ntmps282]) (by simp) ?_
   rw [Tryz.ntmps282]
   repeat' first | ((first | refine aops_end (hK _ ?_) | refine aopsD_end (hK _ ?_) | refine aopsF_end (hK _ ?_)); clear hK K) | ((first | refine aops_go ?_ | refine aopsD_go ?_ | refine aopsF_go ?_ | (refine wpcall_pure ?_ (k1) ?_; (focus (solve | simp [eTm_def, eTy_def]))) | (refine wpcall_pure ?_ (k3) ?_; (focus (solve | simp [eTm_def, eTy_def]))) | (refine wpcall_pure ?_ (k4) ?_; (focus (solve | simp [eTm_def, eTy_def])))); simp [eTm_def, eTy_def]; (try simp (disch := omega) only [wrap64]); (try (refine gen fun q hq => ?_; cases q <;> (try simp [eTm_def, eTy_def] at hq) <;> (try (have hh : True := hq; clear hh hq))))) | (refine T.ret (Done.tup (Or.inr rfl) ?_) <;> simp [resAs, Tryz.results282, eTm_def, eTy_def] <;> omega) | refine T.rdF (id := 3) mixed (fun _ => false) [8, 9, 10, 11] [1, 2, 3, 5, 6, 7] 11 [] (by kernel_rfl) fun K hK => ?_ | refine T.rdF1 (id := 3) mixed (fun _ => false) [8, 9, 10, 11] [1, 2, 3, 5, 6, 7] 11 [] (by kernel_rfl) fun K hK => ?_ | (refine ⟨?_, ?_⟩; (focus (intros; refine wpcall_pure ?_ (k1) ?_; (focus (solve | simp [eTm_def, eTy_def])); simp; done))) | (refine ⟨?_, ?_⟩; (focus (intros; refine wpcall_pure ?_ (k3) ?_; (focus (solve | simp [eTm_def, eTy_def])); simp; done))) | (refine ⟨?_, ?_⟩; (focus (intros; refine wpcall_pure ?_ (k4) ?_; (focus (solve | simp [eTm_def, eTy_def])); simp; done))) | refine T.rd (id := 4) mixed (fun _ => false) [31] (by kernel_rfl) fun K hK => ?_ | refine T.rd1 (id := 4) mixed (fun _ => false) [31] (by kernel_rfl) fun K hK => ?_ | refine T.rd (id := 7) mixed (fun _ => false) [23] (by kernel_rfl) fun K hK => ?_ | refine T.rd1 (id := 7) mixed (fun _ => false) [23] (by kernel_rfl) fun K hK => ?_ | refine T.rd (id := 14) mixed (fun _ => false) [13] (by kernel_rfl) fun K hK => ?_ | refine T.rd1 (id := 14) mixed (fun _ => false) [13] (by kernel_rfl) fun K hK => ?_ | refine T.rd (id := 17) mixed (fun _ => false) [13] (by kernel_rfl) fun K hK => ?_ | refine T.rd1 (id := 17) mixed (fun _ => false) [13] (by kernel_rfl) fun K hK => ?_ | refine T.rdF (id := 22) mixed (fun _ => false) [3] [2] 4 [] (by kernel_rfl) fun K hK => ?_ | refine T.rdF1 (id := 22) mixed (fun _ => false) [3] [2] 4 [] (by kernel_rfl) fun K hK => ?_ | (refine ⟨?_, ?_⟩; (focus (intros; refine wpcall_pure ?_ (k1) ?_; (focus (solve | simp [eTm_def, eTy_def])); simp; done))) | (refine ⟨?_, ?_⟩; (focus (intros; refine wpcall_pure ?_ (k3) ?_; (focus (solve | simp [eTm_def, eTy_def])); simp; done))) | (refine ⟨?_, ?_⟩; (focus (intros; refine wpcall_pure ?_ (k4) ?_; (focus (solve | simp [eTm_def, eTy_def])); simp; done))) | refine T.r0 fun K hK => ?_ | refine T.r1 fun K hK => ?_ | (refine ⟨by omega, ?_⟩) | refine T.ct rfl ?_ | refine T.cf rfl ?_ | refine T.seq ?_ | refine T.block ?_ | refine T.skip ?_ | refine T.exit ?_
  ·rw [show castRuleM (tN1 12 (tCast u f t l)) = (zeroE, 3, 0) by simp [castRuleM, ht]]
   refine ACalls.of_body Tryz.func282 (by kernel_rfl) rfl (by kernel_rfl) (by simp [Tryz.ntmps282]) (by simp) ?_
   rw [Tryz.ntmps282]
   repeat' first | ((first | refine aops_end (hK _ ?_) | refine aopsD_end (hK _ ?_) | refine aopsF_end (hK _ ?_)); clear hK K) | ((first | refine aops_go ?_ | refine aopsD_go ?_ | refine aopsF_go ?_ | (refine wpcall_pure ?_ (k1) ?_; (focus (solve | simp [eTm_def, ht])))); simp [eTm_def, ht]; (try simp (disch := omega) only [wrap64]); (try (refine gen fun q hq => ?_; cases q <;> (try simp [eTm_def, ht] at hq) <;> (try (have hh : True := hq; clear hh hq))))) | (refine T.ret (Done.tup (Or.inr rfl) ?_) <;> simp [resAs, Tryz.results282, eTm_def] <;> omega) | refine T.rdF (id := 3) mixed (fun _ => false) [8, 9, 10, 11] [1, 2, 3, 5, 6, 7] 11 [] (by kernel_rfl) fun K hK => ?_ | refine T.rdF1 (id := 3) mixed (fun _ => false) [8, 9, 10, 11] [1, 2, 3, 5, 6, 7] 11 [] (by kernel_rfl) fun K hK => ?_ | (refine ⟨?_, ?_⟩; (focus (intros; refine wpcall_pure ?_ (k1) ?_; (focus (solve | simp [eTm_def, ht])); simp; done))) | refine T.rd (id := 4) mixed (fun _ => false) [31] (by kernel_rfl) fun K hK => ?_ | refine T.rd1 (id := 4) mixed (fun _ => false) [31] (by kernel_rfl) fun K hK => ?_ | refine T.rd (id := 7) mixed (fun _ => false) [23] (by kernel_rfl) fun K hK => ?_ | refine T.rd1 (id := 7) mixed (fun _ => false) [23] (by kernel_rfl) fun K hK => ?_ | refine T.rd (id := 14) mixed (fun _ => false) [13] (by kernel_rfl) fun K hK => ?_ | refine T.rd1 (id := 14) mixed (fun _ => false) [13] (by kernel_rfl) fun K hK => ?_ | refine T.rd (id := 17) mixed (fun _ => false) [13] (by kernel_rfl) fun K hK => ?_ | refine T.rd1 (id := 17) mixed (fun _ => false) [13] (by kernel_rfl) fun K hK => ?_ | refine T.rdF (id := 22) mixed (fun _ => false) [3] [2] 4 [] (by kernel_rfl) fun K hK => ?_ | refine T.rdF1 (id := 22) mixed (fun _ => false) [3] [2] 4 [] (by kernel_rfl) fun K hK => ?_ | (refine ⟨?_, ?_⟩; (focus (intros; refine wpcall_pure ?_ (k1) ?_; (focus (solve | simp [eTm_def, ht])); simp; done))) | refine T.r0 fun K hK => ?_ | refine T.r1 fun K hK => ?_ | (refine ⟨by omega, ?_⟩) | refine T.ct rfl ?_ | refine T.cf rfl ?_ | refine T.seq ?_ | refine T.block ?_ | refine T.skip ?_ | refine T.exit ?_

theorem castRule_n2_ok (k : Int) (a b : MTm) (hk : k = 7 \/ k = 8 \/ k = 10) : ACalls Tryz.prog 282 [aTm (tN2 k a b)] [] (.tup (stepR (castRuleM (tN2 k a b)))) [] [] := by
 have k1 := isProxy_ok a
 have e6 : ¬ k = 6 := by omega
 have e11 : ¬ k = 11 := by omega
 have e12 : ¬ k = 12 := by omega
 have e14 : ¬ k = 14 := by omega
 rw [show castRuleM (tN2 k a b) = (zeroE, 3, 0) by simp [castRuleM, e6, e11, e12, e14]]
 refine ACalls.of_body Tryz.func282 (by kernel_rfl) rfl (by kernel_rfl) (by simp [Tryz.ntmps282]) (by simp) ?_
 rw [Tryz.ntmps282]
 repeat' first | ((first | refine aops_end (hK _ ?_) | refine aopsD_end (hK _ ?_) | refine aopsF_end (hK _ ?_)); clear hK K) | ((first | refine aops_go ?_ | refine aopsD_go ?_ | refine aopsF_go ?_ | refine wpcall_pure rfl (k1) ?_); simp [eTm_def, e6, e11, e12, e14]; (try simp (disch := omega) only [wrap64]); (try (refine gen fun q hq => ?_; cases q <;> (try simp [eTm_def, e6, e11, e12, e14] at hq) <;> (try (have hh : True := hq; clear hh hq))))) | (refine T.ret (Done.tup (Or.inr rfl) ?_) <;> simp [resAs, Tryz.results282, eTm_def] <;> omega) | refine T.rdF (id := 3) mixed (fun _ => false) [8, 9, 10, 11] [1, 2, 3, 5, 6, 7] 11 [] (by kernel_rfl) fun K hK => ?_ | refine T.rdF1 (id := 3) mixed (fun _ => false) [8, 9, 10, 11] [1, 2, 3, 5, 6, 7] 11 [] (by kernel_rfl) fun K hK => ?_ | (refine ⟨?_, ?_⟩; (focus (intros; refine wpcall_pure rfl (k1) ?_; simp; done))) | refine T.rd (id := 4) mixed (fun _ => false) [31] (by kernel_rfl) fun K hK => ?_ | refine T.rd1 (id := 4) mixed (fun _ => false) [31] (by kernel_rfl) fun K hK => ?_ | refine T.rd (id := 7) mixed (fun _ => false) [23] (by kernel_rfl) fun K hK => ?_ | refine T.rd1 (id := 7) mixed (fun _ => false) [23] (by kernel_rfl) fun K hK => ?_ | refine T.rd (id := 14) mixed (fun _ => false) [13] (by kernel_rfl) fun K hK => ?_ | refine T.rd1 (id := 14) mixed (fun _ => false) [13] (by kernel_rfl) fun K hK => ?_ | refine T.rd (id := 17) mixed (fun _ => false) [13] (by kernel_rfl) fun K hK => ?_ | refine T.rd1 (id := 17) mixed (fun _ => false) [13] (by kernel_rfl) fun K hK => ?_ | refine T.rdF (id := 22) mixed (fun _ => false) [3] [2] 4 [] (by kernel_rfl) fun K hK => ?_ | refine T.rdF1 (id := 22) mixed (fun _ => false) [3] [2] 4 [] (by kernel_rfl) fun K hK => ?_ | (refine ⟨?_, ?_⟩; (focus (intros; refine wpcall_pure rfl (k1) ?_; simp; done))) | refine T.r0 fun K hK => ?_ | refine T.r1 fun K hK => ?_ | (refine ⟨by omega, ?_⟩) | refine T.ct rfl ?_ | refine T.cf rfl ?_ | refine T.seq ?_ | refine T.block ?_ | refine T.skip ?_ | refine T.exit ?_

theorem castRule_if_ok (a b c : MTm) : ACalls Tryz.prog 282 [aTm (tIf a b c)] [] (.tup (stepR (castRuleM (tIf a b c)))) [] [] := by
 rw [show castRuleM (tIf a b c) = (zeroE, 3, 0) by simp [castRuleM]]
 refine ACalls.of_body Tryz.func282 (by kernel_rfl) rfl (by kernel_rfl) (by simp [Tryz.ntmps282]) (by simp) ?_
 rw [Tryz.ntmps282]
 repeat' first | ((first | refine aops_end (hK _ ?_) | refine aopsD_end (hK _ ?_) | refine aopsF_end (hK _ ?_)); clear hK K) | ((first | refine aops_go ?_ | refine aopsD_go ?_ | refine aopsF_go ?_); simp [eTm_def]; (try simp (disch := omega) only [wrap64]); (try (refine gen fun q hq => ?_; cases q <;> (try simp [eTm_def] at hq) <;> (try (have hh : True := hq; clear hh hq))))) | (refine T.ret (Done.tup (Or.inr rfl) ?_) <;> simp [resAs, Tryz.results282, eTm_def] <;> omega) | refine T.rdF (id := 3) mixed (fun _ => false) [8, 9, 10, 11] [1, 2, 3, 5, 6, 7] 11 [] (by kernel_rfl) fun K hK => ?_ | refine T.rdF1 (id := 3) mixed (fun _ => false) [8, 9, 10, 11] [1, 2, 3, 5, 6, 7] 11 [] (by kernel_rfl) fun K hK => ?_ | refine T.rd (id := 4) mixed (fun _ => false) [31] (by kernel_rfl) fun K hK => ?_ | refine T.rd1 (id := 4) mixed (fun _ => false) [31] (by kernel_rfl) fun K hK => ?_ | refine T.rd (id := 7) mixed (fun _ => false) [23] (by kernel_rfl) fun K hK => ?_ | refine T.rd1 (id := 7) mixed (fun _ => false) [23] (by kernel_rfl) fun K hK => ?_ | refine T.rd (id := 14) mixed (fun _ => false) [13] (by kernel_rfl) fun K hK => ?_ | refine T.rd1 (id := 14) mixed (fun _ => false) [13] (by kernel_rfl) fun K hK => ?_ | refine T.rd (id := 17) mixed (fun _ => false) [13] (by kernel_rfl) fun K hK => ?_ | refine T.rd1 (id := 17) mixed (fun _ => false) [13] (by kernel_rfl) fun K hK => ?_ | refine T.rdF (id := 22) mixed (fun _ => false) [3] [2] 4 [] (by kernel_rfl) fun K hK => ?_ | refine T.rdF1 (id := 22) mixed (fun _ => false) [3] [2] 4 [] (by kernel_rfl) fun K hK => ?_ | refine T.r0 fun K hK => ?_ | refine T.r1 fun K hK => ?_ | (refine ⟨by omega, ?_⟩) | refine T.ct rfl ?_ | refine T.cf rfl ?_ | refine T.seq ?_ | refine T.block ?_ | refine T.skip ?_ | refine T.exit ?_

theorem castRule_lam_ok (s : List UInt8) (t : MTy) (b : MTm) : ACalls Tryz.prog 282 [aTm (tLam s t b)] [] (.tup (stepR (castRuleM (tLam s t b)))) [] [] := by
 rw [show castRuleM (tLam s t b) = (zeroE, 3, 0) by simp [castRuleM]]
 refine ACalls.of_body Tryz.func282 (by kernel_rfl) rfl (by kernel_rfl) (by simp [Tryz.ntmps282]) (by simp) ?_
 rw [Tryz.ntmps282]
 repeat' first | ((first | refine aops_end (hK _ ?_) | refine aopsD_end (hK _ ?_) | refine aopsF_end (hK _ ?_)); clear hK K) | ((first | refine aops_go ?_ | refine aopsD_go ?_ | refine aopsF_go ?_); simp [eTm_def]; (try simp (disch := omega) only [wrap64]); (try (refine gen fun q hq => ?_; cases q <;> (try simp [eTm_def] at hq) <;> (try (have hh : True := hq; clear hh hq))))) | (refine T.ret (Done.tup (Or.inr rfl) ?_) <;> simp [resAs, Tryz.results282, eTm_def] <;> omega) | refine T.rdF (id := 3) mixed (fun _ => false) [8, 9, 10, 11] [1, 2, 3, 5, 6, 7] 11 [] (by kernel_rfl) fun K hK => ?_ | refine T.rdF1 (id := 3) mixed (fun _ => false) [8, 9, 10, 11] [1, 2, 3, 5, 6, 7] 11 [] (by kernel_rfl) fun K hK => ?_ | refine T.rd (id := 4) mixed (fun _ => false) [31] (by kernel_rfl) fun K hK => ?_ | refine T.rd1 (id := 4) mixed (fun _ => false) [31] (by kernel_rfl) fun K hK => ?_ | refine T.rd (id := 7) mixed (fun _ => false) [23] (by kernel_rfl) fun K hK => ?_ | refine T.rd1 (id := 7) mixed (fun _ => false) [23] (by kernel_rfl) fun K hK => ?_ | refine T.rd (id := 14) mixed (fun _ => false) [13] (by kernel_rfl) fun K hK => ?_ | refine T.rd1 (id := 14) mixed (fun _ => false) [13] (by kernel_rfl) fun K hK => ?_ | refine T.rd (id := 17) mixed (fun _ => false) [13] (by kernel_rfl) fun K hK => ?_ | refine T.rd1 (id := 17) mixed (fun _ => false) [13] (by kernel_rfl) fun K hK => ?_ | refine T.rdF (id := 22) mixed (fun _ => false) [3] [2] 4 [] (by kernel_rfl) fun K hK => ?_ | refine T.rdF1 (id := 22) mixed (fun _ => false) [3] [2] 4 [] (by kernel_rfl) fun K hK => ?_ | refine T.r0 fun K hK => ?_ | refine T.r1 fun K hK => ?_ | (refine ⟨by omega, ?_⟩) | refine T.ct rfl ?_ | refine T.cf rfl ?_ | refine T.seq ?_ | refine T.block ?_ | refine T.skip ?_ | refine T.exit ?_

theorem castRule_ok (e : MTm) (d : Nat) (hv : TmV 13 d e) (hk : e.kids ≠ []) (hn : nTm e <= 1073741824) : ACalls Tryz.prog 282 [aTm e] [] (.tup (stepR (castRuleM e))) [] [] := by
 cases hv with
 | var _ _ => exact (hk (by simp)).elim
 | num _ _ _ => exact (hk (by simp)).elim
 | tru _ => exact (hk (by simp)).elim
 | fls _ => exact (hk (by simp)).elim
 | lam _ _ _ _ => exact castRule_lam_ok _ _ _
 | @n2 d k a b _ hk' ha hb =>
  by_cases h6 : k = 6
  ·subst h6; exact castRule_app_ok a b d ha hb hn
  ·exact castRule_n2_ok k a b (by omega)
 | ite _ _ _ _ => exact castRule_if_ok _ _ _
 | @n1 d k a _ hk' ha =>
  rcases hk' with rfl | rfl
  ·exact castRule_11_ok a d ha hn
  ·exact castRule_12_ok a d ha hn
 | asc h _ _ => exact absurd rfl h
 | @cast d f t l a _ _ _ _ _ ha =>
  rw [show castRuleM (tCast a f t l) = castCast a f t l by simp [castRuleM]]
  exact castRule_cast_ok a f t l d ha hn

theorem step_node_ok (e : MTm) (hlen : e.kids.length <= 3) (hcnt : countsM e <= e.kids.length) (hr : ACalls Tryz.prog 281 [aTm e] [] (.tup (ruleR (ruleM e))) [] []) (hcr : e.kids ≠ [] -> ACalls Tryz.prog 282 [aTm e] [] (.tup (stepR (castRuleM e))) [] []) (hnu : ∀ u ∈ e.kids, nTm u <= 1073741824)
  (ih : ∀ u ∈ e.kids, ACalls Tryz.prog 253 [aTm u] [] (.tup (stepR (stepC u))) [] []) : ACalls Tryz.prog 253 [aTm e] [] (.tup (stepR (stepC e))) [] [] := by
 have hc := counts_ok e
 have hcl := cloneTm_own e.kids (by omega)
 obtain ⟨R, hR⟩ : ∃ R, firstNV (e.kids.take (countsM e)) = R := ⟨_, rfl⟩
 have hat : ∀ i u, e.kids[i]? = some u -> R = some i -> stepC e = (.mk e.kind e.name e.num e.ty e.fr e.label (e.kids.set i (stepC u).1), (stepC u).2.1, (stepC u).2.2) := fun i u h1 h2 => stepC_at (hR.trans h2) h1
 have hnone : R = none -> stepC e = match ruleM e with
  | some x => (x, 1, 0)
  | none => castRuleM e := fun h => stepC_none (hR.trans h)
 have hemp : e.kids = [] -> castRuleM e = (zeroE, 3, 0) := fun h => by simp [castRuleM, h]
 generalize stepC e = S at *
 obtain ⟨n, hn⟩ : ∃ n, countsM e = n := ⟨_, rfl⟩
 rw [hn] at hR hcnt hc
 obtain ⟨L, hL⟩ : ∃ L, e.kids.take n = L := ⟨_, rfl⟩
 have hLm : List.take n (List.map eTm e.kids) = L.map eTm := by rw [<- hL, List.map_take]
 have hLl : L.length = n := by rw [<- hL]; simp; omega
 have hLu : ∀ i u, L[i]? = some u -> e.kids[i]? = some u := fun i u h => by
  rw [<- hL] at h
  have hi : i < n := by have := (List.getElem?_eq_some_iff.1 h).1; simp at this; omega
  rwa [List.getElem?_take_of_lt hi] at h
 rw [hL] at hR
 have hnl : (n : Int) <= e.kids.length := by omega
 subst hLl
 refine ACalls.of_body Tryz.func253 (by kernel_rfl) rfl (by kernel_rfl) (by simp [Tryz.ntmps253]) (by simp) ?_
 rw [Tryz.ntmps253]
 repeat' first | ((first | refine aops_end (hK _ ?_) | refine aopsD_end (hK _ ?_) | refine aopsF_end (hK _ ?_)); clear hK K) | ((first | refine aops_go ?_ | refine aopsD_go ?_ | refine aopsF_go ?_ | refine wpcall_pure rfl (hc) ?_); simp [hLm, hnl]; (try (refine gen fun q hq => ?_; cases q <;> (try simp [hLm, hnl] at hq) <;> (try (have hh : True := hq; clear hh hq))))) | refine T.rd (id := 1) mixed (fun _ => false) [] (by kernel_rfl) fun K hK => ?_ | refine T.rd1 (id := 1) mixed (fun _ => false) [] (by kernel_rfl) fun K hK => ?_ | refine T.r0 fun K hK => ?_ | refine T.r1 fun K hK => ?_ | (refine ⟨by omega, ?_⟩) | refine T.ct rfl ?_ | refine T.cf rfl ?_ | refine T.seq ?_ | refine T.block ?_ | refine T.skip ?_ | refine T.exit ?_
 refine T.loopK (α := Nat × List (List CV)) [1, 2, 17, 18] (fun x => [(3, .i 0), (4, .i 0), (19, .i x.1)]) (fun x => []) (fun x => x.2) (fun x A => A) (fun x => L.length + 1 - x.1) (fun x => x.1 <= L.length /\ (firstNV (L.drop x.1)).map (· + x.1) = R) (by simp; rfl) (fun x hx => ?_) (0, []) (by simp [hR]) (by simp) (by simp) (by simp)
 obtain ⟨p, G⟩ := x
 obtain ⟨hx, he⟩ := hx
 dsimp only at hx he ⊢
 simp only [ups, List.set_cons_zero, List.set_cons_succ, List.cons_append, List.nil_append, List.append_nil]
 by_cases hlt : p < L.length
 ·obtain ⟨u, ht⟩ := get_lt hlt
  have htm : u ∈ L := List.mem_of_getElem? ht
  have hgt : L[p] = u := by rw [List.getElem?_eq_getElem hlt] at ht; exact Option.some.inj ht
  have hdr : L.drop p = u :: L.drop (p + 1) := by rw [List.drop_eq_getElem_cons hlt, hgt]
  have hku := hLu p u ht
  have hum : u ∈ e.kids := List.mem_of_getElem? hku
  have hpk : p < e.kids.length := (List.getElem?_eq_some_iff.1 hku).1
  have hv := isValue_ok u (by have := hnu u hum; omega)
  rw [hdr, firstNV] at he
  cases hb : valM u with
  | true =>
   rw [hb] at hv he
   simp only [if_true, Option.map_map] at he
   have he' : (firstNV (L.drop (p + 1))).map (· + (p + 1)) = R := by rw [<- he]; congr 1; funext z; simp; omega
   repeat' first | ((first | refine aops_end (hK _ ?_) | refine aopsD_end (hK _ ?_) | refine aopsF_end (hK _ ?_)); clear hK K) | ((first | refine aops_go ?_ | refine aopsD_go ?_ | refine aopsF_go ?_ | refine wpcall_pure rfl (hv) ?_); simp [hlt, hgt]; (try simp (disch := omega) only [wrap64]); (try (refine gen fun q hq => ?_; cases q <;> (try simp [hlt, hgt] at hq) <;> (try (have hh : True := hq; clear hh hq))))) | (refine ⟨(p + 1, _), by dsimp only; omega, ⟨by dsimp only; omega, he'⟩, rfl, ?_, ?_⟩ <;> simp (disch := omega) [wrap64]) | refine T.rd (id := 1) mixed (fun _ => false) [] (by kernel_rfl) fun K hK => ?_ | refine T.rd1 (id := 1) mixed (fun _ => false) [] (by kernel_rfl) fun K hK => ?_ | refine T.r0 fun K hK => ?_ | refine T.r1 fun K hK => ?_ | (refine ⟨by omega, ?_⟩) | refine T.ct rfl ?_ | refine T.cf rfl ?_ | refine T.seq ?_ | refine T.block ?_ | refine T.skip ?_ | refine T.exit ?_
  | false =>
   rw [hb] at hv he
   simp at he
   have hs := hat p u hku he.symm
   have hi := ih u hum
   generalize stepC u = su at *
   obtain ⟨y, cd, lb⟩ := su
   subst hs
   repeat' first | ((first | refine aops_end (hK _ ?_) | refine aopsD_end (hK _ ?_) | refine aopsF_end (hK _ ?_)); clear hK K) | ((first | refine aops_go ?_ | refine aopsD_go ?_ | refine aopsF_go ?_ | refine wpcall_pure rfl (hv) ?_ | refine wpcall_pure rfl (hi) ?_); simp [hlt, hgt, hpk]; (try simp (disch := omega) only [wrap64]); (try (refine gen fun q hq => ?_; cases q <;> (try simp [hlt, hgt, hpk] at hq) <;> (try (have hh : True := hq; clear hh hq))))) | (refine wpcall_own rfl (hcl) ?_; simp [hlt, hgt, hpk]; (try simp (disch := omega) only [wrap64]); (try (refine gen fun q hq => ?_; cases q <;> (try simp [hlt, hgt, hpk] at hq) <;> (try (have hh : True := hq; clear hh hq))))) | (refine ⟨by omega, by omega, ?_⟩) | (refine T.ret (Done.tup (Or.inr rfl) ?_) <;> simp [resAs, Tryz.results253, eTm_def, List.map_set] <;> omega) | refine T.rd (id := 1) mixed (fun _ => false) [] (by kernel_rfl) fun K hK => ?_ | refine T.rd1 (id := 1) mixed (fun _ => false) [] (by kernel_rfl) fun K hK => ?_ | refine T.r0 fun K hK => ?_ | refine T.r1 fun K hK => ?_ | (refine ⟨by omega, ?_⟩) | refine T.ct rfl ?_ | refine T.cf rfl ?_ | refine T.seq ?_ | refine T.block ?_ | refine T.skip ?_ | refine T.exit ?_
 ·have hp' : p = L.length := by omega
  subst hp'
  simp [firstNV] at he
  have hs := hnone he.symm
  cases hq : ruleM e with
  | none =>
   rw [hq] at hs hr
   simp only [ruleR] at hr
   simp only at hs
   by_cases hke : e.kids = []
   ·rw [hemp hke] at hs
    subst hs
    have hz : (e.kids.length : Int) = 0 := by rw [hke]; rfl
    repeat' first | ((first | refine aops_end (hK _ ?_) | refine aopsD_end (hK _ ?_) | refine aopsF_end (hK _ ?_)); clear hK K) | ((first | refine aops_go ?_ | refine aopsD_go ?_ | refine aopsF_go ?_ | refine wpcall_pure rfl (hr) ?_); simp [hlt, hz]; (try (refine gen fun q hq => ?_; cases q <;> (try simp [hlt, hz] at hq) <;> (try (have hh : True := hq; clear hh hq))))) | (refine T.ret (Done.tup (Or.inr rfl) ?_) <;> simp [resAs, Tryz.results253] <;> omega) | refine T.rd (id := 1) mixed (fun _ => false) [] (by kernel_rfl) fun K hK => ?_ | refine T.rd1 (id := 1) mixed (fun _ => false) [] (by kernel_rfl) fun K hK => ?_ | refine T.r0 fun K hK => ?_ | refine T.r1 fun K hK => ?_ | (refine ⟨by omega, ?_⟩) | refine T.ct rfl ?_ | refine T.cf rfl ?_ | refine T.seq ?_ | refine T.block ?_ | refine T.skip ?_ | refine T.exit ?_
   ·have hz : ¬ (e.kids.length : Int) = 0 := by intro h; exact hke (List.length_eq_zero_iff.1 (by omega))
    have hcr' := hcr hke
    rw [<- hs] at hcr'
    clear hs hemp hcr
    obtain ⟨S1, S2, S3⟩ := S
    repeat' first | ((first | refine aops_end (hK _ ?_) | refine aopsD_end (hK _ ?_) | refine aopsF_end (hK _ ?_)); clear hK K) | ((first | refine aops_go ?_ | refine aopsD_go ?_ | refine aopsF_go ?_ | refine wpcall_pure rfl (hr) ?_ | refine wpcall_pure rfl (hcr') ?_); simp [hlt, hz, hke]; (try (refine gen fun q hq => ?_; cases q <;> (try simp [hlt, hz, hke] at hq) <;> (try (have hh : True := hq; clear hh hq))))) | (refine T.ret (Done.tup (Or.inr rfl) ?_) <;> simp [resAs, Tryz.results253] <;> omega) | refine T.rd (id := 1) mixed (fun _ => false) [] (by kernel_rfl) fun K hK => ?_ | refine T.rd1 (id := 1) mixed (fun _ => false) [] (by kernel_rfl) fun K hK => ?_ | refine T.r0 fun K hK => ?_ | refine T.r1 fun K hK => ?_ | (refine ⟨by omega, ?_⟩) | refine T.ct rfl ?_ | refine T.cf rfl ?_ | refine T.seq ?_ | refine T.block ?_ | refine T.skip ?_ | refine T.exit ?_
  | some x =>
   rw [hq] at hs hr
   subst hs
   simp only [ruleR] at hr
   repeat' first | ((first | refine aops_end (hK _ ?_) | refine aopsD_end (hK _ ?_) | refine aopsF_end (hK _ ?_)); clear hK K) | ((first | refine aops_go ?_ | refine aopsD_go ?_ | refine aopsF_go ?_ | refine wpcall_pure rfl (hr) ?_); simp [hlt]; (try (refine gen fun q hq => ?_; cases q <;> (try simp [hlt] at hq) <;> (try (have hh : True := hq; clear hh hq))))) | (refine T.ret (Done.tup (Or.inr rfl) ?_) <;> simp [resAs, Tryz.results253] <;> omega) | refine T.rd (id := 1) mixed (fun _ => false) [] (by kernel_rfl) fun K hK => ?_ | refine T.rd1 (id := 1) mixed (fun _ => false) [] (by kernel_rfl) fun K hK => ?_ | refine T.r0 fun K hK => ?_ | refine T.r1 fun K hK => ?_ | (refine ⟨by omega, ?_⟩) | refine T.ct rfl ?_ | refine T.cf rfl ?_ | refine T.seq ?_ | refine T.block ?_ | refine T.skip ?_ | refine T.exit ?_

theorem stepC_ok : ∀ (e : MTm) (d : Nat), TmV 13 d e -> nTm e <= 1073741824 -> ACalls Tryz.prog 253 [aTm e] [] (.tup (stepR (stepC e))) [] [] := by
 intro e
 induction e using MTm.ind with
 | h e ih =>
  intro d hv hn
  obtain ⟨d', rfl, _, hlen, _, hk⟩ := shapeTm_kids hv.shape
  have hnu : ∀ u ∈ e.kids, nTm u <= 1073741824 := fun u hu => by have := nTmS_mem hu; rw [nTm_def] at hn; omega
  exact step_node_ok e (by have := kidsM_le e.kind; omega) (counts_le hlen) (rule_ok e _ hv hn) (fun h => castRule_ok e _ hv h hn) hnu (fun u hu => ih u hu d' (TmV.of (hk u hu)) (hnu u hu))

theorem StepCast_ok (e : MTm) (hn : nTm e <= 1073741824) : ACalls Tryz.prog 212 [aTm e] [] (.tup (stepR (stepCastM e))) [] [] := by
 have k1 := CastValid_ok e (by omega)
 rw [stepCastM]
 cases hb : castValidM e with
 | false =>
  rw [hb] at k1
  simp only [Bool.false_eq_true, if_false]
  refine ACalls.of_body Tryz.func212 (by kernel_rfl) rfl (by kernel_rfl) (by simp [Tryz.ntmps212]) (by simp) ?_
  rw [Tryz.ntmps212]
  repeat' first | ((first | refine aops_end (hK _ ?_) | refine aopsD_end (hK _ ?_) | refine aopsF_end (hK _ ?_)); clear hK K) | ((first | refine aops_go ?_ | refine aopsD_go ?_ | refine aopsF_go ?_ | refine wpcall_pure rfl (k1) ?_); simp; (try (refine gen fun q hq => ?_; cases q <;> (try simp at hq) <;> (try (have hh : True := hq; clear hh hq))))) | (refine T.ret (Done.tup (Or.inr rfl) ?_) <;> simp [resAs, Tryz.results212] <;> omega) | refine T.r0 fun K hK => ?_ | refine T.r1 fun K hK => ?_ | (refine ⟨by omega, ?_⟩) | refine T.ct rfl ?_ | refine T.cf rfl ?_ | refine T.seq ?_ | refine T.block ?_ | refine T.skip ?_ | refine T.exit ?_
 | true =>
  rw [hb] at k1
  simp only [if_true]
  have hv := (castValidM_iff.1 hb).1
  have hsm := castValid_small hb
  have k2 := isValue_ok e (by omega)
  cases hvl : valM e with
  | true =>
   rw [hvl] at k2
   have k3 := own_ok e (by omega)
   simp only [if_true]
   refine ACalls.of_body Tryz.func212 (by kernel_rfl) rfl (by kernel_rfl) (by simp [Tryz.ntmps212]) (by simp) ?_
   rw [Tryz.ntmps212]
   repeat' first | ((first | refine aops_end (hK _ ?_) | refine aopsD_end (hK _ ?_) | refine aopsF_end (hK _ ?_)); clear hK K) | ((first | refine aops_go ?_ | refine aopsD_go ?_ | refine aopsF_go ?_ | refine wpcall_pure rfl (k1) ?_ | refine wpcall_pure rfl (k2) ?_ | refine wpcall_pure rfl (k3) ?_); simp; (try (refine gen fun q hq => ?_; cases q <;> (try simp at hq) <;> (try (have hh : True := hq; clear hh hq))))) | (refine T.ret (Done.tup (Or.inr rfl) ?_) <;> simp [resAs, Tryz.results212] <;> omega) | refine T.r0 fun K hK => ?_ | refine T.r1 fun K hK => ?_ | (refine ⟨by omega, ?_⟩) | refine T.ct rfl ?_ | refine T.cf rfl ?_ | refine T.seq ?_ | refine T.block ?_ | refine T.skip ?_ | refine T.exit ?_
  | false =>
   rw [hvl] at k2
   have k3 := stepC_ok e 40 hv hn
   have hsz := stepC_size e
   have hsz2 : nodesM e * nTm e <= 200 * 60000 := Nat.mul_le_mul hsm.2 hsm.1
   have k4 := CastValid_ok (stepC e).1 (by omega)
   have k5 := own_ok (stepC e).1 (by omega)
   simp only [Bool.false_eq_true, if_false]
   generalize stepC e = p at *
   obtain ⟨x, cd, lb⟩ := p
   dsimp only at *
   by_cases h1 : cd = 1
   ·subst h1
    cases hbx : castValidM x <;> rw [hbx] at k4
    ·simp only [if_true, Bool.false_eq_true, if_false]
     refine ACalls.of_body Tryz.func212 (by kernel_rfl) rfl (by kernel_rfl) (by simp [Tryz.ntmps212]) (by simp) ?_
     rw [Tryz.ntmps212]
     repeat' first | ((first | refine aops_end (hK _ ?_) | refine aopsD_end (hK _ ?_) | refine aopsF_end (hK _ ?_)); clear hK K) | ((first | refine aops_go ?_ | refine aopsD_go ?_ | refine aopsF_go ?_ | refine wpcall_pure rfl (k1) ?_ | refine wpcall_pure rfl (k2) ?_ | refine wpcall_pure rfl (k3) ?_ | refine wpcall_pure rfl (k4) ?_); simp; (try (refine gen fun q hq => ?_; cases q <;> (try simp at hq) <;> (try (have hh : True := hq; clear hh hq))))) | (refine T.ret (Done.tup (Or.inr rfl) ?_) <;> simp [resAs, Tryz.results212] <;> omega) | refine T.r0 fun K hK => ?_ | refine T.r1 fun K hK => ?_ | (refine ⟨by omega, ?_⟩) | refine T.ct rfl ?_ | refine T.cf rfl ?_ | refine T.seq ?_ | refine T.block ?_ | refine T.skip ?_ | refine T.exit ?_
    ·simp only [if_true]
     refine ACalls.of_body Tryz.func212 (by kernel_rfl) rfl (by kernel_rfl) (by simp [Tryz.ntmps212]) (by simp) ?_
     rw [Tryz.ntmps212]
     repeat' first | ((first | refine aops_end (hK _ ?_) | refine aopsD_end (hK _ ?_) | refine aopsF_end (hK _ ?_)); clear hK K) | ((first | refine aops_go ?_ | refine aopsD_go ?_ | refine aopsF_go ?_ | refine wpcall_pure rfl (k1) ?_ | refine wpcall_pure rfl (k2) ?_ | refine wpcall_pure rfl (k3) ?_ | refine wpcall_pure rfl (k4) ?_ | refine wpcall_pure rfl (k5) ?_); simp; (try (refine gen fun q hq => ?_; cases q <;> (try simp at hq) <;> (try (have hh : True := hq; clear hh hq))))) | (refine T.ret (Done.tup (Or.inr rfl) ?_) <;> simp [resAs, Tryz.results212] <;> omega) | refine T.r0 fun K hK => ?_ | refine T.r1 fun K hK => ?_ | (refine ⟨by omega, ?_⟩) | refine T.ct rfl ?_ | refine T.cf rfl ?_ | refine T.seq ?_ | refine T.block ?_ | refine T.skip ?_ | refine T.exit ?_
   ·rw [if_neg h1]
    refine ACalls.of_body Tryz.func212 (by kernel_rfl) rfl (by kernel_rfl) (by simp [Tryz.ntmps212]) (by simp) ?_
    rw [Tryz.ntmps212]
    repeat' first | ((first | refine aops_end (hK _ ?_) | refine aopsD_end (hK _ ?_) | refine aopsF_end (hK _ ?_)); clear hK K) | ((first | refine aops_go ?_ | refine aopsD_go ?_ | refine aopsF_go ?_ | refine wpcall_pure rfl (k1) ?_ | refine wpcall_pure rfl (k2) ?_ | refine wpcall_pure rfl (k3) ?_); simp [h1]; (try (refine gen fun q hq => ?_; cases q <;> (try simp [h1] at hq) <;> (try (have hh : True := hq; clear hh hq))))) | (refine T.ret (Done.tup (Or.inr rfl) ?_) <;> simp [resAs, Tryz.results212] <;> omega) | refine T.r0 fun K hK => ?_ | refine T.r1 fun K hK => ?_ | (refine ⟨by omega, ?_⟩) | refine T.ct rfl ?_ | refine T.cf rfl ?_ | refine T.seq ?_ | refine T.block ?_ | refine T.skip ?_ | refine T.exit ?_

theorem stepCast_small (e : MTm) : nTm (stepCastM e).1 <= 20000000 := by
 have hz : nTm zeroE = 0 := by simp [nTm_mk, nTmS, nTy_mk, nTyS]
 rw [stepCastM]
 split
 ·rename_i hb
  have hsm := castValid_small hb
  split
  ·simp only; omega
  ·have hsz := stepC_size e
   have hsz2 : nodesM e * nTm e <= 200 * 60000 := Nat.mul_le_mul hsm.2 hsm.1
   split
   ·split
    ·simp only; omega
    ·simp only [hz]; omega
   ·simp only [hz]; omega
 ·simp only [hz]; omega

theorem reach_ok (e : MTm) : ACalls Tryz.prog 161 [aTm e] [] (.tup []) [] [] := by
 refine ACalls.of_body Tryz.func161 (by kernel_rfl) rfl (by kernel_rfl) (by simp [Tryz.ntmps161]) (by simp) ?_
 rw [Tryz.ntmps161]
 repeat' first | ((first | refine aops_end (hK _ ?_) | refine aopsD_end (hK _ ?_) | refine aopsF_end (hK _ ?_)); clear hK K) | ((first | refine aops_go ?_ | refine aopsD_go ?_ | refine aopsF_go ?_); simp; (try simp (disch := omega) only [wrap64])) | refine T.r0 fun K hK => ?_ | refine T.r1 fun K hK => ?_ | (refine ⟨by omega, ?_⟩) | refine T.ct rfl ?_ | refine T.cf rfl ?_ | refine T.seq ?_ | refine T.block ?_ | refine T.skip ?_ | refine T.exit ?_
 all_goals (refine Done.g (ys := []) (Or.inl rfl) ?_ rfl ?_ <;> simp [resAs, Tryz.results161])

theorem evaluate_ok (e : MTm) (n : Nat) (hn : nTm e <= 1073741824) (hf : n <= 1000) : ACalls Tryz.prog 160 [aTm e, .i n, .c (.fn 161 [])] [] (.tup [aTm (evalC n e).1, .i (evalC n e).2.1, .i (evalC n e).2.2, .i (cntC n e)]) [] [] := by
 obtain ⟨r1, hr1⟩ : ∃ r1, (evalC n e).1 = r1 := ⟨_, rfl⟩
 obtain ⟨r2, hr2⟩ : ∃ r2, (evalC n e).2.1 = r2 := ⟨_, rfl⟩
 obtain ⟨r3, hr3⟩ : ∃ r3, (evalC n e).2.2 = r3 := ⟨_, rfl⟩
 obtain ⟨r4, hr4⟩ : ∃ r4, cntC n e = r4 := ⟨_, rfl⟩
 rw [hr1, hr2, hr3, hr4]
 have k0 := reach_ok e
 refine ACalls.of_body Tryz.func160 (by kernel_rfl) rfl (by kernel_rfl) (by simp [Tryz.ntmps160]) (by simp) ?_
 rw [Tryz.ntmps160]
 repeat' first | ((first | refine aops_end (hK _ ?_) | refine aopsD_end (hK _ ?_) | refine aopsF_end (hK _ ?_)); clear hK K) | ((first | refine aops_go ?_ | refine aopsD_go ?_ | refine aopsF_go ?_ | refine wpcall_pure rfl (k0) ?_); simp; (try (refine gen fun q hq => ?_; cases q <;> (try simp at hq) <;> (try (have hh : True := hq; clear hh hq))))) | refine T.r0 fun K hK => ?_ | refine T.r1 fun K hK => ?_ | (refine ⟨by omega, ?_⟩) | refine T.ct rfl ?_ | refine T.cf rfl ?_ | refine T.seq ?_ | refine T.block ?_ | refine T.skip ?_ | refine T.exit ?_
 refine T.loopK (α := Nat × MTm × List (List CV)) [1, 2, 3, 6] (fun x => [(7, .i 0), (8, .i 0), (9, .i 0), (10, .i x.1)]) (fun x => [(0, (aTm x.2.1).cells)]) (fun x => x.2.2) (fun x A => A) (fun x => n + 1 - x.1) (fun x => x.1 <= n /\ nTm x.2.1 <= 1073741824 /\ (evalC (n - x.1) x.2.1).1 = r1 /\ (evalC (n - x.1) x.2.1).2.1 = r2 /\ (evalC (n - x.1) x.2.1).2.2 = r3 /\ cntC (n - x.1) x.2.1 + x.1 = r4) (by simp; rfl) (fun x hx => ?_) (0, e, []) (by simp [hr1, hr2, hr3, hr4, hn]) (by simp) (by simp) (by simp)
 obtain ⟨s, f, G⟩ := x
 obtain ⟨h1, h2, h3, h4, h5, h6⟩ := hx
 dsimp only at h1 h2 h3 h4 h5 h6 ⊢
 simp only [ups, List.set_cons_zero, List.set_cons_succ, List.cons_append, List.nil_append, List.append_nil]
 have k1 := StepCast_ok f h2
 have hsz := stepCast_small f
 have k2 := reach_ok (stepCastM f).1
 obtain ⟨m, hm⟩ : ∃ m, n - s = m := ⟨_, rfl⟩
 rw [hm] at h3 h4 h5 h6
 have hlast : m = 0 \/ (stepCastM f).2.1 ≠ 1 -> (stepCastM f).1 = r1 /\ (stepCastM f).2.1 = r2 /\ (stepCastM f).2.2 = r3 /\ s = r4 := by
  intro h
  cases m with
  | zero => simp only [evalC, cntC] at h3 h4 h5 h6; exact ⟨h3, h4, h5, by omega⟩
  | succ m =>
   rcases h with h | h
   ·omega
   ·simp only [evalC, cntC, if_neg h] at h3 h4 h5 h6; exact ⟨h3, h4, h5, by omega⟩
 have hnext : ∀ k, m = k + 1 -> (stepCastM f).2.1 = 1 -> (evalC k (stepCastM f).1).1 = r1 /\ (evalC k (stepCastM f).1).2.1 = r2 /\ (evalC k (stepCastM f).1).2.2 = r3 /\ cntC k (stepCastM f).1 + (s + 1) = r4 := by
  intro k hk h
  subst hk
  simp only [evalC, cntC, if_pos h] at h3 h4 h5 h6
  exact ⟨h3, h4, h5, by omega⟩
 clear h3 h4 h5 h6 hr1 hr2 hr3 hr4 k0
 generalize stepCastM f = p at *
 obtain ⟨x, cd, lb⟩ := p
 dsimp only at hsz hlast hnext k2
 by_cases hc : cd = 1
 ·subst hc
  cases m with
  | zero =>
   obtain ⟨rfl, rfl, rfl, rfl⟩ := hlast (.inl rfl)
   have hs : n = s := by omega
   subst hs
   repeat' first | ((first | refine aops_end (hK _ ?_) | refine aopsD_end (hK _ ?_) | refine aopsF_end (hK _ ?_)); clear hK K) | ((first | refine aops_go ?_ | refine aopsD_go ?_ | refine aopsF_go ?_ | refine wpcall_pure rfl (k1) ?_ | refine wpcall_pure rfl (k2) ?_); simp; (try simp (disch := omega) only [wrap64]); (try (refine gen fun q hq => ?_; cases q <;> (try simp at hq) <;> (try (have hh : True := hq; clear hh hq))))) | (refine T.ret (Done.tup (Or.inr rfl) ?_) <;> simp [resAs, Tryz.results160] <;> omega) | refine T.r0 fun K hK => ?_ | refine T.r1 fun K hK => ?_ | (refine ⟨by omega, ?_⟩) | refine T.ct rfl ?_ | refine T.cf rfl ?_ | refine T.seq ?_ | refine T.block ?_ | refine T.skip ?_ | refine T.exit ?_
  | succ m =>
   obtain ⟨g1, g2, g3, g4⟩ := hnext m rfl rfl
   have hs : ¬ (s : Int) = n := by omega
   have hs2 : n - (s + 1) = m := by omega
   repeat' first | ((first | refine aops_end (hK _ ?_) | refine aopsD_end (hK _ ?_) | refine aopsF_end (hK _ ?_)); clear hK K) | ((first | refine aops_go ?_ | refine aopsD_go ?_ | refine aopsF_go ?_ | refine wpcall_pure rfl (k1) ?_ | refine wpcall_pure rfl (k2) ?_); simp [hs]; (try simp (disch := omega) only [wrap64]); (try (refine gen fun q hq => ?_; cases q <;> (try simp [hs] at hq) <;> (try (have hh : True := hq; clear hh hq))))) | (refine ⟨(s + 1, x, _), by dsimp only; omega, ⟨by dsimp only; omega, by dsimp only; omega, by dsimp only; rw [hs2]; exact g1, by dsimp only; rw [hs2]; exact g2, by dsimp only; rw [hs2]; exact g3, by dsimp only; rw [hs2]; exact g4⟩, rfl, ?_, ?_⟩ <;> simp (disch := omega) [wrap64]) | refine T.r0 fun K hK => ?_ | refine T.r1 fun K hK => ?_ | (refine ⟨by omega, ?_⟩) | refine T.ct rfl ?_ | refine T.cf rfl ?_ | refine T.seq ?_ | refine T.block ?_ | refine T.skip ?_ | refine T.exit ?_
 ·obtain ⟨rfl, rfl, rfl, rfl⟩ := hlast (.inr hc)
  repeat' first | ((first | refine aops_end (hK _ ?_) | refine aopsD_end (hK _ ?_) | refine aopsF_end (hK _ ?_)); clear hK K) | ((first | refine aops_go ?_ | refine aopsD_go ?_ | refine aopsF_go ?_ | refine wpcall_pure rfl (k1) ?_ | refine wpcall_pure rfl (k2) ?_); simp [hc]; (try simp (disch := omega) only [wrap64]); (try (refine gen fun q hq => ?_; cases q <;> (try simp [hc] at hq) <;> (try (have hh : True := hq; clear hh hq))))) | (refine T.ret (Done.tup (Or.inr rfl) ?_) <;> simp [resAs, Tryz.results160] <;> omega) | refine T.r0 fun K hK => ?_ | refine T.r1 fun K hK => ?_ | (refine ⟨by omega, ?_⟩) | refine T.ct rfl ?_ | refine T.cf rfl ?_ | refine T.seq ?_ | refine T.block ?_ | refine T.skip ?_ | refine T.exit ?_

theorem EvalCast_ok (e : MTm) (n : Int) (hn : nTm e <= 1073741824) : ACalls Tryz.prog 86 [aTm e, .i n] [] (.tup (stepR (evalCastM e n))) [] [] := by
 have k1 := isFuel_ok n
 rw [evalCastM]
 cases hf : fuelM n with
 | false =>
  rw [hf] at k1
  rw [if_neg (by intro h; simp [fuelM, h.1, h.2] at hf)]
  refine ACalls.of_body Tryz.func86 (by kernel_rfl) rfl (by kernel_rfl) (by simp [Tryz.ntmps86]) (by simp) ?_
  rw [Tryz.ntmps86]
  repeat' first | ((first | refine aops_end (hK _ ?_) | refine aopsD_end (hK _ ?_) | refine aopsF_end (hK _ ?_)); clear hK K) | ((first | refine aops_go ?_ | refine aopsD_go ?_ | refine aopsF_go ?_ | refine wpcall_pure rfl (k1) ?_); simp; (try (refine gen fun q hq => ?_; cases q <;> (try simp at hq) <;> (try (have hh : True := hq; clear hh hq))))) | (refine T.ret (Done.tup (Or.inr rfl) ?_) <;> simp [resAs, Tryz.results86] <;> omega) | refine T.r0 fun K hK => ?_ | refine T.r1 fun K hK => ?_ | (refine ⟨by omega, ?_⟩) | refine T.ct rfl ?_ | refine T.cf rfl ?_ | refine T.seq ?_ | refine T.block ?_ | refine T.skip ?_ | refine T.exit ?_
 | true =>
  rw [hf] at k1
  simp only [fuelM, Bool.and_eq_true, decide_eq_true_eq] at hf
  rw [if_pos hf]
  have k2 := evaluate_ok e n.toNat hn (by omega)
  rw [show ((n.toNat : Nat) : Int) = n by omega] at k2
  generalize cntC n.toNat e = st at *
  generalize evalC n.toNat e = p at *
  obtain ⟨x, cd, lb⟩ := p
  dsimp only at k2 ⊢
  by_cases hc : cd = 1
  ·subst hc
   simp only [if_true]
   refine ACalls.of_body Tryz.func86 (by kernel_rfl) rfl (by kernel_rfl) (by simp [Tryz.ntmps86]) (by simp) ?_
   rw [Tryz.ntmps86]
   repeat' first | ((first | refine aops_end (hK _ ?_) | refine aopsD_end (hK _ ?_) | refine aopsF_end (hK _ ?_)); clear hK K) | ((first | refine aops_go ?_ | refine aopsD_go ?_ | refine aopsF_go ?_ | refine wpcall_pure rfl (k1) ?_ | refine wpcall_pure rfl (k2) ?_); simp; (try (refine gen fun q hq => ?_; cases q <;> (try simp at hq) <;> (try (have hh : True := hq; clear hh hq))))) | (refine T.ret (Done.tup (Or.inr rfl) ?_) <;> simp [resAs, Tryz.results86] <;> omega) | refine T.r0 fun K hK => ?_ | refine T.r1 fun K hK => ?_ | (refine ⟨by omega, ?_⟩) | refine T.ct rfl ?_ | refine T.cf rfl ?_ | refine T.seq ?_ | refine T.block ?_ | refine T.skip ?_ | refine T.exit ?_
  ·rw [if_neg hc]
   refine ACalls.of_body Tryz.func86 (by kernel_rfl) rfl (by kernel_rfl) (by simp [Tryz.ntmps86]) (by simp) ?_
   rw [Tryz.ntmps86]
   repeat' first | ((first | refine aops_end (hK _ ?_) | refine aopsD_end (hK _ ?_) | refine aopsF_end (hK _ ?_)); clear hK K) | ((first | refine aops_go ?_ | refine aopsD_go ?_ | refine aopsF_go ?_ | refine wpcall_pure rfl (k1) ?_ | refine wpcall_pure rfl (k2) ?_); simp [hc]; (try (refine gen fun q hq => ?_; cases q <;> (try simp [hc] at hq) <;> (try (have hh : True := hq; clear hh hq))))) | (refine T.ret (Done.tup (Or.inr rfl) ?_) <;> simp [resAs, Tryz.results86] <;> omega) | refine T.r0 fun K hK => ?_ | refine T.r1 fun K hK => ?_ | (refine ⟨by omega, ?_⟩) | refine T.ct rfl ?_ | refine T.cf rfl ?_ | refine T.seq ?_ | refine T.block ?_ | refine T.skip ?_ | refine T.exit ?_

def runTermM (e : MTm) (n : Int) : List UInt8 × Int × Int := match insertM e with
 | none => ([], 3, 0)
 | some (c, _) => if (evalCastM c n).2.1 = 0 then (valTextF 40 (evalCastM c n).1, 0, (evalCastM c n).2.2) else ([], (evalCastM c n).2.1, (evalCastM c n).2.2)
theorem evalCast_zero {e : MTm} {n : Int} (h : (evalCastM e n).2.1 = 0) : castValidM (evalCastM e n).1 = true /\ valM (evalCastM e n).1 = true := by
 rw [evalCastM] at h ⊢
 split at h
 ·rename_i hf
  rw [if_pos hf]
  split at h
  ·simp at h
  ·rename_i h1
   rw [if_neg h1]
   have := evalC_zero n.toNat h
   exact ⟨this.1, this.2.1⟩
 ·simp at h
theorem RunTerm_ok (e : MTm) (n : Int) (hn : nTm e <= 1073741824) : ACalls Tryz.prog 30 [aTm e, .i n] [] (.tup [.s (runTermM e n).1, .i (runTermM e n).2.1, .i (runTermM e n).2.2]) [] [] := by
 have k1 := InsertCasts_ok e hn
 rw [runTermM]
 cases hi : insertM e with
 | none =>
  rw [hi] at k1
  simp only [elRes] at k1
  refine ACalls.of_body Tryz.func30 (by kernel_rfl) rfl (by kernel_rfl) (by simp [Tryz.ntmps30]) (by simp) ?_
  rw [Tryz.ntmps30]
  repeat' first | ((first | refine aops_end (hK _ ?_) | refine aopsD_end (hK _ ?_) | refine aopsF_end (hK _ ?_)); clear hK K) | ((first | refine aops_go ?_ | refine aopsD_go ?_ | refine aopsF_go ?_ | refine wpcall_pure rfl (k1) ?_); simp; (try (refine gen fun q hq => ?_; cases q <;> (try simp at hq) <;> (try (have hh : True := hq; clear hh hq))))) | (refine T.ret (Done.tup (Or.inr rfl) ?_) <;> simp [resAs, Tryz.results30] <;> omega) | refine T.r0 fun K hK => ?_ | refine T.r1 fun K hK => ?_ | (refine ⟨by omega, ?_⟩) | refine T.ct rfl ?_ | refine T.cf rfl ?_ | refine T.seq ?_ | refine T.block ?_ | refine T.skip ?_ | refine T.exit ?_
 | some q =>
  obtain ⟨c, Tc⟩ := q
  rw [hi] at k1
  simp only [elRes] at k1
  obtain ⟨_, _, m, _, _, _, _, _, _, _, _, _, hnc⟩ := insert_some hi
  have k2 := EvalCast_ok c n (by omega)
  have hz := evalCast_zero (e := c) (n := n)
  simp only
  generalize evalCastM c n = p at *
  obtain ⟨v, cd, lb⟩ := p
  dsimp only at hz k2 ⊢
  by_cases hc : cd = 0
  ·subst hc
   obtain ⟨h1, h2⟩ := hz rfl
   have k3 := valueText_ok (castValidM_iff.1 h1).1 h2
   simp only [if_true]
   generalize valTextF 40 v = W at *
   refine ACalls.of_body Tryz.func30 (by kernel_rfl) rfl (by kernel_rfl) (by simp [Tryz.ntmps30]) (by simp) ?_
   rw [Tryz.ntmps30]
   repeat' first | ((first | refine aops_end (hK _ ?_) | refine aopsD_end (hK _ ?_) | refine aopsF_end (hK _ ?_)); clear hK K) | ((first | refine aops_go ?_ | refine aopsD_go ?_ | refine aopsF_go ?_ | refine wpcall_pure rfl (k1) ?_ | refine wpcall_pure rfl (k2) ?_ | refine wpcall_pure rfl (k3) ?_); simp; (try (refine gen fun q hq => ?_; cases q <;> (try simp at hq) <;> (try (have hh : True := hq; clear hh hq))))) | (refine T.ret (Done.tup (Or.inr rfl) ?_) <;> simp [resAs, Tryz.results30] <;> omega) | refine T.r0 fun K hK => ?_ | refine T.r1 fun K hK => ?_ | (refine ⟨by omega, ?_⟩) | refine T.ct rfl ?_ | refine T.cf rfl ?_ | refine T.seq ?_ | refine T.block ?_ | refine T.skip ?_ | refine T.exit ?_
  ·rw [if_neg hc]
   refine ACalls.of_body Tryz.func30 (by kernel_rfl) rfl (by kernel_rfl) (by simp [Tryz.ntmps30]) (by simp) ?_
   rw [Tryz.ntmps30]
   repeat' first | ((first | refine aops_end (hK _ ?_) | refine aopsD_end (hK _ ?_) | refine aopsF_end (hK _ ?_)); clear hK K) | ((first | refine aops_go ?_ | refine aopsD_go ?_ | refine aopsF_go ?_ | refine wpcall_pure rfl (k1) ?_ | refine wpcall_pure rfl (k2) ?_); simp [hc]; (try (refine gen fun q hq => ?_; cases q <;> (try simp [hc] at hq) <;> (try (have hh : True := hq; clear hh hq))))) | (refine T.ret (Done.tup (Or.inr rfl) ?_) <;> simp [resAs, Tryz.results30] <;> omega) | refine T.r0 fun K hK => ?_ | refine T.r1 fun K hK => ?_ | (refine ⟨by omega, ?_⟩) | refine T.ct rfl ?_ | refine T.cf rfl ?_ | refine T.seq ?_ | refine T.block ?_ | refine T.skip ?_ | refine T.exit ?_
end Go.Proofs.YtflmjilnecanhaaGreatDoor

namespace Go.Proofs.YtflmjilnecanhaaGreatDoor
open Go Go.Av
attribute [local irreducible] T ACalls TX EX LX Draws Some_ ACallsX eTy eTm MTy.kind MTy.kids MTm.kind MTm.name MTm.num MTm.ty MTm.fr MTm.label MTm.kids
attribute [local simp] eTy_def eTm_def
set_option maxHeartbeats 16000000
set_option maxRecDepth 8000
attribute [local simp] Option.bind

theorem lookM_nil : lookM [] = noG := by funext s; rfl
theorem insert_ct {e c : MTm} {t : MTy} (h : insertM e = some (c, t)) : castValidM c = true /\ CT noG c t /\ era c = mapM bareG e := by
 obtain ⟨_, _, m, _, hev, hv, _, _, _, h30, hn, _, _⟩ := insert_some h
 have := CT.of_EV hev
 rw [lookM_nil] at this
 exact ⟨castValidM_iff.2 ⟨hv.mono (by omega), by omega⟩, this, hev.bare⟩
theorem insert_names {e c : MTm} {t : MTy} (h : insertM e = some (c, t)) : namesM e = [] := by
 obtain ⟨hte, _, m, _, hev, hv, _⟩ := insert_some h
 obtain ⟨_, hc, he⟩ := insert_ct h
 refine (names_nil (termValidM_iff.1 hte).1).2 fun z => ?_
 rw [<- free_bare (termValidM_iff.1 hte).1, <- he]
 have := free_bare hv z []
 rw [show mapM bareG c = era c from rfl] at this
 rw [this]
 exact hc.closed hv [] (fun c h => absurd rfl h) z
theorem runTerm_zero {e : MTm} {n : Int} (h0 : 0 <= n) (h3 : n <= 300) (h : (runTermM e n).2.1 = 0) : ∃ c t, insertM e = some (c, t) /\ (evalC n.toNat c).2.1 = 0 /\ (runTermM e n).1 = valTextF 40 (evalC n.toNat c).1 := by
 cases hi : insertM e with
 | none => simp [runTermM, hi] at h
 | some p =>
  obtain ⟨c, t⟩ := p
  simp only [runTermM, hi] at h ⊢
  by_cases hz : (evalCastM c n).2.1 = 0
  ·have hz' := hz
   simp only [if_pos hz]
   rw [evalCastM, if_pos ⟨h0, h3⟩] at hz ⊢
   by_cases h1 : (evalC n.toNat c).2.1 = 1
   ·rw [if_pos h1] at hz; simp at hz
   ·rw [if_neg h1] at hz ⊢
    exact ⟨c, t, rfl, hz, rfl⟩
  ·simp only [if_neg hz] at h
   exact absurd h hz
theorem runTerm_max {e c : MTm} {t : MTy} (hi : insertM e = some (c, t)) : ((evalC 300 c).2.1 = 0 -> (runTermM e 300).2.1 = 0 /\ (runTermM e 300).1 = valTextF 40 (evalC 300 c).1) /\ ((evalC 300 c).2.1 = 1 -> (runTermM e 300).2.1 = 5) /\ ((evalC 300 c).2.1 = 4 -> (runTermM e 300).2.1 = 4) := by
 have hf : (0 : Int) <= 300 /\ (300 : Int) <= 300 := by omega
 refine ⟨fun h => ?_, fun h => ?_, fun h => ?_⟩
 ·have h1 : ¬ (evalC 300 c).2.1 = 1 := by omega
  have : evalCastM c 300 = evalC 300 c := by rw [evalCastM, if_pos hf, show (300 : Int).toNat = 300 from rfl, if_neg h1]
  simp only [runTermM, hi, this, if_pos h, and_self]
 ·have : evalCastM c 300 = (zeroE, 5, 0) := by rw [evalCastM, if_pos hf, show (300 : Int).toNat = 300 from rfl, if_pos h]
  simp [runTermM, hi, this]
 ·have h1 : ¬ (evalC 300 c).2.1 = 1 := by omega
  have h0 : ¬ (evalC 300 c).2.1 = 0 := by omega
  have : evalCastM c 300 = evalC 300 c := by rw [evalCastM, if_pos hf, show (300 : Int).toNat = 300 from rfl, if_neg h1]
  simp only [runTermM, hi, this, if_neg h0]
  exact h
theorem elab_as {e c x : MTm} {T t : MTy} {m n : Int} (h1 : elabM [] e 0 = (some (c, T), n)) (h2 : elabM [] (asAnyM e) 0 = (some (x, t), m)) : t = anyT /\ CaV n c T anyT x m := by
 simp only [elabM, show ¬ ((13 : Int) = 5) by omega, if_false] at h2
 obtain ⟨es, ts, n', ws, ho, hw, hst, rfl, _, g1⟩ := finM_some h2
 obtain ⟨a', ta, ha', rfl, rfl⟩ := elabS_one ho
 rw [h1] at ha'
 simp only [Prod.mk.injEq, Option.some.injEq] at ha'
 obtain ⟨⟨rfl, rfl⟩, rfl⟩ := ha'
 simp [wantM] at hw
 obtain ⟨q, rfl, rfl⟩ := hw
 have := g1 rfl
 simp [castS] at this
 subst this
 exact ⟨rfl, CaV.of ..⟩
theorem wrapTerm_law {e : MTm} (hx : termValidM (asAnyM e) = true) (h : (runTermM e 100).2.1 = 0) :
  ((runTermM (asAnyM e) 300).2.1 = 0 /\ (runTermM (asAnyM e) 300).1 = (runTermM e 100).1) \/ (runTermM (asAnyM e) 300).2.1 = 4 := by
 obtain ⟨c, T, hi, hz, htx⟩ := runTerm_zero (by omega) (by omega) h
 obtain ⟨hv, hty, m, hel, hev, _, hT, _⟩ := insert_some hi
 obtain ⟨g1, g2, g3⟩ := insert_ct hi
 rw [typeOf_of hv] at hty
 cases hj : insertM (asAnyM e) with
 | none =>
  have := insert_none hj
  rw [typeOf_of hx, asAnyM, typeM_as, hty] at this
  simp [cons_any2] at this
 | some p =>
  obtain ⟨d, u⟩ := p
  obtain ⟨k1, k2, k3⟩ := insert_ct hj
  obtain ⟨_, _, m', hel', _⟩ := insert_some hj
  obtain ⟨r0, r1, r4⟩ := runTerm_max hj
  obtain ⟨rfl, hc⟩ := elab_as hel hel'
  have hn : (100 : Int).toNat = 100 := rfl
  rw [hn] at hz htx
  cases hc with
  | same hs =>
   have h1 : ¬ (evalC 100 c).2.1 = 1 := by omega
   have hm := evalC_more (k := 200) h1
   rw [show (100 : Nat) + 200 = 300 from rfl] at hm
   rw [hm] at r0
   exact .inl ⟨(r0 hz).1, by rw [(r0 hz).2, htx]⟩
  | cast hne =>
   have hk : T.kind ≠ 1 := fun hk => hne (by
    cases VTy.of hT with
    | any => rfl
    | _ => simp at hk)
   rcases wrap_run hT hk 100 g2 g1 k1 hz with ⟨q1, q2⟩ | q
   ·have hm := evalC_more (k := 199) (n := 100 + 1) (show (evalC (100 + 1) (tCast c T anyT (m + 1))).2.1 ≠ 1 by omega)
    rw [show (100 : Nat) + 1 + 199 = 300 from rfl] at hm
    rw [hm] at r0
    exact .inl ⟨(r0 q1).1, by rw [(r0 q1).2, q2, htx]⟩
   ·have hm := evalC_more (k := 199) (n := 100 + 1) (show (evalC (100 + 1) (tCast c T anyT (m + 1))).2.1 ≠ 1 by omega)
    rw [show (100 : Nat) + 1 + 199 = 300 from rfl] at hm
    rw [hm] at r4
    exact .inr (r4 q)

def wrapM (e : MTm) : Option MTm := if termValidM e = true then (if termValidM (asAnyM e) = true then some (asAnyM e) else none) else none
theorem nTm_asAny (e : MTm) : nTm (asAnyM e) = nTm e + 1 + nTy anyT := by simp [nTm_mk, nTmS, nTy_mk, nTyS]; omega
theorem WrapTerm_ok (e : MTm) (hn : nTm e <= 1000000000) : ACalls Tryz.prog 37 [aTm e] [] (.tup (tmRes (wrapM e))) [] [] := by
 have h1 := TermValid_ok e (by omega)
 have h2 := asAny_ok e
 have h3 := checkedTerm_ok (asAnyM e) (by rw [nTm_asAny]; simp [nTy_mk, nTyS]; omega)
 rw [wrapM]
 cases hv : termValidM e with
 | false =>
  rw [hv] at h1
  simp only [Bool.false_eq_true, if_false, tmRes]
  refine ACalls.of_body Tryz.func37 (by kernel_rfl) rfl (by kernel_rfl) (by simp [Tryz.ntmps37]) (by simp) ?_
  rw [Tryz.ntmps37]
  repeat' first | ((first | refine aops_end (hK _ ?_) | refine aopsD_end (hK _ ?_) | refine aopsF_end (hK _ ?_)); clear hK K) | ((first | refine aops_go ?_ | refine aopsD_go ?_ | refine aopsF_go ?_ | refine wpcall_pure rfl (h1) ?_); simp; (try (refine gen fun q hq => ?_; cases q <;> (try simp at hq) <;> (try (have hh : True := hq; clear hh hq))))) | (refine T.ret (Done.tup (Or.inr rfl) ?_) <;> simp [resAs, Tryz.results37] <;> omega) | refine T.r0 fun K hK => ?_ | refine T.r1 fun K hK => ?_ | (refine ⟨by omega, ?_⟩) | refine T.ct rfl ?_ | refine T.cf rfl ?_ | refine T.seq ?_ | refine T.block ?_ | refine T.skip ?_ | refine T.exit ?_
 | true =>
  rw [hv] at h1
  simp only [if_true]
  generalize asAnyM e = R at *
  cases hr : termValidM R with
  | false =>
   rw [hr] at h3
   simp only [Bool.false_eq_true, if_false, tmRes] at h3 ⊢
   refine ACalls.of_body Tryz.func37 (by kernel_rfl) rfl (by kernel_rfl) (by simp [Tryz.ntmps37]) (by simp) ?_
   rw [Tryz.ntmps37]
   repeat' first | ((first | refine aops_end (hK _ ?_) | refine aopsD_end (hK _ ?_) | refine aopsF_end (hK _ ?_)); clear hK K) | ((first | refine aops_go ?_ | refine aopsD_go ?_ | refine aopsF_go ?_ | refine wpcall_pure rfl (h1) ?_ | refine wpcall_pure rfl (h2) ?_ | refine wpcall_pure rfl (h3) ?_); simp; (try (refine gen fun q hq => ?_; cases q <;> (try simp at hq) <;> (try (have hh : True := hq; clear hh hq))))) | (refine T.ret (Done.tup (Or.inr rfl) ?_) <;> simp [resAs, Tryz.results37] <;> omega) | refine T.r0 fun K hK => ?_ | refine T.r1 fun K hK => ?_ | (refine ⟨by omega, ?_⟩) | refine T.ct rfl ?_ | refine T.cf rfl ?_ | refine T.seq ?_ | refine T.block ?_ | refine T.skip ?_ | refine T.exit ?_
  | true =>
   rw [hr] at h3
   simp only [if_true, tmRes] at h3 ⊢
   refine ACalls.of_body Tryz.func37 (by kernel_rfl) rfl (by kernel_rfl) (by simp [Tryz.ntmps37]) (by simp) ?_
   rw [Tryz.ntmps37]
   repeat' first | ((first | refine aops_end (hK _ ?_) | refine aopsD_end (hK _ ?_) | refine aopsF_end (hK _ ?_)); clear hK K) | ((first | refine aops_go ?_ | refine aopsD_go ?_ | refine aopsF_go ?_ | refine wpcall_pure rfl (h1) ?_ | refine wpcall_pure rfl (h2) ?_ | refine wpcall_pure rfl (h3) ?_); simp; (try (refine gen fun q hq => ?_; cases q <;> (try simp at hq) <;> (try (have hh : True := hq; clear hh hq))))) | (refine T.ret (Done.tup (Or.inr rfl) ?_) <;> simp [resAs, Tryz.results37] <;> omega) | refine T.r0 fun K hK => ?_ | refine T.r1 fun K hK => ?_ | (refine ⟨by omega, ?_⟩) | refine T.ct rfl ?_ | refine T.cf rfl ?_ | refine T.seq ?_ | refine T.block ?_ | refine T.skip ?_ | refine T.exit ?_

theorem WrapTermS_ok (e : MTm) (hn : nTm e <= 1000000000) : ACalls Tryz.prog 38 [aTm e] [] (.tup (tmRes (wrapM e))) [] [] := by
 have h1 := TermValidS_ok e (by omega)
 have h0 := l2Copy_ok e (by omega)
 have h2 := l9As_ok e
 have h3 := TermValidS_ok (asAnyM e) (by rw [nTm_asAny]; simp [nTy_mk, nTyS]; omega)
 rw [wrapM]
 cases hv : termValidM e with
 | false =>
  rw [hv] at h1
  simp only [Bool.false_eq_true, if_false, tmRes]
  refine ACalls.of_body Tryz.func38 (by kernel_rfl) rfl (by kernel_rfl) (by simp [Tryz.ntmps38]) (by simp) ?_
  rw [Tryz.ntmps38]
  repeat' first | ((first | refine aops_end (hK _ ?_) | refine aopsD_end (hK _ ?_) | refine aopsF_end (hK _ ?_)); clear hK K) | ((first | refine aops_go ?_ | refine aopsD_go ?_ | refine aopsF_go ?_ | refine wpcall_pure rfl (h1) ?_); simp; (try (refine gen fun q hq => ?_; cases q <;> (try simp at hq) <;> (try (have hh : True := hq; clear hh hq))))) | (refine T.ret (Done.tup (Or.inr rfl) ?_) <;> simp [resAs, Tryz.results38] <;> omega) | refine T.r0 fun K hK => ?_ | refine T.r1 fun K hK => ?_ | (refine ⟨by omega, ?_⟩) | refine T.ct rfl ?_ | refine T.cf rfl ?_ | refine T.seq ?_ | refine T.block ?_ | refine T.skip ?_ | refine T.exit ?_
 | true =>
  rw [hv] at h1
  simp only [if_true]
  generalize asAnyM e = R at *
  cases hr : termValidM R with
  | false =>
   rw [hr] at h3
   simp only [Bool.false_eq_true, if_false, tmRes]
   refine ACalls.of_body Tryz.func38 (by kernel_rfl) rfl (by kernel_rfl) (by simp [Tryz.ntmps38]) (by simp) ?_
   rw [Tryz.ntmps38]
   repeat' first | ((first | refine aops_end (hK _ ?_) | refine aopsD_end (hK _ ?_) | refine aopsF_end (hK _ ?_)); clear hK K) | ((first | refine aops_go ?_ | refine aopsD_go ?_ | refine aopsF_go ?_ | refine wpcall_pure rfl (h1) ?_ | refine wpcall_pure rfl (h0) ?_ | refine wpcall_pure rfl (h2) ?_ | refine wpcall_pure rfl (h3) ?_); simp; (try (refine gen fun q hq => ?_; cases q <;> (try simp at hq) <;> (try (have hh : True := hq; clear hh hq))))) | (refine T.ret (Done.tup (Or.inr rfl) ?_) <;> simp [resAs, Tryz.results38] <;> omega) | refine T.r0 fun K hK => ?_ | refine T.r1 fun K hK => ?_ | (refine ⟨by omega, ?_⟩) | refine T.ct rfl ?_ | refine T.cf rfl ?_ | refine T.seq ?_ | refine T.block ?_ | refine T.skip ?_ | refine T.exit ?_
  | true =>
   rw [hr] at h3
   simp only [if_true, tmRes]
   refine ACalls.of_body Tryz.func38 (by kernel_rfl) rfl (by kernel_rfl) (by simp [Tryz.ntmps38]) (by simp) ?_
   rw [Tryz.ntmps38]
   repeat' first | ((first | refine aops_end (hK _ ?_) | refine aopsD_end (hK _ ?_) | refine aopsF_end (hK _ ?_)); clear hK K) | ((first | refine aops_go ?_ | refine aopsD_go ?_ | refine aopsF_go ?_ | refine wpcall_pure rfl (h1) ?_ | refine wpcall_pure rfl (h0) ?_ | refine wpcall_pure rfl (h2) ?_ | refine wpcall_pure rfl (h3) ?_); simp; (try (refine gen fun q hq => ?_; cases q <;> (try simp at hq) <;> (try (have hh : True := hq; clear hh hq))))) | (refine T.ret (Done.tup (Or.inr rfl) ?_) <;> simp [resAs, Tryz.results38] <;> omega) | refine T.r0 fun K hK => ?_ | refine T.r1 fun K hK => ?_ | (refine ⟨by omega, ?_⟩) | refine T.ct rfl ?_ | refine T.cf rfl ?_ | refine T.seq ?_ | refine T.block ?_ | refine T.skip ?_ | refine T.exit ?_
end Go.Proofs.YtflmjilnecanhaaGreatDoor

namespace Go.Proofs.YtflmjilnecanhaaGreatDoor
open Go Go.Av
attribute [local irreducible] T ACalls TX EX LX Draws Some_ ACallsX eTy eTm MTy.kind MTy.kids MTm.kind MTm.name MTm.num MTm.ty MTm.fr MTm.label MTm.kids
attribute [local simp] eTy_def eTm_def
set_option maxHeartbeats 16000000
set_option maxRecDepth 8000

end Go.Proofs.YtflmjilnecanhaaGreatDoor

namespace Go.Proofs.YtflmjilnecanhaaGreatDoor
open Go Go.Av
attribute [local irreducible] T ACalls TX EX LX Draws Some_ ACallsX eTy eTm MTy.kind MTy.kids MTm.kind MTm.name MTm.num MTm.ty MTm.fr MTm.label MTm.kids
attribute [local simp] eTy_def eTm_def
set_option maxHeartbeats 16000000
set_option maxRecDepth 8000

theorem DrawWrapTerm_ok (b : List Int) (hb : ∀ n ∈ b, 0 <= n /\ n <= 255) : Some_ Tryz.prog 36 [.l (rB b)] (RV aTm noA fun e => nTm e <= 3000000) := by
 have hc := DrawTypeOf_ok b hb
 refine Some_.of_body Tryz.func36 (by kernel_rfl) rfl (by kernel_rfl) (by simp [Tryz.ntmps36]) ?_
 rw [Tryz.ntmps36]
 repeat' first | ((first | refine aops_end (hK _ ?_) | refine aopsD_end (hK _ ?_) | refine aopsF_end (hK _ ?_)); clear hK K) | ((first | refine aops_go ?_ | refine aopsD_go ?_ | refine aopsF_go ?_); simp; (try (refine gen fun q hq => ?_; cases q <;> (try simp at hq) <;> (try (have hh : True := hq; clear hh hq))))) | (refine wpcall_some rfl (hc) (fun _ _ => ?_); simp; (try (refine gen fun q hq => ?_; cases q <;> (try simp at hq) <;> (try (have hh : True := hq; clear hh hq))))) | refine TX.rs (fun _ => false) fun K hK => ?_ | refine TX.rs1 (fun _ => false) fun K hK => ?_ | (refine ⟨by omega, ?_⟩) | refine TX.cond rfl (fun hcnd => ?_) (fun hcnd => absurd hcnd (by decide)) | refine TX.cond rfl (fun hcnd => absurd hcnd (by decide)) (fun hcnd => ?_) | refine TX.seq ?_ | refine TX.block ?_ | refine TX.skip ?_ | refine TX.exit ?_ | refine EX.thenN ?_ | refine EX.thenR ?_ | refine EX.thenE ?_ | refine EX.blockN ?_ | refine EX.blockR ?_ | refine EX.blockE ?_ | refine EX.blockO (by simp) ?_ | refine EX.outR ?_ | refine EX.outE ?_
 all_goals (
  refine TX.ret ?_
  repeat' first | refine EX.outR ?_ | refine EX.thenR ?_ | refine EX.blockR ?_ | refine EX.unrR ?_
  apply EX.someA (ks := [])
  case he => exact Or.inr rfl
  case hys => simp [resAs, getAs, Tryz.results36] <;> rfl
  case hv => first | (dsimp only [Av.one]; exact rfl) | dsimp only [Av.one]
  case hx => repeat' first | exact IsT2.var _ | exact IsV.tmv _ | exact IsTm.var _ | exact IsTy.row _ | exact IsTm.row _ | exact IsTys.nil | exact IsTms.nil | exact IsBds.nil | exact IsTys.map _ | exact IsTms.map _ | exact IsBds.map _ | exact IsV.int _ | exact IsV.str _ | exact IsV.bool _ | apply IsV.p2 | apply IsV.p3 | apply IsV.tm | apply IsV.ty | apply IsTm.node | apply IsTy.of | apply IsTys.cons | apply IsTms.cons | apply IsBds.cons | apply IsV.tys | apply IsV.tms | apply IsV.bds | apply IsT2.node | apply IsTys.app | apply IsTms.app | apply IsBds.app | exact IsCos.map _ | exact IsCos.nil | apply IsV.co | apply IsCos.cons | apply IsCos.app | apply IsV.ops | exact IsOps.map _ | exact IsOps.nil | apply IsOps.cons | apply IsOps.app | apply IsOps.set | apply IsOps.take
  case hA => exact rfl
  case hks => simp
  case hg => assumption)

theorem lawWrapTerm_ok (b : List Int) (hb : ∀ n ∈ b, 0 <= n /\ n <= 255) : ACalls Tryz.prog 7 [.l (rB b)] [] (.b true) [] [] := by
 by_cases h1 : (1048576 : Int) < b.length
 ·refine ACalls.of_body Tryz.func7 (by kernel_rfl) rfl (by kernel_rfl) (by simp [Tryz.ntmps7]) (by simp) ?_
  rw [Tryz.ntmps7]
  repeat' first | ((first | refine aops_end (hK _ ?_) | refine aopsD_end (hK _ ?_) | refine aopsF_end (hK _ ?_)); clear hK K) | ((first | refine aops_go ?_ | refine aopsD_go ?_ | refine aopsF_go ?_); simp [h1, rB_len]; (try (refine gen fun q hq => ?_; cases q <;> (try simp [h1, rB_len] at hq) <;> (try (have hh : True := hq; clear hh hq))))) | (refine T.ret (Done.data (Or.inr rfl) ?_ ?_) <;> simp [Tryz.results7] <;> omega) | refine T.r0 fun K hK => ?_ | refine T.r1 fun K hK => ?_ | (refine ⟨by omega, ?_⟩) | refine T.ct rfl ?_ | refine T.cf rfl ?_ | refine T.seq ?_ | refine T.block ?_ | refine T.skip ?_ | refine T.exit ?_
 obtain ⟨e, he, d1⟩ := (DrawWrapTerm_ok b hb).elim
 have k1 := WrapTerm_ok e (by omega)
 have k2 := WrapTermS_ok e (by omega)
 have kz := TermSame_ok zeroE zeroE (by simp [nTm_mk, nTmS, nTy_mk, nTyS])
 rw [sameTm_refl] at kz
 cases hr : wrapM e with
 | none =>
  rw [hr] at k1 k2
  simp only [tmRes] at k1 k2
  refine ACalls.of_body Tryz.func7 (by kernel_rfl) rfl (by kernel_rfl) (by simp [Tryz.ntmps7]) (by simp) ?_
  rw [Tryz.ntmps7]
  repeat' first | ((first | refine aops_end (hK _ ?_) | refine aopsD_end (hK _ ?_) | refine aopsF_end (hK _ ?_)); clear hK K) | ((first | refine aops_go ?_ | refine aopsD_go ?_ | refine aopsF_go ?_ | refine wpcall_pure rfl (d1) ?_ | refine wpcall_pure rfl (k1) ?_ | refine wpcall_pure rfl (k2) ?_ | (refine wpcall_pure ?_ (kz) ?_; (focus (solve | simp [h1, rB_len])))); simp [h1, rB_len]; (try (refine gen fun q hq => ?_; cases q <;> (try simp [h1, rB_len] at hq) <;> (try (have hh : True := hq; clear hh hq))))) | (refine T.ret (Done.data (Or.inr rfl) ?_ ?_) <;> simp [Tryz.results7] <;> omega) | refine T.r0 fun K hK => ?_ | refine T.r1 fun K hK => ?_ | (refine ⟨by omega, ?_⟩) | refine T.ct rfl ?_ | refine T.cf rfl ?_ | refine T.seq ?_ | refine T.block ?_ | refine T.skip ?_ | refine T.exit ?_
 | some x =>
  rw [hr] at k1 k2
  simp only [tmRes] at k1 k2
  obtain ⟨hv, hvx, rfl⟩ : termValidM e = true /\ termValidM (asAnyM e) = true /\ x = asAnyM e := by
   rw [wrapM] at hr
   split at hr
   ·split at hr
    ·simp at hr; exact ⟨by assumption, by assumption, hr.symm⟩
    ·simp at hr
   ·simp at hr
  have hsx : nTm (asAnyM e) <= 4000000 := by rw [nTm_asAny]; simp [nTy_mk, nTyS]; omega
  have k3 := TermSame_ok (asAnyM e) (asAnyM e) (by omega)
  rw [sameTm_refl] at k3
  have k4 := RunTerm_ok e 100 (by omega)
  have k5 := RunTerm_ok (asAnyM e) 300 (by omega)
  have hl := wrapTerm_law (e := e) hvx
  have k6 := TypeOf_ok e (by omega)
  rw [typeOf_of hv] at k6
  have k7 := TypeOf_ok (asAnyM e) (by omega)
  rw [typeOf_of hvx, show asAnyM e = tAs e anyT from rfl, typeM_as, show tAs e anyT = asAnyM e from rfl] at k7
  have kf := FormatAny_ok
  generalize runTermM e 100 = p at *
  generalize runTermM (asAnyM e) 300 = q at *
  generalize asAnyM e = x at *
  obtain ⟨s, c, l⟩ := p
  obtain ⟨s', c', l'⟩ := q
  dsimp only at hl k4 k5
  cases ht : typeM [] e with
  | none =>
   rw [ht] at k6 k7
   simp only [Option.bind, tyRes] at k6 k7
   by_cases hc : c = 0
   ·subst hc
    rcases hl rfl with ⟨rfl, rfl⟩ | rfl
    ·refine ACalls.of_body Tryz.func7 (by kernel_rfl) rfl (by kernel_rfl) (by simp [Tryz.ntmps7]) (by simp) ?_
     rw [Tryz.ntmps7]
     repeat' first | ((first | refine aops_end (hK _ ?_) | refine aopsD_end (hK _ ?_) | refine aopsF_end (hK _ ?_)); clear hK K) | ((first | refine aops_go ?_ | refine aopsD_go ?_ | refine aopsF_go ?_ | refine wpcall_pure rfl (d1) ?_ | refine wpcall_pure rfl (k1) ?_ | refine wpcall_pure rfl (k2) ?_ | refine wpcall_pure rfl (k3) ?_ | refine wpcall_pure rfl (k6) ?_ | refine wpcall_pure rfl (k7) ?_ | refine wpcall_pure rfl (k4) ?_ | refine wpcall_pure rfl (k5) ?_); simp [h1, rB_len]; (try (refine gen fun q hq => ?_; cases q <;> (try simp [h1, rB_len] at hq) <;> (try (have hh : True := hq; clear hh hq))))) | (refine T.ret (Done.data (Or.inr rfl) ?_ ?_) <;> simp [Tryz.results7] <;> omega) | refine T.r0 fun K hK => ?_ | refine T.r1 fun K hK => ?_ | (refine ⟨by omega, ?_⟩) | refine T.ct rfl ?_ | refine T.cf rfl ?_ | refine T.seq ?_ | refine T.block ?_ | refine T.skip ?_ | refine T.exit ?_
    ·refine ACalls.of_body Tryz.func7 (by kernel_rfl) rfl (by kernel_rfl) (by simp [Tryz.ntmps7]) (by simp) ?_
     rw [Tryz.ntmps7]
     repeat' first | ((first | refine aops_end (hK _ ?_) | refine aopsD_end (hK _ ?_) | refine aopsF_end (hK _ ?_)); clear hK K) | ((first | refine aops_go ?_ | refine aopsD_go ?_ | refine aopsF_go ?_ | refine wpcall_pure rfl (d1) ?_ | refine wpcall_pure rfl (k1) ?_ | refine wpcall_pure rfl (k2) ?_ | refine wpcall_pure rfl (k3) ?_ | refine wpcall_pure rfl (k6) ?_ | refine wpcall_pure rfl (k7) ?_ | refine wpcall_pure rfl (k4) ?_ | refine wpcall_pure rfl (k5) ?_); simp [h1, rB_len]; (try (refine gen fun q hq => ?_; cases q <;> (try simp [h1, rB_len] at hq) <;> (try (have hh : True := hq; clear hh hq))))) | (refine T.ret (Done.data (Or.inr rfl) ?_ ?_) <;> simp [Tryz.results7] <;> omega) | refine T.r0 fun K hK => ?_ | refine T.r1 fun K hK => ?_ | (refine ⟨by omega, ?_⟩) | refine T.ct rfl ?_ | refine T.cf rfl ?_ | refine T.seq ?_ | refine T.block ?_ | refine T.skip ?_ | refine T.exit ?_
   ·refine ACalls.of_body Tryz.func7 (by kernel_rfl) rfl (by kernel_rfl) (by simp [Tryz.ntmps7]) (by simp) ?_
    rw [Tryz.ntmps7]
    repeat' first | ((first | refine aops_end (hK _ ?_) | refine aopsD_end (hK _ ?_) | refine aopsF_end (hK _ ?_)); clear hK K) | ((first | refine aops_go ?_ | refine aopsD_go ?_ | refine aopsF_go ?_ | refine wpcall_pure rfl (d1) ?_ | refine wpcall_pure rfl (k1) ?_ | refine wpcall_pure rfl (k2) ?_ | refine wpcall_pure rfl (k3) ?_ | refine wpcall_pure rfl (k6) ?_ | refine wpcall_pure rfl (k7) ?_ | refine wpcall_pure rfl (k4) ?_ | refine wpcall_pure rfl (k5) ?_); simp [h1, rB_len, hc]; (try (refine gen fun q hq => ?_; cases q <;> (try simp [h1, rB_len, hc] at hq) <;> (try (have hh : True := hq; clear hh hq))))) | (refine T.ret (Done.data (Or.inr rfl) ?_ ?_) <;> simp [Tryz.results7] <;> omega) | refine T.r0 fun K hK => ?_ | refine T.r1 fun K hK => ?_ | (refine ⟨by omega, ?_⟩) | refine T.ct rfl ?_ | refine T.cf rfl ?_ | refine T.seq ?_ | refine T.block ?_ | refine T.skip ?_ | refine T.exit ?_
  | some t =>
   rw [ht] at k6 k7
   simp only [Option.bind, cons_any2, if_true, tyRes] at k6 k7
   by_cases hc : c = 0
   ·subst hc
    rcases hl rfl with ⟨rfl, rfl⟩ | rfl
    ·refine ACalls.of_body Tryz.func7 (by kernel_rfl) rfl (by kernel_rfl) (by simp [Tryz.ntmps7]) (by simp) ?_
     rw [Tryz.ntmps7]
     repeat' first | ((first | refine aops_end (hK _ ?_) | refine aopsD_end (hK _ ?_) | refine aopsF_end (hK _ ?_)); clear hK K) | ((first | refine aops_go ?_ | refine aopsD_go ?_ | refine aopsF_go ?_ | refine wpcall_pure rfl (d1) ?_ | refine wpcall_pure rfl (k1) ?_ | refine wpcall_pure rfl (k2) ?_ | refine wpcall_pure rfl (k3) ?_ | refine wpcall_pure rfl (k6) ?_ | refine wpcall_pure rfl (k7) ?_ | refine wpcall_pure rfl (k4) ?_ | refine wpcall_pure rfl (k5) ?_ | (refine wpcall_pure ?_ (kf) ?_; (focus (solve | simp [h1, rB_len])))); simp [h1, rB_len]; (try (refine gen fun q hq => ?_; cases q <;> (try simp [h1, rB_len] at hq) <;> (try (have hh : True := hq; clear hh hq))))) | (refine T.ret (Done.data (Or.inr rfl) ?_ ?_) <;> simp [Tryz.results7] <;> omega) | refine T.r0 fun K hK => ?_ | refine T.r1 fun K hK => ?_ | (refine ⟨by omega, ?_⟩) | refine T.ct rfl ?_ | refine T.cf rfl ?_ | refine T.seq ?_ | refine T.block ?_ | refine T.skip ?_ | refine T.exit ?_
    ·refine ACalls.of_body Tryz.func7 (by kernel_rfl) rfl (by kernel_rfl) (by simp [Tryz.ntmps7]) (by simp) ?_
     rw [Tryz.ntmps7]
     repeat' first | ((first | refine aops_end (hK _ ?_) | refine aopsD_end (hK _ ?_) | refine aopsF_end (hK _ ?_)); clear hK K) | ((first | refine aops_go ?_ | refine aopsD_go ?_ | refine aopsF_go ?_ | refine wpcall_pure rfl (d1) ?_ | refine wpcall_pure rfl (k1) ?_ | refine wpcall_pure rfl (k2) ?_ | refine wpcall_pure rfl (k3) ?_ | refine wpcall_pure rfl (k6) ?_ | refine wpcall_pure rfl (k7) ?_ | refine wpcall_pure rfl (k4) ?_ | refine wpcall_pure rfl (k5) ?_ | (refine wpcall_pure ?_ (kf) ?_; (focus (solve | simp [h1, rB_len])))); simp [h1, rB_len]; (try (refine gen fun q hq => ?_; cases q <;> (try simp [h1, rB_len] at hq) <;> (try (have hh : True := hq; clear hh hq))))) | (refine T.ret (Done.data (Or.inr rfl) ?_ ?_) <;> simp [Tryz.results7] <;> omega) | refine T.r0 fun K hK => ?_ | refine T.r1 fun K hK => ?_ | (refine ⟨by omega, ?_⟩) | refine T.ct rfl ?_ | refine T.cf rfl ?_ | refine T.seq ?_ | refine T.block ?_ | refine T.skip ?_ | refine T.exit ?_
   ·refine ACalls.of_body Tryz.func7 (by kernel_rfl) rfl (by kernel_rfl) (by simp [Tryz.ntmps7]) (by simp) ?_
    rw [Tryz.ntmps7]
    repeat' first | ((first | refine aops_end (hK _ ?_) | refine aopsD_end (hK _ ?_) | refine aopsF_end (hK _ ?_)); clear hK K) | ((first | refine aops_go ?_ | refine aopsD_go ?_ | refine aopsF_go ?_ | refine wpcall_pure rfl (d1) ?_ | refine wpcall_pure rfl (k1) ?_ | refine wpcall_pure rfl (k2) ?_ | refine wpcall_pure rfl (k3) ?_ | refine wpcall_pure rfl (k6) ?_ | refine wpcall_pure rfl (k7) ?_ | refine wpcall_pure rfl (k4) ?_ | refine wpcall_pure rfl (k5) ?_ | (refine wpcall_pure ?_ (kf) ?_; (focus (solve | simp [h1, rB_len, hc])))); simp [h1, rB_len, hc]; (try (refine gen fun q hq => ?_; cases q <;> (try simp [h1, rB_len, hc] at hq) <;> (try (have hh : True := hq; clear hh hq))))) | (refine T.ret (Done.data (Or.inr rfl) ?_ ?_) <;> simp [Tryz.results7] <;> omega) | refine T.r0 fun K hK => ?_ | refine T.r1 fun K hK => ?_ | (refine ⟨by omega, ?_⟩) | refine T.ct rfl ?_ | refine T.cf rfl ?_ | refine T.seq ?_ | refine T.block ?_ | refine T.skip ?_ | refine T.exit ?_
end Go.Proofs.YtflmjilnecanhaaGreatDoor
