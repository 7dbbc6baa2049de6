/- A part of the library of this seat. -/
import Derived.Test.YtcgmmknfpfdghaaGreatDoorC27
set_option linter.unusedVariables false
set_option linter.unusedSimpArgs false
namespace Go.Proofs.YtcgmmknfpfdghaaGreatDoor
attribute [-simp] Go.Av.astepJ Go.Av.relC Go.Av.relL Go.Av.relV Go.Av.relVs Go.Av.callJ Go.Av.IT.kind_v Go.Av.IT.kind_b Go.Av.IT.kind_p Go.Av.IT.name_v Go.Av.IT.name_b Go.Av.IT.name_p Go.Av.IT.kids_v Go.Av.IT.kids_b Go.Av.IT.kids_p Go.Av.eIT_len Go.Av.gT_cons Go.Av.sT_cons
open Go Go.Av
attribute [local irreducible] T ACalls TX EX LX Draws Some_ ACallsX eTy eTm MTy.kind MTy.kids MTm.kind MTm.name MTm.num MTm.ty MTm.fr MTm.label MTm.kids
attribute [local simp] eTy_def eTm_def
set_option maxHeartbeats 16000000
set_option maxRecDepth 8000

set_option maxRecDepth 100000 in
theorem sliteIndexByte2 (s : ByteArray) (c : Int) (w : World) :
  Calls Tryz.prog 139 #[.string s, .int .u8 c] w fun e w' => e = .returned (.int .i64 (Lib.indexByte s.data.toList c.toNat.toUInt8)) /\ w' = w := by
 go_enter Tryz.func139, Tryz.ntmps139
 go_wp2
 rw [run_callFunc_extern Tryz.func160 (by kernel_rfl) (by kernel_rfl) (by kernel_rfl) (e := Extern.BytealgIndexByte.indexByte) (by kernel_rfl), Lib.run_indexByteString]
 simp only [Result.andThen]
 rw [Oper.upon_value]
 go_wp2
 go_ret
 exact ⟨rfl, rfl⟩

theorem IndexByte2_ok (s : List UInt8) (c : Int) : ACalls Tryz.prog 139 [.s s, .c (.d (.int .u8 c))] [] (.i (Lib.indexByte s c.toNat.toUInt8)) [] [] := by
 unfold ACalls
 refine ⟨enters (c := (Tryz.f139.body).getD .skip) Tryz.func139 rfl (by kernel_rfl), by simp, fun g w vs hg hI hT hl hv => ?_⟩
 have h0 : 0 < vs.size := by rw [hl]; simp
 have h1 : 1 < vs.size := by rw [hl]; simp
 have e0 := hv 0 _ vs[0] rfl (by simp [h0])
 have e1 := hv 1 _ vs[1] rfl (by simp [h1])
 simp only [RepV, RepE, RepC, RepD] at e0 e1
 have e : vs = #[.string (bs s), .int .u8 c] := by
  apply Array.ext
  ·simpa using hl
  ·intro i hi hi'
   match i with
   | 0 => simpa using e0
   | 1 => simpa using e1
   | i + 2 => exact absurd hi' (by simp)
 subst e
 refine (sliteIndexByte2 (bs s) c w).mono ?_
 rintro e w' ⟨rfl, rfl⟩
 exact ⟨_, g, rfl, by simp [RepV, RepE, RepC, RepD, bs], hI, .refl hT⟩

theorem sIndexByte_ok (s : List UInt8) (c : UInt8) : ACalls Tryz.prog 108 [.s s, .c (.d (.int .u8 (c.toNat : Int)))] [] (.i (Lib.indexByte s c)) [] [] := by
 have h := IndexByte2_ok s c.toNat
 have e : (c.toNat : Int).toNat.toUInt8 = c := by simp
 rw [e] at h
 refine ACalls.of_body Tryz.func108 (by kernel_rfl) rfl (by kernel_rfl) (by simp [Tryz.ntmps108]) (by simp) ?_
 rw [Tryz.ntmps108]
 repeat' first | ((first | refine aops_end (hK _ ?_) | refine aopsD_end (hK _ ?_) | refine aopsF_end (hK _ ?_)); clear hK K) | ((first | refine aops_go ?_ | refine aopsD_go ?_ | refine aopsF_go ?_ | refine wpcall_pure rfl (h) ?_); simp; (try (refine gen2 ?_ ?_ <;> intro hq <;> try simp at hq))) | (refine T.ret (Done.data (Or.inr rfl) ?_ ?_) <;> simp [Tryz.results108] <;> omega) | refine T.r0 fun K hK => ?_ | refine T.r1 fun K hK => ?_ | (refine ⟨by omega, ?_⟩) | refine T.ct rfl ?_ | refine T.cf rfl ?_ | refine T.seq ?_ | refine T.block ?_ | refine T.skip ?_ | refine T.exit ?_

end Go.Proofs.YtcgmmknfpfdghaaGreatDoor

namespace Go.Proofs.YtcgmmknfpfdghaaGreatDoor
attribute [-simp] Go.Av.astepJ Go.Av.relC Go.Av.relL Go.Av.relV Go.Av.relVs Go.Av.callJ Go.Av.IT.kind_v Go.Av.IT.kind_b Go.Av.IT.kind_p Go.Av.IT.name_v Go.Av.IT.name_b Go.Av.IT.name_p Go.Av.IT.kids_v Go.Av.IT.kids_b Go.Av.IT.kids_p Go.Av.eIT_len Go.Av.gT_cons Go.Av.sT_cons
open Go Go.Av
attribute [local irreducible] T ACalls TX EX LX Draws Some_ ACallsX eTy eTm MTy.kind MTy.kids MTm.kind MTm.name MTm.num MTm.ty MTm.fr MTm.label MTm.kids
attribute [local simp] eTy_def eTm_def
set_option maxHeartbeats 16000000
set_option maxRecDepth 8000

end Go.Proofs.YtcgmmknfpfdghaaGreatDoor

namespace Go.Proofs.YtcgmmknfpfdghaaGreatDoor
attribute [-simp] Go.Av.astepJ Go.Av.relC Go.Av.relL Go.Av.relV Go.Av.relVs Go.Av.callJ Go.Av.IT.kind_v Go.Av.IT.kind_b Go.Av.IT.kind_p Go.Av.IT.name_v Go.Av.IT.name_b Go.Av.IT.name_p Go.Av.IT.kids_v Go.Av.IT.kids_b Go.Av.IT.kids_p Go.Av.eIT_len Go.Av.gT_cons Go.Av.sT_cons
open Go Go.Av
attribute [local irreducible] T ACalls TX EX LX Draws Some_ ACallsX eTy eTm MTy.kind MTy.kids MTm.kind MTm.name MTm.num MTm.ty MTm.fr MTm.label MTm.kids
attribute [local simp] eTy_def eTm_def
set_option maxHeartbeats 16000000
set_option maxRecDepth 8000
theorem take_drop_next {s : List UInt8} {f i : Nat} {x : UInt8} (h1 : f <= i) (hx : s[i]? = some x) : (s.take (i + 1)).drop f = (s.take i).drop f ++ [x] := by
 have hi := (List.getElem?_eq_some_iff.1 hx).1
 rw [List.take_add_one, hx, List.drop_append_of_le_length (by simp; omega)]; rfl

theorem valL_next {u : List UInt8} {i : Nat} {x : UInt8} (h : u[i]? = some x) : valL (u.take (i + 1)) = 10 * valL (u.take i) + (x.toNat - 48) := by
 rw [List.take_add_one, h, valL, List.foldl_append]; rfl
theorem all_next {u : List UInt8} {i : Nat} {x : UInt8} (h : u[i]? = some x) : (u.take (i + 1)).all isDig = ((u.take i).all isDig && isDig x) := by
 rw [List.take_add_one, h]; simp
theorem all_not {u : List UInt8} {i : Nat} {x : UInt8} (h : u[i]? = some x) (hx : isDig x = false) : u.all isDig = false := by
 rw [List.all_eq_false]
 exact ⟨x, List.mem_of_getElem? h, by simp [hx]⟩
theorem pow_le17 {i : Nat} (h : i <= 17) : 10 ^ i <= 100000000000000000 := Nat.le_trans (Nat.pow_le_pow_right (by omega) h) (by decide)

theorem dig_rd {x : UInt8} (h : isDig x = true) : 48 <= x.toNat /\ x.toNat <= 57 := by simpa [isDig] using h
theorem dig_no {x : UInt8} (h : isDig x = false) : x.toNat < 48 \/ 57 < x.toNat := by
 simp only [isDig, Bool.and_eq_false_iff, decide_eq_false_iff_not] at h; omega

theorem l18Num_neg (x : UInt8) (r : List UInt8) (hs : r.length <= 16) (h48 : ¬ x.toNat = 48) : ACalls Tryz.prog 40 [.s (45 :: x :: r)] [] (.tup [.i (if (x :: r).all isDig = true then (-(valL (x :: r) : Int)) else 0), .b ((x :: r).all isDig)]) [] [] := by
 obtain ⟨u, hu⟩ : ∃ u, u = (x :: r) := ⟨_, rfl⟩
 have hul : u.length <= 17 := by rw [hu]; simp; omega
 have h17 : ¬ (17 : Int) < (r.length : Int) + 1 := by omega
 have h48i : ¬ (x.toNat : Int) = 48 := by omega
 have hc48 : ((x.toNat : Int) == 48) = false := by simp only [beq_eq_false_iff_ne, ne_eq]; omega
 have hA : (0 : Int) < (r.length : Int) + 1 + 1 := by omega
 have hB : ¬ (r.length : Int) + 1 = 0 := by omega
 refine ACalls.of_body Tryz.func40 (by kernel_rfl) rfl (by kernel_rfl) (by simp [Tryz.ntmps40]) (by simp) ?_
 rw [Tryz.ntmps40]
 have hT : ((r.length : Int) + 1 + 1).toNat = r.length + 1 + 1 := by omega
 repeat' first | ((first | refine aops_end (hK _ ?_) | refine aopsD_end (hK _ ?_) | refine aopsF_end (hK _ ?_)); clear hK K) | ((first | refine aops_go ?_ | refine aopsD_go ?_ | refine aopsF_go ?_); simp [h17, h48, h48i, hc48, hA, hB, hT]; (try simp (disch := omega) only [wrap64]); (try (refine gen2 ?_ ?_ <;> intro hq <;> try simp [h17, h48, h48i, hc48, hA, hB, hT] at hq))) | refine T.r0 fun K hK => ?_ | refine T.r1 fun K hK => ?_ | (refine ⟨by omega, ?_⟩) | refine T.ct rfl ?_ | refine T.cf rfl ?_ | refine T.seq ?_ | refine T.block ?_ | refine T.skip ?_ | refine T.exit ?_
 rw [<- hu]
 clear hT hA hB h17 h48 h48i hc48 hs
 refine T.loopK (α := Nat) [0, 4] (fun i => [(2, .i 0), (3, .b false), (5, .i (valL (u.take i) : Nat)), (6, .i i)]) (fun _ => []) (fun _ => []) (fun _ _ => []) (fun i => u.length + 1 - i) (fun i => i <= u.length /\ (u.take i).all isDig = true /\ valL (u.take i) < 10 ^ i) (by simp; rfl) (fun i hi => ?_) 0 ⟨by omega, by simp, by simp [valL]⟩ (by simp) (by simp) (by simp [valL])
 obtain ⟨hi, hal, hvb⟩ := hi
 dsimp only
 simp only [ups, List.set_cons_zero, List.set_cons_succ, List.cons_append, List.nil_append]
 have hp17 := pow_le17 (show i <= 17 by omega)
 by_cases hlt : i < u.length
 ·obtain ⟨y, hy⟩ := get_lt hlt
  have hgt : u[i] = y := by rw [List.getElem?_eq_getElem hlt] at hy; exact Option.some.inj hy
  cases hd : isDig y with
  | false =>
   rw [all_not hy hd]
   simp only [Bool.false_eq_true, if_false]
   rcases dig_no hd with h | h
   ·have h' : (y.toNat : Int) < 48 := by omega
    repeat' first | ((first | refine aops_end (hK _ ?_) | refine aopsD_end (hK _ ?_) | refine aopsF_end (hK _ ?_)); clear hK K) | ((first | refine aops_go ?_ | refine aopsD_go ?_ | refine aopsF_go ?_); simp [hlt, hgt, h, h']; (try simp (disch := omega) only [wrap64]); (try (refine gen2 ?_ ?_ <;> intro hq <;> try simp [hlt, hgt, h, h'] at hq))) | (refine T.ret (Done.tup (Or.inr rfl) ?_) <;> simp [resAs, Tryz.results40] <;> omega) | refine T.r0 fun K hK => ?_ | refine T.r1 fun K hK => ?_ | (refine ⟨by omega, ?_⟩) | refine T.ct rfl ?_ | refine T.cf rfl ?_ | refine T.seq ?_ | refine T.block ?_ | refine T.skip ?_ | refine T.exit ?_
   ·have h1 : ¬ (y.toNat : Int) < 48 := by omega
    have h1n : ¬ y.toNat < 48 := by omega
    have h' : (57 : Int) < (y.toNat : Int) := by omega
    repeat' first | ((first | refine aops_end (hK _ ?_) | refine aopsD_end (hK _ ?_) | refine aopsF_end (hK _ ?_)); clear hK K) | ((first | refine aops_go ?_ | refine aopsD_go ?_ | refine aopsF_go ?_); simp [hlt, hgt, h, h', h1, h1n]; (try simp (disch := omega) only [wrap64]); (try (refine gen2 ?_ ?_ <;> intro hq <;> try simp [hlt, hgt, h, h', h1, h1n] at hq))) | (refine T.ret (Done.tup (Or.inr rfl) ?_) <;> simp [resAs, Tryz.results40] <;> omega) | refine T.r0 fun K hK => ?_ | refine T.r1 fun K hK => ?_ | (refine ⟨by omega, ?_⟩) | refine T.ct rfl ?_ | refine T.cf rfl ?_ | refine T.seq ?_ | refine T.block ?_ | refine T.skip ?_ | refine T.exit ?_
  | true =>
   obtain ⟨d1, d2⟩ := dig_rd hd
   have h1 : ¬ (y.toNat : Int) < 48 := by omega
   have h1n : ¬ y.toNat < 48 := by omega
   have h2 : ¬ (57 : Int) < (y.toNat : Int) := by omega
   have h2n : ¬ 57 < y.toNat := by omega
   have hw8 : IntKind.u8.wrap ((y.toNat : Int) - 48) = ((y.toNat - 48 : Nat) : Int) := by rw [show ((y.toNat : Int) - 48) = ((y.toNat - 48 : Nat) : Int) by omega]; exact wrap8 (by omega)
   have hw64 : IntKind.i64.wrap ((y.toNat - 48 : Nat) : Int) = ((y.toNat - 48 : Nat) : Int) := wrap64 (by omega) (by omega)
   have hvn := valL_next hy
   have han := all_next hy
   rw [hal, hd] at han
   have hpn : 10 ^ (i + 1) = 10 * 10 ^ i := by rw [Nat.pow_succ]; omega
   obtain ⟨V, hV⟩ : ∃ V, valL (u.take i) = V := ⟨_, rfl⟩
   rw [hV] at hvb hvn ⊢
   obtain ⟨z, hz⟩ : ∃ z, y.toNat - 48 = z := ⟨_, rfl⟩
   rw [hz] at hw8 hw64 hvn
   have hw2 : IntKind.i64.wrap ((V : Int) * 10) = (V : Int) * 10 := wrap64 (by omega) (by omega)
   have hw3 : IntKind.i64.wrap ((V : Int) * 10 + (z : Int)) = ((10 * V + z : Nat) : Int) := by rw [wrap64 (by omega) (by omega)]; omega
   repeat' first | ((first | refine aops_end (hK _ ?_) | refine aopsD_end (hK _ ?_) | refine aopsF_end (hK _ ?_)); clear hK K) | ((first | refine aops_go ?_ | refine aopsD_go ?_ | refine aopsF_go ?_); simp [hlt, hgt, h1, h1n, h2, h2n, hw8, hw64, hw2, hw3]; (try simp (disch := omega) only [wrap64]); (try (refine gen2 ?_ ?_ <;> intro hq <;> try simp [hlt, hgt, h1, h1n, h2, h2n, hw8, hw64, hw2, hw3] at hq))) | (refine ⟨i + 1, by dsimp only; omega, ⟨by omega, han, by rw [hvn]; omega⟩, ?_⟩; simp (disch := omega) [wrap64, hvn]) | refine T.r0 fun K hK => ?_ | refine T.r1 fun K hK => ?_ | (refine ⟨by omega, ?_⟩) | refine T.ct rfl ?_ | refine T.cf rfl ?_ | refine T.seq ?_ | refine T.block ?_ | refine T.skip ?_ | refine T.exit ?_
 ·have hiu : i = u.length := by omega
  subst hiu
  rw [List.take_length] at hal hvb ⊢
  rw [hal]
  simp only [if_true]
  obtain ⟨V, hV⟩ : ∃ V, valL u = V := ⟨_, rfl⟩
  rw [hV] at hvb ⊢
  have hw2 : IntKind.i64.wrap (-(V : Int)) = -(V : Int) := wrap64 (by omega) (by omega)
  repeat' first | ((first | refine aops_end (hK _ ?_) | refine aopsD_end (hK _ ?_) | refine aopsF_end (hK _ ?_)); clear hK K) | ((first | refine aops_go ?_ | refine aopsD_go ?_ | refine aopsF_go ?_); simp [hlt, hw2]; (try simp (disch := omega) only [wrap64]); (try (refine gen2 ?_ ?_ <;> intro hq <;> try simp [hlt, hw2] at hq))) | (refine T.ret (Done.tup (Or.inr rfl) ?_) <;> simp [resAs, Tryz.results40] <;> omega) | refine T.r0 fun K hK => ?_ | refine T.r1 fun K hK => ?_ | (refine ⟨by omega, ?_⟩) | refine T.ct rfl ?_ | refine T.cf rfl ?_ | refine T.seq ?_ | refine T.block ?_ | refine T.skip ?_ | refine T.exit ?_

theorem l18Num_pos (x : UInt8) (r : List UInt8) (hs : r.length <= 16) (h48 : ¬ x.toNat = 48) (h45 : ¬ x.toNat = 45) : ACalls Tryz.prog 40 [.s (x :: r)] [] (.tup [.i (if (x :: r).all isDig = true then (valL (x :: r) : Int) else 0), .b ((x :: r).all isDig)]) [] [] := by
 obtain ⟨u, hu⟩ : ∃ u, u = (x :: r) := ⟨_, rfl⟩
 have hul : u.length <= 17 := by rw [hu]; simp; omega
 have h17 : ¬ (17 : Int) < (r.length : Int) + 1 := by omega
 have h48i : ¬ (x.toNat : Int) = 48 := by omega
 have h45i : ¬ (x.toNat : Int) = 45 := by omega
 have hc48 : ((x.toNat : Int) == 48) = false := by simp only [beq_eq_false_iff_ne, ne_eq]; omega
 have hc45 : ((x.toNat : Int) == 45) = false := by simp only [beq_eq_false_iff_ne, ne_eq]; omega
 have hA : (0 : Int) < (r.length : Int) + 1 := by omega
 have hB : ¬ (r.length : Int) + 1 = 0 := by omega
 refine ACalls.of_body Tryz.func40 (by kernel_rfl) rfl (by kernel_rfl) (by simp [Tryz.ntmps40]) (by simp) ?_
 rw [Tryz.ntmps40]
 repeat' first | ((first | refine aops_end (hK _ ?_) | refine aopsD_end (hK _ ?_) | refine aopsF_end (hK _ ?_)); clear hK K) | ((first | refine aops_go ?_ | refine aopsD_go ?_ | refine aopsF_go ?_); simp [h17, h48, h48i, h45, h45i, hc48, hc45, hA, hB]; (try simp (disch := omega) only [wrap64]); (try (refine gen2 ?_ ?_ <;> intro hq <;> try simp [h17, h48, h48i, h45, h45i, hc48, hc45, hA, hB] at hq))) | refine T.r0 fun K hK => ?_ | refine T.r1 fun K hK => ?_ | (refine ⟨by omega, ?_⟩) | refine T.ct rfl ?_ | refine T.cf rfl ?_ | refine T.seq ?_ | refine T.block ?_ | refine T.skip ?_ | refine T.exit ?_
 rw [<- hu]
 clear hA hB h17 h48 h48i hc48 hs h45 h45i hc45
 refine T.loopK (α := Nat) [0, 4] (fun i => [(2, .i 0), (3, .b false), (5, .i (valL (u.take i) : Nat)), (6, .i i)]) (fun _ => []) (fun _ => []) (fun _ _ => []) (fun i => u.length + 1 - i) (fun i => i <= u.length /\ (u.take i).all isDig = true /\ valL (u.take i) < 10 ^ i) (by simp; rfl) (fun i hi => ?_) 0 ⟨by omega, by simp, by simp [valL]⟩ (by simp) (by simp) (by simp [valL])
 obtain ⟨hi, hal, hvb⟩ := hi
 dsimp only
 simp only [ups, List.set_cons_zero, List.set_cons_succ, List.cons_append, List.nil_append]
 have hp17 := pow_le17 (show i <= 17 by omega)
 by_cases hlt : i < u.length
 ·obtain ⟨y, hy⟩ := get_lt hlt
  have hgt : u[i] = y := by rw [List.getElem?_eq_getElem hlt] at hy; exact Option.some.inj hy
  cases hd : isDig y with
  | false =>
   rw [all_not hy hd]
   simp only [Bool.false_eq_true, if_false]
   rcases dig_no hd with h | h
   ·have h' : (y.toNat : Int) < 48 := by omega
    repeat' first | ((first | refine aops_end (hK _ ?_) | refine aopsD_end (hK _ ?_) | refine aopsF_end (hK _ ?_)); clear hK K) | ((first | refine aops_go ?_ | refine aopsD_go ?_ | refine aopsF_go ?_); simp [hlt, hgt, h, h']; (try simp (disch := omega) only [wrap64]); (try (refine gen2 ?_ ?_ <;> intro hq <;> try simp [hlt, hgt, h, h'] at hq))) | (refine T.ret (Done.tup (Or.inr rfl) ?_) <;> simp [resAs, Tryz.results40] <;> omega) | refine T.r0 fun K hK => ?_ | refine T.r1 fun K hK => ?_ | (refine ⟨by omega, ?_⟩) | refine T.ct rfl ?_ | refine T.cf rfl ?_ | refine T.seq ?_ | refine T.block ?_ | refine T.skip ?_ | refine T.exit ?_
   ·have h1 : ¬ (y.toNat : Int) < 48 := by omega
    have h1n : ¬ y.toNat < 48 := by omega
    have h' : (57 : Int) < (y.toNat : Int) := by omega
    repeat' first | ((first | refine aops_end (hK _ ?_) | refine aopsD_end (hK _ ?_) | refine aopsF_end (hK _ ?_)); clear hK K) | ((first | refine aops_go ?_ | refine aopsD_go ?_ | refine aopsF_go ?_); simp [hlt, hgt, h, h', h1, h1n]; (try simp (disch := omega) only [wrap64]); (try (refine gen2 ?_ ?_ <;> intro hq <;> try simp [hlt, hgt, h, h', h1, h1n] at hq))) | (refine T.ret (Done.tup (Or.inr rfl) ?_) <;> simp [resAs, Tryz.results40] <;> omega) | refine T.r0 fun K hK => ?_ | refine T.r1 fun K hK => ?_ | (refine ⟨by omega, ?_⟩) | refine T.ct rfl ?_ | refine T.cf rfl ?_ | refine T.seq ?_ | refine T.block ?_ | refine T.skip ?_ | refine T.exit ?_
  | true =>
   obtain ⟨d1, d2⟩ := dig_rd hd
   have h1 : ¬ (y.toNat : Int) < 48 := by omega
   have h1n : ¬ y.toNat < 48 := by omega
   have h2 : ¬ (57 : Int) < (y.toNat : Int) := by omega
   have h2n : ¬ 57 < y.toNat := by omega
   have hw8 : IntKind.u8.wrap ((y.toNat : Int) - 48) = ((y.toNat - 48 : Nat) : Int) := by rw [show ((y.toNat : Int) - 48) = ((y.toNat - 48 : Nat) : Int) by omega]; exact wrap8 (by omega)
   have hw64 : IntKind.i64.wrap ((y.toNat - 48 : Nat) : Int) = ((y.toNat - 48 : Nat) : Int) := wrap64 (by omega) (by omega)
   have hvn := valL_next hy
   have han := all_next hy
   rw [hal, hd] at han
   have hpn : 10 ^ (i + 1) = 10 * 10 ^ i := by rw [Nat.pow_succ]; omega
   obtain ⟨V, hV⟩ : ∃ V, valL (u.take i) = V := ⟨_, rfl⟩
   rw [hV] at hvb hvn ⊢
   obtain ⟨z, hz⟩ : ∃ z, y.toNat - 48 = z := ⟨_, rfl⟩
   rw [hz] at hw8 hw64 hvn
   have hw2 : IntKind.i64.wrap ((V : Int) * 10) = (V : Int) * 10 := wrap64 (by omega) (by omega)
   have hw3 : IntKind.i64.wrap ((V : Int) * 10 + (z : Int)) = ((10 * V + z : Nat) : Int) := by rw [wrap64 (by omega) (by omega)]; omega
   repeat' first | ((first | refine aops_end (hK _ ?_) | refine aopsD_end (hK _ ?_) | refine aopsF_end (hK _ ?_)); clear hK K) | ((first | refine aops_go ?_ | refine aopsD_go ?_ | refine aopsF_go ?_); simp [hlt, hgt, h1, h1n, h2, h2n, hw8, hw64, hw2, hw3]; (try simp (disch := omega) only [wrap64]); (try (refine gen2 ?_ ?_ <;> intro hq <;> try simp [hlt, hgt, h1, h1n, h2, h2n, hw8, hw64, hw2, hw3] at hq))) | (refine ⟨i + 1, by dsimp only; omega, ⟨by omega, han, by rw [hvn]; omega⟩, ?_⟩; simp (disch := omega) [wrap64, hvn]) | refine T.r0 fun K hK => ?_ | refine T.r1 fun K hK => ?_ | (refine ⟨by omega, ?_⟩) | refine T.ct rfl ?_ | refine T.cf rfl ?_ | refine T.seq ?_ | refine T.block ?_ | refine T.skip ?_ | refine T.exit ?_
 ·have hiu : i = u.length := by omega
  subst hiu
  rw [List.take_length] at hal hvb ⊢
  rw [hal]
  simp only [if_true]
  obtain ⟨V, hV⟩ : ∃ V, valL u = V := ⟨_, rfl⟩
  rw [hV] at hvb ⊢
  have hw2 : IntKind.i64.wrap (-(V : Int)) = -(V : Int) := wrap64 (by omega) (by omega)
  repeat' first | ((first | refine aops_end (hK _ ?_) | refine aopsD_end (hK _ ?_) | refine aopsF_end (hK _ ?_)); clear hK K) | ((first | refine aops_go ?_ | refine aopsD_go ?_ | refine aopsF_go ?_); simp [hlt, hw2]; (try simp (disch := omega) only [wrap64]); (try (refine gen2 ?_ ?_ <;> intro hq <;> try simp [hlt, hw2] at hq))) | (refine T.ret (Done.tup (Or.inr rfl) ?_) <;> simp [resAs, Tryz.results40] <;> omega) | refine T.r0 fun K hK => ?_ | refine T.r1 fun K hK => ?_ | (refine ⟨by omega, ?_⟩) | refine T.ct rfl ?_ | refine T.cf rfl ?_ | refine T.seq ?_ | refine T.block ?_ | refine T.skip ?_ | refine T.exit ?_

theorem l18Num_zero : ACalls Tryz.prog 40 [.s [48]] [] (.tup [.i 0, .b true]) [] [] := by
 refine ACalls.of_body Tryz.func40 (by kernel_rfl) rfl (by kernel_rfl) (by simp [Tryz.ntmps40]) (by simp) ?_
 rw [Tryz.ntmps40]
 repeat' first | ((first | refine aops_end (hK _ ?_) | refine aopsD_end (hK _ ?_) | refine aopsF_end (hK _ ?_)); clear hK K) | ((first | refine aops_go ?_ | refine aopsD_go ?_ | refine aopsF_go ?_); simp; (try simp (disch := omega) only [wrap64]); (try (refine gen2 ?_ ?_ <;> intro hq <;> try simp at hq))) | refine T.r0 fun K hK => ?_ | refine T.r1 fun K hK => ?_ | (refine ⟨by omega, ?_⟩) | refine T.ct rfl ?_ | refine T.cf rfl ?_ | refine T.seq ?_ | refine T.block ?_ | refine T.skip ?_ | refine T.exit ?_
 refine T.loopK (α := Nat) [0, 4] (fun i => [(2, .i 0), (3, .b false), (5, .i 0), (6, .i i)]) (fun _ => []) (fun _ => []) (fun _ _ => []) (fun i => 2 - i) (fun i => i = 0 \/ i = 1) (by simp; rfl) (fun i hi => ?_) 0 (.inl rfl) (by simp) (by simp) (by simp)
 dsimp only
 simp only [ups, List.set_cons_zero, List.set_cons_succ, List.cons_append, List.nil_append]
 have hw8 : IntKind.u8.wrap 0 = 0 := wrap8 (n := 0) (by omega)
 rcases hi with rfl | rfl
 ·repeat' first | ((first | refine aops_end (hK _ ?_) | refine aopsD_end (hK _ ?_) | refine aopsF_end (hK _ ?_)); clear hK K) | ((first | refine aops_go ?_ | refine aopsD_go ?_ | refine aopsF_go ?_); simp [hw8]; (try simp (disch := omega) only [wrap64]); (try (refine gen2 ?_ ?_ <;> intro hq <;> try simp [hw8] at hq))) | (refine ⟨1, by dsimp only; omega, .inr rfl, ?_⟩; simp) | refine T.r0 fun K hK => ?_ | refine T.r1 fun K hK => ?_ | (refine ⟨by omega, ?_⟩) | refine T.ct rfl ?_ | refine T.cf rfl ?_ | refine T.seq ?_ | refine T.block ?_ | refine T.skip ?_ | refine T.exit ?_
 ·repeat' first | ((first | refine aops_end (hK _ ?_) | refine aopsD_end (hK _ ?_) | refine aopsF_end (hK _ ?_)); clear hK K) | ((first | refine aops_go ?_ | refine aopsD_go ?_ | refine aopsF_go ?_); simp; (try simp (disch := omega) only [wrap64]); (try (refine gen2 ?_ ?_ <;> intro hq <;> try simp at hq))) | (refine T.ret (Done.tup (Or.inr rfl) ?_) <;> simp [resAs, Tryz.results40] <;> omega) | refine T.r0 fun K hK => ?_ | refine T.r1 fun K hK => ?_ | (refine ⟨by omega, ?_⟩) | refine T.ct rfl ?_ | refine T.cf rfl ?_ | refine T.seq ?_ | refine T.block ?_ | refine T.skip ?_ | refine T.exit ?_

theorem l18Num_ok (s : List UInt8) (hs : s.length <= 1099511627776) : ACalls Tryz.prog 40 [.s s] [] (.tup [.i ((numS s).getD 0), .b (numS s).isSome]) [] [] := by
 have key : ∀ (P : Prop) [Decidable P] (n : Int), (if P then some n else none).getD 0 = if P then n else 0 := fun P _ n => by split <;> rfl
 have key2 : ∀ (b : Bool) (n : Int), (if b = true then some n else none : Option Int).isSome = b := fun b n => by cases b <;> rfl
 cases s with
 | nil =>
  rw [show numS [] = none from rfl]
  simp only [Option.getD_none, Option.isSome_none]
  refine ACalls.of_body Tryz.func40 (by kernel_rfl) rfl (by kernel_rfl) (by simp [Tryz.ntmps40]) (by simp) ?_
  rw [Tryz.ntmps40]
  repeat' first | ((first | refine aops_end (hK _ ?_) | refine aopsD_end (hK _ ?_) | refine aopsF_end (hK _ ?_)); clear hK K) | ((first | refine aops_go ?_ | refine aopsD_go ?_ | refine aopsF_go ?_); simp; (try simp (disch := omega) only [wrap64]); (try (refine gen2 ?_ ?_ <;> intro hq <;> try simp at hq))) | (refine T.ret (Done.tup (Or.inr rfl) ?_) <;> simp [resAs, Tryz.results40] <;> omega) | refine T.r0 fun K hK => ?_ | refine T.r1 fun K hK => ?_ | (refine ⟨by omega, ?_⟩) | refine T.ct rfl ?_ | refine T.cf rfl ?_ | refine T.seq ?_ | refine T.block ?_ | refine T.skip ?_ | refine T.exit ?_
 | cons y t =>
  by_cases hy : y = 45
  ·subst hy
   rw [numS_neg]
   cases t with
   | nil =>
    simp only [true_or, if_true, Option.getD_none, Option.isSome_none]
    refine ACalls.of_body Tryz.func40 (by kernel_rfl) rfl (by kernel_rfl) (by simp [Tryz.ntmps40]) (by simp) ?_
    rw [Tryz.ntmps40]
    repeat' first | ((first | refine aops_end (hK _ ?_) | refine aopsD_end (hK _ ?_) | refine aopsF_end (hK _ ?_)); clear hK K) | ((first | refine aops_go ?_ | refine aopsD_go ?_ | refine aopsF_go ?_); simp; (try simp (disch := omega) only [wrap64]); (try (refine gen2 ?_ ?_ <;> intro hq <;> try simp at hq))) | (refine T.ret (Done.tup (Or.inr rfl) ?_) <;> simp [resAs, Tryz.results40] <;> omega) | refine T.r0 fun K hK => ?_ | refine T.r1 fun K hK => ?_ | (refine ⟨by omega, ?_⟩) | refine T.ct rfl ?_ | refine T.cf rfl ?_ | refine T.seq ?_ | refine T.block ?_ | refine T.skip ?_ | refine T.exit ?_
   | cons x r =>
    simp only [List.length_cons] at hs
    by_cases h17 : 16 < r.length
    ·rw [if_pos (by simp; omega)]
     simp only [Option.getD_none, Option.isSome_none]
     have h17 : (17 : Int) < (r.length : Int) + 1 := by omega
     have hA : (0 : Int) < (r.length : Int) + 1 + 1 := by omega
     have hB : ¬ (r.length : Int) + 1 = 0 := by omega
     have hT : ((r.length : Int) + 1 + 1).toNat = r.length + 1 + 1 := by omega
     refine ACalls.of_body Tryz.func40 (by kernel_rfl) rfl (by kernel_rfl) (by simp [Tryz.ntmps40]) (by simp) ?_
     rw [Tryz.ntmps40]
     repeat' first | ((first | refine aops_end (hK _ ?_) | refine aopsD_end (hK _ ?_) | refine aopsF_end (hK _ ?_)); clear hK K) | ((first | refine aops_go ?_ | refine aopsD_go ?_ | refine aopsF_go ?_); simp [h17, hA, hB, hT]; (try simp (disch := omega) only [wrap64]); (try (refine gen2 ?_ ?_ <;> intro hq <;> try simp [h17, hA, hB, hT] at hq))) | (refine T.ret (Done.tup (Or.inr rfl) ?_) <;> simp [resAs, Tryz.results40] <;> omega) | refine T.r0 fun K hK => ?_ | refine T.r1 fun K hK => ?_ | (refine ⟨by omega, ?_⟩) | refine T.ct rfl ?_ | refine T.cf rfl ?_ | refine T.seq ?_ | refine T.block ?_ | refine T.skip ?_ | refine T.exit ?_
    by_cases h48 : x = 48
    ·subst h48
     rw [if_pos (by simp)]
     simp only [Option.getD_none, Option.isSome_none]
     have h17 : ¬ (17 : Int) < (r.length : Int) + 1 := by omega
     have hA : (0 : Int) < (r.length : Int) + 1 + 1 := by omega
     have hB : ¬ (r.length : Int) + 1 = 0 := by omega
     have hT : ((r.length : Int) + 1 + 1).toNat = r.length + 1 + 1 := by omega
     by_cases hr : (0 : Int) < r.length
     ·have hC : (1 : Int) < (r.length : Int) + 1 := by omega
      refine ACalls.of_body Tryz.func40 (by kernel_rfl) rfl (by kernel_rfl) (by simp [Tryz.ntmps40]) (by simp) ?_
      rw [Tryz.ntmps40]
      repeat' first | ((first | refine aops_end (hK _ ?_) | refine aopsD_end (hK _ ?_) | refine aopsF_end (hK _ ?_)); clear hK K) | ((first | refine aops_go ?_ | refine aopsD_go ?_ | refine aopsF_go ?_); simp [h17, hA, hB, hT, hC]; (try simp (disch := omega) only [wrap64]); (try (refine gen2 ?_ ?_ <;> intro hq <;> try simp [h17, hA, hB, hT, hC] at hq))) | (refine T.ret (Done.tup (Or.inr rfl) ?_) <;> simp [resAs, Tryz.results40] <;> omega) | refine T.r0 fun K hK => ?_ | refine T.r1 fun K hK => ?_ | (refine ⟨by omega, ?_⟩) | refine T.ct rfl ?_ | refine T.cf rfl ?_ | refine T.seq ?_ | refine T.block ?_ | refine T.skip ?_ | refine T.exit ?_
     ·have hC : ¬ (1 : Int) < (r.length : Int) + 1 := by omega
      refine ACalls.of_body Tryz.func40 (by kernel_rfl) rfl (by kernel_rfl) (by simp [Tryz.ntmps40]) (by simp) ?_
      rw [Tryz.ntmps40]
      repeat' first | ((first | refine aops_end (hK _ ?_) | refine aopsD_end (hK _ ?_) | refine aopsF_end (hK _ ?_)); clear hK K) | ((first | refine aops_go ?_ | refine aopsD_go ?_ | refine aopsF_go ?_); simp [h17, hA, hB, hT, hC]; (try simp (disch := omega) only [wrap64]); (try (refine gen2 ?_ ?_ <;> intro hq <;> try simp [h17, hA, hB, hT, hC] at hq))) | (refine T.ret (Done.tup (Or.inr rfl) ?_) <;> simp [resAs, Tryz.results40] <;> omega) | refine T.r0 fun K hK => ?_ | refine T.r1 fun K hK => ?_ | (refine ⟨by omega, ?_⟩) | refine T.ct rfl ?_ | refine T.cf rfl ?_ | refine T.seq ?_ | refine T.block ?_ | refine T.skip ?_ | refine T.exit ?_
    ·rw [if_neg (by simp [h48]; omega)]
     have := l18Num_neg x r (by omega) (fun e => h48 (UInt8.toNat_inj.1 e))
     rw [key, key2]
     exact this
  ·have h45 : ¬ y.toNat = 45 := fun e => hy (UInt8.toNat_inj.1 e)
   have h45i : ¬ (y.toNat : Int) = 45 := by omega
   have hc45 : ((y.toNat : Int) == 45) = false := by simp only [beq_eq_false_iff_ne, ne_eq]; omega
   rw [numS, if_neg (by simpa using hy)]
   simp only [List.length_cons] at hs
   by_cases h17 : 16 < t.length
   ·rw [if_pos (by simp; omega)]
    simp only [Option.getD_none, Option.isSome_none]
    have h17 : (17 : Int) < (t.length : Int) + 1 := by omega
    have hA : (0 : Int) < (t.length : Int) + 1 := by omega
    have hB : ¬ (t.length : Int) + 1 = 0 := by omega
    refine ACalls.of_body Tryz.func40 (by kernel_rfl) rfl (by kernel_rfl) (by simp [Tryz.ntmps40]) (by simp) ?_
    rw [Tryz.ntmps40]
    repeat' first | ((first | refine aops_end (hK _ ?_) | refine aopsD_end (hK _ ?_) | refine aopsF_end (hK _ ?_)); clear hK K) | ((first | refine aops_go ?_ | refine aopsD_go ?_ | refine aopsF_go ?_); simp [h17, hA, hB, h45, h45i, hc45]; (try simp (disch := omega) only [wrap64]); (try (refine gen2 ?_ ?_ <;> intro hq <;> try simp [h17, hA, hB, h45, h45i, hc45] at hq))) | (refine T.ret (Done.tup (Or.inr rfl) ?_) <;> simp [resAs, Tryz.results40] <;> omega) | refine T.r0 fun K hK => ?_ | refine T.r1 fun K hK => ?_ | (refine ⟨by omega, ?_⟩) | refine T.ct rfl ?_ | refine T.cf rfl ?_ | refine T.seq ?_ | refine T.block ?_ | refine T.skip ?_ | refine T.exit ?_
   by_cases h48 : y = 48
   ·subst h48
    by_cases ht : t = []
    ·subst ht
     rw [show (if ([48] : List UInt8) = [] \/ 17 < ([48] : List UInt8).length \/ (([48] : List UInt8).head? = some 48 /\ 1 < ([48] : List UInt8).length) then none else if ([48] : List UInt8).all isDig = true then some (valL [48] : Int) else none) = some 0 by decide]
     exact l18Num_zero
    ·have htl := List.length_pos_iff.2 ht
     rw [if_pos (by simp; omega)]
     simp only [Option.getD_none, Option.isSome_none]
     have h17 : ¬ (17 : Int) < (t.length : Int) + 1 := by omega
     have hA : (0 : Int) < (t.length : Int) + 1 := by omega
     have hB : ¬ (t.length : Int) + 1 = 0 := by omega
     have hC : (1 : Int) < (t.length : Int) + 1 := by omega
     refine ACalls.of_body Tryz.func40 (by kernel_rfl) rfl (by kernel_rfl) (by simp [Tryz.ntmps40]) (by simp) ?_
     rw [Tryz.ntmps40]
     repeat' first | ((first | refine aops_end (hK _ ?_) | refine aopsD_end (hK _ ?_) | refine aopsF_end (hK _ ?_)); clear hK K) | ((first | refine aops_go ?_ | refine aopsD_go ?_ | refine aopsF_go ?_); simp [h17, hA, hB, hC, ht]; (try simp (disch := omega) only [wrap64]); (try (refine gen2 ?_ ?_ <;> intro hq <;> try simp [h17, hA, hB, hC, ht] at hq))) | (refine T.ret (Done.tup (Or.inr rfl) ?_) <;> simp [resAs, Tryz.results40] <;> omega) | refine T.r0 fun K hK => ?_ | refine T.r1 fun K hK => ?_ | (refine ⟨by omega, ?_⟩) | refine T.ct rfl ?_ | refine T.cf rfl ?_ | refine T.seq ?_ | refine T.block ?_ | refine T.skip ?_ | refine T.exit ?_
   ·rw [if_neg (by simp [h48]; omega)]
    have := l18Num_pos y t (by omega) (fun e => h48 (UInt8.toNat_inj.1 e)) h45
    rw [key, key2]
    exact this
end Go.Proofs.YtcgmmknfpfdghaaGreatDoor

namespace Go.Proofs.YtcgmmknfpfdghaaGreatDoor
attribute [-simp] Go.Av.astepJ Go.Av.relC Go.Av.relL Go.Av.relV Go.Av.relVs Go.Av.callJ Go.Av.IT.kind_v Go.Av.IT.kind_b Go.Av.IT.kind_p Go.Av.IT.name_v Go.Av.IT.name_b Go.Av.IT.name_p Go.Av.IT.kids_v Go.Av.IT.kids_b Go.Av.IT.kids_p Go.Av.eIT_len Go.Av.gT_cons Go.Av.sT_cons
open Go Go.Av
attribute [local irreducible] T ACalls TX EX LX Draws Some_ ACallsX eTy eTm MTy.kind MTy.kids MTm.kind MTm.name MTm.num MTm.ty MTm.fr MTm.label MTm.kids
attribute [local simp] eTy_def eTm_def
set_option maxHeartbeats 16000000
set_option maxRecDepth 8000
attribute [local irreducible] eCo MCo.kind MCo.tag MCo.label MCo.kids
attribute [local simp] eCo_def

theorem l2Digits_no (s : List UInt8) (a : Nat)  (ha : a <= s.length) (hs : s.length <= 1000000000) (hu : numS (dig4 (s.drop a)) = none) : ACalls Tryz.prog 114 [.s s, .i a] [] (.tup [.i 0, .i (-1)]) [] [] := by
 have hd4 := dig4_len (s.drop a)
 have htk := dig4_take (s.drop a)
 have hat : ∀ j, j < (dig4 (s.drop a)).length -> ∃ y, s[a + j]? = some y /\ isDig y = true := fun j hj => by have := dig4_at hj; rwa [List.getElem?_drop] at this
 have hen : (dig4 (s.drop a)).length < 4 -> ∀ y, s[a + (dig4 (s.drop a)).length]? = some y -> isDig y = false := fun h y hy => dig4_end h (by rwa [List.getElem?_drop])
 rw [List.length_drop] at hd4
 generalize dig4 (s.drop a) = u at *
 have hcut : (s.take (a + u.length)).drop a = u := by rw [List.drop_take, Nat.add_sub_cancel_left]; exact htk
 clear htk
 have kn := l18Num_ok u (by omega)
 rw [hu] at kn
 simp only [Option.getD_none, Option.isSome_none, Option.getD_some, Option.isSome_some] at kn
 clear hu
 obtain ⟨E, hE⟩ : ∃ E, E = a + u.length := ⟨_, rfl⟩
 rw [<- hE] at hen hcut
 refine ACalls.of_body Tryz.func114 (by kernel_rfl) rfl (by kernel_rfl) (by simp [Tryz.ntmps114]) (by simp) ?_
 rw [Tryz.ntmps114]
 repeat' first | ((first | refine aops_end (hK _ ?_) | refine aopsD_end (hK _ ?_) | refine aopsF_end (hK _ ?_)); clear hK K) | ((first | refine aops_go ?_ | refine aopsD_go ?_ | refine aopsF_go ?_); simp; (try simp (disch := omega) only [wrap64]); (try (refine gen2 ?_ ?_ <;> intro hq <;> try simp at hq))) | refine T.r0 fun K hK => ?_ | refine T.r1 fun K hK => ?_ | (refine ⟨by omega, ?_⟩) | refine T.ct rfl ?_ | refine T.cf rfl ?_ | refine T.seq ?_ | refine T.block ?_ | refine T.skip ?_ | refine T.exit ?_
 refine T.loopK (α := Nat) [0, 1, 4, 5] (fun e => [(6, .i e)]) (fun _ => []) (fun _ => []) (fun _ _ => []) (fun e => E + 1 - e) (fun e => a <= e /\ e <= E) (by simp; rfl) (fun e he => ?_) a ⟨by omega, by omega⟩ (by simp) (by simp) (by simp)
 obtain ⟨he1, he2⟩ := he
 dsimp only
 simp only [ups, List.set_cons_zero, List.set_cons_succ, List.cons_append, List.nil_append]
 by_cases hlt : e < E
 ·obtain ⟨y, hy, hd⟩ := hat (e - a) (by omega)
  rw [show a + (e - a) = e by omega] at hy
  have hel : e < s.length := (List.getElem?_eq_some_iff.1 hy).1
  have hgt : s[e] = y := by rw [List.getElem?_eq_getElem hel] at hy; exact Option.some.inj hy
  obtain ⟨d1, d2⟩ := dig_rd hd
  have h1 : ¬ (y.toNat : Int) < 48 := by omega
  have h1n : ¬ y.toNat < 48 := by omega
  have h2 : ¬ (57 : Int) < (y.toNat : Int) := by omega
  have h2n : ¬ 57 < y.toNat := by omega
  have h3 : (48 : Int) <= (y.toNat : Int) := by omega
  have h4 : (y.toNat : Int) <= 57 := by omega
  have h5 : (e : Int) < (a : Int) + 4 := by omega
  have h6 : (e : Int) < s.length := by omega
  repeat' first | ((first | refine aops_end (hK _ ?_) | refine aopsD_end (hK _ ?_) | refine aopsF_end (hK _ ?_)); clear hK K) | ((first | refine aops_go ?_ | refine aopsD_go ?_ | refine aopsF_go ?_); simp [hel, hgt, h1, h1n, h2, h2n, h3, h4, h5, h6, d1, d2]; (try simp (disch := omega) only [wrap64]); (try (refine gen2 ?_ ?_ <;> intro hq <;> try simp [hel, hgt, h1, h1n, h2, h2n, h3, h4, h5, h6, d1, d2] at hq))) | (refine ⟨e + 1, by dsimp only; omega, ⟨by omega, by omega⟩, ?_⟩; simp (disch := omega) [wrap64]) | refine T.r0 fun K hK => ?_ | refine T.r1 fun K hK => ?_ | (refine ⟨by omega, ?_⟩) | refine T.ct rfl ?_ | refine T.cf rfl ?_ | refine T.seq ?_ | refine T.block ?_ | refine T.skip ?_ | refine T.exit ?_
 ·have heE : e = E := by omega
  subst heE
  have hsl : (a : Int) <= e := by omega
  have hsl2 : (e : Int) <= s.length := by omega
  by_cases hel : e < s.length
  ·obtain ⟨y, hy⟩ := get_lt hel
   have hgt : s[e] = y := by rw [List.getElem?_eq_getElem hel] at hy; exact Option.some.inj hy
   have h6 : (e : Int) < s.length := by omega
   by_cases h4 : u.length < 4
   ·have h5 : (e : Int) < (a : Int) + 4 := by omega
    rcases dig_no (hen h4 y hy) with h | h
    ·have h' : (y.toNat : Int) < 48 := by omega
     have h3 : ¬ (48 : Int) <= (y.toNat : Int) := by omega
     have h3n : ¬ 48 <= y.toNat := by omega
     repeat' first | ((first | refine aops_end (hK _ ?_) | refine aopsD_end (hK _ ?_) | refine aopsF_end (hK _ ?_)); clear hK K) | ((first | refine aops_go ?_ | refine aopsD_go ?_ | refine aopsF_go ?_ | refine wpcall_pure rfl (kn) ?_); simp [hel, hgt, h, h', h3, h3n, h5, h6, hsl, hsl2, hcut]; (try simp (disch := omega) only [wrap64]); (try (refine gen2 ?_ ?_ <;> intro hq <;> try simp [hel, hgt, h, h', h3, h3n, h5, h6, hsl, hsl2, hcut] at hq))) | (refine T.ret (Done.tup (Or.inr rfl) ?_) <;> simp [resAs, Tryz.results114] <;> omega) | refine T.r0 fun K hK => ?_ | refine T.r1 fun K hK => ?_ | (refine ⟨by omega, ?_⟩) | refine T.ct rfl ?_ | refine T.cf rfl ?_ | refine T.seq ?_ | refine T.block ?_ | refine T.skip ?_ | refine T.exit ?_
    ·have h1 : (48 : Int) <= (y.toNat : Int) := by omega
     have h1n : 48 <= y.toNat := by omega
     have h2 : ¬ (y.toNat : Int) < 48 := by omega
     have h2n : ¬ y.toNat < 48 := by omega
     have h3 : ¬ (y.toNat : Int) <= 57 := by omega
     have h3n : ¬ y.toNat <= 57 := by omega
     repeat' first | ((first | refine aops_end (hK _ ?_) | refine aopsD_end (hK _ ?_) | refine aopsF_end (hK _ ?_)); clear hK K) | ((first | refine aops_go ?_ | refine aopsD_go ?_ | refine aopsF_go ?_ | refine wpcall_pure rfl (kn) ?_); simp [hel, hgt, h1, h1n, h2, h2n, h3, h3n, h5, h6, hsl, hsl2, hcut]; (try simp (disch := omega) only [wrap64]); (try (refine gen2 ?_ ?_ <;> intro hq <;> try simp [hel, hgt, h1, h1n, h2, h2n, h3, h3n, h5, h6, hsl, hsl2, hcut] at hq))) | (refine T.ret (Done.tup (Or.inr rfl) ?_) <;> simp [resAs, Tryz.results114] <;> omega) | refine T.r0 fun K hK => ?_ | refine T.r1 fun K hK => ?_ | (refine ⟨by omega, ?_⟩) | refine T.ct rfl ?_ | refine T.cf rfl ?_ | refine T.seq ?_ | refine T.block ?_ | refine T.skip ?_ | refine T.exit ?_
   ·have h5 : ¬ (e : Int) < (a : Int) + 4 := by omega
    repeat' first | ((first | refine aops_end (hK _ ?_) | refine aopsD_end (hK _ ?_) | refine aopsF_end (hK _ ?_)); clear hK K) | ((first | refine aops_go ?_ | refine aopsD_go ?_ | refine aopsF_go ?_ | refine wpcall_pure rfl (kn) ?_); simp [hel, hgt, h5, h6, hsl, hsl2, hcut]; (try simp (disch := omega) only [wrap64]); (try (refine gen2 ?_ ?_ <;> intro hq <;> try simp [hel, hgt, h5, h6, hsl, hsl2, hcut] at hq))) | (refine T.ret (Done.tup (Or.inr rfl) ?_) <;> simp [resAs, Tryz.results114] <;> omega) | refine T.r0 fun K hK => ?_ | refine T.r1 fun K hK => ?_ | (refine ⟨by omega, ?_⟩) | refine T.ct rfl ?_ | refine T.cf rfl ?_ | refine T.seq ?_ | refine T.block ?_ | refine T.skip ?_ | refine T.exit ?_
  ·have h6 : ¬ (e : Int) < s.length := by omega
   repeat' first | ((first | refine aops_end (hK _ ?_) | refine aopsD_end (hK _ ?_) | refine aopsF_end (hK _ ?_)); clear hK K) | ((first | refine aops_go ?_ | refine aopsD_go ?_ | refine aopsF_go ?_ | refine wpcall_pure rfl (kn) ?_); simp [hel, h6, hsl, hsl2, hcut]; (try simp (disch := omega) only [wrap64]); (try (refine gen2 ?_ ?_ <;> intro hq <;> try simp [hel, h6, hsl, hsl2, hcut] at hq))) | (refine T.ret (Done.tup (Or.inr rfl) ?_) <;> simp [resAs, Tryz.results114] <;> omega) | refine T.r0 fun K hK => ?_ | refine T.r1 fun K hK => ?_ | (refine ⟨by omega, ?_⟩) | refine T.ct rfl ?_ | refine T.cf rfl ?_ | refine T.seq ?_ | refine T.block ?_ | refine T.skip ?_ | refine T.exit ?_

theorem l2Digits_yes (s : List UInt8) (a : Nat) (n : Int) (ha : a <= s.length) (hs : s.length <= 1000000000) (hu : numS (dig4 (s.drop a)) = (some n)) : ACalls Tryz.prog 114 [.s s, .i a] [] (.tup [.i n, .i ((a + (dig4 (s.drop a)).length : Nat) : Int)]) [] [] := by
 have hd4 := dig4_len (s.drop a)
 have htk := dig4_take (s.drop a)
 have hat : ∀ j, j < (dig4 (s.drop a)).length -> ∃ y, s[a + j]? = some y /\ isDig y = true := fun j hj => by have := dig4_at hj; rwa [List.getElem?_drop] at this
 have hen : (dig4 (s.drop a)).length < 4 -> ∀ y, s[a + (dig4 (s.drop a)).length]? = some y -> isDig y = false := fun h y hy => dig4_end h (by rwa [List.getElem?_drop])
 rw [List.length_drop] at hd4
 generalize dig4 (s.drop a) = u at *
 have hcut : (s.take (a + u.length)).drop a = u := by rw [List.drop_take, Nat.add_sub_cancel_left]; exact htk
 clear htk
 have kn := l18Num_ok u (by omega)
 rw [hu] at kn
 simp only [Option.getD_none, Option.isSome_none, Option.getD_some, Option.isSome_some] at kn
 clear hu
 obtain ⟨E, hE⟩ : ∃ E, E = a + u.length := ⟨_, rfl⟩
 rw [<- hE] at hen hcut ⊢
 refine ACalls.of_body Tryz.func114 (by kernel_rfl) rfl (by kernel_rfl) (by simp [Tryz.ntmps114]) (by simp) ?_
 rw [Tryz.ntmps114]
 repeat' first | ((first | refine aops_end (hK _ ?_) | refine aopsD_end (hK _ ?_) | refine aopsF_end (hK _ ?_)); clear hK K) | ((first | refine aops_go ?_ | refine aopsD_go ?_ | refine aopsF_go ?_); simp; (try simp (disch := omega) only [wrap64]); (try (refine gen2 ?_ ?_ <;> intro hq <;> try simp at hq))) | refine T.r0 fun K hK => ?_ | refine T.r1 fun K hK => ?_ | (refine ⟨by omega, ?_⟩) | refine T.ct rfl ?_ | refine T.cf rfl ?_ | refine T.seq ?_ | refine T.block ?_ | refine T.skip ?_ | refine T.exit ?_
 refine T.loopK (α := Nat) [0, 1, 4, 5] (fun e => [(6, .i e)]) (fun _ => []) (fun _ => []) (fun _ _ => []) (fun e => E + 1 - e) (fun e => a <= e /\ e <= E) (by simp; rfl) (fun e he => ?_) a ⟨by omega, by omega⟩ (by simp) (by simp) (by simp)
 obtain ⟨he1, he2⟩ := he
 dsimp only
 simp only [ups, List.set_cons_zero, List.set_cons_succ, List.cons_append, List.nil_append]
 by_cases hlt : e < E
 ·obtain ⟨y, hy, hd⟩ := hat (e - a) (by omega)
  rw [show a + (e - a) = e by omega] at hy
  have hel : e < s.length := (List.getElem?_eq_some_iff.1 hy).1
  have hgt : s[e] = y := by rw [List.getElem?_eq_getElem hel] at hy; exact Option.some.inj hy
  obtain ⟨d1, d2⟩ := dig_rd hd
  have h1 : ¬ (y.toNat : Int) < 48 := by omega
  have h1n : ¬ y.toNat < 48 := by omega
  have h2 : ¬ (57 : Int) < (y.toNat : Int) := by omega
  have h2n : ¬ 57 < y.toNat := by omega
  have h3 : (48 : Int) <= (y.toNat : Int) := by omega
  have h4 : (y.toNat : Int) <= 57 := by omega
  have h5 : (e : Int) < (a : Int) + 4 := by omega
  have h6 : (e : Int) < s.length := by omega
  repeat' first | ((first | refine aops_end (hK _ ?_) | refine aopsD_end (hK _ ?_) | refine aopsF_end (hK _ ?_)); clear hK K) | ((first | refine aops_go ?_ | refine aopsD_go ?_ | refine aopsF_go ?_); simp [hel, hgt, h1, h1n, h2, h2n, h3, h4, h5, h6, d1, d2]; (try simp (disch := omega) only [wrap64]); (try (refine gen2 ?_ ?_ <;> intro hq <;> try simp [hel, hgt, h1, h1n, h2, h2n, h3, h4, h5, h6, d1, d2] at hq))) | (refine ⟨e + 1, by dsimp only; omega, ⟨by omega, by omega⟩, ?_⟩; simp (disch := omega) [wrap64]) | refine T.r0 fun K hK => ?_ | refine T.r1 fun K hK => ?_ | (refine ⟨by omega, ?_⟩) | refine T.ct rfl ?_ | refine T.cf rfl ?_ | refine T.seq ?_ | refine T.block ?_ | refine T.skip ?_ | refine T.exit ?_
 ·have heE : e = E := by omega
  subst heE
  have hsl : (a : Int) <= e := by omega
  have hsl2 : (e : Int) <= s.length := by omega
  by_cases hel : e < s.length
  ·obtain ⟨y, hy⟩ := get_lt hel
   have hgt : s[e] = y := by rw [List.getElem?_eq_getElem hel] at hy; exact Option.some.inj hy
   have h6 : (e : Int) < s.length := by omega
   by_cases h4 : u.length < 4
   ·have h5 : (e : Int) < (a : Int) + 4 := by omega
    rcases dig_no (hen h4 y hy) with h | h
    ·have h' : (y.toNat : Int) < 48 := by omega
     have h3 : ¬ (48 : Int) <= (y.toNat : Int) := by omega
     have h3n : ¬ 48 <= y.toNat := by omega
     repeat' first | ((first | refine aops_end (hK _ ?_) | refine aopsD_end (hK _ ?_) | refine aopsF_end (hK _ ?_)); clear hK K) | ((first | refine aops_go ?_ | refine aopsD_go ?_ | refine aopsF_go ?_ | refine wpcall_pure rfl (kn) ?_); simp [hel, hgt, h, h', h3, h3n, h5, h6, hsl, hsl2, hcut]; (try simp (disch := omega) only [wrap64]); (try (refine gen2 ?_ ?_ <;> intro hq <;> try simp [hel, hgt, h, h', h3, h3n, h5, h6, hsl, hsl2, hcut] at hq))) | (refine T.ret (Done.tup (Or.inr rfl) ?_) <;> simp [resAs, Tryz.results114] <;> omega) | refine T.r0 fun K hK => ?_ | refine T.r1 fun K hK => ?_ | (refine ⟨by omega, ?_⟩) | refine T.ct rfl ?_ | refine T.cf rfl ?_ | refine T.seq ?_ | refine T.block ?_ | refine T.skip ?_ | refine T.exit ?_
    ·have h1 : (48 : Int) <= (y.toNat : Int) := by omega
     have h1n : 48 <= y.toNat := by omega
     have h2 : ¬ (y.toNat : Int) < 48 := by omega
     have h2n : ¬ y.toNat < 48 := by omega
     have h3 : ¬ (y.toNat : Int) <= 57 := by omega
     have h3n : ¬ y.toNat <= 57 := by omega
     repeat' first | ((first | refine aops_end (hK _ ?_) | refine aopsD_end (hK _ ?_) | refine aopsF_end (hK _ ?_)); clear hK K) | ((first | refine aops_go ?_ | refine aopsD_go ?_ | refine aopsF_go ?_ | refine wpcall_pure rfl (kn) ?_); simp [hel, hgt, h1, h1n, h2, h2n, h3, h3n, h5, h6, hsl, hsl2, hcut]; (try simp (disch := omega) only [wrap64]); (try (refine gen2 ?_ ?_ <;> intro hq <;> try simp [hel, hgt, h1, h1n, h2, h2n, h3, h3n, h5, h6, hsl, hsl2, hcut] at hq))) | (refine T.ret (Done.tup (Or.inr rfl) ?_) <;> simp [resAs, Tryz.results114] <;> omega) | refine T.r0 fun K hK => ?_ | refine T.r1 fun K hK => ?_ | (refine ⟨by omega, ?_⟩) | refine T.ct rfl ?_ | refine T.cf rfl ?_ | refine T.seq ?_ | refine T.block ?_ | refine T.skip ?_ | refine T.exit ?_
   ·have h5 : ¬ (e : Int) < (a : Int) + 4 := by omega
    repeat' first | ((first | refine aops_end (hK _ ?_) | refine aopsD_end (hK _ ?_) | refine aopsF_end (hK _ ?_)); clear hK K) | ((first | refine aops_go ?_ | refine aopsD_go ?_ | refine aopsF_go ?_ | refine wpcall_pure rfl (kn) ?_); simp [hel, hgt, h5, h6, hsl, hsl2, hcut]; (try simp (disch := omega) only [wrap64]); (try (refine gen2 ?_ ?_ <;> intro hq <;> try simp [hel, hgt, h5, h6, hsl, hsl2, hcut] at hq))) | (refine T.ret (Done.tup (Or.inr rfl) ?_) <;> simp [resAs, Tryz.results114] <;> omega) | refine T.r0 fun K hK => ?_ | refine T.r1 fun K hK => ?_ | (refine ⟨by omega, ?_⟩) | refine T.ct rfl ?_ | refine T.cf rfl ?_ | refine T.seq ?_ | refine T.block ?_ | refine T.skip ?_ | refine T.exit ?_
  ·have h6 : ¬ (e : Int) < s.length := by omega
   repeat' first | ((first | refine aops_end (hK _ ?_) | refine aopsD_end (hK _ ?_) | refine aopsF_end (hK _ ?_)); clear hK K) | ((first | refine aops_go ?_ | refine aopsD_go ?_ | refine aopsF_go ?_ | refine wpcall_pure rfl (kn) ?_); simp [hel, h6, hsl, hsl2, hcut]; (try simp (disch := omega) only [wrap64]); (try (refine gen2 ?_ ?_ <;> intro hq <;> try simp [hel, h6, hsl, hsl2, hcut] at hq))) | (refine T.ret (Done.tup (Or.inr rfl) ?_) <;> simp [resAs, Tryz.results114] <;> omega) | refine T.r0 fun K hK => ?_ | refine T.r1 fun K hK => ?_ | (refine ⟨by omega, ?_⟩) | refine T.ct rfl ?_ | refine T.cf rfl ?_ | refine T.seq ?_ | refine T.block ?_ | refine T.skip ?_ | refine T.exit ?_

theorem l2Digits_ok (s : List UInt8) (a : Nat) (ha : a <= s.length) (hs : s.length <= 1000000000) : ACalls Tryz.prog 114 [.s s, .i a] [] (.tup [.i ((numS (dig4 (s.drop a))).getD 0), .i (if (numS (dig4 (s.drop a))).isSome = true then ((a + (dig4 (s.drop a)).length : Nat) : Int) else -1)]) [] [] := by
 cases hu : numS (dig4 (s.drop a)) with
 | none =>
  simp only [Option.getD_none, Option.isSome_none, Bool.false_eq_true, if_false]
  exact l2Digits_no s a ha hs hu
 | some n =>
  simp only [Option.getD_some, Option.isSome_some, if_true]
  exact l2Digits_yes s a n ha hs hu

theorem l6Number_ok (s : List UInt8) (a : Nat) (ha : a <= s.length) (hs : s.length <= 1000000000) : (numAt (s.drop a) = none /\ ACalls Tryz.prog 84 [.s s, .i a] [] (.tup [.i 0, .i (-1)]) [] []) \/ ∃ (n : Int) (k : Nat), numAt (s.drop a) = some (n, s.drop k) /\ k <= s.length /\ ACalls Tryz.prog 84 [.s s, .i a] [] (.tup [.i n, .i k]) [] [] := by
 by_cases hlt : a < s.length
 ·obtain ⟨x, hx⟩ := get_lt hlt
  have hgt : s[a] = x := by rw [List.getElem?_eq_getElem hlt] at hx; exact Option.some.inj hx
  have hdr : s.drop a = x :: s.drop (a + 1) := by rw [List.drop_eq_getElem_cons hlt, hgt]
  have hi : (a : Int) < s.length := by omega
  by_cases h45 : x = 45
  ·subst h45
   have kd := l2Digits_ok s (a + 1) (by omega) hs
   have hl4 := (dig4_len (s.drop (a + 1))).2
   rw [List.length_drop] at hl4
   rw [hdr, numAt, if_pos rfl]
   rw [show ((a + 1 : Nat) : Int) = (a : Int) + 1 by omega] at kd
   cases hn : numS (dig4 (s.drop (a + 1))) with
   | none =>
    rw [hn] at kd
    simp only [Option.getD_none, Option.isSome_none, Bool.false_eq_true, if_false] at kd
    refine .inl ⟨rfl, ?_⟩
    refine ACalls.of_body Tryz.func84 (by kernel_rfl) rfl (by kernel_rfl) (by simp [Tryz.ntmps84]) (by simp) ?_
    rw [Tryz.ntmps84]
    repeat' first | ((first | refine aops_end (hK _ ?_) | refine aopsD_end (hK _ ?_) | refine aopsF_end (hK _ ?_)); clear hK K) | ((first | refine aops_go ?_ | refine aopsD_go ?_ | refine aopsF_go ?_ | refine wpcall_pure rfl (kd) ?_); simp [hlt, hgt, hi]; (try simp (disch := omega) only [wrap64]); (try (refine gen2 ?_ ?_ <;> intro hq <;> try simp [hlt, hgt, hi] at hq))) | (refine T.ret (Done.tup (Or.inr rfl) ?_) <;> simp [resAs, Tryz.results84] <;> omega) | refine T.r0 fun K hK => ?_ | refine T.r1 fun K hK => ?_ | (refine ⟨by omega, ?_⟩) | refine T.ct rfl ?_ | refine T.cf rfl ?_ | refine T.seq ?_ | refine T.block ?_ | refine T.skip ?_ | refine T.exit ?_
   | some n =>
    have hb := num4 hn
    rw [hn] at kd
    simp only [Option.getD_some, Option.isSome_some, if_true] at kd
    refine .inr ⟨-n, a + 1 + (dig4 (s.drop (a + 1))).length, by simp [List.drop_drop], by omega, ?_⟩
    generalize (a + 1 + (dig4 (s.drop (a + 1))).length) = k at *
    have hw : IntKind.i64.wrap (-n) = -n := wrap64 (by omega) (by omega)
    refine ACalls.of_body Tryz.func84 (by kernel_rfl) rfl (by kernel_rfl) (by simp [Tryz.ntmps84]) (by simp) ?_
    rw [Tryz.ntmps84]
    repeat' first | ((first | refine aops_end (hK _ ?_) | refine aopsD_end (hK _ ?_) | refine aopsF_end (hK _ ?_)); clear hK K) | ((first | refine aops_go ?_ | refine aopsD_go ?_ | refine aopsF_go ?_ | refine wpcall_pure rfl (kd) ?_); simp [hlt, hgt, hi, hw]; (try simp (disch := omega) only [wrap64]); (try (refine gen2 ?_ ?_ <;> intro hq <;> try simp [hlt, hgt, hi, hw] at hq))) | (refine T.ret (Done.tup (Or.inr rfl) ?_) <;> simp [resAs, Tryz.results84] <;> omega) | refine T.r0 fun K hK => ?_ | refine T.r1 fun K hK => ?_ | (refine ⟨by omega, ?_⟩) | refine T.ct rfl ?_ | refine T.cf rfl ?_ | refine T.seq ?_ | refine T.block ?_ | refine T.skip ?_ | refine T.exit ?_
  ·have hxn : ¬ x.toNat = 45 := fun e => h45 (UInt8.toNat_inj.1 e)
   have hxi : ¬ (x.toNat : Int) = 45 := by omega
   have hxb : ((x.toNat : Int) == 45) = false := by simp only [beq_eq_false_iff_ne, ne_eq]; omega
   have kd := l2Digits_ok s a (by omega) hs
   have hl4 := (dig4_len (s.drop a)).2
   rw [List.length_drop] at hl4
   rw [hdr] at kd hl4 ⊢
   rw [numAt, if_neg h45]
   cases hn : numS (dig4 (x :: s.drop (a + 1))) with
   | none =>
    rw [hn] at kd
    simp only [Option.getD_none, Option.isSome_none, Bool.false_eq_true, if_false] at kd
    refine .inl ⟨rfl, ?_⟩
    refine ACalls.of_body Tryz.func84 (by kernel_rfl) rfl (by kernel_rfl) (by simp [Tryz.ntmps84]) (by simp) ?_
    rw [Tryz.ntmps84]
    repeat' first | ((first | refine aops_end (hK _ ?_) | refine aopsD_end (hK _ ?_) | refine aopsF_end (hK _ ?_)); clear hK K) | ((first | refine aops_go ?_ | refine aopsD_go ?_ | refine aopsF_go ?_ | refine wpcall_pure rfl (kd) ?_); simp [hlt, hgt, hi, hxn, hxi, hxb, h45]; (try simp (disch := omega) only [wrap64]); (try (refine gen2 ?_ ?_ <;> intro hq <;> try simp [hlt, hgt, hi, hxn, hxi, hxb, h45] at hq))) | (refine T.ret (Done.tup (Or.inr rfl) ?_) <;> simp [resAs, Tryz.results84] <;> omega) | refine T.r0 fun K hK => ?_ | refine T.r1 fun K hK => ?_ | (refine ⟨by omega, ?_⟩) | refine T.ct rfl ?_ | refine T.cf rfl ?_ | refine T.seq ?_ | refine T.block ?_ | refine T.skip ?_ | refine T.exit ?_
   | some n =>
    have hb := num4 hn
    rw [hn] at kd
    simp only [Option.getD_some, Option.isSome_some, if_true] at kd
    refine .inr ⟨n, a + (dig4 (x :: s.drop (a + 1))).length, by rw [<- hdr]; simp [List.drop_drop], by omega, ?_⟩
    generalize (a + (dig4 (x :: s.drop (a + 1))).length) = k at *
    have hw : IntKind.i64.wrap n = n := wrap64 (by omega) (by omega)
    refine ACalls.of_body Tryz.func84 (by kernel_rfl) rfl (by kernel_rfl) (by simp [Tryz.ntmps84]) (by simp) ?_
    rw [Tryz.ntmps84]
    repeat' first | ((first | refine aops_end (hK _ ?_) | refine aopsD_end (hK _ ?_) | refine aopsF_end (hK _ ?_)); clear hK K) | ((first | refine aops_go ?_ | refine aopsD_go ?_ | refine aopsF_go ?_ | refine wpcall_pure rfl (kd) ?_); simp [hlt, hgt, hi, hw, hxn, hxi, hxb, h45]; (try simp (disch := omega) only [wrap64]); (try (refine gen2 ?_ ?_ <;> intro hq <;> try simp [hlt, hgt, hi, hw, hxn, hxi, hxb, h45] at hq))) | (refine T.ret (Done.tup (Or.inr rfl) ?_) <;> simp [resAs, Tryz.results84] <;> omega) | refine T.r0 fun K hK => ?_ | refine T.r1 fun K hK => ?_ | (refine ⟨by omega, ?_⟩) | refine T.ct rfl ?_ | refine T.cf rfl ?_ | refine T.seq ?_ | refine T.block ?_ | refine T.skip ?_ | refine T.exit ?_
 ·have kd := l2Digits_ok s a (by omega) hs
  have hdr : s.drop a = [] := List.drop_eq_nil_of_le (by omega)
  rw [hdr, show numS (dig4 []) = none from rfl] at kd
  simp only [Option.getD_none, Option.isSome_none, Bool.false_eq_true, if_false] at kd
  have hi : ¬ (a : Int) < s.length := by omega
  refine .inl ⟨by rw [hdr]; rfl, ?_⟩
  refine ACalls.of_body Tryz.func84 (by kernel_rfl) rfl (by kernel_rfl) (by simp [Tryz.ntmps84]) (by simp) ?_
  rw [Tryz.ntmps84]
  repeat' first | ((first | refine aops_end (hK _ ?_) | refine aopsD_end (hK _ ?_) | refine aopsF_end (hK _ ?_)); clear hK K) | ((first | refine aops_go ?_ | refine aopsD_go ?_ | refine aopsF_go ?_ | refine wpcall_pure rfl (kd) ?_); simp [hlt, hi]; (try simp (disch := omega) only [wrap64]); (try (refine gen2 ?_ ?_ <;> intro hq <;> try simp [hlt, hi] at hq))) | (refine T.ret (Done.tup (Or.inr rfl) ?_) <;> simp [resAs, Tryz.results84] <;> omega) | refine T.r0 fun K hK => ?_ | refine T.r1 fun K hK => ?_ | (refine ⟨by omega, ?_⟩) | refine T.ct rfl ?_ | refine T.cf rfl ?_ | refine T.seq ?_ | refine T.block ?_ | refine T.skip ?_ | refine T.exit ?_

theorem l6Which_ok (s : List UInt8) (a : Nat) (x : UInt8) (hx : s[a]? = some x) (hs : s.length <= 1000000000) : ACalls Tryz.prog 85 [.s s, .i a] [] (.i (whichB x)) [] [] := by
 have hlt : a < s.length := (List.getElem?_eq_some_iff.1 hx).1
 have hi : (a : Int) < s.length := by omega
 have hi2 : (a : Int) + 1 <= s.length := by omega
 have hcut : (s.take (a + 1)).drop a = [x] := by rw [take_drop_next (Nat.le_refl a) hx]; simp
 have hle := which_le x
 have hwo := which_of (x := x) rfl
 refine ACalls.of_body Tryz.func85 (by kernel_rfl) rfl (by kernel_rfl) (by simp [Tryz.ntmps85]) (by simp) ?_
 rw [Tryz.ntmps85]
 repeat' first | ((first | refine aops_end (hK _ ?_) | refine aopsD_end (hK _ ?_) | refine aopsF_end (hK _ ?_)); clear hK K) | ((first | refine aops_go ?_ | refine aopsD_go ?_ | refine aopsF_go ?_); simp; (try simp (disch := omega) only [wrap64]); (try (refine gen2 ?_ ?_ <;> intro hq <;> try simp at hq))) | refine T.rd (id := 4) mixed (fun _ => false) [] (by kernel_rfl) fun K hK => ?_ | refine T.rd1 (id := 4) mixed (fun _ => false) [] (by kernel_rfl) fun K hK => ?_ | refine T.r0 fun K hK => ?_ | refine T.r1 fun K hK => ?_ | (refine ⟨by omega, ?_⟩) | refine T.ct rfl ?_ | refine T.cf rfl ?_ | refine T.seq ?_ | refine T.block ?_ | refine T.skip ?_ | refine T.exit ?_
 refine T.loopK (α := Nat) [0, 1] (fun k => [(4, .i 0), (5, .i k)]) (fun _ => []) (fun _ => []) (fun _ _ => []) (fun k => 7 - k) (fun k => 1 <= k /\ k <= 6 /\ (whichB x = 0 \/ (k : Int) <= whichB x)) (by simp; rfl) (fun k hk => ?_) 1 ⟨by omega, by omega, by omega⟩ (by simp) (by simp) (by simp)
 obtain ⟨hk1, hk2, hk3⟩ := hk
 dsimp only
 simp only [ups, List.set_cons_zero, List.set_cons_succ, List.cons_append, List.nil_append]
 by_cases hk5 : k <= 5
 ·have hk5i : (k : Int) <= 5 := by omega
  have kl := l6Letter_ok (k := (k : Int)) (by omega) (by omega)
  by_cases he : signB (k : Int) = x
  ·have hwk : whichB x = k := by rw [<- he]; exact which_sign (by omega) (by omega)
   rw [he] at kl
   rw [hwk]
   repeat' first | ((first | refine aops_end (hK _ ?_) | refine aopsD_end (hK _ ?_) | refine aopsF_end (hK _ ?_)); clear hK K) | ((first | refine aops_go ?_ | refine aopsD_go ?_ | refine aopsF_go ?_ | refine wpcall_pure rfl (kl) ?_); simp [hi, hi2, hlt, hk5, hk5i, hcut]; (try simp (disch := omega) only [wrap64]); (try (refine gen2 ?_ ?_ <;> intro hq <;> try simp [hi, hi2, hlt, hk5, hk5i, hcut] at hq))) | (refine T.ret (Done.data (Or.inr rfl) ?_ ?_) <;> simp [Tryz.results85] <;> omega) | refine T.rd (id := 4) mixed (fun _ => false) [] (by kernel_rfl) fun K hK => ?_ | refine T.rd1 (id := 4) mixed (fun _ => false) [] (by kernel_rfl) fun K hK => ?_ | refine T.r0 fun K hK => ?_ | refine T.r1 fun K hK => ?_ | (refine ⟨by omega, ?_⟩) | refine T.ct rfl ?_ | refine T.cf rfl ?_ | refine T.seq ?_ | refine T.block ?_ | refine T.skip ?_ | refine T.exit ?_
  ·have hne : ¬ whichB x = k := fun e => he (by rw [<- e]; exact hwo (by omega))
   generalize signB (k : Int) = z at *
   repeat' first | ((first | refine aops_end (hK _ ?_) | refine aopsD_end (hK _ ?_) | refine aopsF_end (hK _ ?_)); clear hK K) | ((first | refine aops_go ?_ | refine aopsD_go ?_ | refine aopsF_go ?_ | refine wpcall_pure rfl (kl) ?_); simp [hi, hi2, hlt, hk5, hk5i, hcut, he]; (try simp (disch := omega) only [wrap64]); (try (refine gen2 ?_ ?_ <;> intro hq <;> try simp [hi, hi2, hlt, hk5, hk5i, hcut, he] at hq))) | (refine ⟨k + 1, by dsimp only; omega, ⟨by omega, by omega, by omega⟩, ?_⟩; simp (disch := omega) [wrap64]) | refine T.rd (id := 4) mixed (fun _ => false) [] (by kernel_rfl) fun K hK => ?_ | refine T.rd1 (id := 4) mixed (fun _ => false) [] (by kernel_rfl) fun K hK => ?_ | refine T.r0 fun K hK => ?_ | refine T.r1 fun K hK => ?_ | (refine ⟨by omega, ?_⟩) | refine T.ct rfl ?_ | refine T.cf rfl ?_ | refine T.seq ?_ | refine T.block ?_ | refine T.skip ?_ | refine T.exit ?_
 ·have hk5i : ¬ (k : Int) <= 5 := by omega
  rw [show whichB x = 0 by omega]
  repeat' first | ((first | refine aops_end (hK _ ?_) | refine aopsD_end (hK _ ?_) | refine aopsF_end (hK _ ?_)); clear hK K) | ((first | refine aops_go ?_ | refine aopsD_go ?_ | refine aopsF_go ?_); simp [hi, hlt, hk5, hk5i]; (try simp (disch := omega) only [wrap64]); (try (refine gen2 ?_ ?_ <;> intro hq <;> try simp [hi, hlt, hk5, hk5i] at hq))) | (refine T.ret (Done.data (Or.inr rfl) ?_ ?_) <;> simp [Tryz.results85] <;> omega) | refine T.rd (id := 4) mixed (fun _ => false) [] (by kernel_rfl) fun K hK => ?_ | refine T.rd1 (id := 4) mixed (fun _ => false) [] (by kernel_rfl) fun K hK => ?_ | refine T.r0 fun K hK => ?_ | refine T.r1 fun K hK => ?_ | (refine ⟨by omega, ?_⟩) | refine T.ct rfl ?_ | refine T.cf rfl ?_ | refine T.seq ?_ | refine T.block ?_ | refine T.skip ?_ | refine T.exit ?_
end Go.Proofs.YtcgmmknfpfdghaaGreatDoor

namespace Go.Proofs.YtcgmmknfpfdghaaGreatDoor
attribute [-simp] Go.Av.astepJ Go.Av.relC Go.Av.relL Go.Av.relV Go.Av.relVs Go.Av.callJ Go.Av.IT.kind_v Go.Av.IT.kind_b Go.Av.IT.kind_p Go.Av.IT.name_v Go.Av.IT.name_b Go.Av.IT.name_p Go.Av.IT.kids_v Go.Av.IT.kids_b Go.Av.IT.kids_p Go.Av.eIT_len Go.Av.gT_cons Go.Av.sT_cons
open Go Go.Av
attribute [local irreducible] T ACalls TX EX LX Draws Some_ ACallsX eTy eTm MTy.kind MTy.kids MTm.kind MTm.name MTm.num MTm.ty MTm.fr MTm.label MTm.kids
attribute [local simp] eTy_def eTm_def
set_option maxHeartbeats 16000000
set_option maxRecDepth 8000
attribute [local irreducible] eCo MCo.kind MCo.tag MCo.label MCo.kids
attribute [local simp] eCo_def

def PaR (s : List UInt8) (d a : Nat) : Prop := ∃ (c : MCo) (o : Int), ACalls Tryz.prog 50 [.s s, .i a, .i d] [] (.tup [aCo c, .i o]) [] [] /\ ((rsCo d (s.drop a) = (c, none) /\ o = -1) \/ ∃ k : Nat, o = k /\ k <= s.length /\ rsCo d (s.drop a) = (c, some (s.drop k)))

theorem at_drop {s : List UInt8} {a : Nat} {x : UInt8} (hx : s[a]? = some x) : s.drop a = x :: s.drop (a + 1) := by
 have hlt : a < s.length := (List.getElem?_eq_some_iff.1 hx).1
 have hgt : s[a] = x := by rw [List.getElem?_eq_getElem hlt] at hx; exact Option.some.inj hx
 rw [List.drop_eq_getElem_cons hlt, hgt]
theorem ne_byte {x y : UInt8} (h : ¬ x = y) : ¬ x.toNat = y.toNat /\ ¬ (x.toNat : Int) = y.toNat /\ ((x.toNat : Int) == (y.toNat : Int)) = false := by
 have h1 : ¬ x.toNat = y.toNat := fun e => h (UInt8.toNat_inj.1 e)
 exact ⟨h1, by omega, by simp only [beq_eq_false_iff_ne, ne_eq]; omega⟩
theorem cast1 (a : Nat) : ((a + 1 : Nat) : Int) = (a : Int) + 1 := by omega

theorem parse_none (s : List UInt8) (d a : Nat) (hs : s.length <= 1000000000) (hd : d <= 1000) (ha : a <= s.length) (h : d = 0 \/ a = s.length) : PaR s d a := by
 refine ⟨zeroCo, -1, ?_, .inl ⟨?_, rfl⟩⟩
 ·by_cases h0 : d = 0
  ·subst h0
   refine ACalls.of_body Tryz.func50 (by kernel_rfl) rfl (by kernel_rfl) (by simp [Tryz.ntmps50]) (by simp) ?_
   rw [Tryz.ntmps50]
   repeat' first | ((first | refine aops_end (hK _ ?_) | refine aopsD_end (hK _ ?_) | refine aopsF_end (hK _ ?_)); clear hK K) | ((first | refine aops_go ?_ | refine aopsD_go ?_ | refine aopsF_go ?_); simp; (try simp (disch := omega) only [wrap64]); (try (refine gen2 ?_ ?_ <;> intro hq <;> try simp at hq))) | (refine T.ret (Done.tup (Or.inr rfl) ?_) <;> simp [resAs, Tryz.results50] <;> omega) | refine T.r0 fun K hK => ?_ | refine T.r1 fun K hK => ?_ | (refine ⟨by omega, ?_⟩) | refine T.ct rfl ?_ | refine T.cf rfl ?_ | refine T.seq ?_ | refine T.block ?_ | refine T.skip ?_ | refine T.exit ?_
  ·have ha : a = s.length := by omega
   subst ha
   have h1 : ¬ (d : Int) < 1 := by omega
   have h2 : ¬ (s.length : Int) < 0 := by omega
   have h3 : ¬ d < 1 := by omega
   refine ACalls.of_body Tryz.func50 (by kernel_rfl) rfl (by kernel_rfl) (by simp [Tryz.ntmps50]) (by simp) ?_
   rw [Tryz.ntmps50]
   repeat' first | ((first | refine aops_end (hK _ ?_) | refine aopsD_end (hK _ ?_) | refine aopsF_end (hK _ ?_)); clear hK K) | ((first | refine aops_go ?_ | refine aopsD_go ?_ | refine aopsF_go ?_); simp [h0, h1, h2, h3]; (try simp (disch := omega) only [wrap64]); (try (refine gen2 ?_ ?_ <;> intro hq <;> try simp [h0, h1, h2, h3] at hq))) | (refine T.ret (Done.tup (Or.inr rfl) ?_) <;> simp [resAs, Tryz.results50] <;> omega) | refine T.r0 fun K hK => ?_ | refine T.r1 fun K hK => ?_ | (refine ⟨by omega, ?_⟩) | refine T.ct rfl ?_ | refine T.cf rfl ?_ | refine T.seq ?_ | refine T.block ?_ | refine T.skip ?_ | refine T.exit ?_
 ·rcases h with rfl | rfl
  ·rw [rsCo]
  ·cases d with
   | zero => rw [rsCo]
   | succ d => rw [List.drop_length, rsCo]

theorem parse_inj (s : List UInt8) (d a : Nat) (hs : s.length <= 1000000000) (hd : d <= 1000) (hx : s[a]? = some 33) (ih : ∀ a, a <= s.length -> PaR s d a) : PaR s (d + 1) a := by
 have hlt : a < s.length := (List.getElem?_eq_some_iff.1 hx).1
 have hgt : s[a] = 33 := by rw [List.getElem?_eq_getElem hlt] at hx; exact Option.some.inj hx
 have hdr := at_drop hx
 have b1 : ¬ (d : Int) + 1 < 1 := by omega
 have b2 : ¬ (s.length : Int) <= a := by omega
 have b3 : ¬ (a : Int) < 0 := by omega
 have b4 : (a : Int) < s.length := by omega
 have b5 : ¬ s.length <= a := by omega
 have b6 : ¬ (d + 1 < 1) := by omega
 obtain ⟨c, o, k1, h⟩ := ih (a + 1) (by omega)
 rw [cast1] at k1
 refine ⟨cInj c, o, ?_, ?_⟩
 ·rw [cast1]
  clear h ih hx hdr
  refine ACalls.of_body Tryz.func50 (by kernel_rfl) rfl (by kernel_rfl) (by simp [Tryz.ntmps50]) (by simp) ?_
  rw [Tryz.ntmps50]
  repeat' first | ((first | refine aops_end (hK _ ?_) | refine aopsD_end (hK _ ?_) | refine aopsF_end (hK _ ?_)); clear hK K) | ((first | refine aops_go ?_ | refine aopsD_go ?_ | refine aopsF_go ?_ | refine wpcall_pure rfl (k1) ?_); simp [hlt, hgt, b1, b2, b3, b4, b5, b6]; (try simp (disch := omega) only [wrap64]); (try (refine gen2 ?_ ?_ <;> intro hq <;> try simp [hlt, hgt, b1, b2, b3, b4, b5, b6] at hq))) | (refine T.ret (Done.tup (Or.inr rfl) ?_) <;> simp [resAs, Tryz.results50] <;> omega) | refine T.r0 fun K hK => ?_ | refine T.r1 fun K hK => ?_ | (refine ⟨by omega, ?_⟩) | refine T.ct rfl ?_ | refine T.cf rfl ?_ | refine T.seq ?_ | refine T.block ?_ | refine T.skip ?_ | refine T.exit ?_
 ·rw [hdr, rsCo, if_pos rfl]
  rcases h with ⟨h, ho⟩ | ⟨k, ho, hk, h⟩
  ·rw [h]; exact .inl ⟨rfl, ho⟩
  ·rw [h]; exact .inr ⟨k, ho, hk, rfl⟩

theorem parse_proj (s : List UInt8) (d a : Nat) (hs : s.length <= 1000000000) (hd : d <= 1000) (hx : s[a]? = some 35) (ih : ∀ a, a <= s.length -> PaR s d a) : PaR s (d + 1) a := by
 have hlt : a < s.length := (List.getElem?_eq_some_iff.1 hx).1
 have hgt : s[a] = 35 := by rw [List.getElem?_eq_getElem hlt] at hx; exact Option.some.inj hx
 have hdr := at_drop hx
 have b1 : ¬ (d : Int) + 1 < 1 := by omega
 have b2 : ¬ (s.length : Int) <= a := by omega
 have b3 : ¬ (a : Int) < 0 := by omega
 have b4 : (a : Int) < s.length := by omega
 have b5 : ¬ s.length <= a := by omega
 have b6 : ¬ (d + 1 < 1) := by omega
 rcases l6Number_ok s (a + 1) (by omega) hs with ⟨hn, kn⟩ | ⟨n, k, hn, hk, kn⟩
 ·rw [cast1] at kn
  refine ⟨zeroCo, -1, ?_, .inl ⟨by rw [hdr, rsCo, if_neg (by decide), if_pos rfl, hn], rfl⟩⟩
  rw [cast1]
  refine ACalls.of_body Tryz.func50 (by kernel_rfl) rfl (by kernel_rfl) (by simp [Tryz.ntmps50]) (by simp) ?_
  rw [Tryz.ntmps50]
  repeat' first | ((first | refine aops_end (hK _ ?_) | refine aopsD_end (hK _ ?_) | refine aopsF_end (hK _ ?_)); clear hK K) | ((first | refine aops_go ?_ | refine aopsD_go ?_ | refine aopsF_go ?_ | refine wpcall_pure rfl (kn) ?_); simp [hlt, hgt, b1, b2, b3, b4, b5, b6]; (try simp (disch := omega) only [wrap64]); (try (refine gen2 ?_ ?_ <;> intro hq <;> try simp [hlt, hgt, b1, b2, b3, b4, b5, b6] at hq))) | (refine T.ret (Done.tup (Or.inr rfl) ?_) <;> simp [resAs, Tryz.results50] <;> omega) | refine T.r0 fun K hK => ?_ | refine T.r1 fun K hK => ?_ | (refine ⟨by omega, ?_⟩) | refine T.ct rfl ?_ | refine T.cf rfl ?_ | refine T.seq ?_ | refine T.block ?_ | refine T.skip ?_ | refine T.exit ?_
 rw [cast1] at kn
 by_cases hkl : k < s.length
 rotate_left
 ·have hkn : s.drop k = [] := List.drop_eq_nil_of_le (by omega)
  have c1 : (s.length : Int) <= k := by omega
  have c2 : ¬ (k : Int) < 0 := by omega
  have c3 : ¬ (k : Int) < s.length := by omega
  have c4 : s.length <= k := by omega
  refine ⟨zeroCo, -1, ?_, .inl ⟨by rw [hdr, rsCo, if_neg (by decide), if_pos rfl, hn, hkn], rfl⟩⟩
  rw [cast1]
  refine ACalls.of_body Tryz.func50 (by kernel_rfl) rfl (by kernel_rfl) (by simp [Tryz.ntmps50]) (by simp) ?_
  rw [Tryz.ntmps50]
  repeat' first | ((first | refine aops_end (hK _ ?_) | refine aopsD_end (hK _ ?_) | refine aopsF_end (hK _ ?_)); clear hK K) | ((first | refine aops_go ?_ | refine aopsD_go ?_ | refine aopsF_go ?_ | refine wpcall_pure rfl (kn) ?_); simp [hlt, hgt, b1, b2, b3, b4, b5, b6, hkl, c1, c2, c3, c4]; (try simp (disch := omega) only [wrap64]); (try (refine gen2 ?_ ?_ <;> intro hq <;> try simp [hlt, hgt, b1, b2, b3, b4, b5, b6, hkl, c1, c2, c3, c4] at hq))) | (refine T.ret (Done.tup (Or.inr rfl) ?_) <;> simp [resAs, Tryz.results50] <;> omega) | refine T.r0 fun K hK => ?_ | refine T.r1 fun K hK => ?_ | (refine ⟨by omega, ?_⟩) | refine T.ct rfl ?_ | refine T.cf rfl ?_ | refine T.seq ?_ | refine T.block ?_ | refine T.skip ?_ | refine T.exit ?_
 obtain ⟨y, hy⟩ := get_lt hkl
 have hky := at_drop hy
 by_cases y46 : y = 46
 ·subst y46
  have hkl := (List.getElem?_eq_some_iff.1 hy).1
  have hgy : s[k] = 46 := by rw [List.getElem?_eq_getElem hkl] at hy; exact Option.some.inj hy
  have c1 : ¬ (s.length : Int) <= k := by omega
  have c2 : ¬ (k : Int) < 0 := by omega
  have c3 : (k : Int) < s.length := by omega
  have c4 : ¬ s.length <= k := by omega
  obtain ⟨c, o, k1, h⟩ := ih (k + 1) (by omega)
  rw [cast1] at k1
  refine ⟨cProj n c, o, ?_, ?_⟩
  ·rw [cast1]
   clear h ih hx hdr hy hky hn
   refine ACalls.of_body Tryz.func50 (by kernel_rfl) rfl (by kernel_rfl) (by simp [Tryz.ntmps50]) (by simp) ?_
   rw [Tryz.ntmps50]
   repeat' first | ((first | refine aops_end (hK _ ?_) | refine aopsD_end (hK _ ?_) | refine aopsF_end (hK _ ?_)); clear hK K) | ((first | refine aops_go ?_ | refine aopsD_go ?_ | refine aopsF_go ?_ | refine wpcall_pure rfl (kn) ?_ | refine wpcall_pure rfl (k1) ?_); simp [hlt, hgt, b1, b2, b3, b4, b5, b6, hkl, hgy, c1, c2, c3, c4]; (try simp (disch := omega) only [wrap64]); (try (refine gen2 ?_ ?_ <;> intro hq <;> try simp [hlt, hgt, b1, b2, b3, b4, b5, b6, hkl, hgy, c1, c2, c3, c4] at hq))) | (refine T.ret (Done.tup (Or.inr rfl) ?_) <;> simp [resAs, Tryz.results50] <;> omega) | refine T.r0 fun K hK => ?_ | refine T.r1 fun K hK => ?_ | (refine ⟨by omega, ?_⟩) | refine T.ct rfl ?_ | refine T.cf rfl ?_ | refine T.seq ?_ | refine T.block ?_ | refine T.skip ?_ | refine T.exit ?_
  ·rw [hdr, rsCo, if_neg (by decide), if_pos rfl, hn, hky]
   simp only [if_true]
   rcases h with ⟨h, ho⟩ | ⟨k, ho, hk, h⟩
   ·rw [h]; exact .inl ⟨rfl, ho⟩
   ·rw [h]; exact .inr ⟨k, ho, hk, rfl⟩
 ·refine ⟨zeroCo, -1, ?_, .inl ⟨by rw [hdr, rsCo, if_neg (by decide), if_pos rfl, hn, hky]; simp only [if_neg y46], rfl⟩⟩
  have hkl := (List.getElem?_eq_some_iff.1 hy).1
  have hgy : s[k] = y := by rw [List.getElem?_eq_getElem hkl] at hy; exact Option.some.inj hy
  have c1 : ¬ (s.length : Int) <= k := by omega
  have c2 : ¬ (k : Int) < 0 := by omega
  have c3 : (k : Int) < s.length := by omega
  have c4 : ¬ s.length <= k := by omega
  obtain ⟨y46n, y46i, y46b⟩ := ne_byte y46
  rw [show ((46 : UInt8).toNat : Int) = 46 from rfl] at y46i y46b
  rw [show (46 : UInt8).toNat = 46 from rfl] at y46n
  rw [cast1]
  clear ih hx hdr hy hky hn
  refine ACalls.of_body Tryz.func50 (by kernel_rfl) rfl (by kernel_rfl) (by simp [Tryz.ntmps50]) (by simp) ?_
  rw [Tryz.ntmps50]
  repeat' first | ((first | refine aops_end (hK _ ?_) | refine aopsD_end (hK _ ?_) | refine aopsF_end (hK _ ?_)); clear hK K) | ((first | refine aops_go ?_ | refine aopsD_go ?_ | refine aopsF_go ?_ | refine wpcall_pure rfl (kn) ?_); simp [hlt, hgt, b1, b2, b3, b4, b5, b6, hkl, hgy, c1, c2, c3, c4, y46, y46n, y46i, y46b]; (try simp (disch := omega) only [wrap64]); (try (refine gen2 ?_ ?_ <;> intro hq <;> try simp [hlt, hgt, b1, b2, b3, b4, b5, b6, hkl, hgy, c1, c2, c3, c4, y46, y46n, y46i, y46b] at hq))) | (refine T.ret (Done.tup (Or.inr rfl) ?_) <;> simp [resAs, Tryz.results50] <;> omega) | refine T.r0 fun K hK => ?_ | refine T.r1 fun K hK => ?_ | (refine ⟨by omega, ?_⟩) | refine T.ct rfl ?_ | refine T.cf rfl ?_ | refine T.seq ?_ | refine T.block ?_ | refine T.skip ?_ | refine T.exit ?_

theorem parse_fail (s : List UInt8) (d a : Nat) (hs : s.length <= 1000000000) (hd : d <= 1000) (hx : s[a]? = some 88)  : PaR s (d + 1) a := by
 have hlt : a < s.length := (List.getElem?_eq_some_iff.1 hx).1
 have hgt : s[a] = 88 := by rw [List.getElem?_eq_getElem hlt] at hx; exact Option.some.inj hx
 have hdr := at_drop hx
 have b1 : ¬ (d : Int) + 1 < 1 := by omega
 have b2 : ¬ (s.length : Int) <= a := by omega
 have b3 : ¬ (a : Int) < 0 := by omega
 have b4 : (a : Int) < s.length := by omega
 have b5 : ¬ s.length <= a := by omega
 have b6 : ¬ (d + 1 < 1) := by omega
 rcases l6Number_ok s (a + 1) (by omega) hs with ⟨hn, kn⟩ | ⟨n, k, hn, hk, kn⟩
 ·rw [cast1] at kn
  refine ⟨zeroCo, -1, ?_, .inl ⟨by rw [hdr, rsCo, if_neg (by decide), if_neg (by decide), if_pos rfl, hn], rfl⟩⟩
  rw [cast1]
  refine ACalls.of_body Tryz.func50 (by kernel_rfl) rfl (by kernel_rfl) (by simp [Tryz.ntmps50]) (by simp) ?_
  rw [Tryz.ntmps50]
  repeat' first | ((first | refine aops_end (hK _ ?_) | refine aopsD_end (hK _ ?_) | refine aopsF_end (hK _ ?_)); clear hK K) | ((first | refine aops_go ?_ | refine aopsD_go ?_ | refine aopsF_go ?_ | refine wpcall_pure rfl (kn) ?_); simp [hlt, hgt, b1, b2, b3, b4, b5, b6]; (try simp (disch := omega) only [wrap64]); (try (refine gen2 ?_ ?_ <;> intro hq <;> try simp [hlt, hgt, b1, b2, b3, b4, b5, b6] at hq))) | (refine T.ret (Done.tup (Or.inr rfl) ?_) <;> simp [resAs, Tryz.results50] <;> omega) | refine T.r0 fun K hK => ?_ | refine T.r1 fun K hK => ?_ | (refine ⟨by omega, ?_⟩) | refine T.ct rfl ?_ | refine T.cf rfl ?_ | refine T.seq ?_ | refine T.block ?_ | refine T.skip ?_ | refine T.exit ?_
 rw [cast1] at kn
 by_cases hkl : k < s.length
 rotate_left
 ·have hkn : s.drop k = [] := List.drop_eq_nil_of_le (by omega)
  have c1 : (s.length : Int) <= k := by omega
  have c2 : ¬ (k : Int) < 0 := by omega
  have c3 : ¬ (k : Int) < s.length := by omega
  have c4 : s.length <= k := by omega
  refine ⟨zeroCo, -1, ?_, .inl ⟨by rw [hdr, rsCo, if_neg (by decide), if_neg (by decide), if_pos rfl, hn, hkn], rfl⟩⟩
  rw [cast1]
  refine ACalls.of_body Tryz.func50 (by kernel_rfl) rfl (by kernel_rfl) (by simp [Tryz.ntmps50]) (by simp) ?_
  rw [Tryz.ntmps50]
  repeat' first | ((first | refine aops_end (hK _ ?_) | refine aopsD_end (hK _ ?_) | refine aopsF_end (hK _ ?_)); clear hK K) | ((first | refine aops_go ?_ | refine aopsD_go ?_ | refine aopsF_go ?_ | refine wpcall_pure rfl (kn) ?_); simp [hlt, hgt, b1, b2, b3, b4, b5, b6, hkl, c1, c2, c3, c4]; (try simp (disch := omega) only [wrap64]); (try (refine gen2 ?_ ?_ <;> intro hq <;> try simp [hlt, hgt, b1, b2, b3, b4, b5, b6, hkl, c1, c2, c3, c4] at hq))) | (refine T.ret (Done.tup (Or.inr rfl) ?_) <;> simp [resAs, Tryz.results50] <;> omega) | refine T.r0 fun K hK => ?_ | refine T.r1 fun K hK => ?_ | (refine ⟨by omega, ?_⟩) | refine T.ct rfl ?_ | refine T.cf rfl ?_ | refine T.seq ?_ | refine T.block ?_ | refine T.skip ?_ | refine T.exit ?_
 obtain ⟨y, hy⟩ := get_lt hkl
 have hky := at_drop hy
 have kw := l6Which_ok s k y hy hs
 refine ⟨cFail n (whichB y), ((k + 1 : Nat) : Int), ?_, .inr ⟨k + 1, rfl, hkl, by rw [hdr, rsCo, if_neg (by decide), if_neg (by decide), if_pos rfl, hn, hky]⟩⟩
 have hkl := (List.getElem?_eq_some_iff.1 hy).1
 have hgy : s[k] = y := by rw [List.getElem?_eq_getElem hkl] at hy; exact Option.some.inj hy
 have c1 : ¬ (s.length : Int) <= k := by omega
 have c2 : ¬ (k : Int) < 0 := by omega
 have c3 : (k : Int) < s.length := by omega
 have c4 : ¬ s.length <= k := by omega
 rw [cast1, cast1]
 generalize whichB y = t at *
 clear hx hdr hy hky hn
 refine ACalls.of_body Tryz.func50 (by kernel_rfl) rfl (by kernel_rfl) (by simp [Tryz.ntmps50]) (by simp) ?_
 rw [Tryz.ntmps50]
 repeat' first | ((first | refine aops_end (hK _ ?_) | refine aopsD_end (hK _ ?_) | refine aopsF_end (hK _ ?_)); clear hK K) | ((first | refine aops_go ?_ | refine aopsD_go ?_ | refine aopsF_go ?_ | refine wpcall_pure rfl (kn) ?_ | refine wpcall_pure rfl (kw) ?_); simp [hlt, hgt, b1, b2, b3, b4, b5, b6, hkl, hgy, c1, c2, c3, c4]; (try simp (disch := omega) only [wrap64]); (try (refine gen2 ?_ ?_ <;> intro hq <;> try simp [hlt, hgt, b1, b2, b3, b4, b5, b6, hkl, hgy, c1, c2, c3, c4] at hq))) | (refine T.ret (Done.tup (Or.inr rfl) ?_) <;> simp [resAs, Tryz.results50] <;> omega) | refine T.r0 fun K hK => ?_ | refine T.r1 fun K hK => ?_ | (refine ⟨by omega, ?_⟩) | refine T.ct rfl ?_ | refine T.cf rfl ?_ | refine T.seq ?_ | refine T.block ?_ | refine T.skip ?_ | refine T.exit ?_

theorem parse_two (s : List UInt8) (d a : Nat) (hs : s.length <= 1000000000) (hd : d <= 1000) (hx : s[a]? = some 40) (ih : ∀ a, a <= s.length -> PaR s d a) : PaR s (d + 1) a := by
 have hlt : a < s.length := (List.getElem?_eq_some_iff.1 hx).1
 have hgt : s[a] = 40 := by rw [List.getElem?_eq_getElem hlt] at hx; exact Option.some.inj hx
 have hdr := at_drop hx
 have b1 : ¬ (d : Int) + 1 < 1 := by omega
 have b2 : ¬ (s.length : Int) <= a := by omega
 have b3 : ¬ (a : Int) < 0 := by omega
 have b4 : (a : Int) < s.length := by omega
 have b5 : ¬ s.length <= a := by omega
 have b6 : ¬ (d + 1 < 1) := by omega
 obtain ⟨u, o1, k1, h1⟩ := ih (a + 1) (by omega)
 rw [cast1] at k1
 rcases h1 with ⟨h1, rfl⟩ | ⟨k, rfl, hk, h1⟩
 ·refine ⟨zeroCo, -1, ?_, .inl ⟨by rw [hdr, rsCo, if_neg (by decide), if_neg (by decide), if_neg (by decide), if_pos rfl, h1], rfl⟩⟩
  rw [cast1]
  clear ih hx hdr h1
  refine ACalls.of_body Tryz.func50 (by kernel_rfl) rfl (by kernel_rfl) (by simp [Tryz.ntmps50]) (by simp) ?_
  rw [Tryz.ntmps50]
  repeat' first | ((first | refine aops_end (hK _ ?_) | refine aopsD_end (hK _ ?_) | refine aopsF_end (hK _ ?_)); clear hK K) | ((first | refine aops_go ?_ | refine aopsD_go ?_ | refine aopsF_go ?_ | refine wpcall_pure rfl (k1) ?_); simp [hlt, hgt, b1, b2, b3, b4, b5, b6]; (try simp (disch := omega) only [wrap64]); (try (refine gen2 ?_ ?_ <;> intro hq <;> try simp [hlt, hgt, b1, b2, b3, b4, b5, b6] at hq))) | (refine T.ret (Done.tup (Or.inr rfl) ?_) <;> simp [resAs, Tryz.results50] <;> omega) | refine T.r0 fun K hK => ?_ | refine T.r1 fun K hK => ?_ | (refine ⟨by omega, ?_⟩) | refine T.ct rfl ?_ | refine T.cf rfl ?_ | refine T.seq ?_ | refine T.block ?_ | refine T.skip ?_ | refine T.exit ?_
 by_cases hkl : k < s.length
 rotate_left
 ·have hkn : s.drop k = [] := List.drop_eq_nil_of_le (by omega)
  have c1 : (s.length : Int) <= k := by omega
  have c2 : ¬ (k : Int) < 0 := by omega
  have c3 : ¬ (k : Int) < s.length := by omega
  have c4 : s.length <= k := by omega
  refine ⟨zeroCo, -1, ?_, .inl ⟨by rw [hdr, rsCo, if_neg (by decide), if_neg (by decide), if_neg (by decide), if_pos rfl, h1]; dsimp only; rw [hkn], rfl⟩⟩
  rw [cast1]
  clear ih hx hdr h1 hkn
  refine ACalls.of_body Tryz.func50 (by kernel_rfl) rfl (by kernel_rfl) (by simp [Tryz.ntmps50]) (by simp) ?_
  rw [Tryz.ntmps50]
  repeat' first | ((first | refine aops_end (hK _ ?_) | refine aopsD_end (hK _ ?_) | refine aopsF_end (hK _ ?_)); clear hK K) | ((first | refine aops_go ?_ | refine aopsD_go ?_ | refine aopsF_go ?_ | refine wpcall_pure rfl (k1) ?_); simp [hlt, hgt, b1, b2, b3, b4, b5, b6, hkl, c1, c2, c3, c4]; (try simp (disch := omega) only [wrap64]); (try (refine gen2 ?_ ?_ <;> intro hq <;> try simp [hlt, hgt, b1, b2, b3, b4, b5, b6, hkl, c1, c2, c3, c4] at hq))) | (refine T.ret (Done.tup (Or.inr rfl) ?_) <;> simp [resAs, Tryz.results50] <;> omega) | refine T.r0 fun K hK => ?_ | refine T.r1 fun K hK => ?_ | (refine ⟨by omega, ?_⟩) | refine T.ct rfl ?_ | refine T.cf rfl ?_ | refine T.seq ?_ | refine T.block ?_ | refine T.skip ?_ | refine T.exit ?_
 obtain ⟨y, hy⟩ := get_lt hkl
 have hky := at_drop hy
 by_cases hyy : y = 62 \/ y = 42
 rotate_left
 ·have y62 : ¬ y = 62 := fun e => hyy (.inl e)
  have y42 : ¬ y = 42 := fun e => hyy (.inr e)
  refine ⟨zeroCo, -1, ?_, .inl ⟨by rw [hdr, rsCo, if_neg (by decide), if_neg (by decide), if_neg (by decide), if_pos rfl, h1]; dsimp only; rw [hky]; simp only [if_neg hyy], rfl⟩⟩
  have hkl := (List.getElem?_eq_some_iff.1 hy).1
  have hgy : s[k] = y := by rw [List.getElem?_eq_getElem hkl] at hy; exact Option.some.inj hy
  have c1 : ¬ (s.length : Int) <= k := by omega
  have c2 : ¬ (k : Int) < 0 := by omega
  have c3 : (k : Int) < s.length := by omega
  have c4 : ¬ s.length <= k := by omega
  obtain ⟨y62n, y62i, y62b⟩ := ne_byte y62
  rw [show ((62 : UInt8).toNat : Int) = 62 from rfl] at y62i y62b
  rw [show (62 : UInt8).toNat = 62 from rfl] at y62n
  obtain ⟨y42n, y42i, y42b⟩ := ne_byte y42
  rw [show ((42 : UInt8).toNat : Int) = 42 from rfl] at y42i y42b
  rw [show (42 : UInt8).toNat = 42 from rfl] at y42n
  rw [cast1]
  clear ih hx hdr hy hky h1 hyy
  refine ACalls.of_body Tryz.func50 (by kernel_rfl) rfl (by kernel_rfl) (by simp [Tryz.ntmps50]) (by simp) ?_
  rw [Tryz.ntmps50]
  repeat' first | ((first | refine aops_end (hK _ ?_) | refine aopsD_end (hK _ ?_) | refine aopsF_end (hK _ ?_)); clear hK K) | ((first | refine aops_go ?_ | refine aopsD_go ?_ | refine aopsF_go ?_ | refine wpcall_pure rfl (k1) ?_); simp [hlt, hgt, b1, b2, b3, b4, b5, b6, hkl, hgy, c1, c2, c3, c4, y62, y62n, y62i, y62b, y42, y42n, y42i, y42b]; (try simp (disch := omega) only [wrap64]); (try (refine gen2 ?_ ?_ <;> intro hq <;> try simp [hlt, hgt, b1, b2, b3, b4, b5, b6, hkl, hgy, c1, c2, c3, c4, y62, y62n, y62i, y62b, y42, y42n, y42i, y42b] at hq))) | (refine T.ret (Done.tup (Or.inr rfl) ?_) <;> simp [resAs, Tryz.results50] <;> omega) | refine T.r0 fun K hK => ?_ | refine T.r1 fun K hK => ?_ | (refine ⟨by omega, ?_⟩) | refine T.ct rfl ?_ | refine T.cf rfl ?_ | refine T.seq ?_ | refine T.block ?_ | refine T.skip ?_ | refine T.exit ?_
 obtain ⟨v, o2, k2, h2⟩ := ih (k + 1) (by omega)
 rw [cast1] at k2
 have hr : rsCo (d + 1) (s.drop a) = match (rsCo d (s.drop (k + 1))).2 with
   | some (z :: r3) => if z = 41 then (cTwo (if y = 62 then 2 else 3) u v, some r3) else (zeroCo, none)
   | _ => (zeroCo, none) := by
  rw [hdr, rsCo, if_neg (by decide), if_neg (by decide), if_neg (by decide), if_pos rfl, h1]
  dsimp only
  rw [hky]
  simp only [if_pos hyy]
  have h2v : (rsCo d (s.drop (k + 1))).1 = v := by rcases h2 with ⟨h2, _⟩ | ⟨j, _, _, h2⟩ <;> rw [h2]
  rw [h2v]
  generalize (rsCo d (s.drop (k + 1))).2 = w
  cases w with
  | none => rfl
  | some l => cases l <;> rfl
 rw [PaR, hr]
 clear hr
 rcases hyy with rfl | rfl
 ·have hkl := (List.getElem?_eq_some_iff.1 hy).1
  have hgy : s[k] = 62 := by rw [List.getElem?_eq_getElem hkl] at hy; exact Option.some.inj hy
  have c1 : ¬ (s.length : Int) <= k := by omega
  have c2 : ¬ (k : Int) < 0 := by omega
  have c3 : (k : Int) < s.length := by omega
  have c4 : ¬ s.length <= k := by omega
  clear hx hdr hy hky h1 ih
  rcases h2 with ⟨h2, rfl⟩ | ⟨j, rfl, hj, h2⟩
  ·refine ⟨zeroCo, -1, ?_, .inl ⟨by rw [h2], rfl⟩⟩
   clear h2
   rw [cast1]
   refine ACalls.of_body Tryz.func50 (by kernel_rfl) rfl (by kernel_rfl) (by simp [Tryz.ntmps50]) (by simp) ?_
   rw [Tryz.ntmps50]
   repeat' first | ((first | refine aops_end (hK _ ?_) | refine aopsD_end (hK _ ?_) | refine aopsF_end (hK _ ?_)); clear hK K) | ((first | refine aops_go ?_ | refine aopsD_go ?_ | refine aopsF_go ?_ | refine wpcall_pure rfl (k1) ?_ | refine wpcall_pure rfl (k2) ?_); simp [hlt, hgt, b1, b2, b3, b4, b5, b6, hkl, hgy, c1, c2, c3, c4]; (try simp (disch := omega) only [wrap64]); (try (refine gen2 ?_ ?_ <;> intro hq <;> try simp [hlt, hgt, b1, b2, b3, b4, b5, b6, hkl, hgy, c1, c2, c3, c4] at hq))) | (refine T.ret (Done.tup (Or.inr rfl) ?_) <;> simp [resAs, Tryz.results50] <;> omega) | refine T.r0 fun K hK => ?_ | refine T.r1 fun K hK => ?_ | (refine ⟨by omega, ?_⟩) | refine T.ct rfl ?_ | refine T.cf rfl ?_ | refine T.seq ?_ | refine T.block ?_ | refine T.skip ?_ | refine T.exit ?_
  by_cases hjl : j < s.length
  rotate_left
  ·have hjn : s.drop j = [] := List.drop_eq_nil_of_le (by omega)
   have e1 : (s.length : Int) <= j := by omega
   have e2 : ¬ (j : Int) < 0 := by omega
   have e3 : ¬ (j : Int) < s.length := by omega
   have e4 : s.length <= j := by omega
   refine ⟨zeroCo, -1, ?_, .inl ⟨by rw [h2]; dsimp only; rw [hjn], rfl⟩⟩
   clear h2 hjn
   rw [cast1]
   refine ACalls.of_body Tryz.func50 (by kernel_rfl) rfl (by kernel_rfl) (by simp [Tryz.ntmps50]) (by simp) ?_
   rw [Tryz.ntmps50]
   repeat' first | ((first | refine aops_end (hK _ ?_) | refine aopsD_end (hK _ ?_) | refine aopsF_end (hK _ ?_)); clear hK K) | ((first | refine aops_go ?_ | refine aopsD_go ?_ | refine aopsF_go ?_ | refine wpcall_pure rfl (k1) ?_ | refine wpcall_pure rfl (k2) ?_); simp [hlt, hgt, b1, b2, b3, b4, b5, b6, hkl, hgy, c1, c2, c3, c4, hjl, e1, e2, e3, e4]; (try simp (disch := omega) only [wrap64]); (try (refine gen2 ?_ ?_ <;> intro hq <;> try simp [hlt, hgt, b1, b2, b3, b4, b5, b6, hkl, hgy, c1, c2, c3, c4, hjl, e1, e2, e3, e4] at hq))) | (refine T.ret (Done.tup (Or.inr rfl) ?_) <;> simp [resAs, Tryz.results50] <;> omega) | refine T.r0 fun K hK => ?_ | refine T.r1 fun K hK => ?_ | (refine ⟨by omega, ?_⟩) | refine T.ct rfl ?_ | refine T.cf rfl ?_ | refine T.seq ?_ | refine T.block ?_ | refine T.skip ?_ | refine T.exit ?_
  obtain ⟨z, hz⟩ := get_lt hjl
  have hjz := at_drop hz
  have hgz : s[j] = z := by rw [List.getElem?_eq_getElem hjl] at hz; exact Option.some.inj hz
  have e1 : ¬ (s.length : Int) <= j := by omega
  have e2 : ¬ (j : Int) < 0 := by omega
  have e3 : (j : Int) < s.length := by omega
  have e4 : ¬ s.length <= j := by omega
  by_cases z41 : z = 41
  ·subst z41
   refine ⟨cTwo 2 u v, ((j + 1 : Nat) : Int), ?_, .inr ⟨j + 1, rfl, hjl, by rw [h2]; dsimp only; rw [hjz]; simp⟩⟩
   clear h2 hjz hz
   rw [cast1, cast1]
   refine ACalls.of_body Tryz.func50 (by kernel_rfl) rfl (by kernel_rfl) (by simp [Tryz.ntmps50]) (by simp) ?_
   rw [Tryz.ntmps50]
   repeat' first | ((first | refine aops_end (hK _ ?_) | refine aopsD_end (hK _ ?_) | refine aopsF_end (hK _ ?_)); clear hK K) | ((first | refine aops_go ?_ | refine aopsD_go ?_ | refine aopsF_go ?_ | refine wpcall_pure rfl (k1) ?_ | refine wpcall_pure rfl (k2) ?_); simp [hlt, hgt, b1, b2, b3, b4, b5, b6, hkl, hgy, c1, c2, c3, c4, hjl, hgz, e1, e2, e3, e4]; (try simp (disch := omega) only [wrap64]); (try (refine gen2 ?_ ?_ <;> intro hq <;> try simp [hlt, hgt, b1, b2, b3, b4, b5, b6, hkl, hgy, c1, c2, c3, c4, hjl, hgz, e1, e2, e3, e4] at hq))) | (refine T.ret (Done.tup (Or.inr rfl) ?_) <;> simp [resAs, Tryz.results50] <;> omega) | refine T.r0 fun K hK => ?_ | refine T.r1 fun K hK => ?_ | (refine ⟨by omega, ?_⟩) | refine T.ct rfl ?_ | refine T.cf rfl ?_ | refine T.seq ?_ | refine T.block ?_ | refine T.skip ?_ | refine T.exit ?_
  ·refine ⟨zeroCo, -1, ?_, .inl ⟨by rw [h2]; dsimp only; rw [hjz]; simp only [if_neg z41], rfl⟩⟩
   clear h2 hjz hz
   obtain ⟨z41n, z41i, z41b⟩ := ne_byte z41
   rw [show ((41 : UInt8).toNat : Int) = 41 from rfl] at z41i z41b
   rw [show (41 : UInt8).toNat = 41 from rfl] at z41n
   rw [cast1]
   refine ACalls.of_body Tryz.func50 (by kernel_rfl) rfl (by kernel_rfl) (by simp [Tryz.ntmps50]) (by simp) ?_
   rw [Tryz.ntmps50]
   repeat' first | ((first | refine aops_end (hK _ ?_) | refine aopsD_end (hK _ ?_) | refine aopsF_end (hK _ ?_)); clear hK K) | ((first | refine aops_go ?_ | refine aopsD_go ?_ | refine aopsF_go ?_ | refine wpcall_pure rfl (k1) ?_ | refine wpcall_pure rfl (k2) ?_); simp [hlt, hgt, b1, b2, b3, b4, b5, b6, hkl, hgy, c1, c2, c3, c4, hjl, hgz, e1, e2, e3, e4, z41, z41n, z41i, z41b]; (try simp (disch := omega) only [wrap64]); (try (refine gen2 ?_ ?_ <;> intro hq <;> try simp [hlt, hgt, b1, b2, b3, b4, b5, b6, hkl, hgy, c1, c2, c3, c4, hjl, hgz, e1, e2, e3, e4, z41, z41n, z41i, z41b] at hq))) | (refine T.ret (Done.tup (Or.inr rfl) ?_) <;> simp [resAs, Tryz.results50] <;> omega) | refine T.r0 fun K hK => ?_ | refine T.r1 fun K hK => ?_ | (refine ⟨by omega, ?_⟩) | refine T.ct rfl ?_ | refine T.cf rfl ?_ | refine T.seq ?_ | refine T.block ?_ | refine T.skip ?_ | refine T.exit ?_
 ·have hkl := (List.getElem?_eq_some_iff.1 hy).1
  have hgy : s[k] = 42 := by rw [List.getElem?_eq_getElem hkl] at hy; exact Option.some.inj hy
  have c1 : ¬ (s.length : Int) <= k := by omega
  have c2 : ¬ (k : Int) < 0 := by omega
  have c3 : (k : Int) < s.length := by omega
  have c4 : ¬ s.length <= k := by omega
  clear hx hdr hy hky h1 ih
  rcases h2 with ⟨h2, rfl⟩ | ⟨j, rfl, hj, h2⟩
  ·refine ⟨zeroCo, -1, ?_, .inl ⟨by rw [h2], rfl⟩⟩
   clear h2
   rw [cast1]
   refine ACalls.of_body Tryz.func50 (by kernel_rfl) rfl (by kernel_rfl) (by simp [Tryz.ntmps50]) (by simp) ?_
   rw [Tryz.ntmps50]
   repeat' first | ((first | refine aops_end (hK _ ?_) | refine aopsD_end (hK _ ?_) | refine aopsF_end (hK _ ?_)); clear hK K) | ((first | refine aops_go ?_ | refine aopsD_go ?_ | refine aopsF_go ?_ | refine wpcall_pure rfl (k1) ?_ | refine wpcall_pure rfl (k2) ?_); simp [hlt, hgt, b1, b2, b3, b4, b5, b6, hkl, hgy, c1, c2, c3, c4]; (try simp (disch := omega) only [wrap64]); (try (refine gen2 ?_ ?_ <;> intro hq <;> try simp [hlt, hgt, b1, b2, b3, b4, b5, b6, hkl, hgy, c1, c2, c3, c4] at hq))) | (refine T.ret (Done.tup (Or.inr rfl) ?_) <;> simp [resAs, Tryz.results50] <;> omega) | refine T.r0 fun K hK => ?_ | refine T.r1 fun K hK => ?_ | (refine ⟨by omega, ?_⟩) | refine T.ct rfl ?_ | refine T.cf rfl ?_ | refine T.seq ?_ | refine T.block ?_ | refine T.skip ?_ | refine T.exit ?_
  by_cases hjl : j < s.length
  rotate_left
  ·have hjn : s.drop j = [] := List.drop_eq_nil_of_le (by omega)
   have e1 : (s.length : Int) <= j := by omega
   have e2 : ¬ (j : Int) < 0 := by omega
   have e3 : ¬ (j : Int) < s.length := by omega
   have e4 : s.length <= j := by omega
   refine ⟨zeroCo, -1, ?_, .inl ⟨by rw [h2]; dsimp only; rw [hjn], rfl⟩⟩
   clear h2 hjn
   rw [cast1]
   refine ACalls.of_body Tryz.func50 (by kernel_rfl) rfl (by kernel_rfl) (by simp [Tryz.ntmps50]) (by simp) ?_
   rw [Tryz.ntmps50]
   repeat' first | ((first | refine aops_end (hK _ ?_) | refine aopsD_end (hK _ ?_) | refine aopsF_end (hK _ ?_)); clear hK K) | ((first | refine aops_go ?_ | refine aopsD_go ?_ | refine aopsF_go ?_ | refine wpcall_pure rfl (k1) ?_ | refine wpcall_pure rfl (k2) ?_); simp [hlt, hgt, b1, b2, b3, b4, b5, b6, hkl, hgy, c1, c2, c3, c4, hjl, e1, e2, e3, e4]; (try simp (disch := omega) only [wrap64]); (try (refine gen2 ?_ ?_ <;> intro hq <;> try simp [hlt, hgt, b1, b2, b3, b4, b5, b6, hkl, hgy, c1, c2, c3, c4, hjl, e1, e2, e3, e4] at hq))) | (refine T.ret (Done.tup (Or.inr rfl) ?_) <;> simp [resAs, Tryz.results50] <;> omega) | refine T.r0 fun K hK => ?_ | refine T.r1 fun K hK => ?_ | (refine ⟨by omega, ?_⟩) | refine T.ct rfl ?_ | refine T.cf rfl ?_ | refine T.seq ?_ | refine T.block ?_ | refine T.skip ?_ | refine T.exit ?_
  obtain ⟨z, hz⟩ := get_lt hjl
  have hjz := at_drop hz
  have hgz : s[j] = z := by rw [List.getElem?_eq_getElem hjl] at hz; exact Option.some.inj hz
  have e1 : ¬ (s.length : Int) <= j := by omega
  have e2 : ¬ (j : Int) < 0 := by omega
  have e3 : (j : Int) < s.length := by omega
  have e4 : ¬ s.length <= j := by omega
  by_cases z41 : z = 41
  ·subst z41
   refine ⟨cTwo 3 u v, ((j + 1 : Nat) : Int), ?_, .inr ⟨j + 1, rfl, hjl, by rw [h2]; dsimp only; rw [hjz]; simp⟩⟩
   clear h2 hjz hz
   rw [cast1, cast1]
   refine ACalls.of_body Tryz.func50 (by kernel_rfl) rfl (by kernel_rfl) (by simp [Tryz.ntmps50]) (by simp) ?_
   rw [Tryz.ntmps50]
   repeat' first | ((first | refine aops_end (hK _ ?_) | refine aopsD_end (hK _ ?_) | refine aopsF_end (hK _ ?_)); clear hK K) | ((first | refine aops_go ?_ | refine aopsD_go ?_ | refine aopsF_go ?_ | refine wpcall_pure rfl (k1) ?_ | refine wpcall_pure rfl (k2) ?_); simp [hlt, hgt, b1, b2, b3, b4, b5, b6, hkl, hgy, c1, c2, c3, c4, hjl, hgz, e1, e2, e3, e4]; (try simp (disch := omega) only [wrap64]); (try (refine gen2 ?_ ?_ <;> intro hq <;> try simp [hlt, hgt, b1, b2, b3, b4, b5, b6, hkl, hgy, c1, c2, c3, c4, hjl, hgz, e1, e2, e3, e4] at hq))) | (refine T.ret (Done.tup (Or.inr rfl) ?_) <;> simp [resAs, Tryz.results50] <;> omega) | refine T.r0 fun K hK => ?_ | refine T.r1 fun K hK => ?_ | (refine ⟨by omega, ?_⟩) | refine T.ct rfl ?_ | refine T.cf rfl ?_ | refine T.seq ?_ | refine T.block ?_ | refine T.skip ?_ | refine T.exit ?_
  ·refine ⟨zeroCo, -1, ?_, .inl ⟨by rw [h2]; dsimp only; rw [hjz]; simp only [if_neg z41], rfl⟩⟩
   clear h2 hjz hz
   obtain ⟨z41n, z41i, z41b⟩ := ne_byte z41
   rw [show ((41 : UInt8).toNat : Int) = 41 from rfl] at z41i z41b
   rw [show (41 : UInt8).toNat = 41 from rfl] at z41n
   rw [cast1]
   refine ACalls.of_body Tryz.func50 (by kernel_rfl) rfl (by kernel_rfl) (by simp [Tryz.ntmps50]) (by simp) ?_
   rw [Tryz.ntmps50]
   repeat' first | ((first | refine aops_end (hK _ ?_) | refine aopsD_end (hK _ ?_) | refine aopsF_end (hK _ ?_)); clear hK K) | ((first | refine aops_go ?_ | refine aopsD_go ?_ | refine aopsF_go ?_ | refine wpcall_pure rfl (k1) ?_ | refine wpcall_pure rfl (k2) ?_); simp [hlt, hgt, b1, b2, b3, b4, b5, b6, hkl, hgy, c1, c2, c3, c4, hjl, hgz, e1, e2, e3, e4, z41, z41n, z41i, z41b]; (try simp (disch := omega) only [wrap64]); (try (refine gen2 ?_ ?_ <;> intro hq <;> try simp [hlt, hgt, b1, b2, b3, b4, b5, b6, hkl, hgy, c1, c2, c3, c4, hjl, hgz, e1, e2, e3, e4, z41, z41n, z41i, z41b] at hq))) | (refine T.ret (Done.tup (Or.inr rfl) ?_) <;> simp [resAs, Tryz.results50] <;> omega) | refine T.r0 fun K hK => ?_ | refine T.r1 fun K hK => ?_ | (refine ⟨by omega, ?_⟩) | refine T.ct rfl ?_ | refine T.cf rfl ?_ | refine T.seq ?_ | refine T.block ?_ | refine T.skip ?_ | refine T.exit ?_

theorem parse_id (s : List UInt8) (d a : Nat) (hs : s.length <= 1000000000) (hd : d <= 1000) (x : UInt8) (hx : s[a]? = some x) (x33 : ¬ x = 33) (x35 : ¬ x = 35) (x88 : ¬ x = 88) (x40 : ¬ x = 40) : PaR s (d + 1) a := by
 have hlt : a < s.length := (List.getElem?_eq_some_iff.1 hx).1
 have hgt : s[a] = x := by rw [List.getElem?_eq_getElem hlt] at hx; exact Option.some.inj hx
 have hdr := at_drop hx
 have b1 : ¬ (d : Int) + 1 < 1 := by omega
 have b2 : ¬ (s.length : Int) <= a := by omega
 have b3 : ¬ (a : Int) < 0 := by omega
 have b4 : (a : Int) < s.length := by omega
 have b5 : ¬ s.length <= a := by omega
 have b6 : ¬ (d + 1 < 1) := by omega
 have kw := l6Which_ok s a x hx hs
 refine ⟨cId (whichB x), ((a + 1 : Nat) : Int), ?_, .inr ⟨a + 1, rfl, hlt, by rw [hdr, rsCo, if_neg x33, if_neg x35, if_neg x88, if_neg x40]⟩⟩
 obtain ⟨x33n, x33i, x33b⟩ := ne_byte x33
 rw [show ((33 : UInt8).toNat : Int) = 33 from rfl] at x33i x33b
 rw [show (33 : UInt8).toNat = 33 from rfl] at x33n
 obtain ⟨x35n, x35i, x35b⟩ := ne_byte x35
 rw [show ((35 : UInt8).toNat : Int) = 35 from rfl] at x35i x35b
 rw [show (35 : UInt8).toNat = 35 from rfl] at x35n
 obtain ⟨x88n, x88i, x88b⟩ := ne_byte x88
 rw [show ((88 : UInt8).toNat : Int) = 88 from rfl] at x88i x88b
 rw [show (88 : UInt8).toNat = 88 from rfl] at x88n
 obtain ⟨x40n, x40i, x40b⟩ := ne_byte x40
 rw [show ((40 : UInt8).toNat : Int) = 40 from rfl] at x40i x40b
 rw [show (40 : UInt8).toNat = 40 from rfl] at x40n
 rw [cast1, cast1]
 generalize whichB x = t at *
 clear hx hdr
 refine ACalls.of_body Tryz.func50 (by kernel_rfl) rfl (by kernel_rfl) (by simp [Tryz.ntmps50]) (by simp) ?_
 rw [Tryz.ntmps50]
 repeat' first | ((first | refine aops_end (hK _ ?_) | refine aopsD_end (hK _ ?_) | refine aopsF_end (hK _ ?_)); clear hK K) | ((first | refine aops_go ?_ | refine aopsD_go ?_ | refine aopsF_go ?_ | refine wpcall_pure rfl (kw) ?_); simp [hlt, hgt, b1, b2, b3, b4, b5, b6, x33, x33n, x33i, x33b, x35, x35n, x35i, x35b, x88, x88n, x88i, x88b, x40, x40n, x40i, x40b]; (try simp (disch := omega) only [wrap64]); (try (refine gen2 ?_ ?_ <;> intro hq <;> try simp [hlt, hgt, b1, b2, b3, b4, b5, b6, x33, x33n, x33i, x33b, x35, x35n, x35i, x35b, x88, x88n, x88i, x88b, x40, x40n, x40i, x40b] at hq))) | (refine T.ret (Done.tup (Or.inr rfl) ?_) <;> simp [resAs, Tryz.results50] <;> omega) | refine T.r0 fun K hK => ?_ | refine T.r1 fun K hK => ?_ | (refine ⟨by omega, ?_⟩) | refine T.ct rfl ?_ | refine T.cf rfl ?_ | refine T.seq ?_ | refine T.block ?_ | refine T.skip ?_ | refine T.exit ?_

theorem l6Parse_ok (s : List UInt8) (hs : s.length <= 1000000000) : ∀ (d : Nat), d <= 1000 -> ∀ a, a <= s.length -> PaR s d a := by
 intro d
 induction d with
 | zero => exact fun hd a ha => parse_none s 0 a hs hd ha (.inl rfl)
 | succ d ih =>
  intro hd a ha
  replace ih := ih (by omega)
  by_cases hlt : a < s.length
  ·obtain ⟨x, hx⟩ := get_lt hlt
   by_cases x33 : x = 33
   ·subst x33; exact parse_inj s d a hs (by omega) hx ih
   by_cases x35 : x = 35
   ·subst x35; exact parse_proj s d a hs (by omega) hx ih
   by_cases x88 : x = 88
   ·subst x88; exact parse_fail s d a hs (by omega) hx
   by_cases x40 : x = 40
   ·subst x40; exact parse_two s d a hs (by omega) hx ih
   ·exact parse_id s d a hs (by omega) x hx x33 x35 x88 x40
  ·exact parse_none s (d + 1) a hs (by omega) ha (.inr (by omega))

theorem ParseCoercionS_ok (s : List UInt8) (hs : s.length <= 1000000000) : ACalls Tryz.prog 22 [.s s] [] (.tup [aCo ((parseCoI s).getD zeroCo), .b (parseCoI s).isSome]) [] [] := by
 rw [<- parseCoS_eq, parseCoS]
 obtain ⟨c, o, k1, h⟩ := l6Parse_ok s hs 9 (by omega) 0 (by omega)
 have hn := rs_size 9 s
 rw [List.drop_zero] at h
 rw [show ((0 : Nat) : Int) = 0 from rfl, show ((9 : Nat) : Int) = 9 from rfl] at k1
 have hc : (rsCo 9 s).1 = c := by rcases h with ⟨h, _⟩ | ⟨k, _, _, h⟩ <;> rw [h]
 rw [hc] at hn ⊢
 have hc2 : (rsCo 9 s).2 = some [] ↔ o = s.length := by
  rcases h with ⟨h, rfl⟩ | ⟨k, rfl, hk, h⟩
  ·rw [h]; constructor
   ·intro e; cases e
   ·intro e; omega
  ·rw [h]; simp only [Option.some.injEq, List.drop_eq_nil_iff]; omega
 clear h hc
 have kf := FormatCoercionS_ok c (Nat.le_trans (Nat.le_trans (Nat.le_add_right _ 2) hn) (by decide))
 by_cases h0 : s = []
 ·rw [if_pos (.inl h0)]
  subst h0
  simp only [Option.getD_none, Option.isSome_none]
  refine ACalls.of_body Tryz.func22 (by kernel_rfl) rfl (by kernel_rfl) (by simp [Tryz.ntmps22]) (by simp) ?_
  rw [Tryz.ntmps22]
  repeat' first | ((first | refine aops_end (hK _ ?_) | refine aopsD_end (hK _ ?_) | refine aopsF_end (hK _ ?_)); clear hK K) | ((first | refine aops_go ?_ | refine aopsD_go ?_ | refine aopsF_go ?_ | refine wpcall_pure rfl (k1) ?_); simp; (try simp (disch := omega) only [wrap64]); (try (refine gen2 ?_ ?_ <;> intro hq <;> try simp at hq))) | (refine T.ret (Done.tup (Or.inr rfl) ?_) <;> simp [resAs, Tryz.results22] <;> omega) | refine T.r0 fun K hK => ?_ | refine T.r1 fun K hK => ?_ | (refine ⟨by omega, ?_⟩) | refine T.ct rfl ?_ | refine T.cf rfl ?_ | refine T.seq ?_ | refine T.block ?_ | refine T.skip ?_ | refine T.exit ?_
 by_cases ho : o = s.length
 ·have hz := hc2.2 ho
  subst ho
  by_cases hf : formatCoM c = s
  ·rw [if_neg (by simp [h0, hf, hz])]
   rw [hf] at kf
   simp only [Option.getD_some, Option.isSome_some]
   refine ACalls.of_body Tryz.func22 (by kernel_rfl) rfl (by kernel_rfl) (by simp [Tryz.ntmps22]) (by simp) ?_
   rw [Tryz.ntmps22]
   repeat' first | ((first | refine aops_end (hK _ ?_) | refine aopsD_end (hK _ ?_) | refine aopsF_end (hK _ ?_)); clear hK K) | ((first | refine aops_go ?_ | refine aopsD_go ?_ | refine aopsF_go ?_ | refine wpcall_pure rfl (k1) ?_ | (refine wpcall_pure ?_ (kf) ?_; (focus (solve | simp [h0])))); simp [h0]; (try simp (disch := omega) only [wrap64]); (try (refine gen2 ?_ ?_ <;> intro hq <;> try simp [h0] at hq))) | (refine T.ret (Done.tup (Or.inr rfl) ?_) <;> simp [resAs, Tryz.results22] <;> omega) | refine T.r0 fun K hK => ?_ | refine T.r1 fun K hK => ?_ | (refine ⟨by omega, ?_⟩) | refine T.ct rfl ?_ | refine T.cf rfl ?_ | refine T.seq ?_ | refine T.block ?_ | refine T.skip ?_ | refine T.exit ?_
  ·rw [if_pos (.inr (.inr hf))]
   generalize formatCoM c = tx at *
   simp only [Option.getD_none, Option.isSome_none]
   refine ACalls.of_body Tryz.func22 (by kernel_rfl) rfl (by kernel_rfl) (by simp [Tryz.ntmps22]) (by simp) ?_
   rw [Tryz.ntmps22]
   repeat' first | ((first | refine aops_end (hK _ ?_) | refine aopsD_end (hK _ ?_) | refine aopsF_end (hK _ ?_)); clear hK K) | ((first | refine aops_go ?_ | refine aopsD_go ?_ | refine aopsF_go ?_ | refine wpcall_pure rfl (k1) ?_ | (refine wpcall_pure ?_ (kf) ?_; (focus (solve | simp [h0, hf])))); simp [h0, hf]; (try simp (disch := omega) only [wrap64]); (try (refine gen2 ?_ ?_ <;> intro hq <;> try simp [h0, hf] at hq))) | (refine T.ret (Done.tup (Or.inr rfl) ?_) <;> simp [resAs, Tryz.results22] <;> omega) | refine T.r0 fun K hK => ?_ | refine T.r1 fun K hK => ?_ | (refine ⟨by omega, ?_⟩) | refine T.ct rfl ?_ | refine T.cf rfl ?_ | refine T.seq ?_ | refine T.block ?_ | refine T.skip ?_ | refine T.exit ?_
 ·rw [if_pos (.inr (.inl fun e => ho (hc2.1 e)))]
  simp only [Option.getD_none, Option.isSome_none]
  refine ACalls.of_body Tryz.func22 (by kernel_rfl) rfl (by kernel_rfl) (by simp [Tryz.ntmps22]) (by simp) ?_
  rw [Tryz.ntmps22]
  repeat' first | ((first | refine aops_end (hK _ ?_) | refine aopsD_end (hK _ ?_) | refine aopsF_end (hK _ ?_)); clear hK K) | ((first | refine aops_go ?_ | refine aopsD_go ?_ | refine aopsF_go ?_ | refine wpcall_pure rfl (k1) ?_); simp [h0, ho]; (try simp (disch := omega) only [wrap64]); (try (refine gen2 ?_ ?_ <;> intro hq <;> try simp [h0, ho] at hq))) | (refine T.ret (Done.tup (Or.inr rfl) ?_) <;> simp [resAs, Tryz.results22] <;> omega) | refine T.r0 fun K hK => ?_ | refine T.r1 fun K hK => ?_ | (refine ⟨by omega, ?_⟩) | refine T.ct rfl ?_ | refine T.cf rfl ?_ | refine T.seq ?_ | refine T.block ?_ | refine T.skip ?_ | refine T.exit ?_
end Go.Proofs.YtcgmmknfpfdghaaGreatDoor
