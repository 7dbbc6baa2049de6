/- A part of the library of this seat: a value-semantic program logic over the model, plain models, and walks of functions. -/
import Derived.Test.YtdcahkkclldhmaaGreatK6
set_option linter.unusedVariables false
set_option linter.unusedSimpArgs false
namespace Go.Proofs.YtdcahkkclldhmaaGreat
attribute [-simp] Go.Av.take_app_len Go.Av.innVs Go.Av.putBack Go.Av.objCells Go.Av.back Go.Av.resVs Go.Av.one Go.Av.freeStepG Go.Av.exA
open Go Go.Av
attribute [local irreducible] T ACalls TX EX LX Draws Some_ ACallsX eTy eTm MTy.kind MTy.kids MTm.kind MTm.name MTm.num MTm.ty MTm.fr MTm.label MTm.kids
attribute [local simp] eTy_def eTm_def
set_option maxHeartbeats 1000000

@[simp] theorem td_rd : td Tryz.prog 89 = some { ag := true, sz := 2, by_ := 32, zero := some [.nil, .d (.int .i64 0)], el := none, ar := none, fl := [(0, 1), (1, 1)], ik := none, isS := false, isB := false } := keep (by kernel_rfl)
@[simp] theorem td_u8 : td Tryz.prog 5 = some { ag := false, sz := 1, by_ := 1, zero := some [.d (.int .u8 0)], el := none, ar := none, fl := [], ik := some .u8, isS := false, isB := false } := keep (by kernel_rfl)
@[simp] theorem td_u8S : td Tryz.prog 22 = some { ag := false, sz := 1, by_ := 24, zero := some [.nil], el := some 5, ar := none, fl := [], ik := none, isS := false, isB := false } := keep (by kernel_rfl)
@[simp] theorem td_strS : td Tryz.prog 93 = some { ag := false, sz := 1, by_ := 24, zero := some [.nil], el := some 9, ar := none, fl := [], ik := none, isS := false, isB := false } := keep (by kernel_rfl)

/-- What pick answers, as_ a contract. -/
theorem pick_at (b : List Int) (hb : okB b) (p : Nat) (hp : p ≤ 1099511627776) (n : Int) (hn : n ≤ 1099511627776) :
    ∃ r : Nat, (r = 0 ∨ (r : Int) < n) ∧ ACalls Tryz.prog 47 [.c (.ptr 0 0), .i n] (dV [rd b p]) (.i r) (dV [rd b (p + 1)]) [] := by
  by_cases hn1 : n < 1
  · refine ⟨0, .inl rfl, ?_⟩
    refine ACalls.of_body Tryz.func47 (by kernel_rfl) rfl (by kernel_rfl) (by simp [Tryz.ntmps47]) (by simp) ?_
    rw [Tryz.ntmps47]
    repeat' first | (refine aops_end (hK _ ?_); clear hK K) | (refine aops_go ?_; simp [hn1]; (try simp (disch := omega) only [wrap64]); (try (refine gen fun q hq => ?_; cases q <;> (try simp [hn1] at hq) <;> (try (have hh : True := hq; clear hh hq))))) | (refine T.ret (Done.obj1 (Or.inr rfl) ?_ ?_ ?_) <;> simp [Tryz.results47] <;> omega) | refine T.r0 fun K hK => ?_ | refine T.ct rfl ?_ | refine T.seq ?_
  by_cases hb0 : b = []
  · refine ⟨0, .inl rfl, ?_⟩
    subst hb0
    refine ACalls.of_body Tryz.func47 (by kernel_rfl) rfl (by kernel_rfl) (by simp [Tryz.ntmps47]) (by simp) ?_
    rw [Tryz.ntmps47]
    repeat' first | (refine aops_end (hK _ ?_); clear hK K) | (refine aops_go ?_; simp [hn1, rB]; (try simp (disch := omega) only [wrap64]); (try (refine gen fun q hq => ?_; cases q <;> (try simp [hn1, rB] at hq) <;> (try (have hh : True := hq; clear hh hq))))) | (refine T.ret (Done.obj1 (Or.inr rfl) ?_ ?_ ?_) <;> simp [Tryz.results47, rB] <;> omega) | refine T.r0 fun K hK => ?_ | refine T.ct rfl ?_ | refine T.seq ?_
  have hbl : 0 < b.length := List.length_pos_iff.2 hb0
  have hbl0 : ¬ (b.length : Int) = 0 := by omega
  have hn0 : ¬ n = 0 := by omega
  have hp1 : ((p : Int) + 1 - 1) = p := by omega
  by_cases hpl : p < b.length
  · have hbp := hb.1 b[p] (List.getElem_mem hpl)
    obtain ⟨h1, h2⟩ := tmod_lt (n := n) hbp.1 (by omega)
    obtain ⟨r, hr⟩ := Int.eq_ofNat_of_zero_le h1
    refine ⟨r, .inr (by omega), ?_⟩
    have hx := rB_at hpl
    refine ACalls.of_body Tryz.func47 (by kernel_rfl) rfl (by kernel_rfl) (by simp [Tryz.ntmps47]) (by simp) ?_
    rw [Tryz.ntmps47]
    repeat' first | (refine aops_end (hK _ ?_); clear hK K) | (refine aops_go ?_; simp [hn1, hb0, hbl0, hn0, hp1, hpl, rB_get, rB_len, hr]; (try simp (disch := omega) only [wrap64]); (try (refine gen fun q hq => ?_; cases q <;> (try simp [hn1, hb0, hbl0, hn0, hp1, hpl, rB_get, rB_len, hr] at hq) <;> (try (have hh : True := hq; clear hh hq))))) | (refine T.ret (Done.obj1 (Or.inr rfl) ?_ ?_ ?_) <;> simp [Tryz.results47] <;> omega) | refine T.r0 fun K hK => ?_ | refine T.ct rfl ?_ | refine T.cf rfl ?_ | refine T.seq ?_ | refine T.skip ?_
  · have hm1 : p % b.length < b.length := Nat.mod_lt _ hbl
    have hm2 : (p * 7 + 3) % b.length < b.length := Nat.mod_lt _ hbl
    have e1 : (p : Int).tmod b.length = ((p % b.length : Nat) : Int) := by rw [Int.tmod_eq_emod_of_nonneg (by omega)]; simp
    have e2 : ((p : Int) * 7 + 3).tmod b.length = (((p * 7 + 3) % b.length : Nat) : Int) := by rw [Int.tmod_eq_emod_of_nonneg (by omega)]; simp
    have hb1 := hb.1 _ (List.getElem_mem hm1)
    have hb2 := hb.1 _ (List.getElem_mem hm2)
    generalize p % b.length = i1 at *
    generalize (p * 7 + 3) % b.length = i2 at *
    obtain ⟨hd1, hd2⟩ := tdiv_le (a := (p : Int)) (n := b.length) (by omega) (by omega)
    generalize hD : (p : Int).tdiv b.length = D at hd1 hd2
    generalize hC1 : b[i1] = c1 at hb1
    generalize hC2 : b[i2] = c2 at hb2
    obtain ⟨X, hX⟩ : ∃ X, X = c1 * 131 + c2 * 1117 + (p : Int) * 29 + D * 53 := ⟨_, rfl⟩
    have hX0 : 0 ≤ X ∧ X ≤ 1152921504606846976 := by omega
    obtain ⟨hy1, hy2⟩ := tdiv_le (a := X) (n := 64) (by omega) (by omega)
    obtain ⟨hz1, hz2⟩ := xor_bound (x := X) (y := X.tdiv 64) hX0.1 (by omega) hy1 (by omega)
    generalize hZ : bitI .xor .i64 X (X.tdiv 64) = Z at hz1 hz2
    obtain ⟨h1, h2⟩ := tmod_lt (n := n) hz1 (by omega)
    obtain ⟨r, hr⟩ := Int.eq_ofNat_of_zero_le h1
    refine ⟨r, .inr (by omega), ?_⟩
    refine ACalls.of_body Tryz.func47 (by kernel_rfl) rfl (by kernel_rfl) (by simp [Tryz.ntmps47]) (by simp) ?_
    rw [Tryz.ntmps47]
    repeat' first | ((first | refine aops_end (hK _ ?_) | refine aopsD_end (hK _ ?_)); clear hK K) | ((first | refine aops_go ?_ | refine aopsD_go ?_); simp [hn1, hb0, hbl0, hn0, hp1, hpl, e1, e2, rB_get, rB_len, hm1, hm2, hC1, hC2, hD, ← hX, hZ, hr]; (try simp (disch := omega) only [wrap64]); (try (refine gen fun q hq => ?_; cases q <;> (try simp [hn1, hb0, hbl0, hn0, hp1, hpl, e1, e2, rB_get, rB_len, hm1, hm2, hC1, hC2, hD, ← hX, hZ, hr] at hq) <;> (try (have hh : True := hq; clear hh hq))))) | (refine T.ret (Done.obj1 (Or.inr rfl) ?_ ?_ ?_) <;> simp [Tryz.results47] <;> omega) | refine T.rd (id := 7) mixed (fun _ => false) [] (by kernel_rfl) fun K hK => ?_ | refine T.r0 fun K hK => ?_ | refine T.cf rfl ?_ | refine T.seq ?_ | refine T.skip ?_




abbrev ints (l : List Int) : List (List DV) := l.map fun n => [.i n]
abbrev strs (l : List (List UInt8)) : List (List DV) := l.map fun s => [.str s]

theorem pick_ok (b : List Int) (hb : okB b) (p : Nat) (hp : p ≤ 1099511627776) (n : Int) (hn : n ≤ 1099511627776) :
    Draws Tryz.prog 47 [.i n] b p 1 (RV (fun r : Nat => .i r) noA fun r => r = 0 ∨ (r : Int) < n) := by
  obtain ⟨r, hr, hc⟩ := pick_at b hb p hp n hn
  exact Draws.mk (p' := p + 1) r hr (by omega) (by omega) hc

theorem num_ok (b : List Int) (hb : okB b) (p : Nat) (hp : p ≤ 1099511627776) (l : List Int) (hl : l ≠ []) (hll : l.length ≤ 1000) :
    Draws Tryz.prog 79 [.l (ints l)] b p 1 (RV (fun x : Int => .i x) noA fun x => x ∈ l) := by
  obtain ⟨r, hr, hc⟩ := pick_at b hb p hp l.length (by omega)
  have hlp : 0 < l.length := List.length_pos_iff.2 hl
  have hrl : r < l.length := by rcases hr with h | h <;> omega
  obtain ⟨x, hx⟩ := get_lt hrl
  have hgx : l[r] = x := by rw [List.getElem?_eq_getElem hrl] at hx; exact Option.some.inj hx
  refine Draws.mk (p' := p + 1) x (List.mem_of_getElem? hx) (by omega) (by omega) ?_
  refine ACalls.of_body Tryz.func79 (by kernel_rfl) rfl (by kernel_rfl) (by simp [Tryz.ntmps79]) (by simp) ?_
  rw [Tryz.ntmps79]
  repeat' first | (refine aops_end (hK _ ?_); clear hK K) | (refine aops_go ?_; simp [hrl, hgx]; (try (refine gen fun q hq => ?_; cases q <;> (try simp [hrl, hgx] at hq) <;> (try (have hh : True := hq; clear hh hq))))) | (refine wpcall_upd1 0 (rd b p) (rd b (p + 1)) rfl (by simp) hc ?_; simp [hrl, hgx]) | (refine T.ret (Done.obj1 (Or.inr rfl) ?_ ?_ ?_) <;> simp [Tryz.results79] <;> omega) | refine T.r0 fun K hK => ?_

theorem of_ok (b : List Int) (hb : okB b) (p : Nat) (hp : p ≤ 1099511627776) (l : List (List UInt8)) (hl : l ≠ []) (hll : l.length ≤ 1000) :
    Draws Tryz.prog 80 [.l (strs l)] b p 1 (RV (fun x : List UInt8 => .s x) noA fun x => x ∈ l) := by
  obtain ⟨r, hr, hc⟩ := pick_at b hb p hp l.length (by omega)
  have hlp : 0 < l.length := List.length_pos_iff.2 hl
  have hrl : r < l.length := by rcases hr with h | h <;> omega
  obtain ⟨x, hx⟩ := get_lt hrl
  have hgx : l[r] = x := by rw [List.getElem?_eq_getElem hrl] at hx; exact Option.some.inj hx
  refine Draws.mk (p' := p + 1) x (List.mem_of_getElem? hx) (by omega) (by omega) ?_
  refine ACalls.of_body Tryz.func80 (by kernel_rfl) rfl (by kernel_rfl) (by simp [Tryz.ntmps80]) (by simp) ?_
  rw [Tryz.ntmps80]
  repeat' first | (refine aops_end (hK _ ?_); clear hK K) | (refine aops_go ?_; simp [hrl, hgx]; (try (refine gen fun q hq => ?_; cases q <;> (try simp [hrl, hgx] at hq) <;> (try (have hh : True := hq; clear hh hq))))) | (refine wpcall_upd1 0 (rd b p) (rd b (p + 1)) rfl (by simp) hc ?_; simp [hrl, hgx]) | (refine T.ret (Done.obj1 (Or.inr rfl) ?_ ?_ ?_) <;> simp [Tryz.results80] <;> omega) | refine T.r0 fun K hK => ?_

theorem l18Open_ok (b : List Int) (hb : ∀ n ∈ b, 0 ≤ n ∧ n ≤ 255) : ∃ b' p', okB b' ∧ p' = 0 ∧ ACalls Tryz.prog 38 [.l (rB b)] [] (.c (.ptr 0 0)) (dV [rd b' p']) [] := by
  by_cases hl : (2000 : Int) < b.length
  · refine ⟨b.take 2000, 0, ⟨fun n hn => hb n (List.mem_of_mem_take hn), by simp; omega⟩, rfl, ?_⟩
    have hr : ∀ r ∈ rB b, r.length = 1 := by intro r hr; simp [rB] at hr; obtain ⟨a, _, rfl⟩ := hr; rfl
    have ht : (rB b).take 2000 = rB (b.take 2000) := by simp [rB, List.map_take]
    refine ACalls.of_body Tryz.func38 (by kernel_rfl) rfl (by kernel_rfl) (by simp [Tryz.ntmps38]) (by simp) ?_
    rw [Tryz.ntmps38]
    repeat' first | (refine aops_end (hK _ ?_); clear hK K) | (refine aops_go ?_; simp [hl, rB_len, ht]; (try (refine gen fun q hq => ?_; cases q <;> (try simp [hl, rB_len, ht] at hq) <;> (try (have hh : True := hq; clear hh hq))))) | (refine ⟨by omega, hr, ?_⟩) | refine T.r0 fun K hK => ?_ | refine T.r1 fun K hK => ?_ | refine T.ct rfl ?_ | refine T.seq ?_
    refine T.ret (Done.new1 0 (Or.inr rfl) ?_ ?_) <;> simp [resAs, Tryz.results38]
  · refine ⟨b, 0, ⟨hb, by omega⟩, rfl, ?_⟩
    refine ACalls.of_body Tryz.func38 (by kernel_rfl) rfl (by kernel_rfl) (by simp [Tryz.ntmps38]) (by simp) ?_
    rw [Tryz.ntmps38]
    repeat' first | (refine aops_end (hK _ ?_); clear hK K) | (refine aops_go ?_; simp [hl, rB_len]; (try (refine gen fun q hq => ?_; cases q <;> (try simp [hl, rB_len] at hq) <;> (try (have hh : True := hq; clear hh hq))))) | refine T.r0 fun K hK => ?_ | refine T.cf rfl ?_ | refine T.seq ?_ | refine T.skip ?_
    refine T.ret (Done.new1 0 (Or.inr rfl) ?_ ?_) <;> simp [resAs, Tryz.results38]
end Go.Proofs.YtdcahkkclldhmaaGreat

namespace Go.Proofs.YtdcahkkclldhmaaGreat
attribute [-simp] Go.Av.take_app_len Go.Av.innVs Go.Av.putBack Go.Av.objCells Go.Av.back Go.Av.resVs Go.Av.one Go.Av.freeStepG Go.Av.exA
open Go Go.Av
attribute [local irreducible] T ACalls TX EX LX Draws Some_ ACallsX eTy eTm MTy.kind MTy.kids MTm.kind MTm.name MTm.num MTm.ty MTm.fr MTm.label MTm.kids
attribute [local simp] eTy_def eTm_def
set_option maxHeartbeats 1000000

theorem l1Draw_ok (b : List Int) (hb : okB b) : ∀ (d p : Nat), d ≤ 100 → p + 4 ^ (d + 1) ≤ 1099511627776 → Draws Tryz.prog 87 [.i (d + 1)] b p (4 ^ (d + 1)) (RV aTy noA fun t => shapeTy (d + 1) t = true) := by
  intro d
  induction d with
  | zero =>
    intro p hd100 hp
    refine Draws.of_body Tryz.func87 (by kernel_rfl) rfl (by kernel_rfl) (by simp [Tryz.ntmps87]) ?_
    rw [Tryz.ntmps87]
    repeat' first | (refine aops_end (hK _ ?_); clear hK K) | (refine aops_go ?_; simp [tyKids]; (try simp (disch := omega) only [wrap64]); (try (refine gen fun q hq => ?_; cases q <;> (try simp [tyKids] at hq) <;> (try (have hh : True := hq; clear hh hq))))) | (refine wpcall_pure rfl (l1Kids_ok _) ?_; simp [tyKids]; (try simp (disch := omega) only [wrap64]); (try (refine gen fun q hq => ?_; cases q <;> (try simp [tyKids] at hq) <;> (try (have hh : True := hq; clear hh hq))))) | (refine wpcall_dr 0 rfl rfl (num_ok b hb _ (by omega) [2, 1, 4, 3, 5, 2, 4] (by simp) (by simp)) (fun x p1 hx hp1 hp1' => ?_); simp at hx; rcases hx with rfl | rfl | rfl | rfl | rfl | rfl | rfl <;> (simp [tyKids]; (try simp (disch := omega) only [wrap64]))) | refine TX.rs (fun _ => false) fun K hK => ?_ | refine TX.rs1 (fun _ => false) fun K hK => ?_ | refine TX.cond rfl (fun hcnd => ?_) (fun hcnd => absurd hcnd (by decide)) | refine TX.cond rfl (fun hcnd => absurd hcnd (by decide)) (fun hcnd => ?_) | refine TX.seq ?_ | refine TX.block ?_ | refine TX.skip ?_ | refine TX.exit ?_ | refine EX.thenN ?_ | refine EX.thenE ?_ | refine EX.blockE ?_ | refine EX.unrE ?_ | refine TX.unroll ?_
    all_goals (
      refine TX.ret ?_
      repeat' first | refine EX.outR ?_ | refine EX.thenR ?_ | refine EX.blockR ?_ | refine EX.unrR ?_
      apply EX.drA (ks := [])
      case he => exact Or.inr rfl
      case hys => simp [resAs, getAs, Tryz.results87] <;> rfl
      case hv => first | (dsimp only [Av.one]; exact rfl) | dsimp only [Av.one]
      case hx => repeat' first | exact IsT2.var _ | exact IsV.tmv _ | exact IsTm.var _ | exact IsTy.row _ | exact IsTm.row _ | exact IsTys.nil | exact IsTms.nil | exact IsBds.nil | exact IsTys.map _ | exact IsTms.map _ | exact IsBds.map _ | exact IsV.int _ | exact IsV.str _ | exact IsV.bool _ | apply IsV.p2 | apply IsV.p3 | apply IsV.tm | apply IsV.ty | apply IsTm.node | apply IsTy.of | apply IsTys.cons | apply IsTms.cons | apply IsBds.cons | apply IsV.tys | apply IsV.tms | apply IsV.bds | apply IsT2.node | apply IsTys.app | apply IsTms.app | apply IsBds.app
      case hA => exact rfl
      case hks => simp
      case hV => exact rfl
      case h1 => omega
      case h2 => omega
      case hg => simp [shape_mk, tyKids, *])
  | succ d ih =>
    intro p hd100 hp
    have h4 : 4 ^ (d + 1 + 1) = 4 * 4 ^ (d + 1) := by rw [Nat.pow_succ]; omega
    have h1 : 1 ≤ 4 ^ (d + 1) := Nat.pos_of_ne_zero (by simp)
    have hd : ¬ ((d : Int) + 1 + 1 < 2) := by omega
    have hd2 : (d : Int) + 1 + 1 - 1 = d + 1 := by omega
    rw [h4] at hp ⊢
    generalize hN : 4 ^ (d + 1) = N at *
    refine Draws.of_body Tryz.func87 (by kernel_rfl) rfl (by kernel_rfl) (by simp [Tryz.ntmps87]) ?_
    rw [Tryz.ntmps87]
    repeat' first | ((first | refine aops_end (hK _ ?_) | refine aopsF_end (hK _ ?_)); clear hK K) | ((first | refine aops_go ?_ | refine aopsF_go ?_); simp [tyKids, hd, hd2]; (try simp (disch := omega) only [wrap64]); (try (refine gen fun q hq => ?_; cases q <;> (try simp [tyKids, hd, hd2] at hq) <;> (try (have hh : True := hq; clear hh hq))))) | (refine wpcall_pure rfl (l1Kids_ok _) ?_; simp [tyKids, hd, hd2]; (try simp (disch := omega) only [wrap64]); (try (refine gen fun q hq => ?_; cases q <;> (try simp [tyKids, hd, hd2] at hq) <;> (try (have hh : True := hq; clear hh hq))))) | (refine wpcall_dr 0 rfl rfl (num_ok b hb _ (by omega) [2, 1, 4, 3, 5, 2, 4] (by simp) (by simp)) (fun x p1 hx hp1 hp1' => ?_); simp at hx; rcases hx with rfl | rfl | rfl | rfl | rfl | rfl | rfl <;> (simp [tyKids, hd, hd2]; (try simp (disch := omega) only [wrap64]))) | (refine wpcall_dr 0 rfl rfl (ih _ (by omega) (by omega)) (fun x1 p1 hx1 hp1 hp1' => ?_); simp [tyKids, hd, hd2]; (try simp (disch := omega) only [wrap64]); (try (refine gen fun q hq => ?_; cases q <;> (try simp [tyKids, hd, hd2] at hq) <;> (try (have hh : True := hq; clear hh hq))))) | refine TX.rdF1 (id := 8) mixed (fun _ => false) [5, 7, 9] [1] 6 [0] (by kernel_rfl) fun K hK => ?_ | refine TX.rs (fun _ => false) fun K hK => ?_ | refine TX.rs1 (fun _ => false) fun K hK => ?_ | refine TX.cond rfl (fun hcnd => ?_) (fun hcnd => absurd hcnd (by decide)) | refine TX.cond rfl (fun hcnd => absurd hcnd (by decide)) (fun hcnd => ?_) | refine TX.seq ?_ | refine TX.block ?_ | refine TX.skip ?_ | refine TX.exit ?_ | refine EX.thenN ?_ | refine EX.thenE ?_ | refine EX.blockN ?_ | refine EX.blockE ?_ | refine EX.unrE ?_ | refine EX.againN ?_ | refine TX.unroll ?_
    all_goals (
      refine TX.ret ?_
      repeat' first | refine EX.outR ?_ | refine EX.thenR ?_ | refine EX.blockR ?_ | refine EX.unrR ?_
      apply EX.drA (ks := [])
      case he => exact Or.inr rfl
      case hys => simp [resAs, getAs, Tryz.results87] <;> rfl
      case hv => first | (dsimp only [Av.one]; exact rfl) | dsimp only [Av.one]
      case hx => repeat' first | exact IsT2.var _ | exact IsV.tmv _ | exact IsTm.var _ | exact IsTy.row _ | exact IsTm.row _ | exact IsTys.nil | exact IsTms.nil | exact IsBds.nil | exact IsTys.map _ | exact IsTms.map _ | exact IsBds.map _ | exact IsV.int _ | exact IsV.str _ | exact IsV.bool _ | apply IsV.p2 | apply IsV.p3 | apply IsV.tm | apply IsV.ty | apply IsTm.node | apply IsTy.of | apply IsTys.cons | apply IsTms.cons | apply IsBds.cons | apply IsV.tys | apply IsV.tms | apply IsV.bds | apply IsT2.node | apply IsTys.app | apply IsTms.app | apply IsBds.app
      case hA => exact rfl
      case hks => simp
      case hV => exact rfl
      case h1 => omega
      case h2 => omega
      case hg => simp [shape_mk, tyKids, *])

theorem l1Type_ok (b : List Int) (hb : okB b) (p : Nat) (hp : p + 300 ≤ 1099511627776) : Draws Tryz.prog 82 [] b p 300 (RV aTy noA fun t => shapeTy 4 t = true) := by
  refine Draws.of_body Tryz.func82 (by kernel_rfl) rfl (by kernel_rfl) (by simp [Tryz.ntmps82]) ?_
  rw [Tryz.ntmps82]
  repeat' first | (refine aops_end (hK _ ?_); clear hK K) | (refine aops_go ?_; simp; (try (refine gen fun q hq => ?_; cases q <;> (try simp at hq) <;> (try (have hh : True := hq; clear hh hq))))) | (refine wpcall_dr 0 rfl rfl (num_ok b hb _ (by omega) [3, 2, 4, 1, 3] (by simp) (by simp)) (fun x p1 hx hp1 hp1' => ?_); simp at hx; rcases hx with rfl | rfl | rfl | rfl | rfl <;> (simp)) | (refine wpcall_dr 0 rfl rfl (l1Draw_ok b hb 3 _ (by omega) (by omega)) (fun x1 p1 hx1 hp1 hp1' => ?_); simp; (try (refine gen fun q hq => ?_; cases q <;> (try simp at hq) <;> (try (have hh : True := hq; clear hh hq))))) | (refine wpcall_dr 0 rfl rfl (l1Draw_ok b hb 2 _ (by omega) (by omega)) (fun x1 p1 hx1 hp1 hp1' => ?_); simp; (try (refine gen fun q hq => ?_; cases q <;> (try simp at hq) <;> (try (have hh : True := hq; clear hh hq))))) | (refine wpcall_dr 0 rfl rfl (l1Draw_ok b hb 1 _ (by omega) (by omega)) (fun x1 p1 hx1 hp1 hp1' => ?_); simp; (try (refine gen fun q hq => ?_; cases q <;> (try simp at hq) <;> (try (have hh : True := hq; clear hh hq))))) | (refine wpcall_dr 0 rfl rfl (l1Draw_ok b hb 0 _ (by omega) (by omega)) (fun x1 p1 hx1 hp1 hp1' => ?_); simp; (try (refine gen fun q hq => ?_; cases q <;> (try simp at hq) <;> (try (have hh : True := hq; clear hh hq))))) | refine TX.rs (fun _ => false) fun K hK => ?_
  all_goals (
    refine TX.ret ?_
    repeat' first | refine EX.outR ?_ | refine EX.thenR ?_ | refine EX.blockR ?_ | refine EX.unrR ?_
    apply EX.drA (ks := [])
    case he => exact Or.inr rfl
    case hys => simp [resAs, getAs, Tryz.results82] <;> rfl
    case hv => first | (dsimp only [Av.one]; exact rfl) | dsimp only [Av.one]
    case hx => repeat' first | exact IsT2.var _ | exact IsV.tmv _ | exact IsTm.var _ | exact IsTy.row _ | exact IsTm.row _ | exact IsTys.nil | exact IsTms.nil | exact IsBds.nil | exact IsTys.map _ | exact IsTms.map _ | exact IsBds.map _ | exact IsV.int _ | exact IsV.str _ | exact IsV.bool _ | apply IsV.p2 | apply IsV.p3 | apply IsV.tm | apply IsV.ty | apply IsTm.node | apply IsTy.of | apply IsTys.cons | apply IsTms.cons | apply IsBds.cons | apply IsV.tys | apply IsV.tms | apply IsV.bds | apply IsT2.node | apply IsTys.app | apply IsTms.app | apply IsBds.app
    case hA => exact rfl
    case hks => simp
    case hV => exact rfl
    case h1 => omega
    case h2 => omega
    case hg => first | assumption | exact shapeTy_mono (by assumption) | exact shapeTy_mono (shapeTy_mono (by assumption)) | exact shapeTy_mono (shapeTy_mono (shapeTy_mono (by assumption))))

theorem l1Blur_ok (b : List Int) (hb : okB b) : ∀ (d : Nat) (t : MTy) (p : Nat), shapeTy d t = true → p + 4 ^ d ≤ 1099511627776 → Draws Tryz.prog 119 [aTy t] b p (4 ^ d) (RV aTy noA fun t => shapeTy d t = true) := by
  intro d
  induction d with
  | zero => intro t p ht; simp [shapeTy] at ht
  | succ d ih =>
    intro t p ht hp
    have h4 : 4 ^ (d + 1) = 4 * 4 ^ d := by rw [Nat.pow_succ]; omega
    have h1 : 1 ≤ 4 ^ d := Nat.pos_of_ne_zero (by simp)
    rw [h4] at hp ⊢
    generalize hN : 4 ^ d = N at *
    have hany := l1Any_ok
    obtain ⟨e, he, hk, hl, hs⟩ := shapeTy_kids ht
    obtain rfl : d = e := by omega
    match hkd : t.kids, hl with
    | [], _ =>
      rw [hkd] at hk
      have hk0 : tyKids t.kind = 0 := by simpa using hk
      refine Draws.of_body Tryz.func119 (by kernel_rfl) rfl (by kernel_rfl) (by simp [Tryz.ntmps119]) ?_
      rw [Tryz.ntmps119]
      repeat' first | (refine aops_end (hK _ ?_); clear hK K) | (refine aops_go ?_; simp [hkd]; (try simp (disch := omega) only [wrap64]); (try (refine gen fun q hq => ?_; cases q <;> (try simp [hkd] at hq) <;> (try (have hh : True := hq; clear hh hq))))) | (refine wpcall_pure rfl (hany) ?_; simp [hkd]; (try simp (disch := omega) only [wrap64]); (try (refine gen fun q hq => ?_; cases q <;> (try simp [hkd] at hq) <;> (try (have hh : True := hq; clear hh hq))))) | (refine wpcall_dr 0 rfl rfl (pick_ok b hb _ (by omega) 4 (by omega)) (fun x1 p1 hx1 hp1 hp1' => ?_); simp [hkd]; (try simp (disch := omega) only [wrap64]); (try (refine gen fun q hq => ?_; cases q <;> (try simp [hkd] at hq) <;> (try (have hh : True := hq; clear hh hq))))) | refine TX.rs (fun _ => false) fun K hK => ?_ | refine TX.cond rfl (fun hcnd => ?_) (fun hcnd => absurd hcnd (by decide)) | refine TX.cond rfl (fun hcnd => absurd hcnd (by decide)) (fun hcnd => ?_) | refine TX.seq ?_ | refine TX.block ?_ | refine TX.skip ?_ | refine TX.exit ?_ | refine EX.thenN ?_ | refine EX.thenE ?_ | refine EX.blockE ?_ | refine EX.unrE ?_ | refine TX.unroll ?_
      all_goals (
        refine TX.ret ?_
        repeat' first | refine EX.outR ?_ | refine EX.thenR ?_ | refine EX.blockR ?_ | refine EX.unrR ?_
        apply EX.drA (ks := [])
        case he => exact Or.inr rfl
        case hys => simp [resAs, getAs, Tryz.results119] <;> rfl
        case hv => first | (dsimp only [Av.one]; exact rfl) | dsimp only [Av.one]
        case hx => repeat' first | exact IsT2.var _ | exact IsV.tmv _ | exact IsTm.var _ | exact IsTy.row _ | exact IsTm.row _ | exact IsTys.nil | exact IsTms.nil | exact IsBds.nil | exact IsTys.map _ | exact IsTms.map _ | exact IsBds.map _ | exact IsV.int _ | exact IsV.str _ | exact IsV.bool _ | apply IsV.p2 | apply IsV.p3 | apply IsV.tm | apply IsV.ty | apply IsTm.node | apply IsTy.of | apply IsTys.cons | apply IsTms.cons | apply IsBds.cons | apply IsV.tys | apply IsV.tms | apply IsV.bds | apply IsT2.node | apply IsTys.app | apply IsTms.app | apply IsBds.app
        case hA => exact rfl
        case hks => simp
        case hV => exact rfl
        case h1 => omega
        case h2 => omega
        case hg => simp [shape_mk, show tyKids 1 = 0 from rfl, hk0, *])
    | [u], _ =>
      rw [hkd] at hk hs
      have hk0 : tyKids t.kind = 1 := by simpa using hk
      exfalso
      simp [tyKids] at hk0
      split at hk0
      · omega
      · split at hk0 <;> omega
    | [u, v], _ =>
      rw [hkd] at hk hs
      have hk0 : tyKids t.kind = 2 := by simpa using hk
      have hu := hs u (by simp)
      have hv := hs v (by simp)
      refine Draws.of_body Tryz.func119 (by kernel_rfl) rfl (by kernel_rfl) (by simp [Tryz.ntmps119]) ?_
      rw [Tryz.ntmps119]
      repeat' first | ((first | refine aops_end (hK _ ?_) | refine aopsF_end (hK _ ?_)); clear hK K) | ((first | refine aops_go ?_ | refine aopsF_go ?_); simp [hkd]; (try simp (disch := omega) only [wrap64]); (try (refine gen fun q hq => ?_; cases q <;> (try simp [hkd] at hq) <;> (try (have hh : True := hq; clear hh hq))))) | (refine wpcall_pure rfl (hany) ?_; simp [hkd]; (try simp (disch := omega) only [wrap64]); (try (refine gen fun q hq => ?_; cases q <;> (try simp [hkd] at hq) <;> (try (have hh : True := hq; clear hh hq))))) | (refine wpcall_dr 0 rfl rfl (pick_ok b hb _ (by omega) 4 (by omega)) (fun x1 p1 hx1 hp1 hp1' => ?_); simp [hkd]; (try simp (disch := omega) only [wrap64]); (try (refine gen fun q hq => ?_; cases q <;> (try simp [hkd] at hq) <;> (try (have hh : True := hq; clear hh hq))))) | (refine wpcall_dr 0 rfl rfl (ih u _ hu (by omega)) (fun x1 p1 hx1 hp1 hp1' => ?_); simp [hkd]; (try simp (disch := omega) only [wrap64]); (try (refine gen fun q hq => ?_; cases q <;> (try simp [hkd] at hq) <;> (try (have hh : True := hq; clear hh hq))))) | (refine wpcall_dr 0 rfl rfl (ih v _ hv (by omega)) (fun x1 p1 hx1 hp1 hp1' => ?_); simp [hkd]; (try simp (disch := omega) only [wrap64]); (try (refine gen fun q hq => ?_; cases q <;> (try simp [hkd] at hq) <;> (try (have hh : True := hq; clear hh hq))))) | refine TX.rdF1 (id := 7) mixed (fun _ => false) [8, 10, 12] [1] 9 [0] (by kernel_rfl) fun K hK => ?_ | refine TX.rs (fun _ => false) fun K hK => ?_ | refine TX.rs1 (fun _ => false) fun K hK => ?_ | refine TX.cond rfl (fun hcnd => ?_) (fun hcnd => absurd hcnd (by decide)) | refine TX.cond rfl (fun hcnd => absurd hcnd (by decide)) (fun hcnd => ?_) | refine TX.seq ?_ | refine TX.block ?_ | refine TX.skip ?_ | refine TX.exit ?_ | refine EX.thenN ?_ | refine EX.thenE ?_ | refine EX.blockN ?_ | refine EX.blockE ?_ | refine EX.unrE ?_ | refine EX.againN ?_ | refine TX.unroll ?_
      all_goals (
        refine TX.ret ?_
        repeat' first | refine EX.outR ?_ | refine EX.thenR ?_ | refine EX.blockR ?_ | refine EX.unrR ?_
        apply EX.drA (ks := [])
        case he => exact Or.inr rfl
        case hys => simp [resAs, getAs, Tryz.results119] <;> rfl
        case hv => first | (dsimp only [Av.one]; exact rfl) | dsimp only [Av.one]
        case hx => repeat' first | exact IsT2.var _ | exact IsV.tmv _ | exact IsTm.var _ | exact IsTy.row _ | exact IsTm.row _ | exact IsTys.nil | exact IsTms.nil | exact IsBds.nil | exact IsTys.map _ | exact IsTms.map _ | exact IsBds.map _ | exact IsV.int _ | exact IsV.str _ | exact IsV.bool _ | apply IsV.p2 | apply IsV.p3 | apply IsV.tm | apply IsV.ty | apply IsTm.node | apply IsTy.of | apply IsTys.cons | apply IsTms.cons | apply IsBds.cons | apply IsV.tys | apply IsV.tms | apply IsV.bds | apply IsT2.node | apply IsTys.app | apply IsTms.app | apply IsBds.app
        case hA => exact rfl
        case hks => simp
        case hV => exact rfl
        case h1 => omega
        case h2 => omega
        case hg => simp [shape_mk, show tyKids 1 = 0 from rfl, hk0, *])
    | _ :: _ :: _ :: _, h => exact absurd h (by simp)

theorem l1Copy_own (t : MTy) (hn : nTy t ≤ 1099511627776) : ACalls Tryz.prog 101 [aTy t] [] (.agg [.d (.i t.kind), .own 0 t.kids.length]) [] [{ sz := 2, ety := 25, rows := t.kids.map eTy, wr := true }] := by
  rw [nTy_def] at hn
  have hlen := nTyS_len t.kids
  refine ACalls.of_body Tryz.func101 (by kernel_rfl) rfl (by kernel_rfl) (by simp [Tryz.ntmps101]) (by simp) ?_
  rw [Tryz.ntmps101]
  repeat' first | (refine aops_end (hK _ ?_); clear hK K) | (refine aops_go ?_; simp; (try (refine gen fun q hq => ?_; cases q <;> (try simp at hq) <;> (try (have hh : True := hq; clear hh hq))))) | refine T.r0 fun K hK => ?_ | refine T.seq ?_ | refine T.block ?_
  refine T.ownifyObj 2 1 2 25 (row := [.d (.i t.kind), .nil]) (by simp) (by simp) ?_
  refine T.loopF (fun p : Nat => ⟨[(1, .c (.ptr 0 0)), (2, .c (.ptr 1 0)), (3, .c (.ptr 2 0)), (4, .i p)], [(aTy t).cells, [.d (.i 0), .nil], [.d (.i t.kind), .own 0 p]], [{ sz := 2, ety := 25, rows := (t.kids.take p).map eTy, wr := true }]⟩) (fun p => t.kids.length + 1 - p) (fun p => p ≤ t.kids.length) (fun p hi => ?_) 0 (by simp) (by simp)
  by_cases hlt : p < t.kids.length
  · obtain ⟨u, ht⟩ := get_lt hlt
    have htm : u ∈ t.kids := List.mem_of_getElem? ht
    have hgt : t.kids[p] = u := by rw [List.getElem?_eq_getElem hlt] at ht; exact Option.some.inj ht
    have hdr : t.kids.drop p = u :: t.kids.drop (p + 1) := by rw [List.drop_eq_getElem_cons hlt, hgt]
    have hu := l1Copy_ok u (by have := nTyS_mem htm; omega)
    have htk : t.kids.take (p + 1) = t.kids.take p ++ [u] := by rw [List.take_add_one, ht]; rfl
    have hmin : min p t.kids.length = p := by omega
    repeat' first | ((first | refine aops_end (hK _ ?_) | refine aopsD_end (hK _ ?_)); clear hK K) | ((first | refine aops_go ?_ | refine aopsD_go ?_); simp [hlt, hgt, hmin]; (try simp (disch := omega) only [wrap64]); (try (refine gen fun q hq => ?_; cases q <;> (try simp [hlt, hgt, hmin] at hq) <;> (try (have hh : True := hq; clear hh hq))))) | (refine wpcall_pure rfl (hu) ?_; simp [hlt, hgt, hmin]; (try simp (disch := omega) only [wrap64]); (try (refine gen fun q hq => ?_; cases q <;> (try simp [hlt, hgt, hmin] at hq) <;> (try (have hh : True := hq; clear hh hq))))) | (refine ⟨by omega, by omega, ?_⟩) | (refine ⟨p + 1, by dsimp only; omega, by omega, ?_, ?_, ?_⟩ <;> simp (disch := omega) [wrap64, htk, eTy_def]) | refine T.rd1 (id := 5) mixed (fun _ => false) [9, 11] (by kernel_rfl) fun K hK => ?_ | refine T.r0 fun K hK => ?_ | refine T.r1 fun K hK => ?_ | refine T.ct rfl ?_ | refine T.seq ?_ | refine T.block ?_ | refine T.skip ?_
  · have hp' : p = t.kids.length := by omega
    subst hp'
    repeat' first | (refine aops_end (hK _ ?_); clear hK K) | (refine aops_go ?_; simp [hlt]; (try (refine gen fun q hq => ?_; cases q <;> (try simp [hlt] at hq) <;> (try (have hh : True := hq; clear hh hq))))) | refine T.r0 fun K hK => ?_ | refine T.cf rfl ?_ | refine T.seq ?_ | refine T.exit ?_
    refine T.ret (Done.own1 0 (Or.inr rfl) (ys := [_]) ?_ rfl ?_) <;> simp [resAs, Tryz.results101]

theorem l1Mutate_ok (b : List Int) (hb : okB b) (t : MTy) (hn : nTy t ≤ 1000000) (p : Nat) (hp : p + 2 ≤ 1099511627776) : Draws Tryz.prog 81 [aTy t] b p 2 (RV aTy noA fun u => nTy u ≤ nTy t + 20) := by
  have hany := l1Any_ok
  have hcp := l1Copy_own t (by omega)
  have hlen := nTyS_len t.kids
  have hn2 := hn
  rw [nTy_def] at hn2
  refine Draws.of_body Tryz.func81 (by kernel_rfl) rfl (by kernel_rfl) (by simp [Tryz.ntmps81]) ?_
  rw [Tryz.ntmps81]
  repeat' first | ((first | refine aops_end (hK _ ?_) | refine aopsD_end (hK _ ?_)); clear hK K) | ((first | refine aops_go ?_ | refine aopsD_go ?_); simp; (try simp (disch := omega) only [wrap64]); (try (refine gen fun q hq => ?_; cases q <;> (try simp at hq) <;> (try (have hh : True := hq; clear hh hq))))) | (refine wpcall_pure rfl (hany) ?_; simp; (try simp (disch := omega) only [wrap64]); (try (refine gen fun q hq => ?_; cases q <;> (try simp at hq) <;> (try (have hh : True := hq; clear hh hq))))) | (refine wpcall_dr 0 rfl rfl (pick_ok b hb _ (by omega) 40 (by omega)) (fun x1 p1 hx1 hp1 hp1' => ?_); simp; (try simp (disch := omega) only [wrap64]); (try (refine gen fun q hq => ?_; cases q <;> (try simp at hq) <;> (try (have hh : True := hq; clear hh hq))))) | (refine wpcall_dr 0 rfl rfl (num_ok b hb _ (by omega) [0, 6, 1, 4, -1] (by simp) (by simp)) (fun x1 p1 hx1 hp1 hp1' => ?_); simp; (try simp (disch := omega) only [wrap64]); (try (refine gen fun q hq => ?_; cases q <;> (try simp at hq) <;> (try (have hh : True := hq; clear hh hq))))) | (refine wpcall_own rfl (hcp) ?_; simp; (try simp (disch := omega) only [wrap64]); (try (refine gen fun q hq => ?_; cases q <;> (try simp at hq) <;> (try (have hh : True := hq; clear hh hq))))) | (refine ⟨by omega, by omega, ?_⟩) | refine TX.rd1 (id := 6) mixed (fun _ => false) [4, 6] (by kernel_rfl) fun K hK => ?_ | refine TX.rd1 (id := 11) mixed (fun _ => false) [2, 4] (by kernel_rfl) fun K hK => ?_ | refine TX.rs (fun _ => false) fun K hK => ?_ | refine TX.rs1 (fun _ => false) fun K hK => ?_ | refine TX.cond rfl (fun hcnd => ?_) (fun hcnd => absurd hcnd (by decide)) | refine TX.cond rfl (fun hcnd => absurd hcnd (by decide)) (fun hcnd => ?_) | refine TX.seq ?_ | refine TX.block ?_ | refine TX.skip ?_ | refine TX.exit ?_ | refine EX.thenN ?_ | refine EX.thenE ?_ | refine EX.blockN ?_ | refine EX.blockE ?_ | refine EX.unrE ?_ | refine EX.againN ?_ | refine TX.unroll ?_
  all_goals (
    refine TX.ret ?_
    repeat' first | refine EX.outR ?_ | refine EX.thenR ?_ | refine EX.blockR ?_ | refine EX.unrR ?_
    apply EX.drA (ks := [])
    case he => exact Or.inr rfl
    case hys => simp [resAs, getAs, Tryz.results81] <;> rfl
    case hv => first | (dsimp only [Av.one]; exact rfl) | dsimp only [Av.one]
    case hx => repeat' first | exact IsT2.var _ | exact IsV.tmv _ | exact IsTm.var _ | exact IsTy.row _ | exact IsTm.row _ | exact IsTys.nil | exact IsTms.nil | exact IsBds.nil | exact IsTys.map _ | exact IsTms.map _ | exact IsBds.map _ | exact IsV.int _ | exact IsV.str _ | exact IsV.bool _ | apply IsV.p2 | apply IsV.p3 | apply IsV.tm | apply IsV.ty | apply IsTm.node | apply IsTy.of | apply IsTys.cons | apply IsTms.cons | apply IsBds.cons | apply IsV.tys | apply IsV.tms | apply IsV.bds | apply IsT2.node | apply IsTys.app | apply IsTms.app | apply IsBds.app
    case hA => exact rfl
    case hks => simp
    case hV => exact rfl
    case h1 => omega
    case h2 => omega
    case hg => simp [nTy_mk, nTyS, nTyS_app, nTy_def, *] <;> omega)

end Go.Proofs.YtdcahkkclldhmaaGreat

namespace Go.Proofs.YtdcahkkclldhmaaGreat
attribute [-simp] Go.Av.take_app_len Go.Av.innVs Go.Av.putBack Go.Av.objCells Go.Av.back Go.Av.resVs Go.Av.one Go.Av.freeStepG Go.Av.exA
open Go Go.Av
attribute [local irreducible] T ACalls TX EX LX Draws Some_ ACallsX eTy eTm MTy.kind MTy.kids MTm.kind MTm.name MTm.num MTm.ty MTm.fr MTm.label MTm.kids
attribute [local simp] eTy_def eTm_def
set_option maxHeartbeats 16000000
set_option maxRecDepth 8000

theorem l2Num_ok (n : Int) : ACalls Tryz.prog 85 [.i n] [] (aTm (.mk 2 [] n zeroT zeroT 0 [])) [] [] := by
  refine ACalls.of_body Tryz.func85 (by kernel_rfl) rfl (by kernel_rfl) (by simp [Tryz.ntmps85]) (by simp) ?_
  rw [Tryz.ntmps85]
  repeat' first | (refine aops_end (hK _ ?_); clear hK K) | (refine aops_go ?_; simp; (try (refine gen fun q hq => ?_; cases q <;> (try simp at hq) <;> (try (have hh : True := hq; clear hh hq))))) | (refine T.ret (Done.val (Or.inr rfl) ?_) <;> simp [resAs, Tryz.results85] <;> omega) | refine T.r0 fun K hK => ?_

theorem l2Add_ok (s : List UInt8) (c : UInt8) (hs : s.length ≤ 1099511627776) : ACalls Tryz.prog 126 [.s s, .s [c]] [] (.s (addM c s)) [] [] := by
  refine ACalls.of_body Tryz.func126 (by kernel_rfl) rfl (by kernel_rfl) (by simp [Tryz.ntmps126]) (by simp) ?_
  rw [Tryz.ntmps126]
  repeat' first | (refine aops_end (hK _ ?_); clear hK K) | (refine aops_go ?_; simp; (try (refine gen fun q hq => ?_; cases q <;> (try simp at hq) <;> (try (have hh : True := hq; clear hh hq))))) | refine T.r0 fun K hK => ?_ | refine T.seq ?_ | refine T.block ?_
  refine T.loopF (fun k : Nat => ⟨[(0, .s s), (1, .s [c]), (4, .s []), (5, .i k)], [], []⟩) (fun k => s.length + 1 - k) (fun k => k ≤ s.length ∧ addM c s = s.take k ++ addM c (s.drop k)) (fun k hk => ?_) 0 (by simp) (by simp)
  obtain ⟨hi, he⟩ := hk
  by_cases hlt : k < s.length
  · have hsl := slice_one hlt
    have hdr := drop_cons hlt
    have htk : s.take (k + 1) = s.take k ++ [s[k]] := by rw [List.take_add_one, List.getElem?_eq_getElem hlt]; rfl
    generalize hx : s[k] = x at *
    have hbl := bytesLess_one x c
    have hto : ((k : Int) + 1).toNat = k + 1 := by omega
    have hk1 : (k : Int) ≤ k + 1 := by omega
    have hk2 : (k : Int) + 1 ≤ s.length := by omega
    by_cases h1 : x < c
    · have he' : addM c s = s.take (k + 1) ++ addM c (s.drop (k + 1)) := by rw [he, hdr, htk]; simp [addM, h1]
      repeat' first | (refine aops_end (hK _ ?_); clear hK K) | (refine aops_go ?_; simp [hlt, hto, hsl, hbl, h1, hk2]; (try simp (disch := omega) only [wrap64]); (try (refine gen fun q hq => ?_; cases q <;> (try simp [hlt, hto, hsl, hbl, h1, hk2] at hq) <;> (try (have hh : True := hq; clear hh hq))))) | (refine ⟨k + 1, by dsimp only; omega, ⟨by omega, he'⟩, ?_⟩; simp (disch := omega) [wrap64]) | refine T.r0 fun K hK => ?_ | refine T.r1 fun K hK => ?_ | (refine ⟨by omega, ?_⟩) | refine T.ct rfl ?_ | refine T.seq ?_ | refine T.block ?_ | refine T.skip ?_
    · by_cases h2 : x = c
      · subst h2
        have he' : addM x s = s := by rw [he, hdr]; simp [addM]; rw [← hdr]; simp
        rw [he']
        have hbl' : Op.bytesLess [x] [x] = false := by rw [hbl]; simp
        repeat' first | (refine aops_end (hK _ ?_); clear hK K) | (refine aops_go ?_; simp [hlt, hto, hsl, hbl', hk2]; (try simp (disch := omega) only [wrap64]); (try (refine gen fun q hq => ?_; cases q <;> (try simp [hlt, hto, hsl, hbl', hk2] at hq) <;> (try (have hh : True := hq; clear hh hq))))) | (refine T.ret (Done.data (Or.inr rfl) ?_ ?_) <;> simp [Tryz.results126] <;> omega) | refine T.r0 fun K hK => ?_ | (refine ⟨by omega, ?_⟩) | refine T.ct rfl ?_ | refine T.cf rfl ?_ | refine T.seq ?_ | refine T.exit ?_
      · have he' : addM c s = s.take k ++ [c] ++ s.drop k := by rw [he, hdr]; simp [addM, h1, h2]
        rw [he']
        have hmin : min k s.length = k := by omega
        have ha1 : k + 1 ≤ 4611686018427387904 := by omega
        have ha2 : k + 1 + (s.length - k) ≤ 4611686018427387904 := by omega
        repeat' first | ((first | refine aops_end (hK _ ?_) | refine aopsD_end (hK _ ?_)); clear hK K) | ((first | refine aops_go ?_ | refine aopsD_go ?_); simp [hlt, hto, hsl, hbl, h1, h2, hk2, hmin, ha1, ha2]; (try simp (disch := omega) only [wrap64]); (try (refine gen fun q hq => ?_; cases q <;> (try simp [hlt, hto, hsl, hbl, h1, h2, hk2, hmin, ha1, ha2] at hq) <;> (try (have hh : True := hq; clear hh hq))))) | (refine T.ret (Done.data (Or.inr rfl) ?_ ?_) <;> simp [Tryz.results126] <;> omega) | refine T.rd (id := 6) mixed (fun _ => false) [] (by kernel_rfl) fun K hK => ?_ | refine T.r0 fun K hK => ?_ | (refine ⟨by omega, ?_⟩) | refine T.cf rfl ?_ | refine T.seq ?_ | refine T.skip ?_ | refine T.exit ?_
  · have hk' : k = s.length := by omega
    subst hk'
    simp [addM] at he
    rw [he]
    have ha1 : s.length + 1 ≤ 4611686018427387904 := by omega
    repeat' first | ((first | refine aops_end (hK _ ?_) | refine aopsD_end (hK _ ?_)); clear hK K) | ((first | refine aops_go ?_ | refine aopsD_go ?_); simp [hlt, ha1]; (try simp (disch := omega) only [wrap64]); (try (refine gen fun q hq => ?_; cases q <;> (try simp [hlt, ha1] at hq) <;> (try (have hh : True := hq; clear hh hq))))) | (refine T.ret (Done.data (Or.inr rfl) ?_ ?_) <;> simp [Tryz.results126] <;> omega) | refine T.rd (id := 6) mixed (fun _ => false) [] (by kernel_rfl) fun K hK => ?_ | refine T.r0 fun K hK => ?_ | refine T.cf rfl ?_ | refine T.seq ?_ | refine T.skip ?_ | refine T.exit ?_

theorem l2Copy_ok : ∀ (e : MTm), nTm e ≤ 1099511627776 → ACalls Tryz.prog 58 [aTm e] [] (aTm e) [] [] := by
  intro e
  induction e using MTm.ind with
  | h e ih =>
    intro hn
    obtain ⟨hnt, hnf, hnk, hnu⟩ := nTm_parts hn
    have h1 := l1Copy_ok e.ty hnt
    have h2 := l1Copy_ok e.fr hnf
    refine ACalls.of_body Tryz.func58 (by kernel_rfl) rfl (by kernel_rfl) (by simp [Tryz.ntmps58]) (by simp) ?_
    rw [Tryz.ntmps58]
    repeat' first | (refine aops_end (hK _ ?_); clear hK K) | (refine aops_go ?_; simp; (try (refine gen fun q hq => ?_; cases q <;> (try simp at hq) <;> (try (have hh : True := hq; clear hh hq))))) | (refine wpcall_pure rfl (h1) ?_; simp; (try (refine gen fun q hq => ?_; cases q <;> (try simp at hq) <;> (try (have hh : True := hq; clear hh hq))))) | (refine wpcall_pure rfl (h2) ?_; simp; (try (refine gen fun q hq => ?_; cases q <;> (try simp at hq) <;> (try (have hh : True := hq; clear hh hq))))) | refine T.r0 fun K hK => ?_ | refine T.seq ?_ | refine T.block ?_
    refine T.ownifyObj 2 8 9 28 rfl rfl ?_
    refine T.loopF (fun p : Nat => ⟨[(1, .c (.ptr 0 0)), (2, .c (.ptr 1 0)), (3, .c (.ptr 2 0)), (4, .i p)], [(aTm e).cells, [.d (.i 0), .d (.str []), .d (.i 0), .d (.i 0), .nil, .d (.i 0), .nil, .d (.i 0), .nil], [.d (.i e.kind), .d (.str e.name), .d (.i e.num), .d (.i e.ty.kind), .d (.sl (e.ty.kids.map eTy)), .d (.i e.fr.kind), .d (.sl (e.fr.kids.map eTy)), .d (.i e.label), .own 0 p]], [{ sz := 9, ety := 28, rows := (e.kids.take p).map eTm, wr := true }]⟩) (fun p => e.kids.length + 1 - p) (fun p => p ≤ e.kids.length) (fun p hi => ?_) 0 (by simp) (by simp)
    by_cases hlt : p < e.kids.length
    · obtain ⟨u, ht⟩ := get_lt hlt
      have htm : u ∈ e.kids := List.mem_of_getElem? ht
      have hgt : e.kids[p] = u := by rw [List.getElem?_eq_getElem hlt] at ht; exact Option.some.inj ht
      have hdr : e.kids.drop p = u :: e.kids.drop (p + 1) := by rw [List.drop_eq_getElem_cons hlt, hgt]
      have hu := ih u htm (hnu u htm)
      have htk : e.kids.take (p + 1) = e.kids.take p ++ [u] := by rw [List.take_add_one, ht]; rfl
      have hmin : min p e.kids.length = p := by omega
      repeat' first | ((first | refine aops_end (hK _ ?_) | refine aopsD_end (hK _ ?_)); clear hK K) | ((first | refine aops_go ?_ | refine aopsD_go ?_); simp [hlt, hgt, hmin]; (try simp (disch := omega) only [wrap64]); (try (refine gen fun q hq => ?_; cases q <;> (try simp [hlt, hgt, hmin] at hq) <;> (try (have hh : True := hq; clear hh hq))))) | (refine wpcall_pure rfl (hu) ?_; simp [hlt, hgt, hmin]; (try simp (disch := omega) only [wrap64]); (try (refine gen fun q hq => ?_; cases q <;> (try simp [hlt, hgt, hmin] at hq) <;> (try (have hh : True := hq; clear hh hq))))) | (refine ⟨p + 1, by dsimp only; omega, by omega, ?_, ?_, ?_⟩ <;> simp (disch := omega) [wrap64, htk, eTm_def]) | refine T.rd1 (id := 8) mixed (fun _ => false) [9, 11] (by kernel_rfl) fun K hK => ?_ | refine T.r0 fun K hK => ?_ | refine T.r1 fun K hK => ?_ | (refine ⟨by omega, ?_⟩) | refine T.ct rfl ?_ | refine T.seq ?_ | refine T.block ?_ | refine T.skip ?_
    · have hp' : p = e.kids.length := by omega
      subst hp'
      repeat' first | (refine aops_end (hK _ ?_); clear hK K) | (refine aops_go ?_; simp [hlt]; (try (refine gen fun q hq => ?_; cases q <;> (try simp [hlt] at hq) <;> (try (have hh : True := hq; clear hh hq))))) | (refine T.ret (Done.val (Or.inr rfl) ?_) <;> simp [resAs, Tryz.results58] <;> omega) | refine T.r0 fun K hK => ?_ | refine T.cf rfl ?_ | refine T.seq ?_ | refine T.exit ?_

theorem l1DrawT_ok (b : List Int) (hb : okB b) (x : Int) (hx : x = 1 ∨ x = 2 ∨ x = 3 ∨ x = 4) (p : Nat) (hp : p + 256 ≤ 1099511627776) : Draws Tryz.prog 87 [.i x] b p 256 (RV aTy noA fun t => shapeTy 4 t = true) := by
  rcases hx with rfl | rfl | rfl | rfl
  · exact (l1Draw_ok b hb 0 p (by omega) (by omega)).mono (by omega) fun t h => shapeTy_mono (shapeTy_mono (shapeTy_mono h))
  · exact (l1Draw_ok b hb 1 p (by omega) (by omega)).mono (by omega) fun t h => shapeTy_mono (shapeTy_mono h)
  · exact (l1Draw_ok b hb 2 p (by omega) (by omega)).mono (by omega) fun t h => shapeTy_mono h
  · exact (l1Draw_ok b hb 3 p (by omega) (by omega)).mono (by omega) fun t h => h

theorem l2Atom_ok (b : List Int) (hb : okB b) (s : List UInt8) (hs : s.length ≤ 1000) (p : Nat) (hp : p + 3 ≤ 1099511627776) : Draws Tryz.prog 125 [.s s] b p 3 (RV aTm noA fun e => nTm e ≤ 1) := by
  have hnum := l2Num_ok
  refine Draws.of_body Tryz.func125 (by kernel_rfl) rfl (by kernel_rfl) (by simp [Tryz.ntmps125]) ?_
  rw [Tryz.ntmps125]
  repeat' first | (refine aops_end (hK _ ?_); clear hK K) | (refine aops_go ?_; simp; (try simp (disch := omega) only [wrap64]); (try (refine gen fun q hq => ?_; cases q <;> (try simp at hq) <;> (try (have hh : True := hq; clear hh hq))))) | (refine wpcall_pure rfl (hnum _) ?_; simp; (try simp (disch := omega) only [wrap64]); (try (refine gen fun q hq => ?_; cases q <;> (try simp at hq) <;> (try (have hh : True := hq; clear hh hq))))) | (refine wpcall_dr 0 rfl rfl (pick_ok b hb _ (by omega) 4 (by omega)) (fun x1 p1 hx1 hp1 hp1' => ?_); simp; (try simp (disch := omega) only [wrap64]); (try (refine gen fun q hq => ?_; cases q <;> (try simp at hq) <;> (try (have hh : True := hq; clear hh hq))))) | (refine wpcall_dr 0 rfl rfl (pick_ok b hb _ (by omega) 5 (by omega)) (fun x1 p1 hx1 hp1 hp1' => ?_); simp; (try simp (disch := omega) only [wrap64]); (try (refine gen fun q hq => ?_; cases q <;> (try simp at hq) <;> (try (have hh : True := hq; clear hh hq))))) | (refine wpcall_dr 0 rfl rfl (pick_ok b hb _ (by omega) s.length (by omega)) (fun x1 p1 hx1 hp1 hp1' => ?_); simp; (try simp (disch := omega) only [wrap64]); (try (refine gen fun q hq => ?_; cases q <;> (try simp at hq) <;> (try (have hh : True := hq; clear hh hq))))) | (refine wpcall_dr 0 rfl rfl (num_ok b hb _ (by omega) [1, 0, 2, 5, 999, 7] (by simp) (by simp)) (fun x1 p1 hx1 hp1 hp1' => ?_); simp; (try simp (disch := omega) only [wrap64]); (try (refine gen fun q hq => ?_; cases q <;> (try simp at hq) <;> (try (have hh : True := hq; clear hh hq))))) | refine TX.rs (fun _ => false) fun K hK => ?_ | (refine ⟨by omega, ?_⟩) | refine TX.cond rfl (fun hcnd => ?_) (fun hcnd => absurd hcnd (by decide)) | refine TX.cond rfl (fun hcnd => absurd hcnd (by decide)) (fun hcnd => ?_) | refine TX.seq ?_ | refine TX.block ?_ | refine TX.skip ?_ | refine EX.thenN ?_ | refine EX.blockN ?_
  all_goals (
    refine TX.ret ?_
    repeat' first | refine EX.outR ?_ | refine EX.thenR ?_ | refine EX.blockR ?_ | refine EX.unrR ?_
    apply EX.drA (ks := [])
    case he => exact Or.inr rfl
    case hys => simp [resAs, getAs, Tryz.results125] <;> rfl
    case hv => first | (dsimp only [Av.one]; exact rfl) | dsimp only [Av.one]
    case hx => repeat' first | exact IsT2.var _ | exact IsV.tmv _ | exact IsTm.var _ | exact IsTy.row _ | exact IsTm.row _ | exact IsTys.nil | exact IsTms.nil | exact IsBds.nil | exact IsTys.map _ | exact IsTms.map _ | exact IsBds.map _ | exact IsV.int _ | exact IsV.str _ | exact IsV.bool _ | apply IsV.p2 | apply IsV.p3 | apply IsV.tm | apply IsV.ty | apply IsTm.node | apply IsTy.of | apply IsTys.cons | apply IsTms.cons | apply IsBds.cons | apply IsV.tys | apply IsV.tms | apply IsV.bds | apply IsT2.node | apply IsTys.app | apply IsTms.app | apply IsBds.app
    case hA => exact rfl
    case hks => simp
    case hV => exact rfl
    case h1 => omega
    case h2 => omega
    case hg => simp [nTm_mk, nTy_mk, nTyS, nTmS] <;> omega)

theorem l2Draw_ok (b : List Int) (hb : okB b) : ∀ (d : Nat) (s : List UInt8) (p : Nat), d ≤ 50 → s.length + d ≤ 100 → p + 400 * 4 ^ d ≤ 1099511627776 → Draws Tryz.prog 83 [.s s, .i d] b p (400 * 4 ^ d) (RV aTm noA fun e => nTm e ≤ 400 * 4 ^ d) := by
  intro d
  induction d with
  | zero =>
    intro s p hd hs hp
    refine Draws.of_body Tryz.func83 (by kernel_rfl) rfl (by kernel_rfl) (by simp [Tryz.ntmps83]) ?_
    rw [Tryz.ntmps83]
    repeat' first | (refine aops_end (hK _ ?_); clear hK K) | (refine aops_go ?_; simp; (try simp (disch := omega) only [wrap64]); (try (refine gen fun q hq => ?_; cases q <;> (try simp at hq) <;> (try (have hh : True := hq; clear hh hq))))) | (refine wpcall_dr 0 rfl rfl (l2Atom_ok b hb s (by omega) _ (by omega)) (fun x1 p1 hx1 hp1 hp1' => ?_); simp; (try simp (disch := omega) only [wrap64]); (try (refine gen fun q hq => ?_; cases q <;> (try simp at hq) <;> (try (have hh : True := hq; clear hh hq))))) | refine TX.rs (fun _ => false) fun K hK => ?_ | refine TX.cond rfl (fun hcnd => ?_) (fun hcnd => absurd hcnd (by decide)) | refine TX.seq ?_
    all_goals (
      refine TX.ret ?_
      repeat' first | refine EX.outR ?_ | refine EX.thenR ?_ | refine EX.blockR ?_ | refine EX.unrR ?_
      apply EX.drA (ks := [])
      case he => exact Or.inr rfl
      case hys => simp [resAs, getAs, Tryz.results83] <;> rfl
      case hv => first | (dsimp only [Av.one]; exact rfl) | dsimp only [Av.one]
      case hx => repeat' first | exact IsT2.var _ | exact IsV.tmv _ | exact IsTm.var _ | exact IsTy.row _ | exact IsTm.row _ | exact IsTys.nil | exact IsTms.nil | exact IsBds.nil | exact IsTys.map _ | exact IsTms.map _ | exact IsBds.map _ | exact IsV.int _ | exact IsV.str _ | exact IsV.bool _ | apply IsV.p2 | apply IsV.p3 | apply IsV.tm | apply IsV.ty | apply IsTm.node | apply IsTy.of | apply IsTys.cons | apply IsTms.cons | apply IsBds.cons | apply IsV.tys | apply IsV.tms | apply IsV.bds | apply IsT2.node | apply IsTys.app | apply IsTms.app | apply IsBds.app
      case hA => exact rfl
      case hks => simp
      case hV => exact rfl
      case h1 => omega
      case h2 => omega
      case hg => omega)
  | succ d ih =>
    intro s p hd hs hp
    have h4 : 4 ^ (d + 1) = 4 * 4 ^ d := by rw [Nat.pow_succ]; omega
    have h1 : 1 ≤ 4 ^ d := Nat.pos_of_ne_zero (by simp)
    rw [h4] at hp ⊢
    generalize hN : 4 ^ d = N at *
    by_cases hd0 : d = 0
    · subst hd0
      refine Draws.of_body Tryz.func83 (by kernel_rfl) rfl (by kernel_rfl) (by simp [Tryz.ntmps83]) ?_
      rw [Tryz.ntmps83]
      repeat' first | (refine aops_end (hK _ ?_); clear hK K) | (refine aops_go ?_; simp; (try simp (disch := omega) only [wrap64]); (try (refine gen fun q hq => ?_; cases q <;> (try simp at hq) <;> (try (have hh : True := hq; clear hh hq))))) | (refine wpcall_dr 0 rfl rfl (l2Atom_ok b hb s (by omega) _ (by omega)) (fun x1 p1 hx1 hp1 hp1' => ?_); simp; (try simp (disch := omega) only [wrap64]); (try (refine gen fun q hq => ?_; cases q <;> (try simp at hq) <;> (try (have hh : True := hq; clear hh hq))))) | refine TX.rs (fun _ => false) fun K hK => ?_ | refine TX.cond rfl (fun hcnd => ?_) (fun hcnd => absurd hcnd (by decide)) | refine TX.seq ?_
      all_goals (
        refine TX.ret ?_
        repeat' first | refine EX.outR ?_ | refine EX.thenR ?_ | refine EX.blockR ?_ | refine EX.unrR ?_
        apply EX.drA (ks := [])
        case he => exact Or.inr rfl
        case hys => simp [resAs, getAs, Tryz.results83] <;> rfl
        case hv => first | (dsimp only [Av.one]; exact rfl) | dsimp only [Av.one]
        case hx => repeat' first | exact IsT2.var _ | exact IsV.tmv _ | exact IsTm.var _ | exact IsTy.row _ | exact IsTm.row _ | exact IsTys.nil | exact IsTms.nil | exact IsBds.nil | exact IsTys.map _ | exact IsTms.map _ | exact IsBds.map _ | exact IsV.int _ | exact IsV.str _ | exact IsV.bool _ | apply IsV.p2 | apply IsV.p3 | apply IsV.tm | apply IsV.ty | apply IsTm.node | apply IsTy.of | apply IsTys.cons | apply IsTms.cons | apply IsBds.cons | apply IsV.tys | apply IsV.tms | apply IsV.bds | apply IsT2.node | apply IsTys.app | apply IsTms.app | apply IsBds.app
        case hA => exact rfl
        case hks => simp
        case hV => exact rfl
        case h1 => omega
        case h2 => omega
        case hg => omega)
    have hd2 : ¬ ((d : Int) + 1 < 2) := by omega
    have hd3 : (d : Int) + 1 - 1 = d := by omega
    have hadd : ∀ c, (addM c s).length + d ≤ 100 := fun c => by have := addM_len c s; omega
    refine Draws.of_body Tryz.func83 (by kernel_rfl) rfl (by kernel_rfl) (by simp [Tryz.ntmps83]) ?_
    rw [Tryz.ntmps83]
    repeat' first | ((first | refine aops_end (hK _ ?_) | refine aopsF_end (hK _ ?_)); clear hK K) | ((first | refine aops_go ?_ | refine aopsF_go ?_); simp [kidsM, hd2, hd3]; (try simp (disch := omega) only [wrap64]); (try (refine gen fun q hq => ?_; cases q <;> (try simp [kidsM, hd2, hd3] at hq) <;> (try (have hh : True := hq; clear hh hq))))) | (refine wpcall_pure rfl (l2Kids_ok _) ?_; simp [kidsM, hd2, hd3]; (try simp (disch := omega) only [wrap64]); (try (refine gen fun q hq => ?_; cases q <;> (try simp [kidsM, hd2, hd3] at hq) <;> (try (have hh : True := hq; clear hh hq))))) | (refine wpcall_pure rfl (l2Add_ok s _ (by omega)) ?_; simp [kidsM, hd2, hd3]; (try simp (disch := omega) only [wrap64]); (try (refine gen fun q hq => ?_; cases q <;> (try simp [kidsM, hd2, hd3] at hq) <;> (try (have hh : True := hq; clear hh hq))))) | (refine wpcall_dr 0 rfl rfl (num_ok b hb _ (by omega) [6, 5, 7, 9, 13, 10, 11, 8, 12, 5, 6] (by simp) (by simp)) (fun x p1 hx hp1 hp1' => ?_); simp at hx; (have hx2 : x = 6 ∨ x = 5 ∨ x = 7 ∨ x = 9 ∨ x = 13 ∨ x = 10 ∨ x = 11 ∨ x = 8 ∨ x = 12 := by omega); clear hx; rcases hx2 with rfl | rfl | rfl | rfl | rfl | rfl | rfl | rfl | rfl <;> (simp [kidsM, hd2, hd3]; (try simp (disch := omega) only [wrap64]))) | (refine wpcall_dr 0 rfl rfl (l2Atom_ok b hb s (by omega) _ (by omega)) (fun x1 p1 hx1 hp1 hp1' => ?_); simp [kidsM, hd2, hd3]; (try simp (disch := omega) only [wrap64]); (try (refine gen fun q hq => ?_; cases q <;> (try simp [kidsM, hd2, hd3] at hq) <;> (try (have hh : True := hq; clear hh hq))))) | (refine wpcall_dr 0 rfl rfl (pick_ok b hb _ (by omega) 6 (by omega)) (fun x1 p1 hx1 hp1 hp1' => ?_); simp [kidsM, hd2, hd3]; (try simp (disch := omega) only [wrap64]); (try (refine gen fun q hq => ?_; cases q <;> (try simp [kidsM, hd2, hd3] at hq) <;> (try (have hh : True := hq; clear hh hq))))) | (refine wpcall_dr 0 rfl rfl (ih s _ (by omega) (by omega) (by omega)) (fun x1 p1 hx1 hp1 hp1' => ?_); simp [kidsM, hd2, hd3]; (try simp (disch := omega) only [wrap64]); (try (refine gen fun q hq => ?_; cases q <;> (try simp [kidsM, hd2, hd3] at hq) <;> (try (have hh : True := hq; clear hh hq))))) | (refine wpcall_dr 0 rfl rfl (ih (addM _ s) _ (by omega) (hadd _) (by omega)) (fun x1 p1 hx1 hp1 hp1' => ?_); simp [kidsM, hd2, hd3]; (try simp (disch := omega) only [wrap64]); (try (refine gen fun q hq => ?_; cases q <;> (try simp [kidsM, hd2, hd3] at hq) <;> (try (have hh : True := hq; clear hh hq))))) | (refine wpcall_dr 0 rfl rfl (of_ok b hb _ (by omega) [[120], [121], [122], [102]] (by simp) (by simp)) (fun x p1 hx hp1 hp1' => ?_); (obtain ⟨c, rfl⟩ : ∃ c, x = [c] := by simp at hx; rcases hx with rfl | rfl | rfl | rfl <;> exact ⟨_, rfl⟩); simp) | (refine wpcall_dr 0 rfl rfl (num_ok b hb _ (by omega) [2, 1, 3, 2] (by simp) (by simp)) (fun y p1 hy hp1 hp1' => ?_); simp at hy; simp) | (refine wpcall_dr 0 rfl rfl (l1DrawT_ok b hb _ (by omega) _ (by omega)) (fun t p1 ht hp1 hp1' => ?_); replace ht := shape4 ht; simp) | refine TX.rdF1 (id := 13) mixed (fun _ => false) [6, 8, 10] [1] 7 [0] (by kernel_rfl) fun K hK => ?_ | refine TX.rs (fun _ => false) fun K hK => ?_ | refine TX.rs1 (fun _ => false) fun K hK => ?_ | refine TX.cond rfl (fun hcnd => ?_) (fun hcnd => absurd hcnd (by decide)) | refine TX.cond rfl (fun hcnd => absurd hcnd (by decide)) (fun hcnd => ?_) | refine TX.seq ?_ | refine TX.block ?_ | refine TX.skip ?_ | refine TX.exit ?_ | refine EX.thenN ?_ | refine EX.thenE ?_ | refine EX.blockN ?_ | refine EX.blockE ?_ | refine EX.unrE ?_ | refine EX.againN ?_ | refine TX.unroll ?_
    all_goals (
      refine TX.ret ?_
      repeat' first | refine EX.outR ?_ | refine EX.thenR ?_ | refine EX.blockR ?_ | refine EX.unrR ?_
      apply EX.drA (ks := [])
      case he => exact Or.inr rfl
      case hys => simp [resAs, getAs, Tryz.results83] <;> rfl
      case hv => first | (dsimp only [Av.one]; exact rfl) | dsimp only [Av.one]
      case hx => repeat' first | exact IsT2.var _ | exact IsV.tmv _ | exact IsTm.var _ | exact IsTy.row _ | exact IsTm.row _ | exact IsTys.nil | exact IsTms.nil | exact IsBds.nil | exact IsTys.map _ | exact IsTms.map _ | exact IsBds.map _ | exact IsV.int _ | exact IsV.str _ | exact IsV.bool _ | apply IsV.p2 | apply IsV.p3 | apply IsV.tm | apply IsV.ty | apply IsTm.node | apply IsTy.of | apply IsTys.cons | apply IsTms.cons | apply IsBds.cons | apply IsV.tys | apply IsV.tms | apply IsV.bds | apply IsT2.node | apply IsTys.app | apply IsTms.app | apply IsBds.app
      case hA => exact rfl
      case hks => simp
      case hV => exact rfl
      case h1 => omega
      case h2 => omega
      case hg => (try simp [nTm_mk, nTy_mk, nTyS, nTmS]) <;> omega)
end Go.Proofs.YtdcahkkclldhmaaGreat
