/- A part of the library of this seat: a value-semantic program logic over the model, plain models, and walks of functions. -/
import Derived.Test.YtbakdfnmippcoaaGreatC20
set_option linter.unusedVariables false
set_option linter.unusedSimpArgs false
namespace Go.Proofs.YtbakdfnmippcoaaGreat
attribute [-simp] Go.Av.callJ
open Go Go.Av
attribute [local irreducible] T ACalls TX EX LX Draws Some_ ACallsX eTy eTm MTy.kind MTy.kids MTm.kind MTm.name MTm.num MTm.ty MTm.fr MTm.label MTm.kids
attribute [local simp] eTy_def eTm_def
set_option maxHeartbeats 16000000
set_option maxRecDepth 8000
attribute [local irreducible] TJ FCalls

theorem eqIntS_ok (l : List Int) (hl : l.length ≤ 1099511627776) : ACalls Tryz.prog 8 [.l (rIn l), .l (rIn l)] [] (.b true) [] [] := by
  refine ACalls.of_body Tryz.func8 (by kernel_rfl) rfl (by kernel_rfl) (by simp [Tryz.ntmps8]) (by simp) ?_
  rw [Tryz.ntmps8]
  repeat' first | ((first | refine aops_end (hK _ ?_) | refine aopsD_end (hK _ ?_) | refine aopsF_end (hK _ ?_)); clear hK K) | ((first | refine aops_go ?_ | refine aopsD_go ?_ | refine aopsF_go ?_); simp; (try (refine gen fun q hq => ?_; cases q <;> (try simp at hq) <;> (try (have hh : True := hq; clear hh hq))))) | refine T.rd (id := 6) mixed (fun _ => false) [] (by kernel_rfl) fun K hK => ?_ | refine T.rd1 (id := 6) mixed (fun _ => false) [] (by kernel_rfl) fun K hK => ?_ | refine T.r0 fun K hK => ?_ | refine T.r1 fun K hK => ?_ | (refine ⟨by omega, ?_⟩) | refine T.ct rfl ?_ | refine T.cf rfl ?_ | refine T.seq ?_ | refine T.block ?_ | refine T.skip ?_ | refine T.exit ?_
  refine T.loopK (α := Nat) [0, 1] (fun p => [(4, .b false), (5, .i p)]) (fun _ => []) (fun _ => []) (fun _ _ => []) (fun p => l.length + 1 - p) (fun p => p ≤ l.length) (by simp; rfl) (fun p hx => ?_) 0 (by simp) (by simp) (by simp) (by simp)
  dsimp only at hx ⊢
  simp only [ups, List.cons_append, List.nil_append]
  by_cases hlt : p < l.length
  · obtain ⟨u, ht⟩ := get_lt hlt
    have htm : u ∈ l := List.mem_of_getElem? ht
    have hgt : l[p] = u := by rw [List.getElem?_eq_getElem hlt] at ht; exact Option.some.inj ht
    have hdr : l.drop p = u :: l.drop (p + 1) := by rw [List.drop_eq_getElem_cons hlt, hgt]
    repeat' first | ((first | refine aops_end (hK _ ?_) | refine aopsD_end (hK _ ?_) | refine aopsF_end (hK _ ?_)); clear hK K) | ((first | refine aops_go ?_ | refine aopsD_go ?_ | refine aopsF_go ?_); simp [hlt, hgt]; (try simp (disch := omega) only [wrap64]); (try (refine gen fun q hq => ?_; cases q <;> (try simp [hlt, hgt] at hq) <;> (try (have hh : True := hq; clear hh hq))))) | (refine ⟨p + 1, by dsimp only; omega, by dsimp only; omega, ?_⟩ <;> simp (disch := omega) [wrap64]) | refine T.rd (id := 6) mixed (fun _ => false) [] (by kernel_rfl) fun K hK => ?_ | refine T.rd1 (id := 6) mixed (fun _ => false) [] (by kernel_rfl) fun K hK => ?_ | refine T.r0 fun K hK => ?_ | refine T.r1 fun K hK => ?_ | (refine ⟨by omega, ?_⟩) | refine T.ct rfl ?_ | refine T.cf rfl ?_ | refine T.seq ?_ | refine T.block ?_ | refine T.skip ?_ | refine T.exit ?_
  · have hp' : p = l.length := by omega
    subst hp'
    repeat' first | ((first | refine aops_end (hK _ ?_) | refine aopsD_end (hK _ ?_) | refine aopsF_end (hK _ ?_)); clear hK K) | ((first | refine aops_go ?_ | refine aopsD_go ?_ | refine aopsF_go ?_); simp [hlt]; (try (refine gen fun q hq => ?_; cases q <;> (try simp [hlt] at hq) <;> (try (have hh : True := hq; clear hh hq))))) | (refine T.ret (Done.data (Or.inr rfl) ?_ ?_) <;> simp [Tryz.results8] <;> omega) | refine T.rd (id := 6) mixed (fun _ => false) [] (by kernel_rfl) fun K hK => ?_ | refine T.rd1 (id := 6) mixed (fun _ => false) [] (by kernel_rfl) fun K hK => ?_ | refine T.r0 fun K hK => ?_ | refine T.r1 fun K hK => ?_ | (refine ⟨by omega, ?_⟩) | refine T.ct rfl ?_ | refine T.cf rfl ?_ | refine T.seq ?_ | refine T.block ?_ | refine T.skip ?_ | refine T.exit ?_

theorem markIntS_tree (l : List Int) (k : Nat) (hk : k + l.length ≤ 1099511627776) (v : Value) : FCalls Tryz.prog 11 [.c (.d (.raw v)), .i (k : Int)] [(inK 3 l, v)] fun r L' => r = .i ((k + l.length : Nat) : Int) ∧ L' = [(inK 3 (seqI k l.length), v)] := by
  rw [inK_unf, inK_unf, seqI_len]
  refine FCalls.mono (R := fun r L' => ∃ cs', L' = [(.t 3 1 l.length cs', v)] ∧ (r = .i ((k + l.length : Nat) : Int) ∧ cs' = inRows (seqI k l.length))) ?_ (by rintro r L' ⟨_, rfl, rfl, rfl⟩; exact ⟨rfl, rfl⟩)
  refine FCalls.of_bodyA Tryz.func11 (by kernel_rfl) rfl (by kernel_rfl) (by simp [Tryz.ntmps11]) ?_ ?_
  rotate_left
  rw [Tryz.ntmps11]
  rotate_left
  · exact inRows_scal l
  intro ds Lc hmk hdl
  obtain ⟨hch, rfl⟩ := mk_in_inv hmk
  rw [hch]
  clear hmk hdl hch
  repeat' first | (refine aopsJ_end (hK _ _ ?_); clear hK K) | (refine aopsD_end (hK _ ?_); clear hK K) | (refine aopsJ_go ?_; simp; (try first | (refine OpsJ.gen fun q hq => ?_; cases q <;> (try simp at hq) <;> (try (have hh : True := hq; clear hh hq))))) | (refine aopsD_go ?_; simp; (try first | (refine OpsD.gen fun q hq => ?_; cases q <;> (try simp at hq) <;> (try (have hh : True := hq; clear hh hq))))) | (refine aopsF_end (hK _ ?_); clear hK K) | (refine aopsF_go ?_; simp; (try first | (refine OpsF.gen fun q hq => ?_; cases q <;> (try simp at hq) <;> (try (have hh : True := hq; clear hh hq))))) | refine TJ.rs (fun _ => false) fun K hK => ?_ | refine TJ.rs1 (fun _ => false) fun K hK => ?_ | (refine And.intro (by omega) ?_) | refine TJ.cond rfl (fun hcnd => ?_) (fun hcnd => absurd hcnd (by decide)) | refine TJ.cond rfl (fun hcnd => absurd hcnd (by decide)) (fun hcnd => ?_) | refine TJ.seq ?_ | refine TJ.block ?_ | refine TJ.skip ?_ | refine TJ.exit ?_
  refine TJ.loopK (α := Nat) [0, 4] (fun j => [(1, .i ((k + j : Nat) : Int)), (5, .i j)]) (fun _ => []) (fun _ => []) (fun j _ => [{ sz := 1, ety := 3, rows := rIn (mI l k j), wr := true }]) (fun j => []) (fun j => l.length + 1 - j) (fun j => j ≤ l.length) (by simp; rfl) (fun j hj => ?_) 0 (by simp) (by simp) (by simp [mI_zero]) (by simp) (M := []) (by simp)
  dsimp only at hj ⊢
  simp only [ups, List.cons_append, List.nil_append]
  by_cases hlt : j < l.length
  · have hrl : (mI l k j).length = l.length := mI_len hj
    have hrs : (rIn (mI l k j)).set j [.i ((k + j : Nat) : Int)] = rIn (mI l k (j + 1)) := by rw [mI_succ hlt, rIn, rIn, List.map_set]
    obtain ⟨R, hR⟩ : ∃ R, R = rIn (mI l k j) := ⟨_, rfl⟩
    have hRl : R.length = l.length := by rw [hR]; simp [hrl]
    have hrj : ∀ h, ∃ n, R[j]'h = [DV.i n] := fun h => by subst hR; exact ⟨_, by simp; rfl⟩
    obtain ⟨n0, hn0⟩ := hrj (by omega)
    rw [← hR] at hrs ⊢
    obtain ⟨kj, hkj⟩ : ∃ kj, kj = k + j := ⟨_, rfl⟩
    have hkj2 : ((k + (j + 1) : Nat) : Int) = (kj : Int) + 1 := by omega
    rw [← hkj] at hrs ⊢
    repeat' first | (refine aopsJ_end (hK _ _ ?_); clear hK K) | (refine aopsD_end (hK _ ?_); clear hK K) | (refine aopsJ_go ?_; simp [hlt, hRl, hn0]; (try simp (disch := omega) only [wrap64]); (try first | (refine OpsJ.gen fun q hq => ?_; cases q <;> (try simp [hlt, hRl, hn0] at hq) <;> (try (have hh : True := hq; clear hh hq))))) | (refine aopsD_go ?_; simp [hlt, hRl, hn0]; (try simp (disch := omega) only [wrap64]); (try first | (refine OpsD.gen fun q hq => ?_; cases q <;> (try simp [hlt, hRl, hn0] at hq) <;> (try (have hh : True := hq; clear hh hq))))) | (refine aopsF_end (hK _ ?_); clear hK K) | (refine aopsF_go ?_; simp [hlt, hRl, hn0]; (try simp (disch := omega) only [wrap64]); (try first | (refine OpsF.gen fun q hq => ?_; cases q <;> (try simp [hlt, hRl, hn0] at hq) <;> (try (have hh : True := hq; clear hh hq))))) | refine TJ.rs (fun _ => false) fun K hK => ?_ | refine TJ.rs1 (fun _ => false) fun K hK => ?_ | (refine And.intro (by omega) ?_) | refine TJ.cond rfl (fun hcnd => ?_) (fun hcnd => absurd hcnd (by decide)) | refine TJ.cond rfl (fun hcnd => absurd hcnd (by decide)) (fun hcnd => ?_) | refine TJ.seq ?_ | refine TJ.block ?_ | refine TJ.skip ?_ | refine TJ.exit ?_
    refine ⟨j + 1, [], by dsimp only; omega, by dsimp only; omega, ?_, ?_⟩
    · dsimp only
      rw [← hrs, hkj2]
      simp (disch := omega) [wrap64]
    · simp
  · have hp' : j = l.length := by omega
    subst hp'
    rw [mI_all]
    repeat' first | (refine aopsJ_end (hK _ _ ?_); clear hK K) | (refine aopsD_end (hK _ ?_); clear hK K) | (refine aopsJ_go ?_; simp [hlt]; (try first | (refine OpsJ.gen fun q hq => ?_; cases q <;> (try simp [hlt] at hq) <;> (try (have hh : True := hq; clear hh hq))))) | (refine aopsD_go ?_; simp [hlt]; (try first | (refine OpsD.gen fun q hq => ?_; cases q <;> (try simp [hlt] at hq) <;> (try (have hh : True := hq; clear hh hq))))) | (refine aopsF_end (hK _ ?_); clear hK K) | (refine aopsF_go ?_; simp [hlt]; (try first | (refine OpsF.gen fun q hq => ?_; cases q <;> (try simp [hlt] at hq) <;> (try (have hh : True := hq; clear hh hq))))) | refine TJ.rs (fun _ => false) fun K hK => ?_ | refine TJ.rs1 (fun _ => false) fun K hK => ?_ | (refine And.intro (by omega) ?_) | refine TJ.cond rfl (fun hcnd => ?_) (fun hcnd => absurd hcnd (by decide)) | refine TJ.cond rfl (fun hcnd => absurd hcnd (by decide)) (fun hcnd => ?_) | refine TJ.seq ?_ | refine TJ.block ?_ | refine TJ.skip ?_ | refine TJ.exit ?_
    refine TJ.ret (DoneA.one (r := .i ((k + l.length : Nat) : Int)) (Or.inr rfl) (by simp [Tryz.results11]) (by simp [DV.scal]) rfl ?_ (mk_in (seqI k l.length)) (M := []) (by simp) ⟨rfl, rfl⟩)
    simp [seqI_len]

theorem heldIntS_ok (n k : Nat) (hk : k + n ≤ 1099511627776) : ACalls Tryz.prog 12 [.l (rIn (seqI k n)), .i (k : Int)] [] (.i ((k + n : Nat) : Int)) [] [] := by
  obtain ⟨Z, hZ⟩ : ∃ Z, Z = seqI k n := ⟨_, rfl⟩
  have hZl : Z.length = n := by rw [hZ, seqI_len]
  rw [← hZ]
  refine ACalls.of_body Tryz.func12 (by kernel_rfl) rfl (by kernel_rfl) (by simp [Tryz.ntmps12]) (by simp) ?_
  rw [Tryz.ntmps12]
  repeat' first | ((first | refine aops_end (hK _ ?_) | refine aopsD_end (hK _ ?_) | refine aopsF_end (hK _ ?_)); clear hK K) | ((first | refine aops_go ?_ | refine aopsD_go ?_ | refine aopsF_go ?_); simp; (try (refine gen fun q hq => ?_; cases q <;> (try simp at hq) <;> (try (have hh : True := hq; clear hh hq))))) | refine T.r0 fun K hK => ?_ | refine T.r1 fun K hK => ?_ | (refine ⟨by omega, ?_⟩) | refine T.ct rfl ?_ | refine T.cf rfl ?_ | refine T.seq ?_ | refine T.block ?_ | refine T.skip ?_ | refine T.exit ?_
  refine T.loopK (α := Nat) [0] (fun j => [(1, .i ((k + j : Nat) : Int)), (4, .i 0), (5, .i j)]) (fun _ => []) (fun _ => []) (fun j _ => []) (fun j => n + 1 - j) (fun j => j ≤ n) (by simp; rfl) (fun j hj => ?_) 0 (by simp) (by simp) (by simp) (by simp)
  dsimp only at hj ⊢
  simp only [ups, List.cons_append, List.nil_append]
  by_cases hlt : j < n
  · have hZj : Z[j]? = some ((k + j : Nat) : Int) := by rw [hZ]; exact seqI_at hlt
    have hgt : ∀ h, Z[j]'h = ((k + j : Nat) : Int) := fun hh => by rw [List.getElem?_eq_getElem hh] at hZj; exact Option.some.inj hZj
    obtain ⟨kj, hkj⟩ : ∃ kj, kj = k + j := ⟨_, rfl⟩
    have hkj2 : ((k + (j + 1) : Nat) : Int) = (kj : Int) + 1 := by omega
    rw [← hkj] at hgt ⊢
    repeat' first | ((first | refine aops_end (hK _ ?_) | refine aopsD_end (hK _ ?_) | refine aopsF_end (hK _ ?_)); clear hK K) | ((first | refine aops_go ?_ | refine aopsD_go ?_ | refine aopsF_go ?_); simp [hlt, hZl, hgt]; (try simp (disch := omega) only [wrap64]); (try (refine gen fun q hq => ?_; cases q <;> (try simp [hlt, hZl, hgt] at hq) <;> (try (have hh : True := hq; clear hh hq))))) | (refine ⟨j + 1, by dsimp only; omega, by dsimp only; omega, ?_⟩; (dsimp only; rw [hkj2]; simp (disch := omega) [wrap64])) | refine T.r0 fun K hK => ?_ | refine T.r1 fun K hK => ?_ | (refine ⟨by omega, ?_⟩) | refine T.ct rfl ?_ | refine T.cf rfl ?_ | refine T.seq ?_ | refine T.block ?_ | refine T.skip ?_ | refine T.exit ?_
  · have hp' : j = n := by omega
    subst hp'
    repeat' first | ((first | refine aops_end (hK _ ?_) | refine aopsD_end (hK _ ?_) | refine aopsF_end (hK _ ?_)); clear hK K) | ((first | refine aops_go ?_ | refine aopsD_go ?_ | refine aopsF_go ?_); simp [hlt, hZl]; (try (refine gen fun q hq => ?_; cases q <;> (try simp [hlt, hZl] at hq) <;> (try (have hh : True := hq; clear hh hq))))) | (refine T.ret (Done.data (Or.inr rfl) ?_ ?_) <;> simp [Tryz.results12] <;> omega) | refine T.r0 fun K hK => ?_ | refine T.r1 fun K hK => ?_ | (refine ⟨by omega, ?_⟩) | refine T.ct rfl ?_ | refine T.cf rfl ?_ | refine T.seq ?_ | refine T.block ?_ | refine T.skip ?_ | refine T.exit ?_
end Go.Proofs.YtbakdfnmippcoaaGreat

namespace Go.Proofs.YtbakdfnmippcoaaGreat
attribute [-simp] Go.Av.callJ
open Go Go.Av
attribute [local irreducible] T ACalls TX EX LX Draws Some_ ACallsX eTy eTm MTy.kind MTy.kids MTm.kind MTm.name MTm.num MTm.ty MTm.fr MTm.label MTm.kids
attribute [local simp] eTy_def eTm_def
set_option maxHeartbeats 16000000
set_option maxRecDepth 8000
attribute [local irreducible] TJ FCalls

theorem blurred_ok (e : MTm) (m : Nat) (hn : nTm e ≤ 1073741824) (hm : m < 64) (h6 : (typesM e).length ≤ 6) (hsh : ∀ t ∈ typesM e, shapeTy 4 t = true) : ACalls Tryz.prog 57 [aTm e, .i (m : Int)] [] (aTm (blurM e m)) [] [] := by
  have h1 := types_own e (by omega)
  have h2 := base_ok 1
  have hbs := blurL_shape (m := m) hsh
  have h3 := retyped_ok e (by omega) (blurL (typesM e) m) (fun t ht => by have := shape4 (hbs t ht); omega) (by rw [blurL_len]; omega) (by rw [blurL_len]; omega)
  rw [List.drop_eq_nil_of_le (by rw [blurL_len]; omega), ← blurK_all] at h3
  rw [blurM, ← blurK_all]
  generalize typesM e = Tl at *
  generalize withM e (blurK Tl m Tl.length) = Y at *
  refine ACalls.of_body Tryz.func57 (by kernel_rfl) rfl (by kernel_rfl) (by simp [Tryz.ntmps57]) (by simp) ?_
  rw [Tryz.ntmps57]
  repeat' first | ((first | refine aops_end (hK _ ?_) | refine aopsD_end (hK _ ?_) | refine aopsF_end (hK _ ?_)); clear hK K) | ((first | refine aops_go ?_ | refine aopsD_go ?_ | refine aopsF_go ?_); simp; (try (refine gen fun q hq => ?_; cases q <;> (try simp at hq) <;> (try (have hh : True := hq; clear hh hq))))) | (refine wpcall_own rfl (h1) ?_; simp; (try (refine gen fun q hq => ?_; cases q <;> (try simp at hq) <;> (try (have hh : True := hq; clear hh hq))))) | refine T.r0 fun K hK => ?_ | refine T.r1 fun K hK => ?_ | (refine ⟨by omega, ?_⟩) | refine T.ct rfl ?_ | refine T.cf rfl ?_ | refine T.seq ?_ | refine T.block ?_ | refine T.skip ?_ | refine T.exit ?_
  refine T.loopK (α := Nat) [1, 2, 4, 5, 12] (fun j => [(13, .i j)]) (fun _ => []) (fun _ => []) (fun j _ => [{ sz := 2, ety := 34, rows := (blurK Tl m j).map eTy, wr := true }]) (fun j => Tl.length + 1 - j) (fun j => j ≤ Tl.length) (by simp; rfl) (fun j hj => ?_) 0 (by simp) (by simp) (by simp [blurK_zero]) (by simp)
  dsimp only at hj ⊢
  simp only [ups, List.set_cons_zero, List.set_cons_succ, List.cons_append, List.nil_append]
  by_cases hlt : j < Tl.length
  · obtain ⟨u, hu⟩ := get_lt hlt
    have hbit : bitI .and .i64 ((m : Int).fdiv (2 ^ min j IntKind.i64.bits)) 1 = ((m / 2 ^ j % 2 : Nat) : Int) := bit_and m hm j (by omega)
    have hset := blurK_succ (m := m) hu
    have hkl : ((blurK Tl m j).map eTy).length = Tl.length := by rw [List.length_map, blurK_len hj]
    by_cases hb : m / 2 ^ j % 2 = 1
    · rw [if_pos hb] at hset
      rw [hb] at hbit
      have hset' : ((blurK Tl m j).map eTy).set j [.i 1, .sl []] = (blurK Tl m (j + 1)).map eTy := by rw [hset, List.map_set]; simp [eTy_def]
      obtain ⟨R, hR⟩ : ∃ R, R = (blurK Tl m j).map eTy := ⟨_, rfl⟩
      rw [← hR] at hset' hkl ⊢
      have hrj : ∀ h, (R[j]'h).drop 2 = [] := fun h => by subst hR; simp [eTy_def]
      repeat' first | ((first | refine aops_end (hK _ ?_) | refine aopsD_end (hK _ ?_) | refine aopsF_end (hK _ ?_)); clear hK K) | ((first | refine aops_go ?_ | refine aopsD_go ?_ | refine aopsF_go ?_); simp [hlt, hkl, hbit, hrj]; (try simp (disch := omega) only [wrap64]); (try (refine gen fun q hq => ?_; cases q <;> (try simp [hlt, hkl, hbit, hrj] at hq) <;> (try (have hh : True := hq; clear hh hq))))) | (refine wpcall_pure rfl (h2) ?_; simp [hlt, hkl, hbit, hrj]; (try simp (disch := omega) only [wrap64]); (try (refine gen fun q hq => ?_; cases q <;> (try simp [hlt, hkl, hbit, hrj] at hq) <;> (try (have hh : True := hq; clear hh hq))))) | (refine ⟨j + 1, by dsimp only; omega, by dsimp only; omega, ?_⟩; simp (disch := omega) [wrap64, hset']) | refine T.r0 fun K hK => ?_ | refine T.r1 fun K hK => ?_ | (refine ⟨by omega, ?_⟩) | refine T.ct rfl ?_ | refine T.cf rfl ?_ | refine T.seq ?_ | refine T.block ?_ | refine T.skip ?_ | refine T.exit ?_
    · rw [if_neg hb, ← blurK_keep hu hb] at hset
      have hbit0 : m / 2 ^ j % 2 = 0 := by omega
      rw [hbit0] at hbit
      repeat' first | ((first | refine aops_end (hK _ ?_) | refine aopsD_end (hK _ ?_) | refine aopsF_end (hK _ ?_)); clear hK K) | ((first | refine aops_go ?_ | refine aopsD_go ?_ | refine aopsF_go ?_); simp [hlt, hkl, hbit]; (try simp (disch := omega) only [wrap64]); (try (refine gen fun q hq => ?_; cases q <;> (try simp [hlt, hkl, hbit] at hq) <;> (try (have hh : True := hq; clear hh hq))))) | (refine ⟨j + 1, by dsimp only; omega, by dsimp only; omega, ?_⟩; simp (disch := omega) [wrap64, blurK_keep hu hb]) | refine T.r0 fun K hK => ?_ | refine T.r1 fun K hK => ?_ | (refine ⟨by omega, ?_⟩) | refine T.ct rfl ?_ | refine T.cf rfl ?_ | refine T.seq ?_ | refine T.block ?_ | refine T.skip ?_ | refine T.exit ?_
  · have hp' : j = Tl.length := by omega
    subst hp'
    rw [blurK_all] at *
    have hZl : Tl.length = (blurL Tl m).length := (blurL_len _ _).symm
    rw [hZl] at hlt ⊢
    clear hbs hj hsh h1
    generalize blurL Tl m = Z at *
    clear hZl
    repeat' first | ((first | refine aops_end (hK _ ?_) | refine aopsD_end (hK _ ?_) | refine aopsF_end (hK _ ?_)); clear hK K) | ((first | refine aops_go ?_ | refine aopsD_go ?_ | refine aopsF_go ?_); simp [hlt]; (try (refine gen fun q hq => ?_; cases q <;> (try simp [hlt] at hq) <;> (try (have hh : True := hq; clear hh hq))))) | (refine wpcall_pure ?_ (h3) ?_; (focus (solve | simp [hlt])); simp [hlt]; (try (refine gen fun q hq => ?_; cases q <;> (try simp [hlt] at hq) <;> (try (have hh : True := hq; clear hh hq))))) | (refine T.ret (Done.val (Or.inr rfl) ?_) <;> simp [resAs, Tryz.results57] <;> omega) | refine T.r0 fun K hK => ?_ | refine T.r1 fun K hK => ?_ | (refine ⟨by omega, ?_⟩) | refine T.ct rfl ?_ | refine T.cf rfl ?_ | refine T.seq ?_ | refine T.block ?_ | refine T.skip ?_ | refine T.exit ?_

/-- The configurations of a term, and whether they are compared. -/
def cfgN (e : MTm) : Nat := match typeInM [] e with
  | some _ => if (typesM e).length ≤ 6 then 2 ^ (typesM e).length else 0
  | none => 0
def cfgOk (e : MTm) : Bool := (typeInM [] e).isSome && decide ((typesM e).length ≤ 6)
theorem configs_ok (e : MTm) (hn : nTm e ≤ 1073741824) (hv : (typeInM [] e).isSome = true → termValidM e = true) : ACalls Tryz.prog 37 [aTm e] [] (.tup [.l (((List.range (cfgN e)).map (blurM e)).map eTm), .b (cfgOk e)]) [] [] := by
  have h1 := TypeOf_ok e hn
  have h2 := (types_own e (by omega)).sealed (by simp)
  dsimp only at h2
  simp only [cfgN, cfgOk]
  cases hr : typeInM [] e with
  | none =>
    rw [hr] at h1
    simp only [tyRes, Option.isSome_none, Bool.false_and, List.range_zero, List.map_nil] at h1 ⊢
    refine ACalls.of_body Tryz.func37 (by kernel_rfl) rfl (by kernel_rfl) (by simp [Tryz.ntmps37]) (by simp) ?_
    rw [Tryz.ntmps37]
    repeat' first | ((first | refine aops_end (hK _ ?_) | refine aopsD_end (hK _ ?_) | refine aopsF_end (hK _ ?_)); clear hK K) | ((first | refine aops_go ?_ | refine aopsD_go ?_ | refine aopsF_go ?_); simp; (try (refine gen fun q hq => ?_; cases q <;> (try simp at hq) <;> (try (have hh : True := hq; clear hh hq))))) | (refine wpcall_pure rfl (h1) ?_; simp; (try (refine gen fun q hq => ?_; cases q <;> (try simp at hq) <;> (try (have hh : True := hq; clear hh hq))))) | (refine wpcall_pure rfl (h2) ?_; simp; (try (refine gen fun q hq => ?_; cases q <;> (try simp at hq) <;> (try (have hh : True := hq; clear hh hq))))) | (refine T.ret (Done.tup (Or.inr rfl) ?_) <;> simp [resAs, Tryz.results37] <;> omega) | refine T.r0 fun K hK => ?_ | refine T.r1 fun K hK => ?_ | (refine ⟨by omega, ?_⟩) | refine T.ct rfl ?_ | refine T.cf rfl ?_ | refine T.seq ?_ | refine T.block ?_ | refine T.skip ?_ | refine T.exit ?_
  | some t0 =>
    rw [hr] at h1 hv
    obtain ⟨hvt, _⟩ := termValidM_iff.1 (hv rfl)
    have hsh := hvt.types.1
    have hbl := fun m hm h6 => blurred_ok e m hn hm h6 hsh
    simp only [tyRes, Option.isSome_some, Bool.true_and] at h1 ⊢
    generalize blurM e = B at *
    generalize typesM e = Tl at *
    by_cases h6 : Tl.length ≤ 6
    · have hshl : IntKind.i64.wrap (2 ^ min Tl.length IntKind.i64.bits) = ((2 ^ Tl.length : Nat) : Int) := shl_one Tl.length (by omega)
      have hpw : 2 ^ Tl.length ≤ 64 := Nat.pow_le_pow_right (n := 2) (by omega) h6
      simp only [h6, if_true, decide_true]
      have hbl' := fun m (hm : m < 2 ^ Tl.length) => hbl m (by omega) h6
      generalize 2 ^ Tl.length = N at *
      have h7 : ¬ (6 : Int) < Tl.length := by omega
      refine ACalls.of_body Tryz.func37 (by kernel_rfl) rfl (by kernel_rfl) (by simp [Tryz.ntmps37]) (by simp) ?_
      rw [Tryz.ntmps37]
      repeat' first | ((first | refine aops_end (hK _ ?_) | refine aopsD_end (hK _ ?_) | refine aopsF_end (hK _ ?_)); clear hK K) | ((first | refine aops_go ?_ | refine aopsD_go ?_ | refine aopsF_go ?_); simp [h7, hshl]; (try (refine gen fun q hq => ?_; cases q <;> (try simp [h7, hshl] at hq) <;> (try (have hh : True := hq; clear hh hq))))) | (refine wpcall_pure rfl (h1) ?_; simp [h7, hshl]; (try (refine gen fun q hq => ?_; cases q <;> (try simp [h7, hshl] at hq) <;> (try (have hh : True := hq; clear hh hq))))) | (refine wpcall_pure rfl (h2) ?_; simp [h7, hshl]; (try (refine gen fun q hq => ?_; cases q <;> (try simp [h7, hshl] at hq) <;> (try (have hh : True := hq; clear hh hq))))) | refine T.r0 fun K hK => ?_ | refine T.r1 fun K hK => ?_ | (refine ⟨by omega, ?_⟩) | refine T.ct rfl ?_ | refine T.cf rfl ?_ | refine T.seq ?_ | refine T.block ?_ | refine T.skip ?_ | refine T.exit ?_
      refine T.ownify 6 9 37 (by simp) ?_
      refine T.loopK (α := Nat × List (List CV)) [1, 2, 3, 24] (fun x => [(6, .c (.own 0 x.1)), (25, .i x.1)]) (fun _ => []) (fun x => x.2) (fun x _ => [{ sz := 9, ety := 37, rows := ((List.range x.1).map B).map eTm, wr := true }]) (fun x => N + 1 - x.1) (fun x => x.1 ≤ N) (by simp; rfl) (fun x hx => ?_) (0, []) (by simp) (by simp) (by simp) (by simp)
      obtain ⟨p, G⟩ := x
      dsimp only at hx ⊢
      simp only [ups, List.set_cons_zero, List.set_cons_succ, List.cons_append, List.nil_append]
      by_cases hlt : p < N
      · have hb := hbl' p hlt
        repeat' first | ((first | refine aops_end (hK _ ?_) | refine aopsD_end (hK _ ?_) | refine aopsF_end (hK _ ?_)); clear hK K) | ((first | refine aops_go ?_ | refine aopsD_go ?_ | refine aopsF_go ?_); simp [hlt]; (try simp (disch := omega) only [wrap64]); (try (refine gen fun q hq => ?_; cases q <;> (try simp [hlt] at hq) <;> (try (have hh : True := hq; clear hh hq))))) | (refine wpcall_pure rfl (hb) ?_; simp [hlt]; (try simp (disch := omega) only [wrap64]); (try (refine gen fun q hq => ?_; cases q <;> (try simp [hlt] at hq) <;> (try (have hh : True := hq; clear hh hq))))) | (refine ⟨by omega, by omega, ?_⟩) | refine T.r0 fun K hK => ?_ | refine T.r1 fun K hK => ?_ | (refine ⟨by omega, ?_⟩) | refine T.ct rfl ?_ | refine T.cf rfl ?_ | refine T.seq ?_ | refine T.block ?_ | refine T.skip ?_ | refine T.exit ?_
        refine ⟨(p + 1, _), by dsimp only; omega, by dsimp only; omega, rfl, ?_, ?_⟩
        · simp [List.range_succ, eTm_def]
        · simp (disch := omega) [wrap64]
      · have hp' : p = N := by omega
        subst hp'
        repeat' first | ((first | refine aops_end (hK _ ?_) | refine aopsD_end (hK _ ?_) | refine aopsF_end (hK _ ?_)); clear hK K) | ((first | refine aops_go ?_ | refine aopsD_go ?_ | refine aopsF_go ?_); simp [hlt]; (try (refine gen fun q hq => ?_; cases q <;> (try simp [hlt] at hq) <;> (try (have hh : True := hq; clear hh hq))))) | (refine T.ret (Done.tup (Or.inr rfl) ?_) <;> simp [resAs, Tryz.results37] <;> omega) | refine T.r0 fun K hK => ?_ | refine T.r1 fun K hK => ?_ | (refine ⟨by omega, ?_⟩) | refine T.ct rfl ?_ | refine T.cf rfl ?_ | refine T.seq ?_ | refine T.block ?_ | refine T.skip ?_ | refine T.exit ?_
    · have h7 : (6 : Int) < Tl.length := by omega
      simp only [h6, if_false, decide_false, List.range_zero, List.map_nil]
      refine ACalls.of_body Tryz.func37 (by kernel_rfl) rfl (by kernel_rfl) (by simp [Tryz.ntmps37]) (by simp) ?_
      rw [Tryz.ntmps37]
      repeat' first | ((first | refine aops_end (hK _ ?_) | refine aopsD_end (hK _ ?_) | refine aopsF_end (hK _ ?_)); clear hK K) | ((first | refine aops_go ?_ | refine aopsD_go ?_ | refine aopsF_go ?_); simp [h7]; (try (refine gen fun q hq => ?_; cases q <;> (try simp [h7] at hq) <;> (try (have hh : True := hq; clear hh hq))))) | (refine wpcall_pure rfl (h1) ?_; simp [h7]; (try (refine gen fun q hq => ?_; cases q <;> (try simp [h7] at hq) <;> (try (have hh : True := hq; clear hh hq))))) | (refine wpcall_pure rfl (h2) ?_; simp [h7]; (try (refine gen fun q hq => ?_; cases q <;> (try simp [h7] at hq) <;> (try (have hh : True := hq; clear hh hq))))) | (refine T.ret (Done.tup (Or.inr rfl) ?_) <;> simp [resAs, Tryz.results37] <;> omega) | refine T.r0 fun K hK => ?_ | refine T.r1 fun K hK => ?_ | (refine ⟨by omega, ?_⟩) | refine T.ct rfl ?_ | refine T.cf rfl ?_ | refine T.seq ?_ | refine T.block ?_ | refine T.skip ?_ | refine T.exit ?_

/-- How many casts a term has after insertion. -/
def cstN (e : MTm) : Nat := (castsM ((insertM e).getD (zeroE, zeroT)).1).length
theorem count_ok (e : MTm) (hn : nTm e ≤ 1073741824) : ACalls Tryz.prog 23 [aTm e] [] (.i (cstN e)) [] [] := by
  have h1 := InsertCasts_ok e hn
  simp only [cstN]
  cases hr : insertM e with
  | none =>
    rw [hr] at h1
    have h2 := casts_pure zeroE (by decide)
    simp only [elRes, Option.getD_none] at h1 ⊢
    generalize castsM zeroE = Z at *
    refine ACalls.of_body Tryz.func23 (by kernel_rfl) rfl (by kernel_rfl) (by simp [Tryz.ntmps23]) (by simp) ?_
    rw [Tryz.ntmps23]
    repeat' first | ((first | refine aops_end (hK _ ?_) | refine aopsD_end (hK _ ?_) | refine aopsF_end (hK _ ?_)); clear hK K) | ((first | refine aops_go ?_ | refine aopsD_go ?_ | refine aopsF_go ?_); simp; (try (refine gen fun q hq => ?_; cases q <;> (try simp at hq) <;> (try (have hh : True := hq; clear hh hq))))) | (refine wpcall_pure rfl (h1) ?_; simp; (try (refine gen fun q hq => ?_; cases q <;> (try simp at hq) <;> (try (have hh : True := hq; clear hh hq))))) | (refine wpcall_pure ?_ (h2) ?_; (focus (solve | simp)); simp; (try (refine gen fun q hq => ?_; cases q <;> (try simp at hq) <;> (try (have hh : True := hq; clear hh hq))))) | (refine T.ret (Done.val (Or.inr rfl) ?_) <;> simp [resAs, Tryz.results23] <;> omega) | refine T.r0 fun K hK => ?_ | refine T.r1 fun K hK => ?_ | (refine ⟨by omega, ?_⟩) | refine T.ct rfl ?_ | refine T.cf rfl ?_ | refine T.seq ?_ | refine T.block ?_ | refine T.skip ?_ | refine T.exit ?_
  | some p =>
    obtain ⟨x, t⟩ := p
    obtain ⟨_, _, m, _, _, _, _, _, _, _, _, _, hnx⟩ := insert_some hr
    rw [hr] at h1
    have h2 := casts_pure x (by omega)
    simp only [elRes, Option.getD_some] at h1 ⊢
    generalize castsM x = Z at *
    refine ACalls.of_body Tryz.func23 (by kernel_rfl) rfl (by kernel_rfl) (by simp [Tryz.ntmps23]) (by simp) ?_
    rw [Tryz.ntmps23]
    repeat' first | ((first | refine aops_end (hK _ ?_) | refine aopsD_end (hK _ ?_) | refine aopsF_end (hK _ ?_)); clear hK K) | ((first | refine aops_go ?_ | refine aopsD_go ?_ | refine aopsF_go ?_); simp; (try (refine gen fun q hq => ?_; cases q <;> (try simp at hq) <;> (try (have hh : True := hq; clear hh hq))))) | (refine wpcall_pure rfl (h1) ?_; simp; (try (refine gen fun q hq => ?_; cases q <;> (try simp at hq) <;> (try (have hh : True := hq; clear hh hq))))) | (refine wpcall_pure rfl (h2) ?_; simp; (try (refine gen fun q hq => ?_; cases q <;> (try simp at hq) <;> (try (have hh : True := hq; clear hh hq))))) | (refine T.ret (Done.val (Or.inr rfl) ?_) <;> simp [resAs, Tryz.results23] <;> omega) | refine T.r0 fun K hK => ?_ | refine T.r1 fun K hK => ?_ | (refine ⟨by omega, ?_⟩) | refine T.ct rfl ?_ | refine T.cf rfl ?_ | refine T.seq ?_ | refine T.block ?_ | refine T.skip ?_ | refine T.exit ?_

/-- The casts of all configurations. -/
def cfgL (e : MTm) : List MTm := (List.range (cfgN e)).map (blurM e)
def cfgC (e : MTm) : List Int := (cfgL e).map fun x => (cstN x : Int)
theorem cfg_len (e : MTm) : (cfgL e).length ≤ 64 := by
  rw [cfgL, List.length_map, List.length_range, cfgN]
  split
  · split
    · rename_i h; exact Nat.pow_le_pow_right (n := 2) (by omega) h
    · omega
  · omega
theorem measured_tree (e : MTm) (hn : nTm e ≤ 1073741824) (hv : (typeInM [] e).isSome = true → termValidM e = true) (hb : ∀ u ∈ cfgL e, nTm u ≤ 1073741824) :
    FCalls Tryz.prog 22 [aTm e, .c (.fn 23 [])] [] fun r L' => ∃ v, r = .tup [.c (.d (.raw v)), .b (cfgOk e)] ∧ L' = [(inK 3 (cfgC e), v)] := by
  have h1 := configs_ok e hn hv
  have h6 := cfg_len e
  rw [← cfgL] at h1
  rw [cfgC]
  generalize cfgL e = l at *
  generalize cfgOk e = q at *
  refine FCalls.of_body Tryz.func22 (by kernel_rfl) rfl (by kernel_rfl) (by simp [Tryz.ntmps22]) ?_
  rw [Tryz.ntmps22]
  repeat' first | (refine aopsJ_end (hK _ _ ?_); clear hK K) | (refine aopsD_end (hK _ ?_); clear hK K) | (refine aopsJ_go ?_; simp) | (refine aopsD_go ?_; simp) | (refine aopsF_end (hK _ ?_); clear hK K) | (refine aopsF_go ?_; simp) | (refine wpcallJ_pure rfl (h1) ?_; simp) | (refine wpcall_pure rfl (h1) ?_; simp) | refine TJ.rs (fun _ => false) fun K hK => ?_ | refine TJ.rs1 (fun _ => false) fun K hK => ?_ | (refine And.intro (by omega) ?_) | refine TJ.cond rfl (fun hcnd => ?_) (fun hcnd => absurd hcnd (by decide)) | refine TJ.cond rfl (fun hcnd => absurd hcnd (by decide)) (fun hcnd => ?_) | refine TJ.seq ?_ | refine TJ.block ?_ | refine TJ.skip ?_ | refine TJ.exit ?_
  refine TJ.ownify 8 1 3 (by simp) ?_
  refine TJ.loopK (α := Nat × List (List CV)) [1, 4, 5, 7, 16, 17] (fun x => [(8, .c (.own 0 x.1)), (18, .i x.1)]) (fun _ => []) (fun x => x.2) (fun x _ => [{ sz := 1, ety := 3, rows := rIn ((l.take x.1).map fun x => (cstN x : Int)), wr := true }]) (fun x => []) (fun x => l.length + 1 - x.1) (fun x => x.1 ≤ l.length) (by simp; rfl) (fun x hx => ?_) (0, []) (by simp) (by simp) (by simp) (by simp) (M := []) (by simp)
  obtain ⟨p, G⟩ := x
  dsimp only at hx ⊢
  simp only [ups, List.set_cons_zero, List.set_cons_succ, List.cons_append, List.nil_append]
  by_cases hlt : p < l.length
  · obtain ⟨u, hu⟩ := get_lt hlt
    have hum : u ∈ l := List.mem_of_getElem? hu
    have hgt : l[p] = u := by rw [List.getElem?_eq_getElem hlt] at hu; exact Option.some.inj hu
    have hc := count_ok u (hb u hum)
    have hmin : min p l.length = p := by omega
    have htk := take_succ_of hu
    repeat' first | (refine aopsJ_end (hK _ _ ?_); clear hK K) | (refine aopsD_end (hK _ ?_); clear hK K) | (refine aopsJ_go ?_; simp [hlt, hgt, hmin]; (try simp (disch := omega) only [wrap64])) | (refine aopsD_go ?_; simp [hlt, hgt, hmin]; (try simp (disch := omega) only [wrap64])) | (refine aopsF_end (hK _ ?_); clear hK K) | (refine aopsF_go ?_; simp [hlt, hgt, hmin]; (try simp (disch := omega) only [wrap64])) | (refine wpcallJ_pure rfl (hc) ?_; simp [hlt, hgt, hmin]; (try simp (disch := omega) only [wrap64])) | (refine wpcall_pure rfl (hc) ?_; simp [hlt, hgt, hmin]; (try simp (disch := omega) only [wrap64])) | (refine ⟨by omega, by omega, ?_⟩) | refine TJ.rs (fun _ => false) fun K hK => ?_ | refine TJ.rs1 (fun _ => false) fun K hK => ?_ | (refine And.intro (by omega) ?_) | refine TJ.cond rfl (fun hcnd => ?_) (fun hcnd => absurd hcnd (by decide)) | refine TJ.cond rfl (fun hcnd => absurd hcnd (by decide)) (fun hcnd => ?_) | refine TJ.seq ?_ | refine TJ.block ?_ | refine TJ.skip ?_ | refine TJ.exit ?_
    refine ⟨(p + 1, G ++ [[.d (.i u.kind), .d (.str u.name), .d (.i u.num), .d (.i u.ty.kind), .d (.sl (u.ty.kids.map eTy)), .d (.i u.fr.kind), .d (.sl (u.fr.kids.map eTy)), .d (.i u.label), .d (.sl (u.kids.map eTm))]]), [], by dsimp only; omega, by dsimp only; omega, ?_, ?_⟩
    · simp (disch := omega) [wrap64, htk]
    · simp
  · have hp' : p = l.length := by omega
    subst hp'
    rw [List.take_length]
    obtain ⟨Z, hZ⟩ : ∃ Z, Z = l.map fun x => (cstN x : Int) := ⟨_, rfl⟩
    have hZl : Z.length = l.length := by rw [hZ, List.length_map]
    rw [← hZ]
    repeat' first | (refine aopsJ_end (hK _ _ ?_); clear hK K) | (refine aopsD_end (hK _ ?_); clear hK K) | (refine aopsJ_go ?_; simp [hlt]) | (refine aopsD_go ?_; simp [hlt]) | (refine aopsF_end (hK _ ?_); clear hK K) | (refine aopsF_go ?_; simp [hlt]) | refine TJ.rs (fun _ => false) fun K hK => ?_ | refine TJ.rs1 (fun _ => false) fun K hK => ?_ | (refine And.intro (by omega) ?_) | refine TJ.cond rfl (fun hcnd => ?_) (fun hcnd => absurd hcnd (by decide)) | refine TJ.cond rfl (fun hcnd => absurd hcnd (by decide)) (fun hcnd => ?_) | refine TJ.seq ?_ | refine TJ.block ?_ | refine TJ.skip ?_ | refine TJ.exit ?_
    refine TJ.ret (DoneJ.ownR (k := 0) (n := l.length) (rs := [.c (.own 0 l.length), .b q]) (rs' := fun v => [.c (.d (.raw v)), .b q]) (Or.inr rfl) (by simp [Tryz.results22]) rfl rfl (by simp [hZl]) (mk_in Z) (L2 := []) (by simp) (fun v => by simp [DV.scal]) (fun v => ⟨[(inK 3 Z, v)], [], ?_, v, rfl, rfl⟩))
    rw [inK_unf, hZl]
    simp

theorem ConfigCasts_tree (e : MTm) (hn : nTm e ≤ 1073741824) (hv : (typeInM [] e).isSome = true → termValidM e = true) (hb : ∀ u ∈ cfgL e, nTm u ≤ 1073741824) :
    FCalls Tryz.prog 7 [aTm e] [] fun r L' => ∃ v, r = .tup [.c (.d (.raw v)), .b (cfgOk e)] ∧ L' = [(inK 3 (cfgC e), v)] := by
  have h1 := measured_tree e hn hv hb
  generalize cfgC e = l at *
  generalize cfgOk e = q at *
  refine FCalls.of_body Tryz.func7 (by kernel_rfl) rfl (by kernel_rfl) (by simp [Tryz.ntmps7]) ?_
  rw [Tryz.ntmps7]
  repeat' first | (refine aopsJ_end (hK _ _ ?_); clear hK K) | (refine aopsD_end (hK _ ?_); clear hK K) | (refine aopsJ_go ?_; simp) | (refine aopsD_go ?_; simp) | (refine aopsF_end (hK _ ?_); clear hK K) | (refine aopsF_go ?_; simp) | (refine wpcallJ_new ?_ (h1) ?_; (focus (solve | (repeat' first | exact FzVs.nil | apply FzVs.cons | apply FzV.c | apply FzV.agg | exact FzL.nil | apply FzL.cons | exact FzC.d | exact FzC.nil | exact FzC.np | exact FzC.fn | (refine FzC.thaw' ?_ (tyK_dp 34 _); (focus (solve | simp [tTm]))) | (refine FzC.thaw' ?_ (tmK_dp 34 37 _); (focus (solve | simp [tTm])))))); rintro _ _ ⟨v, rfl, rfl⟩; simp) | refine TJ.rs (fun _ => false) fun K hK => ?_ | refine TJ.rs1 (fun _ => false) fun K hK => ?_ | (refine And.intro (by omega) ?_) | refine TJ.cond rfl (fun hcnd => ?_) (fun hcnd => absurd hcnd (by decide)) | refine TJ.cond rfl (fun hcnd => absurd hcnd (by decide)) (fun hcnd => ?_) | refine TJ.seq ?_ | refine TJ.block ?_ | refine TJ.skip ?_ | refine TJ.exit ?_
  refine TJ.ret (DoneJ.tup (rs := [.c (.d (.raw v)), .b q]) (rs' := [.c (.d (.raw v)), .b q]) (Or.inr rfl) (by simp [Tryz.results7]) (by simp [DV.scal]) (M := []) (by simp) ⟨v, rfl, rfl⟩)
end Go.Proofs.YtbakdfnmippcoaaGreat

namespace Go.Proofs.YtbakdfnmippcoaaGreat
attribute [-simp] Go.Av.callJ
open Go Go.Av
attribute [local irreducible] T ACalls TX EX LX Draws Some_ ACallsX eTy eTm MTy.kind MTy.kids MTm.kind MTm.name MTm.num MTm.ty MTm.fr MTm.label MTm.kids
attribute [local simp] eTy_def eTm_def
set_option maxHeartbeats 16000000
set_option maxRecDepth 8000
attribute [local irreducible] TJ FCalls

theorem CountSlotsS_ok (e : MTm) (hn : nTm e ≤ 1073741824) : ACalls Tryz.prog 16 [aTm e] [] (.i (termTypesM e).length) [] [] := by
  have h1 := (TermTypesS_own e hn).sealed (by simp)
  dsimp only at h1
  generalize termTypesM e = Tl at *
  refine ACalls.of_body Tryz.func16 (by kernel_rfl) rfl (by kernel_rfl) (by simp [Tryz.ntmps16]) (by simp) ?_
  rw [Tryz.ntmps16]
  repeat' first | ((first | refine aops_end (hK _ ?_) | refine aopsD_end (hK _ ?_) | refine aopsF_end (hK _ ?_)); clear hK K) | ((first | refine aops_go ?_ | refine aopsD_go ?_ | refine aopsF_go ?_); simp; (try (refine gen fun q hq => ?_; cases q <;> (try simp at hq) <;> (try (have hh : True := hq; clear hh hq))))) | (refine wpcall_pure rfl (h1) ?_; simp; (try (refine gen fun q hq => ?_; cases q <;> (try simp at hq) <;> (try (have hh : True := hq; clear hh hq))))) | (refine T.ret (Done.data (Or.inr rfl) ?_ ?_) <;> simp [Tryz.results16] <;> omega) | refine T.r0 fun K hK => ?_ | refine T.r1 fun K hK => ?_ | (refine ⟨by omega, ?_⟩) | refine T.ct rfl ?_ | refine T.cf rfl ?_ | refine T.seq ?_ | refine T.block ?_ | refine T.skip ?_ | refine T.exit ?_

theorem BlurTermS_ok (e : MTm) (m : Nat) (hn : nTm e ≤ 1073741824) (hv : termValidM e = true) (h6 : (typesM e).length ≤ 6) (hm : m < 2 ^ (typesM e).length) : ACalls Tryz.prog 17 [aTm e, .i (m : Int)] [] (.tup [aTm (blurM e m), .b true]) [] [] := by
  have hsh := (termValidM_iff.1 hv).1.types.1
  have h1 := TermTypesS_own e hn
  rw [show termTypesM e = typesM e by simp [termTypesM, hv]] at h1
  have hpw : 2 ^ (typesM e).length ≤ 64 := Nat.pow_le_pow_right (n := 2) (by omega) h6
  have hm6 : m < 64 := by omega
  have hbs := blurL_shape (m := m) hsh
  have h3 := WithTypesS_ok e (blurL (typesM e) m) hn (fun t ht => by have := shape4 (hbs t ht); omega) (by rw [blurL_len]; omega)
  rw [with_some hv (blurL_len _ _) hbs, ← blurM, ← blurK_all] at h3
  simp only [tmRes] at h3
  have h2 := l1Any_ok
  have hshl : IntKind.i64.wrap (2 ^ min (typesM e).length IntKind.i64.bits) = ((2 ^ (typesM e).length : Nat) : Int) := shl_one (typesM e).length (by omega)
  generalize blurM e m = Y at *
  generalize typesM e = Tl at *
  have hm0 : ¬ ((m : Int) < 0) := by omega
  have hmN : ¬ 2 ^ Tl.length ≤ m := by omega
  generalize 2 ^ Tl.length = N at *
  refine ACalls.of_body Tryz.func17 (by kernel_rfl) rfl (by kernel_rfl) (by simp [Tryz.ntmps17]) (by simp) ?_
  rw [Tryz.ntmps17]
  repeat' first | ((first | refine aops_end (hK _ ?_) | refine aopsD_end (hK _ ?_) | refine aopsF_end (hK _ ?_)); clear hK K) | ((first | refine aops_go ?_ | refine aopsD_go ?_ | refine aopsF_go ?_); simp [hm0, hmN, hshl]; (try (refine gen fun q hq => ?_; cases q <;> (try simp [hm0, hmN, hshl] at hq) <;> (try (have hh : True := hq; clear hh hq))))) | (refine wpcall_own rfl (h1) ?_; simp [hm0, hmN, hshl]; (try (refine gen fun q hq => ?_; cases q <;> (try simp [hm0, hmN, hshl] at hq) <;> (try (have hh : True := hq; clear hh hq))))) | refine T.r0 fun K hK => ?_ | refine T.r1 fun K hK => ?_ | (refine ⟨by omega, ?_⟩) | refine T.ct rfl ?_ | refine T.cf rfl ?_ | refine T.seq ?_ | refine T.block ?_ | refine T.skip ?_ | refine T.exit ?_
  refine T.loopK (α := Nat) [1, 2, 4, 5, 6] (fun j => [(7, .i j)]) (fun _ => []) (fun _ => []) (fun j _ => [{ sz := 2, ety := 34, rows := (blurK Tl m j).map eTy, wr := true }]) (fun j => Tl.length + 1 - j) (fun j => j ≤ Tl.length) (by simp; rfl) (fun j hj => ?_) 0 (by simp) (by simp) (by simp [blurK_zero]) (by simp)
  dsimp only at hj ⊢
  simp only [ups, List.set_cons_zero, List.set_cons_succ, List.cons_append, List.nil_append]
  have hkl : ((blurK Tl m j).map eTy).length = Tl.length := by rw [List.length_map, blurK_len hj]
  by_cases hlt : j < Tl.length
  · obtain ⟨u, hu⟩ := get_lt hlt
    have hbit : bitI .and .i64 ((m : Int).fdiv (2 ^ min j IntKind.i64.bits)) 1 = ((m / 2 ^ j % 2 : Nat) : Int) := bit_and m hm6 j (by omega)
    have hset := blurK_succ (m := m) hu
    by_cases hb : m / 2 ^ j % 2 = 1
    · rw [if_pos hb] at hset
      rw [hb] at hbit
      have hset' : ((blurK Tl m j).map eTy).set j [.i 1, .sl []] = (blurK Tl m (j + 1)).map eTy := by rw [hset, List.map_set]; simp [eTy_def]
      obtain ⟨R, hR⟩ : ∃ R, R = (blurK Tl m j).map eTy := ⟨_, rfl⟩
      rw [← hR] at hset' hkl ⊢
      have hrj : ∀ h, (R[j]'h).drop 2 = [] := fun h => by subst hR; simp [eTy_def]
      repeat' first | ((first | refine aops_end (hK _ ?_) | refine aopsD_end (hK _ ?_) | refine aopsF_end (hK _ ?_)); clear hK K) | ((first | refine aops_go ?_ | refine aopsD_go ?_ | refine aopsF_go ?_); simp [hlt, hkl, hbit, hrj]; (try simp (disch := omega) only [wrap64]); (try (refine gen fun q hq => ?_; cases q <;> (try simp [hlt, hkl, hbit, hrj] at hq) <;> (try (have hh : True := hq; clear hh hq))))) | (refine wpcall_pure rfl (h2) ?_; simp [hlt, hkl, hbit, hrj]; (try simp (disch := omega) only [wrap64]); (try (refine gen fun q hq => ?_; cases q <;> (try simp [hlt, hkl, hbit, hrj] at hq) <;> (try (have hh : True := hq; clear hh hq))))) | (refine ⟨j + 1, by dsimp only; omega, by dsimp only; omega, ?_⟩; simp (disch := omega) [wrap64, hset']) | refine T.r0 fun K hK => ?_ | refine T.r1 fun K hK => ?_ | (refine ⟨by omega, ?_⟩) | refine T.ct rfl ?_ | refine T.cf rfl ?_ | refine T.seq ?_ | refine T.block ?_ | refine T.skip ?_ | refine T.exit ?_
    · rw [if_neg hb, ← blurK_keep hu hb] at hset
      have hbit0 : m / 2 ^ j % 2 = 0 := by omega
      rw [hbit0] at hbit
      repeat' first | ((first | refine aops_end (hK _ ?_) | refine aopsD_end (hK _ ?_) | refine aopsF_end (hK _ ?_)); clear hK K) | ((first | refine aops_go ?_ | refine aopsD_go ?_ | refine aopsF_go ?_); simp [hlt, hkl, hbit]; (try simp (disch := omega) only [wrap64]); (try (refine gen fun q hq => ?_; cases q <;> (try simp [hlt, hkl, hbit] at hq) <;> (try (have hh : True := hq; clear hh hq))))) | (refine ⟨j + 1, by dsimp only; omega, by dsimp only; omega, ?_⟩; simp (disch := omega) [wrap64, blurK_keep hu hb]) | refine T.r0 fun K hK => ?_ | refine T.r1 fun K hK => ?_ | (refine ⟨by omega, ?_⟩) | refine T.ct rfl ?_ | refine T.cf rfl ?_ | refine T.seq ?_ | refine T.block ?_ | refine T.skip ?_ | refine T.exit ?_
  · have hp' : j = Tl.length := by omega
    subst hp'
    rw [blurK_all] at *
    have hZl : Tl.length = (blurL Tl m).length := (blurL_len _ _).symm
    rw [hZl] at hlt ⊢
    clear hbs hj hsh h1 hshl
    generalize blurL Tl m = Z at *
    clear hZl
    repeat' first | ((first | refine aops_end (hK _ ?_) | refine aopsD_end (hK _ ?_) | refine aopsF_end (hK _ ?_)); clear hK K) | ((first | refine aops_go ?_ | refine aopsD_go ?_ | refine aopsF_go ?_); simp [hlt]; (try (refine gen fun q hq => ?_; cases q <;> (try simp [hlt] at hq) <;> (try (have hh : True := hq; clear hh hq))))) | (refine wpcall_pure ?_ (h3) ?_; (focus (solve | simp [hlt])); simp [hlt]; (try (refine gen fun q hq => ?_; cases q <;> (try simp [hlt] at hq) <;> (try (have hh : True := hq; clear hh hq))))) | (refine T.ret (Done.tup (Or.inr rfl) ?_) <;> simp [resAs, Tryz.results17] <;> omega) | refine T.r0 fun K hK => ?_ | refine T.r1 fun K hK => ?_ | (refine ⟨by omega, ?_⟩) | refine T.ct rfl ?_ | refine T.cf rfl ?_ | refine T.seq ?_ | refine T.block ?_ | refine T.skip ?_ | refine T.exit ?_

theorem l11FitsS_ok (e : MTm) (hn : nTm e ≤ 1073741824) (hv : (typeInM [] e).isSome = true → termValidM e = true) : ACalls Tryz.prog 15 [aTm e, .i 0] [] (.b (cfgOk e)) [] [] := by
  have h1 := TypeOfS_ok e (by omega)
  have h2 := CountSlotsS_ok e hn
  simp only [cfgOk]
  cases hr : typeInM [] e with
  | none =>
    rw [hr] at h1
    simp only [tyRes, Option.isSome_none, Bool.false_and] at h1 ⊢
    generalize termTypesM e = Tl at *
    refine ACalls.of_body Tryz.func15 (by kernel_rfl) rfl (by kernel_rfl) (by simp [Tryz.ntmps15]) (by simp) ?_
    rw [Tryz.ntmps15]
    repeat' first | ((first | refine aops_end (hK _ ?_) | refine aopsD_end (hK _ ?_) | refine aopsF_end (hK _ ?_)); clear hK K) | ((first | refine aops_go ?_ | refine aopsD_go ?_ | refine aopsF_go ?_); simp; (try (refine gen fun q hq => ?_; cases q <;> (try simp at hq) <;> (try (have hh : True := hq; clear hh hq))))) | (refine wpcall_pure rfl (h1) ?_; simp; (try (refine gen fun q hq => ?_; cases q <;> (try simp at hq) <;> (try (have hh : True := hq; clear hh hq))))) | (refine wpcall_pure rfl (h2) ?_; simp; (try (refine gen fun q hq => ?_; cases q <;> (try simp at hq) <;> (try (have hh : True := hq; clear hh hq))))) | (refine T.ret (Done.val (Or.inr rfl) ?_) <;> simp [resAs, Tryz.results15] <;> omega) | refine T.r0 fun K hK => ?_ | refine T.r1 fun K hK => ?_ | (refine ⟨by omega, ?_⟩) | refine T.ct rfl ?_ | refine T.cf rfl ?_ | refine T.seq ?_ | refine T.block ?_ | refine T.skip ?_ | refine T.exit ?_
  | some t0 =>
    rw [hr] at h1 hv
    rw [show termTypesM e = typesM e by simp [termTypesM, hv rfl]] at h2
    simp only [tyRes, Option.isSome_some, Bool.true_and] at h1 ⊢
    generalize typesM e = Tl at *
    by_cases h6 : Tl.length ≤ 6
    · have h7 : (Tl.length : Int) ≤ 6 := by omega
      simp only [h6, decide_true]
      refine ACalls.of_body Tryz.func15 (by kernel_rfl) rfl (by kernel_rfl) (by simp [Tryz.ntmps15]) (by simp) ?_
      rw [Tryz.ntmps15]
      repeat' first | ((first | refine aops_end (hK _ ?_) | refine aopsD_end (hK _ ?_) | refine aopsF_end (hK _ ?_)); clear hK K) | ((first | refine aops_go ?_ | refine aopsD_go ?_ | refine aopsF_go ?_); simp [h7]; (try (refine gen fun q hq => ?_; cases q <;> (try simp [h7] at hq) <;> (try (have hh : True := hq; clear hh hq))))) | (refine wpcall_pure rfl (h1) ?_; simp [h7]; (try (refine gen fun q hq => ?_; cases q <;> (try simp [h7] at hq) <;> (try (have hh : True := hq; clear hh hq))))) | (refine wpcall_pure rfl (h2) ?_; simp [h7]; (try (refine gen fun q hq => ?_; cases q <;> (try simp [h7] at hq) <;> (try (have hh : True := hq; clear hh hq))))) | (refine T.ret (Done.val (Or.inr rfl) ?_) <;> simp [resAs, Tryz.results15] <;> omega) | refine T.r0 fun K hK => ?_ | refine T.r1 fun K hK => ?_ | (refine ⟨by omega, ?_⟩) | refine T.ct rfl ?_ | refine T.cf rfl ?_ | refine T.seq ?_ | refine T.block ?_ | refine T.skip ?_ | refine T.exit ?_
    · have h7 : ¬ (Tl.length : Int) ≤ 6 := by omega
      simp only [h6, decide_false]
      refine ACalls.of_body Tryz.func15 (by kernel_rfl) rfl (by kernel_rfl) (by simp [Tryz.ntmps15]) (by simp) ?_
      rw [Tryz.ntmps15]
      repeat' first | ((first | refine aops_end (hK _ ?_) | refine aopsD_end (hK _ ?_) | refine aopsF_end (hK _ ?_)); clear hK K) | ((first | refine aops_go ?_ | refine aopsD_go ?_ | refine aopsF_go ?_); simp [h7]; (try (refine gen fun q hq => ?_; cases q <;> (try simp [h7] at hq) <;> (try (have hh : True := hq; clear hh hq))))) | (refine wpcall_pure rfl (h1) ?_; simp [h7]; (try (refine gen fun q hq => ?_; cases q <;> (try simp [h7] at hq) <;> (try (have hh : True := hq; clear hh hq))))) | (refine wpcall_pure rfl (h2) ?_; simp [h7]; (try (refine gen fun q hq => ?_; cases q <;> (try simp [h7] at hq) <;> (try (have hh : True := hq; clear hh hq))))) | (refine T.ret (Done.val (Or.inr rfl) ?_) <;> simp [resAs, Tryz.results15] <;> omega) | refine T.r0 fun K hK => ?_ | refine T.r1 fun K hK => ?_ | (refine ⟨by omega, ?_⟩) | refine T.ct rfl ?_ | refine T.cf rfl ?_ | refine T.seq ?_ | refine T.block ?_ | refine T.skip ?_ | refine T.exit ?_

theorem ConfigCastsS_ok (e : MTm) (hn : nTm e ≤ 1073741824) (hv : (typeInM [] e).isSome = true → termValidM e = true) (hb : ∀ u ∈ cfgL e, nTm u ≤ 1073741824) : ACalls Tryz.prog 5 [aTm e] [] (.tup [.l (rIn (cfgC e)), .b (cfgOk e)]) [] [] := by
  have h1 := l11FitsS_ok e hn hv
  cases hq : cfgOk e with
  | false =>
    rw [hq] at h1
    have hz : cfgC e = [] := by
      rw [cfgC, cfgL, cfgN]
      rw [cfgOk] at hq
      cases hr : typeInM [] e with
      | none => rfl
      | some t =>
        rw [hr] at hq
        simp only [Option.isSome_some, Bool.true_and, decide_eq_false_iff_not] at hq
        simp only [hq, if_false, List.range_zero, List.map_nil]
    rw [hz]
    refine ACalls.of_body Tryz.func5 (by kernel_rfl) rfl (by kernel_rfl) (by simp [Tryz.ntmps5]) (by simp) ?_
    rw [Tryz.ntmps5]
    repeat' first | ((first | refine aops_end (hK _ ?_) | refine aopsD_end (hK _ ?_) | refine aopsF_end (hK _ ?_)); clear hK K) | ((first | refine aops_go ?_ | refine aopsD_go ?_ | refine aopsF_go ?_); simp; (try (refine gen fun q hq => ?_; cases q <;> (try simp at hq) <;> (try (have hh : True := hq; clear hh hq))))) | (refine wpcall_pure rfl (h1) ?_; simp; (try (refine gen fun q hq => ?_; cases q <;> (try simp at hq) <;> (try (have hh : True := hq; clear hh hq))))) | (refine T.ret (Done.tup (Or.inr rfl) ?_) <;> simp [resAs, Tryz.results5] <;> omega) | refine T.r0 fun K hK => ?_ | refine T.r1 fun K hK => ?_ | (refine ⟨by omega, ?_⟩) | refine T.ct rfl ?_ | refine T.cf rfl ?_ | refine T.seq ?_ | refine T.block ?_ | refine T.skip ?_ | refine T.exit ?_
  | true =>
    rw [hq] at h1
    have hq' := hq
    simp only [cfgOk, Bool.and_eq_true, decide_eq_true_eq] at hq'
    obtain ⟨hs, h6⟩ := hq'
    have hval := hv hs
    have h2 := CountSlotsS_ok e hn
    rw [show termTypesM e = typesM e by simp [termTypesM, hval]] at h2
    have hbl := fun m hm => BlurTermS_ok e m hn hval h6 hm
    have hN : cfgN e = 2 ^ (typesM e).length := by
      obtain ⟨t, ht⟩ := Option.isSome_iff_exists.1 hs
      simp only [cfgN, ht, h6, if_true]
    have hpw : 2 ^ (typesM e).length ≤ 64 := Nat.pow_le_pow_right (n := 2) (by omega) h6
    have hshl : IntKind.i64.wrap (2 ^ min (typesM e).length IntKind.i64.bits) = ((2 ^ (typesM e).length : Nat) : Int) := shl_one (typesM e).length (by omega)
    rw [cfgC]
    have hcl : cfgL e = (List.range (2 ^ (typesM e).length)).map (blurM e) := by rw [cfgL, hN]
    rw [hcl] at hb ⊢
    generalize blurM e = B at *
    generalize typesM e = Tl at *
    generalize 2 ^ Tl.length = N at *
    clear hN hcl hq
    refine ACalls.of_body Tryz.func5 (by kernel_rfl) rfl (by kernel_rfl) (by simp [Tryz.ntmps5]) (by simp) ?_
    rw [Tryz.ntmps5]
    repeat' first | ((first | refine aops_end (hK _ ?_) | refine aopsD_end (hK _ ?_) | refine aopsF_end (hK _ ?_)); clear hK K) | ((first | refine aops_go ?_ | refine aopsD_go ?_ | refine aopsF_go ?_); simp; (try (refine gen fun q hq => ?_; cases q <;> (try simp at hq) <;> (try (have hh : True := hq; clear hh hq))))) | (refine wpcall_pure rfl (h1) ?_; simp; (try (refine gen fun q hq => ?_; cases q <;> (try simp at hq) <;> (try (have hh : True := hq; clear hh hq))))) | refine T.rs (id := 1) (fun i => i == 0) fun K hK => ?_ | refine T.rs1 (id := 1) (fun i => i == 0) fun K hK => ?_ | refine T.rs (id := 0) (fun _ => false) fun K hK => ?_ | refine T.rs1 (id := 0) (fun _ => false) fun K hK => ?_ | refine T.rs (id := 2) (fun _ => false) fun K hK => ?_ | refine T.rs1 (id := 2) (fun _ => false) fun K hK => ?_ | refine T.rs (id := 3) (fun _ => false) fun K hK => ?_ | refine T.rs1 (id := 3) (fun _ => false) fun K hK => ?_ | refine T.rs (id := 4) (fun _ => false) fun K hK => ?_ | refine T.rs1 (id := 4) (fun _ => false) fun K hK => ?_ | refine T.rs (id := 5) (fun _ => false) fun K hK => ?_ | refine T.rs1 (id := 5) (fun _ => false) fun K hK => ?_ | refine T.rs (id := 7) (fun _ => false) fun K hK => ?_ | refine T.rs1 (id := 7) (fun _ => false) fun K hK => ?_ | refine T.rs (id := 8) (fun _ => false) fun K hK => ?_ | refine T.rs1 (id := 8) (fun _ => false) fun K hK => ?_ | refine T.rs (id := 9) (fun _ => false) fun K hK => ?_ | refine T.rs1 (id := 9) (fun _ => false) fun K hK => ?_ | refine T.rs (id := 6) (fun _ => false) fun K hK => ?_ | refine T.rs1 (id := 6) (fun _ => false) fun K hK => ?_ | refine T.rs (id := 10) (fun _ => false) fun K hK => ?_ | refine T.rs1 (id := 10) (fun _ => false) fun K hK => ?_ | (refine ⟨by omega, ?_⟩) | refine T.ct rfl ?_ | refine T.cf rfl ?_ | refine T.seq ?_ | refine T.block ?_ | refine T.skip ?_ | refine T.exit ?_
    refine T.loopK (α := Nat × List (List CV)) [1, 2, 3] (fun x => [(4, .c (.own 0 x.1)), (5, .i x.1)]) (fun _ => []) (fun x => x.2) (fun x _ => [{ sz := 1, ety := 3, rows := rIn (((List.range x.1).map B).map fun x => (cstN x : Int)), wr := true }]) (fun x => N + 1 - x.1) (fun x => x.1 ≤ N) (by simp; rfl) (fun x hx => ?_) (0, []) (by simp) (by simp) (by simp) (by simp)
    obtain ⟨p, G⟩ := x
    dsimp only at hx ⊢
    simp only [ups, List.set_cons_zero, List.set_cons_succ, List.cons_append, List.nil_append]
    by_cases hlt : p < N
    · have hlt2 : (p : Int) < (N : Int) := by omega
      have hb1 := hbl p hlt
      have hb2 := InsertCastsS_ok (B p) (hb _ (List.mem_map.2 ⟨p, List.mem_range.2 hlt, rfl⟩))
      have hrs : rIn (((List.range (p + 1)).map B).map fun x => (cstN x : Int)) = rIn (((List.range p).map B).map fun x => (cstN x : Int)) ++ [[.i (cstN (B p) : Int)]] := by simp [List.range_succ]
      have hrl : (rIn (((List.range p).map B).map fun x => (cstN x : Int))).length = p := by simp
      generalize rIn (((List.range p).map B).map fun x => (cstN x : Int)) = R at *
      cases hr : insertM (B p) with
      | none =>
        rw [hr] at hb2
        have hb3 := l11Casts_ok zeroE (by decide)
        have hcb : cstN (B p) = (castsM zeroE).length := by simp only [cstN, hr, Option.getD_none]
        rw [hcb] at hrs
        simp only [elRes] at hb2
        generalize B p = b at *
        generalize castsM zeroE = C at *
        repeat' first | ((first | refine aops_end (hK _ ?_) | refine aopsD_end (hK _ ?_) | refine aopsF_end (hK _ ?_)); clear hK K) | ((first | refine aops_go ?_ | refine aopsD_go ?_ | refine aopsF_go ?_); simp [hlt, hlt2, hshl, hrl]; (try simp (disch := omega) only [wrap64]); (try (refine gen fun q hq => ?_; cases q <;> (try simp [hlt, hlt2, hshl, hrl] at hq) <;> (try (have hh : True := hq; clear hh hq))))) | (refine wpcall_pure rfl (h2) ?_; simp [hlt, hlt2, hshl, hrl]; (try simp (disch := omega) only [wrap64]); (try (refine gen fun q hq => ?_; cases q <;> (try simp [hlt, hlt2, hshl, hrl] at hq) <;> (try (have hh : True := hq; clear hh hq))))) | (refine wpcall_pure rfl (hb1) ?_; simp [hlt, hlt2, hshl, hrl]; (try simp (disch := omega) only [wrap64]); (try (refine gen fun q hq => ?_; cases q <;> (try simp [hlt, hlt2, hshl, hrl] at hq) <;> (try (have hh : True := hq; clear hh hq))))) | (refine wpcall_pure rfl (hb2) ?_; simp [hlt, hlt2, hshl, hrl]; (try simp (disch := omega) only [wrap64]); (try (refine gen fun q hq => ?_; cases q <;> (try simp [hlt, hlt2, hshl, hrl] at hq) <;> (try (have hh : True := hq; clear hh hq))))) | (refine wpcall_pure ?_ (hb3) ?_; (focus (solve | simp [hlt, hlt2, hshl, hrl])); simp [hlt, hlt2, hshl, hrl]; (try simp (disch := omega) only [wrap64]); (try (refine gen fun q hq => ?_; cases q <;> (try simp [hlt, hlt2, hshl, hrl] at hq) <;> (try (have hh : True := hq; clear hh hq))))) | (refine ⟨by omega, by omega, ?_⟩) | refine T.r0 fun K hK => ?_ | refine T.r1 fun K hK => ?_ | (refine ⟨by omega, ?_⟩) | refine T.ct rfl ?_ | refine T.cf rfl ?_ | refine T.seq ?_ | refine T.block ?_ | refine T.skip ?_ | refine T.exit ?_
        refine ⟨(p + 1, _), by dsimp only; omega, by dsimp only; omega, rfl, ?_, ?_⟩
        · simp [← hrs]
        · simp (disch := omega) [wrap64]
      | some q =>
        obtain ⟨x, t⟩ := q
        obtain ⟨_, _, m, _, _, _, _, _, _, _, _, _, hnx⟩ := insert_some hr
        rw [hr] at hb2
        have hb3 := l11Casts_ok x (by omega)
        have hcb : cstN (B p) = (castsM x).length := by simp only [cstN, hr, Option.getD_some]
        rw [hcb] at hrs
        simp only [elRes] at hb2
        generalize B p = b at *
        generalize castsM x = C at *
        repeat' first | ((first | refine aops_end (hK _ ?_) | refine aopsD_end (hK _ ?_) | refine aopsF_end (hK _ ?_)); clear hK K) | ((first | refine aops_go ?_ | refine aopsD_go ?_ | refine aopsF_go ?_); simp [hlt, hlt2, hshl, hrl]; (try simp (disch := omega) only [wrap64]); (try (refine gen fun q hq => ?_; cases q <;> (try simp [hlt, hlt2, hshl, hrl] at hq) <;> (try (have hh : True := hq; clear hh hq))))) | (refine wpcall_pure rfl (h2) ?_; simp [hlt, hlt2, hshl, hrl]; (try simp (disch := omega) only [wrap64]); (try (refine gen fun q hq => ?_; cases q <;> (try simp [hlt, hlt2, hshl, hrl] at hq) <;> (try (have hh : True := hq; clear hh hq))))) | (refine wpcall_pure rfl (hb1) ?_; simp [hlt, hlt2, hshl, hrl]; (try simp (disch := omega) only [wrap64]); (try (refine gen fun q hq => ?_; cases q <;> (try simp [hlt, hlt2, hshl, hrl] at hq) <;> (try (have hh : True := hq; clear hh hq))))) | (refine wpcall_pure rfl (hb2) ?_; simp [hlt, hlt2, hshl, hrl]; (try simp (disch := omega) only [wrap64]); (try (refine gen fun q hq => ?_; cases q <;> (try simp [hlt, hlt2, hshl, hrl] at hq) <;> (try (have hh : True := hq; clear hh hq))))) | (refine wpcall_pure rfl (hb3) ?_; simp [hlt, hlt2, hshl, hrl]; (try simp (disch := omega) only [wrap64]); (try (refine gen fun q hq => ?_; cases q <;> (try simp [hlt, hlt2, hshl, hrl] at hq) <;> (try (have hh : True := hq; clear hh hq))))) | (refine ⟨by omega, by omega, ?_⟩) | refine T.r0 fun K hK => ?_ | refine T.r1 fun K hK => ?_ | (refine ⟨by omega, ?_⟩) | refine T.ct rfl ?_ | refine T.cf rfl ?_ | refine T.seq ?_ | refine T.block ?_ | refine T.skip ?_ | refine T.exit ?_
        refine ⟨(p + 1, _), by dsimp only; omega, by dsimp only; omega, rfl, ?_, ?_⟩
        · simp [← hrs]
        · simp (disch := omega) [wrap64]
    · have hp' : p = N := by omega
      subst hp'
      have hlt2 : ¬ (p : Int) < (p : Int) := by omega
      repeat' first | ((first | refine aops_end (hK _ ?_) | refine aopsD_end (hK _ ?_) | refine aopsF_end (hK _ ?_)); clear hK K) | ((first | refine aops_go ?_ | refine aopsD_go ?_ | refine aopsF_go ?_); simp [hlt, hlt2, hshl]; (try (refine gen fun q hq => ?_; cases q <;> (try simp [hlt, hlt2, hshl] at hq) <;> (try (have hh : True := hq; clear hh hq))))) | (refine wpcall_pure rfl (h2) ?_; simp [hlt, hlt2, hshl]; (try (refine gen fun q hq => ?_; cases q <;> (try simp [hlt, hlt2, hshl] at hq) <;> (try (have hh : True := hq; clear hh hq))))) | (refine T.ret (Done.tup (Or.inr rfl) ?_) <;> simp [resAs, Tryz.results5] <;> omega) | refine T.r0 fun K hK => ?_ | refine T.r1 fun K hK => ?_ | (refine ⟨by omega, ?_⟩) | refine T.ct rfl ?_ | refine T.cf rfl ?_ | refine T.seq ?_ | refine T.block ?_ | refine T.skip ?_ | refine T.exit ?_
end Go.Proofs.YtbakdfnmippcoaaGreat

namespace Go.Proofs.YtbakdfnmippcoaaGreat
attribute [-simp] Go.Av.callJ
open Go Go.Av
attribute [local irreducible] T ACalls TX EX LX Draws Some_ ACallsX eTy eTm MTy.kind MTy.kids MTm.kind MTm.name MTm.num MTm.ty MTm.fr MTm.label MTm.kids
attribute [local simp] eTy_def eTm_def
set_option maxHeartbeats 16000000
set_option maxRecDepth 8000
attribute [local irreducible] TJ FCalls tyK tyRows tmK tmRows

@[simp] theorem td_u8k : td Tryz.prog 5 = some { ag := false, sz := 1, by_ := 1, zero := some [.d (.int .u8 0)], el := none, ar := none, fl := [], ik := some .u8, isS := false, isB := false } := keep (by kernel_rfl)
@[simp] theorem td_u8Sk : td Tryz.prog 100 = some { ag := false, sz := 1, by_ := 24, zero := some [.nil], el := some 5, ar := none, fl := [], ik := none, isS := false, isB := false } := keep (by kernel_rfl)

def decD (n : Nat) : List UInt8 := if n = 0 then [] else Lib.decDigits n
theorem decD_step {n : Nat} (h : 0 < n) (out : List UInt8) : decD n ++ out = decD (n / 10) ++ (UInt8.ofNat (48 + n % 10) :: out) := by
  rw [decD, if_neg (by omega)]
  conv => lhs; rw [Lib.decDigits]
  split
  · rename_i h1
    have e1 : n / 10 = 0 := by omega
    have e2 : n % 10 = n := by omega
    rw [e1, e2]; simp [decD]
  · rename_i h1
    rw [decD, if_neg (by omega)]; simp

theorem dec_len_k (n : Nat) : (Lib.decDigits n).length ≤ n + 1 := by
  induction n using Nat.strongRecOn with
  | _ n ih =>
    rw [Lib.decDigits]
    split
    · simp
    · have := ih (n / 10) (by omega)
      simp; omega

theorem markText_ok (k : Nat) (h0 : 1 ≤ k) (hk : k ≤ 2199023255552) : ACalls Tryz.prog 44 [.i (k : Int)] [] (.c (.d (.str (mText k)))) [] [] := by
  have hk0 : ¬ (k : Int) ≤ 0 := by omega
  have hk1 : ¬ k = 0 := by omega
  refine ACalls.of_body Tryz.func44 (by kernel_rfl) rfl (by kernel_rfl) (by simp [Tryz.ntmps44]) (by simp) ?_
  rw [Tryz.ntmps44]
  repeat' first | (refine aops_end (hK _ ?_); clear hK K) | (refine aops_go ?_; simp [hk0, hk1]; (try (refine gen fun q hq => ?_; cases q <;> (try simp [hk0, hk1] at hq) <;> (try (have hh : True := hq; clear hh hq))))) | refine T.r0 fun K hK => ?_ | refine T.cf rfl ?_ | refine T.seq ?_ | refine T.block ?_ | refine T.skip ?_
  refine T.loopK (α := Nat × List UInt8) [2] (fun x => [(0, .i (x.1 : Int)), (3, .c (.d (.str x.2)))]) (fun _ => []) (fun _ => []) (fun _ _ => []) (fun x => x.1 + 1) (fun x => x.1 ≤ k ∧ decD x.1 ++ x.2 = decD k) (by simp; rfl) (fun x hx => ?_) (k, []) (by simp) (by simp) (by simp) (by simp)
  obtain ⟨n, out⟩ := x
  obtain ⟨hn, ho⟩ := hx
  dsimp only at hn ho ⊢
  simp only [ups, List.cons_append, List.nil_append]
  have hol : out.length ≤ k + 1 := by
    have h1 : (decD n ++ out).length = (decD k).length := by rw [ho]
    have h2 := dec_len_k k
    rw [decD, decD, if_neg hk1] at h1
    simp at h1; omega
  have key : ∀ k : Nat, k ≤ 9 → ∃ z : Int, IntKind.i64.wrap (48 + (k : Int)) = z ∧ IntKind.u8.wrap z = z ∧ 0 ≤ z ∧ z < 256 ∧ UInt8.ofNat z.toNat = UInt8.ofNat (48 + k) := fun k hk => by
    refine ⟨((48 + k : Nat) : Int), ?_, wrap8 (by omega), by omega, by omega, by rw [Int.toNat_natCast]⟩
    rw [wrap64 (by omega) (by omega)]; omega
  have hl1 : 1 + out.length ≤ 4611686018427387904 := by omega
  by_cases hlt : 0 < n
  · have hlt' : (0 : Int) < (n : Int) := by omega
    rw [decD_step hlt] at ho
    obtain ⟨q, hq⟩ : ∃ q, n / 10 = q := ⟨_, rfl⟩
    obtain ⟨r, hr⟩ : ∃ r, n % 10 = r := ⟨_, rfl⟩
    obtain ⟨z, z1, z2, z3, z4, z5⟩ := key r (by omega)
    have e1 : (n : Int).tmod 10 = (r : Int) := by rw [Int.tmod_eq_emod_of_nonneg (by omega)]; omega
    have e2 : (n : Int).tdiv 10 = (q : Int) := by rw [Int.tdiv_eq_ediv_of_nonneg (by omega)]; omega
    rw [hq, hr] at ho
    obtain ⟨c, hc⟩ : ∃ c, UInt8.ofNat (48 + r) = c := ⟨_, rfl⟩
    rw [hc] at ho z5
    have hqn : q < n := by omega
    repeat' first | (refine aops_end (hK _ ?_); clear hK K) | (refine aops_go ?_; simp [hlt, hlt', hl1, e1, e2, z1, z2, z3, z4, z5, bytesOf, byteOfRow]; (try simp (disch := omega) only [wrap64, catLe]); (try (refine gen fun q hq => ?_; cases q <;> (try simp [hlt, hlt', hl1, e1, e2, z1, z2, z3, z4, z5, bytesOf, byteOfRow] at hq) <;> (try (have hh : True := hq; clear hh hq))))) | refine T.r0 fun K hK => ?_ | refine T.r1 fun K hK => ?_ | refine T.ct rfl ?_ | refine T.seq ?_ | refine T.block ?_ | refine T.skip ?_
    refine ⟨(q, c :: out), by dsimp only; omega, ⟨by dsimp only; omega, ho⟩, rfl, ?_, ?_⟩ <;> simp (disch := omega) [e2, hlt', wrap64]
  · have hlt' : ¬ (0 : Int) < (n : Int) := by omega
    obtain rfl : n = 0 := by omega
    simp [decD, hk1] at ho
    repeat' first | (refine aops_end (hK _ ?_); clear hK K) | (refine aops_go ?_; simp [hlt', hl1]; (try (refine gen fun q hq => ?_; cases q <;> (try simp [hlt', hl1] at hq) <;> (try (have hh : True := hq; clear hh hq))))) | (refine T.ret (Done.data (Or.inr rfl) ?_ ?_) <;> simp [Tryz.results44, mText, ho] <;> omega) | refine T.r0 fun K hK => ?_ | refine T.cf rfl ?_ | refine T.seq ?_ | refine T.exit ?_

theorem markTermS_tree_step (l : List MTm) (k : Nat) (hk : k + cTmS l ≤ 1099511627776) (hlen : l.length ≤ 1099511627776) (h : ∀ t ∈ l, ∀ (k : Nat) v, k + cTmS t.kids ≤ 1099511627776 → FCalls Tryz.prog 29 [.c (.d (.raw v)), .i (k : Int)] [(tmK 34 37 t.kids, v)] fun r L' => r = .i ((k + cTmS t.kids : Nat) : Int) ∧ L' = [(tmK 34 37 (markSm t.kids k), v)]) (v : Value) :
    FCalls Tryz.prog 29 [.c (.d (.raw v)), .i (k : Int)] [(tmK 34 37 l, v)] fun r L' => r = .i ((k + cTmS l : Nat) : Int) ∧ L' = [(tmK 34 37 (markSm l k), v)] := by
  rw [tmK_unf, tmK_unf, markSm_len]
  refine FCalls.mono (R := fun r L' => ∃ cs', L' = [(.t 37 9 l.length cs', v)] ∧ (r = .i ((k + cTmS l : Nat) : Int) ∧ cs' = tmRows 34 37 (markSm l k))) ?_ (by rintro r L' ⟨_, rfl, rfl, rfl⟩; exact ⟨rfl, rfl⟩)
  refine FCalls.of_bodyA Tryz.func29 (by kernel_rfl) rfl (by kernel_rfl) (by simp [Tryz.ntmps29]) ?_ ?_
  rotate_left
  rw [Tryz.ntmps29]
  rotate_left
  · exact tmRows_scal _ _ l
  intro ds Lc hmk hdl
  obtain ⟨vs, hv, hch, rfl⟩ := mk_tmRows_inv _ _ hmk
  rw [hch]
  clear hmk hdl hch
  repeat' first | (refine aopsJ_end (hK _ _ ?_); clear hK K) | (refine aopsJ_go ?_; simp; (try first | (refine OpsJ.gen fun q hq => ?_; cases q <;> (try simp at hq) <;> (try (have hh : True := hq; clear hh hq))))) | refine TJ.rs (fun _ => false) fun K hK => ?_ | refine TJ.seq ?_ | refine TJ.block ?_
  refine TJ.loopK (α := Nat) [0, 4] (fun j => [(1, .i ((k + cTmS (l.take j) : Nat) : Int)), (5, .i j)]) (fun _ => []) (fun _ => []) (fun j _ => [{ sz := 9, ety := 37, rows := List.zipWith rTm (mM l k j) vs, wr := true }]) (fun j => tsTm 34 37 (mM l k j) vs) (fun j => l.length + 1 - j) (fun j => j ≤ l.length) (by simp; rfl) (fun j hj => ?_) 0 (by simp) (by simp) (by simp [mM_zero]) (by simp [cTmS]) (M := []) (by simp [mM_zero])
  dsimp only at hj ⊢
  simp only [ups, List.cons_append, List.nil_append]
  by_cases hlt : j < l.length
  · obtain ⟨u, hu⟩ := get_lt hlt
    have hum : u ∈ l := List.mem_of_getElem? hu
    obtain ⟨⟨v1, v2, v3⟩, hv1⟩ := get_lt (l := vs) (i := j) (by omega)
    have hle := cTmS_take_le l (j + 1)
    have hsu := cTmS_take_succ hu
    rw [cTm_def] at hsu
    have hrj := zipWith_at (f := rTm) (mM_at (k := k) hu) hv1
    obtain ⟨kj, hkj⟩ : ∃ kj, kj = k + cTmS (l.take j) := ⟨_, rfl⟩
    have hms := mM_succ (k := k) hu
    rw [← hkj, markRm_def] at hms
    have hLat : (List.zipWith (tTm 34 37) (mM l k j) vs)[j]? = some (tTm 34 37 u (v1, v2, v3)) := zipWith_at (mM_at hu) hv1
    have hLl : j < (List.zipWith (tTm 34 37) (mM l k j) vs).length := (List.getElem?_eq_some_iff.1 hLat).1
    have hLset : (List.zipWith (tTm 34 37) (mM l k j) vs).set j [(tyK 34 (markS u.ty.kids (kj + 4)), v1), (tyK 34 (markS u.fr.kids (kj + 5 + nTyS u.ty.kids)), v2), (tmK 34 37 (markSm u.kids (kj + 6 + nTyS u.ty.kids + nTyS u.fr.kids)), v3)] = List.zipWith (tTm 34 37) (mM l k (j + 1)) vs := by
      rw [hms, ← zipWith_set1 hv1]
      simp only [tTm, MTm.ty_mk, MTm.fr_mk, MTm.kids_mk, MTy.kids_mk]
    have hrs : (List.zipWith rTm (mM l k j) vs).set j [.i kj, .str (mText (kj + 1)), .i ((kj + 2 : Nat) : Int), .i ((kj + 3 : Nat) : Int), .raw v1, .i ((kj + 4 + nTyS u.ty.kids : Nat) : Int), .raw v2, .i ((kj + 5 + nTyS u.ty.kids + nTyS u.fr.kids : Nat) : Int), .raw v3] = List.zipWith rTm (mM l k (j + 1)) vs := by
      rw [hms, ← zipWith_set1 hv1]
      simp only [rTm, MTm.kind_mk, MTm.name_mk, MTm.num_mk, MTm.ty_mk, MTm.fr_mk, MTm.label_mk, MTy.kind_mk]
    have hrl : (List.zipWith rTm (mM l k j) vs).length = l.length := by rw [List.length_zipWith, mM_len]; omega
    have hkj2 : ((k + cTmS (l.take (j + 1)) : Nat) : Int) = ((kj + 6 + nTyS u.ty.kids + nTyS u.fr.kids + cTmS u.kids : Nat) : Int) := by rw [hsu, hkj]; congr 1; omega
    have hct := markText_ok (kj + 1) (by omega) (by omega)
    have hc1 := markTypeS_tree u.ty.kids (kj + 4) (by omega) v1
    have hc2 := markTypeS_tree u.fr.kids (kj + 5 + nTyS u.ty.kids) (by omega) v2
    have hc3 := h u hum (kj + 6 + nTyS u.ty.kids + nTyS u.fr.kids) v3 (by omega)
    have hpm : (tsTm 34 37 (mM l k j) vs).Perm (((tyK 34 u.ty.kids, v1) :: (tyK 34 u.fr.kids, v2) :: (tmK 34 37 u.kids, v3) :: ((List.zipWith (tTm 34 37) (mM l k j) vs).eraseIdx j).flatten) ++ []) := by
      rw [List.append_nil]; exact flat_out hLat
    have hpi := flat_in [(tyK 34 (markS u.ty.kids (kj + 4)), v1), (tyK 34 (markS u.fr.kids (kj + 5 + nTyS u.ty.kids)), v2), (tmK 34 37 (markSm u.kids (kj + 6 + nTyS u.ty.kids + nTyS u.fr.kids)), v3)] hLl
    rw [hLset] at hpi
    refine TJ.less hpm ?_
    generalize ((List.zipWith (tTm 34 37) (mM l k j) vs).eraseIdx j).flatten = D at *
    rw [← hkj] at *
    have hrjx := hrj
    obtain ⟨R, hR⟩ : ∃ R, R = List.zipWith rTm (mM l k j) vs := ⟨_, rfl⟩
    rw [← hR] at hrj hrs hrl ⊢
    have hrj' : ∀ h, R[j]'h = rTm u (v1, v2, v3) := fun hh => by rw [List.getElem?_eq_getElem hh] at hrj; exact Option.some.inj hrj
    have hlt2 : j < R.length := by omega
    generalize nTyS u.ty.kids = na at *
    generalize nTyS u.fr.kids = nb at *
    generalize cTmS u.kids = nc at *
    rw [show ((kj + 5 + na : Nat) : Int) = (kj : Int) + 4 + (na : Int) + 1 by omega] at hc2
    rw [show ((kj + 6 + na + nb : Nat) : Int) = (kj : Int) + 5 + (na : Int) + (nb : Int) + 1 by omega] at hc3
    repeat' first | (refine aopsJ_end (hK _ _ ?_); clear hK K) | (refine aopsJ_go ?_; simp [hlt, hrl, hlt2, hrj']; (try simp (disch := omega) only [wrap64]); (try first | (refine OpsJ.gen fun q hq => ?_; cases q <;> (try simp [hlt, hrl, hlt2, hrj'] at hq) <;> (try (have hh : True := hq; clear hh hq))))) | (refine wpcallJ_pure rfl (hct) ?_; simp [hlt, hrl, hlt2, hrj']; (try simp (disch := omega) only [wrap64]); (try first | (refine OpsJ.gen fun q hq => ?_; cases q <;> (try simp [hlt, hrl, hlt2, hrj'] at hq) <;> (try (have hh : True := hq; clear hh hq))))) | (refine wpcallJ_mut (L2 := (tyK 34 u.fr.kids, v2) :: (tmK 34 37 u.kids, v3) :: D) ?_ ?_ (hc1) ?_; (focus (solve | exact .refl _)); (focus (solve | (repeat' first | exact FzVs.nil | apply FzVs.cons | apply FzV.c | apply FzV.agg | exact FzL.nil | apply FzL.cons | exact FzC.d | exact FzC.nil | exact FzC.np | (refine FzC.thaw' ?_ (tyK_dp _ _); (focus (solve | simp))) | (refine FzC.thaw' ?_ (tmK_dp _ _ _); (focus (solve | simp)))))); rintro _ _ ⟨rfl, rfl⟩; simp [hlt, hrl, hlt2, hrj']; (try simp (disch := omega) only [wrap64]); (try first | (refine OpsJ.gen fun q hq => ?_; cases q <;> (try simp [hlt, hrl, hlt2, hrj'] at hq) <;> (try (have hh : True := hq; clear hh hq))))) | (refine wpcallJ_mut (L2 := (tyK 34 (markS u.ty.kids (kj + 4)), v1) :: (tmK 34 37 u.kids, v3) :: D) ?_ ?_ (hc2) ?_; (focus (solve | exact List.Perm.swap _ _ _)); (focus (solve | (repeat' first | exact FzVs.nil | apply FzVs.cons | apply FzV.c | apply FzV.agg | exact FzL.nil | apply FzL.cons | exact FzC.d | exact FzC.nil | exact FzC.np | (refine FzC.thaw' ?_ (tyK_dp _ _); (focus (solve | simp))) | (refine FzC.thaw' ?_ (tmK_dp _ _ _); (focus (solve | simp)))))); rintro _ _ ⟨rfl, rfl⟩; simp [hlt, hrl, hlt2, hrj']; (try simp (disch := omega) only [wrap64]); (try first | (refine OpsJ.gen fun q hq => ?_; cases q <;> (try simp [hlt, hrl, hlt2, hrj'] at hq) <;> (try (have hh : True := hq; clear hh hq))))) | (refine wpcallJ_mut (L2 := (tyK 34 (markS u.fr.kids (kj + 5 + na)), v2) :: (tyK 34 (markS u.ty.kids (kj + 4)), v1) :: D) ?_ ?_ (hc3) ?_; (focus (solve | exact (List.Perm.cons _ (List.Perm.swap _ _ _)).trans (List.Perm.swap _ _ _))); (focus (solve | (repeat' first | exact FzVs.nil | apply FzVs.cons | apply FzV.c | apply FzV.agg | exact FzL.nil | apply FzL.cons | exact FzC.d | exact FzC.nil | exact FzC.np | (refine FzC.thaw' ?_ (tyK_dp _ _); (focus (solve | simp))) | (refine FzC.thaw' ?_ (tmK_dp _ _ _); (focus (solve | simp)))))); rintro _ _ ⟨rfl, rfl⟩; simp [hlt, hrl, hlt2, hrj']; (try simp (disch := omega) only [wrap64]); (try first | (refine OpsJ.gen fun q hq => ?_; cases q <;> (try simp [hlt, hrl, hlt2, hrj'] at hq) <;> (try (have hh : True := hq; clear hh hq))))) | refine TJ.rs (fun _ => false) fun K hK => ?_ | refine TJ.rs1 (fun _ => false) fun K hK => ?_ | refine TJ.cond rfl (fun hcnd => ?_) (fun hcnd => absurd hcnd (by decide)) | refine TJ.seq ?_ | refine TJ.block ?_ | refine TJ.skip ?_
    refine ⟨j + 1, [], by dsimp only; omega, by dsimp only; omega, ?_, ?_⟩
    · dsimp only
      rw [← hrs, hkj2]
      simp (disch := omega) [wrap64]
      simp [Int.add_assoc]
    · dsimp only
      rw [List.append_nil]
      refine List.Perm.trans ?_ hpi
      exact (List.reverse_perm [(tyK 34 (markS u.ty.kids (kj + 4)), v1), (tyK 34 (markS u.fr.kids (kj + 5 + na)), v2), (tmK 34 37 (markSm u.kids (kj + 6 + na + nb)), v3)]).append_right D
  · have hp' : j = l.length := by omega
    subst hp'
    rw [mM_all, List.take_length]
    repeat' first | (refine aopsJ_end (hK _ _ ?_); clear hK K) | (refine aopsJ_go ?_; simp [hlt]; (try first | (refine OpsJ.gen fun q hq => ?_; cases q <;> (try simp [hlt] at hq) <;> (try (have hh : True := hq; clear hh hq))))) | refine TJ.rs (fun _ => false) fun K hK => ?_ | refine TJ.cond rfl (fun hcnd => absurd hcnd (by decide)) (fun hcnd => ?_) | refine TJ.seq ?_ | refine TJ.exit ?_
    refine TJ.ret (DoneA.one (r := .i ((k + cTmS l : Nat) : Int)) (Or.inr rfl) (by simp [Tryz.results29]) (by simp [DV.scal]) rfl ?_ (mk_tmRows 34 37 (l := markSm l k) (by rw [markSm_len]; exact hv)) (M := []) (by simp [tsTm]) ⟨rfl, rfl⟩)
    rw [List.length_zipWith, markSm_len]; omega

theorem markTermS_tree : (l : List MTm) → (k : Nat) → k + cTmS l ≤ 1099511627776 → (v : Value) → FCalls Tryz.prog 29 [.c (.d (.raw v)), .i (k : Int)] [(tmK 34 37 l, v)] fun r L' => r = .i ((k + cTmS l : Nat) : Int) ∧ L' = [(tmK 34 37 (markSm l k), v)]
  | l, k, hk, v => markTermS_tree_step l k hk (by have := cTmS_len l; omega) (fun t ht k v hk => markTermS_tree t.kids k hk v) v
termination_by l => SizeOf.sizeOf l
decreasing_by have := List.sizeOf_lt_of_mem ht; cases t; simp at *; omega

theorem markTerm_tree (e : MTm) (k : Nat) (hk : k + cTm e ≤ 1099511627776) (v : V3) : FCalls Tryz.prog 10 [.agg ((rTm e v).map CV.d), .i (k : Int)] (tTm 34 37 e v) fun r L' => r = .i ((k + nTyS e.ty.kids + nTyS e.fr.kids + cTmS e.kids : Nat) : Int) ∧
    L' = tTm 34 37 (.mk e.kind e.name e.num (.mk e.ty.kind (markS e.ty.kids k)) (.mk e.fr.kind (markS e.fr.kids (k + nTyS e.ty.kids))) e.label (markSm e.kids (k + nTyS e.ty.kids + nTyS e.fr.kids))) v := by
  obtain ⟨v1, v2, v3⟩ := v
  rw [cTm_def] at hk
  have hc1 := markType_tree e.ty k (by omega) v1
  have hc2 := markType_tree e.fr (k + nTyS e.ty.kids) (by omega) v2
  have hc3 := markTermS_tree e.kids (k + nTyS e.ty.kids + nTyS e.fr.kids) (by omega) v3
  simp only [tTm, MTm.ty_mk, MTm.fr_mk, MTm.kids_mk, MTy.kids_mk]
  generalize k + nTyS e.ty.kids + nTyS e.fr.kids = k3 at *
  generalize k + nTyS e.ty.kids = k2 at *
  generalize k3 + cTmS e.kids = k4 at *
  refine FCalls.of_body Tryz.func10 (by kernel_rfl) rfl (by kernel_rfl) (by simp [Tryz.ntmps10]) ?_
  rw [Tryz.ntmps10]
  repeat' first | (refine aopsJ_end (hK _ _ ?_); clear hK K) | (refine aopsJ_go ?_; simp; (try first | (refine OpsJ.gen fun q hq => ?_; cases q <;> (try simp at hq) <;> (try (have hh : True := hq; clear hh hq))))) | (refine wpcallJ_mut (L2 := (tyK 34 e.fr.kids, v2) :: (tmK 34 37 e.kids, v3) :: []) ?_ ?_ (hc1) ?_; (focus (solve | exact .refl _)); (focus (solve | (repeat' first | exact FzVs.nil | apply FzVs.cons | apply FzV.c | apply FzV.agg | exact FzL.nil | apply FzL.cons | exact FzC.d | exact FzC.nil | exact FzC.np | (refine FzC.thaw' ?_ (tyK_dp _ _); (focus (solve | simp))) | (refine FzC.thaw' ?_ (tmK_dp _ _ _); (focus (solve | simp)))))); rintro _ _ ⟨rfl, rfl⟩; simp; (try first | (refine OpsJ.gen fun q hq => ?_; cases q <;> (try simp at hq) <;> (try (have hh : True := hq; clear hh hq))))) | (refine wpcallJ_mut (L2 := (tyK 34 (markS e.ty.kids k), v1) :: (tmK 34 37 e.kids, v3) :: []) ?_ ?_ (hc2) ?_; (focus (solve | exact List.Perm.swap _ _ _)); (focus (solve | (repeat' first | exact FzVs.nil | apply FzVs.cons | apply FzV.c | apply FzV.agg | exact FzL.nil | apply FzL.cons | exact FzC.d | exact FzC.nil | exact FzC.np | (refine FzC.thaw' ?_ (tyK_dp _ _); (focus (solve | simp))) | (refine FzC.thaw' ?_ (tmK_dp _ _ _); (focus (solve | simp)))))); rintro _ _ ⟨rfl, rfl⟩; simp; (try first | (refine OpsJ.gen fun q hq => ?_; cases q <;> (try simp at hq) <;> (try (have hh : True := hq; clear hh hq))))) | (refine wpcallJ_mut (L2 := (tyK 34 (markS e.fr.kids k2), v2) :: (tyK 34 (markS e.ty.kids k), v1) :: []) ?_ ?_ (hc3) ?_; (focus (solve | exact (List.Perm.cons _ (List.Perm.swap _ _ _)).trans (List.Perm.swap _ _ _))); (focus (solve | (repeat' first | exact FzVs.nil | apply FzVs.cons | apply FzV.c | apply FzV.agg | exact FzL.nil | apply FzL.cons | exact FzC.d | exact FzC.nil | exact FzC.np | (refine FzC.thaw' ?_ (tyK_dp _ _); (focus (solve | simp))) | (refine FzC.thaw' ?_ (tmK_dp _ _ _); (focus (solve | simp)))))); rintro _ _ ⟨rfl, rfl⟩; simp; (try first | (refine OpsJ.gen fun q hq => ?_; cases q <;> (try simp at hq) <;> (try (have hh : True := hq; clear hh hq))))) | refine TJ.rs (fun _ => false) fun K hK => ?_
  refine TJ.ret (DoneJ.agg (Or.inr rfl) (r := .i k4) (r' := .i k4) (L' := [(tyK 34 (markS e.ty.kids k), v1), (tyK 34 (markS e.fr.kids k2), v2), (tmK 34 37 (markSm e.kids k3), v3)]) (M := []) (by simp [Tryz.results10]) (by simp [DV.scal]) ?_ ⟨rfl, rfl⟩)
  rw [List.append_nil]
  exact (List.reverse_perm _).symm
end Go.Proofs.YtbakdfnmippcoaaGreat

namespace Go.Proofs.YtbakdfnmippcoaaGreat
attribute [-simp] Go.Av.callJ
open Go Go.Av
attribute [local irreducible] T ACalls TX EX LX Draws Some_ ACallsX eTy eTm MTy.kind MTy.kids MTm.kind MTm.name MTm.num MTm.ty MTm.fr MTm.label MTm.kids
attribute [local simp] eTy_def eTm_def
set_option maxHeartbeats 16000000
set_option maxRecDepth 8000

end Go.Proofs.YtbakdfnmippcoaaGreat

namespace Go.Proofs.YtbakdfnmippcoaaGreat
open Go Go.Av
attribute [local irreducible] T ACalls TX EX LX Draws Some_ ACallsX eTy eTm MTy.kind MTy.kids MTm.kind MTm.name MTm.num MTm.ty MTm.fr MTm.label MTm.kids
attribute [local simp] eTy_def eTm_def
set_option maxHeartbeats 16000000
set_option maxRecDepth 8000
attribute [local irreducible] TJ FCalls tyK tyRows tmK tmRows

theorem cfg_small (e : MTm) (hv : (typeInM [] e).isSome = true → termValidM e = true) : ∀ u ∈ cfgL e, nTm u ≤ 1073741824 := by
  intro u hu
  rw [cfgL] at hu
  obtain ⟨m, hm, rfl⟩ := List.mem_map.1 hu
  rw [cfgN] at hm
  cases hr : typeInM [] e with
  | none => rw [hr] at hm; simp at hm
  | some t =>
    rw [hr] at hv
    have := valid_small (blur_valid (hv rfl) m)
    omega

theorem lawExactConfigCasts_ok (e : MTm) (hw : wTm e) : ACalls Tryz.prog 3 [aTm e] [] (.b true) [] [] := by
  have hsz := szTerm_ok e hw 1048576 (by omega) (by omega)
  by_cases hn : nTm e ≤ 1048576
  rotate_left
  · rw [show szM (nTm e) 1048576 = -1 by simp only [szM]; rw [if_neg (by omega)]] at hsz
    refine ACalls.of_body Tryz.func3 (by kernel_rfl) rfl (by kernel_rfl) (by simp [Tryz.ntmps3]) (by simp) ?_
    rw [Tryz.ntmps3]
    repeat' first | ((first | refine aops_end (hK _ ?_) | refine aopsD_end (hK _ ?_) | refine aopsF_end (hK _ ?_)); clear hK K) | ((first | refine aops_go ?_ | refine aopsD_go ?_ | refine aopsF_go ?_); simp; (try (refine gen fun q hq => ?_; cases q <;> (try simp at hq) <;> (try (have hh : True := hq; clear hh hq))))) | (refine wpcall_pure rfl (hsz) ?_; simp; (try (refine gen fun q hq => ?_; cases q <;> (try simp at hq) <;> (try (have hh : True := hq; clear hh hq))))) | (refine T.ret (Done.data (Or.inr rfl) ?_ ?_) <;> simp [Tryz.results3] <;> omega) | refine T.rd (id := 10) mixed (fun _ => false) [] (by kernel_rfl) fun K hK => ?_ | refine T.rd1 (id := 10) mixed (fun _ => false) [] (by kernel_rfl) fun K hK => ?_ | refine T.r0 fun K hK => ?_ | refine T.r1 fun K hK => ?_ | (refine ⟨by omega, ?_⟩) | refine T.ct rfl ?_ | refine T.cf rfl ?_ | refine T.seq ?_ | refine T.block ?_ | refine T.skip ?_ | refine T.exit ?_
  have hpos : ¬ szM (nTm e) 1048576 < 0 := by simp only [szM]; rw [if_pos (by omega)]; omega
  have hval : (typeInM [] e).isSome = true → termValidM e = true := by
    intro h
    simp only [typeInM] at h
    cases hv : termValidM e with
    | true => rfl
    | false => rw [hv] at h; simp at h
  have hsml := cfg_small e hval
  have hce := cTm_le e
  have hto := toTerm_ok e hn
  have htr := toTerm_tree e hn
  have heq := eqTerm_ok e hn
  have h1 := ConfigCastsS_ok e (by omega) hval hsml
  have h2 := ConfigCasts_tree e (by omega) hval hsml
  have hm1 := fun v => markTerm_tree e 1 (by omega) v
  have hcl : (cfgC e).length ≤ 64 := by rw [cfgC, List.length_map]; exact cfg_len e
  generalize cfgC e = x at *
  generalize cfgOk e = b at *
  have heX := eqIntS_ok x (by omega)
  have hm2 := fun v => markIntS_tree x 1 (by omega) v
  have hh2 := heldIntS_ok x.length 1 (by omega)
  have f2 : ¬ (((1 + x.length : Nat) : Int) < 0) := by omega
  obtain ⟨n2, hn2⟩ : ∃ n2, n2 = 1 + x.length := ⟨_, rfl⟩
  rw [← hn2] at hm2 hh2 f2
  clear hn2
  generalize (1 + nTyS e.ty.kids + nTyS e.fr.kids + cTmS e.kids) = n1 at hm1
  have f1 : ¬ ((n1 : Int) < 0) := by omega
  generalize szM (nTm e) 1048576 = z at hsz hpos
  refine FCalls.plain ?_
  refine FCalls.of_body Tryz.func3 (by kernel_rfl) rfl (by kernel_rfl) (by simp [Tryz.ntmps3]) ?_
  rw [Tryz.ntmps3]
  repeat' first | (refine aopsJ_end (hK _ _ ?_); clear hK K) | (refine aopsD_end (hK _ ?_); clear hK K) | (refine aopsJ_go ?_; simp [hpos]) | (refine aopsD_go ?_; simp [hpos]) | (refine aopsF_end (hK _ ?_); clear hK K) | (refine aopsF_go ?_; simp [hpos]) | (refine wpcallJ_pure rfl (hsz) ?_; simp [hpos]) | (refine wpcall_pure rfl (hsz) ?_; simp [hpos]) | (refine wpcallJ_pure rfl (hto) ?_; simp [hpos]) | (refine wpcall_pure rfl (hto) ?_; simp [hpos]) | (refine wpcallJ_pure rfl (h1) ?_; simp [hpos]) | (refine wpcall_pure rfl (h1) ?_; simp [hpos]) | refine TJ.seqT (T.rd1 (id := 10) mixed (fun _ => false) [] (by kernel_rfl) fun K hK => ?_) | refine TJ.rs (id := 0) (fun _ => false) fun K hK => ?_ | refine TJ.rs1 (id := 0) (fun _ => false) fun K hK => ?_ | refine TJ.rs (id := 1) (fun _ => false) fun K hK => ?_ | refine TJ.rs1 (id := 1) (fun _ => false) fun K hK => ?_ | refine TJ.rs (id := 2) (fun _ => false) fun K hK => ?_ | refine TJ.rs1 (id := 2) (fun _ => false) fun K hK => ?_ | refine TJ.rs (id := 3) (fun _ => false) fun K hK => ?_ | refine TJ.rs1 (id := 3) (fun _ => false) fun K hK => ?_ | refine TJ.rs (id := 4) (fun _ => false) fun K hK => ?_ | refine TJ.rs1 (id := 4) (fun _ => false) fun K hK => ?_ | refine TJ.rs (id := 5) (fun _ => false) fun K hK => ?_ | refine TJ.rs1 (id := 5) (fun _ => false) fun K hK => ?_ | (refine And.intro (by omega) ?_) | refine TJ.cond rfl (fun hcnd => ?_) (fun hcnd => absurd hcnd (by decide)) | refine TJ.cond rfl (fun hcnd => absurd hcnd (by decide)) (fun hcnd => ?_) | refine TJ.seq ?_ | refine TJ.block ?_ | refine TJ.skip ?_ | refine TJ.exit ?_
  repeat' first | (refine aopsJ_end (hK _ _ ?_); clear hK K) | (refine aopsD_end (hK _ ?_); clear hK K) | (refine aopsJ_go ?_; simp [hpos]) | (refine aopsD_go ?_; simp [hpos]) | (refine aopsF_end (hK _ ?_); clear hK K) | (refine aopsF_go ?_; simp [hpos]) | (refine wpcallJ_new ?_ (htr) ?_; (focus (solve | (repeat' first | exact FzVs.nil | apply FzVs.cons | apply FzV.c | apply FzV.agg | exact FzL.nil | apply FzL.cons | exact FzC.d | exact FzC.nil | exact FzC.np | exact FzC.fn | (refine FzC.thaw' ?_ (tyK_dp 34 _); (focus (solve | simp [tTm]))) | (refine FzC.thaw' ?_ (tmK_dp 34 37 _); (focus (solve | simp [tTm])))))); rintro _ _ ⟨⟨v1, v2, v3⟩, rfl, rfl⟩; simp [hpos]) | refine TJ.seqT (T.rd1 (id := 10) mixed (fun _ => false) [] (by kernel_rfl) fun K hK => ?_) | refine TJ.rs (id := 0) (fun _ => false) fun K hK => ?_ | refine TJ.rs1 (id := 0) (fun _ => false) fun K hK => ?_ | refine TJ.rs (id := 1) (fun _ => false) fun K hK => ?_ | refine TJ.rs1 (id := 1) (fun _ => false) fun K hK => ?_ | refine TJ.rs (id := 2) (fun _ => false) fun K hK => ?_ | refine TJ.rs1 (id := 2) (fun _ => false) fun K hK => ?_ | refine TJ.rs (id := 3) (fun _ => false) fun K hK => ?_ | refine TJ.rs1 (id := 3) (fun _ => false) fun K hK => ?_ | refine TJ.rs (id := 4) (fun _ => false) fun K hK => ?_ | refine TJ.rs1 (id := 4) (fun _ => false) fun K hK => ?_ | refine TJ.rs (id := 5) (fun _ => false) fun K hK => ?_ | refine TJ.rs1 (id := 5) (fun _ => false) fun K hK => ?_ | refine TJ.rs (id := 6) (fun _ => false) fun K hK => ?_ | refine TJ.rs1 (id := 6) (fun _ => false) fun K hK => ?_ | (refine And.intro (by omega) ?_) | refine TJ.cond rfl (fun hcnd => ?_) (fun hcnd => absurd hcnd (by decide)) | refine TJ.cond rfl (fun hcnd => absurd hcnd (by decide)) (fun hcnd => ?_) | refine TJ.seq ?_ | refine TJ.block ?_ | refine TJ.skip ?_ | refine TJ.exit ?_
  have hmx := hm1 (v1, v2, v3)
  repeat' first | (refine aopsJ_end (hK _ _ ?_); clear hK K) | (refine aopsD_end (hK _ ?_); clear hK K) | (refine aopsJ_go ?_; simp [hpos]) | (refine aopsD_go ?_; simp [hpos]) | (refine aopsF_end (hK _ ?_); clear hK K) | (refine aopsF_go ?_; simp [hpos]) | (refine wpcallJ_new ?_ (h2) ?_; (focus (solve | (repeat' first | exact FzVs.nil | apply FzVs.cons | apply FzV.c | apply FzV.agg | exact FzL.nil | apply FzL.cons | exact FzC.d | exact FzC.nil | exact FzC.np | exact FzC.fn | (refine FzC.thaw' ?_ (tyK_dp 34 _); (focus (solve | simp [tTm]))) | (refine FzC.thaw' ?_ (tmK_dp 34 37 _); (focus (solve | simp [tTm])))))); rintro _ _ ⟨w, rfl, rfl⟩; simp [hpos]) | refine TJ.seqT (T.rd1 (id := 10) mixed (fun _ => false) [] (by kernel_rfl) fun K hK => ?_) | refine TJ.rs (id := 0) (fun _ => false) fun K hK => ?_ | refine TJ.rs1 (id := 0) (fun _ => false) fun K hK => ?_ | refine TJ.rs (id := 1) (fun _ => false) fun K hK => ?_ | refine TJ.rs1 (id := 1) (fun _ => false) fun K hK => ?_ | refine TJ.rs (id := 2) (fun _ => false) fun K hK => ?_ | refine TJ.rs1 (id := 2) (fun _ => false) fun K hK => ?_ | refine TJ.rs (id := 3) (fun _ => false) fun K hK => ?_ | refine TJ.rs1 (id := 3) (fun _ => false) fun K hK => ?_ | refine TJ.rs (id := 4) (fun _ => false) fun K hK => ?_ | refine TJ.rs1 (id := 4) (fun _ => false) fun K hK => ?_ | refine TJ.rs (id := 5) (fun _ => false) fun K hK => ?_ | refine TJ.rs1 (id := 5) (fun _ => false) fun K hK => ?_ | refine TJ.rs (id := 6) (fun _ => false) fun K hK => ?_ | refine TJ.rs1 (id := 6) (fun _ => false) fun K hK => ?_ | refine TJ.rs (id := 7) (fun _ => false) fun K hK => ?_ | refine TJ.rs1 (id := 7) (fun _ => false) fun K hK => ?_ | (refine And.intro (by omega) ?_) | refine TJ.cond rfl (fun hcnd => ?_) (fun hcnd => absurd hcnd (by decide)) | refine TJ.cond rfl (fun hcnd => absurd hcnd (by decide)) (fun hcnd => ?_) | refine TJ.seq ?_ | refine TJ.block ?_ | refine TJ.skip ?_ | refine TJ.exit ?_
  have hmy := hm2 w
  repeat' first | (refine aopsJ_end (hK _ _ ?_); clear hK K) | (refine aopsD_end (hK _ ?_); clear hK K) | (refine aopsJ_go ?_; simp [hpos]) | (refine aopsD_go ?_; simp [hpos]) | (refine aopsF_end (hK _ ?_); clear hK K) | (refine aopsF_go ?_; simp [hpos]) | (refine aopsP_end (hK _ _ ?_); clear hK K) | (refine aopsP_go rfl ?_; simp [hpos]) | (refine aopsP_call rfl ?_; simp [hpos]) | (refine wpcallP_scal ?_ (heX) rfl ?_; (focus (solve | (repeat' first | exact FzVs.nil | apply FzVs.cons | apply FzV.c | apply FzV.agg | exact FzL.nil | apply FzL.cons | exact FzC.d | exact FzC.nil | exact FzC.np | exact FzC.fn | (refine FzC.thaw' ?_ (inK_dp 3 _); (focus (solve | simp [tTm]))) | (refine FzC.thaw' ?_ (tyK_dp 34 _); (focus (solve | simp [tTm]))) | (refine FzC.thaw' ?_ (tmK_dp 34 37 _); (focus (solve | simp [tTm])))))); (try (simp [hpos]))) | (refine wpcallP_scal ?_ (heq) rfl ?_; (focus (solve | (repeat' first | exact FzVs.nil | apply FzVs.cons | apply FzV.c | apply FzV.agg | exact FzL.nil | apply FzL.cons | exact FzC.d | exact FzC.nil | exact FzC.np | exact FzC.fn | (refine FzC.thaw' ?_ (inK_dp 3 _); (focus (solve | simp [tTm]))) | (refine FzC.thaw' ?_ (tyK_dp 34 _); (focus (solve | simp [tTm]))) | (refine FzC.thaw' ?_ (tmK_dp 34 37 _); (focus (solve | simp [tTm])))))); (try (simp [hpos]))) | (refine wpcallJ_pure rfl (hto) ?_; simp [hpos]) | (refine wpcall_pure rfl (hto) ?_; simp [hpos]) | (refine wpcallJ_scal ?_ (heX) rfl ?_; (focus (solve | (repeat' first | exact FzVs.nil | apply FzVs.cons | apply FzV.c | apply FzV.agg | exact FzL.nil | apply FzL.cons | exact FzC.d | exact FzC.nil | exact FzC.np | exact FzC.fn | (refine FzC.thaw' ?_ (inK_dp 3 _); (focus (solve | simp [tTm]))) | (refine FzC.thaw' ?_ (tyK_dp 34 _); (focus (solve | simp [tTm]))) | (refine FzC.thaw' ?_ (tmK_dp 34 37 _); (focus (solve | simp [tTm])))))); simp [hpos]) | (refine wpcallJ_scal ?_ (heq) rfl ?_; (focus (solve | (repeat' first | exact FzVs.nil | apply FzVs.cons | apply FzV.c | apply FzV.agg | exact FzL.nil | apply FzL.cons | exact FzC.d | exact FzC.nil | exact FzC.np | exact FzC.fn | (refine FzC.thaw' ?_ (inK_dp 3 _); (focus (solve | simp [tTm]))) | (refine FzC.thaw' ?_ (tyK_dp 34 _); (focus (solve | simp [tTm]))) | (refine FzC.thaw' ?_ (tmK_dp 34 37 _); (focus (solve | simp [tTm])))))); simp [hpos]) | (refine TJ.rdP (id := 10) mixed [0, 1, 2, 3, 4] (fun _ => false) [] [3] (by kernel_rfl) (by kernel_rfl) (by kernel_rfl) fun K hK => ?_; simp only [pickOps, List.map_cons, List.map_nil, List.getD_cons_zero, List.getD_cons_succ]) | (refine TJ.rdP1 (id := 10) mixed [0, 1, 2, 3, 4] (fun _ => false) [] [3] (by kernel_rfl) (by kernel_rfl) (by kernel_rfl) fun K hK => ?_; simp only [pickOps, List.map_cons, List.map_nil, List.getD_cons_zero, List.getD_cons_succ]) | refine TJ.rs (id := 0) (fun _ => false) fun K hK => ?_ | refine TJ.rs1 (id := 0) (fun _ => false) fun K hK => ?_ | refine TJ.rs (id := 1) (fun _ => false) fun K hK => ?_ | refine TJ.rs1 (id := 1) (fun _ => false) fun K hK => ?_ | refine TJ.rs (id := 2) (fun _ => false) fun K hK => ?_ | refine TJ.rs1 (id := 2) (fun _ => false) fun K hK => ?_ | refine TJ.rs (id := 3) (fun _ => false) fun K hK => ?_ | refine TJ.rs1 (id := 3) (fun _ => false) fun K hK => ?_ | refine TJ.rs (id := 4) (fun _ => false) fun K hK => ?_ | refine TJ.rs1 (id := 4) (fun _ => false) fun K hK => ?_ | refine TJ.rs (id := 5) (fun _ => false) fun K hK => ?_ | refine TJ.rs1 (id := 5) (fun _ => false) fun K hK => ?_ | refine TJ.rs (id := 6) (fun _ => false) fun K hK => ?_ | refine TJ.rs1 (id := 6) (fun _ => false) fun K hK => ?_ | refine TJ.rs (id := 7) (fun _ => false) fun K hK => ?_ | refine TJ.rs1 (id := 7) (fun _ => false) fun K hK => ?_ | refine TJ.rs (id := 8) (fun _ => false) fun K hK => ?_ | refine TJ.rs1 (id := 8) (fun _ => false) fun K hK => ?_ | refine TJ.rs (id := 9) (fun _ => false) fun K hK => ?_ | refine TJ.rs1 (id := 9) (fun _ => false) fun K hK => ?_ | refine TJ.rs (id := 11) (fun _ => false) fun K hK => ?_ | refine TJ.rs1 (id := 11) (fun _ => false) fun K hK => ?_ | refine TJ.rs (id := 12) (fun _ => false) fun K hK => ?_ | refine TJ.rs1 (id := 12) (fun _ => false) fun K hK => ?_ | (refine And.intro (by omega) ?_) | refine TJ.cond rfl (fun hcnd => ?_) (fun hcnd => absurd hcnd (by decide)) | refine TJ.cond rfl (fun hcnd => absurd hcnd (by decide)) (fun hcnd => ?_) | refine TJ.seq ?_ | refine TJ.block ?_ | refine TJ.skip ?_ | refine TJ.exit ?_
  repeat' first | (refine aopsJ_end (hK _ _ ?_); clear hK K) | (refine aopsD_end (hK _ ?_); clear hK K) | (refine aopsJ_go ?_; simp [hpos]) | (refine aopsD_go ?_; simp [hpos]) | (refine aopsF_end (hK _ ?_); clear hK K) | (refine aopsF_go ?_; simp [hpos]) | (refine wpcallJ_mut (L2 := [(inK 3 x, w)]) ?_ ?_ (hmx) ?_; (focus (solve | exact List.perm_append_comm (l₁ := [_]))); (focus (solve | (repeat' first | exact FzVs.nil | apply FzVs.cons | apply FzV.c | apply FzV.agg | exact FzL.nil | apply FzL.cons | exact FzC.d | exact FzC.nil | exact FzC.np | exact FzC.fn | (refine FzC.thaw' ?_ (tyK_dp 34 _); (focus (solve | simp [tTm]))) | (refine FzC.thaw' ?_ (tmK_dp 34 37 _); (focus (solve | simp [tTm])))))); rintro _ _ ⟨rfl, rfl⟩; simp [hpos]) | refine TJ.seqT (T.rd1 (id := 10) mixed (fun _ => false) [] (by kernel_rfl) fun K hK => ?_) | refine TJ.rs (id := 0) (fun _ => false) fun K hK => ?_ | refine TJ.rs1 (id := 0) (fun _ => false) fun K hK => ?_ | refine TJ.rs (id := 1) (fun _ => false) fun K hK => ?_ | refine TJ.rs1 (id := 1) (fun _ => false) fun K hK => ?_ | refine TJ.rs (id := 2) (fun _ => false) fun K hK => ?_ | refine TJ.rs1 (id := 2) (fun _ => false) fun K hK => ?_ | refine TJ.rs (id := 3) (fun _ => false) fun K hK => ?_ | refine TJ.rs1 (id := 3) (fun _ => false) fun K hK => ?_ | refine TJ.rs (id := 4) (fun _ => false) fun K hK => ?_ | refine TJ.rs1 (id := 4) (fun _ => false) fun K hK => ?_ | refine TJ.rs (id := 5) (fun _ => false) fun K hK => ?_ | refine TJ.rs1 (id := 5) (fun _ => false) fun K hK => ?_ | refine TJ.rs (id := 6) (fun _ => false) fun K hK => ?_ | refine TJ.rs1 (id := 6) (fun _ => false) fun K hK => ?_ | refine TJ.rs (id := 7) (fun _ => false) fun K hK => ?_ | refine TJ.rs1 (id := 7) (fun _ => false) fun K hK => ?_ | refine TJ.rs (id := 8) (fun _ => false) fun K hK => ?_ | refine TJ.rs1 (id := 8) (fun _ => false) fun K hK => ?_ | refine TJ.rs (id := 9) (fun _ => false) fun K hK => ?_ | refine TJ.rs1 (id := 9) (fun _ => false) fun K hK => ?_ | refine TJ.rs (id := 11) (fun _ => false) fun K hK => ?_ | refine TJ.rs1 (id := 11) (fun _ => false) fun K hK => ?_ | refine TJ.rs (id := 12) (fun _ => false) fun K hK => ?_ | refine TJ.rs1 (id := 12) (fun _ => false) fun K hK => ?_ | refine TJ.rs (id := 13) (fun _ => false) fun K hK => ?_ | refine TJ.rs1 (id := 13) (fun _ => false) fun K hK => ?_ | (refine And.intro (by omega) ?_) | refine TJ.cond rfl (fun hcnd => ?_) (fun hcnd => absurd hcnd (by decide)) | refine TJ.cond rfl (fun hcnd => absurd hcnd (by decide)) (fun hcnd => ?_) | refine TJ.seq ?_ | refine TJ.block ?_ | refine TJ.skip ?_ | refine TJ.exit ?_
  repeat' first | (refine aopsJ_end (hK _ _ ?_); clear hK K) | (refine aopsD_end (hK _ ?_); clear hK K) | (refine aopsJ_go ?_; simp [hpos, f1, f2]) | (refine aopsD_go ?_; simp [hpos, f1, f2]) | (refine aopsF_end (hK _ ?_); clear hK K) | (refine aopsF_go ?_; simp [hpos, f1, f2]) | (refine wpcallJ_scal ?_ (heX) rfl ?_; (focus (solve | (repeat' first | exact FzVs.nil | apply FzVs.cons | apply FzV.c | apply FzV.agg | exact FzL.nil | apply FzL.cons | exact FzC.d | exact FzC.nil | exact FzC.np | exact FzC.fn | (refine FzC.thaw' ?_ (inK_dp 3 _); (focus (solve | simp [tTm]))) | (refine FzC.thaw' ?_ (tyK_dp 34 _); (focus (solve | simp [tTm]))) | (refine FzC.thaw' ?_ (tmK_dp 34 37 _); (focus (solve | simp [tTm])))))); simp [hpos, f1, f2]) | refine TJ.seqT (T.rd1 (id := 10) mixed (fun _ => false) [] (by kernel_rfl) fun K hK => ?_) | refine TJ.rs (id := 0) (fun _ => false) fun K hK => ?_ | refine TJ.rs1 (id := 0) (fun _ => false) fun K hK => ?_ | refine TJ.rs (id := 1) (fun _ => false) fun K hK => ?_ | refine TJ.rs1 (id := 1) (fun _ => false) fun K hK => ?_ | refine TJ.rs (id := 2) (fun _ => false) fun K hK => ?_ | refine TJ.rs1 (id := 2) (fun _ => false) fun K hK => ?_ | refine TJ.rs (id := 3) (fun _ => false) fun K hK => ?_ | refine TJ.rs1 (id := 3) (fun _ => false) fun K hK => ?_ | refine TJ.rs (id := 4) (fun _ => false) fun K hK => ?_ | refine TJ.rs1 (id := 4) (fun _ => false) fun K hK => ?_ | refine TJ.rs (id := 5) (fun _ => false) fun K hK => ?_ | refine TJ.rs1 (id := 5) (fun _ => false) fun K hK => ?_ | refine TJ.rs (id := 6) (fun _ => false) fun K hK => ?_ | refine TJ.rs1 (id := 6) (fun _ => false) fun K hK => ?_ | refine TJ.rs (id := 7) (fun _ => false) fun K hK => ?_ | refine TJ.rs1 (id := 7) (fun _ => false) fun K hK => ?_ | refine TJ.rs (id := 8) (fun _ => false) fun K hK => ?_ | refine TJ.rs1 (id := 8) (fun _ => false) fun K hK => ?_ | refine TJ.rs (id := 9) (fun _ => false) fun K hK => ?_ | refine TJ.rs1 (id := 9) (fun _ => false) fun K hK => ?_ | refine TJ.rs (id := 11) (fun _ => false) fun K hK => ?_ | refine TJ.rs1 (id := 11) (fun _ => false) fun K hK => ?_ | refine TJ.rs (id := 12) (fun _ => false) fun K hK => ?_ | refine TJ.rs1 (id := 12) (fun _ => false) fun K hK => ?_ | refine TJ.rs (id := 13) (fun _ => false) fun K hK => ?_ | refine TJ.rs1 (id := 13) (fun _ => false) fun K hK => ?_ | refine TJ.rs (id := 14) (fun _ => false) fun K hK => ?_ | refine TJ.rs1 (id := 14) (fun _ => false) fun K hK => ?_ | refine TJ.rs (id := 15) (fun _ => false) fun K hK => ?_ | refine TJ.rs1 (id := 15) (fun _ => false) fun K hK => ?_ | refine TJ.rs (id := 16) (fun _ => false) fun K hK => ?_ | refine TJ.rs1 (id := 16) (fun _ => false) fun K hK => ?_ | (refine And.intro (by omega) ?_) | refine TJ.cond rfl (fun hcnd => ?_) (fun hcnd => absurd hcnd (by decide)) | refine TJ.cond rfl (fun hcnd => absurd hcnd (by decide)) (fun hcnd => ?_) | refine TJ.seq ?_ | refine TJ.block ?_ | refine TJ.skip ?_ | refine TJ.exit ?_
  repeat' first | (refine aopsJ_end (hK _ _ ?_); clear hK K) | (refine aopsD_end (hK _ ?_); clear hK K) | (refine aopsJ_go ?_; simp [hpos, f1, f2]) | (refine aopsD_go ?_; simp [hpos, f1, f2]) | (refine aopsF_end (hK _ ?_); clear hK K) | (refine aopsF_go ?_; simp [hpos, f1, f2]) | (refine wpcallJ_mut (L2 := [(tyK 34 (markS e.ty.kids 1), v1), (tyK 34 (markS e.fr.kids (1 + nTyS e.ty.kids)), v2), (tmK 34 37 (markSm e.kids (1 + nTyS e.ty.kids + nTyS e.fr.kids)), v3)]) ?_ ?_ (hmy) ?_; (focus (solve | exact List.perm_append_comm (l₁ := [_, _, _]))); (focus (solve | (repeat' first | exact FzVs.nil | apply FzVs.cons | apply FzV.c | apply FzV.agg | exact FzL.nil | apply FzL.cons | exact FzC.d | exact FzC.nil | exact FzC.np | exact FzC.fn | (refine FzC.thaw' ?_ (tyK_dp 34 _); (focus (solve | simp [tTm]))) | (refine FzC.thaw' ?_ (tmK_dp 34 37 _); (focus (solve | simp [tTm])))))); rintro _ _ ⟨rfl, rfl⟩; simp [hpos, f1, f2]) | refine TJ.seqT (T.rd1 (id := 10) mixed (fun _ => false) [] (by kernel_rfl) fun K hK => ?_) | refine TJ.rs (id := 0) (fun _ => false) fun K hK => ?_ | refine TJ.rs1 (id := 0) (fun _ => false) fun K hK => ?_ | refine TJ.rs (id := 1) (fun _ => false) fun K hK => ?_ | refine TJ.rs1 (id := 1) (fun _ => false) fun K hK => ?_ | refine TJ.rs (id := 2) (fun _ => false) fun K hK => ?_ | refine TJ.rs1 (id := 2) (fun _ => false) fun K hK => ?_ | refine TJ.rs (id := 3) (fun _ => false) fun K hK => ?_ | refine TJ.rs1 (id := 3) (fun _ => false) fun K hK => ?_ | refine TJ.rs (id := 4) (fun _ => false) fun K hK => ?_ | refine TJ.rs1 (id := 4) (fun _ => false) fun K hK => ?_ | refine TJ.rs (id := 5) (fun _ => false) fun K hK => ?_ | refine TJ.rs1 (id := 5) (fun _ => false) fun K hK => ?_ | refine TJ.rs (id := 6) (fun _ => false) fun K hK => ?_ | refine TJ.rs1 (id := 6) (fun _ => false) fun K hK => ?_ | refine TJ.rs (id := 7) (fun _ => false) fun K hK => ?_ | refine TJ.rs1 (id := 7) (fun _ => false) fun K hK => ?_ | refine TJ.rs (id := 8) (fun _ => false) fun K hK => ?_ | refine TJ.rs1 (id := 8) (fun _ => false) fun K hK => ?_ | refine TJ.rs (id := 9) (fun _ => false) fun K hK => ?_ | refine TJ.rs1 (id := 9) (fun _ => false) fun K hK => ?_ | refine TJ.rs (id := 11) (fun _ => false) fun K hK => ?_ | refine TJ.rs1 (id := 11) (fun _ => false) fun K hK => ?_ | refine TJ.rs (id := 12) (fun _ => false) fun K hK => ?_ | refine TJ.rs1 (id := 12) (fun _ => false) fun K hK => ?_ | refine TJ.rs (id := 13) (fun _ => false) fun K hK => ?_ | refine TJ.rs1 (id := 13) (fun _ => false) fun K hK => ?_ | refine TJ.rs (id := 14) (fun _ => false) fun K hK => ?_ | refine TJ.rs1 (id := 14) (fun _ => false) fun K hK => ?_ | refine TJ.rs (id := 15) (fun _ => false) fun K hK => ?_ | refine TJ.rs1 (id := 15) (fun _ => false) fun K hK => ?_ | refine TJ.rs (id := 16) (fun _ => false) fun K hK => ?_ | refine TJ.rs1 (id := 16) (fun _ => false) fun K hK => ?_ | refine TJ.rs (id := 17) (fun _ => false) fun K hK => ?_ | refine TJ.rs1 (id := 17) (fun _ => false) fun K hK => ?_ | (refine And.intro (by omega) ?_) | refine TJ.cond rfl (fun hcnd => ?_) (fun hcnd => absurd hcnd (by decide)) | refine TJ.cond rfl (fun hcnd => absurd hcnd (by decide)) (fun hcnd => ?_) | refine TJ.seq ?_ | refine TJ.block ?_ | refine TJ.skip ?_ | refine TJ.exit ?_
  repeat' first | (refine aopsJ_end (hK _ _ ?_); clear hK K) | (refine aopsD_end (hK _ ?_); clear hK K) | (refine aopsJ_go ?_; simp [hpos, f1, f2]) | (refine aopsD_go ?_; simp [hpos, f1, f2]) | (refine aopsF_end (hK _ ?_); clear hK K) | (refine aopsF_go ?_; simp [hpos, f1, f2]) | (refine wpcallJ_pure rfl (hto) ?_; simp [hpos, f1, f2]) | (refine wpcall_pure rfl (hto) ?_; simp [hpos, f1, f2]) | (refine wpcallJ_scal ?_ (hh2) rfl ?_; (focus (solve | (repeat' first | exact FzVs.nil | apply FzVs.cons | apply FzV.c | apply FzV.agg | exact FzL.nil | apply FzL.cons | exact FzC.d | exact FzC.nil | exact FzC.np | exact FzC.fn | (refine FzC.thaw' ?_ (inK_dp 3 _); (focus (solve | simp [tTm]))) | (refine FzC.thaw' ?_ (tyK_dp 34 _); (focus (solve | simp [tTm]))) | (refine FzC.thaw' ?_ (tmK_dp 34 37 _); (focus (solve | simp [tTm])))))); simp [hpos, f1, f2]) | (refine wpcallJ_scal ?_ (heX) rfl ?_; (focus (solve | (repeat' first | exact FzVs.nil | apply FzVs.cons | apply FzV.c | apply FzV.agg | exact FzL.nil | apply FzL.cons | exact FzC.d | exact FzC.nil | exact FzC.np | exact FzC.fn | (refine FzC.thaw' ?_ (inK_dp 3 _); (focus (solve | simp [tTm]))) | (refine FzC.thaw' ?_ (tyK_dp 34 _); (focus (solve | simp [tTm]))) | (refine FzC.thaw' ?_ (tmK_dp 34 37 _); (focus (solve | simp [tTm])))))); simp [hpos, f1, f2]) | (refine wpcallJ_new ?_ (h2) ?_; (focus (solve | (repeat' first | exact FzVs.nil | apply FzVs.cons | apply FzV.c | apply FzV.agg | exact FzL.nil | apply FzL.cons | exact FzC.d | exact FzC.nil | exact FzC.np | exact FzC.fn | (refine FzC.thaw' ?_ (inK_dp 3 _); (focus (solve | simp [tTm]))) | (refine FzC.thaw' ?_ (tyK_dp 34 _); (focus (solve | simp [tTm]))) | (refine FzC.thaw' ?_ (tmK_dp 34 37 _); (focus (solve | simp [tTm])))))); rintro _ _ ⟨u, rfl, rfl⟩; simp [hpos, f1, f2]) | (refine TJ.ret (DoneJ.eq (Or.inr rfl) ?_ ?_) <;> simp [Tryz.results3, DV.scal]) | (refine TJ.ret (DoneJ.scal (Or.inr rfl) ?_ ?_ ?_) <;> simp [Tryz.results3]) | refine TJ.seqT (T.rd1 (id := 10) mixed (fun _ => false) [] (by kernel_rfl) fun K hK => ?_) | refine TJ.rs (fun _ => false) fun K hK => ?_ | refine TJ.rs1 (fun _ => false) fun K hK => ?_ | (refine And.intro (by omega) ?_) | refine TJ.cond rfl (fun hcnd => ?_) (fun hcnd => absurd hcnd (by decide)) | refine TJ.cond rfl (fun hcnd => absurd hcnd (by decide)) (fun hcnd => ?_) | refine TJ.seq ?_ | refine TJ.block ?_ | refine TJ.skip ?_ | refine TJ.exit ?_
end Go.Proofs.YtbakdfnmippcoaaGreat
