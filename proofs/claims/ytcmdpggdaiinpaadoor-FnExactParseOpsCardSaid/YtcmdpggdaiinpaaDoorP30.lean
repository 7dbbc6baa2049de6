/- A part of the library of this seat. -/
import Derived.Test.YtcmdpggdaiinpaaDoorP29
set_option linter.unusedVariables false
set_option linter.unusedSimpArgs false
namespace Go.Proofs.YtcmdpggdaiinpaaDoor
attribute [-simp] Go.Av.MCo.kind_mk Go.Av.MCo.tag_mk Go.Av.MCo.label_mk Go.Av.MCo.kids_mk Go.Av.callJ Go.Av.IT.kind_v Go.Av.IT.kind_b Go.Av.IT.kind_p Go.Av.IT.name_v Go.Av.IT.name_b Go.Av.IT.name_p Go.Av.IT.kids_v Go.Av.IT.kids_b Go.Av.IT.kids_p Go.Av.eIT_len Go.Av.gT_cons Go.Av.sT_cons
open Go Go.Av
attribute [local irreducible] T ACalls TX EX LX Draws Some_ ACallsX eTy eTm MTy.kind MTy.kids MTm.kind MTm.name MTm.num MTm.ty MTm.fr MTm.label MTm.kids
attribute [local simp] eTy_def eTm_def
set_option maxHeartbeats 16000000
set_option maxRecDepth 8000
attribute [local irreducible] TJ FCalls

theorem eqOp2_ok (o : MOp) : ACalls Tryd.prog 35 [aOp o, aOp o] [] (.b true) [] [] := by
 refine ACalls.of_body Tryd.func35 (by kernel_rfl) rfl (by kernel_rfl) (by simp [Tryd.ntmps35]) (by simp) ?_
 rw [Tryd.ntmps35]
 repeat' first | ((first | refine aops_end (hK _ ?_) | refine aopsD_end (hK _ ?_) | refine aopsF_end (hK _ ?_)); clear hK K) | ((first | refine aops_go ?_ | refine aopsD_go ?_ | refine aopsF_go ?_); simp; (try (refine gen2 ?_ ?_ <;> intro hq <;> try simp at hq))) | (refine T.ret (Done.data (Or.inr rfl) ?_ ?_) <;> simp [Tryd.results35] <;> omega) | refine T.r0 fun K hK => ?_ | refine T.r1 fun K hK => ?_ | (refine ⟨by omega, ?_⟩) | refine T.ct rfl ?_ | refine T.cf rfl ?_ | refine T.seq ?_ | refine T.block ?_ | refine T.skip ?_ | refine T.exit ?_

theorem eqOpS2_ok (l : List MOp) (hl : l.length <= 1048576) : ACalls Tryd.prog 12 [.l (l.map eOp), .l (l.map eOp)] [] (.b true) [] [] := by
 refine ACalls.of_body Tryd.func12 (by kernel_rfl) rfl (by kernel_rfl) (by simp [Tryd.ntmps12]) (by simp) ?_
 rw [Tryd.ntmps12]
 repeat' first | ((first | refine aops_end (hK _ ?_) | refine aopsD_end (hK _ ?_) | refine aopsF_end (hK _ ?_)); clear hK K) | ((first | refine aops_go ?_ | refine aopsD_go ?_ | refine aopsF_go ?_); simp; (try (refine gen2 ?_ ?_ <;> intro hq <;> try simp at hq))) | refine T.rd (id := 6) mixed (fun _ => false) [] (by kernel_rfl) fun K hK => ?_ | refine T.rd1 (id := 6) mixed (fun _ => false) [] (by kernel_rfl) fun K hK => ?_ | refine T.r0 fun K hK => ?_ | refine T.r1 fun K hK => ?_ | (refine ⟨by omega, ?_⟩) | refine T.ct rfl ?_ | refine T.cf rfl ?_ | refine T.seq ?_ | refine T.block ?_ | refine T.skip ?_ | refine T.exit ?_
 refine T.loopK (α := Nat) [0, 1] (fun p => [(4, .b false), (5, .i p)]) (fun _ => []) (fun _ => []) (fun _ _ => []) (fun p => l.length + 1 - p) (fun p => p <= l.length) (by simp; rfl) (fun p hx => ?_) 0 (by simp) (by simp) (by simp) (by simp)
 dsimp only at hx ⊢
 simp only [ups, List.cons_append, List.nil_append]
 by_cases hlt : p < l.length
 ·obtain ⟨u, ht⟩ := get_lt hlt
  have htm : u ∈ l := List.mem_of_getElem? ht
  have hgt : l[p] = u := by rw [List.getElem?_eq_getElem hlt] at ht; exact Option.some.inj ht
  have hdr : l.drop p = u :: l.drop (p + 1) := by rw [List.drop_eq_getElem_cons hlt, hgt]
  have h1 := eqOp2_ok u
  repeat' first | ((first | refine aops_end (hK _ ?_) | refine aopsD_end (hK _ ?_) | refine aopsF_end (hK _ ?_)); clear hK K) | ((first | refine aops_go ?_ | refine aopsD_go ?_ | refine aopsF_go ?_ | refine wpcall_pure rfl (h1) ?_); simp [hlt, hgt]; (try simp (disch := omega) only [wrap64]); (try (refine gen2 ?_ ?_ <;> intro hq <;> try simp [hlt, hgt] at hq))) | (refine ⟨p + 1, by dsimp only; omega, by dsimp only; omega, ?_⟩ <;> simp (disch := omega) [wrap64]) | refine T.rd (id := 6) mixed (fun _ => false) [] (by kernel_rfl) fun K hK => ?_ | refine T.rd1 (id := 6) mixed (fun _ => false) [] (by kernel_rfl) fun K hK => ?_ | refine T.r0 fun K hK => ?_ | refine T.r1 fun K hK => ?_ | (refine ⟨by omega, ?_⟩) | refine T.ct rfl ?_ | refine T.cf rfl ?_ | refine T.seq ?_ | refine T.block ?_ | refine T.skip ?_ | refine T.exit ?_
 ·have hp' : p = l.length := by omega
  subst hp'
  repeat' first | ((first | refine aops_end (hK _ ?_) | refine aopsD_end (hK _ ?_) | refine aopsF_end (hK _ ?_)); clear hK K) | ((first | refine aops_go ?_ | refine aopsD_go ?_ | refine aopsF_go ?_); simp [hlt]; (try (refine gen2 ?_ ?_ <;> intro hq <;> try simp [hlt] at hq))) | (refine T.ret (Done.data (Or.inr rfl) ?_ ?_) <;> simp [Tryd.results12] <;> omega) | refine T.rd (id := 6) mixed (fun _ => false) [] (by kernel_rfl) fun K hK => ?_ | refine T.rd1 (id := 6) mixed (fun _ => false) [] (by kernel_rfl) fun K hK => ?_ | refine T.r0 fun K hK => ?_ | refine T.r1 fun K hK => ?_ | (refine ⟨by omega, ?_⟩) | refine T.ct rfl ?_ | refine T.cf rfl ?_ | refine T.seq ?_ | refine T.block ?_ | refine T.skip ?_ | refine T.exit ?_

theorem markOpS_tree (l : List MOp) (k : Nat) (hk : k + 2 * l.length <= 1099511627776) (v : Value) : FCalls Tryd.prog 13 [.c (.d (.raw v)), .i (k : Int)] [(opK 51 l, v)] fun r L' => r = .i ((k + 2 * l.length : Nat) : Int) /\ L' = [(opK 51 (seqO k l.length), v)] := by
 rw [opK_unf, opK_unf, seqO_len]
 refine FCalls.mono (R := fun r L' => ∃ cs', L' = [(.t 51 2 l.length cs', v)] /\ (r = .i ((k + 2 * l.length : Nat) : Int) /\ cs' = opRows (seqO k l.length))) ?_ (by rintro r L' ⟨_, rfl, rfl, rfl⟩; exact ⟨rfl, rfl⟩)
 refine FCalls.of_bodyA Tryd.func13 (by kernel_rfl) rfl (by kernel_rfl) (by simp [Tryd.ntmps13]) ?_ ?_
 rotate_left
 rw [Tryd.ntmps13]
 rotate_left
 ·exact opRows_scal l
 intro ds Lc hmk hdl
 obtain ⟨hch, rfl⟩ := mk_op_inv hmk
 rw [hch]
 clear hmk hdl hch
 repeat' first | (refine aopsJ_end (hK _ _ ?_); clear hK K) | (refine aopsD_end (hK _ ?_); clear hK K) | (refine aopsJ_go ?_; simp; (try (refine J2 ?_ ?_ <;> intro hq <;> try simp at hq))) | (refine aopsF_end (hK _ ?_); clear hK K) | ((first | refine aopsD_go ?_ | refine aopsF_go ?_); simp; (try (refine gen2 ?_ ?_ <;> intro hq <;> try simp at hq))) | refine TJ.rs (fun _ => false) fun K hK => ?_ | refine TJ.rs1 (fun _ => false) fun K hK => ?_ | (refine And.intro (by omega) ?_) | refine TJ.cond rfl (fun hcnd => ?_) (fun hcnd => absurd hcnd (by decide)) | refine TJ.cond rfl (fun hcnd => absurd hcnd (by decide)) (fun hcnd => ?_) | refine TJ.seq ?_ | refine TJ.block ?_ | refine TJ.skip ?_ | refine TJ.exit ?_
 refine TJ.loopK (α := Nat) [0, 4] (fun j => [(1, .i ((k + 2 * j : Nat) : Int)), (5, .i j)]) (fun _ => []) (fun _ => []) (fun j _ => [{ sz := 2, ety := 51, rows := (mO l k j).map eOp, wr := true }]) (fun j => []) (fun j => l.length + 1 - j) (fun j => j <= l.length) (by simp; rfl) (fun j hj => ?_) 0 (by simp) (by simp) (by simp [mO_zero]) (by simp) (M := []) (by simp)
 dsimp only at hj ⊢
 simp only [ups, List.cons_append, List.nil_append]
 by_cases hlt : j < l.length
 ·have hrl : (mO l k j).length = l.length := mO_len hj
  have hrs : ((mO l k j).map eOp).set j [.i ((k + 2 * j : Nat) : Int), .i ((k + 2 * j + 1 : Nat) : Int)] = (mO l k (j + 1)).map eOp := by rw [mO_succ hlt, List.map_set]
  obtain ⟨R, hR⟩ : ∃ R, R = (mO l k j).map eOp := ⟨_, rfl⟩
  have hRl : R.length = l.length := by rw [hR]; simp [hrl]
  have hrj : ∀ h, ∃ n m, R[j]'h = [DV.i n, DV.i m] := fun h => by subst hR; exact ⟨_, _, by rw [List.getElem_map]⟩
  obtain ⟨n0, m0, hn0⟩ := hrj (by omega)
  rw [<- hR] at hrs ⊢
  obtain ⟨kj, hkj⟩ : ∃ kj, kj = k + 2 * j := ⟨_, rfl⟩
  have hkj2 : ((k + 2 * (j + 1) : Nat) : Int) = (kj : Int) + 1 + 1 := by omega
  have hkj3 : ((kj + 1 : Nat) : Int) = (kj : Int) + 1 := by omega
  rw [<- hkj, hkj3] at hrs
  rw [<- hkj]
  repeat' first | (refine aopsJ_end (hK _ _ ?_); clear hK K) | (refine aopsD_end (hK _ ?_); clear hK K) | (refine aopsJ_go ?_; simp [hlt, hRl, hn0]; (try simp (disch := omega) only [wrap64]); (try (refine J2 ?_ ?_ <;> intro hq <;> try simp [hlt, hRl, hn0] at hq))) | (refine aopsD_go ?_; simp [hlt, hRl, hn0]; (try simp (disch := omega) only [wrap64]); (try (refine gen2 ?_ ?_ <;> intro hq <;> try simp [hlt, hRl, hn0] at hq))) | (refine aopsF_end (hK _ ?_); clear hK K) | (refine aopsF_go ?_; simp [hlt, hRl, hn0]; (try simp (disch := omega) only [wrap64]); (try (refine gen2 ?_ ?_ <;> intro hq <;> try simp [hlt, hRl, hn0] at hq))) | refine TJ.rs (fun _ => false) fun K hK => ?_ | refine TJ.rs1 (fun _ => false) fun K hK => ?_ | (refine And.intro (by omega) ?_) | refine TJ.cond rfl (fun hcnd => ?_) (fun hcnd => absurd hcnd (by decide)) | refine TJ.cond rfl (fun hcnd => absurd hcnd (by decide)) (fun hcnd => ?_) | refine TJ.seq ?_ | refine TJ.block ?_ | refine TJ.skip ?_ | refine TJ.exit ?_
  refine ⟨j + 1, [], by dsimp only; omega, by dsimp only; omega, ?_, ?_⟩
  ·dsimp only
   rw [<- hrs, hkj2]
   simp (disch := omega) [wrap64]
  ·simp
 ·have hp' : j = l.length := by omega
  subst hp'
  rw [mO_all]
  repeat' first | (refine aopsJ_end (hK _ _ ?_); clear hK K) | (refine aopsD_end (hK _ ?_); clear hK K) | (refine aopsJ_go ?_; simp [hlt]; (try (refine J2 ?_ ?_ <;> intro hq <;> try simp [hlt] at hq))) | (refine aopsF_end (hK _ ?_); clear hK K) | ((first | refine aopsD_go ?_ | refine aopsF_go ?_); simp [hlt]; (try (refine gen2 ?_ ?_ <;> intro hq <;> try simp [hlt] at hq))) | refine TJ.rs (fun _ => false) fun K hK => ?_ | refine TJ.rs1 (fun _ => false) fun K hK => ?_ | (refine And.intro (by omega) ?_) | refine TJ.cond rfl (fun hcnd => ?_) (fun hcnd => absurd hcnd (by decide)) | refine TJ.cond rfl (fun hcnd => absurd hcnd (by decide)) (fun hcnd => ?_) | refine TJ.seq ?_ | refine TJ.block ?_ | refine TJ.skip ?_ | refine TJ.exit ?_
  refine TJ.ret (DoneA.one (r := .i ((k + 2 * l.length : Nat) : Int)) (Or.inr rfl) (by simp [Tryd.results13]) (by simp [DV.scal]) rfl ?_ (mk_op (seqO k l.length)) (M := []) (by simp) ⟨rfl, rfl⟩)
  simp [seqO_len]

theorem heldOpS_ok (n k : Nat) (hk : k + 2 * n <= 1099511627776) : ACalls Tryd.prog 14 [.l ((seqO k n).map eOp), .i (k : Int)] [] (.i ((k + 2 * n : Nat) : Int)) [] [] := by
 obtain ⟨Z, hZ⟩ : ∃ Z, Z = (seqO k n).map eOp := ⟨_, rfl⟩
 have hZl : Z.length = n := by rw [hZ, List.length_map, seqO_len]
 rw [<- hZ]
 refine ACalls.of_body Tryd.func14 (by kernel_rfl) rfl (by kernel_rfl) (by simp [Tryd.ntmps14]) (by simp) ?_
 rw [Tryd.ntmps14]
 repeat' first | ((first | refine aops_end (hK _ ?_) | refine aopsD_end (hK _ ?_) | refine aopsF_end (hK _ ?_)); clear hK K) | ((first | refine aops_go ?_ | refine aopsD_go ?_ | refine aopsF_go ?_); simp; (try (refine gen2 ?_ ?_ <;> intro hq <;> try simp at hq))) | refine T.r0 fun K hK => ?_ | refine T.r1 fun K hK => ?_ | (refine ⟨by omega, ?_⟩) | refine T.ct rfl ?_ | refine T.cf rfl ?_ | refine T.seq ?_ | refine T.block ?_ | refine T.skip ?_ | refine T.exit ?_
 refine T.loopK (α := Nat) [0] (fun j => [(1, .i ((k + 2 * j : Nat) : Int)), (4, .i 0), (5, .i j)]) (fun _ => []) (fun _ => []) (fun j _ => []) (fun j => n + 1 - j) (fun j => j <= n) (by simp; rfl) (fun j hj => ?_) 0 (by simp) (by simp) (by simp) (by simp)
 dsimp only at hj ⊢
 simp only [ups, List.cons_append, List.nil_append]
 by_cases hlt : j < n
 ·have hZj : Z[j]? = some [.i ((k + 2 * j : Nat) : Int), .i ((k + 2 * j + 1 : Nat) : Int)] := by rw [hZ, List.getElem?_map, seqO_at hlt]; rfl
  have hgt : ∀ h, Z[j]'h = [.i ((k + 2 * j : Nat) : Int), .i ((k + 2 * j + 1 : Nat) : Int)] := fun hh => by rw [List.getElem?_eq_getElem hh] at hZj; exact Option.some.inj hZj
  obtain ⟨kj, hkj⟩ : ∃ kj, kj = k + 2 * j := ⟨_, rfl⟩
  have hkj2 : ((k + 2 * (j + 1) : Nat) : Int) = (kj : Int) + 1 + 1 := by omega
  have hkj3 : ((kj + 1 : Nat) : Int) = (kj : Int) + 1 := by omega
  rw [<- hkj, hkj3] at hgt
  rw [<- hkj]
  repeat' first | ((first | refine aops_end (hK _ ?_) | refine aopsD_end (hK _ ?_) | refine aopsF_end (hK _ ?_)); clear hK K) | ((first | refine aops_go ?_ | refine aopsD_go ?_ | refine aopsF_go ?_); simp [hlt, hZl, hgt]; (try simp (disch := omega) only [wrap64]); (try (refine gen2 ?_ ?_ <;> intro hq <;> try simp [hlt, hZl, hgt] at hq))) | (refine ⟨j + 1, by dsimp only; omega, by dsimp only; omega, ?_⟩; (dsimp only; rw [hkj2]; simp (disch := omega) [wrap64])) | refine T.r0 fun K hK => ?_ | refine T.r1 fun K hK => ?_ | (refine ⟨by omega, ?_⟩) | refine T.ct rfl ?_ | refine T.cf rfl ?_ | refine T.seq ?_ | refine T.block ?_ | refine T.skip ?_ | refine T.exit ?_
 ·have hp' : j = n := by omega
  subst hp'
  repeat' first | ((first | refine aops_end (hK _ ?_) | refine aopsD_end (hK _ ?_) | refine aopsF_end (hK _ ?_)); clear hK K) | ((first | refine aops_go ?_ | refine aopsD_go ?_ | refine aopsF_go ?_); simp [hlt, hZl]; (try (refine gen2 ?_ ?_ <;> intro hq <;> try simp [hlt, hZl] at hq))) | (refine T.ret (Done.data (Or.inr rfl) ?_ ?_) <;> simp [Tryd.results14] <;> omega) | refine T.r0 fun K hK => ?_ | refine T.r1 fun K hK => ?_ | (refine ⟨by omega, ?_⟩) | refine T.ct rfl ?_ | refine T.cf rfl ?_ | refine T.seq ?_ | refine T.block ?_ | refine T.skip ?_ | refine T.exit ?_
end Go.Proofs.YtcmdpggdaiinpaaDoor
