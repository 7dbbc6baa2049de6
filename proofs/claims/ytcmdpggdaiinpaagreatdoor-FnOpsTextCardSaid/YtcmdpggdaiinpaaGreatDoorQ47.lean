/- A part of the library of this seat. -/
import Derived.Test.YtcmdpggdaiinpaaGreatDoorQ46
set_option linter.unusedVariables false
set_option linter.unusedSimpArgs false
namespace Go.Proofs.YtcmdpggdaiinpaaGreatDoor
open Go Go.Av
attribute [local irreducible] T ACalls TX EX LX Draws Some_ ACallsX eTy eTm MTy.kind MTy.kids MTm.kind MTm.name MTm.num MTm.ty MTm.fr MTm.label MTm.kids
attribute [local simp] eTy_def eTm_def
set_option maxHeartbeats 16000000
set_option maxRecDepth 8000
attribute [local irreducible] wordsM opWord

theorem set_last {α : Type} (G : List α) (a b : α) : (G ++ [a]).set G.length b = G ++ [b] := by simp [List.set_append]
theorem lastW_step {w x : List UInt8} {acc : Int} {k : Nat} {l : List (List UInt8)} : lastW w acc k (x :: l) = lastW w (if x = w then (k : Int) else acc) (k + 1) l := rfl

theorem ParseOpsS_ok (s : List UInt8) (hs : s.length <= 1000000000) : ACalls Tryz.prog 13 [.s s] [] (.tup [.l (((parseI s).getD []).map eOp), .b (parseI s).isSome]) [] [] := by
 rw [<- parseS_eq]
 have h1 := l18Cut_ok s 10 (by omega)
 rw [show ((10 : UInt8).toNat : Int) = 10 from rfl] at h1
 have hsm := cutL_small 10 s
 have hne := cutL_ne 10 s
 by_cases hl : 121 < (cutL 10 s).length
 ·rw [show parseS s = none by rw [parseS, if_pos hl]]
  generalize cutL 10 s = P at *
  have hl' : (121 : Int) < P.length := by omega
  have hml : (P.map eW).length = P.length := by simp
  simp only [Option.getD_none, Option.isSome_none]
  refine ACalls.of_body Tryz.func13 (by kernel_rfl) rfl (by kernel_rfl) (by simp [Tryz.ntmps13]) (by simp) ?_
  rw [Tryz.ntmps13]
  repeat' first | ((first | refine aops_end (hK _ ?_) | refine aopsD_end (hK _ ?_) | refine aopsF_end (hK _ ?_)); clear hK K) | ((first | refine aops_go ?_ | refine aopsD_go ?_ | refine aopsF_go ?_ | refine wpcall_pure rfl (h1) ?_); simp [hl', hml]; (try (refine gen2 ?_ ?_ <;> intro hq <;> try simp [hl', hml] at hq))) | (refine T.ret (Done.tup (Or.inr rfl) ?_) <;> simp [resAs, Tryz.results13] <;> omega) | refine T.rs (id := 2) (fun i => i == 0) fun K hK => ?_ | refine T.rs1 (id := 2) (fun i => i == 0) fun K hK => ?_ | refine T.rd (id := 14) mixed (fun _ => false) [] (by kernel_rfl) fun K hK => ?_ | refine T.rd1 (id := 14) mixed (fun _ => false) [] (by kernel_rfl) fun K hK => ?_ | refine T.rs (id := 0) (fun _ => false) fun K hK => ?_ | refine T.rs1 (id := 0) (fun _ => false) fun K hK => ?_ | refine T.rs (id := 1) (fun _ => false) fun K hK => ?_ | refine T.rs1 (id := 1) (fun _ => false) fun K hK => ?_ | refine T.rs (id := 3) (fun _ => false) fun K hK => ?_ | refine T.rs1 (id := 3) (fun _ => false) fun K hK => ?_ | refine T.rs (id := 4) (fun _ => false) fun K hK => ?_ | refine T.rs1 (id := 4) (fun _ => false) fun K hK => ?_ | refine T.rs (id := 5) (fun _ => false) fun K hK => ?_ | refine T.rs1 (id := 5) (fun _ => false) fun K hK => ?_ | refine T.rs (id := 6) (fun _ => false) fun K hK => ?_ | refine T.rs1 (id := 6) (fun _ => false) fun K hK => ?_ | refine T.rs (id := 7) (fun _ => false) fun K hK => ?_ | refine T.rs1 (id := 7) (fun _ => false) fun K hK => ?_ | refine T.rs (id := 9) (fun _ => false) fun K hK => ?_ | refine T.rs1 (id := 9) (fun _ => false) fun K hK => ?_ | refine T.rs (id := 10) (fun _ => false) fun K hK => ?_ | refine T.rs1 (id := 10) (fun _ => false) fun K hK => ?_ | refine T.rs (id := 11) (fun _ => false) fun K hK => ?_ | refine T.rs1 (id := 11) (fun _ => false) fun K hK => ?_ | refine T.rs (id := 12) (fun _ => false) fun K hK => ?_ | refine T.rs1 (id := 12) (fun _ => false) fun K hK => ?_ | refine T.rs (id := 15) (fun _ => false) fun K hK => ?_ | refine T.rs1 (id := 15) (fun _ => false) fun K hK => ?_ | refine T.rs (id := 13) (fun _ => false) fun K hK => ?_ | refine T.rs1 (id := 13) (fun _ => false) fun K hK => ?_ | refine T.rs (id := 16) (fun _ => false) fun K hK => ?_ | refine T.rs1 (id := 16) (fun _ => false) fun K hK => ?_ | refine T.rs (id := 17) (fun _ => false) fun K hK => ?_ | refine T.rs1 (id := 17) (fun _ => false) fun K hK => ?_ | refine T.rs (id := 18) (fun _ => false) fun K hK => ?_ | refine T.rs1 (id := 18) (fun _ => false) fun K hK => ?_ | refine T.rs (id := 8) (fun _ => false) fun K hK => ?_ | refine T.rs1 (id := 8) (fun _ => false) fun K hK => ?_ | refine T.rs (id := 19) (fun _ => false) fun K hK => ?_ | refine T.rs1 (id := 19) (fun _ => false) fun K hK => ?_ | refine T.rs (id := 20) (fun _ => false) fun K hK => ?_ | refine T.rs1 (id := 20) (fun _ => false) fun K hK => ?_ | refine T.rs (id := 21) (fun _ => false) fun K hK => ?_ | refine T.rs1 (id := 21) (fun _ => false) fun K hK => ?_ | (refine ⟨by omega, ?_⟩) | refine T.ct rfl ?_ | refine T.cf rfl ?_ | refine T.seq ?_ | refine T.block ?_ | refine T.skip ?_ | refine T.exit ?_
 ·obtain ⟨P, hP⟩ : ∃ P, cutL 10 s = P := ⟨_, rfl⟩
  obtain ⟨Q, hQ⟩ : ∃ Q, P.dropLast = Q := ⟨_, rfl⟩
  obtain ⟨out, hout⟩ : ∃ out, Q.map readOpS = out := ⟨_, rfl⟩
  have hpar : parseS s = if s = [] \/ ¬ formatOpsM out = s then none else some out := by rw [parseS, if_neg hl, hP, hQ, hout]
  rw [hpar]
  clear hpar
  rw [hP] at h1 hsm hne hl
  have hp0 : 1 <= P.length := List.length_pos_iff.2 hne
  have hQl : Q.length = P.length - 1 := by rw [<- hQ]; simp
  have hQm : ∀ u ∈ Q, u.length <= s.length := fun u hu => hsm u (List.dropLast_subset _ (hQ ▸ hu))
  have hQat : ∀ (j : Nat) u, Q[j]? = some u -> P[j]? = some u := fun j u h => by
   rw [<- hQ, List.getElem?_dropLast] at h
   split at h
   ·exact h
   ·cases h
  have hol : out.length = Q.length := by rw [<- hout]; simp
  have hl' : ¬ (121 : Int) < P.length := by omega
  have hml : (P.map eW).length = P.length := by simp
  have kw := l14Words_ok
  obtain ⟨W, hW⟩ : ∃ W, W = [] :: wordsM := ⟨_, rfl⟩
  rw [<- hW] at kw
  have hWl : W.length = 14 := by rw [hW, List.length_cons, wordsM_len]
  have hW1 : W.drop 1 = wordsM := by rw [hW]; rfl
  have hWml : (W.map eW).length = 14 := by simp [hWl]
  clear hW
  have kf := FormatOpsS_ok out (by omega)
  clear hP hQ hsm hne
  refine ACalls.of_body Tryz.func13 (by kernel_rfl) rfl (by kernel_rfl) (by simp [Tryz.ntmps13]) (by simp) ?_
  rw [Tryz.ntmps13]
  repeat' first | ((first | refine aops_end (hK _ ?_) | refine aopsD_end (hK _ ?_) | refine aopsF_end (hK _ ?_)); clear hK K) | ((first | refine aops_go ?_ | refine aopsD_go ?_ | refine aopsF_go ?_ | refine wpcall_pure rfl (h1) ?_ | refine wpcall_pure rfl (kw) ?_); simp [hl', hml]; (try simp (disch := omega) only [wrap64]); (try (refine gen2 ?_ ?_ <;> intro hq <;> try simp [hl', hml] at hq))) | refine T.rs (id := 2) (fun i => i == 0) fun K hK => ?_ | refine T.rs1 (id := 2) (fun i => i == 0) fun K hK => ?_ | refine T.rd (id := 14) mixed (fun _ => false) [] (by kernel_rfl) fun K hK => ?_ | refine T.rd1 (id := 14) mixed (fun _ => false) [] (by kernel_rfl) fun K hK => ?_ | refine T.rs (id := 0) (fun _ => false) fun K hK => ?_ | refine T.rs1 (id := 0) (fun _ => false) fun K hK => ?_ | refine T.rs (id := 1) (fun _ => false) fun K hK => ?_ | refine T.rs1 (id := 1) (fun _ => false) fun K hK => ?_ | refine T.rs (id := 3) (fun _ => false) fun K hK => ?_ | refine T.rs1 (id := 3) (fun _ => false) fun K hK => ?_ | refine T.rs (id := 4) (fun _ => false) fun K hK => ?_ | refine T.rs1 (id := 4) (fun _ => false) fun K hK => ?_ | refine T.rs (id := 5) (fun _ => false) fun K hK => ?_ | refine T.rs1 (id := 5) (fun _ => false) fun K hK => ?_ | refine T.rs (id := 6) (fun _ => false) fun K hK => ?_ | refine T.rs1 (id := 6) (fun _ => false) fun K hK => ?_ | refine T.rs (id := 7) (fun _ => false) fun K hK => ?_ | refine T.rs1 (id := 7) (fun _ => false) fun K hK => ?_ | refine T.rs (id := 9) (fun _ => false) fun K hK => ?_ | refine T.rs1 (id := 9) (fun _ => false) fun K hK => ?_ | refine T.rs (id := 10) (fun _ => false) fun K hK => ?_ | refine T.rs1 (id := 10) (fun _ => false) fun K hK => ?_ | refine T.rs (id := 11) (fun _ => false) fun K hK => ?_ | refine T.rs1 (id := 11) (fun _ => false) fun K hK => ?_ | refine T.rs (id := 12) (fun _ => false) fun K hK => ?_ | refine T.rs1 (id := 12) (fun _ => false) fun K hK => ?_ | refine T.rs (id := 15) (fun _ => false) fun K hK => ?_ | refine T.rs1 (id := 15) (fun _ => false) fun K hK => ?_ | refine T.rs (id := 13) (fun _ => false) fun K hK => ?_ | refine T.rs1 (id := 13) (fun _ => false) fun K hK => ?_ | refine T.rs (id := 16) (fun _ => false) fun K hK => ?_ | refine T.rs1 (id := 16) (fun _ => false) fun K hK => ?_ | refine T.rs (id := 17) (fun _ => false) fun K hK => ?_ | refine T.rs1 (id := 17) (fun _ => false) fun K hK => ?_ | refine T.rs (id := 18) (fun _ => false) fun K hK => ?_ | refine T.rs1 (id := 18) (fun _ => false) fun K hK => ?_ | refine T.rs (id := 8) (fun _ => false) fun K hK => ?_ | refine T.rs1 (id := 8) (fun _ => false) fun K hK => ?_ | refine T.rs (id := 19) (fun _ => false) fun K hK => ?_ | refine T.rs1 (id := 19) (fun _ => false) fun K hK => ?_ | refine T.rs (id := 20) (fun _ => false) fun K hK => ?_ | refine T.rs1 (id := 20) (fun _ => false) fun K hK => ?_ | refine T.rs (id := 21) (fun _ => false) fun K hK => ?_ | refine T.rs1 (id := 21) (fun _ => false) fun K hK => ?_ | (refine ⟨by omega, ?_⟩) | refine T.ct rfl ?_ | refine T.cf rfl ?_ | refine T.seq ?_ | refine T.block ?_ | refine T.skip ?_ | refine T.exit ?_
  refine T.loopK (α := Nat × List (List CV)) [0, 2, 3, 4, 6] (fun x => [(5, .c (.own 0 x.1)), (7, .i x.1)]) (fun _ => []) (fun x => x.2) (fun x _ => [{ sz := 2, ety := 51, rows := (out.take x.1).map eOp, wr := true }]) (fun x => Q.length + 1 - x.1) (fun x => x.1 <= Q.length) (by simp; rfl) (fun x hx => ?_) (0, []) (by simp) (by simp [ups]) (by simp) (by simp)
  obtain ⟨j, Gb⟩ := x
  dsimp only at hx ⊢
  simp only [ups, List.set_cons_zero, List.set_cons_succ, List.cons_append, List.nil_append, List.append_nil]
  by_cases hlt : j < Q.length
  ·obtain ⟨u, hu⟩ := get_lt hlt
   have hum : u ∈ Q := List.mem_of_getElem? hu
   have hul := hQm u hum
   have hPj := hQat j u hu
   have hgt : ∀ h, P[j]'h = u := fun h => by rw [List.getElem?_eq_getElem h] at hPj; exact Option.some.inj hPj
   have hjp : j < P.length := by omega
   have hc1 : (j : Int) + 1 < P.length := by omega
   have hj0 : (0 : Int) <= j := by omega
   have kc := l18Cut_ok u 32 (by omega)
   rw [show ((32 : UInt8).toNat : Int) = 32 from rfl] at kc
   have hnx : out.take (j + 1) = out.take j ++ [readOpS u] := take_succ_of (by rw [<- hout, List.getElem?_map, hu]; rfl)
   have hcs := cutL_small 32 u
   have hcn := cutL_ne 32 u
   rw [readOpS] at hnx
   generalize cutL 32 u = w at *
   obtain ⟨w0, wr, rfl⟩ : ∃ w0 wr, w = w0 :: wr := by cases w with | nil => exact absurd rfl hcn | cons a b => exact ⟨a, b, rfl⟩
   simp only [List.headD_cons] at hnx
   obtain ⟨R, hR⟩ : ∃ R, lastW w0 0 1 wordsM = R := ⟨_, rfl⟩
   rw [hR] at hnx
   have hw0 : (0 : Int) < (wr.length : Int) + 1 := by omega
   rw [<- hW1] at hR
   clear hW1
   repeat' first | ((first | refine aops_end (hK _ ?_) | refine aopsD_end (hK _ ?_) | refine aopsF_end (hK _ ?_)); clear hK K) | ((first | refine aops_go ?_ | refine aopsD_go ?_ | refine aopsF_go ?_ | refine wpcall_pure rfl (kc) ?_); simp [hjp, hc1, hj0, hml, hgt]; (try simp (disch := omega) only [wrap64]); (try (refine gen2 ?_ ?_ <;> intro hq <;> try simp [hjp, hc1, hj0, hml, hgt] at hq))) | refine T.rs (id := 0) (fun _ => false) fun K hK => ?_ | refine T.rs1 (id := 0) (fun _ => false) fun K hK => ?_ | refine T.rs (id := 1) (fun _ => false) fun K hK => ?_ | refine T.rs1 (id := 1) (fun _ => false) fun K hK => ?_ | refine T.rs (id := 2) (fun _ => false) fun K hK => ?_ | refine T.rs1 (id := 2) (fun _ => false) fun K hK => ?_ | refine T.rs (id := 3) (fun _ => false) fun K hK => ?_ | refine T.rs1 (id := 3) (fun _ => false) fun K hK => ?_ | refine T.rs (id := 4) (fun _ => false) fun K hK => ?_ | refine T.rs1 (id := 4) (fun _ => false) fun K hK => ?_ | refine T.rs (id := 5) (fun _ => false) fun K hK => ?_ | refine T.rs1 (id := 5) (fun _ => false) fun K hK => ?_ | refine T.rs (id := 6) (fun _ => false) fun K hK => ?_ | refine T.rs1 (id := 6) (fun _ => false) fun K hK => ?_ | refine T.rs (id := 7) (fun _ => false) fun K hK => ?_ | refine T.rs1 (id := 7) (fun _ => false) fun K hK => ?_ | refine T.rs (id := 9) (fun _ => false) fun K hK => ?_ | refine T.rs1 (id := 9) (fun _ => false) fun K hK => ?_ | refine T.rs (id := 10) (fun _ => false) fun K hK => ?_ | refine T.rs1 (id := 10) (fun _ => false) fun K hK => ?_ | refine T.rs (id := 11) (fun _ => false) fun K hK => ?_ | refine T.rs1 (id := 11) (fun _ => false) fun K hK => ?_ | refine T.rs (id := 8) (fun _ => false) fun K hK => ?_ | refine T.rs1 (id := 8) (fun _ => false) fun K hK => ?_ | (refine ⟨by omega, ?_⟩) | refine T.ct rfl ?_ | refine T.cf rfl ?_ | refine T.seq ?_ | refine T.block ?_ | refine T.skip ?_ | refine T.exit ?_
   refine T.loopK (α := Nat × Int) [0, 2, 3, 4, 5, 6, 7, 8, 9, 19, 20, 21, 22, 23, 24, 25, 26, 27, 28, 29, 30, 31, 48, 49, 50, 51, 52, 53, 54, 55, 56, 58, 59, 60, 61, 62] (fun x => [(10, .i x.1)]) (fun x => [(Gb.length, [.d (.i x.2), .d (.i 0)])]) (fun _ => []) (fun _ A => A) (fun x => 15 - x.1) (fun x => 1 <= x.1 /\ x.1 <= 14 /\ lastW w0 x.2 x.1 (W.drop x.1) = R) (by simp; rfl) (fun x hx => ?_) (1, 0) ⟨by simp, by simp, hR⟩ (by simp [ups, set_last]) (by simp) (by simp)
   obtain ⟨k, acc⟩ := x
   obtain ⟨hk1, hk2, hk3⟩ := hx
   dsimp only at hk1 hk2 hk3 ⊢
   simp only [ups, set_last, List.set_cons_zero, List.set_cons_succ, List.cons_append, List.nil_append, List.append_nil]
   by_cases hk : k < W.length
   ·obtain ⟨y, hy⟩ := get_lt hk
    have hgy : ∀ h, W[k]'h = y := fun h => by rw [List.getElem?_eq_getElem h] at hy; exact Option.some.inj hy
    rw [drop_of hy, lastW_step] at hk3
    have hk14 : (k : Int) < 14 := by omega
    have hk14n : k < 14 := by omega
    by_cases hyw : y = w0
    ·subst hyw
     rw [if_pos rfl] at hk3
     repeat' first | ((first | refine aops_end (hK _ ?_) | refine aopsD_end (hK _ ?_) | refine aopsF_end (hK _ ?_)); clear hK K) | ((first | refine aops_go ?_ | refine aopsD_go ?_ | refine aopsF_go ?_); simp [hk, hk14, hk14n, hWml, hWl, hgy, hw0, set_last]; (try simp (disch := omega) only [wrap64]); (try (refine gen2 ?_ ?_ <;> intro hq <;> try simp [hk, hk14, hk14n, hWml, hWl, hgy, hw0, set_last] at hq))) | (refine ⟨(k + 1, (k : Int)), by dsimp only; omega, ⟨by dsimp only; omega, by dsimp only; omega, hk3⟩, ?_⟩; simp (disch := omega) [wrap64, set_last]) | refine T.rd (id := 14) mixed (fun _ => false) [] (by kernel_rfl) fun K hK => ?_ | refine T.rd1 (id := 14) mixed (fun _ => false) [] (by kernel_rfl) fun K hK => ?_ | refine T.r0 fun K hK => ?_ | refine T.r1 fun K hK => ?_ | (refine ⟨by omega, ?_⟩) | refine T.ct rfl ?_ | refine T.cf rfl ?_ | refine T.seq ?_ | refine T.block ?_ | refine T.skip ?_ | refine T.exit ?_
    ·rw [if_neg hyw] at hk3
     repeat' first | ((first | refine aops_end (hK _ ?_) | refine aopsD_end (hK _ ?_) | refine aopsF_end (hK _ ?_)); clear hK K) | ((first | refine aops_go ?_ | refine aopsD_go ?_ | refine aopsF_go ?_); simp [hk, hk14, hk14n, hWml, hWl, hgy, hw0, hyw, set_last]; (try simp (disch := omega) only [wrap64]); (try (refine gen2 ?_ ?_ <;> intro hq <;> try simp [hk, hk14, hk14n, hWml, hWl, hgy, hw0, hyw, set_last] at hq))) | (refine ⟨(k + 1, acc), by dsimp only; omega, ⟨by dsimp only; omega, by dsimp only; omega, hk3⟩, ?_⟩; simp (disch := omega) [wrap64, set_last]) | refine T.rd (id := 14) mixed (fun _ => false) [] (by kernel_rfl) fun K hK => ?_ | refine T.rd1 (id := 14) mixed (fun _ => false) [] (by kernel_rfl) fun K hK => ?_ | refine T.r0 fun K hK => ?_ | refine T.r1 fun K hK => ?_ | (refine ⟨by omega, ?_⟩) | refine T.ct rfl ?_ | refine T.cf rfl ?_ | refine T.seq ?_ | refine T.block ?_ | refine T.skip ?_ | refine T.exit ?_
   ·have hk14 : k = 14 := by omega
    subst hk14
    rw [List.drop_of_length_le (by omega), lastW] at hk3
    subst hk3
    have hjl : j <= 200 := by omega
    have hml2 : ((out.take j).map eOp).length = j := by simp; omega
    have hmn : min j out.length = j := by omega
    cases wr with
    | nil =>
     replace hnx : out.take (j + 1) = out.take j ++ [⟨acc, 0⟩] := hnx
     repeat' first | ((first | refine aops_end (hK _ ?_) | refine aopsD_end (hK _ ?_) | refine aopsF_end (hK _ ?_)); clear hK K) | ((first | refine aops_go ?_ | refine aopsD_go ?_ | refine aopsF_go ?_); simp [hWml, hWl, set_last, hml2, hmn]; (try simp (disch := omega) only [wrap64]); (try (refine gen2 ?_ ?_ <;> intro hq <;> try simp [hWml, hWl, set_last, hml2, hmn] at hq))) | (refine ⟨(j + 1, _), by dsimp only; omega, by dsimp only; omega, rfl, ?_, ?_⟩ <;> simp (disch := omega) [wrap64, hnx, hml2]) | refine T.rd (id := 14) mixed (fun _ => false) [] (by kernel_rfl) fun K hK => ?_ | refine T.rd1 (id := 14) mixed (fun _ => false) [] (by kernel_rfl) fun K hK => ?_ | refine T.r0 fun K hK => ?_ | refine T.r1 fun K hK => ?_ | (refine ⟨by omega, ?_⟩) | refine T.ct rfl ?_ | refine T.cf rfl ?_ | refine T.seq ?_ | refine T.block ?_ | refine T.skip ?_ | refine T.exit ?_
    | cons w1 wr =>
     replace hnx : out.take (j + 1) = out.take j ++ [⟨acc, (numS w1).getD 0⟩] := hnx
     have hw1 := hcs w1 (by simp)
     have kn := l18Num_ok w1 (by omega)
     generalize (numS w1).getD 0 = a at *
     generalize (numS w1).isSome = q1 at *
     have hr1 : (1 : Int) < (wr.length : Int) + 1 + 1 := by omega
     repeat' first | ((first | refine aops_end (hK _ ?_) | refine aopsD_end (hK _ ?_) | refine aopsF_end (hK _ ?_)); clear hK K) | ((first | refine aops_go ?_ | refine aopsD_go ?_ | refine aopsF_go ?_ | refine wpcall_pure rfl (kn) ?_); simp [hWml, hWl, set_last, hml2, hmn, hr1]; (try simp (disch := omega) only [wrap64])) | (refine ⟨(j + 1, _), by dsimp only; omega, by dsimp only; omega, rfl, ?_, ?_⟩ <;> simp (disch := omega) [wrap64, hnx, hml2]) | refine T.rd (id := 14) mixed (fun _ => false) [] (by kernel_rfl) fun K hK => ?_ | refine T.rd1 (id := 14) mixed (fun _ => false) [] (by kernel_rfl) fun K hK => ?_ | refine T.r0 fun K hK => ?_ | refine T.r1 fun K hK => ?_ | (refine ⟨by omega, ?_⟩) | refine T.ct rfl ?_ | refine T.cf rfl ?_ | refine T.seq ?_ | refine T.block ?_ | refine T.skip ?_ | refine T.exit ?_
  ·have hjl : j = Q.length := by omega
   subst hjl
   rw [List.take_of_length_le (by omega)]
   have hc1 : ¬ (Q.length : Int) + 1 < P.length := by omega
   by_cases hs0 : s = []
   ·rw [if_pos (.inl hs0)]
    subst hs0
    simp only [Option.getD_none, Option.isSome_none]
    repeat' first | ((first | refine aops_end (hK _ ?_) | refine aopsD_end (hK _ ?_) | refine aopsF_end (hK _ ?_)); clear hK K) | ((first | refine aops_go ?_ | refine aopsD_go ?_ | refine aopsF_go ?_); simp [hc1, hml]; (try simp (disch := omega) only [wrap64]); (try (refine gen2 ?_ ?_ <;> intro hq <;> try simp [hc1, hml] at hq))) | (refine T.ret (Done.tup (Or.inr rfl) ?_) <;> simp [resAs, Tryz.results13] <;> omega) | refine T.rd (id := 14) mixed (fun _ => false) [] (by kernel_rfl) fun K hK => ?_ | refine T.rd1 (id := 14) mixed (fun _ => false) [] (by kernel_rfl) fun K hK => ?_ | refine T.r0 fun K hK => ?_ | refine T.r1 fun K hK => ?_ | (refine ⟨by omega, ?_⟩) | refine T.ct rfl ?_ | refine T.cf rfl ?_ | refine T.seq ?_ | refine T.block ?_ | refine T.skip ?_ | refine T.exit ?_
   ·by_cases hf : formatOpsM out = s
    ·rw [if_neg (by simp [hs0, hf])]
     rw [hf] at kf
     simp only [Option.getD_some, Option.isSome_some]
     repeat' first | ((first | refine aops_end (hK _ ?_) | refine aopsD_end (hK _ ?_) | refine aopsF_end (hK _ ?_)); clear hK K) | ((first | refine aops_go ?_ | refine aopsD_go ?_ | refine aopsF_go ?_ | (refine wpcall_pure ?_ (kf) ?_; (focus (solve | simp [hc1, hml, hs0, hol])))); simp [hc1, hml, hs0, hol]; (try simp (disch := omega) only [wrap64]); (try (refine gen2 ?_ ?_ <;> intro hq <;> try simp [hc1, hml, hs0, hol] at hq))) | (refine T.ret (Done.tup (Or.inr rfl) ?_) <;> simp [resAs, Tryz.results13, hol] <;> omega) | refine T.rd (id := 14) mixed (fun _ => false) [] (by kernel_rfl) fun K hK => ?_ | refine T.rd1 (id := 14) mixed (fun _ => false) [] (by kernel_rfl) fun K hK => ?_ | refine T.r0 fun K hK => ?_ | refine T.r1 fun K hK => ?_ | (refine ⟨by omega, ?_⟩) | refine T.ct rfl ?_ | refine T.cf rfl ?_ | refine T.seq ?_ | refine T.block ?_ | refine T.skip ?_ | refine T.exit ?_
    ·rw [if_pos (.inr hf)]
     generalize formatOpsM out = tx at *
     simp only [Option.getD_none, Option.isSome_none]
     repeat' first | ((first | refine aops_end (hK _ ?_) | refine aopsD_end (hK _ ?_) | refine aopsF_end (hK _ ?_)); clear hK K) | ((first | refine aops_go ?_ | refine aopsD_go ?_ | refine aopsF_go ?_ | (refine wpcall_pure ?_ (kf) ?_; (focus (solve | simp [hc1, hml, hs0, hf, hol])))); simp [hc1, hml, hs0, hf, hol]; (try simp (disch := omega) only [wrap64]); (try (refine gen2 ?_ ?_ <;> intro hq <;> try simp [hc1, hml, hs0, hf, hol] at hq))) | (refine T.ret (Done.tup (Or.inr rfl) ?_) <;> simp [resAs, Tryz.results13] <;> omega) | refine T.rd (id := 14) mixed (fun _ => false) [] (by kernel_rfl) fun K hK => ?_ | refine T.rd1 (id := 14) mixed (fun _ => false) [] (by kernel_rfl) fun K hK => ?_ | refine T.r0 fun K hK => ?_ | refine T.r1 fun K hK => ?_ | (refine ⟨by omega, ?_⟩) | refine T.ct rfl ?_ | refine T.cf rfl ?_ | refine T.seq ?_ | refine T.block ?_ | refine T.skip ?_ | refine T.exit ?_
end Go.Proofs.YtcmdpggdaiinpaaGreatDoor
