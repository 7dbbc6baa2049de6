/- A part of the library of this seat. -/
import Derived.Test.YtloolmchekcmeaaK20
set_option linter.unusedVariables false
set_option linter.unusedSimpArgs false
namespace Go.Proofs.Ytloolmchekcmeaa
attribute [-simp] Go.Av.astepJ Go.Av.relC Go.Av.relL Go.Av.relV Go.Av.relVs Go.Av.callJ
open Go Go.Av
attribute [local irreducible] T ACalls TX EX LX Draws Some_ ACallsX eTy eTm MTy.kind MTy.kids MTm.kind MTm.name MTm.num MTm.ty MTm.fr MTm.label MTm.kids
attribute [local simp] eTy_def eTm_def
set_option maxHeartbeats 16000000
set_option maxRecDepth 8000
attribute [local simp] Option.bind
@[simp] theorem td_l15T : td Try.prog 47 = some { ag := true, sz := 3, by_ := 40, zero := some [.d (.int .i64 0), .d (.int .i64 0), .nil], el := none, ar := none, fl := [(0, 1), (1, 1), (2, 1)], ik := none, isS := false, isB := false } := keep (by kernel_rfl)
@[simp] theorem td_l15Ts : td Try.prog 43 = some { ag := false, sz := 1, by_ := 24, zero := some [.nil], el := some 47, ar := none, fl := [], ik := none, isS := false, isB := false } := keep (by kernel_rfl)
@[simp] theorem td_l15S : td Try.prog 45 = some { ag := true, sz := 2, by_ := 48, zero := some [.nil, .nil], el := none, ar := none, fl := [(0, 1), (1, 1)], ik := none, isS := false, isB := false } := keep (by kernel_rfl)

theorem l15Base_ok (k : Int) : ACalls Try.prog 43 [.i k] [] (aIT (.b k)) [] [] := by
 refine ACalls.of_body Try.func43 (by kernel_rfl) rfl (by kernel_rfl) (by simp [Try.ntmps43]) (by simp) ?_
 rw [Try.ntmps43]
 repeat' first | (refine aops_end (hK _ ?_); clear hK K) | (refine aops_go ?_; simp; (try (refine gen2 ?_ ?_ <;> intro hq <;> try simp at hq))) | (refine T.ret (Done.val (Or.inr rfl) ?_) <;> simp [resAs, Try.results43, eIT_def] <;> omega) | refine T.r0 fun K hK => ?_

theorem l15Two_ok (k : Int) (x y : IT) : ACalls Try.prog 28 [.i k, aIT x, aIT y] [] (aIT (.p k x y)) [] [] := by
 refine ACalls.of_body Try.func28 (by kernel_rfl) rfl (by kernel_rfl) (by simp [Try.ntmps28]) (by simp) ?_
 rw [Try.ntmps28]
 repeat' first | (refine aops_end (hK _ ?_); clear hK K) | (refine aops_go ?_; simp; (try (refine gen2 ?_ ?_ <;> intro hq <;> try simp at hq))) | (refine T.ret (Done.val (Or.inr rfl) ?_) <;> simp [resAs, Try.results28, eIT_def] <;> omega) | refine T.r0 fun K hK => ?_

theorem l15New_ok (B ls : List IT) (hB : B.length <= 1048576) : ACalls Try.prog 27 [aSt B ls] [] (.tup [aSt (B ++ [.v B.length]) ls, aIT (.v B.length)]) [] [] := by
 refine ACalls.of_body Try.func27 (by kernel_rfl) rfl (by kernel_rfl) (by simp [Try.ntmps27]) (by simp) ?_
 rw [Try.ntmps27]
 repeat' first | (refine aops_end (hK _ ?_); clear hK K) | (refine aops_go ?_; simp; (try (refine gen2 ?_ ?_ <;> intro hq <;> try simp at hq))) | refine T.rs (id := 0) (fun _ => false) fun K hK => ?_ | refine T.rs (id := 1) (fun _ => false) fun K hK => ?_ | refine T.seq ?_
 refine T.nilObj 3 2 (row := [.d (.i 0), .d (.i B.length), .nil]) (by simp) (by simp) ?_
 simp
 repeat' first | (refine aopsF_end (hK _ ?_); clear hK K) | (refine aopsF_go ?_; simp; (try (refine gen2 ?_ ?_ <;> intro hq <;> try simp at hq))) | (refine ⟨by omega, by omega, ?_⟩) | (refine T.ret (Done.tup (Or.inr rfl) ?_) <;> simp [resAs, Try.results27, eIT_v] <;> omega) | refine T.rdF1 (id := 2) mixed (fun i => i == 0) [0, 3, 6, 8] [2, 4, 5] 4 [1] (by kernel_rfl) fun K hK => ?_ | refine T.rdF (id := 3) mixed (fun _ => false) [2, 3] [1] 3 [1] (by kernel_rfl) fun K hK => ?_

theorem l15Head_ok (B ls : List IT) (hS : ScB B) (hKd : KdB B) (hB : B.length <= 1048576) (k : Nat) (t : IT) (hx : ex B k t = true) (ht : sc B.length t = true) (hk : kdI t) : ACalls Try.prog 31 [aSt B ls, aIT t] [] (aIT (hd B k t)) [] [] := by
 obtain ⟨R, hR⟩ : ∃ R, hd B k t = R := ⟨_, rfl⟩
 rw [hR]
 refine ACalls.of_body Try.func31 (by kernel_rfl) rfl (by kernel_rfl) (by simp [Try.ntmps31]) (by simp) ?_
 rw [Try.ntmps31]
 repeat' first | (refine aops_end (hK _ ?_); clear hK K) | (refine aops_go ?_; simp; (try (refine gen2 ?_ ?_ <;> intro hq <;> try simp at hq))) | refine T.r0 fun K hK => ?_ | refine T.seq ?_ | refine T.block ?_
 refine T.loopK (α := Nat × IT) [2, 3, 4] (fun x => []) (fun x => [(1, (aIT x.2).cells)]) (fun x => []) (fun x A => A) (fun x => x.1) (fun x => ex B x.1 x.2 = true /\ sc B.length x.2 = true /\ kdI x.2 /\ hd B x.1 x.2 = R) (by simp; rfl) (fun x hx => ?_) (k, t) ⟨hx, ht, hk, hR⟩ (by simp) (by simp) (by simp)
 obtain ⟨j, u⟩ := x
 obtain ⟨hx, hs, hku, he⟩ := hx
 dsimp only at hx hs hku he ⊢
 simp only [ups, List.set_cons_zero, List.set_cons_succ, List.cons_append, List.nil_append, List.append_nil]
 cases u with
 | b c =>
  have hk0 := kdI_ne hku (by simp)
  simp only [IT.kind_b] at hk0
  have hr : R = .b c := by rw [<- he]; cases j <;> rfl
  subst hr
  repeat' first | ((first | refine aops_end (hK _ ?_) | refine aopsD_end (hK _ ?_)); clear hK K) | ((first | refine aops_go ?_ | refine aopsD_go ?_); simp [hk0]; (try (refine gen2 ?_ ?_ <;> intro hq <;> try simp [hk0] at hq))) | (refine T.ret (Done.val (Or.inr rfl) ?_) <;> simp [resAs, Try.results31] <;> omega) | refine T.rd (id := 1) mixed (fun _ => false) [] (by kernel_rfl) fun K hK => ?_ | refine T.r0 fun K hK => ?_ | refine T.cf rfl ?_ | refine T.seq ?_ | refine T.exit ?_
 | p c a b =>
  have hk0 := kdI_ne hku (by simp)
  simp only [IT.kind_p] at hk0
  have hr : R = .p c a b := by rw [<- he]; cases j <;> rfl
  subst hr
  repeat' first | ((first | refine aops_end (hK _ ?_) | refine aopsD_end (hK _ ?_)); clear hK K) | ((first | refine aops_go ?_ | refine aopsD_go ?_); simp [hk0]; (try (refine gen2 ?_ ?_ <;> intro hq <;> try simp [hk0] at hq))) | (refine T.ret (Done.val (Or.inr rfl) ?_) <;> simp [resAs, Try.results31] <;> omega) | refine T.rd (id := 1) mixed (fun _ => false) [] (by kernel_rfl) fun K hK => ?_ | refine T.r0 fun K hK => ?_ | refine T.cf rfl ?_ | refine T.seq ?_ | refine T.exit ?_
 | v m =>
  have hlt : m < B.length := by simpa [sc] using hs
  obtain ⟨w, ht⟩ := get_lt hlt
  have htm : w ∈ B := List.mem_of_getElem? ht
  have hgt : B[m] = w := by rw [List.getElem?_eq_getElem hlt] at ht; exact Option.some.inj ht
  have hdr : B.drop m = w :: B.drop (m + 1) := by rw [List.drop_eq_getElem_cons hlt, hgt]
  cases hb : bd B m with
  | none =>
   have hw : w = .v m := by have := bd_none hlt hb; rw [ht] at this; exact Option.some.inj this
   subst hw
   have hr : R = .v m := by rw [<- he, hd_free hb]
   subst hr
   repeat' first | ((first | refine aops_end (hK _ ?_) | refine aopsD_end (hK _ ?_)); clear hK K) | ((first | refine aops_go ?_ | refine aopsD_go ?_); simp [hlt, hgt, eIT_v]; (try (refine gen2 ?_ ?_ <;> intro hq <;> try simp [hlt, hgt, eIT_v] at hq))) | (refine T.ret (Done.val (Or.inr rfl) ?_) <;> simp [resAs, Try.results31] <;> omega) | refine T.rd (id := 1) mixed (fun _ => false) [] (by kernel_rfl) fun K hK => ?_ | refine T.r0 fun K hK => ?_ | refine T.cf rfl ?_ | refine T.seq ?_ | refine T.exit ?_
  | some w' =>
   obtain ⟨h1, h2⟩ := bd_some hb
   have hw : w' = w := by rw [ht] at h1; exact (Option.some.inj h1).symm
   subst hw
   cases j with
   | zero => simp [ex] at hx
   | succ j =>
    have hx2 : ex B j w' = true := by simpa [ex, hb] using hx
    rw [hd_step hb] at he
    have hs2 := bd_sc hS hb
    have hk2 := bd_kd hKd hb
    cases w' with
    | v m2 =>
     have hne : ¬ (m2 : Int) = m := by intro e; exact h2 (by rw [show m2 = m by omega])
     repeat' first | ((first | refine aops_end (hK _ ?_) | refine aopsD_end (hK _ ?_)); clear hK K) | ((first | refine aops_go ?_ | refine aopsD_go ?_); simp [hlt, hgt, hne, eIT_v]; (try (refine gen2 ?_ ?_ <;> intro hq <;> try simp [hlt, hgt, hne, eIT_v] at hq))) | (refine ⟨(j, .v m2), by dsimp only; omega, ⟨hx2, hs2, hk2, he⟩, rfl, ?_, ?_⟩ <;> simp (disch := omega)) | refine T.rd (id := 1) mixed (fun _ => false) [] (by kernel_rfl) fun K hK => ?_ | refine T.r1 fun K hK => ?_ | refine T.ct rfl ?_ | refine T.seq ?_ | refine T.block ?_ | refine T.skip ?_
    | b c =>
     have hk0 := kdI_ne hk2 (by simp)
     simp only [IT.kind_b] at hk0
     repeat' first | ((first | refine aops_end (hK _ ?_) | refine aopsD_end (hK _ ?_)); clear hK K) | ((first | refine aops_go ?_ | refine aopsD_go ?_); simp [hlt, hgt, hk0, eIT_b, eIT_p]; (try (refine gen2 ?_ ?_ <;> intro hq <;> try simp [hlt, hgt, hk0, eIT_b, eIT_p] at hq))) | (refine ⟨(j, .b c), by dsimp only; omega, ⟨hx2, hs2, hk2, he⟩, rfl, ?_, ?_⟩ <;> simp (disch := omega)) | refine T.rd (id := 1) mixed (fun _ => false) [] (by kernel_rfl) fun K hK => ?_ | refine T.r1 fun K hK => ?_ | refine T.ct rfl ?_ | refine T.seq ?_ | refine T.block ?_ | refine T.skip ?_
    | p c a b =>
     have hk0 := kdI_ne hk2 (by simp)
     simp only [IT.kind_p] at hk0
     repeat' first | ((first | refine aops_end (hK _ ?_) | refine aopsD_end (hK _ ?_)); clear hK K) | ((first | refine aops_go ?_ | refine aopsD_go ?_); simp [hlt, hgt, hk0, eIT_b, eIT_p]; (try (refine gen2 ?_ ?_ <;> intro hq <;> try simp [hlt, hgt, hk0, eIT_b, eIT_p] at hq))) | (refine ⟨(j, .p c a b), by dsimp only; omega, ⟨hx2, hs2, hk2, he⟩, rfl, ?_, ?_⟩ <;> simp (disch := omega)) | refine T.rd (id := 1) mixed (fun _ => false) [] (by kernel_rfl) fun K hK => ?_ | refine T.r1 fun K hK => ?_ | refine T.ct rfl ?_ | refine T.seq ?_ | refine T.block ?_ | refine T.skip ?_

theorem l15Occurs_ok (B ls : List IT) (hS : ScB B) (hKd : KdB B) (hB : B.length <= 1048576) (n : Nat) : ∀ (k : Nat) (t : IT), ex B k t = true -> sc B.length t = true -> kdI t -> ACalls Try.prog 64 [aSt B ls, .i n, aIT t] [] (.b (occ B n k t)) [] [] := by
 intro k
 induction k using Nat.strongRecOn with
 | _ k ih =>
  intro t hx ht hk
  have h1 := l15Head_ok B ls hS hKd hB k t hx ht hk
  have hhd := hd_isHd hx
  have hs2 := hd_sc hS (k := k) ht
  have hk2 := hd_kd hKd (k := k) hk
  have hx2 := hd_ex hx
  have hkk := fun c x y => hd_kids (c := c) (x := x) (y := y) hx
  rw [<- occ_hd hx]
  generalize hd B k t = u at *
  have key : (∀ n, u ≠ .v n) -> (∀ w ∈ u.kids, ACalls Try.prog 64 [aSt B ls, .i n, aIT w] [] (.b (occ B n k w)) [] []) -> ACalls Try.prog 64 [aSt B ls, .i n, aIT t] [] (.b (occ B n k u)) [] [] := by
   intro hnv hkid
   have hk0 := kdI_ne hk2 hnv
   rw [occ_kids hx2 hnv]
   have hl2 : u.kids.length <= 2 := by cases u <;> simp
   clear ih hkk hhd hs2 hk2 hx2
   obtain ⟨f, hf⟩ : ∃ f, (fun w => occ B n k w) = f := ⟨_, rfl⟩
   replace hkid : ∀ w ∈ u.kids, ACalls Try.prog 64 [aSt B ls, .i n, aIT w] [] (.b (f w)) [] [] := fun w hw => by rw [<- hf]; exact hkid w hw
   rw [hf]
   obtain ⟨R, hR⟩ : ∃ R, u.kids.any f = R := ⟨_, rfl⟩
   rw [hR]
   obtain ⟨L, hL⟩ : ∃ L, u.kids = L := ⟨_, rfl⟩
   rw [hL] at hR hkid hl2
   replace h1 : ACalls Try.prog 31 [aSt B ls, aIT t] [] (.agg [.d (.i u.kind), .d (.i u.name), .d (.sl (L.map eIT))]) [] [] := by rw [<- hL]; exact h1
   refine ACalls.of_body Try.func64 (by kernel_rfl) rfl (by kernel_rfl) (by simp [Try.ntmps64]) (by simp) ?_
   rw [Try.ntmps64]
   repeat' first | (refine aops_end (hK _ ?_); clear hK K) | ((first | refine aops_go ?_ | refine wpcall_pure rfl (h1) ?_); simp [hk0]; (try (refine gen2 ?_ ?_ <;> intro hq <;> try simp [hk0] at hq))) | refine T.r0 fun K hK => ?_ | refine T.cf rfl ?_ | refine T.seq ?_ | refine T.block ?_ | refine T.skip ?_
   refine T.loopK (α := Nat) [1, 3, 5] (fun x => [(6, .b false), (7, .i x)]) (fun x => []) (fun x => []) (fun x A => A) (fun x => L.length + 1 - x) (fun x => x <= L.length /\ (L.drop x).any f = R) (by simp; rfl) (fun p hx => ?_) 0 ⟨by simp, by simpa using hR⟩ (by simp) (by simp) (by simp)
   obtain ⟨hx, he⟩ := hx
   dsimp only at hx he ⊢
   simp only [ups, List.set_cons_zero, List.set_cons_succ, List.cons_append, List.nil_append, List.append_nil]
   by_cases hlt : p < L.length
   ·obtain ⟨w, ht⟩ := get_lt hlt
    have htm : w ∈ L := List.mem_of_getElem? ht
    have hgt : L[p] = w := by rw [List.getElem?_eq_getElem hlt] at ht; exact Option.some.inj ht
    have hdr : L.drop p = w :: L.drop (p + 1) := by rw [List.drop_eq_getElem_cons hlt, hgt]
    have hw := hkid w htm
    rw [hdr, List.any_cons] at he
    cases hb : f w with
    | true =>
     rw [hb, Bool.true_or] at he
     rw [hb] at hw
     subst he
     repeat' first | ((first | refine aops_end (hK _ ?_) | refine aopsD_end (hK _ ?_)); clear hK K) | ((first | refine aops_go ?_ | refine aopsD_go ?_ | refine wpcall_pure rfl (hw) ?_); simp [hlt, hgt, eIT_def w]; (try simp (disch := omega) only [wrap64]); (try (refine gen2 ?_ ?_ <;> intro hq <;> try simp [hlt, hgt, eIT_def w] at hq))) | (refine T.ret (Done.data (Or.inr rfl) ?_ ?_) <;> simp [Try.results64] <;> omega) | refine T.rd (id := 7) mixed (fun _ => false) [] (by kernel_rfl) fun K hK => ?_ | refine T.r0 fun K hK => ?_ | refine T.ct rfl ?_ | refine T.seq ?_ | refine T.block ?_ | refine T.skip ?_
    | false =>
     rw [hb, Bool.false_or] at he
     rw [hb] at hw
     repeat' first | ((first | refine aops_end (hK _ ?_) | refine aopsD_end (hK _ ?_)); clear hK K) | ((first | refine aops_go ?_ | refine aopsD_go ?_ | refine wpcall_pure rfl (hw) ?_); simp [hlt, hgt, eIT_def w]; (try simp (disch := omega) only [wrap64]); (try (refine gen2 ?_ ?_ <;> intro hq <;> try simp [hlt, hgt, eIT_def w] at hq))) | (refine ⟨p + 1, by dsimp only; omega, ⟨by omega, he⟩, ?_, ?_, ?_⟩ <;> simp (disch := omega) [wrap64]) | refine T.rd (id := 7) mixed (fun _ => false) [] (by kernel_rfl) fun K hK => ?_ | refine T.r0 fun K hK => ?_ | refine T.r1 fun K hK => ?_ | refine T.ct rfl ?_ | refine T.cf rfl ?_ | refine T.seq ?_ | refine T.block ?_ | refine T.skip ?_
   ·have hp' : p = L.length := by omega
    subst hp'
    simp at he
    subst he
    repeat' first | (refine aops_end (hK _ ?_); clear hK K) | (refine aops_go ?_; simp [hlt]; (try (refine gen2 ?_ ?_ <;> intro hq <;> try simp [hlt] at hq))) | (refine T.ret (Done.data (Or.inr rfl) ?_ ?_) <;> simp [Try.results64] <;> omega) | refine T.r0 fun K hK => ?_ | refine T.cf rfl ?_ | refine T.seq ?_ | refine T.exit ?_
  cases hu : u with
  | v m =>
   subst hu
   have hb := hhd m rfl
   have ho : occ B n k (.v m) = decide (m = n) := by
    cases k with
    | zero => simp [ex] at hx
    | succ k => simp [occ, hb]
   rw [ho]
   have hc : decide ((m : Int) = n) = decide (m = n) := decide_eq_decide.2 (by omega)
   by_cases e : m = n
   ·subst e
    refine ACalls.of_body Try.func64 (by kernel_rfl) rfl (by kernel_rfl) (by simp [Try.ntmps64]) (by simp) ?_
    rw [Try.ntmps64]
    repeat' first | (refine aops_end (hK _ ?_); clear hK K) | ((first | refine aops_go ?_ | refine wpcall_pure rfl (h1) ?_); simp; (try (refine gen2 ?_ ?_ <;> intro hq <;> try simp at hq))) | (refine T.ret (Done.data (Or.inr rfl) ?_ ?_) <;> simp [Try.results64] <;> omega) | refine T.r0 fun K hK => ?_ | refine T.ct rfl ?_ | refine T.seq ?_
   ·have e' : ¬ (m : Int) = n := by omega
    refine ACalls.of_body Try.func64 (by kernel_rfl) rfl (by kernel_rfl) (by simp [Try.ntmps64]) (by simp) ?_
    rw [Try.ntmps64]
    repeat' first | (refine aops_end (hK _ ?_); clear hK K) | ((first | refine aops_go ?_ | refine wpcall_pure rfl (h1) ?_); simp [e, e']; (try (refine gen2 ?_ ?_ <;> intro hq <;> try simp [e, e'] at hq))) | (refine T.ret (Done.data (Or.inr rfl) ?_ ?_) <;> simp [Try.results64, e, e'] <;> omega) | refine T.r0 fun K hK => ?_ | refine T.ct rfl ?_ | refine T.seq ?_
  | b c =>
   rw [<- hu]
   exact key (by rw [hu]; simp) (by rw [hu]; simp)
  | p c x y =>
   rw [<- hu]
   refine key (by rw [hu]; simp) fun w hw => ?_
   obtain ⟨j, hj, hxx, hxy⟩ := hkk c x y hu
   rw [hu, IT.kids_p] at hw
   simp only [List.mem_cons, List.not_mem_nil, or_false] at hw
   rcases hw with rfl | rfl
   ·have g1 := ih j hj w hxx (sc_kids hs2 w (by simp [hu])) (kdI_kids hk2 w (by simp [hu]))
    rwa [<- occ_stable hxx (Nat.le_of_lt hj)] at g1
   ·have g2 := ih j hj w hxy (sc_kids hs2 w (by simp [hu])) (kdI_kids hk2 w (by simp [hu]))
    rwa [<- occ_stable hxy (Nat.le_of_lt hj)] at g2

theorem l15Bind_ok (B ls : List IT) (hS : ScB B) (hKd : KdB B) (hB : B.length <= 1048576) (n : Nat) (hn : n < B.length) (k : Nat) (t : IT) (hx : ex B k t = true) (ht : sc B.length t = true) (hk : kdI t) : ACalls Try.prog 53 [aSt B ls, .i n, aIT t] [] (.tup [aSt (bindI k B n t).1 ls, .b (bindI k B n t).2]) [] [] := by
 have g := l15Occurs_ok B ls hS hKd hB n k t hx ht hk
 obtain ⟨q, hq⟩ : ∃ q, occ B n k t = q := ⟨_, rfl⟩
 rw [hq] at g
 have hset : (B.map eIT).set n (eIT t) = (B.set n t).map eIT := by rw [List.map_set]
 rw [eIT_def t] at hset
 by_cases hv : t = .v n
 ·subst hv
  rw [bindI, if_pos rfl]
  refine ACalls.of_body Try.func53 (by kernel_rfl) rfl (by kernel_rfl) (by simp [Try.ntmps53]) (by simp) ?_
  rw [Try.ntmps53]
  repeat' first | (refine aops_end (hK _ ?_); clear hK K) | (refine aops_go ?_; simp; (try (refine gen2 ?_ ?_ <;> intro hq <;> (try simp at hq) <;> try (have : True := hq; clear this hq)))) | (refine T.ret (Done.tup (Or.inr rfl) ?_) <;> simp [resAs, Try.results53] <;> omega) | refine T.r0 fun K hK => ?_ | refine T.ct rfl ?_ | refine T.seq ?_
 have hnb : (t.kind = 0 /\ (t.name : Int) ≠ n) \/ t.kind ≠ 0 := by
  cases t with
  | v m => exact .inl ⟨rfl, fun e => hv (by simp only [IT.name_v] at e; rw [show m = n by omega])⟩
  | b c => exact .inr (kdI_ne hk (by simp))
  | p c x y => exact .inr (kdI_ne hk (by simp))
 rw [bindI, if_neg hv, hq]
 clear hx ht hk hv
 rcases hnb with ⟨h0, hm⟩ | h0 <;> cases q <;> simp only [if_true, Bool.false_eq_true, if_false]
 ·rw [h0] at hset
  refine ACalls.of_body Try.func53 (by kernel_rfl) rfl (by kernel_rfl) (by simp [Try.ntmps53]) (by simp) ?_
  rw [Try.ntmps53]
  repeat' first | (refine aops_end (hK _ ?_); clear hK K) | ((first | refine aops_go ?_ | (refine wpcall_pure ?_ (g) ?_; (focus (solve | simp [h0, hm, hn, eIT_drop, hset])))); simp [h0, hm, hn, eIT_drop, hset]; (try (refine gen2 ?_ ?_ <;> intro hq <;> (try simp [h0, hm, hn, eIT_drop, hset] at hq) <;> try (have : True := hq; clear this hq)))) | (refine ⟨by omega, by omega, ?_⟩) | (refine T.ret (Done.tup (Or.inr rfl) ?_) <;> simp [resAs, Try.results53] <;> omega) | refine T.rs (id := 5) (fun i => i == 0) fun K hK => ?_ | refine T.rs (id := 0) (fun _ => false) fun K hK => ?_ | refine T.rs (id := 1) (fun _ => false) fun K hK => ?_ | refine T.rs (id := 3) (fun _ => false) fun K hK => ?_ | refine T.rs (id := 6) (fun _ => false) fun K hK => ?_ | refine T.rs (id := 7) (fun _ => false) fun K hK => ?_ | refine T.cf rfl ?_ | refine T.seq ?_ | refine T.skip ?_
 ·refine ACalls.of_body Try.func53 (by kernel_rfl) rfl (by kernel_rfl) (by simp [Try.ntmps53]) (by simp) ?_
  rw [Try.ntmps53]
  repeat' first | (refine aops_end (hK _ ?_); clear hK K) | ((first | refine aops_go ?_ | (refine wpcall_pure ?_ (g) ?_; (focus (solve | simp [h0, hm, hn])))); simp [h0, hm, hn]; (try (refine gen2 ?_ ?_ <;> intro hq <;> (try simp [h0, hm, hn] at hq) <;> try (have : True := hq; clear this hq)))) | (refine T.ret (Done.tup (Or.inr rfl) ?_) <;> simp [resAs, Try.results53] <;> omega) | refine T.r0 fun K hK => ?_ | refine T.ct rfl ?_ | refine T.cf rfl ?_ | refine T.seq ?_ | refine T.skip ?_
 ·refine ACalls.of_body Try.func53 (by kernel_rfl) rfl (by kernel_rfl) (by simp [Try.ntmps53]) (by simp) ?_
  rw [Try.ntmps53]
  repeat' first | (refine aops_end (hK _ ?_); clear hK K) | ((first | refine aops_go ?_ | (refine wpcall_pure ?_ (g) ?_; (focus (solve | simp [h0, hn, eIT_drop, hset])))); simp [h0, hn, eIT_drop, hset]; (try (refine gen2 ?_ ?_ <;> intro hq <;> (try simp [h0, hn, eIT_drop, hset] at hq) <;> try (have : True := hq; clear this hq)))) | (refine ⟨by omega, by omega, ?_⟩) | (refine T.ret (Done.tup (Or.inr rfl) ?_) <;> simp [resAs, Try.results53] <;> omega) | refine T.rs (id := 5) (fun i => i == 0) fun K hK => ?_ | refine T.rs (id := 0) (fun _ => false) fun K hK => ?_ | refine T.rs (id := 1) (fun _ => false) fun K hK => ?_ | refine T.rs (id := 3) (fun _ => false) fun K hK => ?_ | refine T.rs (id := 6) (fun _ => false) fun K hK => ?_ | refine T.rs (id := 7) (fun _ => false) fun K hK => ?_ | refine T.cf rfl ?_ | refine T.seq ?_ | refine T.skip ?_
 ·refine ACalls.of_body Try.func53 (by kernel_rfl) rfl (by kernel_rfl) (by simp [Try.ntmps53]) (by simp) ?_
  rw [Try.ntmps53]
  repeat' first | (refine aops_end (hK _ ?_); clear hK K) | ((first | refine aops_go ?_ | refine wpcall_pure rfl (g) ?_); simp [h0, hn]; (try (refine gen2 ?_ ?_ <;> intro hq <;> (try simp [h0, hn] at hq) <;> try (have : True := hq; clear this hq)))) | (refine T.ret (Done.tup (Or.inr rfl) ?_) <;> simp [resAs, Try.results53] <;> omega) | refine T.r0 fun K hK => ?_ | refine T.ct rfl ?_ | refine T.cf rfl ?_ | refine T.seq ?_ | refine T.skip ?_
end Go.Proofs.Ytloolmchekcmeaa

namespace Go.Proofs.Ytloolmchekcmeaa
attribute [-simp] Go.Av.astepJ Go.Av.relC Go.Av.relL Go.Av.relV Go.Av.relVs Go.Av.callJ
open Go Go.Av
attribute [local irreducible] T ACalls TX EX LX Draws Some_ ACallsX eTy eTm MTy.kind MTy.kids MTm.kind MTm.name MTm.num MTm.ty MTm.fr MTm.label MTm.kids
attribute [local simp] eTy_def eTm_def
set_option maxHeartbeats 16000000
set_option maxRecDepth 8000
attribute [local simp] Option.bind

theorem l15Unify_ok (ls : List IT) : ∀ (k : Nat) (B : List IT) (a b : IT) (B' : List IT) (q : Bool), ScB B -> KdB B -> B.length <= 1048576 -> sc B.length a = true -> sc B.length b = true -> kdI a -> kdI b -> uni k B a b = some (B', q) -> ACalls Try.prog 44 [aSt B ls, aIT a, aIT b] [] (.tup [aSt B' ls, .b q]) [] [] := by
 intro k
 induction k with
 | zero => intro B a b B' q _ _ _ _ _ _ _ h; simp [uni] at h
 | succ k ih =>
  intro B a b B' q hS hKd hB ha hb hka hkb h
  rw [uni] at h
  split at h
  case isFalse => simp at h
  rename_i hex
  rw [Bool.and_eq_true] at hex
  have h1 := l15Head_ok B ls hS hKd hB k a hex.1 ha hka
  have h2 := l15Head_ok B ls hS hKd hB k b hex.2 hb hkb
  have xa := hd_ex hex.1
  have xb := hd_ex hex.2
  have sa := hd_sc hS (k := k) ha
  have sb := hd_sc hS (k := k) hb
  have ka := hd_kd hKd (k := k) hka
  have kb := hd_kd hKd (k := k) hkb
  generalize hd B k a = u at *
  generalize hd B k b = v at *
  have bnd : ∀ n t, n < B.length -> ex B k t = true -> sc B.length t = true -> kdI t -> (if t = .v n then some (B, true) else if occ B n k t = true then some (B, false) else some (B.set n t, true)) = some (B', q) -> ACalls Try.prog 53 [aSt B ls, .i n, aIT t] [] (.tup [aSt B' ls, .b q]) [] [] := by
   intro n t hn hx hs hk he
   have g := l15Bind_ok B ls hS hKd hB n hn k t hx hs hk
   have : bindI k B n t = (B', q) := by
    rw [bindI]
    split at he
    ·rename_i e; rw [if_pos e]; simpa using he
    ·rename_i e
     rw [if_neg e]
     split at he
     ·rename_i e2; rw [if_pos e2]; simpa using he
     ·rename_i e2; rw [if_neg e2]; simpa using he
   rw [this] at g
   exact g
  by_cases hu : u.kind = 0
  ·obtain ⟨n, rfl⟩ : ∃ n, u = .v n := by
    cases u with
    | v n => exact ⟨n, rfl⟩
    | b c => exact absurd hu (kdI_ne ka (by simp))
    | p c x y => exact absurd hu (kdI_ne ka (by simp))
   have g := bnd n v (by simpa [sc] using sa) xb sb kb (by cases v <;> exact h)
   clear ih bnd h
   refine ACalls.of_body Try.func44 (by kernel_rfl) rfl (by kernel_rfl) (by simp [Try.ntmps44]) (by simp) ?_
   rw [Try.ntmps44]
   repeat' first | (refine aops_end (hK _ ?_); clear hK K) | ((first | refine aops_go ?_ | refine wpcall_pure rfl (h1) ?_ | refine wpcall_pure rfl (h2) ?_ | refine wpcall_pure rfl (g) ?_); simp; (try (refine gen2 ?_ ?_ <;> intro hq <;> (try simp at hq) <;> try (have : True := hq; clear this hq)))) | (refine T.ret (Done.tup (Or.inr rfl) ?_) <;> simp [resAs, Try.results44] <;> omega) | refine T.r0 fun K hK => ?_ | refine T.ct rfl ?_ | refine T.seq ?_
  have hun : ∀ n, u ≠ .v n := fun n e => hu (by rw [e]; rfl)
  by_cases hv : v.kind = 0
  ·obtain ⟨n, rfl⟩ : ∃ n, v = .v n := by
    cases v with
    | v n => exact ⟨n, rfl⟩
    | b c => exact absurd hv (kdI_ne kb (by simp))
    | p c x y => exact absurd hv (kdI_ne kb (by simp))
   have g := bnd n u (by simpa [sc] using sb) xa sa ka (by
    cases u with
    | v m => exact absurd rfl (hun m)
    | b c => rw [if_neg (by simp)]; exact h
    | p c x y => rw [if_neg (by simp)]; exact h)
   clear ih bnd h
   refine ACalls.of_body Try.func44 (by kernel_rfl) rfl (by kernel_rfl) (by simp [Try.ntmps44]) (by simp) ?_
   rw [Try.ntmps44]
   repeat' first | (refine aops_end (hK _ ?_); clear hK K) | ((first | refine aops_go ?_ | refine wpcall_pure rfl (h1) ?_ | refine wpcall_pure rfl (h2) ?_ | refine wpcall_pure rfl (g) ?_); simp [hu]; (try (refine gen2 ?_ ?_ <;> intro hq <;> (try simp [hu] at hq) <;> try (have : True := hq; clear this hq)))) | (refine T.ret (Done.tup (Or.inr rfl) ?_) <;> simp [resAs, Try.results44] <;> omega) | refine T.r0 fun K hK => ?_ | refine T.ct rfl ?_ | refine T.cf rfl ?_ | refine T.seq ?_ | refine T.skip ?_
  by_cases hk : u.kind = v.kind
  ·cases u with
   | v m => exact absurd rfl (hun m)
   | b i =>
    cases v with
    | v m => exact absurd rfl hv
    | p j x y =>
     exfalso
     simp only [IT.kind_b, IT.kind_p] at hk
     simp only [kdI] at ka kb
     omega
    | b j =>
     simp only [IT.kind_b] at hk hu hv
     subst hk
     simp at h
     obtain ⟨rfl, rfl⟩ := h
     clear ih bnd
     refine ACalls.of_body Try.func44 (by kernel_rfl) rfl (by kernel_rfl) (by simp [Try.ntmps44]) (by simp) ?_
     rw [Try.ntmps44]
     repeat' first | (refine aops_end (hK _ ?_); clear hK K) | ((first | refine aops_go ?_ | refine wpcall_pure rfl (h1) ?_ | refine wpcall_pure rfl (h2) ?_); simp [hu]; (try (refine gen2 ?_ ?_ <;> intro hq <;> (try simp [hu] at hq) <;> try (have : True := hq; clear this hq)))) | refine T.r0 fun K hK => ?_ | refine T.cf rfl ?_ | refine T.seq ?_ | refine T.block ?_ | refine T.skip ?_
     refine T.loopK (α := Nat) [3, 4, 5, 6, 7] (fun x => [(8, .b true), (9, .i 0)]) (fun x => []) (fun x => []) (fun x A => A) (fun x => 1) (fun x => True) (by simp; rfl) (fun x hx => ?_) 0 trivial (by simp) (by simp) (by simp)
     simp only [ups, List.set_cons_zero, List.set_cons_succ, List.cons_append, List.nil_append, List.append_nil]
     repeat' first | (refine aops_end (hK _ ?_); clear hK K) | (refine aops_go ?_; simp; (try (refine gen2 ?_ ?_ <;> intro hq <;> (try simp at hq) <;> try (have : True := hq; clear this hq)))) | (refine T.ret (Done.tup (Or.inr rfl) ?_) <;> simp [resAs, Try.results44] <;> omega) | refine T.r0 fun K hK => ?_ | refine T.cf rfl ?_ | refine T.seq ?_ | refine T.exit ?_
   | p i x y =>
    cases v with
    | v m => exact absurd rfl hv
    | b j =>
     exfalso
     simp only [IT.kind_b, IT.kind_p] at hk
     simp only [kdI] at ka kb
     omega
    | p j x' y' =>
     simp only [IT.kind_p] at hk hu hv
     subst hk
     simp only [if_true] at h
     simp only [kdI] at ka kb
     simp only [sc, Bool.and_eq_true] at sa sb
     obtain ⟨r1, hr1⟩ : ∃ r1, uni k B x x' = r1 := ⟨_, rfl⟩
     rw [hr1] at h
     cases r1 with
     | none => simp at h
     | some r1 =>
      obtain ⟨B1, q1⟩ := r1
      obtain ⟨s1, l1⟩ := uni_sc hS sa.1 sb.1 hr1
      have d1 := uni_kd hKd ka.2.1 kb.2.1 hr1
      have g1 := ih B x x' B1 q1 hS hKd hB sa.1 sb.1 ka.2.1 kb.2.1 hr1
      have g2 : q1 = true -> ACalls Try.prog 44 [aSt B1 ls, aIT y, aIT y'] [] (.tup [aSt B' ls, .b q]) [] [] := fun e => by
       subst e
       exact ih B1 y y' B' q s1 d1 (by omega) (by rw [l1]; exact sa.2) (by rw [l1]; exact sb.2) ka.2.2 kb.2.2 h
      have hf : q1 = false -> B' = B1 /\ q = false := fun e => by subst e; simp at h; exact ⟨h.1.symm, h.2⟩
      clear ih bnd h hr1
      refine ACalls.of_body Try.func44 (by kernel_rfl) rfl (by kernel_rfl) (by simp [Try.ntmps44]) (by simp) ?_
      rw [Try.ntmps44]
      repeat' first | (refine aops_end (hK _ ?_); clear hK K) | ((first | refine aops_go ?_ | refine wpcall_pure rfl (h1) ?_ | refine wpcall_pure rfl (h2) ?_); simp [hu, hv]; (try (refine gen2 ?_ ?_ <;> intro hq <;> (try simp [hu, hv] at hq) <;> try (have : True := hq; clear this hq)))) | refine T.r0 fun K hK => ?_ | refine T.cf rfl ?_ | refine T.seq ?_ | refine T.block ?_ | refine T.skip ?_
      refine T.loopK (α := Nat × List IT × Bool) [3, 4, 5, 6, 7] (fun x => [(8, .b x.2.2), (9, .i x.1)]) (fun x => [(0, [.d (.sl (x.2.1.map eIT)), .d (.sl (ls.map eIT))])]) (fun x => []) (fun x A => A) (fun x => 3 - x.1) (fun x => (x.1 = 0 /\ x.2.1 = B /\ x.2.2 = true) \/ (x.1 = 1 /\ x.2.1 = B1 /\ x.2.2 = q1) \/ (x.1 = 2 /\ x.2.1 = B' /\ x.2.2 = q /\ q1 = true)) (by simp; rfl) (fun x hx => ?_) (0, B, true) (.inl ⟨rfl, rfl, rfl⟩) (by simp) (by simp) (by simp)
      obtain ⟨p, C, ok⟩ := x
      dsimp only at hx ⊢
      simp only [ups, List.set_cons_zero, List.set_cons_succ, List.cons_append, List.nil_append, List.append_nil]
      rcases hx with ⟨rfl, rfl, rfl⟩ | ⟨rfl, rfl, rfl⟩ | ⟨rfl, rfl, rfl, hq⟩
      ·cases q1
       ·repeat' first | ((first | refine aops_end (hK _ ?_) | refine aopsD_end (hK _ ?_)); clear hK K) | ((first | refine aops_go ?_ | refine aopsD_go ?_ | (refine wpcall_pure ?_ (g1) ?_; (focus (solve | simp [eIT_def x, eIT_def x'])))); simp [eIT_def x, eIT_def x']; (try simp (disch := omega) only [wrap64]); (try (refine gen2 ?_ ?_ <;> intro hq <;> (try simp [eIT_def x, eIT_def x'] at hq) <;> try (have : True := hq; clear this hq)))) | refine T.rd1 (id := 11) mixed (fun _ => false) [15] (by kernel_rfl) fun K hK => ?_ | refine T.r0 fun K hK => ?_ | refine T.r1 fun K hK => ?_ | refine T.ct rfl ?_ | refine T.seq ?_ | refine T.block ?_ | refine T.skip ?_
        refine ⟨(1, B1, false), by dsimp only; omega, Or.inr (Or.inl ⟨rfl, rfl, rfl⟩), ?_, ?_, ?_⟩ <;> simp (disch := omega) [wrap64, eIT_def x, eIT_def x']
       ·repeat' first | ((first | refine aops_end (hK _ ?_) | refine aopsD_end (hK _ ?_)); clear hK K) | ((first | refine aops_go ?_ | refine aopsD_go ?_ | (refine wpcall_pure ?_ (g1) ?_; (focus (solve | simp [eIT_def x, eIT_def x'])))); simp [eIT_def x, eIT_def x']; (try simp (disch := omega) only [wrap64]); (try (refine gen2 ?_ ?_ <;> intro hq <;> (try simp [eIT_def x, eIT_def x'] at hq) <;> try (have : True := hq; clear this hq)))) | refine T.rd1 (id := 11) mixed (fun _ => false) [15] (by kernel_rfl) fun K hK => ?_ | refine T.r0 fun K hK => ?_ | refine T.r1 fun K hK => ?_ | refine T.ct rfl ?_ | refine T.seq ?_ | refine T.block ?_ | refine T.skip ?_
        refine ⟨(1, B1, true), by dsimp only; omega, Or.inr (Or.inl ⟨rfl, rfl, rfl⟩), ?_, ?_, ?_⟩ <;> simp (disch := omega) [wrap64, eIT_def x, eIT_def x']
      ·cases ok with
       | false =>
        obtain ⟨rfl, rfl⟩ := hf rfl
        repeat' first | (refine aops_end (hK _ ?_); clear hK K) | (refine aops_go ?_; simp; (try (refine gen2 ?_ ?_ <;> intro hq <;> (try simp at hq) <;> try (have : True := hq; clear this hq)))) | (refine T.ret (Done.tup (Or.inr rfl) ?_) <;> simp [resAs, Try.results44] <;> omega) | refine T.r0 fun K hK => ?_ | refine T.cf rfl ?_ | refine T.seq ?_ | refine T.exit ?_
       | true =>
        have g2 := g2 rfl
        cases q
        ·repeat' first | ((first | refine aops_end (hK _ ?_) | refine aopsD_end (hK _ ?_)); clear hK K) | ((first | refine aops_go ?_ | refine aopsD_go ?_ | (refine wpcall_pure ?_ (g2) ?_; (focus (solve | simp [eIT_def y, eIT_def y'])))); simp [eIT_def y, eIT_def y']; (try simp (disch := omega) only [wrap64]); (try (refine gen2 ?_ ?_ <;> intro hq <;> (try simp [eIT_def y, eIT_def y'] at hq) <;> try (have : True := hq; clear this hq)))) | refine T.rd1 (id := 11) mixed (fun _ => false) [15] (by kernel_rfl) fun K hK => ?_ | refine T.r0 fun K hK => ?_ | refine T.r1 fun K hK => ?_ | refine T.ct rfl ?_ | refine T.seq ?_ | refine T.block ?_ | refine T.skip ?_
         refine ⟨(2, B', false), by dsimp only; omega, Or.inr (Or.inr ⟨rfl, rfl, rfl, rfl⟩), ?_, ?_, ?_⟩ <;> simp (disch := omega) [wrap64, eIT_def y, eIT_def y']
        ·repeat' first | ((first | refine aops_end (hK _ ?_) | refine aopsD_end (hK _ ?_)); clear hK K) | ((first | refine aops_go ?_ | refine aopsD_go ?_ | (refine wpcall_pure ?_ (g2) ?_; (focus (solve | simp [eIT_def y, eIT_def y'])))); simp [eIT_def y, eIT_def y']; (try simp (disch := omega) only [wrap64]); (try (refine gen2 ?_ ?_ <;> intro hq <;> (try simp [eIT_def y, eIT_def y'] at hq) <;> try (have : True := hq; clear this hq)))) | refine T.rd1 (id := 11) mixed (fun _ => false) [15] (by kernel_rfl) fun K hK => ?_ | refine T.r0 fun K hK => ?_ | refine T.r1 fun K hK => ?_ | refine T.ct rfl ?_ | refine T.seq ?_ | refine T.block ?_ | refine T.skip ?_
         refine ⟨(2, B', true), by dsimp only; omega, Or.inr (Or.inr ⟨rfl, rfl, rfl, rfl⟩), ?_, ?_, ?_⟩ <;> simp (disch := omega) [wrap64, eIT_def y, eIT_def y']
      ·subst hq
       cases ok
       ·repeat' first | (refine aops_end (hK _ ?_); clear hK K) | (refine aops_go ?_; simp; (try (refine gen2 ?_ ?_ <;> intro hq <;> (try simp at hq) <;> try (have : True := hq; clear this hq)))) | (refine T.ret (Done.tup (Or.inr rfl) ?_) <;> simp [resAs, Try.results44] <;> omega) | refine T.r0 fun K hK => ?_ | refine T.cf rfl ?_ | refine T.seq ?_ | refine T.exit ?_
       ·repeat' first | (refine aops_end (hK _ ?_); clear hK K) | (refine aops_go ?_; simp; (try (refine gen2 ?_ ?_ <;> intro hq <;> (try simp at hq) <;> try (have : True := hq; clear this hq)))) | (refine T.ret (Done.tup (Or.inr rfl) ?_) <;> simp [resAs, Try.results44] <;> omega) | refine T.r0 fun K hK => ?_ | refine T.cf rfl ?_ | refine T.seq ?_ | refine T.exit ?_
  ·have hr : B' = B /\ q = false := by
    cases u with
    | v m => exact absurd rfl (hun m)
    | b i =>
     cases v with
     | v m => exact absurd rfl hv
     | b j => simp only [IT.kind_b] at hk; simp [hk] at h; exact ⟨h.1.symm, h.2⟩
     | p j x y => simp at h; exact ⟨h.1.symm, h.2⟩
    | p i x y =>
     cases v with
     | v m => exact absurd rfl hv
     | b j => simp at h; exact ⟨h.1.symm, h.2⟩
     | p j x' y' => simp only [IT.kind_p] at hk; simp [hk] at h; exact ⟨h.1.symm, h.2⟩
   obtain ⟨rfl, rfl⟩ := hr
   have hl2 : u.kids.length <= 2 := by cases u <;> simp
   clear ih bnd h
   refine ACalls.of_body Try.func44 (by kernel_rfl) rfl (by kernel_rfl) (by simp [Try.ntmps44]) (by simp) ?_
   rw [Try.ntmps44]
   repeat' first | (refine aops_end (hK _ ?_); clear hK K) | ((first | refine aops_go ?_ | refine wpcall_pure rfl (h1) ?_ | refine wpcall_pure rfl (h2) ?_); simp [hu, hv, hk]; (try (refine gen2 ?_ ?_ <;> intro hq <;> (try simp [hu, hv, hk] at hq) <;> try (have : True := hq; clear this hq)))) | refine T.r0 fun K hK => ?_ | refine T.cf rfl ?_ | refine T.seq ?_ | refine T.block ?_ | refine T.skip ?_
   refine T.loopK (α := Nat) [3, 4, 5, 6, 7] (fun x => [(8, .b false), (9, .i 0)]) (fun x => []) (fun x => []) (fun x A => A) (fun x => 1) (fun x => True) (by simp; rfl) (fun x hx => ?_) 0 trivial (by simp) (by simp) (by simp)
   simp only [ups, List.set_cons_zero, List.set_cons_succ, List.cons_append, List.nil_append, List.append_nil]
   by_cases hlt : (0 : Int) < u.kids.length
   ·repeat' first | (refine aops_end (hK _ ?_); clear hK K) | (refine aops_go ?_; simp [hlt]; (try (refine gen2 ?_ ?_ <;> intro hq <;> (try simp [hlt] at hq) <;> try (have : True := hq; clear this hq)))) | (refine T.ret (Done.tup (Or.inr rfl) ?_) <;> simp [resAs, Try.results44] <;> omega) | refine T.r0 fun K hK => ?_ | refine T.cf rfl ?_ | refine T.seq ?_ | refine T.exit ?_
   ·repeat' first | (refine aops_end (hK _ ?_); clear hK K) | (refine aops_go ?_; simp [hlt]; (try (refine gen2 ?_ ?_ <;> intro hq <;> (try simp [hlt] at hq) <;> try (have : True := hq; clear this hq)))) | (refine T.ret (Done.tup (Or.inr rfl) ?_) <;> simp [resAs, Try.results44] <;> omega) | refine T.r0 fun K hK => ?_ | refine T.cf rfl ?_ | refine T.seq ?_ | refine T.exit ?_
end Go.Proofs.Ytloolmchekcmeaa

namespace Go.Proofs.Ytloolmchekcmeaa
attribute [-simp] Go.Av.astepJ Go.Av.relC Go.Av.relL Go.Av.relV Go.Av.relVs Go.Av.callJ
open Go Go.Av
attribute [local irreducible] T ACalls TX EX LX Draws Some_ ACallsX eTy eTm MTy.kind MTy.kids MTm.kind MTm.name MTm.num MTm.ty MTm.fr MTm.label MTm.kids
attribute [local simp] eTy_def eTm_def
set_option maxHeartbeats 16000000
set_option maxRecDepth 8000
attribute [local simp] Option.bind

theorem uniQ_cases {k : Nat} {B : List IT} {a b : IT} {r : Option (List IT)} (h : uniQ k B a b = some r) : ∃ B2 q, uni k B a b = some (B2, q) /\ (q = true /\ r = some B2 \/ q = false /\ r = none) := by
 rw [uniQ] at h
 split at h
 ·cases h
 ·rename_i B' e; cases h; exact ⟨B', true, e, .inl ⟨rfl, rfl⟩⟩
 ·rename_i B' e; cases h; exact ⟨B', false, e, .inr ⟨rfl, rfl⟩⟩
def ansN (C : List IT) (u : IT) (q : Bool) : Option (List IT × IT) -> Prop
 | some (B', t) => C = B' /\ u = t /\ q = true
 | none => q = false
abbrev NodeC (ls : List IT) (B : List IT) (e : MTm) (ts : List IT) (r : Option (List IT × IT)) : Prop :=
 ∃ C u q, ACalls Try.prog 29 [aSt B ls, aTm e, .l (ts.map eIT)] [] (.tup [aSt C ls, aIT u, .b q]) [] [] /\ ansN C u q r

theorem node_leaf (ls B : List IT) (e : MTm) (hk : e.kind = 2 \/ e.kind = 3 \/ e.kind = 4) : ACalls Try.prog 29 [aSt B ls, aTm e, .l []] [] (.tup [aSt B ls, aIT (.b (if e.kind = 2 then 2 else 3)), .b true]) [] [] := by
 have b2 := l15Base_ok 2
 have b3 := l15Base_ok 3
 rcases hk with h | h | h
 ·rw [if_pos h]
  refine ACalls.of_body Try.func29 (by kernel_rfl) rfl (by kernel_rfl) (by simp [Try.ntmps29]) (by simp) ?_
  rw [Try.ntmps29]
  repeat' first | ((first | refine aops_end (hK _ ?_) | refine aopsF_end (hK _ ?_)); clear hK K) | ((first | refine aops_go ?_ | refine aopsF_go ?_ | refine wpcall_pure rfl (b2) ?_ | refine wpcall_pure rfl (b3) ?_); simp [h]; (try (refine gen2 ?_ ?_ <;> intro hq <;> try simp [h] at hq))) | (refine T.ret (Done.tup (Or.inr rfl) ?_) <;> simp [resAs, Try.results29] <;> omega) | refine T.rdF (id := 7) mixed (fun _ => false) [2, 3] [1] 3 [2] (by kernel_rfl) fun K hK => ?_ | refine T.r0 fun K hK => ?_ | refine T.ct rfl ?_ | refine T.seq ?_ | refine T.block ?_
 ·rw [if_neg (by omega)]
  refine ACalls.of_body Try.func29 (by kernel_rfl) rfl (by kernel_rfl) (by simp [Try.ntmps29]) (by simp) ?_
  rw [Try.ntmps29]
  repeat' first | ((first | refine aops_end (hK _ ?_) | refine aopsF_end (hK _ ?_)); clear hK K) | ((first | refine aops_go ?_ | refine aopsF_go ?_ | refine wpcall_pure rfl (b2) ?_ | refine wpcall_pure rfl (b3) ?_); simp [h]; (try (refine gen2 ?_ ?_ <;> intro hq <;> try simp [h] at hq))) | (refine T.ret (Done.tup (Or.inr rfl) ?_) <;> simp [resAs, Try.results29] <;> omega) | refine T.rdF (id := 10) mixed (fun _ => false) [2, 3] [1] 3 [2] (by kernel_rfl) fun K hK => ?_ | refine T.r0 fun K hK => ?_ | refine T.ct rfl ?_ | refine T.cf rfl ?_ | refine T.seq ?_ | refine T.block ?_ | refine T.skip ?_
 ·rw [if_neg (by omega)]
  refine ACalls.of_body Try.func29 (by kernel_rfl) rfl (by kernel_rfl) (by simp [Try.ntmps29]) (by simp) ?_
  rw [Try.ntmps29]
  repeat' first | ((first | refine aops_end (hK _ ?_) | refine aopsF_end (hK _ ?_)); clear hK K) | ((first | refine aops_go ?_ | refine aopsF_go ?_ | refine wpcall_pure rfl (b2) ?_ | refine wpcall_pure rfl (b3) ?_); simp [h]; (try (refine gen2 ?_ ?_ <;> intro hq <;> try simp [h] at hq))) | (refine T.ret (Done.tup (Or.inr rfl) ?_) <;> simp [resAs, Try.results29] <;> omega) | refine T.rdF (id := 10) mixed (fun _ => false) [2, 3] [1] 3 [2] (by kernel_rfl) fun K hK => ?_ | refine T.r0 fun K hK => ?_ | refine T.r1 fun K hK => ?_ | refine T.ct rfl ?_ | refine T.cf rfl ?_ | refine T.seq ?_ | refine T.block ?_

theorem node_pair (ls B : List IT) (e : MTm) (x y : IT) (h : e.kind = 10) : ACalls Try.prog 29 [aSt B ls, aTm e, .l [eIT x, eIT y]] [] (.tup [aSt B ls, aIT (.p 5 x y), .b true]) [] [] := by
 have b2 := l15Base_ok 2
 have b3 := l15Base_ok 3
 have tw := l15Two_ok 5 x y
 refine ACalls.of_body Try.func29 (by kernel_rfl) rfl (by kernel_rfl) (by simp [Try.ntmps29]) (by simp) ?_
 rw [Try.ntmps29]
 repeat' first | ((first | refine aops_end (hK _ ?_) | refine aopsD_end (hK _ ?_)); clear hK K) | ((first | refine aops_go ?_ | refine aopsD_go ?_ | refine wpcall_pure rfl (b2) ?_ | refine wpcall_pure rfl (b3) ?_ | (refine wpcall_pure ?_ (tw) ?_; (focus (solve | simp [h, eIT_def x, eIT_def y])))); simp [h, eIT_def x, eIT_def y]; (try (refine gen2 ?_ ?_ <;> intro hq <;> try simp [h, eIT_def x, eIT_def y] at hq))) | (refine T.ret (Done.tup (Or.inr rfl) ?_) <;> simp [resAs, Try.results29, eIT_def x, eIT_def y] <;> omega) | refine T.rd (id := 12) mixed (fun _ => false) [8, 9] (by kernel_rfl) fun K hK => ?_ | refine T.r0 fun K hK => ?_ | refine T.r1 fun K hK => ?_ | refine T.ct rfl ?_ | refine T.cf rfl ?_ | refine T.seq ?_ | refine T.block ?_

theorem node_op (ls B B1 B2 : List IT) (e : MTm) (x y : IT) (q1 q2 : Bool) (h : e.kind = 7 \/ e.kind = 8) (g1 : ACalls Try.prog 44 [aSt B ls, aIT x, aIT (.b 2)] [] (.tup [aSt B1 ls, .b q1]) [] []) (g2 : q1 = true -> ACalls Try.prog 44 [aSt B1 ls, aIT y, aIT (.b 2)] [] (.tup [aSt B2 ls, .b q2]) [] []) :
  ACalls Try.prog 29 [aSt B ls, aTm e, .l [eIT x, eIT y]] [] (.tup [aSt (if q1 then B2 else B1) ls, aIT (.b (if e.kind = 8 then 3 else 2)), .b (q1 && q2)]) [] [] := by
 have b2 := l15Base_ok 2
 have b3 := l15Base_ok 3
 cases q1 with
 | false =>
  clear g2
  simp only [Bool.false_eq_true, if_false, Bool.false_and]
  rcases h with h | h
  ·rw [if_neg (by omega)]
   refine ACalls.of_body Try.func29 (by kernel_rfl) rfl (by kernel_rfl) (by simp [Try.ntmps29]) (by simp) ?_
   rw [Try.ntmps29]
   repeat' first | ((first | refine aops_end (hK _ ?_) | refine aopsD_end (hK _ ?_) | refine aopsF_end (hK _ ?_)); clear hK K) | ((first | refine aops_go ?_ | refine aopsD_go ?_ | refine aopsF_go ?_ | refine wpcall_pure rfl (b2) ?_ | refine wpcall_pure rfl (b3) ?_ | (refine wpcall_pure ?_ (g1) ?_; (focus (solve | simp [h, eIT_def x, eIT_def y])))); simp [h, eIT_def x, eIT_def y]; (try (refine gen2 ?_ ?_ <;> intro hq <;> try simp [h, eIT_def x, eIT_def y] at hq))) | (refine T.ret (Done.tup (Or.inr rfl) ?_) <;> simp [resAs, Try.results29] <;> omega) | refine T.rd (id := 15) mixed (fun _ => false) [9] (by kernel_rfl) fun K hK => ?_ | refine T.rdF (id := 20) mixed (fun _ => false) [6, 7] [1] 7 [2] (by kernel_rfl) fun K hK => ?_ | refine T.r0 fun K hK => ?_ | refine T.r1 fun K hK => ?_ | refine T.ct rfl ?_ | refine T.cf rfl ?_ | refine T.seq ?_ | refine T.block ?_ | refine T.skip ?_
  ·rw [if_pos h]
   refine ACalls.of_body Try.func29 (by kernel_rfl) rfl (by kernel_rfl) (by simp [Try.ntmps29]) (by simp) ?_
   rw [Try.ntmps29]
   repeat' first | ((first | refine aops_end (hK _ ?_) | refine aopsD_end (hK _ ?_) | refine aopsF_end (hK _ ?_)); clear hK K) | ((first | refine aops_go ?_ | refine aopsD_go ?_ | refine aopsF_go ?_ | refine wpcall_pure rfl (b2) ?_ | refine wpcall_pure rfl (b3) ?_ | (refine wpcall_pure ?_ (g1) ?_; (focus (solve | simp [h, eIT_def x, eIT_def y])))); simp [h, eIT_def x, eIT_def y]; (try (refine gen2 ?_ ?_ <;> intro hq <;> try simp [h, eIT_def x, eIT_def y] at hq))) | (refine T.ret (Done.tup (Or.inr rfl) ?_) <;> simp [resAs, Try.results29] <;> omega) | refine T.rd (id := 15) mixed (fun _ => false) [9] (by kernel_rfl) fun K hK => ?_ | refine T.rdF (id := 19) mixed (fun _ => false) [6, 7] [1] 7 [2] (by kernel_rfl) fun K hK => ?_ | refine T.r0 fun K hK => ?_ | refine T.r1 fun K hK => ?_ | refine T.ct rfl ?_ | refine T.cf rfl ?_ | refine T.seq ?_ | refine T.block ?_ | refine T.skip ?_
 | true =>
  have g2 := g2 rfl
  simp only [if_true, Bool.true_and]
  rcases h with h | h
  ·rw [if_neg (by omega)]
   cases q2
   ·refine ACalls.of_body Try.func29 (by kernel_rfl) rfl (by kernel_rfl) (by simp [Try.ntmps29]) (by simp) ?_
    rw [Try.ntmps29]
    repeat' first | ((first | refine aops_end (hK _ ?_) | refine aopsD_end (hK _ ?_) | refine aopsF_end (hK _ ?_)); clear hK K) | ((first | refine aops_go ?_ | refine aopsD_go ?_ | refine aopsF_go ?_ | refine wpcall_pure rfl (b2) ?_ | refine wpcall_pure rfl (b3) ?_ | (refine wpcall_pure ?_ (g1) ?_; (focus (solve | simp [h, eIT_def x, eIT_def y]))) | (refine wpcall_pure ?_ (g2) ?_; (focus (solve | simp [h, eIT_def x, eIT_def y])))); simp [h, eIT_def x, eIT_def y]; (try (refine gen2 ?_ ?_ <;> intro hq <;> try simp [h, eIT_def x, eIT_def y] at hq))) | (refine T.ret (Done.tup (Or.inr rfl) ?_) <;> simp [resAs, Try.results29] <;> omega) | refine T.rd (id := 15) mixed (fun _ => false) [9] (by kernel_rfl) fun K hK => ?_ | refine T.rd1 (id := 17) mixed (fun _ => false) [9] (by kernel_rfl) fun K hK => ?_ | refine T.rdF (id := 20) mixed (fun _ => false) [6, 7] [1] 7 [2] (by kernel_rfl) fun K hK => ?_ | refine T.r0 fun K hK => ?_ | refine T.r1 fun K hK => ?_ | refine T.ct rfl ?_ | refine T.cf rfl ?_ | refine T.seq ?_ | refine T.block ?_ | refine T.skip ?_
   ·refine ACalls.of_body Try.func29 (by kernel_rfl) rfl (by kernel_rfl) (by simp [Try.ntmps29]) (by simp) ?_
    rw [Try.ntmps29]
    repeat' first | ((first | refine aops_end (hK _ ?_) | refine aopsD_end (hK _ ?_) | refine aopsF_end (hK _ ?_)); clear hK K) | ((first | refine aops_go ?_ | refine aopsD_go ?_ | refine aopsF_go ?_ | refine wpcall_pure rfl (b2) ?_ | refine wpcall_pure rfl (b3) ?_ | (refine wpcall_pure ?_ (g1) ?_; (focus (solve | simp [h, eIT_def x, eIT_def y]))) | (refine wpcall_pure ?_ (g2) ?_; (focus (solve | simp [h, eIT_def x, eIT_def y])))); simp [h, eIT_def x, eIT_def y]; (try (refine gen2 ?_ ?_ <;> intro hq <;> try simp [h, eIT_def x, eIT_def y] at hq))) | (refine T.ret (Done.tup (Or.inr rfl) ?_) <;> simp [resAs, Try.results29] <;> omega) | refine T.rd (id := 15) mixed (fun _ => false) [9] (by kernel_rfl) fun K hK => ?_ | refine T.rd1 (id := 17) mixed (fun _ => false) [9] (by kernel_rfl) fun K hK => ?_ | refine T.rdF (id := 20) mixed (fun _ => false) [6, 7] [1] 7 [2] (by kernel_rfl) fun K hK => ?_ | refine T.r0 fun K hK => ?_ | refine T.r1 fun K hK => ?_ | refine T.ct rfl ?_ | refine T.cf rfl ?_ | refine T.seq ?_ | refine T.block ?_ | refine T.skip ?_
  ·rw [if_pos h]
   cases q2
   ·refine ACalls.of_body Try.func29 (by kernel_rfl) rfl (by kernel_rfl) (by simp [Try.ntmps29]) (by simp) ?_
    rw [Try.ntmps29]
    repeat' first | ((first | refine aops_end (hK _ ?_) | refine aopsD_end (hK _ ?_) | refine aopsF_end (hK _ ?_)); clear hK K) | ((first | refine aops_go ?_ | refine aopsD_go ?_ | refine aopsF_go ?_ | refine wpcall_pure rfl (b2) ?_ | refine wpcall_pure rfl (b3) ?_ | (refine wpcall_pure ?_ (g1) ?_; (focus (solve | simp [h, eIT_def x, eIT_def y]))) | (refine wpcall_pure ?_ (g2) ?_; (focus (solve | simp [h, eIT_def x, eIT_def y])))); simp [h, eIT_def x, eIT_def y]; (try (refine gen2 ?_ ?_ <;> intro hq <;> try simp [h, eIT_def x, eIT_def y] at hq))) | (refine T.ret (Done.tup (Or.inr rfl) ?_) <;> simp [resAs, Try.results29] <;> omega) | refine T.rd (id := 15) mixed (fun _ => false) [9] (by kernel_rfl) fun K hK => ?_ | refine T.rd1 (id := 17) mixed (fun _ => false) [9] (by kernel_rfl) fun K hK => ?_ | refine T.rdF (id := 19) mixed (fun _ => false) [6, 7] [1] 7 [2] (by kernel_rfl) fun K hK => ?_ | refine T.r0 fun K hK => ?_ | refine T.r1 fun K hK => ?_ | refine T.ct rfl ?_ | refine T.cf rfl ?_ | refine T.seq ?_ | refine T.block ?_
   ·refine ACalls.of_body Try.func29 (by kernel_rfl) rfl (by kernel_rfl) (by simp [Try.ntmps29]) (by simp) ?_
    rw [Try.ntmps29]
    repeat' first | ((first | refine aops_end (hK _ ?_) | refine aopsD_end (hK _ ?_) | refine aopsF_end (hK _ ?_)); clear hK K) | ((first | refine aops_go ?_ | refine aopsD_go ?_ | refine aopsF_go ?_ | refine wpcall_pure rfl (b2) ?_ | refine wpcall_pure rfl (b3) ?_ | (refine wpcall_pure ?_ (g1) ?_; (focus (solve | simp [h, eIT_def x, eIT_def y]))) | (refine wpcall_pure ?_ (g2) ?_; (focus (solve | simp [h, eIT_def x, eIT_def y])))); simp [h, eIT_def x, eIT_def y]; (try (refine gen2 ?_ ?_ <;> intro hq <;> try simp [h, eIT_def x, eIT_def y] at hq))) | (refine T.ret (Done.tup (Or.inr rfl) ?_) <;> simp [resAs, Try.results29] <;> omega) | refine T.rd (id := 15) mixed (fun _ => false) [9] (by kernel_rfl) fun K hK => ?_ | refine T.rd1 (id := 17) mixed (fun _ => false) [9] (by kernel_rfl) fun K hK => ?_ | refine T.rdF (id := 19) mixed (fun _ => false) [6, 7] [1] 7 [2] (by kernel_rfl) fun K hK => ?_ | refine T.r0 fun K hK => ?_ | refine T.r1 fun K hK => ?_ | refine T.ct rfl ?_ | refine T.cf rfl ?_ | refine T.seq ?_ | refine T.block ?_

theorem node_if (ls B B1 B2 : List IT) (e : MTm) (x y z : IT) (q1 q2 : Bool) (h : e.kind = 9) (g1 : ACalls Try.prog 44 [aSt B ls, aIT x, aIT (.b 3)] [] (.tup [aSt B1 ls, .b q1]) [] []) (g2 : q1 = true -> ACalls Try.prog 44 [aSt B1 ls, aIT y, aIT z] [] (.tup [aSt B2 ls, .b q2]) [] []) :
  ACalls Try.prog 29 [aSt B ls, aTm e, .l [eIT x, eIT y, eIT z]] [] (.tup [aSt (if q1 then B2 else B1) ls, aIT y, .b (q1 && q2)]) [] [] := by
 have b2 := l15Base_ok 2
 have b3 := l15Base_ok 3
 cases q1 with
 | false =>
  clear g2
  simp only [Bool.false_eq_true, if_false, Bool.false_and]
  refine ACalls.of_body Try.func29 (by kernel_rfl) rfl (by kernel_rfl) (by simp [Try.ntmps29]) (by simp) ?_
  rw [Try.ntmps29]
  repeat' first | ((first | refine aops_end (hK _ ?_) | refine aopsD_end (hK _ ?_) | refine aopsF_end (hK _ ?_)); clear hK K) | ((first | refine aops_go ?_ | refine aopsD_go ?_ | refine aopsF_go ?_ | refine wpcall_pure rfl (b2) ?_ | refine wpcall_pure rfl (b3) ?_ | (refine wpcall_pure ?_ (g1) ?_; (focus (solve | simp [h, eIT_def x, eIT_def y, eIT_def z])))); simp [h, eIT_def x, eIT_def y, eIT_def z]; (try (refine gen2 ?_ ?_ <;> intro hq <;> try simp [h, eIT_def x, eIT_def y, eIT_def z] at hq))) | (refine T.ret (Done.tup (Or.inr rfl) ?_) <;> simp [resAs, Try.results29] <;> omega) | refine T.rd (id := 22) mixed (fun _ => false) [9] (by kernel_rfl) fun K hK => ?_ | refine T.rdF (id := 25) mixed (fun _ => false) [8, 9] [2, 3] 9 [2] (by kernel_rfl) fun K hK => ?_ | refine T.r0 fun K hK => ?_ | refine T.r1 fun K hK => ?_ | refine T.ct rfl ?_ | refine T.cf rfl ?_ | refine T.seq ?_ | refine T.block ?_ | refine T.skip ?_
 | true =>
  have g2 := g2 rfl
  simp only [if_true, Bool.true_and]
  cases q2
  ·refine ACalls.of_body Try.func29 (by kernel_rfl) rfl (by kernel_rfl) (by simp [Try.ntmps29]) (by simp) ?_
   rw [Try.ntmps29]
   repeat' first | ((first | refine aops_end (hK _ ?_) | refine aopsD_end (hK _ ?_) | refine aopsF_end (hK _ ?_)); clear hK K) | ((first | refine aops_go ?_ | refine aopsD_go ?_ | refine aopsF_go ?_ | refine wpcall_pure rfl (b2) ?_ | refine wpcall_pure rfl (b3) ?_ | (refine wpcall_pure ?_ (g1) ?_; (focus (solve | simp [h, eIT_def x, eIT_def y, eIT_def z]))) | (refine wpcall_pure ?_ (g2) ?_; (focus (solve | simp [h, eIT_def x, eIT_def y, eIT_def z])))); simp [h, eIT_def x, eIT_def y, eIT_def z]; (try (refine gen2 ?_ ?_ <;> intro hq <;> try simp [h, eIT_def x, eIT_def y, eIT_def z] at hq))) | (refine T.ret (Done.tup (Or.inr rfl) ?_) <;> simp [resAs, Try.results29] <;> omega) | refine T.rd (id := 22) mixed (fun _ => false) [9] (by kernel_rfl) fun K hK => ?_ | refine T.rd1 (id := 24) mixed (fun _ => false) [11] (by kernel_rfl) fun K hK => ?_ | refine T.rdF (id := 25) mixed (fun _ => false) [8, 9] [2, 3] 9 [2] (by kernel_rfl) fun K hK => ?_ | refine T.r0 fun K hK => ?_ | refine T.r1 fun K hK => ?_ | refine T.ct rfl ?_ | refine T.cf rfl ?_ | refine T.seq ?_ | refine T.block ?_
  ·refine ACalls.of_body Try.func29 (by kernel_rfl) rfl (by kernel_rfl) (by simp [Try.ntmps29]) (by simp) ?_
   rw [Try.ntmps29]
   repeat' first | ((first | refine aops_end (hK _ ?_) | refine aopsD_end (hK _ ?_) | refine aopsF_end (hK _ ?_)); clear hK K) | ((first | refine aops_go ?_ | refine aopsD_go ?_ | refine aopsF_go ?_ | refine wpcall_pure rfl (b2) ?_ | refine wpcall_pure rfl (b3) ?_ | (refine wpcall_pure ?_ (g1) ?_; (focus (solve | simp [h, eIT_def x, eIT_def y, eIT_def z]))) | (refine wpcall_pure ?_ (g2) ?_; (focus (solve | simp [h, eIT_def x, eIT_def y, eIT_def z])))); simp [h, eIT_def x, eIT_def y, eIT_def z]; (try (refine gen2 ?_ ?_ <;> intro hq <;> try simp [h, eIT_def x, eIT_def y, eIT_def z] at hq))) | (refine T.ret (Done.tup (Or.inr rfl) ?_) <;> simp [resAs, Try.results29] <;> omega) | refine T.rd (id := 22) mixed (fun _ => false) [9] (by kernel_rfl) fun K hK => ?_ | refine T.rd1 (id := 24) mixed (fun _ => false) [11] (by kernel_rfl) fun K hK => ?_ | refine T.rdF (id := 25) mixed (fun _ => false) [8, 9] [2, 3] 9 [2] (by kernel_rfl) fun K hK => ?_ | refine T.r0 fun K hK => ?_ | refine T.r1 fun K hK => ?_ | refine T.ct rfl ?_ | refine T.cf rfl ?_ | refine T.seq ?_ | refine T.block ?_

theorem node_app (ls B B1 B2 B3 : List IT) (e : MTm) (x y : IT) (n m : Nat) (q : Bool) (h : e.kind = 6) (n1 : ACalls Try.prog 27 [aSt B ls] [] (.tup [aSt B1 ls, aIT (.v n)]) [] []) (n2 : ACalls Try.prog 27 [aSt B1 ls] [] (.tup [aSt B2 ls, aIT (.v m)]) [] [])
  (g1 : ACalls Try.prog 44 [aSt B2 ls, aIT x, aIT (.p 4 y (.v n))] [] (.tup [aSt B3 ls, .b q]) [] []) : ACalls Try.prog 29 [aSt B ls, aTm e, .l [eIT x, eIT y]] [] (.tup [aSt B3 ls, aIT (.v n), .b q]) [] [] := by
 have b2 := l15Base_ok 2
 have b3 := l15Base_ok 3
 have tw := l15Two_ok 4 y (.v n)
 cases q
 ·refine ACalls.of_body Try.func29 (by kernel_rfl) rfl (by kernel_rfl) (by simp [Try.ntmps29]) (by simp) ?_
  rw [Try.ntmps29]
  repeat' first | ((first | refine aops_end (hK _ ?_) | refine aopsD_end (hK _ ?_) | refine aopsF_end (hK _ ?_)); clear hK K) | ((first | refine aops_go ?_ | refine aopsD_go ?_ | refine aopsF_go ?_ | refine wpcall_pure rfl (b2) ?_ | refine wpcall_pure rfl (b3) ?_ | refine wpcall_pure rfl (n1) ?_ | refine wpcall_pure rfl (n2) ?_ | (refine wpcall_pure ?_ (tw) ?_; (focus (solve | simp [h, eIT_def x, eIT_def y]))) | (refine wpcall_pure ?_ (g1) ?_; (focus (solve | simp [h, eIT_def x, eIT_def y])))); simp [h, eIT_def x, eIT_def y]; (try (refine gen2 ?_ ?_ <;> intro hq <;> try simp [h, eIT_def x, eIT_def y] at hq))) | (refine T.ret (Done.tup (Or.inr rfl) ?_) <;> simp [resAs, Try.results29] <;> omega) | refine T.rd (id := 29) mixed (fun _ => false) [13] (by kernel_rfl) fun K hK => ?_ | refine T.rdF (id := 30) mixed (fun _ => false) [3, 4] [1] 4 [2] (by kernel_rfl) fun K hK => ?_ | refine T.r0 fun K hK => ?_ | refine T.r1 fun K hK => ?_ | refine T.ct rfl ?_ | refine T.cf rfl ?_ | refine T.seq ?_ | refine T.block ?_ | refine T.skip ?_
 ·refine ACalls.of_body Try.func29 (by kernel_rfl) rfl (by kernel_rfl) (by simp [Try.ntmps29]) (by simp) ?_
  rw [Try.ntmps29]
  repeat' first | ((first | refine aops_end (hK _ ?_) | refine aopsD_end (hK _ ?_) | refine aopsF_end (hK _ ?_)); clear hK K) | ((first | refine aops_go ?_ | refine aopsD_go ?_ | refine aopsF_go ?_ | refine wpcall_pure rfl (b2) ?_ | refine wpcall_pure rfl (b3) ?_ | refine wpcall_pure rfl (n1) ?_ | refine wpcall_pure rfl (n2) ?_ | (refine wpcall_pure ?_ (tw) ?_; (focus (solve | simp [h, eIT_def x, eIT_def y]))) | (refine wpcall_pure ?_ (g1) ?_; (focus (solve | simp [h, eIT_def x, eIT_def y])))); simp [h, eIT_def x, eIT_def y]; (try (refine gen2 ?_ ?_ <;> intro hq <;> try simp [h, eIT_def x, eIT_def y] at hq))) | (refine T.ret (Done.tup (Or.inr rfl) ?_) <;> simp [resAs, Try.results29] <;> omega) | refine T.rd (id := 29) mixed (fun _ => false) [13] (by kernel_rfl) fun K hK => ?_ | refine T.rdF (id := 30) mixed (fun _ => false) [3, 4] [1] 4 [2] (by kernel_rfl) fun K hK => ?_ | refine T.r0 fun K hK => ?_ | refine T.r1 fun K hK => ?_ | refine T.ct rfl ?_ | refine T.cf rfl ?_ | refine T.seq ?_ | refine T.block ?_ | refine T.skip ?_

theorem node_sel (ls B B1 B2 B3 : List IT) (e : MTm) (x : IT) (n m : Nat) (q : Bool) (h : e.kind = 11 \/ e.kind = 12) (n1 : ACalls Try.prog 27 [aSt B ls] [] (.tup [aSt B1 ls, aIT (.v n)]) [] []) (n2 : ACalls Try.prog 27 [aSt B1 ls] [] (.tup [aSt B2 ls, aIT (.v m)]) [] [])
  (g1 : ACalls Try.prog 44 [aSt B2 ls, aIT x, aIT (.p 5 (.v n) (.v m))] [] (.tup [aSt B3 ls, .b q]) [] []) : ACalls Try.prog 29 [aSt B ls, aTm e, .l [eIT x]] [] (.tup [aSt B3 ls, aIT (.v (if e.kind = 12 then m else n)), .b q]) [] [] := by
 have b2 := l15Base_ok 2
 have b3 := l15Base_ok 3
 have tw := l15Two_ok 5 (.v n) (.v m)
 rcases h with h | h
 ·rw [if_neg (by omega)]
  cases q
  ·refine ACalls.of_body Try.func29 (by kernel_rfl) rfl (by kernel_rfl) (by simp [Try.ntmps29]) (by simp) ?_
   rw [Try.ntmps29]
   repeat' first | ((first | refine aops_end (hK _ ?_) | refine aopsD_end (hK _ ?_) | refine aopsF_end (hK _ ?_)); clear hK K) | ((first | refine aops_go ?_ | refine aopsD_go ?_ | refine aopsF_go ?_ | refine wpcall_pure rfl (b2) ?_ | refine wpcall_pure rfl (b3) ?_ | refine wpcall_pure rfl (n1) ?_ | refine wpcall_pure rfl (n2) ?_ | (refine wpcall_pure ?_ (tw) ?_; (focus (solve | simp [h, eIT_def x]))) | (refine wpcall_pure ?_ (g1) ?_; (focus (solve | simp [h, eIT_def x])))); simp [h, eIT_def x]; (try (refine gen2 ?_ ?_ <;> intro hq <;> try simp [h, eIT_def x] at hq))) | (refine T.ret (Done.tup (Or.inr rfl) ?_) <;> simp [resAs, Try.results29] <;> omega) | refine T.rd (id := 31) mixed (fun _ => false) [11] (by kernel_rfl) fun K hK => ?_ | refine T.rdF (id := 34) mixed (fun _ => false) [3, 4] [1] 4 [2] (by kernel_rfl) fun K hK => ?_ | refine T.r0 fun K hK => ?_ | refine T.r1 fun K hK => ?_ | refine T.cf rfl ?_ | refine T.seq ?_ | refine T.block ?_ | refine T.skip ?_
  ·refine ACalls.of_body Try.func29 (by kernel_rfl) rfl (by kernel_rfl) (by simp [Try.ntmps29]) (by simp) ?_
   rw [Try.ntmps29]
   repeat' first | ((first | refine aops_end (hK _ ?_) | refine aopsD_end (hK _ ?_) | refine aopsF_end (hK _ ?_)); clear hK K) | ((first | refine aops_go ?_ | refine aopsD_go ?_ | refine aopsF_go ?_ | refine wpcall_pure rfl (b2) ?_ | refine wpcall_pure rfl (b3) ?_ | refine wpcall_pure rfl (n1) ?_ | refine wpcall_pure rfl (n2) ?_ | (refine wpcall_pure ?_ (tw) ?_; (focus (solve | simp [h, eIT_def x]))) | (refine wpcall_pure ?_ (g1) ?_; (focus (solve | simp [h, eIT_def x])))); simp [h, eIT_def x]; (try (refine gen2 ?_ ?_ <;> intro hq <;> try simp [h, eIT_def x] at hq))) | (refine T.ret (Done.tup (Or.inr rfl) ?_) <;> simp [resAs, Try.results29] <;> omega) | refine T.rd (id := 31) mixed (fun _ => false) [11] (by kernel_rfl) fun K hK => ?_ | refine T.rdF (id := 34) mixed (fun _ => false) [3, 4] [1] 4 [2] (by kernel_rfl) fun K hK => ?_ | refine T.r0 fun K hK => ?_ | refine T.r1 fun K hK => ?_ | refine T.cf rfl ?_ | refine T.seq ?_ | refine T.block ?_ | refine T.skip ?_
 ·rw [if_pos h]
  cases q
  ·refine ACalls.of_body Try.func29 (by kernel_rfl) rfl (by kernel_rfl) (by simp [Try.ntmps29]) (by simp) ?_
   rw [Try.ntmps29]
   repeat' first | ((first | refine aops_end (hK _ ?_) | refine aopsD_end (hK _ ?_) | refine aopsF_end (hK _ ?_)); clear hK K) | ((first | refine aops_go ?_ | refine aopsD_go ?_ | refine aopsF_go ?_ | refine wpcall_pure rfl (b2) ?_ | refine wpcall_pure rfl (b3) ?_ | refine wpcall_pure rfl (n1) ?_ | refine wpcall_pure rfl (n2) ?_ | (refine wpcall_pure ?_ (tw) ?_; (focus (solve | simp [h, eIT_def x]))) | (refine wpcall_pure ?_ (g1) ?_; (focus (solve | simp [h, eIT_def x])))); simp [h, eIT_def x]; (try (refine gen2 ?_ ?_ <;> intro hq <;> try simp [h, eIT_def x] at hq))) | (refine T.ret (Done.tup (Or.inr rfl) ?_) <;> simp [resAs, Try.results29] <;> omega) | refine T.rd (id := 31) mixed (fun _ => false) [11] (by kernel_rfl) fun K hK => ?_ | refine T.rdF (id := 33) mixed (fun _ => false) [3, 4] [1] 4 [2] (by kernel_rfl) fun K hK => ?_ | refine T.r0 fun K hK => ?_ | refine T.r1 fun K hK => ?_ | refine T.ct rfl ?_ | refine T.cf rfl ?_ | refine T.seq ?_ | refine T.block ?_ | refine T.skip ?_
  ·refine ACalls.of_body Try.func29 (by kernel_rfl) rfl (by kernel_rfl) (by simp [Try.ntmps29]) (by simp) ?_
   rw [Try.ntmps29]
   repeat' first | ((first | refine aops_end (hK _ ?_) | refine aopsD_end (hK _ ?_) | refine aopsF_end (hK _ ?_)); clear hK K) | ((first | refine aops_go ?_ | refine aopsD_go ?_ | refine aopsF_go ?_ | refine wpcall_pure rfl (b2) ?_ | refine wpcall_pure rfl (b3) ?_ | refine wpcall_pure rfl (n1) ?_ | refine wpcall_pure rfl (n2) ?_ | (refine wpcall_pure ?_ (tw) ?_; (focus (solve | simp [h, eIT_def x]))) | (refine wpcall_pure ?_ (g1) ?_; (focus (solve | simp [h, eIT_def x])))); simp [h, eIT_def x]; (try (refine gen2 ?_ ?_ <;> intro hq <;> try simp [h, eIT_def x] at hq))) | (refine T.ret (Done.tup (Or.inr rfl) ?_) <;> simp [resAs, Try.results29] <;> omega) | refine T.rd (id := 31) mixed (fun _ => false) [11] (by kernel_rfl) fun K hK => ?_ | refine T.rdF (id := 33) mixed (fun _ => false) [3, 4] [1] 4 [2] (by kernel_rfl) fun K hK => ?_ | refine T.r0 fun K hK => ?_ | refine T.r1 fun K hK => ?_ | refine T.ct rfl ?_ | refine T.cf rfl ?_ | refine T.seq ?_ | refine T.block ?_ | refine T.skip ?_
end Go.Proofs.Ytloolmchekcmeaa

namespace Go.Proofs.Ytloolmchekcmeaa
attribute [-simp] Go.Av.astepJ Go.Av.relC Go.Av.relL Go.Av.relV Go.Av.relVs Go.Av.callJ
open Go Go.Av
attribute [local irreducible] T ACalls TX EX LX Draws Some_ ACallsX eTy eTm MTy.kind MTy.kids MTm.kind MTm.name MTm.num MTm.ty MTm.fr MTm.label MTm.kids
attribute [local simp] eTy_def eTm_def
set_option maxHeartbeats 16000000
set_option maxRecDepth 8000
attribute [local simp] Option.bind
attribute [local irreducible] lastUp lastIx

theorem lastIx_unf (s : List UInt8) (c : UInt8) : lastIx s c = lastUp s c s.length := by unfold lastIx; rfl
theorem lastUp_zeroI (s : List UInt8) (c : UInt8) : lastUp s c 0 = -1 := by unfold lastUp; rfl
theorem lastUp_succI (s : List UInt8) (c : UInt8) (p : Nat) : lastUp s c (p + 1) = if s[p]? = some c then (p : Int) else lastUp s c p := by rw [lastUp]

theorem l14IndexI_ok (s : List UInt8) (c : UInt8) (hs : s.length <= 1099511627776) : ACalls Try.prog 26 [.s s, .s [c]] [] (.i (if 0 <= lastIx s c then s.length - 1 - lastIx s c else -1)) [] [] := by
 obtain ⟨R, hR⟩ : ∃ R, lastIx s c = R := ⟨_, rfl⟩
 rw [hR]
 rw [lastIx_unf] at hR
 refine ACalls.of_body Try.func26 (by kernel_rfl) rfl (by kernel_rfl) (by simp [Try.ntmps26]) (by simp) ?_
 rw [Try.ntmps26]
 repeat' first | ((first | refine aops_end (hK _ ?_) | refine aopsD_end (hK _ ?_) | refine aopsF_end (hK _ ?_)); clear hK K) | ((first | refine aops_go ?_ | refine aopsD_go ?_ | refine aopsF_go ?_); simp; (try simp (disch := omega) only [wrap64]); (try (refine gen2 ?_ ?_ <;> intro hq <;> try simp at hq))) | refine T.r0 fun K hK => ?_ | refine T.r1 fun K hK => ?_ | (refine ⟨by omega, ?_⟩) | refine T.ct rfl ?_ | refine T.cf rfl ?_ | refine T.seq ?_ | refine T.block ?_ | refine T.skip ?_ | refine T.exit ?_
 refine T.loopK (α := Nat) [0, 1] (fun p => [(4, .i 0), (5, .i ((p : Int) - 1))]) (fun _ => []) (fun _ => []) (fun _ A => A) (fun p => p) (fun p => p <= s.length /\ lastUp s c p = R) (by simp; rfl) (fun p hx => ?_) s.length ⟨by omega, hR⟩ (by simp) (by simp) (by simp (disch := omega) [wrap64])
 obtain ⟨hp, he⟩ := hx
 dsimp only
 simp only [ups, List.set_cons_zero, List.set_cons_succ, List.cons_append, List.nil_append]
 cases p with
 | zero =>
  rw [lastUp_zeroI] at he
  subst he
  repeat' first | ((first | refine aops_end (hK _ ?_) | refine aopsD_end (hK _ ?_) | refine aopsF_end (hK _ ?_)); clear hK K) | ((first | refine aops_go ?_ | refine aopsD_go ?_ | refine aopsF_go ?_); simp; (try simp (disch := omega) only [wrap64]); (try (refine gen2 ?_ ?_ <;> intro hq <;> try simp at hq))) | (refine T.ret (Done.data (Or.inr rfl) ?_ ?_) <;> simp [Try.results26] <;> omega) | refine T.r0 fun K hK => ?_ | refine T.r1 fun K hK => ?_ | (refine ⟨by omega, ?_⟩) | refine T.ct rfl ?_ | refine T.cf rfl ?_ | refine T.seq ?_ | refine T.block ?_ | refine T.skip ?_ | refine T.exit ?_
 | succ p =>
  have hlt : p < s.length := by omega
  have hsl := slice_one hlt
  obtain ⟨x, hx⟩ := get_lt hlt
  have hgt : s[p] = x := by rw [List.getElem?_eq_getElem hlt] at hx; exact Option.some.inj hx
  rw [hgt] at hsl
  rw [lastUp_succI, hx] at he
  have hge : (0 : Int) <= p := by omega
  have hpp : ((p + 1 : Nat) : Int) - 1 = p := by omega
  have hto : ((p : Int) + 1).toNat = p + 1 := by omega
  have hk1 : (p : Int) <= p + 1 := by omega
  have hk2 : (p : Int) + 1 <= s.length := by omega
  rw [hpp]
  by_cases hc : x = c
  ·subst hc
   rw [if_pos rfl] at he
   rw [<- he]
   repeat' first | ((first | refine aops_end (hK _ ?_) | refine aopsD_end (hK _ ?_) | refine aopsF_end (hK _ ?_)); clear hK K) | ((first | refine aops_go ?_ | refine aopsD_go ?_ | refine aopsF_go ?_); simp [hlt, hge, hto, hsl, hk2]; (try simp (disch := omega) only [wrap64]); (try (refine gen2 ?_ ?_ <;> intro hq <;> try simp [hlt, hge, hto, hsl, hk2] at hq))) | (refine T.ret (Done.data (Or.inr rfl) ?_ ?_) <;> simp [Try.results26, hge] <;> omega) | refine T.r0 fun K hK => ?_ | refine T.r1 fun K hK => ?_ | (refine ⟨by omega, ?_⟩) | refine T.ct rfl ?_ | refine T.cf rfl ?_ | refine T.seq ?_ | refine T.block ?_ | refine T.skip ?_ | refine T.exit ?_
  ·rw [if_neg (by simpa using hc)] at he
   repeat' first | ((first | refine aops_end (hK _ ?_) | refine aopsD_end (hK _ ?_) | refine aopsF_end (hK _ ?_)); clear hK K) | ((first | refine aops_go ?_ | refine aopsD_go ?_ | refine aopsF_go ?_); simp [hlt, hge, hto, hsl, hk2, hc]; (try simp (disch := omega) only [wrap64]); (try (refine gen2 ?_ ?_ <;> intro hq <;> try simp [hlt, hge, hto, hsl, hk2, hc] at hq))) | (refine ⟨p, by dsimp only; omega, ⟨by omega, he⟩, ?_⟩; simp (disch := omega) [wrap64]) | refine T.r0 fun K hK => ?_ | refine T.r1 fun K hK => ?_ | (refine ⟨by omega, ?_⟩) | refine T.ct rfl ?_ | refine T.cf rfl ?_ | refine T.seq ?_ | refine T.block ?_ | refine T.skip ?_ | refine T.exit ?_

theorem l15Node_ok (ls : List IT) (k : Nat) (e : MTm) (B ts : List IT) (r : Option (List IT × IT)) (hO : OkB B) (hKd : KdB B) (hB : B.length <= 1000000) (hsc : ∀ u ∈ ts, sc B.length u = true) (hkd : ∀ u ∈ ts, kdI u)
  (hsh : ((e.kind = 2 \/ e.kind = 3 \/ e.kind = 4) /\ ts = []) \/ ((e.kind = 11 \/ e.kind = 12) /\ ts.length = 1) \/ ((e.kind = 6 \/ e.kind = 7 \/ e.kind = 8 \/ e.kind = 10) /\ ts.length = 2) \/ (e.kind = 9 /\ ts.length = 3)) (h : infN k e.kind B ts = some r) : NodeC ls B e ts r := by
 have uc : ∀ {B2 : List IT} {a b : IT} {B3 : List IT} {q : Bool}, OkB B2 -> KdB B2 -> B2.length <= 1048576 -> sc B2.length a = true -> sc B2.length b = true -> kdI a -> kdI b -> uni k B2 a b = some (B3, q) -> ACalls Try.prog 44 [aSt B2 ls, aIT a, aIT b] [] (.tup [aSt B3 ls, .b q]) [] [] :=
  fun h1 h2 h3 h4 h5 h6 h7 h8 => l15Unify_ok ls k _ _ _ _ _ h1.sc h2 h3 h4 h5 h6 h7 h8
 have ubOk : ∀ {B2 : List IT} {a b : IT} {B3 : List IT}, OkB B2 -> sc B2.length a = true -> sc B2.length b = true -> uni k B2 a b = some (B3, true) -> OkB B3 /\ B3.length = B2.length := fun h1 h2 h3 h4 => uniQ_ok (k := k) h1 h2 h3 (by simp [uniQ, h4])
 have two : ∀ (g : ∀ B1 B2 : List IT, ACalls Try.prog 27 [aSt B ls] [] (.tup [aSt B1 ls, aIT (.v B.length)]) [] [] -> ACalls Try.prog 27 [aSt B1 ls] [] (.tup [aSt B2 ls, aIT (.v (B.length + 1))]) [] [] -> B2 = B ++ [.v B.length, .v (B.length + 1)] -> OkB B2 -> KdB B2 -> B2.length = B.length + 2 -> NodeC ls B e ts r), NodeC ls B e ts r := by
  intro g
  have n1 := l15New_ok B ls (by omega)
  have n2 := l15New_ok (B ++ [.v B.length]) ls (by simp; omega)
  rw [show (B ++ [IT.v B.length]).length = B.length + 1 by simp] at n2
  refine g _ _ n1 n2 (by simp) ?_ ?_ (by simp)
  ·rw [show B ++ [IT.v B.length] ++ [IT.v (B.length + 1)] = B ++ [.v B.length, .v (B.length + 1)] by simp]
   exact ⟨(NewV.two B).sc hO.sc, (NewV.two B).acy hO.sc hO.acy⟩
  ·refine (hKd.app ?_).app ?_ <;> intro u hu <;> simp at hu <;> subst hu <;> trivial
 rcases hsh with ⟨hk, rfl⟩ | ⟨hk, hl⟩ | ⟨hk, hl⟩ | ⟨hk, hl⟩
 ·have hr : r = some (B, .b (if e.kind = 2 then 2 else 3)) := by
   rcases hk with h2 | h2 | h2 <;> rw [h2] at h ⊢ <;> simp [infN] at h <;> exact h.symm
  subst hr
  exact ⟨B, _, true, node_leaf ls B e hk, rfl, rfl, rfl⟩
 ·obtain ⟨x, rfl⟩ := List.length_eq_one_iff.1 hl
  refine two fun B1 B2 n1 n2 e2 o2 k2 l2 => ?_
  have h5 : ¬ e.kind = 2 := by omega
  have h6 : ¬ (e.kind = 3 \/ e.kind = 4) := by omega
  simp only [infN, if_neg h5, if_neg h6, if_pos hk, Option.map_eq_some_iff] at h
  obtain ⟨w, h, hr⟩ := h
  rw [<- e2] at h
  obtain ⟨B3, q, hu, hw⟩ := uniQ_cases h
  have sx := sc_le (show B.length <= B2.length by omega) (hsc x (by simp))
  have g := uc o2 k2 (by omega) sx (show sc B2.length (.p 5 (.v B.length) (.v (B.length + 1))) = true by simp [sc]; omega) (hkd x (by simp)) (by simp [kdI]) hu
  refine ⟨B3, _, q, node_sel ls B B1 B2 B3 e x _ _ q hk n1 n2 g, ?_⟩
  rcases hw with ⟨rfl, rfl⟩ | ⟨rfl, rfl⟩
  ·simp at hr; subst hr; exact ⟨rfl, rfl, rfl⟩
  ·simp at hr; subst hr; rfl
 ·obtain ⟨x, y, rfl⟩ := len2 hl
  have h5 : ¬ e.kind = 2 := by omega
  have h6 : ¬ (e.kind = 3 \/ e.kind = 4) := by omega
  have sx := hsc x (by simp)
  have sy := hsc y (by simp)
  have kx := hkd x (by simp)
  have ky := hkd y (by simp)
  by_cases h10 : e.kind = 10
  ·simp [infN, h10] at h
   subst h
   exact ⟨B, _, true, node_pair ls B e x y h10, rfl, rfl, rfl⟩
  by_cases h60 : e.kind = 6
  ·refine two fun B1 B2 n1 n2 e2 o2 k2 l2 => ?_
   simp only [infN, if_neg h5, if_neg h6, if_neg h10, if_pos h60, Option.map_eq_some_iff] at h
   obtain ⟨w, h, hr⟩ := h
   rw [<- e2] at h
   obtain ⟨B3, q, hu, hw⟩ := uniQ_cases h
   have sx2 := sc_le (show B.length <= B2.length by omega) sx
   have sy2 := sc_le (show B.length <= B2.length by omega) sy
   have g := uc o2 k2 (by omega) sx2 (show sc B2.length (.p 4 y (.v B.length)) = true by simp [sc, sy2]; omega) kx (by simp [kdI, ky]) hu
   refine ⟨B3, _, q, node_app ls B B1 B2 B3 e x y _ _ q h60 n1 n2 g, ?_⟩
   rcases hw with ⟨rfl, rfl⟩ | ⟨rfl, rfl⟩
   ·simp at hr; subst hr; exact ⟨rfl, rfl, rfl⟩
   ·simp at hr; subst hr; rfl
  ·have h78 : e.kind = 7 \/ e.kind = 8 := by omega
   simp only [infN, if_neg h5, if_neg h6, if_neg h10, if_neg h60, if_pos h78] at h
   obtain ⟨w, hw0⟩ : ∃ w, uniQ k B x (.b 2) = w := ⟨_, rfl⟩
   rw [hw0] at h
   cases w with
   | none => simp at h
   | some w =>
    obtain ⟨B1, q1, hu1, hw1⟩ := uniQ_cases hw0
    have g1 := uc hO hKd (by omega) sx (show sc B.length (.b 2) = true from rfl) kx (by simp [kdI]) hu1
    rcases hw1 with ⟨rfl, rfl⟩ | ⟨rfl, rfl⟩
    ·simp only [Option.map_eq_some_iff] at h
     obtain ⟨w2, h, hr⟩ := h
     obtain ⟨B2, q2, hu2, hw2⟩ := uniQ_cases h
     obtain ⟨o1, l1⟩ := ubOk hO sx (show sc B.length (.b 2) = true from rfl) hu1
     have k1 := uni_kd hKd kx (show kdI (.b 2) by simp [kdI]) hu1
     have g2 := uc o1 k1 (by omega) (by rw [l1]; exact sy) (show sc B1.length (.b 2) = true from rfl) ky (show kdI (.b 2) by simp [kdI]) hu2
     refine ⟨_, _, _, node_op ls B B1 B2 e x y true q2 h78 g1 (fun _ => g2), ?_⟩
     rcases hw2 with ⟨rfl, rfl⟩ | ⟨rfl, rfl⟩
     ·simp at hr; subst hr; exact ⟨rfl, rfl, rfl⟩
     ·simp at hr; subst hr; rfl
    ·simp at h
     subst h
     exact ⟨_, _, _, node_op ls B B1 B1 e x y false false h78 g1 (fun e => by cases e), rfl⟩
 ·obtain ⟨x, y, z, rfl⟩ := len3 hl
  have h5 : ¬ e.kind = 2 := by omega
  have h6 : ¬ (e.kind = 3 \/ e.kind = 4) := by omega
  simp only [infN, if_neg h5, if_neg h6, if_pos hk] at h
  obtain ⟨w, hw0⟩ : ∃ w, uniQ k B x (.b 3) = w := ⟨_, rfl⟩
  rw [hw0] at h
  cases w with
  | none => simp at h
  | some w =>
   obtain ⟨B1, q1, hu1, hw1⟩ := uniQ_cases hw0
   have g1 := uc hO hKd (by omega) (hsc x (by simp)) (show sc B.length (.b 3) = true from rfl) (hkd x (by simp)) (by simp [kdI]) hu1
   rcases hw1 with ⟨rfl, rfl⟩ | ⟨rfl, rfl⟩
   ·simp only [Option.map_eq_some_iff] at h
    obtain ⟨w2, h, hr⟩ := h
    obtain ⟨B2, q2, hu2, hw2⟩ := uniQ_cases h
    obtain ⟨o1, l1⟩ := ubOk hO (hsc x (by simp)) (show sc B.length (.b 3) = true from rfl) hu1
    have k1 := uni_kd hKd (hkd x (by simp)) (show kdI (.b 3) by simp [kdI]) hu1
    have g2 := uc o1 k1 (by omega) (by rw [l1]; exact hsc y (by simp)) (by rw [l1]; exact hsc z (by simp)) (hkd y (by simp)) (hkd z (by simp)) hu2
    refine ⟨_, _, _, node_if ls B B1 B2 e x y z true q2 hk g1 (fun _ => g2), ?_⟩
    rcases hw2 with ⟨rfl, rfl⟩ | ⟨rfl, rfl⟩
    ·simp at hr; subst hr; exact ⟨rfl, rfl, rfl⟩
    ·simp at hr; subst hr; rfl
   ·simp at h
    subst h
    exact ⟨_, _, _, node_if ls B B1 B1 e x y z false false hk g1 (fun e => by cases e), rfl⟩
end Go.Proofs.Ytloolmchekcmeaa

namespace Go.Proofs.Ytloolmchekcmeaa
attribute [-simp] Go.Av.astepJ Go.Av.relC Go.Av.relL Go.Av.relV Go.Av.relVs Go.Av.callJ
open Go Go.Av
attribute [local irreducible] T ACalls TX EX LX Draws Some_ ACallsX eTy eTm MTy.kind MTy.kids MTm.kind MTm.name MTm.num MTm.ty MTm.fr MTm.label MTm.kids
attribute [local simp] eTy_def eTm_def
set_option maxHeartbeats 16000000
set_option maxRecDepth 8000
attribute [local simp] Option.bind
attribute [local irreducible] lastUp lastIx

def ansI (x : List IT × List IT × IT × Bool) : Option (List IT × List IT × IT) -> Prop
 | some r => x.1 = r.1 /\ x.2.1 = r.2.1 /\ x.2.2.1 = r.2.2 /\ x.2.2.2 = true
 | none => x.2.2.2 = false
abbrev InfA (ns : List UInt8) (ts : List IT) (e : MTm) (B ls : List IT) (x : List IT × List IT × IT × Bool) : Prop :=
 ACalls Try.prog 12 [aSt B ls, .s ns, .l (ts.map eIT), aTm e] [] (.tup [aSt x.1 x.2.1, aIT x.2.2.1, .b x.2.2.2]) [] []
def InfP (k : Nat) (ns : List UInt8) (ts : List IT) (e : MTm) (B ls : List IT) (x : List IT × List IT × IT × Bool) : Prop :=
 InfA ns ts e B ls x /\ ∃ r, inf k e B ls ns ts = some r /\ ansI x r
structure CondI (ns : List UInt8) (ts : List IT) (B ls : List IT) (n t : Nat) : Prop where
 ok : OkB B
 kd : KdB B
 kls : KdB ls
 ctx : CtxI B ns ts
 len : B.length + 2 * n <= 1000000
 lln : ls.length + t <= 1000000
theorem CondI.next {k : Nat} {ns : List UInt8} {ts B ls B' ls' : List IT} {t : IT} {u : MTm} {n m : Nat} (he : Ba u) (hts : KdB ts) (h : CondI ns ts B ls (nodesM u + n) ((typesM u).length + m)) (hi : inf k u B ls ns ts = some (some (B', ls', t))) : CondI ns ts B' ls' n m /\ B.length <= B'.length /\ sc B'.length t = true /\ kdI t := by
 have h1 := inf_ok he h.ok h.ctx hi
 obtain ⟨h2, h3, h4⟩ := inf_kd he h.kd h.kls hts hi
 obtain ⟨new, h5, h6, _⟩ := h1.lams
 have := h.len
 have := h.lln
 have := h1.len
 exact ⟨⟨h1.ok, h2, h3, h.ctx.le h1.le, by omega, by rw [h5, List.length_append, h6]; omega⟩, h1.le, h1.sct, h4⟩

def foldX (X : MTm -> List IT -> List IT -> List IT × List IT × IT × Bool) (N : List IT -> List IT -> List IT -> List IT × List IT × IT × Bool) : List MTm -> List IT -> List IT -> List IT -> List IT × List IT × IT × Bool
 | [], C, l, us => N C l us
 | u :: r, C, l, us => if (X u C l).2.2.2 = true then foldX X N r (X u C l).1 (X u C l).2.1 (us ++ [(X u C l).2.2.1]) else X u C l
def restI (k : Nat) (ns : List UInt8) (ts : List IT) (L : List MTm) (C l us : List IT) : Option (Option (List IT × List IT × List IT)) := match infS k L C l ns ts with
 | some (some r) => some (some (r.1, r.2.1, us ++ r.2.2))
 | none => none
 | some none => some none
theorem restI_cons {k : Nat} {ns : List UInt8} {ts : List IT} {u : MTm} {L : List MTm} {C l us : List IT} : restI k ns ts (u :: L) C l us = match inf k u C l ns ts with
  | some (some r) => restI k ns ts L r.1 r.2.1 (us ++ [r.2.2])
  | none => none
  | some none => some none := by
 simp only [restI, infS]
 cases h : inf k u C l ns ts with
 | none => rfl
 | some o =>
  cases o with
  | none => rfl
  | some r =>
   obtain ⟨a, b, c⟩ := r
   simp only
   cases h2 : infS k L a b ns ts with
   | none => rfl
   | some o2 =>
    cases o2 with
    | none => rfl
    | some r2 => obtain ⟨d, e, f⟩ := r2; simp

structure LoopI (k : Nat) (ns : List UInt8) (ts : List IT) (e : MTm) (L : List MTm) (X : MTm -> List IT -> List IT -> List IT × List IT × IT × Bool) (N : List IT -> List IT -> List IT -> List IT × List IT × IT × Bool) (OUT : List IT × List IT × IT × Bool) (R : Option (List IT × List IT × List IT)) (p : Nat) (C l us : List IT) : Prop where
 le : p <= L.length
 ul : us.length = p
 cond : CondI ns ts C l (nodesS (L.drop p) + 1) (typesS (L.drop p)).length
 scs : ∀ u ∈ us, sc C.length u = true /\ kdI u
 out : foldX X N (L.drop p) C l us = OUT
 res : restI k ns ts (L.drop p) C l us = some R

set_option maxHeartbeats 1000000 in
theorem infer_walk (k : Nat) (ns : List UInt8) (ts : List IT) (e : MTm) (L : List MTm) (hL : e.kids = L) (hl3 : L.length <= 3) (h1 : e.kind ≠ 1) (h5 : e.kind ≠ 5) (hts : KdB ts) (hBa : ∀ u ∈ L, Ba u) (X : MTm -> List IT -> List IT -> List IT × List IT × IT × Bool) (N : List IT -> List IT -> List IT -> List IT × List IT × IT × Bool) (B ls : List IT)
  (hX : ∀ u ∈ L, ∀ C l n m, CondI ns ts C l (nodesM u + n) ((typesM u).length + m) -> (∃ r, inf k u C l ns ts = some r) -> InfP k ns ts u C l (X u C l)) (R : Option (List IT × List IT × List IT))
  (hN : ∀ C l us, CondI ns ts C l 1 0 -> us.length = L.length -> (∀ u ∈ us, sc C.length u = true /\ kdI u) -> R = some (C, l, us) -> ACalls Try.prog 29 [aSt C l, aTm e, .l (us.map eIT)] [] (.tup [aSt (N C l us).1 (N C l us).2.1, aIT (N C l us).2.2.1, .b (N C l us).2.2.2]) [] [])
  (hI : LoopI k ns ts e L X N (foldX X N L B ls []) R 0 B ls []) : InfA ns ts e B ls (foldX X N L B ls []) := by
 generalize foldX X N L B ls [] = OUT at *
 obtain ⟨O1, O2, O3, O4⟩ := OUT
 rw [InfA]
 dsimp only
 have heK : e.kids.length = L.length := by rw [hL]
 refine ACalls.of_body Try.func12 (by kernel_rfl) rfl (by kernel_rfl) (by simp [Try.ntmps12]) (by simp) ?_
 rw [Try.ntmps12]
 repeat' first | (refine aops_end (hK _ ?_); clear hK K) | (refine aops_go ?_; simp [h1, h5]; (try (refine gen2 ?_ ?_ <;> intro hq <;> try simp [h1, h5] at hq))) | refine T.rs (id := 11) (fun i => i == 0) fun K hK => ?_ | refine T.rs (id := 0) (fun _ => false) fun K hK => ?_ | refine T.rs (id := 1) (fun _ => false) fun K hK => ?_ | refine T.rs (id := 6) (fun _ => false) fun K hK => ?_ | refine T.rs (id := 12) (fun _ => false) fun K hK => ?_ | refine T.cf rfl ?_ | refine T.seq ?_ | refine T.block ?_ | refine T.skip ?_
 refine T.loopK (α := Nat × List IT × List IT × List IT × List (List CV)) [1, 2, 4, 7, 8, 9] (fun x => [(10, .b false), (16, .c (.own 0 x.1)), (17, .i x.1)]) (fun x => [(0, [.d (.sl (x.2.1.map eIT)), .d (.sl (x.2.2.1.map eIT))])]) (fun x => x.2.2.2.2) (fun x _ => [{ sz := 3, ety := 47, rows := x.2.2.2.1.map eIT, wr := true }]) (fun x => L.length + 1 - x.1) (fun x => LoopI k ns ts e L X N (O1, O2, O3, O4) R x.1 x.2.1 x.2.2.1 x.2.2.2.1) (by simp; rfl) (fun x hx => ?_) (0, B, ls, [], []) hI (by simp) (by simp) (by simp)
 obtain ⟨p, C, l, us, G⟩ := x
 dsimp only at hx ⊢
 simp only [ups, List.set_cons_zero, List.set_cons_succ, List.cons_append, List.nil_append, List.append_nil]
 have hul := hx.ul
 by_cases hlt : p < L.length
 ·obtain ⟨u, ht⟩ := get_lt hlt
  have htm : u ∈ L := List.mem_of_getElem? ht
  have hgt : L[p] = u := by rw [List.getElem?_eq_getElem hlt] at ht; exact Option.some.inj ht
  have hdr : L.drop p = u :: L.drop (p + 1) := by rw [List.drop_eq_getElem_cons hlt, hgt]
  have hb := hBa u htm
  have hc := hx.cond
  rw [hdr] at hc
  simp only [nodesS, typesS, List.length_append] at hc
  have hc' : CondI ns ts C l (nodesM u + (nodesS (L.drop (p + 1)) + 1)) ((typesM u).length + (typesS (L.drop (p + 1))).length) := ⟨hc.ok, hc.kd, hc.kls, hc.ctx, by have := hc.len; omega, hc.lln⟩
  have ho := hx.out
  have hr := hx.res
  obtain ⟨hA, r, hi, ha⟩ := hX u htm C l _ _ hc' (by
   rw [hdr, restI_cons] at hr
   cases hz : inf k u C l ns ts with
   | none => rw [hz] at hr; cases hr
   | some z => exact ⟨z, rfl⟩)
  rw [hdr, foldX] at ho
  rw [hdr, restI_cons, hi] at hr
  rw [InfA] at hA
  generalize X u C l = x at *
  obtain ⟨C', l', t, q⟩ := x
  dsimp only at hA ho ha
  have hlk : L.length = e.kids.length := by rw [hL]
  have hltk : p < e.kids.length := by omega
  have hgtk : e.kids[p] = u := by simp only [hL]; exact hgt
  cases q with
  | false =>
   rw [if_neg (by simp)] at ho
   simp only [Prod.mk.injEq] at ho
   obtain ⟨rfl, rfl, rfl, rfl⟩ := ho
   clear hx hX hN hI hc hc' hi hr ha
   repeat' first | ((first | refine aops_end (hK _ ?_) | refine aopsF_end (hK _ ?_)); clear hK K) | ((first | refine aops_go ?_ | refine aopsF_go ?_ | refine wpcall_pure rfl (hA) ?_); simp [hltk, hgtk, eTm_def u]; (try simp (disch := omega) only [wrap64]); (try (refine gen2 ?_ ?_ <;> intro hq <;> try simp [hltk, hgtk, eTm_def u] at hq))) | (refine T.ret (Done.tup (Or.inr rfl) ?_) <;> simp [resAs, Try.results12] <;> omega) | (refine ⟨?_, ?_⟩; (focus (intros; refine wpcall_pure rfl (hA) ?_; simp; done))) | refine T.rdN (id := 15) mixed (fun _ => false) [13, 14, 15, 16] [0, 4, 6, 7, 8] 14 [2] 14 [0, 4, 6, 7, 8, 13, 14, 15, 16] _ (by kernel_rfl) rfl rfl rfl rfl td_l15T rfl (by simp) fun K hK => ?_ | refine T.rdF (id := 17) mixed (fun _ => false) [2, 3] [1] 3 [2] (by kernel_rfl) fun K hK => ?_ | refine T.rs (id := 13) (fun _ => false) fun K hK => ?_ | refine T.rs (id := 16) (fun _ => false) fun K hK => ?_ | refine T.ct rfl ?_ | refine T.seq ?_ | refine T.block ?_ | refine T.skip ?_
  | true =>
   rw [if_pos rfl] at ho
   have hn : LoopI k ns ts e L X N (O1, O2, O3, O4) R (p + 1) C' l' (us ++ [t]) := by
    cases r with
    | none => simp [ansI] at ha
    | some r =>
     obtain ⟨r1, r2, r3⟩ := r
     simp only [ansI] at ha
     obtain ⟨rfl, rfl, rfl, _⟩ := ha
     obtain ⟨g1, g2, g3, g4⟩ := CondI.next hb hts hc' hi
     exact ⟨by omega, by simp [hul], g1, fun v hv => by
      rcases List.mem_append.1 hv with hv | hv
      ·exact ⟨sc_le g2 (hx.scs v hv).1, (hx.scs v hv).2⟩
      ·simp at hv; subst hv; exact ⟨g3, g4⟩, ho, hr⟩
   clear hX hN hI hc hc' hi hr ha
   repeat' first | ((first | refine aops_end (hK _ ?_) | refine aopsF_end (hK _ ?_)); clear hK K) | ((first | refine aops_go ?_ | refine aopsF_go ?_ | refine wpcall_pure rfl (hA) ?_); simp [hltk, hgtk, eTm_def u, hul]; (try simp (disch := omega) only [wrap64]); (try (refine gen2 ?_ ?_ <;> intro hq <;> try simp [hltk, hgtk, eTm_def u, hul] at hq))) | (refine ⟨by omega, by omega, ?_⟩) | (refine ⟨(p + 1, C', l', us ++ [t], _), by dsimp only; omega, hn, rfl, ?_, ?_⟩ <;> simp (disch := omega) [wrap64, eIT_def t]) | (refine ⟨?_, ?_⟩; (focus (intros; refine wpcall_pure rfl (hA) ?_; simp; done))) | refine T.rdN (id := 15) mixed (fun _ => false) [13, 14, 15, 16] [0, 4, 6, 7, 8] 14 [2] 14 [0, 4, 6, 7, 8, 13, 14, 15, 16] _ (by kernel_rfl) rfl rfl rfl rfl td_l15T rfl (by simp) fun K hK => ?_ | refine T.rs (id := 13) (fun _ => false) fun K hK => ?_ | refine T.rs (id := 16) (fun _ => false) fun K hK => ?_ | refine T.rs (id := 18) (fun _ => false) fun K hK => ?_ | refine T.rs1 (id := 19) (fun _ => false) fun K hK => ?_ | refine T.rs1 (id := 14) (fun _ => false) fun K hK => ?_ | refine T.ct rfl ?_ | refine T.cf rfl ?_ | refine T.seq ?_ | refine T.block ?_ | refine T.skip ?_
 ·have hp' : p = L.length := by have := hx.le; omega
  subst hp'
  have hc := hx.cond
  have ho := hx.out
  have hr := hx.res
  simp only [List.drop_length, nodesS, typesS, List.length_nil] at hc ho hr
  simp [restI, infS] at hr
  have g := hN C l us hc hul hx.scs hr.symm
  rw [foldX] at ho
  generalize N C l us = y at *
  subst ho
  dsimp only at g
  have hltk : ¬ L.length < e.kids.length := by omega
  clear hx hX hN hI hc hr
  repeat' first | (refine aops_end (hK _ ?_); clear hK K) | ((first | refine aops_go ?_ | (refine wpcall_pure ?_ (g) ?_; (focus (solve | simp [hltk, hlt, heK, hul])))); simp [hltk, hlt, heK, hul]; (try (refine gen2 ?_ ?_ <;> intro hq <;> try simp [hltk, hlt, heK, hul] at hq))) | (refine T.ret (Done.tup (Or.inr rfl) ?_) <;> simp [resAs, Try.results12] <;> omega) | refine T.rs (id := 13) (fun _ => false) fun K hK => ?_ | refine T.rs (id := 20) (fun _ => false) fun K hK => ?_ | refine T.cf rfl ?_ | refine T.seq ?_ | refine T.exit ?_
end Go.Proofs.Ytloolmchekcmeaa

namespace Go.Proofs.Ytloolmchekcmeaa
attribute [-simp] Go.Av.astepJ Go.Av.relC Go.Av.relL Go.Av.relV Go.Av.relVs Go.Av.callJ
open Go Go.Av
attribute [local irreducible] T ACalls TX EX LX Draws Some_ ACallsX eTy eTm MTy.kind MTy.kids MTm.kind MTm.name MTm.num MTm.ty MTm.fr MTm.label MTm.kids
attribute [local simp] eTy_def eTm_def
set_option maxHeartbeats 16000000
set_option maxRecDepth 8000
attribute [local simp] Option.bind
attribute [local irreducible] lastUp lastIx

theorem infer_var (ns : List UInt8) (ts : List IT) (c : UInt8) (B ls : List IT) (hc : ts.length = ns.length) (hn : ns.length <= 1000000) : (0 <= lastIx ns c -> ∃ t, ts[(lastIx ns c).toNat]? = some t /\ InfA ns ts (tVar [c]) B ls (B, ls, t, true)) /\ (¬ 0 <= lastIx ns c -> InfA ns ts (tVar [c]) B ls (B, ls, .v 0, false)) := by
 have hb := lastUp_bound ns c ns.length
 rw [<- lastIx_unf] at hb
 have k1 := l14IndexI_ok ns c (by omega)
 refine ⟨fun h0 => ?_, fun h0 => ?_⟩
 ·rw [if_pos h0] at k1
  obtain ⟨j, hj⟩ : ∃ j : Nat, lastIx ns c = j := ⟨(lastIx ns c).toNat, by omega⟩
  rw [hj] at k1 hb ⊢
  have hlt : j < ts.length := by omega
  obtain ⟨t, ht⟩ := get_lt hlt
  have htm : t ∈ ts := List.mem_of_getElem? ht
  have hgt : ts[j] = t := by rw [List.getElem?_eq_getElem hlt] at ht; exact Option.some.inj ht
  have hdr : ts.drop j = t :: ts.drop (j + 1) := by rw [List.drop_eq_getElem_cons hlt, hgt]
  refine ⟨t, by simpa using ht, ?_⟩
  rw [InfA]
  have hneg : ¬ ((ns.length : Int) - 1 - j < 0) := by omega
  have hix : (ts.length : Int) - 1 - ((ns.length : Int) - 1 - j) = j := by omega
  refine ACalls.of_body Try.func12 (by kernel_rfl) rfl (by kernel_rfl) (by simp [Try.ntmps12]) (by simp) ?_
  rw [Try.ntmps12]
  repeat' first | ((first | refine aops_end (hK _ ?_) | refine aopsF_end (hK _ ?_)); clear hK K) | ((first | refine aops_go ?_ | refine aopsF_go ?_ | refine wpcall_pure rfl (k1) ?_); simp [hneg, hix, hlt, hgt, eIT_def t]; (try simp (disch := omega) only [wrap64]); (try (refine gen2 ?_ ?_ <;> intro hq <;> try simp [hneg, hix, hlt, hgt, eIT_def t] at hq))) | (refine T.ret (Done.tup (Or.inr rfl) ?_) <;> simp [resAs, Try.results12] <;> omega) | refine T.rdF (id := 5) mixed (fun _ => false) [9, 10] [3, 7, 8] 10 [2] (by kernel_rfl) fun K hK => ?_ | refine T.r0 fun K hK => ?_ | refine T.ct rfl ?_ | refine T.cf rfl ?_ | refine T.seq ?_ | refine T.skip ?_
 ·rw [if_neg h0] at k1
  rw [InfA]
  refine ACalls.of_body Try.func12 (by kernel_rfl) rfl (by kernel_rfl) (by simp [Try.ntmps12]) (by simp) ?_
  rw [Try.ntmps12]
  repeat' first | (refine aops_end (hK _ ?_); clear hK K) | ((first | refine aops_go ?_ | refine wpcall_pure rfl (k1) ?_); simp [eIT_v]; (try simp (disch := omega) only [wrap64]); (try (refine gen2 ?_ ?_ <;> intro hq <;> try simp [eIT_v] at hq))) | (refine T.ret (Done.tup (Or.inr rfl) ?_) <;> simp [resAs, Try.results12] <;> omega) | refine T.r0 fun K hK => ?_ | refine T.ct rfl ?_ | refine T.seq ?_

theorem infer_lam (ns : List UInt8) (ts : List IT) (c : UInt8) (t : MTy) (b : MTm) (B B1 ls : List IT) (n : Nat) (hn : ns.length <= 1000000) (hts : ts.length <= 1000000) (hls : ls.length <= 1000000) (n1 : ACalls Try.prog 27 [aSt B ls] [] (.tup [aSt B1 ls, aIT (.v n)]) [] []) (x : List IT × List IT × IT × Bool)
  (hb : InfA (ns ++ [c]) (ts ++ [.v n]) b B1 (ls ++ [.v n]) x) : InfA ns ts (tLam [c] t b) B ls (x.1, x.2.1, .p 4 (.v n) x.2.2.1, x.2.2.2) := by
 have hcat : ns.length <= 4611686018427387903 := by omega
 obtain ⟨C, l, u, q⟩ := x
 rw [InfA] at hb ⊢
 dsimp only at hb ⊢
 have tw := l15Two_ok 4 (.v n) u
 cases q
 ·refine ACalls.of_body Try.func12 (by kernel_rfl) rfl (by kernel_rfl) (by simp [Try.ntmps12]) (by simp) ?_
  rw [Try.ntmps12]
  repeat' first | ((first | refine aops_end (hK _ ?_) | refine aopsD_end (hK _ ?_) | refine aopsF_end (hK _ ?_)); clear hK K) | ((first | refine aops_go ?_ | refine aopsD_go ?_ | refine aopsF_go ?_ | refine wpcall_pure rfl (n1) ?_ | (refine wpcall_pure ?_ (hb) ?_; (focus (solve | simp [eIT_v, eTm_def b, hcat]))) | (refine wpcall_pure ?_ (tw) ?_; (focus (solve | simp [eIT_v, eTm_def b, hcat])))); simp [eIT_v, eTm_def b, hcat]; (try simp (disch := omega) only [wrap64, catLe]); (try (refine gen2 ?_ ?_ <;> intro hq <;> try simp [eIT_v, eTm_def b, hcat] at hq))) | (refine ⟨by omega, by omega, ?_⟩) | (refine T.ret (Done.tup (Or.inr rfl) ?_) <;> simp [resAs, Try.results12, eIT_v] <;> omega) | refine T.rdF (id := 8) mixed (fun i => i == 0) [0, 3, 6, 8] [2, 4, 5] 4 [] (by kernel_rfl) fun K hK => ?_ | refine T.rdN (id := 9) mixed (fun i => i == 5) [5, 7, 10, 15, 20, 21, 22] [0, 3, 8, 9, 12, 13, 14] 11 [] 20 [0, 3, 5, 7, 8, 9, 10, 12, 13, 14, 15, 20, 21, 22] _ (by kernel_rfl) rfl rfl rfl rfl td_l15T rfl (by simp) fun K hK => ?_ | refine T.rd (id := 10) mixed (fun _ => false) [5, 6] (by kernel_rfl) fun K hK => ?_ | refine T.rs (id := 0) (fun _ => false) fun K hK => ?_ | refine T.rs (id := 1) (fun _ => false) fun K hK => ?_ | refine T.rs (id := 6) (fun _ => false) fun K hK => ?_ | refine T.rs (id := 7) (fun _ => false) fun K hK => ?_ | refine T.ct rfl ?_ | refine T.cf rfl ?_ | refine T.seq ?_ | refine T.skip ?_
 ·refine ACalls.of_body Try.func12 (by kernel_rfl) rfl (by kernel_rfl) (by simp [Try.ntmps12]) (by simp) ?_
  rw [Try.ntmps12]
  repeat' first | ((first | refine aops_end (hK _ ?_) | refine aopsD_end (hK _ ?_) | refine aopsF_end (hK _ ?_)); clear hK K) | ((first | refine aops_go ?_ | refine aopsD_go ?_ | refine aopsF_go ?_ | refine wpcall_pure rfl (n1) ?_ | (refine wpcall_pure ?_ (hb) ?_; (focus (solve | simp [eIT_v, eTm_def b, hcat]))) | (refine wpcall_pure ?_ (tw) ?_; (focus (solve | simp [eIT_v, eTm_def b, hcat])))); simp [eIT_v, eTm_def b, hcat]; (try simp (disch := omega) only [wrap64, catLe]); (try (refine gen2 ?_ ?_ <;> intro hq <;> try simp [eIT_v, eTm_def b, hcat] at hq))) | (refine ⟨by omega, by omega, ?_⟩) | (refine T.ret (Done.tup (Or.inr rfl) ?_) <;> simp [resAs, Try.results12, eIT_v] <;> omega) | refine T.rdF (id := 8) mixed (fun i => i == 0) [0, 3, 6, 8] [2, 4, 5] 4 [] (by kernel_rfl) fun K hK => ?_ | refine T.rdN (id := 9) mixed (fun i => i == 5) [5, 7, 10, 15, 20, 21, 22] [0, 3, 8, 9, 12, 13, 14] 11 [] 20 [0, 3, 5, 7, 8, 9, 10, 12, 13, 14, 15, 20, 21, 22] _ (by kernel_rfl) rfl rfl rfl rfl td_l15T rfl (by simp) fun K hK => ?_ | refine T.rd (id := 10) mixed (fun _ => false) [5, 6] (by kernel_rfl) fun K hK => ?_ | refine T.rs (id := 0) (fun _ => false) fun K hK => ?_ | refine T.rs (id := 1) (fun _ => false) fun K hK => ?_ | refine T.rs (id := 6) (fun _ => false) fun K hK => ?_ | refine T.rs (id := 7) (fun _ => false) fun K hK => ?_ | refine T.ct rfl ?_ | refine T.cf rfl ?_ | refine T.seq ?_ | refine T.skip ?_

theorem fold_ans {k : Nat} {ns : List UInt8} {ts : List IT} {X : MTm -> List IT -> List IT -> List IT × List IT × IT × Bool} {N : List IT -> List IT -> List IT -> List IT × List IT × IT × Bool} {R : Option (List IT × List IT × List IT)} {r : Option (List IT × List IT × IT)} {len : Nat} (hts : KdB ts)
  (hN : ∀ C l us, CondI ns ts C l 1 0 -> us.length = len -> (∀ u ∈ us, sc C.length u = true /\ kdI u) -> R = some (C, l, us) -> ansI (N C l us) r) (h0 : R = none -> r = none) : ∀ (L : List MTm) (C l us : List IT), CondI ns ts C l (nodesS L + 1) (typesS L).length -> us.length + L.length = len -> (∀ u ∈ us, sc C.length u = true /\ kdI u) -> (∀ u ∈ L, Ba u) ->
  (∀ u ∈ L, ∀ C l n m, CondI ns ts C l (nodesM u + n) ((typesM u).length + m) -> (∃ r, inf k u C l ns ts = some r) -> InfP k ns ts u C l (X u C l)) -> restI k ns ts L C l us = some R -> ansI (foldX X N L C l us) r
 | [], C, l, us, hc, hl, hs, _, _, hr => by
  simp [restI, infS] at hr
  rw [foldX]
  exact hN C l us (by simpa [nodesS, typesS] using hc) (by simpa using hl) hs hr.symm
 | u :: L, C, l, us, hc, hl, hs, hB, hX, hr => by
  simp only [nodesS, typesS, List.length_append] at hc
  have hc' : CondI ns ts C l (nodesM u + (nodesS L + 1)) ((typesM u).length + (typesS L).length) := ⟨hc.ok, hc.kd, hc.kls, hc.ctx, by have := hc.len; omega, hc.lln⟩
  rw [restI_cons] at hr
  obtain ⟨_, q, hi, ha⟩ := hX u (by simp) C l _ _ hc' (by
   cases hz : inf k u C l ns ts with
   | none => rw [hz] at hr; cases hr
   | some z => exact ⟨z, rfl⟩)
  rw [hi] at hr
  rw [foldX]
  cases q with
  | none =>
   simp only [ansI] at ha
   rw [if_neg (by rw [ha]; simp)]
   cases hr
   rw [h0 rfl]
   exact ha
  | some q =>
   obtain ⟨q1, q2, q3⟩ := q
   simp only [ansI] at ha
   obtain ⟨e1, e2, e3, e4⟩ := ha
   rw [if_pos e4, e1, e2, e3]
   obtain ⟨g1, g2, g3, g4⟩ := CondI.next (hB u (by simp)) hts hc' hi
   exact fold_ans hts hN h0 L q1 q2 (us ++ [q3]) g1 (by simp at hl ⊢; omega) (fun v hv => by
    rcases List.mem_append.1 hv with hv | hv
    ·exact ⟨sc_le g2 (hs v hv).1, (hs v hv).2⟩
    ·simp at hv; subst hv; exact ⟨g3, g4⟩) (fun v hv => hB v (by simp [hv])) (fun v hv => hX v (by simp [hv])) hr

open Classical in
theorem infer_node (k : Nat) (ns : List UInt8) (ts : List IT) (e : MTm) (hl3 : e.kids.length <= 3) (h1 : e.kind ≠ 1) (h5 : e.kind ≠ 5) (hts : KdB ts) (hBa : ∀ u ∈ e.kids, Ba u)
  (hsh : ∀ us : List IT, us.length = e.kids.length -> ((e.kind = 2 \/ e.kind = 3 \/ e.kind = 4) /\ us = []) \/ ((e.kind = 11 \/ e.kind = 12) /\ us.length = 1) \/ ((e.kind = 6 \/ e.kind = 7 \/ e.kind = 8 \/ e.kind = 10) /\ us.length = 2) \/ (e.kind = 9 /\ us.length = 3))
  (ih : ∀ u ∈ e.kids, ∀ C l n m, CondI ns ts C l (nodesM u + n) ((typesM u).length + m) -> (∃ r, inf k u C l ns ts = some r) -> ∃ x, InfP k ns ts u C l x)
  (B ls : List IT) (hc : CondI ns ts B ls (nodesS e.kids + 1) (typesS e.kids).length) (r : Option (List IT × List IT × IT)) (hr : inf k e B ls ns ts = some r) : ∃ x, InfP k ns ts e B ls x := by
 let X : MTm -> List IT -> List IT -> List IT × List IT × IT × Bool := fun u C l => if h : ∃ x, InfP k ns ts u C l x then h.choose else ([], [], .v 0, false)
 have hX : ∀ u ∈ e.kids, ∀ C l n m, CondI ns ts C l (nodesM u + n) ((typesM u).length + m) -> (∃ r, inf k u C l ns ts = some r) -> InfP k ns ts u C l (X u C l) := fun u hu C l n m g1 g2 => by
  have h := ih u hu C l n m g1 g2
  show InfP k ns ts u C l (if h : ∃ x, InfP k ns ts u C l x then h.choose else ([], [], .v 0, false))
  rw [dif_pos h]
  exact h.choose_spec
 let NP : List IT -> List IT -> List IT -> (List IT × IT × Bool) -> Prop := fun C l us y => ACalls Try.prog 29 [aSt C l, aTm e, .l (us.map eIT)] [] (.tup [aSt y.1 l, aIT y.2.1, .b y.2.2]) [] [] /\ ∃ rn, infN k e.kind C us = some rn /\ ansN y.1 y.2.1 y.2.2 rn
 let N : List IT -> List IT -> List IT -> List IT × List IT × IT × Bool := fun C l us => if h : ∃ y, NP C l us y then (h.choose.1, l, h.choose.2.1, h.choose.2.2) else ([], [], .v 0, false)
 obtain ⟨R, hR, hrn, hrs⟩ : ∃ R, infS k e.kids B ls ns ts = some R /\ (R = none -> r = none) /\ (∀ C l us, R = some (C, l, us) -> ∃ rn, infN k e.kind C us = some rn /\ r = rn.map fun z => (z.1, l, z.2)) := by
  cases e with
  | mk kd s n t f b L =>
   simp only [MTm.kind_mk] at h1 h5
   rw [inf, if_neg h1] at hr
   simp only [if_neg h5] at hr
   simp only [MTm.kids_mk, MTm.kind_mk]
   cases hS : infS k L B ls ns ts with
   | none => rw [hS] at hr; cases hr
   | some R =>
    rw [hS] at hr
    refine ⟨R, rfl, fun e => ?_, fun C l us e => ?_⟩
    ·subst e; simpa using hr.symm
    ·subst e
     simp only [Option.map_eq_some_iff] at hr
     obtain ⟨rn, q1, q2⟩ := hr
     exact ⟨rn, q1, q2.symm⟩
 have hres : restI k ns ts e.kids B ls [] = some R := by
  simp only [restI, hR]
  cases R with
  | none => rfl
  | some z => obtain ⟨a, b, c⟩ := z; simp
 have hNP : ∀ C l us, CondI ns ts C l 1 0 -> us.length = e.kids.length -> (∀ u ∈ us, sc C.length u = true /\ kdI u) -> R = some (C, l, us) -> ∃ y, NP C l us y := fun C l us g1 g2 g3 g4 => by
  obtain ⟨rn, q1, _⟩ := hrs C l us g4
  obtain ⟨D, u, q, g5, g6⟩ := l15Node_ok l k e C us rn g1.ok g1.kd (by have := g1.len; omega) (fun v hv => (g3 v hv).1) (fun v hv => (g3 v hv).2) (hsh us g2) q1
  exact ⟨(D, u, q), g5, rn, q1, g6⟩
 have hw := infer_walk k ns ts e e.kids rfl hl3 h1 h5 hts hBa X N B ls hX R (fun C l us g1 g2 g3 g4 => by
  have h := hNP C l us g1 g2 g3 g4
  show ACalls _ _ _ _ (.tup [aSt (if h : ∃ y, NP C l us y then (h.choose.1, l, h.choose.2.1, h.choose.2.2) else ([], [], .v 0, false)).1 (if h : ∃ y, NP C l us y then (h.choose.1, l, h.choose.2.1, h.choose.2.2) else ([], [], .v 0, false)).2.1, aIT (if h : ∃ y, NP C l us y then (h.choose.1, l, h.choose.2.1, h.choose.2.2) else ([], [], .v 0, false)).2.2.1, .b (if h : ∃ y, NP C l us y then (h.choose.1, l, h.choose.2.1, h.choose.2.2) else ([], [], .v 0, false)).2.2.2]) [] []
  rw [dif_pos h]
  exact h.choose_spec.1) ⟨Nat.zero_le _, rfl, by simpa using hc, fun u hu => (by cases hu), by simp, by simpa using hres⟩
 refine ⟨_, hw, r, hr, ?_⟩
 refine fold_ans (len := e.kids.length) hts (fun C l us g1 g2 g3 g4 => ?_) hrn e.kids B ls [] hc (by simp) (fun u hu => (by cases hu)) hBa hX hres
 have h := hNP C l us g1 g2 g3 g4
 obtain ⟨rn, q1, q2⟩ := hrs C l us g4
 obtain ⟨_, rn', q3, q4⟩ := h.choose_spec
 rw [q1] at q3
 cases q3
 show ansI (if h : ∃ y, NP C l us y then (h.choose.1, l, h.choose.2.1, h.choose.2.2) else ([], [], .v 0, false)) r
 rw [dif_pos h, q2]
 cases rn with
 | none => exact q4
 | some z => exact ⟨q4.1, rfl, q4.2.1, q4.2.2⟩

theorem l15Infer_ok (k : Nat) {e : MTm} (he : Ba e) : ∀ (ns : List UInt8) (ts B ls : List IT) (n m : Nat), KdB ts -> ns.length + nodesM e <= 1000000 -> CondI ns ts B ls (nodesM e + n) ((typesM e).length + m) -> (∃ r, inf k e B ls ns ts = some r) -> ∃ x, InfP k ns ts e B ls x := by
 induction he with
 | var c =>
  intro ns ts B ls n m hts hn hc ⟨r, hr⟩
  have h := infer_var ns ts c B ls hc.ctx.len (by omega)
  rw [inf_var] at hr
  by_cases h0 : 0 <= lastIx ns c
  ·obtain ⟨t, ht, hA⟩ := h.1 h0
   rw [if_pos h0, ht] at hr
   simp at hr
   exact ⟨_, hA, r, by rw [inf_var, if_pos h0, ht]; simpa using hr, by subst hr; exact ⟨rfl, rfl, rfl, rfl⟩⟩
  ·rw [if_neg h0] at hr
   simp at hr
   exact ⟨_, h.2 h0, r, by rw [inf_var, if_neg h0]; simpa using hr, by subst hr; rfl⟩
 | num z =>
  intro ns ts B ls n m hts hn hc ⟨r, hr⟩
  exact infer_node k ns ts _ (by simp) (by simp) (by simp) hts (by simp) (fun us h => .inl ⟨by simp, by simpa using h⟩) (by simp) B ls ⟨hc.ok, hc.kd, hc.kls, hc.ctx, by have := hc.len; simp [nodesS, nodesM] at this ⊢; omega, by have := hc.lln; simp [typesS]; omega⟩ r hr
 | tru =>
  intro ns ts B ls n m hts hn hc ⟨r, hr⟩
  exact infer_node k ns ts _ (by simp) (by simp) (by simp) hts (by simp) (fun us h => .inl ⟨by simp, by simpa using h⟩) (by simp) B ls ⟨hc.ok, hc.kd, hc.kls, hc.ctx, by have := hc.len; simp [nodesS, nodesM] at this ⊢; omega, by have := hc.lln; simp [typesS]; omega⟩ r hr
 | fls =>
  intro ns ts B ls n m hts hn hc ⟨r, hr⟩
  exact infer_node k ns ts _ (by simp) (by simp) (by simp) hts (by simp) (fun us h => .inl ⟨by simp, by simpa using h⟩) (by simp) B ls ⟨hc.ok, hc.kd, hc.kls, hc.ctx, by have := hc.len; simp [nodesS, nodesM] at this ⊢; omega, by have := hc.lln; simp [typesS]; omega⟩ r hr
 | @lam c t b hb ih =>
  intro ns ts B ls n m hts hn hc ⟨r, hr⟩
  rw [inf_lam] at hr
  simp only [Option.map_eq_some_iff] at hr
  obtain ⟨rb, hrb, hr⟩ := hr
  have hnb : nodesM (tLam [c] t b) = nodesM b + 1 := by simp [nodesM, nodesS]; omega
  rw [typesM_lam, hnb] at hc
  have hl := hc.len
  have hll := hc.lln
  simp only [List.length_cons] at hll
  have n1 := l15New_ok B ls (by omega)
  have hkv : ∀ n : Nat, KdB [IT.v n] := fun n u hu => by simp at hu; subst hu; trivial
  obtain ⟨x, hA, rb', q1, q2⟩ := ih (ns ++ [c]) (ts ++ [.v B.length]) (B ++ [.v B.length]) (ls ++ [.v B.length]) n m (hts.app (hkv _)) (by simp; omega) ⟨⟨(NewV.one B).sc hc.ok.sc, (NewV.one B).acy hc.ok.sc hc.ok.acy⟩, hc.kd.app (hkv _), hc.kls.app (hkv _), ⟨by simp [hc.ctx.len], fun u hu => by
   rcases List.mem_append.1 hu with hu | hu
   ·exact sc_le (by simp) (hc.ctx.scs u hu)
   ·simp at hu; subst hu; simp [sc]⟩, by simp; omega, by simp; omega⟩ ⟨rb, hrb⟩
  rw [hrb] at q1
  cases q1
  refine ⟨_, infer_lam ns ts c t b B (B ++ [.v B.length]) ls B.length (by omega) (by rw [hc.ctx.len]; omega) (by omega) n1 x hA, r, by rw [inf_lam, hrb]; simpa using hr, ?_⟩
  subst hr
  cases rb with
  | none => exact q2
  | some z =>
   obtain ⟨z1, z2, z3⟩ := z
   simp only [ansI] at q2
   exact ⟨q2.1, q2.2.1, by simp [q2.2.2.1], q2.2.2.2⟩
 | @n2 kd a b hk ha hb iha ihb =>
  intro ns ts B ls n m hts hn hc ⟨r, hr⟩
  have hnb : nodesM (tN2 kd a b) = nodesM a + nodesM b + 1 := by simp [nodesM, nodesS]; omega
  refine infer_node k ns ts _ (by simp) (by simp; omega) (by simp; omega) hts (fun u hu => by simp at hu; rcases hu with rfl | rfl <;> assumption) (fun us h => .inr (.inr (.inl ⟨by simpa using hk, by simpa using h⟩))) (fun u hu C l n' m' g1 g2 => ?_) B ls ⟨hc.ok, hc.kd, hc.kls, hc.ctx, by have := hc.len; simp [nodesS, nodesM] at this ⊢; omega, by have := hc.lln; rw [typesM_n2 hk] at this; simp [typesS] at this ⊢; omega⟩ r hr
  simp at hu
  rcases hu with rfl | rfl
  ·exact iha ns ts C l n' m' hts (by omega) g1 g2
  ·exact ihb ns ts C l n' m' hts (by omega) g1 g2
 | @ite a b c ha hb hcc iha ihb ihc =>
  intro ns ts B ls n m hts hn hc ⟨r, hr⟩
  have hnb : nodesM (tIf a b c) = nodesM a + nodesM b + nodesM c + 1 := by simp [nodesM, nodesS]; omega
  refine infer_node k ns ts _ (by simp) (by simp) (by simp) hts (fun u hu => by simp at hu; rcases hu with rfl | rfl | rfl <;> assumption) (fun us h => .inr (.inr (.inr ⟨by simp, by simpa using h⟩))) (fun u hu C l n' m' g1 g2 => ?_) B ls ⟨hc.ok, hc.kd, hc.kls, hc.ctx, by have := hc.len; simp [nodesS, nodesM] at this ⊢; omega, by have := hc.lln; rw [typesM_if] at this; simp [typesS] at this ⊢; omega⟩ r hr
  simp at hu
  rcases hu with rfl | rfl | rfl
  ·exact iha ns ts C l n' m' hts (by omega) g1 g2
  ·exact ihb ns ts C l n' m' hts (by omega) g1 g2
  ·exact ihc ns ts C l n' m' hts (by omega) g1 g2
 | @n1 kd a hk ha ih =>
  intro ns ts B ls n m hts hn hc ⟨r, hr⟩
  have hnb : nodesM (tN1 kd a) = nodesM a + 1 := by simp [nodesM, nodesS]; omega
  refine infer_node k ns ts _ (by simp) (by simp; omega) (by simp; omega) hts (fun u hu => by simp at hu; subst hu; assumption) (fun us h => .inr (.inl ⟨by simpa using hk, by simpa using h⟩)) (fun u hu C l n' m' g1 g2 => ?_) B ls ⟨hc.ok, hc.kd, hc.kls, hc.ctx, by have := hc.len; simp [nodesS, nodesM] at this ⊢; omega, by have := hc.lln; rw [typesM_n1 hk] at this; simp [typesS] at this ⊢; omega⟩ r hr
  simp at hu
  subst hu
  exact ih ns ts C l n' m' hts (by omega) g1 g2
end Go.Proofs.Ytloolmchekcmeaa

namespace Go.Proofs.Ytloolmchekcmeaa
attribute [-simp] Go.Av.astepJ Go.Av.relC Go.Av.relL Go.Av.relV Go.Av.relVs Go.Av.callJ
open Go Go.Av
attribute [local irreducible] T ACalls TX EX LX Draws Some_ ACallsX eTy eTm MTy.kind MTy.kids MTm.kind MTm.name MTm.num MTm.ty MTm.fr MTm.label MTm.kids
attribute [local simp] eTy_def eTm_def
set_option maxHeartbeats 16000000
set_option maxRecDepth 8000
attribute [local simp] Option.bind

theorem l15Size_ok (B ls : List IT) (hS : ScB B) (hKd : KdB B) (hB : B.length <= 1048576) : ∀ (k : Nat) (t : IT), ex B k t = true -> sc B.length t = true -> kdI t -> ∀ most : Nat, most <= 1000 -> ACalls Try.prog 14 [aSt B ls, aIT t, .i most] [] (.i (min (szI B k t) (most + 1) : Nat)) [] [] := by
 intro k
 induction k using Nat.strongRecOn with
 | _ k ih =>
  intro t hx ht hk most hm
  have h1 := l15Head_ok B ls hS hKd hB k t hx ht hk
  have hhd := hd_isHd hx
  have hs2 := hd_sc hS (k := k) ht
  have hk2 := hd_kd hKd (k := k) hk
  have hx2 := hd_ex hx
  have hkk := fun c x y => hd_kids (c := c) (x := x) (y := y) hx
  rw [<- szI_hd hx]
  generalize hd B k t = u at *
  have leaf : u.kids = [] -> szI B k u = 1 -> ACalls Try.prog 14 [aSt B ls, aIT t, .i most] [] (.i (min (szI B k u) (most + 1) : Nat)) [] [] := by
   intro h0 hz
   have hmin : min (szI B k u) (most + 1) = 1 := by omega
   rw [hmin]
   replace h1 : ACalls Try.prog 31 [aSt B ls, aIT t] [] (.agg [.d (.i u.kind), .d (.i u.name), .d (.sl [])]) [] [] := by rw [show ([] : List (List DV)) = u.kids.map eIT by rw [h0]; rfl]; exact h1
   clear ih hkk hhd
   refine ACalls.of_body Try.func14 (by kernel_rfl) rfl (by kernel_rfl) (by simp [Try.ntmps14]) (by simp) ?_
   rw [Try.ntmps14]
   repeat' first | (refine aops_end (hK _ ?_); clear hK K) | ((first | refine aops_go ?_ | refine wpcall_pure rfl (h1) ?_); simp; (try simp (disch := omega) only [wrap64]); (try (refine gen2 ?_ ?_ <;> intro hq <;> try simp at hq))) | refine T.r0 fun K hK => ?_ | refine T.seq ?_ | refine T.block ?_
   refine T.loopK (α := Nat) [2, 3, 4, 6] (fun x => [(7, .i 1), (8, .i 0)]) (fun x => []) (fun x => []) (fun x A => A) (fun x => 1) (fun x => True) (by simp; rfl) (fun x hx => ?_) 0 trivial (by simp) (by simp) (by simp)
   simp only [ups, List.set_cons_zero, List.set_cons_succ, List.cons_append, List.nil_append, List.append_nil]
   repeat' first | (refine aops_end (hK _ ?_); clear hK K) | (refine aops_go ?_; simp; (try simp (disch := omega) only [wrap64]); (try (refine gen2 ?_ ?_ <;> intro hq <;> try simp at hq))) | (refine T.ret (Done.data (Or.inr rfl) ?_ ?_) <;> simp [Try.results14] <;> omega) | refine T.r0 fun K hK => ?_ | refine T.cf rfl ?_ | refine T.seq ?_ | refine T.exit ?_
  cases hu : u with
  | v m =>
   subst hu
   exact leaf rfl (by
    have hb := hhd m rfl
    cases k with
    | zero => rfl
    | succ k => simp [szI, hb])
  | b c =>
   subst hu
   exact leaf rfl (by cases k <;> rfl)
  | p c x y =>
   subst hu
   obtain ⟨j, hj, hxx, hxy⟩ := hkk c x y rfl
   have g1 := fun m hm => ih j hj x hxx (sc_kids hs2 x (by simp)) (kdI_kids hk2 x (by simp)) m hm
   have g2 := fun m hm => ih j hj y hxy (sc_kids hs2 y (by simp)) (kdI_kids hk2 y (by simp)) m hm
   obtain ⟨k', rfl⟩ : ∃ k', k = k' + 1 := ⟨k - 1, by omega⟩
   have hz : szI B (k' + 1) (.p c x y) = 1 + szI B j x + szI B j y := by
    have hxk : ex B k' x = true /\ ex B k' y = true := by simpa [ex] using hx2
    rw [szI, szI_stable hxx (show j <= k' by omega), szI_stable hxy (show j <= k' by omega)]
   rw [hz]
   have p1 := szI_pos (B := B) (k := j) (t := x)
   have p2 := szI_pos (B := B) (k := j) (t := y)
   generalize szI B j x = a at *
   generalize szI B j y = b at *
   clear ih hkk hhd
   refine ACalls.of_body Try.func14 (by kernel_rfl) rfl (by kernel_rfl) (by simp [Try.ntmps14]) (by simp) ?_
   rw [Try.ntmps14]
   repeat' first | (refine aops_end (hK _ ?_); clear hK K) | ((first | refine aops_go ?_ | refine wpcall_pure rfl (h1) ?_); simp; (try simp (disch := omega) only [wrap64]); (try (refine gen2 ?_ ?_ <;> intro hq <;> try simp at hq))) | refine T.r0 fun K hK => ?_ | refine T.seq ?_ | refine T.block ?_
   refine T.loopK (α := Nat × Nat) [2, 3, 4, 6] (fun x => [(7, .i x.2), (8, .i x.1)]) (fun x => []) (fun x => []) (fun x A => A) (fun x => 3 - x.1) (fun x => (x.1 = 0 /\ x.2 = 1) \/ (x.1 = 1 /\ x.2 = 1 + min a most /\ 1 <= most) \/ (x.1 = 2 /\ x.2 = min (1 + a + b) (most + 1))) (by simp; rfl) (fun z hz2 => ?_) (0, 1) (.inl ⟨rfl, rfl⟩) (by simp) (by simp) (by simp)
   obtain ⟨p, n⟩ := z
   dsimp only at hz2 ⊢
   simp only [ups, List.set_cons_zero, List.set_cons_succ, List.cons_append, List.nil_append, List.append_nil]
   rcases hz2 with ⟨rfl, rfl⟩ | ⟨rfl, hn, hm1⟩ | ⟨rfl, rfl⟩
   ·by_cases hm0 : 1 <= most
    ·have e1 : (1 : Int) <= most := by omega
     have k1 := g1 (most - 1) (by omega)
     rw [show most - 1 + 1 = most by omega, show ((most - 1 : Nat) : Int) = (most : Int) - 1 by omega] at k1
     repeat' first | ((first | refine aops_end (hK _ ?_) | refine aopsD_end (hK _ ?_)); clear hK K) | ((first | refine aops_go ?_ | refine aopsD_go ?_ | (refine wpcall_pure ?_ (k1) ?_; (focus (solve | simp [e1, eIT_def x])))); simp [e1, eIT_def x]; (try simp (disch := omega) only [wrap64]); (try (refine gen2 ?_ ?_ <;> intro hq <;> try simp [e1, eIT_def x] at hq))) | refine T.rd1 (id := 6) mixed (fun _ => false) [] (by kernel_rfl) fun K hK => ?_ | refine T.r0 fun K hK => ?_ | refine T.r1 fun K hK => ?_ | refine T.ct rfl ?_ | refine T.seq ?_ | refine T.block ?_ | refine T.skip ?_
     refine ⟨(1, 1 + min a most), by dsimp only; omega, Or.inr (Or.inl ⟨rfl, rfl, hm0⟩), ?_, ?_, ?_⟩ <;> simp (disch := omega) [wrap64, eIT_def x]
    ·have e1 : ¬ (1 : Int) <= most := by omega
     have hmin : min (1 + a + b) (most + 1) = 1 := by omega
     rw [hmin]
     repeat' first | (refine aops_end (hK _ ?_); clear hK K) | (refine aops_go ?_; simp [e1]; (try simp (disch := omega) only [wrap64]); (try (refine gen2 ?_ ?_ <;> intro hq <;> try simp [e1] at hq))) | (refine T.ret (Done.data (Or.inr rfl) ?_ ?_) <;> simp [Try.results14] <;> omega) | refine T.r0 fun K hK => ?_ | refine T.cf rfl ?_ | refine T.seq ?_ | refine T.exit ?_
   ·by_cases hm2 : n <= most
    ·have e1 : (n : Int) <= most := by omega
     have k2 := g2 (most - n) (by omega)
     rw [show ((most - n : Nat) : Int) = (most : Int) - n by omega] at k2
     have e2 : n + min b (most - n + 1) = min (1 + a + b) (most + 1) := by omega
     repeat' first | ((first | refine aops_end (hK _ ?_) | refine aopsD_end (hK _ ?_)); clear hK K) | ((first | refine aops_go ?_ | refine aopsD_go ?_ | (refine wpcall_pure ?_ (k2) ?_; (focus (solve | simp [e1, eIT_def y])))); simp [e1, eIT_def y]; (try simp (disch := omega) only [wrap64]); (try (refine gen2 ?_ ?_ <;> intro hq <;> try simp [e1, eIT_def y] at hq))) | refine T.rd1 (id := 6) mixed (fun _ => false) [] (by kernel_rfl) fun K hK => ?_ | refine T.r0 fun K hK => ?_ | refine T.r1 fun K hK => ?_ | refine T.ct rfl ?_ | refine T.seq ?_ | refine T.block ?_ | refine T.skip ?_
     refine ⟨(2, n + min b (most - n + 1)), by dsimp only; omega, Or.inr (Or.inr ⟨rfl, e2⟩), ?_, ?_, ?_⟩ <;> simp (disch := omega) [wrap64, eIT_def y]
    ·have e1 : ¬ (n : Int) <= most := by omega
     have hmin : min (1 + a + b) (most + 1) = n := by omega
     rw [hmin]
     repeat' first | (refine aops_end (hK _ ?_); clear hK K) | (refine aops_go ?_; simp [e1]; (try simp (disch := omega) only [wrap64]); (try (refine gen2 ?_ ?_ <;> intro hq <;> try simp [e1] at hq))) | (refine T.ret (Done.data (Or.inr rfl) ?_ ?_) <;> simp [Try.results14] <;> omega) | refine T.r0 fun K hK => ?_ | refine T.cf rfl ?_ | refine T.seq ?_ | refine T.exit ?_
   ·repeat' first | (refine aops_end (hK _ ?_); clear hK K) | (refine aops_go ?_; simp; (try simp (disch := omega) only [wrap64]); (try (refine gen2 ?_ ?_ <;> intro hq <;> try simp at hq))) | (refine T.ret (Done.data (Or.inr rfl) ?_ ?_) <;> simp [Try.results14] <;> omega) | refine T.r0 fun K hK => ?_ | refine T.cf rfl ?_ | refine T.seq ?_ | refine T.exit ?_
end Go.Proofs.Ytloolmchekcmeaa

namespace Go.Proofs.Ytloolmchekcmeaa
attribute [-simp] Go.Av.astepJ Go.Av.relC Go.Av.relL Go.Av.relV Go.Av.relVs Go.Av.callJ
open Go Go.Av
attribute [local irreducible] T ACalls TX EX LX Draws Some_ ACallsX eTy eTm MTy.kind MTy.kids MTm.kind MTm.name MTm.num MTm.ty MTm.fr MTm.label MTm.kids
attribute [local simp] eTy_def eTm_def
set_option maxHeartbeats 16000000
set_option maxRecDepth 8000
attribute [local simp] Option.bind

def mapO (f : IT -> Option MTy) : List IT -> Option (List MTy)
 | [] => some []
 | t :: r => match f t with
  | none => none
  | some T => (mapO f r).map (T :: ·)
end Go.Proofs.Ytloolmchekcmeaa

namespace Go.Proofs.Ytloolmchekcmeaa
attribute [-simp] Go.Av.astepJ Go.Av.relC Go.Av.relL Go.Av.relV Go.Av.relVs Go.Av.callJ
open Go Go.Av
attribute [local irreducible] T ACalls TX EX LX Draws Some_ ACallsX eTy eTm MTy.kind MTy.kids MTm.kind MTm.name MTm.num MTm.ty MTm.fr MTm.label MTm.kids
attribute [local simp] eTy_def eTm_def
set_option maxHeartbeats 16000000
set_option maxRecDepth 8000
attribute [local simp] Option.bind

@[simp] theorem td_i32x : td Try.prog 21 = some { ag := false, sz := 1, by_ := 4, zero := some [.d (.int .i32 0)], el := none, ar := none, fl := [], ik := some .i32, isS := false, isB := false } := keep (by kernel_rfl)

def eNs (l : List Nat) : List (List DV) := l.map fun (n : Nat) => [DV.i n]
theorem eNs_len (l : List Nat) : (eNs l).length = l.length := by simp [eNs]

theorem text_var (B ls : List IT) (t : IT) (m : Nat) (seen : List Nat) (hl : seen.length <= 30) (h1 : ACalls Try.prog 31 [aSt B ls, aIT t] [] (aIT (.v m)) [] []) :
  ACalls Try.prog 15 [aSt B ls, aIT t, .l (eNs seen)] [] (.tup [.s [letB (ixOf m seen)], .l (eNs (if m ∈ seen then seen else seen ++ [m]))]) [] [] := by
 obtain ⟨I, hI⟩ : ∃ I, ixOf m seen = I := ⟨_, rfl⟩
 rw [hI]
 refine ACalls.of_body Try.func15 (by kernel_rfl) rfl (by kernel_rfl) (by simp [Try.ntmps15]) (by simp) ?_
 rw [Try.ntmps15]
 repeat' first | (refine aops_end (hK _ ?_); clear hK K) | ((first | refine aops_go ?_ | refine wpcall_pure rfl (h1) ?_); simp; (try (refine gen2 ?_ ?_ <;> intro hq <;> try simp at hq))) | refine T.r0 fun K hK => ?_ | refine T.ct rfl ?_ | refine T.seq ?_ | refine T.block ?_
 refine T.loopK (α := Nat) [2, 3, 4] (fun p => [(6, .s []), (7, .c .nil), (8, .i p)]) (fun _ => []) (fun _ => []) (fun _ A => A) (fun p => seen.length + 1 - p) (fun p => p <= seen.length /\ p + ixOf m (seen.drop p) = I /\ (m ∈ seen ↔ m ∈ seen.drop p)) (by simp; rfl) (fun p hx => ?_) 0 ⟨by simp, by simpa using hI, by simp⟩ (by simp) (by simp) (by simp)
 obtain ⟨hp, he, hm⟩ := hx
 dsimp only
 simp only [ups, List.set_cons_zero, List.set_cons_succ, List.cons_append, List.nil_append]
 have hw64 : IntKind.i64.wrap (97 + (p : Int)) = 97 + p := wrap64 (by omega) (by omega)
 have hw32 : IntKind.i32.wrap (97 + (p : Int)) = 97 + p := by simp [IntKind.wrap, IntKind.bits, IntKind.signed]; omega
 have hge : (0 : Int) <= 97 + p := by omega
 have hl8 : (97 : Int) + p < 128 := by omega
 have hto : ((97 : Int) + p).toNat = 97 + p := by omega
 by_cases hlt : p < seen.length
 ·obtain ⟨w, ht⟩ := get_lt hlt
  have htm : w ∈ seen := List.mem_of_getElem? ht
  have hgt : seen[p] = w := by rw [List.getElem?_eq_getElem hlt] at ht; exact Option.some.inj ht
  have hdr : seen.drop p = w :: seen.drop (p + 1) := by rw [List.drop_eq_getElem_cons hlt, hgt]
  rw [hdr] at he hm
  have hlr : p < (eNs seen).length := by rw [eNs_len]; exact hlt
  have hgr : (eNs seen)[p] = [.i w] := by simp [eNs, hgt]
  by_cases e : w = m
  ·subst e
   rw [ixOf, if_pos rfl] at he
   have hI' : I = p := by omega
   subst hI'
   have hin : w ∈ seen := hm.2 (by simp)
   rw [if_pos hin]
   repeat' first | ((first | refine aops_end (hK _ ?_) | refine aopsD_end (hK _ ?_)); clear hK K) | ((first | refine aops_go ?_ | refine aopsD_go ?_); simp [hlr, hgr, eNs_len, hlt, hw64, hw32, hge, hl8, hto]; (try simp (disch := omega) only [wrap64]); (try (refine gen2 ?_ ?_ <;> intro hq <;> try simp [hlr, hgr, eNs_len, hlt, hw64, hw32, hge, hl8, hto] at hq))) | (refine T.ret (Done.tup (Or.inr rfl) ?_) <;> simp [resAs, Try.results15, letB] <;> omega) | refine T.rd (id := 6) mixed (fun _ => false) [] (by kernel_rfl) fun K hK => ?_ | refine T.r0 fun K hK => ?_ | refine T.ct rfl ?_ | refine T.seq ?_ | refine T.block ?_ | refine T.skip ?_
  ·rw [ixOf, if_neg e] at he
   have e' : ¬ (w : Int) = m := by omega
   have hm' : m ∈ seen ↔ m ∈ seen.drop (p + 1) := by
    rw [hm]
    simp only [List.mem_cons]
    exact ⟨fun h => h.resolve_left (fun q => e q.symm), .inr⟩
   repeat' first | ((first | refine aops_end (hK _ ?_) | refine aopsD_end (hK _ ?_)); clear hK K) | ((first | refine aops_go ?_ | refine aopsD_go ?_); simp [hlr, hgr, eNs_len, hlt, e']; (try simp (disch := omega) only [wrap64]); (try (refine gen2 ?_ ?_ <;> intro hq <;> try simp [hlr, hgr, eNs_len, hlt, e'] at hq))) | (refine ⟨p + 1, by dsimp only; omega, ⟨by omega, by omega, hm'⟩, ?_, ?_, ?_⟩ <;> simp (disch := omega) [wrap64]) | refine T.rd (id := 6) mixed (fun _ => false) [] (by kernel_rfl) fun K hK => ?_ | refine T.r0 fun K hK => ?_ | refine T.r1 fun K hK => ?_ | refine T.ct rfl ?_ | refine T.cf rfl ?_ | refine T.seq ?_ | refine T.block ?_ | refine T.skip ?_
 ·have hp' : p = seen.length := by omega
  subst hp'
  have hno : m ∉ seen := fun h => by simpa using hm.1 h
  have hI' : I = seen.length := by simp [ixOf] at he; omega
  subst hI'
  rw [if_neg hno]
  have happ : eNs (seen ++ [m]) = eNs seen ++ [[.i m]] := by simp [eNs]
  have hrow : ∀ r ∈ eNs seen, r.length = 1 := fun r hr => by simp [eNs] at hr; obtain ⟨a, _, rfl⟩ := hr; rfl
  rw [happ]
  repeat' first | ((first | refine aops_end (hK _ ?_) | refine aopsF_end (hK _ ?_)); clear hK K) | ((first | refine aops_go ?_ | refine aopsF_go ?_); simp [eNs_len, hw64, hw32, hge, hl8, hto]; (try simp (disch := omega) only [wrap64]); (try (refine gen2 ?_ ?_ <;> intro hq <;> try simp [eNs_len, hw64, hw32, hge, hl8, hto] at hq))) | (refine ⟨hrow, by omega, by omega, ?_⟩) | (refine ⟨by omega, by omega, ?_⟩) | (refine T.ret (Done.tup (Or.inr rfl) ?_) <;> simp [resAs, Try.results15, letB, eNs_len] <;> omega) | refine T.rdF (id := 8) mixed (fun i => i == 5) [5, 7, 11] [1, 3, 4, 9, 10] 12 [] (by kernel_rfl) fun K hK => ?_ | refine T.rs (id := 4) (fun _ => false) fun K hK => ?_ | refine T.cf rfl ?_ | refine T.seq ?_ | refine T.exit ?_

theorem l1TextB_ok (c : Int) (hc : c = 2 \/ c = 3) : ACalls Try.prog 32 [aTy (.mk c [])] [] (.s [signB c]) [] [] := by
 rcases hc with rfl | rfl
 ·refine ACalls.of_body Try.func32 (by kernel_rfl) rfl (by kernel_rfl) (by simp [Try.ntmps32]) (by simp) ?_
  rw [Try.ntmps32]
  repeat' first | (refine aops_end (hK _ ?_); clear hK K) | (refine aops_go ?_; simp; (try (refine gen2 ?_ ?_ <;> intro hq <;> try simp at hq))) | (refine T.ret (Done.data (Or.inr rfl) ?_ ?_) <;> simp [Try.results32, signB] <;> omega) | refine T.r0 fun K hK => ?_ | refine T.ct rfl ?_ | refine T.cf rfl ?_ | refine T.seq ?_ | refine T.block ?_
 ·refine ACalls.of_body Try.func32 (by kernel_rfl) rfl (by kernel_rfl) (by simp [Try.ntmps32]) (by simp) ?_
  rw [Try.ntmps32]
  repeat' first | (refine aops_end (hK _ ?_); clear hK K) | (refine aops_go ?_; simp; (try (refine gen2 ?_ ?_ <;> intro hq <;> try simp at hq))) | (refine T.ret (Done.data (Or.inr rfl) ?_ ?_) <;> simp [Try.results32, signB] <;> omega) | refine T.r0 fun K hK => ?_ | refine T.ct rfl ?_ | refine T.cf rfl ?_ | refine T.seq ?_ | refine T.block ?_

theorem text_leaf (B ls : List IT) (t : IT) (c : Int) (hc : c = 2 \/ c = 3) (rows : List (List DV)) (h1 : ACalls Try.prog 31 [aSt B ls, aIT t] [] (aIT (.b c)) [] []) :
  ACalls Try.prog 15 [aSt B ls, aIT t, .l rows] [] (.tup [.s [signB c], .l rows]) [] [] := by
 have h2 := l1TextB_ok c hc
 have h0 : ¬ c = 0 := by omega
 refine ACalls.of_body Try.func15 (by kernel_rfl) rfl (by kernel_rfl) (by simp [Try.ntmps15]) (by simp) ?_
 rw [Try.ntmps15]
 repeat' first | (refine aops_end (hK _ ?_); clear hK K) | ((first | refine aops_go ?_ | refine wpcall_pure rfl (h1) ?_ | (refine wpcall_pure ?_ (h2) ?_; (focus (solve | simp [h0])))); simp [h0]; (try (refine gen2 ?_ ?_ <;> intro hq <;> try simp [h0] at hq))) | (refine T.ret (Done.tup (Or.inr rfl) ?_) <;> simp [resAs, Try.results15] <;> omega) | refine T.r0 fun K hK => ?_ | refine T.ct rfl ?_ | refine T.cf rfl ?_ | refine T.seq ?_ | refine T.skip ?_

theorem text_pair (B ls : List IT) (t : IT) (c : Int) (hc : c = 4 \/ c = 5) (x y : IT) (r0 r1 r2 : List (List DV)) (a b : List UInt8) (ha : a.length <= 100000) (hb : b.length <= 100000) (h1 : ACalls Try.prog 31 [aSt B ls, aIT t] [] (aIT (.p c x y)) [] [])
  (h2 : ACalls Try.prog 15 [aSt B ls, aIT x, .l r0] [] (.tup [.s a, .l r1]) [] []) (h3 : ACalls Try.prog 15 [aSt B ls, aIT y, .l r1] [] (.tup [.s b, .l r2]) [] []) :
  ACalls Try.prog 15 [aSt B ls, aIT t, .l r0] [] (.tup [.s (40 :: (a ++ signB c :: (b ++ [41]))), .l r2]) [] [] := by
 rcases hc with rfl | rfl
 ·refine ACalls.of_body Try.func15 (by kernel_rfl) rfl (by kernel_rfl) (by simp [Try.ntmps15]) (by simp) ?_
  rw [Try.ntmps15]
  repeat' first | ((first | refine aops_end (hK _ ?_) | refine aopsD_end (hK _ ?_)); clear hK K) | ((first | refine aops_go ?_ | refine aopsD_go ?_ | refine wpcall_pure rfl (h1) ?_ | (refine wpcall_pure ?_ (h2) ?_; (focus (solve | simp [eIT_def x, eIT_def y]))) | (refine wpcall_pure ?_ (h3) ?_; (focus (solve | simp [eIT_def x, eIT_def y])))); simp [eIT_def x, eIT_def y]; (try simp (disch := omega) only [wrap64, catLe]); (try (refine gen2 ?_ ?_ <;> intro hq <;> try simp [eIT_def x, eIT_def y] at hq))) | (refine T.ret (Done.tup (Or.inr rfl) ?_) <;> simp [resAs, Try.results15, signB] <;> omega) | refine T.rd (id := 11) mixed (fun _ => false) [] (by kernel_rfl) fun K hK => ?_ | refine T.rd (id := 12) mixed (fun _ => false) [] (by kernel_rfl) fun K hK => ?_ | refine T.r0 fun K hK => ?_ | refine T.cf rfl ?_ | refine T.seq ?_ | refine T.skip ?_
 ·refine ACalls.of_body Try.func15 (by kernel_rfl) rfl (by kernel_rfl) (by simp [Try.ntmps15]) (by simp) ?_
  rw [Try.ntmps15]
  repeat' first | ((first | refine aops_end (hK _ ?_) | refine aopsD_end (hK _ ?_)); clear hK K) | ((first | refine aops_go ?_ | refine aopsD_go ?_ | refine wpcall_pure rfl (h1) ?_ | (refine wpcall_pure ?_ (h2) ?_; (focus (solve | simp [eIT_def x, eIT_def y]))) | (refine wpcall_pure ?_ (h3) ?_; (focus (solve | simp [eIT_def x, eIT_def y])))); simp [eIT_def x, eIT_def y]; (try simp (disch := omega) only [wrap64, catLe]); (try (refine gen2 ?_ ?_ <;> intro hq <;> try simp [eIT_def x, eIT_def y] at hq))) | (refine T.ret (Done.tup (Or.inr rfl) ?_) <;> simp [resAs, Try.results15, signB] <;> omega) | refine T.rd (id := 11) mixed (fun _ => false) [] (by kernel_rfl) fun K hK => ?_ | refine T.rd (id := 12) mixed (fun _ => false) [] (by kernel_rfl) fun K hK => ?_ | refine T.r0 fun K hK => ?_ | refine T.r1 fun K hK => ?_ | refine T.ct rfl ?_ | refine T.cf rfl ?_ | refine T.seq ?_ | refine T.skip ?_

theorem l15Text_ok (B ls : List IT) (hS : ScB B) (hKd : KdB B) (hB : B.length <= 1048576) : ∀ (k : Nat) (t : IT), ex B k t = true -> sc B.length t = true -> kdI t -> ∀ seen : List Nat, 2 * seen.length + szI B k t <= 60 -> ACalls Try.prog 15 [aSt B ls, aIT t, .l (eNs seen)] [] (.tup [.s (txI B k t seen).1, .l (eNs (txI B k t seen).2)]) [] [] := by
 intro k
 induction k using Nat.strongRecOn with
 | _ k ih =>
  intro t hx ht hk seen hz
  have h1 := l15Head_ok B ls hS hKd hB k t hx ht hk
  have hhd := hd_isHd hx
  have hs2 := hd_sc hS (k := k) ht
  have hk2 := hd_kd hKd (k := k) hk
  have hx2 := hd_ex hx
  have hkk := fun c x y => hd_kids (c := c) (x := x) (y := y) hx
  rw [<- szI_hd hx] at hz
  rw [<- txI_hd hx]
  generalize hd B k t = u at *
  obtain ⟨k', rfl⟩ : ∃ k', k = k' + 1 := ⟨k - 1, by cases k <;> simp [ex] at hx ⊢⟩
  cases hu : u with
  | v m =>
   subst hu
   have hb := hhd m rfl
   rw [show txI B (k' + 1) (.v m) seen = ([letB (ixOf m seen)], if m ∈ seen then seen else seen ++ [m]) by simp [txI, hb]]
   exact text_var B ls t m seen (by omega) h1
  | b c =>
   subst hu
   exact text_leaf B ls t c hk2 _ h1
  | p c x y =>
   subst hu
   obtain ⟨j, hj, hxx, hxy⟩ := hkk c x y rfl
   have hxk : ex B k' x = true /\ ex B k' y = true := by simpa [ex] using hx2
   have e1 := fun s => txI_stable (seen := s) hxx (show j <= k' by omega)
   have e2 := fun s => txI_stable (seen := s) hxy (show j <= k' by omega)
   have z1 := szI_stable hxx (show j <= k' by omega)
   have z2 := szI_stable hxy (show j <= k' by omega)
   simp only [szI, z1, z2] at hz
   simp only [txI, e1, e2]
   obtain ⟨l1, l2, l3⟩ := txI_len (seen := seen) hxx
   have p2 := szI_pos (B := B) (k := j) (t := y)
   have g1 := ih j hj x hxx (sc_kids hs2 x (by simp)) (kdI_kids hk2 x (by simp)) seen (by omega)
   have g2 := ih j hj y hxy (sc_kids hs2 y (by simp)) (kdI_kids hk2 y (by simp)) (txI B j x seen).2 (by omega)
   obtain ⟨l4, l5, l6⟩ := txI_len (seen := (txI B j x seen).2) hxy
   exact text_pair B ls t c (by simp only [kdI] at hk2; exact hk2.1) x y _ _ _ _ _ (by omega) (by omega) h1 g1 g2
end Go.Proofs.Ytloolmchekcmeaa

namespace Go.Proofs.Ytloolmchekcmeaa
attribute [-simp] Go.Av.astepJ Go.Av.relC Go.Av.relL Go.Av.relV Go.Av.relVs Go.Av.callJ
open Go Go.Av
attribute [local irreducible] T ACalls TX EX LX Draws Some_ ACallsX eTy eTm MTy.kind MTy.kids MTm.kind MTm.name MTm.num MTm.ty MTm.fr MTm.label MTm.kids
attribute [local simp] eTy_def eTm_def
set_option maxHeartbeats 16000000
set_option maxRecDepth 8000
attribute [local simp] Option.bind

theorem bare_small {e : MTm} (hv : termValidM e = true) : Ba (mapM bareG e) /\ TmV 14 12 (mapM bareG e) /\ nodesM (mapM bareG e) <= 30 /\ (typesM (mapM bareG e)).length <= 30 := by
 obtain ⟨h1, h2⟩ := termValidM_iff.1 hv
 obtain ⟨h3, _, h4⟩ := bare_valid h1 (.inr rfl)
 have h5 := h3.types.2
 exact ⟨Ba.of h1, h3, by omega, by omega⟩
theorem condI_nil (e : MTm) (h1 : nodesM e <= 30) (h2 : (typesM e).length <= 30) : CondI [] [] [] [] (nodesM e + 0) ((typesM e).length + 0) :=
 ⟨okB_nil, fun t h => (by cases h), fun t h => (by cases h), ctxI_nil, by simp; omega, by simp; omega⟩
theorem inferS_whole {e : MTm} (hv : termValidM e = true) : (∃ k B ls t, Whole (mapM bareG e) k B ls t /\ InfA [] [] (mapM bareG e) [] [] (B, ls, t, true)) \/ ((∃ k, inf k (mapM bareG e) [] [] [] [] = some none) /\ ∃ B ls t, InfA [] [] (mapM bareG e) [] [] (B, ls, t, false)) := by
 obtain ⟨hb, _, hn, ht⟩ := bare_small hv
 rcases whole_or hb with ⟨k, B, ls, t, hw⟩ | ⟨k, hk⟩
 ·obtain ⟨x, hA, r, hr, ha⟩ := l15Infer_ok k hb [] [] [] [] 0 0 (fun t h => (by cases h)) (by simp; omega) (condI_nil _ hn ht) ⟨_, hw.inf⟩
  rw [hw.inf] at hr
  cases hr
  obtain ⟨x1, x2, x3, x4⟩ := x
  simp only [ansI] at ha
  obtain ⟨rfl, rfl, rfl, rfl⟩ := ha
  exact .inl ⟨k, _, _, _, hw, hA⟩
 ·obtain ⟨x, hA, r, hr, ha⟩ := l15Infer_ok k hb [] [] [] [] 0 0 (fun t h => (by cases h)) (by simp; omega) (condI_nil _ hn ht) ⟨_, hk⟩
  rw [hk] at hr
  cases hr
  obtain ⟨x1, x2, x3, x4⟩ := x
  simp only [ansI] at ha
  subst ha
  exact .inr ⟨⟨k, hk⟩, _, _, _, hA⟩

theorem GeneralTypeS_ok (e : MTm) (hn : nTm e <= 1073741824) : ACalls Try.prog 5 [aTm e] [] (.tup [.s ((genM e).getD []), .b (genM e).isSome]) [] [] := by
 have h1 := TermValidS_ok e (by omega)
 rw [genM]
 cases hv : termValidM e with
 | false =>
  rw [hv] at h1
  simp only [Bool.false_eq_true, if_false, Option.getD_none, Option.isSome_none]
  refine ACalls.of_body Try.func5 (by kernel_rfl) rfl (by kernel_rfl) (by simp [Try.ntmps5]) (by simp) ?_
  rw [Try.ntmps5]
  repeat' first | ((first | refine aops_end (hK _ ?_) | refine aopsD_end (hK _ ?_) | refine aopsF_end (hK _ ?_)); clear hK K) | ((first | refine aops_go ?_ | refine aopsD_go ?_ | refine aopsF_go ?_ | refine wpcall_pure rfl (h1) ?_); simp; (try (refine gen2 ?_ ?_ <;> intro hq <;> try simp at hq))) | (refine T.ret (Done.tup (Or.inr rfl) ?_) <;> simp [resAs, Try.results5] <;> omega) | refine T.r0 fun K hK => ?_ | refine T.r1 fun K hK => ?_ | (refine ⟨by omega, ?_⟩) | refine T.ct rfl ?_ | refine T.cf rfl ?_ | refine T.seq ?_ | refine T.block ?_ | refine T.skip ?_ | refine T.exit ?_
 | true =>
  rw [hv] at h1
  simp only [if_true]
  have h2 := l4Bare_ok 14 e 12 (termValidM_iff.1 hv).1 hn
  rcases inferS_whole hv with ⟨k, B, ls, t, hw, hA⟩ | ⟨⟨k, hk⟩, B, ls, t, hA⟩
  ·obtain ⟨hi, hKB, hKl, hkd, hll, hls, hBl⟩ := hw.ok
   obtain ⟨hb, _, hnn, _⟩ := bare_small hv
   obtain ⟨K, hK⟩ := hw.fuel
   obtain ⟨j, hj⟩ := ex_of_fuel hK hi.sct
   have h3 := l15Size_ok B ls hi.ok.sc hKB (by omega) j t hj hi.sct hkd 30 (by omega)
   rw [InfA] at hA
   dsimp only at hA
   by_cases hz : szI B j t <= 30
   ·have h4 := l15Text_ok B ls hi.ok.sc hKB (by omega) j t hj hi.sct hkd [] (by simp; omega)
    rw [genB_some hw hj hz]
    simp only [Option.getD_some, Option.isSome_some]
    have hm : min (szI B j t) (30 + 1) = szI B j t := by omega
    rw [hm] at h3
    have hc : ¬ (30 : Int) < szI B j t := by omega
    simp only [eNs, List.map_nil] at h4
    generalize txI B j t [] = W at *
    generalize szI B j t = Z at *
    generalize mapM bareG e = E at *
    refine ACalls.of_body Try.func5 (by kernel_rfl) rfl (by kernel_rfl) (by simp [Try.ntmps5]) (by simp) ?_
    rw [Try.ntmps5]
    repeat' first | ((first | refine aops_end (hK _ ?_) | refine aopsD_end (hK _ ?_) | refine aopsF_end (hK _ ?_)); clear hK K) | ((first | refine aops_go ?_ | refine aopsD_go ?_ | refine aopsF_go ?_ | refine wpcall_pure rfl (h1) ?_ | refine wpcall_pure rfl (h2) ?_ | (refine wpcall_pure ?_ (hA) ?_; (focus (solve | simp [hc]))) | refine wpcall_pure rfl (h3) ?_ | (refine wpcall_pure ?_ (h4) ?_; (focus (solve | simp [hc])))); simp [hc]; (try (refine gen2 ?_ ?_ <;> intro hq <;> try simp [hc] at hq))) | (refine T.ret (Done.tup (Or.inr rfl) ?_) <;> simp [resAs, Try.results5] <;> omega) | refine T.r0 fun K hK => ?_ | refine T.r1 fun K hK => ?_ | (refine ⟨by omega, ?_⟩) | refine T.ct rfl ?_ | refine T.cf rfl ?_ | refine T.seq ?_ | refine T.block ?_ | refine T.skip ?_ | refine T.exit ?_
   ·rw [genB_large hw hj hz]
    simp only [Option.getD_none, Option.isSome_none]
    have hm : min (szI B j t) (30 + 1) = 31 := by omega
    rw [hm] at h3
    generalize mapM bareG e = E at *
    refine ACalls.of_body Try.func5 (by kernel_rfl) rfl (by kernel_rfl) (by simp [Try.ntmps5]) (by simp) ?_
    rw [Try.ntmps5]
    repeat' first | ((first | refine aops_end (hK _ ?_) | refine aopsD_end (hK _ ?_) | refine aopsF_end (hK _ ?_)); clear hK K) | ((first | refine aops_go ?_ | refine aopsD_go ?_ | refine aopsF_go ?_ | refine wpcall_pure rfl (h1) ?_ | refine wpcall_pure rfl (h2) ?_ | (refine wpcall_pure ?_ (hA) ?_; (focus (solve | simp))) | refine wpcall_pure rfl (h3) ?_); simp; (try (refine gen2 ?_ ?_ <;> intro hq <;> try simp at hq))) | (refine T.ret (Done.tup (Or.inr rfl) ?_) <;> simp [resAs, Try.results5] <;> omega) | refine T.r0 fun K hK => ?_ | refine T.r1 fun K hK => ?_ | (refine ⟨by omega, ?_⟩) | refine T.ct rfl ?_ | refine T.cf rfl ?_ | refine T.seq ?_ | refine T.block ?_ | refine T.skip ?_ | refine T.exit ?_
  ·rw [genB_none hk]
   simp only [Option.getD_none, Option.isSome_none]
   rw [InfA] at hA
   dsimp only at hA
   generalize mapM bareG e = E at *
   refine ACalls.of_body Try.func5 (by kernel_rfl) rfl (by kernel_rfl) (by simp [Try.ntmps5]) (by simp) ?_
   rw [Try.ntmps5]
   repeat' first | ((first | refine aops_end (hK _ ?_) | refine aopsD_end (hK _ ?_) | refine aopsF_end (hK _ ?_)); clear hK K) | ((first | refine aops_go ?_ | refine aopsD_go ?_ | refine aopsF_go ?_ | refine wpcall_pure rfl (h1) ?_ | refine wpcall_pure rfl (h2) ?_ | (refine wpcall_pure ?_ (hA) ?_; (focus (solve | simp)))); simp; (try (refine gen2 ?_ ?_ <;> intro hq <;> try simp at hq))) | (refine T.ret (Done.tup (Or.inr rfl) ?_) <;> simp [resAs, Try.results5] <;> omega) | refine T.r0 fun K hK => ?_ | refine T.r1 fun K hK => ?_ | (refine ⟨by omega, ?_⟩) | refine T.ct rfl ?_ | refine T.cf rfl ?_ | refine T.seq ?_ | refine T.block ?_ | refine T.skip ?_ | refine T.exit ?_
end Go.Proofs.Ytloolmchekcmeaa
