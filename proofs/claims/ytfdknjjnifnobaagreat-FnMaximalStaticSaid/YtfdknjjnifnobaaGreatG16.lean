/- A part of the library of this seat: a value-semantic program logic over the model, plain models, and walks of functions. -/
import Derived.Test.YtfdknjjnifnobaaGreatG15
set_option linter.unusedVariables false
set_option linter.unusedSimpArgs false
namespace Go.Proofs.YtfdknjjnifnobaaGreat
open Go Go.Av
attribute [local irreducible] T ACalls TX EX LX Draws Some_ ACallsX eTy eTm MTy.kind MTy.kids MTm.kind MTm.name MTm.num MTm.ty MTm.fr MTm.label MTm.kids
attribute [local simp] eTy_def eTm_def
set_option maxHeartbeats 16000000
set_option maxRecDepth 8000

@[simp] theorem td_set26 : td Tryz.prog 107 = some { ag := true, sz := 26, by_ := 26, zero := some (rowB noB), el := none, ar := some (26, 4), fl := [], ik := none, isS := false, isB := false } := keep (by kernel_rfl)

end Go.Proofs.YtfdknjjnifnobaaGreat

namespace Go.Proofs.YtfdknjjnifnobaaGreat
open Go Go.Av
attribute [local irreducible] T ACalls TX EX LX Draws Some_ ACallsX eTy eTm MTy.kind MTy.kids MTm.kind MTm.name MTm.num MTm.ty MTm.fr MTm.label MTm.kids
attribute [local simp] eTy_def eTm_def
set_option maxHeartbeats 16000000
set_option maxRecDepth 8000
attribute [local simp] Option.bind

theorem ground_ok (k : Int) : ACalls Tryz.prog 235 [.i k] [] (aTy (groundT k)) [] [] := by
  have h1 := base_ok 1
  by_cases h4 : k = 4
  · subst h4
    rw [show groundT 4 = .mk 4 [anyT, anyT] from rfl]
    have h2 := both_ok 4 anyT anyT
    refine ACalls.of_body Tryz.func235 (by kernel_rfl) rfl (by kernel_rfl) (by simp [Tryz.ntmps235]) (by simp) ?_
    rw [Tryz.ntmps235]
    repeat' first | ((first | refine aops_end (hK _ ?_) | refine aopsD_end (hK _ ?_) | refine aopsF_end (hK _ ?_)); clear hK K) | ((first | refine aops_go ?_ | refine aopsD_go ?_ | refine aopsF_go ?_); simp; (try (refine gen fun q hq => ?_; cases q <;> (try simp at hq) <;> (try (have hh : True := hq; clear hh hq))))) | (refine wpcall_pure rfl (h1) ?_; simp; (try (refine gen fun q hq => ?_; cases q <;> (try simp at hq) <;> (try (have hh : True := hq; clear hh hq))))) | (refine wpcall_pure ?_ (h2) ?_; (focus (solve | simp)); simp; (try (refine gen fun q hq => ?_; cases q <;> (try simp at hq) <;> (try (have hh : True := hq; clear hh hq))))) | (refine T.ret (Done.val (Or.inr rfl) ?_) <;> simp [resAs, Tryz.results235] <;> omega) | refine T.r0 fun K hK => ?_ | refine T.r1 fun K hK => ?_ | (refine ⟨by omega, ?_⟩) | refine T.ct rfl ?_ | refine T.cf rfl ?_ | refine T.seq ?_ | refine T.block ?_ | refine T.skip ?_ | refine T.exit ?_
  by_cases h5 : k = 5
  · subst h5
    rw [show groundT 5 = .mk 5 [anyT, anyT] from rfl]
    have h2 := both_ok 5 anyT anyT
    refine ACalls.of_body Tryz.func235 (by kernel_rfl) rfl (by kernel_rfl) (by simp [Tryz.ntmps235]) (by simp) ?_
    rw [Tryz.ntmps235]
    repeat' first | ((first | refine aops_end (hK _ ?_) | refine aopsD_end (hK _ ?_) | refine aopsF_end (hK _ ?_)); clear hK K) | ((first | refine aops_go ?_ | refine aopsD_go ?_ | refine aopsF_go ?_); simp; (try (refine gen fun q hq => ?_; cases q <;> (try simp at hq) <;> (try (have hh : True := hq; clear hh hq))))) | (refine wpcall_pure rfl (h1) ?_; simp; (try (refine gen fun q hq => ?_; cases q <;> (try simp at hq) <;> (try (have hh : True := hq; clear hh hq))))) | (refine wpcall_pure ?_ (h2) ?_; (focus (solve | simp)); simp; (try (refine gen fun q hq => ?_; cases q <;> (try simp at hq) <;> (try (have hh : True := hq; clear hh hq))))) | (refine T.ret (Done.val (Or.inr rfl) ?_) <;> simp [resAs, Tryz.results235] <;> omega) | refine T.r0 fun K hK => ?_ | refine T.r1 fun K hK => ?_ | (refine ⟨by omega, ?_⟩) | refine T.ct rfl ?_ | refine T.cf rfl ?_ | refine T.seq ?_ | refine T.block ?_ | refine T.skip ?_ | refine T.exit ?_
  · rw [show groundT k = .mk k [] by simp [groundT, h4, h5]]
    have h3 := base_ok k
    refine ACalls.of_body Tryz.func235 (by kernel_rfl) rfl (by kernel_rfl) (by simp [Tryz.ntmps235]) (by simp) ?_
    rw [Tryz.ntmps235]
    repeat' first | ((first | refine aops_end (hK _ ?_) | refine aopsD_end (hK _ ?_) | refine aopsF_end (hK _ ?_)); clear hK K) | ((first | refine aops_go ?_ | refine aopsD_go ?_ | refine aopsF_go ?_); simp [h4, h5]; (try (refine gen fun q hq => ?_; cases q <;> (try simp [h4, h5] at hq) <;> (try (have hh : True := hq; clear hh hq))))) | (refine wpcall_pure rfl (h3) ?_; simp [h4, h5]; (try (refine gen fun q hq => ?_; cases q <;> (try simp [h4, h5] at hq) <;> (try (have hh : True := hq; clear hh hq))))) | (refine T.ret (Done.val (Or.inr rfl) ?_) <;> simp [resAs, Tryz.results235] <;> omega) | refine T.r0 fun K hK => ?_ | refine T.r1 fun K hK => ?_ | (refine ⟨by omega, ?_⟩) | refine T.ct rfl ?_ | refine T.cf rfl ?_ | refine T.seq ?_ | refine T.block ?_ | refine T.skip ?_ | refine T.exit ?_

abbrev ruleR (o : Option MTm) : List AV := match o with
  | some x => [aTm x, .i 1]
  | none => [aTm zeroE, .i 3]

end Go.Proofs.YtfdknjjnifnobaaGreat

namespace Go.Proofs.YtfdknjjnifnobaaGreat
open Go Go.Av
attribute [local irreducible] T ACalls TX EX LX Draws Some_ ACallsX eTy eTm MTy.kind MTy.kids MTm.kind MTm.name MTm.num MTm.ty MTm.fr MTm.label MTm.kids
attribute [local simp] eTy_def eTm_def
set_option maxHeartbeats 16000000
set_option maxRecDepth 8000

theorem sum_take_le {α : Type} (f : α → Nat) : ∀ (l : List α) (p : Nat), ((l.take p).map f).sum ≤ (l.map f).sum
  | [], p => by simp
  | x :: r, 0 => by simp
  | x :: r, p + 1 => by have := sum_take_le f r p; simp only [List.take_succ_cons, List.map_cons, List.sum_cons]; omega
theorem sum_take_one {α : Type} (f : α → Nat) {l : List α} {p : Nat} {u : α} (h : l[p]? = some u) : ((l.take (p + 1)).map f).sum = ((l.take p).map f).sum + f u := by
  rw [List.take_add_one, h]; simp
def cntP (l : List MTy) (p : Nat) : Nat := ((l.take p).map cntM).sum
theorem cntP_zero (l : List MTy) : cntP l 0 = 0 := by simp [cntP]
theorem cntP_one {l : List MTy} {p : Nat} {u : MTy} (h : l[p]? = some u) : cntP l (p + 1) = cntP l p + cntM u := sum_take_one cntM h
theorem cntP_le (l : List MTy) (p : Nat) : cntP l p ≤ (l.map cntM).sum := sum_take_le cntM l p
theorem cntP_all (l : List MTy) : cntP l l.length = (l.map cntM).sum := by rw [cntP, List.take_length]

theorem count_i : ∀ (e : MTy), nTy e ≤ 1099511627776 → ACalls Tryz.prog 83 [aTy e] [] (.i (cntM e)) [] [] := by
  intro e
  induction e using MTy.ind with
  | h e ih =>
    intro hn
    have hle := cntM_le e
    rw [cntM_def] at hle ⊢
    by_cases h1 : e.kind = 1
    · simp only [h1, if_true]
      refine ACalls.of_body Tryz.func83 (by kernel_rfl) rfl (by kernel_rfl) (by simp [Tryz.ntmps83]) (by simp) ?_
      rw [Tryz.ntmps83]
      repeat' first | ((first | refine aops_end (hK _ ?_) | refine aopsD_end (hK _ ?_) | refine aopsF_end (hK _ ?_)); clear hK K) | ((first | refine aops_go ?_ | refine aopsD_go ?_ | refine aopsF_go ?_); simp [h1]; (try (refine gen fun q hq => ?_; cases q <;> (try simp [h1] at hq) <;> (try (have hh : True := hq; clear hh hq))))) | (refine T.ret (Done.data (Or.inr rfl) ?_ ?_) <;> simp [Tryz.results83] <;> omega) | refine T.r0 fun K hK => ?_ | refine T.r1 fun K hK => ?_ | (refine ⟨by omega, ?_⟩) | refine T.ct rfl ?_ | refine T.cf rfl ?_ | refine T.seq ?_ | refine T.block ?_ | refine T.skip ?_ | refine T.exit ?_
    rw [if_neg h1] at hle ⊢
    have hkl : e.kids.length ≤ 1099511627776 := by have := nTyS_len e.kids; rw [nTy_def] at hn; omega
    refine ACalls.of_body Tryz.func83 (by kernel_rfl) rfl (by kernel_rfl) (by simp [Tryz.ntmps83]) (by simp) ?_
    rw [Tryz.ntmps83]
    repeat' first | ((first | refine aops_end (hK _ ?_) | refine aopsD_end (hK _ ?_) | refine aopsF_end (hK _ ?_)); clear hK K) | ((first | refine aops_go ?_ | refine aopsD_go ?_ | refine aopsF_go ?_); simp [h1]; (try (refine gen fun q hq => ?_; cases q <;> (try simp [h1] at hq) <;> (try (have hh : True := hq; clear hh hq))))) | refine T.r0 fun K hK => ?_ | refine T.r1 fun K hK => ?_ | (refine ⟨by omega, ?_⟩) | refine T.ct rfl ?_ | refine T.cf rfl ?_ | refine T.seq ?_ | refine T.block ?_ | refine T.skip ?_ | refine T.exit ?_
    refine T.loopK (α := Nat × List (List CV)) [2, 10, 11] (fun x => [(3, .i (cntP e.kids x.1)), (12, .i x.1)]) (fun x => []) (fun x => x.2) (fun x A => A) (fun x => e.kids.length + 1 - x.1) (fun x => x.1 ≤ e.kids.length) (by simp; rfl) (fun x hx => ?_) (0, []) (by simp) (by simp) (by simp [cntP_zero]) (by simp [cntP_zero])
    obtain ⟨p, G⟩ := x
    dsimp only at hx ⊢
    simp only [ups, List.set_cons_zero, List.set_cons_succ, List.cons_append, List.nil_append]
    by_cases hlt : p < e.kids.length
    · obtain ⟨u, ht⟩ := get_lt hlt
      have htm : u ∈ e.kids := List.mem_of_getElem? ht
      have hgt : e.kids[p] = u := by rw [List.getElem?_eq_getElem hlt] at ht; exact Option.some.inj ht
      have hdr : e.kids.drop p = u :: e.kids.drop (p + 1) := by rw [List.drop_eq_getElem_cons hlt, hgt]
      have hu := ih u htm (by have := nTyS_mem htm; rw [nTy_def] at hn; omega)
      have hs := cntP_one ht
      have hb := cntP_le e.kids (p + 1)
      generalize cntP e.kids p = S at *
      have hs' : (cntP e.kids (p + 1) : Int) = S + cntM u := by omega
      repeat' first | ((first | refine aops_end (hK _ ?_) | refine aopsD_end (hK _ ?_) | refine aopsF_end (hK _ ?_)); clear hK K) | ((first | refine aops_go ?_ | refine aopsD_go ?_ | refine aopsF_go ?_); simp [hlt, hgt]; (try simp (disch := omega) only [wrap64]); (try (refine gen fun q hq => ?_; cases q <;> (try simp [hlt, hgt] at hq) <;> (try (have hh : True := hq; clear hh hq))))) | (refine wpcall_pure rfl (hu) ?_; simp [hlt, hgt]; (try simp (disch := omega) only [wrap64]); (try (refine gen fun q hq => ?_; cases q <;> (try simp [hlt, hgt] at hq) <;> (try (have hh : True := hq; clear hh hq))))) | (refine ⟨(p + 1, _), by dsimp only; omega, by dsimp only; omega, rfl, ?_, ?_⟩ <;> simp (disch := omega) [wrap64, hs']) | refine T.r0 fun K hK => ?_ | refine T.r1 fun K hK => ?_ | (refine ⟨by omega, ?_⟩) | refine T.ct rfl ?_ | refine T.cf rfl ?_ | refine T.seq ?_ | refine T.block ?_ | refine T.skip ?_ | refine T.exit ?_
    · have hp' : p = e.kids.length := by omega
      subst hp'
      rw [cntP_all]
      repeat' first | ((first | refine aops_end (hK _ ?_) | refine aopsD_end (hK _ ?_) | refine aopsF_end (hK _ ?_)); clear hK K) | ((first | refine aops_go ?_ | refine aopsD_go ?_ | refine aopsF_go ?_); simp [hlt]; (try (refine gen fun q hq => ?_; cases q <;> (try simp [hlt] at hq) <;> (try (have hh : True := hq; clear hh hq))))) | (refine T.ret (Done.val (Or.inr rfl) ?_) <;> simp [resAs, Tryz.results83] <;> omega) | refine T.r0 fun K hK => ?_ | refine T.r1 fun K hK => ?_ | (refine ⟨by omega, ?_⟩) | refine T.ct rfl ?_ | refine T.cf rfl ?_ | refine T.seq ?_ | refine T.block ?_ | refine T.skip ?_ | refine T.exit ?_

theorem Static1_ok (t : MTy) (hn : nTy t ≤ 1099511627776) : ACalls Tryz.prog 82 [aTy t] [] (.b (decide (0 < cntM t))) [] [] := by
  have h2 := count_i t hn
  have e : decide (0 < cntM t) = decide ((0 : Int) < cntM t) := decide_eq_decide.2 (by omega)
  rw [e]
  generalize cntM t = n at *
  refine ACalls.of_body Tryz.func82 (by kernel_rfl) rfl (by kernel_rfl) (by simp [Tryz.ntmps82]) (by simp) ?_
  rw [Tryz.ntmps82]
  repeat' first | ((first | refine aops_end (hK _ ?_) | refine aopsD_end (hK _ ?_) | refine aopsF_end (hK _ ?_)); clear hK K) | ((first | refine aops_go ?_ | refine aopsD_go ?_ | refine aopsF_go ?_); simp) | (refine wpcall_pure rfl (h2) ?_; simp) | (refine T.ret (Done.data (Or.inr rfl) ?_ ?_) <;> simp [Tryz.results82, *] <;> omega) | refine T.r0 fun K hK => ?_ | refine T.r1 fun K hK => ?_ | (refine ⟨by omega, ?_⟩) | refine T.ct rfl ?_ | refine T.cf rfl ?_ | refine T.seq ?_ | refine T.block ?_ | refine T.skip ?_ | refine T.exit ?_

theorem types_yes (e : MTm) (hh : hasTyM e.kind = true) (hn : nTm e ≤ 1099511627776)
    (ih : ∀ u ∈ e.kids, ACalls Tryz.prog 81 [aTm u] [] (.c (.own 0 (typesM u).length)) [] [{ sz := 2, ety := 25, rows := (typesM u).map eTy, wr := true }]) :
    ACalls Tryz.prog 81 [aTm e] [] (.c (.own 0 ([e.ty] ++ typesS e.kids).length)) [] [{ sz := 2, ety := 25, rows := ([e.ty] ++ typesS e.kids).map eTy, wr := true }] := by
  obtain ⟨hnt, hnf, hnk, hnu⟩ := nTm_parts hn
  have h1 := ownType_ok e.ty hnt
  have h2 := hasType_ok e
  rw [hh] at h2
  have hsm : (typesS e.kids).length ≤ 1099511627777 := by have := (typesM_small e).2; rw [typesM_def] at this; simp only [List.length_append] at this; omega
  refine ACalls.of_body Tryz.func81 (by kernel_rfl) rfl (by kernel_rfl) (by simp [Tryz.ntmps81]) (by simp) ?_
  rw [Tryz.ntmps81]
  repeat' first | ((first | refine aops_end (hK _ ?_) | refine aopsD_end (hK _ ?_) | refine aopsF_end (hK _ ?_)); clear hK K) | ((first | refine aops_go ?_ | refine aopsD_go ?_ | refine aopsF_go ?_); simp; (try (refine gen fun q hq => ?_; cases q <;> (try simp at hq) <;> (try (have hh : True := hq; clear hh hq))))) | (refine wpcall_pure rfl (h2) ?_; simp; (try (refine gen fun q hq => ?_; cases q <;> (try simp at hq) <;> (try (have hh : True := hq; clear hh hq))))) | (refine wpcall_pure rfl (h1) ?_; simp; (try (refine gen fun q hq => ?_; cases q <;> (try simp at hq) <;> (try (have hh : True := hq; clear hh hq))))) | (refine ⟨by omega, by omega, ?_⟩) | refine T.r0 fun K hK => ?_ | refine T.r1 fun K hK => ?_ | (refine ⟨by omega, ?_⟩) | refine T.ct rfl ?_ | refine T.cf rfl ?_ | refine T.seq ?_ | refine T.block ?_ | refine T.skip ?_ | refine T.exit ?_
  refine T.loopK (α := Nat × List (List CV) × List Arr) [2, 15, 16] (fun x => [(3, .c (.own 0 ([e.ty] ++ typesS (e.kids.take x.1)).length)), (17, .i x.1)]) (fun x => []) (fun x => x.2.1) (fun x _ => { sz := 2, ety := 25, rows := ([e.ty] ++ typesS (e.kids.take x.1)).map eTy, wr := true } :: x.2.2) (fun x => e.kids.length + 1 - x.1) (fun x => x.1 ≤ e.kids.length) (by simp; rfl) (fun x hx => ?_) (0, [], []) (by simp) (by simp) (by simp [typesS, eTy_def]) (by simp [typesS])
  obtain ⟨p, G, GA⟩ := x
  dsimp only at hx ⊢
  simp only [ups, List.set_cons_zero, List.set_cons_succ, List.cons_append, List.nil_append]
  by_cases hlt : p < e.kids.length
  · obtain ⟨u, ht⟩ := get_lt hlt
    have htm : u ∈ e.kids := List.mem_of_getElem? ht
    have hgt : e.kids[p] = u := by rw [List.getElem?_eq_getElem hlt] at ht; exact Option.some.inj ht
    have hdr : e.kids.drop p = u :: e.kids.drop (p + 1) := by rw [List.drop_eq_getElem_cons hlt, hgt]
    have hu := ih u htm
    have htk : typesS (e.kids.take (p + 1)) = typesS (e.kids.take p) ++ typesM u := typesS_take ht
    have hle := typesS_le e.kids (p + 1)
    rw [htk, List.length_append] at hle
    generalize typesS (e.kids.take p) = Z at *
    generalize typesM u = tu at *
    repeat' first | ((first | refine aops_end (hK _ ?_) | refine aopsD_end (hK _ ?_) | refine aopsF_end (hK _ ?_)); clear hK K) | ((first | refine aops_go ?_ | refine aopsD_go ?_ | refine aopsF_go ?_); simp [hlt, hgt]; (try simp (disch := omega) only [wrap64]); (try (refine gen fun q hq => ?_; cases q <;> (try simp [hlt, hgt] at hq) <;> (try (have hh : True := hq; clear hh hq))))) | (refine wpcall_own rfl (hu) ?_; simp [hlt, hgt]; (try simp (disch := omega) only [wrap64]); (try (refine gen fun q hq => ?_; cases q <;> (try simp [hlt, hgt] at hq) <;> (try (have hh : True := hq; clear hh hq))))) | (refine ⟨by omega, by omega, ?_⟩) | (refine ⟨(p + 1, _, GA ++ [{ sz := 2, ety := 25, rows := tu.map eTy, wr := true }]), by dsimp only; omega, by dsimp only; omega, rfl, ?_, ?_⟩ <;> simp (disch := omega) [wrap64, htk, eTy_def] <;> omega) | refine T.r0 fun K hK => ?_ | refine T.r1 fun K hK => ?_ | (refine ⟨by omega, ?_⟩) | refine T.ct rfl ?_ | refine T.cf rfl ?_ | refine T.seq ?_ | refine T.block ?_ | refine T.skip ?_ | refine T.exit ?_
  · have hp' : p = e.kids.length := by omega
    subst hp'
    rw [List.take_length]
    repeat' first | ((first | refine aops_end (hK _ ?_) | refine aopsD_end (hK _ ?_) | refine aopsF_end (hK _ ?_)); clear hK K) | ((first | refine aops_go ?_ | refine aopsD_go ?_ | refine aopsF_go ?_); simp [hlt]; (try (refine gen fun q hq => ?_; cases q <;> (try simp [hlt] at hq) <;> (try (have hh : True := hq; clear hh hq))))) | refine T.r0 fun K hK => ?_ | refine T.r1 fun K hK => ?_ | (refine ⟨by omega, ?_⟩) | refine T.ct rfl ?_ | refine T.cf rfl ?_ | refine T.seq ?_ | refine T.block ?_ | refine T.skip ?_ | refine T.exit ?_
    all_goals (refine T.ret (Done.own1 0 (Or.inr rfl) (ys := [_]) ?_ rfl ?_) <;> simp [resAs, Tryz.results81])

theorem types_no (e : MTm) (hh : hasTyM e.kind = false) (hn : nTm e ≤ 1099511627776)
    (ih : ∀ u ∈ e.kids, ACalls Tryz.prog 81 [aTm u] [] (.c (.own 0 (typesM u).length)) [] [{ sz := 2, ety := 25, rows := (typesM u).map eTy, wr := true }]) :
    ACalls Tryz.prog 81 [aTm e] [] (.c (.own 0 ([] ++ typesS e.kids).length)) [] [{ sz := 2, ety := 25, rows := ([] ++ typesS e.kids).map eTy, wr := true }] := by
  obtain ⟨hnt, hnf, hnk, hnu⟩ := nTm_parts hn
  have h1 := ownType_ok e.ty hnt
  have h2 := hasType_ok e
  rw [hh] at h2
  have hsm : (typesS e.kids).length ≤ 1099511627777 := by have := (typesM_small e).2; rw [typesM_def] at this; simp only [List.length_append] at this; omega
  refine ACalls.of_body Tryz.func81 (by kernel_rfl) rfl (by kernel_rfl) (by simp [Tryz.ntmps81]) (by simp) ?_
  rw [Tryz.ntmps81]
  repeat' first | ((first | refine aops_end (hK _ ?_) | refine aopsD_end (hK _ ?_) | refine aopsF_end (hK _ ?_)); clear hK K) | ((first | refine aops_go ?_ | refine aopsD_go ?_ | refine aopsF_go ?_); simp; (try (refine gen fun q hq => ?_; cases q <;> (try simp at hq) <;> (try (have hh : True := hq; clear hh hq))))) | (refine wpcall_pure rfl (h2) ?_; simp; (try (refine gen fun q hq => ?_; cases q <;> (try simp at hq) <;> (try (have hh : True := hq; clear hh hq))))) | (refine wpcall_pure rfl (h1) ?_; simp; (try (refine gen fun q hq => ?_; cases q <;> (try simp at hq) <;> (try (have hh : True := hq; clear hh hq))))) | (refine ⟨by omega, by omega, ?_⟩) | refine T.r0 fun K hK => ?_ | refine T.r1 fun K hK => ?_ | (refine ⟨by omega, ?_⟩) | refine T.ct rfl ?_ | refine T.cf rfl ?_ | refine T.seq ?_ | refine T.block ?_ | refine T.skip ?_ | refine T.exit ?_
  refine T.ownify 3 2 25 (by simp) ?_
  refine T.loopK (α := Nat × List (List CV) × List Arr) [2, 15, 16] (fun x => [(3, .c (.own 0 ([] ++ typesS (e.kids.take x.1)).length)), (17, .i x.1)]) (fun x => []) (fun x => x.2.1) (fun x _ => { sz := 2, ety := 25, rows := ([] ++ typesS (e.kids.take x.1)).map eTy, wr := true } :: x.2.2) (fun x => e.kids.length + 1 - x.1) (fun x => x.1 ≤ e.kids.length) (by simp; rfl) (fun x hx => ?_) (0, [], []) (by simp) (by simp) (by simp [typesS, eTy_def]) (by simp [typesS])
  obtain ⟨p, G, GA⟩ := x
  dsimp only at hx ⊢
  simp only [ups, List.set_cons_zero, List.set_cons_succ, List.cons_append, List.nil_append]
  by_cases hlt : p < e.kids.length
  · obtain ⟨u, ht⟩ := get_lt hlt
    have htm : u ∈ e.kids := List.mem_of_getElem? ht
    have hgt : e.kids[p] = u := by rw [List.getElem?_eq_getElem hlt] at ht; exact Option.some.inj ht
    have hdr : e.kids.drop p = u :: e.kids.drop (p + 1) := by rw [List.drop_eq_getElem_cons hlt, hgt]
    have hu := ih u htm
    have htk : typesS (e.kids.take (p + 1)) = typesS (e.kids.take p) ++ typesM u := typesS_take ht
    have hle := typesS_le e.kids (p + 1)
    rw [htk, List.length_append] at hle
    generalize typesS (e.kids.take p) = Z at *
    generalize typesM u = tu at *
    repeat' first | ((first | refine aops_end (hK _ ?_) | refine aopsD_end (hK _ ?_) | refine aopsF_end (hK _ ?_)); clear hK K) | ((first | refine aops_go ?_ | refine aopsD_go ?_ | refine aopsF_go ?_); simp [hlt, hgt]; (try simp (disch := omega) only [wrap64]); (try (refine gen fun q hq => ?_; cases q <;> (try simp [hlt, hgt] at hq) <;> (try (have hh : True := hq; clear hh hq))))) | (refine wpcall_own rfl (hu) ?_; simp [hlt, hgt]; (try simp (disch := omega) only [wrap64]); (try (refine gen fun q hq => ?_; cases q <;> (try simp [hlt, hgt] at hq) <;> (try (have hh : True := hq; clear hh hq))))) | (refine ⟨by omega, by omega, ?_⟩) | (refine ⟨(p + 1, _, GA ++ [{ sz := 2, ety := 25, rows := tu.map eTy, wr := true }]), by dsimp only; omega, by dsimp only; omega, rfl, ?_, ?_⟩ <;> simp (disch := omega) [wrap64, htk, eTy_def] <;> omega) | refine T.r0 fun K hK => ?_ | refine T.r1 fun K hK => ?_ | (refine ⟨by omega, ?_⟩) | refine T.ct rfl ?_ | refine T.cf rfl ?_ | refine T.seq ?_ | refine T.block ?_ | refine T.skip ?_ | refine T.exit ?_
  · have hp' : p = e.kids.length := by omega
    subst hp'
    rw [List.take_length]
    repeat' first | ((first | refine aops_end (hK _ ?_) | refine aopsD_end (hK _ ?_) | refine aopsF_end (hK _ ?_)); clear hK K) | ((first | refine aops_go ?_ | refine aopsD_go ?_ | refine aopsF_go ?_); simp [hlt]; (try (refine gen fun q hq => ?_; cases q <;> (try simp [hlt] at hq) <;> (try (have hh : True := hq; clear hh hq))))) | refine T.r0 fun K hK => ?_ | refine T.r1 fun K hK => ?_ | (refine ⟨by omega, ?_⟩) | refine T.ct rfl ?_ | refine T.cf rfl ?_ | refine T.seq ?_ | refine T.block ?_ | refine T.skip ?_ | refine T.exit ?_
    all_goals (refine T.ret (Done.own1 0 (Or.inr rfl) (ys := [_]) ?_ rfl ?_) <;> simp [resAs, Tryz.results81])

theorem types_own : ∀ (e : MTm), nTm e ≤ 1099511627776 → ACalls Tryz.prog 81 [aTm e] [] (.c (.own 0 (typesM e).length)) [] [{ sz := 2, ety := 25, rows := (typesM e).map eTy, wr := true }] := by
  intro e
  induction e using MTm.ind with
  | h e ih =>
    intro hn
    obtain ⟨_, _, _, hnu⟩ := nTm_parts hn
    have ih' := fun u hu => ih u hu (hnu u hu)
    rw [typesM_def]
    cases hh : hasTyM e.kind with
    | true => rw [if_pos rfl]; exact types_yes e hh hn ih'
    | false => rw [if_neg (by simp)]; exact types_no e hh hn ih'

theorem StaticTerm_ok (e : MTm) (hn : nTm e ≤ 1073741824) : ACalls Tryz.prog 24 [aTm e] [] (.b (staticM e)) [] [] := by
  have h1 := TermValid_ok e (by omega)
  simp only [staticM]
  cases hv : termValidM e with
  | false =>
    rw [hv] at h1
    refine ACalls.of_body Tryz.func24 (by kernel_rfl) rfl (by kernel_rfl) (by simp [Tryz.ntmps24]) (by simp) ?_
    rw [Tryz.ntmps24]
    repeat' first | ((first | refine aops_end (hK _ ?_) | refine aopsD_end (hK _ ?_) | refine aopsF_end (hK _ ?_)); clear hK K) | ((first | refine aops_go ?_ | refine aopsD_go ?_ | refine aopsF_go ?_); simp; (try (refine gen fun q hq => ?_; cases q <;> (try simp at hq) <;> (try (have hh : True := hq; clear hh hq))))) | (refine wpcall_pure rfl (h1) ?_; simp; (try (refine gen fun q hq => ?_; cases q <;> (try simp at hq) <;> (try (have hh : True := hq; clear hh hq))))) | (refine T.ret (Done.data (Or.inr rfl) ?_ ?_) <;> simp [Tryz.results24] <;> omega) | refine T.r0 fun K hK => ?_ | refine T.r1 fun K hK => ?_ | (refine ⟨by omega, ?_⟩) | refine T.ct rfl ?_ | refine T.cf rfl ?_ | refine T.seq ?_ | refine T.block ?_ | refine T.skip ?_ | refine T.exit ?_
  | true =>
    rw [hv] at h1
    have h2 := types_own e (by omega)
    have hs := fun t ht => shape4 ((termValidM_iff.1 hv).1.types.1 t ht)
    have hl := (termValidM_iff.1 hv).1.types.2
    have h30 := (termValidM_iff.1 hv).2
    have h3 := containsFuncTy_0 82 (typesM e) (fun t => decide (0 < cntM t)) (by omega) (fun t ht => Static1_ok t (by have := hs t ht; omega))
    generalize (typesM e).any (fun t => decide (0 < cntM t)) = R at *
    generalize typesM e = ts at *
    refine ACalls.of_body Tryz.func24 (by kernel_rfl) rfl (by kernel_rfl) (by simp [Tryz.ntmps24]) (by simp) ?_
    rw [Tryz.ntmps24]
    repeat' first | ((first | refine aops_end (hK _ ?_) | refine aopsD_end (hK _ ?_) | refine aopsF_end (hK _ ?_)); clear hK K) | ((first | refine aops_go ?_ | refine aopsD_go ?_ | refine aopsF_go ?_); simp; (try (refine gen fun q hq => ?_; cases q <;> (try simp at hq) <;> (try (have hh : True := hq; clear hh hq))))) | (refine wpcall_pure rfl (h1) ?_; simp; (try (refine gen fun q hq => ?_; cases q <;> (try simp at hq) <;> (try (have hh : True := hq; clear hh hq))))) | (refine wpcall_pure ?_ (h3) ?_; (focus (solve | simp)); simp; (try (refine gen fun q hq => ?_; cases q <;> (try simp at hq) <;> (try (have hh : True := hq; clear hh hq))))) | (refine wpcall_own rfl (h2) ?_; simp; (try (refine gen fun q hq => ?_; cases q <;> (try simp at hq) <;> (try (have hh : True := hq; clear hh hq))))) | (refine T.ret (Done.data (Or.inr rfl) ?_ ?_) <;> simp [Tryz.results24, *] <;> omega) | refine T.r0 fun K hK => ?_ | refine T.r1 fun K hK => ?_ | (refine ⟨by omega, ?_⟩) | refine T.ct rfl ?_ | refine T.cf rfl ?_ | refine T.seq ?_ | refine T.block ?_ | refine T.skip ?_ | refine T.exit ?_

end Go.Proofs.YtfdknjjnifnobaaGreat

namespace Go.Proofs.YtfdknjjnifnobaaGreat
open Go Go.Av
attribute [local irreducible] T ACalls TX EX LX Draws Some_ ACallsX eTy eTm MTy.kind MTy.kids MTm.kind MTm.name MTm.num MTm.ty MTm.fr MTm.label MTm.kids
attribute [local simp] eTy_def eTm_def
set_option maxHeartbeats 16000000
set_option maxRecDepth 8000
@[simp] theorem td_uint : td Tryz.prog 132 = some { ag := false, sz := 1, by_ := 8, zero := some [.d (.int .u64 0)], el := none, ar := none, fl := [], ik := some .u64, isS := false, isB := false } := keep (by kernel_rfl)
@[simp] theorem td_intS2 : td Tryz.prog 51 = some { ag := false, sz := 1, by_ := 24, zero := some [.nil], el := some 3, ar := none, fl := [], ik := none, isS := false, isB := false } := keep (by kernel_rfl)

end Go.Proofs.YtfdknjjnifnobaaGreat

namespace Go.Proofs.YtfdknjjnifnobaaGreat
open Go Go.Av
attribute [local irreducible] T ACalls TX EX LX Draws Some_ ACallsX eTy eTm MTy.kind MTy.kids MTm.kind MTm.name MTm.num MTm.ty MTm.fr MTm.label MTm.kids
attribute [local simp] eTy_def eTm_def
set_option maxHeartbeats 16000000
set_option maxRecDepth 8000

def redM (e : MTm) : Int := if castValidM e = true then ((castsM e).length : Int) - (castsM (simpM e)).length else 0

/-- A copy whose operands the caller may change. -/
abbrev tmOwn (e : MTm) : AV := .agg [.d (.i e.kind), .d (.str e.name), .d (.i e.num), .d (.i e.ty.kind), .d (.sl (e.ty.kids.map eTy)), .d (.i e.fr.kind), .d (.sl (e.fr.kids.map eTy)), .d (.i e.label), .own 0 e.kids.length]
/-- The operands, simplified as_ far as_ a place. -/
def mixM (l : List MTm) (p : Nat) : List MTm := (l.map simpM).take p ++ l.drop p
end Go.Proofs.YtfdknjjnifnobaaGreat

namespace Go.Proofs.YtfdknjjnifnobaaGreat
open Go Go.Av
attribute [local irreducible] T ACalls TX EX LX Draws Some_ ACallsX eTy eTm MTy.kind MTy.kids MTm.kind MTm.name MTm.num MTm.ty MTm.fr MTm.label MTm.kids
attribute [local simp] eTy_def eTm_def
set_option maxHeartbeats 16000000
set_option maxRecDepth 8000
attribute [local simp] Option.bind

abbrev stepR (p : MTm × Int × Int) : List AV := [aTm p.1, .i p.2.1, .i p.2.2]

abbrev runR (p : MTm × Int × Int × Int) : List AV := [aTm p.1, .i p.2.1, .i p.2.2.1, .i p.2.2.2]

end Go.Proofs.YtfdknjjnifnobaaGreat

namespace Go.Proofs.YtfdknjjnifnobaaGreat
open Go Go.Av
attribute [local irreducible] T ACalls TX EX LX Draws Some_ ACallsX eTy eTm MTy.kind MTy.kids MTm.kind MTm.name MTm.num MTm.ty MTm.fr MTm.label MTm.kids
attribute [local simp] eTy_def eTm_def
set_option maxHeartbeats 16000000
set_option maxRecDepth 8000
attribute [local simp] Option.bind

abbrev redR (e : MTm) : List AV := match ruleM e with
  | some x => [aTm x, .i 1, .i 0]
  | none => [aTm zeroE, .i 2, .i (wrongM e.kind)]

/-- The step, as_ the reference answers: nothing of a term that goes wrong. -/
def stepS (p : MTm × Int × Int) : MTm × Int × Int := if p.2.1 = 1 then (p.1, 1, 0) else (zeroE, p.2.1, p.2.2)

/-- A run, as_ the reference answers: nothing of a term that is not done. -/
def evR (p : MTm × Int × Int × Int) : MTm × Int × Int × Int := if p.2.1 = 1 then (zeroE, 5, 0, p.2.2.2) else p

end Go.Proofs.YtfdknjjnifnobaaGreat

namespace Go.Proofs.YtfdknjjnifnobaaGreat
open Go Go.Av
attribute [local irreducible] T ACalls TX EX LX Draws Some_ ACallsX eTy eTm MTy.kind MTy.kids MTm.kind MTm.name MTm.num MTm.ty MTm.fr MTm.label MTm.kids
attribute [local simp] eTy_def eTm_def
set_option maxHeartbeats 16000000
set_option maxRecDepth 8000

end Go.Proofs.YtfdknjjnifnobaaGreat

namespace Go.Proofs.YtfdknjjnifnobaaGreat
open Go Go.Av
attribute [local irreducible] T ACalls TX EX LX Draws Some_ ACallsX eTy eTm MTy.kind MTy.kids MTm.kind MTm.name MTm.num MTm.ty MTm.fr MTm.label MTm.kids
attribute [local simp] eTy_def eTm_def
set_option maxHeartbeats 16000000
set_option maxRecDepth 8000

def castC (e : MTm) (f t : MTy) (l : Int) : MTm := if sameTy f t = true then e else tCast e f t l
end Go.Proofs.YtfdknjjnifnobaaGreat

namespace Go.Proofs.YtfdknjjnifnobaaGreat
open Go Go.Av
attribute [local irreducible] T ACalls TX EX LX Draws Some_ ACallsX eTy eTm MTy.kind MTy.kids MTm.kind MTm.name MTm.num MTm.ty MTm.fr MTm.label MTm.kids
attribute [local simp] eTy_def eTm_def
set_option maxHeartbeats 16000000
set_option maxRecDepth 8000

end Go.Proofs.YtfdknjjnifnobaaGreat

namespace Go.Proofs.YtfdknjjnifnobaaGreat
open Go Go.Av
attribute [local irreducible] T ACalls TX EX LX Draws Some_ ACallsX eTy eTm MTy.kind MTy.kids MTm.kind MTm.name MTm.num MTm.ty MTm.fr MTm.label MTm.kids
attribute [local simp] eTy_def eTm_def
set_option maxHeartbeats 16000000
set_option maxRecDepth 8000
attribute [local simp] Option.bind

theorem firstIx_cases {α : Type} (q : α → Bool) : ∀ (l : List α) (i0 : Int), (firstIx q l i0 = -1 ∧ l.filter (fun t => !q t) = l) ∨ ∃ i : Nat, i < l.length ∧ firstIx q l i0 = i0 + i ∧ (l.take (i + 1)).filter (fun t => !q t) = l.take i
  | [], i0 => .inl ⟨rfl, rfl⟩
  | x :: r, i0 => by
    cases hq : q x with
    | true => exact .inr ⟨0, by simp, by simp [firstIx, hq], by simp [hq]⟩
    | false =>
      rcases firstIx_cases q r (i0 + 1) with ⟨h1, h2⟩ | ⟨i, h1, h2, h3⟩
      · exact .inl ⟨by simp [firstIx, hq, h1], by simp [hq, h2]⟩
      · refine .inr ⟨i + 1, by simp; omega, ?_, ?_⟩
        · simp only [firstIx, hq, Bool.false_eq_true, if_false, h2]; omega
        · simp only [List.take_succ_cons, List.filter_cons, hq, Bool.not_false, if_true, h3]
theorem take_set_one {α : Type} {R : List α} {i : Nat} (h : i < R.length) (u : α) : (R.set i u).take (i + 1) = R.take i ++ [u] := by
  apply List.ext_getElem?
  intro j
  rw [List.getElem?_take, List.getElem?_set]
  by_cases h1 : j < i
  · rw [List.getElem?_append_left (by simp; omega), List.getElem?_take]
    simp [h1, show j < i + 1 by omega, show ¬ i = j by omega]
  · by_cases h2 : j = i
    · subst h2
      rw [List.getElem?_append_right (by simp; omega)]
      simp [h, Nat.min_eq_left (Nat.le_of_lt h)]
    · rw [List.getElem?_append_right (by simp; omega), if_neg (by omega)]
      rw [List.getElem?_eq_none]
      simp; omega
theorem drop_set_lt {α : Type} {R : List α} {i j : Nat} (h : i < j) (u : α) : (R.set i u).drop j = R.drop j := by
  apply List.ext_getElem?
  intro k
  rw [List.getElem?_drop, List.getElem?_drop, List.getElem?_set, if_neg (by omega)]

theorem cloneTy_own (l : List MTy) (hl : l.length ≤ 1073741824) : ACalls Tryz.prog 147 [.l (l.map eTy)] [] (.c (.own 0 l.length)) [] [{ sz := 2, ety := 25, rows := l.map eTy, wr := true }] := by
  refine ACalls.of_body Tryz.func147 (by kernel_rfl) rfl (by kernel_rfl) (by simp [Tryz.ntmps147]) (by simp) ?_
  rw [Tryz.ntmps147]
  refine T.rs (fun _ => false) fun K hK => ?_
  refine aops_go ?_
  simp
  refine aops_end (hK _ ?_)
  clear hK K
  refine T.seq ?_
  refine T.eqNil rfl rfl rfl rfl rfl rfl td_implTypeS rfl (by simp; rfl) fun bb hbb => ?_
  cases bb
  · repeat' first | (refine aops_end (hK _ ?_); clear hK K) | (refine aops_go ?_; simp [eTy_def]; (try (refine gen fun q hq => ?_; cases q <;> (try simp [eTy_def] at hq) <;> (try (have hh : True := hq; clear hh hq))))) | (refine ⟨by omega, by omega, ?_⟩) | refine T.rs (id := 3) (fun i => i == 0) fun K hK => ?_ | refine T.cf rfl ?_ | refine T.skip ?_
    refine T.ret (Done.own1 0 (Or.inr rfl) (ys := [_]) ?_ rfl ?_) <;> simp [resAs, Tryz.results147, eTy_def] <;> rfl
  · have : l = [] := by simpa using hbb rfl
    subst this
    refine T.cond rfl (fun hcnd => ?_) (fun hcnd => absurd hcnd (by decide))
    refine T.rs (fun _ => false) fun K hK => ?_
    refine aops_go ?_
    simp
    refine aops_end (hK _ ?_)
    clear hK K
    refine T.ownify 2 2 25 (by simp) ?_
    refine T.ret (Done.own1 0 (Or.inr rfl) (ys := [_]) ?_ rfl ?_) <;> simp [resAs, Tryz.results147]

theorem indexFuncTy_own (f : FuncId) (l : List MTy) (q : MTy → Bool) (hl : l.length ≤ 1099511627776) (hf : ∀ t ∈ l, ACalls Tryz.prog f [aTy t] [] (.b (q t)) [] []) :
    ACallsG Tryz.prog 149 [.c (.own 0 l.length), .c (.fn f [])] [] [{ sz := 2, ety := 25, rows := l.map eTy, wr := true }] (.i (firstIx q l 0)) [] [{ sz := 2, ety := 25, rows := l.map eTy, wr := true }] := by
  refine ACallsG.of_body Tryz.func149 (by kernel_rfl) rfl (by kernel_rfl) (by simp [Tryz.ntmps149]) (by simp) ?_
  rw [Tryz.ntmps149]
  repeat' first | (refine aops_end (hK _ ?_); clear hK K) | (refine aops_go ?_; simp; (try (refine gen fun q hq => ?_; cases q <;> (try simp at hq) <;> (try (have hh : True := hq; clear hh hq))))) | refine T.r0 fun K hK => ?_ | refine T.seq ?_ | refine T.block ?_
  obtain ⟨R, hR⟩ : ∃ R, firstIx q l 0 = R := ⟨_, rfl⟩
  rw [hR]
  refine T.loopF (fun p : Nat => ⟨[(0, .c (.own 0 l.length)), (1, .c (.fn f [])), (7, .i l.length), (8, .i p)], [], [{ sz := 2, ety := 25, rows := l.map eTy, wr := true }]⟩) (fun p => l.length + 1 - p) (fun p => p ≤ l.length ∧ firstIx q (l.drop p) p = R) (fun p hp => ?_) 0 (by simpa using hR) (by simp)
  obtain ⟨hi, he⟩ := hp
  by_cases hlt : p < l.length
  · obtain ⟨u, ht⟩ := get_lt hlt
    have htm : u ∈ l := List.mem_of_getElem? ht
    have hgt : l[p] = u := by rw [List.getElem?_eq_getElem hlt] at ht; exact Option.some.inj ht
    have hdr : l.drop p = u :: l.drop (p + 1) := by rw [List.drop_eq_getElem_cons hlt, hgt]
    have hu := hf u htm
    rw [hdr, firstIx] at he
    cases hb : q u <;> rw [hb] at hu he
    · repeat' first | (refine aops_end (hK _ ?_); clear hK K) | (refine aops_go ?_; simp [hlt, hgt, eTy]; (try simp (disch := omega) only [wrap64]); (try (refine gen fun q hq => ?_; cases q <;> (try simp [hlt, hgt, eTy] at hq) <;> (try (have hh : True := hq; clear hh hq))))) | (refine wpcall_pure rfl (hu) ?_; simp [hlt, hgt, eTy]; (try simp (disch := omega) only [wrap64]); (try (refine gen fun q hq => ?_; cases q <;> (try simp [hlt, hgt, eTy] at hq) <;> (try (have hh : True := hq; clear hh hq))))) | (refine ⟨p + 1, by dsimp only; omega, ⟨by omega, by simpa using he⟩, ?_⟩; simp (disch := omega) [wrap64]) | refine T.r0 fun K hK => ?_ | refine T.r1 fun K hK => ?_ | refine T.ct rfl ?_ | refine T.cf rfl ?_ | refine T.seq ?_ | refine T.block ?_ | refine T.skip ?_
    · repeat' first | (refine aops_end (hK _ ?_); clear hK K) | (refine aops_go ?_; simp [hlt, hgt, eTy]; (try simp (disch := omega) only [wrap64]); (try (refine gen fun q hq => ?_; cases q <;> (try simp [hlt, hgt, eTy] at hq) <;> (try (have hh : True := hq; clear hh hq))))) | (refine wpcall_pure rfl (hu) ?_; simp [hlt, hgt, eTy]; (try simp (disch := omega) only [wrap64]); (try (refine gen fun q hq => ?_; cases q <;> (try simp [hlt, hgt, eTy] at hq) <;> (try (have hh : True := hq; clear hh hq))))) | refine T.r0 fun K hK => ?_ | refine T.ct rfl ?_ | refine T.seq ?_ | refine T.block ?_ | refine T.skip ?_
      all_goals (refine T.ret (DoneG.one (Or.inr rfl) ?_ ?_) <;> simp [resAs, Tryz.results149, ← he])
  · have hp' : p = l.length := by omega
    subst hp'
    simp [firstIx] at he
    repeat' first | (refine aops_end (hK _ ?_); clear hK K) | (refine aops_go ?_; simp [hlt]; (try (refine gen fun q hq => ?_; cases q <;> (try simp [hlt] at hq) <;> (try (have hh : True := hq; clear hh hq))))) | refine T.r0 fun K hK => ?_ | refine T.cf rfl ?_ | refine T.seq ?_ | refine T.exit ?_
    all_goals (refine T.ret (DoneG.one (Or.inr rfl) ?_ ?_) <;> simp [resAs, Tryz.results149, he])

theorem deleteFuncTy_own (f : FuncId) (l : List MTy) (q : MTy → Bool) (hl : l.length ≤ 1099511627776) (hf : ∀ t ∈ l, ACalls Tryz.prog f [aTy t] [] (.b (q t)) [] []) :
    ACallsG Tryz.prog 196 [.c (.own 0 l.length), .c (.fn f [])] [] [{ sz := 2, ety := 25, rows := l.map eTy, wr := true }] (.l ((l.filter fun t => !q t).map eTy)) [] [{ sz := 2, ety := 25, rows := (l.filter fun t => !q t).map eTy ++ List.replicate (l.length - (l.filter fun t => !q t).length) [.int .i64 0, .sl []], wr := false }] := by
  have hix := indexFuncTy_own f l q hl hf
  rcases firstIx_cases q l 0 with ⟨h1, h2⟩ | ⟨i0, h1, h2, h3⟩
  · rw [h1] at hix
    rw [h2]
    refine ACallsG.of_body Tryz.func196 (by kernel_rfl) rfl (by kernel_rfl) (by simp [Tryz.ntmps196]) (by simp) ?_
    rw [Tryz.ntmps196]
    repeat' first | (refine aops_end (hK _ ?_); clear hK K) | (refine aops_go ?_; simp; (try (refine gen fun q hq => ?_; cases q <;> (try simp at hq) <;> (try (have hh : True := hq; clear hh hq))))) | (refine wpcall_hand 0 hix rfl rfl rfl rfl ?_; simp [back]) | refine T.r0 fun K hK => ?_ | refine T.ct rfl ?_ | refine T.seq ?_
    refine T.seal 4 0 l.length (by simp) rfl (by simp) ?_
    all_goals (refine T.ret (DoneG.one (Or.inr rfl) ?_ ?_) <;> simp [resAs, Tryz.results196])
  · rw [h2] at hix
    obtain ⟨F, hF⟩ : ∃ F, (l.filter fun t => !q t) = F := ⟨_, rfl⟩
    rw [hF]
    have hne : ¬ (0 : Int) + (i0 : Int) = -1 := by omega
    have hne2 : ¬ (i0 : Int) = -1 := by omega
    refine ACallsG.of_body Tryz.func196 (by kernel_rfl) rfl (by kernel_rfl) (by simp [Tryz.ntmps196]) (by simp) ?_
    rw [Tryz.ntmps196]
    repeat' first | (refine aops_end (hK _ ?_); clear hK K) | (refine aops_go ?_; simp [hne, hne2]; (try simp (disch := omega) only [wrap64]); (try (refine gen fun q hq => ?_; cases q <;> (try simp [hne, hne2] at hq) <;> (try (have hh : True := hq; clear hh hq))))) | (refine wpcall_hand 0 hix rfl rfl rfl rfl ?_; simp [back]) | refine T.r0 fun K hK => ?_ | refine T.cf rfl ?_ | refine T.seq ?_ | refine T.block ?_ | refine T.skip ?_
    refine T.loopK (α := Nat × Nat × List MTy × List (List CV)) [0, 1, 4] (fun x => [(5, .i x.2.1), (6, .i x.1)]) (fun x => []) (fun x => x.2.2.2) (fun x _ => [{ sz := 2, ety := 25, rows := x.2.2.1.map eTy, wr := true }]) (fun x => l.length + 1 - x.1)
      (fun x => x.1 ≤ l.length ∧ x.2.1 < x.1 ∧ x.2.2.1.length = l.length ∧ x.2.2.1.take x.2.1 = (l.take x.1).filter (fun t => !q t) ∧ x.2.2.1.drop x.1 = l.drop x.1) (by simp; rfl) (fun x hx => ?_) (i0 + 1, i0, l, []) ⟨by dsimp only; omega, by dsimp only; omega, rfl, h3.symm, rfl⟩ (by simp) (by simp) (by simp)
    obtain ⟨j, i, R, G⟩ := x
    obtain ⟨hj, hij, hRl, hRt, hRd⟩ := hx
    dsimp only at hj hij hRl hRt hRd ⊢
    simp only [ups, List.set_cons_zero, List.set_cons_succ, List.cons_append, List.nil_append, List.append_nil]
    by_cases hlt : j < l.length
    · have hltR : j < R.length := by omega
      obtain ⟨u, hlu⟩ := get_lt hlt
      have hul : u ∈ l := List.mem_of_getElem? hlu
      have hRu : R[j]? = some u := by
        have : (R.drop j)[0]? = (l.drop j)[0]? := by rw [hRd]
        rw [List.getElem?_drop, List.getElem?_drop, Nat.add_zero, hlu] at this; exact this
      have hgt : R[j] = u := by rw [List.getElem?_eq_getElem hltR] at hRu; exact Option.some.inj hRu
      have hu := hf u hul
      have hft : (l.take (j + 1)).filter (fun t => !q t) = (l.take j).filter (fun t => !q t) ++ if q u then [] else [u] := by
        rw [List.take_add_one, hlu, List.filter_append]; cases hq : q u <;> simp [hq]
      have hd1 : R.drop (j + 1) = l.drop (j + 1) := by
        have : (R.drop j).drop 1 = (l.drop j).drop 1 := by rw [hRd]
        rwa [List.drop_drop, List.drop_drop] at this
      have hltR2 : i < R.length := by omega
      obtain ⟨y, hy⟩ := get_lt hltR2
      have hsl : (R.set i u).length = l.length := by simp [hRl]
      cases hb : q u <;> rw [hb] at hu hft
      · repeat' first | (refine aops_end (hK _ ?_); clear hK K) | (refine aops_go ?_; simp [hlt, hltR, hRl, hgt, hy, hij]; (try simp (disch := omega) only [wrap64]); (try (refine gen fun q hq => ?_; cases q <;> (try simp [hlt, hltR, hRl, hgt, hy, hij] at hq) <;> (try (have hh : True := hq; clear hh hq))))) | (refine wpcall_pure rfl (hu) ?_; simp [hlt, hltR, hRl, hgt, hy, hij]; (try simp (disch := omega) only [wrap64]); (try (refine gen fun q hq => ?_; cases q <;> (try simp [hlt, hltR, hRl, hgt, hy, hij] at hq) <;> (try (have hh : True := hq; clear hh hq))))) | (refine ⟨by omega, ?_⟩) | refine T.r0 fun K hK => ?_ | refine T.r1 fun K hK => ?_ | refine T.ct rfl ?_ | refine T.seq ?_ | refine T.block ?_ | refine T.skip ?_
        refine ⟨(j + 1, i + 1, R.set i u, _), by dsimp only; omega, ⟨by dsimp only; omega, by dsimp only; omega, hsl, ?_, ?_⟩, rfl, ?_, ?_⟩
        · dsimp only; rw [take_set_one hltR2, hRt, hft]; rfl
        · dsimp only; rw [drop_set_lt (by omega), hd1]
        · simp [eTy_def, List.map_set]
        · simp (disch := omega) [wrap64]
      · repeat' first | (refine aops_end (hK _ ?_); clear hK K) | (refine aops_go ?_; simp [hlt, hltR, hRl, hgt]; (try simp (disch := omega) only [wrap64]); (try (refine gen fun q hq => ?_; cases q <;> (try simp [hlt, hltR, hRl, hgt] at hq) <;> (try (have hh : True := hq; clear hh hq))))) | (refine wpcall_pure rfl (hu) ?_; simp [hlt, hltR, hRl, hgt]; (try simp (disch := omega) only [wrap64]); (try (refine gen fun q hq => ?_; cases q <;> (try simp [hlt, hltR, hRl, hgt] at hq) <;> (try (have hh : True := hq; clear hh hq))))) | refine T.r0 fun K hK => ?_ | refine T.r1 fun K hK => ?_ | refine T.ct rfl ?_ | refine T.cf rfl ?_ | refine T.seq ?_ | refine T.block ?_ | refine T.skip ?_
        refine ⟨(j + 1, i, R, _), by dsimp only; omega, ⟨by dsimp only; omega, by dsimp only; omega, hRl, ?_, ?_⟩, rfl, ?_, ?_⟩
        · dsimp only; rw [hRt, hft]; simp
        · dsimp only; exact hd1
        · simp
        · simp (disch := omega) [wrap64]
    · have hp' : j = l.length := by omega
      subst hp'
      have hFR : R.take i = F := by rw [hRt, List.take_length, hF]
      have hFl : F.length = i := by rw [← hFR]; simp; omega
      rw [hFl]
      obtain ⟨Z, hZ⟩ : ∃ Z, F.map eTy ++ List.replicate (l.length - i) [DV.int .i64 0, .sl []] = Z := ⟨_, rfl⟩
      have hZl : Z.length = l.length := by rw [← hZ]; simp [hFl]; omega
      have hZt : Z.take i = F.map eTy := by rw [← hZ, List.take_append_of_le_length (by simp [hFl]), List.take_of_length_le (by simp [hFl])]
      have hZ2 : ∀ r ∈ Z, r.length = 2 := fun r hr => by
        rw [← hZ] at hr
        simp only [List.mem_append, List.mem_map, List.mem_replicate] at hr
        rcases hr with ⟨t, _, rfl⟩ | ⟨_, rfl⟩
        · simp [eTy_def]
        · rfl
      rw [hZ]
      repeat' first | (refine aops_end (hK _ ?_); clear hK K) | (refine aops_go ?_; simp [hlt]; (try (refine gen fun q hq => ?_; cases q <;> (try simp [hlt] at hq) <;> (try (have hh : True := hq; clear hh hq))))) | (refine T.rsClear (id := 11) fun K hK => ?_) | (refine aops_end ?_; have hcl : True := trivial) | refine T.r0 fun K hK => ?_ | refine T.cf rfl ?_ | refine T.seq ?_ | refine T.exit ?_
      refine ⟨_, _, _, _, _, _, _, _, _, _, _, _, _, _, _, _, ⟨rfl, rfl, rfl, fun a w => by simp [execOp, resolve, invoke]; rfl, rfl⟩, by simp, by simp, td_implTypeS, rfl, td_implType, rfl, rfl, rfl, by decide, rfl, rfl, Int.natCast_nonneg _, by simpa using hij, rfl, by simp [hRl], rfl, rfl, hK _ ?_⟩
      clear hK K
      simp only [Int.toNat_natCast, ← List.map_take, hFR, List.set_cons_zero]
      rw [hZ]
      have hiZ : i ≤ l.length := by omega
      repeat' first | (refine aops_end (hK _ ?_); clear hK K) | (refine aops_go ?_; simp [hZl, hiZ, hZt]; (try (refine gen fun q hq => ?_; cases q <;> (try simp [hZl, hiZ, hZt] at hq) <;> (try (have hh : True := hq; clear hh hq))))) | (refine ⟨hZ2, ?_⟩) | refine T.r0 fun K hK => ?_
      all_goals (refine T.ret (DoneG.one (Or.inr rfl) ?_ ?_) <;> simp [resAs, Tryz.results196, hZt, hZl])
end Go.Proofs.YtfdknjjnifnobaaGreat

namespace Go.Proofs.YtfdknjjnifnobaaGreat
open Go Go.Av
attribute [local irreducible] T ACalls TX EX LX Draws Some_ ACallsX eTy eTm MTy.kind MTy.kids MTm.kind MTm.name MTm.num MTm.ty MTm.fr MTm.label MTm.kids
attribute [local simp] eTy_def eTm_def
set_option maxHeartbeats 16000000
set_option maxRecDepth 8000
attribute [local simp] Option.bind

theorem refined_own : ∀ (t : MTy), nTy t ≤ 1048576 → ACalls Tryz.prog 197 [aTy t] [] (.c (.own 0 (refinedM t).length)) [] [{ sz := 2, ety := 25, rows := (refinedM t).map eTy, wr := true }] := by
  intro t
  induction t using MTy.ind with
  | h t ih =>
    intro hn
    have hrl := refined_len t
    rw [refinedM_def] at hrl ⊢
    by_cases h1 : t.kind = 1
    · simp only [if_pos h1]
      have b2 := base_ok 2
      have b3 := base_ok 3
      have g4 : ACalls Tryz.prog 235 [.i 4] [] (aTy gFun) [] [] := ground_ok 4
      have g5 : ACalls Tryz.prog 235 [.i 5] [] (aTy gPair) [] [] := ground_ok 5
      refine ACalls.of_body Tryz.func197 (by kernel_rfl) rfl (by kernel_rfl) (by simp [Tryz.ntmps197]) (by simp) ?_
      rw [Tryz.ntmps197]
      repeat' first | (refine aops_end (hK _ ?_); clear hK K) | (refine aops_go ?_; simp [h1]; (try (refine gen fun q hq => ?_; cases q <;> (try simp [h1] at hq) <;> (try (have hh : True := hq; clear hh hq))))) | (refine wpcall_pure rfl (b2) ?_; simp [h1]; (try (refine gen fun q hq => ?_; cases q <;> (try simp [h1] at hq) <;> (try (have hh : True := hq; clear hh hq))))) | (refine wpcall_pure rfl (b3) ?_; simp [h1]; (try (refine gen fun q hq => ?_; cases q <;> (try simp [h1] at hq) <;> (try (have hh : True := hq; clear hh hq))))) | (refine wpcall_pure rfl (g4) ?_; simp [h1]; (try (refine gen fun q hq => ?_; cases q <;> (try simp [h1] at hq) <;> (try (have hh : True := hq; clear hh hq))))) | (refine wpcall_pure rfl (g5) ?_; simp [h1]; (try (refine gen fun q hq => ?_; cases q <;> (try simp [h1] at hq) <;> (try (have hh : True := hq; clear hh hq))))) | refine T.rs (id := 2) (fun i => i == 4) fun K hK => ?_ | refine T.rs (id := 0) (fun _ => false) fun K hK => ?_ | refine T.rs (id := 1) (fun _ => false) fun K hK => ?_ | refine T.ct rfl ?_ | refine T.seq ?_
      refine T.ret (Done.own1 0 (Or.inr rfl) (ys := [_]) ?_ rfl ?_) <;> simp [resAs, Tryz.results197, eTy_def]
    · simp only [if_neg h1, List.length_map, List.map_map] at hrl ⊢
      have hkl : t.kids.length ≤ 1048576 := by have := nTyS_len t.kids; rw [nTy_def] at hn; omega
      have hcl := cloneTy_own t.kids (by omega)
      rw [← subsP_all] at hrl ⊢
      refine ACalls.of_body Tryz.func197 (by kernel_rfl) rfl (by kernel_rfl) (by simp [Tryz.ntmps197]) (by simp) ?_
      rw [Tryz.ntmps197]
      repeat' first | (refine aops_end (hK _ ?_); clear hK K) | (refine aops_go ?_; simp [h1]; (try (refine gen fun q hq => ?_; cases q <;> (try simp [h1] at hq) <;> (try (have hh : True := hq; clear hh hq))))) | refine T.r0 fun K hK => ?_ | refine T.cf rfl ?_ | refine T.seq ?_ | refine T.block ?_ | refine T.skip ?_
      refine T.ownify 3 2 25 (by simp) ?_
      refine T.loopK (α := Nat × List (List CV) × List Arr) [1, 2, 18, 19] (fun x => [(3, .c (.own 0 (subsP refinedM t.kids x.1).length)), (20, .i x.1)]) (fun x => []) (fun x => x.2.1) (fun x _ => { sz := 2, ety := 25, rows := (subsP refinedM t.kids x.1).map (eTy ∘ MTy.mk t.kind), wr := true } :: x.2.2) (fun x => t.kids.length + 1 - x.1) (fun x => x.1 ≤ t.kids.length) (by simp; rfl) (fun x hx => ?_) (0, [], []) (by simp) (by simp) (by simp [subsP_zero]) (by simp [subsP_zero])
      obtain ⟨p, G, GA⟩ := x
      dsimp only at hx ⊢
      simp only [ups, List.set_cons_zero, List.set_cons_succ, List.cons_append, List.nil_append, List.append_nil]
      by_cases hlt : p < t.kids.length
      · obtain ⟨u, ht⟩ := get_lt hlt
        have htm : u ∈ t.kids := List.mem_of_getElem? ht
        have hgt : t.kids[p] = u := by rw [List.getElem?_eq_getElem hlt] at ht; exact Option.some.inj ht
        have hdr : t.kids.drop p = u :: t.kids.drop (p + 1) := by rw [List.drop_eq_getElem_cons hlt, hgt]
        have hu := (ih u htm (by have := nTyS_mem htm; rw [nTy_def] at hn; omega)).sealed (by simp)
        dsimp only at hu
        have hsu := subsP_succ refinedM ht
        have hle := subsP_le refinedM t.kids (p + 1) (by omega)
        rw [hsu, List.length_append, List.length_map] at hle
        rw [subsP_all] at hrl
        generalize subsP refinedM t.kids p = Z at *
        generalize refinedM u = ru at *
        generalize (subsM refinedM t.kids).length = M at *
        repeat' first | (refine aops_end (hK _ ?_); clear hK K) | (refine aops_go ?_; simp [hlt, hgt]; (try simp (disch := omega) only [wrap64]); (try (refine gen fun q hq => ?_; cases q <;> (try simp [hlt, hgt] at hq) <;> (try (have hh : True := hq; clear hh hq))))) | (refine wpcall_pure rfl (hu) ?_; simp [hlt, hgt]; (try simp (disch := omega) only [wrap64]); (try (refine gen fun q hq => ?_; cases q <;> (try simp [hlt, hgt] at hq) <;> (try (have hh : True := hq; clear hh hq))))) | refine T.r0 fun K hK => ?_ | refine T.ct rfl ?_ | refine T.seq ?_ | refine T.block ?_ | refine T.skip ?_
        refine T.loopK (α := Nat × List (List CV) × List Arr) [1, 2, 4, 5, 18, 19, 20, 21, 22, 23, 24, 25, 26, 27, 48] (fun y => [(3, .c (.own 0 (Z.length + y.1))), (28, .i y.1)]) (fun y => []) (fun y => y.2.1) (fun y _ => { sz := 2, ety := 25, rows := Z.map (eTy ∘ MTy.mk t.kind) ++ (ru.take y.1).map (fun v => eTy (.mk t.kind (t.kids.set p v))), wr := true } :: (GA ++ y.2.2)) (fun y => ru.length + 1 - y.1) (fun y => y.1 ≤ ru.length) (by simp; rfl) (fun y hy => ?_) (0, [], []) (by simp) (by simp) (by simp) (by simp)
        obtain ⟨q, G2, GA2⟩ := y
        dsimp only at hy ⊢
        simp only [ups, List.set_cons_zero, List.set_cons_succ, List.cons_append, List.nil_append, List.append_nil]
        by_cases hlq : q < ru.length
        · obtain ⟨v, hv⟩ := get_lt hlq
          have hgv : ru[q] = v := by rw [List.getElem?_eq_getElem hlq] at hv; exact Option.some.inj hv
          have htv : ru.take (q + 1) = ru.take q ++ [v] := by rw [List.take_add_one, hv]; rfl
          have hmin : min q ru.length = q := by omega
          repeat' first | (refine aops_end (hK _ ?_); clear hK K) | (refine aops_go ?_; simp [hlq, hgv, hlt, hmin]; (try simp (disch := omega) only [wrap64]); (try (refine gen fun q hq => ?_; cases q <;> (try simp [hlq, hgv, hlt, hmin] at hq) <;> (try (have hh : True := hq; clear hh hq))))) | (refine aopsJ_end (hK _ ?_); clear hK K) | (refine aopsJ_go ?_; simp [hlq, hgv, hlt, hmin]; (try simp (disch := omega) only [wrap64]); (try (refine OpsJ.gen fun q hq => ?_; cases q <;> (try simp [hlq, hgv, hlt, hmin] at hq) <;> (try (have hh : True := hq; clear hh hq))))) | (refine wpcall_own rfl (hcl) ?_; simp [hlq, hgv, hlt, hmin]; (try simp (disch := omega) only [wrap64]); (try (refine gen fun q hq => ?_; cases q <;> (try simp [hlq, hgv, hlt, hmin] at hq) <;> (try (have hh : True := hq; clear hh hq))))) | (refine ⟨fun _ V2 => ?_, ?_⟩; (focus ((try simp); refine wpcall_own rfl (hcl) ?_; simp; done))) | (refine ⟨by omega, by omega, ?_⟩) | refine T.rdJ (id := 10) mixed (fun _ => false) [6, 7] [4] [1, 3, 5] 7 [] (by kernel_rfl) fun K hK => ?_ | refine T.r0 fun K hK => ?_ | refine T.r1 fun K hK => ?_ | refine T.ct rfl ?_ | refine T.seq ?_ | refine T.block ?_ | refine T.skip ?_
          refine ⟨(q + 1, _, GA2 ++ [{ sz := 2, ety := 25, rows := (t.kids.map eTy).set p (eTy v), wr := false }]), by dsimp only; omega, by dsimp only; omega, (by simp only [ups, List.set_cons_zero, List.cons_append, List.append_assoc, List.nil_append]; rfl), ?_, ?_⟩
          · simp [htv, eTy_def, List.map_set]
          · simp (disch := omega) [wrap64, Nat.add_assoc]
        · have hq' : q = ru.length := by omega
          subst hq'
          rw [List.take_length]
          repeat' first | (refine aops_end (hK _ ?_); clear hK K) | (refine aops_go ?_; simp [hlq]; (try simp (disch := omega) only [wrap64]); (try (refine gen fun q hq => ?_; cases q <;> (try simp [hlq] at hq) <;> (try (have hh : True := hq; clear hh hq))))) | refine T.r0 fun K hK => ?_ | refine T.r1 fun K hK => ?_ | refine T.cf rfl ?_ | refine T.seq ?_ | refine T.exit ?_
          refine ⟨(p + 1, _, GA ++ GA2), by dsimp only; omega, by dsimp only; omega, (by simp only [ups, List.set_cons_zero, List.cons_append, List.append_assoc, List.nil_append]; rfl), ?_, ?_⟩
          · simp [hsu, Function.comp_def]
          · simp (disch := omega) [wrap64, hsu]
      · have hp' : p = t.kids.length := by omega
        subst hp'
        repeat' first | (refine aops_end (hK _ ?_); clear hK K) | (refine aops_go ?_; simp [hlt]; (try (refine gen fun q hq => ?_; cases q <;> (try simp [hlt] at hq) <;> (try (have hh : True := hq; clear hh hq))))) | refine T.r0 fun K hK => ?_ | refine T.cf rfl ?_ | refine T.seq ?_ | refine T.exit ?_
        refine T.ret (Done.own1 0 (Or.inr rfl) (ys := [_]) ?_ rfl ?_) <;> simp [resAs, Tryz.results197]

theorem RefineType1_ok (t : MTy) (hn : nTy t ≤ 1099511627776) : ACalls Tryz.prog 198 [aTy t] [] (.b (!shapeTy 4 t)) [] [] := by
  have h1 := TypeValid_ok t hn
  generalize shapeTy 4 t = q at *
  refine ACalls.of_body Tryz.func198 (by kernel_rfl) rfl (by kernel_rfl) (by simp [Tryz.ntmps198]) (by simp) ?_
  rw [Tryz.ntmps198]
  repeat' first | (refine aops_end (hK _ ?_); clear hK K) | (refine aops_go ?_; simp; (try (refine gen fun q hq => ?_; cases q <;> (try simp at hq) <;> (try (have hh : True := hq; clear hh hq))))) | (refine wpcall_pure rfl (h1) ?_; simp; (try (refine gen fun q hq => ?_; cases q <;> (try simp at hq) <;> (try (have hh : True := hq; clear hh hq))))) | (refine T.ret (Done.data (Or.inr rfl) ?_ ?_) <;> simp [Tryz.results198, *] <;> omega) | refine T.r0 fun K hK => ?_

theorem ownTypes_own (l : List MTy) (hl : l.length ≤ 1073741824) (hn : ∀ t ∈ l, nTy t ≤ 1099511627776) : ACalls Tryz.prog 195 [.l (l.map eTy)] [] (.c (.own 0 l.length)) [] [{ sz := 2, ety := 25, rows := l.map eTy, wr := true }] := by
  refine ACalls.of_body Tryz.func195 (by kernel_rfl) rfl (by kernel_rfl) (by simp [Tryz.ntmps195]) (by simp) ?_
  rw [Tryz.ntmps195]
  repeat' first | (refine aops_end (hK _ ?_); clear hK K) | (refine aops_go ?_; simp; (try (refine gen fun q hq => ?_; cases q <;> (try simp at hq) <;> (try (have hh : True := hq; clear hh hq))))) | refine T.r0 fun K hK => ?_ | refine T.seq ?_ | refine T.block ?_
  refine T.ownify 3 2 25 (by simp) ?_
  refine T.loopK (α := Nat × List (List CV)) [2, 6, 7] (fun x => [(3, .c (.own 0 x.1)), (8, .i x.1)]) (fun x => []) (fun x => x.2) (fun x _ => [{ sz := 2, ety := 25, rows := (l.take x.1).map eTy, wr := true }]) (fun x => l.length + 1 - x.1) (fun x => x.1 ≤ l.length) (by simp; rfl) (fun x hx => ?_) (0, []) (by simp) (by simp) (by simp) (by simp)
  obtain ⟨p, G⟩ := x
  dsimp only at hx ⊢
  simp only [ups, List.set_cons_zero, List.set_cons_succ, List.cons_append, List.nil_append, List.append_nil]
  by_cases hlt : p < l.length
  · obtain ⟨u, ht⟩ := get_lt hlt
    have htm : u ∈ l := List.mem_of_getElem? ht
    have hgt : l[p] = u := by rw [List.getElem?_eq_getElem hlt] at ht; exact Option.some.inj ht
    have hdr : l.drop p = u :: l.drop (p + 1) := by rw [List.drop_eq_getElem_cons hlt, hgt]
    have hu := ownType_ok u (hn u htm)
    have htk : l.take (p + 1) = l.take p ++ [u] := by rw [List.take_add_one, ht]; rfl
    have hmin : min p l.length = p := by omega
    repeat' first | (refine aops_end (hK _ ?_); clear hK K) | (refine aops_go ?_; simp [hlt, hgt, hmin]; (try simp (disch := omega) only [wrap64]); (try (refine gen fun q hq => ?_; cases q <;> (try simp [hlt, hgt, hmin] at hq) <;> (try (have hh : True := hq; clear hh hq))))) | (refine wpcall_pure rfl (hu) ?_; simp [hlt, hgt, hmin]; (try simp (disch := omega) only [wrap64]); (try (refine gen fun q hq => ?_; cases q <;> (try simp [hlt, hgt, hmin] at hq) <;> (try (have hh : True := hq; clear hh hq))))) | (refine ⟨by omega, by omega, ?_⟩) | (refine ⟨(p + 1, _), by dsimp only; omega, by dsimp only; omega, rfl, ?_, ?_⟩ <;> simp (disch := omega) [wrap64, htk, eTy_def]) | refine T.r0 fun K hK => ?_ | refine T.r1 fun K hK => ?_ | refine T.ct rfl ?_ | refine T.seq ?_ | refine T.block ?_ | refine T.skip ?_
  · have hp' : p = l.length := by omega
    subst hp'
    repeat' first | (refine aops_end (hK _ ?_); clear hK K) | (refine aops_go ?_; simp [hlt]; (try (refine gen fun q hq => ?_; cases q <;> (try simp [hlt] at hq) <;> (try (have hh : True := hq; clear hh hq))))) | refine T.r0 fun K hK => ?_ | refine T.cf rfl ?_ | refine T.seq ?_ | refine T.exit ?_
    refine T.ret (Done.own1 0 (Or.inr rfl) (ys := [_]) ?_ rfl ?_) <;> simp [resAs, Tryz.results195]

theorem RefineType_ok (t : MTy) (hn : nTy t ≤ 1099511627776) : ACalls Tryz.prog 146 [aTy t] [] (.l ((refTyM t).map eTy)) [] [] := by
  have h1 := TypeValid_ok t hn
  simp only [refTyM]
  cases hv : shapeTy 4 t with
  | false =>
    rw [hv] at h1
    simp only [Bool.false_eq_true, if_false]
    refine ACalls.of_body Tryz.func146 (by kernel_rfl) rfl (by kernel_rfl) (by simp [Tryz.ntmps146]) (by simp) ?_
    rw [Tryz.ntmps146]
    repeat' first | (refine aops_end (hK _ ?_); clear hK K) | (refine aops_go ?_; simp; (try (refine gen fun q hq => ?_; cases q <;> (try simp at hq) <;> (try (have hh : True := hq; clear hh hq))))) | (refine wpcall_pure rfl (h1) ?_; simp; (try (refine gen fun q hq => ?_; cases q <;> (try simp at hq) <;> (try (have hh : True := hq; clear hh hq))))) | (refine T.ret (Done.val (Or.inr rfl) ?_) <;> simp [resAs, Tryz.results146] <;> omega) | refine T.r0 fun K hK => ?_ | refine T.ct rfl ?_ | refine T.seq ?_
  | true =>
    rw [hv] at h1
    simp only [if_true]
    have h14 := shape4 hv
    have h2 := refined_own t (by omega)
    have hrl := refined_len t
    have hrn : ∀ u ∈ refinedM t, nTy u ≤ 1099511627776 := fun u hu => by have := refined_nTy hu; omega
    have h3 := deleteFuncTy_own 198 (refinedM t) (fun u => !shapeTy 4 u) (by omega) (fun u hu => RefineType1_ok u (hrn u hu))
    simp only [Bool.not_not] at h3
    have h4 := ownTypes_own ((refinedM t).filter (shapeTy 4)) (Nat.le_trans (List.length_filter_le _ _) (by omega)) (fun u hu => hrn u ((List.mem_filter.1 hu).1))
    replace h4 := h4.sealed (by simp)
    dsimp only at h4
    generalize refinedM t = R at *
    generalize R.filter (shapeTy 4) = F at *
    refine ACalls.of_body Tryz.func146 (by kernel_rfl) rfl (by kernel_rfl) (by simp [Tryz.ntmps146]) (by simp) ?_
    rw [Tryz.ntmps146]
    repeat' first | (refine aops_end (hK _ ?_); clear hK K) | (refine aops_go ?_; simp; (try (refine gen fun q hq => ?_; cases q <;> (try simp at hq) <;> (try (have hh : True := hq; clear hh hq))))) | (refine wpcall_pure rfl (h1) ?_; simp; (try (refine gen fun q hq => ?_; cases q <;> (try simp at hq) <;> (try (have hh : True := hq; clear hh hq))))) | (refine wpcall_pure rfl (h4) ?_; simp; (try (refine gen fun q hq => ?_; cases q <;> (try simp at hq) <;> (try (have hh : True := hq; clear hh hq))))) | (refine wpcall_own rfl (h2) ?_; simp; (try (refine gen fun q hq => ?_; cases q <;> (try simp at hq) <;> (try (have hh : True := hq; clear hh hq))))) | (refine wpcall_hand 0 h3 rfl rfl rfl rfl ?_; simp [back]) | (refine T.ret (Done.val (Or.inr rfl) ?_) <;> simp [resAs, Tryz.results146] <;> omega) | refine T.r0 fun K hK => ?_ | refine T.cf rfl ?_ | refine T.seq ?_ | refine T.skip ?_
end Go.Proofs.YtfdknjjnifnobaaGreat

namespace Go.Proofs.YtfdknjjnifnobaaGreat
open Go Go.Av
attribute [local irreducible] T ACalls TX EX LX Draws Some_ ACallsX eTy eTm MTy.kind MTy.kids MTm.kind MTm.name MTm.num MTm.ty MTm.fr MTm.label MTm.kids
attribute [local simp] eTy_def eTm_def
set_option maxHeartbeats 16000000
set_option maxRecDepth 8000
attribute [local simp] Option.bind

theorem retyped_yes (e : MTm) (hh : hasTyM e.kind = true) (t0 : MTy) (h0 : nTy t0 ≤ 1099511627776) (ts : List MTy) (hn : nTm e ≤ 1099511627776) (hts : ∀ t ∈ ts, nTy t ≤ 1099511627776) (hl : (typesS e.kids).length ≤ ts.length) (hl2 : ts.length ≤ 1099511627776)
    (ih : ∀ u ∈ e.kids, ∀ (ts : List MTy), (∀ t ∈ ts, nTy t ≤ 1099511627776) → (typesM u).length ≤ ts.length → ts.length ≤ 1099511627776 → ACalls Tryz.prog 148 [aTm u, .l (ts.map eTy)] [] (.tup [aTm (withM u ts), .l ((ts.drop (typesM u).length).map eTy)]) [] []) :
    ACalls Tryz.prog 148 [aTm e, .l (((t0 :: ts)).map eTy)] [] (.tup [aTm (.mk e.kind e.name e.num t0 e.fr e.label (withS e.kids ts)), .l ((ts.drop (typesS e.kids).length).map eTy)]) [] [] := by
  obtain ⟨hnt, hnf, hnk, hnu⟩ := nTm_parts hn
  have h1 := ownType_ok t0 h0
  have h2 := hasType_ok e
  rw [hh] at h2
  refine ACalls.of_body Tryz.func148 (by kernel_rfl) rfl (by kernel_rfl) (by simp [Tryz.ntmps148]) (by simp) ?_
  rw [Tryz.ntmps148]
  repeat' first | ((first | refine aops_end (hK _ ?_) | refine aopsF_end (hK _ ?_)); clear hK K) | ((first | refine aops_go ?_ | refine aopsF_go ?_); simp; (try (refine gen fun q hq => ?_; cases q <;> (try simp at hq) <;> (try (have hh : True := hq; clear hh hq))))) | (refine wpcall_pure rfl (h2) ?_; simp; (try (refine gen fun q hq => ?_; cases q <;> (try simp at hq) <;> (try (have hh : True := hq; clear hh hq))))) | (refine wpcall_pure rfl (h1) ?_; simp; (try (refine gen fun q hq => ?_; cases q <;> (try simp at hq) <;> (try (have hh : True := hq; clear hh hq))))) | refine T.rdF1 (id := 4) mixed (fun _ => false) [7] [5] 8 [2] (by kernel_rfl) fun K hK => ?_ | refine T.r0 fun K hK => ?_ | (refine ⟨by omega, ?_⟩) | refine T.ct rfl ?_ | refine T.seq ?_ | refine T.block ?_
  refine T.ownifyObj 2 8 9 28 (row := [.d (.i e.kind), .d (.str e.name), .d (.i e.num), .d (.i (t0).kind), .d (.sl ((t0).kids.map eTy)), .d (.i e.fr.kind), .d (.sl (e.fr.kids.map eTy)), .d (.i e.label), .nil]) rfl rfl ?_
  refine T.loopK (α := Nat × List (List CV)) [4, 5, 6, 23, 24] (fun x => [(1, .l ((ts.drop (typesS (e.kids.take x.1)).length).map eTy)), (25, .i x.1)]) (fun x => [(2, [.d (.i e.kind), .d (.str e.name), .d (.i e.num), .d (.i (t0).kind), .d (.sl ((t0).kids.map eTy)), .d (.i e.fr.kind), .d (.sl (e.fr.kids.map eTy)), .d (.i e.label), .own 0 x.1])]) (fun x => x.2)
    (fun x _ => [{ sz := 9, ety := 28, rows := ((withS e.kids ts).take x.1).map eTm, wr := true }]) (fun x => e.kids.length + 1 - x.1) (fun x => x.1 ≤ e.kids.length) (by simp; rfl) (fun x hx => ?_) (0, []) (by simp) (by simp) (by simp) (by simp [typesS, List.take_of_length_le])
  obtain ⟨p, G⟩ := x
  dsimp only at hx ⊢
  simp only [ups, List.set_cons_zero, List.set_cons_succ, List.cons_append, List.nil_append]
  have hwl : (withS e.kids ts).length = e.kids.length := withS_len _ _
  by_cases hlt : p < e.kids.length
  · obtain ⟨u, ht⟩ := get_lt hlt
    have htm : u ∈ e.kids := List.mem_of_getElem? ht
    have hgt : e.kids[p] = u := by rw [List.getElem?_eq_getElem hlt] at ht; exact Option.some.inj ht
    have hdr : e.kids.drop p = u :: e.kids.drop (p + 1) := by rw [List.drop_eq_getElem_cons hlt, hgt]
    have hle := typesS_le e.kids (p + 1)
    rw [typesS_take ht, List.length_append] at hle
    have hu := ih u htm (ts.drop (typesS (e.kids.take p)).length) (fun t h => hts t (List.mem_of_mem_drop h)) (by simp; omega) (by simp; omega)
    have hwt := withS_take ts ht
    have htk : ts.drop (typesS (e.kids.take (p + 1))).length = (ts.drop (typesS (e.kids.take p)).length).drop (typesM u).length := by rw [typesS_take ht, List.drop_drop, List.length_append]
    generalize (ts.drop (typesS (e.kids.take p)).length) = T1 at *
    generalize (withM u T1) = wu at *
    generalize (withS e.kids ts) = Z at *
    generalize T1.drop (typesM u).length = T2 at *
    have hmin : min p e.kids.length = p := by omega
    repeat' first | (refine aops_end (hK _ ?_); clear hK K) | (refine aops_go ?_; simp [hlt, hgt, hmin, hwl]; (try simp (disch := omega) only [wrap64]); (try (refine gen fun q hq => ?_; cases q <;> (try simp [hlt, hgt, hmin, hwl] at hq) <;> (try (have hh : True := hq; clear hh hq))))) | (refine wpcall_pure rfl (hu) ?_; simp [hlt, hgt, hmin, hwl]; (try simp (disch := omega) only [wrap64]); (try (refine gen fun q hq => ?_; cases q <;> (try simp [hlt, hgt, hmin, hwl] at hq) <;> (try (have hh : True := hq; clear hh hq))))) | (refine ⟨by omega, by omega, ?_⟩) | (refine ⟨(p + 1, _), by dsimp only; omega, by dsimp only; omega, rfl, ?_, ?_⟩ <;> simp (disch := omega) [wrap64, hwt, htk, eTm_def]) | refine T.r0 fun K hK => ?_ | refine T.r1 fun K hK => ?_ | refine T.ct rfl ?_ | refine T.seq ?_ | refine T.block ?_ | refine T.skip ?_
  · have hp' : p = e.kids.length := by omega
    subst hp'
    rw [List.take_length, List.take_of_length_le (by omega)]
    repeat' first | (refine aops_end (hK _ ?_); clear hK K) | (refine aops_go ?_; simp [hlt]; (try (refine gen fun q hq => ?_; cases q <;> (try simp [hlt] at hq) <;> (try (have hh : True := hq; clear hh hq))))) | (refine T.ret (Done.tup (Or.inr rfl) ?_) <;> simp [resAs, Tryz.results148, eTm_def, hwl] <;> omega) | refine T.r0 fun K hK => ?_ | refine T.cf rfl ?_ | refine T.seq ?_ | refine T.exit ?_

theorem retyped_no (e : MTm) (hh : hasTyM e.kind = false) (t0 : MTy) (h0 : nTy t0 ≤ 1099511627776) (ts : List MTy) (hn : nTm e ≤ 1099511627776) (hts : ∀ t ∈ ts, nTy t ≤ 1099511627776) (hl : (typesS e.kids).length ≤ ts.length) (hl2 : ts.length ≤ 1099511627776)
    (ih : ∀ u ∈ e.kids, ∀ (ts : List MTy), (∀ t ∈ ts, nTy t ≤ 1099511627776) → (typesM u).length ≤ ts.length → ts.length ≤ 1099511627776 → ACalls Tryz.prog 148 [aTm u, .l (ts.map eTy)] [] (.tup [aTm (withM u ts), .l ((ts.drop (typesM u).length).map eTy)]) [] []) :
    ACalls Tryz.prog 148 [aTm e, .l ((ts).map eTy)] [] (.tup [aTm (.mk e.kind e.name e.num e.ty e.fr e.label (withS e.kids ts)), .l ((ts.drop (typesS e.kids).length).map eTy)]) [] [] := by
  obtain ⟨hnt, hnf, hnk, hnu⟩ := nTm_parts hn
  have h1 := ownType_ok t0 h0
  have h2 := hasType_ok e
  rw [hh] at h2
  refine ACalls.of_body Tryz.func148 (by kernel_rfl) rfl (by kernel_rfl) (by simp [Tryz.ntmps148]) (by simp) ?_
  rw [Tryz.ntmps148]
  repeat' first | (refine aops_end (hK _ ?_); clear hK K) | (refine aops_go ?_; simp; (try (refine gen fun q hq => ?_; cases q <;> (try simp at hq) <;> (try (have hh : True := hq; clear hh hq))))) | (refine wpcall_pure rfl (h2) ?_; simp; (try (refine gen fun q hq => ?_; cases q <;> (try simp at hq) <;> (try (have hh : True := hq; clear hh hq))))) | refine T.r0 fun K hK => ?_ | refine T.cf rfl ?_ | refine T.seq ?_ | refine T.block ?_ | refine T.skip ?_
  refine T.ownifyObj 2 8 9 28 (row := [.d (.i e.kind), .d (.str e.name), .d (.i e.num), .d (.i (e.ty).kind), .d (.sl ((e.ty).kids.map eTy)), .d (.i e.fr.kind), .d (.sl (e.fr.kids.map eTy)), .d (.i e.label), .nil]) rfl rfl ?_
  refine T.loopK (α := Nat × List (List CV)) [4, 5, 6, 23, 24] (fun x => [(1, .l ((ts.drop (typesS (e.kids.take x.1)).length).map eTy)), (25, .i x.1)]) (fun x => [(2, [.d (.i e.kind), .d (.str e.name), .d (.i e.num), .d (.i (e.ty).kind), .d (.sl ((e.ty).kids.map eTy)), .d (.i e.fr.kind), .d (.sl (e.fr.kids.map eTy)), .d (.i e.label), .own 0 x.1])]) (fun x => x.2)
    (fun x _ => [{ sz := 9, ety := 28, rows := ((withS e.kids ts).take x.1).map eTm, wr := true }]) (fun x => e.kids.length + 1 - x.1) (fun x => x.1 ≤ e.kids.length) (by simp; rfl) (fun x hx => ?_) (0, []) (by simp) (by simp) (by simp) (by simp [typesS, List.take_of_length_le])
  obtain ⟨p, G⟩ := x
  dsimp only at hx ⊢
  simp only [ups, List.set_cons_zero, List.set_cons_succ, List.cons_append, List.nil_append]
  have hwl : (withS e.kids ts).length = e.kids.length := withS_len _ _
  by_cases hlt : p < e.kids.length
  · obtain ⟨u, ht⟩ := get_lt hlt
    have htm : u ∈ e.kids := List.mem_of_getElem? ht
    have hgt : e.kids[p] = u := by rw [List.getElem?_eq_getElem hlt] at ht; exact Option.some.inj ht
    have hdr : e.kids.drop p = u :: e.kids.drop (p + 1) := by rw [List.drop_eq_getElem_cons hlt, hgt]
    have hle := typesS_le e.kids (p + 1)
    rw [typesS_take ht, List.length_append] at hle
    have hu := ih u htm (ts.drop (typesS (e.kids.take p)).length) (fun t h => hts t (List.mem_of_mem_drop h)) (by simp; omega) (by simp; omega)
    have hwt := withS_take ts ht
    have htk : ts.drop (typesS (e.kids.take (p + 1))).length = (ts.drop (typesS (e.kids.take p)).length).drop (typesM u).length := by rw [typesS_take ht, List.drop_drop, List.length_append]
    generalize (ts.drop (typesS (e.kids.take p)).length) = T1 at *
    generalize (withM u T1) = wu at *
    generalize (withS e.kids ts) = Z at *
    generalize T1.drop (typesM u).length = T2 at *
    have hmin : min p e.kids.length = p := by omega
    repeat' first | (refine aops_end (hK _ ?_); clear hK K) | (refine aops_go ?_; simp [hlt, hgt, hmin, hwl]; (try simp (disch := omega) only [wrap64]); (try (refine gen fun q hq => ?_; cases q <;> (try simp [hlt, hgt, hmin, hwl] at hq) <;> (try (have hh : True := hq; clear hh hq))))) | (refine wpcall_pure rfl (hu) ?_; simp [hlt, hgt, hmin, hwl]; (try simp (disch := omega) only [wrap64]); (try (refine gen fun q hq => ?_; cases q <;> (try simp [hlt, hgt, hmin, hwl] at hq) <;> (try (have hh : True := hq; clear hh hq))))) | (refine ⟨by omega, by omega, ?_⟩) | (refine ⟨(p + 1, _), by dsimp only; omega, by dsimp only; omega, rfl, ?_, ?_⟩ <;> simp (disch := omega) [wrap64, hwt, htk, eTm_def]) | refine T.r0 fun K hK => ?_ | refine T.r1 fun K hK => ?_ | refine T.ct rfl ?_ | refine T.seq ?_ | refine T.block ?_ | refine T.skip ?_
  · have hp' : p = e.kids.length := by omega
    subst hp'
    rw [List.take_length, List.take_of_length_le (by omega)]
    repeat' first | (refine aops_end (hK _ ?_); clear hK K) | (refine aops_go ?_; simp [hlt]; (try (refine gen fun q hq => ?_; cases q <;> (try simp [hlt] at hq) <;> (try (have hh : True := hq; clear hh hq))))) | (refine T.ret (Done.tup (Or.inr rfl) ?_) <;> simp [resAs, Tryz.results148, eTm_def, hwl] <;> omega) | refine T.r0 fun K hK => ?_ | refine T.cf rfl ?_ | refine T.seq ?_ | refine T.exit ?_

theorem retyped_ok : ∀ (e : MTm), nTm e ≤ 1099511627776 → ∀ (ts : List MTy), (∀ t ∈ ts, nTy t ≤ 1099511627776) → (typesM e).length ≤ ts.length → ts.length ≤ 1099511627776 → ACalls Tryz.prog 148 [aTm e, .l (ts.map eTy)] [] (.tup [aTm (withM e ts), .l ((ts.drop (typesM e).length).map eTy)]) [] [] := by
  intro e
  induction e using MTm.ind with
  | h e ih =>
    intro hn ts hts hl hl2
    obtain ⟨_, _, _, hnu⟩ := nTm_parts hn
    have ih' := fun u hu => ih u hu (hnu u hu)
    rw [typesM_def] at hl ⊢
    rw [withM_def]
    cases hh : hasTyM e.kind with
    | true =>
      rw [hh] at hl
      simp only [if_true, List.length_append, List.length_singleton] at hl ⊢
      match ts, hl, hts, hl2 with
      | t0 :: r, hl, hts, hl2 =>
        simp only [List.length_cons] at hl hl2
        have := retyped_yes e hh t0 (hts t0 (by simp)) r hn (fun t h => hts t (by simp [h])) (by omega) (by omega) ih'
        rw [Nat.add_comm 1, List.drop_succ_cons, List.drop_succ_cons, List.drop_zero, List.headD_cons]
        exact this
      | [], hl, _, _ => simp at hl
    | false =>
      rw [hh] at hl
      simp only [Bool.false_eq_true, if_false, List.nil_append] at hl ⊢
      exact retyped_no e hh zeroT (by simp [nTy_mk, nTyS]) ts hn hts hl hl2 ih'

theorem refinements_ok (e : MTm) (hv : termValidM e = true) (m : Nat) (hm : m ≤ 1048576) : ACalls Tryz.prog 78 [aTm e, .i m] [] (.l (((refineM e).take m).map eTm)) [] [] := by
  have hsz := valid_small hv
  have h1 := (types_own e (by omega)).sealed (by simp)
  dsimp only at h1
  obtain ⟨hvt, hvn⟩ := termValidM_iff.1 hv
  obtain ⟨hsh, hln⟩ := hvt.types
  obtain ⟨ts, hts⟩ : ∃ ts, typesM e = ts := ⟨_, rfl⟩
  have hcv := fun i t y => cand_valid (i := i) (t := t) (y := y) hv
  rw [← keep_refine, candM]
  rw [hts] at h1 hsh hln hcv ⊢
  have hl30 : ts.length ≤ 30 := by omega
  have hcl := cloneTy_own ts (by omega)
  rw [← subsP_all]
  refine ACalls.of_body Tryz.func78 (by kernel_rfl) rfl (by kernel_rfl) (by simp [Tryz.ntmps78]) (by simp) ?_
  rw [Tryz.ntmps78]
  repeat' first | (refine aops_end (hK _ ?_); clear hK K) | (refine aops_go ?_; simp; (try (refine gen fun q hq => ?_; cases q <;> (try simp at hq) <;> (try (have hh : True := hq; clear hh hq))))) | (refine wpcall_pure rfl (h1) ?_; simp; (try (refine gen fun q hq => ?_; cases q <;> (try simp at hq) <;> (try (have hh : True := hq; clear hh hq))))) | refine T.r0 fun K hK => ?_ | refine T.seq ?_ | refine T.block ?_
  refine T.ownify 5 9 28 (by simp) ?_
  refine T.loopK (α := Nat × List (List CV) × List Arr) [1, 2, 4, 6, 18, 19] (fun x => [(5, .c (.own 0 (keepM e m (subsP refTyM ts x.1)).length)), (20, .i x.1)]) (fun x => []) (fun x => x.2.1) (fun x _ => { sz := 9, ety := 28, rows := (keepM e m (subsP refTyM ts x.1)).map eTm, wr := true } :: x.2.2) (fun x => ts.length + 1 - x.1) (fun x => x.1 ≤ ts.length) (by simp; rfl) (fun x hx => ?_) (0, [], []) (by simp) (by simp) (by simp [subsP_zero, keep_nil]) (by simp [subsP_zero, keep_nil])
  obtain ⟨p, G, GA⟩ := x
  dsimp only at hx ⊢
  simp only [ups, List.set_cons_zero, List.set_cons_succ, List.cons_append, List.nil_append, List.append_nil]
  by_cases hlt : p < ts.length
  · obtain ⟨u, ht⟩ := get_lt hlt
    have htm : u ∈ ts := List.mem_of_getElem? ht
    have hgt : ts[p] = u := by rw [List.getElem?_eq_getElem hlt] at ht; exact Option.some.inj ht
    have hdr : ts.drop p = u :: ts.drop (p + 1) := by rw [List.drop_eq_getElem_cons hlt, hgt]
    have hun := shape4 (hsh u htm)
    have hu := RefineType_ok u (by omega)
    have hul := refTy_small u
    have hsu := subsP_succ refTyM ht
    generalize subsP refTyM ts p = Z at *
    obtain ⟨ru, hru⟩ : ∃ ru, refTyM u = ru := ⟨_, rfl⟩
    rw [hru] at hu hul hsu
    repeat' first | (refine aops_end (hK _ ?_); clear hK K) | (refine aops_go ?_; simp [hlt, hgt]; (try simp (disch := omega) only [wrap64]); (try (refine gen fun q hq => ?_; cases q <;> (try simp [hlt, hgt] at hq) <;> (try (have hh : True := hq; clear hh hq))))) | (refine wpcall_pure rfl (hu) ?_; simp [hlt, hgt]; (try simp (disch := omega) only [wrap64]); (try (refine gen fun q hq => ?_; cases q <;> (try simp [hlt, hgt] at hq) <;> (try (have hh : True := hq; clear hh hq))))) | refine T.r0 fun K hK => ?_ | refine T.ct rfl ?_ | refine T.seq ?_ | refine T.block ?_ | refine T.skip ?_
    refine T.loopK (α := Nat × List (List CV) × List Arr) [1, 2, 4, 6, 7, 8, 18, 19, 20, 21, 22, 23, 24, 25, 26, 27, 62] (fun y => [(5, .c (.own 0 (keepM e m (Z ++ (ru.take y.1).map (fun v => ts.set p v))).length)), (28, .i y.1)]) (fun y => []) (fun y => y.2.1) (fun y _ => { sz := 9, ety := 28, rows := (keepM e m (Z ++ (ru.take y.1).map (fun v => ts.set p v))).map eTm, wr := true } :: (GA ++ y.2.2)) (fun y => ru.length + 1 - y.1) (fun y => y.1 ≤ ru.length) (by simp; rfl) (fun y hy => ?_) (0, [], []) (by simp) (by simp) (by simp) (by simp)
    obtain ⟨q, G2, GA2⟩ := y
    dsimp only at hy ⊢
    simp only [ups, List.set_cons_zero, List.set_cons_succ, List.cons_append, List.nil_append, List.append_nil]
    by_cases hlq : q < ru.length
    · obtain ⟨v, hv2⟩ := get_lt hlq
      have hgv : ru[q] = v := by rw [List.getElem?_eq_getElem hlq] at hv2; exact Option.some.inj hv2
      have htv : Z ++ (ru.take (q + 1)).map (fun v => ts.set p v) = (Z ++ (ru.take q).map (fun v => ts.set p v)) ++ [ts.set p v] := by rw [List.take_add_one, hv2]; simp
      obtain ⟨hxv, hcs⟩ := hcv p u v ht (by rw [hru]; exact List.mem_of_getElem? hv2)
      have hky := fun h hl => keep_yes (e := e) (m := m) (L := Z ++ (ru.take q).map (fun v => ts.set p v)) (c := ts.set p v) h hl
      have hkn := fun h => keep_no (e := e) (m := m) (L := Z ++ (ru.take q).map (fun v => ts.set p v)) (c := ts.set p v) h
      have hkf := fun h => keep_full (e := e) (m := m) (L := Z ++ (ru.take q).map (fun v => ts.set p v)) (c := ts.set p v) h
      have hkl := keep_len e m (Z ++ (ru.take q).map (fun v => ts.set p v))
      rw [← htv] at hky hkn hkf
      have hrt := retyped_ok e (by omega) (ts.set p v) (fun t h => by have := shape4 (hcs t h); omega) (by rw [hts]; simp) (by simp; omega)
      rw [hts, List.drop_of_length_le (by simp)] at hrt
      have hxn := valid_small hxv
      have hti := term0_ok [] (withM e (ts.set p v)) 12 (by simp only [termValidM, Bool.and_eq_true] at hxv; exact hxv.1) (by simp) (by intro b hb; simp at hb) (by omega)
      have how := own_ok (withM e (ts.set p v)) (by omega)
      have hset : (ts.set p v).map eTy = (ts.map eTy).set p (eTy v) := List.map_set
      simp only [typedB] at hky hkn
      generalize keepM e m (Z ++ (ru.take q).map (fun v => ts.set p v)) = K1 at *
      generalize withM e (ts.set p v) = X at *
      cases hty : typeM [] X with
      | none =>
        rw [hty] at hti hkn
        simp only [tyRes] at hti
        have hk2 := hkn rfl
        repeat' first | (refine aops_end (hK _ ?_); clear hK K) | (refine aops_go ?_; simp [hlq, hgv, hlt, ← hset]; (try simp (disch := omega) only [wrap64]); (try (refine gen fun q hq => ?_; cases q <;> (try simp [hlq, hgv, hlt, ← hset] at hq) <;> (try (have hh : True := hq; clear hh hq))))) | (refine wpcall_pure ?_ (hrt) ?_; (focus (solve | simp [hlq, hgv, hlt, ← hset])); simp [hlq, hgv, hlt, ← hset]; (try simp (disch := omega) only [wrap64]); (try (refine gen fun q hq => ?_; cases q <;> (try simp [hlq, hgv, hlt, ← hset] at hq) <;> (try (have hh : True := hq; clear hh hq))))) | (refine wpcall_pure ?_ (hti) ?_; (focus (solve | simp [hlq, hgv, hlt, ← hset])); simp [hlq, hgv, hlt, ← hset]; (try simp (disch := omega) only [wrap64]); (try (refine gen fun q hq => ?_; cases q <;> (try simp [hlq, hgv, hlt, ← hset] at hq) <;> (try (have hh : True := hq; clear hh hq))))) | (refine wpcall_own rfl (hcl) ?_; simp [hlq, hgv, hlt, ← hset]; (try simp (disch := omega) only [wrap64]); (try (refine gen fun q hq => ?_; cases q <;> (try simp [hlq, hgv, hlt, ← hset] at hq) <;> (try (have hh : True := hq; clear hh hq))))) | refine T.r0 fun K hK => ?_ | refine T.r1 fun K hK => ?_ | refine T.ct rfl ?_ | refine T.cf rfl ?_ | refine T.seq ?_ | refine T.block ?_ | refine T.skip ?_
        refine ⟨(q + 1, _, GA2 ++ [{ sz := 2, ety := 25, rows := (ts.map eTy).set p (eTy v), wr := false }]), by dsimp only; omega, by dsimp only; omega, (by simp only [ups, List.set_cons_zero, List.cons_append, List.append_assoc, List.nil_append]; rfl), ?_, ?_⟩
        · simp [hk2, eTy_def, eTm_def, -List.map_take]
        · simp (disch := omega) [wrap64, hk2, -List.map_take]
      | some t =>
        rw [hty] at hti hky
        simp only [tyRes] at hti
        by_cases hf : K1.length < m
        · have hk2 := hky rfl hf
          have hf2 : (K1.length : Int) < m := by omega
          repeat' first | (refine aops_end (hK _ ?_); clear hK K) | (refine aops_go ?_; simp [hlq, hgv, hlt, hf, hf2, ← hset]; (try simp (disch := omega) only [wrap64]); (try (refine gen fun q hq => ?_; cases q <;> (try simp [hlq, hgv, hlt, hf, hf2, ← hset] at hq) <;> (try (have hh : True := hq; clear hh hq))))) | (refine wpcall_pure ?_ (hrt) ?_; (focus (solve | simp [hlq, hgv, hlt, hf, hf2, ← hset])); simp [hlq, hgv, hlt, hf, hf2, ← hset]; (try simp (disch := omega) only [wrap64]); (try (refine gen fun q hq => ?_; cases q <;> (try simp [hlq, hgv, hlt, hf, hf2, ← hset] at hq) <;> (try (have hh : True := hq; clear hh hq))))) | (refine wpcall_pure ?_ (hti) ?_; (focus (solve | simp [hlq, hgv, hlt, hf, hf2, ← hset])); simp [hlq, hgv, hlt, hf, hf2, ← hset]; (try simp (disch := omega) only [wrap64]); (try (refine gen fun q hq => ?_; cases q <;> (try simp [hlq, hgv, hlt, hf, hf2, ← hset] at hq) <;> (try (have hh : True := hq; clear hh hq))))) | (refine wpcall_pure rfl (how) ?_; simp [hlq, hgv, hlt, hf, hf2, ← hset]; (try simp (disch := omega) only [wrap64]); (try (refine gen fun q hq => ?_; cases q <;> (try simp [hlq, hgv, hlt, hf, hf2, ← hset] at hq) <;> (try (have hh : True := hq; clear hh hq))))) | (refine wpcall_own rfl (hcl) ?_; simp [hlq, hgv, hlt, hf, hf2, ← hset]; (try simp (disch := omega) only [wrap64]); (try (refine gen fun q hq => ?_; cases q <;> (try simp [hlq, hgv, hlt, hf, hf2, ← hset] at hq) <;> (try (have hh : True := hq; clear hh hq))))) | (refine ⟨by omega, by omega, ?_⟩) | refine T.r0 fun K hK => ?_ | refine T.r1 fun K hK => ?_ | refine T.ct rfl ?_ | refine T.seq ?_ | refine T.block ?_ | refine T.skip ?_
          refine ⟨(q + 1, _, GA2 ++ [{ sz := 2, ety := 25, rows := (ts.map eTy).set p (eTy v), wr := false }]), by dsimp only; omega, by dsimp only; omega, (by simp only [ups, List.set_cons_zero, List.cons_append, List.append_assoc, List.nil_append]; rfl), ?_, ?_⟩
          · simp [hk2, eTy_def, eTm_def, -List.map_take]
          · simp (disch := omega) [wrap64, hk2, -List.map_take]
        · have hk2 := hkf hf
          have hf2 : ¬ (K1.length : Int) < m := by omega
          repeat' first | (refine aops_end (hK _ ?_); clear hK K) | (refine aops_go ?_; simp [hlq, hgv, hlt, hf, hf2, ← hset]; (try simp (disch := omega) only [wrap64]); (try (refine gen fun q hq => ?_; cases q <;> (try simp [hlq, hgv, hlt, hf, hf2, ← hset] at hq) <;> (try (have hh : True := hq; clear hh hq))))) | (refine wpcall_pure ?_ (hrt) ?_; (focus (solve | simp [hlq, hgv, hlt, hf, hf2, ← hset])); simp [hlq, hgv, hlt, hf, hf2, ← hset]; (try simp (disch := omega) only [wrap64]); (try (refine gen fun q hq => ?_; cases q <;> (try simp [hlq, hgv, hlt, hf, hf2, ← hset] at hq) <;> (try (have hh : True := hq; clear hh hq))))) | (refine wpcall_pure ?_ (hti) ?_; (focus (solve | simp [hlq, hgv, hlt, hf, hf2, ← hset])); simp [hlq, hgv, hlt, hf, hf2, ← hset]; (try simp (disch := omega) only [wrap64]); (try (refine gen fun q hq => ?_; cases q <;> (try simp [hlq, hgv, hlt, hf, hf2, ← hset] at hq) <;> (try (have hh : True := hq; clear hh hq))))) | (refine wpcall_own rfl (hcl) ?_; simp [hlq, hgv, hlt, hf, hf2, ← hset]; (try simp (disch := omega) only [wrap64]); (try (refine gen fun q hq => ?_; cases q <;> (try simp [hlq, hgv, hlt, hf, hf2, ← hset] at hq) <;> (try (have hh : True := hq; clear hh hq))))) | refine T.r0 fun K hK => ?_ | refine T.r1 fun K hK => ?_ | refine T.ct rfl ?_ | refine T.cf rfl ?_ | refine T.seq ?_ | refine T.block ?_ | refine T.skip ?_
          refine ⟨(q + 1, _, GA2 ++ [{ sz := 2, ety := 25, rows := (ts.map eTy).set p (eTy v), wr := false }]), by dsimp only; omega, by dsimp only; omega, (by simp only [ups, List.set_cons_zero, List.cons_append, List.append_assoc, List.nil_append]; rfl), ?_, ?_⟩
          · simp [hk2, eTy_def, eTm_def, -List.map_take]
          · simp (disch := omega) [wrap64, hk2, -List.map_take]
    · have hq' : q = ru.length := by omega
      subst hq'
      rw [List.take_length, ← hsu]
      repeat' first | (refine aops_end (hK _ ?_); clear hK K) | (refine aops_go ?_; simp [hlq]; (try simp (disch := omega) only [wrap64]); (try (refine gen fun q hq => ?_; cases q <;> (try simp [hlq] at hq) <;> (try (have hh : True := hq; clear hh hq))))) | refine T.r0 fun K hK => ?_ | refine T.r1 fun K hK => ?_ | refine T.cf rfl ?_ | refine T.seq ?_ | refine T.exit ?_
      refine ⟨(p + 1, _, GA ++ GA2), by dsimp only; omega, by dsimp only; omega, (by simp only [ups, List.set_cons_zero, List.cons_append, List.append_assoc, List.nil_append]; rfl), ?_, ?_⟩
      · simp
      · simp (disch := omega) [wrap64]
  · have hp' : p = ts.length := by omega
    subst hp'
    repeat' first | (refine aops_end (hK _ ?_); clear hK K) | (refine aops_go ?_; simp [hlt]; (try (refine gen fun q hq => ?_; cases q <;> (try simp [hlt] at hq) <;> (try (have hh : True := hq; clear hh hq))))) | (refine T.ret (Done.val (Or.inr rfl) ?_) <;> simp [resAs, Tryz.results78] <;> omega) | refine T.r0 fun K hK => ?_ | refine T.cf rfl ?_ | refine T.seq ?_ | refine T.exit ?_

theorem RefineTerm_ok (e : MTm) (hn : nTm e ≤ 1099511627776) : ACalls Tryz.prog 37 [aTm e] [] (.l ((refineTm e).map eTm)) [] [] := by
  have h1 := TermValid_ok e hn
  simp only [refineTm]
  cases hv : termValidM e with
  | false =>
    rw [hv] at h1
    refine ACalls.of_body Tryz.func37 (by kernel_rfl) rfl (by kernel_rfl) (by simp [Tryz.ntmps37]) (by simp) ?_
    rw [Tryz.ntmps37]
    repeat' first | (refine aops_end (hK _ ?_); clear hK K) | (refine aops_go ?_; simp; (try (refine gen fun q hq => ?_; cases q <;> (try simp at hq) <;> (try (have hh : True := hq; clear hh hq))))) | (refine wpcall_pure rfl (h1) ?_; simp; (try (refine gen fun q hq => ?_; cases q <;> (try simp at hq) <;> (try (have hh : True := hq; clear hh hq))))) | (refine T.ret (Done.val (Or.inr rfl) ?_) <;> simp [resAs, Tryz.results37] <;> omega) | refine T.r0 fun K hK => ?_ | refine T.ct rfl ?_ | refine T.seq ?_
  | true =>
    rw [hv] at h1
    have h2 := refinements_ok e hv 1048576 (by omega)
    rw [List.take_of_length_le (by have := (refine_small hv).1; omega)] at h2
    simp only [if_true]
    generalize refineM e = R at *
    refine ACalls.of_body Tryz.func37 (by kernel_rfl) rfl (by kernel_rfl) (by simp [Tryz.ntmps37]) (by simp) ?_
    rw [Tryz.ntmps37]
    repeat' first | (refine aops_end (hK _ ?_); clear hK K) | (refine aops_go ?_; simp; (try (refine gen fun q hq => ?_; cases q <;> (try simp at hq) <;> (try (have hh : True := hq; clear hh hq))))) | (refine wpcall_pure rfl (h1) ?_; simp; (try (refine gen fun q hq => ?_; cases q <;> (try simp at hq) <;> (try (have hh : True := hq; clear hh hq))))) | (refine wpcall_pure rfl (h2) ?_; simp; (try (refine gen fun q hq => ?_; cases q <;> (try simp at hq) <;> (try (have hh : True := hq; clear hh hq))))) | (refine T.ret (Done.val (Or.inr rfl) ?_) <;> simp [resAs, Tryz.results37] <;> omega) | refine T.r0 fun K hK => ?_ | refine T.cf rfl ?_ | refine T.seq ?_ | refine T.skip ?_

theorem MaximalTerm_ok (e : MTm) (hn : nTm e ≤ 1073741824) : ACalls Tryz.prog 22 [aTm e] [] (.b ((typeInM [] e).isSome && (refineM e).isEmpty)) [] [] := by
  have h1 := TypeOf_ok e hn
  cases ht : typeInM [] e with
  | none =>
    rw [ht] at h1
    simp only [tyRes] at h1
    refine ACalls.of_body Tryz.func22 (by kernel_rfl) rfl (by kernel_rfl) (by simp [Tryz.ntmps22]) (by simp) ?_
    rw [Tryz.ntmps22]
    repeat' first | (refine aops_end (hK _ ?_); clear hK K) | (refine aops_go ?_; simp; (try (refine gen fun q hq => ?_; cases q <;> (try simp at hq) <;> (try (have hh : True := hq; clear hh hq))))) | (refine wpcall_pure rfl (h1) ?_; simp; (try (refine gen fun q hq => ?_; cases q <;> (try simp at hq) <;> (try (have hh : True := hq; clear hh hq))))) | (refine T.ret (Done.data (Or.inr rfl) ?_ ?_) <;> simp [Tryz.results22] <;> omega) | refine T.r0 fun K hK => ?_
  | some t =>
    rw [ht] at h1
    simp only [tyRes] at h1
    have h2 := refinements_ok e (typeIn_some ht).2.1 1 (by omega)
    cases hr : refineM e with
    | nil =>
      rw [hr] at h2
      refine ACalls.of_body Tryz.func22 (by kernel_rfl) rfl (by kernel_rfl) (by simp [Tryz.ntmps22]) (by simp) ?_
      rw [Tryz.ntmps22]
      repeat' first | (refine aops_end (hK _ ?_); clear hK K) | (refine aops_go ?_; simp; (try (refine gen fun q hq => ?_; cases q <;> (try simp at hq) <;> (try (have hh : True := hq; clear hh hq))))) | (refine wpcall_pure rfl (h1) ?_; simp; (try (refine gen fun q hq => ?_; cases q <;> (try simp at hq) <;> (try (have hh : True := hq; clear hh hq))))) | (refine wpcall_pure rfl (h2) ?_; simp; (try (refine gen fun q hq => ?_; cases q <;> (try simp at hq) <;> (try (have hh : True := hq; clear hh hq))))) | (refine T.ret (Done.data (Or.inr rfl) ?_ ?_) <;> simp [Tryz.results22] <;> omega) | refine T.r0 fun K hK => ?_
    | cons x r =>
      rw [hr] at h2
      simp only [List.take_succ_cons, List.take_zero, List.map_cons, List.map_nil] at h2
      refine ACalls.of_body Tryz.func22 (by kernel_rfl) rfl (by kernel_rfl) (by simp [Tryz.ntmps22]) (by simp) ?_
      rw [Tryz.ntmps22]
      repeat' first | (refine aops_end (hK _ ?_); clear hK K) | (refine aops_go ?_; simp; (try (refine gen fun q hq => ?_; cases q <;> (try simp at hq) <;> (try (have hh : True := hq; clear hh hq))))) | (refine wpcall_pure rfl (h1) ?_; simp; (try (refine gen fun q hq => ?_; cases q <;> (try simp at hq) <;> (try (have hh : True := hq; clear hh hq))))) | (refine wpcall_pure rfl (h2) ?_; simp; (try (refine gen fun q hq => ?_; cases q <;> (try simp at hq) <;> (try (have hh : True := hq; clear hh hq))))) | (refine T.ret (Done.data (Or.inr rfl) ?_ ?_) <;> simp [Tryz.results22] <;> omega) | refine T.r0 fun K hK => ?_

def migrateTm (e : MTm) : Option MTm := if (typeInM [] e).isSome = true then some (migrateM e) else none
theorem MigrateTerm_ok (e : MTm) (hn : nTm e ≤ 1073741824) : ACalls Tryz.prog 26 [aTm e] [] (.tup (tmRes (migrateTm e))) [] [] := by
  have h1 := TypeOf_ok e hn
  simp only [migrateTm]
  cases ht : typeInM [] e with
  | none =>
    rw [ht] at h1
    simp only [tyRes, Option.isSome_none, Bool.false_eq_true, if_false, tmRes] at h1 ⊢
    refine ACalls.of_body Tryz.func26 (by kernel_rfl) rfl (by kernel_rfl) (by simp [Tryz.ntmps26]) (by simp) ?_
    rw [Tryz.ntmps26]
    repeat' first | (refine aops_end (hK _ ?_); clear hK K) | (refine aops_go ?_; simp; (try (refine gen fun q hq => ?_; cases q <;> (try simp at hq) <;> (try (have hh : True := hq; clear hh hq))))) | (refine wpcall_pure rfl (h1) ?_; simp; (try (refine gen fun q hq => ?_; cases q <;> (try simp at hq) <;> (try (have hh : True := hq; clear hh hq))))) | (refine T.ret (Done.tup (Or.inr rfl) ?_) <;> simp [resAs, Tryz.results26] <;> omega) | refine T.r0 fun K hK => ?_ | refine T.ct rfl ?_ | refine T.seq ?_
  | some t =>
    rw [ht] at h1
    simp only [tyRes, Option.isSome_some, if_true, tmRes] at h1 ⊢
    have h2 := own_ok e (by omega)
    have hv := (typeIn_some ht).2.1
    obtain ⟨R, hR⟩ : ∃ R, migrateM e = R := ⟨_, rfl⟩
    rw [hR]
    refine ACalls.of_body Tryz.func26 (by kernel_rfl) rfl (by kernel_rfl) (by simp [Tryz.ntmps26]) (by simp) ?_
    rw [Tryz.ntmps26]
    repeat' first | (refine aops_end (hK _ ?_); clear hK K) | (refine aops_go ?_; simp; (try (refine gen fun q hq => ?_; cases q <;> (try simp at hq) <;> (try (have hh : True := hq; clear hh hq))))) | (refine wpcall_pure rfl (h1) ?_; simp; (try (refine gen fun q hq => ?_; cases q <;> (try simp at hq) <;> (try (have hh : True := hq; clear hh hq))))) | (refine wpcall_pure rfl (h2) ?_; simp; (try (refine gen fun q hq => ?_; cases q <;> (try simp at hq) <;> (try (have hh : True := hq; clear hh hq))))) | refine T.r0 fun K hK => ?_ | refine T.cf rfl ?_ | refine T.seq ?_ | refine T.block ?_ | refine T.skip ?_
    refine T.loopK (α := MTm × List (List CV)) [2, 6] (fun x => []) (fun x => [(3, (aTm x.1).cells)]) (fun x => x.2) (fun x A => A) (fun x => 15 * (typesM x.1).length + 1 - sumW x.1) (fun x => termValidM x.1 = true ∧ migrateM x.1 = R) (by simp; rfl) (fun x hx => ?_) (e, []) ⟨hv, hR⟩ (by simp) (by simp) (by simp)
    obtain ⟨x, G⟩ := x
    obtain ⟨hxv, hxR⟩ := hx
    dsimp only at hxv hxR ⊢
    simp only [ups, List.set_cons_zero, List.set_cons_succ, List.cons_append, List.nil_append, List.append_nil]
    have h3 := refinements_ok x hxv 1 (by omega)
    cases hr : refineM x with
    | nil =>
      rw [hr] at h3
      rw [migrate_nil hr] at hxR
      subst hxR
      repeat' first | (refine aops_end (hK _ ?_); clear hK K) | (refine aops_go ?_; simp; (try (refine gen fun q hq => ?_; cases q <;> (try simp at hq) <;> (try (have hh : True := hq; clear hh hq))))) | (refine wpcall_pure rfl (h3) ?_; simp; (try (refine gen fun q hq => ?_; cases q <;> (try simp at hq) <;> (try (have hh : True := hq; clear hh hq))))) | (refine T.ret (Done.tup (Or.inr rfl) ?_) <;> simp [resAs, Tryz.results26] <;> omega) | refine T.r0 fun K hK => ?_ | refine T.ct rfl ?_ | refine T.seq ?_ | refine T.block ?_
    | cons y r =>
      rw [hr] at h3
      simp only [List.take_succ_cons, List.take_zero, List.map_cons, List.map_nil] at h3
      obtain ⟨q1, q2, q3⟩ := migrate_cons hxv hr
      repeat' first | (refine aops_end (hK _ ?_); clear hK K) | (refine aops_go ?_; simp; (try (refine gen fun q hq => ?_; cases q <;> (try simp at hq) <;> (try (have hh : True := hq; clear hh hq))))) | (refine wpcall_pure rfl (h3) ?_; simp; (try (refine gen fun q hq => ?_; cases q <;> (try simp at hq) <;> (try (have hh : True := hq; clear hh hq))))) | (refine ⟨(y, _), q3, ⟨q2, by rw [← q1]; exact hxR⟩, rfl, ?_, ?_⟩ <;> simp [eTm_def]) | refine T.r0 fun K hK => ?_ | refine T.r1 fun K hK => ?_ | refine T.cf rfl ?_ | refine T.seq ?_ | refine T.block ?_ | refine T.skip ?_

def sizP (l : List MTy) (p : Nat) : Nat := ((l.take p).map sizeTy).sum
theorem typeSize_ok : ∀ (e : MTy), nTy e ≤ 1099511627776 → ACalls Tryz.prog 98 [aTy e] [] (.i (sizeTy e)) [] [] := by
  intro e
  induction e using MTy.ind with
  | h e ih =>
    intro hn
    have hle := size_nTy e
    rw [sizeTy_def] at hle ⊢
    have hkl : e.kids.length ≤ 1099511627776 := by have := nTyS_len e.kids; rw [nTy_def] at hn; omega
    refine ACalls.of_body Tryz.func98 (by kernel_rfl) rfl (by kernel_rfl) (by simp [Tryz.ntmps98]) (by simp) ?_
    rw [Tryz.ntmps98]
    repeat' first | (refine aops_end (hK _ ?_); clear hK K) | (refine aops_go ?_; simp; (try (refine gen fun q hq => ?_; cases q <;> (try simp at hq) <;> (try (have hh : True := hq; clear hh hq))))) | refine T.r0 fun K hK => ?_ | refine T.seq ?_ | refine T.block ?_
    refine T.loopK (α := Nat × List (List CV)) [2, 7, 8] (fun x => [(3, .i (1 + sizP e.kids x.1)), (9, .i x.1)]) (fun x => []) (fun x => x.2) (fun x A => A) (fun x => e.kids.length + 1 - x.1) (fun x => x.1 ≤ e.kids.length) (by simp; rfl) (fun x hx => ?_) (0, []) (by simp) (by simp) (by simp) (by simp [sizP])
    obtain ⟨p, G⟩ := x
    dsimp only at hx ⊢
    simp only [ups, List.set_cons_zero, List.set_cons_succ, List.cons_append, List.nil_append]
    by_cases hlt : p < e.kids.length
    · obtain ⟨u, ht⟩ := get_lt hlt
      have htm : u ∈ e.kids := List.mem_of_getElem? ht
      have hgt : e.kids[p] = u := by rw [List.getElem?_eq_getElem hlt] at ht; exact Option.some.inj ht
      have hdr : e.kids.drop p = u :: e.kids.drop (p + 1) := by rw [List.drop_eq_getElem_cons hlt, hgt]
      have hu := ih u htm (by have := nTyS_mem htm; rw [nTy_def] at hn; omega)
      have hs : sizP e.kids (p + 1) = sizP e.kids p + sizeTy u := sum_take_one sizeTy ht
      have hb : sizP e.kids (p + 1) ≤ (e.kids.map sizeTy).sum := sum_take_le sizeTy e.kids (p + 1)
      generalize sizP e.kids p = S at *
      have hs' : (sizP e.kids (p + 1) : Int) = S + sizeTy u := by omega
      repeat' first | (refine aops_end (hK _ ?_); clear hK K) | (refine aops_go ?_; simp [hlt, hgt]; (try simp (disch := omega) only [wrap64]); (try (refine gen fun q hq => ?_; cases q <;> (try simp [hlt, hgt] at hq) <;> (try (have hh : True := hq; clear hh hq))))) | (refine wpcall_pure rfl (hu) ?_; simp [hlt, hgt]; (try simp (disch := omega) only [wrap64]); (try (refine gen fun q hq => ?_; cases q <;> (try simp [hlt, hgt] at hq) <;> (try (have hh : True := hq; clear hh hq))))) | (refine ⟨(p + 1, _), by dsimp only; omega, by dsimp only; omega, rfl, ?_, ?_⟩ <;> simp (disch := omega) [wrap64, hs', Int.add_assoc]) | refine T.r0 fun K hK => ?_ | refine T.r1 fun K hK => ?_ | refine T.ct rfl ?_ | refine T.seq ?_ | refine T.block ?_ | refine T.skip ?_
    · have hp' : p = e.kids.length := by omega
      subst hp'
      rw [show sizP e.kids e.kids.length = (e.kids.map sizeTy).sum by rw [sizP, List.take_length]]
      repeat' first | (refine aops_end (hK _ ?_); clear hK K) | (refine aops_go ?_; simp [hlt]; (try (refine gen fun q hq => ?_; cases q <;> (try simp [hlt] at hq) <;> (try (have hh : True := hq; clear hh hq))))) | (refine T.ret (Done.val (Or.inr rfl) ?_) <;> simp [resAs, Tryz.results98] <;> omega) | refine T.r0 fun K hK => ?_ | refine T.cf rfl ?_ | refine T.seq ?_ | refine T.exit ?_

def precOfM (e : MTm) : Nat := if termValidM e = true then sumW e else 0
def wgtP (l : List MTy) (p : Nat) : Nat := ((l.take p).map wgtM).sum
theorem TermTypes_sl (e : MTm) (hn : nTm e ≤ 1099511627776) : ACalls Tryz.prog 97 [aTm e] [] (.l ((termTypesM e).map eTy)) [] [] := by
  have h1 := TermValid_ok e hn
  have h2 := (types_own e hn).sealed (by simp)
  dsimp only at h2
  simp only [termTypesM]
  cases hv : termValidM e with
  | false =>
    rw [hv] at h1
    refine ACalls.of_body Tryz.func97 (by kernel_rfl) rfl (by kernel_rfl) (by simp [Tryz.ntmps97]) (by simp) ?_
    rw [Tryz.ntmps97]
    repeat' first | (refine aops_end (hK _ ?_); clear hK K) | (refine aops_go ?_; simp; (try (refine gen fun q hq => ?_; cases q <;> (try simp at hq) <;> (try (have hh : True := hq; clear hh hq))))) | (refine wpcall_pure rfl (h1) ?_; simp; (try (refine gen fun q hq => ?_; cases q <;> (try simp at hq) <;> (try (have hh : True := hq; clear hh hq))))) | (refine T.ret (Done.val (Or.inr rfl) ?_) <;> simp [resAs, Tryz.results97] <;> omega) | refine T.r0 fun K hK => ?_ | refine T.ct rfl ?_ | refine T.seq ?_
  | true =>
    rw [hv] at h1
    simp only [if_true]
    generalize typesM e = ts at *
    refine ACalls.of_body Tryz.func97 (by kernel_rfl) rfl (by kernel_rfl) (by simp [Tryz.ntmps97]) (by simp) ?_
    rw [Tryz.ntmps97]
    repeat' first | (refine aops_end (hK _ ?_); clear hK K) | (refine aops_go ?_; simp; (try (refine gen fun q hq => ?_; cases q <;> (try simp at hq) <;> (try (have hh : True := hq; clear hh hq))))) | (refine wpcall_pure rfl (h1) ?_; simp; (try (refine gen fun q hq => ?_; cases q <;> (try simp at hq) <;> (try (have hh : True := hq; clear hh hq))))) | (refine wpcall_pure rfl (h2) ?_; simp; (try (refine gen fun q hq => ?_; cases q <;> (try simp at hq) <;> (try (have hh : True := hq; clear hh hq))))) | (refine T.ret (Done.val (Or.inr rfl) ?_) <;> simp [resAs, Tryz.results97] <;> omega) | refine T.r0 fun K hK => ?_ | refine T.cf rfl ?_ | refine T.seq ?_ | refine T.skip ?_

theorem PrecisionOf_ok (e : MTm) (hn : nTm e ≤ 1099511627776) : ACalls Tryz.prog 39 [aTm e] [] (.i (precOfM e)) [] [] := by
  have h1 := TermTypes_sl e hn
  have hp : precOfM e = ((termTypesM e).map wgtM).sum := by simp only [precOfM, termTypesM, sumW]; split <;> rfl
  have hs : (∀ t ∈ termTypesM e, shapeTy 4 t = true) ∧ (termTypesM e).length ≤ 30 ∧ ((termTypesM e).map wgtM).sum ≤ 1000 := by
    simp only [termTypesM]
    split
    · rename_i hv
      obtain ⟨hvt, hvn⟩ := termValidM_iff.1 hv
      have h2 := (sumW_le hv).1
      have h3 := (sumW_le hv).2
      exact ⟨hvt.types.1, h3, by rw [sumW] at h2; omega⟩
    · simp
  rw [hp]
  obtain ⟨hs1, hs2, hs3⟩ := hs
  generalize termTypesM e = ts at *
  refine ACalls.of_body Tryz.func39 (by kernel_rfl) rfl (by kernel_rfl) (by simp [Tryz.ntmps39]) (by simp) ?_
  rw [Tryz.ntmps39]
  repeat' first | (refine aops_end (hK _ ?_); clear hK K) | (refine aops_go ?_; simp; (try (refine gen fun q hq => ?_; cases q <;> (try simp at hq) <;> (try (have hh : True := hq; clear hh hq))))) | (refine wpcall_pure rfl (h1) ?_; simp; (try (refine gen fun q hq => ?_; cases q <;> (try simp at hq) <;> (try (have hh : True := hq; clear hh hq))))) | refine T.r0 fun K hK => ?_ | refine T.seq ?_ | refine T.block ?_
  refine T.loopK (α := Nat × List (List CV)) [2, 7, 8] (fun x => [(3, .i (wgtP ts x.1)), (9, .i x.1)]) (fun x => []) (fun x => x.2) (fun x A => A) (fun x => ts.length + 1 - x.1) (fun x => x.1 ≤ ts.length) (by simp; rfl) (fun x hx => ?_) (0, []) (by simp) (by simp) (by simp) (by simp [wgtP])
  obtain ⟨p, G⟩ := x
  dsimp only at hx ⊢
  simp only [ups, List.set_cons_zero, List.set_cons_succ, List.cons_append, List.nil_append]
  by_cases hlt : p < ts.length
  · obtain ⟨u, ht⟩ := get_lt hlt
    have htm : u ∈ ts := List.mem_of_getElem? ht
    have hgt : ts[p] = u := by rw [List.getElem?_eq_getElem hlt] at ht; exact Option.some.inj ht
    have hdr : ts.drop p = u :: ts.drop (p + 1) := by rw [List.drop_eq_getElem_cons hlt, hgt]
    have hun := shape4 (hs1 u htm)
    have hu := typeSize_ok u (by omega)
    have hu2 := count_i u (by omega)
    have hw := (wgt_size (VTy.of (hs1 u htm))).1
    have hsn := size_nTy u
    have hs : wgtP ts (p + 1) = wgtP ts p + wgtM u := sum_take_one wgtM ht
    have hb : wgtP ts (p + 1) ≤ (ts.map wgtM).sum := sum_take_le wgtM ts (p + 1)
    generalize wgtP ts p = S at *
    generalize wgtM u = wu at *
    generalize sizeTy u = su at *
    generalize cntM u = cu at *
    have hs' : (wgtP ts (p + 1) : Int) = S + (su - cu) := by omega
    repeat' first | ((first | refine aops_end (hK _ ?_) | refine aopsD_end (hK _ ?_)); clear hK K) | ((first | refine aops_go ?_ | refine aopsD_go ?_); simp [hlt, hgt]; (try simp (disch := omega) only [wrap64]); (try (refine gen fun q hq => ?_; cases q <;> (try simp [hlt, hgt] at hq) <;> (try (have hh : True := hq; clear hh hq))))) | (refine wpcall_pure rfl (hu) ?_; simp [hlt, hgt]; (try simp (disch := omega) only [wrap64]); (try (refine gen fun q hq => ?_; cases q <;> (try simp [hlt, hgt] at hq) <;> (try (have hh : True := hq; clear hh hq))))) | (refine wpcall_pure rfl (hu2) ?_; simp [hlt, hgt]; (try simp (disch := omega) only [wrap64]); (try (refine gen fun q hq => ?_; cases q <;> (try simp [hlt, hgt] at hq) <;> (try (have hh : True := hq; clear hh hq))))) | (refine ⟨(p + 1, _), by dsimp only; omega, by dsimp only; omega, rfl, ?_, ?_⟩ <;> simp (disch := omega) [wrap64, hs']) | refine T.rd1 (id := 5) mixed (fun _ => false) [] (by kernel_rfl) fun K hK => ?_ | refine T.r0 fun K hK => ?_ | refine T.r1 fun K hK => ?_ | refine T.ct rfl ?_ | refine T.seq ?_ | refine T.block ?_ | refine T.skip ?_
  · have hp' : p = ts.length := by omega
    subst hp'
    rw [show wgtP ts ts.length = (ts.map wgtM).sum by rw [wgtP, List.take_length]]
    repeat' first | (refine aops_end (hK _ ?_); clear hK K) | (refine aops_go ?_; simp [hlt]; (try (refine gen fun q hq => ?_; cases q <;> (try simp [hlt] at hq) <;> (try (have hh : True := hq; clear hh hq))))) | (refine T.ret (Done.val (Or.inr rfl) ?_) <;> simp [resAs, Tryz.results39] <;> omega) | refine T.r0 fun K hK => ?_ | refine T.cf rfl ?_ | refine T.seq ?_ | refine T.exit ?_
end Go.Proofs.YtfdknjjnifnobaaGreat

namespace Go.Proofs.YtfdknjjnifnobaaGreat
open Go Go.Av
attribute [local irreducible] T ACalls TX EX LX Draws Some_ ACallsX eTy eTm MTy.kind MTy.kids MTm.kind MTm.name MTm.num MTm.ty MTm.fr MTm.label MTm.kids
attribute [local simp] eTy_def eTm_def
set_option maxHeartbeats 16000000
set_option maxRecDepth 8000
attribute [local simp] Option.bind

theorem l10Steps_own : ∀ (t : MTy) (d : Nat), d ≤ 4 → shapeTy d t = true → ACalls Tryz.prog 159 [aTy t, .i d] [] (.c (.own 0 (stepsM d t).length)) [] [{ sz := 2, ety := 25, rows := (stepsM d t).map eTy, wr := true }] := by
  intro t
  induction t using MTy.ind with
  | h t ih =>
    intro d hd hs
    have hsl := steps_len (VTy.of hs)
    have hnt := shape_nTyP (VTy.of hs)
    have h16 : 2 ^ d ≤ 2 ^ 4 := Nat.pow_le_pow_right (by omega) hd
    obtain ⟨e, he, _, hkl, hks⟩ := shapeTy_kids hs
    rw [stepsM_def] at hsl ⊢
    by_cases h1 : t.kind = 1
    · simp only [if_pos h1]
      have b2 := l3Int_ok
      have b3 := l3Bool_ok
      have b1 := l1Any_ok
      by_cases h2 : 1 < d
      · simp only [if_pos h2]
        have h2' : (1 : Int) < d := by omega
        refine ACalls.of_body Tryz.func159 (by kernel_rfl) rfl (by kernel_rfl) (by simp [Tryz.ntmps159]) (by simp) ?_
        rw [Tryz.ntmps159]
        repeat' first | (refine aops_end (hK _ ?_); clear hK K) | (refine aops_go ?_; simp [h1]; (try (refine gen fun q hq => ?_; cases q <;> (try simp [h1] at hq) <;> (try (have hh : True := hq; clear hh hq))))) | (refine wpcall_pure rfl (b2) ?_; simp [h1]; (try (refine gen fun q hq => ?_; cases q <;> (try simp [h1] at hq) <;> (try (have hh : True := hq; clear hh hq))))) | (refine wpcall_pure rfl (b3) ?_; simp [h1]; (try (refine gen fun q hq => ?_; cases q <;> (try simp [h1] at hq) <;> (try (have hh : True := hq; clear hh hq))))) | refine T.rs (id := 1) (fun i => i == 0) fun K hK => ?_ | refine T.rs (id := 0) (fun _ => false) fun K hK => ?_ | refine T.rs (id := 2) (fun _ => false) fun K hK => ?_ | refine T.rs (id := 3) (fun _ => false) fun K hK => ?_ | refine T.rs (id := 4) (fun _ => false) fun K hK => ?_ | refine T.ct rfl ?_ | refine T.seq ?_ | refine T.block ?_
        refine T.loopK (α := Nat) [1, 2, 4] (fun j => [(5, .c (.own 0 (2 + j))), (6, .i (4 + j))]) (fun x => []) (fun x => []) (fun j _ => [{ sz := 2, ety := 25, rows := ([intT, boolT] ++ [gFun, gPair].take j).map eTy, wr := true }]) (fun j => 3 - j) (fun j => j ≤ 2) (by simp; rfl) (fun j hj => ?_) 0 (by simp) (by simp) (by simp [eTy_def]) (by simp)
        dsimp only at hj ⊢
        simp only [ups, List.set_cons_zero, List.set_cons_succ, List.cons_append, List.nil_append, List.append_nil]
        match j, hj with
        | 0, _ =>
          repeat' first | (refine aops_end (hK _ ?_); clear hK K) | (refine aops_go ?_; simp [h2']; (try simp (disch := omega) only [wrap64]); (try (refine gen fun q hq => ?_; cases q <;> (try simp [h2'] at hq) <;> (try (have hh : True := hq; clear hh hq))))) | (refine wpcall_pure rfl (b1) ?_; simp [h2']; (try simp (disch := omega) only [wrap64]); (try (refine gen fun q hq => ?_; cases q <;> (try simp [h2'] at hq) <;> (try (have hh : True := hq; clear hh hq))))) | (refine ⟨1, by dsimp only; omega, by dsimp only; omega, rfl, ?_, ?_⟩ <;> simp (disch := omega) [wrap64, eTy_def]) | refine T.r0 fun K hK => ?_ | refine T.r1 fun K hK => ?_ | refine T.ct rfl ?_ | refine T.seq ?_ | refine T.block ?_ | refine T.skip ?_
        | 1, _ =>
          repeat' first | (refine aops_end (hK _ ?_); clear hK K) | (refine aops_go ?_; simp [h2']; (try simp (disch := omega) only [wrap64]); (try (refine gen fun q hq => ?_; cases q <;> (try simp [h2'] at hq) <;> (try (have hh : True := hq; clear hh hq))))) | (refine wpcall_pure rfl (b1) ?_; simp [h2']; (try simp (disch := omega) only [wrap64]); (try (refine gen fun q hq => ?_; cases q <;> (try simp [h2'] at hq) <;> (try (have hh : True := hq; clear hh hq))))) | (refine ⟨2, by dsimp only; omega, by dsimp only; omega, rfl, ?_, ?_⟩ <;> simp (disch := omega) [wrap64, eTy_def]) | refine T.r0 fun K hK => ?_ | refine T.r1 fun K hK => ?_ | refine T.ct rfl ?_ | refine T.seq ?_ | refine T.block ?_ | refine T.skip ?_
        | 2, _ =>
          repeat' first | (refine aops_end (hK _ ?_); clear hK K) | (refine aops_go ?_; simp [h2']; (try simp (disch := omega) only [wrap64]); (try (refine gen fun q hq => ?_; cases q <;> (try simp [h2'] at hq) <;> (try (have hh : True := hq; clear hh hq))))) | refine T.r0 fun K hK => ?_ | refine T.cf rfl ?_ | refine T.seq ?_ | refine T.exit ?_
          all_goals (refine T.ret (Done.own1 0 (Or.inr rfl) (ys := [_]) ?_ rfl ?_) <;> simp [resAs, Tryz.results159, eTy_def])
      · simp only [if_neg h2]
        have h2' : ¬ (1 : Int) < d := by omega
        refine ACalls.of_body Tryz.func159 (by kernel_rfl) rfl (by kernel_rfl) (by simp [Tryz.ntmps159]) (by simp) ?_
        rw [Tryz.ntmps159]
        repeat' first | (refine aops_end (hK _ ?_); clear hK K) | (refine aops_go ?_; simp [h1]; (try (refine gen fun q hq => ?_; cases q <;> (try simp [h1] at hq) <;> (try (have hh : True := hq; clear hh hq))))) | (refine wpcall_pure rfl (b2) ?_; simp [h1]; (try (refine gen fun q hq => ?_; cases q <;> (try simp [h1] at hq) <;> (try (have hh : True := hq; clear hh hq))))) | (refine wpcall_pure rfl (b3) ?_; simp [h1]; (try (refine gen fun q hq => ?_; cases q <;> (try simp [h1] at hq) <;> (try (have hh : True := hq; clear hh hq))))) | refine T.rs (id := 1) (fun i => i == 0) fun K hK => ?_ | refine T.rs (id := 0) (fun _ => false) fun K hK => ?_ | refine T.rs (id := 2) (fun _ => false) fun K hK => ?_ | refine T.rs (id := 3) (fun _ => false) fun K hK => ?_ | refine T.rs (id := 4) (fun _ => false) fun K hK => ?_ | refine T.ct rfl ?_ | refine T.seq ?_ | refine T.block ?_
        refine T.loopK (α := Unit) [1, 2, 4] (fun x => [(5, .c (.own 0 2)), (6, .i 4)]) (fun x => []) (fun x => []) (fun x A => A) (fun x => 0) (fun x => True) (by simp; rfl) (fun x hx => ?_) () trivial (by simp) (by simp) (by simp)
        simp only [ups, List.set_cons_zero, List.set_cons_succ, List.cons_append, List.nil_append, List.append_nil]
        repeat' first | (refine aops_end (hK _ ?_); clear hK K) | (refine aops_go ?_; simp [h2']; (try (refine gen fun q hq => ?_; cases q <;> (try simp [h2'] at hq) <;> (try (have hh : True := hq; clear hh hq))))) | refine T.r0 fun K hK => ?_ | refine T.cf rfl ?_ | refine T.seq ?_ | refine T.exit ?_
        all_goals (refine T.ret (Done.own1 0 (Or.inr rfl) (ys := [_]) ?_ rfl ?_) <;> simp [resAs, Tryz.results159, eTy_def])
    · simp only [if_neg h1, List.length_map, List.map_map] at hsl ⊢
      subst he
      simp only [Nat.add_sub_cancel] at hsl ⊢
      have hkl2 : t.kids.length ≤ 14 := by have := nTyS_len t.kids; rw [nTy_def] at hnt; omega
      have hcp := l1Copy_own t (by omega)
      rw [← subsP_all] at hsl ⊢
      refine ACalls.of_body Tryz.func159 (by kernel_rfl) rfl (by kernel_rfl) (by simp [Tryz.ntmps159]) (by simp) ?_
      rw [Tryz.ntmps159]
      repeat' first | (refine aops_end (hK _ ?_); clear hK K) | (refine aops_go ?_; simp [h1]; (try (refine gen fun q hq => ?_; cases q <;> (try simp [h1] at hq) <;> (try (have hh : True := hq; clear hh hq))))) | refine T.rs (id := 1) (fun i => i == 0) fun K hK => ?_ | refine T.rs (id := 0) (fun _ => false) fun K hK => ?_ | refine T.rs (id := 2) (fun _ => false) fun K hK => ?_ | refine T.rs (id := 9) (fun _ => false) fun K hK => ?_ | refine T.cf rfl ?_ | refine T.seq ?_ | refine T.block ?_ | refine T.skip ?_
      refine T.loopK (α := Nat × List (List CV) × List Arr) [1, 2, 4] (fun x => [(5, .c (.own 0 (subsP (stepsM e) t.kids x.1).length)), (7, .i x.1)]) (fun x => []) (fun x => x.2.1) (fun x _ => { sz := 2, ety := 25, rows := (subsP (stepsM e) t.kids x.1).map (eTy ∘ MTy.mk t.kind), wr := true } :: x.2.2) (fun x => t.kids.length + 1 - x.1) (fun x => x.1 ≤ t.kids.length) (by simp; rfl) (fun x hx => ?_) (0, [], []) (by simp) (by simp) (by simp [subsP_zero]) (by simp [subsP_zero])
      obtain ⟨p, G, GA⟩ := x
      dsimp only at hx ⊢
      simp only [ups, List.set_cons_zero, List.set_cons_succ, List.cons_append, List.nil_append, List.append_nil]
      by_cases hlt : p < t.kids.length
      · obtain ⟨u, ht⟩ := get_lt hlt
        have htm : u ∈ t.kids := List.mem_of_getElem? ht
        have hgt : t.kids[p] = u := by rw [List.getElem?_eq_getElem hlt] at ht; exact Option.some.inj ht
        have hdr : t.kids.drop p = u :: t.kids.drop (p + 1) := by rw [List.drop_eq_getElem_cons hlt, hgt]
        have hu := (ih u htm e (by omega) (hks u htm)).sealed (by simp)
        dsimp only at hu
        have hsu := subsP_succ (stepsM e) ht
        have hle := subsP_le (stepsM e) t.kids (p + 1) (by omega)
        rw [hsu, List.length_append, List.length_map] at hle
        rw [subsP_all] at hsl
        generalize subsP (stepsM e) t.kids p = Z at *
        generalize stepsM e u = ru at *
        generalize (subsM (stepsM e) t.kids).length = M at *
        repeat' first | (refine aops_end (hK _ ?_); clear hK K) | (refine aops_go ?_; simp [hlt, hgt]; (try simp (disch := omega) only [wrap64]); (try (refine gen fun q hq => ?_; cases q <;> (try simp [hlt, hgt] at hq) <;> (try (have hh : True := hq; clear hh hq))))) | (refine wpcall_pure ?_ (hu) ?_; (focus (solve | simp [hlt, hgt])); simp [hlt, hgt]; (try simp (disch := omega) only [wrap64]); (try (refine gen fun q hq => ?_; cases q <;> (try simp [hlt, hgt] at hq) <;> (try (have hh : True := hq; clear hh hq))))) | refine T.r0 fun K hK => ?_ | refine T.ct rfl ?_ | refine T.seq ?_ | refine T.block ?_ | refine T.skip ?_
        refine T.loopK (α := Nat × List (List CV) × List Arr) [1, 2, 4, 7, 8, 37, 38, 39, 40, 41, 42, 43, 44, 45, 46, 47, 48, 49, 50, 51] (fun y => [(5, .c (.own 0 (Z.length + y.1))), (9, .i y.1)]) (fun y => []) (fun y => y.2.1) (fun y _ => { sz := 2, ety := 25, rows := Z.map (eTy ∘ MTy.mk t.kind) ++ (ru.take y.1).map (fun v => eTy (.mk t.kind (t.kids.set p v))), wr := true } :: (GA ++ y.2.2)) (fun y => ru.length + 1 - y.1) (fun y => y.1 ≤ ru.length) (by simp; rfl) (fun y hy => ?_) (0, [], []) (by simp) (by simp) (by simp) (by simp)
        obtain ⟨q, G2, GA2⟩ := y
        dsimp only at hy ⊢
        simp only [ups, List.set_cons_zero, List.set_cons_succ, List.cons_append, List.nil_append, List.append_nil]
        by_cases hlq : q < ru.length
        · obtain ⟨v, hv⟩ := get_lt hlq
          have hgv : ru[q] = v := by rw [List.getElem?_eq_getElem hlq] at hv; exact Option.some.inj hv
          have htv : ru.take (q + 1) = ru.take q ++ [v] := by rw [List.take_add_one, hv]; rfl
          have hmin : min q ru.length = q := by omega
          repeat' first | ((first | refine aops_end (hK _ ?_) | refine aopsD_end (hK _ ?_)); clear hK K) | ((first | refine aops_go ?_ | refine aopsD_go ?_); simp [hlq, hgv, hlt, hmin]; (try simp (disch := omega) only [wrap64]); (try (refine gen fun q hq => ?_; cases q <;> (try simp [hlq, hgv, hlt, hmin] at hq) <;> (try (have hh : True := hq; clear hh hq))))) | (refine wpcall_own rfl (hcp) ?_; simp [hlq, hgv, hlt, hmin]; (try simp (disch := omega) only [wrap64]); (try (refine gen fun q hq => ?_; cases q <;> (try simp [hlq, hgv, hlt, hmin] at hq) <;> (try (have hh : True := hq; clear hh hq))))) | (refine ⟨by omega, by omega, ?_⟩) | refine T.rd (id := 17) mixed (fun _ => false) [8] (by kernel_rfl) fun K hK => ?_ | refine T.r0 fun K hK => ?_ | refine T.r1 fun K hK => ?_ | refine T.ct rfl ?_ | refine T.seq ?_ | refine T.block ?_ | refine T.skip ?_
          refine ⟨(q + 1, _, GA2 ++ [{ sz := 2, ety := 25, rows := (t.kids.map eTy).set p (eTy v), wr := false }]), by dsimp only; omega, by dsimp only; omega, (by simp only [ups, List.set_cons_zero, List.cons_append, List.append_assoc, List.nil_append]; rfl), ?_, ?_⟩
          · simp [htv, eTy_def, List.map_set]
          · simp (disch := omega) [wrap64, Nat.add_assoc]
        · have hq' : q = ru.length := by omega
          subst hq'
          rw [List.take_length]
          repeat' first | (refine aops_end (hK _ ?_); clear hK K) | (refine aops_go ?_; simp [hlq]; (try simp (disch := omega) only [wrap64]); (try (refine gen fun q hq => ?_; cases q <;> (try simp [hlq] at hq) <;> (try (have hh : True := hq; clear hh hq))))) | refine T.r0 fun K hK => ?_ | refine T.r1 fun K hK => ?_ | refine T.cf rfl ?_ | refine T.seq ?_ | refine T.exit ?_
          refine ⟨(p + 1, _, GA ++ GA2), by dsimp only; omega, by dsimp only; omega, (by simp only [ups, List.set_cons_zero, List.cons_append, List.append_assoc, List.nil_append]; rfl), ?_, ?_⟩
          · simp [hsu, Function.comp_def]
          · simp (disch := omega) [wrap64, hsu]
      · have hp' : p = t.kids.length := by omega
        subst hp'
        repeat' first | (refine aops_end (hK _ ?_); clear hK K) | (refine aops_go ?_; simp [hlt]; (try (refine gen fun q hq => ?_; cases q <;> (try simp [hlt] at hq) <;> (try (have hh : True := hq; clear hh hq))))) | refine T.r0 fun K hK => ?_ | refine T.cf rfl ?_ | refine T.seq ?_ | refine T.exit ?_
        refine T.ret (Done.own1 0 (Or.inr rfl) (ys := [_]) ?_ rfl ?_) <;> simp [resAs, Tryz.results159]
end Go.Proofs.YtfdknjjnifnobaaGreat

namespace Go.Proofs.YtfdknjjnifnobaaGreat
open Go Go.Av
attribute [local irreducible] T ACalls TX EX LX Draws Some_ ACallsX eTy eTm MTy.kind MTy.kids MTm.kind MTm.name MTm.num MTm.ty MTm.fr MTm.label MTm.kids
attribute [local simp] eTy_def eTm_def
set_option maxHeartbeats 16000000
set_option maxRecDepth 8000
attribute [local simp] Option.bind

theorem RefineTypeS_ok (t : MTy) (hn : nTy t ≤ 1099511627776) : ACalls Tryz.prog 95 [aTy t] [] (.l ((refTyM t).map eTy)) [] [] := by
  have h1 := TypeValidS_ok t hn
  cases hv : shapeTy 4 t with
  | false =>
    rw [hv] at h1
    rw [show refTyM t = [] by simp [refTyM, hv]]
    refine ACalls.of_body Tryz.func95 (by kernel_rfl) rfl (by kernel_rfl) (by simp [Tryz.ntmps95]) (by simp) ?_
    rw [Tryz.ntmps95]
    repeat' first | (refine aops_end (hK _ ?_); clear hK K) | (refine aops_go ?_; simp; (try (refine gen fun q hq => ?_; cases q <;> (try simp at hq) <;> (try (have hh : True := hq; clear hh hq))))) | (refine wpcall_pure rfl (h1) ?_; simp; (try (refine gen fun q hq => ?_; cases q <;> (try simp at hq) <;> (try (have hh : True := hq; clear hh hq))))) | (refine T.ret (Done.val (Or.inr rfl) ?_) <;> simp [resAs, Tryz.results95] <;> omega) | refine T.r0 fun K hK => ?_ | refine T.ct rfl ?_ | refine T.seq ?_
  | true =>
    rw [hv] at h1
    rw [refTy_steps hv]
    have h2 := (l10Steps_own t 4 (by omega) hv).sealed (by simp)
    dsimp only at h2
    generalize stepsM 4 t = R at *
    refine ACalls.of_body Tryz.func95 (by kernel_rfl) rfl (by kernel_rfl) (by simp [Tryz.ntmps95]) (by simp) ?_
    rw [Tryz.ntmps95]
    repeat' first | (refine aops_end (hK _ ?_); clear hK K) | (refine aops_go ?_; simp; (try (refine gen fun q hq => ?_; cases q <;> (try simp at hq) <;> (try (have hh : True := hq; clear hh hq))))) | (refine wpcall_pure rfl (h1) ?_; simp; (try (refine gen fun q hq => ?_; cases q <;> (try simp at hq) <;> (try (have hh : True := hq; clear hh hq))))) | (refine wpcall_pure rfl (h2) ?_; simp; (try (refine gen fun q hq => ?_; cases q <;> (try simp at hq) <;> (try (have hh : True := hq; clear hh hq))))) | (refine T.ret (Done.val (Or.inr rfl) ?_) <;> simp [resAs, Tryz.results95] <;> omega) | refine T.r0 fun K hK => ?_ | refine T.cf rfl ?_ | refine T.seq ?_ | refine T.skip ?_

theorem ctx_nil : ctxM [] = true := by simp [ctxM]
theorem typeIn_nil {e : MTm} (h : termValidM e = true) : typeInM [] e = typeM [] e := by simp [typeInM, ctx_nil, h]
theorem with_some {e : MTm} {c : List MTy} (hv : termValidM e = true) (hl : c.length = (typesM e).length) (hs : ∀ u ∈ c, shapeTy 4 u = true) : withTypesM e c = some (withM e c) := by
  simp only [withTypesM, hv, hl]
  rw [if_pos]
  simpa using hs

theorem RefineTermS_ok (e : MTm) (hn : nTm e ≤ 1073741824) : ACalls Tryz.prog 38 [aTm e] [] (.l ((refineTm e).map eTm)) [] [] := by
  have h1 := (TermTypesS_own e hn).sealed (by simp)
  dsimp only at h1
  simp only [refineTm]
  cases hv : termValidM e with
  | false =>
    simp only [termTypesM, hv, Bool.false_eq_true, if_false, List.map_nil] at h1 ⊢
    refine ACalls.of_body Tryz.func38 (by kernel_rfl) rfl (by kernel_rfl) (by simp [Tryz.ntmps38]) (by simp) ?_
    rw [Tryz.ntmps38]
    repeat' first | (refine aops_end (hK _ ?_); clear hK K) | (refine aops_go ?_; simp; (try (refine gen fun q hq => ?_; cases q <;> (try simp at hq) <;> (try (have hh : True := hq; clear hh hq))))) | (refine wpcall_pure rfl (h1) ?_; simp; (try (refine gen fun q hq => ?_; cases q <;> (try simp at hq) <;> (try (have hh : True := hq; clear hh hq))))) | refine T.rs (id := 1) (fun i => i == 0) fun K hK => ?_ | refine T.rs (id := 0) (fun _ => false) fun K hK => ?_ | refine T.rs (id := 2) (fun _ => false) fun K hK => ?_ | refine T.rs (id := 3) (fun _ => false) fun K hK => ?_ | refine T.seq ?_ | refine T.block ?_
    refine T.loopK (α := Unit) [1, 2, 4] (fun x => [(3, .c (.own 0 0)), (5, .i 0)]) (fun x => []) (fun x => []) (fun x A => A) (fun x => 0) (fun x => True) (by simp; rfl) (fun x hx => ?_) () trivial (by simp) (by simp) (by simp)
    simp only [ups, List.set_cons_zero, List.set_cons_succ, List.cons_append, List.nil_append, List.append_nil]
    repeat' first | (refine aops_end (hK _ ?_); clear hK K) | (refine aops_go ?_; simp; (try (refine gen fun q hq => ?_; cases q <;> (try simp at hq) <;> (try (have hh : True := hq; clear hh hq))))) | (refine T.ret (Done.val (Or.inr rfl) ?_) <;> simp [resAs, Tryz.results38] <;> omega) | refine T.r0 fun K hK => ?_ | refine T.cf rfl ?_ | refine T.seq ?_ | refine T.exit ?_
  | true =>
    simp only [termTypesM, hv, if_true] at h1 ⊢
    have hsz := valid_small hv
    have hrs := (refine_small hv).1
    obtain ⟨hvt, hvn⟩ := termValidM_iff.1 hv
    obtain ⟨hsh, hln⟩ := hvt.types
    have hcv := fun i t y => cand_valid (i := i) (t := t) (y := y) hv
    have hws := fun c => with_some (c := c) hv
    have hcl : (candM (typesM e)).length ≤ 1800 := by have := subs_le refTyM 60 refTy_small (typesM e); rw [candM]; omega
    rw [← flt_refine, candM] at *
    obtain ⟨ts, hts⟩ : ∃ ts, typesM e = ts := ⟨_, rfl⟩
    rw [hts] at h1 hsh hln hcv hws hcl ⊢
    have hl30 : ts.length ≤ 30 := by omega
    rw [← subsP_all] at hcl ⊢
    refine ACalls.of_body Tryz.func38 (by kernel_rfl) rfl (by kernel_rfl) (by simp [Tryz.ntmps38]) (by simp) ?_
    rw [Tryz.ntmps38]
    repeat' first | (refine aops_end (hK _ ?_); clear hK K) | (refine aops_go ?_; simp; (try (refine gen fun q hq => ?_; cases q <;> (try simp at hq) <;> (try (have hh : True := hq; clear hh hq))))) | (refine wpcall_pure rfl (h1) ?_; simp; (try (refine gen fun q hq => ?_; cases q <;> (try simp at hq) <;> (try (have hh : True := hq; clear hh hq))))) | refine T.rs (id := 1) (fun i => i == 0) fun K hK => ?_ | refine T.rs (id := 0) (fun _ => false) fun K hK => ?_ | refine T.rs (id := 2) (fun _ => false) fun K hK => ?_ | refine T.rs (id := 3) (fun _ => false) fun K hK => ?_ | refine T.seq ?_ | refine T.block ?_
    refine T.loopK (α := Nat × List (List CV) × List Arr) [1, 2, 4] (fun x => [(3, .c (.own 0 (fltM e (subsP refTyM ts x.1)).length)), (5, .i x.1)]) (fun x => []) (fun x => x.2.1) (fun x _ => { sz := 9, ety := 28, rows := (fltM e (subsP refTyM ts x.1)).map eTm, wr := true } :: x.2.2) (fun x => ts.length + 1 - x.1) (fun x => x.1 ≤ ts.length) (by simp; rfl) (fun x hx => ?_) (0, [], []) (by simp) (by simp) (by simp [subsP_zero, flt_nil]) (by simp [subsP_zero, flt_nil])
    obtain ⟨p, G, GA⟩ := x
    dsimp only at hx ⊢
    simp only [ups, List.set_cons_zero, List.set_cons_succ, List.cons_append, List.nil_append, List.append_nil]
    by_cases hlt : p < ts.length
    · obtain ⟨u, ht⟩ := get_lt hlt
      have htm : u ∈ ts := List.mem_of_getElem? ht
      have hgt : ts[p] = u := by rw [List.getElem?_eq_getElem hlt] at ht; exact Option.some.inj ht
      have hdr : ts.drop p = u :: ts.drop (p + 1) := by rw [List.drop_eq_getElem_cons hlt, hgt]
      have hun := shape4 (hsh u htm)
      have hu := RefineTypeS_ok u (by omega)
      have hul := refTy_small u
      have hsu := subsP_succ refTyM ht
      have hpl := subsP_le refTyM ts p (by omega)
      rw [subsP_all] at hcl
      generalize subsP refTyM ts p = Z at *
      obtain ⟨ru, hru⟩ : ∃ ru, refTyM u = ru := ⟨_, rfl⟩
      rw [hru] at hu hul hsu
      generalize (subsM refTyM ts).length = M at *
      repeat' first | (refine aops_end (hK _ ?_); clear hK K) | (refine aops_go ?_; simp [hlt, hgt]; (try simp (disch := omega) only [wrap64]); (try (refine gen fun q hq => ?_; cases q <;> (try simp [hlt, hgt] at hq) <;> (try (have hh : True := hq; clear hh hq))))) | (refine wpcall_pure rfl (hu) ?_; simp [hlt, hgt]; (try simp (disch := omega) only [wrap64]); (try (refine gen fun q hq => ?_; cases q <;> (try simp [hlt, hgt] at hq) <;> (try (have hh : True := hq; clear hh hq))))) | refine T.r0 fun K hK => ?_ | refine T.ct rfl ?_ | refine T.seq ?_ | refine T.block ?_ | refine T.skip ?_
      refine T.loopK (α := Nat × List (List CV) × List Arr) [1, 2, 4, 5, 6, 16, 17, 18, 19, 20, 21, 22, 23, 24, 25, 26] (fun y => [(3, .c (.own 0 (fltM e (Z ++ (ru.take y.1).map (fun v => ts.set p v))).length)), (7, .i y.1)]) (fun y => []) (fun y => y.2.1) (fun y _ => { sz := 9, ety := 28, rows := (fltM e (Z ++ (ru.take y.1).map (fun v => ts.set p v))).map eTm, wr := true } :: (GA ++ y.2.2)) (fun y => ru.length + 1 - y.1) (fun y => y.1 ≤ ru.length) (by simp; rfl) (fun y hy => ?_) (0, [], []) (by simp) (by simp) (by simp) (by simp)
      obtain ⟨q, G2, GA2⟩ := y
      dsimp only at hy ⊢
      simp only [ups, List.set_cons_zero, List.set_cons_succ, List.cons_append, List.nil_append, List.append_nil]
      by_cases hlq : q < ru.length
      · obtain ⟨v, hv2⟩ := get_lt hlq
        have hgv : ru[q] = v := by rw [List.getElem?_eq_getElem hlq] at hv2; exact Option.some.inj hv2
        have htv : Z ++ (ru.take (q + 1)).map (fun v => ts.set p v) = (Z ++ (ru.take q).map (fun v => ts.set p v)) ++ [ts.set p v] := by rw [List.take_add_one, hv2]; simp
        obtain ⟨hxv, hcs⟩ := hcv p u v ht (by rw [hru]; exact List.mem_of_getElem? hv2)
        have hky := fun h => flt_yes (e := e) (L := Z ++ (ru.take q).map (fun v => ts.set p v)) (c := ts.set p v) h
        have hkn := fun h => flt_no (e := e) (L := Z ++ (ru.take q).map (fun v => ts.set p v)) (c := ts.set p v) h
        have hkl := flt_len e (Z ++ (ru.take q).map (fun v => ts.set p v))
        simp only [List.length_append, List.length_map, List.length_take] at hkl
        rw [← htv] at hky hkn
        have hrt := WithTypesS_ok e (ts.set p v) hn (fun t h => by have := shape4 (hcs t h); omega) (by simp; omega)
        rw [hws (ts.set p v) (by simp) hcs] at hrt
        simp only [tmRes] at hrt
        have hxn := valid_small hxv
        have hti := TypeOfS_ok (withM e (ts.set p v)) (by omega)
        rw [typeIn_nil hxv] at hti
        have hset : (ts.set p v).map eTy = (ts.map eTy).set p (eTy v) := List.map_set
        simp only [typedB] at hky hkn
        generalize fltM e (Z ++ (ru.take q).map (fun v => ts.set p v)) = K1 at *
        generalize withM e (ts.set p v) = X at *
        cases hty : typeM [] X with
        | none =>
          rw [hty] at hti hkn
          simp only [tyRes] at hti
          have hk2 := hkn rfl
          repeat' first | (refine aops_end (hK _ ?_); clear hK K) | (refine aops_go ?_; simp [hlq, hgv, hlt, ← hset]; (try simp (disch := omega) only [wrap64]); (try (refine gen fun q hq => ?_; cases q <;> (try simp [hlq, hgv, hlt, ← hset] at hq) <;> (try (have hh : True := hq; clear hh hq))))) | (refine wpcall_pure ?_ (hrt) ?_; (focus (solve | simp [hlq, hgv, hlt, ← hset])); simp [hlq, hgv, hlt, ← hset]; (try simp (disch := omega) only [wrap64]); (try (refine gen fun q hq => ?_; cases q <;> (try simp [hlq, hgv, hlt, ← hset] at hq) <;> (try (have hh : True := hq; clear hh hq))))) | (refine wpcall_pure ?_ (hti) ?_; (focus (solve | simp [hlq, hgv, hlt, ← hset])); simp [hlq, hgv, hlt, ← hset]; (try simp (disch := omega) only [wrap64]); (try (refine gen fun q hq => ?_; cases q <;> (try simp [hlq, hgv, hlt, ← hset] at hq) <;> (try (have hh : True := hq; clear hh hq))))) | (refine ⟨by omega, by omega, ?_⟩) | refine T.rs (id := 10) (fun i => i == 0) fun K hK => ?_ | refine T.rs (id := 8) (fun _ => false) fun K hK => ?_ | refine T.rs (id := 11) (fun _ => false) fun K hK => ?_ | refine T.rs (id := 12) (fun _ => false) fun K hK => ?_ | refine T.rs (id := 13) (fun _ => false) fun K hK => ?_ | refine T.rs (id := 14) (fun _ => false) fun K hK => ?_ | refine T.rs1 (id := 9) (fun _ => false) fun K hK => ?_ | refine T.ct rfl ?_ | refine T.cf rfl ?_ | refine T.seq ?_ | refine T.block ?_ | refine T.skip ?_
          refine ⟨(q + 1, _, GA2 ++ [{ sz := 2, ety := 25, rows := (ts.map eTy).set p (eTy v), wr := false }]), by dsimp only; omega, by dsimp only; omega, (by simp only [ups, List.set_cons_zero, List.cons_append, List.append_assoc, List.nil_append]; rfl), ?_, ?_⟩
          · simp [hk2, eTy_def, eTm_def, -List.map_take]
          · simp (disch := omega) [wrap64, hk2, -List.map_take]
        | some t =>
          rw [hty] at hti hky
          simp only [tyRes] at hti
          have hk2 := hky rfl
          repeat' first | (refine aops_end (hK _ ?_); clear hK K) | (refine aops_go ?_; simp [hlq, hgv, hlt, ← hset]; (try simp (disch := omega) only [wrap64]); (try (refine gen fun q hq => ?_; cases q <;> (try simp [hlq, hgv, hlt, ← hset] at hq) <;> (try (have hh : True := hq; clear hh hq))))) | (refine wpcall_pure ?_ (hrt) ?_; (focus (solve | simp [hlq, hgv, hlt, ← hset])); simp [hlq, hgv, hlt, ← hset]; (try simp (disch := omega) only [wrap64]); (try (refine gen fun q hq => ?_; cases q <;> (try simp [hlq, hgv, hlt, ← hset] at hq) <;> (try (have hh : True := hq; clear hh hq))))) | (refine wpcall_pure ?_ (hti) ?_; (focus (solve | simp [hlq, hgv, hlt, ← hset])); simp [hlq, hgv, hlt, ← hset]; (try simp (disch := omega) only [wrap64]); (try (refine gen fun q hq => ?_; cases q <;> (try simp [hlq, hgv, hlt, ← hset] at hq) <;> (try (have hh : True := hq; clear hh hq))))) | (refine ⟨by omega, by omega, ?_⟩) | refine T.rs (id := 10) (fun i => i == 0) fun K hK => ?_ | refine T.rs (id := 8) (fun _ => false) fun K hK => ?_ | refine T.rs (id := 11) (fun _ => false) fun K hK => ?_ | refine T.rs (id := 12) (fun _ => false) fun K hK => ?_ | refine T.rs (id := 13) (fun _ => false) fun K hK => ?_ | refine T.rs (id := 14) (fun _ => false) fun K hK => ?_ | refine T.rs1 (id := 15) (fun _ => false) fun K hK => ?_ | refine T.rs1 (id := 9) (fun _ => false) fun K hK => ?_ | refine T.ct rfl ?_ | refine T.seq ?_ | refine T.block ?_ | refine T.skip ?_
          refine ⟨(q + 1, _, GA2 ++ [{ sz := 2, ety := 25, rows := (ts.map eTy).set p (eTy v), wr := false }]), by dsimp only; omega, by dsimp only; omega, (by simp only [ups, List.set_cons_zero, List.cons_append, List.append_assoc, List.nil_append]; rfl), ?_, ?_⟩
          · simp [hk2, eTy_def, eTm_def, -List.map_take]
          · simp (disch := omega) [wrap64, hk2, -List.map_take]
      · have hq' : q = ru.length := by omega
        subst hq'
        rw [List.take_length, ← hsu]
        repeat' first | (refine aops_end (hK _ ?_); clear hK K) | (refine aops_go ?_; simp [hlq]; (try simp (disch := omega) only [wrap64]); (try (refine gen fun q hq => ?_; cases q <;> (try simp [hlq] at hq) <;> (try (have hh : True := hq; clear hh hq))))) | refine T.r0 fun K hK => ?_ | refine T.r1 fun K hK => ?_ | refine T.cf rfl ?_ | refine T.seq ?_ | refine T.exit ?_
        refine ⟨(p + 1, _, GA ++ GA2), by dsimp only; omega, by dsimp only; omega, (by simp only [ups, List.set_cons_zero, List.cons_append, List.append_assoc, List.nil_append]; rfl), ?_, ?_⟩
        · simp [hsu]
        · simp (disch := omega) [wrap64, hsu]
    · have hp' : p = ts.length := by omega
      subst hp'
      repeat' first | (refine aops_end (hK _ ?_); clear hK K) | (refine aops_go ?_; simp [hlt]; (try (refine gen fun q hq => ?_; cases q <;> (try simp [hlt] at hq) <;> (try (have hh : True := hq; clear hh hq))))) | (refine T.ret (Done.val (Or.inr rfl) ?_) <;> simp [resAs, Tryz.results38] <;> omega) | refine T.r0 fun K hK => ?_ | refine T.cf rfl ?_ | refine T.seq ?_ | refine T.exit ?_

theorem l10First_ok (e : MTm) (hn : nTm e ≤ 1073741824) : ACalls Tryz.prog 79 [aTm e] [] (.tup (tmRes (refineTm e).head?)) [] [] := by
  have h1 := (TermTypesS_own e hn).sealed (by simp)
  dsimp only at h1
  simp only [refineTm]
  cases hv : termValidM e with
  | false =>
    simp only [termTypesM, hv, Bool.false_eq_true, if_false, List.map_nil, List.head?_nil, tmRes] at h1 ⊢
    refine ACalls.of_body Tryz.func79 (by kernel_rfl) rfl (by kernel_rfl) (by simp [Tryz.ntmps79]) (by simp) ?_
    rw [Tryz.ntmps79]
    repeat' first | (refine aops_end (hK _ ?_); clear hK K) | (refine aops_go ?_; simp; (try (refine gen fun q hq => ?_; cases q <;> (try simp at hq) <;> (try (have hh : True := hq; clear hh hq))))) | (refine wpcall_pure rfl (h1) ?_; simp; (try (refine gen fun q hq => ?_; cases q <;> (try simp at hq) <;> (try (have hh : True := hq; clear hh hq))))) | refine T.r0 fun K hK => ?_ | refine T.seq ?_ | refine T.block ?_
    refine T.loopK (α := Unit) [1, 2, 4] (fun x => [(5, .i 0)]) (fun x => []) (fun x => []) (fun x A => A) (fun x => 0) (fun x => True) (by simp; rfl) (fun x hx => ?_) () trivial (by simp) (by simp) (by simp)
    simp only [ups, List.set_cons_zero, List.set_cons_succ, List.cons_append, List.nil_append, List.append_nil]
    repeat' first | (refine aops_end (hK _ ?_); clear hK K) | (refine aops_go ?_; simp; (try (refine gen fun q hq => ?_; cases q <;> (try simp at hq) <;> (try (have hh : True := hq; clear hh hq))))) | (refine T.ret (Done.tup (Or.inr rfl) ?_) <;> simp [resAs, Tryz.results79] <;> omega) | refine T.r0 fun K hK => ?_ | refine T.cf rfl ?_ | refine T.seq ?_ | refine T.exit ?_
  | true =>
    simp only [termTypesM, hv, if_true] at h1 ⊢
    have hsz := valid_small hv
    obtain ⟨hvt, hvn⟩ := termValidM_iff.1 hv
    obtain ⟨hsh, hln⟩ := hvt.types
    have hcv := fun i t y => cand_valid (i := i) (t := t) (y := y) hv
    have hws := fun c => with_some (c := c) hv
    have hff := fun L c => flt_first (e := e) (L := L) (c := c)
    have hall := flt_refine e
    rw [candM] at hall
    simp only [candM] at hff
    obtain ⟨R, hR⟩ : ∃ R, (refineM e).head? = R := ⟨_, rfl⟩
    rw [hR]
    obtain ⟨ts, hts⟩ : ∃ ts, typesM e = ts := ⟨_, rfl⟩
    rw [hts] at h1 hsh hln hcv hws hff hall
    have hl30 : ts.length ≤ 30 := by omega
    rw [← subsP_all] at hall
    refine ACalls.of_body Tryz.func79 (by kernel_rfl) rfl (by kernel_rfl) (by simp [Tryz.ntmps79]) (by simp) ?_
    rw [Tryz.ntmps79]
    repeat' first | (refine aops_end (hK _ ?_); clear hK K) | (refine aops_go ?_; simp; (try (refine gen fun q hq => ?_; cases q <;> (try simp at hq) <;> (try (have hh : True := hq; clear hh hq))))) | (refine wpcall_pure rfl (h1) ?_; simp; (try (refine gen fun q hq => ?_; cases q <;> (try simp at hq) <;> (try (have hh : True := hq; clear hh hq))))) | refine T.r0 fun K hK => ?_ | refine T.seq ?_ | refine T.block ?_
    refine T.loopK (α := Nat × List (List CV) × List Arr) [1, 2, 4] (fun x => [(5, .i x.1)]) (fun x => []) (fun x => x.2.1) (fun x _ => x.2.2) (fun x => ts.length + 1 - x.1) (fun x => x.1 ≤ ts.length ∧ fltM e (subsP refTyM ts x.1) = []) (by simp; rfl) (fun x hx => ?_) (0, [], []) (by simp [subsP_zero, flt_nil]) (by simp) (by simp) (by simp)
    obtain ⟨p, G, GA⟩ := x
    obtain ⟨hx, h0⟩ := hx
    dsimp only at hx h0 ⊢
    simp only [ups, List.set_cons_zero, List.set_cons_succ, List.cons_append, List.nil_append, List.append_nil]
    by_cases hlt : p < ts.length
    · obtain ⟨u, ht⟩ := get_lt hlt
      have htm : u ∈ ts := List.mem_of_getElem? ht
      have hgt : ts[p] = u := by rw [List.getElem?_eq_getElem hlt] at ht; exact Option.some.inj ht
      have hdr : ts.drop p = u :: ts.drop (p + 1) := by rw [List.drop_eq_getElem_cons hlt, hgt]
      have hun := shape4 (hsh u htm)
      have hu := RefineTypeS_ok u (by omega)
      have hul := refTy_small u
      have hsu := subsP_succ refTyM ht
      have hpre := cand_prefix ht
      simp only [candM] at hpre
      generalize subsP refTyM ts p = Z at *
      obtain ⟨ru, hru⟩ : ∃ ru, refTyM u = ru := ⟨_, rfl⟩
      rw [hru] at hu hul hsu hpre
      repeat' first | (refine aops_end (hK _ ?_); clear hK K) | (refine aops_go ?_; simp [hlt, hgt]; (try simp (disch := omega) only [wrap64]); (try (refine gen fun q hq => ?_; cases q <;> (try simp [hlt, hgt] at hq) <;> (try (have hh : True := hq; clear hh hq))))) | (refine wpcall_pure rfl (hu) ?_; simp [hlt, hgt]; (try simp (disch := omega) only [wrap64]); (try (refine gen fun q hq => ?_; cases q <;> (try simp [hlt, hgt] at hq) <;> (try (have hh : True := hq; clear hh hq))))) | refine T.r0 fun K hK => ?_ | refine T.ct rfl ?_ | refine T.seq ?_ | refine T.block ?_ | refine T.skip ?_
      refine T.loopK (α := Nat × List (List CV) × List Arr) [1, 2, 4, 5, 6, 15, 16, 17, 18, 19, 20, 21, 22, 23, 24, 25] (fun y => [(7, .i y.1)]) (fun y => []) (fun y => y.2.1) (fun y _ => GA ++ y.2.2) (fun y => ru.length + 1 - y.1) (fun y => y.1 ≤ ru.length ∧ fltM e (Z ++ (ru.take y.1).map (fun v => ts.set p v)) = []) (by simp; rfl) (fun y hy => ?_) (0, [], []) (by simpa using h0) (by simp) (by simp) (by simp)
      obtain ⟨q, G2, GA2⟩ := y
      obtain ⟨hy, hq0⟩ := hy
      dsimp only at hy hq0 ⊢
      simp only [ups, List.set_cons_zero, List.set_cons_succ, List.cons_append, List.nil_append, List.append_nil]
      by_cases hlq : q < ru.length
      · obtain ⟨v, hv2⟩ := get_lt hlq
        have hgv : ru[q] = v := by rw [List.getElem?_eq_getElem hlq] at hv2; exact Option.some.inj hv2
        have htv : Z ++ (ru.take (q + 1)).map (fun v => ts.set p v) = (Z ++ (ru.take q).map (fun v => ts.set p v)) ++ [ts.set p v] := by rw [List.take_add_one, hv2]; simp
        obtain ⟨hxv, hcs⟩ := hcv p u v ht (by rw [hru]; exact List.mem_of_getElem? hv2)
        have hky := hff (Z ++ (ru.take q).map (fun v => ts.set p v)) (ts.set p v) (by rw [← htv]; exact hpre (q + 1)) hq0
        have hkn := fun h => flt_no (e := e) (L := Z ++ (ru.take q).map (fun v => ts.set p v)) (c := ts.set p v) h
        rw [← htv, hq0] at hkn
        rw [hR] at hky
        have hrt := WithTypesS_ok e (ts.set p v) hn (fun t h => by have := shape4 (hcs t h); omega) (by simp; omega)
        rw [hws (ts.set p v) (by simp) hcs] at hrt
        simp only [tmRes] at hrt
        have hxn := valid_small hxv
        have hti := TypeOfS_ok (withM e (ts.set p v)) (by omega)
        rw [typeIn_nil hxv] at hti
        have hset : (ts.set p v).map eTy = (ts.map eTy).set p (eTy v) := List.map_set
        simp only [typedB] at hky hkn
        generalize withM e (ts.set p v) = X at *
        cases hty : typeM [] X with
        | none =>
          rw [hty] at hti hkn
          simp only [tyRes] at hti
          have hk2 := hkn rfl
          repeat' first | (refine aops_end (hK _ ?_); clear hK K) | (refine aops_go ?_; simp [hlq, hgv, hlt, ← hset]; (try simp (disch := omega) only [wrap64]); (try (refine gen fun q hq => ?_; cases q <;> (try simp [hlq, hgv, hlt, ← hset] at hq) <;> (try (have hh : True := hq; clear hh hq))))) | (refine wpcall_pure ?_ (hrt) ?_; (focus (solve | simp [hlq, hgv, hlt, ← hset])); simp [hlq, hgv, hlt, ← hset]; (try simp (disch := omega) only [wrap64]); (try (refine gen fun q hq => ?_; cases q <;> (try simp [hlq, hgv, hlt, ← hset] at hq) <;> (try (have hh : True := hq; clear hh hq))))) | (refine wpcall_pure ?_ (hti) ?_; (focus (solve | simp [hlq, hgv, hlt, ← hset])); simp [hlq, hgv, hlt, ← hset]; (try simp (disch := omega) only [wrap64]); (try (refine gen fun q hq => ?_; cases q <;> (try simp [hlq, hgv, hlt, ← hset] at hq) <;> (try (have hh : True := hq; clear hh hq))))) | (refine ⟨by omega, by omega, ?_⟩) | refine T.rs (id := 9) (fun i => i == 0) fun K hK => ?_ | refine T.rs (id := 7) (fun _ => false) fun K hK => ?_ | refine T.rs (id := 10) (fun _ => false) fun K hK => ?_ | refine T.rs (id := 11) (fun _ => false) fun K hK => ?_ | refine T.rs (id := 12) (fun _ => false) fun K hK => ?_ | refine T.rs (id := 13) (fun _ => false) fun K hK => ?_ | refine T.rs1 (id := 8) (fun _ => false) fun K hK => ?_ | refine T.ct rfl ?_ | refine T.cf rfl ?_ | refine T.seq ?_ | refine T.block ?_ | refine T.skip ?_
          refine ⟨(q + 1, _, GA2 ++ [{ sz := 2, ety := 25, rows := (ts.map eTy).set p (eTy v), wr := false }]), by dsimp only; omega, ⟨by dsimp only; omega, hk2⟩, (by simp only [ups, List.set_cons_zero, List.cons_append, List.append_assoc, List.nil_append]; rfl), ?_, ?_⟩
          · simp [eTy_def]
          · simp (disch := omega) [wrap64]
        | some t =>
          rw [hty] at hti hky
          simp only [tyRes] at hti
          have hk2 := hky rfl
          subst hk2
          simp only [tmRes]
          repeat' first | (refine aops_end (hK _ ?_); clear hK K) | (refine aops_go ?_; simp [hlq, hgv, hlt, ← hset]; (try simp (disch := omega) only [wrap64]); (try (refine gen fun q hq => ?_; cases q <;> (try simp [hlq, hgv, hlt, ← hset] at hq) <;> (try (have hh : True := hq; clear hh hq))))) | (refine wpcall_pure ?_ (hrt) ?_; (focus (solve | simp [hlq, hgv, hlt, ← hset])); simp [hlq, hgv, hlt, ← hset]; (try simp (disch := omega) only [wrap64]); (try (refine gen fun q hq => ?_; cases q <;> (try simp [hlq, hgv, hlt, ← hset] at hq) <;> (try (have hh : True := hq; clear hh hq))))) | (refine wpcall_pure ?_ (hti) ?_; (focus (solve | simp [hlq, hgv, hlt, ← hset])); simp [hlq, hgv, hlt, ← hset]; (try simp (disch := omega) only [wrap64]); (try (refine gen fun q hq => ?_; cases q <;> (try simp [hlq, hgv, hlt, ← hset] at hq) <;> (try (have hh : True := hq; clear hh hq))))) | (refine ⟨by omega, by omega, ?_⟩) | (refine T.ret (Done.tup (Or.inr rfl) ?_) <;> simp [resAs, Tryz.results79, eTm_def] <;> omega) | refine T.rs (id := 9) (fun i => i == 0) fun K hK => ?_ | refine T.rs (id := 7) (fun _ => false) fun K hK => ?_ | refine T.rs (id := 10) (fun _ => false) fun K hK => ?_ | refine T.rs (id := 11) (fun _ => false) fun K hK => ?_ | refine T.rs (id := 12) (fun _ => false) fun K hK => ?_ | refine T.rs (id := 13) (fun _ => false) fun K hK => ?_ | refine T.rs (id := 14) (fun _ => false) fun K hK => ?_ | refine T.ct rfl ?_ | refine T.seq ?_ | refine T.block ?_ | refine T.skip ?_
      · have hq' : q = ru.length := by omega
        subst hq'
        rw [List.take_length, ← hsu] at hq0
        repeat' first | (refine aops_end (hK _ ?_); clear hK K) | (refine aops_go ?_; simp [hlq]; (try simp (disch := omega) only [wrap64]); (try (refine gen fun q hq => ?_; cases q <;> (try simp [hlq] at hq) <;> (try (have hh : True := hq; clear hh hq))))) | refine T.r0 fun K hK => ?_ | refine T.r1 fun K hK => ?_ | refine T.cf rfl ?_ | refine T.seq ?_ | refine T.exit ?_
        refine ⟨(p + 1, _, GA ++ GA2), by dsimp only; omega, ⟨by dsimp only; omega, hq0⟩, (by simp only [ups, List.set_cons_zero, List.cons_append, List.append_assoc, List.nil_append]; rfl), ?_, ?_⟩
        · simp
        · simp (disch := omega) [wrap64]
    · have hp' : p = ts.length := by omega
      subst hp'
      rw [h0] at hall
      rw [← hall] at hR
      simp only [List.head?_nil] at hR
      subst hR
      simp only [tmRes]
      repeat' first | (refine aops_end (hK _ ?_); clear hK K) | (refine aops_go ?_; simp [hlt]; (try (refine gen fun q hq => ?_; cases q <;> (try simp [hlt] at hq) <;> (try (have hh : True := hq; clear hh hq))))) | (refine T.ret (Done.tup (Or.inr rfl) ?_) <;> simp [resAs, Tryz.results79] <;> omega) | refine T.r0 fun K hK => ?_ | refine T.cf rfl ?_ | refine T.seq ?_ | refine T.exit ?_

theorem MaximalTermS_ok (e : MTm) (hn : nTm e ≤ 1073741824) : ACalls Tryz.prog 23 [aTm e] [] (.b ((typeInM [] e).isSome && (refineTm e).head?.isNone)) [] [] := by
  have h1 := TypeOfS_ok e (by omega)
  have h2 := l10First_ok e hn
  cases ht : typeInM [] e with
  | none =>
    rw [ht] at h1
    cases hr : (refineTm e).head? with
    | none =>
      rw [hr] at h2
      simp only [tyRes, tmRes] at h1 h2
      refine ACalls.of_body Tryz.func23 (by kernel_rfl) rfl (by kernel_rfl) (by simp [Tryz.ntmps23]) (by simp) ?_
      rw [Tryz.ntmps23]
      repeat' first | (refine aops_end (hK _ ?_); clear hK K) | (refine aops_go ?_; simp; (try (refine gen fun q hq => ?_; cases q <;> (try simp at hq) <;> (try (have hh : True := hq; clear hh hq))))) | (refine wpcall_pure rfl (h1) ?_; simp; (try (refine gen fun q hq => ?_; cases q <;> (try simp at hq) <;> (try (have hh : True := hq; clear hh hq))))) | (refine wpcall_pure rfl (h2) ?_; simp; (try (refine gen fun q hq => ?_; cases q <;> (try simp at hq) <;> (try (have hh : True := hq; clear hh hq))))) | (refine T.ret (Done.data (Or.inr rfl) ?_ ?_) <;> simp [Tryz.results23] <;> omega) | refine T.r0 fun K hK => ?_
    | some x =>
      rw [hr] at h2
      simp only [tyRes, tmRes] at h1 h2
      refine ACalls.of_body Tryz.func23 (by kernel_rfl) rfl (by kernel_rfl) (by simp [Tryz.ntmps23]) (by simp) ?_
      rw [Tryz.ntmps23]
      repeat' first | (refine aops_end (hK _ ?_); clear hK K) | (refine aops_go ?_; simp; (try (refine gen fun q hq => ?_; cases q <;> (try simp at hq) <;> (try (have hh : True := hq; clear hh hq))))) | (refine wpcall_pure rfl (h1) ?_; simp; (try (refine gen fun q hq => ?_; cases q <;> (try simp at hq) <;> (try (have hh : True := hq; clear hh hq))))) | (refine wpcall_pure rfl (h2) ?_; simp; (try (refine gen fun q hq => ?_; cases q <;> (try simp at hq) <;> (try (have hh : True := hq; clear hh hq))))) | (refine T.ret (Done.data (Or.inr rfl) ?_ ?_) <;> simp [Tryz.results23] <;> omega) | refine T.r0 fun K hK => ?_
  | some t =>
    rw [ht] at h1
    cases hr : (refineTm e).head? with
    | none =>
      rw [hr] at h2
      simp only [tyRes, tmRes] at h1 h2
      refine ACalls.of_body Tryz.func23 (by kernel_rfl) rfl (by kernel_rfl) (by simp [Tryz.ntmps23]) (by simp) ?_
      rw [Tryz.ntmps23]
      repeat' first | (refine aops_end (hK _ ?_); clear hK K) | (refine aops_go ?_; simp; (try (refine gen fun q hq => ?_; cases q <;> (try simp at hq) <;> (try (have hh : True := hq; clear hh hq))))) | (refine wpcall_pure rfl (h1) ?_; simp; (try (refine gen fun q hq => ?_; cases q <;> (try simp at hq) <;> (try (have hh : True := hq; clear hh hq))))) | (refine wpcall_pure rfl (h2) ?_; simp; (try (refine gen fun q hq => ?_; cases q <;> (try simp at hq) <;> (try (have hh : True := hq; clear hh hq))))) | (refine T.ret (Done.data (Or.inr rfl) ?_ ?_) <;> simp [Tryz.results23] <;> omega) | refine T.r0 fun K hK => ?_
    | some x =>
      rw [hr] at h2
      simp only [tyRes, tmRes] at h1 h2
      refine ACalls.of_body Tryz.func23 (by kernel_rfl) rfl (by kernel_rfl) (by simp [Tryz.ntmps23]) (by simp) ?_
      rw [Tryz.ntmps23]
      repeat' first | (refine aops_end (hK _ ?_); clear hK K) | (refine aops_go ?_; simp; (try (refine gen fun q hq => ?_; cases q <;> (try simp at hq) <;> (try (have hh : True := hq; clear hh hq))))) | (refine wpcall_pure rfl (h1) ?_; simp; (try (refine gen fun q hq => ?_; cases q <;> (try simp at hq) <;> (try (have hh : True := hq; clear hh hq))))) | (refine wpcall_pure rfl (h2) ?_; simp; (try (refine gen fun q hq => ?_; cases q <;> (try simp at hq) <;> (try (have hh : True := hq; clear hh hq))))) | (refine T.ret (Done.data (Or.inr rfl) ?_ ?_) <;> simp [Tryz.results23] <;> omega) | refine T.r0 fun K hK => ?_

theorem MigrateTermS_ok (e : MTm) (hn : nTm e ≤ 1073741824) : ACalls Tryz.prog 27 [aTm e] [] (.tup (tmRes (migrateTm e))) [] [] := by
  have h1 := TypeOfS_ok e (by omega)
  simp only [migrateTm]
  cases ht : typeInM [] e with
  | none =>
    rw [ht] at h1
    simp only [tyRes, Option.isSome_none, Bool.false_eq_true, if_false, tmRes] at h1 ⊢
    refine ACalls.of_body Tryz.func27 (by kernel_rfl) rfl (by kernel_rfl) (by simp [Tryz.ntmps27]) (by simp) ?_
    rw [Tryz.ntmps27]
    repeat' first | (refine aops_end (hK _ ?_); clear hK K) | (refine aops_go ?_; simp; (try (refine gen fun q hq => ?_; cases q <;> (try simp at hq) <;> (try (have hh : True := hq; clear hh hq))))) | (refine wpcall_pure rfl (h1) ?_; simp; (try (refine gen fun q hq => ?_; cases q <;> (try simp at hq) <;> (try (have hh : True := hq; clear hh hq))))) | (refine T.ret (Done.tup (Or.inr rfl) ?_) <;> simp [resAs, Tryz.results27] <;> omega) | refine T.r0 fun K hK => ?_ | refine T.ct rfl ?_ | refine T.seq ?_
  | some t =>
    rw [ht] at h1
    simp only [tyRes, Option.isSome_some, if_true, tmRes] at h1 ⊢
    have h2 := l2Copy_ok e (by omega)
    have hv := (typeIn_some ht).2.1
    obtain ⟨R, hR⟩ : ∃ R, migrateM e = R := ⟨_, rfl⟩
    rw [hR]
    refine ACalls.of_body Tryz.func27 (by kernel_rfl) rfl (by kernel_rfl) (by simp [Tryz.ntmps27]) (by simp) ?_
    rw [Tryz.ntmps27]
    repeat' first | (refine aops_end (hK _ ?_); clear hK K) | (refine aops_go ?_; simp; (try (refine gen fun q hq => ?_; cases q <;> (try simp at hq) <;> (try (have hh : True := hq; clear hh hq))))) | (refine wpcall_pure rfl (h1) ?_; simp; (try (refine gen fun q hq => ?_; cases q <;> (try simp at hq) <;> (try (have hh : True := hq; clear hh hq))))) | (refine wpcall_pure rfl (h2) ?_; simp; (try (refine gen fun q hq => ?_; cases q <;> (try simp at hq) <;> (try (have hh : True := hq; clear hh hq))))) | refine T.r0 fun K hK => ?_ | refine T.cf rfl ?_ | refine T.seq ?_ | refine T.block ?_ | refine T.skip ?_
    refine T.loopK (α := MTm × List (List CV)) [1, 2] (fun x => []) (fun x => [(0, (aTm x.1).cells)]) (fun x => x.2) (fun x A => A) (fun x => 15 * (typesM x.1).length + 1 - sumW x.1) (fun x => termValidM x.1 = true ∧ migrateM x.1 = R) (by simp; rfl) (fun x hx => ?_) (e, []) ⟨hv, hR⟩ (by simp) (by simp) (by simp)
    obtain ⟨x, G⟩ := x
    obtain ⟨hxv, hxR⟩ := hx
    dsimp only at hxv hxR ⊢
    simp only [ups, List.set_cons_zero, List.set_cons_succ, List.cons_append, List.nil_append, List.append_nil]
    have hxs := valid_small hxv
    have h3 := l10First_ok x (by omega)
    simp only [refineTm, hxv, if_true] at h3
    cases hr : refineM x with
    | nil =>
      rw [hr] at h3
      simp only [List.head?_nil, tmRes] at h3
      rw [migrate_nil hr] at hxR
      subst hxR
      repeat' first | (refine aops_end (hK _ ?_); clear hK K) | (refine aops_go ?_; simp; (try (refine gen fun q hq => ?_; cases q <;> (try simp at hq) <;> (try (have hh : True := hq; clear hh hq))))) | (refine wpcall_pure rfl (h3) ?_; simp; (try (refine gen fun q hq => ?_; cases q <;> (try simp at hq) <;> (try (have hh : True := hq; clear hh hq))))) | (refine T.ret (Done.tup (Or.inr rfl) ?_) <;> simp [resAs, Tryz.results27] <;> omega) | refine T.r0 fun K hK => ?_ | refine T.ct rfl ?_ | refine T.seq ?_ | refine T.block ?_
    | cons y r =>
      rw [hr] at h3
      simp only [List.head?_cons, tmRes] at h3
      obtain ⟨q1, q2, q3⟩ := migrate_cons hxv hr
      repeat' first | (refine aops_end (hK _ ?_); clear hK K) | (refine aops_go ?_; simp; (try (refine gen fun q hq => ?_; cases q <;> (try simp at hq) <;> (try (have hh : True := hq; clear hh hq))))) | (refine wpcall_pure rfl (h3) ?_; simp; (try (refine gen fun q hq => ?_; cases q <;> (try simp at hq) <;> (try (have hh : True := hq; clear hh hq))))) | (refine ⟨(y, _), q3, ⟨q2, by rw [← q1]; exact hxR⟩, rfl, ?_, ?_⟩ <;> simp [eTm_def]) | refine T.r0 fun K hK => ?_ | refine T.r1 fun K hK => ?_ | refine T.cf rfl ?_ | refine T.seq ?_ | refine T.block ?_ | refine T.skip ?_

theorem maxM_spec (e : MTm) : ((typeInM [] e).isSome && (refineTm e).head?.isNone) = ((typeInM [] e).isSome && (refineM e).isEmpty) := by
  cases ht : typeInM [] e with
  | none => rfl
  | some t =>
    simp only [refineTm, (typeIn_some ht).2.1, if_true]
    cases refineM e <;> rfl
end Go.Proofs.YtfdknjjnifnobaaGreat

namespace Go.Proofs.YtfdknjjnifnobaaGreat
open Go Go.Av
attribute [local irreducible] T ACalls TX EX LX Draws Some_ ACallsX eTy eTm MTy.kind MTy.kids MTm.kind MTm.name MTm.num MTm.ty MTm.fr MTm.label MTm.kids
attribute [local simp] eTy_def eTm_def
set_option maxHeartbeats 16000000
set_option maxRecDepth 8000

theorem CountSlotsS_ok (e : MTm) (hn : nTm e ≤ 1073741824) : ACalls Tryz.prog 145 [aTm e] [] (.i (termTypesM e).length) [] [] := by
  have h1 := (TermTypesS_own e hn).sealed (by simp)
  dsimp only at h1
  generalize termTypesM e = ts at *
  refine ACalls.of_body Tryz.func145 (by kernel_rfl) rfl (by kernel_rfl) (by simp [Tryz.ntmps145]) (by simp) ?_
  rw [Tryz.ntmps145]
  repeat' first | (refine aops_end (hK _ ?_); clear hK K) | (refine aops_go ?_; simp; (try (refine gen fun q hq => ?_; cases q <;> (try simp at hq) <;> (try (have hh : True := hq; clear hh hq))))) | (refine wpcall_pure rfl (h1) ?_; simp; (try (refine gen fun q hq => ?_; cases q <;> (try simp at hq) <;> (try (have hh : True := hq; clear hh hq))))) | (refine T.ret (Done.data (Or.inr rfl) ?_ ?_) <;> simp [Tryz.results145] <;> omega) | refine T.r0 fun K hK => ?_

theorem l10Small_ok (b : List Int) (hb : okB b) (p : Nat) (hp : p + 60000000 ≤ 1099511627776) : Draws Tryz.prog 77 [] b p 60000000 (RV aTm noA fun e => nTm e ≤ 2000000) := by
  obtain ⟨N, hN⟩ : ∃ N : Nat, N = 9900000 := ⟨_, rfl⟩
  have hN4 : N * 4 = 39600000 := by rw [hN]
  refine Draws.of_body Tryz.func77 (by kernel_rfl) rfl (by kernel_rfl) (by simp [Tryz.ntmps77]) ?_
  rw [Tryz.ntmps77]
  repeat' first | (refine aops_end (hK _ ?_); clear hK K) | (refine aops_go ?_; simp; (try simp (disch := omega) only [wrap64]); (try (refine gen fun q hq => ?_; cases q <;> (try simp at hq) <;> (try (have hh : True := hq; clear hh hq))))) | refine TX.rs (fun _ => false) fun K hK => ?_ | refine TX.seq ?_ | refine TX.block ?_
  refine TX.loopF (fun x : Nat × Nat × List (List CV) => ⟨[(0, .c (.ptr 0 0)), (2, .c (.ptr 1 0)), (3, .i x.1)], (rd b x.2.1).map CV.d :: [.d (.i 0), .d (.str []), .d (.i 0), .d (.i 0), .nil, .d (.i 0), .nil, .d (.i 0), .nil] :: x.2.2, []⟩) (fun x => 4 - x.1) (fun x => x.1 ≤ 4 ∧ p ≤ x.2.1 ∧ x.2.1 ≤ p + N * x.1) (fun x hx => ?_) (0, p, []) (by simp) (by simp)
  obtain ⟨j, q1, G⟩ := x
  obtain ⟨hj, hq1, hq2⟩ := hx
  dsimp only at hj hq1 hq2 ⊢
  have hNj : N * j ≤ 39600000 := by have := Nat.mul_le_mul_left N hj; omega
  have hNs : N * (j + 1) = N * j + N := Nat.mul_succ N j
  generalize N * j = M at hNj hNs hq2
  generalize hM2 : N * (j + 1) = M2 at hNs
  clear hN4
  by_cases hlt : j < 4
  · have h1 : (j : Int) < 4 := by omega
    repeat' first | (refine aops_end (hK _ ?_); clear hK K) | (refine aops_go ?_; simp [h1]; (try simp (disch := omega) only [wrap64]); (try (refine gen fun q hq => ?_; cases q <;> (try simp [h1] at hq) <;> (try (have hh : True := hq; clear hh hq))))) | (refine wpcall_dr 0 rfl rfl (num_ok b hb _ (by omega) [1, 2] (by simp) (by simp)) (fun y p1 hy hp1 hp1' => ?_); simp at hy; simp) | (refine wpcall_dr 0 rfl rfl (l1DrawT_ok b hb _ (by omega) _ (by omega)) (fun t p1 ht hp1 hp1' => ?_); simp) | (refine wpcall_dr 0 rfl rfl (num_ok b hb _ (by omega) [3, 2, 3, 4] (by simp) (by simp)) (fun z p1 hz hp1 hp1' => ?_); simp at hz; simp) | (refine wpcall_dr 0 rfl rfl (l3Make5_ok b hb [] (by simp) (by simp) _ (by assumption) _ (by omega) (by omega) _ (by omega)) (fun e p1 he hp1 hp1' => ?_); simp) | (refine wpcall_pure rfl (CountSlotsS_ok _ (by omega)) ?_; by_cases hcs : ((termTypesM e).length : Int) ≤ 4 <;> simp [hcs]) | (refine EX.next (j + 1, p1, G ++ [(aTm e).cells]) (by dsimp only; omega) ?_ ⟨by simp, rfl, ?_⟩; (exact ⟨by show j + 1 ≤ 4; omega, by show p ≤ p1; omega, by show p1 ≤ p + N * (j + 1); rw [hM2]; omega⟩); simp (disch := omega) [wrap64]) | refine TX.rs (fun _ => false) fun K hK => ?_ | refine TX.rs1 (fun _ => false) fun K hK => ?_ | refine TX.cond rfl (fun hcnd => ?_) (fun hcnd => absurd hcnd (by decide)) | refine TX.cond rfl (fun hcnd => absurd hcnd (by decide)) (fun hcnd => ?_) | refine TX.seq ?_ | refine TX.block ?_ | refine TX.skip ?_ | refine EX.thenN ?_ | refine EX.blockN ?_
    all_goals (
      refine TX.ret ?_
      repeat' first | refine EX.outR ?_ | refine EX.thenR ?_ | refine EX.blockR ?_ | refine EX.unrR ?_
      apply EX.drA (ks := [])
      case he => exact Or.inr rfl
      case hys => simp [resAs, getAs, Tryz.results77] <;> rfl
      case hv => first | (dsimp only [Av.one]; exact rfl) | dsimp only [Av.one]
      case hx => repeat' first | exact IsT2.var _ | exact IsV.tmv _ | exact IsTm.var _ | exact IsTy.row _ | exact IsTm.row _ | exact IsTys.nil | exact IsTms.nil | exact IsBds.nil | exact IsTys.map _ | exact IsTms.map _ | exact IsBds.map _ | exact IsV.int _ | exact IsV.str _ | exact IsV.bool _ | apply IsV.p2 | apply IsV.p3 | apply IsV.tm | apply IsV.ty | apply IsTm.node | apply IsTy.of | apply IsTys.cons | apply IsTms.cons | apply IsBds.cons | apply IsV.tys | apply IsV.tms | apply IsV.bds | apply IsT2.node | apply IsTys.app | apply IsTms.app | apply IsBds.app
      case hA => exact rfl
      case hks => simp
      case hV => exact rfl
      case h1 => omega
      case h2 => omega
      case hg => omega)
  · have h1 : ¬ (j : Int) < 4 := by omega
    repeat' first | (refine aops_end (hK _ ?_); clear hK K) | (refine aops_go ?_; simp [h1]; (try simp (disch := omega) only [wrap64]); (try (refine gen fun q hq => ?_; cases q <;> (try simp [h1] at hq) <;> (try (have hh : True := hq; clear hh hq))))) | (refine wpcall_pure rfl (l2Num_ok 9) ?_; simp [h1]; (try simp (disch := omega) only [wrap64]); (try (refine gen fun q hq => ?_; cases q <;> (try simp [h1] at hq) <;> (try (have hh : True := hq; clear hh hq))))) | refine TX.rs (fun _ => false) fun K hK => ?_ | refine TX.cond rfl (fun hcnd => absurd hcnd (by decide)) (fun hcnd => ?_) | refine TX.seq ?_ | refine TX.exit ?_ | refine EX.thenN ?_ | refine EX.thenE ?_ | refine EX.blockE ?_ | refine EX.outE ?_
    all_goals (
      refine TX.ret ?_
      repeat' first | refine EX.outR ?_ | refine EX.thenR ?_ | refine EX.blockR ?_ | refine EX.unrR ?_
      apply EX.drA (ks := [])
      case he => exact Or.inr rfl
      case hys => simp [resAs, getAs, Tryz.results77] <;> rfl
      case hv => first | (dsimp only [Av.one]; exact rfl) | dsimp only [Av.one]
      case hx => repeat' first | exact IsT2.var _ | exact IsV.tmv _ | exact IsTm.var _ | exact IsTy.row _ | exact IsTm.row _ | exact IsTys.nil | exact IsTms.nil | exact IsBds.nil | exact IsTys.map _ | exact IsTms.map _ | exact IsBds.map _ | exact IsV.int _ | exact IsV.str _ | exact IsV.bool _ | apply IsV.p2 | apply IsV.p3 | apply IsV.tm | apply IsV.ty | apply IsTm.node | apply IsTy.of | apply IsTys.cons | apply IsTms.cons | apply IsBds.cons | apply IsV.tys | apply IsV.tms | apply IsV.bds | apply IsT2.node | apply IsTys.app | apply IsTms.app | apply IsBds.app
      case hA => exact rfl
      case hks => simp
      case hV => exact rfl
      case h1 => omega
      case h2 => omega
      case hg => simp [nTm_mk, nTmS, nTy_mk, nTyS])

theorem DrawRefineTerm_ok (b : List Int) (hb : ∀ n ∈ b, 0 ≤ n ∧ n ≤ 255) : Some_ Tryz.prog 36 [.l (rB b)] (RV aTm noA fun e => nTm e ≤ 3000000) := by
  obtain ⟨b, p, hb, hp, hc⟩ := l18Open_ok b hb
  refine Some_.of_body Tryz.func36 (by kernel_rfl) rfl (by kernel_rfl) (by simp [Tryz.ntmps36]) ?_
  rw [Tryz.ntmps36]
  repeat' first | (refine aops_end (hK _ ?_); clear hK K) | (refine aops_go ?_; simp; (try simp (disch := omega) only [wrap64]); (try (refine gen fun q hq => ?_; cases q <;> (try simp at hq) <;> (try (have hh : True := hq; clear hh hq))))) | (refine wpcall_dr 1 rfl rfl (l10Small_ok b hb _ (by omega)) (fun x1 p1 hx1 hp1 hp1' => ?_); simp; (try simp (disch := omega) only [wrap64]); (try (refine gen fun q hq => ?_; cases q <;> (try simp at hq) <;> (try (have hh : True := hq; clear hh hq))))) | (refine wpcall_dr 1 rfl rfl (l3Blur_ok b hb _ (by omega) _ (by omega)) (fun x1 p1 hx1 hp1 hp1' => ?_); simp; (try simp (disch := omega) only [wrap64]); (try (refine gen fun q hq => ?_; cases q <;> (try simp at hq) <;> (try (have hh : True := hq; clear hh hq))))) | (refine wpcall_dr 1 rfl rfl (l2Mutate_ok b hb _ (by omega) _ (by omega)) (fun x1 p1 hx1 hp1 hp1' => ?_); simp; (try simp (disch := omega) only [wrap64]); (try (refine gen fun q hq => ?_; cases q <;> (try simp at hq) <;> (try (have hh : True := hq; clear hh hq))))) | (refine wpcall_new1 rfl hc ?_; simp [back]) | refine TX.rs (fun _ => false) fun K hK => ?_
  all_goals (
    refine TX.ret ?_
    repeat' first | refine EX.outR ?_ | refine EX.thenR ?_ | refine EX.blockR ?_ | refine EX.unrR ?_
    apply EX.someA (ks := [])
    case he => exact Or.inr rfl
    case hys => simp [resAs, getAs, Tryz.results36] <;> rfl
    case hv => first | (dsimp only [Av.one]; exact rfl) | dsimp only [Av.one]
    case hx => repeat' first | exact IsT2.var _ | exact IsV.tmv _ | exact IsTm.var _ | exact IsTy.row _ | exact IsTm.row _ | exact IsTys.nil | exact IsTms.nil | exact IsBds.nil | exact IsTys.map _ | exact IsTms.map _ | exact IsBds.map _ | exact IsV.int _ | exact IsV.str _ | exact IsV.bool _ | apply IsV.p2 | apply IsV.p3 | apply IsV.tm | apply IsV.ty | apply IsTm.node | apply IsTy.of | apply IsTys.cons | apply IsTms.cons | apply IsBds.cons | apply IsV.tys | apply IsV.tms | apply IsV.bds | apply IsT2.node | apply IsTys.app | apply IsTms.app | apply IsBds.app
    case hA => exact rfl
    case hks => simp
    case hg => omega)

theorem DrawMigrateTerm_ok (b : List Int) (hb : ∀ n ∈ b, 0 ≤ n ∧ n ≤ 255) : Some_ Tryz.prog 25 [.l (rB b)] (RV aTm noA fun e => nTm e ≤ 3000000) := by
  have hc := DrawRefineTerm_ok b hb
  refine Some_.of_body Tryz.func25 (by kernel_rfl) rfl (by kernel_rfl) (by simp [Tryz.ntmps25]) ?_
  rw [Tryz.ntmps25]
  repeat' first | (refine aops_end (hK _ ?_); clear hK K) | (refine aops_go ?_; simp; (try (refine gen fun q hq => ?_; cases q <;> (try simp at hq) <;> (try (have hh : True := hq; clear hh hq))))) | (refine wpcall_some rfl (hc) (fun _ _ => ?_); simp; (try (refine gen fun q hq => ?_; cases q <;> (try simp at hq) <;> (try (have hh : True := hq; clear hh hq))))) | refine TX.rs (fun _ => false) fun K hK => ?_
  all_goals (
    refine TX.ret ?_
    repeat' first | refine EX.outR ?_ | refine EX.thenR ?_ | refine EX.blockR ?_ | refine EX.unrR ?_
    apply EX.someA (ks := [])
    case he => exact Or.inr rfl
    case hys => simp [resAs, getAs, Tryz.results25] <;> rfl
    case hv => first | (dsimp only [Av.one]; exact rfl) | dsimp only [Av.one]
    case hx => repeat' first | exact IsT2.var _ | exact IsV.tmv _ | exact IsTm.var _ | exact IsTy.row _ | exact IsTm.row _ | exact IsTys.nil | exact IsTms.nil | exact IsBds.nil | exact IsTys.map _ | exact IsTms.map _ | exact IsBds.map _ | exact IsV.int _ | exact IsV.str _ | exact IsV.bool _ | apply IsV.p2 | apply IsV.p3 | apply IsV.tm | apply IsV.ty | apply IsTm.node | apply IsTy.of | apply IsTys.cons | apply IsTms.cons | apply IsBds.cons | apply IsV.tys | apply IsV.tms | apply IsV.bds | apply IsT2.node | apply IsTys.app | apply IsTms.app | apply IsBds.app
    case hA => exact rfl
    case hks => simp
    case hg => assumption)

theorem migrate_small {e : MTm} (h : (typeInM [] e).isSome = true) : nTm (migrateM e) ≤ 9000 := by
  obtain ⟨t, ht⟩ := Option.isSome_iff_exists.1 h
  exact valid_small (migrate_law (typeIn_some ht).2.1).1

theorem DrawMaximalTerm_ok (b : List Int) (hb : ∀ n ∈ b, 0 ≤ n ∧ n ≤ 255) : Some_ Tryz.prog 21 [.l (rB b)] (RV aTm noA fun e => nTm e ≤ 3000000) := by
  obtain ⟨b, p, hb, hp, hc⟩ := l18Open_ok b hb
  refine Some_.of_body Tryz.func21 (by kernel_rfl) rfl (by kernel_rfl) (by simp [Tryz.ntmps21]) ?_
  rw [Tryz.ntmps21]
  repeat' first | (refine aops_end (hK _ ?_); clear hK K) | (refine aops_go ?_; simp; (try simp (disch := omega) only [wrap64]); (try (refine gen fun q hq => ?_; cases q <;> (try simp at hq) <;> (try (have hh : True := hq; clear hh hq))))) | (refine wpcall_dr 1 rfl rfl (pick_ok b hb _ (by omega) 2 (by omega)) (fun x1 p1 hx1 hp1 hp1' => ?_); simp; (try simp (disch := omega) only [wrap64]); (try (refine gen fun q hq => ?_; cases q <;> (try simp at hq) <;> (try (have hh : True := hq; clear hh hq))))) | (refine wpcall_dr 1 rfl rfl (l2Mutate_ok b hb _ (by omega) _ (by omega)) (fun x1 p1 hx1 hp1 hp1' => ?_); simp; (try simp (disch := omega) only [wrap64]); (try (refine gen fun q hq => ?_; cases q <;> (try simp at hq) <;> (try (have hh : True := hq; clear hh hq))))) | (refine wpcall_new1 rfl hc ?_; simp [back]) | (refine wpcall_dr 1 rfl rfl (l10Small_ok b hb _ (by omega)) (fun e p1 he hp1 hp1' => ?_); simp) | (refine wpcall_pure rfl (MigrateTermS_ok e (by omega)) ?_; (cases hty : (typeInM [] e).isSome <;> simp only [migrateTm, hty, Bool.false_eq_true, if_false, if_true, tmRes]); (all_goals (try (have hms := migrate_small hty))); simp) | refine TX.rs (fun _ => false) fun K hK => ?_ | refine TX.rs1 (fun _ => false) fun K hK => ?_ | refine TX.cond rfl (fun hcnd => ?_) (fun hcnd => absurd hcnd (by decide)) | refine TX.cond rfl (fun hcnd => absurd hcnd (by decide)) (fun hcnd => ?_) | refine TX.seq ?_ | refine TX.skip ?_ | refine EX.thenN ?_
  all_goals (
    refine TX.ret ?_
    repeat' first | refine EX.outR ?_ | refine EX.thenR ?_ | refine EX.blockR ?_ | refine EX.unrR ?_
    apply EX.someA (ks := [])
    case he => exact Or.inr rfl
    case hys => simp [resAs, getAs, Tryz.results21] <;> rfl
    case hv => first | (dsimp only [Av.one]; exact rfl) | dsimp only [Av.one]
    case hx => repeat' first | exact IsT2.var _ | exact IsV.tmv _ | exact IsTm.var _ | exact IsTy.row _ | exact IsTm.row _ | exact IsTys.nil | exact IsTms.nil | exact IsBds.nil | exact IsTys.map _ | exact IsTms.map _ | exact IsBds.map _ | exact IsV.int _ | exact IsV.str _ | exact IsV.bool _ | apply IsV.p2 | apply IsV.p3 | apply IsV.tm | apply IsV.ty | apply IsTm.node | apply IsTy.of | apply IsTys.cons | apply IsTms.cons | apply IsBds.cons | apply IsV.tys | apply IsV.tms | apply IsV.bds | apply IsT2.node | apply IsTys.app | apply IsTms.app | apply IsBds.app
    case hA => exact rfl
    case hks => simp
    case hg => omega)
end Go.Proofs.YtfdknjjnifnobaaGreat

namespace Go.Proofs.YtfdknjjnifnobaaGreat
open Go Go.Av
attribute [local irreducible] T ACalls TX EX LX Draws Some_ ACallsX eTy eTm MTy.kind MTy.kids MTm.kind MTm.name MTm.num MTm.ty MTm.fr MTm.label MTm.kids
attribute [local simp] eTy_def eTm_def
set_option maxHeartbeats 16000000
set_option maxRecDepth 8000

theorem refineTm_law {e x : MTm} (hx : x ∈ refineTm e) : termValidM e = true ∧ termValidM x = true ∧ (∃ u, typeInM [] x = some u) ∧ (termValidM x && termValidM e && alikeM precTy x e) = true ∧ precOfM x = precOfM e + 1 := by
  simp only [refineTm] at hx
  split at hx
  · rename_i hv
    obtain ⟨h1, ⟨u, h2⟩, h3, h4, _⟩ := refine_law hv hx
    exact ⟨hv, h1, ⟨u, by rw [typeIn_nil h1, h2]⟩, by simp [hv, h1, h3], by simp only [precOfM, hv, h1, if_true, h4]⟩
  · simp at hx
theorem refineTm_small (e : MTm) : (refineTm e).length ≤ 1800 := by
  simp only [refineTm]
  split
  · rename_i hv; exact (refine_small hv).1
  · simp
theorem maxM_eq (e : MTm) : ((typeInM [] e).isSome && (refineM e).isEmpty) = ((typeInM [] e).isSome && decide (((refineTm e).length : Int) = 0)) := by
  cases ht : typeInM [] e with
  | none => rfl
  | some t =>
    simp only [refineTm, (typeIn_some ht).2.1, if_true, Option.isSome_some, Bool.true_and]
    cases refineM e with
    | nil => rfl
    | cons x r => simp; omega

theorem lawRefineTerm_ok (b : List Int) (hb : ∀ n ∈ b, 0 ≤ n ∧ n ≤ 255) : ACalls Tryz.prog 7 [.l (rB b)] [] (.b true) [] [] := by
  by_cases h1 : (1048576 : Int) < b.length
  · refine ACalls.of_body Tryz.func7 (by kernel_rfl) rfl (by kernel_rfl) (by simp [Tryz.ntmps7]) (by simp) ?_
    rw [Tryz.ntmps7]
    repeat' first | (refine aops_end (hK _ ?_); clear hK K) | (refine aops_go ?_; simp [h1, rB_len]; (try (refine gen fun q hq => ?_; cases q <;> (try simp [h1, rB_len] at hq) <;> (try (have hh : True := hq; clear hh hq))))) | (refine T.ret (Done.data (Or.inr rfl) ?_ ?_) <;> simp [Tryz.results7] <;> omega) | refine T.r0 fun K hK => ?_ | refine T.ct rfl ?_ | refine T.seq ?_
  obtain ⟨e, he, d1⟩ := (DrawRefineTerm_ok b hb).elim
  have k1 := RefineTerm_ok e (by omega)
  have k2 := RefineTermS_ok e (by omega)
  have k3 := TypeOf_ok e (by omega)
  have k4 := MaximalTerm_ok e (by omega)
  rw [maxM_eq] at k4
  have hlaw := fun x hx => refineTm_law (e := e) (x := x) hx
  have hsm := refineTm_small e
  have kp := PrecisionOf_ok e (by omega)
  have hpb : precOfM e ≤ 1000 := by
    simp only [precOfM]
    split
    · rename_i hv; have := sumW_le hv; omega
    · omega
  obtain ⟨L, hL⟩ : ∃ L, refineTm e = L := ⟨_, rfl⟩
  rw [hL] at k1 k2 k4 hlaw hsm
  refine ACalls.of_body Tryz.func7 (by kernel_rfl) rfl (by kernel_rfl) (by simp [Tryz.ntmps7]) (by simp) ?_
  rw [Tryz.ntmps7]
  repeat' first | (refine aops_end (hK _ ?_); clear hK K) | (refine aops_go ?_; simp [h1, rB_len]; (try (refine gen fun q hq => ?_; cases q <;> (try simp [h1, rB_len] at hq) <;> (try (have hh : True := hq; clear hh hq))))) | (refine wpcall_pure rfl (d1) ?_; simp [h1, rB_len]; (try (refine gen fun q hq => ?_; cases q <;> (try simp [h1, rB_len] at hq) <;> (try (have hh : True := hq; clear hh hq))))) | (refine wpcall_pure rfl (k1) ?_; simp [h1, rB_len]; (try (refine gen fun q hq => ?_; cases q <;> (try simp [h1, rB_len] at hq) <;> (try (have hh : True := hq; clear hh hq))))) | (refine wpcall_pure rfl (k2) ?_; simp [h1, rB_len]; (try (refine gen fun q hq => ?_; cases q <;> (try simp [h1, rB_len] at hq) <;> (try (have hh : True := hq; clear hh hq))))) | refine T.r0 fun K hK => ?_ | refine T.cf rfl ?_ | refine T.seq ?_ | refine T.block ?_ | refine T.skip ?_
  refine T.loopK (α := Nat × List (List CV)) [3, 4, 5] (fun x => [(2, .b false), (6, .i x.1)]) (fun x => []) (fun x => x.2) (fun x A => A) (fun x => L.length + 1 - x.1) (fun x => x.1 ≤ L.length) (by simp; rfl) (fun x hx => ?_) (0, []) (by simp) (by simp) (by simp) (by simp)
  obtain ⟨p, G⟩ := x
  dsimp only at hx ⊢
  simp only [ups, List.set_cons_zero, List.set_cons_succ, List.cons_append, List.nil_append, List.append_nil]
  by_cases hlt : p < L.length
  · obtain ⟨x, ht⟩ := get_lt hlt
    have htm : x ∈ L := List.mem_of_getElem? ht
    have hgt : L[p] = x := by rw [List.getElem?_eq_getElem hlt] at ht; exact Option.some.inj ht
    have hdr : L.drop p = x :: L.drop (p + 1) := by rw [List.drop_eq_getElem_cons hlt, hgt]
    obtain ⟨q1, q2, ⟨u, q3⟩, q4, q5⟩ := hlaw x htm
    have hxn := valid_small q2
    have k5 := TypeOf_ok x (by omega)
    have k6 := TermSame_ok x x (by omega)
    have k7 := TermPrecise_ok x e (by omega) (by omega)
    have k8 := PrecisionOf_ok x (by omega)
    rw [q3] at k5
    simp only [tyRes] at k5
    rw [sameTm_refl] at k6
    rw [q4] at k7
    rw [q5] at k8
    push_cast at k8
    generalize precOfM e = pe at *
    repeat' first | ((first | refine aops_end (hK _ ?_) | refine aopsD_end (hK _ ?_)); clear hK K) | ((first | refine aops_go ?_ | refine aopsD_go ?_); simp [hlt, hgt]; (try simp (disch := omega) only [wrap64]); (try (refine gen fun q hq => ?_; cases q <;> (try simp [hlt, hgt] at hq) <;> (try (have hh : True := hq; clear hh hq))))) | (refine wpcall_pure rfl (k5) ?_; simp [hlt, hgt]; (try simp (disch := omega) only [wrap64]); (try (refine gen fun q hq => ?_; cases q <;> (try simp [hlt, hgt] at hq) <;> (try (have hh : True := hq; clear hh hq))))) | (refine wpcall_pure rfl (k6) ?_; simp [hlt, hgt]; (try simp (disch := omega) only [wrap64]); (try (refine gen fun q hq => ?_; cases q <;> (try simp [hlt, hgt] at hq) <;> (try (have hh : True := hq; clear hh hq))))) | (refine wpcall_pure rfl (k7) ?_; simp [hlt, hgt]; (try simp (disch := omega) only [wrap64]); (try (refine gen fun q hq => ?_; cases q <;> (try simp [hlt, hgt] at hq) <;> (try (have hh : True := hq; clear hh hq))))) | (refine wpcall_pure rfl (k8) ?_; simp [hlt, hgt]; (try simp (disch := omega) only [wrap64]); (try (refine gen fun q hq => ?_; cases q <;> (try simp [hlt, hgt] at hq) <;> (try (have hh : True := hq; clear hh hq))))) | (refine wpcall_pure rfl (kp) ?_; simp [hlt, hgt]; (try simp (disch := omega) only [wrap64]); (try (refine gen fun q hq => ?_; cases q <;> (try simp [hlt, hgt] at hq) <;> (try (have hh : True := hq; clear hh hq))))) | (refine ⟨(p + 1, _), by dsimp only; omega, by dsimp only; omega, rfl, ?_, ?_⟩ <;> simp (disch := omega) [wrap64]) | refine T.rd (id := 12) mixed (fun _ => false) [] (by kernel_rfl) fun K hK => ?_ | refine T.r0 fun K hK => ?_ | refine T.r1 fun K hK => ?_ | refine T.ct rfl ?_ | refine T.cf rfl ?_ | refine T.seq ?_ | refine T.block ?_ | refine T.skip ?_
    all_goals skip
  · have hp' : p = L.length := by omega
    subst hp'
    cases ht : typeInM [] e with
    | none =>
      rw [ht] at k3 k4
      simp only [tyRes, Option.isSome_none, Bool.false_and] at k3 k4
      repeat' first | (refine aops_end (hK _ ?_); clear hK K) | (refine aops_go ?_; simp [hlt]; (try (refine gen fun q hq => ?_; cases q <;> (try simp [hlt] at hq) <;> (try (have hh : True := hq; clear hh hq))))) | (refine wpcall_pure rfl (k3) ?_; simp [hlt]; (try (refine gen fun q hq => ?_; cases q <;> (try simp [hlt] at hq) <;> (try (have hh : True := hq; clear hh hq))))) | (refine wpcall_pure rfl (k4) ?_; simp [hlt]; (try (refine gen fun q hq => ?_; cases q <;> (try simp [hlt] at hq) <;> (try (have hh : True := hq; clear hh hq))))) | (refine T.ret (Done.data (Or.inr rfl) ?_ ?_) <;> simp [Tryz.results7] <;> omega) | refine T.r0 fun K hK => ?_ | refine T.cf rfl ?_ | refine T.seq ?_ | refine T.exit ?_
    | some t =>
      rw [ht] at k3 k4
      by_cases hz : (L.length : Int) = 0
      · simp only [tyRes, Option.isSome_some, Bool.true_and, hz, decide_true] at k3 k4
        have hz2 : L = [] := List.eq_nil_of_length_eq_zero (by omega)
        subst hz2
        repeat' first | (refine aops_end (hK _ ?_); clear hK K) | (refine aops_go ?_; simp [hlt]; (try (refine gen fun q hq => ?_; cases q <;> (try simp [hlt] at hq) <;> (try (have hh : True := hq; clear hh hq))))) | (refine wpcall_pure rfl (k3) ?_; simp [hlt]; (try (refine gen fun q hq => ?_; cases q <;> (try simp [hlt] at hq) <;> (try (have hh : True := hq; clear hh hq))))) | (refine wpcall_pure rfl (k4) ?_; simp [hlt]; (try (refine gen fun q hq => ?_; cases q <;> (try simp [hlt] at hq) <;> (try (have hh : True := hq; clear hh hq))))) | (refine T.ret (Done.data (Or.inr rfl) ?_ ?_) <;> simp [Tryz.results7] <;> omega) | refine T.r0 fun K hK => ?_ | refine T.cf rfl ?_ | refine T.seq ?_ | refine T.exit ?_
      · simp only [tyRes, Option.isSome_some, Bool.true_and, hz, decide_false] at k3 k4
        have hz2 : ¬ L = [] := fun h => hz (by rw [h]; rfl)
        repeat' first | (refine aops_end (hK _ ?_); clear hK K) | (refine aops_go ?_; simp [hlt, hz, hz2]; (try (refine gen fun q hq => ?_; cases q <;> (try simp [hlt, hz, hz2] at hq) <;> (try (have hh : True := hq; clear hh hq))))) | (refine wpcall_pure rfl (k3) ?_; simp [hlt, hz, hz2]; (try (refine gen fun q hq => ?_; cases q <;> (try simp [hlt, hz, hz2] at hq) <;> (try (have hh : True := hq; clear hh hq))))) | (refine wpcall_pure rfl (k4) ?_; simp [hlt, hz, hz2]; (try (refine gen fun q hq => ?_; cases q <;> (try simp [hlt, hz, hz2] at hq) <;> (try (have hh : True := hq; clear hh hq))))) | (refine T.ret (Done.data (Or.inr rfl) ?_ ?_) <;> simp [Tryz.results7] <;> omega) | refine T.r0 fun K hK => ?_ | refine T.cf rfl ?_ | refine T.seq ?_ | refine T.exit ?_
end Go.Proofs.YtfdknjjnifnobaaGreat

namespace Go.Proofs.YtfdknjjnifnobaaGreat
open Go Go.Av
attribute [local irreducible] T ACalls TX EX LX Draws Some_ ACallsX eTy eTm MTy.kind MTy.kids MTm.kind MTm.name MTm.num MTm.ty MTm.fr MTm.label MTm.kids
attribute [local simp] eTy_def eTm_def
set_option maxHeartbeats 16000000
set_option maxRecDepth 8000

theorem lawMigrateTerm_ok (b : List Int) (hb : ∀ n ∈ b, 0 ≤ n ∧ n ≤ 255) : ACalls Tryz.prog 5 [.l (rB b)] [] (.b true) [] [] := by
  by_cases h1 : (1048576 : Int) < b.length
  · refine ACalls.of_body Tryz.func5 (by kernel_rfl) rfl (by kernel_rfl) (by simp [Tryz.ntmps5]) (by simp) ?_
    rw [Tryz.ntmps5]
    repeat' first | (refine aops_end (hK _ ?_); clear hK K) | (refine aops_go ?_; simp [h1, rB_len]; (try (refine gen fun q hq => ?_; cases q <;> (try simp [h1, rB_len] at hq) <;> (try (have hh : True := hq; clear hh hq))))) | (refine T.ret (Done.data (Or.inr rfl) ?_ ?_) <;> simp [Tryz.results5] <;> omega) | refine T.r0 fun K hK => ?_ | refine T.ct rfl ?_ | refine T.seq ?_
  obtain ⟨e, he, d1⟩ := (DrawMigrateTerm_ok b hb).elim
  have k1 := MigrateTerm_ok e (by omega)
  have k2 := MigrateTermS_ok e (by omega)
  have kz := TermSame_ok zeroE zeroE (by simp [nTm_mk, nTmS, nTy_mk, nTyS])
  rw [sameTm_refl] at kz
  simp only [migrateTm] at k1 k2
  cases ht : typeInM [] e with
  | none =>
    rw [ht] at k1 k2
    simp only [Option.isSome_none, Bool.false_eq_true, if_false, tmRes] at k1 k2
    refine ACalls.of_body Tryz.func5 (by kernel_rfl) rfl (by kernel_rfl) (by simp [Tryz.ntmps5]) (by simp) ?_
    rw [Tryz.ntmps5]
    repeat' first | (refine aops_end (hK _ ?_); clear hK K) | (refine aops_go ?_; simp [h1, rB_len]; (try (refine gen fun q hq => ?_; cases q <;> (try simp [h1, rB_len] at hq) <;> (try (have hh : True := hq; clear hh hq))))) | (refine wpcall_pure rfl (d1) ?_; simp [h1, rB_len]; (try (refine gen fun q hq => ?_; cases q <;> (try simp [h1, rB_len] at hq) <;> (try (have hh : True := hq; clear hh hq))))) | (refine wpcall_pure rfl (k1) ?_; simp [h1, rB_len]; (try (refine gen fun q hq => ?_; cases q <;> (try simp [h1, rB_len] at hq) <;> (try (have hh : True := hq; clear hh hq))))) | (refine wpcall_pure rfl (k2) ?_; simp [h1, rB_len]; (try (refine gen fun q hq => ?_; cases q <;> (try simp [h1, rB_len] at hq) <;> (try (have hh : True := hq; clear hh hq))))) | (refine wpcall_pure ?_ (kz) ?_; (focus (solve | simp [h1, rB_len])); simp [h1, rB_len]; (try (refine gen fun q hq => ?_; cases q <;> (try simp [h1, rB_len] at hq) <;> (try (have hh : True := hq; clear hh hq))))) | (refine T.ret (Done.data (Or.inr rfl) ?_ ?_) <;> simp [Tryz.results5] <;> omega) | refine T.r0 fun K hK => ?_ | refine T.ct rfl ?_ | refine T.cf rfl ?_ | refine T.seq ?_ | refine T.skip ?_
  | some t =>
    rw [ht] at k1 k2
    simp only [Option.isSome_some, if_true, tmRes] at k1 k2
    obtain ⟨_, hv, hty, _, htv⟩ := typeIn_some ht
    obtain ⟨g1, g2, g3, g4, g5⟩ := migrate_law hv
    obtain ⟨u, hu⟩ := g5 ⟨t, hty⟩
    have hu2 : typeInM [] (migrateM e) = some u := by rw [typeIn_nil g1, hu]
    have hxn := valid_small g1
    have k3 := TermSame_ok (migrateM e) (migrateM e) (by omega)
    rw [sameTm_refl] at k3
    have k4 := TypeOf_ok e (by omega)
    have k5 := TypeOf_ok (migrateM e) (by omega)
    have k6 := MaximalTerm_ok (migrateM e) (by omega)
    have k7 := TermPrecise_ok (migrateM e) e (by omega) (by omega)
    obtain ⟨t', ht', hp, s1, s2⟩ := gradual_of hu2 g1 hv g3
    rw [ht] at ht'
    cases ht'
    have n1 := shape4 s1
    have n2 := shape4 s2
    have k8 := Precise_ok u t (by omega) (by omega)
    rw [ht] at k4
    rw [hu2] at k5 k6
    rw [g2] at k6
    rw [hv, g1, g3] at k7
    rw [s1, s2, hp] at k8
    simp only [tyRes, Option.isSome_some, List.isEmpty_nil, Bool.and_self] at k4 k5 k6 k7 k8
    generalize migrateM e = x at *
    refine ACalls.of_body Tryz.func5 (by kernel_rfl) rfl (by kernel_rfl) (by simp [Tryz.ntmps5]) (by simp) ?_
    rw [Tryz.ntmps5]
    repeat' first | (refine aops_end (hK _ ?_); clear hK K) | (refine aops_go ?_; simp [h1, rB_len]; (try (refine gen fun q hq => ?_; cases q <;> (try simp [h1, rB_len] at hq) <;> (try (have hh : True := hq; clear hh hq))))) | (refine wpcall_pure rfl (d1) ?_; simp [h1, rB_len]; (try (refine gen fun q hq => ?_; cases q <;> (try simp [h1, rB_len] at hq) <;> (try (have hh : True := hq; clear hh hq))))) | (refine wpcall_pure rfl (k1) ?_; simp [h1, rB_len]; (try (refine gen fun q hq => ?_; cases q <;> (try simp [h1, rB_len] at hq) <;> (try (have hh : True := hq; clear hh hq))))) | (refine wpcall_pure rfl (k2) ?_; simp [h1, rB_len]; (try (refine gen fun q hq => ?_; cases q <;> (try simp [h1, rB_len] at hq) <;> (try (have hh : True := hq; clear hh hq))))) | (refine wpcall_pure rfl (k3) ?_; simp [h1, rB_len]; (try (refine gen fun q hq => ?_; cases q <;> (try simp [h1, rB_len] at hq) <;> (try (have hh : True := hq; clear hh hq))))) | (refine wpcall_pure rfl (k4) ?_; simp [h1, rB_len]; (try (refine gen fun q hq => ?_; cases q <;> (try simp [h1, rB_len] at hq) <;> (try (have hh : True := hq; clear hh hq))))) | (refine wpcall_pure rfl (k5) ?_; simp [h1, rB_len]; (try (refine gen fun q hq => ?_; cases q <;> (try simp [h1, rB_len] at hq) <;> (try (have hh : True := hq; clear hh hq))))) | (refine wpcall_pure rfl (k6) ?_; simp [h1, rB_len]; (try (refine gen fun q hq => ?_; cases q <;> (try simp [h1, rB_len] at hq) <;> (try (have hh : True := hq; clear hh hq))))) | (refine wpcall_pure rfl (k7) ?_; simp [h1, rB_len]; (try (refine gen fun q hq => ?_; cases q <;> (try simp [h1, rB_len] at hq) <;> (try (have hh : True := hq; clear hh hq))))) | (refine wpcall_pure rfl (k8) ?_; simp [h1, rB_len]; (try (refine gen fun q hq => ?_; cases q <;> (try simp [h1, rB_len] at hq) <;> (try (have hh : True := hq; clear hh hq))))) | (refine T.ret (Done.data (Or.inr rfl) ?_ ?_) <;> simp [Tryz.results5] <;> omega) | refine T.r0 fun K hK => ?_ | refine T.cf rfl ?_ | refine T.seq ?_ | refine T.skip ?_
end Go.Proofs.YtfdknjjnifnobaaGreat

namespace Go.Proofs.YtfdknjjnifnobaaGreat
open Go Go.Av
attribute [local irreducible] T ACalls TX EX LX Draws Some_ ACallsX eTy eTm MTy.kind MTy.kids MTm.kind MTm.name MTm.num MTm.ty MTm.fr MTm.label MTm.kids
attribute [local simp] eTy_def eTm_def
set_option maxHeartbeats 16000000
set_option maxRecDepth 8000

theorem lawMigrateTwice_ok (b : List Int) (hb : ∀ n ∈ b, 0 ≤ n ∧ n ≤ 255) : ACalls Tryz.prog 8 [.l (rB b)] [] (.b true) [] [] := by
  by_cases h1 : (1048576 : Int) < b.length
  · refine ACalls.of_body Tryz.func8 (by kernel_rfl) rfl (by kernel_rfl) (by simp [Tryz.ntmps8]) (by simp) ?_
    rw [Tryz.ntmps8]
    repeat' first | (refine aops_end (hK _ ?_); clear hK K) | (refine aops_go ?_; simp [h1, rB_len]; (try (refine gen fun q hq => ?_; cases q <;> (try simp [h1, rB_len] at hq) <;> (try (have hh : True := hq; clear hh hq))))) | (refine T.ret (Done.data (Or.inr rfl) ?_ ?_) <;> simp [Tryz.results8] <;> omega) | refine T.r0 fun K hK => ?_ | refine T.ct rfl ?_ | refine T.seq ?_
  obtain ⟨e, he, d1⟩ := (DrawMigrateTerm_ok b hb).elim
  have k1 := MigrateTerm_ok e (by omega)
  have k2 := MigrateTermS_ok e (by omega)
  have kz := TermSame_ok zeroE zeroE (by simp [nTm_mk, nTmS, nTy_mk, nTyS])
  rw [sameTm_refl] at kz
  simp only [migrateTm] at k1 k2
  cases ht : typeInM [] e with
  | none =>
    rw [ht] at k1 k2
    simp only [Option.isSome_none, Bool.false_eq_true, if_false, tmRes] at k1 k2
    refine ACalls.of_body Tryz.func8 (by kernel_rfl) rfl (by kernel_rfl) (by simp [Tryz.ntmps8]) (by simp) ?_
    rw [Tryz.ntmps8]
    repeat' first | (refine aops_end (hK _ ?_); clear hK K) | (refine aops_go ?_; simp [h1, rB_len]; (try (refine gen fun q hq => ?_; cases q <;> (try simp [h1, rB_len] at hq) <;> (try (have hh : True := hq; clear hh hq))))) | (refine wpcall_pure rfl (d1) ?_; simp [h1, rB_len]; (try (refine gen fun q hq => ?_; cases q <;> (try simp [h1, rB_len] at hq) <;> (try (have hh : True := hq; clear hh hq))))) | (refine wpcall_pure rfl (k1) ?_; simp [h1, rB_len]; (try (refine gen fun q hq => ?_; cases q <;> (try simp [h1, rB_len] at hq) <;> (try (have hh : True := hq; clear hh hq))))) | (refine wpcall_pure rfl (k2) ?_; simp [h1, rB_len]; (try (refine gen fun q hq => ?_; cases q <;> (try simp [h1, rB_len] at hq) <;> (try (have hh : True := hq; clear hh hq))))) | (refine wpcall_pure ?_ (kz) ?_; (focus (solve | simp [h1, rB_len])); simp [h1, rB_len]; (try (refine gen fun q hq => ?_; cases q <;> (try simp [h1, rB_len] at hq) <;> (try (have hh : True := hq; clear hh hq))))) | (refine T.ret (Done.data (Or.inr rfl) ?_ ?_) <;> simp [Tryz.results8] <;> omega) | refine T.r0 fun K hK => ?_ | refine T.ct rfl ?_ | refine T.cf rfl ?_ | refine T.seq ?_ | refine T.skip ?_
  | some t =>
    rw [ht] at k1 k2
    simp only [Option.isSome_some, if_true, tmRes] at k1 k2
    obtain ⟨_, hv, hty, _, htv⟩ := typeIn_some ht
    obtain ⟨g1, g2, g3, g4, g5⟩ := migrate_law hv
    obtain ⟨u, hu⟩ := g5 ⟨t, hty⟩
    have hu2 : typeInM [] (migrateM e) = some u := by rw [typeIn_nil g1, hu]
    have hxn := valid_small g1
    have k3 := TermSame_ok (migrateM e) (migrateM e) (by omega)
    rw [sameTm_refl] at k3
    have k4 := MigrateTerm_ok (migrateM e) (by omega)
    simp only [migrateTm, hu2, Option.isSome_some, if_true, migrate_twice hv, tmRes] at k4
    have k5 := PrecisionOf_ok e (by omega)
    have k6 := PrecisionOf_ok (migrateM e) (by omega)
    simp only [precOfM, hv, g1, if_true] at k5 k6
    have hle : (sumW e : Int) ≤ sumW (migrateM e) := by omega
    generalize sumW e = n1 at *
    generalize sumW (migrateM e) = n2 at *
    generalize migrateM e = x at *
    refine ACalls.of_body Tryz.func8 (by kernel_rfl) rfl (by kernel_rfl) (by simp [Tryz.ntmps8]) (by simp) ?_
    rw [Tryz.ntmps8]
    repeat' first | ((first | refine aops_end (hK _ ?_) | refine aopsD_end (hK _ ?_)); clear hK K) | ((first | refine aops_go ?_ | refine aopsD_go ?_); simp [h1, rB_len, hle]; (try (refine gen fun q hq => ?_; cases q <;> (try simp [h1, rB_len, hle] at hq) <;> (try (have hh : True := hq; clear hh hq))))) | (refine wpcall_pure rfl (d1) ?_; simp [h1, rB_len, hle]; (try (refine gen fun q hq => ?_; cases q <;> (try simp [h1, rB_len, hle] at hq) <;> (try (have hh : True := hq; clear hh hq))))) | (refine wpcall_pure rfl (k1) ?_; simp [h1, rB_len, hle]; (try (refine gen fun q hq => ?_; cases q <;> (try simp [h1, rB_len, hle] at hq) <;> (try (have hh : True := hq; clear hh hq))))) | (refine wpcall_pure rfl (k2) ?_; simp [h1, rB_len, hle]; (try (refine gen fun q hq => ?_; cases q <;> (try simp [h1, rB_len, hle] at hq) <;> (try (have hh : True := hq; clear hh hq))))) | (refine wpcall_pure rfl (k3) ?_; simp [h1, rB_len, hle]; (try (refine gen fun q hq => ?_; cases q <;> (try simp [h1, rB_len, hle] at hq) <;> (try (have hh : True := hq; clear hh hq))))) | (refine wpcall_pure rfl (k4) ?_; simp [h1, rB_len, hle]; (try (refine gen fun q hq => ?_; cases q <;> (try simp [h1, rB_len, hle] at hq) <;> (try (have hh : True := hq; clear hh hq))))) | (refine wpcall_pure rfl (k5) ?_; simp [h1, rB_len, hle]; (try (refine gen fun q hq => ?_; cases q <;> (try simp [h1, rB_len, hle] at hq) <;> (try (have hh : True := hq; clear hh hq))))) | (refine wpcall_pure rfl (k6) ?_; simp [h1, rB_len, hle]; (try (refine gen fun q hq => ?_; cases q <;> (try simp [h1, rB_len, hle] at hq) <;> (try (have hh : True := hq; clear hh hq))))) | (refine T.ret (Done.data (Or.inr rfl) ?_ ?_) <;> simp [Tryz.results8] <;> omega) | refine T.rd (id := 9) mixed (fun _ => false) [] (by kernel_rfl) fun K hK => ?_ | refine T.r0 fun K hK => ?_ | refine T.cf rfl ?_ | refine T.seq ?_ | refine T.skip ?_
end Go.Proofs.YtfdknjjnifnobaaGreat

namespace Go.Proofs.YtfdknjjnifnobaaGreat
open Go Go.Av
attribute [local irreducible] T ACalls TX EX LX Draws Some_ ACallsX eTy eTm MTy.kind MTy.kids MTm.kind MTm.name MTm.num MTm.ty MTm.fr MTm.label MTm.kids
attribute [local simp] eTy_def eTm_def
set_option maxHeartbeats 16000000
set_option maxRecDepth 8000

end Go.Proofs.YtfdknjjnifnobaaGreat

namespace Go.Proofs.YtfdknjjnifnobaaGreat
open Go Go.Av
attribute [local irreducible] T ACalls TX EX LX Draws Some_ ACallsX eTy eTm MTy.kind MTy.kids MTm.kind MTm.name MTm.num MTm.ty MTm.fr MTm.label MTm.kids
attribute [local simp] eTy_def eTm_def
set_option maxHeartbeats 16000000
set_option maxRecDepth 8000

theorem maxM_static {e : MTm} (h : staticM e = true) : (refineM e).isEmpty = true := by
  simp only [staticM, Bool.and_eq_true] at h
  rw [refine_static]
  · rfl
  · intro u hu
    have h2 := h.2
    simp only [Bool.not_eq_true', List.any_eq_false, decide_eq_true_eq] at h2
    have := h2 u hu
    omega

theorem lawMaximalStatic_ok (b : List Int) (hb : ∀ n ∈ b, 0 ≤ n ∧ n ≤ 255) : ACalls Tryz.prog 4 [.l (rB b)] [] (.b true) [] [] := by
  by_cases h1 : (1048576 : Int) < b.length
  · refine ACalls.of_body Tryz.func4 (by kernel_rfl) rfl (by kernel_rfl) (by simp [Tryz.ntmps4]) (by simp) ?_
    rw [Tryz.ntmps4]
    repeat' first | (refine aops_end (hK _ ?_); clear hK K) | (refine aops_go ?_; simp [h1, rB_len]; (try (refine gen fun q hq => ?_; cases q <;> (try simp [h1, rB_len] at hq) <;> (try (have hh : True := hq; clear hh hq))))) | (refine T.ret (Done.data (Or.inr rfl) ?_ ?_) <;> simp [Tryz.results4] <;> omega) | refine T.r0 fun K hK => ?_ | refine T.ct rfl ?_ | refine T.seq ?_
  obtain ⟨e, he, d1⟩ := (DrawMaximalTerm_ok b hb).elim
  have k1 := MaximalTerm_ok e (by omega)
  have k2 := MaximalTermS_ok e (by omega)
  rw [maxM_spec] at k2
  have k3 := TypeOf_ok e (by omega)
  have k4 := StaticTerm_ok e (by omega)
  have hst := fun h => maxM_static (e := e) h
  cases ht : typeInM [] e with
  | none =>
    rw [ht] at k1 k2 k3
    simp only [tyRes, Option.isSome_none, Bool.false_and] at k1 k2 k3
    refine ACalls.of_body Tryz.func4 (by kernel_rfl) rfl (by kernel_rfl) (by simp [Tryz.ntmps4]) (by simp) ?_
    rw [Tryz.ntmps4]
    repeat' first | (refine aops_end (hK _ ?_); clear hK K) | (refine aops_go ?_; simp [h1, rB_len]; (try (refine gen fun q hq => ?_; cases q <;> (try simp [h1, rB_len] at hq) <;> (try (have hh : True := hq; clear hh hq))))) | (refine wpcall_pure rfl (d1) ?_; simp [h1, rB_len]; (try (refine gen fun q hq => ?_; cases q <;> (try simp [h1, rB_len] at hq) <;> (try (have hh : True := hq; clear hh hq))))) | (refine wpcall_pure rfl (k1) ?_; simp [h1, rB_len]; (try (refine gen fun q hq => ?_; cases q <;> (try simp [h1, rB_len] at hq) <;> (try (have hh : True := hq; clear hh hq))))) | (refine wpcall_pure rfl (k2) ?_; simp [h1, rB_len]; (try (refine gen fun q hq => ?_; cases q <;> (try simp [h1, rB_len] at hq) <;> (try (have hh : True := hq; clear hh hq))))) | (refine wpcall_pure rfl (k3) ?_; simp [h1, rB_len]; (try (refine gen fun q hq => ?_; cases q <;> (try simp [h1, rB_len] at hq) <;> (try (have hh : True := hq; clear hh hq))))) | (refine T.ret (Done.data (Or.inr rfl) ?_ ?_) <;> simp [Tryz.results4] <;> omega) | refine T.r0 fun K hK => ?_ | refine T.cf rfl ?_ | refine T.seq ?_ | refine T.skip ?_
  | some t =>
    rw [ht] at k1 k2 k3
    simp only [tyRes, Option.isSome_some, Bool.true_and] at k1 k2 k3
    cases hs : staticM e with
    | true =>
      rw [hst hs] at k1 k2
      rw [hs] at k4
      refine ACalls.of_body Tryz.func4 (by kernel_rfl) rfl (by kernel_rfl) (by simp [Tryz.ntmps4]) (by simp) ?_
      rw [Tryz.ntmps4]
      repeat' first | (refine aops_end (hK _ ?_); clear hK K) | (refine aops_go ?_; simp [h1, rB_len]; (try (refine gen fun q hq => ?_; cases q <;> (try simp [h1, rB_len] at hq) <;> (try (have hh : True := hq; clear hh hq))))) | (refine wpcall_pure rfl (d1) ?_; simp [h1, rB_len]; (try (refine gen fun q hq => ?_; cases q <;> (try simp [h1, rB_len] at hq) <;> (try (have hh : True := hq; clear hh hq))))) | (refine wpcall_pure rfl (k1) ?_; simp [h1, rB_len]; (try (refine gen fun q hq => ?_; cases q <;> (try simp [h1, rB_len] at hq) <;> (try (have hh : True := hq; clear hh hq))))) | (refine wpcall_pure rfl (k2) ?_; simp [h1, rB_len]; (try (refine gen fun q hq => ?_; cases q <;> (try simp [h1, rB_len] at hq) <;> (try (have hh : True := hq; clear hh hq))))) | (refine wpcall_pure rfl (k3) ?_; simp [h1, rB_len]; (try (refine gen fun q hq => ?_; cases q <;> (try simp [h1, rB_len] at hq) <;> (try (have hh : True := hq; clear hh hq))))) | (refine wpcall_pure rfl (k4) ?_; simp [h1, rB_len]; (try (refine gen fun q hq => ?_; cases q <;> (try simp [h1, rB_len] at hq) <;> (try (have hh : True := hq; clear hh hq))))) | (refine T.ret (Done.data (Or.inr rfl) ?_ ?_) <;> simp [Tryz.results4] <;> omega) | refine T.r0 fun K hK => ?_ | refine T.cf rfl ?_ | refine T.seq ?_ | refine T.skip ?_
    | false =>
      rw [hs] at k4
      generalize (refineM e).isEmpty = z at *
      cases z
      · refine ACalls.of_body Tryz.func4 (by kernel_rfl) rfl (by kernel_rfl) (by simp [Tryz.ntmps4]) (by simp) ?_
        rw [Tryz.ntmps4]
        repeat' first | (refine aops_end (hK _ ?_); clear hK K) | (refine aops_go ?_; simp [h1, rB_len]; (try (refine gen fun q hq => ?_; cases q <;> (try simp [h1, rB_len] at hq) <;> (try (have hh : True := hq; clear hh hq))))) | (refine wpcall_pure rfl (d1) ?_; simp [h1, rB_len]; (try (refine gen fun q hq => ?_; cases q <;> (try simp [h1, rB_len] at hq) <;> (try (have hh : True := hq; clear hh hq))))) | (refine wpcall_pure rfl (k1) ?_; simp [h1, rB_len]; (try (refine gen fun q hq => ?_; cases q <;> (try simp [h1, rB_len] at hq) <;> (try (have hh : True := hq; clear hh hq))))) | (refine wpcall_pure rfl (k2) ?_; simp [h1, rB_len]; (try (refine gen fun q hq => ?_; cases q <;> (try simp [h1, rB_len] at hq) <;> (try (have hh : True := hq; clear hh hq))))) | (refine wpcall_pure rfl (k3) ?_; simp [h1, rB_len]; (try (refine gen fun q hq => ?_; cases q <;> (try simp [h1, rB_len] at hq) <;> (try (have hh : True := hq; clear hh hq))))) | (refine wpcall_pure rfl (k4) ?_; simp [h1, rB_len]; (try (refine gen fun q hq => ?_; cases q <;> (try simp [h1, rB_len] at hq) <;> (try (have hh : True := hq; clear hh hq))))) | (refine T.ret (Done.data (Or.inr rfl) ?_ ?_) <;> simp [Tryz.results4] <;> omega) | refine T.r0 fun K hK => ?_ | refine T.cf rfl ?_ | refine T.seq ?_ | refine T.skip ?_
      · refine ACalls.of_body Tryz.func4 (by kernel_rfl) rfl (by kernel_rfl) (by simp [Tryz.ntmps4]) (by simp) ?_
        rw [Tryz.ntmps4]
        repeat' first | (refine aops_end (hK _ ?_); clear hK K) | (refine aops_go ?_; simp [h1, rB_len]; (try (refine gen fun q hq => ?_; cases q <;> (try simp [h1, rB_len] at hq) <;> (try (have hh : True := hq; clear hh hq))))) | (refine wpcall_pure rfl (d1) ?_; simp [h1, rB_len]; (try (refine gen fun q hq => ?_; cases q <;> (try simp [h1, rB_len] at hq) <;> (try (have hh : True := hq; clear hh hq))))) | (refine wpcall_pure rfl (k1) ?_; simp [h1, rB_len]; (try (refine gen fun q hq => ?_; cases q <;> (try simp [h1, rB_len] at hq) <;> (try (have hh : True := hq; clear hh hq))))) | (refine wpcall_pure rfl (k2) ?_; simp [h1, rB_len]; (try (refine gen fun q hq => ?_; cases q <;> (try simp [h1, rB_len] at hq) <;> (try (have hh : True := hq; clear hh hq))))) | (refine wpcall_pure rfl (k3) ?_; simp [h1, rB_len]; (try (refine gen fun q hq => ?_; cases q <;> (try simp [h1, rB_len] at hq) <;> (try (have hh : True := hq; clear hh hq))))) | (refine wpcall_pure rfl (k4) ?_; simp [h1, rB_len]; (try (refine gen fun q hq => ?_; cases q <;> (try simp [h1, rB_len] at hq) <;> (try (have hh : True := hq; clear hh hq))))) | (refine T.ret (Done.data (Or.inr rfl) ?_ ?_) <;> simp [Tryz.results4] <;> omega) | refine T.r0 fun K hK => ?_ | refine T.cf rfl ?_ | refine T.seq ?_ | refine T.skip ?_
end Go.Proofs.YtfdknjjnifnobaaGreat
