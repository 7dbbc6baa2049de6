/- A part of the library of this seat: a value-semantic program logic over the model, plain models, and walks of functions. -/
import Derived.Test.YtfdknjjnifnobaaGreatE13
set_option linter.unusedVariables false
set_option linter.unusedSimpArgs false
namespace Go.Proofs.YtfdknjjnifnobaaGreat
open Go Go.Av
attribute [local irreducible] T ACalls TX EX LX Draws Some_ ACallsX eTy eTm MTy.kind MTy.kids MTm.kind MTm.name MTm.num MTm.ty MTm.fr MTm.label MTm.kids
attribute [local simp] eTy_def eTm_def
set_option linter.unusedSimpArgs false
set_option linter.unusedVariables false
set_option maxHeartbeats 16000000
set_option maxRecDepth 8000

@[simp] theorem td_set26 : td Tryz.prog 107 = some { ag := true, sz := 26, by_ := 26, zero := some (rowB noB), el := none, ar := some (26, 4), fl := [], ik := none, isS := false, isB := false } := keep (by kernel_rfl)

theorem subst_nm (e v : MTm) (x : List UInt8) (hx : ¬ e.name = x) (hn : e.kids.length ≤ 1099511627776)
    (ih : ∀ u ∈ e.kids, ACalls Tryz.prog 206 [aTm u, .s x, aTm v] [] (aTm (substM x v u)) [] []) :
    ACalls Tryz.prog 206 [aTm e, .s x, aTm v] [] (aTm (.mk e.kind e.name e.num e.ty e.fr e.label (e.kids.map (substM x v)))) [] [] := by
  refine ACalls.of_body Tryz.func206 (by kernel_rfl) rfl (by kernel_rfl) (by simp [Tryz.ntmps206]) (by simp) ?_
  rw [Tryz.ntmps206]
  repeat' first
    | ((first | refine aops_end (hK _ ?_)); clear hK K)
    | ((first | refine aops_go ?_); simp [hx]; (try (refine gen fun q hq => ?_; cases q <;> (try simp [hx] at hq) <;> (try (have hh : True := hq; clear hh hq)))))
    | refine T.rs (fun _ => false) fun K hK => ?_
    | refine T.cond rfl (fun hcnd => absurd hcnd (by decide)) (fun hcnd => ?_)
    | refine T.seq ?_
    | refine T.block ?_
    | refine T.skip ?_
  all_goals refine T.ownifyObj 3 8 9 28 rfl rfl ?_
  all_goals refine T.loopK (α := Nat × List (List CV)) [1, 5, 6, 7, 35, 36] (fun x => [(37, .i x.1)]) (fun x => [(3, [.d (.i e.kind), .d (.str e.name), .d (.i e.num), .d (.i e.ty.kind), .d (.sl (e.ty.kids.map eTy)), .d (.i e.fr.kind), .d (.sl (e.fr.kids.map eTy)), .d (.i e.label), .own 0 x.1])]) (fun x => x.2) (fun y _ => [{ sz := 9, ety := 28, rows := ((e.kids.map (substM x v)).take y.1).map eTm, wr := true }]) (fun x => e.kids.length + 1 - x.1) (fun x => x.1 ≤ e.kids.length) (by simp; rfl) (fun y hy => ?_) (0, []) (by simp) (by simp) (by simp) (by simp)
  all_goals
    obtain ⟨p, G⟩ := y
    dsimp only at hy ⊢
    simp only [ups, List.set_cons_zero, List.set_cons_succ, List.cons_append, List.nil_append]
    have hwl : (e.kids.map (substM x v)).length = e.kids.length := by simp
    by_cases hlt : p < e.kids.length
    · obtain ⟨u, ht⟩ := get_lt hlt
      have htm : u ∈ e.kids := List.mem_of_getElem? ht
      have hgt : e.kids[p] = u := by rw [List.getElem?_eq_getElem hlt] at ht; exact Option.some.inj ht
      have hdr : e.kids.drop p = u :: e.kids.drop (p + 1) := by rw [List.drop_eq_getElem_cons hlt, hgt]
      have hu := ih u htm
      have htk : (e.kids.map (substM x v)).take (p + 1) = (e.kids.map (substM x v)).take p ++ [substM x v u] := by rw [List.take_add_one, List.getElem?_map, ht]; rfl
      have hlm : min p e.kids.length = p := by omega
      generalize (e.kids.map (substM x v)) = Z at *
      generalize substM x v u = wu at *
      repeat' first
        | ((first | refine aops_end (hK _ ?_) | refine aopsD_end (hK _ ?_)); clear hK K)
        | ((first | refine aops_go ?_ | refine aopsD_go ?_); simp [hlt, hgt, hlm, hwl]; (try simp (disch := omega) only [wrap64]); (try (refine gen fun q hq => ?_; cases q <;> (try simp [hlt, hgt, hlm, hwl] at hq) <;> (try (have hh : True := hq; clear hh hq)))))
        | (refine wpcall_pure rfl (hu) ?_; simp [hlt, hgt, hlm, hwl]; (try simp (disch := omega) only [wrap64]); (try (refine gen fun q hq => ?_; cases q <;> (try simp [hlt, hgt, hlm, hwl] at hq) <;> (try (have hh : True := hq; clear hh hq)))))
        | (refine ⟨(p + 1, _), by dsimp only; omega, by dsimp only; omega, rfl, ?_, ?_⟩ <;> simp (disch := omega) [wrap64, htk, eTm_def])
        | refine T.rd1 (id := 10) mixed (fun _ => false) [7, 9] (by kernel_rfl) fun K hK => ?_
        | refine T.rs (fun _ => false) fun K hK => ?_
        | refine T.rs1 (fun _ => false) fun K hK => ?_
        | (refine ⟨by omega, ?_⟩)
        | refine T.cond rfl (fun hcnd => ?_) (fun hcnd => absurd hcnd (by decide))
        | refine T.seq ?_
        | refine T.block ?_
        | refine T.skip ?_
    · have hp' : p = e.kids.length := by omega
      subst hp'
      rw [List.take_of_length_le (by omega)]
      generalize (e.kids.map (substM x v)) = Z at *
      repeat' first
        | ((first | refine aops_end (hK _ ?_)); clear hK K)
        | ((first | refine aops_go ?_); simp [hlt, hwl]; (try (refine gen fun q hq => ?_; cases q <;> (try simp [hlt, hwl] at hq) <;> (try (have hh : True := hq; clear hh hq)))))
        | (refine T.ret (Done.val (Or.inr rfl) ?_) <;> simp [resAs, Tryz.results206, eTm_def, hwl] <;> omega)
        | refine T.rs (fun _ => false) fun K hK => ?_
        | refine T.cond rfl (fun hcnd => absurd hcnd (by decide)) (fun hcnd => ?_)
        | refine T.seq ?_
        | refine T.exit ?_

theorem subst_kd (e v : MTm) (x : List UInt8) (h1 : ¬ e.kind = 1) (h5 : ¬ e.kind = 5) (hn : e.kids.length ≤ 1099511627776)
    (ih : ∀ u ∈ e.kids, ACalls Tryz.prog 206 [aTm u, .s x, aTm v] [] (aTm (substM x v u)) [] []) :
    ACalls Tryz.prog 206 [aTm e, .s x, aTm v] [] (aTm (.mk e.kind e.name e.num e.ty e.fr e.label (e.kids.map (substM x v)))) [] [] := by
  refine ACalls.of_body Tryz.func206 (by kernel_rfl) rfl (by kernel_rfl) (by simp [Tryz.ntmps206]) (by simp) ?_
  rw [Tryz.ntmps206]
  repeat' first
    | ((first | refine aops_end (hK _ ?_)); clear hK K)
    | ((first | refine aops_go ?_); simp [h1, h5]; (try (refine gen fun q hq => ?_; cases q <;> (try simp [h1, h5] at hq) <;> (try (have hh : True := hq; clear hh hq)))))
    | refine T.rs (fun _ => false) fun K hK => ?_
    | refine T.cond rfl (fun hcnd => absurd hcnd (by decide)) (fun hcnd => ?_)
    | refine T.seq ?_
    | refine T.block ?_
    | refine T.skip ?_
  all_goals refine T.ownifyObj 3 8 9 28 rfl rfl ?_
  all_goals refine T.loopK (α := Nat × List (List CV)) [1, 5, 6, 7, 35, 36] (fun x => [(37, .i x.1)]) (fun x => [(3, [.d (.i e.kind), .d (.str e.name), .d (.i e.num), .d (.i e.ty.kind), .d (.sl (e.ty.kids.map eTy)), .d (.i e.fr.kind), .d (.sl (e.fr.kids.map eTy)), .d (.i e.label), .own 0 x.1])]) (fun x => x.2) (fun y _ => [{ sz := 9, ety := 28, rows := ((e.kids.map (substM x v)).take y.1).map eTm, wr := true }]) (fun x => e.kids.length + 1 - x.1) (fun x => x.1 ≤ e.kids.length) (by simp; rfl) (fun y hy => ?_) (0, []) (by simp) (by simp) (by simp) (by simp)
  all_goals
    obtain ⟨p, G⟩ := y
    dsimp only at hy ⊢
    simp only [ups, List.set_cons_zero, List.set_cons_succ, List.cons_append, List.nil_append]
    have hwl : (e.kids.map (substM x v)).length = e.kids.length := by simp
    by_cases hlt : p < e.kids.length
    · obtain ⟨u, ht⟩ := get_lt hlt
      have htm : u ∈ e.kids := List.mem_of_getElem? ht
      have hgt : e.kids[p] = u := by rw [List.getElem?_eq_getElem hlt] at ht; exact Option.some.inj ht
      have hdr : e.kids.drop p = u :: e.kids.drop (p + 1) := by rw [List.drop_eq_getElem_cons hlt, hgt]
      have hu := ih u htm
      have htk : (e.kids.map (substM x v)).take (p + 1) = (e.kids.map (substM x v)).take p ++ [substM x v u] := by rw [List.take_add_one, List.getElem?_map, ht]; rfl
      have hlm : min p e.kids.length = p := by omega
      generalize (e.kids.map (substM x v)) = Z at *
      generalize substM x v u = wu at *
      repeat' first
        | ((first | refine aops_end (hK _ ?_) | refine aopsD_end (hK _ ?_)); clear hK K)
        | ((first | refine aops_go ?_ | refine aopsD_go ?_); simp [hlt, hgt, hlm, hwl]; (try simp (disch := omega) only [wrap64]); (try (refine gen fun q hq => ?_; cases q <;> (try simp [hlt, hgt, hlm, hwl] at hq) <;> (try (have hh : True := hq; clear hh hq)))))
        | (refine wpcall_pure rfl (hu) ?_; simp [hlt, hgt, hlm, hwl]; (try simp (disch := omega) only [wrap64]); (try (refine gen fun q hq => ?_; cases q <;> (try simp [hlt, hgt, hlm, hwl] at hq) <;> (try (have hh : True := hq; clear hh hq)))))
        | (refine ⟨(p + 1, _), by dsimp only; omega, by dsimp only; omega, rfl, ?_, ?_⟩ <;> simp (disch := omega) [wrap64, htk, eTm_def])
        | refine T.rd1 (id := 10) mixed (fun _ => false) [7, 9] (by kernel_rfl) fun K hK => ?_
        | refine T.rs (fun _ => false) fun K hK => ?_
        | refine T.rs1 (fun _ => false) fun K hK => ?_
        | (refine ⟨by omega, ?_⟩)
        | refine T.cond rfl (fun hcnd => ?_) (fun hcnd => absurd hcnd (by decide))
        | refine T.seq ?_
        | refine T.block ?_
        | refine T.skip ?_
    · have hp' : p = e.kids.length := by omega
      subst hp'
      rw [List.take_of_length_le (by omega)]
      generalize (e.kids.map (substM x v)) = Z at *
      repeat' first
        | ((first | refine aops_end (hK _ ?_)); clear hK K)
        | ((first | refine aops_go ?_); simp [hlt, hwl]; (try (refine gen fun q hq => ?_; cases q <;> (try simp [hlt, hwl] at hq) <;> (try (have hh : True := hq; clear hh hq)))))
        | (refine T.ret (Done.val (Or.inr rfl) ?_) <;> simp [resAs, Tryz.results206, eTm_def, hwl] <;> omega)
        | refine T.rs (fun _ => false) fun K hK => ?_
        | refine T.cond rfl (fun hcnd => absurd hcnd (by decide)) (fun hcnd => ?_)
        | refine T.seq ?_
        | refine T.exit ?_

theorem subst_ok (v : MTm) (x : List UInt8) : ∀ (e : MTm), nTm e ≤ 1099511627776 → ACalls Tryz.prog 206 [aTm e, .s x, aTm v] [] (aTm (substM x v e)) [] [] := by
  intro e
  induction e using MTm.ind with
  | h e ih =>
    intro hn
    obtain ⟨_, _, hnk, hnu⟩ := nTm_parts hn
    have ih' := fun u hu => ih u hu (hnu u hu)
    rw [substM_def]
    by_cases hx : e.name = x
    · by_cases h1 : e.kind = 1
      · simp only [h1, hx, and_self, if_true]
        refine ACalls.of_body Tryz.func206 (by kernel_rfl) rfl (by kernel_rfl) (by simp [Tryz.ntmps206]) (by simp) ?_
        rw [Tryz.ntmps206]
        repeat' first
          | ((first | refine aops_end (hK _ ?_)); clear hK K)
          | ((first | refine aops_go ?_); simp [h1, hx]; (try (refine gen fun q hq => ?_; cases q <;> (try simp [h1, hx] at hq) <;> (try (have hh : True := hq; clear hh hq)))))
          | (refine T.ret (Done.val (Or.inr rfl) ?_) <;> simp [resAs, Tryz.results206] <;> omega)
          | refine T.rs (fun _ => false) fun K hK => ?_
          | refine T.cond rfl (fun hcnd => ?_) (fun hcnd => absurd hcnd (by decide))
          | refine T.seq ?_
          | refine T.block ?_
      · by_cases h5 : e.kind = 5
        · rw [if_neg (by simp [h1]), if_pos ⟨h5, hx⟩]
          refine ACalls.of_body Tryz.func206 (by kernel_rfl) rfl (by kernel_rfl) (by simp [Tryz.ntmps206]) (by simp) ?_
          rw [Tryz.ntmps206]
          repeat' first
            | ((first | refine aops_end (hK _ ?_)); clear hK K)
            | ((first | refine aops_go ?_); simp [h1, h5, hx]; (try (refine gen fun q hq => ?_; cases q <;> (try simp [h1, h5, hx] at hq) <;> (try (have hh : True := hq; clear hh hq)))))
            | (refine T.ret (Done.val (Or.inr rfl) ?_) <;> simp [resAs, Tryz.results206, h5, hx] <;> omega)
            | refine T.rs (fun _ => false) fun K hK => ?_
            | refine T.cond rfl (fun hcnd => ?_) (fun hcnd => absurd hcnd (by decide))
            | refine T.cond rfl (fun hcnd => absurd hcnd (by decide)) (fun hcnd => ?_)
            | refine T.seq ?_
            | refine T.block ?_
        · rw [if_neg (by simp [h1]), if_neg (by simp [h5])]
          exact subst_kd e v x h1 h5 hnk ih'
    · rw [if_neg (by simp [hx]), if_neg (by simp [hx])]
      exact subst_nm e v x hx hnk ih'

end Go.Proofs.YtfdknjjnifnobaaGreat

namespace Go.Proofs.YtfdknjjnifnobaaGreat
open Go Go.Av
attribute [local irreducible] T ACalls TX EX LX Draws Some_ ACallsX eTy eTm MTy.kind MTy.kids MTm.kind MTm.name MTm.num MTm.ty MTm.fr MTm.label MTm.kids
attribute [local simp] eTy_def eTm_def
set_option linter.unusedSimpArgs false
set_option linter.unusedVariables false
set_option maxHeartbeats 16000000
set_option maxRecDepth 8000
attribute [local simp] Option.bind

theorem cloneTm_own (l : List MTm) (hl : l.length ≤ 1073741824) : ACalls Tryz.prog 172 [.l (l.map eTm)] [] (.c (.own 0 l.length)) [] [{ sz := 9, ety := 28, rows := l.map eTm, wr := true }] := by
  refine ACalls.of_body Tryz.func172 (by kernel_rfl) rfl (by kernel_rfl) (by simp [Tryz.ntmps172]) (by simp) ?_
  rw [Tryz.ntmps172]
  refine T.rs (fun _ => false) fun K hK => ?_
  refine aops_go ?_
  simp
  refine aops_end (hK _ ?_)
  clear hK K
  refine T.seq ?_
  refine T.eqNil rfl rfl rfl rfl rfl rfl td_implTermS rfl (by simp; rfl) fun bb hbb => ?_
  cases bb
  · repeat' first
      | ((first | refine aops_end (hK _ ?_) | refine aopsD_end (hK _ ?_) | refine aopsF_end (hK _ ?_)); clear hK K)
      | ((first | refine aops_go ?_ | refine aopsD_go ?_ | refine aopsF_go ?_); simp [eTm_def]; (try (refine gen fun q hq => ?_; cases q <;> (try simp [eTm_def] at hq) <;> (try (have hh : True := hq; clear hh hq)))))
      | (refine ⟨by omega, by omega, ?_⟩)
      | refine T.rs (id := 3) (fun i => i == 0) fun K hK => ?_
      | refine T.rs1 (id := 3) (fun i => i == 0) fun K hK => ?_
      | refine T.rs (id := 0) (fun _ => false) fun K hK => ?_
      | refine T.rs1 (id := 0) (fun _ => false) fun K hK => ?_
      | refine T.rs (id := 1) (fun _ => false) fun K hK => ?_
      | refine T.rs1 (id := 1) (fun _ => false) fun K hK => ?_
      | refine T.rs (id := 2) (fun _ => false) fun K hK => ?_
      | refine T.rs1 (id := 2) (fun _ => false) fun K hK => ?_
      | (refine ⟨by omega, ?_⟩)
      | refine T.cond rfl (fun hcnd => ?_) (fun hcnd => absurd hcnd (by decide))
      | refine T.cond rfl (fun hcnd => absurd hcnd (by decide)) (fun hcnd => ?_)
      | refine T.seq ?_
      | refine T.block ?_
      | refine T.skip ?_
      | refine T.exit ?_
    refine T.ret (Done.own1 0 (Or.inr rfl) (ys := [_]) ?_ rfl ?_) <;> simp [resAs, Tryz.results172, eTm_def] <;> rfl
  · have : l = [] := by simpa using hbb rfl
    subst this
    refine T.cond rfl (fun hcnd => ?_) (fun hcnd => absurd hcnd (by decide))
    refine T.rs (fun _ => false) fun K hK => ?_
    refine aops_go ?_
    simp
    refine aops_end (hK _ ?_)
    clear hK K
    refine T.ownify 2 9 28 (by simp) ?_
    refine T.ret (Done.own1 0 (Or.inr rfl) (ys := [_]) ?_ rfl ?_) <;> simp [resAs, Tryz.results172]

theorem ground_ok (k : Int) : ACalls Tryz.prog 235 [.i k] [] (aTy (groundT k)) [] [] := by
  have h1 := base_ok 1
  by_cases h4 : k = 4
  · subst h4
    rw [show groundT 4 = .mk 4 [anyT, anyT] from rfl]
    have h2 := both_ok 4 anyT anyT
    refine ACalls.of_body Tryz.func235 (by kernel_rfl) rfl (by kernel_rfl) (by simp [Tryz.ntmps235]) (by simp) ?_
    rw [Tryz.ntmps235]
    repeat' first
      | ((first | refine aops_end (hK _ ?_) | refine aopsD_end (hK _ ?_) | refine aopsF_end (hK _ ?_)); clear hK K)
      | ((first | refine aops_go ?_ | refine aopsD_go ?_ | refine aopsF_go ?_); simp; (try (refine gen fun q hq => ?_; cases q <;> (try simp at hq) <;> (try (have hh : True := hq; clear hh hq)))))
      | (refine wpcall_pure rfl (h1) ?_; simp; (try (refine gen fun q hq => ?_; cases q <;> (try simp at hq) <;> (try (have hh : True := hq; clear hh hq)))))
      | (refine wpcall_pure ?_ (h2) ?_; (focus (solve | simp)); simp; (try (refine gen fun q hq => ?_; cases q <;> (try simp at hq) <;> (try (have hh : True := hq; clear hh hq)))))
      | (refine T.ret (Done.val (Or.inr rfl) ?_) <;> simp [resAs, Tryz.results235] <;> omega)
      | refine T.rs (fun _ => false) fun K hK => ?_
      | refine T.rs1 (fun _ => false) fun K hK => ?_
      | (refine ⟨by omega, ?_⟩)
      | refine T.cond rfl (fun hcnd => ?_) (fun hcnd => absurd hcnd (by decide))
      | refine T.cond rfl (fun hcnd => absurd hcnd (by decide)) (fun hcnd => ?_)
      | refine T.seq ?_
      | refine T.block ?_
      | refine T.skip ?_
      | refine T.exit ?_
  by_cases h5 : k = 5
  · subst h5
    rw [show groundT 5 = .mk 5 [anyT, anyT] from rfl]
    have h2 := both_ok 5 anyT anyT
    refine ACalls.of_body Tryz.func235 (by kernel_rfl) rfl (by kernel_rfl) (by simp [Tryz.ntmps235]) (by simp) ?_
    rw [Tryz.ntmps235]
    repeat' first
      | ((first | refine aops_end (hK _ ?_) | refine aopsD_end (hK _ ?_) | refine aopsF_end (hK _ ?_)); clear hK K)
      | ((first | refine aops_go ?_ | refine aopsD_go ?_ | refine aopsF_go ?_); simp; (try (refine gen fun q hq => ?_; cases q <;> (try simp at hq) <;> (try (have hh : True := hq; clear hh hq)))))
      | (refine wpcall_pure rfl (h1) ?_; simp; (try (refine gen fun q hq => ?_; cases q <;> (try simp at hq) <;> (try (have hh : True := hq; clear hh hq)))))
      | (refine wpcall_pure ?_ (h2) ?_; (focus (solve | simp)); simp; (try (refine gen fun q hq => ?_; cases q <;> (try simp at hq) <;> (try (have hh : True := hq; clear hh hq)))))
      | (refine T.ret (Done.val (Or.inr rfl) ?_) <;> simp [resAs, Tryz.results235] <;> omega)
      | refine T.rs (fun _ => false) fun K hK => ?_
      | refine T.rs1 (fun _ => false) fun K hK => ?_
      | (refine ⟨by omega, ?_⟩)
      | refine T.cond rfl (fun hcnd => ?_) (fun hcnd => absurd hcnd (by decide))
      | refine T.cond rfl (fun hcnd => absurd hcnd (by decide)) (fun hcnd => ?_)
      | refine T.seq ?_
      | refine T.block ?_
      | refine T.skip ?_
      | refine T.exit ?_
  · rw [show groundT k = .mk k [] by simp [groundT, h4, h5]]
    have h3 := base_ok k
    refine ACalls.of_body Tryz.func235 (by kernel_rfl) rfl (by kernel_rfl) (by simp [Tryz.ntmps235]) (by simp) ?_
    rw [Tryz.ntmps235]
    repeat' first
      | ((first | refine aops_end (hK _ ?_) | refine aopsD_end (hK _ ?_) | refine aopsF_end (hK _ ?_)); clear hK K)
      | ((first | refine aops_go ?_ | refine aopsD_go ?_ | refine aopsF_go ?_); simp [h4, h5]; (try (refine gen fun q hq => ?_; cases q <;> (try simp [h4, h5] at hq) <;> (try (have hh : True := hq; clear hh hq)))))
      | (refine wpcall_pure rfl (h3) ?_; simp [h4, h5]; (try (refine gen fun q hq => ?_; cases q <;> (try simp [h4, h5] at hq) <;> (try (have hh : True := hq; clear hh hq)))))
      | (refine T.ret (Done.val (Or.inr rfl) ?_) <;> simp [resAs, Tryz.results235] <;> omega)
      | refine T.rs (fun _ => false) fun K hK => ?_
      | refine T.rs1 (fun _ => false) fun K hK => ?_
      | (refine ⟨by omega, ?_⟩)
      | refine T.cond rfl (fun hcnd => ?_) (fun hcnd => absurd hcnd (by decide))
      | refine T.cond rfl (fun hcnd => absurd hcnd (by decide)) (fun hcnd => ?_)
      | refine T.seq ?_
      | refine T.block ?_
      | refine T.skip ?_
      | refine T.exit ?_

theorem isGround_ok (t : MTy) (hn : nTy t ≤ 1099511627776) : ACalls Tryz.prog 205 [aTy t] [] (.b (isGroundM t)) [] [] := by
  have h1 := ground_ok t.kind
  have h2 := TypeSame_ok t (groundT t.kind) hn
  rw [isGroundM]
  generalize sameTy t (groundT t.kind) = q at *
  generalize groundT t.kind = G at *
  by_cases hk : t.kind = 1
  · simp only [hk, ne_eq, not_true_eq_false, decide_false, Bool.false_and]
    refine ACalls.of_body Tryz.func205 (by kernel_rfl) rfl (by kernel_rfl) (by simp [Tryz.ntmps205]) (by simp) ?_
    rw [Tryz.ntmps205]
    repeat' first
      | ((first | refine aops_end (hK _ ?_) | refine aopsD_end (hK _ ?_) | refine aopsF_end (hK _ ?_)); clear hK K)
      | ((first | refine aops_go ?_ | refine aopsD_go ?_ | refine aopsF_go ?_); simp [hk]; (try (refine gen fun q hq => ?_; cases q <;> (try simp [hk] at hq) <;> (try (have hh : True := hq; clear hh hq)))))
      | (refine wpcall_pure rfl (h1) ?_; simp [hk]; (try (refine gen fun q hq => ?_; cases q <;> (try simp [hk] at hq) <;> (try (have hh : True := hq; clear hh hq)))))
      | (refine wpcall_pure rfl (h2) ?_; simp [hk]; (try (refine gen fun q hq => ?_; cases q <;> (try simp [hk] at hq) <;> (try (have hh : True := hq; clear hh hq)))))
      | (refine T.ret (Done.data (Or.inr rfl) ?_ ?_) <;> simp [Tryz.results205] <;> omega)
      | refine T.rd (id := 1) mixed (fun _ => false) [] (by kernel_rfl) fun K hK => ?_
      | refine T.rd1 (id := 1) mixed (fun _ => false) [] (by kernel_rfl) fun K hK => ?_
      | refine T.rs (fun _ => false) fun K hK => ?_
      | refine T.rs1 (fun _ => false) fun K hK => ?_
      | (refine ⟨by omega, ?_⟩)
      | refine T.cond rfl (fun hcnd => ?_) (fun hcnd => absurd hcnd (by decide))
      | refine T.cond rfl (fun hcnd => absurd hcnd (by decide)) (fun hcnd => ?_)
      | refine T.seq ?_
      | refine T.block ?_
      | refine T.skip ?_
      | refine T.exit ?_
  · simp only [hk, ne_eq, not_false_eq_true, decide_true, Bool.true_and]
    refine ACalls.of_body Tryz.func205 (by kernel_rfl) rfl (by kernel_rfl) (by simp [Tryz.ntmps205]) (by simp) ?_
    rw [Tryz.ntmps205]
    repeat' first
      | ((first | refine aops_end (hK _ ?_) | refine aopsD_end (hK _ ?_) | refine aopsF_end (hK _ ?_)); clear hK K)
      | ((first | refine aops_go ?_ | refine aopsD_go ?_ | refine aopsF_go ?_); simp [hk]; (try (refine gen fun q hq => ?_; cases q <;> (try simp [hk] at hq) <;> (try (have hh : True := hq; clear hh hq)))))
      | (refine wpcall_pure rfl (h1) ?_; simp [hk]; (try (refine gen fun q hq => ?_; cases q <;> (try simp [hk] at hq) <;> (try (have hh : True := hq; clear hh hq)))))
      | (refine wpcall_pure rfl (h2) ?_; simp [hk]; (try (refine gen fun q hq => ?_; cases q <;> (try simp [hk] at hq) <;> (try (have hh : True := hq; clear hh hq)))))
      | (refine T.ret (Done.data (Or.inr rfl) ?_ ?_) <;> simp [Tryz.results205, *] <;> omega)
      | refine T.rd (id := 1) mixed (fun _ => false) [] (by kernel_rfl) fun K hK => ?_
      | refine T.rd1 (id := 1) mixed (fun _ => false) [] (by kernel_rfl) fun K hK => ?_
      | refine T.rs (fun _ => false) fun K hK => ?_
      | refine T.rs1 (fun _ => false) fun K hK => ?_
      | (refine ⟨by omega, ?_⟩)
      | refine T.cond rfl (fun hcnd => ?_) (fun hcnd => absurd hcnd (by decide))
      | refine T.cond rfl (fun hcnd => absurd hcnd (by decide)) (fun hcnd => ?_)
      | refine T.seq ?_
      | refine T.block ?_
      | refine T.skip ?_
      | refine T.exit ?_

theorem isProxy_ok (e : MTm) : ACalls Tryz.prog 167 [aTm e] [] (.b (proxyM e)) [] [] := by
  rw [proxyM]
  refine ACalls.of_body Tryz.func167 (by kernel_rfl) rfl (by kernel_rfl) (by simp [Tryz.ntmps167]) (by simp) ?_
  rw [Tryz.ntmps167]
  repeat' first
    | ((first | refine aops_end (hK _ ?_) | refine aopsD_end (hK _ ?_) | refine aopsF_end (hK _ ?_)); clear hK K)
    | ((first | refine aops_go ?_ | refine aopsD_go ?_ | refine aopsF_go ?_); simp; (try (refine gen fun q hq => ?_; cases q <;> (try simp at hq) <;> (try (have hh : True := hq; clear hh hq)))))
    | (refine T.ret (Done.data (Or.inr rfl) ?_ ?_) <;> simp [Tryz.results167, *] <;> omega)
    | refine T.rs (fun _ => false) fun K hK => ?_
    | refine T.rs1 (fun _ => false) fun K hK => ?_
    | (refine ⟨by omega, ?_⟩)
    | refine T.cond rfl (fun hcnd => ?_) (fun hcnd => absurd hcnd (by decide))
    | refine T.cond rfl (fun hcnd => absurd hcnd (by decide)) (fun hcnd => ?_)
    | refine T.seq ?_
    | refine T.block ?_
    | refine T.skip ?_
    | refine T.exit ?_

theorem isInjection_ok (e : MTm) (hn : nTy e.fr ≤ 1099511627776) : ACalls Tryz.prog 168 [aTm e] [] (.b (injM e)) [] [] := by
  have h1 := isGround_ok e.fr hn
  rw [injM]
  generalize isGroundM e.fr = q at *
  refine ACalls.of_body Tryz.func168 (by kernel_rfl) rfl (by kernel_rfl) (by simp [Tryz.ntmps168]) (by simp) ?_
  rw [Tryz.ntmps168]
  repeat' first
    | ((first | refine aops_end (hK _ ?_) | refine aopsD_end (hK _ ?_) | refine aopsF_end (hK _ ?_)); clear hK K)
    | ((first | refine aops_go ?_ | refine aopsD_go ?_ | refine aopsF_go ?_); simp; (try (refine gen fun q hq => ?_; cases q <;> (try simp at hq) <;> (try (have hh : True := hq; clear hh hq)))))
    | (refine wpcall_pure rfl (h1) ?_; simp; (try (refine gen fun q hq => ?_; cases q <;> (try simp at hq) <;> (try (have hh : True := hq; clear hh hq)))))
    | (refine T.ret (Done.data (Or.inr rfl) ?_ ?_) <;> simp [Tryz.results168, *] <;> omega)
    | refine T.rs (fun _ => false) fun K hK => ?_
    | refine T.rs1 (fun _ => false) fun K hK => ?_
    | (refine ⟨by omega, ?_⟩)
    | refine T.cond rfl (fun hcnd => ?_) (fun hcnd => absurd hcnd (by decide))
    | refine T.cond rfl (fun hcnd => absurd hcnd (by decide)) (fun hcnd => ?_)
    | refine T.seq ?_
    | refine T.block ?_
    | refine T.skip ?_
    | refine T.exit ?_

theorem isPlain_ok (e : MTm) : ACalls Tryz.prog 170 [aTm e] [] (.b (plainM e)) [] [] := by
  rw [plainM]
  refine ACalls.of_body Tryz.func170 (by kernel_rfl) rfl (by kernel_rfl) (by simp [Tryz.ntmps170]) (by simp) ?_
  rw [Tryz.ntmps170]
  repeat' first
    | ((first | refine aops_end (hK _ ?_) | refine aopsD_end (hK _ ?_) | refine aopsF_end (hK _ ?_)); clear hK K)
    | ((first | refine aops_go ?_ | refine aopsD_go ?_ | refine aopsF_go ?_); simp; (try (refine gen fun q hq => ?_; cases q <;> (try simp at hq) <;> (try (have hh : True := hq; clear hh hq)))))
    | (refine T.ret (Done.data (Or.inr rfl) ?_ ?_) <;> simp [Tryz.results170, *] <;> omega)
    | refine T.rs (fun _ => false) fun K hK => ?_
    | refine T.rs1 (fun _ => false) fun K hK => ?_
    | (refine ⟨by omega, ?_⟩)
    | refine T.cond rfl (fun hcnd => ?_) (fun hcnd => absurd hcnd (by decide))
    | refine T.cond rfl (fun hcnd => absurd hcnd (by decide)) (fun hcnd => ?_)
    | refine T.seq ?_
    | refine T.block ?_
    | refine T.skip ?_
    | refine T.exit ?_

theorem isValue1_ok (e : MTm) (q : Bool) (h : ACalls Tryz.prog 107 [aTm e] [] (.b q) [] []) : ACalls Tryz.prog 169 [aTm e] [] (.b (!q)) [] [] := by
  refine ACalls.of_body Tryz.func169 (by kernel_rfl) rfl (by kernel_rfl) (by simp [Tryz.ntmps169]) (by simp) ?_
  rw [Tryz.ntmps169]
  repeat' first
    | ((first | refine aops_end (hK _ ?_) | refine aopsD_end (hK _ ?_) | refine aopsF_end (hK _ ?_)); clear hK K)
    | ((first | refine aops_go ?_ | refine aopsD_go ?_ | refine aopsF_go ?_); simp)
    | (refine wpcall_pure rfl (h) ?_; simp)
    | (refine T.ret (Done.data (Or.inr rfl) ?_ ?_) <;> simp [Tryz.results169] <;> omega)
    | refine T.rs (fun _ => false) fun K hK => ?_
    | refine T.rs1 (fun _ => false) fun K hK => ?_
    | (refine ⟨by omega, ?_⟩)
    | refine T.cond rfl (fun hcnd => ?_) (fun hcnd => absurd hcnd (by decide))
    | refine T.cond rfl (fun hcnd => absurd hcnd (by decide)) (fun hcnd => ?_)
    | refine T.seq ?_
    | refine T.block ?_
    | refine T.skip ?_
    | refine T.exit ?_

theorem isValue_ok : ∀ (e : MTm), nTm e ≤ 1099511627776 → ACalls Tryz.prog 107 [aTm e] [] (.b (valM e)) [] [] := by
  intro e
  induction e using MTm.ind with
  | h e ih =>
    intro hn
    obtain ⟨hnt, hnf, hnk, hnu⟩ := nTm_parts hn
    have hcf := containsFuncTm_0 169 e.kids (fun t => !valM t) (by omega) (fun u hu => isValue1_ok u _ (ih u hu (hnu u hu)))
    have h1 := isProxy_ok e
    have h2 := isInjection_ok e hnf
    have h3 := isPlain_ok e
    rw [valM_def, ← not_any_not]
    generalize (e.kids.any fun t => !valM t) = R at hcf ⊢
    generalize proxyM e = q1 at *
    generalize injM e = q2 at *
    generalize plainM e = q3 at *
    by_cases hk : e.kind = 10
    · simp only [hk, decide_true, Bool.true_or, if_true]
      refine ACalls.of_body Tryz.func107 (by kernel_rfl) rfl (by kernel_rfl) (by simp [Tryz.ntmps107]) (by simp) ?_
      rw [Tryz.ntmps107]
      repeat' first
        | ((first | refine aops_end (hK _ ?_) | refine aopsD_end (hK _ ?_) | refine aopsF_end (hK _ ?_)); clear hK K)
        | ((first | refine aops_go ?_ | refine aopsD_go ?_ | refine aopsF_go ?_); simp [hk]; (try (refine gen fun q hq => ?_; cases q <;> (try simp [hk] at hq) <;> (try (have hh : True := hq; clear hh hq)))))
        | (refine wpcall_pure rfl (hcf) ?_; simp [hk]; (try (refine gen fun q hq => ?_; cases q <;> (try simp [hk] at hq) <;> (try (have hh : True := hq; clear hh hq)))))
        | (refine T.ret (Done.data (Or.inr rfl) ?_ ?_) <;> simp [Tryz.results107, *] <;> omega)
        | refine T.rs (fun _ => false) fun K hK => ?_
        | refine T.rs1 (fun _ => false) fun K hK => ?_
        | (refine ⟨by omega, ?_⟩)
        | refine T.cond rfl (fun hcnd => ?_) (fun hcnd => absurd hcnd (by decide))
        | refine T.cond rfl (fun hcnd => absurd hcnd (by decide)) (fun hcnd => ?_)
        | refine T.seq ?_
        | refine T.block ?_
        | refine T.skip ?_
        | refine T.exit ?_
    · simp only [hk, decide_false, Bool.false_or]
      cases q1
      · cases q2
        · simp only [Bool.or_self, Bool.false_eq_true, if_false]
          refine ACalls.of_body Tryz.func107 (by kernel_rfl) rfl (by kernel_rfl) (by simp [Tryz.ntmps107]) (by simp) ?_
          rw [Tryz.ntmps107]
          repeat' first
            | ((first | refine aops_end (hK _ ?_) | refine aopsD_end (hK _ ?_) | refine aopsF_end (hK _ ?_)); clear hK K)
            | ((first | refine aops_go ?_ | refine aopsD_go ?_ | refine aopsF_go ?_); simp [hk]; (try (refine gen fun q hq => ?_; cases q <;> (try simp [hk] at hq) <;> (try (have hh : True := hq; clear hh hq)))))
            | (refine wpcall_pure rfl (h1) ?_; simp [hk]; (try (refine gen fun q hq => ?_; cases q <;> (try simp [hk] at hq) <;> (try (have hh : True := hq; clear hh hq)))))
            | (refine wpcall_pure rfl (h2) ?_; simp [hk]; (try (refine gen fun q hq => ?_; cases q <;> (try simp [hk] at hq) <;> (try (have hh : True := hq; clear hh hq)))))
            | (refine wpcall_pure rfl (h3) ?_; simp [hk]; (try (refine gen fun q hq => ?_; cases q <;> (try simp [hk] at hq) <;> (try (have hh : True := hq; clear hh hq)))))
            | (refine T.ret (Done.data (Or.inr rfl) ?_ ?_) <;> simp [Tryz.results107, *] <;> omega)
            | refine T.rs (fun _ => false) fun K hK => ?_
            | refine T.rs1 (fun _ => false) fun K hK => ?_
            | (refine ⟨by omega, ?_⟩)
            | refine T.cond rfl (fun hcnd => ?_) (fun hcnd => absurd hcnd (by decide))
            | refine T.cond rfl (fun hcnd => absurd hcnd (by decide)) (fun hcnd => ?_)
            | refine T.seq ?_
            | refine T.block ?_
            | refine T.skip ?_
            | refine T.exit ?_
        · simp only [Bool.or_true, if_true]
          refine ACalls.of_body Tryz.func107 (by kernel_rfl) rfl (by kernel_rfl) (by simp [Tryz.ntmps107]) (by simp) ?_
          rw [Tryz.ntmps107]
          repeat' first
            | ((first | refine aops_end (hK _ ?_) | refine aopsD_end (hK _ ?_) | refine aopsF_end (hK _ ?_)); clear hK K)
            | ((first | refine aops_go ?_ | refine aopsD_go ?_ | refine aopsF_go ?_); simp [hk]; (try (refine gen fun q hq => ?_; cases q <;> (try simp [hk] at hq) <;> (try (have hh : True := hq; clear hh hq)))))
            | (refine wpcall_pure rfl (h1) ?_; simp [hk]; (try (refine gen fun q hq => ?_; cases q <;> (try simp [hk] at hq) <;> (try (have hh : True := hq; clear hh hq)))))
            | (refine wpcall_pure rfl (h2) ?_; simp [hk]; (try (refine gen fun q hq => ?_; cases q <;> (try simp [hk] at hq) <;> (try (have hh : True := hq; clear hh hq)))))
            | (refine wpcall_pure rfl (hcf) ?_; simp [hk]; (try (refine gen fun q hq => ?_; cases q <;> (try simp [hk] at hq) <;> (try (have hh : True := hq; clear hh hq)))))
            | (refine T.ret (Done.data (Or.inr rfl) ?_ ?_) <;> simp [Tryz.results107, *] <;> omega)
            | refine T.rs (fun _ => false) fun K hK => ?_
            | refine T.rs1 (fun _ => false) fun K hK => ?_
            | (refine ⟨by omega, ?_⟩)
            | refine T.cond rfl (fun hcnd => ?_) (fun hcnd => absurd hcnd (by decide))
            | refine T.cond rfl (fun hcnd => absurd hcnd (by decide)) (fun hcnd => ?_)
            | refine T.seq ?_
            | refine T.block ?_
            | refine T.skip ?_
            | refine T.exit ?_
      · simp only [Bool.true_or, if_true]
        refine ACalls.of_body Tryz.func107 (by kernel_rfl) rfl (by kernel_rfl) (by simp [Tryz.ntmps107]) (by simp) ?_
        rw [Tryz.ntmps107]
        repeat' first
          | ((first | refine aops_end (hK _ ?_) | refine aopsD_end (hK _ ?_) | refine aopsF_end (hK _ ?_)); clear hK K)
          | ((first | refine aops_go ?_ | refine aopsD_go ?_ | refine aopsF_go ?_); simp [hk]; (try (refine gen fun q hq => ?_; cases q <;> (try simp [hk] at hq) <;> (try (have hh : True := hq; clear hh hq)))))
          | (refine wpcall_pure rfl (h1) ?_; simp [hk]; (try (refine gen fun q hq => ?_; cases q <;> (try simp [hk] at hq) <;> (try (have hh : True := hq; clear hh hq)))))
          | (refine wpcall_pure rfl (hcf) ?_; simp [hk]; (try (refine gen fun q hq => ?_; cases q <;> (try simp [hk] at hq) <;> (try (have hh : True := hq; clear hh hq)))))
          | (refine T.ret (Done.data (Or.inr rfl) ?_ ?_) <;> simp [Tryz.results107, *] <;> omega)
          | refine T.rs (fun _ => false) fun K hK => ?_
          | refine T.rs1 (fun _ => false) fun K hK => ?_
          | (refine ⟨by omega, ?_⟩)
          | refine T.cond rfl (fun hcnd => ?_) (fun hcnd => absurd hcnd (by decide))
          | refine T.cond rfl (fun hcnd => absurd hcnd (by decide)) (fun hcnd => ?_)
          | refine T.seq ?_
          | refine T.block ?_
          | refine T.skip ?_
          | refine T.exit ?_

theorem counts_ok (e : MTm) : ACalls Tryz.prog 171 [aTm e] [] (.i (countsM e)) [] [] := by
  by_cases hk : e.kind = 9
  · rw [show countsM e = 1 by simp [countsM, hk]]
    refine ACalls.of_body Tryz.func171 (by kernel_rfl) rfl (by kernel_rfl) (by simp [Tryz.ntmps171]) (by simp) ?_
    rw [Tryz.ntmps171]
    repeat' first
      | ((first | refine aops_end (hK _ ?_) | refine aopsD_end (hK _ ?_) | refine aopsF_end (hK _ ?_)); clear hK K)
      | ((first | refine aops_go ?_ | refine aopsD_go ?_ | refine aopsF_go ?_); simp [hk]; (try (refine gen fun q hq => ?_; cases q <;> (try simp [hk] at hq) <;> (try (have hh : True := hq; clear hh hq)))))
      | (refine T.ret (Done.data (Or.inr rfl) ?_ ?_) <;> simp [Tryz.results171] <;> omega)
      | refine T.rs (fun _ => false) fun K hK => ?_
      | refine T.rs1 (fun _ => false) fun K hK => ?_
      | (refine ⟨by omega, ?_⟩)
      | refine T.cond rfl (fun hcnd => ?_) (fun hcnd => absurd hcnd (by decide))
      | refine T.cond rfl (fun hcnd => absurd hcnd (by decide)) (fun hcnd => ?_)
      | refine T.seq ?_
      | refine T.block ?_
      | refine T.skip ?_
      | refine T.exit ?_
  · rw [show countsM e = e.kids.length by simp [countsM, hk]]
    refine ACalls.of_body Tryz.func171 (by kernel_rfl) rfl (by kernel_rfl) (by simp [Tryz.ntmps171]) (by simp) ?_
    rw [Tryz.ntmps171]
    repeat' first
      | ((first | refine aops_end (hK _ ?_) | refine aopsD_end (hK _ ?_) | refine aopsF_end (hK _ ?_)); clear hK K)
      | ((first | refine aops_go ?_ | refine aopsD_go ?_ | refine aopsF_go ?_); simp [hk]; (try (refine gen fun q hq => ?_; cases q <;> (try simp [hk] at hq) <;> (try (have hh : True := hq; clear hh hq)))))
      | (refine T.ret (Done.data (Or.inr rfl) ?_ ?_) <;> simp [Tryz.results171] <;> omega)
      | refine T.rs (fun _ => false) fun K hK => ?_
      | refine T.rs1 (fun _ => false) fun K hK => ?_
      | (refine ⟨by omega, ?_⟩)
      | refine T.cond rfl (fun hcnd => ?_) (fun hcnd => absurd hcnd (by decide))
      | refine T.cond rfl (fun hcnd => absurd hcnd (by decide)) (fun hcnd => ?_)
      | refine T.seq ?_
      | refine T.block ?_
      | refine T.skip ?_
      | refine T.exit ?_

theorem wrong_ok (e : MTm) : ACalls Tryz.prog 174 [aTm e] [] (.i (wrongM e.kind)) [] [] := by
  by_cases h6 : e.kind = 6
  · simp only [wrongM, h6]
    refine ACalls.of_body Tryz.func174 (by kernel_rfl) rfl (by kernel_rfl) (by simp [Tryz.ntmps174]) (by simp) ?_
    rw [Tryz.ntmps174]
    repeat' first
      | ((first | refine aops_end (hK _ ?_) | refine aopsD_end (hK _ ?_) | refine aopsF_end (hK _ ?_)); clear hK K)
      | ((first | refine aops_go ?_ | refine aopsD_go ?_ | refine aopsF_go ?_); simp [h6]; (try (refine gen fun q hq => ?_; cases q <;> (try simp [h6] at hq) <;> (try (have hh : True := hq; clear hh hq)))))
      | (refine T.ret (Done.data (Or.inr rfl) ?_ ?_) <;> simp [Tryz.results174] <;> omega)
      | refine T.rs (fun _ => false) fun K hK => ?_
      | refine T.rs1 (fun _ => false) fun K hK => ?_
      | (refine ⟨by omega, ?_⟩)
      | refine T.cond rfl (fun hcnd => ?_) (fun hcnd => absurd hcnd (by decide))
      | refine T.cond rfl (fun hcnd => absurd hcnd (by decide)) (fun hcnd => ?_)
      | refine T.seq ?_
      | refine T.block ?_
      | refine T.skip ?_
      | refine T.exit ?_
  by_cases h7 : e.kind = 7
  · simp only [wrongM, h7]
    refine ACalls.of_body Tryz.func174 (by kernel_rfl) rfl (by kernel_rfl) (by simp [Tryz.ntmps174]) (by simp) ?_
    rw [Tryz.ntmps174]
    repeat' first
      | ((first | refine aops_end (hK _ ?_) | refine aopsD_end (hK _ ?_) | refine aopsF_end (hK _ ?_)); clear hK K)
      | ((first | refine aops_go ?_ | refine aopsD_go ?_ | refine aopsF_go ?_); simp [h7]; (try (refine gen fun q hq => ?_; cases q <;> (try simp [h7] at hq) <;> (try (have hh : True := hq; clear hh hq)))))
      | (refine T.ret (Done.data (Or.inr rfl) ?_ ?_) <;> simp [Tryz.results174] <;> omega)
      | refine T.rs (fun _ => false) fun K hK => ?_
      | refine T.rs1 (fun _ => false) fun K hK => ?_
      | (refine ⟨by omega, ?_⟩)
      | refine T.cond rfl (fun hcnd => ?_) (fun hcnd => absurd hcnd (by decide))
      | refine T.cond rfl (fun hcnd => absurd hcnd (by decide)) (fun hcnd => ?_)
      | refine T.seq ?_
      | refine T.block ?_
      | refine T.skip ?_
      | refine T.exit ?_
  by_cases h8 : e.kind = 8
  · simp only [wrongM, h8]
    refine ACalls.of_body Tryz.func174 (by kernel_rfl) rfl (by kernel_rfl) (by simp [Tryz.ntmps174]) (by simp) ?_
    rw [Tryz.ntmps174]
    repeat' first
      | ((first | refine aops_end (hK _ ?_) | refine aopsD_end (hK _ ?_) | refine aopsF_end (hK _ ?_)); clear hK K)
      | ((first | refine aops_go ?_ | refine aopsD_go ?_ | refine aopsF_go ?_); simp [h8]; (try (refine gen fun q hq => ?_; cases q <;> (try simp [h8] at hq) <;> (try (have hh : True := hq; clear hh hq)))))
      | (refine T.ret (Done.data (Or.inr rfl) ?_ ?_) <;> simp [Tryz.results174] <;> omega)
      | refine T.rs (fun _ => false) fun K hK => ?_
      | refine T.rs1 (fun _ => false) fun K hK => ?_
      | (refine ⟨by omega, ?_⟩)
      | refine T.cond rfl (fun hcnd => ?_) (fun hcnd => absurd hcnd (by decide))
      | refine T.cond rfl (fun hcnd => absurd hcnd (by decide)) (fun hcnd => ?_)
      | refine T.seq ?_
      | refine T.block ?_
      | refine T.skip ?_
      | refine T.exit ?_
  by_cases h9 : e.kind = 9
  · simp only [wrongM, h9]
    refine ACalls.of_body Tryz.func174 (by kernel_rfl) rfl (by kernel_rfl) (by simp [Tryz.ntmps174]) (by simp) ?_
    rw [Tryz.ntmps174]
    repeat' first
      | ((first | refine aops_end (hK _ ?_) | refine aopsD_end (hK _ ?_) | refine aopsF_end (hK _ ?_)); clear hK K)
      | ((first | refine aops_go ?_ | refine aopsD_go ?_ | refine aopsF_go ?_); simp [h9]; (try (refine gen fun q hq => ?_; cases q <;> (try simp [h9] at hq) <;> (try (have hh : True := hq; clear hh hq)))))
      | (refine T.ret (Done.data (Or.inr rfl) ?_ ?_) <;> simp [Tryz.results174] <;> omega)
      | refine T.rs (fun _ => false) fun K hK => ?_
      | refine T.rs1 (fun _ => false) fun K hK => ?_
      | (refine ⟨by omega, ?_⟩)
      | refine T.cond rfl (fun hcnd => ?_) (fun hcnd => absurd hcnd (by decide))
      | refine T.cond rfl (fun hcnd => absurd hcnd (by decide)) (fun hcnd => ?_)
      | refine T.seq ?_
      | refine T.block ?_
      | refine T.skip ?_
      | refine T.exit ?_
  by_cases h11 : e.kind = 11
  · simp only [wrongM, h11]
    refine ACalls.of_body Tryz.func174 (by kernel_rfl) rfl (by kernel_rfl) (by simp [Tryz.ntmps174]) (by simp) ?_
    rw [Tryz.ntmps174]
    repeat' first
      | ((first | refine aops_end (hK _ ?_) | refine aopsD_end (hK _ ?_) | refine aopsF_end (hK _ ?_)); clear hK K)
      | ((first | refine aops_go ?_ | refine aopsD_go ?_ | refine aopsF_go ?_); simp [h11]; (try (refine gen fun q hq => ?_; cases q <;> (try simp [h11] at hq) <;> (try (have hh : True := hq; clear hh hq)))))
      | (refine T.ret (Done.data (Or.inr rfl) ?_ ?_) <;> simp [Tryz.results174] <;> omega)
      | refine T.rs (fun _ => false) fun K hK => ?_
      | refine T.rs1 (fun _ => false) fun K hK => ?_
      | (refine ⟨by omega, ?_⟩)
      | refine T.cond rfl (fun hcnd => ?_) (fun hcnd => absurd hcnd (by decide))
      | refine T.cond rfl (fun hcnd => absurd hcnd (by decide)) (fun hcnd => ?_)
      | refine T.seq ?_
      | refine T.block ?_
      | refine T.skip ?_
      | refine T.exit ?_
  by_cases h12 : e.kind = 12
  · simp only [wrongM, h12]
    refine ACalls.of_body Tryz.func174 (by kernel_rfl) rfl (by kernel_rfl) (by simp [Tryz.ntmps174]) (by simp) ?_
    rw [Tryz.ntmps174]
    repeat' first
      | ((first | refine aops_end (hK _ ?_) | refine aopsD_end (hK _ ?_) | refine aopsF_end (hK _ ?_)); clear hK K)
      | ((first | refine aops_go ?_ | refine aopsD_go ?_ | refine aopsF_go ?_); simp [h12]; (try (refine gen fun q hq => ?_; cases q <;> (try simp [h12] at hq) <;> (try (have hh : True := hq; clear hh hq)))))
      | (refine T.ret (Done.data (Or.inr rfl) ?_ ?_) <;> simp [Tryz.results174] <;> omega)
      | refine T.rs (fun _ => false) fun K hK => ?_
      | refine T.rs1 (fun _ => false) fun K hK => ?_
      | (refine ⟨by omega, ?_⟩)
      | refine T.cond rfl (fun hcnd => ?_) (fun hcnd => absurd hcnd (by decide))
      | refine T.cond rfl (fun hcnd => absurd hcnd (by decide)) (fun hcnd => ?_)
      | refine T.seq ?_
      | refine T.block ?_
      | refine T.skip ?_
      | refine T.exit ?_
  simp only [wrongM, h6, h7, h8, h9, h11, h12, or_self, if_false]
  refine ACalls.of_body Tryz.func174 (by kernel_rfl) rfl (by kernel_rfl) (by simp [Tryz.ntmps174]) (by simp) ?_
  rw [Tryz.ntmps174]
  repeat' first
    | ((first | refine aops_end (hK _ ?_) | refine aopsD_end (hK _ ?_) | refine aopsF_end (hK _ ?_)); clear hK K)
    | ((first | refine aops_go ?_ | refine aopsD_go ?_ | refine aopsF_go ?_); simp [h6, h7, h8, h9, h11, h12]; (try (refine gen fun q hq => ?_; cases q <;> (try simp [h6, h7, h8, h9, h11, h12] at hq) <;> (try (have hh : True := hq; clear hh hq)))))
    | (refine T.ret (Done.data (Or.inr rfl) ?_ ?_) <;> simp [Tryz.results174] <;> omega)
    | refine T.rs (fun _ => false) fun K hK => ?_
    | refine T.rs1 (fun _ => false) fun K hK => ?_
    | (refine ⟨by omega, ?_⟩)
    | refine T.cond rfl (fun hcnd => ?_) (fun hcnd => absurd hcnd (by decide))
    | refine T.cond rfl (fun hcnd => absurd hcnd (by decide)) (fun hcnd => ?_)
    | refine T.seq ?_
    | refine T.block ?_
    | refine T.skip ?_
    | refine T.exit ?_

theorem node0l_ok (k : Int) : ACalls Tryz.prog 238 [.i k, .l []] [] (aTm (.mk k [] 0 zeroT zeroT 0 [])) [] [] := by
  refine ACalls.of_body Tryz.func238 (by kernel_rfl) rfl (by kernel_rfl) (by simp [Tryz.ntmps238]) (by simp) ?_
  rw [Tryz.ntmps238]
  repeat' first
    | ((first | refine aops_end (hK _ ?_) | refine aopsD_end (hK _ ?_) | refine aopsF_end (hK _ ?_)); clear hK K)
    | ((first | refine aops_go ?_ | refine aopsD_go ?_ | refine aopsF_go ?_); simp; (try (refine gen fun q hq => ?_; cases q <;> (try simp at hq) <;> (try (have hh : True := hq; clear hh hq)))))
    | (refine T.ret (Done.val (Or.inr rfl) ?_) <;> simp [resAs, Tryz.results238] <;> omega)
    | refine T.rs (fun _ => false) fun K hK => ?_
    | refine T.rs1 (fun _ => false) fun K hK => ?_
    | (refine ⟨by omega, ?_⟩)
    | refine T.cond rfl (fun hcnd => ?_) (fun hcnd => absurd hcnd (by decide))
    | refine T.cond rfl (fun hcnd => absurd hcnd (by decide)) (fun hcnd => ?_)
    | refine T.seq ?_
    | refine T.block ?_
    | refine T.skip ?_
    | refine T.exit ?_

theorem truth_ok (b : Bool) : ACalls Tryz.prog 207 [.b b] [] (aTm (truthM b)) [] [] := by
  have h3 := node0l_ok 3
  have h4 := node0l_ok 4
  cases b
  · rw [show truthM false = tFalse from rfl]
    refine ACalls.of_body Tryz.func207 (by kernel_rfl) rfl (by kernel_rfl) (by simp [Tryz.ntmps207]) (by simp) ?_
    rw [Tryz.ntmps207]
    repeat' first
      | ((first | refine aops_end (hK _ ?_) | refine aopsD_end (hK _ ?_) | refine aopsF_end (hK _ ?_)); clear hK K)
      | ((first | refine aops_go ?_ | refine aopsD_go ?_ | refine aopsF_go ?_); simp; (try (refine gen fun q hq => ?_; cases q <;> (try simp at hq) <;> (try (have hh : True := hq; clear hh hq)))))
      | (refine wpcall_pure rfl (h3) ?_; simp; (try (refine gen fun q hq => ?_; cases q <;> (try simp at hq) <;> (try (have hh : True := hq; clear hh hq)))))
      | (refine wpcall_pure rfl (h4) ?_; simp; (try (refine gen fun q hq => ?_; cases q <;> (try simp at hq) <;> (try (have hh : True := hq; clear hh hq)))))
      | (refine T.ret (Done.val (Or.inr rfl) ?_) <;> simp [resAs, Tryz.results207] <;> omega)
      | refine T.rs (fun _ => false) fun K hK => ?_
      | refine T.rs1 (fun _ => false) fun K hK => ?_
      | (refine ⟨by omega, ?_⟩)
      | refine T.cond rfl (fun hcnd => ?_) (fun hcnd => absurd hcnd (by decide))
      | refine T.cond rfl (fun hcnd => absurd hcnd (by decide)) (fun hcnd => ?_)
      | refine T.seq ?_
      | refine T.block ?_
      | refine T.skip ?_
      | refine T.exit ?_
  · rw [show truthM true = tTrue from rfl]
    refine ACalls.of_body Tryz.func207 (by kernel_rfl) rfl (by kernel_rfl) (by simp [Tryz.ntmps207]) (by simp) ?_
    rw [Tryz.ntmps207]
    repeat' first
      | ((first | refine aops_end (hK _ ?_) | refine aopsD_end (hK _ ?_) | refine aopsF_end (hK _ ?_)); clear hK K)
      | ((first | refine aops_go ?_ | refine aopsD_go ?_ | refine aopsF_go ?_); simp; (try (refine gen fun q hq => ?_; cases q <;> (try simp at hq) <;> (try (have hh : True := hq; clear hh hq)))))
      | (refine wpcall_pure rfl (h3) ?_; simp; (try (refine gen fun q hq => ?_; cases q <;> (try simp at hq) <;> (try (have hh : True := hq; clear hh hq)))))
      | (refine wpcall_pure rfl (h4) ?_; simp; (try (refine gen fun q hq => ?_; cases q <;> (try simp at hq) <;> (try (have hh : True := hq; clear hh hq)))))
      | (refine T.ret (Done.val (Or.inr rfl) ?_) <;> simp [resAs, Tryz.results207] <;> omega)
      | refine T.rs (fun _ => false) fun K hK => ?_
      | refine T.rs1 (fun _ => false) fun K hK => ?_
      | (refine ⟨by omega, ?_⟩)
      | refine T.cond rfl (fun hcnd => ?_) (fun hcnd => absurd hcnd (by decide))
      | refine T.cond rfl (fun hcnd => absurd hcnd (by decide)) (fun hcnd => ?_)
      | refine T.seq ?_
      | refine T.block ?_
      | refine T.skip ?_
      | refine T.exit ?_

abbrev ruleR (o : Option MTm) : List AV := match o with
  | some x => [aTm x, .i 1]
  | none => [aTm zeroE, .i 3]

theorem rule_ok (e : MTm) (d : Nat) (hv : TmV 13 d e) (hn : nTm e ≤ 1073741824) : ACalls Tryz.prog 173 [aTm e] [] (.tup (ruleR (ruleM e))) [] [] := by
  rcases hv.cases13 with ⟨s, rfl⟩ | ⟨k, rfl, h1, h2⟩ | rfl | rfl | ⟨s, t, b, rfl⟩ | ⟨a, f, t, l, rfl⟩ | ⟨k, a, rfl, hk, _, ha⟩ | ⟨p, a, b, rfl, _, hp⟩ | ⟨k, a, b, rfl, hk, ⟨_, ha⟩, _, hb⟩
  · skip
    rw [show ruleM (tVar s) = none by simp [ruleM]]
    refine ACalls.of_body Tryz.func173 (by kernel_rfl) rfl (by kernel_rfl) (by simp [Tryz.ntmps173]) (by simp) ?_
    rw [Tryz.ntmps173]
    repeat' first
      | ((first | refine aops_end (hK _ ?_) | refine aopsD_end (hK _ ?_) | refine aopsF_end (hK _ ?_)); clear hK K)
      | ((first | refine aops_go ?_ | refine aopsD_go ?_ | refine aopsF_go ?_); simp; (try (refine gen fun q hq => ?_; cases q <;> (try simp at hq) <;> (try (have hh : True := hq; clear hh hq)))))
      | (refine T.ret (Done.tup (Or.inr rfl) ?_) <;> simp [resAs, Tryz.results173] <;> omega)
      | refine T.rd (id := 7) mixed (fun _ => false) [11] (by kernel_rfl) fun K hK => ?_
      | refine T.rd1 (id := 7) mixed (fun _ => false) [11] (by kernel_rfl) fun K hK => ?_
      | refine T.rs (fun _ => false) fun K hK => ?_
      | refine T.rs1 (fun _ => false) fun K hK => ?_
      | (refine ⟨by omega, ?_⟩)
      | refine T.cond rfl (fun hcnd => ?_) (fun hcnd => absurd hcnd (by decide))
      | refine T.cond rfl (fun hcnd => absurd hcnd (by decide)) (fun hcnd => ?_)
      | refine T.seq ?_
      | refine T.block ?_
      | refine T.skip ?_
      | refine T.exit ?_
  · skip
    rw [show ruleM (tNum k) = none by simp [ruleM]]
    refine ACalls.of_body Tryz.func173 (by kernel_rfl) rfl (by kernel_rfl) (by simp [Tryz.ntmps173]) (by simp) ?_
    rw [Tryz.ntmps173]
    repeat' first
      | ((first | refine aops_end (hK _ ?_) | refine aopsD_end (hK _ ?_) | refine aopsF_end (hK _ ?_)); clear hK K)
      | ((first | refine aops_go ?_ | refine aopsD_go ?_ | refine aopsF_go ?_); simp; (try (refine gen fun q hq => ?_; cases q <;> (try simp at hq) <;> (try (have hh : True := hq; clear hh hq)))))
      | (refine T.ret (Done.tup (Or.inr rfl) ?_) <;> simp [resAs, Tryz.results173] <;> omega)
      | refine T.rd (id := 7) mixed (fun _ => false) [11] (by kernel_rfl) fun K hK => ?_
      | refine T.rd1 (id := 7) mixed (fun _ => false) [11] (by kernel_rfl) fun K hK => ?_
      | refine T.rs (fun _ => false) fun K hK => ?_
      | refine T.rs1 (fun _ => false) fun K hK => ?_
      | (refine ⟨by omega, ?_⟩)
      | refine T.cond rfl (fun hcnd => ?_) (fun hcnd => absurd hcnd (by decide))
      | refine T.cond rfl (fun hcnd => absurd hcnd (by decide)) (fun hcnd => ?_)
      | refine T.seq ?_
      | refine T.block ?_
      | refine T.skip ?_
      | refine T.exit ?_
  · skip
    rw [show ruleM tTrue = none by simp [ruleM]]
    refine ACalls.of_body Tryz.func173 (by kernel_rfl) rfl (by kernel_rfl) (by simp [Tryz.ntmps173]) (by simp) ?_
    rw [Tryz.ntmps173]
    repeat' first
      | ((first | refine aops_end (hK _ ?_) | refine aopsD_end (hK _ ?_) | refine aopsF_end (hK _ ?_)); clear hK K)
      | ((first | refine aops_go ?_ | refine aopsD_go ?_ | refine aopsF_go ?_); simp; (try (refine gen fun q hq => ?_; cases q <;> (try simp at hq) <;> (try (have hh : True := hq; clear hh hq)))))
      | (refine T.ret (Done.tup (Or.inr rfl) ?_) <;> simp [resAs, Tryz.results173] <;> omega)
      | refine T.rd (id := 7) mixed (fun _ => false) [11] (by kernel_rfl) fun K hK => ?_
      | refine T.rd1 (id := 7) mixed (fun _ => false) [11] (by kernel_rfl) fun K hK => ?_
      | refine T.rs (fun _ => false) fun K hK => ?_
      | refine T.rs1 (fun _ => false) fun K hK => ?_
      | (refine ⟨by omega, ?_⟩)
      | refine T.cond rfl (fun hcnd => ?_) (fun hcnd => absurd hcnd (by decide))
      | refine T.cond rfl (fun hcnd => absurd hcnd (by decide)) (fun hcnd => ?_)
      | refine T.seq ?_
      | refine T.block ?_
      | refine T.skip ?_
      | refine T.exit ?_
  · skip
    rw [show ruleM tFalse = none by simp [ruleM]]
    refine ACalls.of_body Tryz.func173 (by kernel_rfl) rfl (by kernel_rfl) (by simp [Tryz.ntmps173]) (by simp) ?_
    rw [Tryz.ntmps173]
    repeat' first
      | ((first | refine aops_end (hK _ ?_) | refine aopsD_end (hK _ ?_) | refine aopsF_end (hK _ ?_)); clear hK K)
      | ((first | refine aops_go ?_ | refine aopsD_go ?_ | refine aopsF_go ?_); simp; (try (refine gen fun q hq => ?_; cases q <;> (try simp at hq) <;> (try (have hh : True := hq; clear hh hq)))))
      | (refine T.ret (Done.tup (Or.inr rfl) ?_) <;> simp [resAs, Tryz.results173] <;> omega)
      | refine T.rd (id := 7) mixed (fun _ => false) [11] (by kernel_rfl) fun K hK => ?_
      | refine T.rd1 (id := 7) mixed (fun _ => false) [11] (by kernel_rfl) fun K hK => ?_
      | refine T.rs (fun _ => false) fun K hK => ?_
      | refine T.rs1 (fun _ => false) fun K hK => ?_
      | (refine ⟨by omega, ?_⟩)
      | refine T.cond rfl (fun hcnd => ?_) (fun hcnd => absurd hcnd (by decide))
      | refine T.cond rfl (fun hcnd => absurd hcnd (by decide)) (fun hcnd => ?_)
      | refine T.seq ?_
      | refine T.block ?_
      | refine T.skip ?_
      | refine T.exit ?_
  · skip
    rw [show ruleM (tLam s t b) = none by simp [ruleM]]
    refine ACalls.of_body Tryz.func173 (by kernel_rfl) rfl (by kernel_rfl) (by simp [Tryz.ntmps173]) (by simp) ?_
    rw [Tryz.ntmps173]
    repeat' first
      | ((first | refine aops_end (hK _ ?_) | refine aopsD_end (hK _ ?_) | refine aopsF_end (hK _ ?_)); clear hK K)
      | ((first | refine aops_go ?_ | refine aopsD_go ?_ | refine aopsF_go ?_); simp [eTm_def]; (try (refine gen fun q hq => ?_; cases q <;> (try simp [eTm_def] at hq) <;> (try (have hh : True := hq; clear hh hq)))))
      | (refine T.ret (Done.tup (Or.inr rfl) ?_) <;> simp [resAs, Tryz.results173] <;> omega)
      | refine T.rd (id := 7) mixed (fun _ => false) [11] (by kernel_rfl) fun K hK => ?_
      | refine T.rd1 (id := 7) mixed (fun _ => false) [11] (by kernel_rfl) fun K hK => ?_
      | refine T.rs (fun _ => false) fun K hK => ?_
      | refine T.rs1 (fun _ => false) fun K hK => ?_
      | (refine ⟨by omega, ?_⟩)
      | refine T.cond rfl (fun hcnd => ?_) (fun hcnd => absurd hcnd (by decide))
      | refine T.cond rfl (fun hcnd => absurd hcnd (by decide)) (fun hcnd => ?_)
      | refine T.seq ?_
      | refine T.block ?_
      | refine T.skip ?_
      | refine T.exit ?_
  · skip
    rw [show ruleM (tCast a f t l) = none by simp [ruleM]]
    refine ACalls.of_body Tryz.func173 (by kernel_rfl) rfl (by kernel_rfl) (by simp [Tryz.ntmps173]) (by simp) ?_
    rw [Tryz.ntmps173]
    repeat' first
      | ((first | refine aops_end (hK _ ?_) | refine aopsD_end (hK _ ?_) | refine aopsF_end (hK _ ?_)); clear hK K)
      | ((first | refine aops_go ?_ | refine aopsD_go ?_ | refine aopsF_go ?_); simp [eTm_def]; (try (refine gen fun q hq => ?_; cases q <;> (try simp [eTm_def] at hq) <;> (try (have hh : True := hq; clear hh hq)))))
      | (refine T.ret (Done.tup (Or.inr rfl) ?_) <;> simp [resAs, Tryz.results173] <;> omega)
      | refine T.rd (id := 7) mixed (fun _ => false) [11] (by kernel_rfl) fun K hK => ?_
      | refine T.rd1 (id := 7) mixed (fun _ => false) [11] (by kernel_rfl) fun K hK => ?_
      | refine T.rs (fun _ => false) fun K hK => ?_
      | refine T.rs1 (fun _ => false) fun K hK => ?_
      | (refine ⟨by omega, ?_⟩)
      | refine T.cond rfl (fun hcnd => ?_) (fun hcnd => absurd hcnd (by decide))
      | refine T.cond rfl (fun hcnd => absurd hcnd (by decide)) (fun hcnd => ?_)
      | refine T.seq ?_
      | refine T.block ?_
      | refine T.skip ?_
      | refine T.exit ?_
  · skip
    by_cases h10 : a.kind = 10
    · obtain ⟨x, y, rfl⟩ := ha.kind10 h10
      rcases hk with rfl | rfl
      · rw [show ruleM (tN1 11 (tN2 10 x y)) = some x by simp [ruleM]]
        refine ACalls.of_body Tryz.func173 (by kernel_rfl) rfl (by kernel_rfl) (by simp [Tryz.ntmps173]) (by simp) ?_
        rw [Tryz.ntmps173]
        repeat' first
          | ((first | refine aops_end (hK _ ?_) | refine aopsD_end (hK _ ?_) | refine aopsF_end (hK _ ?_)); clear hK K)
          | ((first | refine aops_go ?_ | refine aopsD_go ?_ | refine aopsF_go ?_); simp [eTm_def]; (try simp (disch := omega) only [wrap64]); (try (refine gen fun q hq => ?_; cases q <;> (try simp [eTm_def] at hq) <;> (try (have hh : True := hq; clear hh hq)))))
          | (refine T.ret (Done.tup (Or.inr rfl) ?_) <;> simp [resAs, Tryz.results173, eTm_def] <;> omega)
          | refine T.rd (id := 7) mixed (fun _ => false) [11] (by kernel_rfl) fun K hK => ?_
          | refine T.rd1 (id := 7) mixed (fun _ => false) [11] (by kernel_rfl) fun K hK => ?_
          | refine T.rs (fun _ => false) fun K hK => ?_
          | refine T.rs1 (fun _ => false) fun K hK => ?_
          | (refine ⟨by omega, ?_⟩)
          | refine T.cond rfl (fun hcnd => ?_) (fun hcnd => absurd hcnd (by decide))
          | refine T.cond rfl (fun hcnd => absurd hcnd (by decide)) (fun hcnd => ?_)
          | refine T.seq ?_
          | refine T.block ?_
          | refine T.skip ?_
          | refine T.exit ?_
      · rw [show ruleM (tN1 12 (tN2 10 x y)) = some y by simp [ruleM]]
        refine ACalls.of_body Tryz.func173 (by kernel_rfl) rfl (by kernel_rfl) (by simp [Tryz.ntmps173]) (by simp) ?_
        rw [Tryz.ntmps173]
        repeat' first
          | ((first | refine aops_end (hK _ ?_) | refine aopsD_end (hK _ ?_) | refine aopsF_end (hK _ ?_)); clear hK K)
          | ((first | refine aops_go ?_ | refine aopsD_go ?_ | refine aopsF_go ?_); simp [eTm_def]; (try simp (disch := omega) only [wrap64]); (try (refine gen fun q hq => ?_; cases q <;> (try simp [eTm_def] at hq) <;> (try (have hh : True := hq; clear hh hq)))))
          | (refine T.ret (Done.tup (Or.inr rfl) ?_) <;> simp [resAs, Tryz.results173, eTm_def] <;> omega)
          | refine T.rd (id := 7) mixed (fun _ => false) [11] (by kernel_rfl) fun K hK => ?_
          | refine T.rd1 (id := 7) mixed (fun _ => false) [11] (by kernel_rfl) fun K hK => ?_
          | refine T.rs (fun _ => false) fun K hK => ?_
          | refine T.rs1 (fun _ => false) fun K hK => ?_
          | (refine ⟨by omega, ?_⟩)
          | refine T.cond rfl (fun hcnd => ?_) (fun hcnd => absurd hcnd (by decide))
          | refine T.cond rfl (fun hcnd => absurd hcnd (by decide)) (fun hcnd => ?_)
          | refine T.seq ?_
          | refine T.block ?_
          | refine T.skip ?_
          | refine T.exit ?_
    · rcases hk with rfl | rfl
      · rw [show ruleM (tN1 11 a) = none by simp [ruleM, h10]]
        refine ACalls.of_body Tryz.func173 (by kernel_rfl) rfl (by kernel_rfl) (by simp [Tryz.ntmps173]) (by simp) ?_
        rw [Tryz.ntmps173]
        repeat' first
          | ((first | refine aops_end (hK _ ?_) | refine aopsD_end (hK _ ?_) | refine aopsF_end (hK _ ?_)); clear hK K)
          | ((first | refine aops_go ?_ | refine aopsD_go ?_ | refine aopsF_go ?_); simp [eTm_def, h10]; (try (refine gen fun q hq => ?_; cases q <;> (try simp [eTm_def, h10] at hq) <;> (try (have hh : True := hq; clear hh hq)))))
          | (refine T.ret (Done.tup (Or.inr rfl) ?_) <;> simp [resAs, Tryz.results173] <;> omega)
          | refine T.rd (id := 7) mixed (fun _ => false) [11] (by kernel_rfl) fun K hK => ?_
          | refine T.rd1 (id := 7) mixed (fun _ => false) [11] (by kernel_rfl) fun K hK => ?_
          | refine T.rs (fun _ => false) fun K hK => ?_
          | refine T.rs1 (fun _ => false) fun K hK => ?_
          | (refine ⟨by omega, ?_⟩)
          | refine T.cond rfl (fun hcnd => ?_) (fun hcnd => absurd hcnd (by decide))
          | refine T.cond rfl (fun hcnd => absurd hcnd (by decide)) (fun hcnd => ?_)
          | refine T.seq ?_
          | refine T.block ?_
          | refine T.skip ?_
          | refine T.exit ?_
      · rw [show ruleM (tN1 12 a) = none by simp [ruleM, h10]]
        refine ACalls.of_body Tryz.func173 (by kernel_rfl) rfl (by kernel_rfl) (by simp [Tryz.ntmps173]) (by simp) ?_
        rw [Tryz.ntmps173]
        repeat' first
          | ((first | refine aops_end (hK _ ?_) | refine aopsD_end (hK _ ?_) | refine aopsF_end (hK _ ?_)); clear hK K)
          | ((first | refine aops_go ?_ | refine aopsD_go ?_ | refine aopsF_go ?_); simp [eTm_def, h10]; (try (refine gen fun q hq => ?_; cases q <;> (try simp [eTm_def, h10] at hq) <;> (try (have hh : True := hq; clear hh hq)))))
          | (refine T.ret (Done.tup (Or.inr rfl) ?_) <;> simp [resAs, Tryz.results173] <;> omega)
          | refine T.rd (id := 7) mixed (fun _ => false) [11] (by kernel_rfl) fun K hK => ?_
          | refine T.rd1 (id := 7) mixed (fun _ => false) [11] (by kernel_rfl) fun K hK => ?_
          | refine T.rs (fun _ => false) fun K hK => ?_
          | refine T.rs1 (fun _ => false) fun K hK => ?_
          | (refine ⟨by omega, ?_⟩)
          | refine T.cond rfl (fun hcnd => ?_) (fun hcnd => absurd hcnd (by decide))
          | refine T.cond rfl (fun hcnd => absurd hcnd (by decide)) (fun hcnd => ?_)
          | refine T.seq ?_
          | refine T.block ?_
          | refine T.skip ?_
          | refine T.exit ?_
  · skip
    by_cases h3 : p.kind = 3
    · rw [show ruleM (tIf p a b) = some a by simp [ruleM, h3]]
      refine ACalls.of_body Tryz.func173 (by kernel_rfl) rfl (by kernel_rfl) (by simp [Tryz.ntmps173]) (by simp) ?_
      rw [Tryz.ntmps173]
      repeat' first
        | ((first | refine aops_end (hK _ ?_) | refine aopsD_end (hK _ ?_) | refine aopsF_end (hK _ ?_)); clear hK K)
        | ((first | refine aops_go ?_ | refine aopsD_go ?_ | refine aopsF_go ?_); simp [eTm_def, h3]; (try (refine gen fun q hq => ?_; cases q <;> (try simp [eTm_def, h3] at hq) <;> (try (have hh : True := hq; clear hh hq)))))
        | (refine T.ret (Done.tup (Or.inr rfl) ?_) <;> simp [resAs, Tryz.results173, eTm_def] <;> omega)
        | refine T.rd (id := 7) mixed (fun _ => false) [11] (by kernel_rfl) fun K hK => ?_
        | refine T.rd1 (id := 7) mixed (fun _ => false) [11] (by kernel_rfl) fun K hK => ?_
        | refine T.rs (fun _ => false) fun K hK => ?_
        | refine T.rs1 (fun _ => false) fun K hK => ?_
        | (refine ⟨by omega, ?_⟩)
        | refine T.cond rfl (fun hcnd => ?_) (fun hcnd => absurd hcnd (by decide))
        | refine T.cond rfl (fun hcnd => absurd hcnd (by decide)) (fun hcnd => ?_)
        | refine T.seq ?_
        | refine T.block ?_
        | refine T.skip ?_
        | refine T.exit ?_
    by_cases h4 : p.kind = 4
    · rw [show ruleM (tIf p a b) = some b by simp [ruleM, h4]]
      refine ACalls.of_body Tryz.func173 (by kernel_rfl) rfl (by kernel_rfl) (by simp [Tryz.ntmps173]) (by simp) ?_
      rw [Tryz.ntmps173]
      repeat' first
        | ((first | refine aops_end (hK _ ?_) | refine aopsD_end (hK _ ?_) | refine aopsF_end (hK _ ?_)); clear hK K)
        | ((first | refine aops_go ?_ | refine aopsD_go ?_ | refine aopsF_go ?_); simp [eTm_def, h4]; (try (refine gen fun q hq => ?_; cases q <;> (try simp [eTm_def, h4] at hq) <;> (try (have hh : True := hq; clear hh hq)))))
        | (refine T.ret (Done.tup (Or.inr rfl) ?_) <;> simp [resAs, Tryz.results173, eTm_def] <;> omega)
        | refine T.rd (id := 7) mixed (fun _ => false) [11] (by kernel_rfl) fun K hK => ?_
        | refine T.rd1 (id := 7) mixed (fun _ => false) [11] (by kernel_rfl) fun K hK => ?_
        | refine T.rs (fun _ => false) fun K hK => ?_
        | refine T.rs1 (fun _ => false) fun K hK => ?_
        | (refine ⟨by omega, ?_⟩)
        | refine T.cond rfl (fun hcnd => ?_) (fun hcnd => absurd hcnd (by decide))
        | refine T.cond rfl (fun hcnd => absurd hcnd (by decide)) (fun hcnd => ?_)
        | refine T.seq ?_
        | refine T.block ?_
        | refine T.skip ?_
        | refine T.exit ?_
    · rw [show ruleM (tIf p a b) = none by simp [ruleM, h3, h4]]
      refine ACalls.of_body Tryz.func173 (by kernel_rfl) rfl (by kernel_rfl) (by simp [Tryz.ntmps173]) (by simp) ?_
      rw [Tryz.ntmps173]
      repeat' first
        | ((first | refine aops_end (hK _ ?_) | refine aopsD_end (hK _ ?_) | refine aopsF_end (hK _ ?_)); clear hK K)
        | ((first | refine aops_go ?_ | refine aopsD_go ?_ | refine aopsF_go ?_); simp [eTm_def, h3, h4]; (try (refine gen fun q hq => ?_; cases q <;> (try simp [eTm_def, h3, h4] at hq) <;> (try (have hh : True := hq; clear hh hq)))))
        | (refine T.ret (Done.tup (Or.inr rfl) ?_) <;> simp [resAs, Tryz.results173] <;> omega)
        | refine T.rd (id := 7) mixed (fun _ => false) [11] (by kernel_rfl) fun K hK => ?_
        | refine T.rd1 (id := 7) mixed (fun _ => false) [11] (by kernel_rfl) fun K hK => ?_
        | refine T.rs (fun _ => false) fun K hK => ?_
        | refine T.rs1 (fun _ => false) fun K hK => ?_
        | (refine ⟨by omega, ?_⟩)
        | refine T.cond rfl (fun hcnd => ?_) (fun hcnd => absurd hcnd (by decide))
        | refine T.cond rfl (fun hcnd => absurd hcnd (by decide)) (fun hcnd => ?_)
        | refine T.seq ?_
        | refine T.block ?_
        | refine T.skip ?_
        | refine T.exit ?_
  · skip
    rcases hk with rfl | rfl | rfl | rfl
    · by_cases h5 : a.kind = 5
      · obtain ⟨s, t, x, rfl⟩ := ha.kind5 h5
        rw [show ruleM (tN2 6 (tLam s t x) b) = some (substM s b x) by simp [ruleM]]
        have k1 := subst_ok b s x (by simp [nTm_mk, nTmS] at hn; omega)
        generalize substM s b x = R at *
        refine ACalls.of_body Tryz.func173 (by kernel_rfl) rfl (by kernel_rfl) (by simp [Tryz.ntmps173]) (by simp) ?_
        rw [Tryz.ntmps173]
        repeat' first
          | ((first | refine aops_end (hK _ ?_) | refine aopsD_end (hK _ ?_) | refine aopsF_end (hK _ ?_)); clear hK K)
          | ((first | refine aops_go ?_ | refine aopsD_go ?_ | refine aopsF_go ?_); simp [eTm_def]; (try (refine gen fun q hq => ?_; cases q <;> (try simp [eTm_def] at hq) <;> (try (have hh : True := hq; clear hh hq)))))
          | (refine wpcall_pure ?_ (k1) ?_; (focus (solve | simp [eTm_def])); simp [eTm_def]; (try (refine gen fun q hq => ?_; cases q <;> (try simp [eTm_def] at hq) <;> (try (have hh : True := hq; clear hh hq)))))
          | (refine T.ret (Done.tup (Or.inr rfl) ?_) <;> simp [resAs, Tryz.results173] <;> omega)
          | refine T.rd (id := 7) mixed (fun _ => false) [11] (by kernel_rfl) fun K hK => ?_
          | refine T.rd1 (id := 7) mixed (fun _ => false) [11] (by kernel_rfl) fun K hK => ?_
          | refine T.rs (fun _ => false) fun K hK => ?_
          | refine T.rs1 (fun _ => false) fun K hK => ?_
          | (refine ⟨by omega, ?_⟩)
          | refine T.cond rfl (fun hcnd => ?_) (fun hcnd => absurd hcnd (by decide))
          | refine T.cond rfl (fun hcnd => absurd hcnd (by decide)) (fun hcnd => ?_)
          | refine T.seq ?_
          | refine T.block ?_
          | refine T.skip ?_
          | refine T.exit ?_
      · rw [show ruleM (tN2 6 a b) = none by simp [ruleM, h5]]
        refine ACalls.of_body Tryz.func173 (by kernel_rfl) rfl (by kernel_rfl) (by simp [Tryz.ntmps173]) (by simp) ?_
        rw [Tryz.ntmps173]
        repeat' first
          | ((first | refine aops_end (hK _ ?_) | refine aopsD_end (hK _ ?_) | refine aopsF_end (hK _ ?_)); clear hK K)
          | ((first | refine aops_go ?_ | refine aopsD_go ?_ | refine aopsF_go ?_); simp [eTm_def, h5]; (try (refine gen fun q hq => ?_; cases q <;> (try simp [eTm_def, h5] at hq) <;> (try (have hh : True := hq; clear hh hq)))))
          | (refine T.ret (Done.tup (Or.inr rfl) ?_) <;> simp [resAs, Tryz.results173] <;> omega)
          | refine T.rd (id := 7) mixed (fun _ => false) [11] (by kernel_rfl) fun K hK => ?_
          | refine T.rd1 (id := 7) mixed (fun _ => false) [11] (by kernel_rfl) fun K hK => ?_
          | refine T.rs (fun _ => false) fun K hK => ?_
          | refine T.rs1 (fun _ => false) fun K hK => ?_
          | (refine ⟨by omega, ?_⟩)
          | refine T.cond rfl (fun hcnd => ?_) (fun hcnd => absurd hcnd (by decide))
          | refine T.cond rfl (fun hcnd => absurd hcnd (by decide)) (fun hcnd => ?_)
          | refine T.seq ?_
          | refine T.block ?_
          | refine T.skip ?_
          | refine T.exit ?_
    · by_cases h2 : a.kind = 2 ∧ b.kind = 2
      · obtain ⟨m, rfl, hm1, hm2⟩ := ha.kind2 h2.1
        obtain ⟨n, rfl, hn1, hn2⟩ := hb.kind2 h2.2
        rw [show ruleM (tN2 7 (tNum m) (tNum n)) = some (tNum ((m + n).tmod 1000)) by simp [ruleM]]
        refine ACalls.of_body Tryz.func173 (by kernel_rfl) rfl (by kernel_rfl) (by simp [Tryz.ntmps173]) (by simp) ?_
        rw [Tryz.ntmps173]
        repeat' first
          | ((first | refine aops_end (hK _ ?_) | refine aopsD_end (hK _ ?_) | refine aopsF_end (hK _ ?_)); clear hK K)
          | ((first | refine aops_go ?_ | refine aopsD_go ?_ | refine aopsF_go ?_); simp [eTm_def]; (try simp (disch := omega) only [wrap64]); (try (refine gen fun q hq => ?_; cases q <;> (try simp [eTm_def] at hq) <;> (try (have hh : True := hq; clear hh hq)))))
          | (refine T.ret (Done.tup (Or.inr rfl) ?_) <;> simp [resAs, Tryz.results173] <;> omega)
          | refine T.rd (id := 7) mixed (fun _ => false) [11] (by kernel_rfl) fun K hK => ?_
          | refine T.rd1 (id := 7) mixed (fun _ => false) [11] (by kernel_rfl) fun K hK => ?_
          | refine T.rs (fun _ => false) fun K hK => ?_
          | refine T.rs1 (fun _ => false) fun K hK => ?_
          | (refine ⟨by omega, ?_⟩)
          | refine T.cond rfl (fun hcnd => ?_) (fun hcnd => absurd hcnd (by decide))
          | refine T.cond rfl (fun hcnd => absurd hcnd (by decide)) (fun hcnd => ?_)
          | refine T.seq ?_
          | refine T.block ?_
          | refine T.skip ?_
          | refine T.exit ?_
      · rw [show ruleM (tN2 7 a b) = none by simp [ruleM]; omega]
        by_cases ha2 : a.kind = 2
        · have hb2 : ¬ b.kind = 2 := fun h => h2 ⟨ha2, h⟩
          refine ACalls.of_body Tryz.func173 (by kernel_rfl) rfl (by kernel_rfl) (by simp [Tryz.ntmps173]) (by simp) ?_
          rw [Tryz.ntmps173]
          repeat' first
            | ((first | refine aops_end (hK _ ?_) | refine aopsD_end (hK _ ?_) | refine aopsF_end (hK _ ?_)); clear hK K)
            | ((first | refine aops_go ?_ | refine aopsD_go ?_ | refine aopsF_go ?_); simp [eTm_def, ha2, hb2]; (try (refine gen fun q hq => ?_; cases q <;> (try simp [eTm_def, ha2, hb2] at hq) <;> (try (have hh : True := hq; clear hh hq)))))
            | (refine T.ret (Done.tup (Or.inr rfl) ?_) <;> simp [resAs, Tryz.results173] <;> omega)
            | refine T.rd (id := 7) mixed (fun _ => false) [11] (by kernel_rfl) fun K hK => ?_
            | refine T.rd1 (id := 7) mixed (fun _ => false) [11] (by kernel_rfl) fun K hK => ?_
            | refine T.rs (fun _ => false) fun K hK => ?_
            | refine T.rs1 (fun _ => false) fun K hK => ?_
            | (refine ⟨by omega, ?_⟩)
            | refine T.cond rfl (fun hcnd => ?_) (fun hcnd => absurd hcnd (by decide))
            | refine T.cond rfl (fun hcnd => absurd hcnd (by decide)) (fun hcnd => ?_)
            | refine T.seq ?_
            | refine T.block ?_
            | refine T.skip ?_
            | refine T.exit ?_
        · refine ACalls.of_body Tryz.func173 (by kernel_rfl) rfl (by kernel_rfl) (by simp [Tryz.ntmps173]) (by simp) ?_
          rw [Tryz.ntmps173]
          repeat' first
            | ((first | refine aops_end (hK _ ?_) | refine aopsD_end (hK _ ?_) | refine aopsF_end (hK _ ?_)); clear hK K)
            | ((first | refine aops_go ?_ | refine aopsD_go ?_ | refine aopsF_go ?_); simp [eTm_def, ha2]; (try (refine gen fun q hq => ?_; cases q <;> (try simp [eTm_def, ha2] at hq) <;> (try (have hh : True := hq; clear hh hq)))))
            | (refine T.ret (Done.tup (Or.inr rfl) ?_) <;> simp [resAs, Tryz.results173] <;> omega)
            | refine T.rd (id := 7) mixed (fun _ => false) [11] (by kernel_rfl) fun K hK => ?_
            | refine T.rd1 (id := 7) mixed (fun _ => false) [11] (by kernel_rfl) fun K hK => ?_
            | refine T.rs (fun _ => false) fun K hK => ?_
            | refine T.rs1 (fun _ => false) fun K hK => ?_
            | (refine ⟨by omega, ?_⟩)
            | refine T.cond rfl (fun hcnd => ?_) (fun hcnd => absurd hcnd (by decide))
            | refine T.cond rfl (fun hcnd => absurd hcnd (by decide)) (fun hcnd => ?_)
            | refine T.seq ?_
            | refine T.block ?_
            | refine T.skip ?_
            | refine T.exit ?_
    · by_cases h2 : a.kind = 2 ∧ b.kind = 2
      · obtain ⟨m, rfl, hm1, hm2⟩ := ha.kind2 h2.1
        obtain ⟨n, rfl, hn1, hn2⟩ := hb.kind2 h2.2
        by_cases hmn : m < n
        · rw [show ruleM (tN2 8 (tNum m) (tNum n)) = some tTrue by simp [ruleM, truthM, hmn]]
          have k1 := truth_ok true
          rw [show truthM true = tTrue from rfl] at k1
          refine ACalls.of_body Tryz.func173 (by kernel_rfl) rfl (by kernel_rfl) (by simp [Tryz.ntmps173]) (by simp) ?_
          rw [Tryz.ntmps173]
          repeat' first
            | ((first | refine aops_end (hK _ ?_) | refine aopsD_end (hK _ ?_) | refine aopsF_end (hK _ ?_)); clear hK K)
            | ((first | refine aops_go ?_ | refine aopsD_go ?_ | refine aopsF_go ?_); simp [eTm_def, hmn]; (try simp (disch := omega) only [wrap64]); (try (refine gen fun q hq => ?_; cases q <;> (try simp [eTm_def, hmn] at hq) <;> (try (have hh : True := hq; clear hh hq)))))
            | (refine wpcall_pure rfl (k1) ?_; simp [eTm_def, hmn]; (try simp (disch := omega) only [wrap64]); (try (refine gen fun q hq => ?_; cases q <;> (try simp [eTm_def, hmn] at hq) <;> (try (have hh : True := hq; clear hh hq)))))
            | (refine T.ret (Done.tup (Or.inr rfl) ?_) <;> simp [resAs, Tryz.results173] <;> omega)
            | refine T.rd (id := 7) mixed (fun _ => false) [11] (by kernel_rfl) fun K hK => ?_
            | refine T.rd1 (id := 7) mixed (fun _ => false) [11] (by kernel_rfl) fun K hK => ?_
            | refine T.rs (fun _ => false) fun K hK => ?_
            | refine T.rs1 (fun _ => false) fun K hK => ?_
            | (refine ⟨by omega, ?_⟩)
            | refine T.cond rfl (fun hcnd => ?_) (fun hcnd => absurd hcnd (by decide))
            | refine T.cond rfl (fun hcnd => absurd hcnd (by decide)) (fun hcnd => ?_)
            | refine T.seq ?_
            | refine T.block ?_
            | refine T.skip ?_
            | refine T.exit ?_
        · rw [show ruleM (tN2 8 (tNum m) (tNum n)) = some tFalse by simp [ruleM, truthM, hmn]]
          have k1 := truth_ok false
          rw [show truthM false = tFalse from rfl] at k1
          refine ACalls.of_body Tryz.func173 (by kernel_rfl) rfl (by kernel_rfl) (by simp [Tryz.ntmps173]) (by simp) ?_
          rw [Tryz.ntmps173]
          repeat' first
            | ((first | refine aops_end (hK _ ?_) | refine aopsD_end (hK _ ?_) | refine aopsF_end (hK _ ?_)); clear hK K)
            | ((first | refine aops_go ?_ | refine aopsD_go ?_ | refine aopsF_go ?_); simp [eTm_def, hmn]; (try simp (disch := omega) only [wrap64]); (try (refine gen fun q hq => ?_; cases q <;> (try simp [eTm_def, hmn] at hq) <;> (try (have hh : True := hq; clear hh hq)))))
            | (refine wpcall_pure rfl (k1) ?_; simp [eTm_def, hmn]; (try simp (disch := omega) only [wrap64]); (try (refine gen fun q hq => ?_; cases q <;> (try simp [eTm_def, hmn] at hq) <;> (try (have hh : True := hq; clear hh hq)))))
            | (refine T.ret (Done.tup (Or.inr rfl) ?_) <;> simp [resAs, Tryz.results173] <;> omega)
            | refine T.rd (id := 7) mixed (fun _ => false) [11] (by kernel_rfl) fun K hK => ?_
            | refine T.rd1 (id := 7) mixed (fun _ => false) [11] (by kernel_rfl) fun K hK => ?_
            | refine T.rs (fun _ => false) fun K hK => ?_
            | refine T.rs1 (fun _ => false) fun K hK => ?_
            | (refine ⟨by omega, ?_⟩)
            | refine T.cond rfl (fun hcnd => ?_) (fun hcnd => absurd hcnd (by decide))
            | refine T.cond rfl (fun hcnd => absurd hcnd (by decide)) (fun hcnd => ?_)
            | refine T.seq ?_
            | refine T.block ?_
            | refine T.skip ?_
            | refine T.exit ?_
      · rw [show ruleM (tN2 8 a b) = none by simp [ruleM]; omega]
        by_cases ha2 : a.kind = 2
        · have hb2 : ¬ b.kind = 2 := fun h => h2 ⟨ha2, h⟩
          refine ACalls.of_body Tryz.func173 (by kernel_rfl) rfl (by kernel_rfl) (by simp [Tryz.ntmps173]) (by simp) ?_
          rw [Tryz.ntmps173]
          repeat' first
            | ((first | refine aops_end (hK _ ?_) | refine aopsD_end (hK _ ?_) | refine aopsF_end (hK _ ?_)); clear hK K)
            | ((first | refine aops_go ?_ | refine aopsD_go ?_ | refine aopsF_go ?_); simp [eTm_def, ha2, hb2]; (try (refine gen fun q hq => ?_; cases q <;> (try simp [eTm_def, ha2, hb2] at hq) <;> (try (have hh : True := hq; clear hh hq)))))
            | (refine T.ret (Done.tup (Or.inr rfl) ?_) <;> simp [resAs, Tryz.results173] <;> omega)
            | refine T.rd (id := 7) mixed (fun _ => false) [11] (by kernel_rfl) fun K hK => ?_
            | refine T.rd1 (id := 7) mixed (fun _ => false) [11] (by kernel_rfl) fun K hK => ?_
            | refine T.rs (fun _ => false) fun K hK => ?_
            | refine T.rs1 (fun _ => false) fun K hK => ?_
            | (refine ⟨by omega, ?_⟩)
            | refine T.cond rfl (fun hcnd => ?_) (fun hcnd => absurd hcnd (by decide))
            | refine T.cond rfl (fun hcnd => absurd hcnd (by decide)) (fun hcnd => ?_)
            | refine T.seq ?_
            | refine T.block ?_
            | refine T.skip ?_
            | refine T.exit ?_
        · refine ACalls.of_body Tryz.func173 (by kernel_rfl) rfl (by kernel_rfl) (by simp [Tryz.ntmps173]) (by simp) ?_
          rw [Tryz.ntmps173]
          repeat' first
            | ((first | refine aops_end (hK _ ?_) | refine aopsD_end (hK _ ?_) | refine aopsF_end (hK _ ?_)); clear hK K)
            | ((first | refine aops_go ?_ | refine aopsD_go ?_ | refine aopsF_go ?_); simp [eTm_def, ha2]; (try (refine gen fun q hq => ?_; cases q <;> (try simp [eTm_def, ha2] at hq) <;> (try (have hh : True := hq; clear hh hq)))))
            | (refine T.ret (Done.tup (Or.inr rfl) ?_) <;> simp [resAs, Tryz.results173] <;> omega)
            | refine T.rd (id := 7) mixed (fun _ => false) [11] (by kernel_rfl) fun K hK => ?_
            | refine T.rd1 (id := 7) mixed (fun _ => false) [11] (by kernel_rfl) fun K hK => ?_
            | refine T.rs (fun _ => false) fun K hK => ?_
            | refine T.rs1 (fun _ => false) fun K hK => ?_
            | (refine ⟨by omega, ?_⟩)
            | refine T.cond rfl (fun hcnd => ?_) (fun hcnd => absurd hcnd (by decide))
            | refine T.cond rfl (fun hcnd => absurd hcnd (by decide)) (fun hcnd => ?_)
            | refine T.seq ?_
            | refine T.block ?_
            | refine T.skip ?_
            | refine T.exit ?_
    · rw [show ruleM (tN2 10 a b) = none by simp [ruleM]]
      refine ACalls.of_body Tryz.func173 (by kernel_rfl) rfl (by kernel_rfl) (by simp [Tryz.ntmps173]) (by simp) ?_
      rw [Tryz.ntmps173]
      repeat' first
        | ((first | refine aops_end (hK _ ?_) | refine aopsD_end (hK _ ?_) | refine aopsF_end (hK _ ?_)); clear hK K)
        | ((first | refine aops_go ?_ | refine aopsD_go ?_ | refine aopsF_go ?_); simp [eTm_def]; (try (refine gen fun q hq => ?_; cases q <;> (try simp [eTm_def] at hq) <;> (try (have hh : True := hq; clear hh hq)))))
        | (refine T.ret (Done.tup (Or.inr rfl) ?_) <;> simp [resAs, Tryz.results173] <;> omega)
        | refine T.rd (id := 7) mixed (fun _ => false) [11] (by kernel_rfl) fun K hK => ?_
        | refine T.rd1 (id := 7) mixed (fun _ => false) [11] (by kernel_rfl) fun K hK => ?_
        | refine T.rs (fun _ => false) fun K hK => ?_
        | refine T.rs1 (fun _ => false) fun K hK => ?_
        | (refine ⟨by omega, ?_⟩)
        | refine T.cond rfl (fun hcnd => ?_) (fun hcnd => absurd hcnd (by decide))
        | refine T.cond rfl (fun hcnd => absurd hcnd (by decide)) (fun hcnd => ?_)
        | refine T.seq ?_
        | refine T.block ?_
        | refine T.skip ?_
        | refine T.exit ?_

end Go.Proofs.YtfdknjjnifnobaaGreat

namespace Go.Proofs.YtfdknjjnifnobaaGreat
open Go Go.Av
attribute [local irreducible] T ACalls TX EX LX Draws Some_ ACallsX eTy eTm MTy.kind MTy.kids MTm.kind MTm.name MTm.num MTm.ty MTm.fr MTm.label MTm.kids
attribute [local simp] eTy_def eTm_def
set_option linter.unusedSimpArgs false
set_option linter.unusedVariables false
set_option maxHeartbeats 16000000
set_option maxRecDepth 8000

def cntP (l : List MTy) (p : Nat) : Nat := ((l.take p).map cntM).sum
end Go.Proofs.YtfdknjjnifnobaaGreat

namespace Go.Proofs.YtfdknjjnifnobaaGreat
open Go Go.Av
attribute [local irreducible] T ACalls TX EX LX Draws Some_ ACallsX eTy eTm MTy.kind MTy.kids MTm.kind MTm.name MTm.num MTm.ty MTm.fr MTm.label MTm.kids
attribute [local simp] eTy_def eTm_def
set_option linter.unusedSimpArgs false
set_option linter.unusedVariables false
set_option maxHeartbeats 16000000
set_option maxRecDepth 8000
@[simp] theorem td_uint : td Tryz.prog 132 = some { ag := false, sz := 1, by_ := 8, zero := some [.d (.int .u64 0)], el := none, ar := none, fl := [], ik := some .u64, isS := false, isB := false } := keep (by kernel_rfl)
@[simp] theorem td_intS2 : td Tryz.prog 51 = some { ag := false, sz := 1, by_ := 24, zero := some [.nil], el := some 3, ar := none, fl := [], ik := none, isS := false, isB := false } := keep (by kernel_rfl)

end Go.Proofs.YtfdknjjnifnobaaGreat

namespace Go.Proofs.YtfdknjjnifnobaaGreat
open Go Go.Av
attribute [local irreducible] T ACalls TX EX LX Draws Some_ ACallsX eTy eTm MTy.kind MTy.kids MTm.kind MTm.name MTm.num MTm.ty MTm.fr MTm.label MTm.kids
attribute [local simp] eTy_def eTm_def
set_option linter.unusedSimpArgs false
set_option linter.unusedVariables false
set_option maxHeartbeats 16000000
set_option maxRecDepth 8000

def redM (e : MTm) : Int := if castValidM e = true then ((castsM e).length : Int) - (castsM (simpM e)).length else 0

/-- A copy whose operands the caller may change. -/
abbrev tmOwn (e : MTm) : AV := .agg [.d (.i e.kind), .d (.str e.name), .d (.i e.num), .d (.i e.ty.kind), .d (.sl (e.ty.kids.map eTy)), .d (.i e.fr.kind), .d (.sl (e.fr.kids.map eTy)), .d (.i e.label), .own 0 e.kids.length]
/-- The operands, simplified as_ far as_ a place. -/
def mixM (l : List MTm) (p : Nat) : List MTm := (l.map simpM).take p ++ l.drop p
end Go.Proofs.YtfdknjjnifnobaaGreat

namespace Go.Proofs.YtfdknjjnifnobaaGreat
open Go Go.Av
attribute [local irreducible] T ACalls TX EX LX Draws Some_ ACallsX eTy eTm MTy.kind MTy.kids MTm.kind MTm.name MTm.num MTm.ty MTm.fr MTm.label MTm.kids
attribute [local simp] eTy_def eTm_def
set_option linter.unusedSimpArgs false
set_option linter.unusedVariables false
set_option maxHeartbeats 16000000
set_option maxRecDepth 8000
attribute [local simp] Option.bind

theorem isFuel_ok (n : Int) : ACalls Tryz.prog 105 [.i n] [] (.b (fuelM n)) [] [] := by
  have h : ACalls Tryz.prog 166 [.i n, .i 0, .i 300] [] (.b (fuelM n)) [] [] := by
    rw [fuelM]
    refine ACalls.of_body Tryz.func166 (by kernel_rfl) rfl (by kernel_rfl) (by simp [Tryz.ntmps166]) (by simp) ?_
    rw [Tryz.ntmps166]
    repeat' first
      | ((first | refine aops_end (hK _ ?_) | refine aopsD_end (hK _ ?_) | refine aopsF_end (hK _ ?_)); clear hK K)
      | ((first | refine aops_go ?_ | refine aopsD_go ?_ | refine aopsF_go ?_); simp; (try (refine gen fun q hq => ?_; cases q <;> (try simp at hq) <;> (try (have hh : True := hq; clear hh hq)))))
      | (refine T.ret (Done.data (Or.inr rfl) ?_ ?_) <;> simp [Tryz.results166, *] <;> omega)
      | refine T.rs (fun _ => false) fun K hK => ?_
      | refine T.rs1 (fun _ => false) fun K hK => ?_
      | (refine ⟨by omega, ?_⟩)
      | refine T.cond rfl (fun hcnd => ?_) (fun hcnd => absurd hcnd (by decide))
      | refine T.cond rfl (fun hcnd => absurd hcnd (by decide)) (fun hcnd => ?_)
      | refine T.seq ?_
      | refine T.block ?_
      | refine T.skip ?_
      | refine T.exit ?_
  refine ACalls.of_body Tryz.func105 (by kernel_rfl) rfl (by kernel_rfl) (by simp [Tryz.ntmps105]) (by simp) ?_
  rw [Tryz.ntmps105]
  repeat' first
    | ((first | refine aops_end (hK _ ?_) | refine aopsD_end (hK _ ?_) | refine aopsF_end (hK _ ?_)); clear hK K)
    | ((first | refine aops_go ?_ | refine aopsD_go ?_ | refine aopsF_go ?_); simp; (try (refine gen fun q hq => ?_; cases q <;> (try simp at hq) <;> (try (have hh : True := hq; clear hh hq)))))
    | (refine wpcall_pure rfl (h) ?_; simp; (try (refine gen fun q hq => ?_; cases q <;> (try simp at hq) <;> (try (have hh : True := hq; clear hh hq)))))
    | (refine T.ret (Done.data (Or.inr rfl) ?_ ?_) <;> simp [Tryz.results105] <;> omega)
    | refine T.rs (fun _ => false) fun K hK => ?_
    | refine T.rs1 (fun _ => false) fun K hK => ?_
    | (refine ⟨by omega, ?_⟩)
    | refine T.cond rfl (fun hcnd => ?_) (fun hcnd => absurd hcnd (by decide))
    | refine T.cond rfl (fun hcnd => absurd hcnd (by decide)) (fun hcnd => ?_)
    | refine T.seq ?_
    | refine T.block ?_
    | refine T.skip ?_
    | refine T.exit ?_

abbrev stepR (p : MTm × Int × Int) : List AV := [aTm p.1, .i p.2.1, .i p.2.2]

/-- The step of a term, by the first operand that is no value. -/
theorem stepB_at {e : MTm} {i : Nat} {u : MTm} (h : firstNV (e.kids.take (countsM e)) = some i) (hu : e.kids[i]? = some u) :
    stepB e = (.mk e.kind e.name e.num e.ty e.fr e.label (e.kids.set i (stepB u).1), (stepB u).2.1, (stepB u).2.2) := by
  have : e.kids.getD i zeroE = u := by rw [List.getD_eq_getElem?_getD, hu]; rfl
  rw [stepB_def, stepBS_first, h]
  simp only [this]
theorem stepB_none {e : MTm} (h : firstNV (e.kids.take (countsM e)) = none) : stepB e = match ruleM e with
    | some x => (x, 1, 0)
    | none => (zeroE, 2, wrongM e.kind) := by
  rw [stepB_def, stepBS_first, h]
  cases ruleM e <;> rfl

theorem bareStep_node (e : MTm) (hlen : e.kids.length ≤ 3) (hcnt : countsM e ≤ e.kids.length) (hr : ACalls Tryz.prog 173 [aTm e] [] (.tup (ruleR (ruleM e))) [] []) (hnu : ∀ u ∈ e.kids, nTm u ≤ 1073741824)
    (ih : ∀ u ∈ e.kids, ACalls Tryz.prog 111 [aTm u] [] (.tup (stepR (stepB u))) [] []) : ACalls Tryz.prog 111 [aTm e] [] (.tup (stepR (stepB e))) [] [] := by
  have hc := counts_ok e
  have hw := wrong_ok e
  have hcl := cloneTm_own e.kids (by omega)
  obtain ⟨R, hR⟩ : ∃ R, firstNV (e.kids.take (countsM e)) = R := ⟨_, rfl⟩
  have hat : ∀ i u, e.kids[i]? = some u → R = some i → stepB e = (.mk e.kind e.name e.num e.ty e.fr e.label (e.kids.set i (stepB u).1), (stepB u).2.1, (stepB u).2.2) := fun i u h1 h2 => stepB_at (hR.trans h2) h1
  have hnone : R = none → stepB e = match ruleM e with
    | some x => (x, 1, 0)
    | none => (zeroE, 2, wrongM e.kind) := fun h => stepB_none (hR.trans h)
  generalize stepB e = S at *
  obtain ⟨n, hn⟩ : ∃ n, countsM e = n := ⟨_, rfl⟩
  rw [hn] at hR hcnt hc
  obtain ⟨L, hL⟩ : ∃ L, e.kids.take n = L := ⟨_, rfl⟩
  have hLm : List.take n (List.map eTm e.kids) = L.map eTm := by rw [← hL, List.map_take]
  have hLl : L.length = n := by rw [← hL]; simp; omega
  have hLu : ∀ i u, L[i]? = some u → e.kids[i]? = some u := fun i u h => by
    rw [← hL] at h
    have hi : i < n := by have := (List.getElem?_eq_some_iff.1 h).1; simp at this; omega
    rwa [List.getElem?_take_of_lt hi] at h
  rw [hL] at hR
  have hnl : (n : Int) ≤ e.kids.length := by omega
  subst hLl
  refine ACalls.of_body Tryz.func111 (by kernel_rfl) rfl (by kernel_rfl) (by simp [Tryz.ntmps111]) (by simp) ?_
  rw [Tryz.ntmps111]
  repeat' first
    | ((first | refine aops_end (hK _ ?_) | refine aopsD_end (hK _ ?_) | refine aopsF_end (hK _ ?_)); clear hK K)
    | ((first | refine aops_go ?_ | refine aopsD_go ?_ | refine aopsF_go ?_); simp [hLm, hnl]; (try (refine gen fun q hq => ?_; cases q <;> (try simp [hLm, hnl] at hq) <;> (try (have hh : True := hq; clear hh hq)))))
    | (refine wpcall_pure rfl (hc) ?_; simp [hLm, hnl]; (try (refine gen fun q hq => ?_; cases q <;> (try simp [hLm, hnl] at hq) <;> (try (have hh : True := hq; clear hh hq)))))
    | refine T.rd (id := 1) mixed (fun _ => false) [] (by kernel_rfl) fun K hK => ?_
    | refine T.rd1 (id := 1) mixed (fun _ => false) [] (by kernel_rfl) fun K hK => ?_
    | refine T.rs (fun _ => false) fun K hK => ?_
    | refine T.rs1 (fun _ => false) fun K hK => ?_
    | (refine ⟨by omega, ?_⟩)
    | refine T.cond rfl (fun hcnd => ?_) (fun hcnd => absurd hcnd (by decide))
    | refine T.cond rfl (fun hcnd => absurd hcnd (by decide)) (fun hcnd => ?_)
    | refine T.seq ?_
    | refine T.block ?_
    | refine T.skip ?_
    | refine T.exit ?_
  refine T.loopK (α := Nat × List (List CV)) [1, 2, 17, 18] (fun x => [(3, .i 0), (4, .i 0), (19, .i x.1)]) (fun x => []) (fun x => x.2) (fun x A => A) (fun x => L.length + 1 - x.1) (fun x => x.1 ≤ L.length ∧ (firstNV (L.drop x.1)).map (· + x.1) = R) (by simp; rfl) (fun x hx => ?_) (0, []) (by simp [hR]) (by simp) (by simp) (by simp)
  obtain ⟨p, G⟩ := x
  obtain ⟨hx, he⟩ := hx
  dsimp only at hx he ⊢
  simp only [ups, List.set_cons_zero, List.set_cons_succ, List.cons_append, List.nil_append, List.append_nil]
  by_cases hlt : p < L.length
  · obtain ⟨u, ht⟩ := get_lt hlt
    have htm : u ∈ L := List.mem_of_getElem? ht
    have hgt : L[p] = u := by rw [List.getElem?_eq_getElem hlt] at ht; exact Option.some.inj ht
    have hdr : L.drop p = u :: L.drop (p + 1) := by rw [List.drop_eq_getElem_cons hlt, hgt]
    have hku := hLu p u ht
    have hum : u ∈ e.kids := List.mem_of_getElem? hku
    have hpk : p < e.kids.length := (List.getElem?_eq_some_iff.1 hku).1
    have hv := isValue_ok u (by have := hnu u hum; omega)
    rw [hdr, firstNV] at he
    cases hb : valM u with
    | true =>
      rw [hb] at hv he
      simp only [if_true, Option.map_map] at he
      have he' : (firstNV (L.drop (p + 1))).map (· + (p + 1)) = R := by rw [← he]; congr 1; funext z; simp; omega
      repeat' first
        | ((first | refine aops_end (hK _ ?_) | refine aopsD_end (hK _ ?_) | refine aopsF_end (hK _ ?_)); clear hK K)
        | ((first | refine aops_go ?_ | refine aopsD_go ?_ | refine aopsF_go ?_); simp [hlt, hgt]; (try simp (disch := omega) only [wrap64]); (try (refine gen fun q hq => ?_; cases q <;> (try simp [hlt, hgt] at hq) <;> (try (have hh : True := hq; clear hh hq)))))
        | (refine wpcall_pure rfl (hv) ?_; simp [hlt, hgt]; (try simp (disch := omega) only [wrap64]); (try (refine gen fun q hq => ?_; cases q <;> (try simp [hlt, hgt] at hq) <;> (try (have hh : True := hq; clear hh hq)))))
        | (refine ⟨(p + 1, _), by dsimp only; omega, ⟨by dsimp only; omega, he'⟩, rfl, ?_, ?_⟩ <;> simp (disch := omega) [wrap64])
        | refine T.rd (id := 1) mixed (fun _ => false) [] (by kernel_rfl) fun K hK => ?_
        | refine T.rd1 (id := 1) mixed (fun _ => false) [] (by kernel_rfl) fun K hK => ?_
        | refine T.rs (fun _ => false) fun K hK => ?_
        | refine T.rs1 (fun _ => false) fun K hK => ?_
        | (refine ⟨by omega, ?_⟩)
        | refine T.cond rfl (fun hcnd => ?_) (fun hcnd => absurd hcnd (by decide))
        | refine T.cond rfl (fun hcnd => absurd hcnd (by decide)) (fun hcnd => ?_)
        | refine T.seq ?_
        | refine T.block ?_
        | refine T.skip ?_
        | refine T.exit ?_
    | false =>
      rw [hb] at hv he
      simp at he
      have hs := hat p u hku he.symm
      have hi := ih u hum
      generalize stepB u = su at *
      obtain ⟨y, cd, lb⟩ := su
      subst hs
      repeat' first
        | ((first | refine aops_end (hK _ ?_) | refine aopsD_end (hK _ ?_) | refine aopsF_end (hK _ ?_)); clear hK K)
        | ((first | refine aops_go ?_ | refine aopsD_go ?_ | refine aopsF_go ?_); simp [hlt, hgt, hpk]; (try simp (disch := omega) only [wrap64]); (try (refine gen fun q hq => ?_; cases q <;> (try simp [hlt, hgt, hpk] at hq) <;> (try (have hh : True := hq; clear hh hq)))))
        | (refine wpcall_pure rfl (hv) ?_; simp [hlt, hgt, hpk]; (try simp (disch := omega) only [wrap64]); (try (refine gen fun q hq => ?_; cases q <;> (try simp [hlt, hgt, hpk] at hq) <;> (try (have hh : True := hq; clear hh hq)))))
        | (refine wpcall_pure rfl (hi) ?_; simp [hlt, hgt, hpk]; (try simp (disch := omega) only [wrap64]); (try (refine gen fun q hq => ?_; cases q <;> (try simp [hlt, hgt, hpk] at hq) <;> (try (have hh : True := hq; clear hh hq)))))
        | (refine wpcall_own rfl (hcl) ?_; simp [hlt, hgt, hpk]; (try simp (disch := omega) only [wrap64]); (try (refine gen fun q hq => ?_; cases q <;> (try simp [hlt, hgt, hpk] at hq) <;> (try (have hh : True := hq; clear hh hq)))))
        | (refine ⟨by omega, by omega, ?_⟩)
        | (refine T.ret (Done.tup (Or.inr rfl) ?_) <;> simp [resAs, Tryz.results111, eTm_def, List.map_set] <;> omega)
        | refine T.rd (id := 1) mixed (fun _ => false) [] (by kernel_rfl) fun K hK => ?_
        | refine T.rd1 (id := 1) mixed (fun _ => false) [] (by kernel_rfl) fun K hK => ?_
        | refine T.rs (fun _ => false) fun K hK => ?_
        | refine T.rs1 (fun _ => false) fun K hK => ?_
        | (refine ⟨by omega, ?_⟩)
        | refine T.cond rfl (fun hcnd => ?_) (fun hcnd => absurd hcnd (by decide))
        | refine T.cond rfl (fun hcnd => absurd hcnd (by decide)) (fun hcnd => ?_)
        | refine T.seq ?_
        | refine T.block ?_
        | refine T.skip ?_
        | refine T.exit ?_
  · have hp' : p = L.length := by omega
    subst hp'
    simp [firstNV] at he
    have hs := hnone he.symm
    cases hq : ruleM e with
    | none =>
      rw [hq] at hs hr
      subst hs
      simp only [ruleR] at hr
      repeat' first
        | ((first | refine aops_end (hK _ ?_) | refine aopsD_end (hK _ ?_) | refine aopsF_end (hK _ ?_)); clear hK K)
        | ((first | refine aops_go ?_ | refine aopsD_go ?_ | refine aopsF_go ?_); simp [hlt]; (try (refine gen fun q hq => ?_; cases q <;> (try simp [hlt] at hq) <;> (try (have hh : True := hq; clear hh hq)))))
        | (refine wpcall_pure rfl (hr) ?_; simp [hlt]; (try (refine gen fun q hq => ?_; cases q <;> (try simp [hlt] at hq) <;> (try (have hh : True := hq; clear hh hq)))))
        | (refine wpcall_pure rfl (hw) ?_; simp [hlt]; (try (refine gen fun q hq => ?_; cases q <;> (try simp [hlt] at hq) <;> (try (have hh : True := hq; clear hh hq)))))
        | (refine T.ret (Done.tup (Or.inr rfl) ?_) <;> simp [resAs, Tryz.results111] <;> omega)
        | refine T.rd (id := 1) mixed (fun _ => false) [] (by kernel_rfl) fun K hK => ?_
        | refine T.rd1 (id := 1) mixed (fun _ => false) [] (by kernel_rfl) fun K hK => ?_
        | refine T.rs (fun _ => false) fun K hK => ?_
        | refine T.rs1 (fun _ => false) fun K hK => ?_
        | (refine ⟨by omega, ?_⟩)
        | refine T.cond rfl (fun hcnd => ?_) (fun hcnd => absurd hcnd (by decide))
        | refine T.cond rfl (fun hcnd => absurd hcnd (by decide)) (fun hcnd => ?_)
        | refine T.seq ?_
        | refine T.block ?_
        | refine T.skip ?_
        | refine T.exit ?_
    | some x =>
      rw [hq] at hs hr
      subst hs
      simp only [ruleR] at hr
      repeat' first
        | ((first | refine aops_end (hK _ ?_) | refine aopsD_end (hK _ ?_) | refine aopsF_end (hK _ ?_)); clear hK K)
        | ((first | refine aops_go ?_ | refine aopsD_go ?_ | refine aopsF_go ?_); simp [hlt]; (try (refine gen fun q hq => ?_; cases q <;> (try simp [hlt] at hq) <;> (try (have hh : True := hq; clear hh hq)))))
        | (refine wpcall_pure rfl (hr) ?_; simp [hlt]; (try (refine gen fun q hq => ?_; cases q <;> (try simp [hlt] at hq) <;> (try (have hh : True := hq; clear hh hq)))))
        | (refine wpcall_pure rfl (hw) ?_; simp [hlt]; (try (refine gen fun q hq => ?_; cases q <;> (try simp [hlt] at hq) <;> (try (have hh : True := hq; clear hh hq)))))
        | (refine T.ret (Done.tup (Or.inr rfl) ?_) <;> simp [resAs, Tryz.results111] <;> omega)
        | refine T.rd (id := 1) mixed (fun _ => false) [] (by kernel_rfl) fun K hK => ?_
        | refine T.rd1 (id := 1) mixed (fun _ => false) [] (by kernel_rfl) fun K hK => ?_
        | refine T.rs (fun _ => false) fun K hK => ?_
        | refine T.rs1 (fun _ => false) fun K hK => ?_
        | (refine ⟨by omega, ?_⟩)
        | refine T.cond rfl (fun hcnd => ?_) (fun hcnd => absurd hcnd (by decide))
        | refine T.cond rfl (fun hcnd => absurd hcnd (by decide)) (fun hcnd => ?_)
        | refine T.seq ?_
        | refine T.block ?_
        | refine T.skip ?_
        | refine T.exit ?_

theorem counts_le {e : MTm} (hlen : kidsM e.kind = e.kids.length) : countsM e ≤ e.kids.length := by
  rw [countsM]
  split
  · rename_i h
    rw [h] at hlen; simp [kidsM] at hlen; omega
  · exact Nat.le_refl _

theorem bareStep_ok : ∀ (e : MTm) (d : Nat), TmV 13 d e → nTm e ≤ 1073741824 → ACalls Tryz.prog 111 [aTm e] [] (.tup (stepR (stepB e))) [] [] := by
  intro e
  induction e using MTm.ind with
  | h e ih =>
    intro d hv hn
    obtain ⟨d', rfl, _, hlen, _, hk⟩ := shapeTm_kids hv.shape
    have hnu : ∀ u ∈ e.kids, nTm u ≤ 1073741824 := fun u hu => by have := nTmS_mem hu; rw [nTm_def] at hn; omega
    exact bareStep_node e (by have := kidsM_le e.kind; omega) (counts_le hlen) (rule_ok e _ hv hn) hnu (fun u hu => ih u hu d' (TmV.of (hk u hu)) (hnu u hu))

theorem StepBare_ok (e : MTm) (hn : nTm e ≤ 1073741824) : ACalls Tryz.prog 49 [aTm e] [] (.tup (stepR (stepBareM e))) [] [] := by
  have k1 := BareValid_ok e (by omega)
  rw [stepBareM]
  rw [show (castValidM e && bareM e) = bareValidM e from rfl] at k1
  cases hb : bareValidM e with
  | false =>
    rw [hb] at k1
    simp only [Bool.false_eq_true, if_false]
    refine ACalls.of_body Tryz.func49 (by kernel_rfl) rfl (by kernel_rfl) (by simp [Tryz.ntmps49]) (by simp) ?_
    rw [Tryz.ntmps49]
    repeat' first
      | ((first | refine aops_end (hK _ ?_) | refine aopsD_end (hK _ ?_) | refine aopsF_end (hK _ ?_)); clear hK K)
      | ((first | refine aops_go ?_ | refine aopsD_go ?_ | refine aopsF_go ?_); simp; (try (refine gen fun q hq => ?_; cases q <;> (try simp at hq) <;> (try (have hh : True := hq; clear hh hq)))))
      | (refine wpcall_pure rfl (k1) ?_; simp; (try (refine gen fun q hq => ?_; cases q <;> (try simp at hq) <;> (try (have hh : True := hq; clear hh hq)))))
      | (refine T.ret (Done.tup (Or.inr rfl) ?_) <;> simp [resAs, Tryz.results49] <;> omega)
      | refine T.rs (fun _ => false) fun K hK => ?_
      | refine T.rs1 (fun _ => false) fun K hK => ?_
      | (refine ⟨by omega, ?_⟩)
      | refine T.cond rfl (fun hcnd => ?_) (fun hcnd => absurd hcnd (by decide))
      | refine T.cond rfl (fun hcnd => absurd hcnd (by decide)) (fun hcnd => ?_)
      | refine T.seq ?_
      | refine T.block ?_
      | refine T.skip ?_
      | refine T.exit ?_
  | true =>
    rw [hb] at k1
    simp only [if_true]
    have hcv : castValidM e = true := by simp only [bareValidM, Bool.and_eq_true] at hb; exact hb.1
    have hv := (castValidM_iff.1 hcv).1
    have hsm := castValid_small hcv
    have k2 := isValue_ok e (by omega)
    cases hvl : valM e with
    | true =>
      rw [hvl] at k2
      have k3 := own_ok e (by omega)
      simp only [if_true]
      refine ACalls.of_body Tryz.func49 (by kernel_rfl) rfl (by kernel_rfl) (by simp [Tryz.ntmps49]) (by simp) ?_
      rw [Tryz.ntmps49]
      repeat' first
        | ((first | refine aops_end (hK _ ?_) | refine aopsD_end (hK _ ?_) | refine aopsF_end (hK _ ?_)); clear hK K)
        | ((first | refine aops_go ?_ | refine aopsD_go ?_ | refine aopsF_go ?_); simp; (try (refine gen fun q hq => ?_; cases q <;> (try simp at hq) <;> (try (have hh : True := hq; clear hh hq)))))
        | (refine wpcall_pure rfl (k1) ?_; simp; (try (refine gen fun q hq => ?_; cases q <;> (try simp at hq) <;> (try (have hh : True := hq; clear hh hq)))))
        | (refine wpcall_pure rfl (k2) ?_; simp; (try (refine gen fun q hq => ?_; cases q <;> (try simp at hq) <;> (try (have hh : True := hq; clear hh hq)))))
        | (refine wpcall_pure rfl (k3) ?_; simp; (try (refine gen fun q hq => ?_; cases q <;> (try simp at hq) <;> (try (have hh : True := hq; clear hh hq)))))
        | (refine T.ret (Done.tup (Or.inr rfl) ?_) <;> simp [resAs, Tryz.results49] <;> omega)
        | refine T.rs (fun _ => false) fun K hK => ?_
        | refine T.rs1 (fun _ => false) fun K hK => ?_
        | (refine ⟨by omega, ?_⟩)
        | refine T.cond rfl (fun hcnd => ?_) (fun hcnd => absurd hcnd (by decide))
        | refine T.cond rfl (fun hcnd => absurd hcnd (by decide)) (fun hcnd => ?_)
        | refine T.seq ?_
        | refine T.block ?_
        | refine T.skip ?_
        | refine T.exit ?_
    | false =>
      rw [hvl] at k2
      have k3 := bareStep_ok e 40 hv hn
      have hsz := step_size e
      have hsz2 : nodesM e * nTm e ≤ 200 * 60000 := Nat.mul_le_mul hsm.2 hsm.1
      have k4 := BareValid_ok (stepB e).1 (by omega)
      have k5 := own_ok (stepB e).1 (by omega)
      rw [show (castValidM (stepB e).1 && bareM (stepB e).1) = bareValidM (stepB e).1 from rfl] at k4
      simp only [Bool.false_eq_true, if_false]
      generalize stepB e = p at *
      obtain ⟨x, cd, lb⟩ := p
      dsimp only at *
      by_cases h1 : cd = 1
      · subst h1
        cases hbx : bareValidM x <;> rw [hbx] at k4
        · simp only [if_true, Bool.false_eq_true, if_false]
          refine ACalls.of_body Tryz.func49 (by kernel_rfl) rfl (by kernel_rfl) (by simp [Tryz.ntmps49]) (by simp) ?_
          rw [Tryz.ntmps49]
          repeat' first
            | ((first | refine aops_end (hK _ ?_) | refine aopsD_end (hK _ ?_) | refine aopsF_end (hK _ ?_)); clear hK K)
            | ((first | refine aops_go ?_ | refine aopsD_go ?_ | refine aopsF_go ?_); simp; (try (refine gen fun q hq => ?_; cases q <;> (try simp at hq) <;> (try (have hh : True := hq; clear hh hq)))))
            | (refine wpcall_pure rfl (k1) ?_; simp; (try (refine gen fun q hq => ?_; cases q <;> (try simp at hq) <;> (try (have hh : True := hq; clear hh hq)))))
            | (refine wpcall_pure rfl (k2) ?_; simp; (try (refine gen fun q hq => ?_; cases q <;> (try simp at hq) <;> (try (have hh : True := hq; clear hh hq)))))
            | (refine wpcall_pure rfl (k3) ?_; simp; (try (refine gen fun q hq => ?_; cases q <;> (try simp at hq) <;> (try (have hh : True := hq; clear hh hq)))))
            | (refine wpcall_pure rfl (k4) ?_; simp; (try (refine gen fun q hq => ?_; cases q <;> (try simp at hq) <;> (try (have hh : True := hq; clear hh hq)))))
            | (refine T.ret (Done.tup (Or.inr rfl) ?_) <;> simp [resAs, Tryz.results49] <;> omega)
            | refine T.rs (fun _ => false) fun K hK => ?_
            | refine T.rs1 (fun _ => false) fun K hK => ?_
            | (refine ⟨by omega, ?_⟩)
            | refine T.cond rfl (fun hcnd => ?_) (fun hcnd => absurd hcnd (by decide))
            | refine T.cond rfl (fun hcnd => absurd hcnd (by decide)) (fun hcnd => ?_)
            | refine T.seq ?_
            | refine T.block ?_
            | refine T.skip ?_
            | refine T.exit ?_
        · simp only [if_true]
          refine ACalls.of_body Tryz.func49 (by kernel_rfl) rfl (by kernel_rfl) (by simp [Tryz.ntmps49]) (by simp) ?_
          rw [Tryz.ntmps49]
          repeat' first
            | ((first | refine aops_end (hK _ ?_) | refine aopsD_end (hK _ ?_) | refine aopsF_end (hK _ ?_)); clear hK K)
            | ((first | refine aops_go ?_ | refine aopsD_go ?_ | refine aopsF_go ?_); simp; (try (refine gen fun q hq => ?_; cases q <;> (try simp at hq) <;> (try (have hh : True := hq; clear hh hq)))))
            | (refine wpcall_pure rfl (k1) ?_; simp; (try (refine gen fun q hq => ?_; cases q <;> (try simp at hq) <;> (try (have hh : True := hq; clear hh hq)))))
            | (refine wpcall_pure rfl (k2) ?_; simp; (try (refine gen fun q hq => ?_; cases q <;> (try simp at hq) <;> (try (have hh : True := hq; clear hh hq)))))
            | (refine wpcall_pure rfl (k3) ?_; simp; (try (refine gen fun q hq => ?_; cases q <;> (try simp at hq) <;> (try (have hh : True := hq; clear hh hq)))))
            | (refine wpcall_pure rfl (k4) ?_; simp; (try (refine gen fun q hq => ?_; cases q <;> (try simp at hq) <;> (try (have hh : True := hq; clear hh hq)))))
            | (refine wpcall_pure rfl (k5) ?_; simp; (try (refine gen fun q hq => ?_; cases q <;> (try simp at hq) <;> (try (have hh : True := hq; clear hh hq)))))
            | (refine T.ret (Done.tup (Or.inr rfl) ?_) <;> simp [resAs, Tryz.results49] <;> omega)
            | refine T.rs (fun _ => false) fun K hK => ?_
            | refine T.rs1 (fun _ => false) fun K hK => ?_
            | (refine ⟨by omega, ?_⟩)
            | refine T.cond rfl (fun hcnd => ?_) (fun hcnd => absurd hcnd (by decide))
            | refine T.cond rfl (fun hcnd => absurd hcnd (by decide)) (fun hcnd => ?_)
            | refine T.seq ?_
            | refine T.block ?_
            | refine T.skip ?_
            | refine T.exit ?_
      · rw [if_neg h1]
        refine ACalls.of_body Tryz.func49 (by kernel_rfl) rfl (by kernel_rfl) (by simp [Tryz.ntmps49]) (by simp) ?_
        rw [Tryz.ntmps49]
        repeat' first
          | ((first | refine aops_end (hK _ ?_) | refine aopsD_end (hK _ ?_) | refine aopsF_end (hK _ ?_)); clear hK K)
          | ((first | refine aops_go ?_ | refine aopsD_go ?_ | refine aopsF_go ?_); simp [h1]; (try (refine gen fun q hq => ?_; cases q <;> (try simp [h1] at hq) <;> (try (have hh : True := hq; clear hh hq)))))
          | (refine wpcall_pure rfl (k1) ?_; simp [h1]; (try (refine gen fun q hq => ?_; cases q <;> (try simp [h1] at hq) <;> (try (have hh : True := hq; clear hh hq)))))
          | (refine wpcall_pure rfl (k2) ?_; simp [h1]; (try (refine gen fun q hq => ?_; cases q <;> (try simp [h1] at hq) <;> (try (have hh : True := hq; clear hh hq)))))
          | (refine wpcall_pure rfl (k3) ?_; simp [h1]; (try (refine gen fun q hq => ?_; cases q <;> (try simp [h1] at hq) <;> (try (have hh : True := hq; clear hh hq)))))
          | (refine T.ret (Done.tup (Or.inr rfl) ?_) <;> simp [resAs, Tryz.results49] <;> omega)
          | refine T.rs (fun _ => false) fun K hK => ?_
          | refine T.rs1 (fun _ => false) fun K hK => ?_
          | (refine ⟨by omega, ?_⟩)
          | refine T.cond rfl (fun hcnd => ?_) (fun hcnd => absurd hcnd (by decide))
          | refine T.cond rfl (fun hcnd => absurd hcnd (by decide)) (fun hcnd => ?_)
          | refine T.seq ?_
          | refine T.block ?_
          | refine T.skip ?_
          | refine T.exit ?_

abbrev runR (p : MTm × Int × Int × Int) : List AV := [aTm p.1, .i p.2.1, .i p.2.2.1, .i p.2.2.2]

theorem bareRun_ok (e : MTm) (n : Nat) (hn : nTm e ≤ 1073741824) (hf : n ≤ 1000) : ACalls Tryz.prog 106 [aTm e, .i n] [] (.tup (runR (runB n e))) [] [] := by
  obtain ⟨R, hR⟩ : ∃ R, runB n e = R := ⟨_, rfl⟩
  rw [hR]
  obtain ⟨r1, r2, r3, r4⟩ := R
  refine ACalls.of_body Tryz.func106 (by kernel_rfl) rfl (by kernel_rfl) (by simp [Tryz.ntmps106]) (by simp) ?_
  rw [Tryz.ntmps106]
  repeat' first
    | ((first | refine aops_end (hK _ ?_) | refine aopsD_end (hK _ ?_) | refine aopsF_end (hK _ ?_)); clear hK K)
    | ((first | refine aops_go ?_ | refine aopsD_go ?_ | refine aopsF_go ?_); simp; (try (refine gen fun q hq => ?_; cases q <;> (try simp at hq) <;> (try (have hh : True := hq; clear hh hq)))))
    | refine T.rs (fun _ => false) fun K hK => ?_
    | refine T.rs1 (fun _ => false) fun K hK => ?_
    | (refine ⟨by omega, ?_⟩)
    | refine T.cond rfl (fun hcnd => ?_) (fun hcnd => absurd hcnd (by decide))
    | refine T.cond rfl (fun hcnd => absurd hcnd (by decide)) (fun hcnd => ?_)
    | refine T.seq ?_
    | refine T.block ?_
    | refine T.skip ?_
    | refine T.exit ?_
  refine T.loopK (α := Nat × MTm × List (List CV)) [1, 2, 4] (fun x => [(5, .i 0), (6, .i 0), (7, .i 0), (8, .i x.1)]) (fun x => [(0, (aTm x.2.1).cells)]) (fun x => x.2.2) (fun x A => A) (fun x => n + 1 - x.1) (fun x => x.1 ≤ n ∧ nTm x.2.1 ≤ 1073741824 ∧ (runB (n - x.1) x.2.1).1 = r1 ∧ (runB (n - x.1) x.2.1).2.1 = r2 ∧ (runB (n - x.1) x.2.1).2.2.1 = r3 ∧ (runB (n - x.1) x.2.1).2.2.2 + x.1 = r4) (by simp; rfl) (fun x hx => ?_) (0, e, []) (by simp [hR, hn]) (by simp) (by simp) (by simp)
  obtain ⟨s, f, G⟩ := x
  obtain ⟨h1, h2, h3, h4, h5, h6⟩ := hx
  dsimp only at h1 h2 h3 h4 h5 h6 ⊢
  simp only [ups, List.set_cons_zero, List.set_cons_succ, List.cons_append, List.nil_append, List.append_nil]
  have k1 := StepBare_ok f h2
  have hsz := stepBare_small f
  obtain ⟨m, hm⟩ : ∃ m, n - s = m := ⟨_, rfl⟩
  rw [hm] at h3 h4 h5 h6
  have hlast : m = 0 ∨ (stepBareM f).2.1 ≠ 1 → (stepBareM f).1 = r1 ∧ (stepBareM f).2.1 = r2 ∧ (stepBareM f).2.2 = r3 ∧ (s : Int) = r4 := by
    intro h
    cases m with
    | zero => simp only [runB] at h3 h4 h5 h6; exact ⟨h3, h4, h5, by omega⟩
    | succ m =>
      rcases h with h | h
      · omega
      · simp only [runB, if_neg h] at h3 h4 h5 h6; exact ⟨h3, h4, h5, by omega⟩
  have hnext : ∀ k, m = k + 1 → (stepBareM f).2.1 = 1 → (runB k (stepBareM f).1).1 = r1 ∧ (runB k (stepBareM f).1).2.1 = r2 ∧ (runB k (stepBareM f).1).2.2.1 = r3 ∧ (runB k (stepBareM f).1).2.2.2 + (s + 1 : Nat) = r4 := by
    intro k hk h
    subst hk
    simp only [runB, if_pos h] at h3 h4 h5 h6
    exact ⟨h3, h4, h5, by push_cast; omega⟩
  clear h3 h4 h5 h6 hR
  generalize stepBareM f = p at *
  obtain ⟨x, cd, lb⟩ := p
  dsimp only at hsz hlast hnext
  by_cases hc : cd = 1
  · subst hc
    cases m with
    | zero =>
      obtain ⟨rfl, rfl, rfl, rfl⟩ := hlast (.inl rfl)
      have hs : n = s := by omega
      subst hs
      repeat' first
        | ((first | refine aops_end (hK _ ?_) | refine aopsD_end (hK _ ?_) | refine aopsF_end (hK _ ?_)); clear hK K)
        | ((first | refine aops_go ?_ | refine aopsD_go ?_ | refine aopsF_go ?_); simp; (try simp (disch := omega) only [wrap64]); (try (refine gen fun q hq => ?_; cases q <;> (try simp at hq) <;> (try (have hh : True := hq; clear hh hq)))))
        | (refine wpcall_pure rfl (k1) ?_; simp; (try simp (disch := omega) only [wrap64]); (try (refine gen fun q hq => ?_; cases q <;> (try simp at hq) <;> (try (have hh : True := hq; clear hh hq)))))
        | (refine T.ret (Done.tup (Or.inr rfl) ?_) <;> simp [resAs, Tryz.results106] <;> omega)
        | refine T.rs (fun _ => false) fun K hK => ?_
        | refine T.rs1 (fun _ => false) fun K hK => ?_
        | (refine ⟨by omega, ?_⟩)
        | refine T.cond rfl (fun hcnd => ?_) (fun hcnd => absurd hcnd (by decide))
        | refine T.cond rfl (fun hcnd => absurd hcnd (by decide)) (fun hcnd => ?_)
        | refine T.seq ?_
        | refine T.block ?_
        | refine T.skip ?_
        | refine T.exit ?_
    | succ m =>
      obtain ⟨g1, g2, g3, g4⟩ := hnext m rfl rfl
      have hs : ¬ (s : Int) = n := by omega
      have hs2 : n - (s + 1) = m := by omega
      repeat' first
        | ((first | refine aops_end (hK _ ?_) | refine aopsD_end (hK _ ?_) | refine aopsF_end (hK _ ?_)); clear hK K)
        | ((first | refine aops_go ?_ | refine aopsD_go ?_ | refine aopsF_go ?_); simp [hs]; (try simp (disch := omega) only [wrap64]); (try (refine gen fun q hq => ?_; cases q <;> (try simp [hs] at hq) <;> (try (have hh : True := hq; clear hh hq)))))
        | (refine wpcall_pure rfl (k1) ?_; simp [hs]; (try simp (disch := omega) only [wrap64]); (try (refine gen fun q hq => ?_; cases q <;> (try simp [hs] at hq) <;> (try (have hh : True := hq; clear hh hq)))))
        | (refine ⟨(s + 1, x, _), by dsimp only; omega, ⟨by dsimp only; omega, by dsimp only; omega, by dsimp only; rw [hs2]; exact g1, by dsimp only; rw [hs2]; exact g2, by dsimp only; rw [hs2]; exact g3, by dsimp only; rw [hs2]; exact g4⟩, rfl, ?_, ?_⟩ <;> simp (disch := omega) [wrap64])
        | refine T.rs (fun _ => false) fun K hK => ?_
        | refine T.rs1 (fun _ => false) fun K hK => ?_
        | (refine ⟨by omega, ?_⟩)
        | refine T.cond rfl (fun hcnd => ?_) (fun hcnd => absurd hcnd (by decide))
        | refine T.cond rfl (fun hcnd => absurd hcnd (by decide)) (fun hcnd => ?_)
        | refine T.seq ?_
        | refine T.block ?_
        | refine T.skip ?_
        | refine T.exit ?_
  · obtain ⟨rfl, rfl, rfl, rfl⟩ := hlast (.inr hc)
    repeat' first
      | ((first | refine aops_end (hK _ ?_) | refine aopsD_end (hK _ ?_) | refine aopsF_end (hK _ ?_)); clear hK K)
      | ((first | refine aops_go ?_ | refine aopsD_go ?_ | refine aopsF_go ?_); simp [hc]; (try simp (disch := omega) only [wrap64]); (try (refine gen fun q hq => ?_; cases q <;> (try simp [hc] at hq) <;> (try (have hh : True := hq; clear hh hq)))))
      | (refine wpcall_pure rfl (k1) ?_; simp [hc]; (try simp (disch := omega) only [wrap64]); (try (refine gen fun q hq => ?_; cases q <;> (try simp [hc] at hq) <;> (try (have hh : True := hq; clear hh hq)))))
      | (refine T.ret (Done.tup (Or.inr rfl) ?_) <;> simp [resAs, Tryz.results106] <;> omega)
      | refine T.rs (fun _ => false) fun K hK => ?_
      | refine T.rs1 (fun _ => false) fun K hK => ?_
      | (refine ⟨by omega, ?_⟩)
      | refine T.cond rfl (fun hcnd => ?_) (fun hcnd => absurd hcnd (by decide))
      | refine T.cond rfl (fun hcnd => absurd hcnd (by decide)) (fun hcnd => ?_)
      | refine T.seq ?_
      | refine T.block ?_
      | refine T.skip ?_
      | refine T.exit ?_

theorem EvalBare_ok (e : MTm) (n : Int) (hn : nTm e ≤ 1073741824) : ACalls Tryz.prog 47 [aTm e, .i n] [] (.tup (stepR (evalBareM e n))) [] [] := by
  have k1 := isFuel_ok n
  rw [evalBareM]
  cases hf : fuelM n with
  | false =>
    rw [hf] at k1
    simp only [Bool.false_eq_true, if_false]
    refine ACalls.of_body Tryz.func47 (by kernel_rfl) rfl (by kernel_rfl) (by simp [Tryz.ntmps47]) (by simp) ?_
    rw [Tryz.ntmps47]
    repeat' first
      | ((first | refine aops_end (hK _ ?_) | refine aopsD_end (hK _ ?_) | refine aopsF_end (hK _ ?_)); clear hK K)
      | ((first | refine aops_go ?_ | refine aopsD_go ?_ | refine aopsF_go ?_); simp; (try (refine gen fun q hq => ?_; cases q <;> (try simp at hq) <;> (try (have hh : True := hq; clear hh hq)))))
      | (refine wpcall_pure rfl (k1) ?_; simp; (try (refine gen fun q hq => ?_; cases q <;> (try simp at hq) <;> (try (have hh : True := hq; clear hh hq)))))
      | (refine T.ret (Done.tup (Or.inr rfl) ?_) <;> simp [resAs, Tryz.results47] <;> omega)
      | refine T.rs (fun _ => false) fun K hK => ?_
      | refine T.rs1 (fun _ => false) fun K hK => ?_
      | (refine ⟨by omega, ?_⟩)
      | refine T.cond rfl (fun hcnd => ?_) (fun hcnd => absurd hcnd (by decide))
      | refine T.cond rfl (fun hcnd => absurd hcnd (by decide)) (fun hcnd => ?_)
      | refine T.seq ?_
      | refine T.block ?_
      | refine T.skip ?_
      | refine T.exit ?_
  | true =>
    rw [hf] at k1
    simp only [fuelM, Bool.and_eq_true, decide_eq_true_eq] at hf
    have k2 := bareRun_ok e n.toNat hn (by omega)
    rw [show ((n.toNat : Nat) : Int) = n by omega] at k2
    simp only [if_true]
    generalize runB n.toNat e = p at *
    obtain ⟨x, cd, lb, st⟩ := p
    dsimp only
    by_cases hc : cd = 1
    · subst hc
      simp only [if_true]
      refine ACalls.of_body Tryz.func47 (by kernel_rfl) rfl (by kernel_rfl) (by simp [Tryz.ntmps47]) (by simp) ?_
      rw [Tryz.ntmps47]
      repeat' first
        | ((first | refine aops_end (hK _ ?_) | refine aopsD_end (hK _ ?_) | refine aopsF_end (hK _ ?_)); clear hK K)
        | ((first | refine aops_go ?_ | refine aopsD_go ?_ | refine aopsF_go ?_); simp; (try (refine gen fun q hq => ?_; cases q <;> (try simp at hq) <;> (try (have hh : True := hq; clear hh hq)))))
        | (refine wpcall_pure rfl (k1) ?_; simp; (try (refine gen fun q hq => ?_; cases q <;> (try simp at hq) <;> (try (have hh : True := hq; clear hh hq)))))
        | (refine wpcall_pure rfl (k2) ?_; simp; (try (refine gen fun q hq => ?_; cases q <;> (try simp at hq) <;> (try (have hh : True := hq; clear hh hq)))))
        | (refine T.ret (Done.tup (Or.inr rfl) ?_) <;> simp [resAs, Tryz.results47] <;> omega)
        | refine T.rs (fun _ => false) fun K hK => ?_
        | refine T.rs1 (fun _ => false) fun K hK => ?_
        | (refine ⟨by omega, ?_⟩)
        | refine T.cond rfl (fun hcnd => ?_) (fun hcnd => absurd hcnd (by decide))
        | refine T.cond rfl (fun hcnd => absurd hcnd (by decide)) (fun hcnd => ?_)
        | refine T.seq ?_
        | refine T.block ?_
        | refine T.skip ?_
        | refine T.exit ?_
    · rw [if_neg hc]
      refine ACalls.of_body Tryz.func47 (by kernel_rfl) rfl (by kernel_rfl) (by simp [Tryz.ntmps47]) (by simp) ?_
      rw [Tryz.ntmps47]
      repeat' first
        | ((first | refine aops_end (hK _ ?_) | refine aopsD_end (hK _ ?_) | refine aopsF_end (hK _ ?_)); clear hK K)
        | ((first | refine aops_go ?_ | refine aopsD_go ?_ | refine aopsF_go ?_); simp [hc]; (try (refine gen fun q hq => ?_; cases q <;> (try simp [hc] at hq) <;> (try (have hh : True := hq; clear hh hq)))))
        | (refine wpcall_pure rfl (k1) ?_; simp [hc]; (try (refine gen fun q hq => ?_; cases q <;> (try simp [hc] at hq) <;> (try (have hh : True := hq; clear hh hq)))))
        | (refine wpcall_pure rfl (k2) ?_; simp [hc]; (try (refine gen fun q hq => ?_; cases q <;> (try simp [hc] at hq) <;> (try (have hh : True := hq; clear hh hq)))))
        | (refine T.ret (Done.tup (Or.inr rfl) ?_) <;> simp [resAs, Tryz.results47] <;> omega)
        | refine T.rs (fun _ => false) fun K hK => ?_
        | refine T.rs1 (fun _ => false) fun K hK => ?_
        | (refine ⟨by omega, ?_⟩)
        | refine T.cond rfl (fun hcnd => ?_) (fun hcnd => absurd hcnd (by decide))
        | refine T.cond rfl (fun hcnd => absurd hcnd (by decide)) (fun hcnd => ?_)
        | refine T.seq ?_
        | refine T.block ?_
        | refine T.skip ?_
        | refine T.exit ?_

theorem BareSteps_ok (e : MTm) (n : Int) (hn : nTm e ≤ 1073741824) : ACalls Tryz.prog 43 [aTm e, .i n] [] (.i (bareStepsM e n)) [] [] := by
  have k1 := isFuel_ok n
  rw [bareStepsM]
  cases hf : fuelM n with
  | false =>
    rw [hf] at k1
    simp only [Bool.false_eq_true, if_false]
    refine ACalls.of_body Tryz.func43 (by kernel_rfl) rfl (by kernel_rfl) (by simp [Tryz.ntmps43]) (by simp) ?_
    rw [Tryz.ntmps43]
    repeat' first
      | ((first | refine aops_end (hK _ ?_) | refine aopsD_end (hK _ ?_) | refine aopsF_end (hK _ ?_)); clear hK K)
      | ((first | refine aops_go ?_ | refine aopsD_go ?_ | refine aopsF_go ?_); simp; (try (refine gen fun q hq => ?_; cases q <;> (try simp at hq) <;> (try (have hh : True := hq; clear hh hq)))))
      | (refine wpcall_pure rfl (k1) ?_; simp; (try (refine gen fun q hq => ?_; cases q <;> (try simp at hq) <;> (try (have hh : True := hq; clear hh hq)))))
      | (refine T.ret (Done.data (Or.inr rfl) ?_ ?_) <;> simp [Tryz.results43] <;> omega)
      | refine T.rs (fun _ => false) fun K hK => ?_
      | refine T.rs1 (fun _ => false) fun K hK => ?_
      | (refine ⟨by omega, ?_⟩)
      | refine T.cond rfl (fun hcnd => ?_) (fun hcnd => absurd hcnd (by decide))
      | refine T.cond rfl (fun hcnd => absurd hcnd (by decide)) (fun hcnd => ?_)
      | refine T.seq ?_
      | refine T.block ?_
      | refine T.skip ?_
      | refine T.exit ?_
  | true =>
    rw [hf] at k1
    simp only [fuelM, Bool.and_eq_true, decide_eq_true_eq] at hf
    have k2 := bareRun_ok e n.toNat hn (by omega)
    rw [show ((n.toNat : Nat) : Int) = n by omega] at k2
    simp only [if_true]
    generalize runB n.toNat e = p at *
    obtain ⟨x, cd, lb, st⟩ := p
    dsimp only
    refine ACalls.of_body Tryz.func43 (by kernel_rfl) rfl (by kernel_rfl) (by simp [Tryz.ntmps43]) (by simp) ?_
    rw [Tryz.ntmps43]
    repeat' first
      | ((first | refine aops_end (hK _ ?_) | refine aopsD_end (hK _ ?_) | refine aopsF_end (hK _ ?_)); clear hK K)
      | ((first | refine aops_go ?_ | refine aopsD_go ?_ | refine aopsF_go ?_); simp; (try (refine gen fun q hq => ?_; cases q <;> (try simp at hq) <;> (try (have hh : True := hq; clear hh hq)))))
      | (refine wpcall_pure rfl (k1) ?_; simp; (try (refine gen fun q hq => ?_; cases q <;> (try simp at hq) <;> (try (have hh : True := hq; clear hh hq)))))
      | (refine wpcall_pure rfl (k2) ?_; simp; (try (refine gen fun q hq => ?_; cases q <;> (try simp at hq) <;> (try (have hh : True := hq; clear hh hq)))))
      | (refine T.ret (Done.data (Or.inr rfl) ?_ ?_) <;> simp [Tryz.results43] <;> omega)
      | refine T.rs (fun _ => false) fun K hK => ?_
      | refine T.rs1 (fun _ => false) fun K hK => ?_
      | (refine ⟨by omega, ?_⟩)
      | refine T.cond rfl (fun hcnd => ?_) (fun hcnd => absurd hcnd (by decide))
      | refine T.cond rfl (fun hcnd => absurd hcnd (by decide)) (fun hcnd => ?_)
      | refine T.seq ?_
      | refine T.block ?_
      | refine T.skip ?_
      | refine T.exit ?_

end Go.Proofs.YtfdknjjnifnobaaGreat
