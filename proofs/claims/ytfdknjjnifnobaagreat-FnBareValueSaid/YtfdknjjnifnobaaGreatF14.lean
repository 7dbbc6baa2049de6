/- A part of the library of this seat: a value-semantic program logic over the model, plain models, and walks of functions. -/
import Derived.Test.YtfdknjjnifnobaaGreatF13
set_option linter.unusedVariables false
set_option linter.unusedSimpArgs false
namespace Go.Proofs.YtfdknjjnifnobaaGreat
open Go Go.Av
attribute [local irreducible] T ACalls TX EX LX Draws Some_ ACallsX eTy eTm MTy.kind MTy.kids MTm.kind MTm.name MTm.num MTm.ty MTm.fr MTm.label MTm.kids
attribute [local simp] eTy_def eTm_def
set_option linter.unusedSimpArgs false
set_option linter.unusedVariables false
set_option maxHeartbeats 16000000
set_option maxRecDepth 8000

@[simp] theorem td_set26 : td Tryz.prog 107 = some { ag := true, sz := 26, by_ := 26, zero := some (rowB noB), el := none, ar := some (26, 4), fl := [], ik := none, isS := false, isB := false } := keep (by kernel_rfl)

theorem subst_nm (e v : MTm) (x : List UInt8) (hx : ¬ e.name = x) (hn : e.kids.length ≤ 1099511627776)
    (ih : ∀ u ∈ e.kids, ACalls Tryz.prog 206 [aTm u, .s x, aTm v] [] (aTm (substM x v u)) [] []) :
    ACalls Tryz.prog 206 [aTm e, .s x, aTm v] [] (aTm (.mk e.kind e.name e.num e.ty e.fr e.label (e.kids.map (substM x v)))) [] [] := by
  refine ACalls.of_body Tryz.func206 (by kernel_rfl) rfl (by kernel_rfl) (by simp [Tryz.ntmps206]) (by simp) ?_
  rw [Tryz.ntmps206]
  repeat' first
    | ((first | refine aops_end (hK _ ?_)); clear hK K)
    | ((first | refine aops_go ?_); simp [hx]; (try (refine gen fun q hq => ?_; cases q <;> (try simp [hx] at hq) <;> (try (have hh : True := hq; clear hh hq)))))
    | refine T.rs (fun _ => false) fun K hK => ?_
    | refine T.cond rfl (fun hcnd => absurd hcnd (by decide)) (fun hcnd => ?_)
    | refine T.seq ?_
    | refine T.block ?_
    | refine T.skip ?_
  all_goals refine T.ownifyObj 3 8 9 28 rfl rfl ?_
  all_goals refine T.loopK (α := Nat × List (List CV)) [1, 5, 6, 7, 35, 36] (fun x => [(37, .i x.1)]) (fun x => [(3, [.d (.i e.kind), .d (.str e.name), .d (.i e.num), .d (.i e.ty.kind), .d (.sl (e.ty.kids.map eTy)), .d (.i e.fr.kind), .d (.sl (e.fr.kids.map eTy)), .d (.i e.label), .own 0 x.1])]) (fun x => x.2) (fun y _ => [{ sz := 9, ety := 28, rows := ((e.kids.map (substM x v)).take y.1).map eTm, wr := true }]) (fun x => e.kids.length + 1 - x.1) (fun x => x.1 ≤ e.kids.length) (by simp; rfl) (fun y hy => ?_) (0, []) (by simp) (by simp) (by simp) (by simp)
  all_goals
    obtain ⟨p, G⟩ := y
    dsimp only at hy ⊢
    simp only [ups, List.set_cons_zero, List.set_cons_succ, List.cons_append, List.nil_append]
    have hwl : (e.kids.map (substM x v)).length = e.kids.length := by simp
    by_cases hlt : p < e.kids.length
    · obtain ⟨u, ht⟩ := get_lt hlt
      have htm : u ∈ e.kids := List.mem_of_getElem? ht
      have hgt : e.kids[p] = u := by rw [List.getElem?_eq_getElem hlt] at ht; exact Option.some.inj ht
      have hdr : e.kids.drop p = u :: e.kids.drop (p + 1) := by rw [List.drop_eq_getElem_cons hlt, hgt]
      have hu := ih u htm
      have htk : (e.kids.map (substM x v)).take (p + 1) = (e.kids.map (substM x v)).take p ++ [substM x v u] := by rw [List.take_add_one, List.getElem?_map, ht]; rfl
      have hlm : min p e.kids.length = p := by omega
      generalize (e.kids.map (substM x v)) = Z at *
      generalize substM x v u = wu at *
      repeat' first
        | ((first | refine aops_end (hK _ ?_) | refine aopsD_end (hK _ ?_)); clear hK K)
        | ((first | refine aops_go ?_ | refine aopsD_go ?_); simp [hlt, hgt, hlm, hwl]; (try simp (disch := omega) only [wrap64]); (try (refine gen fun q hq => ?_; cases q <;> (try simp [hlt, hgt, hlm, hwl] at hq) <;> (try (have hh : True := hq; clear hh hq)))))
        | (refine wpcall_pure rfl (hu) ?_; simp [hlt, hgt, hlm, hwl]; (try simp (disch := omega) only [wrap64]); (try (refine gen fun q hq => ?_; cases q <;> (try simp [hlt, hgt, hlm, hwl] at hq) <;> (try (have hh : True := hq; clear hh hq)))))
        | (refine ⟨(p + 1, _), by dsimp only; omega, by dsimp only; omega, rfl, ?_, ?_⟩ <;> simp (disch := omega) [wrap64, htk, eTm_def])
        | refine T.rd1 (id := 10) mixed (fun _ => false) [7, 9] (by kernel_rfl) fun K hK => ?_
        | refine T.rs (fun _ => false) fun K hK => ?_
        | refine T.rs1 (fun _ => false) fun K hK => ?_
        | (refine ⟨by omega, ?_⟩)
        | refine T.cond rfl (fun hcnd => ?_) (fun hcnd => absurd hcnd (by decide))
        | refine T.seq ?_
        | refine T.block ?_
        | refine T.skip ?_
    · have hp' : p = e.kids.length := by omega
      subst hp'
      rw [List.take_of_length_le (by omega)]
      generalize (e.kids.map (substM x v)) = Z at *
      repeat' first
        | ((first | refine aops_end (hK _ ?_)); clear hK K)
        | ((first | refine aops_go ?_); simp [hlt, hwl]; (try (refine gen fun q hq => ?_; cases q <;> (try simp [hlt, hwl] at hq) <;> (try (have hh : True := hq; clear hh hq)))))
        | (refine T.ret (Done.val (Or.inr rfl) ?_) <;> simp [resAs, Tryz.results206, eTm_def, hwl] <;> omega)
        | refine T.rs (fun _ => false) fun K hK => ?_
        | refine T.cond rfl (fun hcnd => absurd hcnd (by decide)) (fun hcnd => ?_)
        | refine T.seq ?_
        | refine T.exit ?_

theorem subst_kd (e v : MTm) (x : List UInt8) (h1 : ¬ e.kind = 1) (h5 : ¬ e.kind = 5) (hn : e.kids.length ≤ 1099511627776)
    (ih : ∀ u ∈ e.kids, ACalls Tryz.prog 206 [aTm u, .s x, aTm v] [] (aTm (substM x v u)) [] []) :
    ACalls Tryz.prog 206 [aTm e, .s x, aTm v] [] (aTm (.mk e.kind e.name e.num e.ty e.fr e.label (e.kids.map (substM x v)))) [] [] := by
  refine ACalls.of_body Tryz.func206 (by kernel_rfl) rfl (by kernel_rfl) (by simp [Tryz.ntmps206]) (by simp) ?_
  rw [Tryz.ntmps206]
  repeat' first
    | ((first | refine aops_end (hK _ ?_)); clear hK K)
    | ((first | refine aops_go ?_); simp [h1, h5]; (try (refine gen fun q hq => ?_; cases q <;> (try simp [h1, h5] at hq) <;> (try (have hh : True := hq; clear hh hq)))))
    | refine T.rs (fun _ => false) fun K hK => ?_
    | refine T.cond rfl (fun hcnd => absurd hcnd (by decide)) (fun hcnd => ?_)
    | refine T.seq ?_
    | refine T.block ?_
    | refine T.skip ?_
  all_goals refine T.ownifyObj 3 8 9 28 rfl rfl ?_
  all_goals refine T.loopK (α := Nat × List (List CV)) [1, 5, 6, 7, 35, 36] (fun x => [(37, .i x.1)]) (fun x => [(3, [.d (.i e.kind), .d (.str e.name), .d (.i e.num), .d (.i e.ty.kind), .d (.sl (e.ty.kids.map eTy)), .d (.i e.fr.kind), .d (.sl (e.fr.kids.map eTy)), .d (.i e.label), .own 0 x.1])]) (fun x => x.2) (fun y _ => [{ sz := 9, ety := 28, rows := ((e.kids.map (substM x v)).take y.1).map eTm, wr := true }]) (fun x => e.kids.length + 1 - x.1) (fun x => x.1 ≤ e.kids.length) (by simp; rfl) (fun y hy => ?_) (0, []) (by simp) (by simp) (by simp) (by simp)
  all_goals
    obtain ⟨p, G⟩ := y
    dsimp only at hy ⊢
    simp only [ups, List.set_cons_zero, List.set_cons_succ, List.cons_append, List.nil_append]
    have hwl : (e.kids.map (substM x v)).length = e.kids.length := by simp
    by_cases hlt : p < e.kids.length
    · obtain ⟨u, ht⟩ := get_lt hlt
      have htm : u ∈ e.kids := List.mem_of_getElem? ht
      have hgt : e.kids[p] = u := by rw [List.getElem?_eq_getElem hlt] at ht; exact Option.some.inj ht
      have hdr : e.kids.drop p = u :: e.kids.drop (p + 1) := by rw [List.drop_eq_getElem_cons hlt, hgt]
      have hu := ih u htm
      have htk : (e.kids.map (substM x v)).take (p + 1) = (e.kids.map (substM x v)).take p ++ [substM x v u] := by rw [List.take_add_one, List.getElem?_map, ht]; rfl
      have hlm : min p e.kids.length = p := by omega
      generalize (e.kids.map (substM x v)) = Z at *
      generalize substM x v u = wu at *
      repeat' first
        | ((first | refine aops_end (hK _ ?_) | refine aopsD_end (hK _ ?_)); clear hK K)
        | ((first | refine aops_go ?_ | refine aopsD_go ?_); simp [hlt, hgt, hlm, hwl]; (try simp (disch := omega) only [wrap64]); (try (refine gen fun q hq => ?_; cases q <;> (try simp [hlt, hgt, hlm, hwl] at hq) <;> (try (have hh : True := hq; clear hh hq)))))
        | (refine wpcall_pure rfl (hu) ?_; simp [hlt, hgt, hlm, hwl]; (try simp (disch := omega) only [wrap64]); (try (refine gen fun q hq => ?_; cases q <;> (try simp [hlt, hgt, hlm, hwl] at hq) <;> (try (have hh : True := hq; clear hh hq)))))
        | (refine ⟨(p + 1, _), by dsimp only; omega, by dsimp only; omega, rfl, ?_, ?_⟩ <;> simp (disch := omega) [wrap64, htk, eTm_def])
        | refine T.rd1 (id := 10) mixed (fun _ => false) [7, 9] (by kernel_rfl) fun K hK => ?_
        | refine T.rs (fun _ => false) fun K hK => ?_
        | refine T.rs1 (fun _ => false) fun K hK => ?_
        | (refine ⟨by omega, ?_⟩)
        | refine T.cond rfl (fun hcnd => ?_) (fun hcnd => absurd hcnd (by decide))
        | refine T.seq ?_
        | refine T.block ?_
        | refine T.skip ?_
    · have hp' : p = e.kids.length := by omega
      subst hp'
      rw [List.take_of_length_le (by omega)]
      generalize (e.kids.map (substM x v)) = Z at *
      repeat' first
        | ((first | refine aops_end (hK _ ?_)); clear hK K)
        | ((first | refine aops_go ?_); simp [hlt, hwl]; (try (refine gen fun q hq => ?_; cases q <;> (try simp [hlt, hwl] at hq) <;> (try (have hh : True := hq; clear hh hq)))))
        | (refine T.ret (Done.val (Or.inr rfl) ?_) <;> simp [resAs, Tryz.results206, eTm_def, hwl] <;> omega)
        | refine T.rs (fun _ => false) fun K hK => ?_
        | refine T.cond rfl (fun hcnd => absurd hcnd (by decide)) (fun hcnd => ?_)
        | refine T.seq ?_
        | refine T.exit ?_

theorem subst_ok (v : MTm) (x : List UInt8) : ∀ (e : MTm), nTm e ≤ 1099511627776 → ACalls Tryz.prog 206 [aTm e, .s x, aTm v] [] (aTm (substM x v e)) [] [] := by
  intro e
  induction e using MTm.ind with
  | h e ih =>
    intro hn
    obtain ⟨_, _, hnk, hnu⟩ := nTm_parts hn
    have ih' := fun u hu => ih u hu (hnu u hu)
    rw [substM_def]
    by_cases hx : e.name = x
    · by_cases h1 : e.kind = 1
      · simp only [h1, hx, and_self, if_true]
        refine ACalls.of_body Tryz.func206 (by kernel_rfl) rfl (by kernel_rfl) (by simp [Tryz.ntmps206]) (by simp) ?_
        rw [Tryz.ntmps206]
        repeat' first
          | ((first | refine aops_end (hK _ ?_)); clear hK K)
          | ((first | refine aops_go ?_); simp [h1, hx]; (try (refine gen fun q hq => ?_; cases q <;> (try simp [h1, hx] at hq) <;> (try (have hh : True := hq; clear hh hq)))))
          | (refine T.ret (Done.val (Or.inr rfl) ?_) <;> simp [resAs, Tryz.results206] <;> omega)
          | refine T.rs (fun _ => false) fun K hK => ?_
          | refine T.cond rfl (fun hcnd => ?_) (fun hcnd => absurd hcnd (by decide))
          | refine T.seq ?_
          | refine T.block ?_
      · by_cases h5 : e.kind = 5
        · rw [if_neg (by simp [h1]), if_pos ⟨h5, hx⟩]
          refine ACalls.of_body Tryz.func206 (by kernel_rfl) rfl (by kernel_rfl) (by simp [Tryz.ntmps206]) (by simp) ?_
          rw [Tryz.ntmps206]
          repeat' first
            | ((first | refine aops_end (hK _ ?_)); clear hK K)
            | ((first | refine aops_go ?_); simp [h1, h5, hx]; (try (refine gen fun q hq => ?_; cases q <;> (try simp [h1, h5, hx] at hq) <;> (try (have hh : True := hq; clear hh hq)))))
            | (refine T.ret (Done.val (Or.inr rfl) ?_) <;> simp [resAs, Tryz.results206, h5, hx] <;> omega)
            | refine T.rs (fun _ => false) fun K hK => ?_
            | refine T.cond rfl (fun hcnd => ?_) (fun hcnd => absurd hcnd (by decide))
            | refine T.cond rfl (fun hcnd => absurd hcnd (by decide)) (fun hcnd => ?_)
            | refine T.seq ?_
            | refine T.block ?_
        · rw [if_neg (by simp [h1]), if_neg (by simp [h5])]
          exact subst_kd e v x h1 h5 hnk ih'
    · rw [if_neg (by simp [hx]), if_neg (by simp [hx])]
      exact subst_nm e v x hx hnk ih'

end Go.Proofs.YtfdknjjnifnobaaGreat

namespace Go.Proofs.YtfdknjjnifnobaaGreat
open Go Go.Av
attribute [local irreducible] T ACalls TX EX LX Draws Some_ ACallsX eTy eTm MTy.kind MTy.kids MTm.kind MTm.name MTm.num MTm.ty MTm.fr MTm.label MTm.kids
attribute [local simp] eTy_def eTm_def
set_option linter.unusedSimpArgs false
set_option linter.unusedVariables false
set_option maxHeartbeats 16000000
set_option maxRecDepth 8000
attribute [local simp] Option.bind

theorem cloneTm_own (l : List MTm) (hl : l.length ≤ 1073741824) : ACalls Tryz.prog 172 [.l (l.map eTm)] [] (.c (.own 0 l.length)) [] [{ sz := 9, ety := 28, rows := l.map eTm, wr := true }] := by
  refine ACalls.of_body Tryz.func172 (by kernel_rfl) rfl (by kernel_rfl) (by simp [Tryz.ntmps172]) (by simp) ?_
  rw [Tryz.ntmps172]
  refine T.rs (fun _ => false) fun K hK => ?_
  refine aops_go ?_
  simp
  refine aops_end (hK _ ?_)
  clear hK K
  refine T.seq ?_
  refine T.eqNil rfl rfl rfl rfl rfl rfl td_implTermS rfl (by simp; rfl) fun bb hbb => ?_
  cases bb
  · repeat' first
      | ((first | refine aops_end (hK _ ?_) | refine aopsD_end (hK _ ?_) | refine aopsF_end (hK _ ?_)); clear hK K)
      | ((first | refine aops_go ?_ | refine aopsD_go ?_ | refine aopsF_go ?_); simp [eTm_def]; (try (refine gen fun q hq => ?_; cases q <;> (try simp [eTm_def] at hq) <;> (try (have hh : True := hq; clear hh hq)))))
      | (refine ⟨by omega, by omega, ?_⟩)
      | refine T.rs (id := 3) (fun i => i == 0) fun K hK => ?_
      | refine T.rs1 (id := 3) (fun i => i == 0) fun K hK => ?_
      | refine T.rs (id := 0) (fun _ => false) fun K hK => ?_
      | refine T.rs1 (id := 0) (fun _ => false) fun K hK => ?_
      | refine T.rs (id := 1) (fun _ => false) fun K hK => ?_
      | refine T.rs1 (id := 1) (fun _ => false) fun K hK => ?_
      | refine T.rs (id := 2) (fun _ => false) fun K hK => ?_
      | refine T.rs1 (id := 2) (fun _ => false) fun K hK => ?_
      | (refine ⟨by omega, ?_⟩)
      | refine T.cond rfl (fun hcnd => ?_) (fun hcnd => absurd hcnd (by decide))
      | refine T.cond rfl (fun hcnd => absurd hcnd (by decide)) (fun hcnd => ?_)
      | refine T.seq ?_
      | refine T.block ?_
      | refine T.skip ?_
      | refine T.exit ?_
    refine T.ret (Done.own1 0 (Or.inr rfl) (ys := [_]) ?_ rfl ?_) <;> simp [resAs, Tryz.results172, eTm_def] <;> rfl
  · have : l = [] := by simpa using hbb rfl
    subst this
    refine T.cond rfl (fun hcnd => ?_) (fun hcnd => absurd hcnd (by decide))
    refine T.rs (fun _ => false) fun K hK => ?_
    refine aops_go ?_
    simp
    refine aops_end (hK _ ?_)
    clear hK K
    refine T.ownify 2 9 28 (by simp) ?_
    refine T.ret (Done.own1 0 (Or.inr rfl) (ys := [_]) ?_ rfl ?_) <;> simp [resAs, Tryz.results172]

theorem ground_ok (k : Int) : ACalls Tryz.prog 235 [.i k] [] (aTy (groundT k)) [] [] := by
  have h1 := base_ok 1
  by_cases h4 : k = 4
  · subst h4
    rw [show groundT 4 = .mk 4 [anyT, anyT] from rfl]
    have h2 := both_ok 4 anyT anyT
    refine ACalls.of_body Tryz.func235 (by kernel_rfl) rfl (by kernel_rfl) (by simp [Tryz.ntmps235]) (by simp) ?_
    rw [Tryz.ntmps235]
    repeat' first
      | ((first | refine aops_end (hK _ ?_) | refine aopsD_end (hK _ ?_) | refine aopsF_end (hK _ ?_)); clear hK K)
      | ((first | refine aops_go ?_ | refine aopsD_go ?_ | refine aopsF_go ?_); simp; (try (refine gen fun q hq => ?_; cases q <;> (try simp at hq) <;> (try (have hh : True := hq; clear hh hq)))))
      | (refine wpcall_pure rfl (h1) ?_; simp; (try (refine gen fun q hq => ?_; cases q <;> (try simp at hq) <;> (try (have hh : True := hq; clear hh hq)))))
      | (refine wpcall_pure ?_ (h2) ?_; (focus (solve | simp)); simp; (try (refine gen fun q hq => ?_; cases q <;> (try simp at hq) <;> (try (have hh : True := hq; clear hh hq)))))
      | (refine T.ret (Done.val (Or.inr rfl) ?_) <;> simp [resAs, Tryz.results235] <;> omega)
      | refine T.rs (fun _ => false) fun K hK => ?_
      | refine T.rs1 (fun _ => false) fun K hK => ?_
      | (refine ⟨by omega, ?_⟩)
      | refine T.cond rfl (fun hcnd => ?_) (fun hcnd => absurd hcnd (by decide))
      | refine T.cond rfl (fun hcnd => absurd hcnd (by decide)) (fun hcnd => ?_)
      | refine T.seq ?_
      | refine T.block ?_
      | refine T.skip ?_
      | refine T.exit ?_
  by_cases h5 : k = 5
  · subst h5
    rw [show groundT 5 = .mk 5 [anyT, anyT] from rfl]
    have h2 := both_ok 5 anyT anyT
    refine ACalls.of_body Tryz.func235 (by kernel_rfl) rfl (by kernel_rfl) (by simp [Tryz.ntmps235]) (by simp) ?_
    rw [Tryz.ntmps235]
    repeat' first
      | ((first | refine aops_end (hK _ ?_) | refine aopsD_end (hK _ ?_) | refine aopsF_end (hK _ ?_)); clear hK K)
      | ((first | refine aops_go ?_ | refine aopsD_go ?_ | refine aopsF_go ?_); simp; (try (refine gen fun q hq => ?_; cases q <;> (try simp at hq) <;> (try (have hh : True := hq; clear hh hq)))))
      | (refine wpcall_pure rfl (h1) ?_; simp; (try (refine gen fun q hq => ?_; cases q <;> (try simp at hq) <;> (try (have hh : True := hq; clear hh hq)))))
      | (refine wpcall_pure ?_ (h2) ?_; (focus (solve | simp)); simp; (try (refine gen fun q hq => ?_; cases q <;> (try simp at hq) <;> (try (have hh : True := hq; clear hh hq)))))
      | (refine T.ret (Done.val (Or.inr rfl) ?_) <;> simp [resAs, Tryz.results235] <;> omega)
      | refine T.rs (fun _ => false) fun K hK => ?_
      | refine T.rs1 (fun _ => false) fun K hK => ?_
      | (refine ⟨by omega, ?_⟩)
      | refine T.cond rfl (fun hcnd => ?_) (fun hcnd => absurd hcnd (by decide))
      | refine T.cond rfl (fun hcnd => absurd hcnd (by decide)) (fun hcnd => ?_)
      | refine T.seq ?_
      | refine T.block ?_
      | refine T.skip ?_
      | refine T.exit ?_
  · rw [show groundT k = .mk k [] by simp [groundT, h4, h5]]
    have h3 := base_ok k
    refine ACalls.of_body Tryz.func235 (by kernel_rfl) rfl (by kernel_rfl) (by simp [Tryz.ntmps235]) (by simp) ?_
    rw [Tryz.ntmps235]
    repeat' first
      | ((first | refine aops_end (hK _ ?_) | refine aopsD_end (hK _ ?_) | refine aopsF_end (hK _ ?_)); clear hK K)
      | ((first | refine aops_go ?_ | refine aopsD_go ?_ | refine aopsF_go ?_); simp [h4, h5]; (try (refine gen fun q hq => ?_; cases q <;> (try simp [h4, h5] at hq) <;> (try (have hh : True := hq; clear hh hq)))))
      | (refine wpcall_pure rfl (h3) ?_; simp [h4, h5]; (try (refine gen fun q hq => ?_; cases q <;> (try simp [h4, h5] at hq) <;> (try (have hh : True := hq; clear hh hq)))))
      | (refine T.ret (Done.val (Or.inr rfl) ?_) <;> simp [resAs, Tryz.results235] <;> omega)
      | refine T.rs (fun _ => false) fun K hK => ?_
      | refine T.rs1 (fun _ => false) fun K hK => ?_
      | (refine ⟨by omega, ?_⟩)
      | refine T.cond rfl (fun hcnd => ?_) (fun hcnd => absurd hcnd (by decide))
      | refine T.cond rfl (fun hcnd => absurd hcnd (by decide)) (fun hcnd => ?_)
      | refine T.seq ?_
      | refine T.block ?_
      | refine T.skip ?_
      | refine T.exit ?_

theorem isGround_ok (t : MTy) (hn : nTy t ≤ 1099511627776) : ACalls Tryz.prog 205 [aTy t] [] (.b (isGroundM t)) [] [] := by
  have h1 := ground_ok t.kind
  have h2 := TypeSame_ok t (groundT t.kind) hn
  rw [isGroundM]
  generalize sameTy t (groundT t.kind) = q at *
  generalize groundT t.kind = G at *
  by_cases hk : t.kind = 1
  · simp only [hk, ne_eq, not_true_eq_false, decide_false, Bool.false_and]
    refine ACalls.of_body Tryz.func205 (by kernel_rfl) rfl (by kernel_rfl) (by simp [Tryz.ntmps205]) (by simp) ?_
    rw [Tryz.ntmps205]
    repeat' first
      | ((first | refine aops_end (hK _ ?_) | refine aopsD_end (hK _ ?_) | refine aopsF_end (hK _ ?_)); clear hK K)
      | ((first | refine aops_go ?_ | refine aopsD_go ?_ | refine aopsF_go ?_); simp [hk]; (try (refine gen fun q hq => ?_; cases q <;> (try simp [hk] at hq) <;> (try (have hh : True := hq; clear hh hq)))))
      | (refine wpcall_pure rfl (h1) ?_; simp [hk]; (try (refine gen fun q hq => ?_; cases q <;> (try simp [hk] at hq) <;> (try (have hh : True := hq; clear hh hq)))))
      | (refine wpcall_pure rfl (h2) ?_; simp [hk]; (try (refine gen fun q hq => ?_; cases q <;> (try simp [hk] at hq) <;> (try (have hh : True := hq; clear hh hq)))))
      | (refine T.ret (Done.data (Or.inr rfl) ?_ ?_) <;> simp [Tryz.results205] <;> omega)
      | refine T.rd (id := 1) mixed (fun _ => false) [] (by kernel_rfl) fun K hK => ?_
      | refine T.rd1 (id := 1) mixed (fun _ => false) [] (by kernel_rfl) fun K hK => ?_
      | refine T.rs (fun _ => false) fun K hK => ?_
      | refine T.rs1 (fun _ => false) fun K hK => ?_
      | (refine ⟨by omega, ?_⟩)
      | refine T.cond rfl (fun hcnd => ?_) (fun hcnd => absurd hcnd (by decide))
      | refine T.cond rfl (fun hcnd => absurd hcnd (by decide)) (fun hcnd => ?_)
      | refine T.seq ?_
      | refine T.block ?_
      | refine T.skip ?_
      | refine T.exit ?_
  · simp only [hk, ne_eq, not_false_eq_true, decide_true, Bool.true_and]
    refine ACalls.of_body Tryz.func205 (by kernel_rfl) rfl (by kernel_rfl) (by simp [Tryz.ntmps205]) (by simp) ?_
    rw [Tryz.ntmps205]
    repeat' first
      | ((first | refine aops_end (hK _ ?_) | refine aopsD_end (hK _ ?_) | refine aopsF_end (hK _ ?_)); clear hK K)
      | ((first | refine aops_go ?_ | refine aopsD_go ?_ | refine aopsF_go ?_); simp [hk]; (try (refine gen fun q hq => ?_; cases q <;> (try simp [hk] at hq) <;> (try (have hh : True := hq; clear hh hq)))))
      | (refine wpcall_pure rfl (h1) ?_; simp [hk]; (try (refine gen fun q hq => ?_; cases q <;> (try simp [hk] at hq) <;> (try (have hh : True := hq; clear hh hq)))))
      | (refine wpcall_pure rfl (h2) ?_; simp [hk]; (try (refine gen fun q hq => ?_; cases q <;> (try simp [hk] at hq) <;> (try (have hh : True := hq; clear hh hq)))))
      | (refine T.ret (Done.data (Or.inr rfl) ?_ ?_) <;> simp [Tryz.results205, *] <;> omega)
      | refine T.rd (id := 1) mixed (fun _ => false) [] (by kernel_rfl) fun K hK => ?_
      | refine T.rd1 (id := 1) mixed (fun _ => false) [] (by kernel_rfl) fun K hK => ?_
      | refine T.rs (fun _ => false) fun K hK => ?_
      | refine T.rs1 (fun _ => false) fun K hK => ?_
      | (refine ⟨by omega, ?_⟩)
      | refine T.cond rfl (fun hcnd => ?_) (fun hcnd => absurd hcnd (by decide))
      | refine T.cond rfl (fun hcnd => absurd hcnd (by decide)) (fun hcnd => ?_)
      | refine T.seq ?_
      | refine T.block ?_
      | refine T.skip ?_
      | refine T.exit ?_

theorem isProxy_ok (e : MTm) : ACalls Tryz.prog 167 [aTm e] [] (.b (proxyM e)) [] [] := by
  rw [proxyM]
  refine ACalls.of_body Tryz.func167 (by kernel_rfl) rfl (by kernel_rfl) (by simp [Tryz.ntmps167]) (by simp) ?_
  rw [Tryz.ntmps167]
  repeat' first
    | ((first | refine aops_end (hK _ ?_) | refine aopsD_end (hK _ ?_) | refine aopsF_end (hK _ ?_)); clear hK K)
    | ((first | refine aops_go ?_ | refine aopsD_go ?_ | refine aopsF_go ?_); simp; (try (refine gen fun q hq => ?_; cases q <;> (try simp at hq) <;> (try (have hh : True := hq; clear hh hq)))))
    | (refine T.ret (Done.data (Or.inr rfl) ?_ ?_) <;> simp [Tryz.results167, *] <;> omega)
    | refine T.rs (fun _ => false) fun K hK => ?_
    | refine T.rs1 (fun _ => false) fun K hK => ?_
    | (refine ⟨by omega, ?_⟩)
    | refine T.cond rfl (fun hcnd => ?_) (fun hcnd => absurd hcnd (by decide))
    | refine T.cond rfl (fun hcnd => absurd hcnd (by decide)) (fun hcnd => ?_)
    | refine T.seq ?_
    | refine T.block ?_
    | refine T.skip ?_
    | refine T.exit ?_

theorem isInjection_ok (e : MTm) (hn : nTy e.fr ≤ 1099511627776) : ACalls Tryz.prog 168 [aTm e] [] (.b (injM e)) [] [] := by
  have h1 := isGround_ok e.fr hn
  rw [injM]
  generalize isGroundM e.fr = q at *
  refine ACalls.of_body Tryz.func168 (by kernel_rfl) rfl (by kernel_rfl) (by simp [Tryz.ntmps168]) (by simp) ?_
  rw [Tryz.ntmps168]
  repeat' first
    | ((first | refine aops_end (hK _ ?_) | refine aopsD_end (hK _ ?_) | refine aopsF_end (hK _ ?_)); clear hK K)
    | ((first | refine aops_go ?_ | refine aopsD_go ?_ | refine aopsF_go ?_); simp; (try (refine gen fun q hq => ?_; cases q <;> (try simp at hq) <;> (try (have hh : True := hq; clear hh hq)))))
    | (refine wpcall_pure rfl (h1) ?_; simp; (try (refine gen fun q hq => ?_; cases q <;> (try simp at hq) <;> (try (have hh : True := hq; clear hh hq)))))
    | (refine T.ret (Done.data (Or.inr rfl) ?_ ?_) <;> simp [Tryz.results168, *] <;> omega)
    | refine T.rs (fun _ => false) fun K hK => ?_
    | refine T.rs1 (fun _ => false) fun K hK => ?_
    | (refine ⟨by omega, ?_⟩)
    | refine T.cond rfl (fun hcnd => ?_) (fun hcnd => absurd hcnd (by decide))
    | refine T.cond rfl (fun hcnd => absurd hcnd (by decide)) (fun hcnd => ?_)
    | refine T.seq ?_
    | refine T.block ?_
    | refine T.skip ?_
    | refine T.exit ?_

theorem isPlain_ok (e : MTm) : ACalls Tryz.prog 170 [aTm e] [] (.b (plainM e)) [] [] := by
  rw [plainM]
  refine ACalls.of_body Tryz.func170 (by kernel_rfl) rfl (by kernel_rfl) (by simp [Tryz.ntmps170]) (by simp) ?_
  rw [Tryz.ntmps170]
  repeat' first
    | ((first | refine aops_end (hK _ ?_) | refine aopsD_end (hK _ ?_) | refine aopsF_end (hK _ ?_)); clear hK K)
    | ((first | refine aops_go ?_ | refine aopsD_go ?_ | refine aopsF_go ?_); simp; (try (refine gen fun q hq => ?_; cases q <;> (try simp at hq) <;> (try (have hh : True := hq; clear hh hq)))))
    | (refine T.ret (Done.data (Or.inr rfl) ?_ ?_) <;> simp [Tryz.results170, *] <;> omega)
    | refine T.rs (fun _ => false) fun K hK => ?_
    | refine T.rs1 (fun _ => false) fun K hK => ?_
    | (refine ⟨by omega, ?_⟩)
    | refine T.cond rfl (fun hcnd => ?_) (fun hcnd => absurd hcnd (by decide))
    | refine T.cond rfl (fun hcnd => absurd hcnd (by decide)) (fun hcnd => ?_)
    | refine T.seq ?_
    | refine T.block ?_
    | refine T.skip ?_
    | refine T.exit ?_

theorem isValue1_ok (e : MTm) (q : Bool) (h : ACalls Tryz.prog 107 [aTm e] [] (.b q) [] []) : ACalls Tryz.prog 169 [aTm e] [] (.b (!q)) [] [] := by
  refine ACalls.of_body Tryz.func169 (by kernel_rfl) rfl (by kernel_rfl) (by simp [Tryz.ntmps169]) (by simp) ?_
  rw [Tryz.ntmps169]
  repeat' first
    | ((first | refine aops_end (hK _ ?_) | refine aopsD_end (hK _ ?_) | refine aopsF_end (hK _ ?_)); clear hK K)
    | ((first | refine aops_go ?_ | refine aopsD_go ?_ | refine aopsF_go ?_); simp)
    | (refine wpcall_pure rfl (h) ?_; simp)
    | (refine T.ret (Done.data (Or.inr rfl) ?_ ?_) <;> simp [Tryz.results169] <;> omega)
    | refine T.rs (fun _ => false) fun K hK => ?_
    | refine T.rs1 (fun _ => false) fun K hK => ?_
    | (refine ⟨by omega, ?_⟩)
    | refine T.cond rfl (fun hcnd => ?_) (fun hcnd => absurd hcnd (by decide))
    | refine T.cond rfl (fun hcnd => absurd hcnd (by decide)) (fun hcnd => ?_)
    | refine T.seq ?_
    | refine T.block ?_
    | refine T.skip ?_
    | refine T.exit ?_

theorem isValue_ok : ∀ (e : MTm), nTm e ≤ 1099511627776 → ACalls Tryz.prog 107 [aTm e] [] (.b (valM e)) [] [] := by
  intro e
  induction e using MTm.ind with
  | h e ih =>
    intro hn
    obtain ⟨hnt, hnf, hnk, hnu⟩ := nTm_parts hn
    have hcf := containsFuncTm_0 169 e.kids (fun t => !valM t) (by omega) (fun u hu => isValue1_ok u _ (ih u hu (hnu u hu)))
    have h1 := isProxy_ok e
    have h2 := isInjection_ok e hnf
    have h3 := isPlain_ok e
    rw [valM_def, ← not_any_not]
    generalize (e.kids.any fun t => !valM t) = R at hcf ⊢
    generalize proxyM e = q1 at *
    generalize injM e = q2 at *
    generalize plainM e = q3 at *
    by_cases hk : e.kind = 10
    · simp only [hk, decide_true, Bool.true_or, if_true]
      refine ACalls.of_body Tryz.func107 (by kernel_rfl) rfl (by kernel_rfl) (by simp [Tryz.ntmps107]) (by simp) ?_
      rw [Tryz.ntmps107]
      repeat' first
        | ((first | refine aops_end (hK _ ?_) | refine aopsD_end (hK _ ?_) | refine aopsF_end (hK _ ?_)); clear hK K)
        | ((first | refine aops_go ?_ | refine aopsD_go ?_ | refine aopsF_go ?_); simp [hk]; (try (refine gen fun q hq => ?_; cases q <;> (try simp [hk] at hq) <;> (try (have hh : True := hq; clear hh hq)))))
        | (refine wpcall_pure rfl (hcf) ?_; simp [hk]; (try (refine gen fun q hq => ?_; cases q <;> (try simp [hk] at hq) <;> (try (have hh : True := hq; clear hh hq)))))
        | (refine T.ret (Done.data (Or.inr rfl) ?_ ?_) <;> simp [Tryz.results107, *] <;> omega)
        | refine T.rs (fun _ => false) fun K hK => ?_
        | refine T.rs1 (fun _ => false) fun K hK => ?_
        | (refine ⟨by omega, ?_⟩)
        | refine T.cond rfl (fun hcnd => ?_) (fun hcnd => absurd hcnd (by decide))
        | refine T.cond rfl (fun hcnd => absurd hcnd (by decide)) (fun hcnd => ?_)
        | refine T.seq ?_
        | refine T.block ?_
        | refine T.skip ?_
        | refine T.exit ?_
    · simp only [hk, decide_false, Bool.false_or]
      cases q1
      · cases q2
        · simp only [Bool.or_self, Bool.false_eq_true, if_false]
          refine ACalls.of_body Tryz.func107 (by kernel_rfl) rfl (by kernel_rfl) (by simp [Tryz.ntmps107]) (by simp) ?_
          rw [Tryz.ntmps107]
          repeat' first
            | ((first | refine aops_end (hK _ ?_) | refine aopsD_end (hK _ ?_) | refine aopsF_end (hK _ ?_)); clear hK K)
            | ((first | refine aops_go ?_ | refine aopsD_go ?_ | refine aopsF_go ?_); simp [hk]; (try (refine gen fun q hq => ?_; cases q <;> (try simp [hk] at hq) <;> (try (have hh : True := hq; clear hh hq)))))
            | (refine wpcall_pure rfl (h1) ?_; simp [hk]; (try (refine gen fun q hq => ?_; cases q <;> (try simp [hk] at hq) <;> (try (have hh : True := hq; clear hh hq)))))
            | (refine wpcall_pure rfl (h2) ?_; simp [hk]; (try (refine gen fun q hq => ?_; cases q <;> (try simp [hk] at hq) <;> (try (have hh : True := hq; clear hh hq)))))
            | (refine wpcall_pure rfl (h3) ?_; simp [hk]; (try (refine gen fun q hq => ?_; cases q <;> (try simp [hk] at hq) <;> (try (have hh : True := hq; clear hh hq)))))
            | (refine T.ret (Done.data (Or.inr rfl) ?_ ?_) <;> simp [Tryz.results107, *] <;> omega)
            | refine T.rs (fun _ => false) fun K hK => ?_
            | refine T.rs1 (fun _ => false) fun K hK => ?_
            | (refine ⟨by omega, ?_⟩)
            | refine T.cond rfl (fun hcnd => ?_) (fun hcnd => absurd hcnd (by decide))
            | refine T.cond rfl (fun hcnd => absurd hcnd (by decide)) (fun hcnd => ?_)
            | refine T.seq ?_
            | refine T.block ?_
            | refine T.skip ?_
            | refine T.exit ?_
        · simp only [Bool.or_true, if_true]
          refine ACalls.of_body Tryz.func107 (by kernel_rfl) rfl (by kernel_rfl) (by simp [Tryz.ntmps107]) (by simp) ?_
          rw [Tryz.ntmps107]
          repeat' first
            | ((first | refine aops_end (hK _ ?_) | refine aopsD_end (hK _ ?_) | refine aopsF_end (hK _ ?_)); clear hK K)
            | ((first | refine aops_go ?_ | refine aopsD_go ?_ | refine aopsF_go ?_); simp [hk]; (try (refine gen fun q hq => ?_; cases q <;> (try simp [hk] at hq) <;> (try (have hh : True := hq; clear hh hq)))))
            | (refine wpcall_pure rfl (h1) ?_; simp [hk]; (try (refine gen fun q hq => ?_; cases q <;> (try simp [hk] at hq) <;> (try (have hh : True := hq; clear hh hq)))))
            | (refine wpcall_pure rfl (h2) ?_; simp [hk]; (try (refine gen fun q hq => ?_; cases q <;> (try simp [hk] at hq) <;> (try (have hh : True := hq; clear hh hq)))))
            | (refine wpcall_pure rfl (hcf) ?_; simp [hk]; (try (refine gen fun q hq => ?_; cases q <;> (try simp [hk] at hq) <;> (try (have hh : True := hq; clear hh hq)))))
            | (refine T.ret (Done.data (Or.inr rfl) ?_ ?_) <;> simp [Tryz.results107, *] <;> omega)
            | refine T.rs (fun _ => false) fun K hK => ?_
            | refine T.rs1 (fun _ => false) fun K hK => ?_
            | (refine ⟨by omega, ?_⟩)
            | refine T.cond rfl (fun hcnd => ?_) (fun hcnd => absurd hcnd (by decide))
            | refine T.cond rfl (fun hcnd => absurd hcnd (by decide)) (fun hcnd => ?_)
            | refine T.seq ?_
            | refine T.block ?_
            | refine T.skip ?_
            | refine T.exit ?_
      · simp only [Bool.true_or, if_true]
        refine ACalls.of_body Tryz.func107 (by kernel_rfl) rfl (by kernel_rfl) (by simp [Tryz.ntmps107]) (by simp) ?_
        rw [Tryz.ntmps107]
        repeat' first
          | ((first | refine aops_end (hK _ ?_) | refine aopsD_end (hK _ ?_) | refine aopsF_end (hK _ ?_)); clear hK K)
          | ((first | refine aops_go ?_ | refine aopsD_go ?_ | refine aopsF_go ?_); simp [hk]; (try (refine gen fun q hq => ?_; cases q <;> (try simp [hk] at hq) <;> (try (have hh : True := hq; clear hh hq)))))
          | (refine wpcall_pure rfl (h1) ?_; simp [hk]; (try (refine gen fun q hq => ?_; cases q <;> (try simp [hk] at hq) <;> (try (have hh : True := hq; clear hh hq)))))
          | (refine wpcall_pure rfl (hcf) ?_; simp [hk]; (try (refine gen fun q hq => ?_; cases q <;> (try simp [hk] at hq) <;> (try (have hh : True := hq; clear hh hq)))))
          | (refine T.ret (Done.data (Or.inr rfl) ?_ ?_) <;> simp [Tryz.results107, *] <;> omega)
          | refine T.rs (fun _ => false) fun K hK => ?_
          | refine T.rs1 (fun _ => false) fun K hK => ?_
          | (refine ⟨by omega, ?_⟩)
          | refine T.cond rfl (fun hcnd => ?_) (fun hcnd => absurd hcnd (by decide))
          | refine T.cond rfl (fun hcnd => absurd hcnd (by decide)) (fun hcnd => ?_)
          | refine T.seq ?_
          | refine T.block ?_
          | refine T.skip ?_
          | refine T.exit ?_

theorem IsValue_ok (e : MTm) (hn : nTm e ≤ 1099511627776) : ACalls Tryz.prog 44 [aTm e] [] (.b (castValidM e && valM e)) [] [] := by
  have h1 := CastValid_ok e hn
  have h2 := isValue_ok e hn
  generalize castValidM e = a at *
  generalize valM e = b at *
  refine ACalls.of_body Tryz.func44 (by kernel_rfl) rfl (by kernel_rfl) (by simp [Tryz.ntmps44]) (by simp) ?_
  rw [Tryz.ntmps44]
  repeat' first
    | ((first | refine aops_end (hK _ ?_) | refine aopsD_end (hK _ ?_) | refine aopsF_end (hK _ ?_)); clear hK K)
    | ((first | refine aops_go ?_ | refine aopsD_go ?_ | refine aopsF_go ?_); simp; (try (refine gen fun q hq => ?_; cases q <;> (try simp at hq) <;> (try (have hh : True := hq; clear hh hq)))))
    | (refine wpcall_pure rfl (h1) ?_; simp; (try (refine gen fun q hq => ?_; cases q <;> (try simp at hq) <;> (try (have hh : True := hq; clear hh hq)))))
    | (refine wpcall_pure rfl (h2) ?_; simp; (try (refine gen fun q hq => ?_; cases q <;> (try simp at hq) <;> (try (have hh : True := hq; clear hh hq)))))
    | (refine T.ret (Done.data (Or.inr rfl) ?_ ?_) <;> simp [Tryz.results44, *] <;> omega)
    | refine T.rs (fun _ => false) fun K hK => ?_
    | refine T.rs1 (fun _ => false) fun K hK => ?_
    | (refine ⟨by omega, ?_⟩)
    | refine T.cond rfl (fun hcnd => ?_) (fun hcnd => absurd hcnd (by decide))
    | refine T.cond rfl (fun hcnd => absurd hcnd (by decide)) (fun hcnd => ?_)
    | refine T.seq ?_
    | refine T.block ?_
    | refine T.skip ?_
    | refine T.exit ?_

theorem counts_ok (e : MTm) : ACalls Tryz.prog 171 [aTm e] [] (.i (countsM e)) [] [] := by
  by_cases hk : e.kind = 9
  · rw [show countsM e = 1 by simp [countsM, hk]]
    refine ACalls.of_body Tryz.func171 (by kernel_rfl) rfl (by kernel_rfl) (by simp [Tryz.ntmps171]) (by simp) ?_
    rw [Tryz.ntmps171]
    repeat' first
      | ((first | refine aops_end (hK _ ?_) | refine aopsD_end (hK _ ?_) | refine aopsF_end (hK _ ?_)); clear hK K)
      | ((first | refine aops_go ?_ | refine aopsD_go ?_ | refine aopsF_go ?_); simp [hk]; (try (refine gen fun q hq => ?_; cases q <;> (try simp [hk] at hq) <;> (try (have hh : True := hq; clear hh hq)))))
      | (refine T.ret (Done.data (Or.inr rfl) ?_ ?_) <;> simp [Tryz.results171] <;> omega)
      | refine T.rs (fun _ => false) fun K hK => ?_
      | refine T.rs1 (fun _ => false) fun K hK => ?_
      | (refine ⟨by omega, ?_⟩)
      | refine T.cond rfl (fun hcnd => ?_) (fun hcnd => absurd hcnd (by decide))
      | refine T.cond rfl (fun hcnd => absurd hcnd (by decide)) (fun hcnd => ?_)
      | refine T.seq ?_
      | refine T.block ?_
      | refine T.skip ?_
      | refine T.exit ?_
  · rw [show countsM e = e.kids.length by simp [countsM, hk]]
    refine ACalls.of_body Tryz.func171 (by kernel_rfl) rfl (by kernel_rfl) (by simp [Tryz.ntmps171]) (by simp) ?_
    rw [Tryz.ntmps171]
    repeat' first
      | ((first | refine aops_end (hK _ ?_) | refine aopsD_end (hK _ ?_) | refine aopsF_end (hK _ ?_)); clear hK K)
      | ((first | refine aops_go ?_ | refine aopsD_go ?_ | refine aopsF_go ?_); simp [hk]; (try (refine gen fun q hq => ?_; cases q <;> (try simp [hk] at hq) <;> (try (have hh : True := hq; clear hh hq)))))
      | (refine T.ret (Done.data (Or.inr rfl) ?_ ?_) <;> simp [Tryz.results171] <;> omega)
      | refine T.rs (fun _ => false) fun K hK => ?_
      | refine T.rs1 (fun _ => false) fun K hK => ?_
      | (refine ⟨by omega, ?_⟩)
      | refine T.cond rfl (fun hcnd => ?_) (fun hcnd => absurd hcnd (by decide))
      | refine T.cond rfl (fun hcnd => absurd hcnd (by decide)) (fun hcnd => ?_)
      | refine T.seq ?_
      | refine T.block ?_
      | refine T.skip ?_
      | refine T.exit ?_

theorem wrong_ok (e : MTm) : ACalls Tryz.prog 174 [aTm e] [] (.i (wrongM e.kind)) [] [] := by
  by_cases h6 : e.kind = 6
  · simp only [wrongM, h6]
    refine ACalls.of_body Tryz.func174 (by kernel_rfl) rfl (by kernel_rfl) (by simp [Tryz.ntmps174]) (by simp) ?_
    rw [Tryz.ntmps174]
    repeat' first
      | ((first | refine aops_end (hK _ ?_) | refine aopsD_end (hK _ ?_) | refine aopsF_end (hK _ ?_)); clear hK K)
      | ((first | refine aops_go ?_ | refine aopsD_go ?_ | refine aopsF_go ?_); simp [h6]; (try (refine gen fun q hq => ?_; cases q <;> (try simp [h6] at hq) <;> (try (have hh : True := hq; clear hh hq)))))
      | (refine T.ret (Done.data (Or.inr rfl) ?_ ?_) <;> simp [Tryz.results174] <;> omega)
      | refine T.rs (fun _ => false) fun K hK => ?_
      | refine T.rs1 (fun _ => false) fun K hK => ?_
      | (refine ⟨by omega, ?_⟩)
      | refine T.cond rfl (fun hcnd => ?_) (fun hcnd => absurd hcnd (by decide))
      | refine T.cond rfl (fun hcnd => absurd hcnd (by decide)) (fun hcnd => ?_)
      | refine T.seq ?_
      | refine T.block ?_
      | refine T.skip ?_
      | refine T.exit ?_
  by_cases h7 : e.kind = 7
  · simp only [wrongM, h7]
    refine ACalls.of_body Tryz.func174 (by kernel_rfl) rfl (by kernel_rfl) (by simp [Tryz.ntmps174]) (by simp) ?_
    rw [Tryz.ntmps174]
    repeat' first
      | ((first | refine aops_end (hK _ ?_) | refine aopsD_end (hK _ ?_) | refine aopsF_end (hK _ ?_)); clear hK K)
      | ((first | refine aops_go ?_ | refine aopsD_go ?_ | refine aopsF_go ?_); simp [h7]; (try (refine gen fun q hq => ?_; cases q <;> (try simp [h7] at hq) <;> (try (have hh : True := hq; clear hh hq)))))
      | (refine T.ret (Done.data (Or.inr rfl) ?_ ?_) <;> simp [Tryz.results174] <;> omega)
      | refine T.rs (fun _ => false) fun K hK => ?_
      | refine T.rs1 (fun _ => false) fun K hK => ?_
      | (refine ⟨by omega, ?_⟩)
      | refine T.cond rfl (fun hcnd => ?_) (fun hcnd => absurd hcnd (by decide))
      | refine T.cond rfl (fun hcnd => absurd hcnd (by decide)) (fun hcnd => ?_)
      | refine T.seq ?_
      | refine T.block ?_
      | refine T.skip ?_
      | refine T.exit ?_
  by_cases h8 : e.kind = 8
  · simp only [wrongM, h8]
    refine ACalls.of_body Tryz.func174 (by kernel_rfl) rfl (by kernel_rfl) (by simp [Tryz.ntmps174]) (by simp) ?_
    rw [Tryz.ntmps174]
    repeat' first
      | ((first | refine aops_end (hK _ ?_) | refine aopsD_end (hK _ ?_) | refine aopsF_end (hK _ ?_)); clear hK K)
      | ((first | refine aops_go ?_ | refine aopsD_go ?_ | refine aopsF_go ?_); simp [h8]; (try (refine gen fun q hq => ?_; cases q <;> (try simp [h8] at hq) <;> (try (have hh : True := hq; clear hh hq)))))
      | (refine T.ret (Done.data (Or.inr rfl) ?_ ?_) <;> simp [Tryz.results174] <;> omega)
      | refine T.rs (fun _ => false) fun K hK => ?_
      | refine T.rs1 (fun _ => false) fun K hK => ?_
      | (refine ⟨by omega, ?_⟩)
      | refine T.cond rfl (fun hcnd => ?_) (fun hcnd => absurd hcnd (by decide))
      | refine T.cond rfl (fun hcnd => absurd hcnd (by decide)) (fun hcnd => ?_)
      | refine T.seq ?_
      | refine T.block ?_
      | refine T.skip ?_
      | refine T.exit ?_
  by_cases h9 : e.kind = 9
  · simp only [wrongM, h9]
    refine ACalls.of_body Tryz.func174 (by kernel_rfl) rfl (by kernel_rfl) (by simp [Tryz.ntmps174]) (by simp) ?_
    rw [Tryz.ntmps174]
    repeat' first
      | ((first | refine aops_end (hK _ ?_) | refine aopsD_end (hK _ ?_) | refine aopsF_end (hK _ ?_)); clear hK K)
      | ((first | refine aops_go ?_ | refine aopsD_go ?_ | refine aopsF_go ?_); simp [h9]; (try (refine gen fun q hq => ?_; cases q <;> (try simp [h9] at hq) <;> (try (have hh : True := hq; clear hh hq)))))
      | (refine T.ret (Done.data (Or.inr rfl) ?_ ?_) <;> simp [Tryz.results174] <;> omega)
      | refine T.rs (fun _ => false) fun K hK => ?_
      | refine T.rs1 (fun _ => false) fun K hK => ?_
      | (refine ⟨by omega, ?_⟩)
      | refine T.cond rfl (fun hcnd => ?_) (fun hcnd => absurd hcnd (by decide))
      | refine T.cond rfl (fun hcnd => absurd hcnd (by decide)) (fun hcnd => ?_)
      | refine T.seq ?_
      | refine T.block ?_
      | refine T.skip ?_
      | refine T.exit ?_
  by_cases h11 : e.kind = 11
  · simp only [wrongM, h11]
    refine ACalls.of_body Tryz.func174 (by kernel_rfl) rfl (by kernel_rfl) (by simp [Tryz.ntmps174]) (by simp) ?_
    rw [Tryz.ntmps174]
    repeat' first
      | ((first | refine aops_end (hK _ ?_) | refine aopsD_end (hK _ ?_) | refine aopsF_end (hK _ ?_)); clear hK K)
      | ((first | refine aops_go ?_ | refine aopsD_go ?_ | refine aopsF_go ?_); simp [h11]; (try (refine gen fun q hq => ?_; cases q <;> (try simp [h11] at hq) <;> (try (have hh : True := hq; clear hh hq)))))
      | (refine T.ret (Done.data (Or.inr rfl) ?_ ?_) <;> simp [Tryz.results174] <;> omega)
      | refine T.rs (fun _ => false) fun K hK => ?_
      | refine T.rs1 (fun _ => false) fun K hK => ?_
      | (refine ⟨by omega, ?_⟩)
      | refine T.cond rfl (fun hcnd => ?_) (fun hcnd => absurd hcnd (by decide))
      | refine T.cond rfl (fun hcnd => absurd hcnd (by decide)) (fun hcnd => ?_)
      | refine T.seq ?_
      | refine T.block ?_
      | refine T.skip ?_
      | refine T.exit ?_
  by_cases h12 : e.kind = 12
  · simp only [wrongM, h12]
    refine ACalls.of_body Tryz.func174 (by kernel_rfl) rfl (by kernel_rfl) (by simp [Tryz.ntmps174]) (by simp) ?_
    rw [Tryz.ntmps174]
    repeat' first
      | ((first | refine aops_end (hK _ ?_) | refine aopsD_end (hK _ ?_) | refine aopsF_end (hK _ ?_)); clear hK K)
      | ((first | refine aops_go ?_ | refine aopsD_go ?_ | refine aopsF_go ?_); simp [h12]; (try (refine gen fun q hq => ?_; cases q <;> (try simp [h12] at hq) <;> (try (have hh : True := hq; clear hh hq)))))
      | (refine T.ret (Done.data (Or.inr rfl) ?_ ?_) <;> simp [Tryz.results174] <;> omega)
      | refine T.rs (fun _ => false) fun K hK => ?_
      | refine T.rs1 (fun _ => false) fun K hK => ?_
      | (refine ⟨by omega, ?_⟩)
      | refine T.cond rfl (fun hcnd => ?_) (fun hcnd => absurd hcnd (by decide))
      | refine T.cond rfl (fun hcnd => absurd hcnd (by decide)) (fun hcnd => ?_)
      | refine T.seq ?_
      | refine T.block ?_
      | refine T.skip ?_
      | refine T.exit ?_
  simp only [wrongM, h6, h7, h8, h9, h11, h12, or_self, if_false]
  refine ACalls.of_body Tryz.func174 (by kernel_rfl) rfl (by kernel_rfl) (by simp [Tryz.ntmps174]) (by simp) ?_
  rw [Tryz.ntmps174]
  repeat' first
    | ((first | refine aops_end (hK _ ?_) | refine aopsD_end (hK _ ?_) | refine aopsF_end (hK _ ?_)); clear hK K)
    | ((first | refine aops_go ?_ | refine aopsD_go ?_ | refine aopsF_go ?_); simp [h6, h7, h8, h9, h11, h12]; (try (refine gen fun q hq => ?_; cases q <;> (try simp [h6, h7, h8, h9, h11, h12] at hq) <;> (try (have hh : True := hq; clear hh hq)))))
    | (refine T.ret (Done.data (Or.inr rfl) ?_ ?_) <;> simp [Tryz.results174] <;> omega)
    | refine T.rs (fun _ => false) fun K hK => ?_
    | refine T.rs1 (fun _ => false) fun K hK => ?_
    | (refine ⟨by omega, ?_⟩)
    | refine T.cond rfl (fun hcnd => ?_) (fun hcnd => absurd hcnd (by decide))
    | refine T.cond rfl (fun hcnd => absurd hcnd (by decide)) (fun hcnd => ?_)
    | refine T.seq ?_
    | refine T.block ?_
    | refine T.skip ?_
    | refine T.exit ?_

theorem node0l_ok (k : Int) : ACalls Tryz.prog 238 [.i k, .l []] [] (aTm (.mk k [] 0 zeroT zeroT 0 [])) [] [] := by
  refine ACalls.of_body Tryz.func238 (by kernel_rfl) rfl (by kernel_rfl) (by simp [Tryz.ntmps238]) (by simp) ?_
  rw [Tryz.ntmps238]
  repeat' first
    | ((first | refine aops_end (hK _ ?_) | refine aopsD_end (hK _ ?_) | refine aopsF_end (hK _ ?_)); clear hK K)
    | ((first | refine aops_go ?_ | refine aopsD_go ?_ | refine aopsF_go ?_); simp; (try (refine gen fun q hq => ?_; cases q <;> (try simp at hq) <;> (try (have hh : True := hq; clear hh hq)))))
    | (refine T.ret (Done.val (Or.inr rfl) ?_) <;> simp [resAs, Tryz.results238] <;> omega)
    | refine T.rs (fun _ => false) fun K hK => ?_
    | refine T.rs1 (fun _ => false) fun K hK => ?_
    | (refine ⟨by omega, ?_⟩)
    | refine T.cond rfl (fun hcnd => ?_) (fun hcnd => absurd hcnd (by decide))
    | refine T.cond rfl (fun hcnd => absurd hcnd (by decide)) (fun hcnd => ?_)
    | refine T.seq ?_
    | refine T.block ?_
    | refine T.skip ?_
    | refine T.exit ?_

theorem truth_ok (b : Bool) : ACalls Tryz.prog 207 [.b b] [] (aTm (truthM b)) [] [] := by
  have h3 := node0l_ok 3
  have h4 := node0l_ok 4
  cases b
  · rw [show truthM false = tFalse from rfl]
    refine ACalls.of_body Tryz.func207 (by kernel_rfl) rfl (by kernel_rfl) (by simp [Tryz.ntmps207]) (by simp) ?_
    rw [Tryz.ntmps207]
    repeat' first
      | ((first | refine aops_end (hK _ ?_) | refine aopsD_end (hK _ ?_) | refine aopsF_end (hK _ ?_)); clear hK K)
      | ((first | refine aops_go ?_ | refine aopsD_go ?_ | refine aopsF_go ?_); simp; (try (refine gen fun q hq => ?_; cases q <;> (try simp at hq) <;> (try (have hh : True := hq; clear hh hq)))))
      | (refine wpcall_pure rfl (h3) ?_; simp; (try (refine gen fun q hq => ?_; cases q <;> (try simp at hq) <;> (try (have hh : True := hq; clear hh hq)))))
      | (refine wpcall_pure rfl (h4) ?_; simp; (try (refine gen fun q hq => ?_; cases q <;> (try simp at hq) <;> (try (have hh : True := hq; clear hh hq)))))
      | (refine T.ret (Done.val (Or.inr rfl) ?_) <;> simp [resAs, Tryz.results207] <;> omega)
      | refine T.rs (fun _ => false) fun K hK => ?_
      | refine T.rs1 (fun _ => false) fun K hK => ?_
      | (refine ⟨by omega, ?_⟩)
      | refine T.cond rfl (fun hcnd => ?_) (fun hcnd => absurd hcnd (by decide))
      | refine T.cond rfl (fun hcnd => absurd hcnd (by decide)) (fun hcnd => ?_)
      | refine T.seq ?_
      | refine T.block ?_
      | refine T.skip ?_
      | refine T.exit ?_
  · rw [show truthM true = tTrue from rfl]
    refine ACalls.of_body Tryz.func207 (by kernel_rfl) rfl (by kernel_rfl) (by simp [Tryz.ntmps207]) (by simp) ?_
    rw [Tryz.ntmps207]
    repeat' first
      | ((first | refine aops_end (hK _ ?_) | refine aopsD_end (hK _ ?_) | refine aopsF_end (hK _ ?_)); clear hK K)
      | ((first | refine aops_go ?_ | refine aopsD_go ?_ | refine aopsF_go ?_); simp; (try (refine gen fun q hq => ?_; cases q <;> (try simp at hq) <;> (try (have hh : True := hq; clear hh hq)))))
      | (refine wpcall_pure rfl (h3) ?_; simp; (try (refine gen fun q hq => ?_; cases q <;> (try simp at hq) <;> (try (have hh : True := hq; clear hh hq)))))
      | (refine wpcall_pure rfl (h4) ?_; simp; (try (refine gen fun q hq => ?_; cases q <;> (try simp at hq) <;> (try (have hh : True := hq; clear hh hq)))))
      | (refine T.ret (Done.val (Or.inr rfl) ?_) <;> simp [resAs, Tryz.results207] <;> omega)
      | refine T.rs (fun _ => false) fun K hK => ?_
      | refine T.rs1 (fun _ => false) fun K hK => ?_
      | (refine ⟨by omega, ?_⟩)
      | refine T.cond rfl (fun hcnd => ?_) (fun hcnd => absurd hcnd (by decide))
      | refine T.cond rfl (fun hcnd => absurd hcnd (by decide)) (fun hcnd => ?_)
      | refine T.seq ?_
      | refine T.block ?_
      | refine T.skip ?_
      | refine T.exit ?_

abbrev ruleR (o : Option MTm) : List AV := match o with
  | some x => [aTm x, .i 1]
  | none => [aTm zeroE, .i 3]

theorem rule_ok (e : MTm) (d : Nat) (hv : TmV 13 d e) (hn : nTm e ≤ 1073741824) : ACalls Tryz.prog 173 [aTm e] [] (.tup (ruleR (ruleM e))) [] [] := by
  rcases hv.cases13 with ⟨s, rfl⟩ | ⟨k, rfl, h1, h2⟩ | rfl | rfl | ⟨s, t, b, rfl⟩ | ⟨a, f, t, l, rfl⟩ | ⟨k, a, rfl, hk, _, ha⟩ | ⟨p, a, b, rfl, _, hp⟩ | ⟨k, a, b, rfl, hk, ⟨_, ha⟩, _, hb⟩
  · skip
    rw [show ruleM (tVar s) = none by simp [ruleM]]
    refine ACalls.of_body Tryz.func173 (by kernel_rfl) rfl (by kernel_rfl) (by simp [Tryz.ntmps173]) (by simp) ?_
    rw [Tryz.ntmps173]
    repeat' first
      | ((first | refine aops_end (hK _ ?_) | refine aopsD_end (hK _ ?_) | refine aopsF_end (hK _ ?_)); clear hK K)
      | ((first | refine aops_go ?_ | refine aopsD_go ?_ | refine aopsF_go ?_); simp; (try (refine gen fun q hq => ?_; cases q <;> (try simp at hq) <;> (try (have hh : True := hq; clear hh hq)))))
      | (refine T.ret (Done.tup (Or.inr rfl) ?_) <;> simp [resAs, Tryz.results173] <;> omega)
      | refine T.rd (id := 7) mixed (fun _ => false) [11] (by kernel_rfl) fun K hK => ?_
      | refine T.rd1 (id := 7) mixed (fun _ => false) [11] (by kernel_rfl) fun K hK => ?_
      | refine T.rs (fun _ => false) fun K hK => ?_
      | refine T.rs1 (fun _ => false) fun K hK => ?_
      | (refine ⟨by omega, ?_⟩)
      | refine T.cond rfl (fun hcnd => ?_) (fun hcnd => absurd hcnd (by decide))
      | refine T.cond rfl (fun hcnd => absurd hcnd (by decide)) (fun hcnd => ?_)
      | refine T.seq ?_
      | refine T.block ?_
      | refine T.skip ?_
      | refine T.exit ?_
  · skip
    rw [show ruleM (tNum k) = none by simp [ruleM]]
    refine ACalls.of_body Tryz.func173 (by kernel_rfl) rfl (by kernel_rfl) (by simp [Tryz.ntmps173]) (by simp) ?_
    rw [Tryz.ntmps173]
    repeat' first
      | ((first | refine aops_end (hK _ ?_) | refine aopsD_end (hK _ ?_) | refine aopsF_end (hK _ ?_)); clear hK K)
      | ((first | refine aops_go ?_ | refine aopsD_go ?_ | refine aopsF_go ?_); simp; (try (refine gen fun q hq => ?_; cases q <;> (try simp at hq) <;> (try (have hh : True := hq; clear hh hq)))))
      | (refine T.ret (Done.tup (Or.inr rfl) ?_) <;> simp [resAs, Tryz.results173] <;> omega)
      | refine T.rd (id := 7) mixed (fun _ => false) [11] (by kernel_rfl) fun K hK => ?_
      | refine T.rd1 (id := 7) mixed (fun _ => false) [11] (by kernel_rfl) fun K hK => ?_
      | refine T.rs (fun _ => false) fun K hK => ?_
      | refine T.rs1 (fun _ => false) fun K hK => ?_
      | (refine ⟨by omega, ?_⟩)
      | refine T.cond rfl (fun hcnd => ?_) (fun hcnd => absurd hcnd (by decide))
      | refine T.cond rfl (fun hcnd => absurd hcnd (by decide)) (fun hcnd => ?_)
      | refine T.seq ?_
      | refine T.block ?_
      | refine T.skip ?_
      | refine T.exit ?_
  · skip
    rw [show ruleM tTrue = none by simp [ruleM]]
    refine ACalls.of_body Tryz.func173 (by kernel_rfl) rfl (by kernel_rfl) (by simp [Tryz.ntmps173]) (by simp) ?_
    rw [Tryz.ntmps173]
    repeat' first
      | ((first | refine aops_end (hK _ ?_) | refine aopsD_end (hK _ ?_) | refine aopsF_end (hK _ ?_)); clear hK K)
      | ((first | refine aops_go ?_ | refine aopsD_go ?_ | refine aopsF_go ?_); simp; (try (refine gen fun q hq => ?_; cases q <;> (try simp at hq) <;> (try (have hh : True := hq; clear hh hq)))))
      | (refine T.ret (Done.tup (Or.inr rfl) ?_) <;> simp [resAs, Tryz.results173] <;> omega)
      | refine T.rd (id := 7) mixed (fun _ => false) [11] (by kernel_rfl) fun K hK => ?_
      | refine T.rd1 (id := 7) mixed (fun _ => false) [11] (by kernel_rfl) fun K hK => ?_
      | refine T.rs (fun _ => false) fun K hK => ?_
      | refine T.rs1 (fun _ => false) fun K hK => ?_
      | (refine ⟨by omega, ?_⟩)
      | refine T.cond rfl (fun hcnd => ?_) (fun hcnd => absurd hcnd (by decide))
      | refine T.cond rfl (fun hcnd => absurd hcnd (by decide)) (fun hcnd => ?_)
      | refine T.seq ?_
      | refine T.block ?_
      | refine T.skip ?_
      | refine T.exit ?_
  · skip
    rw [show ruleM tFalse = none by simp [ruleM]]
    refine ACalls.of_body Tryz.func173 (by kernel_rfl) rfl (by kernel_rfl) (by simp [Tryz.ntmps173]) (by simp) ?_
    rw [Tryz.ntmps173]
    repeat' first
      | ((first | refine aops_end (hK _ ?_) | refine aopsD_end (hK _ ?_) | refine aopsF_end (hK _ ?_)); clear hK K)
      | ((first | refine aops_go ?_ | refine aopsD_go ?_ | refine aopsF_go ?_); simp; (try (refine gen fun q hq => ?_; cases q <;> (try simp at hq) <;> (try (have hh : True := hq; clear hh hq)))))
      | (refine T.ret (Done.tup (Or.inr rfl) ?_) <;> simp [resAs, Tryz.results173] <;> omega)
      | refine T.rd (id := 7) mixed (fun _ => false) [11] (by kernel_rfl) fun K hK => ?_
      | refine T.rd1 (id := 7) mixed (fun _ => false) [11] (by kernel_rfl) fun K hK => ?_
      | refine T.rs (fun _ => false) fun K hK => ?_
      | refine T.rs1 (fun _ => false) fun K hK => ?_
      | (refine ⟨by omega, ?_⟩)
      | refine T.cond rfl (fun hcnd => ?_) (fun hcnd => absurd hcnd (by decide))
      | refine T.cond rfl (fun hcnd => absurd hcnd (by decide)) (fun hcnd => ?_)
      | refine T.seq ?_
      | refine T.block ?_
      | refine T.skip ?_
      | refine T.exit ?_
  · skip
    rw [show ruleM (tLam s t b) = none by simp [ruleM]]
    refine ACalls.of_body Tryz.func173 (by kernel_rfl) rfl (by kernel_rfl) (by simp [Tryz.ntmps173]) (by simp) ?_
    rw [Tryz.ntmps173]
    repeat' first
      | ((first | refine aops_end (hK _ ?_) | refine aopsD_end (hK _ ?_) | refine aopsF_end (hK _ ?_)); clear hK K)
      | ((first | refine aops_go ?_ | refine aopsD_go ?_ | refine aopsF_go ?_); simp [eTm_def]; (try (refine gen fun q hq => ?_; cases q <;> (try simp [eTm_def] at hq) <;> (try (have hh : True := hq; clear hh hq)))))
      | (refine T.ret (Done.tup (Or.inr rfl) ?_) <;> simp [resAs, Tryz.results173] <;> omega)
      | refine T.rd (id := 7) mixed (fun _ => false) [11] (by kernel_rfl) fun K hK => ?_
      | refine T.rd1 (id := 7) mixed (fun _ => false) [11] (by kernel_rfl) fun K hK => ?_
      | refine T.rs (fun _ => false) fun K hK => ?_
      | refine T.rs1 (fun _ => false) fun K hK => ?_
      | (refine ⟨by omega, ?_⟩)
      | refine T.cond rfl (fun hcnd => ?_) (fun hcnd => absurd hcnd (by decide))
      | refine T.cond rfl (fun hcnd => absurd hcnd (by decide)) (fun hcnd => ?_)
      | refine T.seq ?_
      | refine T.block ?_
      | refine T.skip ?_
      | refine T.exit ?_
  · skip
    rw [show ruleM (tCast a f t l) = none by simp [ruleM]]
    refine ACalls.of_body Tryz.func173 (by kernel_rfl) rfl (by kernel_rfl) (by simp [Tryz.ntmps173]) (by simp) ?_
    rw [Tryz.ntmps173]
    repeat' first
      | ((first | refine aops_end (hK _ ?_) | refine aopsD_end (hK _ ?_) | refine aopsF_end (hK _ ?_)); clear hK K)
      | ((first | refine aops_go ?_ | refine aopsD_go ?_ | refine aopsF_go ?_); simp [eTm_def]; (try (refine gen fun q hq => ?_; cases q <;> (try simp [eTm_def] at hq) <;> (try (have hh : True := hq; clear hh hq)))))
      | (refine T.ret (Done.tup (Or.inr rfl) ?_) <;> simp [resAs, Tryz.results173] <;> omega)
      | refine T.rd (id := 7) mixed (fun _ => false) [11] (by kernel_rfl) fun K hK => ?_
      | refine T.rd1 (id := 7) mixed (fun _ => false) [11] (by kernel_rfl) fun K hK => ?_
      | refine T.rs (fun _ => false) fun K hK => ?_
      | refine T.rs1 (fun _ => false) fun K hK => ?_
      | (refine ⟨by omega, ?_⟩)
      | refine T.cond rfl (fun hcnd => ?_) (fun hcnd => absurd hcnd (by decide))
      | refine T.cond rfl (fun hcnd => absurd hcnd (by decide)) (fun hcnd => ?_)
      | refine T.seq ?_
      | refine T.block ?_
      | refine T.skip ?_
      | refine T.exit ?_
  · skip
    by_cases h10 : a.kind = 10
    · obtain ⟨x, y, rfl⟩ := ha.kind10 h10
      rcases hk with rfl | rfl
      · rw [show ruleM (tN1 11 (tN2 10 x y)) = some x by simp [ruleM]]
        refine ACalls.of_body Tryz.func173 (by kernel_rfl) rfl (by kernel_rfl) (by simp [Tryz.ntmps173]) (by simp) ?_
        rw [Tryz.ntmps173]
        repeat' first
          | ((first | refine aops_end (hK _ ?_) | refine aopsD_end (hK _ ?_) | refine aopsF_end (hK _ ?_)); clear hK K)
          | ((first | refine aops_go ?_ | refine aopsD_go ?_ | refine aopsF_go ?_); simp [eTm_def]; (try simp (disch := omega) only [wrap64]); (try (refine gen fun q hq => ?_; cases q <;> (try simp [eTm_def] at hq) <;> (try (have hh : True := hq; clear hh hq)))))
          | (refine T.ret (Done.tup (Or.inr rfl) ?_) <;> simp [resAs, Tryz.results173, eTm_def] <;> omega)
          | refine T.rd (id := 7) mixed (fun _ => false) [11] (by kernel_rfl) fun K hK => ?_
          | refine T.rd1 (id := 7) mixed (fun _ => false) [11] (by kernel_rfl) fun K hK => ?_
          | refine T.rs (fun _ => false) fun K hK => ?_
          | refine T.rs1 (fun _ => false) fun K hK => ?_
          | (refine ⟨by omega, ?_⟩)
          | refine T.cond rfl (fun hcnd => ?_) (fun hcnd => absurd hcnd (by decide))
          | refine T.cond rfl (fun hcnd => absurd hcnd (by decide)) (fun hcnd => ?_)
          | refine T.seq ?_
          | refine T.block ?_
          | refine T.skip ?_
          | refine T.exit ?_
      · rw [show ruleM (tN1 12 (tN2 10 x y)) = some y by simp [ruleM]]
        refine ACalls.of_body Tryz.func173 (by kernel_rfl) rfl (by kernel_rfl) (by simp [Tryz.ntmps173]) (by simp) ?_
        rw [Tryz.ntmps173]
        repeat' first
          | ((first | refine aops_end (hK _ ?_) | refine aopsD_end (hK _ ?_) | refine aopsF_end (hK _ ?_)); clear hK K)
          | ((first | refine aops_go ?_ | refine aopsD_go ?_ | refine aopsF_go ?_); simp [eTm_def]; (try simp (disch := omega) only [wrap64]); (try (refine gen fun q hq => ?_; cases q <;> (try simp [eTm_def] at hq) <;> (try (have hh : True := hq; clear hh hq)))))
          | (refine T.ret (Done.tup (Or.inr rfl) ?_) <;> simp [resAs, Tryz.results173, eTm_def] <;> omega)
          | refine T.rd (id := 7) mixed (fun _ => false) [11] (by kernel_rfl) fun K hK => ?_
          | refine T.rd1 (id := 7) mixed (fun _ => false) [11] (by kernel_rfl) fun K hK => ?_
          | refine T.rs (fun _ => false) fun K hK => ?_
          | refine T.rs1 (fun _ => false) fun K hK => ?_
          | (refine ⟨by omega, ?_⟩)
          | refine T.cond rfl (fun hcnd => ?_) (fun hcnd => absurd hcnd (by decide))
          | refine T.cond rfl (fun hcnd => absurd hcnd (by decide)) (fun hcnd => ?_)
          | refine T.seq ?_
          | refine T.block ?_
          | refine T.skip ?_
          | refine T.exit ?_
    · rcases hk with rfl | rfl
      · rw [show ruleM (tN1 11 a) = none by simp [ruleM, h10]]
        refine ACalls.of_body Tryz.func173 (by kernel_rfl) rfl (by kernel_rfl) (by simp [Tryz.ntmps173]) (by simp) ?_
        rw [Tryz.ntmps173]
        repeat' first
          | ((first | refine aops_end (hK _ ?_) | refine aopsD_end (hK _ ?_) | refine aopsF_end (hK _ ?_)); clear hK K)
          | ((first | refine aops_go ?_ | refine aopsD_go ?_ | refine aopsF_go ?_); simp [eTm_def, h10]; (try (refine gen fun q hq => ?_; cases q <;> (try simp [eTm_def, h10] at hq) <;> (try (have hh : True := hq; clear hh hq)))))
          | (refine T.ret (Done.tup (Or.inr rfl) ?_) <;> simp [resAs, Tryz.results173] <;> omega)
          | refine T.rd (id := 7) mixed (fun _ => false) [11] (by kernel_rfl) fun K hK => ?_
          | refine T.rd1 (id := 7) mixed (fun _ => false) [11] (by kernel_rfl) fun K hK => ?_
          | refine T.rs (fun _ => false) fun K hK => ?_
          | refine T.rs1 (fun _ => false) fun K hK => ?_
          | (refine ⟨by omega, ?_⟩)
          | refine T.cond rfl (fun hcnd => ?_) (fun hcnd => absurd hcnd (by decide))
          | refine T.cond rfl (fun hcnd => absurd hcnd (by decide)) (fun hcnd => ?_)
          | refine T.seq ?_
          | refine T.block ?_
          | refine T.skip ?_
          | refine T.exit ?_
      · rw [show ruleM (tN1 12 a) = none by simp [ruleM, h10]]
        refine ACalls.of_body Tryz.func173 (by kernel_rfl) rfl (by kernel_rfl) (by simp [Tryz.ntmps173]) (by simp) ?_
        rw [Tryz.ntmps173]
        repeat' first
          | ((first | refine aops_end (hK _ ?_) | refine aopsD_end (hK _ ?_) | refine aopsF_end (hK _ ?_)); clear hK K)
          | ((first | refine aops_go ?_ | refine aopsD_go ?_ | refine aopsF_go ?_); simp [eTm_def, h10]; (try (refine gen fun q hq => ?_; cases q <;> (try simp [eTm_def, h10] at hq) <;> (try (have hh : True := hq; clear hh hq)))))
          | (refine T.ret (Done.tup (Or.inr rfl) ?_) <;> simp [resAs, Tryz.results173] <;> omega)
          | refine T.rd (id := 7) mixed (fun _ => false) [11] (by kernel_rfl) fun K hK => ?_
          | refine T.rd1 (id := 7) mixed (fun _ => false) [11] (by kernel_rfl) fun K hK => ?_
          | refine T.rs (fun _ => false) fun K hK => ?_
          | refine T.rs1 (fun _ => false) fun K hK => ?_
          | (refine ⟨by omega, ?_⟩)
          | refine T.cond rfl (fun hcnd => ?_) (fun hcnd => absurd hcnd (by decide))
          | refine T.cond rfl (fun hcnd => absurd hcnd (by decide)) (fun hcnd => ?_)
          | refine T.seq ?_
          | refine T.block ?_
          | refine T.skip ?_
          | refine T.exit ?_
  · skip
    by_cases h3 : p.kind = 3
    · rw [show ruleM (tIf p a b) = some a by simp [ruleM, h3]]
      refine ACalls.of_body Tryz.func173 (by kernel_rfl) rfl (by kernel_rfl) (by simp [Tryz.ntmps173]) (by simp) ?_
      rw [Tryz.ntmps173]
      repeat' first
        | ((first | refine aops_end (hK _ ?_) | refine aopsD_end (hK _ ?_) | refine aopsF_end (hK _ ?_)); clear hK K)
        | ((first | refine aops_go ?_ | refine aopsD_go ?_ | refine aopsF_go ?_); simp [eTm_def, h3]; (try (refine gen fun q hq => ?_; cases q <;> (try simp [eTm_def, h3] at hq) <;> (try (have hh : True := hq; clear hh hq)))))
        | (refine T.ret (Done.tup (Or.inr rfl) ?_) <;> simp [resAs, Tryz.results173, eTm_def] <;> omega)
        | refine T.rd (id := 7) mixed (fun _ => false) [11] (by kernel_rfl) fun K hK => ?_
        | refine T.rd1 (id := 7) mixed (fun _ => false) [11] (by kernel_rfl) fun K hK => ?_
        | refine T.rs (fun _ => false) fun K hK => ?_
        | refine T.rs1 (fun _ => false) fun K hK => ?_
        | (refine ⟨by omega, ?_⟩)
        | refine T.cond rfl (fun hcnd => ?_) (fun hcnd => absurd hcnd (by decide))
        | refine T.cond rfl (fun hcnd => absurd hcnd (by decide)) (fun hcnd => ?_)
        | refine T.seq ?_
        | refine T.block ?_
        | refine T.skip ?_
        | refine T.exit ?_
    by_cases h4 : p.kind = 4
    · rw [show ruleM (tIf p a b) = some b by simp [ruleM, h4]]
      refine ACalls.of_body Tryz.func173 (by kernel_rfl) rfl (by kernel_rfl) (by simp [Tryz.ntmps173]) (by simp) ?_
      rw [Tryz.ntmps173]
      repeat' first
        | ((first | refine aops_end (hK _ ?_) | refine aopsD_end (hK _ ?_) | refine aopsF_end (hK _ ?_)); clear hK K)
        | ((first | refine aops_go ?_ | refine aopsD_go ?_ | refine aopsF_go ?_); simp [eTm_def, h4]; (try (refine gen fun q hq => ?_; cases q <;> (try simp [eTm_def, h4] at hq) <;> (try (have hh : True := hq; clear hh hq)))))
        | (refine T.ret (Done.tup (Or.inr rfl) ?_) <;> simp [resAs, Tryz.results173, eTm_def] <;> omega)
        | refine T.rd (id := 7) mixed (fun _ => false) [11] (by kernel_rfl) fun K hK => ?_
        | refine T.rd1 (id := 7) mixed (fun _ => false) [11] (by kernel_rfl) fun K hK => ?_
        | refine T.rs (fun _ => false) fun K hK => ?_
        | refine T.rs1 (fun _ => false) fun K hK => ?_
        | (refine ⟨by omega, ?_⟩)
        | refine T.cond rfl (fun hcnd => ?_) (fun hcnd => absurd hcnd (by decide))
        | refine T.cond rfl (fun hcnd => absurd hcnd (by decide)) (fun hcnd => ?_)
        | refine T.seq ?_
        | refine T.block ?_
        | refine T.skip ?_
        | refine T.exit ?_
    · rw [show ruleM (tIf p a b) = none by simp [ruleM, h3, h4]]
      refine ACalls.of_body Tryz.func173 (by kernel_rfl) rfl (by kernel_rfl) (by simp [Tryz.ntmps173]) (by simp) ?_
      rw [Tryz.ntmps173]
      repeat' first
        | ((first | refine aops_end (hK _ ?_) | refine aopsD_end (hK _ ?_) | refine aopsF_end (hK _ ?_)); clear hK K)
        | ((first | refine aops_go ?_ | refine aopsD_go ?_ | refine aopsF_go ?_); simp [eTm_def, h3, h4]; (try (refine gen fun q hq => ?_; cases q <;> (try simp [eTm_def, h3, h4] at hq) <;> (try (have hh : True := hq; clear hh hq)))))
        | (refine T.ret (Done.tup (Or.inr rfl) ?_) <;> simp [resAs, Tryz.results173] <;> omega)
        | refine T.rd (id := 7) mixed (fun _ => false) [11] (by kernel_rfl) fun K hK => ?_
        | refine T.rd1 (id := 7) mixed (fun _ => false) [11] (by kernel_rfl) fun K hK => ?_
        | refine T.rs (fun _ => false) fun K hK => ?_
        | refine T.rs1 (fun _ => false) fun K hK => ?_
        | (refine ⟨by omega, ?_⟩)
        | refine T.cond rfl (fun hcnd => ?_) (fun hcnd => absurd hcnd (by decide))
        | refine T.cond rfl (fun hcnd => absurd hcnd (by decide)) (fun hcnd => ?_)
        | refine T.seq ?_
        | refine T.block ?_
        | refine T.skip ?_
        | refine T.exit ?_
  · skip
    rcases hk with rfl | rfl | rfl | rfl
    · by_cases h5 : a.kind = 5
      · obtain ⟨s, t, x, rfl⟩ := ha.kind5 h5
        rw [show ruleM (tN2 6 (tLam s t x) b) = some (substM s b x) by simp [ruleM]]
        have k1 := subst_ok b s x (by simp [nTm_mk, nTmS] at hn; omega)
        generalize substM s b x = R at *
        refine ACalls.of_body Tryz.func173 (by kernel_rfl) rfl (by kernel_rfl) (by simp [Tryz.ntmps173]) (by simp) ?_
        rw [Tryz.ntmps173]
        repeat' first
          | ((first | refine aops_end (hK _ ?_) | refine aopsD_end (hK _ ?_) | refine aopsF_end (hK _ ?_)); clear hK K)
          | ((first | refine aops_go ?_ | refine aopsD_go ?_ | refine aopsF_go ?_); simp [eTm_def]; (try (refine gen fun q hq => ?_; cases q <;> (try simp [eTm_def] at hq) <;> (try (have hh : True := hq; clear hh hq)))))
          | (refine wpcall_pure ?_ (k1) ?_; (focus (solve | simp [eTm_def])); simp [eTm_def]; (try (refine gen fun q hq => ?_; cases q <;> (try simp [eTm_def] at hq) <;> (try (have hh : True := hq; clear hh hq)))))
          | (refine T.ret (Done.tup (Or.inr rfl) ?_) <;> simp [resAs, Tryz.results173] <;> omega)
          | refine T.rd (id := 7) mixed (fun _ => false) [11] (by kernel_rfl) fun K hK => ?_
          | refine T.rd1 (id := 7) mixed (fun _ => false) [11] (by kernel_rfl) fun K hK => ?_
          | refine T.rs (fun _ => false) fun K hK => ?_
          | refine T.rs1 (fun _ => false) fun K hK => ?_
          | (refine ⟨by omega, ?_⟩)
          | refine T.cond rfl (fun hcnd => ?_) (fun hcnd => absurd hcnd (by decide))
          | refine T.cond rfl (fun hcnd => absurd hcnd (by decide)) (fun hcnd => ?_)
          | refine T.seq ?_
          | refine T.block ?_
          | refine T.skip ?_
          | refine T.exit ?_
      · rw [show ruleM (tN2 6 a b) = none by simp [ruleM, h5]]
        refine ACalls.of_body Tryz.func173 (by kernel_rfl) rfl (by kernel_rfl) (by simp [Tryz.ntmps173]) (by simp) ?_
        rw [Tryz.ntmps173]
        repeat' first
          | ((first | refine aops_end (hK _ ?_) | refine aopsD_end (hK _ ?_) | refine aopsF_end (hK _ ?_)); clear hK K)
          | ((first | refine aops_go ?_ | refine aopsD_go ?_ | refine aopsF_go ?_); simp [eTm_def, h5]; (try (refine gen fun q hq => ?_; cases q <;> (try simp [eTm_def, h5] at hq) <;> (try (have hh : True := hq; clear hh hq)))))
          | (refine T.ret (Done.tup (Or.inr rfl) ?_) <;> simp [resAs, Tryz.results173] <;> omega)
          | refine T.rd (id := 7) mixed (fun _ => false) [11] (by kernel_rfl) fun K hK => ?_
          | refine T.rd1 (id := 7) mixed (fun _ => false) [11] (by kernel_rfl) fun K hK => ?_
          | refine T.rs (fun _ => false) fun K hK => ?_
          | refine T.rs1 (fun _ => false) fun K hK => ?_
          | (refine ⟨by omega, ?_⟩)
          | refine T.cond rfl (fun hcnd => ?_) (fun hcnd => absurd hcnd (by decide))
          | refine T.cond rfl (fun hcnd => absurd hcnd (by decide)) (fun hcnd => ?_)
          | refine T.seq ?_
          | refine T.block ?_
          | refine T.skip ?_
          | refine T.exit ?_
    · by_cases h2 : a.kind = 2 ∧ b.kind = 2
      · obtain ⟨m, rfl, hm1, hm2⟩ := ha.kind2 h2.1
        obtain ⟨n, rfl, hn1, hn2⟩ := hb.kind2 h2.2
        rw [show ruleM (tN2 7 (tNum m) (tNum n)) = some (tNum ((m + n).tmod 1000)) by simp [ruleM]]
        refine ACalls.of_body Tryz.func173 (by kernel_rfl) rfl (by kernel_rfl) (by simp [Tryz.ntmps173]) (by simp) ?_
        rw [Tryz.ntmps173]
        repeat' first
          | ((first | refine aops_end (hK _ ?_) | refine aopsD_end (hK _ ?_) | refine aopsF_end (hK _ ?_)); clear hK K)
          | ((first | refine aops_go ?_ | refine aopsD_go ?_ | refine aopsF_go ?_); simp [eTm_def]; (try simp (disch := omega) only [wrap64]); (try (refine gen fun q hq => ?_; cases q <;> (try simp [eTm_def] at hq) <;> (try (have hh : True := hq; clear hh hq)))))
          | (refine T.ret (Done.tup (Or.inr rfl) ?_) <;> simp [resAs, Tryz.results173] <;> omega)
          | refine T.rd (id := 7) mixed (fun _ => false) [11] (by kernel_rfl) fun K hK => ?_
          | refine T.rd1 (id := 7) mixed (fun _ => false) [11] (by kernel_rfl) fun K hK => ?_
          | refine T.rs (fun _ => false) fun K hK => ?_
          | refine T.rs1 (fun _ => false) fun K hK => ?_
          | (refine ⟨by omega, ?_⟩)
          | refine T.cond rfl (fun hcnd => ?_) (fun hcnd => absurd hcnd (by decide))
          | refine T.cond rfl (fun hcnd => absurd hcnd (by decide)) (fun hcnd => ?_)
          | refine T.seq ?_
          | refine T.block ?_
          | refine T.skip ?_
          | refine T.exit ?_
      · rw [show ruleM (tN2 7 a b) = none by simp [ruleM]; omega]
        by_cases ha2 : a.kind = 2
        · have hb2 : ¬ b.kind = 2 := fun h => h2 ⟨ha2, h⟩
          refine ACalls.of_body Tryz.func173 (by kernel_rfl) rfl (by kernel_rfl) (by simp [Tryz.ntmps173]) (by simp) ?_
          rw [Tryz.ntmps173]
          repeat' first
            | ((first | refine aops_end (hK _ ?_) | refine aopsD_end (hK _ ?_) | refine aopsF_end (hK _ ?_)); clear hK K)
            | ((first | refine aops_go ?_ | refine aopsD_go ?_ | refine aopsF_go ?_); simp [eTm_def, ha2, hb2]; (try (refine gen fun q hq => ?_; cases q <;> (try simp [eTm_def, ha2, hb2] at hq) <;> (try (have hh : True := hq; clear hh hq)))))
            | (refine T.ret (Done.tup (Or.inr rfl) ?_) <;> simp [resAs, Tryz.results173] <;> omega)
            | refine T.rd (id := 7) mixed (fun _ => false) [11] (by kernel_rfl) fun K hK => ?_
            | refine T.rd1 (id := 7) mixed (fun _ => false) [11] (by kernel_rfl) fun K hK => ?_
            | refine T.rs (fun _ => false) fun K hK => ?_
            | refine T.rs1 (fun _ => false) fun K hK => ?_
            | (refine ⟨by omega, ?_⟩)
            | refine T.cond rfl (fun hcnd => ?_) (fun hcnd => absurd hcnd (by decide))
            | refine T.cond rfl (fun hcnd => absurd hcnd (by decide)) (fun hcnd => ?_)
            | refine T.seq ?_
            | refine T.block ?_
            | refine T.skip ?_
            | refine T.exit ?_
        · refine ACalls.of_body Tryz.func173 (by kernel_rfl) rfl (by kernel_rfl) (by simp [Tryz.ntmps173]) (by simp) ?_
          rw [Tryz.ntmps173]
          repeat' first
            | ((first | refine aops_end (hK _ ?_) | refine aopsD_end (hK _ ?_) | refine aopsF_end (hK _ ?_)); clear hK K)
            | ((first | refine aops_go ?_ | refine aopsD_go ?_ | refine aopsF_go ?_); simp [eTm_def, ha2]; (try (refine gen fun q hq => ?_; cases q <;> (try simp [eTm_def, ha2] at hq) <;> (try (have hh : True := hq; clear hh hq)))))
            | (refine T.ret (Done.tup (Or.inr rfl) ?_) <;> simp [resAs, Tryz.results173] <;> omega)
            | refine T.rd (id := 7) mixed (fun _ => false) [11] (by kernel_rfl) fun K hK => ?_
            | refine T.rd1 (id := 7) mixed (fun _ => false) [11] (by kernel_rfl) fun K hK => ?_
            | refine T.rs (fun _ => false) fun K hK => ?_
            | refine T.rs1 (fun _ => false) fun K hK => ?_
            | (refine ⟨by omega, ?_⟩)
            | refine T.cond rfl (fun hcnd => ?_) (fun hcnd => absurd hcnd (by decide))
            | refine T.cond rfl (fun hcnd => absurd hcnd (by decide)) (fun hcnd => ?_)
            | refine T.seq ?_
            | refine T.block ?_
            | refine T.skip ?_
            | refine T.exit ?_
    · by_cases h2 : a.kind = 2 ∧ b.kind = 2
      · obtain ⟨m, rfl, hm1, hm2⟩ := ha.kind2 h2.1
        obtain ⟨n, rfl, hn1, hn2⟩ := hb.kind2 h2.2
        by_cases hmn : m < n
        · rw [show ruleM (tN2 8 (tNum m) (tNum n)) = some tTrue by simp [ruleM, truthM, hmn]]
          have k1 := truth_ok true
          rw [show truthM true = tTrue from rfl] at k1
          refine ACalls.of_body Tryz.func173 (by kernel_rfl) rfl (by kernel_rfl) (by simp [Tryz.ntmps173]) (by simp) ?_
          rw [Tryz.ntmps173]
          repeat' first
            | ((first | refine aops_end (hK _ ?_) | refine aopsD_end (hK _ ?_) | refine aopsF_end (hK _ ?_)); clear hK K)
            | ((first | refine aops_go ?_ | refine aopsD_go ?_ | refine aopsF_go ?_); simp [eTm_def, hmn]; (try simp (disch := omega) only [wrap64]); (try (refine gen fun q hq => ?_; cases q <;> (try simp [eTm_def, hmn] at hq) <;> (try (have hh : True := hq; clear hh hq)))))
            | (refine wpcall_pure rfl (k1) ?_; simp [eTm_def, hmn]; (try simp (disch := omega) only [wrap64]); (try (refine gen fun q hq => ?_; cases q <;> (try simp [eTm_def, hmn] at hq) <;> (try (have hh : True := hq; clear hh hq)))))
            | (refine T.ret (Done.tup (Or.inr rfl) ?_) <;> simp [resAs, Tryz.results173] <;> omega)
            | refine T.rd (id := 7) mixed (fun _ => false) [11] (by kernel_rfl) fun K hK => ?_
            | refine T.rd1 (id := 7) mixed (fun _ => false) [11] (by kernel_rfl) fun K hK => ?_
            | refine T.rs (fun _ => false) fun K hK => ?_
            | refine T.rs1 (fun _ => false) fun K hK => ?_
            | (refine ⟨by omega, ?_⟩)
            | refine T.cond rfl (fun hcnd => ?_) (fun hcnd => absurd hcnd (by decide))
            | refine T.cond rfl (fun hcnd => absurd hcnd (by decide)) (fun hcnd => ?_)
            | refine T.seq ?_
            | refine T.block ?_
            | refine T.skip ?_
            | refine T.exit ?_
        · rw [show ruleM (tN2 8 (tNum m) (tNum n)) = some tFalse by simp [ruleM, truthM, hmn]]
          have k1 := truth_ok false
          rw [show truthM false = tFalse from rfl] at k1
          refine ACalls.of_body Tryz.func173 (by kernel_rfl) rfl (by kernel_rfl) (by simp [Tryz.ntmps173]) (by simp) ?_
          rw [Tryz.ntmps173]
          repeat' first
            | ((first | refine aops_end (hK _ ?_) | refine aopsD_end (hK _ ?_) | refine aopsF_end (hK _ ?_)); clear hK K)
            | ((first | refine aops_go ?_ | refine aopsD_go ?_ | refine aopsF_go ?_); simp [eTm_def, hmn]; (try simp (disch := omega) only [wrap64]); (try (refine gen fun q hq => ?_; cases q <;> (try simp [eTm_def, hmn] at hq) <;> (try (have hh : True := hq; clear hh hq)))))
            | (refine wpcall_pure rfl (k1) ?_; simp [eTm_def, hmn]; (try simp (disch := omega) only [wrap64]); (try (refine gen fun q hq => ?_; cases q <;> (try simp [eTm_def, hmn] at hq) <;> (try (have hh : True := hq; clear hh hq)))))
            | (refine T.ret (Done.tup (Or.inr rfl) ?_) <;> simp [resAs, Tryz.results173] <;> omega)
            | refine T.rd (id := 7) mixed (fun _ => false) [11] (by kernel_rfl) fun K hK => ?_
            | refine T.rd1 (id := 7) mixed (fun _ => false) [11] (by kernel_rfl) fun K hK => ?_
            | refine T.rs (fun _ => false) fun K hK => ?_
            | refine T.rs1 (fun _ => false) fun K hK => ?_
            | (refine ⟨by omega, ?_⟩)
            | refine T.cond rfl (fun hcnd => ?_) (fun hcnd => absurd hcnd (by decide))
            | refine T.cond rfl (fun hcnd => absurd hcnd (by decide)) (fun hcnd => ?_)
            | refine T.seq ?_
            | refine T.block ?_
            | refine T.skip ?_
            | refine T.exit ?_
      · rw [show ruleM (tN2 8 a b) = none by simp [ruleM]; omega]
        by_cases ha2 : a.kind = 2
        · have hb2 : ¬ b.kind = 2 := fun h => h2 ⟨ha2, h⟩
          refine ACalls.of_body Tryz.func173 (by kernel_rfl) rfl (by kernel_rfl) (by simp [Tryz.ntmps173]) (by simp) ?_
          rw [Tryz.ntmps173]
          repeat' first
            | ((first | refine aops_end (hK _ ?_) | refine aopsD_end (hK _ ?_) | refine aopsF_end (hK _ ?_)); clear hK K)
            | ((first | refine aops_go ?_ | refine aopsD_go ?_ | refine aopsF_go ?_); simp [eTm_def, ha2, hb2]; (try (refine gen fun q hq => ?_; cases q <;> (try simp [eTm_def, ha2, hb2] at hq) <;> (try (have hh : True := hq; clear hh hq)))))
            | (refine T.ret (Done.tup (Or.inr rfl) ?_) <;> simp [resAs, Tryz.results173] <;> omega)
            | refine T.rd (id := 7) mixed (fun _ => false) [11] (by kernel_rfl) fun K hK => ?_
            | refine T.rd1 (id := 7) mixed (fun _ => false) [11] (by kernel_rfl) fun K hK => ?_
            | refine T.rs (fun _ => false) fun K hK => ?_
            | refine T.rs1 (fun _ => false) fun K hK => ?_
            | (refine ⟨by omega, ?_⟩)
            | refine T.cond rfl (fun hcnd => ?_) (fun hcnd => absurd hcnd (by decide))
            | refine T.cond rfl (fun hcnd => absurd hcnd (by decide)) (fun hcnd => ?_)
            | refine T.seq ?_
            | refine T.block ?_
            | refine T.skip ?_
            | refine T.exit ?_
        · refine ACalls.of_body Tryz.func173 (by kernel_rfl) rfl (by kernel_rfl) (by simp [Tryz.ntmps173]) (by simp) ?_
          rw [Tryz.ntmps173]
          repeat' first
            | ((first | refine aops_end (hK _ ?_) | refine aopsD_end (hK _ ?_) | refine aopsF_end (hK _ ?_)); clear hK K)
            | ((first | refine aops_go ?_ | refine aopsD_go ?_ | refine aopsF_go ?_); simp [eTm_def, ha2]; (try (refine gen fun q hq => ?_; cases q <;> (try simp [eTm_def, ha2] at hq) <;> (try (have hh : True := hq; clear hh hq)))))
            | (refine T.ret (Done.tup (Or.inr rfl) ?_) <;> simp [resAs, Tryz.results173] <;> omega)
            | refine T.rd (id := 7) mixed (fun _ => false) [11] (by kernel_rfl) fun K hK => ?_
            | refine T.rd1 (id := 7) mixed (fun _ => false) [11] (by kernel_rfl) fun K hK => ?_
            | refine T.rs (fun _ => false) fun K hK => ?_
            | refine T.rs1 (fun _ => false) fun K hK => ?_
            | (refine ⟨by omega, ?_⟩)
            | refine T.cond rfl (fun hcnd => ?_) (fun hcnd => absurd hcnd (by decide))
            | refine T.cond rfl (fun hcnd => absurd hcnd (by decide)) (fun hcnd => ?_)
            | refine T.seq ?_
            | refine T.block ?_
            | refine T.skip ?_
            | refine T.exit ?_
    · rw [show ruleM (tN2 10 a b) = none by simp [ruleM]]
      refine ACalls.of_body Tryz.func173 (by kernel_rfl) rfl (by kernel_rfl) (by simp [Tryz.ntmps173]) (by simp) ?_
      rw [Tryz.ntmps173]
      repeat' first
        | ((first | refine aops_end (hK _ ?_) | refine aopsD_end (hK _ ?_) | refine aopsF_end (hK _ ?_)); clear hK K)
        | ((first | refine aops_go ?_ | refine aopsD_go ?_ | refine aopsF_go ?_); simp [eTm_def]; (try (refine gen fun q hq => ?_; cases q <;> (try simp [eTm_def] at hq) <;> (try (have hh : True := hq; clear hh hq)))))
        | (refine T.ret (Done.tup (Or.inr rfl) ?_) <;> simp [resAs, Tryz.results173] <;> omega)
        | refine T.rd (id := 7) mixed (fun _ => false) [11] (by kernel_rfl) fun K hK => ?_
        | refine T.rd1 (id := 7) mixed (fun _ => false) [11] (by kernel_rfl) fun K hK => ?_
        | refine T.rs (fun _ => false) fun K hK => ?_
        | refine T.rs1 (fun _ => false) fun K hK => ?_
        | (refine ⟨by omega, ?_⟩)
        | refine T.cond rfl (fun hcnd => ?_) (fun hcnd => absurd hcnd (by decide))
        | refine T.cond rfl (fun hcnd => absurd hcnd (by decide)) (fun hcnd => ?_)
        | refine T.seq ?_
        | refine T.block ?_
        | refine T.skip ?_
        | refine T.exit ?_

end Go.Proofs.YtfdknjjnifnobaaGreat

namespace Go.Proofs.YtfdknjjnifnobaaGreat
open Go Go.Av
attribute [local irreducible] T ACalls TX EX LX Draws Some_ ACallsX eTy eTm MTy.kind MTy.kids MTm.kind MTm.name MTm.num MTm.ty MTm.fr MTm.label MTm.kids
attribute [local simp] eTy_def eTm_def
set_option linter.unusedSimpArgs false
set_option linter.unusedVariables false
set_option maxHeartbeats 16000000
set_option maxRecDepth 8000

def cntP (l : List MTy) (p : Nat) : Nat := ((l.take p).map cntM).sum
end Go.Proofs.YtfdknjjnifnobaaGreat

namespace Go.Proofs.YtfdknjjnifnobaaGreat
open Go Go.Av
attribute [local irreducible] T ACalls TX EX LX Draws Some_ ACallsX eTy eTm MTy.kind MTy.kids MTm.kind MTm.name MTm.num MTm.ty MTm.fr MTm.label MTm.kids
attribute [local simp] eTy_def eTm_def
set_option linter.unusedSimpArgs false
set_option linter.unusedVariables false
set_option maxHeartbeats 16000000
set_option maxRecDepth 8000
@[simp] theorem td_uint : td Tryz.prog 132 = some { ag := false, sz := 1, by_ := 8, zero := some [.d (.int .u64 0)], el := none, ar := none, fl := [], ik := some .u64, isS := false, isB := false } := keep (by kernel_rfl)
@[simp] theorem td_intS2 : td Tryz.prog 51 = some { ag := false, sz := 1, by_ := 24, zero := some [.nil], el := some 3, ar := none, fl := [], ik := none, isS := false, isB := false } := keep (by kernel_rfl)

theorem casts_small : ∀ (e : MTm), (castsM e).length ≤ nTm e + 1 := by
  intro e
  induction e using MTm.ind with
  | h e ih =>
    have hs : ∀ l : List MTm, (∀ u ∈ l, (castsM u).length ≤ nTm u + 1) → (castsS l).length ≤ nTmS l := by
      intro l
      induction l with
      | nil => intro _; simp [castsS]
      | cons u r ihr =>
        intro h
        have h1 := h u (by simp)
        have h2 := ihr fun v hv => h v (by simp [hv])
        simp only [castsS, List.length_append, nTmS]
        omega
    have h1 := hs e.kids ih
    rw [castsM_def, nTm_def]
    split
    · simp only [List.length_append, List.length_singleton]; omega
    · simp only [List.nil_append]; omega

theorem casts_yes (e : MTm) (hh : e.kind = 14) (hn : nTm e ≤ 1073741824)
    (ih : ∀ u ∈ e.kids, ACalls Tryz.prog 108 [aTm u] [] (.c (.own 0 (castsM u).length)) [] [{ sz := 9, ety := 28, rows := (castsM u).map eTm, wr := true }]) :
    ACalls Tryz.prog 108 [aTm e] [] (.c (.own 0 ([e] ++ castsS e.kids).length)) [] [{ sz := 9, ety := 28, rows := ([e] ++ castsS e.kids).map eTm, wr := true }] := by
  obtain ⟨hnt, hnf, hnk, hnu⟩ := nTm_parts (show nTm e ≤ 1099511627776 by omega)
  have hsm : (castsS e.kids).length ≤ 1073741825 := by have := casts_small e; rw [castsM_def] at this; simp only [List.length_append] at this; omega
  refine ACalls.of_body Tryz.func108 (by kernel_rfl) rfl (by kernel_rfl) (by simp [Tryz.ntmps108]) (by simp) ?_
  rw [Tryz.ntmps108]
  repeat' first
    | ((first | refine aops_end (hK _ ?_) | refine aopsD_end (hK _ ?_) | refine aopsF_end (hK _ ?_)); clear hK K)
    | ((first | refine aops_go ?_ | refine aopsD_go ?_ | refine aopsF_go ?_); simp [hh]; (try (refine gen fun q hq => ?_; cases q <;> (try simp [hh] at hq) <;> (try (have hh : True := hq; clear hh hq)))))
    | (refine ⟨by omega, by omega, ?_⟩)
    | refine T.rs (fun _ => false) fun K hK => ?_
    | refine T.rs1 (fun _ => false) fun K hK => ?_
    | (refine ⟨by omega, ?_⟩)
    | refine T.cond rfl (fun hcnd => ?_) (fun hcnd => absurd hcnd (by decide))
    | refine T.cond rfl (fun hcnd => absurd hcnd (by decide)) (fun hcnd => ?_)
    | refine T.seq ?_
    | refine T.block ?_
    | refine T.skip ?_
    | refine T.exit ?_
  refine T.loopK (α := Nat × List (List CV) × List Arr) [2, 14, 15] (fun x => [(3, .c (.own 0 ([e] ++ castsS (e.kids.take x.1)).length)), (16, .i x.1)]) (fun x => []) (fun x => x.2.1) (fun x _ => { sz := 9, ety := 28, rows := ([e] ++ castsS (e.kids.take x.1)).map eTm, wr := true } :: x.2.2) (fun x => e.kids.length + 1 - x.1) (fun x => x.1 ≤ e.kids.length) (by simp; rfl) (fun x hx => ?_) (0, [], []) (by simp) (by simp) (by simp [castsS, eTm_def, hh]) (by simp [castsS])
  obtain ⟨p, G, GA⟩ := x
  dsimp only at hx ⊢
  simp only [ups, List.set_cons_zero, List.set_cons_succ, List.cons_append, List.nil_append]
  by_cases hlt : p < e.kids.length
  · obtain ⟨u, ht⟩ := get_lt hlt
    have htm : u ∈ e.kids := List.mem_of_getElem? ht
    have hgt : e.kids[p] = u := by rw [List.getElem?_eq_getElem hlt] at ht; exact Option.some.inj ht
    have hdr : e.kids.drop p = u :: e.kids.drop (p + 1) := by rw [List.drop_eq_getElem_cons hlt, hgt]
    have hu := ih u htm
    have htk : castsS (e.kids.take (p + 1)) = castsS (e.kids.take p) ++ castsM u := castsS_take ht
    have hle := castsS_le e.kids (p + 1)
    rw [htk, List.length_append] at hle
    generalize castsS (e.kids.take p) = Z at *
    generalize castsM u = tu at *
    repeat' first
      | ((first | refine aops_end (hK _ ?_) | refine aopsD_end (hK _ ?_) | refine aopsF_end (hK _ ?_)); clear hK K)
      | ((first | refine aops_go ?_ | refine aopsD_go ?_ | refine aopsF_go ?_); simp [hlt, hgt]; (try simp (disch := omega) only [wrap64]); (try (refine gen fun q hq => ?_; cases q <;> (try simp [hlt, hgt] at hq) <;> (try (have hh : True := hq; clear hh hq)))))
      | (refine wpcall_own rfl (hu) ?_; simp [hlt, hgt]; (try simp (disch := omega) only [wrap64]); (try (refine gen fun q hq => ?_; cases q <;> (try simp [hlt, hgt] at hq) <;> (try (have hh : True := hq; clear hh hq)))))
      | (refine ⟨by omega, by omega, ?_⟩)
      | (refine ⟨(p + 1, _, GA ++ [{ sz := 9, ety := 28, rows := tu.map eTm, wr := true }]), by dsimp only; omega, by dsimp only; omega, rfl, ?_, ?_⟩ <;> simp (disch := omega) [wrap64, htk, eTm_def] <;> omega)
      | refine T.rs (fun _ => false) fun K hK => ?_
      | refine T.rs1 (fun _ => false) fun K hK => ?_
      | (refine ⟨by omega, ?_⟩)
      | refine T.cond rfl (fun hcnd => ?_) (fun hcnd => absurd hcnd (by decide))
      | refine T.cond rfl (fun hcnd => absurd hcnd (by decide)) (fun hcnd => ?_)
      | refine T.seq ?_
      | refine T.block ?_
      | refine T.skip ?_
      | refine T.exit ?_
  · have hp' : p = e.kids.length := by omega
    subst hp'
    rw [List.take_length]
    repeat' first
      | ((first | refine aops_end (hK _ ?_) | refine aopsD_end (hK _ ?_) | refine aopsF_end (hK _ ?_)); clear hK K)
      | ((first | refine aops_go ?_ | refine aopsD_go ?_ | refine aopsF_go ?_); simp [hlt]; (try (refine gen fun q hq => ?_; cases q <;> (try simp [hlt] at hq) <;> (try (have hh : True := hq; clear hh hq)))))
      | refine T.rs (fun _ => false) fun K hK => ?_
      | refine T.rs1 (fun _ => false) fun K hK => ?_
      | (refine ⟨by omega, ?_⟩)
      | refine T.cond rfl (fun hcnd => ?_) (fun hcnd => absurd hcnd (by decide))
      | refine T.cond rfl (fun hcnd => absurd hcnd (by decide)) (fun hcnd => ?_)
      | refine T.seq ?_
      | refine T.block ?_
      | refine T.skip ?_
      | refine T.exit ?_
    all_goals (refine T.ret (Done.own1 0 (Or.inr rfl) (ys := [_]) ?_ rfl ?_) <;> simp [resAs, Tryz.results108])

theorem casts_no (e : MTm) (hh : ¬ e.kind = 14) (hn : nTm e ≤ 1073741824)
    (ih : ∀ u ∈ e.kids, ACalls Tryz.prog 108 [aTm u] [] (.c (.own 0 (castsM u).length)) [] [{ sz := 9, ety := 28, rows := (castsM u).map eTm, wr := true }]) :
    ACalls Tryz.prog 108 [aTm e] [] (.c (.own 0 ([] ++ castsS e.kids).length)) [] [{ sz := 9, ety := 28, rows := ([] ++ castsS e.kids).map eTm, wr := true }] := by
  obtain ⟨hnt, hnf, hnk, hnu⟩ := nTm_parts (show nTm e ≤ 1099511627776 by omega)
  have hsm : (castsS e.kids).length ≤ 1073741825 := by have := casts_small e; rw [castsM_def] at this; simp only [List.length_append] at this; omega
  refine ACalls.of_body Tryz.func108 (by kernel_rfl) rfl (by kernel_rfl) (by simp [Tryz.ntmps108]) (by simp) ?_
  rw [Tryz.ntmps108]
  repeat' first
    | ((first | refine aops_end (hK _ ?_) | refine aopsD_end (hK _ ?_) | refine aopsF_end (hK _ ?_)); clear hK K)
    | ((first | refine aops_go ?_ | refine aopsD_go ?_ | refine aopsF_go ?_); simp [hh]; (try (refine gen fun q hq => ?_; cases q <;> (try simp [hh] at hq) <;> (try (have hh : True := hq; clear hh hq)))))
    | (refine ⟨by omega, by omega, ?_⟩)
    | refine T.rs (fun _ => false) fun K hK => ?_
    | refine T.rs1 (fun _ => false) fun K hK => ?_
    | (refine ⟨by omega, ?_⟩)
    | refine T.cond rfl (fun hcnd => ?_) (fun hcnd => absurd hcnd (by decide))
    | refine T.cond rfl (fun hcnd => absurd hcnd (by decide)) (fun hcnd => ?_)
    | refine T.seq ?_
    | refine T.block ?_
    | refine T.skip ?_
    | refine T.exit ?_
  refine T.ownify 3 9 28 (by simp) ?_
  refine T.loopK (α := Nat × List (List CV) × List Arr) [2, 14, 15] (fun x => [(3, .c (.own 0 ([] ++ castsS (e.kids.take x.1)).length)), (16, .i x.1)]) (fun x => []) (fun x => x.2.1) (fun x _ => { sz := 9, ety := 28, rows := ([] ++ castsS (e.kids.take x.1)).map eTm, wr := true } :: x.2.2) (fun x => e.kids.length + 1 - x.1) (fun x => x.1 ≤ e.kids.length) (by simp; rfl) (fun x hx => ?_) (0, [], []) (by simp) (by simp) (by simp [castsS, eTm_def, hh]) (by simp [castsS])
  obtain ⟨p, G, GA⟩ := x
  dsimp only at hx ⊢
  simp only [ups, List.set_cons_zero, List.set_cons_succ, List.cons_append, List.nil_append]
  by_cases hlt : p < e.kids.length
  · obtain ⟨u, ht⟩ := get_lt hlt
    have htm : u ∈ e.kids := List.mem_of_getElem? ht
    have hgt : e.kids[p] = u := by rw [List.getElem?_eq_getElem hlt] at ht; exact Option.some.inj ht
    have hdr : e.kids.drop p = u :: e.kids.drop (p + 1) := by rw [List.drop_eq_getElem_cons hlt, hgt]
    have hu := ih u htm
    have htk : castsS (e.kids.take (p + 1)) = castsS (e.kids.take p) ++ castsM u := castsS_take ht
    have hle := castsS_le e.kids (p + 1)
    rw [htk, List.length_append] at hle
    generalize castsS (e.kids.take p) = Z at *
    generalize castsM u = tu at *
    repeat' first
      | ((first | refine aops_end (hK _ ?_) | refine aopsD_end (hK _ ?_) | refine aopsF_end (hK _ ?_)); clear hK K)
      | ((first | refine aops_go ?_ | refine aopsD_go ?_ | refine aopsF_go ?_); simp [hlt, hgt]; (try simp (disch := omega) only [wrap64]); (try (refine gen fun q hq => ?_; cases q <;> (try simp [hlt, hgt] at hq) <;> (try (have hh : True := hq; clear hh hq)))))
      | (refine wpcall_own rfl (hu) ?_; simp [hlt, hgt]; (try simp (disch := omega) only [wrap64]); (try (refine gen fun q hq => ?_; cases q <;> (try simp [hlt, hgt] at hq) <;> (try (have hh : True := hq; clear hh hq)))))
      | (refine ⟨by omega, by omega, ?_⟩)
      | (refine ⟨(p + 1, _, GA ++ [{ sz := 9, ety := 28, rows := tu.map eTm, wr := true }]), by dsimp only; omega, by dsimp only; omega, rfl, ?_, ?_⟩ <;> simp (disch := omega) [wrap64, htk, eTm_def] <;> omega)
      | refine T.rs (fun _ => false) fun K hK => ?_
      | refine T.rs1 (fun _ => false) fun K hK => ?_
      | (refine ⟨by omega, ?_⟩)
      | refine T.cond rfl (fun hcnd => ?_) (fun hcnd => absurd hcnd (by decide))
      | refine T.cond rfl (fun hcnd => absurd hcnd (by decide)) (fun hcnd => ?_)
      | refine T.seq ?_
      | refine T.block ?_
      | refine T.skip ?_
      | refine T.exit ?_
  · have hp' : p = e.kids.length := by omega
    subst hp'
    rw [List.take_length]
    repeat' first
      | ((first | refine aops_end (hK _ ?_) | refine aopsD_end (hK _ ?_) | refine aopsF_end (hK _ ?_)); clear hK K)
      | ((first | refine aops_go ?_ | refine aopsD_go ?_ | refine aopsF_go ?_); simp [hlt]; (try (refine gen fun q hq => ?_; cases q <;> (try simp [hlt] at hq) <;> (try (have hh : True := hq; clear hh hq)))))
      | refine T.rs (fun _ => false) fun K hK => ?_
      | refine T.rs1 (fun _ => false) fun K hK => ?_
      | (refine ⟨by omega, ?_⟩)
      | refine T.cond rfl (fun hcnd => ?_) (fun hcnd => absurd hcnd (by decide))
      | refine T.cond rfl (fun hcnd => absurd hcnd (by decide)) (fun hcnd => ?_)
      | refine T.seq ?_
      | refine T.block ?_
      | refine T.skip ?_
      | refine T.exit ?_
    all_goals (refine T.ret (Done.own1 0 (Or.inr rfl) (ys := [_]) ?_ rfl ?_) <;> simp [resAs, Tryz.results108])

theorem casts_own : ∀ (e : MTm), nTm e ≤ 1073741824 → ACalls Tryz.prog 108 [aTm e] [] (.c (.own 0 (castsM e).length)) [] [{ sz := 9, ety := 28, rows := (castsM e).map eTm, wr := true }] := by
  intro e
  induction e using MTm.ind with
  | h e ih =>
    intro hn
    have ih' := fun u hu => ih u hu (by have := nTmS_mem hu; rw [nTm_def] at hn; omega)
    rw [castsM_def]
    by_cases hh : e.kind = 14
    · rw [if_pos hh]; exact casts_yes e hh hn ih'
    · rw [if_neg hh]; exact casts_no e hh hn ih'

theorem CountCasts_ok (e : MTm) (hn : nTm e ≤ 1073741824) : ACalls Tryz.prog 45 [aTm e] [] (.i (if castValidM e = true then ((castsM e).length : Int) else 0)) [] [] := by
  have h1 := CastValid_ok e (by omega)
  cases hv : castValidM e with
  | false =>
    rw [hv] at h1
    simp only [Bool.false_eq_true, if_false]
    refine ACalls.of_body Tryz.func45 (by kernel_rfl) rfl (by kernel_rfl) (by simp [Tryz.ntmps45]) (by simp) ?_
    rw [Tryz.ntmps45]
    repeat' first
      | ((first | refine aops_end (hK _ ?_) | refine aopsD_end (hK _ ?_) | refine aopsF_end (hK _ ?_)); clear hK K)
      | ((first | refine aops_go ?_ | refine aopsD_go ?_ | refine aopsF_go ?_); simp; (try (refine gen fun q hq => ?_; cases q <;> (try simp at hq) <;> (try (have hh : True := hq; clear hh hq)))))
      | (refine wpcall_pure rfl (h1) ?_; simp; (try (refine gen fun q hq => ?_; cases q <;> (try simp at hq) <;> (try (have hh : True := hq; clear hh hq)))))
      | (refine T.ret (Done.data (Or.inr rfl) ?_ ?_) <;> simp [Tryz.results45] <;> omega)
      | refine T.rs (fun _ => false) fun K hK => ?_
      | refine T.rs1 (fun _ => false) fun K hK => ?_
      | (refine ⟨by omega, ?_⟩)
      | refine T.cond rfl (fun hcnd => ?_) (fun hcnd => absurd hcnd (by decide))
      | refine T.cond rfl (fun hcnd => absurd hcnd (by decide)) (fun hcnd => ?_)
      | refine T.seq ?_
      | refine T.block ?_
      | refine T.skip ?_
      | refine T.exit ?_
  | true =>
    rw [hv] at h1
    simp only [if_true]
    have h2 := casts_own e (by omega)
    refine ACalls.of_body Tryz.func45 (by kernel_rfl) rfl (by kernel_rfl) (by simp [Tryz.ntmps45]) (by simp) ?_
    rw [Tryz.ntmps45]
    repeat' first
      | ((first | refine aops_end (hK _ ?_) | refine aopsD_end (hK _ ?_) | refine aopsF_end (hK _ ?_)); clear hK K)
      | ((first | refine aops_go ?_ | refine aopsD_go ?_ | refine aopsF_go ?_); simp; (try (refine gen fun q hq => ?_; cases q <;> (try simp at hq) <;> (try (have hh : True := hq; clear hh hq)))))
      | (refine wpcall_pure rfl (h1) ?_; simp; (try (refine gen fun q hq => ?_; cases q <;> (try simp at hq) <;> (try (have hh : True := hq; clear hh hq)))))
      | (refine wpcall_own rfl (h2) ?_; simp; (try (refine gen fun q hq => ?_; cases q <;> (try simp at hq) <;> (try (have hh : True := hq; clear hh hq)))))
      | (refine T.ret (Done.data (Or.inr rfl) ?_ ?_) <;> simp [Tryz.results45] <;> omega)
      | refine T.rs (fun _ => false) fun K hK => ?_
      | refine T.rs1 (fun _ => false) fun K hK => ?_
      | (refine ⟨by omega, ?_⟩)
      | refine T.cond rfl (fun hcnd => ?_) (fun hcnd => absurd hcnd (by decide))
      | refine T.cond rfl (fun hcnd => absurd hcnd (by decide)) (fun hcnd => ?_)
      | refine T.seq ?_
      | refine T.block ?_
      | refine T.skip ?_
      | refine T.exit ?_

end Go.Proofs.YtfdknjjnifnobaaGreat

namespace Go.Proofs.YtfdknjjnifnobaaGreat
open Go Go.Av
attribute [local irreducible] T ACalls TX EX LX Draws Some_ ACallsX eTy eTm MTy.kind MTy.kids MTm.kind MTm.name MTm.num MTm.ty MTm.fr MTm.label MTm.kids
attribute [local simp] eTy_def eTm_def
set_option linter.unusedSimpArgs false
set_option linter.unusedVariables false
set_option maxHeartbeats 16000000
set_option maxRecDepth 8000

def redM (e : MTm) : Int := if castValidM e = true then ((castsM e).length : Int) - (castsM (simpM e)).length else 0

/-- A copy whose operands the caller may change. -/
abbrev tmOwn (e : MTm) : AV := .agg [.d (.i e.kind), .d (.str e.name), .d (.i e.num), .d (.i e.ty.kind), .d (.sl (e.ty.kids.map eTy)), .d (.i e.fr.kind), .d (.sl (e.fr.kids.map eTy)), .d (.i e.label), .own 0 e.kids.length]
/-- The operands, simplified as_ far as_ a place. -/
def mixM (l : List MTm) (p : Nat) : List MTm := (l.map simpM).take p ++ l.drop p
end Go.Proofs.YtfdknjjnifnobaaGreat

namespace Go.Proofs.YtfdknjjnifnobaaGreat
open Go Go.Av
attribute [local irreducible] T ACalls TX EX LX Draws Some_ ACallsX eTy eTm MTy.kind MTy.kids MTm.kind MTm.name MTm.num MTm.ty MTm.fr MTm.label MTm.kids
attribute [local simp] eTy_def eTm_def
set_option linter.unusedSimpArgs false
set_option linter.unusedVariables false
set_option maxHeartbeats 16000000
set_option maxRecDepth 8000
attribute [local simp] Option.bind

theorem isFuel_ok (n : Int) : ACalls Tryz.prog 105 [.i n] [] (.b (fuelM n)) [] [] := by
  have h : ACalls Tryz.prog 166 [.i n, .i 0, .i 300] [] (.b (fuelM n)) [] [] := by
    rw [fuelM]
    refine ACalls.of_body Tryz.func166 (by kernel_rfl) rfl (by kernel_rfl) (by simp [Tryz.ntmps166]) (by simp) ?_
    rw [Tryz.ntmps166]
    repeat' first
      | ((first | refine aops_end (hK _ ?_) | refine aopsD_end (hK _ ?_) | refine aopsF_end (hK _ ?_)); clear hK K)
      | ((first | refine aops_go ?_ | refine aopsD_go ?_ | refine aopsF_go ?_); simp; (try (refine gen fun q hq => ?_; cases q <;> (try simp at hq) <;> (try (have hh : True := hq; clear hh hq)))))
      | (refine T.ret (Done.data (Or.inr rfl) ?_ ?_) <;> simp [Tryz.results166, *] <;> omega)
      | refine T.rs (fun _ => false) fun K hK => ?_
      | refine T.rs1 (fun _ => false) fun K hK => ?_
      | (refine ⟨by omega, ?_⟩)
      | refine T.cond rfl (fun hcnd => ?_) (fun hcnd => absurd hcnd (by decide))
      | refine T.cond rfl (fun hcnd => absurd hcnd (by decide)) (fun hcnd => ?_)
      | refine T.seq ?_
      | refine T.block ?_
      | refine T.skip ?_
      | refine T.exit ?_
  refine ACalls.of_body Tryz.func105 (by kernel_rfl) rfl (by kernel_rfl) (by simp [Tryz.ntmps105]) (by simp) ?_
  rw [Tryz.ntmps105]
  repeat' first
    | ((first | refine aops_end (hK _ ?_) | refine aopsD_end (hK _ ?_) | refine aopsF_end (hK _ ?_)); clear hK K)
    | ((first | refine aops_go ?_ | refine aopsD_go ?_ | refine aopsF_go ?_); simp; (try (refine gen fun q hq => ?_; cases q <;> (try simp at hq) <;> (try (have hh : True := hq; clear hh hq)))))
    | (refine wpcall_pure rfl (h) ?_; simp; (try (refine gen fun q hq => ?_; cases q <;> (try simp at hq) <;> (try (have hh : True := hq; clear hh hq)))))
    | (refine T.ret (Done.data (Or.inr rfl) ?_ ?_) <;> simp [Tryz.results105] <;> omega)
    | refine T.rs (fun _ => false) fun K hK => ?_
    | refine T.rs1 (fun _ => false) fun K hK => ?_
    | (refine ⟨by omega, ?_⟩)
    | refine T.cond rfl (fun hcnd => ?_) (fun hcnd => absurd hcnd (by decide))
    | refine T.cond rfl (fun hcnd => absurd hcnd (by decide)) (fun hcnd => ?_)
    | refine T.seq ?_
    | refine T.block ?_
    | refine T.skip ?_
    | refine T.exit ?_

abbrev stepR (p : MTm × Int × Int) : List AV := [aTm p.1, .i p.2.1, .i p.2.2]

/-- The step of a term, by the first operand that is no value. -/
theorem stepB_at {e : MTm} {i : Nat} {u : MTm} (h : firstNV (e.kids.take (countsM e)) = some i) (hu : e.kids[i]? = some u) :
    stepB e = (.mk e.kind e.name e.num e.ty e.fr e.label (e.kids.set i (stepB u).1), (stepB u).2.1, (stepB u).2.2) := by
  have : e.kids.getD i zeroE = u := by rw [List.getD_eq_getElem?_getD, hu]; rfl
  rw [stepB_def, stepBS_first, h]
  simp only [this]
theorem stepB_none {e : MTm} (h : firstNV (e.kids.take (countsM e)) = none) : stepB e = match ruleM e with
    | some x => (x, 1, 0)
    | none => (zeroE, 2, wrongM e.kind) := by
  rw [stepB_def, stepBS_first, h]
  cases ruleM e <;> rfl

theorem bareStep_node (e : MTm) (hlen : e.kids.length ≤ 3) (hcnt : countsM e ≤ e.kids.length) (hr : ACalls Tryz.prog 173 [aTm e] [] (.tup (ruleR (ruleM e))) [] []) (hnu : ∀ u ∈ e.kids, nTm u ≤ 1073741824)
    (ih : ∀ u ∈ e.kids, ACalls Tryz.prog 111 [aTm u] [] (.tup (stepR (stepB u))) [] []) : ACalls Tryz.prog 111 [aTm e] [] (.tup (stepR (stepB e))) [] [] := by
  have hc := counts_ok e
  have hw := wrong_ok e
  have hcl := cloneTm_own e.kids (by omega)
  obtain ⟨R, hR⟩ : ∃ R, firstNV (e.kids.take (countsM e)) = R := ⟨_, rfl⟩
  have hat : ∀ i u, e.kids[i]? = some u → R = some i → stepB e = (.mk e.kind e.name e.num e.ty e.fr e.label (e.kids.set i (stepB u).1), (stepB u).2.1, (stepB u).2.2) := fun i u h1 h2 => stepB_at (hR.trans h2) h1
  have hnone : R = none → stepB e = match ruleM e with
    | some x => (x, 1, 0)
    | none => (zeroE, 2, wrongM e.kind) := fun h => stepB_none (hR.trans h)
  generalize stepB e = S at *
  obtain ⟨n, hn⟩ : ∃ n, countsM e = n := ⟨_, rfl⟩
  rw [hn] at hR hcnt hc
  obtain ⟨L, hL⟩ : ∃ L, e.kids.take n = L := ⟨_, rfl⟩
  have hLm : List.take n (List.map eTm e.kids) = L.map eTm := by rw [← hL, List.map_take]
  have hLl : L.length = n := by rw [← hL]; simp; omega
  have hLu : ∀ i u, L[i]? = some u → e.kids[i]? = some u := fun i u h => by
    rw [← hL] at h
    have hi : i < n := by have := (List.getElem?_eq_some_iff.1 h).1; simp at this; omega
    rwa [List.getElem?_take_of_lt hi] at h
  rw [hL] at hR
  have hnl : (n : Int) ≤ e.kids.length := by omega
  subst hLl
  refine ACalls.of_body Tryz.func111 (by kernel_rfl) rfl (by kernel_rfl) (by simp [Tryz.ntmps111]) (by simp) ?_
  rw [Tryz.ntmps111]
  repeat' first
    | ((first | refine aops_end (hK _ ?_) | refine aopsD_end (hK _ ?_) | refine aopsF_end (hK _ ?_)); clear hK K)
    | ((first | refine aops_go ?_ | refine aopsD_go ?_ | refine aopsF_go ?_); simp [hLm, hnl]; (try (refine gen fun q hq => ?_; cases q <;> (try simp [hLm, hnl] at hq) <;> (try (have hh : True := hq; clear hh hq)))))
    | (refine wpcall_pure rfl (hc) ?_; simp [hLm, hnl]; (try (refine gen fun q hq => ?_; cases q <;> (try simp [hLm, hnl] at hq) <;> (try (have hh : True := hq; clear hh hq)))))
    | refine T.rd (id := 1) mixed (fun _ => false) [] (by kernel_rfl) fun K hK => ?_
    | refine T.rd1 (id := 1) mixed (fun _ => false) [] (by kernel_rfl) fun K hK => ?_
    | refine T.rs (fun _ => false) fun K hK => ?_
    | refine T.rs1 (fun _ => false) fun K hK => ?_
    | (refine ⟨by omega, ?_⟩)
    | refine T.cond rfl (fun hcnd => ?_) (fun hcnd => absurd hcnd (by decide))
    | refine T.cond rfl (fun hcnd => absurd hcnd (by decide)) (fun hcnd => ?_)
    | refine T.seq ?_
    | refine T.block ?_
    | refine T.skip ?_
    | refine T.exit ?_
  refine T.loopK (α := Nat × List (List CV)) [1, 2, 17, 18] (fun x => [(3, .i 0), (4, .i 0), (19, .i x.1)]) (fun x => []) (fun x => x.2) (fun x A => A) (fun x => L.length + 1 - x.1) (fun x => x.1 ≤ L.length ∧ (firstNV (L.drop x.1)).map (· + x.1) = R) (by simp; rfl) (fun x hx => ?_) (0, []) (by simp [hR]) (by simp) (by simp) (by simp)
  obtain ⟨p, G⟩ := x
  obtain ⟨hx, he⟩ := hx
  dsimp only at hx he ⊢
  simp only [ups, List.set_cons_zero, List.set_cons_succ, List.cons_append, List.nil_append, List.append_nil]
  by_cases hlt : p < L.length
  · obtain ⟨u, ht⟩ := get_lt hlt
    have htm : u ∈ L := List.mem_of_getElem? ht
    have hgt : L[p] = u := by rw [List.getElem?_eq_getElem hlt] at ht; exact Option.some.inj ht
    have hdr : L.drop p = u :: L.drop (p + 1) := by rw [List.drop_eq_getElem_cons hlt, hgt]
    have hku := hLu p u ht
    have hum : u ∈ e.kids := List.mem_of_getElem? hku
    have hpk : p < e.kids.length := (List.getElem?_eq_some_iff.1 hku).1
    have hv := isValue_ok u (by have := hnu u hum; omega)
    rw [hdr, firstNV] at he
    cases hb : valM u with
    | true =>
      rw [hb] at hv he
      simp only [if_true, Option.map_map] at he
      have he' : (firstNV (L.drop (p + 1))).map (· + (p + 1)) = R := by rw [← he]; congr 1; funext z; simp; omega
      repeat' first
        | ((first | refine aops_end (hK _ ?_) | refine aopsD_end (hK _ ?_) | refine aopsF_end (hK _ ?_)); clear hK K)
        | ((first | refine aops_go ?_ | refine aopsD_go ?_ | refine aopsF_go ?_); simp [hlt, hgt]; (try simp (disch := omega) only [wrap64]); (try (refine gen fun q hq => ?_; cases q <;> (try simp [hlt, hgt] at hq) <;> (try (have hh : True := hq; clear hh hq)))))
        | (refine wpcall_pure rfl (hv) ?_; simp [hlt, hgt]; (try simp (disch := omega) only [wrap64]); (try (refine gen fun q hq => ?_; cases q <;> (try simp [hlt, hgt] at hq) <;> (try (have hh : True := hq; clear hh hq)))))
        | (refine ⟨(p + 1, _), by dsimp only; omega, ⟨by dsimp only; omega, he'⟩, rfl, ?_, ?_⟩ <;> simp (disch := omega) [wrap64])
        | refine T.rd (id := 1) mixed (fun _ => false) [] (by kernel_rfl) fun K hK => ?_
        | refine T.rd1 (id := 1) mixed (fun _ => false) [] (by kernel_rfl) fun K hK => ?_
        | refine T.rs (fun _ => false) fun K hK => ?_
        | refine T.rs1 (fun _ => false) fun K hK => ?_
        | (refine ⟨by omega, ?_⟩)
        | refine T.cond rfl (fun hcnd => ?_) (fun hcnd => absurd hcnd (by decide))
        | refine T.cond rfl (fun hcnd => absurd hcnd (by decide)) (fun hcnd => ?_)
        | refine T.seq ?_
        | refine T.block ?_
        | refine T.skip ?_
        | refine T.exit ?_
    | false =>
      rw [hb] at hv he
      simp at he
      have hs := hat p u hku he.symm
      have hi := ih u hum
      generalize stepB u = su at *
      obtain ⟨y, cd, lb⟩ := su
      subst hs
      repeat' first
        | ((first | refine aops_end (hK _ ?_) | refine aopsD_end (hK _ ?_) | refine aopsF_end (hK _ ?_)); clear hK K)
        | ((first | refine aops_go ?_ | refine aopsD_go ?_ | refine aopsF_go ?_); simp [hlt, hgt, hpk]; (try simp (disch := omega) only [wrap64]); (try (refine gen fun q hq => ?_; cases q <;> (try simp [hlt, hgt, hpk] at hq) <;> (try (have hh : True := hq; clear hh hq)))))
        | (refine wpcall_pure rfl (hv) ?_; simp [hlt, hgt, hpk]; (try simp (disch := omega) only [wrap64]); (try (refine gen fun q hq => ?_; cases q <;> (try simp [hlt, hgt, hpk] at hq) <;> (try (have hh : True := hq; clear hh hq)))))
        | (refine wpcall_pure rfl (hi) ?_; simp [hlt, hgt, hpk]; (try simp (disch := omega) only [wrap64]); (try (refine gen fun q hq => ?_; cases q <;> (try simp [hlt, hgt, hpk] at hq) <;> (try (have hh : True := hq; clear hh hq)))))
        | (refine wpcall_own rfl (hcl) ?_; simp [hlt, hgt, hpk]; (try simp (disch := omega) only [wrap64]); (try (refine gen fun q hq => ?_; cases q <;> (try simp [hlt, hgt, hpk] at hq) <;> (try (have hh : True := hq; clear hh hq)))))
        | (refine ⟨by omega, by omega, ?_⟩)
        | (refine T.ret (Done.tup (Or.inr rfl) ?_) <;> simp [resAs, Tryz.results111, eTm_def, List.map_set] <;> omega)
        | refine T.rd (id := 1) mixed (fun _ => false) [] (by kernel_rfl) fun K hK => ?_
        | refine T.rd1 (id := 1) mixed (fun _ => false) [] (by kernel_rfl) fun K hK => ?_
        | refine T.rs (fun _ => false) fun K hK => ?_
        | refine T.rs1 (fun _ => false) fun K hK => ?_
        | (refine ⟨by omega, ?_⟩)
        | refine T.cond rfl (fun hcnd => ?_) (fun hcnd => absurd hcnd (by decide))
        | refine T.cond rfl (fun hcnd => absurd hcnd (by decide)) (fun hcnd => ?_)
        | refine T.seq ?_
        | refine T.block ?_
        | refine T.skip ?_
        | refine T.exit ?_
  · have hp' : p = L.length := by omega
    subst hp'
    simp [firstNV] at he
    have hs := hnone he.symm
    cases hq : ruleM e with
    | none =>
      rw [hq] at hs hr
      subst hs
      simp only [ruleR] at hr
      repeat' first
        | ((first | refine aops_end (hK _ ?_) | refine aopsD_end (hK _ ?_) | refine aopsF_end (hK _ ?_)); clear hK K)
        | ((first | refine aops_go ?_ | refine aopsD_go ?_ | refine aopsF_go ?_); simp [hlt]; (try (refine gen fun q hq => ?_; cases q <;> (try simp [hlt] at hq) <;> (try (have hh : True := hq; clear hh hq)))))
        | (refine wpcall_pure rfl (hr) ?_; simp [hlt]; (try (refine gen fun q hq => ?_; cases q <;> (try simp [hlt] at hq) <;> (try (have hh : True := hq; clear hh hq)))))
        | (refine wpcall_pure rfl (hw) ?_; simp [hlt]; (try (refine gen fun q hq => ?_; cases q <;> (try simp [hlt] at hq) <;> (try (have hh : True := hq; clear hh hq)))))
        | (refine T.ret (Done.tup (Or.inr rfl) ?_) <;> simp [resAs, Tryz.results111] <;> omega)
        | refine T.rd (id := 1) mixed (fun _ => false) [] (by kernel_rfl) fun K hK => ?_
        | refine T.rd1 (id := 1) mixed (fun _ => false) [] (by kernel_rfl) fun K hK => ?_
        | refine T.rs (fun _ => false) fun K hK => ?_
        | refine T.rs1 (fun _ => false) fun K hK => ?_
        | (refine ⟨by omega, ?_⟩)
        | refine T.cond rfl (fun hcnd => ?_) (fun hcnd => absurd hcnd (by decide))
        | refine T.cond rfl (fun hcnd => absurd hcnd (by decide)) (fun hcnd => ?_)
        | refine T.seq ?_
        | refine T.block ?_
        | refine T.skip ?_
        | refine T.exit ?_
    | some x =>
      rw [hq] at hs hr
      subst hs
      simp only [ruleR] at hr
      repeat' first
        | ((first | refine aops_end (hK _ ?_) | refine aopsD_end (hK _ ?_) | refine aopsF_end (hK _ ?_)); clear hK K)
        | ((first | refine aops_go ?_ | refine aopsD_go ?_ | refine aopsF_go ?_); simp [hlt]; (try (refine gen fun q hq => ?_; cases q <;> (try simp [hlt] at hq) <;> (try (have hh : True := hq; clear hh hq)))))
        | (refine wpcall_pure rfl (hr) ?_; simp [hlt]; (try (refine gen fun q hq => ?_; cases q <;> (try simp [hlt] at hq) <;> (try (have hh : True := hq; clear hh hq)))))
        | (refine wpcall_pure rfl (hw) ?_; simp [hlt]; (try (refine gen fun q hq => ?_; cases q <;> (try simp [hlt] at hq) <;> (try (have hh : True := hq; clear hh hq)))))
        | (refine T.ret (Done.tup (Or.inr rfl) ?_) <;> simp [resAs, Tryz.results111] <;> omega)
        | refine T.rd (id := 1) mixed (fun _ => false) [] (by kernel_rfl) fun K hK => ?_
        | refine T.rd1 (id := 1) mixed (fun _ => false) [] (by kernel_rfl) fun K hK => ?_
        | refine T.rs (fun _ => false) fun K hK => ?_
        | refine T.rs1 (fun _ => false) fun K hK => ?_
        | (refine ⟨by omega, ?_⟩)
        | refine T.cond rfl (fun hcnd => ?_) (fun hcnd => absurd hcnd (by decide))
        | refine T.cond rfl (fun hcnd => absurd hcnd (by decide)) (fun hcnd => ?_)
        | refine T.seq ?_
        | refine T.block ?_
        | refine T.skip ?_
        | refine T.exit ?_

theorem counts_le {e : MTm} (hlen : kidsM e.kind = e.kids.length) : countsM e ≤ e.kids.length := by
  rw [countsM]
  split
  · rename_i h
    rw [h] at hlen; simp [kidsM] at hlen; omega
  · exact Nat.le_refl _

theorem bareStep_ok : ∀ (e : MTm) (d : Nat), TmV 13 d e → nTm e ≤ 1073741824 → ACalls Tryz.prog 111 [aTm e] [] (.tup (stepR (stepB e))) [] [] := by
  intro e
  induction e using MTm.ind with
  | h e ih =>
    intro d hv hn
    obtain ⟨d', rfl, _, hlen, _, hk⟩ := shapeTm_kids hv.shape
    have hnu : ∀ u ∈ e.kids, nTm u ≤ 1073741824 := fun u hu => by have := nTmS_mem hu; rw [nTm_def] at hn; omega
    exact bareStep_node e (by have := kidsM_le e.kind; omega) (counts_le hlen) (rule_ok e _ hv hn) hnu (fun u hu => ih u hu d' (TmV.of (hk u hu)) (hnu u hu))

theorem StepBare_ok (e : MTm) (hn : nTm e ≤ 1073741824) : ACalls Tryz.prog 49 [aTm e] [] (.tup (stepR (stepBareM e))) [] [] := by
  have k1 := BareValid_ok e (by omega)
  rw [stepBareM]
  rw [show (castValidM e && bareM e) = bareValidM e from rfl] at k1
  cases hb : bareValidM e with
  | false =>
    rw [hb] at k1
    simp only [Bool.false_eq_true, if_false]
    refine ACalls.of_body Tryz.func49 (by kernel_rfl) rfl (by kernel_rfl) (by simp [Tryz.ntmps49]) (by simp) ?_
    rw [Tryz.ntmps49]
    repeat' first
      | ((first | refine aops_end (hK _ ?_) | refine aopsD_end (hK _ ?_) | refine aopsF_end (hK _ ?_)); clear hK K)
      | ((first | refine aops_go ?_ | refine aopsD_go ?_ | refine aopsF_go ?_); simp; (try (refine gen fun q hq => ?_; cases q <;> (try simp at hq) <;> (try (have hh : True := hq; clear hh hq)))))
      | (refine wpcall_pure rfl (k1) ?_; simp; (try (refine gen fun q hq => ?_; cases q <;> (try simp at hq) <;> (try (have hh : True := hq; clear hh hq)))))
      | (refine T.ret (Done.tup (Or.inr rfl) ?_) <;> simp [resAs, Tryz.results49] <;> omega)
      | refine T.rs (fun _ => false) fun K hK => ?_
      | refine T.rs1 (fun _ => false) fun K hK => ?_
      | (refine ⟨by omega, ?_⟩)
      | refine T.cond rfl (fun hcnd => ?_) (fun hcnd => absurd hcnd (by decide))
      | refine T.cond rfl (fun hcnd => absurd hcnd (by decide)) (fun hcnd => ?_)
      | refine T.seq ?_
      | refine T.block ?_
      | refine T.skip ?_
      | refine T.exit ?_
  | true =>
    rw [hb] at k1
    simp only [if_true]
    have hcv : castValidM e = true := by simp only [bareValidM, Bool.and_eq_true] at hb; exact hb.1
    have hv := (castValidM_iff.1 hcv).1
    have hsm := castValid_small hcv
    have k2 := isValue_ok e (by omega)
    cases hvl : valM e with
    | true =>
      rw [hvl] at k2
      have k3 := own_ok e (by omega)
      simp only [if_true]
      refine ACalls.of_body Tryz.func49 (by kernel_rfl) rfl (by kernel_rfl) (by simp [Tryz.ntmps49]) (by simp) ?_
      rw [Tryz.ntmps49]
      repeat' first
        | ((first | refine aops_end (hK _ ?_) | refine aopsD_end (hK _ ?_) | refine aopsF_end (hK _ ?_)); clear hK K)
        | ((first | refine aops_go ?_ | refine aopsD_go ?_ | refine aopsF_go ?_); simp; (try (refine gen fun q hq => ?_; cases q <;> (try simp at hq) <;> (try (have hh : True := hq; clear hh hq)))))
        | (refine wpcall_pure rfl (k1) ?_; simp; (try (refine gen fun q hq => ?_; cases q <;> (try simp at hq) <;> (try (have hh : True := hq; clear hh hq)))))
        | (refine wpcall_pure rfl (k2) ?_; simp; (try (refine gen fun q hq => ?_; cases q <;> (try simp at hq) <;> (try (have hh : True := hq; clear hh hq)))))
        | (refine wpcall_pure rfl (k3) ?_; simp; (try (refine gen fun q hq => ?_; cases q <;> (try simp at hq) <;> (try (have hh : True := hq; clear hh hq)))))
        | (refine T.ret (Done.tup (Or.inr rfl) ?_) <;> simp [resAs, Tryz.results49] <;> omega)
        | refine T.rs (fun _ => false) fun K hK => ?_
        | refine T.rs1 (fun _ => false) fun K hK => ?_
        | (refine ⟨by omega, ?_⟩)
        | refine T.cond rfl (fun hcnd => ?_) (fun hcnd => absurd hcnd (by decide))
        | refine T.cond rfl (fun hcnd => absurd hcnd (by decide)) (fun hcnd => ?_)
        | refine T.seq ?_
        | refine T.block ?_
        | refine T.skip ?_
        | refine T.exit ?_
    | false =>
      rw [hvl] at k2
      have k3 := bareStep_ok e 40 hv hn
      have hsz := step_size e
      have hsz2 : nodesM e * nTm e ≤ 200 * 60000 := Nat.mul_le_mul hsm.2 hsm.1
      have k4 := BareValid_ok (stepB e).1 (by omega)
      have k5 := own_ok (stepB e).1 (by omega)
      rw [show (castValidM (stepB e).1 && bareM (stepB e).1) = bareValidM (stepB e).1 from rfl] at k4
      simp only [Bool.false_eq_true, if_false]
      generalize stepB e = p at *
      obtain ⟨x, cd, lb⟩ := p
      dsimp only at *
      by_cases h1 : cd = 1
      · subst h1
        cases hbx : bareValidM x <;> rw [hbx] at k4
        · simp only [if_true, Bool.false_eq_true, if_false]
          refine ACalls.of_body Tryz.func49 (by kernel_rfl) rfl (by kernel_rfl) (by simp [Tryz.ntmps49]) (by simp) ?_
          rw [Tryz.ntmps49]
          repeat' first
            | ((first | refine aops_end (hK _ ?_) | refine aopsD_end (hK _ ?_) | refine aopsF_end (hK _ ?_)); clear hK K)
            | ((first | refine aops_go ?_ | refine aopsD_go ?_ | refine aopsF_go ?_); simp; (try (refine gen fun q hq => ?_; cases q <;> (try simp at hq) <;> (try (have hh : True := hq; clear hh hq)))))
            | (refine wpcall_pure rfl (k1) ?_; simp; (try (refine gen fun q hq => ?_; cases q <;> (try simp at hq) <;> (try (have hh : True := hq; clear hh hq)))))
            | (refine wpcall_pure rfl (k2) ?_; simp; (try (refine gen fun q hq => ?_; cases q <;> (try simp at hq) <;> (try (have hh : True := hq; clear hh hq)))))
            | (refine wpcall_pure rfl (k3) ?_; simp; (try (refine gen fun q hq => ?_; cases q <;> (try simp at hq) <;> (try (have hh : True := hq; clear hh hq)))))
            | (refine wpcall_pure rfl (k4) ?_; simp; (try (refine gen fun q hq => ?_; cases q <;> (try simp at hq) <;> (try (have hh : True := hq; clear hh hq)))))
            | (refine T.ret (Done.tup (Or.inr rfl) ?_) <;> simp [resAs, Tryz.results49] <;> omega)
            | refine T.rs (fun _ => false) fun K hK => ?_
            | refine T.rs1 (fun _ => false) fun K hK => ?_
            | (refine ⟨by omega, ?_⟩)
            | refine T.cond rfl (fun hcnd => ?_) (fun hcnd => absurd hcnd (by decide))
            | refine T.cond rfl (fun hcnd => absurd hcnd (by decide)) (fun hcnd => ?_)
            | refine T.seq ?_
            | refine T.block ?_
            | refine T.skip ?_
            | refine T.exit ?_
        · simp only [if_true]
          refine ACalls.of_body Tryz.func49 (by kernel_rfl) rfl (by kernel_rfl) (by simp [Tryz.ntmps49]) (by simp) ?_
          rw [Tryz.ntmps49]
          repeat' first
            | ((first | refine aops_end (hK _ ?_) | refine aopsD_end (hK _ ?_) | refine aopsF_end (hK _ ?_)); clear hK K)
            | ((first | refine aops_go ?_ | refine aopsD_go ?_ | refine aopsF_go ?_); simp; (try (refine gen fun q hq => ?_; cases q <;> (try simp at hq) <;> (try (have hh : True := hq; clear hh hq)))))
            | (refine wpcall_pure rfl (k1) ?_; simp; (try (refine gen fun q hq => ?_; cases q <;> (try simp at hq) <;> (try (have hh : True := hq; clear hh hq)))))
            | (refine wpcall_pure rfl (k2) ?_; simp; (try (refine gen fun q hq => ?_; cases q <;> (try simp at hq) <;> (try (have hh : True := hq; clear hh hq)))))
            | (refine wpcall_pure rfl (k3) ?_; simp; (try (refine gen fun q hq => ?_; cases q <;> (try simp at hq) <;> (try (have hh : True := hq; clear hh hq)))))
            | (refine wpcall_pure rfl (k4) ?_; simp; (try (refine gen fun q hq => ?_; cases q <;> (try simp at hq) <;> (try (have hh : True := hq; clear hh hq)))))
            | (refine wpcall_pure rfl (k5) ?_; simp; (try (refine gen fun q hq => ?_; cases q <;> (try simp at hq) <;> (try (have hh : True := hq; clear hh hq)))))
            | (refine T.ret (Done.tup (Or.inr rfl) ?_) <;> simp [resAs, Tryz.results49] <;> omega)
            | refine T.rs (fun _ => false) fun K hK => ?_
            | refine T.rs1 (fun _ => false) fun K hK => ?_
            | (refine ⟨by omega, ?_⟩)
            | refine T.cond rfl (fun hcnd => ?_) (fun hcnd => absurd hcnd (by decide))
            | refine T.cond rfl (fun hcnd => absurd hcnd (by decide)) (fun hcnd => ?_)
            | refine T.seq ?_
            | refine T.block ?_
            | refine T.skip ?_
            | refine T.exit ?_
      · rw [if_neg h1]
        refine ACalls.of_body Tryz.func49 (by kernel_rfl) rfl (by kernel_rfl) (by simp [Tryz.ntmps49]) (by simp) ?_
        rw [Tryz.ntmps49]
        repeat' first
          | ((first | refine aops_end (hK _ ?_) | refine aopsD_end (hK _ ?_) | refine aopsF_end (hK _ ?_)); clear hK K)
          | ((first | refine aops_go ?_ | refine aopsD_go ?_ | refine aopsF_go ?_); simp [h1]; (try (refine gen fun q hq => ?_; cases q <;> (try simp [h1] at hq) <;> (try (have hh : True := hq; clear hh hq)))))
          | (refine wpcall_pure rfl (k1) ?_; simp [h1]; (try (refine gen fun q hq => ?_; cases q <;> (try simp [h1] at hq) <;> (try (have hh : True := hq; clear hh hq)))))
          | (refine wpcall_pure rfl (k2) ?_; simp [h1]; (try (refine gen fun q hq => ?_; cases q <;> (try simp [h1] at hq) <;> (try (have hh : True := hq; clear hh hq)))))
          | (refine wpcall_pure rfl (k3) ?_; simp [h1]; (try (refine gen fun q hq => ?_; cases q <;> (try simp [h1] at hq) <;> (try (have hh : True := hq; clear hh hq)))))
          | (refine T.ret (Done.tup (Or.inr rfl) ?_) <;> simp [resAs, Tryz.results49] <;> omega)
          | refine T.rs (fun _ => false) fun K hK => ?_
          | refine T.rs1 (fun _ => false) fun K hK => ?_
          | (refine ⟨by omega, ?_⟩)
          | refine T.cond rfl (fun hcnd => ?_) (fun hcnd => absurd hcnd (by decide))
          | refine T.cond rfl (fun hcnd => absurd hcnd (by decide)) (fun hcnd => ?_)
          | refine T.seq ?_
          | refine T.block ?_
          | refine T.skip ?_
          | refine T.exit ?_

abbrev runR (p : MTm × Int × Int × Int) : List AV := [aTm p.1, .i p.2.1, .i p.2.2.1, .i p.2.2.2]

theorem bareRun_ok (e : MTm) (n : Nat) (hn : nTm e ≤ 1073741824) (hf : n ≤ 1000) : ACalls Tryz.prog 106 [aTm e, .i n] [] (.tup (runR (runB n e))) [] [] := by
  obtain ⟨R, hR⟩ : ∃ R, runB n e = R := ⟨_, rfl⟩
  rw [hR]
  obtain ⟨r1, r2, r3, r4⟩ := R
  refine ACalls.of_body Tryz.func106 (by kernel_rfl) rfl (by kernel_rfl) (by simp [Tryz.ntmps106]) (by simp) ?_
  rw [Tryz.ntmps106]
  repeat' first
    | ((first | refine aops_end (hK _ ?_) | refine aopsD_end (hK _ ?_) | refine aopsF_end (hK _ ?_)); clear hK K)
    | ((first | refine aops_go ?_ | refine aopsD_go ?_ | refine aopsF_go ?_); simp; (try (refine gen fun q hq => ?_; cases q <;> (try simp at hq) <;> (try (have hh : True := hq; clear hh hq)))))
    | refine T.rs (fun _ => false) fun K hK => ?_
    | refine T.rs1 (fun _ => false) fun K hK => ?_
    | (refine ⟨by omega, ?_⟩)
    | refine T.cond rfl (fun hcnd => ?_) (fun hcnd => absurd hcnd (by decide))
    | refine T.cond rfl (fun hcnd => absurd hcnd (by decide)) (fun hcnd => ?_)
    | refine T.seq ?_
    | refine T.block ?_
    | refine T.skip ?_
    | refine T.exit ?_
  refine T.loopK (α := Nat × MTm × List (List CV)) [1, 2, 4] (fun x => [(5, .i 0), (6, .i 0), (7, .i 0), (8, .i x.1)]) (fun x => [(0, (aTm x.2.1).cells)]) (fun x => x.2.2) (fun x A => A) (fun x => n + 1 - x.1) (fun x => x.1 ≤ n ∧ nTm x.2.1 ≤ 1073741824 ∧ (runB (n - x.1) x.2.1).1 = r1 ∧ (runB (n - x.1) x.2.1).2.1 = r2 ∧ (runB (n - x.1) x.2.1).2.2.1 = r3 ∧ (runB (n - x.1) x.2.1).2.2.2 + x.1 = r4) (by simp; rfl) (fun x hx => ?_) (0, e, []) (by simp [hR, hn]) (by simp) (by simp) (by simp)
  obtain ⟨s, f, G⟩ := x
  obtain ⟨h1, h2, h3, h4, h5, h6⟩ := hx
  dsimp only at h1 h2 h3 h4 h5 h6 ⊢
  simp only [ups, List.set_cons_zero, List.set_cons_succ, List.cons_append, List.nil_append, List.append_nil]
  have k1 := StepBare_ok f h2
  have hsz := stepBare_small f
  obtain ⟨m, hm⟩ : ∃ m, n - s = m := ⟨_, rfl⟩
  rw [hm] at h3 h4 h5 h6
  have hlast : m = 0 ∨ (stepBareM f).2.1 ≠ 1 → (stepBareM f).1 = r1 ∧ (stepBareM f).2.1 = r2 ∧ (stepBareM f).2.2 = r3 ∧ (s : Int) = r4 := by
    intro h
    cases m with
    | zero => simp only [runB] at h3 h4 h5 h6; exact ⟨h3, h4, h5, by omega⟩
    | succ m =>
      rcases h with h | h
      · omega
      · simp only [runB, if_neg h] at h3 h4 h5 h6; exact ⟨h3, h4, h5, by omega⟩
  have hnext : ∀ k, m = k + 1 → (stepBareM f).2.1 = 1 → (runB k (stepBareM f).1).1 = r1 ∧ (runB k (stepBareM f).1).2.1 = r2 ∧ (runB k (stepBareM f).1).2.2.1 = r3 ∧ (runB k (stepBareM f).1).2.2.2 + (s + 1 : Nat) = r4 := by
    intro k hk h
    subst hk
    simp only [runB, if_pos h] at h3 h4 h5 h6
    exact ⟨h3, h4, h5, by push_cast; omega⟩
  clear h3 h4 h5 h6 hR
  generalize stepBareM f = p at *
  obtain ⟨x, cd, lb⟩ := p
  dsimp only at hsz hlast hnext
  by_cases hc : cd = 1
  · subst hc
    cases m with
    | zero =>
      obtain ⟨rfl, rfl, rfl, rfl⟩ := hlast (.inl rfl)
      have hs : n = s := by omega
      subst hs
      repeat' first
        | ((first | refine aops_end (hK _ ?_) | refine aopsD_end (hK _ ?_) | refine aopsF_end (hK _ ?_)); clear hK K)
        | ((first | refine aops_go ?_ | refine aopsD_go ?_ | refine aopsF_go ?_); simp; (try simp (disch := omega) only [wrap64]); (try (refine gen fun q hq => ?_; cases q <;> (try simp at hq) <;> (try (have hh : True := hq; clear hh hq)))))
        | (refine wpcall_pure rfl (k1) ?_; simp; (try simp (disch := omega) only [wrap64]); (try (refine gen fun q hq => ?_; cases q <;> (try simp at hq) <;> (try (have hh : True := hq; clear hh hq)))))
        | (refine T.ret (Done.tup (Or.inr rfl) ?_) <;> simp [resAs, Tryz.results106] <;> omega)
        | refine T.rs (fun _ => false) fun K hK => ?_
        | refine T.rs1 (fun _ => false) fun K hK => ?_
        | (refine ⟨by omega, ?_⟩)
        | refine T.cond rfl (fun hcnd => ?_) (fun hcnd => absurd hcnd (by decide))
        | refine T.cond rfl (fun hcnd => absurd hcnd (by decide)) (fun hcnd => ?_)
        | refine T.seq ?_
        | refine T.block ?_
        | refine T.skip ?_
        | refine T.exit ?_
    | succ m =>
      obtain ⟨g1, g2, g3, g4⟩ := hnext m rfl rfl
      have hs : ¬ (s : Int) = n := by omega
      have hs2 : n - (s + 1) = m := by omega
      repeat' first
        | ((first | refine aops_end (hK _ ?_) | refine aopsD_end (hK _ ?_) | refine aopsF_end (hK _ ?_)); clear hK K)
        | ((first | refine aops_go ?_ | refine aopsD_go ?_ | refine aopsF_go ?_); simp [hs]; (try simp (disch := omega) only [wrap64]); (try (refine gen fun q hq => ?_; cases q <;> (try simp [hs] at hq) <;> (try (have hh : True := hq; clear hh hq)))))
        | (refine wpcall_pure rfl (k1) ?_; simp [hs]; (try simp (disch := omega) only [wrap64]); (try (refine gen fun q hq => ?_; cases q <;> (try simp [hs] at hq) <;> (try (have hh : True := hq; clear hh hq)))))
        | (refine ⟨(s + 1, x, _), by dsimp only; omega, ⟨by dsimp only; omega, by dsimp only; omega, by dsimp only; rw [hs2]; exact g1, by dsimp only; rw [hs2]; exact g2, by dsimp only; rw [hs2]; exact g3, by dsimp only; rw [hs2]; exact g4⟩, rfl, ?_, ?_⟩ <;> simp (disch := omega) [wrap64])
        | refine T.rs (fun _ => false) fun K hK => ?_
        | refine T.rs1 (fun _ => false) fun K hK => ?_
        | (refine ⟨by omega, ?_⟩)
        | refine T.cond rfl (fun hcnd => ?_) (fun hcnd => absurd hcnd (by decide))
        | refine T.cond rfl (fun hcnd => absurd hcnd (by decide)) (fun hcnd => ?_)
        | refine T.seq ?_
        | refine T.block ?_
        | refine T.skip ?_
        | refine T.exit ?_
  · obtain ⟨rfl, rfl, rfl, rfl⟩ := hlast (.inr hc)
    repeat' first
      | ((first | refine aops_end (hK _ ?_) | refine aopsD_end (hK _ ?_) | refine aopsF_end (hK _ ?_)); clear hK K)
      | ((first | refine aops_go ?_ | refine aopsD_go ?_ | refine aopsF_go ?_); simp [hc]; (try simp (disch := omega) only [wrap64]); (try (refine gen fun q hq => ?_; cases q <;> (try simp [hc] at hq) <;> (try (have hh : True := hq; clear hh hq)))))
      | (refine wpcall_pure rfl (k1) ?_; simp [hc]; (try simp (disch := omega) only [wrap64]); (try (refine gen fun q hq => ?_; cases q <;> (try simp [hc] at hq) <;> (try (have hh : True := hq; clear hh hq)))))
      | (refine T.ret (Done.tup (Or.inr rfl) ?_) <;> simp [resAs, Tryz.results106] <;> omega)
      | refine T.rs (fun _ => false) fun K hK => ?_
      | refine T.rs1 (fun _ => false) fun K hK => ?_
      | (refine ⟨by omega, ?_⟩)
      | refine T.cond rfl (fun hcnd => ?_) (fun hcnd => absurd hcnd (by decide))
      | refine T.cond rfl (fun hcnd => absurd hcnd (by decide)) (fun hcnd => ?_)
      | refine T.seq ?_
      | refine T.block ?_
      | refine T.skip ?_
      | refine T.exit ?_

theorem EvalBare_ok (e : MTm) (n : Int) (hn : nTm e ≤ 1073741824) : ACalls Tryz.prog 47 [aTm e, .i n] [] (.tup (stepR (evalBareM e n))) [] [] := by
  have k1 := isFuel_ok n
  rw [evalBareM]
  cases hf : fuelM n with
  | false =>
    rw [hf] at k1
    simp only [Bool.false_eq_true, if_false]
    refine ACalls.of_body Tryz.func47 (by kernel_rfl) rfl (by kernel_rfl) (by simp [Tryz.ntmps47]) (by simp) ?_
    rw [Tryz.ntmps47]
    repeat' first
      | ((first | refine aops_end (hK _ ?_) | refine aopsD_end (hK _ ?_) | refine aopsF_end (hK _ ?_)); clear hK K)
      | ((first | refine aops_go ?_ | refine aopsD_go ?_ | refine aopsF_go ?_); simp; (try (refine gen fun q hq => ?_; cases q <;> (try simp at hq) <;> (try (have hh : True := hq; clear hh hq)))))
      | (refine wpcall_pure rfl (k1) ?_; simp; (try (refine gen fun q hq => ?_; cases q <;> (try simp at hq) <;> (try (have hh : True := hq; clear hh hq)))))
      | (refine T.ret (Done.tup (Or.inr rfl) ?_) <;> simp [resAs, Tryz.results47] <;> omega)
      | refine T.rs (fun _ => false) fun K hK => ?_
      | refine T.rs1 (fun _ => false) fun K hK => ?_
      | (refine ⟨by omega, ?_⟩)
      | refine T.cond rfl (fun hcnd => ?_) (fun hcnd => absurd hcnd (by decide))
      | refine T.cond rfl (fun hcnd => absurd hcnd (by decide)) (fun hcnd => ?_)
      | refine T.seq ?_
      | refine T.block ?_
      | refine T.skip ?_
      | refine T.exit ?_
  | true =>
    rw [hf] at k1
    simp only [fuelM, Bool.and_eq_true, decide_eq_true_eq] at hf
    have k2 := bareRun_ok e n.toNat hn (by omega)
    rw [show ((n.toNat : Nat) : Int) = n by omega] at k2
    simp only [if_true]
    generalize runB n.toNat e = p at *
    obtain ⟨x, cd, lb, st⟩ := p
    dsimp only
    by_cases hc : cd = 1
    · subst hc
      simp only [if_true]
      refine ACalls.of_body Tryz.func47 (by kernel_rfl) rfl (by kernel_rfl) (by simp [Tryz.ntmps47]) (by simp) ?_
      rw [Tryz.ntmps47]
      repeat' first
        | ((first | refine aops_end (hK _ ?_) | refine aopsD_end (hK _ ?_) | refine aopsF_end (hK _ ?_)); clear hK K)
        | ((first | refine aops_go ?_ | refine aopsD_go ?_ | refine aopsF_go ?_); simp; (try (refine gen fun q hq => ?_; cases q <;> (try simp at hq) <;> (try (have hh : True := hq; clear hh hq)))))
        | (refine wpcall_pure rfl (k1) ?_; simp; (try (refine gen fun q hq => ?_; cases q <;> (try simp at hq) <;> (try (have hh : True := hq; clear hh hq)))))
        | (refine wpcall_pure rfl (k2) ?_; simp; (try (refine gen fun q hq => ?_; cases q <;> (try simp at hq) <;> (try (have hh : True := hq; clear hh hq)))))
        | (refine T.ret (Done.tup (Or.inr rfl) ?_) <;> simp [resAs, Tryz.results47] <;> omega)
        | refine T.rs (fun _ => false) fun K hK => ?_
        | refine T.rs1 (fun _ => false) fun K hK => ?_
        | (refine ⟨by omega, ?_⟩)
        | refine T.cond rfl (fun hcnd => ?_) (fun hcnd => absurd hcnd (by decide))
        | refine T.cond rfl (fun hcnd => absurd hcnd (by decide)) (fun hcnd => ?_)
        | refine T.seq ?_
        | refine T.block ?_
        | refine T.skip ?_
        | refine T.exit ?_
    · rw [if_neg hc]
      refine ACalls.of_body Tryz.func47 (by kernel_rfl) rfl (by kernel_rfl) (by simp [Tryz.ntmps47]) (by simp) ?_
      rw [Tryz.ntmps47]
      repeat' first
        | ((first | refine aops_end (hK _ ?_) | refine aopsD_end (hK _ ?_) | refine aopsF_end (hK _ ?_)); clear hK K)
        | ((first | refine aops_go ?_ | refine aopsD_go ?_ | refine aopsF_go ?_); simp [hc]; (try (refine gen fun q hq => ?_; cases q <;> (try simp [hc] at hq) <;> (try (have hh : True := hq; clear hh hq)))))
        | (refine wpcall_pure rfl (k1) ?_; simp [hc]; (try (refine gen fun q hq => ?_; cases q <;> (try simp [hc] at hq) <;> (try (have hh : True := hq; clear hh hq)))))
        | (refine wpcall_pure rfl (k2) ?_; simp [hc]; (try (refine gen fun q hq => ?_; cases q <;> (try simp [hc] at hq) <;> (try (have hh : True := hq; clear hh hq)))))
        | (refine T.ret (Done.tup (Or.inr rfl) ?_) <;> simp [resAs, Tryz.results47] <;> omega)
        | refine T.rs (fun _ => false) fun K hK => ?_
        | refine T.rs1 (fun _ => false) fun K hK => ?_
        | (refine ⟨by omega, ?_⟩)
        | refine T.cond rfl (fun hcnd => ?_) (fun hcnd => absurd hcnd (by decide))
        | refine T.cond rfl (fun hcnd => absurd hcnd (by decide)) (fun hcnd => ?_)
        | refine T.seq ?_
        | refine T.block ?_
        | refine T.skip ?_
        | refine T.exit ?_

theorem BareSteps_ok (e : MTm) (n : Int) (hn : nTm e ≤ 1073741824) : ACalls Tryz.prog 43 [aTm e, .i n] [] (.i (bareStepsM e n)) [] [] := by
  have k1 := isFuel_ok n
  rw [bareStepsM]
  cases hf : fuelM n with
  | false =>
    rw [hf] at k1
    simp only [Bool.false_eq_true, if_false]
    refine ACalls.of_body Tryz.func43 (by kernel_rfl) rfl (by kernel_rfl) (by simp [Tryz.ntmps43]) (by simp) ?_
    rw [Tryz.ntmps43]
    repeat' first
      | ((first | refine aops_end (hK _ ?_) | refine aopsD_end (hK _ ?_) | refine aopsF_end (hK _ ?_)); clear hK K)
      | ((first | refine aops_go ?_ | refine aopsD_go ?_ | refine aopsF_go ?_); simp; (try (refine gen fun q hq => ?_; cases q <;> (try simp at hq) <;> (try (have hh : True := hq; clear hh hq)))))
      | (refine wpcall_pure rfl (k1) ?_; simp; (try (refine gen fun q hq => ?_; cases q <;> (try simp at hq) <;> (try (have hh : True := hq; clear hh hq)))))
      | (refine T.ret (Done.data (Or.inr rfl) ?_ ?_) <;> simp [Tryz.results43] <;> omega)
      | refine T.rs (fun _ => false) fun K hK => ?_
      | refine T.rs1 (fun _ => false) fun K hK => ?_
      | (refine ⟨by omega, ?_⟩)
      | refine T.cond rfl (fun hcnd => ?_) (fun hcnd => absurd hcnd (by decide))
      | refine T.cond rfl (fun hcnd => absurd hcnd (by decide)) (fun hcnd => ?_)
      | refine T.seq ?_
      | refine T.block ?_
      | refine T.skip ?_
      | refine T.exit ?_
  | true =>
    rw [hf] at k1
    simp only [fuelM, Bool.and_eq_true, decide_eq_true_eq] at hf
    have k2 := bareRun_ok e n.toNat hn (by omega)
    rw [show ((n.toNat : Nat) : Int) = n by omega] at k2
    simp only [if_true]
    generalize runB n.toNat e = p at *
    obtain ⟨x, cd, lb, st⟩ := p
    dsimp only
    refine ACalls.of_body Tryz.func43 (by kernel_rfl) rfl (by kernel_rfl) (by simp [Tryz.ntmps43]) (by simp) ?_
    rw [Tryz.ntmps43]
    repeat' first
      | ((first | refine aops_end (hK _ ?_) | refine aopsD_end (hK _ ?_) | refine aopsF_end (hK _ ?_)); clear hK K)
      | ((first | refine aops_go ?_ | refine aopsD_go ?_ | refine aopsF_go ?_); simp; (try (refine gen fun q hq => ?_; cases q <;> (try simp at hq) <;> (try (have hh : True := hq; clear hh hq)))))
      | (refine wpcall_pure rfl (k1) ?_; simp; (try (refine gen fun q hq => ?_; cases q <;> (try simp at hq) <;> (try (have hh : True := hq; clear hh hq)))))
      | (refine wpcall_pure rfl (k2) ?_; simp; (try (refine gen fun q hq => ?_; cases q <;> (try simp at hq) <;> (try (have hh : True := hq; clear hh hq)))))
      | (refine T.ret (Done.data (Or.inr rfl) ?_ ?_) <;> simp [Tryz.results43] <;> omega)
      | refine T.rs (fun _ => false) fun K hK => ?_
      | refine T.rs1 (fun _ => false) fun K hK => ?_
      | (refine ⟨by omega, ?_⟩)
      | refine T.cond rfl (fun hcnd => ?_) (fun hcnd => absurd hcnd (by decide))
      | refine T.cond rfl (fun hcnd => absurd hcnd (by decide)) (fun hcnd => ?_)
      | refine T.seq ?_
      | refine T.block ?_
      | refine T.skip ?_
      | refine T.exit ?_

end Go.Proofs.YtfdknjjnifnobaaGreat

namespace Go.Proofs.YtfdknjjnifnobaaGreat
open Go Go.Av
attribute [local irreducible] T ACalls TX EX LX Draws Some_ ACallsX eTy eTm MTy.kind MTy.kids MTm.kind MTm.name MTm.num MTm.ty MTm.fr MTm.label MTm.kids
attribute [local simp] eTy_def eTm_def
set_option linter.unusedSimpArgs false
set_option linter.unusedVariables false
set_option maxHeartbeats 16000000
set_option maxRecDepth 8000
attribute [local simp] Option.bind

abbrev redR (e : MTm) : List AV := match ruleM e with
  | some x => [aTm x, .i 1, .i 0]
  | none => [aTm zeroE, .i 2, .i (wrongM e.kind)]

/-- The step, as_ the reference answers: nothing of a term that goes wrong. -/
def stepS (p : MTm × Int × Int) : MTm × Int × Int := if p.2.1 = 1 then (p.1, 1, 0) else (zeroE, p.2.1, p.2.2)

/-- A run, as_ the reference answers: nothing of a term that is not done. -/
def evR (p : MTm × Int × Int × Int) : MTm × Int × Int × Int := if p.2.1 = 1 then (zeroE, 5, 0, p.2.2.2) else p

end Go.Proofs.YtfdknjjnifnobaaGreat

namespace Go.Proofs.YtfdknjjnifnobaaGreat
open Go Go.Av
attribute [local irreducible] T ACalls TX EX LX Draws Some_ ACallsX eTy eTm MTy.kind MTy.kids MTm.kind MTm.name MTm.num MTm.ty MTm.fr MTm.label MTm.kids
attribute [local simp] eTy_def eTm_def
set_option linter.unusedSimpArgs false
set_option linter.unusedVariables false
set_option maxHeartbeats 16000000
set_option maxRecDepth 8000

end Go.Proofs.YtfdknjjnifnobaaGreat

namespace Go.Proofs.YtfdknjjnifnobaaGreat
open Go Go.Av
attribute [local irreducible] T ACalls TX EX LX Draws Some_ ACallsX eTy eTm MTy.kind MTy.kids MTm.kind MTm.name MTm.num MTm.ty MTm.fr MTm.label MTm.kids
attribute [local simp] eTy_def eTm_def
set_option linter.unusedSimpArgs false
set_option linter.unusedVariables false
set_option maxHeartbeats 16000000
set_option maxRecDepth 8000

def castC (e : MTm) (f t : MTy) (l : Int) : MTm := if sameTy f t = true then e else tCast e f t l
theorem castC_size (e : MTm) {f t : MTy} (l : Int) (hf : shapeTy 4 f = true) (ht : shapeTy 4 t = true) : nTm (castC e f t l) ≤ nTm e + 300 := by
  have := shape4 hf
  have := shape4 ht
  rw [castC]
  split
  · omega
  · simp [nTm_mk, nTmS]; omega

theorem l4Cast_any (e : MTm) (f t : MTy) (l : Int) (h : -1000 ≤ l ∧ l ≤ 1000) (hf : shapeTy 4 f = true) (ht : shapeTy 4 t = true) :
    ACalls Tryz.prog 161 [aTm e, aTy f, aTy t, .i l] [] (.tup [aTm (castC e f t l), .i (if sameTy f t = true then l else l + 1)]) [] [] := by
  have qf := shape4 hf
  have qt := shape4 ht
  have h1 := TypeSameS_ok f t (by omega)
  have h2 := l1Copy_ok f (by omega)
  have h3 := l1Copy_ok t (by omega)
  simp only [castC]
  by_cases hq : sameTy f t = true
  · rw [if_pos hq, if_pos hq]
    rw [hq] at h1
    refine ACalls.of_body Tryz.func161 (by kernel_rfl) rfl (by kernel_rfl) (by simp [Tryz.ntmps161]) (by simp) ?_
    rw [Tryz.ntmps161]
    repeat' first
      | ((first | refine aops_end (hK _ ?_) | refine aopsD_end (hK _ ?_) | refine aopsF_end (hK _ ?_)); clear hK K)
      | ((first | refine aops_go ?_ | refine aopsD_go ?_ | refine aopsF_go ?_); simp; (try (refine gen fun q hq => ?_; cases q <;> (try simp at hq) <;> (try (have hh : True := hq; clear hh hq)))))
      | (refine wpcall_pure rfl (h1) ?_; simp; (try (refine gen fun q hq => ?_; cases q <;> (try simp at hq) <;> (try (have hh : True := hq; clear hh hq)))))
      | (refine T.ret (Done.tup (Or.inr rfl) ?_) <;> simp [resAs, Tryz.results161] <;> omega)
      | refine T.rd (id := 3) mixed (fun _ => false) [10] (by kernel_rfl) fun K hK => ?_
      | refine T.rd1 (id := 3) mixed (fun _ => false) [10] (by kernel_rfl) fun K hK => ?_
      | refine T.rs (fun _ => false) fun K hK => ?_
      | refine T.rs1 (fun _ => false) fun K hK => ?_
      | (refine ⟨by omega, ?_⟩)
      | refine T.cond rfl (fun hcnd => ?_) (fun hcnd => absurd hcnd (by decide))
      | refine T.cond rfl (fun hcnd => absurd hcnd (by decide)) (fun hcnd => ?_)
      | refine T.seq ?_
      | refine T.block ?_
      | refine T.skip ?_
      | refine T.exit ?_
  · rw [if_neg hq, if_neg hq]
    rw [show sameTy f t = false by simpa using hq] at h1
    refine ACalls.of_body Tryz.func161 (by kernel_rfl) rfl (by kernel_rfl) (by simp [Tryz.ntmps161]) (by simp) ?_
    rw [Tryz.ntmps161]
    repeat' first
      | ((first | refine aops_end (hK _ ?_) | refine aopsD_end (hK _ ?_) | refine aopsF_end (hK _ ?_)); clear hK K)
      | ((first | refine aops_go ?_ | refine aopsD_go ?_ | refine aopsF_go ?_); simp; (try simp (disch := omega) only [wrap64]); (try (refine gen fun q hq => ?_; cases q <;> (try simp at hq) <;> (try (have hh : True := hq; clear hh hq)))))
      | (refine wpcall_pure rfl (h1) ?_; simp; (try simp (disch := omega) only [wrap64]); (try (refine gen fun q hq => ?_; cases q <;> (try simp at hq) <;> (try (have hh : True := hq; clear hh hq)))))
      | (refine wpcall_pure rfl (h2) ?_; simp; (try simp (disch := omega) only [wrap64]); (try (refine gen fun q hq => ?_; cases q <;> (try simp at hq) <;> (try (have hh : True := hq; clear hh hq)))))
      | (refine wpcall_pure rfl (h3) ?_; simp; (try simp (disch := omega) only [wrap64]); (try (refine gen fun q hq => ?_; cases q <;> (try simp at hq) <;> (try (have hh : True := hq; clear hh hq)))))
      | (refine T.ret (Done.tup (Or.inr rfl) ?_) <;> simp [resAs, Tryz.results161, eTm_def] <;> omega)
      | refine T.rd (id := 3) mixed (fun _ => false) [10] (by kernel_rfl) fun K hK => ?_
      | refine T.rd1 (id := 3) mixed (fun _ => false) [10] (by kernel_rfl) fun K hK => ?_
      | refine T.rs (fun _ => false) fun K hK => ?_
      | refine T.rs1 (fun _ => false) fun K hK => ?_
      | (refine ⟨by omega, ?_⟩)
      | refine T.cond rfl (fun hcnd => ?_) (fun hcnd => absurd hcnd (by decide))
      | refine T.cond rfl (fun hcnd => absurd hcnd (by decide)) (fun hcnd => ?_)
      | refine T.seq ?_
      | refine T.block ?_
      | refine T.skip ?_
      | refine T.exit ?_

theorem l4Mutate_ok (b : List Int) (hb : okB b) (e : MTm) (hn : nTm e ≤ 900000000) (p : Nat) (hp : p + 1000 ≤ 1099511627776) : Draws Tryz.prog 100 [aTm e] b p 1000 (RV aTm noA fun u => nTm u ≤ nTm e + 1000) := by
  have hde := nTm_def e
  have hdt := nTy_def e.ty
  have hdf := nTy_def e.fr
  refine Draws.of_body Tryz.func100 (by kernel_rfl) rfl (by kernel_rfl) (by simp [Tryz.ntmps100]) ?_
  rw [Tryz.ntmps100]
  repeat' first
    | ((first | refine aops_end (hK _ ?_) | refine aopsD_end (hK _ ?_) | refine aopsF_end (hK _ ?_)); clear hK K)
    | ((first | refine aops_go ?_ | refine aopsD_go ?_ | refine aopsF_go ?_); simp; (try simp (disch := omega) only [wrap64]); (try (refine gen fun q hq => ?_; cases q <;> (try simp at hq) <;> (try (have hh : True := hq; clear hh hq)))))
    | (refine wpcall_dr 0 rfl rfl (pick_ok b hb _ (by omega) 40 (by omega)) (fun x1 p1 hx1 hp1 hp1' => ?_); simp; (try simp (disch := omega) only [wrap64]); (try (refine gen fun q hq => ?_; cases q <;> (try simp at hq) <;> (try (have hh : True := hq; clear hh hq)))))
    | (refine wpcall_dr 0 rfl rfl (num_ok b hb _ (by omega) [0, 100, -9223372036854775808, 3] (by simp) (by simp)) (fun x1 p1 hx1 hp1 hp1' => ?_); simp; (try simp (disch := omega) only [wrap64]); (try (refine gen fun q hq => ?_; cases q <;> (try simp at hq) <;> (try (have hh : True := hq; clear hh hq)))))
    | (refine wpcall_dr 0 rfl rfl (l2Mutate_ok b hb _ (by omega) _ (by omega)) (fun e2 p1 he2 hp1 hp1' => ?_); rw [nTm_def e2, nTy_def e2.ty, nTy_def e2.fr] at he2; simp)
    | (refine wpcall_dr 0 rfl rfl (l1Type_ok b hb _ (by omega)) (fun t p1 ht hp1 hp1' => ?_); replace ht := shape4 ht; simp)
    | (refine wpcall_dr 0 rfl rfl (l1Mutate_ok b hb _ (by omega) _ (by omega)) (fun t2 p4 ht2 hp4 hp4' => ?_); rw [nTy_def t2] at ht2; simp)
    | refine TX.rs (fun _ => false) fun K hK => ?_
    | refine TX.rs1 (fun _ => false) fun K hK => ?_
    | (refine ⟨by omega, ?_⟩)
    | refine TX.cond rfl (fun hcnd => ?_) (fun hcnd => absurd hcnd (by decide))
    | refine TX.cond rfl (fun hcnd => absurd hcnd (by decide)) (fun hcnd => ?_)
    | refine TX.seq ?_
    | refine TX.block ?_
    | refine TX.skip ?_
    | refine TX.exit ?_
    | refine EX.thenN ?_
    | refine EX.thenR ?_
    | refine EX.thenE ?_
    | refine EX.blockN ?_
    | refine EX.blockR ?_
    | refine EX.blockE ?_
    | refine EX.blockO (by simp) ?_
    | refine EX.outR ?_
    | refine EX.outE ?_
  all_goals (
    refine TX.ret ?_
    repeat' first | refine EX.outR ?_ | refine EX.thenR ?_ | refine EX.blockR ?_ | refine EX.unrR ?_
    apply EX.drA (ks := [])
    case he => exact Or.inr rfl
    case hys => simp [resAs, getAs, Tryz.results100] <;> rfl
    case hv => first | (dsimp only [Av.one]; exact rfl) | dsimp only [Av.one]
    case hx => repeat' first | exact IsT2.var _ | exact IsV.tmv _ | exact IsTm.var _ | exact IsTy.row _ | exact IsTm.row _ | exact IsTys.nil | exact IsTms.nil | exact IsBds.nil | exact IsTys.map _ | exact IsTms.map _ | exact IsBds.map _ | exact IsV.int _ | exact IsV.str _ | exact IsV.bool _ | apply IsV.p2 | apply IsV.p3 | apply IsV.tm | apply IsV.ty | apply IsTm.node | apply IsTy.of | apply IsTys.cons | apply IsTms.cons | apply IsBds.cons | apply IsV.tys | apply IsV.tms | apply IsV.bds | apply IsT2.node | apply IsTys.app | apply IsTms.app | apply IsBds.app
    case hA => exact rfl
    case hks => simp
    case hV => exact rfl
    case h1 => omega
    case h2 => omega
    case hg => simp [nTm_mk, nTy_mk, nTm_def, nTy_def] <;> omega)

theorem l4Random_ok (b : List Int) (hb : okB b) (p : Nat) (hp : p + 60010000 ≤ 1099511627776) : Draws Tryz.prog 99 [] b p 60010000 (RV aTm noA fun e => nTm e ≤ 200000) := by
  refine Draws.of_body Tryz.func99 (by kernel_rfl) rfl (by kernel_rfl) (by simp [Tryz.ntmps99]) ?_
  rw [Tryz.ntmps99]
  repeat' first
    | ((first | refine aops_end (hK _ ?_) | refine aopsD_end (hK _ ?_) | refine aopsF_end (hK _ ?_)); clear hK K)
    | ((first | refine aops_go ?_ | refine aopsD_go ?_ | refine aopsF_go ?_); simp; (try simp (disch := omega) only [wrap64]); (try (refine gen fun q hq => ?_; cases q <;> (try simp at hq) <;> (try (have hh : True := hq; clear hh hq)))))
    | (refine wpcall_pure rfl (l2Num_ok 6) ?_; simp; (try simp (disch := omega) only [wrap64]); (try (refine gen fun q hq => ?_; cases q <;> (try simp at hq) <;> (try (have hh : True := hq; clear hh hq)))))
    | (refine wpcall_dr 0 rfl rfl (pick_ok b hb _ (by omega) 3 (by omega)) (fun x1 p1 hx1 hp1 hp1' => ?_); simp; (try simp (disch := omega) only [wrap64]); (try (refine gen fun q hq => ?_; cases q <;> (try simp at hq) <;> (try (have hh : True := hq; clear hh hq)))))
    | (refine wpcall_dr 0 rfl rfl (l3Typed_ok b hb _ (by omega)) (fun e p1 he hp1 hp1' => ?_); simp)
    | (refine wpcall_pure rfl (InsertCastsS_ok _ (by omega)) ?_; rcases hr : insertM e with _ | ⟨x, t⟩ <;> simp [elRes])
    | refine TX.rs (fun _ => false) fun K hK => ?_
    | refine TX.rs1 (fun _ => false) fun K hK => ?_
    | (refine ⟨by omega, ?_⟩)
    | refine TX.cond rfl (fun hcnd => ?_) (fun hcnd => absurd hcnd (by decide))
    | refine TX.cond rfl (fun hcnd => absurd hcnd (by decide)) (fun hcnd => ?_)
    | refine TX.seq ?_
    | refine TX.block ?_
    | refine TX.skip ?_
    | refine TX.exit ?_
    | refine EX.thenN ?_
    | refine EX.thenR ?_
    | refine EX.thenE ?_
    | refine EX.blockN ?_
    | refine EX.blockR ?_
    | refine EX.blockE ?_
    | refine EX.blockO (by simp) ?_
    | refine EX.outR ?_
    | refine EX.outE ?_
  · all_goals (
      refine TX.ret ?_
      repeat' first | refine EX.outR ?_ | refine EX.thenR ?_ | refine EX.blockR ?_ | refine EX.unrR ?_
      apply EX.drA (ks := [])
      case he => exact Or.inr rfl
      case hys => simp [resAs, getAs, Tryz.results99] <;> rfl
      case hv => first | (dsimp only [Av.one]; exact rfl) | dsimp only [Av.one]
      case hx => repeat' first | exact IsT2.var _ | exact IsV.tmv _ | exact IsTm.var _ | exact IsTy.row _ | exact IsTm.row _ | exact IsTys.nil | exact IsTms.nil | exact IsBds.nil | exact IsTys.map _ | exact IsTms.map _ | exact IsBds.map _ | exact IsV.int _ | exact IsV.str _ | exact IsV.bool _ | apply IsV.p2 | apply IsV.p3 | apply IsV.tm | apply IsV.ty | apply IsTm.node | apply IsTy.of | apply IsTys.cons | apply IsTms.cons | apply IsBds.cons | apply IsV.tys | apply IsV.tms | apply IsV.bds | apply IsT2.node | apply IsTys.app | apply IsTms.app | apply IsBds.app
      case hA => exact rfl
      case hks => simp
      case hV => exact rfl
      case h1 => omega
      case h2 => omega
      case hg => simp [nTm_mk, nTy_mk, nTyS, nTmS])
  obtain ⟨hv, hty, m, hm, hev, hvx, hst, h0m, hmn, hn30, hnx, hct, hsm⟩ := insert_some hr
  refine TX.loopK (α := Nat × Nat × MTm × MTy × List (List CV)) [0, 2, 3, 4] (fun x => [(6, .i x.1)]) (fun x => [(0, (rd b x.2.1).map CV.d), (2, (aTm x.2.2.1).cells), (3, (aTy x.2.2.2.1).cells)]) (fun x => x.2.2.2.2) (fun x A => A) (fun x => x.1) (fun x => x.1 ≤ 2 ∧ p ≤ x.2.1 ∧ x.2.1 + 1000 * x.1 ≤ p + 60005000 ∧ shapeTy 4 x.2.2.2.1 = true ∧ nTm x.2.2.1 + 1000 * x.1 ≤ 110000) (by simp; rfl) (fun x hx => ?_) (x1, p1, x, t, []) (by refine ⟨by omega, by dsimp only; omega, by dsimp only; omega, hst, by dsimp only; omega⟩) (by simp) (by simp) (by simp)
  clear hm hev hvx hct hty hr
  obtain ⟨j, q, e1, t1, G⟩ := x
  obtain ⟨h1, h2, h3, h4, h5⟩ := hx
  dsimp only at h1 h2 h3 h4 h5 ⊢
  simp only [ups, List.set_cons_zero, List.set_cons_succ, List.cons_append, List.nil_append, List.append_nil]
  cases j with
  | zero =>
    repeat' first
      | ((first | refine aops_end (hK _ ?_) | refine aopsD_end (hK _ ?_) | refine aopsF_end (hK _ ?_)); clear hK K)
      | ((first | refine aops_go ?_ | refine aopsD_go ?_ | refine aopsF_go ?_); simp; (try simp (disch := omega) only [wrap64]); (try (refine gen fun q hq => ?_; cases q <;> (try simp at hq) <;> (try (have hh : True := hq; clear hh hq)))))
      | refine TX.rs (fun _ => false) fun K hK => ?_
      | refine TX.rs1 (fun _ => false) fun K hK => ?_
      | (refine ⟨by omega, ?_⟩)
      | refine TX.cond rfl (fun hcnd => ?_) (fun hcnd => absurd hcnd (by decide))
      | refine TX.cond rfl (fun hcnd => absurd hcnd (by decide)) (fun hcnd => ?_)
      | refine TX.seq ?_
      | refine TX.block ?_
      | refine TX.skip ?_
      | refine TX.exit ?_
      | refine EX.thenN ?_
      | refine EX.thenR ?_
      | refine EX.thenE ?_
      | refine EX.blockN ?_
      | refine EX.blockR ?_
      | refine EX.blockE ?_
      | refine EX.blockO (by simp) ?_
      | refine EX.outR ?_
      | refine EX.outE ?_
    all_goals (
      refine TX.ret ?_
      repeat' first | refine EX.outR ?_ | refine EX.thenR ?_ | refine EX.blockR ?_ | refine EX.unrR ?_
      apply EX.drA (ks := [])
      case he => exact Or.inr rfl
      case hys => simp [resAs, getAs, Tryz.results99] <;> rfl
      case hv => first | (dsimp only [Av.one]; exact rfl) | dsimp only [Av.one]
      case hx => repeat' first | exact IsT2.var _ | exact IsV.tmv _ | exact IsTm.var _ | exact IsTy.row _ | exact IsTm.row _ | exact IsTys.nil | exact IsTms.nil | exact IsBds.nil | exact IsTys.map _ | exact IsTms.map _ | exact IsBds.map _ | exact IsV.int _ | exact IsV.str _ | exact IsV.bool _ | apply IsV.p2 | apply IsV.p3 | apply IsV.tm | apply IsV.ty | apply IsTm.node | apply IsTy.of | apply IsTys.cons | apply IsTms.cons | apply IsBds.cons | apply IsV.tys | apply IsV.tms | apply IsV.bds | apply IsT2.node | apply IsTys.app | apply IsTms.app | apply IsBds.app
      case hA => exact rfl
      case hks => simp
      case hV => exact rfl
      case h1 => omega
      case h2 => omega
      case hg => omega)
  | succ j =>
    have q1 : (0 : Int) < (j : Int) + 1 := by omega
    repeat' first
      | ((first | refine aops_end (hK _ ?_) | refine aopsD_end (hK _ ?_) | refine aopsF_end (hK _ ?_)); clear hK K)
      | ((first | refine aops_go ?_ | refine aopsD_go ?_ | refine aopsF_go ?_); simp [q1]; (try simp (disch := omega) only [wrap64]); (try (refine gen fun q hq => ?_; cases q <;> (try simp [q1] at hq) <;> (try (have hh : True := hq; clear hh hq)))))
      | (refine wpcall_pure rfl (l1Consistent_ok 4 _ _ (by omega) (by assumption) (by assumption)) ?_; simp [q1]; (try simp (disch := omega) only [wrap64]); (try (refine gen fun q hq => ?_; cases q <;> (try simp [q1] at hq) <;> (try (have hh : True := hq; clear hh hq)))))
      | (refine wpcall_pure rfl (l4Cast_any _ _ _ _ (by omega) (by assumption) (by assumption)) ?_; simp [q1]; (try simp (disch := omega) only [wrap64]); (try (refine gen fun q hq => ?_; cases q <;> (try simp [q1] at hq) <;> (try (have hh : True := hq; clear hh hq)))))
      | (refine wpcall_dr 0 rfl rfl (l1Blur_ok b hb 4 _ _ (by assumption) (by omega)) (fun x1 p1 hx1 hp1 hp1' => ?_); simp [q1]; (try simp (disch := omega) only [wrap64]); (try (refine gen fun q hq => ?_; cases q <;> (try simp [q1] at hq) <;> (try (have hh : True := hq; clear hh hq)))))
      | (refine wpcall_dr 0 rfl rfl (pick_ok b hb _ (by omega) 2 (by omega)) (fun x1 p1 hx1 hp1 hp1' => ?_); simp [q1]; (try simp (disch := omega) only [wrap64]); (try (refine gen fun q hq => ?_; cases q <;> (try simp [q1] at hq) <;> (try (have hh : True := hq; clear hh hq)))))
      | (refine wpcall_dr 0 rfl rfl (l1Type_ok b hb _ (by omega)) (fun x1 p1 hx1 hp1 hp1' => ?_); simp [q1]; (try simp (disch := omega) only [wrap64]); (try (refine gen fun q hq => ?_; cases q <;> (try simp [q1] at hq) <;> (try (have hh : True := hq; clear hh hq)))))
      | (refine wpcall_dr 0 rfl rfl (pick_ok b hb _ (by omega) 3 (by omega)) (fun x1 p1 hx1 hp1 hp1' => ?_); simp [q1]; (try simp (disch := omega) only [wrap64]); (try (refine gen fun q hq => ?_; cases q <;> (try simp [q1] at hq) <;> (try (have hh : True := hq; clear hh hq)))))
      | (focus (refine EX.next (j, p1, _, _, _) (by dsimp only; omega) ?_ ⟨rfl, by simp, ?_⟩; (refine ⟨by dsimp only; omega, by dsimp only; omega, by dsimp only; omega, by assumption, ?_⟩; dsimp only; first | omega | exact Nat.le_trans (Nat.add_le_add_right (castC_size _ _ (by assumption) (by assumption)) _) (by omega)); simp (disch := omega) [wrap64]; done))
      | refine TX.rs (fun _ => false) fun K hK => ?_
      | refine TX.rs1 (fun _ => false) fun K hK => ?_
      | (refine ⟨by omega, ?_⟩)
      | refine TX.cond rfl (fun hcnd => ?_) (fun hcnd => absurd hcnd (by decide))
      | refine TX.cond rfl (fun hcnd => absurd hcnd (by decide)) (fun hcnd => ?_)
      | refine TX.seq ?_
      | refine TX.block ?_
      | refine TX.skip ?_
      | refine TX.exit ?_
      | refine EX.thenN ?_
      | refine EX.thenR ?_
      | refine EX.thenE ?_
      | refine EX.blockN ?_
      | refine EX.blockR ?_
      | refine EX.blockE ?_
      | refine EX.blockO (by simp) ?_
      | refine EX.outR ?_
      | refine EX.outE ?_

end Go.Proofs.YtfdknjjnifnobaaGreat

namespace Go.Proofs.YtfdknjjnifnobaaGreat
open Go Go.Av
attribute [local irreducible] T ACalls TX EX LX Draws Some_ ACallsX eTy eTm MTy.kind MTy.kids MTm.kind MTm.name MTm.num MTm.ty MTm.fr MTm.label MTm.kids
attribute [local simp] eTy_def eTm_def
set_option linter.unusedSimpArgs false
set_option linter.unusedVariables false
set_option maxHeartbeats 16000000
set_option maxRecDepth 8000

theorem num_valid (k : Int) (h1 : 0 ≤ k) (h2 : k ≤ 999) : termValidM (.mk 2 [] k zeroT zeroT 0 []) = true := termValidM_iff.2 ⟨.num (by omega) h1 h2, by simp [nodesM, nodesS]⟩

theorem l2Closed_val (b : List Int) (hb : okB b) (p : Nat) (hp : p + 500000 ≤ 1099511627776) : Draws Tryz.prog 124 [] b p 500000 (RV aTm noA fun e => nTm e ≤ 500000 ∧ termValidM e = true) := by
  have hnum := l2Num_ok
  refine Draws.of_body Tryz.func124 (by kernel_rfl) rfl (by kernel_rfl) (by simp [Tryz.ntmps124]) ?_
  rw [Tryz.ntmps124]
  repeat' first
    | ((first | refine aops_end (hK _ ?_) | refine aopsD_end (hK _ ?_) | refine aopsF_end (hK _ ?_)); clear hK K)
    | ((first | refine aops_go ?_ | refine aopsD_go ?_ | refine aopsF_go ?_); simp; (try simp (disch := omega) only [wrap64]); (try (refine gen fun q hq => ?_; cases q <;> (try simp at hq) <;> (try (have hh : True := hq; clear hh hq)))))
    | (refine wpcall_pure rfl (hnum _) ?_; simp; (try simp (disch := omega) only [wrap64]); (try (refine gen fun q hq => ?_; cases q <;> (try simp at hq) <;> (try (have hh : True := hq; clear hh hq)))))
    | (refine wpcall_pure rfl (TermValidS_ok _ (by omega)) ?_; simp; (try simp (disch := omega) only [wrap64]); (try (refine gen fun q hq => ?_; cases q <;> (try simp at hq) <;> (try (have hh : True := hq; clear hh hq)))))
    | (refine wpcall_dr 0 rfl rfl (num_ok b hb _ (by omega) [4, 3, 5, 4, 2] (by simp) (by simp)) (fun x p1 hx hp1 hp1' => ?_); simp at hx; (have hx2 : x = 4 ∨ x = 3 ∨ x = 5 ∨ x = 2 := by omega); clear hx; rcases hx2 with rfl | rfl | rfl | rfl <;> (simp; (try simp (disch := omega) only [wrap64])))
    | (refine wpcall_dr 0 rfl rfl (l2Draw_ok b hb 5 [] _ (by omega) (by simp) (by omega)) (fun x1 p1 hx1 hp1 hp1' => ?_); simp; (try simp (disch := omega) only [wrap64]); (try (refine gen fun q hq => ?_; cases q <;> (try simp at hq) <;> (try (have hh : True := hq; clear hh hq)))))
    | (refine wpcall_dr 0 rfl rfl (l2Draw_ok b hb 4 [] _ (by omega) (by simp) (by omega)) (fun x1 p1 hx1 hp1 hp1' => ?_); simp; (try simp (disch := omega) only [wrap64]); (try (refine gen fun q hq => ?_; cases q <;> (try simp at hq) <;> (try (have hh : True := hq; clear hh hq)))))
    | (refine wpcall_dr 0 rfl rfl (l2Draw_ok b hb 3 [] _ (by omega) (by simp) (by omega)) (fun x1 p1 hx1 hp1 hp1' => ?_); simp; (try simp (disch := omega) only [wrap64]); (try (refine gen fun q hq => ?_; cases q <;> (try simp at hq) <;> (try (have hh : True := hq; clear hh hq)))))
    | (refine wpcall_dr 0 rfl rfl (l2Draw_ok b hb 2 [] _ (by omega) (by simp) (by omega)) (fun x1 p1 hx1 hp1 hp1' => ?_); simp; (try simp (disch := omega) only [wrap64]); (try (refine gen fun q hq => ?_; cases q <;> (try simp at hq) <;> (try (have hh : True := hq; clear hh hq)))))
    | refine TX.rs (fun _ => false) fun K hK => ?_
    | refine TX.rs1 (fun _ => false) fun K hK => ?_
    | (refine ⟨by omega, ?_⟩)
    | refine TX.cond rfl (fun hcnd => ?_) (fun hcnd => absurd hcnd (by decide))
    | refine TX.cond rfl (fun hcnd => absurd hcnd (by decide)) (fun hcnd => ?_)
    | refine TX.seq ?_
    | refine TX.block ?_
    | refine TX.skip ?_
    | refine TX.exit ?_
    | refine EX.thenN ?_
    | refine EX.thenR ?_
    | refine EX.thenE ?_
    | refine EX.blockN ?_
    | refine EX.blockR ?_
    | refine EX.blockE ?_
    | refine EX.blockO (by simp) ?_
    | refine EX.outR ?_
    | refine EX.outE ?_
  all_goals (
    refine TX.ret ?_
    repeat' first | refine EX.outR ?_ | refine EX.thenR ?_ | refine EX.blockR ?_ | refine EX.unrR ?_
    apply EX.drA (ks := [])
    case he => exact Or.inr rfl
    case hys => simp [resAs, getAs, Tryz.results124] <;> rfl
    case hv => first | (dsimp only [Av.one]; exact rfl) | dsimp only [Av.one]
    case hx => repeat' first | exact IsT2.var _ | exact IsV.tmv _ | exact IsTm.var _ | exact IsTy.row _ | exact IsTm.row _ | exact IsTys.nil | exact IsTms.nil | exact IsBds.nil | exact IsTys.map _ | exact IsTms.map _ | exact IsBds.map _ | exact IsV.int _ | exact IsV.str _ | exact IsV.bool _ | apply IsV.p2 | apply IsV.p3 | apply IsV.tm | apply IsV.ty | apply IsTm.node | apply IsTy.of | apply IsTys.cons | apply IsTms.cons | apply IsBds.cons | apply IsV.tys | apply IsV.tms | apply IsV.bds | apply IsT2.node | apply IsTys.app | apply IsTms.app | apply IsBds.app
    case hA => exact rfl
    case hks => simp
    case hV => exact rfl
    case h1 => omega
    case h2 => omega
    case hg => first | exact ⟨by omega, by assumption⟩ | exact ⟨by simp [nTm_mk, nTy_mk, nTyS, nTmS], num_valid _ (by omega) (by omega)⟩)

theorem l2Term_val (b : List Int) (hb : okB b) (p : Nat) (hp : p + 600000 ≤ 1099511627776) : Draws Tryz.prog 60 [] b p 600000 (RV aTm noA fun e => nTm e ≤ 500000 ∧ termValidM e = true) := by
  have hnum := l2Num_ok
  refine Draws.of_body Tryz.func60 (by kernel_rfl) rfl (by kernel_rfl) (by simp [Tryz.ntmps60]) ?_
  rw [Tryz.ntmps60]
  repeat' first
    | ((first | refine aops_end (hK _ ?_) | refine aopsD_end (hK _ ?_) | refine aopsF_end (hK _ ?_)); clear hK K)
    | ((first | refine aops_go ?_ | refine aopsD_go ?_ | refine aopsF_go ?_); simp; (try simp (disch := omega) only [wrap64]); (try (refine gen fun q hq => ?_; cases q <;> (try simp at hq) <;> (try (have hh : True := hq; clear hh hq)))))
    | (refine wpcall_pure rfl (hnum _) ?_; simp; (try simp (disch := omega) only [wrap64]); (try (refine gen fun q hq => ?_; cases q <;> (try simp at hq) <;> (try (have hh : True := hq; clear hh hq)))))
    | (refine wpcall_pure rfl (TermValidS_ok _ (by omega)) ?_; simp; (try simp (disch := omega) only [wrap64]); (try (refine gen fun q hq => ?_; cases q <;> (try simp at hq) <;> (try (have hh : True := hq; clear hh hq)))))
    | (refine wpcall_dr 0 rfl rfl (num_ok b hb _ (by omega) [3, 2, 4] (by simp) (by simp)) (fun x p1 hx hp1 hp1' => ?_); simp at hx; (have hx2 : x = 3 ∨ x = 2 ∨ x = 4 := by omega); clear hx; rcases hx2 with rfl | rfl | rfl <;> (simp; (try simp (disch := omega) only [wrap64])))
    | (refine wpcall_dr 0 rfl rfl (pick_ok b hb _ (by omega) 4 (by omega)) (fun x1 p1 hx1 hp1 hp1' => ?_); simp; (try simp (disch := omega) only [wrap64]); (try (refine gen fun q hq => ?_; cases q <;> (try simp at hq) <;> (try (have hh : True := hq; clear hh hq)))))
    | (refine wpcall_dr 0 rfl rfl (l2Draw_ok b hb 4 [120, 122] _ (by omega) (by simp) (by omega)) (fun x1 p1 hx1 hp1 hp1' => ?_); simp; (try simp (disch := omega) only [wrap64]); (try (refine gen fun q hq => ?_; cases q <;> (try simp at hq) <;> (try (have hh : True := hq; clear hh hq)))))
    | (refine wpcall_dr 0 rfl rfl (l2Draw_ok b hb 3 [120, 122] _ (by omega) (by simp) (by omega)) (fun x1 p1 hx1 hp1 hp1' => ?_); simp; (try simp (disch := omega) only [wrap64]); (try (refine gen fun q hq => ?_; cases q <;> (try simp at hq) <;> (try (have hh : True := hq; clear hh hq)))))
    | (refine wpcall_dr 0 rfl rfl (l2Draw_ok b hb 2 [120, 122] _ (by omega) (by simp) (by omega)) (fun x1 p1 hx1 hp1 hp1' => ?_); simp; (try simp (disch := omega) only [wrap64]); (try (refine gen fun q hq => ?_; cases q <;> (try simp at hq) <;> (try (have hh : True := hq; clear hh hq)))))
    | (refine wpcall_dr 0 rfl rfl (l2Closed_val b hb _ (by omega)) (fun e p1 he hp1 hp1' => ?_); simp)
    | refine TX.rs (fun _ => false) fun K hK => ?_
    | refine TX.rs1 (fun _ => false) fun K hK => ?_
    | (refine ⟨by omega, ?_⟩)
    | refine TX.cond rfl (fun hcnd => ?_) (fun hcnd => absurd hcnd (by decide))
    | refine TX.cond rfl (fun hcnd => absurd hcnd (by decide)) (fun hcnd => ?_)
    | refine TX.seq ?_
    | refine TX.block ?_
    | refine TX.skip ?_
    | refine TX.exit ?_
    | refine EX.thenN ?_
    | refine EX.thenR ?_
    | refine EX.thenE ?_
    | refine EX.blockN ?_
    | refine EX.blockR ?_
    | refine EX.blockE ?_
    | refine EX.blockO (by simp) ?_
    | refine EX.outR ?_
    | refine EX.outE ?_
  all_goals (
    refine TX.ret ?_
    repeat' first | refine EX.outR ?_ | refine EX.thenR ?_ | refine EX.blockR ?_ | refine EX.unrR ?_
    apply EX.drA (ks := [])
    case he => exact Or.inr rfl
    case hys => simp [resAs, getAs, Tryz.results60] <;> rfl
    case hv => first | (dsimp only [Av.one]; exact rfl) | dsimp only [Av.one]
    case hx => repeat' first | exact IsT2.var _ | exact IsV.tmv _ | exact IsTm.var _ | exact IsTy.row _ | exact IsTm.row _ | exact IsTys.nil | exact IsTms.nil | exact IsBds.nil | exact IsTys.map _ | exact IsTms.map _ | exact IsBds.map _ | exact IsV.int _ | exact IsV.str _ | exact IsV.bool _ | apply IsV.p2 | apply IsV.p3 | apply IsV.tm | apply IsV.ty | apply IsTm.node | apply IsTy.of | apply IsTys.cons | apply IsTms.cons | apply IsBds.cons | apply IsV.tys | apply IsV.tms | apply IsV.bds | apply IsT2.node | apply IsTys.app | apply IsTms.app | apply IsBds.app
    case hA => exact rfl
    case hks => simp
    case hV => exact rfl
    case h1 => omega
    case h2 => omega
    case hg => first | exact ⟨by omega, by assumption⟩ | exact ⟨by omega, he.2⟩ | exact ⟨by simp [nTm_mk, nTy_mk, nTyS, nTmS], num_valid _ (by omega) (by omega)⟩)

theorem l3Typed_val (b : List Int) (hb : okB b) (p : Nat) (hp : p + 60000000 ≤ 1099511627776) : Draws Tryz.prog 153 [] b p 60000000 (RV aTm noA fun e => nTm e ≤ 2000000 ∧ termValidM e = true) := by
  obtain ⟨N, hN⟩ : ∃ N : Nat, N = 9900000 := ⟨_, rfl⟩
  have hN4 : N * 4 = 39600000 := by rw [hN]
  refine Draws.of_body Tryz.func153 (by kernel_rfl) rfl (by kernel_rfl) (by simp [Tryz.ntmps153]) ?_
  rw [Tryz.ntmps153]
  repeat' first
    | ((first | refine aops_end (hK _ ?_) | refine aopsD_end (hK _ ?_) | refine aopsF_end (hK _ ?_)); clear hK K)
    | ((first | refine aops_go ?_ | refine aopsD_go ?_ | refine aopsF_go ?_); simp; (try simp (disch := omega) only [wrap64]); (try (refine gen fun q hq => ?_; cases q <;> (try simp at hq) <;> (try (have hh : True := hq; clear hh hq)))))
    | refine TX.rs (fun _ => false) fun K hK => ?_
    | refine TX.rs1 (fun _ => false) fun K hK => ?_
    | (refine ⟨by omega, ?_⟩)
    | refine TX.cond rfl (fun hcnd => ?_) (fun hcnd => absurd hcnd (by decide))
    | refine TX.cond rfl (fun hcnd => absurd hcnd (by decide)) (fun hcnd => ?_)
    | refine TX.seq ?_
    | refine TX.block ?_
    | refine TX.skip ?_
    | refine TX.exit ?_
    | refine EX.thenN ?_
    | refine EX.thenR ?_
    | refine EX.thenE ?_
    | refine EX.blockN ?_
    | refine EX.blockR ?_
    | refine EX.blockE ?_
    | refine EX.blockO (by simp) ?_
    | refine EX.outR ?_
    | refine EX.outE ?_
  refine TX.loopF (fun x : Nat × Nat × List (List CV) => ⟨[(0, .c (.ptr 0 0)), (2, .c (.ptr 1 0)), (3, .i x.1)], (rd b x.2.1).map CV.d :: [.d (.i 0), .d (.str []), .d (.i 0), .d (.i 0), .nil, .d (.i 0), .nil, .d (.i 0), .nil] :: x.2.2, []⟩) (fun x => 4 - x.1) (fun x => x.1 ≤ 4 ∧ p ≤ x.2.1 ∧ x.2.1 ≤ p + N * x.1) (fun x hx => ?_) (0, p, []) (by simp) (by simp)
  obtain ⟨j, q1, G⟩ := x
  obtain ⟨hj, hq1, hq2⟩ := hx
  dsimp only at hj hq1 hq2 ⊢
  have hNj : N * j ≤ 39600000 := by have := Nat.mul_le_mul_left N hj; omega
  have hNs : N * (j + 1) = N * j + N := Nat.mul_succ N j
  generalize N * j = M at hNj hNs hq2
  generalize hM2 : N * (j + 1) = M2 at hNs
  clear hN4
  by_cases hlt : j < 4
  · have h1 : (j : Int) < 4 := by omega
    repeat' first
      | ((first | refine aops_end (hK _ ?_) | refine aopsD_end (hK _ ?_) | refine aopsF_end (hK _ ?_)); clear hK K)
      | ((first | refine aops_go ?_ | refine aopsD_go ?_ | refine aopsF_go ?_); simp [h1]; (try simp (disch := omega) only [wrap64]); (try (refine gen fun q hq => ?_; cases q <;> (try simp [h1] at hq) <;> (try (have hh : True := hq; clear hh hq)))))
      | (refine wpcall_dr 0 rfl rfl (num_ok b hb _ (by omega) [1, 2, 2, 3] (by simp) (by simp)) (fun y p1 hy hp1 hp1' => ?_); simp at hy; simp)
      | (refine wpcall_dr 0 rfl rfl (l1DrawT_ok b hb _ (by omega) _ (by omega)) (fun t p1 ht hp1 hp1' => ?_); simp)
      | (refine wpcall_dr 0 rfl rfl (num_ok b hb _ (by omega) [4, 3, 5, 4] (by simp) (by simp)) (fun z p1 hz hp1 hp1' => ?_); simp at hz; simp)
      | (refine wpcall_dr 0 rfl rfl (l3Make5_ok b hb [] (by simp) (by simp) _ (by assumption) _ (by omega) (by omega) _ (by omega)) (fun e p1 he hp1 hp1' => ?_); simp)
      | (refine wpcall_pure rfl (TypeOfS_ok _ (by omega)) ?_; rcases hty : typeInM [] e with _ | u <;> simp)
      | (refine EX.next (j + 1, p1, G ++ [(aTm e).cells, [.d (.i 0), .d (.sl [])]]) (by dsimp only; omega) ?_ ⟨by simp, rfl, ?_⟩; (exact ⟨by show j + 1 ≤ 4; omega, by show p ≤ p1; omega, by show p1 ≤ p + N * (j + 1); rw [hM2]; omega⟩); simp (disch := omega) [wrap64])
      | refine TX.rs (fun _ => false) fun K hK => ?_
      | refine TX.rs1 (fun _ => false) fun K hK => ?_
      | (refine ⟨by omega, ?_⟩)
      | refine TX.cond rfl (fun hcnd => ?_) (fun hcnd => absurd hcnd (by decide))
      | refine TX.cond rfl (fun hcnd => absurd hcnd (by decide)) (fun hcnd => ?_)
      | refine TX.seq ?_
      | refine TX.block ?_
      | refine TX.skip ?_
      | refine TX.exit ?_
      | refine EX.thenN ?_
      | refine EX.thenR ?_
      | refine EX.thenE ?_
      | refine EX.blockN ?_
      | refine EX.blockR ?_
      | refine EX.blockE ?_
      | refine EX.blockO (by simp) ?_
      | refine EX.outR ?_
      | refine EX.outE ?_
    all_goals (
      refine TX.ret ?_
      repeat' first | refine EX.outR ?_ | refine EX.thenR ?_ | refine EX.blockR ?_ | refine EX.unrR ?_
      apply EX.drA (ks := [])
      case he => exact Or.inr rfl
      case hys => simp [resAs, getAs, Tryz.results153] <;> rfl
      case hv => first | (dsimp only [Av.one]; exact rfl) | dsimp only [Av.one]
      case hx => repeat' first | exact IsT2.var _ | exact IsV.tmv _ | exact IsTm.var _ | exact IsTy.row _ | exact IsTm.row _ | exact IsTys.nil | exact IsTms.nil | exact IsBds.nil | exact IsTys.map _ | exact IsTms.map _ | exact IsBds.map _ | exact IsV.int _ | exact IsV.str _ | exact IsV.bool _ | apply IsV.p2 | apply IsV.p3 | apply IsV.tm | apply IsV.ty | apply IsTm.node | apply IsTy.of | apply IsTys.cons | apply IsTms.cons | apply IsBds.cons | apply IsV.tys | apply IsV.tms | apply IsV.bds | apply IsT2.node | apply IsTys.app | apply IsTms.app | apply IsBds.app
      case hA => exact rfl
      case hks => simp
      case hV => exact rfl
      case h1 => omega
      case h2 => omega
      case hg => exact ⟨by omega, (typeIn_some hty).2.1⟩)
  · have h1 : ¬ (j : Int) < 4 := by omega
    repeat' first
      | ((first | refine aops_end (hK _ ?_) | refine aopsD_end (hK _ ?_) | refine aopsF_end (hK _ ?_)); clear hK K)
      | ((first | refine aops_go ?_ | refine aopsD_go ?_ | refine aopsF_go ?_); simp [h1]; (try simp (disch := omega) only [wrap64]); (try (refine gen fun q hq => ?_; cases q <;> (try simp [h1] at hq) <;> (try (have hh : True := hq; clear hh hq)))))
      | (refine wpcall_dr 0 rfl rfl (l2Closed_val b hb _ (by omega)) (fun e p1 he hp1 hp1' => ?_); simp)
      | refine TX.rs (fun _ => false) fun K hK => ?_
      | refine TX.rs1 (fun _ => false) fun K hK => ?_
      | (refine ⟨by omega, ?_⟩)
      | refine TX.cond rfl (fun hcnd => ?_) (fun hcnd => absurd hcnd (by decide))
      | refine TX.cond rfl (fun hcnd => absurd hcnd (by decide)) (fun hcnd => ?_)
      | refine TX.seq ?_
      | refine TX.block ?_
      | refine TX.skip ?_
      | refine TX.exit ?_
      | refine EX.thenN ?_
      | refine EX.thenR ?_
      | refine EX.thenE ?_
      | refine EX.blockN ?_
      | refine EX.blockR ?_
      | refine EX.blockE ?_
      | refine EX.blockO (by simp) ?_
      | refine EX.outR ?_
      | refine EX.outE ?_
    all_goals (
      refine TX.ret ?_
      repeat' first | refine EX.outR ?_ | refine EX.thenR ?_ | refine EX.blockR ?_ | refine EX.unrR ?_
      apply EX.drA (ks := [])
      case he => exact Or.inr rfl
      case hys => simp [resAs, getAs, Tryz.results153] <;> rfl
      case hv => first | (dsimp only [Av.one]; exact rfl) | dsimp only [Av.one]
      case hx => repeat' first | exact IsT2.var _ | exact IsV.tmv _ | exact IsTm.var _ | exact IsTy.row _ | exact IsTm.row _ | exact IsTys.nil | exact IsTms.nil | exact IsBds.nil | exact IsTys.map _ | exact IsTms.map _ | exact IsBds.map _ | exact IsV.int _ | exact IsV.str _ | exact IsV.bool _ | apply IsV.p2 | apply IsV.p3 | apply IsV.tm | apply IsV.ty | apply IsTm.node | apply IsTy.of | apply IsTys.cons | apply IsTms.cons | apply IsBds.cons | apply IsV.tys | apply IsV.tms | apply IsV.bds | apply IsT2.node | apply IsTys.app | apply IsTms.app | apply IsBds.app
      case hA => exact rfl
      case hks => simp
      case hV => exact rfl
      case h1 => omega
      case h2 => omega
      case hg => exact ⟨by omega, he.2⟩)

theorem l4Bare_lam (e : MTm) (h13 : ¬ e.kind = 13) (h14 : ¬ e.kind = 14) (h5 : e.kind = 5) (hn : nTm e ≤ 1073741824)
    (ih : ∀ u ∈ e.kids, ACalls Tryz.prog 162 [aTm u] [] (aTm (mapM bareG u)) [] []) : ACalls Tryz.prog 162 [aTm e] [] (aTm (.mk e.kind e.name e.num anyT zeroT 0 (e.kids.map (mapM bareG)))) [] [] := by
  have hnk2 : e.kids.length ≤ 1073741824 := by have := nTmS_len e.kids; rw [nTm_def] at hn; omega
  have hany := l1Any_ok
  refine ACalls.of_body Tryz.func162 (by kernel_rfl) rfl (by kernel_rfl) (by simp [Tryz.ntmps162]) (by simp) ?_
  rw [Tryz.ntmps162]
  repeat' first
    | ((first | refine aops_end (hK _ ?_) | refine aopsD_end (hK _ ?_) | refine aopsF_end (hK _ ?_)); clear hK K)
    | ((first | refine aops_go ?_ | refine aopsD_go ?_ | refine aopsF_go ?_); simp [h13, h14, h5]; (try (refine gen fun q hq => ?_; cases q <;> (try simp [h13, h14, h5] at hq) <;> (try (have hh : True := hq; clear hh hq)))))
    | (refine wpcall_pure rfl (hany) ?_; simp [h13, h14, h5]; (try (refine gen fun q hq => ?_; cases q <;> (try simp [h13, h14, h5] at hq) <;> (try (have hh : True := hq; clear hh hq)))))
    | refine T.rd (id := 9) mixed (fun _ => false) [9, 11] (by kernel_rfl) fun K hK => ?_
    | refine T.rd1 (id := 9) mixed (fun _ => false) [9, 11] (by kernel_rfl) fun K hK => ?_
    | refine T.rs (fun _ => false) fun K hK => ?_
    | refine T.rs1 (fun _ => false) fun K hK => ?_
    | (refine ⟨by omega, ?_⟩)
    | refine T.cond rfl (fun hcnd => ?_) (fun hcnd => absurd hcnd (by decide))
    | refine T.cond rfl (fun hcnd => absurd hcnd (by decide)) (fun hcnd => ?_)
    | refine T.seq ?_
    | refine T.block ?_
    | refine T.skip ?_
    | refine T.exit ?_
  refine T.ownifyObj 2 8 9 28 (row := [.d (.i 5), .d (.str e.name), .d (.i e.num), .d (.i 1), .d (.sl []), .d (.i 0), .nil, .d (.i 0), .nil]) (by simp) (by simp) ?_
  refine T.loopK (α := Nat) [1, 2, 3] (fun x => [(4, .i x)]) (fun x => [(2, [.d (.i 5), .d (.str e.name), .d (.i e.num), .d (.i 1), .d (.sl []), .d (.i 0), .nil, .d (.i 0), .own 0 x])]) (fun x => []) (fun p _ => [{ sz := 9, ety := 28, rows := ((e.kids.map (mapM bareG)).take p).map eTm, wr := true }]) (fun x => e.kids.length + 1 - x) (fun x => x ≤ e.kids.length) (by simp; rfl) (fun p hp => ?_) 0 (by simp) (by simp) (by simp) (by simp)
  dsimp only at hp ⊢
  simp only [ups, List.set_cons_zero, List.set_cons_succ, List.cons_append, List.nil_append, List.append_nil]
  by_cases hlt : p < e.kids.length
  · obtain ⟨u, ht⟩ := get_lt hlt
    have htm : u ∈ e.kids := List.mem_of_getElem? ht
    have hgt : e.kids[p] = u := by rw [List.getElem?_eq_getElem hlt] at ht; exact Option.some.inj ht
    have hdr : e.kids.drop p = u :: e.kids.drop (p + 1) := by rw [List.drop_eq_getElem_cons hlt, hgt]
    have hu := ih u htm
    have htk : (e.kids.map (mapM bareG)).take (p + 1) = (e.kids.map (mapM bareG)).take p ++ [mapM bareG u] := by rw [List.take_add_one, List.getElem?_map, ht]; rfl
    have hlm : min p (e.kids.map (mapM bareG)).length = p := by simp; omega
    generalize e.kids.map (mapM bareG) = Z at *
    generalize mapM bareG u = su at *
    repeat' first
      | ((first | refine aops_end (hK _ ?_) | refine aopsD_end (hK _ ?_) | refine aopsF_end (hK _ ?_)); clear hK K)
      | ((first | refine aops_go ?_ | refine aopsD_go ?_ | refine aopsF_go ?_); simp [hlt, hgt, hlm]; (try simp (disch := omega) only [wrap64]); (try (refine gen fun q hq => ?_; cases q <;> (try simp [hlt, hgt, hlm] at hq) <;> (try (have hh : True := hq; clear hh hq)))))
      | (refine wpcall_pure rfl (hu) ?_; simp [hlt, hgt, hlm]; (try simp (disch := omega) only [wrap64]); (try (refine gen fun q hq => ?_; cases q <;> (try simp [hlt, hgt, hlm] at hq) <;> (try (have hh : True := hq; clear hh hq)))))
      | (refine ⟨by omega, by omega, ?_⟩)
      | (refine ⟨p + 1, by dsimp only; omega, by dsimp only; omega, ?_, ?_, ?_⟩ <;> simp (disch := omega) [ups, wrap64, htk, eTm_def, hlm])
      | refine T.rd (id := 9) mixed (fun _ => false) [9, 11] (by kernel_rfl) fun K hK => ?_
      | refine T.rd1 (id := 9) mixed (fun _ => false) [9, 11] (by kernel_rfl) fun K hK => ?_
      | refine T.rs (fun _ => false) fun K hK => ?_
      | refine T.rs1 (fun _ => false) fun K hK => ?_
      | (refine ⟨by omega, ?_⟩)
      | refine T.cond rfl (fun hcnd => ?_) (fun hcnd => absurd hcnd (by decide))
      | refine T.cond rfl (fun hcnd => absurd hcnd (by decide)) (fun hcnd => ?_)
      | refine T.seq ?_
      | refine T.block ?_
      | refine T.skip ?_
      | refine T.exit ?_
  · have hp' : p = e.kids.length := by omega
    subst hp'
    have hlm : (e.kids.map (mapM bareG)).length = e.kids.length := by simp
    rw [List.take_of_length_le (by omega)]
    generalize e.kids.map (mapM bareG) = Z at *
    repeat' first
      | ((first | refine aops_end (hK _ ?_) | refine aopsD_end (hK _ ?_) | refine aopsF_end (hK _ ?_)); clear hK K)
      | ((first | refine aops_go ?_ | refine aopsD_go ?_ | refine aopsF_go ?_); simp [hlt, hlm]; (try (refine gen fun q hq => ?_; cases q <;> (try simp [hlt, hlm] at hq) <;> (try (have hh : True := hq; clear hh hq)))))
      | (refine T.ret (Done.val (Or.inr rfl) ?_) <;> simp [resAs, Tryz.results162, hlm, h5] <;> omega)
      | refine T.rd (id := 9) mixed (fun _ => false) [9, 11] (by kernel_rfl) fun K hK => ?_
      | refine T.rd1 (id := 9) mixed (fun _ => false) [9, 11] (by kernel_rfl) fun K hK => ?_
      | refine T.rs (fun _ => false) fun K hK => ?_
      | refine T.rs1 (fun _ => false) fun K hK => ?_
      | (refine ⟨by omega, ?_⟩)
      | refine T.cond rfl (fun hcnd => ?_) (fun hcnd => absurd hcnd (by decide))
      | refine T.cond rfl (fun hcnd => absurd hcnd (by decide)) (fun hcnd => ?_)
      | refine T.seq ?_
      | refine T.block ?_
      | refine T.skip ?_
      | refine T.exit ?_

theorem l4Bare_non (e : MTm) (h13 : ¬ e.kind = 13) (h14 : ¬ e.kind = 14) (h5 : ¬ e.kind = 5) (hn : nTm e ≤ 1073741824)
    (ih : ∀ u ∈ e.kids, ACalls Tryz.prog 162 [aTm u] [] (aTm (mapM bareG u)) [] []) : ACalls Tryz.prog 162 [aTm e] [] (aTm (.mk e.kind e.name e.num zeroT zeroT 0 (e.kids.map (mapM bareG)))) [] [] := by
  have hnk2 : e.kids.length ≤ 1073741824 := by have := nTmS_len e.kids; rw [nTm_def] at hn; omega
  have hany := l1Any_ok
  refine ACalls.of_body Tryz.func162 (by kernel_rfl) rfl (by kernel_rfl) (by simp [Tryz.ntmps162]) (by simp) ?_
  rw [Tryz.ntmps162]
  repeat' first
    | ((first | refine aops_end (hK _ ?_) | refine aopsD_end (hK _ ?_) | refine aopsF_end (hK _ ?_)); clear hK K)
    | ((first | refine aops_go ?_ | refine aopsD_go ?_ | refine aopsF_go ?_); simp [h13, h14, h5]; (try (refine gen fun q hq => ?_; cases q <;> (try simp [h13, h14, h5] at hq) <;> (try (have hh : True := hq; clear hh hq)))))
    | (refine wpcall_pure rfl (hany) ?_; simp [h13, h14, h5]; (try (refine gen fun q hq => ?_; cases q <;> (try simp [h13, h14, h5] at hq) <;> (try (have hh : True := hq; clear hh hq)))))
    | refine T.rd (id := 9) mixed (fun _ => false) [9, 11] (by kernel_rfl) fun K hK => ?_
    | refine T.rd1 (id := 9) mixed (fun _ => false) [9, 11] (by kernel_rfl) fun K hK => ?_
    | refine T.rs (fun _ => false) fun K hK => ?_
    | refine T.rs1 (fun _ => false) fun K hK => ?_
    | (refine ⟨by omega, ?_⟩)
    | refine T.cond rfl (fun hcnd => ?_) (fun hcnd => absurd hcnd (by decide))
    | refine T.cond rfl (fun hcnd => absurd hcnd (by decide)) (fun hcnd => ?_)
    | refine T.seq ?_
    | refine T.block ?_
    | refine T.skip ?_
    | refine T.exit ?_
  refine T.ownifyObj 2 8 9 28 (row := [.d (.i e.kind), .d (.str e.name), .d (.i e.num), .d (.i 0), .nil, .d (.i 0), .nil, .d (.i 0), .nil]) (by simp) (by simp) ?_
  refine T.loopK (α := Nat) [1, 2, 3] (fun x => [(4, .i x)]) (fun x => [(2, [.d (.i e.kind), .d (.str e.name), .d (.i e.num), .d (.i 0), .nil, .d (.i 0), .nil, .d (.i 0), .own 0 x])]) (fun x => []) (fun p _ => [{ sz := 9, ety := 28, rows := ((e.kids.map (mapM bareG)).take p).map eTm, wr := true }]) (fun x => e.kids.length + 1 - x) (fun x => x ≤ e.kids.length) (by simp; rfl) (fun p hp => ?_) 0 (by simp) (by simp) (by simp) (by simp)
  dsimp only at hp ⊢
  simp only [ups, List.set_cons_zero, List.set_cons_succ, List.cons_append, List.nil_append, List.append_nil]
  by_cases hlt : p < e.kids.length
  · obtain ⟨u, ht⟩ := get_lt hlt
    have htm : u ∈ e.kids := List.mem_of_getElem? ht
    have hgt : e.kids[p] = u := by rw [List.getElem?_eq_getElem hlt] at ht; exact Option.some.inj ht
    have hdr : e.kids.drop p = u :: e.kids.drop (p + 1) := by rw [List.drop_eq_getElem_cons hlt, hgt]
    have hu := ih u htm
    have htk : (e.kids.map (mapM bareG)).take (p + 1) = (e.kids.map (mapM bareG)).take p ++ [mapM bareG u] := by rw [List.take_add_one, List.getElem?_map, ht]; rfl
    have hlm : min p (e.kids.map (mapM bareG)).length = p := by simp; omega
    generalize e.kids.map (mapM bareG) = Z at *
    generalize mapM bareG u = su at *
    repeat' first
      | ((first | refine aops_end (hK _ ?_) | refine aopsD_end (hK _ ?_) | refine aopsF_end (hK _ ?_)); clear hK K)
      | ((first | refine aops_go ?_ | refine aopsD_go ?_ | refine aopsF_go ?_); simp [hlt, hgt, hlm]; (try simp (disch := omega) only [wrap64]); (try (refine gen fun q hq => ?_; cases q <;> (try simp [hlt, hgt, hlm] at hq) <;> (try (have hh : True := hq; clear hh hq)))))
      | (refine wpcall_pure rfl (hu) ?_; simp [hlt, hgt, hlm]; (try simp (disch := omega) only [wrap64]); (try (refine gen fun q hq => ?_; cases q <;> (try simp [hlt, hgt, hlm] at hq) <;> (try (have hh : True := hq; clear hh hq)))))
      | (refine ⟨by omega, by omega, ?_⟩)
      | (refine ⟨p + 1, by dsimp only; omega, by dsimp only; omega, ?_, ?_, ?_⟩ <;> simp (disch := omega) [ups, wrap64, htk, eTm_def, hlm])
      | refine T.rd (id := 9) mixed (fun _ => false) [9, 11] (by kernel_rfl) fun K hK => ?_
      | refine T.rd1 (id := 9) mixed (fun _ => false) [9, 11] (by kernel_rfl) fun K hK => ?_
      | refine T.rs (fun _ => false) fun K hK => ?_
      | refine T.rs1 (fun _ => false) fun K hK => ?_
      | (refine ⟨by omega, ?_⟩)
      | refine T.cond rfl (fun hcnd => ?_) (fun hcnd => absurd hcnd (by decide))
      | refine T.cond rfl (fun hcnd => absurd hcnd (by decide)) (fun hcnd => ?_)
      | refine T.seq ?_
      | refine T.block ?_
      | refine T.skip ?_
      | refine T.exit ?_
  · have hp' : p = e.kids.length := by omega
    subst hp'
    have hlm : (e.kids.map (mapM bareG)).length = e.kids.length := by simp
    rw [List.take_of_length_le (by omega)]
    generalize e.kids.map (mapM bareG) = Z at *
    repeat' first
      | ((first | refine aops_end (hK _ ?_) | refine aopsD_end (hK _ ?_) | refine aopsF_end (hK _ ?_)); clear hK K)
      | ((first | refine aops_go ?_ | refine aopsD_go ?_ | refine aopsF_go ?_); simp [hlt, hlm]; (try (refine gen fun q hq => ?_; cases q <;> (try simp [hlt, hlm] at hq) <;> (try (have hh : True := hq; clear hh hq)))))
      | (refine T.ret (Done.val (Or.inr rfl) ?_) <;> simp [resAs, Tryz.results162, hlm, h5] <;> omega)
      | refine T.rd (id := 9) mixed (fun _ => false) [9, 11] (by kernel_rfl) fun K hK => ?_
      | refine T.rd1 (id := 9) mixed (fun _ => false) [9, 11] (by kernel_rfl) fun K hK => ?_
      | refine T.rs (fun _ => false) fun K hK => ?_
      | refine T.rs1 (fun _ => false) fun K hK => ?_
      | (refine ⟨by omega, ?_⟩)
      | refine T.cond rfl (fun hcnd => ?_) (fun hcnd => absurd hcnd (by decide))
      | refine T.cond rfl (fun hcnd => absurd hcnd (by decide)) (fun hcnd => ?_)
      | refine T.seq ?_
      | refine T.block ?_
      | refine T.skip ?_
      | refine T.exit ?_

theorem l4Bare_ok (nt : Int) : ∀ (e : MTm) (d : Nat), TmV nt d e → nTm e ≤ 1073741824 → ACalls Tryz.prog 162 [aTm e] [] (aTm (mapM bareG e)) [] [] := by
  intro e
  induction e using MTm.ind with
  | h e ih =>
    intro d hv hn
    obtain ⟨hp1, hp2⟩ := hv.plain
    obtain ⟨d', rfl, _, _, _, hk⟩ := shapeTm_kids hv.shape
    have ih' : ∀ u ∈ e.kids, ACalls Tryz.prog 162 [aTm u] [] (aTm (mapM bareG u)) [] [] := fun u hu => ih u hu d' (TmV.of (hk u hu)) (by have := nTmS_mem hu; rw [nTm_def] at hn; omega)
    by_cases hh : e.kind = 13 ∨ e.kind = 14
    · obtain ⟨x, hx⟩ := hp1 hh
      have h1 := ih' x (by simp [hx])
      rw [show mapM bareG e = mapM bareG x by rw [mapM_def]; simp [bareG, hh, hx]]
      generalize mapM bareG x = R at *
      rcases hh with hh | hh
      · refine ACalls.of_body Tryz.func162 (by kernel_rfl) rfl (by kernel_rfl) (by simp [Tryz.ntmps162]) (by simp) ?_
        rw [Tryz.ntmps162]
        repeat' first
          | ((first | refine aops_end (hK _ ?_) | refine aopsD_end (hK _ ?_) | refine aopsF_end (hK _ ?_)); clear hK K)
          | ((first | refine aops_go ?_ | refine aopsD_go ?_ | refine aopsF_go ?_); simp [hh, hx, eTm_def]; (try (refine gen fun q hq => ?_; cases q <;> (try simp [hh, hx, eTm_def] at hq) <;> (try (have hh : True := hq; clear hh hq)))))
          | (refine wpcall_pure ?_ (h1) ?_; (focus (solve | simp [hh, hx, eTm_def])); simp [hh, hx, eTm_def]; (try (refine gen fun q hq => ?_; cases q <;> (try simp [hh, hx, eTm_def] at hq) <;> (try (have hh : True := hq; clear hh hq)))))
          | (refine T.ret (Done.val (Or.inr rfl) ?_) <;> simp [resAs, Tryz.results162] <;> omega)
          | refine T.rd (id := 9) mixed (fun _ => false) [9, 11] (by kernel_rfl) fun K hK => ?_
          | refine T.rd1 (id := 9) mixed (fun _ => false) [9, 11] (by kernel_rfl) fun K hK => ?_
          | refine T.rs (fun _ => false) fun K hK => ?_
          | refine T.rs1 (fun _ => false) fun K hK => ?_
          | (refine ⟨by omega, ?_⟩)
          | refine T.cond rfl (fun hcnd => ?_) (fun hcnd => absurd hcnd (by decide))
          | refine T.cond rfl (fun hcnd => absurd hcnd (by decide)) (fun hcnd => ?_)
          | refine T.seq ?_
          | refine T.block ?_
          | refine T.skip ?_
          | refine T.exit ?_
      · refine ACalls.of_body Tryz.func162 (by kernel_rfl) rfl (by kernel_rfl) (by simp [Tryz.ntmps162]) (by simp) ?_
        rw [Tryz.ntmps162]
        repeat' first
          | ((first | refine aops_end (hK _ ?_) | refine aopsD_end (hK _ ?_) | refine aopsF_end (hK _ ?_)); clear hK K)
          | ((first | refine aops_go ?_ | refine aopsD_go ?_ | refine aopsF_go ?_); simp [hh, hx, eTm_def]; (try (refine gen fun q hq => ?_; cases q <;> (try simp [hh, hx, eTm_def] at hq) <;> (try (have hh : True := hq; clear hh hq)))))
          | (refine wpcall_pure ?_ (h1) ?_; (focus (solve | simp [hh, hx, eTm_def])); simp [hh, hx, eTm_def]; (try (refine gen fun q hq => ?_; cases q <;> (try simp [hh, hx, eTm_def] at hq) <;> (try (have hh : True := hq; clear hh hq)))))
          | (refine T.ret (Done.val (Or.inr rfl) ?_) <;> simp [resAs, Tryz.results162] <;> omega)
          | refine T.rd (id := 9) mixed (fun _ => false) [9, 11] (by kernel_rfl) fun K hK => ?_
          | refine T.rd1 (id := 9) mixed (fun _ => false) [9, 11] (by kernel_rfl) fun K hK => ?_
          | refine T.rs (fun _ => false) fun K hK => ?_
          | refine T.rs1 (fun _ => false) fun K hK => ?_
          | (refine ⟨by omega, ?_⟩)
          | refine T.cond rfl (fun hcnd => ?_) (fun hcnd => absurd hcnd (by decide))
          | refine T.cond rfl (fun hcnd => absurd hcnd (by decide)) (fun hcnd => ?_)
          | refine T.seq ?_
          | refine T.block ?_
          | refine T.skip ?_
          | refine T.exit ?_
    · obtain ⟨hf, hl, ht⟩ := hp2 hh
      have h13 : ¬ e.kind = 13 := fun h => hh (.inl h)
      have h14 : ¬ e.kind = 14 := fun h => hh (.inr h)
      by_cases h5 : e.kind = 5
      · rw [show mapM bareG e = .mk e.kind e.name e.num anyT zeroT 0 (e.kids.map (mapM bareG)) by rw [mapM_def]; simp [bareG, h5, hf, hl]]
        exact l4Bare_lam e h13 h14 h5 hn ih'
      · rw [show mapM bareG e = .mk e.kind e.name e.num zeroT zeroT 0 (e.kids.map (mapM bareG)) by rw [mapM_def]; simp [bareG, hh, h5, hf, hl, ht h5]]
        exact l4Bare_non e h13 h14 h5 hn ih'

theorem bare_size {e : MTm} (h : termValidM e = true) : nTm (mapM bareG e) ≤ 9000 := by
  obtain ⟨h1, h2⟩ := termValidM_iff.1 h
  obtain ⟨_, h3, h4⟩ := bare_valid h1 (.inr rfl)
  have := h3.small
  omega

theorem l13Draw_ok (b : List Int) (hb : okB b) (p : Nat) (hp : p + 61000000 ≤ 1099511627776) : Draws Tryz.prog 101 [] b p 61000000 (RV aTm noA fun e => nTm e ≤ 9000) := by
  refine Draws.of_body Tryz.func101 (by kernel_rfl) rfl (by kernel_rfl) (by simp [Tryz.ntmps101]) ?_
  rw [Tryz.ntmps101]
  repeat' first
    | ((first | refine aops_end (hK _ ?_) | refine aopsD_end (hK _ ?_) | refine aopsF_end (hK _ ?_)); clear hK K)
    | ((first | refine aops_go ?_ | refine aopsD_go ?_ | refine aopsF_go ?_); simp; (try simp (disch := omega) only [wrap64]); (try (refine gen fun q hq => ?_; cases q <;> (try simp at hq) <;> (try (have hh : True := hq; clear hh hq)))))
    | (refine wpcall_pure rfl (l4Bare_ok 14 e 12 (termValidM_iff.1 he.2).1 (by omega)) ?_; simp; (try simp (disch := omega) only [wrap64]); (try (refine gen fun q hq => ?_; cases q <;> (try simp at hq) <;> (try (have hh : True := hq; clear hh hq)))))
    | (refine wpcall_pure rfl (l4Bare_ok 14 e2 12 (termValidM_iff.1 he2.2).1 (by omega)) ?_; simp; (try simp (disch := omega) only [wrap64]); (try (refine gen fun q hq => ?_; cases q <;> (try simp at hq) <;> (try (have hh : True := hq; clear hh hq)))))
    | (refine wpcall_dr 0 rfl rfl (pick_ok b hb _ (by omega) 3 (by omega)) (fun x1 p1 hx1 hp1 hp1' => ?_); simp; (try simp (disch := omega) only [wrap64]); (try (refine gen fun q hq => ?_; cases q <;> (try simp at hq) <;> (try (have hh : True := hq; clear hh hq)))))
    | (refine wpcall_dr 0 rfl rfl (l3Typed_val b hb _ (by omega)) (fun e p1 he hp1 hp1' => ?_); (have hbs := bare_size he.2); simp)
    | (refine wpcall_dr 0 rfl rfl (l2Term_val b hb _ (by omega)) (fun e2 p1 he2 hp1 hp1' => ?_); (have hbs2 := bare_size he2.2); simp)
    | refine TX.rs (fun _ => false) fun K hK => ?_
    | refine TX.rs1 (fun _ => false) fun K hK => ?_
    | (refine ⟨by omega, ?_⟩)
    | refine TX.cond rfl (fun hcnd => ?_) (fun hcnd => absurd hcnd (by decide))
    | refine TX.cond rfl (fun hcnd => absurd hcnd (by decide)) (fun hcnd => ?_)
    | refine TX.seq ?_
    | refine TX.block ?_
    | refine TX.skip ?_
    | refine TX.exit ?_
    | refine EX.thenN ?_
    | refine EX.thenR ?_
    | refine EX.thenE ?_
    | refine EX.blockN ?_
    | refine EX.blockR ?_
    | refine EX.blockE ?_
    | refine EX.blockO (by simp) ?_
    | refine EX.outR ?_
    | refine EX.outE ?_
  all_goals (
    refine TX.ret ?_
    repeat' first | refine EX.outR ?_ | refine EX.thenR ?_ | refine EX.blockR ?_ | refine EX.unrR ?_
    apply EX.drA (ks := [])
    case he => exact Or.inr rfl
    case hys => simp [resAs, getAs, Tryz.results101] <;> rfl
    case hv => first | (dsimp only [Av.one]; exact rfl) | dsimp only [Av.one]
    case hx => repeat' first | exact IsT2.var _ | exact IsV.tmv _ | exact IsTm.var _ | exact IsTy.row _ | exact IsTm.row _ | exact IsTys.nil | exact IsTms.nil | exact IsBds.nil | exact IsTys.map _ | exact IsTms.map _ | exact IsBds.map _ | exact IsV.int _ | exact IsV.str _ | exact IsV.bool _ | apply IsV.p2 | apply IsV.p3 | apply IsV.tm | apply IsV.ty | apply IsTm.node | apply IsTy.of | apply IsTys.cons | apply IsTms.cons | apply IsBds.cons | apply IsV.tys | apply IsV.tms | apply IsV.bds | apply IsT2.node | apply IsTys.app | apply IsTms.app | apply IsBds.app
    case hA => exact rfl
    case hks => simp
    case hV => exact rfl
    case h1 => omega
    case h2 => omega
    case hg => assumption)

theorem DrawBareValid_ok (b : List Int) (hb : ∀ n ∈ b, 0 ≤ n ∧ n ≤ 255) : Some_ Tryz.prog 40 [.l (rB b)] (RV aTm noA fun e => nTm e ≤ 300000) := by
  obtain ⟨b, p, hb, hp, hc⟩ := l18Open_ok b hb
  refine Some_.of_body Tryz.func40 (by kernel_rfl) rfl (by kernel_rfl) (by simp [Tryz.ntmps40]) ?_
  rw [Tryz.ntmps40]
  repeat' first
    | ((first | refine aops_end (hK _ ?_) | refine aopsD_end (hK _ ?_) | refine aopsF_end (hK _ ?_)); clear hK K)
    | ((first | refine aops_go ?_ | refine aopsD_go ?_ | refine aopsF_go ?_); simp; (try simp (disch := omega) only [wrap64]); (try (refine gen fun q hq => ?_; cases q <;> (try simp at hq) <;> (try (have hh : True := hq; clear hh hq)))))
    | (refine wpcall_dr 1 rfl rfl (pick_ok b hb _ (by omega) 6 (by omega)) (fun x1 p1 hx1 hp1 hp1' => ?_); simp; (try simp (disch := omega) only [wrap64]); (try (refine gen fun q hq => ?_; cases q <;> (try simp at hq) <;> (try (have hh : True := hq; clear hh hq)))))
    | (refine wpcall_dr 1 rfl rfl (l4Random_ok b hb _ (by omega)) (fun x1 p1 hx1 hp1 hp1' => ?_); simp; (try simp (disch := omega) only [wrap64]); (try (refine gen fun q hq => ?_; cases q <;> (try simp at hq) <;> (try (have hh : True := hq; clear hh hq)))))
    | (refine wpcall_new1 rfl hc ?_; simp [back])
    | (refine wpcall_dr 1 rfl rfl (l13Draw_ok b hb _ (by omega)) (fun e p1 he hp1 hp1' => ?_); simp)
    | (refine wpcall_dr 1 rfl rfl (l4Mutate_ok b hb _ (by omega) _ (by omega)) (fun e2 p1 he2 hp1 hp1' => ?_); simp)
    | refine TX.rs (fun _ => false) fun K hK => ?_
    | refine TX.rs1 (fun _ => false) fun K hK => ?_
    | (refine ⟨by omega, ?_⟩)
    | refine TX.cond rfl (fun hcnd => ?_) (fun hcnd => absurd hcnd (by decide))
    | refine TX.cond rfl (fun hcnd => absurd hcnd (by decide)) (fun hcnd => ?_)
    | refine TX.seq ?_
    | refine TX.block ?_
    | refine TX.skip ?_
    | refine TX.exit ?_
    | refine EX.thenN ?_
    | refine EX.thenR ?_
    | refine EX.thenE ?_
    | refine EX.blockN ?_
    | refine EX.blockR ?_
    | refine EX.blockE ?_
    | refine EX.blockO (by simp) ?_
    | refine EX.outR ?_
    | refine EX.outE ?_
  all_goals (
    refine TX.ret ?_
    repeat' first | refine EX.outR ?_ | refine EX.thenR ?_ | refine EX.blockR ?_ | refine EX.unrR ?_
    apply EX.someA (ks := [])
    case he => exact Or.inr rfl
    case hys => simp [resAs, getAs, Tryz.results40] <;> rfl
    case hv => first | (dsimp only [Av.one]; exact rfl) | dsimp only [Av.one]
    case hx => repeat' first | exact IsT2.var _ | exact IsV.tmv _ | exact IsTm.var _ | exact IsTy.row _ | exact IsTm.row _ | exact IsTys.nil | exact IsTms.nil | exact IsBds.nil | exact IsTys.map _ | exact IsTms.map _ | exact IsBds.map _ | exact IsV.int _ | exact IsV.str _ | exact IsV.bool _ | apply IsV.p2 | apply IsV.p3 | apply IsV.tm | apply IsV.ty | apply IsTm.node | apply IsTy.of | apply IsTys.cons | apply IsTms.cons | apply IsBds.cons | apply IsV.tys | apply IsV.tms | apply IsV.bds | apply IsT2.node | apply IsTys.app | apply IsTms.app | apply IsBds.app
    case hA => exact rfl
    case hks => simp
    case hg => omega)

end Go.Proofs.YtfdknjjnifnobaaGreat

namespace Go.Proofs.YtfdknjjnifnobaaGreat
open Go Go.Av
attribute [local irreducible] T ACalls TX EX LX Draws Some_ ACallsX eTy eTm MTy.kind MTy.kids MTm.kind MTm.name MTm.num MTm.ty MTm.fr MTm.label MTm.kids
attribute [local simp] eTy_def eTm_def
set_option linter.unusedSimpArgs false
set_option linter.unusedVariables false
set_option maxHeartbeats 16000000
set_option maxRecDepth 8000

theorem lawBareValue_ok (b : List Int) (hb : ∀ n ∈ b, 0 ≤ n ∧ n ≤ 255) : ACalls Tryz.prog 9 [.l (rB b)] [] (.b true) [] [] := by
  by_cases h1 : (1048576 : Int) < b.length
  · refine ACalls.of_body Tryz.func9 (by kernel_rfl) rfl (by kernel_rfl) (by simp [Tryz.ntmps9]) (by simp) ?_
    rw [Tryz.ntmps9]
    repeat' first
      | ((first | refine aops_end (hK _ ?_) | refine aopsD_end (hK _ ?_) | refine aopsF_end (hK _ ?_)); clear hK K)
      | ((first | refine aops_go ?_ | refine aopsD_go ?_ | refine aopsF_go ?_); simp [h1, rB_len]; (try (refine gen fun q hq => ?_; cases q <;> (try simp [h1, rB_len] at hq) <;> (try (have hh : True := hq; clear hh hq)))))
      | (refine T.ret (Done.data (Or.inr rfl) ?_ ?_) <;> simp [Tryz.results9] <;> omega)
      | refine T.rs (fun _ => false) fun K hK => ?_
      | refine T.rs1 (fun _ => false) fun K hK => ?_
      | (refine ⟨by omega, ?_⟩)
      | refine T.cond rfl (fun hcnd => ?_) (fun hcnd => absurd hcnd (by decide))
      | refine T.cond rfl (fun hcnd => absurd hcnd (by decide)) (fun hcnd => ?_)
      | refine T.seq ?_
      | refine T.block ?_
      | refine T.skip ?_
      | refine T.exit ?_
  obtain ⟨e, he, d1⟩ := (DrawBareValid_ok b hb).elim
  have k3 := BareValid_ok e (by omega)
  have k4 := BareValidS_ok e (by omega)
  rw [show (castValidM e && bareM e) = bareValidM e from rfl] at k3 k4
  cases hbv : bareValidM e with
  | false =>
    rw [hbv] at k3 k4
    refine ACalls.of_body Tryz.func9 (by kernel_rfl) rfl (by kernel_rfl) (by simp [Tryz.ntmps9]) (by simp) ?_
    rw [Tryz.ntmps9]
    repeat' first
      | ((first | refine aops_end (hK _ ?_) | refine aopsD_end (hK _ ?_) | refine aopsF_end (hK _ ?_)); clear hK K)
      | ((first | refine aops_go ?_ | refine aopsD_go ?_ | refine aopsF_go ?_); simp [h1, rB_len]; (try (refine gen fun q hq => ?_; cases q <;> (try simp [h1, rB_len] at hq) <;> (try (have hh : True := hq; clear hh hq)))))
      | (refine wpcall_pure rfl (d1) ?_; simp [h1, rB_len]; (try (refine gen fun q hq => ?_; cases q <;> (try simp [h1, rB_len] at hq) <;> (try (have hh : True := hq; clear hh hq)))))
      | (refine wpcall_pure rfl (k3) ?_; simp [h1, rB_len]; (try (refine gen fun q hq => ?_; cases q <;> (try simp [h1, rB_len] at hq) <;> (try (have hh : True := hq; clear hh hq)))))
      | (refine wpcall_pure rfl (k4) ?_; simp [h1, rB_len]; (try (refine gen fun q hq => ?_; cases q <;> (try simp [h1, rB_len] at hq) <;> (try (have hh : True := hq; clear hh hq)))))
      | (refine T.ret (Done.data (Or.inr rfl) ?_ ?_) <;> simp [Tryz.results9] <;> omega)
      | refine T.rs (fun _ => false) fun K hK => ?_
      | refine T.rs1 (fun _ => false) fun K hK => ?_
      | (refine ⟨by omega, ?_⟩)
      | refine T.cond rfl (fun hcnd => ?_) (fun hcnd => absurd hcnd (by decide))
      | refine T.cond rfl (fun hcnd => absurd hcnd (by decide)) (fun hcnd => ?_)
      | refine T.seq ?_
      | refine T.block ?_
      | refine T.skip ?_
      | refine T.exit ?_
  | true =>
    rw [hbv] at k3 k4
    have hcv := hbv
    simp only [bareValidM, Bool.and_eq_true] at hcv
    have k5 := BareTerm_some e (by omega) (.inr hcv.1)
    rw [bare_self (castValidM_iff.1 hcv.1).1 hcv.2] at k5
    have k6 := TermSame_ok e e (by omega)
    rw [sameTm_refl] at k6
    have k7 := IsValue_ok e (by omega)
    rw [hcv.1, Bool.true_and] at k7
    have k8 := CountCasts_ok e (by omega)
    rw [if_pos hcv.1, casts_bare e hcv.2] at k8
    have k9 := BareSteps_ok e 50 (by omega)
    cases hv : valM e with
    | true =>
      rw [hv] at k7
      rw [run_val50 hbv hv] at k9
      refine ACalls.of_body Tryz.func9 (by kernel_rfl) rfl (by kernel_rfl) (by simp [Tryz.ntmps9]) (by simp) ?_
      rw [Tryz.ntmps9]
      repeat' first
        | ((first | refine aops_end (hK _ ?_) | refine aopsD_end (hK _ ?_) | refine aopsF_end (hK _ ?_)); clear hK K)
        | ((first | refine aops_go ?_ | refine aopsD_go ?_ | refine aopsF_go ?_); simp [h1, rB_len]; (try (refine gen fun q hq => ?_; cases q <;> (try simp [h1, rB_len] at hq) <;> (try (have hh : True := hq; clear hh hq)))))
        | (refine wpcall_pure rfl (d1) ?_; simp [h1, rB_len]; (try (refine gen fun q hq => ?_; cases q <;> (try simp [h1, rB_len] at hq) <;> (try (have hh : True := hq; clear hh hq)))))
        | (refine wpcall_pure rfl (k3) ?_; simp [h1, rB_len]; (try (refine gen fun q hq => ?_; cases q <;> (try simp [h1, rB_len] at hq) <;> (try (have hh : True := hq; clear hh hq)))))
        | (refine wpcall_pure rfl (k4) ?_; simp [h1, rB_len]; (try (refine gen fun q hq => ?_; cases q <;> (try simp [h1, rB_len] at hq) <;> (try (have hh : True := hq; clear hh hq)))))
        | (refine wpcall_pure rfl (k5) ?_; simp [h1, rB_len]; (try (refine gen fun q hq => ?_; cases q <;> (try simp [h1, rB_len] at hq) <;> (try (have hh : True := hq; clear hh hq)))))
        | (refine wpcall_pure rfl (k6) ?_; simp [h1, rB_len]; (try (refine gen fun q hq => ?_; cases q <;> (try simp [h1, rB_len] at hq) <;> (try (have hh : True := hq; clear hh hq)))))
        | (refine wpcall_pure rfl (k7) ?_; simp [h1, rB_len]; (try (refine gen fun q hq => ?_; cases q <;> (try simp [h1, rB_len] at hq) <;> (try (have hh : True := hq; clear hh hq)))))
        | (refine wpcall_pure rfl (k8) ?_; simp [h1, rB_len]; (try (refine gen fun q hq => ?_; cases q <;> (try simp [h1, rB_len] at hq) <;> (try (have hh : True := hq; clear hh hq)))))
        | (refine wpcall_pure rfl (k9) ?_; simp [h1, rB_len]; (try (refine gen fun q hq => ?_; cases q <;> (try simp [h1, rB_len] at hq) <;> (try (have hh : True := hq; clear hh hq)))))
        | (refine T.ret (Done.data (Or.inr rfl) ?_ ?_) <;> simp [Tryz.results9] <;> omega)
        | refine T.rs (fun _ => false) fun K hK => ?_
        | refine T.rs1 (fun _ => false) fun K hK => ?_
        | (refine ⟨by omega, ?_⟩)
        | refine T.cond rfl (fun hcnd => ?_) (fun hcnd => absurd hcnd (by decide))
        | refine T.cond rfl (fun hcnd => absurd hcnd (by decide)) (fun hcnd => ?_)
        | refine T.seq ?_
        | refine T.block ?_
        | refine T.skip ?_
        | refine T.exit ?_
    | false =>
      rw [hv] at k7
      generalize bareStepsM e 50 = n at *
      refine ACalls.of_body Tryz.func9 (by kernel_rfl) rfl (by kernel_rfl) (by simp [Tryz.ntmps9]) (by simp) ?_
      rw [Tryz.ntmps9]
      repeat' first
        | ((first | refine aops_end (hK _ ?_) | refine aopsD_end (hK _ ?_) | refine aopsF_end (hK _ ?_)); clear hK K)
        | ((first | refine aops_go ?_ | refine aopsD_go ?_ | refine aopsF_go ?_); simp [h1, rB_len]; (try (refine gen fun q hq => ?_; cases q <;> (try simp [h1, rB_len] at hq) <;> (try (have hh : True := hq; clear hh hq)))))
        | (refine wpcall_pure rfl (d1) ?_; simp [h1, rB_len]; (try (refine gen fun q hq => ?_; cases q <;> (try simp [h1, rB_len] at hq) <;> (try (have hh : True := hq; clear hh hq)))))
        | (refine wpcall_pure rfl (k3) ?_; simp [h1, rB_len]; (try (refine gen fun q hq => ?_; cases q <;> (try simp [h1, rB_len] at hq) <;> (try (have hh : True := hq; clear hh hq)))))
        | (refine wpcall_pure rfl (k4) ?_; simp [h1, rB_len]; (try (refine gen fun q hq => ?_; cases q <;> (try simp [h1, rB_len] at hq) <;> (try (have hh : True := hq; clear hh hq)))))
        | (refine wpcall_pure rfl (k5) ?_; simp [h1, rB_len]; (try (refine gen fun q hq => ?_; cases q <;> (try simp [h1, rB_len] at hq) <;> (try (have hh : True := hq; clear hh hq)))))
        | (refine wpcall_pure rfl (k6) ?_; simp [h1, rB_len]; (try (refine gen fun q hq => ?_; cases q <;> (try simp [h1, rB_len] at hq) <;> (try (have hh : True := hq; clear hh hq)))))
        | (refine wpcall_pure rfl (k7) ?_; simp [h1, rB_len]; (try (refine gen fun q hq => ?_; cases q <;> (try simp [h1, rB_len] at hq) <;> (try (have hh : True := hq; clear hh hq)))))
        | (refine wpcall_pure rfl (k8) ?_; simp [h1, rB_len]; (try (refine gen fun q hq => ?_; cases q <;> (try simp [h1, rB_len] at hq) <;> (try (have hh : True := hq; clear hh hq)))))
        | (refine wpcall_pure rfl (k9) ?_; simp [h1, rB_len]; (try (refine gen fun q hq => ?_; cases q <;> (try simp [h1, rB_len] at hq) <;> (try (have hh : True := hq; clear hh hq)))))
        | (refine T.ret (Done.data (Or.inr rfl) ?_ ?_) <;> simp [Tryz.results9] <;> omega)
        | refine T.rs (fun _ => false) fun K hK => ?_
        | refine T.rs1 (fun _ => false) fun K hK => ?_
        | (refine ⟨by omega, ?_⟩)
        | refine T.cond rfl (fun hcnd => ?_) (fun hcnd => absurd hcnd (by decide))
        | refine T.cond rfl (fun hcnd => absurd hcnd (by decide)) (fun hcnd => ?_)
        | refine T.seq ?_
        | refine T.block ?_
        | refine T.skip ?_
        | refine T.exit ?_
end Go.Proofs.YtfdknjjnifnobaaGreat
