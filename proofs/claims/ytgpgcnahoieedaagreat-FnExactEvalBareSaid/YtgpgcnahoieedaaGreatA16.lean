/- A part of the library of this seat: a value-semantic program logic over the model, plain models, and walks of functions. -/
import Derived.Test.YtgpgcnahoieedaaGreatA15
set_option linter.unusedVariables false
set_option linter.unusedSimpArgs false
namespace Go.Proofs.YtgpgcnahoieedaaGreat
attribute [-simp] Go.Av.astepJ Go.Av.relC Go.Av.relL Go.Av.relV Go.Av.relVs Go.Av.callJ
open Go Go.Av
attribute [local irreducible] T ACalls TX EX LX Draws Some_ ACallsX eTy eTm MTy.kind MTy.kids MTm.kind MTm.name MTm.num MTm.ty MTm.fr MTm.label MTm.kids
attribute [local simp] eTy_def eTm_def
set_option maxHeartbeats 16000000
set_option maxRecDepth 8000


theorem subst_nm (e v : MTm) (x : List UInt8) (hx : ¬ e.name = x) (hn : e.kids.length ≤ 1099511627776)
    (ih : ∀ u ∈ e.kids, ACalls Tryz.prog 127 [aTm u, .s x, aTm v] [] (aTm (substM x v u)) [] []) :
    ACalls Tryz.prog 127 [aTm e, .s x, aTm v] [] (aTm (.mk e.kind e.name e.num e.ty e.fr e.label (e.kids.map (substM x v)))) [] [] := by
  refine ACalls.of_body Tryz.func127 (by kernel_rfl) rfl (by kernel_rfl) (by simp [Tryz.ntmps127]) (by simp) ?_
  rw [Tryz.ntmps127]
  repeat' first | ((first | refine aops_end (hK _ ?_) | refine aopsD_end (hK _ ?_) | refine aopsF_end (hK _ ?_)); clear hK K) | ((first | refine aops_go ?_ | refine aopsD_go ?_ | refine aopsF_go ?_); simp [hx]; (try (refine gen fun q hq => ?_; cases q <;> (try simp [hx] at hq) <;> (try (have hh : True := hq; clear hh hq))))) | refine T.rd (id := 10) mixed (fun _ => false) [7, 9] (by kernel_rfl) fun K hK => ?_ | refine T.rd1 (id := 10) mixed (fun _ => false) [7, 9] (by kernel_rfl) fun K hK => ?_ | refine T.r0 fun K hK => ?_ | refine T.r1 fun K hK => ?_ | (refine ⟨by omega, ?_⟩) | refine T.ct rfl ?_ | refine T.cf rfl ?_ | refine T.seq ?_ | refine T.block ?_ | refine T.skip ?_ | refine T.exit ?_
  all_goals refine T.ownifyObj 3 8 9 34 rfl rfl ?_
  all_goals refine T.loopK (α := Nat × List (List CV)) [1, 5, 6, 7, 35, 36] (fun x => [(37, .i x.1)]) (fun x => [(3, [.d (.i e.kind), .d (.str e.name), .d (.i e.num), .d (.i e.ty.kind), .d (.sl (e.ty.kids.map eTy)), .d (.i e.fr.kind), .d (.sl (e.fr.kids.map eTy)), .d (.i e.label), .own 0 x.1])]) (fun x => x.2) (fun y _ => [{ sz := 9, ety := 34, rows := ((e.kids.map (substM x v)).take y.1).map eTm, wr := true }]) (fun x => e.kids.length + 1 - x.1) (fun x => x.1 ≤ e.kids.length) (by simp; rfl) (fun y hy => ?_) (0, []) (by simp) (by simp) (by simp) (by simp)
  all_goals
    obtain ⟨p, G⟩ := y
    dsimp only at hy ⊢
    simp only [ups, List.set_cons_zero, List.set_cons_succ, List.cons_append, List.nil_append]
    have hwl : (e.kids.map (substM x v)).length = e.kids.length := by simp
    by_cases hlt : p < e.kids.length
    · obtain ⟨u, ht⟩ := get_lt hlt
      have htm : u ∈ e.kids := List.mem_of_getElem? ht
      have hgt : e.kids[p] = u := by rw [List.getElem?_eq_getElem hlt] at ht; exact Option.some.inj ht
      have hdr : e.kids.drop p = u :: e.kids.drop (p + 1) := by rw [List.drop_eq_getElem_cons hlt, hgt]
      have hu := ih u htm
      have htk : (e.kids.map (substM x v)).take (p + 1) = (e.kids.map (substM x v)).take p ++ [substM x v u] := by rw [List.take_add_one, List.getElem?_map, ht]; rfl
      have hlm : min p e.kids.length = p := by omega
      generalize (e.kids.map (substM x v)) = Z at *
      generalize substM x v u = wu at *
      repeat' first | ((first | refine aops_end (hK _ ?_) | refine aopsD_end (hK _ ?_) | refine aopsF_end (hK _ ?_)); clear hK K) | ((first | refine aops_go ?_ | refine aopsD_go ?_ | refine aopsF_go ?_); simp [hlt, hgt, hlm, hwl]; (try simp (disch := omega) only [wrap64]); (try (refine gen fun q hq => ?_; cases q <;> (try simp [hlt, hgt, hlm, hwl] at hq) <;> (try (have hh : True := hq; clear hh hq))))) | (refine wpcall_pure rfl (hu) ?_; simp [hlt, hgt, hlm, hwl]; (try simp (disch := omega) only [wrap64]); (try (refine gen fun q hq => ?_; cases q <;> (try simp [hlt, hgt, hlm, hwl] at hq) <;> (try (have hh : True := hq; clear hh hq))))) | (refine ⟨(p + 1, _), by dsimp only; omega, by dsimp only; omega, rfl, ?_, ?_⟩ <;> simp (disch := omega) [wrap64, htk, eTm_def]) | refine T.rd (id := 10) mixed (fun _ => false) [7, 9] (by kernel_rfl) fun K hK => ?_ | refine T.rd1 (id := 10) mixed (fun _ => false) [7, 9] (by kernel_rfl) fun K hK => ?_ | refine T.r0 fun K hK => ?_ | refine T.r1 fun K hK => ?_ | (refine ⟨by omega, ?_⟩) | refine T.ct rfl ?_ | refine T.cf rfl ?_ | refine T.seq ?_ | refine T.block ?_ | refine T.skip ?_ | refine T.exit ?_
    · have hp' : p = e.kids.length := by omega
      subst hp'
      rw [List.take_of_length_le (by omega)]
      generalize (e.kids.map (substM x v)) = Z at *
      repeat' first | ((first | refine aops_end (hK _ ?_) | refine aopsD_end (hK _ ?_) | refine aopsF_end (hK _ ?_)); clear hK K) | ((first | refine aops_go ?_ | refine aopsD_go ?_ | refine aopsF_go ?_); simp [hlt, hwl]; (try (refine gen fun q hq => ?_; cases q <;> (try simp [hlt, hwl] at hq) <;> (try (have hh : True := hq; clear hh hq))))) | (refine T.ret (Done.val (Or.inr rfl) ?_) <;> simp [resAs, Tryz.results127, eTm_def, hwl] <;> omega) | refine T.rd (id := 10) mixed (fun _ => false) [7, 9] (by kernel_rfl) fun K hK => ?_ | refine T.rd1 (id := 10) mixed (fun _ => false) [7, 9] (by kernel_rfl) fun K hK => ?_ | refine T.r0 fun K hK => ?_ | refine T.r1 fun K hK => ?_ | (refine ⟨by omega, ?_⟩) | refine T.ct rfl ?_ | refine T.cf rfl ?_ | refine T.seq ?_ | refine T.block ?_ | refine T.skip ?_ | refine T.exit ?_

theorem subst_kd (e v : MTm) (x : List UInt8) (h1 : ¬ e.kind = 1) (h5 : ¬ e.kind = 5) (hn : e.kids.length ≤ 1099511627776)
    (ih : ∀ u ∈ e.kids, ACalls Tryz.prog 127 [aTm u, .s x, aTm v] [] (aTm (substM x v u)) [] []) :
    ACalls Tryz.prog 127 [aTm e, .s x, aTm v] [] (aTm (.mk e.kind e.name e.num e.ty e.fr e.label (e.kids.map (substM x v)))) [] [] := by
  refine ACalls.of_body Tryz.func127 (by kernel_rfl) rfl (by kernel_rfl) (by simp [Tryz.ntmps127]) (by simp) ?_
  rw [Tryz.ntmps127]
  repeat' first | ((first | refine aops_end (hK _ ?_) | refine aopsD_end (hK _ ?_) | refine aopsF_end (hK _ ?_)); clear hK K) | ((first | refine aops_go ?_ | refine aopsD_go ?_ | refine aopsF_go ?_); simp [h1, h5]; (try (refine gen fun q hq => ?_; cases q <;> (try simp [h1, h5] at hq) <;> (try (have hh : True := hq; clear hh hq))))) | refine T.rd (id := 10) mixed (fun _ => false) [7, 9] (by kernel_rfl) fun K hK => ?_ | refine T.rd1 (id := 10) mixed (fun _ => false) [7, 9] (by kernel_rfl) fun K hK => ?_ | refine T.r0 fun K hK => ?_ | refine T.r1 fun K hK => ?_ | (refine ⟨by omega, ?_⟩) | refine T.ct rfl ?_ | refine T.cf rfl ?_ | refine T.seq ?_ | refine T.block ?_ | refine T.skip ?_ | refine T.exit ?_
  all_goals refine T.ownifyObj 3 8 9 34 rfl rfl ?_
  all_goals refine T.loopK (α := Nat × List (List CV)) [1, 5, 6, 7, 35, 36] (fun x => [(37, .i x.1)]) (fun x => [(3, [.d (.i e.kind), .d (.str e.name), .d (.i e.num), .d (.i e.ty.kind), .d (.sl (e.ty.kids.map eTy)), .d (.i e.fr.kind), .d (.sl (e.fr.kids.map eTy)), .d (.i e.label), .own 0 x.1])]) (fun x => x.2) (fun y _ => [{ sz := 9, ety := 34, rows := ((e.kids.map (substM x v)).take y.1).map eTm, wr := true }]) (fun x => e.kids.length + 1 - x.1) (fun x => x.1 ≤ e.kids.length) (by simp; rfl) (fun y hy => ?_) (0, []) (by simp) (by simp) (by simp) (by simp)
  all_goals
    obtain ⟨p, G⟩ := y
    dsimp only at hy ⊢
    simp only [ups, List.set_cons_zero, List.set_cons_succ, List.cons_append, List.nil_append]
    have hwl : (e.kids.map (substM x v)).length = e.kids.length := by simp
    by_cases hlt : p < e.kids.length
    · obtain ⟨u, ht⟩ := get_lt hlt
      have htm : u ∈ e.kids := List.mem_of_getElem? ht
      have hgt : e.kids[p] = u := by rw [List.getElem?_eq_getElem hlt] at ht; exact Option.some.inj ht
      have hdr : e.kids.drop p = u :: e.kids.drop (p + 1) := by rw [List.drop_eq_getElem_cons hlt, hgt]
      have hu := ih u htm
      have htk : (e.kids.map (substM x v)).take (p + 1) = (e.kids.map (substM x v)).take p ++ [substM x v u] := by rw [List.take_add_one, List.getElem?_map, ht]; rfl
      have hlm : min p e.kids.length = p := by omega
      generalize (e.kids.map (substM x v)) = Z at *
      generalize substM x v u = wu at *
      repeat' first | ((first | refine aops_end (hK _ ?_) | refine aopsD_end (hK _ ?_) | refine aopsF_end (hK _ ?_)); clear hK K) | ((first | refine aops_go ?_ | refine aopsD_go ?_ | refine aopsF_go ?_); simp [hlt, hgt, hlm, hwl]; (try simp (disch := omega) only [wrap64]); (try (refine gen fun q hq => ?_; cases q <;> (try simp [hlt, hgt, hlm, hwl] at hq) <;> (try (have hh : True := hq; clear hh hq))))) | (refine wpcall_pure rfl (hu) ?_; simp [hlt, hgt, hlm, hwl]; (try simp (disch := omega) only [wrap64]); (try (refine gen fun q hq => ?_; cases q <;> (try simp [hlt, hgt, hlm, hwl] at hq) <;> (try (have hh : True := hq; clear hh hq))))) | (refine ⟨(p + 1, _), by dsimp only; omega, by dsimp only; omega, rfl, ?_, ?_⟩ <;> simp (disch := omega) [wrap64, htk, eTm_def]) | refine T.rd (id := 10) mixed (fun _ => false) [7, 9] (by kernel_rfl) fun K hK => ?_ | refine T.rd1 (id := 10) mixed (fun _ => false) [7, 9] (by kernel_rfl) fun K hK => ?_ | refine T.r0 fun K hK => ?_ | refine T.r1 fun K hK => ?_ | (refine ⟨by omega, ?_⟩) | refine T.ct rfl ?_ | refine T.cf rfl ?_ | refine T.seq ?_ | refine T.block ?_ | refine T.skip ?_ | refine T.exit ?_
    · have hp' : p = e.kids.length := by omega
      subst hp'
      rw [List.take_of_length_le (by omega)]
      generalize (e.kids.map (substM x v)) = Z at *
      repeat' first | ((first | refine aops_end (hK _ ?_) | refine aopsD_end (hK _ ?_) | refine aopsF_end (hK _ ?_)); clear hK K) | ((first | refine aops_go ?_ | refine aopsD_go ?_ | refine aopsF_go ?_); simp [hlt, hwl]; (try (refine gen fun q hq => ?_; cases q <;> (try simp [hlt, hwl] at hq) <;> (try (have hh : True := hq; clear hh hq))))) | (refine T.ret (Done.val (Or.inr rfl) ?_) <;> simp [resAs, Tryz.results127, eTm_def, hwl] <;> omega) | refine T.rd (id := 10) mixed (fun _ => false) [7, 9] (by kernel_rfl) fun K hK => ?_ | refine T.rd1 (id := 10) mixed (fun _ => false) [7, 9] (by kernel_rfl) fun K hK => ?_ | refine T.r0 fun K hK => ?_ | refine T.r1 fun K hK => ?_ | (refine ⟨by omega, ?_⟩) | refine T.ct rfl ?_ | refine T.cf rfl ?_ | refine T.seq ?_ | refine T.block ?_ | refine T.skip ?_ | refine T.exit ?_

theorem subst_ok (v : MTm) (x : List UInt8) : ∀ (e : MTm), nTm e ≤ 1099511627776 → ACalls Tryz.prog 127 [aTm e, .s x, aTm v] [] (aTm (substM x v e)) [] [] := by
  intro e
  induction e using MTm.ind with
  | h e ih =>
    intro hn
    obtain ⟨_, _, hnk, hnu⟩ := nTm_parts hn
    have ih' := fun u hu => ih u hu (hnu u hu)
    rw [substM_def]
    by_cases hx : e.name = x
    · by_cases h1 : e.kind = 1
      · simp only [h1, hx, and_self, if_true]
        refine ACalls.of_body Tryz.func127 (by kernel_rfl) rfl (by kernel_rfl) (by simp [Tryz.ntmps127]) (by simp) ?_
        rw [Tryz.ntmps127]
        repeat' first | ((first | refine aops_end (hK _ ?_) | refine aopsD_end (hK _ ?_) | refine aopsF_end (hK _ ?_)); clear hK K) | ((first | refine aops_go ?_ | refine aopsD_go ?_ | refine aopsF_go ?_); simp [h1, hx]; (try (refine gen fun q hq => ?_; cases q <;> (try simp [h1, hx] at hq) <;> (try (have hh : True := hq; clear hh hq))))) | (refine T.ret (Done.val (Or.inr rfl) ?_) <;> simp [resAs, Tryz.results127] <;> omega) | refine T.rd (id := 10) mixed (fun _ => false) [7, 9] (by kernel_rfl) fun K hK => ?_ | refine T.rd1 (id := 10) mixed (fun _ => false) [7, 9] (by kernel_rfl) fun K hK => ?_ | refine T.r0 fun K hK => ?_ | refine T.r1 fun K hK => ?_ | (refine ⟨by omega, ?_⟩) | refine T.ct rfl ?_ | refine T.cf rfl ?_ | refine T.seq ?_ | refine T.block ?_ | refine T.skip ?_ | refine T.exit ?_
      · by_cases h5 : e.kind = 5
        · rw [if_neg (by simp [h1]), if_pos ⟨h5, hx⟩]
          refine ACalls.of_body Tryz.func127 (by kernel_rfl) rfl (by kernel_rfl) (by simp [Tryz.ntmps127]) (by simp) ?_
          rw [Tryz.ntmps127]
          repeat' first | ((first | refine aops_end (hK _ ?_) | refine aopsD_end (hK _ ?_) | refine aopsF_end (hK _ ?_)); clear hK K) | ((first | refine aops_go ?_ | refine aopsD_go ?_ | refine aopsF_go ?_); simp [h1, h5, hx]; (try (refine gen fun q hq => ?_; cases q <;> (try simp [h1, h5, hx] at hq) <;> (try (have hh : True := hq; clear hh hq))))) | (refine T.ret (Done.val (Or.inr rfl) ?_) <;> simp [resAs, Tryz.results127, h5, hx] <;> omega) | refine T.rd (id := 10) mixed (fun _ => false) [7, 9] (by kernel_rfl) fun K hK => ?_ | refine T.rd1 (id := 10) mixed (fun _ => false) [7, 9] (by kernel_rfl) fun K hK => ?_ | refine T.r0 fun K hK => ?_ | refine T.r1 fun K hK => ?_ | (refine ⟨by omega, ?_⟩) | refine T.ct rfl ?_ | refine T.cf rfl ?_ | refine T.seq ?_ | refine T.block ?_ | refine T.skip ?_ | refine T.exit ?_
        · rw [if_neg (by simp [h1]), if_neg (by simp [h5])]
          exact subst_kd e v x h1 h5 hnk ih'
    · rw [if_neg (by simp [hx]), if_neg (by simp [hx])]
      exact subst_nm e v x hx hnk ih'

end Go.Proofs.YtgpgcnahoieedaaGreat

namespace Go.Proofs.YtgpgcnahoieedaaGreat
attribute [-simp] Go.Av.astepJ Go.Av.relC Go.Av.relL Go.Av.relV Go.Av.relVs Go.Av.callJ
open Go Go.Av
attribute [local irreducible] T ACalls TX EX LX Draws Some_ ACallsX eTy eTm MTy.kind MTy.kids MTm.kind MTm.name MTm.num MTm.ty MTm.fr MTm.label MTm.kids
attribute [local simp] eTy_def eTm_def
set_option maxHeartbeats 16000000
set_option maxRecDepth 8000
attribute [local simp] Option.bind

theorem cloneTm_own (l : List MTm) (hl : l.length ≤ 1073741824) : ACalls Tryz.prog 94 [.l (l.map eTm)] [] (.c (.own 0 l.length)) [] [{ sz := 9, ety := 34, rows := l.map eTm, wr := true }] := by
  refine ACalls.of_body Tryz.func94 (by kernel_rfl) rfl (by kernel_rfl) (by simp [Tryz.ntmps94]) (by simp) ?_
  rw [Tryz.ntmps94]
  refine T.rs (fun _ => false) fun K hK => ?_
  refine aops_go ?_
  simp
  refine aops_end (hK _ ?_)
  clear hK K
  refine T.seq ?_
  refine T.eqNil rfl rfl rfl rfl rfl rfl td_implTermS rfl (by simp; rfl) fun bb hbb => ?_
  cases bb
  · repeat' first | (refine aops_end (hK _ ?_); clear hK K) | (refine aops_go ?_; simp [eTm_def]; (try (refine gen fun q hq => ?_; cases q <;> (try simp [eTm_def] at hq) <;> (try (have hh : True := hq; clear hh hq))))) | (refine ⟨by omega, by omega, ?_⟩) | refine T.rs (id := 3) (fun i => i == 0) fun K hK => ?_ | refine T.cf rfl ?_ | refine T.skip ?_
    refine T.ret (Done.own1 0 (Or.inr rfl) (ys := [_]) ?_ rfl ?_) <;> simp [resAs, Tryz.results94, eTm_def] <;> rfl
  · have : l = [] := by simpa using hbb rfl
    subst this
    refine T.cond rfl (fun hcnd => ?_) (fun hcnd => absurd hcnd (by decide))
    refine T.rs (fun _ => false) fun K hK => ?_
    refine aops_go ?_
    simp
    refine aops_end (hK _ ?_)
    clear hK K
    refine T.ownify 2 9 34 (by simp) ?_
    refine T.ret (Done.own1 0 (Or.inr rfl) (ys := [_]) ?_ rfl ?_) <;> simp [resAs, Tryz.results94]

theorem ground_ok (k : Int) : ACalls Tryz.prog 114 [.i k] [] (aTy (groundT k)) [] [] := by
  have h1 := base_ok 1
  by_cases h4 : k = 4
  · subst h4
    rw [show groundT 4 = .mk 4 [anyT, anyT] from rfl]
    have h2 := both_ok 4 anyT anyT
    refine ACalls.of_body Tryz.func114 (by kernel_rfl) rfl (by kernel_rfl) (by simp [Tryz.ntmps114]) (by simp) ?_
    rw [Tryz.ntmps114]
    repeat' first | (refine aops_end (hK _ ?_); clear hK K) | (refine aops_go ?_; simp; (try (refine gen fun q hq => ?_; cases q <;> (try simp at hq) <;> (try (have hh : True := hq; clear hh hq))))) | (refine wpcall_pure rfl (h1) ?_; simp; (try (refine gen fun q hq => ?_; cases q <;> (try simp at hq) <;> (try (have hh : True := hq; clear hh hq))))) | (refine wpcall_pure ?_ (h2) ?_; (focus (solve | simp)); simp; (try (refine gen fun q hq => ?_; cases q <;> (try simp at hq) <;> (try (have hh : True := hq; clear hh hq))))) | (refine T.ret (Done.val (Or.inr rfl) ?_) <;> simp [resAs, Tryz.results114] <;> omega) | refine T.r0 fun K hK => ?_ | refine T.ct rfl ?_ | refine T.seq ?_
  by_cases h5 : k = 5
  · subst h5
    rw [show groundT 5 = .mk 5 [anyT, anyT] from rfl]
    have h2 := both_ok 5 anyT anyT
    refine ACalls.of_body Tryz.func114 (by kernel_rfl) rfl (by kernel_rfl) (by simp [Tryz.ntmps114]) (by simp) ?_
    rw [Tryz.ntmps114]
    repeat' first | (refine aops_end (hK _ ?_); clear hK K) | (refine aops_go ?_; simp; (try (refine gen fun q hq => ?_; cases q <;> (try simp at hq) <;> (try (have hh : True := hq; clear hh hq))))) | (refine wpcall_pure rfl (h1) ?_; simp; (try (refine gen fun q hq => ?_; cases q <;> (try simp at hq) <;> (try (have hh : True := hq; clear hh hq))))) | (refine wpcall_pure ?_ (h2) ?_; (focus (solve | simp)); simp; (try (refine gen fun q hq => ?_; cases q <;> (try simp at hq) <;> (try (have hh : True := hq; clear hh hq))))) | (refine T.ret (Done.val (Or.inr rfl) ?_) <;> simp [resAs, Tryz.results114] <;> omega) | refine T.r0 fun K hK => ?_ | refine T.ct rfl ?_ | refine T.seq ?_
  · rw [show groundT k = .mk k [] by simp [groundT, h4, h5]]
    have h3 := base_ok k
    refine ACalls.of_body Tryz.func114 (by kernel_rfl) rfl (by kernel_rfl) (by simp [Tryz.ntmps114]) (by simp) ?_
    rw [Tryz.ntmps114]
    repeat' first | (refine aops_end (hK _ ?_); clear hK K) | (refine aops_go ?_; simp [h4, h5]; (try (refine gen fun q hq => ?_; cases q <;> (try simp [h4, h5] at hq) <;> (try (have hh : True := hq; clear hh hq))))) | (refine wpcall_pure rfl (h3) ?_; simp [h4, h5]; (try (refine gen fun q hq => ?_; cases q <;> (try simp [h4, h5] at hq) <;> (try (have hh : True := hq; clear hh hq))))) | (refine T.ret (Done.val (Or.inr rfl) ?_) <;> simp [resAs, Tryz.results114] <;> omega) | refine T.r0 fun K hK => ?_ | refine T.cf rfl ?_ | refine T.seq ?_ | refine T.skip ?_

theorem isGround_ok (t : MTy) (hn : nTy t ≤ 1099511627776) : ACalls Tryz.prog 125 [aTy t] [] (.b (isGroundM t)) [] [] := by
  have h1 := ground_ok t.kind
  have h2 := TypeSame_ok t (groundT t.kind) hn
  rw [isGroundM]
  generalize sameTy t (groundT t.kind) = q at *
  generalize groundT t.kind = G at *
  by_cases hk : t.kind = 1
  · simp only [hk, ne_eq, not_true_eq_false, decide_false, Bool.false_and]
    refine ACalls.of_body Tryz.func125 (by kernel_rfl) rfl (by kernel_rfl) (by simp [Tryz.ntmps125]) (by simp) ?_
    rw [Tryz.ntmps125]
    repeat' first | ((first | refine aops_end (hK _ ?_) | refine aopsD_end (hK _ ?_)); clear hK K) | ((first | refine aops_go ?_ | refine aopsD_go ?_); simp [hk]; (try (refine gen fun q hq => ?_; cases q <;> (try simp [hk] at hq) <;> (try (have hh : True := hq; clear hh hq))))) | (refine T.ret (Done.data (Or.inr rfl) ?_ ?_) <;> simp [Tryz.results125] <;> omega) | refine T.rd (id := 1) mixed (fun _ => false) [] (by kernel_rfl) fun K hK => ?_ | refine T.r0 fun K hK => ?_
  · simp only [hk, ne_eq, not_false_eq_true, decide_true, Bool.true_and]
    refine ACalls.of_body Tryz.func125 (by kernel_rfl) rfl (by kernel_rfl) (by simp [Tryz.ntmps125]) (by simp) ?_
    rw [Tryz.ntmps125]
    repeat' first | ((first | refine aops_end (hK _ ?_) | refine aopsD_end (hK _ ?_)); clear hK K) | ((first | refine aops_go ?_ | refine aopsD_go ?_); simp [hk]; (try (refine gen fun q hq => ?_; cases q <;> (try simp [hk] at hq) <;> (try (have hh : True := hq; clear hh hq))))) | (refine wpcall_pure rfl (h1) ?_; simp [hk]; (try (refine gen fun q hq => ?_; cases q <;> (try simp [hk] at hq) <;> (try (have hh : True := hq; clear hh hq))))) | (refine wpcall_pure rfl (h2) ?_; simp [hk]; (try (refine gen fun q hq => ?_; cases q <;> (try simp [hk] at hq) <;> (try (have hh : True := hq; clear hh hq))))) | (refine T.ret (Done.data (Or.inr rfl) ?_ ?_) <;> simp [Tryz.results125, *] <;> omega) | refine T.rd (id := 1) mixed (fun _ => false) [] (by kernel_rfl) fun K hK => ?_ | refine T.r0 fun K hK => ?_

theorem isProxy_ok (e : MTm) : ACalls Tryz.prog 88 [aTm e] [] (.b (proxyM e)) [] [] := by
  rw [proxyM]
  refine ACalls.of_body Tryz.func88 (by kernel_rfl) rfl (by kernel_rfl) (by simp [Tryz.ntmps88]) (by simp) ?_
  rw [Tryz.ntmps88]
  repeat' first | (refine aops_end (hK _ ?_); clear hK K) | (refine aops_go ?_; simp; (try (refine gen fun q hq => ?_; cases q <;> (try simp at hq) <;> (try (have hh : True := hq; clear hh hq))))) | (refine T.ret (Done.data (Or.inr rfl) ?_ ?_) <;> simp [Tryz.results88, *] <;> omega) | refine T.r0 fun K hK => ?_

theorem isInjection_ok (e : MTm) (hn : nTy e.fr ≤ 1099511627776) : ACalls Tryz.prog 89 [aTm e] [] (.b (injM e)) [] [] := by
  have h1 := isGround_ok e.fr hn
  rw [injM]
  generalize isGroundM e.fr = q at *
  refine ACalls.of_body Tryz.func89 (by kernel_rfl) rfl (by kernel_rfl) (by simp [Tryz.ntmps89]) (by simp) ?_
  rw [Tryz.ntmps89]
  repeat' first | (refine aops_end (hK _ ?_); clear hK K) | (refine aops_go ?_; simp; (try (refine gen fun q hq => ?_; cases q <;> (try simp at hq) <;> (try (have hh : True := hq; clear hh hq))))) | (refine wpcall_pure rfl (h1) ?_; simp; (try (refine gen fun q hq => ?_; cases q <;> (try simp at hq) <;> (try (have hh : True := hq; clear hh hq))))) | (refine T.ret (Done.data (Or.inr rfl) ?_ ?_) <;> simp [Tryz.results89, *] <;> omega) | refine T.r0 fun K hK => ?_

theorem isPlain_ok (e : MTm) : ACalls Tryz.prog 92 [aTm e] [] (.b (plainM e)) [] [] := by
  rw [plainM]
  refine ACalls.of_body Tryz.func92 (by kernel_rfl) rfl (by kernel_rfl) (by simp [Tryz.ntmps92]) (by simp) ?_
  rw [Tryz.ntmps92]
  repeat' first | (refine aops_end (hK _ ?_); clear hK K) | (refine aops_go ?_; simp; (try (refine gen fun q hq => ?_; cases q <;> (try simp at hq) <;> (try (have hh : True := hq; clear hh hq))))) | (refine T.ret (Done.data (Or.inr rfl) ?_ ?_) <;> simp [Tryz.results92, *] <;> omega) | refine T.r0 fun K hK => ?_

theorem isValue1_ok (e : MTm) (q : Bool) (h : ACalls Tryz.prog 60 [aTm e] [] (.b q) [] []) : ACalls Tryz.prog 91 [aTm e] [] (.b (!q)) [] [] := by
  refine ACalls.of_body Tryz.func91 (by kernel_rfl) rfl (by kernel_rfl) (by simp [Tryz.ntmps91]) (by simp) ?_
  rw [Tryz.ntmps91]
  repeat' first | (refine aops_end (hK _ ?_); clear hK K) | (refine aops_go ?_; simp) | (refine wpcall_pure rfl (h) ?_; simp) | (refine T.ret (Done.data (Or.inr rfl) ?_ ?_) <;> simp [Tryz.results91] <;> omega) | refine T.r0 fun K hK => ?_

theorem isValue_ok : ∀ (e : MTm), nTm e ≤ 1099511627776 → ACalls Tryz.prog 60 [aTm e] [] (.b (valM e)) [] [] := by
  intro e
  induction e using MTm.ind with
  | h e ih =>
    intro hn
    obtain ⟨hnt, hnf, hnk, hnu⟩ := nTm_parts hn
    have hcf := containsFuncTm_0 91 e.kids (fun t => !valM t) (by omega) (fun u hu => isValue1_ok u _ (ih u hu (hnu u hu)))
    have h1 := isProxy_ok e
    have h2 := isInjection_ok e hnf
    have h3 := isPlain_ok e
    rw [valM_def, ← not_any_not]
    generalize (e.kids.any fun t => !valM t) = R at hcf ⊢
    generalize proxyM e = q1 at *
    generalize injM e = q2 at *
    generalize plainM e = q3 at *
    by_cases hk : e.kind = 10
    · simp only [hk, decide_true, Bool.true_or, if_true]
      refine ACalls.of_body Tryz.func60 (by kernel_rfl) rfl (by kernel_rfl) (by simp [Tryz.ntmps60]) (by simp) ?_
      rw [Tryz.ntmps60]
      repeat' first | (refine aops_end (hK _ ?_); clear hK K) | (refine aops_go ?_; simp [hk]; (try (refine gen fun q hq => ?_; cases q <;> (try simp [hk] at hq) <;> (try (have hh : True := hq; clear hh hq))))) | (refine wpcall_pure rfl (hcf) ?_; simp [hk]; (try (refine gen fun q hq => ?_; cases q <;> (try simp [hk] at hq) <;> (try (have hh : True := hq; clear hh hq))))) | (refine T.ret (Done.data (Or.inr rfl) ?_ ?_) <;> simp [Tryz.results60, *] <;> omega) | refine T.r0 fun K hK => ?_ | refine T.ct rfl ?_ | refine T.seq ?_
    · simp only [hk, decide_false, Bool.false_or]
      cases q1
      · cases q2
        · simp only [Bool.or_self, Bool.false_eq_true, if_false]
          refine ACalls.of_body Tryz.func60 (by kernel_rfl) rfl (by kernel_rfl) (by simp [Tryz.ntmps60]) (by simp) ?_
          rw [Tryz.ntmps60]
          repeat' first | (refine aops_end (hK _ ?_); clear hK K) | (refine aops_go ?_; simp [hk]; (try (refine gen fun q hq => ?_; cases q <;> (try simp [hk] at hq) <;> (try (have hh : True := hq; clear hh hq))))) | (refine wpcall_pure rfl (h1) ?_; simp [hk]; (try (refine gen fun q hq => ?_; cases q <;> (try simp [hk] at hq) <;> (try (have hh : True := hq; clear hh hq))))) | (refine wpcall_pure rfl (h2) ?_; simp [hk]; (try (refine gen fun q hq => ?_; cases q <;> (try simp [hk] at hq) <;> (try (have hh : True := hq; clear hh hq))))) | (refine wpcall_pure rfl (h3) ?_; simp [hk]; (try (refine gen fun q hq => ?_; cases q <;> (try simp [hk] at hq) <;> (try (have hh : True := hq; clear hh hq))))) | (refine T.ret (Done.data (Or.inr rfl) ?_ ?_) <;> simp [Tryz.results60, *] <;> omega) | refine T.r0 fun K hK => ?_ | refine T.cf rfl ?_ | refine T.seq ?_ | refine T.skip ?_
        · simp only [Bool.or_true, if_true]
          refine ACalls.of_body Tryz.func60 (by kernel_rfl) rfl (by kernel_rfl) (by simp [Tryz.ntmps60]) (by simp) ?_
          rw [Tryz.ntmps60]
          repeat' first | (refine aops_end (hK _ ?_); clear hK K) | (refine aops_go ?_; simp [hk]; (try (refine gen fun q hq => ?_; cases q <;> (try simp [hk] at hq) <;> (try (have hh : True := hq; clear hh hq))))) | (refine wpcall_pure rfl (h1) ?_; simp [hk]; (try (refine gen fun q hq => ?_; cases q <;> (try simp [hk] at hq) <;> (try (have hh : True := hq; clear hh hq))))) | (refine wpcall_pure rfl (h2) ?_; simp [hk]; (try (refine gen fun q hq => ?_; cases q <;> (try simp [hk] at hq) <;> (try (have hh : True := hq; clear hh hq))))) | (refine wpcall_pure rfl (hcf) ?_; simp [hk]; (try (refine gen fun q hq => ?_; cases q <;> (try simp [hk] at hq) <;> (try (have hh : True := hq; clear hh hq))))) | (refine T.ret (Done.data (Or.inr rfl) ?_ ?_) <;> simp [Tryz.results60, *] <;> omega) | refine T.r0 fun K hK => ?_ | refine T.ct rfl ?_ | refine T.seq ?_
      · simp only [Bool.true_or, if_true]
        refine ACalls.of_body Tryz.func60 (by kernel_rfl) rfl (by kernel_rfl) (by simp [Tryz.ntmps60]) (by simp) ?_
        rw [Tryz.ntmps60]
        repeat' first | (refine aops_end (hK _ ?_); clear hK K) | (refine aops_go ?_; simp [hk]; (try (refine gen fun q hq => ?_; cases q <;> (try simp [hk] at hq) <;> (try (have hh : True := hq; clear hh hq))))) | (refine wpcall_pure rfl (h1) ?_; simp [hk]; (try (refine gen fun q hq => ?_; cases q <;> (try simp [hk] at hq) <;> (try (have hh : True := hq; clear hh hq))))) | (refine wpcall_pure rfl (hcf) ?_; simp [hk]; (try (refine gen fun q hq => ?_; cases q <;> (try simp [hk] at hq) <;> (try (have hh : True := hq; clear hh hq))))) | (refine T.ret (Done.data (Or.inr rfl) ?_ ?_) <;> simp [Tryz.results60, *] <;> omega) | refine T.r0 fun K hK => ?_ | refine T.ct rfl ?_ | refine T.seq ?_

theorem counts_ok (e : MTm) : ACalls Tryz.prog 93 [aTm e] [] (.i (countsM e)) [] [] := by
  by_cases hk : e.kind = 9
  · rw [show countsM e = 1 by simp [countsM, hk]]
    refine ACalls.of_body Tryz.func93 (by kernel_rfl) rfl (by kernel_rfl) (by simp [Tryz.ntmps93]) (by simp) ?_
    rw [Tryz.ntmps93]
    repeat' first | (refine aops_end (hK _ ?_); clear hK K) | (refine aops_go ?_; simp [hk]; (try (refine gen fun q hq => ?_; cases q <;> (try simp [hk] at hq) <;> (try (have hh : True := hq; clear hh hq))))) | (refine T.ret (Done.data (Or.inr rfl) ?_ ?_) <;> simp [Tryz.results93] <;> omega) | refine T.r0 fun K hK => ?_ | refine T.ct rfl ?_ | refine T.seq ?_
  · rw [show countsM e = e.kids.length by simp [countsM, hk]]
    refine ACalls.of_body Tryz.func93 (by kernel_rfl) rfl (by kernel_rfl) (by simp [Tryz.ntmps93]) (by simp) ?_
    rw [Tryz.ntmps93]
    repeat' first | (refine aops_end (hK _ ?_); clear hK K) | (refine aops_go ?_; simp [hk]; (try (refine gen fun q hq => ?_; cases q <;> (try simp [hk] at hq) <;> (try (have hh : True := hq; clear hh hq))))) | (refine T.ret (Done.data (Or.inr rfl) ?_ ?_) <;> simp [Tryz.results93] <;> omega) | refine T.r0 fun K hK => ?_ | refine T.cf rfl ?_ | refine T.seq ?_ | refine T.skip ?_

theorem wrong_ok (e : MTm) : ACalls Tryz.prog 96 [aTm e] [] (.i (wrongM e.kind)) [] [] := by
  by_cases h6 : e.kind = 6
  · simp only [wrongM, h6]
    refine ACalls.of_body Tryz.func96 (by kernel_rfl) rfl (by kernel_rfl) (by simp [Tryz.ntmps96]) (by simp) ?_
    rw [Tryz.ntmps96]
    repeat' first | (refine aops_end (hK _ ?_); clear hK K) | (refine aops_go ?_; simp [h6]; (try (refine gen fun q hq => ?_; cases q <;> (try simp [h6] at hq) <;> (try (have hh : True := hq; clear hh hq))))) | (refine T.ret (Done.data (Or.inr rfl) ?_ ?_) <;> simp [Tryz.results96] <;> omega) | refine T.r0 fun K hK => ?_ | refine T.ct rfl ?_ | refine T.seq ?_ | refine T.block ?_
  by_cases h7 : e.kind = 7
  · simp only [wrongM, h7]
    refine ACalls.of_body Tryz.func96 (by kernel_rfl) rfl (by kernel_rfl) (by simp [Tryz.ntmps96]) (by simp) ?_
    rw [Tryz.ntmps96]
    repeat' first | (refine aops_end (hK _ ?_); clear hK K) | (refine aops_go ?_; simp [h7]; (try (refine gen fun q hq => ?_; cases q <;> (try simp [h7] at hq) <;> (try (have hh : True := hq; clear hh hq))))) | (refine T.ret (Done.data (Or.inr rfl) ?_ ?_) <;> simp [Tryz.results96] <;> omega) | refine T.r0 fun K hK => ?_ | refine T.ct rfl ?_ | refine T.cf rfl ?_ | refine T.seq ?_ | refine T.block ?_ | refine T.skip ?_
  by_cases h8 : e.kind = 8
  · simp only [wrongM, h8]
    refine ACalls.of_body Tryz.func96 (by kernel_rfl) rfl (by kernel_rfl) (by simp [Tryz.ntmps96]) (by simp) ?_
    rw [Tryz.ntmps96]
    repeat' first | (refine aops_end (hK _ ?_); clear hK K) | (refine aops_go ?_; simp [h8]; (try (refine gen fun q hq => ?_; cases q <;> (try simp [h8] at hq) <;> (try (have hh : True := hq; clear hh hq))))) | (refine T.ret (Done.data (Or.inr rfl) ?_ ?_) <;> simp [Tryz.results96] <;> omega) | refine T.r0 fun K hK => ?_ | refine T.r1 fun K hK => ?_ | refine T.ct rfl ?_ | refine T.cf rfl ?_ | refine T.seq ?_ | refine T.block ?_
  by_cases h9 : e.kind = 9
  · simp only [wrongM, h9]
    refine ACalls.of_body Tryz.func96 (by kernel_rfl) rfl (by kernel_rfl) (by simp [Tryz.ntmps96]) (by simp) ?_
    rw [Tryz.ntmps96]
    repeat' first | (refine aops_end (hK _ ?_); clear hK K) | (refine aops_go ?_; simp [h9]; (try (refine gen fun q hq => ?_; cases q <;> (try simp [h9] at hq) <;> (try (have hh : True := hq; clear hh hq))))) | (refine T.ret (Done.data (Or.inr rfl) ?_ ?_) <;> simp [Tryz.results96] <;> omega) | refine T.r0 fun K hK => ?_ | refine T.r1 fun K hK => ?_ | refine T.ct rfl ?_ | refine T.cf rfl ?_ | refine T.seq ?_ | refine T.block ?_
  by_cases h11 : e.kind = 11
  · simp only [wrongM, h11]
    refine ACalls.of_body Tryz.func96 (by kernel_rfl) rfl (by kernel_rfl) (by simp [Tryz.ntmps96]) (by simp) ?_
    rw [Tryz.ntmps96]
    repeat' first | (refine aops_end (hK _ ?_); clear hK K) | (refine aops_go ?_; simp [h11]; (try (refine gen fun q hq => ?_; cases q <;> (try simp [h11] at hq) <;> (try (have hh : True := hq; clear hh hq))))) | (refine T.ret (Done.data (Or.inr rfl) ?_ ?_) <;> simp [Tryz.results96] <;> omega) | refine T.r0 fun K hK => ?_ | refine T.r1 fun K hK => ?_ | refine T.ct rfl ?_ | refine T.cf rfl ?_ | refine T.seq ?_ | refine T.block ?_ | refine T.skip ?_
  by_cases h12 : e.kind = 12
  · simp only [wrongM, h12]
    refine ACalls.of_body Tryz.func96 (by kernel_rfl) rfl (by kernel_rfl) (by simp [Tryz.ntmps96]) (by simp) ?_
    rw [Tryz.ntmps96]
    repeat' first | (refine aops_end (hK _ ?_); clear hK K) | (refine aops_go ?_; simp [h12]; (try (refine gen fun q hq => ?_; cases q <;> (try simp [h12] at hq) <;> (try (have hh : True := hq; clear hh hq))))) | (refine T.ret (Done.data (Or.inr rfl) ?_ ?_) <;> simp [Tryz.results96] <;> omega) | refine T.r0 fun K hK => ?_ | refine T.r1 fun K hK => ?_ | refine T.ct rfl ?_ | refine T.cf rfl ?_ | refine T.seq ?_ | refine T.block ?_
  simp only [wrongM, h6, h7, h8, h9, h11, h12, or_self, if_false]
  refine ACalls.of_body Tryz.func96 (by kernel_rfl) rfl (by kernel_rfl) (by simp [Tryz.ntmps96]) (by simp) ?_
  rw [Tryz.ntmps96]
  repeat' first | (refine aops_end (hK _ ?_); clear hK K) | (refine aops_go ?_; simp [h6, h7, h8, h9, h11, h12]; (try (refine gen fun q hq => ?_; cases q <;> (try simp [h6, h7, h8, h9, h11, h12] at hq) <;> (try (have hh : True := hq; clear hh hq))))) | (refine T.ret (Done.data (Or.inr rfl) ?_ ?_) <;> simp [Tryz.results96] <;> omega) | refine T.r0 fun K hK => ?_ | refine T.r1 fun K hK => ?_ | refine T.cf rfl ?_ | refine T.seq ?_ | refine T.block ?_ | refine T.skip ?_

theorem node0l_ok (k : Int) : ACalls Tryz.prog 148 [.i k, .l []] [] (aTm (.mk k [] 0 zeroT zeroT 0 [])) [] [] := by
  refine ACalls.of_body Tryz.func148 (by kernel_rfl) rfl (by kernel_rfl) (by simp [Tryz.ntmps148]) (by simp) ?_
  rw [Tryz.ntmps148]
  repeat' first | (refine aops_end (hK _ ?_); clear hK K) | (refine aops_go ?_; simp; (try (refine gen fun q hq => ?_; cases q <;> (try simp at hq) <;> (try (have hh : True := hq; clear hh hq))))) | (refine T.ret (Done.val (Or.inr rfl) ?_) <;> simp [resAs, Tryz.results148] <;> omega) | refine T.r0 fun K hK => ?_

theorem truth_ok (b : Bool) : ACalls Tryz.prog 128 [.b b] [] (aTm (truthM b)) [] [] := by
  have h3 := node0l_ok 3
  have h4 := node0l_ok 4
  cases b
  · rw [show truthM false = tFalse from rfl]
    refine ACalls.of_body Tryz.func128 (by kernel_rfl) rfl (by kernel_rfl) (by simp [Tryz.ntmps128]) (by simp) ?_
    rw [Tryz.ntmps128]
    repeat' first | (refine aops_end (hK _ ?_); clear hK K) | (refine aops_go ?_; simp; (try (refine gen fun q hq => ?_; cases q <;> (try simp at hq) <;> (try (have hh : True := hq; clear hh hq))))) | (refine wpcall_pure rfl (h4) ?_; simp; (try (refine gen fun q hq => ?_; cases q <;> (try simp at hq) <;> (try (have hh : True := hq; clear hh hq))))) | (refine T.ret (Done.val (Or.inr rfl) ?_) <;> simp [resAs, Tryz.results128] <;> omega) | refine T.r0 fun K hK => ?_ | refine T.cf rfl ?_ | refine T.seq ?_ | refine T.skip ?_
  · rw [show truthM true = tTrue from rfl]
    refine ACalls.of_body Tryz.func128 (by kernel_rfl) rfl (by kernel_rfl) (by simp [Tryz.ntmps128]) (by simp) ?_
    rw [Tryz.ntmps128]
    repeat' first | (refine aops_end (hK _ ?_); clear hK K) | (refine aops_go ?_; simp; (try (refine gen fun q hq => ?_; cases q <;> (try simp at hq) <;> (try (have hh : True := hq; clear hh hq))))) | (refine wpcall_pure rfl (h3) ?_; simp; (try (refine gen fun q hq => ?_; cases q <;> (try simp at hq) <;> (try (have hh : True := hq; clear hh hq))))) | (refine T.ret (Done.val (Or.inr rfl) ?_) <;> simp [resAs, Tryz.results128] <;> omega) | refine T.r0 fun K hK => ?_ | refine T.ct rfl ?_ | refine T.seq ?_

abbrev ruleR (o : Option MTm) : List AV := match o with
  | some x => [aTm x, .i 1]
  | none => [aTm zeroE, .i 3]

theorem rule_ok (e : MTm) (d : Nat) (hv : TmV 13 d e) (hn : nTm e ≤ 1073741824) : ACalls Tryz.prog 95 [aTm e] [] (.tup (ruleR (ruleM e))) [] [] := by
  rcases hv.cases13 with ⟨s, rfl⟩ | ⟨k, rfl, h1, h2⟩ | rfl | rfl | ⟨s, t, b, rfl⟩ | ⟨a, f, t, l, rfl⟩ | ⟨k, a, rfl, hk, _, ha⟩ | ⟨p, a, b, rfl, _, hp⟩ | ⟨k, a, b, rfl, hk, ⟨_, ha⟩, _, hb⟩
  · skip
    rw [show ruleM (tVar s) = none by simp [ruleM]]
    refine ACalls.of_body Tryz.func95 (by kernel_rfl) rfl (by kernel_rfl) (by simp [Tryz.ntmps95]) (by simp) ?_
    rw [Tryz.ntmps95]
    repeat' first | (refine aops_end (hK _ ?_); clear hK K) | (refine aops_go ?_; simp; (try (refine gen fun q hq => ?_; cases q <;> (try simp at hq) <;> (try (have hh : True := hq; clear hh hq))))) | (refine T.ret (Done.tup (Or.inr rfl) ?_) <;> simp [resAs, Tryz.results95] <;> omega) | refine T.r0 fun K hK => ?_ | refine T.r1 fun K hK => ?_ | refine T.cf rfl ?_ | refine T.seq ?_ | refine T.block ?_ | refine T.skip ?_
  · skip
    rw [show ruleM (tNum k) = none by simp [ruleM]]
    refine ACalls.of_body Tryz.func95 (by kernel_rfl) rfl (by kernel_rfl) (by simp [Tryz.ntmps95]) (by simp) ?_
    rw [Tryz.ntmps95]
    repeat' first | (refine aops_end (hK _ ?_); clear hK K) | (refine aops_go ?_; simp; (try (refine gen fun q hq => ?_; cases q <;> (try simp at hq) <;> (try (have hh : True := hq; clear hh hq))))) | (refine T.ret (Done.tup (Or.inr rfl) ?_) <;> simp [resAs, Tryz.results95] <;> omega) | refine T.r0 fun K hK => ?_ | refine T.r1 fun K hK => ?_ | refine T.cf rfl ?_ | refine T.seq ?_ | refine T.block ?_ | refine T.skip ?_
  · skip
    rw [show ruleM tTrue = none by simp [ruleM]]
    refine ACalls.of_body Tryz.func95 (by kernel_rfl) rfl (by kernel_rfl) (by simp [Tryz.ntmps95]) (by simp) ?_
    rw [Tryz.ntmps95]
    repeat' first | (refine aops_end (hK _ ?_); clear hK K) | (refine aops_go ?_; simp; (try (refine gen fun q hq => ?_; cases q <;> (try simp at hq) <;> (try (have hh : True := hq; clear hh hq))))) | (refine T.ret (Done.tup (Or.inr rfl) ?_) <;> simp [resAs, Tryz.results95] <;> omega) | refine T.r0 fun K hK => ?_ | refine T.r1 fun K hK => ?_ | refine T.cf rfl ?_ | refine T.seq ?_ | refine T.block ?_ | refine T.skip ?_
  · skip
    rw [show ruleM tFalse = none by simp [ruleM]]
    refine ACalls.of_body Tryz.func95 (by kernel_rfl) rfl (by kernel_rfl) (by simp [Tryz.ntmps95]) (by simp) ?_
    rw [Tryz.ntmps95]
    repeat' first | (refine aops_end (hK _ ?_); clear hK K) | (refine aops_go ?_; simp; (try (refine gen fun q hq => ?_; cases q <;> (try simp at hq) <;> (try (have hh : True := hq; clear hh hq))))) | (refine T.ret (Done.tup (Or.inr rfl) ?_) <;> simp [resAs, Tryz.results95] <;> omega) | refine T.r0 fun K hK => ?_ | refine T.r1 fun K hK => ?_ | refine T.cf rfl ?_ | refine T.seq ?_ | refine T.block ?_ | refine T.skip ?_
  · skip
    rw [show ruleM (tLam s t b) = none by simp [ruleM]]
    refine ACalls.of_body Tryz.func95 (by kernel_rfl) rfl (by kernel_rfl) (by simp [Tryz.ntmps95]) (by simp) ?_
    rw [Tryz.ntmps95]
    repeat' first | (refine aops_end (hK _ ?_); clear hK K) | (refine aops_go ?_; simp [eTm_def]; (try (refine gen fun q hq => ?_; cases q <;> (try simp [eTm_def] at hq) <;> (try (have hh : True := hq; clear hh hq))))) | (refine T.ret (Done.tup (Or.inr rfl) ?_) <;> simp [resAs, Tryz.results95] <;> omega) | refine T.r0 fun K hK => ?_ | refine T.r1 fun K hK => ?_ | refine T.ct rfl ?_ | refine T.cf rfl ?_ | refine T.seq ?_ | refine T.block ?_ | refine T.skip ?_
  · skip
    rw [show ruleM (tCast a f t l) = none by simp [ruleM]]
    refine ACalls.of_body Tryz.func95 (by kernel_rfl) rfl (by kernel_rfl) (by simp [Tryz.ntmps95]) (by simp) ?_
    rw [Tryz.ntmps95]
    repeat' first | (refine aops_end (hK _ ?_); clear hK K) | (refine aops_go ?_; simp [eTm_def]; (try (refine gen fun q hq => ?_; cases q <;> (try simp [eTm_def] at hq) <;> (try (have hh : True := hq; clear hh hq))))) | (refine T.ret (Done.tup (Or.inr rfl) ?_) <;> simp [resAs, Tryz.results95] <;> omega) | refine T.r0 fun K hK => ?_ | refine T.r1 fun K hK => ?_ | refine T.ct rfl ?_ | refine T.cf rfl ?_ | refine T.seq ?_ | refine T.block ?_ | refine T.skip ?_
  · skip
    by_cases h10 : a.kind = 10
    · obtain ⟨x, y, rfl⟩ := ha.kind10 h10
      rcases hk with rfl | rfl
      · rw [show ruleM (tN1 11 (tN2 10 x y)) = some x by simp [ruleM]]
        refine ACalls.of_body Tryz.func95 (by kernel_rfl) rfl (by kernel_rfl) (by simp [Tryz.ntmps95]) (by simp) ?_
        rw [Tryz.ntmps95]
        repeat' first | (refine aops_end (hK _ ?_); clear hK K) | (refine aops_go ?_; simp [eTm_def]; (try simp (disch := omega) only [wrap64]); (try (refine gen fun q hq => ?_; cases q <;> (try simp [eTm_def] at hq) <;> (try (have hh : True := hq; clear hh hq))))) | (refine T.ret (Done.tup (Or.inr rfl) ?_) <;> simp [resAs, Tryz.results95, eTm_def] <;> omega) | refine T.r0 fun K hK => ?_ | refine T.r1 fun K hK => ?_ | refine T.ct rfl ?_ | refine T.cf rfl ?_ | refine T.seq ?_ | refine T.block ?_ | refine T.skip ?_
      · rw [show ruleM (tN1 12 (tN2 10 x y)) = some y by simp [ruleM]]
        refine ACalls.of_body Tryz.func95 (by kernel_rfl) rfl (by kernel_rfl) (by simp [Tryz.ntmps95]) (by simp) ?_
        rw [Tryz.ntmps95]
        repeat' first | (refine aops_end (hK _ ?_); clear hK K) | (refine aops_go ?_; simp [eTm_def]; (try simp (disch := omega) only [wrap64]); (try (refine gen fun q hq => ?_; cases q <;> (try simp [eTm_def] at hq) <;> (try (have hh : True := hq; clear hh hq))))) | (refine T.ret (Done.tup (Or.inr rfl) ?_) <;> simp [resAs, Tryz.results95, eTm_def] <;> omega) | refine T.r0 fun K hK => ?_ | refine T.r1 fun K hK => ?_ | refine T.ct rfl ?_ | refine T.cf rfl ?_ | refine T.seq ?_ | refine T.block ?_
    · rcases hk with rfl | rfl
      · rw [show ruleM (tN1 11 a) = none by simp [ruleM, h10]]
        refine ACalls.of_body Tryz.func95 (by kernel_rfl) rfl (by kernel_rfl) (by simp [Tryz.ntmps95]) (by simp) ?_
        rw [Tryz.ntmps95]
        repeat' first | (refine aops_end (hK _ ?_); clear hK K) | (refine aops_go ?_; simp [eTm_def, h10]; (try (refine gen fun q hq => ?_; cases q <;> (try simp [eTm_def, h10] at hq) <;> (try (have hh : True := hq; clear hh hq))))) | (refine T.ret (Done.tup (Or.inr rfl) ?_) <;> simp [resAs, Tryz.results95] <;> omega) | refine T.r0 fun K hK => ?_ | refine T.r1 fun K hK => ?_ | refine T.ct rfl ?_ | refine T.cf rfl ?_ | refine T.seq ?_ | refine T.block ?_ | refine T.skip ?_
      · rw [show ruleM (tN1 12 a) = none by simp [ruleM, h10]]
        refine ACalls.of_body Tryz.func95 (by kernel_rfl) rfl (by kernel_rfl) (by simp [Tryz.ntmps95]) (by simp) ?_
        rw [Tryz.ntmps95]
        repeat' first | (refine aops_end (hK _ ?_); clear hK K) | (refine aops_go ?_; simp [eTm_def, h10]; (try (refine gen fun q hq => ?_; cases q <;> (try simp [eTm_def, h10] at hq) <;> (try (have hh : True := hq; clear hh hq))))) | (refine T.ret (Done.tup (Or.inr rfl) ?_) <;> simp [resAs, Tryz.results95] <;> omega) | refine T.r0 fun K hK => ?_ | refine T.r1 fun K hK => ?_ | refine T.ct rfl ?_ | refine T.cf rfl ?_ | refine T.seq ?_ | refine T.block ?_ | refine T.skip ?_
  · skip
    by_cases h3 : p.kind = 3
    · rw [show ruleM (tIf p a b) = some a by simp [ruleM, h3]]
      refine ACalls.of_body Tryz.func95 (by kernel_rfl) rfl (by kernel_rfl) (by simp [Tryz.ntmps95]) (by simp) ?_
      rw [Tryz.ntmps95]
      repeat' first | (refine aops_end (hK _ ?_); clear hK K) | (refine aops_go ?_; simp [eTm_def, h3]; (try (refine gen fun q hq => ?_; cases q <;> (try simp [eTm_def, h3] at hq) <;> (try (have hh : True := hq; clear hh hq))))) | (refine T.ret (Done.tup (Or.inr rfl) ?_) <;> simp [resAs, Tryz.results95, eTm_def] <;> omega) | refine T.r0 fun K hK => ?_ | refine T.r1 fun K hK => ?_ | refine T.ct rfl ?_ | refine T.cf rfl ?_ | refine T.seq ?_ | refine T.block ?_
    by_cases h4 : p.kind = 4
    · rw [show ruleM (tIf p a b) = some b by simp [ruleM, h4]]
      refine ACalls.of_body Tryz.func95 (by kernel_rfl) rfl (by kernel_rfl) (by simp [Tryz.ntmps95]) (by simp) ?_
      rw [Tryz.ntmps95]
      repeat' first | (refine aops_end (hK _ ?_); clear hK K) | (refine aops_go ?_; simp [eTm_def, h4]; (try (refine gen fun q hq => ?_; cases q <;> (try simp [eTm_def, h4] at hq) <;> (try (have hh : True := hq; clear hh hq))))) | (refine T.ret (Done.tup (Or.inr rfl) ?_) <;> simp [resAs, Tryz.results95, eTm_def] <;> omega) | refine T.r0 fun K hK => ?_ | refine T.r1 fun K hK => ?_ | refine T.ct rfl ?_ | refine T.cf rfl ?_ | refine T.seq ?_ | refine T.block ?_
    · rw [show ruleM (tIf p a b) = none by simp [ruleM, h3, h4]]
      refine ACalls.of_body Tryz.func95 (by kernel_rfl) rfl (by kernel_rfl) (by simp [Tryz.ntmps95]) (by simp) ?_
      rw [Tryz.ntmps95]
      repeat' first | (refine aops_end (hK _ ?_); clear hK K) | (refine aops_go ?_; simp [eTm_def, h3, h4]; (try (refine gen fun q hq => ?_; cases q <;> (try simp [eTm_def, h3, h4] at hq) <;> (try (have hh : True := hq; clear hh hq))))) | (refine T.ret (Done.tup (Or.inr rfl) ?_) <;> simp [resAs, Tryz.results95] <;> omega) | refine T.r0 fun K hK => ?_ | refine T.r1 fun K hK => ?_ | refine T.ct rfl ?_ | refine T.cf rfl ?_ | refine T.seq ?_ | refine T.block ?_ | refine T.skip ?_
  · skip
    rcases hk with rfl | rfl | rfl | rfl
    · by_cases h5 : a.kind = 5
      · obtain ⟨s, t, x, rfl⟩ := ha.kind5 h5
        rw [show ruleM (tN2 6 (tLam s t x) b) = some (substM s b x) by simp [ruleM]]
        have k1 := subst_ok b s x (by simp [nTm_mk, nTmS] at hn; omega)
        generalize substM s b x = R at *
        refine ACalls.of_body Tryz.func95 (by kernel_rfl) rfl (by kernel_rfl) (by simp [Tryz.ntmps95]) (by simp) ?_
        rw [Tryz.ntmps95]
        repeat' first | ((first | refine aops_end (hK _ ?_) | refine aopsD_end (hK _ ?_)); clear hK K) | ((first | refine aops_go ?_ | refine aopsD_go ?_); simp [eTm_def]; (try (refine gen fun q hq => ?_; cases q <;> (try simp [eTm_def] at hq) <;> (try (have hh : True := hq; clear hh hq))))) | (refine wpcall_pure ?_ (k1) ?_; (focus (solve | simp [eTm_def])); simp [eTm_def]; (try (refine gen fun q hq => ?_; cases q <;> (try simp [eTm_def] at hq) <;> (try (have hh : True := hq; clear hh hq))))) | (refine T.ret (Done.tup (Or.inr rfl) ?_) <;> simp [resAs, Tryz.results95] <;> omega) | refine T.rd (id := 7) mixed (fun _ => false) [11] (by kernel_rfl) fun K hK => ?_ | refine T.r0 fun K hK => ?_ | refine T.r1 fun K hK => ?_ | refine T.ct rfl ?_ | refine T.seq ?_ | refine T.block ?_
      · rw [show ruleM (tN2 6 a b) = none by simp [ruleM, h5]]
        refine ACalls.of_body Tryz.func95 (by kernel_rfl) rfl (by kernel_rfl) (by simp [Tryz.ntmps95]) (by simp) ?_
        rw [Tryz.ntmps95]
        repeat' first | (refine aops_end (hK _ ?_); clear hK K) | (refine aops_go ?_; simp [eTm_def, h5]; (try (refine gen fun q hq => ?_; cases q <;> (try simp [eTm_def, h5] at hq) <;> (try (have hh : True := hq; clear hh hq))))) | (refine T.ret (Done.tup (Or.inr rfl) ?_) <;> simp [resAs, Tryz.results95] <;> omega) | refine T.r0 fun K hK => ?_ | refine T.r1 fun K hK => ?_ | refine T.ct rfl ?_ | refine T.cf rfl ?_ | refine T.seq ?_ | refine T.block ?_ | refine T.skip ?_
    · by_cases h2 : a.kind = 2 ∧ b.kind = 2
      · obtain ⟨m, rfl, hm1, hm2⟩ := ha.kind2 h2.1
        obtain ⟨n, rfl, hn1, hn2⟩ := hb.kind2 h2.2
        rw [show ruleM (tN2 7 (tNum m) (tNum n)) = some (tNum ((m + n).tmod 1000)) by simp [ruleM]]
        refine ACalls.of_body Tryz.func95 (by kernel_rfl) rfl (by kernel_rfl) (by simp [Tryz.ntmps95]) (by simp) ?_
        rw [Tryz.ntmps95]
        repeat' first | (refine aops_end (hK _ ?_); clear hK K) | (refine aops_go ?_; simp [eTm_def]; (try simp (disch := omega) only [wrap64]); (try (refine gen fun q hq => ?_; cases q <;> (try simp [eTm_def] at hq) <;> (try (have hh : True := hq; clear hh hq))))) | (refine T.ret (Done.tup (Or.inr rfl) ?_) <;> simp [resAs, Tryz.results95] <;> omega) | refine T.r0 fun K hK => ?_ | refine T.r1 fun K hK => ?_ | refine T.ct rfl ?_ | refine T.cf rfl ?_ | refine T.seq ?_ | refine T.block ?_ | refine T.skip ?_
      · rw [show ruleM (tN2 7 a b) = none by simp [ruleM]; omega]
        by_cases ha2 : a.kind = 2
        · have hb2 : ¬ b.kind = 2 := fun h => h2 ⟨ha2, h⟩
          refine ACalls.of_body Tryz.func95 (by kernel_rfl) rfl (by kernel_rfl) (by simp [Tryz.ntmps95]) (by simp) ?_
          rw [Tryz.ntmps95]
          repeat' first | (refine aops_end (hK _ ?_); clear hK K) | (refine aops_go ?_; simp [eTm_def, ha2, hb2]; (try (refine gen fun q hq => ?_; cases q <;> (try simp [eTm_def, ha2, hb2] at hq) <;> (try (have hh : True := hq; clear hh hq))))) | (refine T.ret (Done.tup (Or.inr rfl) ?_) <;> simp [resAs, Tryz.results95] <;> omega) | refine T.r0 fun K hK => ?_ | refine T.r1 fun K hK => ?_ | refine T.ct rfl ?_ | refine T.cf rfl ?_ | refine T.seq ?_ | refine T.block ?_ | refine T.skip ?_
        · refine ACalls.of_body Tryz.func95 (by kernel_rfl) rfl (by kernel_rfl) (by simp [Tryz.ntmps95]) (by simp) ?_
          rw [Tryz.ntmps95]
          repeat' first | (refine aops_end (hK _ ?_); clear hK K) | (refine aops_go ?_; simp [eTm_def, ha2]; (try (refine gen fun q hq => ?_; cases q <;> (try simp [eTm_def, ha2] at hq) <;> (try (have hh : True := hq; clear hh hq))))) | (refine T.ret (Done.tup (Or.inr rfl) ?_) <;> simp [resAs, Tryz.results95] <;> omega) | refine T.r0 fun K hK => ?_ | refine T.r1 fun K hK => ?_ | refine T.ct rfl ?_ | refine T.cf rfl ?_ | refine T.seq ?_ | refine T.block ?_ | refine T.skip ?_
    · by_cases h2 : a.kind = 2 ∧ b.kind = 2
      · obtain ⟨m, rfl, hm1, hm2⟩ := ha.kind2 h2.1
        obtain ⟨n, rfl, hn1, hn2⟩ := hb.kind2 h2.2
        by_cases hmn : m < n
        · rw [show ruleM (tN2 8 (tNum m) (tNum n)) = some tTrue by simp [ruleM, truthM, hmn]]
          have k1 := truth_ok true
          rw [show truthM true = tTrue from rfl] at k1
          refine ACalls.of_body Tryz.func95 (by kernel_rfl) rfl (by kernel_rfl) (by simp [Tryz.ntmps95]) (by simp) ?_
          rw [Tryz.ntmps95]
          repeat' first | (refine aops_end (hK _ ?_); clear hK K) | (refine aops_go ?_; simp [eTm_def, hmn]; (try simp (disch := omega) only [wrap64]); (try (refine gen fun q hq => ?_; cases q <;> (try simp [eTm_def, hmn] at hq) <;> (try (have hh : True := hq; clear hh hq))))) | (refine wpcall_pure rfl (k1) ?_; simp [eTm_def, hmn]; (try simp (disch := omega) only [wrap64]); (try (refine gen fun q hq => ?_; cases q <;> (try simp [eTm_def, hmn] at hq) <;> (try (have hh : True := hq; clear hh hq))))) | (refine T.ret (Done.tup (Or.inr rfl) ?_) <;> simp [resAs, Tryz.results95] <;> omega) | refine T.r0 fun K hK => ?_ | refine T.r1 fun K hK => ?_ | refine T.ct rfl ?_ | refine T.cf rfl ?_ | refine T.seq ?_ | refine T.block ?_
        · rw [show ruleM (tN2 8 (tNum m) (tNum n)) = some tFalse by simp [ruleM, truthM, hmn]]
          have k1 := truth_ok false
          rw [show truthM false = tFalse from rfl] at k1
          refine ACalls.of_body Tryz.func95 (by kernel_rfl) rfl (by kernel_rfl) (by simp [Tryz.ntmps95]) (by simp) ?_
          rw [Tryz.ntmps95]
          repeat' first | (refine aops_end (hK _ ?_); clear hK K) | (refine aops_go ?_; simp [eTm_def, hmn]; (try simp (disch := omega) only [wrap64]); (try (refine gen fun q hq => ?_; cases q <;> (try simp [eTm_def, hmn] at hq) <;> (try (have hh : True := hq; clear hh hq))))) | (refine wpcall_pure rfl (k1) ?_; simp [eTm_def, hmn]; (try simp (disch := omega) only [wrap64]); (try (refine gen fun q hq => ?_; cases q <;> (try simp [eTm_def, hmn] at hq) <;> (try (have hh : True := hq; clear hh hq))))) | (refine T.ret (Done.tup (Or.inr rfl) ?_) <;> simp [resAs, Tryz.results95] <;> omega) | refine T.r0 fun K hK => ?_ | refine T.r1 fun K hK => ?_ | refine T.ct rfl ?_ | refine T.cf rfl ?_ | refine T.seq ?_ | refine T.block ?_
      · rw [show ruleM (tN2 8 a b) = none by simp [ruleM]; omega]
        by_cases ha2 : a.kind = 2
        · have hb2 : ¬ b.kind = 2 := fun h => h2 ⟨ha2, h⟩
          refine ACalls.of_body Tryz.func95 (by kernel_rfl) rfl (by kernel_rfl) (by simp [Tryz.ntmps95]) (by simp) ?_
          rw [Tryz.ntmps95]
          repeat' first | (refine aops_end (hK _ ?_); clear hK K) | (refine aops_go ?_; simp [eTm_def, ha2, hb2]; (try (refine gen fun q hq => ?_; cases q <;> (try simp [eTm_def, ha2, hb2] at hq) <;> (try (have hh : True := hq; clear hh hq))))) | (refine T.ret (Done.tup (Or.inr rfl) ?_) <;> simp [resAs, Tryz.results95] <;> omega) | refine T.r0 fun K hK => ?_ | refine T.r1 fun K hK => ?_ | refine T.ct rfl ?_ | refine T.cf rfl ?_ | refine T.seq ?_ | refine T.block ?_ | refine T.skip ?_
        · refine ACalls.of_body Tryz.func95 (by kernel_rfl) rfl (by kernel_rfl) (by simp [Tryz.ntmps95]) (by simp) ?_
          rw [Tryz.ntmps95]
          repeat' first | (refine aops_end (hK _ ?_); clear hK K) | (refine aops_go ?_; simp [eTm_def, ha2]; (try (refine gen fun q hq => ?_; cases q <;> (try simp [eTm_def, ha2] at hq) <;> (try (have hh : True := hq; clear hh hq))))) | (refine T.ret (Done.tup (Or.inr rfl) ?_) <;> simp [resAs, Tryz.results95] <;> omega) | refine T.r0 fun K hK => ?_ | refine T.r1 fun K hK => ?_ | refine T.ct rfl ?_ | refine T.cf rfl ?_ | refine T.seq ?_ | refine T.block ?_ | refine T.skip ?_
    · rw [show ruleM (tN2 10 a b) = none by simp [ruleM]]
      refine ACalls.of_body Tryz.func95 (by kernel_rfl) rfl (by kernel_rfl) (by simp [Tryz.ntmps95]) (by simp) ?_
      rw [Tryz.ntmps95]
      repeat' first | (refine aops_end (hK _ ?_); clear hK K) | (refine aops_go ?_; simp [eTm_def]; (try (refine gen fun q hq => ?_; cases q <;> (try simp [eTm_def] at hq) <;> (try (have hh : True := hq; clear hh hq))))) | (refine T.ret (Done.tup (Or.inr rfl) ?_) <;> simp [resAs, Tryz.results95] <;> omega) | refine T.r0 fun K hK => ?_ | refine T.r1 fun K hK => ?_ | refine T.ct rfl ?_ | refine T.cf rfl ?_ | refine T.seq ?_ | refine T.block ?_ | refine T.skip ?_

end Go.Proofs.YtgpgcnahoieedaaGreat

namespace Go.Proofs.YtgpgcnahoieedaaGreat
attribute [-simp] Go.Av.astepJ Go.Av.relC Go.Av.relL Go.Av.relV Go.Av.relVs Go.Av.callJ
open Go Go.Av
attribute [local irreducible] T ACalls TX EX LX Draws Some_ ACallsX eTy eTm MTy.kind MTy.kids MTm.kind MTm.name MTm.num MTm.ty MTm.fr MTm.label MTm.kids
attribute [local simp] eTy_def eTm_def
set_option maxHeartbeats 16000000
set_option maxRecDepth 8000

theorem sum_take_le {α : Type} (f : α → Nat) : ∀ (l : List α) (p : Nat), ((l.take p).map f).sum ≤ (l.map f).sum
  | [], p => by simp
  | x :: r, 0 => by simp
  | x :: r, p + 1 => by have := sum_take_le f r p; simp only [List.take_succ_cons, List.map_cons, List.sum_cons]; omega
def cntP (l : List MTy) (p : Nat) : Nat := ((l.take p).map cntM).sum
end Go.Proofs.YtgpgcnahoieedaaGreat

namespace Go.Proofs.YtgpgcnahoieedaaGreat
attribute [-simp] Go.Av.astepJ Go.Av.relC Go.Av.relL Go.Av.relV Go.Av.relVs Go.Av.callJ
open Go Go.Av
attribute [local irreducible] T ACalls TX EX LX Draws Some_ ACallsX eTy eTm MTy.kind MTy.kids MTm.kind MTm.name MTm.num MTm.ty MTm.fr MTm.label MTm.kids
attribute [local simp] eTy_def eTm_def
set_option maxHeartbeats 16000000
set_option maxRecDepth 8000
@[simp] theorem td_intS2 : td Tryz.prog 130 = some { ag := false, sz := 1, by_ := 24, zero := some [.nil], el := some 3, ar := none, fl := [], ik := none, isS := false, isB := false } := keep (by kernel_rfl)

end Go.Proofs.YtgpgcnahoieedaaGreat

namespace Go.Proofs.YtgpgcnahoieedaaGreat
attribute [-simp] Go.Av.astepJ Go.Av.relC Go.Av.relL Go.Av.relV Go.Av.relVs Go.Av.callJ
open Go Go.Av
attribute [local irreducible] T ACalls TX EX LX Draws Some_ ACallsX eTy eTm MTy.kind MTy.kids MTm.kind MTm.name MTm.num MTm.ty MTm.fr MTm.label MTm.kids
attribute [local simp] eTy_def eTm_def
set_option maxHeartbeats 16000000
set_option maxRecDepth 8000

def redM (e : MTm) : Int := if castValidM e = true then ((castsM e).length : Int) - (castsM (simpM e)).length else 0

/-- A copy whose operands the caller may change. -/
abbrev tmOwn (e : MTm) : AV := .agg [.d (.i e.kind), .d (.str e.name), .d (.i e.num), .d (.i e.ty.kind), .d (.sl (e.ty.kids.map eTy)), .d (.i e.fr.kind), .d (.sl (e.fr.kids.map eTy)), .d (.i e.label), .own 0 e.kids.length]
/-- The operands, simplified as_ far as_ a place. -/
def mixM (l : List MTm) (p : Nat) : List MTm := (l.map simpM).take p ++ l.drop p
end Go.Proofs.YtgpgcnahoieedaaGreat

namespace Go.Proofs.YtgpgcnahoieedaaGreat
attribute [-simp] Go.Av.astepJ Go.Av.relC Go.Av.relL Go.Av.relV Go.Av.relVs Go.Av.callJ
open Go Go.Av
attribute [local irreducible] T ACalls TX EX LX Draws Some_ ACallsX eTy eTm MTy.kind MTy.kids MTm.kind MTm.name MTm.num MTm.ty MTm.fr MTm.label MTm.kids
attribute [local simp] eTy_def eTm_def
set_option maxHeartbeats 16000000
set_option maxRecDepth 8000
attribute [local simp] Option.bind

theorem isFuel_ok (n : Int) : ACalls Tryz.prog 19 [.i n] [] (.b (fuelM n)) [] [] := by
  have h : ACalls Tryz.prog 36 [.i n, .i 0, .i 300] [] (.b (fuelM n)) [] [] := by
    rw [fuelM]
    refine ACalls.of_body Tryz.func36 (by kernel_rfl) rfl (by kernel_rfl) (by simp [Tryz.ntmps36]) (by simp) ?_
    rw [Tryz.ntmps36]
    repeat' first | ((first | refine aops_end (hK _ ?_) | refine aopsD_end (hK _ ?_) | refine aopsF_end (hK _ ?_)); clear hK K) | ((first | refine aops_go ?_ | refine aopsD_go ?_ | refine aopsF_go ?_); simp; (try (refine gen fun q hq => ?_; cases q <;> (try simp at hq) <;> (try (have hh : True := hq; clear hh hq))))) | (refine T.ret (Done.data (Or.inr rfl) ?_ ?_) <;> simp [Tryz.results36, *] <;> omega) | refine T.r0 fun K hK => ?_ | refine T.r1 fun K hK => ?_ | (refine ⟨by omega, ?_⟩) | refine T.ct rfl ?_ | refine T.cf rfl ?_ | refine T.seq ?_ | refine T.block ?_ | refine T.skip ?_ | refine T.exit ?_
  refine ACalls.of_body Tryz.func19 (by kernel_rfl) rfl (by kernel_rfl) (by simp [Tryz.ntmps19]) (by simp) ?_
  rw [Tryz.ntmps19]
  repeat' first | ((first | refine aops_end (hK _ ?_) | refine aopsD_end (hK _ ?_) | refine aopsF_end (hK _ ?_)); clear hK K) | ((first | refine aops_go ?_ | refine aopsD_go ?_ | refine aopsF_go ?_); simp; (try (refine gen fun q hq => ?_; cases q <;> (try simp at hq) <;> (try (have hh : True := hq; clear hh hq))))) | (refine wpcall_pure rfl (h) ?_; simp; (try (refine gen fun q hq => ?_; cases q <;> (try simp at hq) <;> (try (have hh : True := hq; clear hh hq))))) | (refine T.ret (Done.data (Or.inr rfl) ?_ ?_) <;> simp [Tryz.results19] <;> omega) | refine T.r0 fun K hK => ?_ | refine T.r1 fun K hK => ?_ | (refine ⟨by omega, ?_⟩) | refine T.ct rfl ?_ | refine T.cf rfl ?_ | refine T.seq ?_ | refine T.block ?_ | refine T.skip ?_ | refine T.exit ?_

abbrev stepR (p : MTm × Int × Int) : List AV := [aTm p.1, .i p.2.1, .i p.2.2]

/-- The step of a term, by the first operand that is no value. -/
theorem stepB_at {e : MTm} {i : Nat} {u : MTm} (h : firstNV (e.kids.take (countsM e)) = some i) (hu : e.kids[i]? = some u) :
    stepB e = (.mk e.kind e.name e.num e.ty e.fr e.label (e.kids.set i (stepB u).1), (stepB u).2.1, (stepB u).2.2) := by
  have : e.kids.getD i zeroE = u := by rw [List.getD_eq_getElem?_getD, hu]; rfl
  rw [stepB_def, stepBS_first, h]
  simp only [this]
theorem stepB_none {e : MTm} (h : firstNV (e.kids.take (countsM e)) = none) : stepB e = match ruleM e with
    | some x => (x, 1, 0)
    | none => (zeroE, 2, wrongM e.kind) := by
  rw [stepB_def, stepBS_first, h]
  cases ruleM e <;> rfl

theorem bareStep_node (e : MTm) (hlen : e.kids.length ≤ 3) (hcnt : countsM e ≤ e.kids.length) (hr : ACalls Tryz.prog 95 [aTm e] [] (.tup (ruleR (ruleM e))) [] []) (hnu : ∀ u ∈ e.kids, nTm u ≤ 1073741824)
    (ih : ∀ u ∈ e.kids, ACalls Tryz.prog 61 [aTm u] [] (.tup (stepR (stepB u))) [] []) : ACalls Tryz.prog 61 [aTm e] [] (.tup (stepR (stepB e))) [] [] := by
  have hc := counts_ok e
  have hw := wrong_ok e
  have hcl := cloneTm_own e.kids (by omega)
  obtain ⟨R, hR⟩ : ∃ R, firstNV (e.kids.take (countsM e)) = R := ⟨_, rfl⟩
  have hat : ∀ i u, e.kids[i]? = some u → R = some i → stepB e = (.mk e.kind e.name e.num e.ty e.fr e.label (e.kids.set i (stepB u).1), (stepB u).2.1, (stepB u).2.2) := fun i u h1 h2 => stepB_at (hR.trans h2) h1
  have hnone : R = none → stepB e = match ruleM e with
    | some x => (x, 1, 0)
    | none => (zeroE, 2, wrongM e.kind) := fun h => stepB_none (hR.trans h)
  generalize stepB e = S at *
  obtain ⟨n, hn⟩ : ∃ n, countsM e = n := ⟨_, rfl⟩
  rw [hn] at hR hcnt hc
  obtain ⟨L, hL⟩ : ∃ L, e.kids.take n = L := ⟨_, rfl⟩
  have hLm : List.take n (List.map eTm e.kids) = L.map eTm := by rw [← hL, List.map_take]
  have hLl : L.length = n := by rw [← hL]; simp; omega
  have hLu : ∀ i u, L[i]? = some u → e.kids[i]? = some u := fun i u h => by
    rw [← hL] at h
    have hi : i < n := by have := (List.getElem?_eq_some_iff.1 h).1; simp at this; omega
    rwa [List.getElem?_take_of_lt hi] at h
  rw [hL] at hR
  have hnl : (n : Int) ≤ e.kids.length := by omega
  subst hLl
  refine ACalls.of_body Tryz.func61 (by kernel_rfl) rfl (by kernel_rfl) (by simp [Tryz.ntmps61]) (by simp) ?_
  rw [Tryz.ntmps61]
  repeat' first | ((first | refine aops_end (hK _ ?_) | refine aopsD_end (hK _ ?_)); clear hK K) | ((first | refine aops_go ?_ | refine aopsD_go ?_); simp [hLm, hnl]; (try (refine gen fun q hq => ?_; cases q <;> (try simp [hLm, hnl] at hq) <;> (try (have hh : True := hq; clear hh hq))))) | (refine wpcall_pure rfl (hc) ?_; simp [hLm, hnl]; (try (refine gen fun q hq => ?_; cases q <;> (try simp [hLm, hnl] at hq) <;> (try (have hh : True := hq; clear hh hq))))) | refine T.rd (id := 1) mixed (fun _ => false) [] (by kernel_rfl) fun K hK => ?_ | refine T.r0 fun K hK => ?_ | refine T.seq ?_ | refine T.block ?_
  refine T.loopK (α := Nat × List (List CV)) [1, 2, 17, 18] (fun x => [(3, .i 0), (4, .i 0), (19, .i x.1)]) (fun x => []) (fun x => x.2) (fun x A => A) (fun x => L.length + 1 - x.1) (fun x => x.1 ≤ L.length ∧ (firstNV (L.drop x.1)).map (· + x.1) = R) (by simp; rfl) (fun x hx => ?_) (0, []) (by simp [hR]) (by simp) (by simp) (by simp)
  obtain ⟨p, G⟩ := x
  obtain ⟨hx, he⟩ := hx
  dsimp only at hx he ⊢
  simp only [ups, List.set_cons_zero, List.set_cons_succ, List.cons_append, List.nil_append, List.append_nil]
  by_cases hlt : p < L.length
  · obtain ⟨u, ht⟩ := get_lt hlt
    have htm : u ∈ L := List.mem_of_getElem? ht
    have hgt : L[p] = u := by rw [List.getElem?_eq_getElem hlt] at ht; exact Option.some.inj ht
    have hdr : L.drop p = u :: L.drop (p + 1) := by rw [List.drop_eq_getElem_cons hlt, hgt]
    have hku := hLu p u ht
    have hum : u ∈ e.kids := List.mem_of_getElem? hku
    have hpk : p < e.kids.length := (List.getElem?_eq_some_iff.1 hku).1
    have hv := isValue_ok u (by have := hnu u hum; omega)
    rw [hdr, firstNV] at he
    cases hb : valM u with
    | true =>
      rw [hb] at hv he
      simp only [if_true, Option.map_map] at he
      have he' : (firstNV (L.drop (p + 1))).map (· + (p + 1)) = R := by rw [← he]; congr 1; funext z; simp; omega
      repeat' first | (refine aops_end (hK _ ?_); clear hK K) | (refine aops_go ?_; simp [hlt, hgt]; (try simp (disch := omega) only [wrap64]); (try (refine gen fun q hq => ?_; cases q <;> (try simp [hlt, hgt] at hq) <;> (try (have hh : True := hq; clear hh hq))))) | (refine wpcall_pure rfl (hv) ?_; simp [hlt, hgt]; (try simp (disch := omega) only [wrap64]); (try (refine gen fun q hq => ?_; cases q <;> (try simp [hlt, hgt] at hq) <;> (try (have hh : True := hq; clear hh hq))))) | (refine ⟨(p + 1, _), by dsimp only; omega, ⟨by dsimp only; omega, he'⟩, rfl, ?_, ?_⟩ <;> simp (disch := omega) [wrap64]) | refine T.r0 fun K hK => ?_ | refine T.r1 fun K hK => ?_ | refine T.ct rfl ?_ | refine T.seq ?_ | refine T.block ?_ | refine T.skip ?_ | refine T.exit ?_
    | false =>
      rw [hb] at hv he
      simp at he
      have hs := hat p u hku he.symm
      have hi := ih u hum
      generalize stepB u = su at *
      obtain ⟨y, cd, lb⟩ := su
      subst hs
      repeat' first | (refine aops_end (hK _ ?_); clear hK K) | (refine aops_go ?_; simp [hlt, hgt, hpk]; (try simp (disch := omega) only [wrap64]); (try (refine gen fun q hq => ?_; cases q <;> (try simp [hlt, hgt, hpk] at hq) <;> (try (have hh : True := hq; clear hh hq))))) | (refine wpcall_pure rfl (hv) ?_; simp [hlt, hgt, hpk]; (try simp (disch := omega) only [wrap64]); (try (refine gen fun q hq => ?_; cases q <;> (try simp [hlt, hgt, hpk] at hq) <;> (try (have hh : True := hq; clear hh hq))))) | (refine wpcall_pure rfl (hi) ?_; simp [hlt, hgt, hpk]; (try simp (disch := omega) only [wrap64]); (try (refine gen fun q hq => ?_; cases q <;> (try simp [hlt, hgt, hpk] at hq) <;> (try (have hh : True := hq; clear hh hq))))) | (refine wpcall_own rfl (hcl) ?_; simp [hlt, hgt, hpk]; (try simp (disch := omega) only [wrap64]); (try (refine gen fun q hq => ?_; cases q <;> (try simp [hlt, hgt, hpk] at hq) <;> (try (have hh : True := hq; clear hh hq))))) | (refine T.ret (Done.tup (Or.inr rfl) ?_) <;> simp [resAs, Tryz.results61, eTm_def, List.map_set] <;> omega) | refine T.r0 fun K hK => ?_ | refine T.ct rfl ?_ | refine T.cf rfl ?_ | refine T.seq ?_ | refine T.block ?_ | refine T.skip ?_
  · have hp' : p = L.length := by omega
    subst hp'
    simp [firstNV] at he
    have hs := hnone he.symm
    cases hq : ruleM e with
    | none =>
      rw [hq] at hs hr
      subst hs
      simp only [ruleR] at hr
      repeat' first | (refine aops_end (hK _ ?_); clear hK K) | (refine aops_go ?_; simp [hlt]; (try (refine gen fun q hq => ?_; cases q <;> (try simp [hlt] at hq) <;> (try (have hh : True := hq; clear hh hq))))) | (refine wpcall_pure rfl (hr) ?_; simp [hlt]; (try (refine gen fun q hq => ?_; cases q <;> (try simp [hlt] at hq) <;> (try (have hh : True := hq; clear hh hq))))) | (refine wpcall_pure rfl (hw) ?_; simp [hlt]; (try (refine gen fun q hq => ?_; cases q <;> (try simp [hlt] at hq) <;> (try (have hh : True := hq; clear hh hq))))) | (refine T.ret (Done.tup (Or.inr rfl) ?_) <;> simp [resAs, Tryz.results61] <;> omega) | refine T.r0 fun K hK => ?_ | refine T.ct rfl ?_ | refine T.cf rfl ?_ | refine T.seq ?_ | refine T.exit ?_
    | some x =>
      rw [hq] at hs hr
      subst hs
      simp only [ruleR] at hr
      repeat' first | (refine aops_end (hK _ ?_); clear hK K) | (refine aops_go ?_; simp [hlt]; (try (refine gen fun q hq => ?_; cases q <;> (try simp [hlt] at hq) <;> (try (have hh : True := hq; clear hh hq))))) | (refine wpcall_pure rfl (hr) ?_; simp [hlt]; (try (refine gen fun q hq => ?_; cases q <;> (try simp [hlt] at hq) <;> (try (have hh : True := hq; clear hh hq))))) | (refine T.ret (Done.tup (Or.inr rfl) ?_) <;> simp [resAs, Tryz.results61] <;> omega) | refine T.r0 fun K hK => ?_ | refine T.cf rfl ?_ | refine T.seq ?_ | refine T.skip ?_ | refine T.exit ?_

theorem counts_le {e : MTm} (hlen : kidsM e.kind = e.kids.length) : countsM e ≤ e.kids.length := by
  rw [countsM]
  split
  · rename_i h
    rw [h] at hlen; simp [kidsM] at hlen; omega
  · exact Nat.le_refl _

theorem bareStep_ok : ∀ (e : MTm) (d : Nat), TmV 13 d e → nTm e ≤ 1073741824 → ACalls Tryz.prog 61 [aTm e] [] (.tup (stepR (stepB e))) [] [] := by
  intro e
  induction e using MTm.ind with
  | h e ih =>
    intro d hv hn
    obtain ⟨d', rfl, _, hlen, _, hk⟩ := shapeTm_kids hv.shape
    have hnu : ∀ u ∈ e.kids, nTm u ≤ 1073741824 := fun u hu => by have := nTmS_mem hu; rw [nTm_def] at hn; omega
    exact bareStep_node e (by have := kidsM_le e.kind; omega) (counts_le hlen) (rule_ok e _ hv hn) hnu (fun u hu => ih u hu d' (TmV.of (hk u hu)) (hnu u hu))

abbrev runR (p : MTm × Int × Int × Int) : List AV := [aTm p.1, .i p.2.1, .i p.2.2.1, .i p.2.2.2]

end Go.Proofs.YtgpgcnahoieedaaGreat
