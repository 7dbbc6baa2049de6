/- A part of the library of this seat. -/
import Derived.Test.YtflmjilnecanhaaGreatDoorB10
set_option linter.unusedVariables false
set_option linter.unusedSimpArgs false
namespace Go.Proofs.YtflmjilnecanhaaGreatDoor
open Go Go.Av
attribute [local irreducible] T ACalls TX EX LX Draws Some_ ACallsX eTy eTm MTy.kind MTy.kids MTm.kind MTm.name MTm.num MTm.ty MTm.fr MTm.label MTm.kids
attribute [local simp] eTy_def eTm_def
set_option maxHeartbeats 16000000
set_option maxRecDepth 8000


theorem subst_nm (e v : MTm) (x : List UInt8) (hx : ¬ e.name = x) (hn : e.kids.length <= 1099511627776)
  (ih : ∀ u ∈ e.kids, ACalls Tryz.prog 296 [aTm u, .s x, aTm v] [] (aTm (substM x v u)) [] []) :
  ACalls Tryz.prog 296 [aTm e, .s x, aTm v] [] (aTm (.mk e.kind e.name e.num e.ty e.fr e.label (e.kids.map (substM x v)))) [] [] := by
 refine ACalls.of_body Tryz.func296 (by kernel_rfl) rfl (by kernel_rfl) (by simp [Tryz.ntmps296]) (by simp) ?_
 rw [Tryz.ntmps296]
 repeat' first | (refine aops_end (hK _ ?_); clear hK K) | (refine aops_go ?_; simp [hx]; (try (refine gen fun q hq => ?_; cases q <;> (try simp [hx] at hq) <;> (try (have hh : True := hq; clear hh hq))))) | refine T.r0 fun K hK => ?_ | refine T.cf rfl ?_ | refine T.seq ?_ | refine T.block ?_ | refine T.skip ?_
 all_goals refine T.ownifyObj 3 8 9 46 rfl rfl ?_
 all_goals refine T.loopK (α := Nat × List (List CV)) [1, 5, 6, 7, 35, 36] (fun x => [(37, .i x.1)]) (fun x => [(3, [.d (.i e.kind), .d (.str e.name), .d (.i e.num), .d (.i e.ty.kind), .d (.sl (e.ty.kids.map eTy)), .d (.i e.fr.kind), .d (.sl (e.fr.kids.map eTy)), .d (.i e.label), .own 0 x.1])]) (fun x => x.2) (fun y _ => [{ sz := 9, ety := 46, rows := ((e.kids.map (substM x v)).take y.1).map eTm, wr := true }]) (fun x => e.kids.length + 1 - x.1) (fun x => x.1 <= e.kids.length) (by simp; rfl) (fun y hy => ?_) (0, []) (by simp) (by simp) (by simp) (by simp)
 all_goals
  obtain ⟨p, G⟩ := y
  dsimp only at hy ⊢
  simp only [ups, List.set_cons_zero, List.set_cons_succ, List.cons_append, List.nil_append]
  have hwl : (e.kids.map (substM x v)).length = e.kids.length := by simp
  by_cases hlt : p < e.kids.length
  ·obtain ⟨u, ht⟩ := get_lt hlt
   have htm : u ∈ e.kids := List.mem_of_getElem? ht
   have hgt : e.kids[p] = u := by rw [List.getElem?_eq_getElem hlt] at ht; exact Option.some.inj ht
   have hdr : e.kids.drop p = u :: e.kids.drop (p + 1) := by rw [List.drop_eq_getElem_cons hlt, hgt]
   have hu := ih u htm
   have htk : (e.kids.map (substM x v)).take (p + 1) = (e.kids.map (substM x v)).take p ++ [substM x v u] := by rw [List.take_add_one, List.getElem?_map, ht]; rfl
   have hlm : min p e.kids.length = p := by omega
   generalize (e.kids.map (substM x v)) = Z at *
   generalize substM x v u = wu at *
   repeat' first | ((first | refine aops_end (hK _ ?_) | refine aopsD_end (hK _ ?_)); clear hK K) | ((first | refine aops_go ?_ | refine aopsD_go ?_); simp [hlt, hgt, hlm, hwl]; (try simp (disch := omega) only [wrap64]); (try (refine gen fun q hq => ?_; cases q <;> (try simp [hlt, hgt, hlm, hwl] at hq) <;> (try (have hh : True := hq; clear hh hq))))) | (refine wpcall_pure rfl (hu) ?_; simp [hlt, hgt, hlm, hwl]; (try simp (disch := omega) only [wrap64]); (try (refine gen fun q hq => ?_; cases q <;> (try simp [hlt, hgt, hlm, hwl] at hq) <;> (try (have hh : True := hq; clear hh hq))))) | (refine ⟨(p + 1, _), by dsimp only; omega, by dsimp only; omega, rfl, ?_, ?_⟩ <;> simp (disch := omega) [wrap64, htk, eTm_def]) | refine T.rd1 (id := 10) mixed (fun _ => false) [7, 9] (by kernel_rfl) fun K hK => ?_ | refine T.r0 fun K hK => ?_ | refine T.r1 fun K hK => ?_ | (refine ⟨by omega, ?_⟩) | refine T.ct rfl ?_ | refine T.seq ?_ | refine T.block ?_ | refine T.skip ?_
  ·have hp' : p = e.kids.length := by omega
   subst hp'
   rw [List.take_of_length_le (by omega)]
   generalize (e.kids.map (substM x v)) = Z at *
   repeat' first | (refine aops_end (hK _ ?_); clear hK K) | (refine aops_go ?_; simp [hlt, hwl]; (try (refine gen fun q hq => ?_; cases q <;> (try simp [hlt, hwl] at hq) <;> (try (have hh : True := hq; clear hh hq))))) | (refine T.ret (Done.val (Or.inr rfl) ?_) <;> simp [resAs, Tryz.results296, eTm_def, hwl] <;> omega) | refine T.r0 fun K hK => ?_ | refine T.cf rfl ?_ | refine T.seq ?_ | refine T.exit ?_

theorem subst_kd (e v : MTm) (x : List UInt8) (h1 : ¬ e.kind = 1) (h5 : ¬ e.kind = 5) (hn : e.kids.length <= 1099511627776)
  (ih : ∀ u ∈ e.kids, ACalls Tryz.prog 296 [aTm u, .s x, aTm v] [] (aTm (substM x v u)) [] []) :
  ACalls Tryz.prog 296 [aTm e, .s x, aTm v] [] (aTm (.mk e.kind e.name e.num e.ty e.fr e.label (e.kids.map (substM x v)))) [] [] := by
 refine ACalls.of_body Tryz.func296 (by kernel_rfl) rfl (by kernel_rfl) (by simp [Tryz.ntmps296]) (by simp) ?_
 rw [Tryz.ntmps296]
 repeat' first | (refine aops_end (hK _ ?_); clear hK K) | (refine aops_go ?_; simp [h1, h5]; (try (refine gen fun q hq => ?_; cases q <;> (try simp [h1, h5] at hq) <;> (try (have hh : True := hq; clear hh hq))))) | refine T.r0 fun K hK => ?_ | refine T.cf rfl ?_ | refine T.seq ?_ | refine T.block ?_ | refine T.skip ?_
 all_goals refine T.ownifyObj 3 8 9 46 rfl rfl ?_
 all_goals refine T.loopK (α := Nat × List (List CV)) [1, 5, 6, 7, 35, 36] (fun x => [(37, .i x.1)]) (fun x => [(3, [.d (.i e.kind), .d (.str e.name), .d (.i e.num), .d (.i e.ty.kind), .d (.sl (e.ty.kids.map eTy)), .d (.i e.fr.kind), .d (.sl (e.fr.kids.map eTy)), .d (.i e.label), .own 0 x.1])]) (fun x => x.2) (fun y _ => [{ sz := 9, ety := 46, rows := ((e.kids.map (substM x v)).take y.1).map eTm, wr := true }]) (fun x => e.kids.length + 1 - x.1) (fun x => x.1 <= e.kids.length) (by simp; rfl) (fun y hy => ?_) (0, []) (by simp) (by simp) (by simp) (by simp)
 all_goals
  obtain ⟨p, G⟩ := y
  dsimp only at hy ⊢
  simp only [ups, List.set_cons_zero, List.set_cons_succ, List.cons_append, List.nil_append]
  have hwl : (e.kids.map (substM x v)).length = e.kids.length := by simp
  by_cases hlt : p < e.kids.length
  ·obtain ⟨u, ht⟩ := get_lt hlt
   have htm : u ∈ e.kids := List.mem_of_getElem? ht
   have hgt : e.kids[p] = u := by rw [List.getElem?_eq_getElem hlt] at ht; exact Option.some.inj ht
   have hdr : e.kids.drop p = u :: e.kids.drop (p + 1) := by rw [List.drop_eq_getElem_cons hlt, hgt]
   have hu := ih u htm
   have htk : (e.kids.map (substM x v)).take (p + 1) = (e.kids.map (substM x v)).take p ++ [substM x v u] := by rw [List.take_add_one, List.getElem?_map, ht]; rfl
   have hlm : min p e.kids.length = p := by omega
   generalize (e.kids.map (substM x v)) = Z at *
   generalize substM x v u = wu at *
   repeat' first | ((first | refine aops_end (hK _ ?_) | refine aopsD_end (hK _ ?_)); clear hK K) | ((first | refine aops_go ?_ | refine aopsD_go ?_); simp [hlt, hgt, hlm, hwl]; (try simp (disch := omega) only [wrap64]); (try (refine gen fun q hq => ?_; cases q <;> (try simp [hlt, hgt, hlm, hwl] at hq) <;> (try (have hh : True := hq; clear hh hq))))) | (refine wpcall_pure rfl (hu) ?_; simp [hlt, hgt, hlm, hwl]; (try simp (disch := omega) only [wrap64]); (try (refine gen fun q hq => ?_; cases q <;> (try simp [hlt, hgt, hlm, hwl] at hq) <;> (try (have hh : True := hq; clear hh hq))))) | (refine ⟨(p + 1, _), by dsimp only; omega, by dsimp only; omega, rfl, ?_, ?_⟩ <;> simp (disch := omega) [wrap64, htk, eTm_def]) | refine T.rd1 (id := 10) mixed (fun _ => false) [7, 9] (by kernel_rfl) fun K hK => ?_ | refine T.r0 fun K hK => ?_ | refine T.r1 fun K hK => ?_ | (refine ⟨by omega, ?_⟩) | refine T.ct rfl ?_ | refine T.seq ?_ | refine T.block ?_ | refine T.skip ?_
  ·have hp' : p = e.kids.length := by omega
   subst hp'
   rw [List.take_of_length_le (by omega)]
   generalize (e.kids.map (substM x v)) = Z at *
   repeat' first | (refine aops_end (hK _ ?_); clear hK K) | (refine aops_go ?_; simp [hlt, hwl]; (try (refine gen fun q hq => ?_; cases q <;> (try simp [hlt, hwl] at hq) <;> (try (have hh : True := hq; clear hh hq))))) | (refine T.ret (Done.val (Or.inr rfl) ?_) <;> simp [resAs, Tryz.results296, eTm_def, hwl] <;> omega) | refine T.r0 fun K hK => ?_ | refine T.cf rfl ?_ | refine T.seq ?_ | refine T.exit ?_

theorem subst_ok (v : MTm) (x : List UInt8) : ∀ (e : MTm), nTm e <= 1099511627776 -> ACalls Tryz.prog 296 [aTm e, .s x, aTm v] [] (aTm (substM x v e)) [] [] := by
 intro e
 induction e using MTm.ind with
 | h e ih =>
  intro hn
  obtain ⟨_, _, hnk, hnu⟩ := nTm_parts hn
  have ih' := fun u hu => ih u hu (hnu u hu)
  rw [substM_def]
  by_cases hx : e.name = x
  ·by_cases h1 : e.kind = 1
   ·simp only [h1, hx, and_self, if_true]
    refine ACalls.of_body Tryz.func296 (by kernel_rfl) rfl (by kernel_rfl) (by simp [Tryz.ntmps296]) (by simp) ?_
    rw [Tryz.ntmps296]
    repeat' first | (refine aops_end (hK _ ?_); clear hK K) | (refine aops_go ?_; simp [h1, hx]; (try (refine gen fun q hq => ?_; cases q <;> (try simp [h1, hx] at hq) <;> (try (have hh : True := hq; clear hh hq))))) | (refine T.ret (Done.val (Or.inr rfl) ?_) <;> simp [resAs, Tryz.results296] <;> omega) | refine T.r0 fun K hK => ?_ | refine T.ct rfl ?_ | refine T.seq ?_ | refine T.block ?_
   ·by_cases h5 : e.kind = 5
    ·rw [if_neg (by simp [h1]), if_pos ⟨h5, hx⟩]
     refine ACalls.of_body Tryz.func296 (by kernel_rfl) rfl (by kernel_rfl) (by simp [Tryz.ntmps296]) (by simp) ?_
     rw [Tryz.ntmps296]
     repeat' first | (refine aops_end (hK _ ?_); clear hK K) | (refine aops_go ?_; simp [h1, h5, hx]; (try (refine gen fun q hq => ?_; cases q <;> (try simp [h1, h5, hx] at hq) <;> (try (have hh : True := hq; clear hh hq))))) | (refine T.ret (Done.val (Or.inr rfl) ?_) <;> simp [resAs, Tryz.results296, h5, hx] <;> omega) | refine T.r0 fun K hK => ?_ | refine T.ct rfl ?_ | refine T.cf rfl ?_ | refine T.seq ?_ | refine T.block ?_
    ·rw [if_neg (by simp [h1]), if_neg (by simp [h5])]
     exact subst_kd e v x h1 h5 hnk ih'
  ·rw [if_neg (by simp [hx]), if_neg (by simp [hx])]
   exact subst_nm e v x hx hnk ih'

end Go.Proofs.YtflmjilnecanhaaGreatDoor

namespace Go.Proofs.YtflmjilnecanhaaGreatDoor
open Go Go.Av
attribute [local irreducible] T ACalls TX EX LX Draws Some_ ACallsX eTy eTm MTy.kind MTy.kids MTm.kind MTm.name MTm.num MTm.ty MTm.fr MTm.label MTm.kids
attribute [local simp] eTy_def eTm_def
set_option maxHeartbeats 16000000
set_option maxRecDepth 8000
attribute [local simp] Option.bind

theorem cloneTm_own (l : List MTm) (hl : l.length <= 1073741824) : ACalls Tryz.prog 280 [.l (l.map eTm)] [] (.c (.own 0 l.length)) [] [{ sz := 9, ety := 46, rows := l.map eTm, wr := true }] := by
 refine ACalls.of_body Tryz.func280 (by kernel_rfl) rfl (by kernel_rfl) (by simp [Tryz.ntmps280]) (by simp) ?_
 rw [Tryz.ntmps280]
 refine T.rs (fun _ => false) fun K hK => ?_
 refine aops_go ?_
 simp
 refine aops_end (hK _ ?_)
 clear hK K
 refine T.seq ?_
 refine T.eqNil rfl rfl rfl rfl rfl rfl td_implTermS rfl (by simp; rfl) fun bb hbb => ?_
 cases bb
 ·repeat' first | (refine aops_end (hK _ ?_); clear hK K) | (refine aops_go ?_; simp [eTm_def]; (try (refine gen fun q hq => ?_; cases q <;> (try simp [eTm_def] at hq) <;> (try (have hh : True := hq; clear hh hq))))) | (refine ⟨by omega, by omega, ?_⟩) | refine T.rs (id := 3) (fun i => i == 0) fun K hK => ?_ | refine T.cf rfl ?_ | refine T.skip ?_
  refine T.ret (Done.own1 0 (Or.inr rfl) (ys := [_]) ?_ rfl ?_) <;> simp [resAs, Tryz.results280, eTm_def] <;> rfl
 ·have : l = [] := by simpa using hbb rfl
  subst this
  refine T.cond rfl (fun hcnd => ?_) (fun hcnd => absurd hcnd (by decide))
  refine T.rs (fun _ => false) fun K hK => ?_
  refine aops_go ?_
  simp
  refine aops_end (hK _ ?_)
  clear hK K
  refine T.ownify 2 9 46 (by simp) ?_
  refine T.ret (Done.own1 0 (Or.inr rfl) (ys := [_]) ?_ rfl ?_) <;> simp [resAs, Tryz.results280]

theorem ground_ok (k : Int) : ACalls Tryz.prog 300 [.i k] [] (aTy (groundT k)) [] [] := by
 have h1 := base_ok 1
 by_cases h4 : k = 4
 ·subst h4
  rw [show groundT 4 = .mk 4 [anyT, anyT] from rfl]
  have h2 := both_ok 4 anyT anyT
  refine ACalls.of_body Tryz.func300 (by kernel_rfl) rfl (by kernel_rfl) (by simp [Tryz.ntmps300]) (by simp) ?_
  rw [Tryz.ntmps300]
  repeat' first | (refine aops_end (hK _ ?_); clear hK K) | (refine aops_go ?_; simp; (try (refine gen fun q hq => ?_; cases q <;> (try simp at hq) <;> (try (have hh : True := hq; clear hh hq))))) | (refine wpcall_pure rfl (h1) ?_; simp; (try (refine gen fun q hq => ?_; cases q <;> (try simp at hq) <;> (try (have hh : True := hq; clear hh hq))))) | (refine wpcall_pure ?_ (h2) ?_; (focus (solve | simp)); simp; (try (refine gen fun q hq => ?_; cases q <;> (try simp at hq) <;> (try (have hh : True := hq; clear hh hq))))) | (refine T.ret (Done.val (Or.inr rfl) ?_) <;> simp [resAs, Tryz.results300] <;> omega) | refine T.r0 fun K hK => ?_ | refine T.ct rfl ?_ | refine T.seq ?_
 by_cases h5 : k = 5
 ·subst h5
  rw [show groundT 5 = .mk 5 [anyT, anyT] from rfl]
  have h2 := both_ok 5 anyT anyT
  refine ACalls.of_body Tryz.func300 (by kernel_rfl) rfl (by kernel_rfl) (by simp [Tryz.ntmps300]) (by simp) ?_
  rw [Tryz.ntmps300]
  repeat' first | (refine aops_end (hK _ ?_); clear hK K) | (refine aops_go ?_; simp; (try (refine gen fun q hq => ?_; cases q <;> (try simp at hq) <;> (try (have hh : True := hq; clear hh hq))))) | (refine wpcall_pure rfl (h1) ?_; simp; (try (refine gen fun q hq => ?_; cases q <;> (try simp at hq) <;> (try (have hh : True := hq; clear hh hq))))) | (refine wpcall_pure ?_ (h2) ?_; (focus (solve | simp)); simp; (try (refine gen fun q hq => ?_; cases q <;> (try simp at hq) <;> (try (have hh : True := hq; clear hh hq))))) | (refine T.ret (Done.val (Or.inr rfl) ?_) <;> simp [resAs, Tryz.results300] <;> omega) | refine T.r0 fun K hK => ?_ | refine T.ct rfl ?_ | refine T.seq ?_
 ·rw [show groundT k = .mk k [] by simp [groundT, h4, h5]]
  have h3 := base_ok k
  refine ACalls.of_body Tryz.func300 (by kernel_rfl) rfl (by kernel_rfl) (by simp [Tryz.ntmps300]) (by simp) ?_
  rw [Tryz.ntmps300]
  repeat' first | (refine aops_end (hK _ ?_); clear hK K) | (refine aops_go ?_; simp [h4, h5]; (try (refine gen fun q hq => ?_; cases q <;> (try simp [h4, h5] at hq) <;> (try (have hh : True := hq; clear hh hq))))) | (refine wpcall_pure rfl (h3) ?_; simp [h4, h5]; (try (refine gen fun q hq => ?_; cases q <;> (try simp [h4, h5] at hq) <;> (try (have hh : True := hq; clear hh hq))))) | (refine T.ret (Done.val (Or.inr rfl) ?_) <;> simp [resAs, Tryz.results300] <;> omega) | refine T.r0 fun K hK => ?_ | refine T.cf rfl ?_ | refine T.seq ?_ | refine T.skip ?_

theorem isGround_ok (t : MTy) (hn : nTy t <= 1099511627776) : ACalls Tryz.prog 294 [aTy t] [] (.b (isGroundM t)) [] [] := by
 have h1 := ground_ok t.kind
 have h2 := TypeSame_ok t (groundT t.kind) hn
 rw [isGroundM]
 generalize sameTy t (groundT t.kind) = q at *
 generalize groundT t.kind = G at *
 by_cases hk : t.kind = 1
 ·simp only [hk, ne_eq, not_true_eq_false, decide_false, Bool.false_and]
  refine ACalls.of_body Tryz.func294 (by kernel_rfl) rfl (by kernel_rfl) (by simp [Tryz.ntmps294]) (by simp) ?_
  rw [Tryz.ntmps294]
  repeat' first | ((first | refine aops_end (hK _ ?_) | refine aopsD_end (hK _ ?_)); clear hK K) | ((first | refine aops_go ?_ | refine aopsD_go ?_); simp [hk]; (try (refine gen fun q hq => ?_; cases q <;> (try simp [hk] at hq) <;> (try (have hh : True := hq; clear hh hq))))) | (refine T.ret (Done.data (Or.inr rfl) ?_ ?_) <;> simp [Tryz.results294] <;> omega) | refine T.rd (id := 1) mixed (fun _ => false) [] (by kernel_rfl) fun K hK => ?_ | refine T.r0 fun K hK => ?_
 ·simp only [hk, ne_eq, not_false_eq_true, decide_true, Bool.true_and]
  refine ACalls.of_body Tryz.func294 (by kernel_rfl) rfl (by kernel_rfl) (by simp [Tryz.ntmps294]) (by simp) ?_
  rw [Tryz.ntmps294]
  repeat' first | ((first | refine aops_end (hK _ ?_) | refine aopsD_end (hK _ ?_)); clear hK K) | ((first | refine aops_go ?_ | refine aopsD_go ?_); simp [hk]; (try (refine gen fun q hq => ?_; cases q <;> (try simp [hk] at hq) <;> (try (have hh : True := hq; clear hh hq))))) | (refine wpcall_pure rfl (h1) ?_; simp [hk]; (try (refine gen fun q hq => ?_; cases q <;> (try simp [hk] at hq) <;> (try (have hh : True := hq; clear hh hq))))) | (refine wpcall_pure rfl (h2) ?_; simp [hk]; (try (refine gen fun q hq => ?_; cases q <;> (try simp [hk] at hq) <;> (try (have hh : True := hq; clear hh hq))))) | (refine T.ret (Done.data (Or.inr rfl) ?_ ?_) <;> simp [Tryz.results294, *] <;> omega) | refine T.rd (id := 1) mixed (fun _ => false) [] (by kernel_rfl) fun K hK => ?_ | refine T.r0 fun K hK => ?_

theorem isProxy_ok (e : MTm) : ACalls Tryz.prog 162 [aTm e] [] (.b (proxyM e)) [] [] := by
 rw [proxyM]
 refine ACalls.of_body Tryz.func162 (by kernel_rfl) rfl (by kernel_rfl) (by simp [Tryz.ntmps162]) (by simp) ?_
 rw [Tryz.ntmps162]
 repeat' first | (refine aops_end (hK _ ?_); clear hK K) | (refine aops_go ?_; simp; (try (refine gen fun q hq => ?_; cases q <;> (try simp at hq) <;> (try (have hh : True := hq; clear hh hq))))) | (refine T.ret (Done.data (Or.inr rfl) ?_ ?_) <;> simp [Tryz.results162, *] <;> omega) | refine T.r0 fun K hK => ?_

theorem isInjection_ok (e : MTm) (hn : nTy e.fr <= 1099511627776) : ACalls Tryz.prog 275 [aTm e] [] (.b (injM e)) [] [] := by
 have h1 := isGround_ok e.fr hn
 rw [injM]
 generalize isGroundM e.fr = q at *
 refine ACalls.of_body Tryz.func275 (by kernel_rfl) rfl (by kernel_rfl) (by simp [Tryz.ntmps275]) (by simp) ?_
 rw [Tryz.ntmps275]
 repeat' first | (refine aops_end (hK _ ?_); clear hK K) | (refine aops_go ?_; simp; (try (refine gen fun q hq => ?_; cases q <;> (try simp at hq) <;> (try (have hh : True := hq; clear hh hq))))) | (refine wpcall_pure rfl (h1) ?_; simp; (try (refine gen fun q hq => ?_; cases q <;> (try simp at hq) <;> (try (have hh : True := hq; clear hh hq))))) | (refine T.ret (Done.data (Or.inr rfl) ?_ ?_) <;> simp [Tryz.results275, *] <;> omega) | refine T.r0 fun K hK => ?_

theorem isPlain_ok (e : MTm) : ACalls Tryz.prog 278 [aTm e] [] (.b (plainM e)) [] [] := by
 rw [plainM]
 refine ACalls.of_body Tryz.func278 (by kernel_rfl) rfl (by kernel_rfl) (by simp [Tryz.ntmps278]) (by simp) ?_
 rw [Tryz.ntmps278]
 repeat' first | (refine aops_end (hK _ ?_); clear hK K) | (refine aops_go ?_; simp; (try (refine gen fun q hq => ?_; cases q <;> (try simp at hq) <;> (try (have hh : True := hq; clear hh hq))))) | (refine T.ret (Done.data (Or.inr rfl) ?_ ?_) <;> simp [Tryz.results278, *] <;> omega) | refine T.r0 fun K hK => ?_

theorem isValue1_ok (e : MTm) (q : Bool) (h : ACalls Tryz.prog 252 [aTm e] [] (.b q) [] []) : ACalls Tryz.prog 277 [aTm e] [] (.b (!q)) [] [] := by
 refine ACalls.of_body Tryz.func277 (by kernel_rfl) rfl (by kernel_rfl) (by simp [Tryz.ntmps277]) (by simp) ?_
 rw [Tryz.ntmps277]
 repeat' first | (refine aops_end (hK _ ?_); clear hK K) | (refine aops_go ?_; simp) | (refine wpcall_pure rfl (h) ?_; simp) | (refine T.ret (Done.data (Or.inr rfl) ?_ ?_) <;> simp [Tryz.results277] <;> omega) | refine T.r0 fun K hK => ?_

theorem isValue_ok : ∀ (e : MTm), nTm e <= 1099511627776 -> ACalls Tryz.prog 252 [aTm e] [] (.b (valM e)) [] [] := by
 intro e
 induction e using MTm.ind with
 | h e ih =>
  intro hn
  obtain ⟨hnt, hnf, hnk, hnu⟩ := nTm_parts hn
  have hcf := containsFuncTm_0 277 e.kids (fun t => !valM t) (by omega) (fun u hu => isValue1_ok u _ (ih u hu (hnu u hu)))
  have h1 := isProxy_ok e
  have h2 := isInjection_ok e hnf
  have h3 := isPlain_ok e
  rw [valM_def, <- not_any_not]
  generalize (e.kids.any fun t => !valM t) = R at hcf ⊢
  generalize proxyM e = q1 at *
  generalize injM e = q2 at *
  generalize plainM e = q3 at *
  by_cases hk : e.kind = 10
  ·simp only [hk, decide_true, Bool.true_or, if_true]
   refine ACalls.of_body Tryz.func252 (by kernel_rfl) rfl (by kernel_rfl) (by simp [Tryz.ntmps252]) (by simp) ?_
   rw [Tryz.ntmps252]
   repeat' first | (refine aops_end (hK _ ?_); clear hK K) | (refine aops_go ?_; simp [hk]; (try (refine gen fun q hq => ?_; cases q <;> (try simp [hk] at hq) <;> (try (have hh : True := hq; clear hh hq))))) | (refine wpcall_pure rfl (hcf) ?_; simp [hk]; (try (refine gen fun q hq => ?_; cases q <;> (try simp [hk] at hq) <;> (try (have hh : True := hq; clear hh hq))))) | (refine T.ret (Done.data (Or.inr rfl) ?_ ?_) <;> simp [Tryz.results252, *] <;> omega) | refine T.r0 fun K hK => ?_ | refine T.ct rfl ?_ | refine T.seq ?_
  ·simp only [hk, decide_false, Bool.false_or]
   cases q1
   ·cases q2
    ·simp only [Bool.or_self, Bool.false_eq_true, if_false]
     refine ACalls.of_body Tryz.func252 (by kernel_rfl) rfl (by kernel_rfl) (by simp [Tryz.ntmps252]) (by simp) ?_
     rw [Tryz.ntmps252]
     repeat' first | (refine aops_end (hK _ ?_); clear hK K) | (refine aops_go ?_; simp [hk]; (try (refine gen fun q hq => ?_; cases q <;> (try simp [hk] at hq) <;> (try (have hh : True := hq; clear hh hq))))) | (refine wpcall_pure rfl (h1) ?_; simp [hk]; (try (refine gen fun q hq => ?_; cases q <;> (try simp [hk] at hq) <;> (try (have hh : True := hq; clear hh hq))))) | (refine wpcall_pure rfl (h2) ?_; simp [hk]; (try (refine gen fun q hq => ?_; cases q <;> (try simp [hk] at hq) <;> (try (have hh : True := hq; clear hh hq))))) | (refine wpcall_pure rfl (h3) ?_; simp [hk]; (try (refine gen fun q hq => ?_; cases q <;> (try simp [hk] at hq) <;> (try (have hh : True := hq; clear hh hq))))) | (refine T.ret (Done.data (Or.inr rfl) ?_ ?_) <;> simp [Tryz.results252, *] <;> omega) | refine T.r0 fun K hK => ?_ | refine T.cf rfl ?_ | refine T.seq ?_ | refine T.skip ?_
    ·simp only [Bool.or_true, if_true]
     refine ACalls.of_body Tryz.func252 (by kernel_rfl) rfl (by kernel_rfl) (by simp [Tryz.ntmps252]) (by simp) ?_
     rw [Tryz.ntmps252]
     repeat' first | (refine aops_end (hK _ ?_); clear hK K) | (refine aops_go ?_; simp [hk]; (try (refine gen fun q hq => ?_; cases q <;> (try simp [hk] at hq) <;> (try (have hh : True := hq; clear hh hq))))) | (refine wpcall_pure rfl (h1) ?_; simp [hk]; (try (refine gen fun q hq => ?_; cases q <;> (try simp [hk] at hq) <;> (try (have hh : True := hq; clear hh hq))))) | (refine wpcall_pure rfl (h2) ?_; simp [hk]; (try (refine gen fun q hq => ?_; cases q <;> (try simp [hk] at hq) <;> (try (have hh : True := hq; clear hh hq))))) | (refine wpcall_pure rfl (hcf) ?_; simp [hk]; (try (refine gen fun q hq => ?_; cases q <;> (try simp [hk] at hq) <;> (try (have hh : True := hq; clear hh hq))))) | (refine T.ret (Done.data (Or.inr rfl) ?_ ?_) <;> simp [Tryz.results252, *] <;> omega) | refine T.r0 fun K hK => ?_ | refine T.ct rfl ?_ | refine T.seq ?_
   ·simp only [Bool.true_or, if_true]
    refine ACalls.of_body Tryz.func252 (by kernel_rfl) rfl (by kernel_rfl) (by simp [Tryz.ntmps252]) (by simp) ?_
    rw [Tryz.ntmps252]
    repeat' first | (refine aops_end (hK _ ?_); clear hK K) | (refine aops_go ?_; simp [hk]; (try (refine gen fun q hq => ?_; cases q <;> (try simp [hk] at hq) <;> (try (have hh : True := hq; clear hh hq))))) | (refine wpcall_pure rfl (h1) ?_; simp [hk]; (try (refine gen fun q hq => ?_; cases q <;> (try simp [hk] at hq) <;> (try (have hh : True := hq; clear hh hq))))) | (refine wpcall_pure rfl (hcf) ?_; simp [hk]; (try (refine gen fun q hq => ?_; cases q <;> (try simp [hk] at hq) <;> (try (have hh : True := hq; clear hh hq))))) | (refine T.ret (Done.data (Or.inr rfl) ?_ ?_) <;> simp [Tryz.results252, *] <;> omega) | refine T.r0 fun K hK => ?_ | refine T.ct rfl ?_ | refine T.seq ?_

theorem counts_ok (e : MTm) : ACalls Tryz.prog 279 [aTm e] [] (.i (countsM e)) [] [] := by
 by_cases hk : e.kind = 9
 ·rw [show countsM e = 1 by simp [countsM, hk]]
  refine ACalls.of_body Tryz.func279 (by kernel_rfl) rfl (by kernel_rfl) (by simp [Tryz.ntmps279]) (by simp) ?_
  rw [Tryz.ntmps279]
  repeat' first | (refine aops_end (hK _ ?_); clear hK K) | (refine aops_go ?_; simp [hk]; (try (refine gen fun q hq => ?_; cases q <;> (try simp [hk] at hq) <;> (try (have hh : True := hq; clear hh hq))))) | (refine T.ret (Done.data (Or.inr rfl) ?_ ?_) <;> simp [Tryz.results279] <;> omega) | refine T.r0 fun K hK => ?_ | refine T.ct rfl ?_ | refine T.seq ?_
 ·rw [show countsM e = e.kids.length by simp [countsM, hk]]
  refine ACalls.of_body Tryz.func279 (by kernel_rfl) rfl (by kernel_rfl) (by simp [Tryz.ntmps279]) (by simp) ?_
  rw [Tryz.ntmps279]
  repeat' first | (refine aops_end (hK _ ?_); clear hK K) | (refine aops_go ?_; simp [hk]; (try (refine gen fun q hq => ?_; cases q <;> (try simp [hk] at hq) <;> (try (have hh : True := hq; clear hh hq))))) | (refine T.ret (Done.data (Or.inr rfl) ?_ ?_) <;> simp [Tryz.results279] <;> omega) | refine T.r0 fun K hK => ?_ | refine T.cf rfl ?_ | refine T.seq ?_ | refine T.skip ?_

theorem wrong_ok (e : MTm) : ACalls Tryz.prog 286 [aTm e] [] (.i (wrongM e.kind)) [] [] := by
 by_cases h6 : e.kind = 6
 ·simp only [wrongM, h6]
  refine ACalls.of_body Tryz.func286 (by kernel_rfl) rfl (by kernel_rfl) (by simp [Tryz.ntmps286]) (by simp) ?_
  rw [Tryz.ntmps286]
  repeat' first | (refine aops_end (hK _ ?_); clear hK K) | (refine aops_go ?_; simp [h6]; (try (refine gen fun q hq => ?_; cases q <;> (try simp [h6] at hq) <;> (try (have hh : True := hq; clear hh hq))))) | (refine T.ret (Done.data (Or.inr rfl) ?_ ?_) <;> simp [Tryz.results286] <;> omega) | refine T.r0 fun K hK => ?_ | refine T.ct rfl ?_ | refine T.seq ?_ | refine T.block ?_
 by_cases h7 : e.kind = 7
 ·simp only [wrongM, h7]
  refine ACalls.of_body Tryz.func286 (by kernel_rfl) rfl (by kernel_rfl) (by simp [Tryz.ntmps286]) (by simp) ?_
  rw [Tryz.ntmps286]
  repeat' first | (refine aops_end (hK _ ?_); clear hK K) | (refine aops_go ?_; simp [h7]; (try (refine gen fun q hq => ?_; cases q <;> (try simp [h7] at hq) <;> (try (have hh : True := hq; clear hh hq))))) | (refine T.ret (Done.data (Or.inr rfl) ?_ ?_) <;> simp [Tryz.results286] <;> omega) | refine T.r0 fun K hK => ?_ | refine T.ct rfl ?_ | refine T.cf rfl ?_ | refine T.seq ?_ | refine T.block ?_ | refine T.skip ?_
 by_cases h8 : e.kind = 8
 ·simp only [wrongM, h8]
  refine ACalls.of_body Tryz.func286 (by kernel_rfl) rfl (by kernel_rfl) (by simp [Tryz.ntmps286]) (by simp) ?_
  rw [Tryz.ntmps286]
  repeat' first | (refine aops_end (hK _ ?_); clear hK K) | (refine aops_go ?_; simp [h8]; (try (refine gen fun q hq => ?_; cases q <;> (try simp [h8] at hq) <;> (try (have hh : True := hq; clear hh hq))))) | (refine T.ret (Done.data (Or.inr rfl) ?_ ?_) <;> simp [Tryz.results286] <;> omega) | refine T.r0 fun K hK => ?_ | refine T.r1 fun K hK => ?_ | refine T.ct rfl ?_ | refine T.cf rfl ?_ | refine T.seq ?_ | refine T.block ?_
 by_cases h9 : e.kind = 9
 ·simp only [wrongM, h9]
  refine ACalls.of_body Tryz.func286 (by kernel_rfl) rfl (by kernel_rfl) (by simp [Tryz.ntmps286]) (by simp) ?_
  rw [Tryz.ntmps286]
  repeat' first | (refine aops_end (hK _ ?_); clear hK K) | (refine aops_go ?_; simp [h9]; (try (refine gen fun q hq => ?_; cases q <;> (try simp [h9] at hq) <;> (try (have hh : True := hq; clear hh hq))))) | (refine T.ret (Done.data (Or.inr rfl) ?_ ?_) <;> simp [Tryz.results286] <;> omega) | refine T.r0 fun K hK => ?_ | refine T.r1 fun K hK => ?_ | refine T.ct rfl ?_ | refine T.cf rfl ?_ | refine T.seq ?_ | refine T.block ?_
 by_cases h11 : e.kind = 11
 ·simp only [wrongM, h11]
  refine ACalls.of_body Tryz.func286 (by kernel_rfl) rfl (by kernel_rfl) (by simp [Tryz.ntmps286]) (by simp) ?_
  rw [Tryz.ntmps286]
  repeat' first | (refine aops_end (hK _ ?_); clear hK K) | (refine aops_go ?_; simp [h11]; (try (refine gen fun q hq => ?_; cases q <;> (try simp [h11] at hq) <;> (try (have hh : True := hq; clear hh hq))))) | (refine T.ret (Done.data (Or.inr rfl) ?_ ?_) <;> simp [Tryz.results286] <;> omega) | refine T.r0 fun K hK => ?_ | refine T.r1 fun K hK => ?_ | refine T.ct rfl ?_ | refine T.cf rfl ?_ | refine T.seq ?_ | refine T.block ?_ | refine T.skip ?_
 by_cases h12 : e.kind = 12
 ·simp only [wrongM, h12]
  refine ACalls.of_body Tryz.func286 (by kernel_rfl) rfl (by kernel_rfl) (by simp [Tryz.ntmps286]) (by simp) ?_
  rw [Tryz.ntmps286]
  repeat' first | (refine aops_end (hK _ ?_); clear hK K) | (refine aops_go ?_; simp [h12]; (try (refine gen fun q hq => ?_; cases q <;> (try simp [h12] at hq) <;> (try (have hh : True := hq; clear hh hq))))) | (refine T.ret (Done.data (Or.inr rfl) ?_ ?_) <;> simp [Tryz.results286] <;> omega) | refine T.r0 fun K hK => ?_ | refine T.r1 fun K hK => ?_ | refine T.ct rfl ?_ | refine T.cf rfl ?_ | refine T.seq ?_ | refine T.block ?_
 simp only [wrongM, h6, h7, h8, h9, h11, h12, or_self, if_false]
 refine ACalls.of_body Tryz.func286 (by kernel_rfl) rfl (by kernel_rfl) (by simp [Tryz.ntmps286]) (by simp) ?_
 rw [Tryz.ntmps286]
 repeat' first | (refine aops_end (hK _ ?_); clear hK K) | (refine aops_go ?_; simp [h6, h7, h8, h9, h11, h12]; (try (refine gen fun q hq => ?_; cases q <;> (try simp [h6, h7, h8, h9, h11, h12] at hq) <;> (try (have hh : True := hq; clear hh hq))))) | (refine T.ret (Done.data (Or.inr rfl) ?_ ?_) <;> simp [Tryz.results286] <;> omega) | refine T.r0 fun K hK => ?_ | refine T.r1 fun K hK => ?_ | refine T.cf rfl ?_ | refine T.seq ?_ | refine T.block ?_ | refine T.skip ?_

theorem node0l_ok (k : Int) : ACalls Tryz.prog 299 [.i k, .l []] [] (aTm (.mk k [] 0 zeroT zeroT 0 [])) [] [] := by
 refine ACalls.of_body Tryz.func299 (by kernel_rfl) rfl (by kernel_rfl) (by simp [Tryz.ntmps299]) (by simp) ?_
 rw [Tryz.ntmps299]
 repeat' first | (refine aops_end (hK _ ?_); clear hK K) | (refine aops_go ?_; simp; (try (refine gen fun q hq => ?_; cases q <;> (try simp at hq) <;> (try (have hh : True := hq; clear hh hq))))) | (refine T.ret (Done.val (Or.inr rfl) ?_) <;> simp [resAs, Tryz.results299] <;> omega) | refine T.r0 fun K hK => ?_

theorem truth_ok (b : Bool) : ACalls Tryz.prog 297 [.b b] [] (aTm (truthM b)) [] [] := by
 have h3 := node0l_ok 3
 have h4 := node0l_ok 4
 cases b
 ·rw [show truthM false = tFalse from rfl]
  refine ACalls.of_body Tryz.func297 (by kernel_rfl) rfl (by kernel_rfl) (by simp [Tryz.ntmps297]) (by simp) ?_
  rw [Tryz.ntmps297]
  repeat' first | (refine aops_end (hK _ ?_); clear hK K) | (refine aops_go ?_; simp; (try (refine gen fun q hq => ?_; cases q <;> (try simp at hq) <;> (try (have hh : True := hq; clear hh hq))))) | (refine wpcall_pure rfl (h4) ?_; simp; (try (refine gen fun q hq => ?_; cases q <;> (try simp at hq) <;> (try (have hh : True := hq; clear hh hq))))) | (refine T.ret (Done.val (Or.inr rfl) ?_) <;> simp [resAs, Tryz.results297] <;> omega) | refine T.r0 fun K hK => ?_ | refine T.cf rfl ?_ | refine T.seq ?_ | refine T.skip ?_
 ·rw [show truthM true = tTrue from rfl]
  refine ACalls.of_body Tryz.func297 (by kernel_rfl) rfl (by kernel_rfl) (by simp [Tryz.ntmps297]) (by simp) ?_
  rw [Tryz.ntmps297]
  repeat' first | (refine aops_end (hK _ ?_); clear hK K) | (refine aops_go ?_; simp; (try (refine gen fun q hq => ?_; cases q <;> (try simp at hq) <;> (try (have hh : True := hq; clear hh hq))))) | (refine wpcall_pure rfl (h3) ?_; simp; (try (refine gen fun q hq => ?_; cases q <;> (try simp at hq) <;> (try (have hh : True := hq; clear hh hq))))) | (refine T.ret (Done.val (Or.inr rfl) ?_) <;> simp [resAs, Tryz.results297] <;> omega) | refine T.r0 fun K hK => ?_ | refine T.ct rfl ?_ | refine T.seq ?_

abbrev ruleR (o : Option MTm) : List AV := match o with
 | some x => [aTm x, .i 1]
 | none => [aTm zeroE, .i 3]

theorem rule_ok (e : MTm) (d : Nat) (hv : TmV 13 d e) (hn : nTm e <= 1073741824) : ACalls Tryz.prog 281 [aTm e] [] (.tup (ruleR (ruleM e))) [] [] := by
 rcases hv.cases13 with ⟨s, rfl⟩ | ⟨k, rfl, h1, h2⟩ | rfl | rfl | ⟨s, t, b, rfl⟩ | ⟨a, f, t, l, rfl⟩ | ⟨k, a, rfl, hk, _, ha⟩ | ⟨p, a, b, rfl, _, hp⟩ | ⟨k, a, b, rfl, hk, ⟨_, ha⟩, _, hb⟩
 ·skip
  rw [show ruleM (tVar s) = none by simp [ruleM]]
  refine ACalls.of_body Tryz.func281 (by kernel_rfl) rfl (by kernel_rfl) (by simp [Tryz.ntmps281]) (by simp) ?_
  rw [Tryz.ntmps281]
  repeat' first | (refine aops_end (hK _ ?_); clear hK K) | (refine aops_go ?_; simp; (try (refine gen fun q hq => ?_; cases q <;> (try simp at hq) <;> (try (have hh : True := hq; clear hh hq))))) | (refine T.ret (Done.tup (Or.inr rfl) ?_) <;> simp [resAs, Tryz.results281] <;> omega) | refine T.r0 fun K hK => ?_ | refine T.r1 fun K hK => ?_ | refine T.cf rfl ?_ | refine T.seq ?_ | refine T.block ?_ | refine T.skip ?_
 ·skip
  rw [show ruleM (tNum k) = none by simp [ruleM]]
  refine ACalls.of_body Tryz.func281 (by kernel_rfl) rfl (by kernel_rfl) (by simp [Tryz.ntmps281]) (by simp) ?_
  rw [Tryz.ntmps281]
  repeat' first | (refine aops_end (hK _ ?_); clear hK K) | (refine aops_go ?_; simp; (try (refine gen fun q hq => ?_; cases q <;> (try simp at hq) <;> (try (have hh : True := hq; clear hh hq))))) | (refine T.ret (Done.tup (Or.inr rfl) ?_) <;> simp [resAs, Tryz.results281] <;> omega) | refine T.r0 fun K hK => ?_ | refine T.r1 fun K hK => ?_ | refine T.cf rfl ?_ | refine T.seq ?_ | refine T.block ?_ | refine T.skip ?_
 ·skip
  rw [show ruleM tTrue = none by simp [ruleM]]
  refine ACalls.of_body Tryz.func281 (by kernel_rfl) rfl (by kernel_rfl) (by simp [Tryz.ntmps281]) (by simp) ?_
  rw [Tryz.ntmps281]
  repeat' first | (refine aops_end (hK _ ?_); clear hK K) | (refine aops_go ?_; simp; (try (refine gen fun q hq => ?_; cases q <;> (try simp at hq) <;> (try (have hh : True := hq; clear hh hq))))) | (refine T.ret (Done.tup (Or.inr rfl) ?_) <;> simp [resAs, Tryz.results281] <;> omega) | refine T.r0 fun K hK => ?_ | refine T.r1 fun K hK => ?_ | refine T.cf rfl ?_ | refine T.seq ?_ | refine T.block ?_ | refine T.skip ?_
 ·skip
  rw [show ruleM tFalse = none by simp [ruleM]]
  refine ACalls.of_body Tryz.func281 (by kernel_rfl) rfl (by kernel_rfl) (by simp [Tryz.ntmps281]) (by simp) ?_
  rw [Tryz.ntmps281]
  repeat' first | (refine aops_end (hK _ ?_); clear hK K) | (refine aops_go ?_; simp; (try (refine gen fun q hq => ?_; cases q <;> (try simp at hq) <;> (try (have hh : True := hq; clear hh hq))))) | (refine T.ret (Done.tup (Or.inr rfl) ?_) <;> simp [resAs, Tryz.results281] <;> omega) | refine T.r0 fun K hK => ?_ | refine T.r1 fun K hK => ?_ | refine T.cf rfl ?_ | refine T.seq ?_ | refine T.block ?_ | refine T.skip ?_
 ·skip
  rw [show ruleM (tLam s t b) = none by simp [ruleM]]
  refine ACalls.of_body Tryz.func281 (by kernel_rfl) rfl (by kernel_rfl) (by simp [Tryz.ntmps281]) (by simp) ?_
  rw [Tryz.ntmps281]
  repeat' first | (refine aops_end (hK _ ?_); clear hK K) | (refine aops_go ?_; simp [eTm_def]; (try (refine gen fun q hq => ?_; cases q <;> (try simp [eTm_def] at hq) <;> (try (have hh : True := hq; clear hh hq))))) | (refine T.ret (Done.tup (Or.inr rfl) ?_) <;> simp [resAs, Tryz.results281] <;> omega) | refine T.r0 fun K hK => ?_ | refine T.r1 fun K hK => ?_ | refine T.ct rfl ?_ | refine T.cf rfl ?_ | refine T.seq ?_ | refine T.block ?_ | refine T.skip ?_
 ·skip
  rw [show ruleM (tCast a f t l) = none by simp [ruleM]]
  refine ACalls.of_body Tryz.func281 (by kernel_rfl) rfl (by kernel_rfl) (by simp [Tryz.ntmps281]) (by simp) ?_
  rw [Tryz.ntmps281]
  repeat' first | (refine aops_end (hK _ ?_); clear hK K) | (refine aops_go ?_; simp [eTm_def]; (try (refine gen fun q hq => ?_; cases q <;> (try simp [eTm_def] at hq) <;> (try (have hh : True := hq; clear hh hq))))) | (refine T.ret (Done.tup (Or.inr rfl) ?_) <;> simp [resAs, Tryz.results281] <;> omega) | refine T.r0 fun K hK => ?_ | refine T.r1 fun K hK => ?_ | refine T.ct rfl ?_ | refine T.cf rfl ?_ | refine T.seq ?_ | refine T.block ?_ | refine T.skip ?_
 ·skip
  by_cases h10 : a.kind = 10
  ·obtain ⟨x, y, rfl⟩ := ha.kind10 h10
   rcases hk with rfl | rfl
   ·rw [show ruleM (tN1 11 (tN2 10 x y)) = some x by simp [ruleM]]
    refine ACalls.of_body Tryz.func281 (by kernel_rfl) rfl (by kernel_rfl) (by simp [Tryz.ntmps281]) (by simp) ?_
    rw [Tryz.ntmps281]
    repeat' first | (refine aops_end (hK _ ?_); clear hK K) | (refine aops_go ?_; simp [eTm_def]; (try simp (disch := omega) only [wrap64]); (try (refine gen fun q hq => ?_; cases q <;> (try simp [eTm_def] at hq) <;> (try (have hh : True := hq; clear hh hq))))) | (refine T.ret (Done.tup (Or.inr rfl) ?_) <;> simp [resAs, Tryz.results281, eTm_def] <;> omega) | refine T.r0 fun K hK => ?_ | refine T.r1 fun K hK => ?_ | refine T.ct rfl ?_ | refine T.cf rfl ?_ | refine T.seq ?_ | refine T.block ?_ | refine T.skip ?_
   ·rw [show ruleM (tN1 12 (tN2 10 x y)) = some y by simp [ruleM]]
    refine ACalls.of_body Tryz.func281 (by kernel_rfl) rfl (by kernel_rfl) (by simp [Tryz.ntmps281]) (by simp) ?_
    rw [Tryz.ntmps281]
    repeat' first | (refine aops_end (hK _ ?_); clear hK K) | (refine aops_go ?_; simp [eTm_def]; (try simp (disch := omega) only [wrap64]); (try (refine gen fun q hq => ?_; cases q <;> (try simp [eTm_def] at hq) <;> (try (have hh : True := hq; clear hh hq))))) | (refine T.ret (Done.tup (Or.inr rfl) ?_) <;> simp [resAs, Tryz.results281, eTm_def] <;> omega) | refine T.r0 fun K hK => ?_ | refine T.r1 fun K hK => ?_ | refine T.ct rfl ?_ | refine T.cf rfl ?_ | refine T.seq ?_ | refine T.block ?_
  ·rcases hk with rfl | rfl
   ·rw [show ruleM (tN1 11 a) = none by simp [ruleM, h10]]
    refine ACalls.of_body Tryz.func281 (by kernel_rfl) rfl (by kernel_rfl) (by simp [Tryz.ntmps281]) (by simp) ?_
    rw [Tryz.ntmps281]
    repeat' first | (refine aops_end (hK _ ?_); clear hK K) | (refine aops_go ?_; simp [eTm_def, h10]; (try (refine gen fun q hq => ?_; cases q <;> (try simp [eTm_def, h10] at hq) <;> (try (have hh : True := hq; clear hh hq))))) | (refine T.ret (Done.tup (Or.inr rfl) ?_) <;> simp [resAs, Tryz.results281] <;> omega) | refine T.r0 fun K hK => ?_ | refine T.r1 fun K hK => ?_ | refine T.ct rfl ?_ | refine T.cf rfl ?_ | refine T.seq ?_ | refine T.block ?_ | refine T.skip ?_
   ·rw [show ruleM (tN1 12 a) = none by simp [ruleM, h10]]
    refine ACalls.of_body Tryz.func281 (by kernel_rfl) rfl (by kernel_rfl) (by simp [Tryz.ntmps281]) (by simp) ?_
    rw [Tryz.ntmps281]
    repeat' first | (refine aops_end (hK _ ?_); clear hK K) | (refine aops_go ?_; simp [eTm_def, h10]; (try (refine gen fun q hq => ?_; cases q <;> (try simp [eTm_def, h10] at hq) <;> (try (have hh : True := hq; clear hh hq))))) | (refine T.ret (Done.tup (Or.inr rfl) ?_) <;> simp [resAs, Tryz.results281] <;> omega) | refine T.r0 fun K hK => ?_ | refine T.r1 fun K hK => ?_ | refine T.ct rfl ?_ | refine T.cf rfl ?_ | refine T.seq ?_ | refine T.block ?_ | refine T.skip ?_
 ·skip
  by_cases h3 : p.kind = 3
  ·rw [show ruleM (tIf p a b) = some a by simp [ruleM, h3]]
   refine ACalls.of_body Tryz.func281 (by kernel_rfl) rfl (by kernel_rfl) (by simp [Tryz.ntmps281]) (by simp) ?_
   rw [Tryz.ntmps281]
   repeat' first | (refine aops_end (hK _ ?_); clear hK K) | (refine aops_go ?_; simp [eTm_def, h3]; (try (refine gen fun q hq => ?_; cases q <;> (try simp [eTm_def, h3] at hq) <;> (try (have hh : True := hq; clear hh hq))))) | (refine T.ret (Done.tup (Or.inr rfl) ?_) <;> simp [resAs, Tryz.results281, eTm_def] <;> omega) | refine T.r0 fun K hK => ?_ | refine T.r1 fun K hK => ?_ | refine T.ct rfl ?_ | refine T.cf rfl ?_ | refine T.seq ?_ | refine T.block ?_
  by_cases h4 : p.kind = 4
  ·rw [show ruleM (tIf p a b) = some b by simp [ruleM, h4]]
   refine ACalls.of_body Tryz.func281 (by kernel_rfl) rfl (by kernel_rfl) (by simp [Tryz.ntmps281]) (by simp) ?_
   rw [Tryz.ntmps281]
   repeat' first | (refine aops_end (hK _ ?_); clear hK K) | (refine aops_go ?_; simp [eTm_def, h4]; (try (refine gen fun q hq => ?_; cases q <;> (try simp [eTm_def, h4] at hq) <;> (try (have hh : True := hq; clear hh hq))))) | (refine T.ret (Done.tup (Or.inr rfl) ?_) <;> simp [resAs, Tryz.results281, eTm_def] <;> omega) | refine T.r0 fun K hK => ?_ | refine T.r1 fun K hK => ?_ | refine T.ct rfl ?_ | refine T.cf rfl ?_ | refine T.seq ?_ | refine T.block ?_
  ·rw [show ruleM (tIf p a b) = none by simp [ruleM, h3, h4]]
   refine ACalls.of_body Tryz.func281 (by kernel_rfl) rfl (by kernel_rfl) (by simp [Tryz.ntmps281]) (by simp) ?_
   rw [Tryz.ntmps281]
   repeat' first | (refine aops_end (hK _ ?_); clear hK K) | (refine aops_go ?_; simp [eTm_def, h3, h4]; (try (refine gen fun q hq => ?_; cases q <;> (try simp [eTm_def, h3, h4] at hq) <;> (try (have hh : True := hq; clear hh hq))))) | (refine T.ret (Done.tup (Or.inr rfl) ?_) <;> simp [resAs, Tryz.results281] <;> omega) | refine T.r0 fun K hK => ?_ | refine T.r1 fun K hK => ?_ | refine T.ct rfl ?_ | refine T.cf rfl ?_ | refine T.seq ?_ | refine T.block ?_ | refine T.skip ?_
 ·skip
  rcases hk with rfl | rfl | rfl | rfl
  ·by_cases h5 : a.kind = 5
   ·obtain ⟨s, t, x, rfl⟩ := ha.kind5 h5
    rw [show ruleM (tN2 6 (tLam s t x) b) = some (substM s b x) by simp [ruleM]]
    have k1 := subst_ok b s x (by simp [nTm_mk, nTmS] at hn; omega)
    generalize substM s b x = R at *
    refine ACalls.of_body Tryz.func281 (by kernel_rfl) rfl (by kernel_rfl) (by simp [Tryz.ntmps281]) (by simp) ?_
    rw [Tryz.ntmps281]
    repeat' first | ((first | refine aops_end (hK _ ?_) | refine aopsD_end (hK _ ?_)); clear hK K) | ((first | refine aops_go ?_ | refine aopsD_go ?_); simp [eTm_def]; (try (refine gen fun q hq => ?_; cases q <;> (try simp [eTm_def] at hq) <;> (try (have hh : True := hq; clear hh hq))))) | (refine wpcall_pure ?_ (k1) ?_; (focus (solve | simp [eTm_def])); simp [eTm_def]; (try (refine gen fun q hq => ?_; cases q <;> (try simp [eTm_def] at hq) <;> (try (have hh : True := hq; clear hh hq))))) | (refine T.ret (Done.tup (Or.inr rfl) ?_) <;> simp [resAs, Tryz.results281] <;> omega) | refine T.rd (id := 7) mixed (fun _ => false) [11] (by kernel_rfl) fun K hK => ?_ | refine T.r0 fun K hK => ?_ | refine T.r1 fun K hK => ?_ | refine T.ct rfl ?_ | refine T.seq ?_ | refine T.block ?_
   ·rw [show ruleM (tN2 6 a b) = none by simp [ruleM, h5]]
    refine ACalls.of_body Tryz.func281 (by kernel_rfl) rfl (by kernel_rfl) (by simp [Tryz.ntmps281]) (by simp) ?_
    rw [Tryz.ntmps281]
    repeat' first | (refine aops_end (hK _ ?_); clear hK K) | (refine aops_go ?_; simp [eTm_def, h5]; (try (refine gen fun q hq => ?_; cases q <;> (try simp [eTm_def, h5] at hq) <;> (try (have hh : True := hq; clear hh hq))))) | (refine T.ret (Done.tup (Or.inr rfl) ?_) <;> simp [resAs, Tryz.results281] <;> omega) | refine T.r0 fun K hK => ?_ | refine T.r1 fun K hK => ?_ | refine T.ct rfl ?_ | refine T.cf rfl ?_ | refine T.seq ?_ | refine T.block ?_ | refine T.skip ?_
  ·by_cases h2 : a.kind = 2 /\ b.kind = 2
   ·obtain ⟨m, rfl, hm1, hm2⟩ := ha.kind2 h2.1
    obtain ⟨n, rfl, hn1, hn2⟩ := hb.kind2 h2.2
    rw [show ruleM (tN2 7 (tNum m) (tNum n)) = some (tNum ((m + n).tmod 1000)) by simp [ruleM]]
    refine ACalls.of_body Tryz.func281 (by kernel_rfl) rfl (by kernel_rfl) (by simp [Tryz.ntmps281]) (by simp) ?_
    rw [Tryz.ntmps281]
    repeat' first | (refine aops_end (hK _ ?_); clear hK K) | (refine aops_go ?_; simp [eTm_def]; (try simp (disch := omega) only [wrap64]); (try (refine gen fun q hq => ?_; cases q <;> (try simp [eTm_def] at hq) <;> (try (have hh : True := hq; clear hh hq))))) | (refine T.ret (Done.tup (Or.inr rfl) ?_) <;> simp [resAs, Tryz.results281] <;> omega) | refine T.r0 fun K hK => ?_ | refine T.r1 fun K hK => ?_ | refine T.ct rfl ?_ | refine T.cf rfl ?_ | refine T.seq ?_ | refine T.block ?_ | refine T.skip ?_
   ·rw [show ruleM (tN2 7 a b) = none by simp [ruleM]; omega]
    by_cases ha2 : a.kind = 2
    ·have hb2 : ¬ b.kind = 2 := fun h => h2 ⟨ha2, h⟩
     refine ACalls.of_body Tryz.func281 (by kernel_rfl) rfl (by kernel_rfl) (by simp [Tryz.ntmps281]) (by simp) ?_
     rw [Tryz.ntmps281]
     repeat' first | (refine aops_end (hK _ ?_); clear hK K) | (refine aops_go ?_; simp [eTm_def, ha2, hb2]; (try (refine gen fun q hq => ?_; cases q <;> (try simp [eTm_def, ha2, hb2] at hq) <;> (try (have hh : True := hq; clear hh hq))))) | (refine T.ret (Done.tup (Or.inr rfl) ?_) <;> simp [resAs, Tryz.results281] <;> omega) | refine T.r0 fun K hK => ?_ | refine T.r1 fun K hK => ?_ | refine T.ct rfl ?_ | refine T.cf rfl ?_ | refine T.seq ?_ | refine T.block ?_ | refine T.skip ?_
    ·refine ACalls.of_body Tryz.func281 (by kernel_rfl) rfl (by kernel_rfl) (by simp [Tryz.ntmps281]) (by simp) ?_
     rw [Tryz.ntmps281]
     repeat' first | (refine aops_end (hK _ ?_); clear hK K) | (refine aops_go ?_; simp [eTm_def, ha2]; (try (refine gen fun q hq => ?_; cases q <;> (try simp [eTm_def, ha2] at hq) <;> (try (have hh : True := hq; clear hh hq))))) | (refine T.ret (Done.tup (Or.inr rfl) ?_) <;> simp [resAs, Tryz.results281] <;> omega) | refine T.r0 fun K hK => ?_ | refine T.r1 fun K hK => ?_ | refine T.ct rfl ?_ | refine T.cf rfl ?_ | refine T.seq ?_ | refine T.block ?_ | refine T.skip ?_
  ·by_cases h2 : a.kind = 2 /\ b.kind = 2
   ·obtain ⟨m, rfl, hm1, hm2⟩ := ha.kind2 h2.1
    obtain ⟨n, rfl, hn1, hn2⟩ := hb.kind2 h2.2
    by_cases hmn : m < n
    ·rw [show ruleM (tN2 8 (tNum m) (tNum n)) = some tTrue by simp [ruleM, truthM, hmn]]
     have k1 := truth_ok true
     rw [show truthM true = tTrue from rfl] at k1
     refine ACalls.of_body Tryz.func281 (by kernel_rfl) rfl (by kernel_rfl) (by simp [Tryz.ntmps281]) (by simp) ?_
     rw [Tryz.ntmps281]
     repeat' first | (refine aops_end (hK _ ?_); clear hK K) | (refine aops_go ?_; simp [eTm_def, hmn]; (try simp (disch := omega) only [wrap64]); (try (refine gen fun q hq => ?_; cases q <;> (try simp [eTm_def, hmn] at hq) <;> (try (have hh : True := hq; clear hh hq))))) | (refine wpcall_pure rfl (k1) ?_; simp [eTm_def, hmn]; (try simp (disch := omega) only [wrap64]); (try (refine gen fun q hq => ?_; cases q <;> (try simp [eTm_def, hmn] at hq) <;> (try (have hh : True := hq; clear hh hq))))) | (refine T.ret (Done.tup (Or.inr rfl) ?_) <;> simp [resAs, Tryz.results281] <;> omega) | refine T.r0 fun K hK => ?_ | refine T.r1 fun K hK => ?_ | refine T.ct rfl ?_ | refine T.cf rfl ?_ | refine T.seq ?_ | refine T.block ?_
    ·rw [show ruleM (tN2 8 (tNum m) (tNum n)) = some tFalse by simp [ruleM, truthM, hmn]]
     have k1 := truth_ok false
     rw [show truthM false = tFalse from rfl] at k1
     refine ACalls.of_body Tryz.func281 (by kernel_rfl) rfl (by kernel_rfl) (by simp [Tryz.ntmps281]) (by simp) ?_
     rw [Tryz.ntmps281]
     repeat' first | (refine aops_end (hK _ ?_); clear hK K) | (refine aops_go ?_; simp [eTm_def, hmn]; (try simp (disch := omega) only [wrap64]); (try (refine gen fun q hq => ?_; cases q <;> (try simp [eTm_def, hmn] at hq) <;> (try (have hh : True := hq; clear hh hq))))) | (refine wpcall_pure rfl (k1) ?_; simp [eTm_def, hmn]; (try simp (disch := omega) only [wrap64]); (try (refine gen fun q hq => ?_; cases q <;> (try simp [eTm_def, hmn] at hq) <;> (try (have hh : True := hq; clear hh hq))))) | (refine T.ret (Done.tup (Or.inr rfl) ?_) <;> simp [resAs, Tryz.results281] <;> omega) | refine T.r0 fun K hK => ?_ | refine T.r1 fun K hK => ?_ | refine T.ct rfl ?_ | refine T.cf rfl ?_ | refine T.seq ?_ | refine T.block ?_
   ·rw [show ruleM (tN2 8 a b) = none by simp [ruleM]; omega]
    by_cases ha2 : a.kind = 2
    ·have hb2 : ¬ b.kind = 2 := fun h => h2 ⟨ha2, h⟩
     refine ACalls.of_body Tryz.func281 (by kernel_rfl) rfl (by kernel_rfl) (by simp [Tryz.ntmps281]) (by simp) ?_
     rw [Tryz.ntmps281]
     repeat' first | (refine aops_end (hK _ ?_); clear hK K) | (refine aops_go ?_; simp [eTm_def, ha2, hb2]; (try (refine gen fun q hq => ?_; cases q <;> (try simp [eTm_def, ha2, hb2] at hq) <;> (try (have hh : True := hq; clear hh hq))))) | (refine T.ret (Done.tup (Or.inr rfl) ?_) <;> simp [resAs, Tryz.results281] <;> omega) | refine T.r0 fun K hK => ?_ | refine T.r1 fun K hK => ?_ | refine T.ct rfl ?_ | refine T.cf rfl ?_ | refine T.seq ?_ | refine T.block ?_ | refine T.skip ?_
    ·refine ACalls.of_body Tryz.func281 (by kernel_rfl) rfl (by kernel_rfl) (by simp [Tryz.ntmps281]) (by simp) ?_
     rw [Tryz.ntmps281]
     repeat' first | (refine aops_end (hK _ ?_); clear hK K) | (refine aops_go ?_; simp [eTm_def, ha2]; (try (refine gen fun q hq => ?_; cases q <;> (try simp [eTm_def, ha2] at hq) <;> (try (have hh : True := hq; clear hh hq))))) | (refine T.ret (Done.tup (Or.inr rfl) ?_) <;> simp [resAs, Tryz.results281] <;> omega) | refine T.r0 fun K hK => ?_ | refine T.r1 fun K hK => ?_ | refine T.ct rfl ?_ | refine T.cf rfl ?_ | refine T.seq ?_ | refine T.block ?_ | refine T.skip ?_
  ·rw [show ruleM (tN2 10 a b) = none by simp [ruleM]]
   refine ACalls.of_body Tryz.func281 (by kernel_rfl) rfl (by kernel_rfl) (by simp [Tryz.ntmps281]) (by simp) ?_
   rw [Tryz.ntmps281]
   repeat' first | (refine aops_end (hK _ ?_); clear hK K) | (refine aops_go ?_; simp [eTm_def]; (try (refine gen fun q hq => ?_; cases q <;> (try simp [eTm_def] at hq) <;> (try (have hh : True := hq; clear hh hq))))) | (refine T.ret (Done.tup (Or.inr rfl) ?_) <;> simp [resAs, Tryz.results281] <;> omega) | refine T.r0 fun K hK => ?_ | refine T.r1 fun K hK => ?_ | refine T.ct rfl ?_ | refine T.cf rfl ?_ | refine T.seq ?_ | refine T.block ?_ | refine T.skip ?_

end Go.Proofs.YtflmjilnecanhaaGreatDoor

namespace Go.Proofs.YtflmjilnecanhaaGreatDoor
open Go Go.Av
attribute [local irreducible] T ACalls TX EX LX Draws Some_ ACallsX eTy eTm MTy.kind MTy.kids MTm.kind MTm.name MTm.num MTm.ty MTm.fr MTm.label MTm.kids
attribute [local simp] eTy_def eTm_def
set_option maxHeartbeats 16000000
set_option maxRecDepth 8000

theorem sum_take_le {α : Type} (f : α -> Nat) : ∀ (l : List α) (p : Nat), ((l.take p).map f).sum <= (l.map f).sum
 | [], p => by simp
 | x :: r, 0 => by simp
 | x :: r, p + 1 => by have := sum_take_le f r p; simp only [List.take_succ_cons, List.map_cons, List.sum_cons]; omega
def cntP (l : List MTy) (p : Nat) : Nat := ((l.take p).map cntM).sum
end Go.Proofs.YtflmjilnecanhaaGreatDoor

namespace Go.Proofs.YtflmjilnecanhaaGreatDoor
open Go Go.Av
attribute [local irreducible] T ACalls TX EX LX Draws Some_ ACallsX eTy eTm MTy.kind MTy.kids MTm.kind MTm.name MTm.num MTm.ty MTm.fr MTm.label MTm.kids
attribute [local simp] eTy_def eTm_def
set_option maxHeartbeats 16000000
set_option maxRecDepth 8000
@[simp] theorem td_uint : td Tryz.prog 210 = some { ag := false, sz := 1, by_ := 8, zero := some [.d (.int .u64 0)], el := none, ar := none, fl := [], ik := some .u64, isS := false, isB := false } := keep (by kernel_rfl)
@[simp] theorem td_intS2 : td Tryz.prog 107 = some { ag := false, sz := 1, by_ := 24, zero := some [.nil], el := some 3, ar := none, fl := [], ik := none, isS := false, isB := false } := keep (by kernel_rfl)

end Go.Proofs.YtflmjilnecanhaaGreatDoor

namespace Go.Proofs.YtflmjilnecanhaaGreatDoor
open Go Go.Av
attribute [local irreducible] T ACalls TX EX LX Draws Some_ ACallsX eTy eTm MTy.kind MTy.kids MTm.kind MTm.name MTm.num MTm.ty MTm.fr MTm.label MTm.kids
attribute [local simp] eTy_def eTm_def
set_option maxHeartbeats 16000000
set_option maxRecDepth 8000

def redM (e : MTm) : Int := if castValidM e = true then ((castsM e).length : Int) - (castsM (simpM e)).length else 0

abbrev tmOwn (e : MTm) : AV := .agg [.d (.i e.kind), .d (.str e.name), .d (.i e.num), .d (.i e.ty.kind), .d (.sl (e.ty.kids.map eTy)), .d (.i e.fr.kind), .d (.sl (e.fr.kids.map eTy)), .d (.i e.label), .own 0 e.kids.length]
def mixM (l : List MTm) (p : Nat) : List MTm := (l.map simpM).take p ++ l.drop p
end Go.Proofs.YtflmjilnecanhaaGreatDoor

namespace Go.Proofs.YtflmjilnecanhaaGreatDoor
open Go Go.Av
attribute [local irreducible] T ACalls TX EX LX Draws Some_ ACallsX eTy eTm MTy.kind MTy.kids MTm.kind MTm.name MTm.num MTm.ty MTm.fr MTm.label MTm.kids
attribute [local simp] eTy_def eTm_def
set_option maxHeartbeats 16000000
set_option maxRecDepth 8000
attribute [local simp] Option.bind

theorem isFuel_ok (n : Int) : ACalls Tryz.prog 159 [.i n] [] (.b (fuelM n)) [] [] := by
 have h : ACalls Tryz.prog 52 [.i n, .i 0, .i 300] [] (.b (fuelM n)) [] [] := by
  rw [fuelM]
  refine ACalls.of_body Tryz.func52 (by kernel_rfl) rfl (by kernel_rfl) (by simp [Tryz.ntmps52]) (by simp) ?_
  rw [Tryz.ntmps52]
  repeat' first | ((first | refine aops_end (hK _ ?_) | refine aopsD_end (hK _ ?_) | refine aopsF_end (hK _ ?_)); clear hK K) | ((first | refine aops_go ?_ | refine aopsD_go ?_ | refine aopsF_go ?_); simp; (try (refine gen fun q hq => ?_; cases q <;> (try simp at hq) <;> (try (have hh : True := hq; clear hh hq))))) | (refine T.ret (Done.data (Or.inr rfl) ?_ ?_) <;> simp [Tryz.results52, *] <;> omega) | refine T.r0 fun K hK => ?_ | refine T.r1 fun K hK => ?_ | (refine ⟨by omega, ?_⟩) | refine T.ct rfl ?_ | refine T.cf rfl ?_ | refine T.seq ?_ | refine T.block ?_ | refine T.skip ?_ | refine T.exit ?_
 refine ACalls.of_body Tryz.func159 (by kernel_rfl) rfl (by kernel_rfl) (by simp [Tryz.ntmps159]) (by simp) ?_
 rw [Tryz.ntmps159]
 repeat' first | ((first | refine aops_end (hK _ ?_) | refine aopsD_end (hK _ ?_) | refine aopsF_end (hK _ ?_)); clear hK K) | ((first | refine aops_go ?_ | refine aopsD_go ?_ | refine aopsF_go ?_); simp; (try (refine gen fun q hq => ?_; cases q <;> (try simp at hq) <;> (try (have hh : True := hq; clear hh hq))))) | (refine wpcall_pure rfl (h) ?_; simp; (try (refine gen fun q hq => ?_; cases q <;> (try simp at hq) <;> (try (have hh : True := hq; clear hh hq))))) | (refine T.ret (Done.data (Or.inr rfl) ?_ ?_) <;> simp [Tryz.results159] <;> omega) | refine T.r0 fun K hK => ?_ | refine T.r1 fun K hK => ?_ | (refine ⟨by omega, ?_⟩) | refine T.ct rfl ?_ | refine T.cf rfl ?_ | refine T.seq ?_ | refine T.block ?_ | refine T.skip ?_ | refine T.exit ?_

abbrev stepR (p : MTm × Int × Int) : List AV := [aTm p.1, .i p.2.1, .i p.2.2]

theorem stepB_at {e : MTm} {i : Nat} {u : MTm} (h : firstNV (e.kids.take (countsM e)) = some i) (hu : e.kids[i]? = some u) :
  stepB e = (.mk e.kind e.name e.num e.ty e.fr e.label (e.kids.set i (stepB u).1), (stepB u).2.1, (stepB u).2.2) := by
 have : e.kids.getD i zeroE = u := by rw [List.getD_eq_getElem?_getD, hu]; rfl
 rw [stepB_def, stepBS_first, h]
 simp only [this]
theorem stepB_none {e : MTm} (h : firstNV (e.kids.take (countsM e)) = none) : stepB e = match ruleM e with
  | some x => (x, 1, 0)
  | none => (zeroE, 2, wrongM e.kind) := by
 rw [stepB_def, stepBS_first, h]
 cases ruleM e <;> rfl

theorem bareStep_node (e : MTm) (hlen : e.kids.length <= 3) (hcnt : countsM e <= e.kids.length) (hr : ACalls Tryz.prog 281 [aTm e] [] (.tup (ruleR (ruleM e))) [] []) (hnu : ∀ u ∈ e.kids, nTm u <= 1073741824)
  (ih : ∀ u ∈ e.kids, ACalls Tryz.prog 260 [aTm u] [] (.tup (stepR (stepB u))) [] []) : ACalls Tryz.prog 260 [aTm e] [] (.tup (stepR (stepB e))) [] [] := by
 have hc := counts_ok e
 have hw := wrong_ok e
 have hcl := cloneTm_own e.kids (by omega)
 obtain ⟨R, hR⟩ : ∃ R, firstNV (e.kids.take (countsM e)) = R := ⟨_, rfl⟩
 have hat : ∀ i u, e.kids[i]? = some u -> R = some i -> stepB e = (.mk e.kind e.name e.num e.ty e.fr e.label (e.kids.set i (stepB u).1), (stepB u).2.1, (stepB u).2.2) := fun i u h1 h2 => stepB_at (hR.trans h2) h1
 have hnone : R = none -> stepB e = match ruleM e with
  | some x => (x, 1, 0)
  | none => (zeroE, 2, wrongM e.kind) := fun h => stepB_none (hR.trans h)
 generalize stepB e = S at *
 obtain ⟨n, hn⟩ : ∃ n, countsM e = n := ⟨_, rfl⟩
 rw [hn] at hR hcnt hc
 obtain ⟨L, hL⟩ : ∃ L, e.kids.take n = L := ⟨_, rfl⟩
 have hLm : List.take n (List.map eTm e.kids) = L.map eTm := by rw [<- hL, List.map_take]
 have hLl : L.length = n := by rw [<- hL]; simp; omega
 have hLu : ∀ i u, L[i]? = some u -> e.kids[i]? = some u := fun i u h => by
  rw [<- hL] at h
  have hi : i < n := by have := (List.getElem?_eq_some_iff.1 h).1; simp at this; omega
  rwa [List.getElem?_take_of_lt hi] at h
 rw [hL] at hR
 have hnl : (n : Int) <= e.kids.length := by omega
 subst hLl
 refine ACalls.of_body Tryz.func260 (by kernel_rfl) rfl (by kernel_rfl) (by simp [Tryz.ntmps260]) (by simp) ?_
 rw [Tryz.ntmps260]
 repeat' first | ((first | refine aops_end (hK _ ?_) | refine aopsD_end (hK _ ?_)); clear hK K) | ((first | refine aops_go ?_ | refine aopsD_go ?_); simp [hLm, hnl]; (try (refine gen fun q hq => ?_; cases q <;> (try simp [hLm, hnl] at hq) <;> (try (have hh : True := hq; clear hh hq))))) | (refine wpcall_pure rfl (hc) ?_; simp [hLm, hnl]; (try (refine gen fun q hq => ?_; cases q <;> (try simp [hLm, hnl] at hq) <;> (try (have hh : True := hq; clear hh hq))))) | refine T.rd (id := 1) mixed (fun _ => false) [] (by kernel_rfl) fun K hK => ?_ | refine T.r0 fun K hK => ?_ | refine T.seq ?_ | refine T.block ?_
 refine T.loopK (α := Nat × List (List CV)) [1, 2, 17, 18] (fun x => [(3, .i 0), (4, .i 0), (19, .i x.1)]) (fun x => []) (fun x => x.2) (fun x A => A) (fun x => L.length + 1 - x.1) (fun x => x.1 <= L.length /\ (firstNV (L.drop x.1)).map (· + x.1) = R) (by simp; rfl) (fun x hx => ?_) (0, []) (by simp [hR]) (by simp) (by simp) (by simp)
 obtain ⟨p, G⟩ := x
 obtain ⟨hx, he⟩ := hx
 dsimp only at hx he ⊢
 simp only [ups, List.set_cons_zero, List.set_cons_succ, List.cons_append, List.nil_append, List.append_nil]
 by_cases hlt : p < L.length
 ·obtain ⟨u, ht⟩ := get_lt hlt
  have htm : u ∈ L := List.mem_of_getElem? ht
  have hgt : L[p] = u := by rw [List.getElem?_eq_getElem hlt] at ht; exact Option.some.inj ht
  have hdr : L.drop p = u :: L.drop (p + 1) := by rw [List.drop_eq_getElem_cons hlt, hgt]
  have hku := hLu p u ht
  have hum : u ∈ e.kids := List.mem_of_getElem? hku
  have hpk : p < e.kids.length := (List.getElem?_eq_some_iff.1 hku).1
  have hv := isValue_ok u (by have := hnu u hum; omega)
  rw [hdr, firstNV] at he
  cases hb : valM u with
  | true =>
   rw [hb] at hv he
   simp only [if_true, Option.map_map] at he
   have he' : (firstNV (L.drop (p + 1))).map (· + (p + 1)) = R := by rw [<- he]; congr 1; funext z; simp; omega
   repeat' first | (refine aops_end (hK _ ?_); clear hK K) | (refine aops_go ?_; simp [hlt, hgt]; (try simp (disch := omega) only [wrap64]); (try (refine gen fun q hq => ?_; cases q <;> (try simp [hlt, hgt] at hq) <;> (try (have hh : True := hq; clear hh hq))))) | (refine wpcall_pure rfl (hv) ?_; simp [hlt, hgt]; (try simp (disch := omega) only [wrap64]); (try (refine gen fun q hq => ?_; cases q <;> (try simp [hlt, hgt] at hq) <;> (try (have hh : True := hq; clear hh hq))))) | (refine ⟨(p + 1, _), by dsimp only; omega, ⟨by dsimp only; omega, he'⟩, rfl, ?_, ?_⟩ <;> simp (disch := omega) [wrap64]) | refine T.r0 fun K hK => ?_ | refine T.r1 fun K hK => ?_ | refine T.ct rfl ?_ | refine T.seq ?_ | refine T.block ?_ | refine T.skip ?_ | refine T.exit ?_
  | false =>
   rw [hb] at hv he
   simp at he
   have hs := hat p u hku he.symm
   have hi := ih u hum
   generalize stepB u = su at *
   obtain ⟨y, cd, lb⟩ := su
   subst hs
   repeat' first | (refine aops_end (hK _ ?_); clear hK K) | (refine aops_go ?_; simp [hlt, hgt, hpk]; (try simp (disch := omega) only [wrap64]); (try (refine gen fun q hq => ?_; cases q <;> (try simp [hlt, hgt, hpk] at hq) <;> (try (have hh : True := hq; clear hh hq))))) | (refine wpcall_pure rfl (hv) ?_; simp [hlt, hgt, hpk]; (try simp (disch := omega) only [wrap64]); (try (refine gen fun q hq => ?_; cases q <;> (try simp [hlt, hgt, hpk] at hq) <;> (try (have hh : True := hq; clear hh hq))))) | (refine wpcall_pure rfl (hi) ?_; simp [hlt, hgt, hpk]; (try simp (disch := omega) only [wrap64]); (try (refine gen fun q hq => ?_; cases q <;> (try simp [hlt, hgt, hpk] at hq) <;> (try (have hh : True := hq; clear hh hq))))) | (refine wpcall_own rfl (hcl) ?_; simp [hlt, hgt, hpk]; (try simp (disch := omega) only [wrap64]); (try (refine gen fun q hq => ?_; cases q <;> (try simp [hlt, hgt, hpk] at hq) <;> (try (have hh : True := hq; clear hh hq))))) | (refine T.ret (Done.tup (Or.inr rfl) ?_) <;> simp [resAs, Tryz.results260, eTm_def, List.map_set] <;> omega) | refine T.r0 fun K hK => ?_ | refine T.ct rfl ?_ | refine T.cf rfl ?_ | refine T.seq ?_ | refine T.block ?_ | refine T.skip ?_
 ·have hp' : p = L.length := by omega
  subst hp'
  simp [firstNV] at he
  have hs := hnone he.symm
  cases hq : ruleM e with
  | none =>
   rw [hq] at hs hr
   subst hs
   simp only [ruleR] at hr
   repeat' first | (refine aops_end (hK _ ?_); clear hK K) | (refine aops_go ?_; simp [hlt]; (try (refine gen fun q hq => ?_; cases q <;> (try simp [hlt] at hq) <;> (try (have hh : True := hq; clear hh hq))))) | (refine wpcall_pure rfl (hr) ?_; simp [hlt]; (try (refine gen fun q hq => ?_; cases q <;> (try simp [hlt] at hq) <;> (try (have hh : True := hq; clear hh hq))))) | (refine wpcall_pure rfl (hw) ?_; simp [hlt]; (try (refine gen fun q hq => ?_; cases q <;> (try simp [hlt] at hq) <;> (try (have hh : True := hq; clear hh hq))))) | (refine T.ret (Done.tup (Or.inr rfl) ?_) <;> simp [resAs, Tryz.results260] <;> omega) | refine T.r0 fun K hK => ?_ | refine T.ct rfl ?_ | refine T.cf rfl ?_ | refine T.seq ?_ | refine T.exit ?_
  | some x =>
   rw [hq] at hs hr
   subst hs
   simp only [ruleR] at hr
   repeat' first | (refine aops_end (hK _ ?_); clear hK K) | (refine aops_go ?_; simp [hlt]; (try (refine gen fun q hq => ?_; cases q <;> (try simp [hlt] at hq) <;> (try (have hh : True := hq; clear hh hq))))) | (refine wpcall_pure rfl (hr) ?_; simp [hlt]; (try (refine gen fun q hq => ?_; cases q <;> (try simp [hlt] at hq) <;> (try (have hh : True := hq; clear hh hq))))) | (refine T.ret (Done.tup (Or.inr rfl) ?_) <;> simp [resAs, Tryz.results260] <;> omega) | refine T.r0 fun K hK => ?_ | refine T.cf rfl ?_ | refine T.seq ?_ | refine T.skip ?_ | refine T.exit ?_

theorem counts_le {e : MTm} (hlen : kidsM e.kind = e.kids.length) : countsM e <= e.kids.length := by
 rw [countsM]
 split
 ·rename_i h
  rw [h] at hlen; simp [kidsM] at hlen; omega
 ·exact Nat.le_refl _

theorem bareStep_ok : ∀ (e : MTm) (d : Nat), TmV 13 d e -> nTm e <= 1073741824 -> ACalls Tryz.prog 260 [aTm e] [] (.tup (stepR (stepB e))) [] [] := by
 intro e
 induction e using MTm.ind with
 | h e ih =>
  intro d hv hn
  obtain ⟨d', rfl, _, hlen, _, hk⟩ := shapeTm_kids hv.shape
  have hnu : ∀ u ∈ e.kids, nTm u <= 1073741824 := fun u hu => by have := nTmS_mem hu; rw [nTm_def] at hn; omega
  exact bareStep_node e (by have := kidsM_le e.kind; omega) (counts_le hlen) (rule_ok e _ hv hn) hnu (fun u hu => ih u hu d' (TmV.of (hk u hu)) (hnu u hu))

theorem StepBare_ok (e : MTm) (hn : nTm e <= 1073741824) : ACalls Tryz.prog 218 [aTm e] [] (.tup (stepR (stepBareM e))) [] [] := by
 have k1 := BareValid_ok e (by omega)
 rw [stepBareM]
 rw [show (castValidM e && bareM e) = bareValidM e from rfl] at k1
 cases hb : bareValidM e with
 | false =>
  rw [hb] at k1
  simp only [Bool.false_eq_true, if_false]
  refine ACalls.of_body Tryz.func218 (by kernel_rfl) rfl (by kernel_rfl) (by simp [Tryz.ntmps218]) (by simp) ?_
  rw [Tryz.ntmps218]
  repeat' first | (refine aops_end (hK _ ?_); clear hK K) | (refine aops_go ?_; simp; (try (refine gen fun q hq => ?_; cases q <;> (try simp at hq) <;> (try (have hh : True := hq; clear hh hq))))) | (refine wpcall_pure rfl (k1) ?_; simp; (try (refine gen fun q hq => ?_; cases q <;> (try simp at hq) <;> (try (have hh : True := hq; clear hh hq))))) | (refine T.ret (Done.tup (Or.inr rfl) ?_) <;> simp [resAs, Tryz.results218] <;> omega) | refine T.r0 fun K hK => ?_ | refine T.ct rfl ?_ | refine T.seq ?_ | refine T.block ?_
 | true =>
  rw [hb] at k1
  simp only [if_true]
  have hcv : castValidM e = true := by simp only [bareValidM, Bool.and_eq_true] at hb; exact hb.1
  have hv := (castValidM_iff.1 hcv).1
  have hsm := castValid_small hcv
  have k2 := isValue_ok e (by omega)
  cases hvl : valM e with
  | true =>
   rw [hvl] at k2
   have k3 := own_ok e (by omega)
   simp only [if_true]
   refine ACalls.of_body Tryz.func218 (by kernel_rfl) rfl (by kernel_rfl) (by simp [Tryz.ntmps218]) (by simp) ?_
   rw [Tryz.ntmps218]
   repeat' first | (refine aops_end (hK _ ?_); clear hK K) | (refine aops_go ?_; simp; (try (refine gen fun q hq => ?_; cases q <;> (try simp at hq) <;> (try (have hh : True := hq; clear hh hq))))) | (refine wpcall_pure rfl (k1) ?_; simp; (try (refine gen fun q hq => ?_; cases q <;> (try simp at hq) <;> (try (have hh : True := hq; clear hh hq))))) | (refine wpcall_pure rfl (k2) ?_; simp; (try (refine gen fun q hq => ?_; cases q <;> (try simp at hq) <;> (try (have hh : True := hq; clear hh hq))))) | (refine wpcall_pure rfl (k3) ?_; simp; (try (refine gen fun q hq => ?_; cases q <;> (try simp at hq) <;> (try (have hh : True := hq; clear hh hq))))) | (refine T.ret (Done.tup (Or.inr rfl) ?_) <;> simp [resAs, Tryz.results218] <;> omega) | refine T.r0 fun K hK => ?_ | refine T.ct rfl ?_ | refine T.cf rfl ?_ | refine T.seq ?_ | refine T.block ?_
  | false =>
   rw [hvl] at k2
   have k3 := bareStep_ok e 40 hv hn
   have hsz := step_size e
   have hsz2 : nodesM e * nTm e <= 200 * 60000 := Nat.mul_le_mul hsm.2 hsm.1
   have k4 := BareValid_ok (stepB e).1 (by omega)
   have k5 := own_ok (stepB e).1 (by omega)
   rw [show (castValidM (stepB e).1 && bareM (stepB e).1) = bareValidM (stepB e).1 from rfl] at k4
   simp only [Bool.false_eq_true, if_false]
   generalize stepB e = p at *
   obtain ⟨x, cd, lb⟩ := p
   dsimp only at *
   by_cases h1 : cd = 1
   ·subst h1
    cases hbx : bareValidM x <;> rw [hbx] at k4
    ·simp only [if_true, Bool.false_eq_true, if_false]
     refine ACalls.of_body Tryz.func218 (by kernel_rfl) rfl (by kernel_rfl) (by simp [Tryz.ntmps218]) (by simp) ?_
     rw [Tryz.ntmps218]
     repeat' first | (refine aops_end (hK _ ?_); clear hK K) | (refine aops_go ?_; simp; (try (refine gen fun q hq => ?_; cases q <;> (try simp at hq) <;> (try (have hh : True := hq; clear hh hq))))) | (refine wpcall_pure rfl (k1) ?_; simp; (try (refine gen fun q hq => ?_; cases q <;> (try simp at hq) <;> (try (have hh : True := hq; clear hh hq))))) | (refine wpcall_pure rfl (k2) ?_; simp; (try (refine gen fun q hq => ?_; cases q <;> (try simp at hq) <;> (try (have hh : True := hq; clear hh hq))))) | (refine wpcall_pure rfl (k3) ?_; simp; (try (refine gen fun q hq => ?_; cases q <;> (try simp at hq) <;> (try (have hh : True := hq; clear hh hq))))) | (refine wpcall_pure rfl (k4) ?_; simp; (try (refine gen fun q hq => ?_; cases q <;> (try simp at hq) <;> (try (have hh : True := hq; clear hh hq))))) | (refine T.ret (Done.tup (Or.inr rfl) ?_) <;> simp [resAs, Tryz.results218] <;> omega) | refine T.r0 fun K hK => ?_ | refine T.ct rfl ?_ | refine T.cf rfl ?_ | refine T.seq ?_ | refine T.block ?_ | refine T.skip ?_
    ·simp only [if_true]
     refine ACalls.of_body Tryz.func218 (by kernel_rfl) rfl (by kernel_rfl) (by simp [Tryz.ntmps218]) (by simp) ?_
     rw [Tryz.ntmps218]
     repeat' first | (refine aops_end (hK _ ?_); clear hK K) | (refine aops_go ?_; simp; (try (refine gen fun q hq => ?_; cases q <;> (try simp at hq) <;> (try (have hh : True := hq; clear hh hq))))) | (refine wpcall_pure rfl (k1) ?_; simp; (try (refine gen fun q hq => ?_; cases q <;> (try simp at hq) <;> (try (have hh : True := hq; clear hh hq))))) | (refine wpcall_pure rfl (k2) ?_; simp; (try (refine gen fun q hq => ?_; cases q <;> (try simp at hq) <;> (try (have hh : True := hq; clear hh hq))))) | (refine wpcall_pure rfl (k3) ?_; simp; (try (refine gen fun q hq => ?_; cases q <;> (try simp at hq) <;> (try (have hh : True := hq; clear hh hq))))) | (refine wpcall_pure rfl (k4) ?_; simp; (try (refine gen fun q hq => ?_; cases q <;> (try simp at hq) <;> (try (have hh : True := hq; clear hh hq))))) | (refine wpcall_pure rfl (k5) ?_; simp; (try (refine gen fun q hq => ?_; cases q <;> (try simp at hq) <;> (try (have hh : True := hq; clear hh hq))))) | (refine T.ret (Done.tup (Or.inr rfl) ?_) <;> simp [resAs, Tryz.results218] <;> omega) | refine T.r0 fun K hK => ?_ | refine T.cf rfl ?_ | refine T.seq ?_ | refine T.block ?_ | refine T.skip ?_
   ·rw [if_neg h1]
    refine ACalls.of_body Tryz.func218 (by kernel_rfl) rfl (by kernel_rfl) (by simp [Tryz.ntmps218]) (by simp) ?_
    rw [Tryz.ntmps218]
    repeat' first | (refine aops_end (hK _ ?_); clear hK K) | (refine aops_go ?_; simp [h1]; (try (refine gen fun q hq => ?_; cases q <;> (try simp [h1] at hq) <;> (try (have hh : True := hq; clear hh hq))))) | (refine wpcall_pure rfl (k1) ?_; simp [h1]; (try (refine gen fun q hq => ?_; cases q <;> (try simp [h1] at hq) <;> (try (have hh : True := hq; clear hh hq))))) | (refine wpcall_pure rfl (k2) ?_; simp [h1]; (try (refine gen fun q hq => ?_; cases q <;> (try simp [h1] at hq) <;> (try (have hh : True := hq; clear hh hq))))) | (refine wpcall_pure rfl (k3) ?_; simp [h1]; (try (refine gen fun q hq => ?_; cases q <;> (try simp [h1] at hq) <;> (try (have hh : True := hq; clear hh hq))))) | (refine T.ret (Done.tup (Or.inr rfl) ?_) <;> simp [resAs, Tryz.results218] <;> omega) | refine T.r0 fun K hK => ?_ | refine T.ct rfl ?_ | refine T.cf rfl ?_ | refine T.seq ?_ | refine T.block ?_ | refine T.skip ?_

abbrev runR (p : MTm × Int × Int × Int) : List AV := [aTm p.1, .i p.2.1, .i p.2.2.1, .i p.2.2.2]

theorem bareRun_ok (e : MTm) (n : Nat) (hn : nTm e <= 1073741824) (hf : n <= 1000) : ACalls Tryz.prog 173 [aTm e, .i n] [] (.tup (runR (runB n e))) [] [] := by
 obtain ⟨R, hR⟩ : ∃ R, runB n e = R := ⟨_, rfl⟩
 rw [hR]
 obtain ⟨r1, r2, r3, r4⟩ := R
 refine ACalls.of_body Tryz.func173 (by kernel_rfl) rfl (by kernel_rfl) (by simp [Tryz.ntmps173]) (by simp) ?_
 rw [Tryz.ntmps173]
 repeat' first | ((first | refine aops_end (hK _ ?_) | refine aopsD_end (hK _ ?_) | refine aopsF_end (hK _ ?_)); clear hK K) | ((first | refine aops_go ?_ | refine aopsD_go ?_ | refine aopsF_go ?_); simp; (try (refine gen fun q hq => ?_; cases q <;> (try simp at hq) <;> (try (have hh : True := hq; clear hh hq))))) | refine T.r0 fun K hK => ?_ | refine T.r1 fun K hK => ?_ | (refine ⟨by omega, ?_⟩) | refine T.ct rfl ?_ | refine T.cf rfl ?_ | refine T.seq ?_ | refine T.block ?_ | refine T.skip ?_ | refine T.exit ?_
 refine T.loopK (α := Nat × MTm × List (List CV)) [1, 2, 4] (fun x => [(5, .i 0), (6, .i 0), (7, .i 0), (8, .i x.1)]) (fun x => [(0, (aTm x.2.1).cells)]) (fun x => x.2.2) (fun x A => A) (fun x => n + 1 - x.1) (fun x => x.1 <= n /\ nTm x.2.1 <= 1073741824 /\ (runB (n - x.1) x.2.1).1 = r1 /\ (runB (n - x.1) x.2.1).2.1 = r2 /\ (runB (n - x.1) x.2.1).2.2.1 = r3 /\ (runB (n - x.1) x.2.1).2.2.2 + x.1 = r4) (by simp; rfl) (fun x hx => ?_) (0, e, []) (by simp [hR, hn]) (by simp) (by simp) (by simp)
 obtain ⟨s, f, G⟩ := x
 obtain ⟨h1, h2, h3, h4, h5, h6⟩ := hx
 dsimp only at h1 h2 h3 h4 h5 h6 ⊢
 simp only [ups, List.set_cons_zero, List.set_cons_succ, List.cons_append, List.nil_append, List.append_nil]
 have k1 := StepBare_ok f h2
 have hsz := stepBare_small f
 obtain ⟨m, hm⟩ : ∃ m, n - s = m := ⟨_, rfl⟩
 rw [hm] at h3 h4 h5 h6
 have hlast : m = 0 \/ (stepBareM f).2.1 ≠ 1 -> (stepBareM f).1 = r1 /\ (stepBareM f).2.1 = r2 /\ (stepBareM f).2.2 = r3 /\ (s : Int) = r4 := by
  intro h
  cases m with
  | zero => simp only [runB] at h3 h4 h5 h6; exact ⟨h3, h4, h5, by omega⟩
  | succ m =>
   rcases h with h | h
   ·omega
   ·simp only [runB, if_neg h] at h3 h4 h5 h6; exact ⟨h3, h4, h5, by omega⟩
 have hnext : ∀ k, m = k + 1 -> (stepBareM f).2.1 = 1 -> (runB k (stepBareM f).1).1 = r1 /\ (runB k (stepBareM f).1).2.1 = r2 /\ (runB k (stepBareM f).1).2.2.1 = r3 /\ (runB k (stepBareM f).1).2.2.2 + (s + 1 : Nat) = r4 := by
  intro k hk h
  subst hk
  simp only [runB, if_pos h] at h3 h4 h5 h6
  exact ⟨h3, h4, h5, by push_cast; omega⟩
 clear h3 h4 h5 h6 hR
 generalize stepBareM f = p at *
 obtain ⟨x, cd, lb⟩ := p
 dsimp only at hsz hlast hnext
 by_cases hc : cd = 1
 ·subst hc
  cases m with
  | zero =>
   obtain ⟨rfl, rfl, rfl, rfl⟩ := hlast (.inl rfl)
   have hs : n = s := by omega
   subst hs
   repeat' first | ((first | refine aops_end (hK _ ?_) | refine aopsD_end (hK _ ?_) | refine aopsF_end (hK _ ?_)); clear hK K) | ((first | refine aops_go ?_ | refine aopsD_go ?_ | refine aopsF_go ?_); simp; (try simp (disch := omega) only [wrap64]); (try (refine gen fun q hq => ?_; cases q <;> (try simp at hq) <;> (try (have hh : True := hq; clear hh hq))))) | (refine wpcall_pure rfl (k1) ?_; simp; (try simp (disch := omega) only [wrap64]); (try (refine gen fun q hq => ?_; cases q <;> (try simp at hq) <;> (try (have hh : True := hq; clear hh hq))))) | (refine T.ret (Done.tup (Or.inr rfl) ?_) <;> simp [resAs, Tryz.results173] <;> omega) | refine T.r0 fun K hK => ?_ | refine T.r1 fun K hK => ?_ | (refine ⟨by omega, ?_⟩) | refine T.ct rfl ?_ | refine T.cf rfl ?_ | refine T.seq ?_ | refine T.block ?_ | refine T.skip ?_ | refine T.exit ?_
  | succ m =>
   obtain ⟨g1, g2, g3, g4⟩ := hnext m rfl rfl
   have hs : ¬ (s : Int) = n := by omega
   have hs2 : n - (s + 1) = m := by omega
   repeat' first | ((first | refine aops_end (hK _ ?_) | refine aopsD_end (hK _ ?_) | refine aopsF_end (hK _ ?_)); clear hK K) | ((first | refine aops_go ?_ | refine aopsD_go ?_ | refine aopsF_go ?_); simp [hs]; (try simp (disch := omega) only [wrap64]); (try (refine gen fun q hq => ?_; cases q <;> (try simp [hs] at hq) <;> (try (have hh : True := hq; clear hh hq))))) | (refine wpcall_pure rfl (k1) ?_; simp [hs]; (try simp (disch := omega) only [wrap64]); (try (refine gen fun q hq => ?_; cases q <;> (try simp [hs] at hq) <;> (try (have hh : True := hq; clear hh hq))))) | (refine ⟨(s + 1, x, _), by dsimp only; omega, ⟨by dsimp only; omega, by dsimp only; omega, by dsimp only; rw [hs2]; exact g1, by dsimp only; rw [hs2]; exact g2, by dsimp only; rw [hs2]; exact g3, by dsimp only; rw [hs2]; exact g4⟩, rfl, ?_, ?_⟩ <;> simp (disch := omega) [wrap64]) | refine T.r0 fun K hK => ?_ | refine T.r1 fun K hK => ?_ | (refine ⟨by omega, ?_⟩) | refine T.ct rfl ?_ | refine T.cf rfl ?_ | refine T.seq ?_ | refine T.block ?_ | refine T.skip ?_ | refine T.exit ?_
 ·obtain ⟨rfl, rfl, rfl, rfl⟩ := hlast (.inr hc)
  repeat' first | ((first | refine aops_end (hK _ ?_) | refine aopsD_end (hK _ ?_) | refine aopsF_end (hK _ ?_)); clear hK K) | ((first | refine aops_go ?_ | refine aopsD_go ?_ | refine aopsF_go ?_); simp [hc]; (try simp (disch := omega) only [wrap64]); (try (refine gen fun q hq => ?_; cases q <;> (try simp [hc] at hq) <;> (try (have hh : True := hq; clear hh hq))))) | (refine wpcall_pure rfl (k1) ?_; simp [hc]; (try simp (disch := omega) only [wrap64]); (try (refine gen fun q hq => ?_; cases q <;> (try simp [hc] at hq) <;> (try (have hh : True := hq; clear hh hq))))) | (refine T.ret (Done.tup (Or.inr rfl) ?_) <;> simp [resAs, Tryz.results173] <;> omega) | refine T.r0 fun K hK => ?_ | refine T.r1 fun K hK => ?_ | (refine ⟨by omega, ?_⟩) | refine T.ct rfl ?_ | refine T.cf rfl ?_ | refine T.seq ?_ | refine T.block ?_ | refine T.skip ?_ | refine T.exit ?_

theorem EvalBare_ok (e : MTm) (n : Int) (hn : nTm e <= 1073741824) : ACalls Tryz.prog 96 [aTm e, .i n] [] (.tup (stepR (evalBareM e n))) [] [] := by
 have k1 := isFuel_ok n
 rw [evalBareM]
 cases hf : fuelM n with
 | false =>
  rw [hf] at k1
  simp only [Bool.false_eq_true, if_false]
  refine ACalls.of_body Tryz.func96 (by kernel_rfl) rfl (by kernel_rfl) (by simp [Tryz.ntmps96]) (by simp) ?_
  rw [Tryz.ntmps96]
  repeat' first | ((first | refine aops_end (hK _ ?_) | refine aopsD_end (hK _ ?_) | refine aopsF_end (hK _ ?_)); clear hK K) | ((first | refine aops_go ?_ | refine aopsD_go ?_ | refine aopsF_go ?_); simp; (try (refine gen fun q hq => ?_; cases q <;> (try simp at hq) <;> (try (have hh : True := hq; clear hh hq))))) | (refine wpcall_pure rfl (k1) ?_; simp; (try (refine gen fun q hq => ?_; cases q <;> (try simp at hq) <;> (try (have hh : True := hq; clear hh hq))))) | (refine T.ret (Done.tup (Or.inr rfl) ?_) <;> simp [resAs, Tryz.results96] <;> omega) | refine T.r0 fun K hK => ?_ | refine T.r1 fun K hK => ?_ | (refine ⟨by omega, ?_⟩) | refine T.ct rfl ?_ | refine T.cf rfl ?_ | refine T.seq ?_ | refine T.block ?_ | refine T.skip ?_ | refine T.exit ?_
 | true =>
  rw [hf] at k1
  simp only [fuelM, Bool.and_eq_true, decide_eq_true_eq] at hf
  have k2 := bareRun_ok e n.toNat hn (by omega)
  rw [show ((n.toNat : Nat) : Int) = n by omega] at k2
  simp only [if_true]
  generalize runB n.toNat e = p at *
  obtain ⟨x, cd, lb, st⟩ := p
  dsimp only
  by_cases hc : cd = 1
  ·subst hc
   simp only [if_true]
   refine ACalls.of_body Tryz.func96 (by kernel_rfl) rfl (by kernel_rfl) (by simp [Tryz.ntmps96]) (by simp) ?_
   rw [Tryz.ntmps96]
   repeat' first | ((first | refine aops_end (hK _ ?_) | refine aopsD_end (hK _ ?_) | refine aopsF_end (hK _ ?_)); clear hK K) | ((first | refine aops_go ?_ | refine aopsD_go ?_ | refine aopsF_go ?_); simp; (try (refine gen fun q hq => ?_; cases q <;> (try simp at hq) <;> (try (have hh : True := hq; clear hh hq))))) | (refine wpcall_pure rfl (k1) ?_; simp; (try (refine gen fun q hq => ?_; cases q <;> (try simp at hq) <;> (try (have hh : True := hq; clear hh hq))))) | (refine wpcall_pure rfl (k2) ?_; simp; (try (refine gen fun q hq => ?_; cases q <;> (try simp at hq) <;> (try (have hh : True := hq; clear hh hq))))) | (refine T.ret (Done.tup (Or.inr rfl) ?_) <;> simp [resAs, Tryz.results96] <;> omega) | refine T.r0 fun K hK => ?_ | refine T.r1 fun K hK => ?_ | (refine ⟨by omega, ?_⟩) | refine T.ct rfl ?_ | refine T.cf rfl ?_ | refine T.seq ?_ | refine T.block ?_ | refine T.skip ?_ | refine T.exit ?_
  ·rw [if_neg hc]
   refine ACalls.of_body Tryz.func96 (by kernel_rfl) rfl (by kernel_rfl) (by simp [Tryz.ntmps96]) (by simp) ?_
   rw [Tryz.ntmps96]
   repeat' first | ((first | refine aops_end (hK _ ?_) | refine aopsD_end (hK _ ?_) | refine aopsF_end (hK _ ?_)); clear hK K) | ((first | refine aops_go ?_ | refine aopsD_go ?_ | refine aopsF_go ?_); simp [hc]; (try (refine gen fun q hq => ?_; cases q <;> (try simp [hc] at hq) <;> (try (have hh : True := hq; clear hh hq))))) | (refine wpcall_pure rfl (k1) ?_; simp [hc]; (try (refine gen fun q hq => ?_; cases q <;> (try simp [hc] at hq) <;> (try (have hh : True := hq; clear hh hq))))) | (refine wpcall_pure rfl (k2) ?_; simp [hc]; (try (refine gen fun q hq => ?_; cases q <;> (try simp [hc] at hq) <;> (try (have hh : True := hq; clear hh hq))))) | (refine T.ret (Done.tup (Or.inr rfl) ?_) <;> simp [resAs, Tryz.results96] <;> omega) | refine T.r0 fun K hK => ?_ | refine T.r1 fun K hK => ?_ | (refine ⟨by omega, ?_⟩) | refine T.ct rfl ?_ | refine T.cf rfl ?_ | refine T.seq ?_ | refine T.block ?_ | refine T.skip ?_ | refine T.exit ?_

end Go.Proofs.YtflmjilnecanhaaGreatDoor

namespace Go.Proofs.YtflmjilnecanhaaGreatDoor
open Go Go.Av
attribute [local irreducible] T ACalls TX EX LX Draws Some_ ACallsX eTy eTm MTy.kind MTy.kids MTm.kind MTm.name MTm.num MTm.ty MTm.fr MTm.label MTm.kids
attribute [local simp] eTy_def eTm_def
set_option maxHeartbeats 16000000
set_option maxRecDepth 8000
attribute [local simp] Option.bind

theorem l1Ground_ok (t : MTy) (hn : nTy t <= 1099511627776) : ACalls Tryz.prog 239 [aTy t] [] (aTy (.mk t.kind (List.replicate t.kids.length anyT))) [] [] := by
 have h1 := l1Any_ok
 have hlen := nTyS_len t.kids
 rw [nTy_def] at hn
 refine ACalls.of_body Tryz.func239 (by kernel_rfl) rfl (by kernel_rfl) (by simp [Tryz.ntmps239]) (by simp) ?_
 rw [Tryz.ntmps239]
 repeat' first | (refine aops_end (hK _ ?_); clear hK K) | (refine aops_go ?_; simp; (try (refine gen fun q hq => ?_; cases q <;> (try simp at hq) <;> (try (have hh : True := hq; clear hh hq))))) | refine T.r0 fun K hK => ?_ | refine T.seq ?_ | refine T.block ?_
 refine T.ownifyObj 2 1 2 43 (row := [.d (.i t.kind), .nil]) (by simp) (by simp) ?_
 refine T.loopF (fun p : Nat => ⟨[(1, .c (.ptr 0 0)), (2, .c (.ptr 1 0)), (3, .c (.ptr 2 0)), (4, .i p)], [(aTy t).cells, [.d (.i 0), .nil], [.d (.i t.kind), .own 0 p]], [{ sz := 2, ety := 43, rows := (List.replicate p anyT).map eTy, wr := true }]⟩) (fun p => t.kids.length + 1 - p) (fun p => p <= t.kids.length) (fun p hp => ?_) 0 (by simp) (by simp)
 by_cases hlt : p < t.kids.length
 ·repeat' first | ((first | refine aops_end (hK _ ?_) | refine aopsD_end (hK _ ?_)); clear hK K) | ((first | refine aops_go ?_ | refine aopsD_go ?_); simp [hlt]; (try simp (disch := omega) only [wrap64]); (try (refine gen fun q hq => ?_; cases q <;> (try simp [hlt] at hq) <;> (try (have hh : True := hq; clear hh hq))))) | (refine wpcall_pure rfl (h1) ?_; simp [hlt]; (try simp (disch := omega) only [wrap64]); (try (refine gen fun q hq => ?_; cases q <;> (try simp [hlt] at hq) <;> (try (have hh : True := hq; clear hh hq))))) | (refine ⟨by omega, by omega, ?_⟩) | (refine ⟨p + 1, by dsimp only; omega, by omega, ?_, ?_, ?_⟩ <;> simp (disch := omega) [wrap64, List.replicate_succ', eTy_def]) | refine T.rd1 (id := 5) mixed (fun _ => false) [4, 6] (by kernel_rfl) fun K hK => ?_ | refine T.r0 fun K hK => ?_ | refine T.r1 fun K hK => ?_ | refine T.ct rfl ?_ | refine T.seq ?_ | refine T.block ?_ | refine T.skip ?_
 ·have hp' : p = t.kids.length := by omega
  subst hp'
  repeat' first | (refine aops_end (hK _ ?_); clear hK K) | (refine aops_go ?_; simp [hlt]; (try (refine gen fun q hq => ?_; cases q <;> (try simp [hlt] at hq) <;> (try (have hh : True := hq; clear hh hq))))) | (refine T.ret (Done.val (Or.inr rfl) ?_) <;> simp [resAs, Tryz.results239] <;> omega) | refine T.r0 fun K hK => ?_ | refine T.cf rfl ?_ | refine T.seq ?_ | refine T.exit ?_

theorem l5Ground_ok (t : MTy) (ht : shapeTy 4 t = true) : ACalls Tryz.prog 216 [aTy t] [] (.b (isGroundM t)) [] [] := by
 have hs := shape4 ht
 have h1 := l1Ground_ok t (by omega)
 rw [show MTy.mk t.kind (List.replicate t.kids.length anyT) = groundT t.kind by cases VTy.of ht <;> simp [groundT]] at h1
 have h2 := TypeSameS_ok t (groundT t.kind) (by omega)
 rw [isGroundM]
 generalize sameTy t (groundT t.kind) = q at *
 generalize groundT t.kind = G at *
 by_cases hk : t.kind = 1
 ·simp only [hk, ne_eq, not_true_eq_false, decide_false, Bool.false_and]
  refine ACalls.of_body Tryz.func216 (by kernel_rfl) rfl (by kernel_rfl) (by simp [Tryz.ntmps216]) (by simp) ?_
  rw [Tryz.ntmps216]
  repeat' first | ((first | refine aops_end (hK _ ?_) | refine aopsD_end (hK _ ?_)); clear hK K) | ((first | refine aops_go ?_ | refine aopsD_go ?_); simp [hk]; (try (refine gen fun q hq => ?_; cases q <;> (try simp [hk] at hq) <;> (try (have hh : True := hq; clear hh hq))))) | (refine T.ret (Done.data (Or.inr rfl) ?_ ?_) <;> simp [Tryz.results216] <;> omega) | refine T.rd (id := 1) mixed (fun _ => false) [] (by kernel_rfl) fun K hK => ?_ | refine T.r0 fun K hK => ?_
 ·simp only [hk, ne_eq, not_false_eq_true, decide_true, Bool.true_and]
  refine ACalls.of_body Tryz.func216 (by kernel_rfl) rfl (by kernel_rfl) (by simp [Tryz.ntmps216]) (by simp) ?_
  rw [Tryz.ntmps216]
  repeat' first | ((first | refine aops_end (hK _ ?_) | refine aopsD_end (hK _ ?_)); clear hK K) | ((first | refine aops_go ?_ | refine aopsD_go ?_); simp [hk]; (try (refine gen fun q hq => ?_; cases q <;> (try simp [hk] at hq) <;> (try (have hh : True := hq; clear hh hq))))) | (refine wpcall_pure rfl (h1) ?_; simp [hk]; (try (refine gen fun q hq => ?_; cases q <;> (try simp [hk] at hq) <;> (try (have hh : True := hq; clear hh hq))))) | (refine wpcall_pure rfl (h2) ?_; simp [hk]; (try (refine gen fun q hq => ?_; cases q <;> (try simp [hk] at hq) <;> (try (have hh : True := hq; clear hh hq))))) | (refine T.ret (Done.data (Or.inr rfl) ?_ ?_) <;> simp [Tryz.results216, *] <;> omega) | refine T.rd (id := 1) mixed (fun _ => false) [] (by kernel_rfl) fun K hK => ?_ | refine T.r0 fun K hK => ?_

theorem l5Proxy_ok (e : MTm) : ACalls Tryz.prog 168 [aTm e] [] (.b (proxyM e)) [] [] := by
 rw [show proxyM e = (decide (e.kind = 14) && (decide (e.fr.kind = e.ty.kind) && (decide (e.fr.kind = 4) || decide (e.fr.kind = 5)))) by
  rw [proxyM]
  by_cases h : e.fr.kind = e.ty.kind
  ·simp [h]
  ·simp [h]]
 refine ACalls.of_body Tryz.func168 (by kernel_rfl) rfl (by kernel_rfl) (by simp [Tryz.ntmps168]) (by simp) ?_
 rw [Tryz.ntmps168]
 repeat' first | (refine aops_end (hK _ ?_); clear hK K) | (refine aops_go ?_; simp; (try (refine gen fun q hq => ?_; cases q <;> (try simp at hq) <;> (try (have hh : True := hq; clear hh hq))))) | (refine T.ret (Done.data (Or.inr rfl) ?_ ?_) <;> simp [Tryz.results168, *] <;> omega) | refine T.r0 fun K hK => ?_

theorem l5Inject_ok (e : MTm) (h : e.kind = 14 -> shapeTy 4 e.fr = true) : ACalls Tryz.prog 169 [aTm e] [] (.b (injM e)) [] [] := by
 rw [injM]
 by_cases hk : e.kind = 14
 ·have h1 := l5Ground_ok e.fr (h hk)
  generalize isGroundM e.fr = q at *
  simp only [hk, decide_true, Bool.true_and]
  refine ACalls.of_body Tryz.func169 (by kernel_rfl) rfl (by kernel_rfl) (by simp [Tryz.ntmps169]) (by simp) ?_
  rw [Tryz.ntmps169]
  repeat' first | (refine aops_end (hK _ ?_); clear hK K) | (refine aops_go ?_; simp [hk]; (try (refine gen fun q hq => ?_; cases q <;> (try simp [hk] at hq) <;> (try (have hh : True := hq; clear hh hq))))) | (refine wpcall_pure rfl (h1) ?_; simp [hk]; (try (refine gen fun q hq => ?_; cases q <;> (try simp [hk] at hq) <;> (try (have hh : True := hq; clear hh hq))))) | (refine T.ret (Done.data (Or.inr rfl) ?_ ?_) <;> simp [Tryz.results169, *] <;> omega) | refine T.r0 fun K hK => ?_
 ·simp only [hk, decide_false, Bool.false_and]
  refine ACalls.of_body Tryz.func169 (by kernel_rfl) rfl (by kernel_rfl) (by simp [Tryz.ntmps169]) (by simp) ?_
  rw [Tryz.ntmps169]
  repeat' first | (refine aops_end (hK _ ?_); clear hK K) | (refine aops_go ?_; simp [hk]; (try (refine gen fun q hq => ?_; cases q <;> (try simp [hk] at hq) <;> (try (have hh : True := hq; clear hh hq))))) | (refine T.ret (Done.data (Or.inr rfl) ?_ ?_) <;> simp [Tryz.results169] <;> omega) | refine T.r0 fun K hK => ?_

theorem l5Value_ok : ∀ (e : MTm) (d : Nat), TmV 13 d e -> ACalls Tryz.prog 256 [aTm e] [] (.b (valM e)) [] [] := by
 intro e
 induction e using MTm.ind with
 | h e ih =>
  intro d hv
  have k1 := l5Proxy_ok e
  have k2 := l5Inject_ok e (fun h => by obtain ⟨_, x, f, t, l, _, rfl, _⟩ := hv.kind14 h; obtain ⟨_, _, hf, _⟩ := hv.inv_cast; simpa using hf)
  rcases hv.cases13 with ⟨s, rfl⟩ | ⟨k, rfl, h1, h2⟩ | rfl | rfl | ⟨s, t, b, rfl⟩ | ⟨a, f, t, l, rfl⟩ | ⟨k, a, rfl, hk, _, ha⟩ | ⟨p, a, b, rfl, _, hp⟩ | ⟨k, a, b, rfl, hk, ⟨_, ha⟩, _, hb⟩
  ·rw [show valM (tVar s) = false by simp [valM_def, proxyM, injM, plainM]]
   rw [show proxyM (tVar s) = false by simp [proxyM]] at k1
   rw [show injM (tVar s) = false by simp [injM]] at k2
   refine ACalls.of_body Tryz.func256 (by kernel_rfl) rfl (by kernel_rfl) (by simp [Tryz.ntmps256]) (by simp) ?_
   rw [Tryz.ntmps256]
   repeat' first | (refine aops_end (hK _ ?_); clear hK K) | (refine aops_go ?_; simp; (try (refine gen fun q hq => ?_; cases q <;> (try simp at hq) <;> (try (have hh : True := hq; clear hh hq))))) | (refine wpcall_pure ?_ (k1) ?_; (focus (solve | simp)); simp; (try (refine gen fun q hq => ?_; cases q <;> (try simp at hq) <;> (try (have hh : True := hq; clear hh hq))))) | (refine wpcall_pure ?_ (k2) ?_; (focus (solve | simp)); simp; (try (refine gen fun q hq => ?_; cases q <;> (try simp at hq) <;> (try (have hh : True := hq; clear hh hq))))) | (refine T.ret (Done.data (Or.inr rfl) ?_ ?_) <;> simp [Tryz.results256] <;> omega) | refine T.r0 fun K hK => ?_ | refine T.r1 fun K hK => ?_ | refine T.cf rfl ?_ | refine T.seq ?_ | refine T.block ?_ | refine T.skip ?_
  ·rw [show valM (tNum k) = true by simp [valM_def, proxyM, injM, plainM]]
   refine ACalls.of_body Tryz.func256 (by kernel_rfl) rfl (by kernel_rfl) (by simp [Tryz.ntmps256]) (by simp) ?_
   rw [Tryz.ntmps256]
   repeat' first | (refine aops_end (hK _ ?_); clear hK K) | (refine aops_go ?_; simp; (try (refine gen fun q hq => ?_; cases q <;> (try simp at hq) <;> (try (have hh : True := hq; clear hh hq))))) | (refine T.ret (Done.data (Or.inr rfl) ?_ ?_) <;> simp [Tryz.results256] <;> omega) | refine T.r0 fun K hK => ?_ | refine T.ct rfl ?_ | refine T.seq ?_ | refine T.block ?_ | refine T.skip ?_
  ·rw [show valM tTrue = true by simp [valM_def, proxyM, injM, plainM]]
   refine ACalls.of_body Tryz.func256 (by kernel_rfl) rfl (by kernel_rfl) (by simp [Tryz.ntmps256]) (by simp) ?_
   rw [Tryz.ntmps256]
   repeat' first | (refine aops_end (hK _ ?_); clear hK K) | (refine aops_go ?_; simp; (try (refine gen fun q hq => ?_; cases q <;> (try simp at hq) <;> (try (have hh : True := hq; clear hh hq))))) | (refine T.ret (Done.data (Or.inr rfl) ?_ ?_) <;> simp [Tryz.results256] <;> omega) | refine T.r0 fun K hK => ?_ | refine T.ct rfl ?_ | refine T.cf rfl ?_ | refine T.seq ?_ | refine T.block ?_ | refine T.skip ?_
  ·rw [show valM tFalse = true by simp [valM_def, proxyM, injM, plainM]]
   refine ACalls.of_body Tryz.func256 (by kernel_rfl) rfl (by kernel_rfl) (by simp [Tryz.ntmps256]) (by simp) ?_
   rw [Tryz.ntmps256]
   repeat' first | (refine aops_end (hK _ ?_); clear hK K) | (refine aops_go ?_; simp; (try (refine gen fun q hq => ?_; cases q <;> (try simp at hq) <;> (try (have hh : True := hq; clear hh hq))))) | (refine T.ret (Done.data (Or.inr rfl) ?_ ?_) <;> simp [Tryz.results256] <;> omega) | refine T.r0 fun K hK => ?_ | refine T.ct rfl ?_ | refine T.cf rfl ?_ | refine T.seq ?_ | refine T.block ?_ | refine T.skip ?_
  ·rw [show valM (tLam s t b) = true by simp [valM_def, proxyM, injM, plainM]]
   refine ACalls.of_body Tryz.func256 (by kernel_rfl) rfl (by kernel_rfl) (by simp [Tryz.ntmps256]) (by simp) ?_
   rw [Tryz.ntmps256]
   repeat' first | (refine aops_end (hK _ ?_); clear hK K) | (refine aops_go ?_; simp; (try (refine gen fun q hq => ?_; cases q <;> (try simp at hq) <;> (try (have hh : True := hq; clear hh hq))))) | (refine T.ret (Done.data (Or.inr rfl) ?_ ?_) <;> simp [Tryz.results256] <;> omega) | refine T.r0 fun K hK => ?_ | refine T.r1 fun K hK => ?_ | refine T.ct rfl ?_ | refine T.cf rfl ?_ | refine T.seq ?_ | refine T.block ?_
  ·obtain ⟨d', _, _, _, _, _, ha⟩ := hv.inv_cast
   have k3 := ih a (by simp) d' ha
   rw [show valM (tCast a f t l) = ((proxyM (tCast a f t l) || injM (tCast a f t l)) && valM a) by
    rw [valM_def]
    cases hq : (proxyM (tCast a f t l) || injM (tCast a f t l)) <;> simp [plainM]]
   generalize proxyM (tCast a f t l) = q1 at *
   generalize injM (tCast a f t l) = q2 at *
   generalize valM a = q3 at *
   refine ACalls.of_body Tryz.func256 (by kernel_rfl) rfl (by kernel_rfl) (by simp [Tryz.ntmps256]) (by simp) ?_
   rw [Tryz.ntmps256]
   repeat' first | (refine aops_end (hK _ ?_); clear hK K) | (refine aops_go ?_; simp [eTm_def]; (try (refine gen fun q hq => ?_; cases q <;> (try simp [eTm_def] at hq) <;> (try (have hh : True := hq; clear hh hq))))) | (refine wpcall_pure ?_ (k1) ?_; (focus (solve | simp [eTm_def])); simp [eTm_def]; (try (refine gen fun q hq => ?_; cases q <;> (try simp [eTm_def] at hq) <;> (try (have hh : True := hq; clear hh hq))))) | (refine wpcall_pure ?_ (k2) ?_; (focus (solve | simp [eTm_def])); simp [eTm_def]; (try (refine gen fun q hq => ?_; cases q <;> (try simp [eTm_def] at hq) <;> (try (have hh : True := hq; clear hh hq))))) | (refine wpcall_pure ?_ (k3) ?_; (focus (solve | simp [eTm_def])); simp [eTm_def]; (try (refine gen fun q hq => ?_; cases q <;> (try simp [eTm_def] at hq) <;> (try (have hh : True := hq; clear hh hq))))) | (refine T.ret (Done.data (Or.inr rfl) ?_ ?_) <;> simp [Tryz.results256, *] <;> omega) | refine T.r0 fun K hK => ?_ | refine T.r1 fun K hK => ?_ | refine T.cf rfl ?_ | refine T.seq ?_ | refine T.block ?_ | refine T.skip ?_
  ·have hk10 : ¬ k = 10 := by omega
   have hk14 : ¬ k = 14 := by omega
   have hk2 : ¬ k = 2 := by omega
   have hk3 : ¬ k = 3 := by omega
   have hk4 : ¬ k = 4 := by omega
   have hk5 : ¬ k = 5 := by omega
   rw [show valM (tN1 k a) = false by simp [valM_def, proxyM, injM, plainM, hk10, hk14, hk2, hk3, hk4, hk5]]
   rw [show proxyM (tN1 k a) = false by simp [proxyM, hk14]] at k1
   rw [show injM (tN1 k a) = false by simp [injM, hk14]] at k2
   refine ACalls.of_body Tryz.func256 (by kernel_rfl) rfl (by kernel_rfl) (by simp [Tryz.ntmps256]) (by simp) ?_
   rw [Tryz.ntmps256]
   repeat' first | (refine aops_end (hK _ ?_); clear hK K) | (refine aops_go ?_; simp [eTm_def, hk10, hk14, hk2, hk3, hk4, hk5]; (try (refine gen fun q hq => ?_; cases q <;> (try simp [eTm_def, hk10, hk14, hk2, hk3, hk4, hk5] at hq) <;> (try (have hh : True := hq; clear hh hq))))) | (refine wpcall_pure ?_ (k1) ?_; (focus (solve | simp [eTm_def, hk10, hk14, hk2, hk3, hk4, hk5])); simp [eTm_def, hk10, hk14, hk2, hk3, hk4, hk5]; (try (refine gen fun q hq => ?_; cases q <;> (try simp [eTm_def, hk10, hk14, hk2, hk3, hk4, hk5] at hq) <;> (try (have hh : True := hq; clear hh hq))))) | (refine wpcall_pure ?_ (k2) ?_; (focus (solve | simp [eTm_def, hk10, hk14, hk2, hk3, hk4, hk5])); simp [eTm_def, hk10, hk14, hk2, hk3, hk4, hk5]; (try (refine gen fun q hq => ?_; cases q <;> (try simp [eTm_def, hk10, hk14, hk2, hk3, hk4, hk5] at hq) <;> (try (have hh : True := hq; clear hh hq))))) | (refine T.ret (Done.data (Or.inr rfl) ?_ ?_) <;> simp [Tryz.results256] <;> omega) | refine T.r0 fun K hK => ?_ | refine T.r1 fun K hK => ?_ | refine T.cf rfl ?_ | refine T.seq ?_ | refine T.block ?_ | refine T.skip ?_
  ·rw [show valM (tIf p a b) = false by simp [valM_def, proxyM, injM, plainM]]
   rw [show proxyM (tIf p a b) = false by simp [proxyM]] at k1
   rw [show injM (tIf p a b) = false by simp [injM]] at k2
   refine ACalls.of_body Tryz.func256 (by kernel_rfl) rfl (by kernel_rfl) (by simp [Tryz.ntmps256]) (by simp) ?_
   rw [Tryz.ntmps256]
   repeat' first | (refine aops_end (hK _ ?_); clear hK K) | (refine aops_go ?_; simp [eTm_def]; (try (refine gen fun q hq => ?_; cases q <;> (try simp [eTm_def] at hq) <;> (try (have hh : True := hq; clear hh hq))))) | (refine wpcall_pure ?_ (k1) ?_; (focus (solve | simp [eTm_def])); simp [eTm_def]; (try (refine gen fun q hq => ?_; cases q <;> (try simp [eTm_def] at hq) <;> (try (have hh : True := hq; clear hh hq))))) | (refine wpcall_pure ?_ (k2) ?_; (focus (solve | simp [eTm_def])); simp [eTm_def]; (try (refine gen fun q hq => ?_; cases q <;> (try simp [eTm_def] at hq) <;> (try (have hh : True := hq; clear hh hq))))) | (refine T.ret (Done.data (Or.inr rfl) ?_ ?_) <;> simp [Tryz.results256] <;> omega) | refine T.r0 fun K hK => ?_ | refine T.r1 fun K hK => ?_ | refine T.cf rfl ?_ | refine T.seq ?_ | refine T.block ?_ | refine T.skip ?_
  ·by_cases hk10 : k = 10
   ·subst hk10
    have k3 := ih a (by simp) _ ha
    have k4 := ih b (by simp) _ hb
    rw [show valM (tN2 10 a b) = (valM a && valM b) by simp [valM_def]]
    generalize valM a = q1 at *
    generalize valM b = q2 at *
    refine ACalls.of_body Tryz.func256 (by kernel_rfl) rfl (by kernel_rfl) (by simp [Tryz.ntmps256]) (by simp) ?_
    rw [Tryz.ntmps256]
    repeat' first | (refine aops_end (hK _ ?_); clear hK K) | (refine aops_go ?_; simp [eTm_def]; (try (refine gen fun q hq => ?_; cases q <;> (try simp [eTm_def] at hq) <;> (try (have hh : True := hq; clear hh hq))))) | (refine wpcall_pure ?_ (k3) ?_; (focus (solve | simp [eTm_def])); simp [eTm_def]; (try (refine gen fun q hq => ?_; cases q <;> (try simp [eTm_def] at hq) <;> (try (have hh : True := hq; clear hh hq))))) | (refine wpcall_pure ?_ (k4) ?_; (focus (solve | simp [eTm_def])); simp [eTm_def]; (try (refine gen fun q hq => ?_; cases q <;> (try simp [eTm_def] at hq) <;> (try (have hh : True := hq; clear hh hq))))) | (refine T.ret (Done.data (Or.inr rfl) ?_ ?_) <;> simp [Tryz.results256, *] <;> omega) | refine T.r0 fun K hK => ?_ | refine T.r1 fun K hK => ?_ | refine T.ct rfl ?_ | refine T.cf rfl ?_ | refine T.seq ?_ | refine T.block ?_
   ·have hk14 : ¬ k = 14 := by omega
    have hk2 : ¬ k = 2 := by omega
    have hk3 : ¬ k = 3 := by omega
    have hk4 : ¬ k = 4 := by omega
    have hk5 : ¬ k = 5 := by omega
    rw [show valM (tN2 k a b) = false by simp [valM_def, proxyM, injM, plainM, hk10, hk14, hk2, hk3, hk4, hk5]]
    rw [show proxyM (tN2 k a b) = false by simp [proxyM, hk14]] at k1
    rw [show injM (tN2 k a b) = false by simp [injM, hk14]] at k2
    refine ACalls.of_body Tryz.func256 (by kernel_rfl) rfl (by kernel_rfl) (by simp [Tryz.ntmps256]) (by simp) ?_
    rw [Tryz.ntmps256]
    repeat' first | (refine aops_end (hK _ ?_); clear hK K) | (refine aops_go ?_; simp [eTm_def, hk10, hk14, hk2, hk3, hk4, hk5]; (try (refine gen fun q hq => ?_; cases q <;> (try simp [eTm_def, hk10, hk14, hk2, hk3, hk4, hk5] at hq) <;> (try (have hh : True := hq; clear hh hq))))) | (refine wpcall_pure ?_ (k1) ?_; (focus (solve | simp [eTm_def, hk10, hk14, hk2, hk3, hk4, hk5])); simp [eTm_def, hk10, hk14, hk2, hk3, hk4, hk5]; (try (refine gen fun q hq => ?_; cases q <;> (try simp [eTm_def, hk10, hk14, hk2, hk3, hk4, hk5] at hq) <;> (try (have hh : True := hq; clear hh hq))))) | (refine wpcall_pure ?_ (k2) ?_; (focus (solve | simp [eTm_def, hk10, hk14, hk2, hk3, hk4, hk5])); simp [eTm_def, hk10, hk14, hk2, hk3, hk4, hk5]; (try (refine gen fun q hq => ?_; cases q <;> (try simp [eTm_def, hk10, hk14, hk2, hk3, hk4, hk5] at hq) <;> (try (have hh : True := hq; clear hh hq))))) | (refine T.ret (Done.data (Or.inr rfl) ?_ ?_) <;> simp [Tryz.results256] <;> omega) | refine T.r0 fun K hK => ?_ | refine T.r1 fun K hK => ?_ | refine T.cf rfl ?_ | refine T.seq ?_ | refine T.block ?_ | refine T.skip ?_

theorem l5Bool_ok (b : Bool) : ACalls Tryz.prog 309 [.b b] [] (aTm (truthM b)) [] [] := by
 cases b
 ·rw [show truthM false = tFalse from rfl]
  refine ACalls.of_body Tryz.func309 (by kernel_rfl) rfl (by kernel_rfl) (by simp [Tryz.ntmps309]) (by simp) ?_
  rw [Tryz.ntmps309]
  repeat' first | (refine aops_end (hK _ ?_); clear hK K) | (refine aops_go ?_; simp; (try (refine gen fun q hq => ?_; cases q <;> (try simp at hq) <;> (try (have hh : True := hq; clear hh hq))))) | (refine T.ret (Done.val (Or.inr rfl) ?_) <;> simp [resAs, Tryz.results309] <;> omega) | refine T.r0 fun K hK => ?_ | refine T.cf rfl ?_ | refine T.seq ?_ | refine T.skip ?_
 ·rw [show truthM true = tTrue from rfl]
  refine ACalls.of_body Tryz.func309 (by kernel_rfl) rfl (by kernel_rfl) (by simp [Tryz.ntmps309]) (by simp) ?_
  rw [Tryz.ntmps309]
  repeat' first | (refine aops_end (hK _ ?_); clear hK K) | (refine aops_go ?_; simp; (try (refine gen fun q hq => ?_; cases q <;> (try simp at hq) <;> (try (have hh : True := hq; clear hh hq))))) | (refine T.ret (Done.val (Or.inr rfl) ?_) <;> simp [resAs, Tryz.results309] <;> omega) | refine T.r0 fun K hK => ?_ | refine T.ct rfl ?_ | refine T.seq ?_

theorem l5Number_add (m n : Int) (hm : 0 <= m /\ m <= 999) (hn : 0 <= n /\ n <= 999) : ACalls Tryz.prog 308 [.i 7, aTm (tNum m), aTm (tNum n)] [] (.tup [aTm (tNum ((m + n).tmod 1000)), .i 1, .i 0]) [] [] := by
 have h1 := l2Num_ok ((m + n).tmod 1000)
 refine ACalls.of_body Tryz.func308 (by kernel_rfl) rfl (by kernel_rfl) (by simp [Tryz.ntmps308]) (by simp) ?_
 rw [Tryz.ntmps308]
 repeat' first | (refine aops_end (hK _ ?_); clear hK K) | (refine aops_go ?_; simp; (try simp (disch := omega) only [wrap64]); (try (refine gen fun q hq => ?_; cases q <;> (try simp at hq) <;> (try (have hh : True := hq; clear hh hq))))) | (refine wpcall_pure rfl (h1) ?_; simp; (try simp (disch := omega) only [wrap64]); (try (refine gen fun q hq => ?_; cases q <;> (try simp at hq) <;> (try (have hh : True := hq; clear hh hq))))) | (refine T.ret (Done.tup (Or.inr rfl) ?_) <;> simp [resAs, Tryz.results308] <;> omega) | refine T.r0 fun K hK => ?_ | refine T.ct rfl ?_ | refine T.cf rfl ?_ | refine T.seq ?_ | refine T.skip ?_

theorem l5Number_less (m n : Int) : ACalls Tryz.prog 308 [.i 8, aTm (tNum m), aTm (tNum n)] [] (.tup [aTm (truthM (decide (m < n))), .i 1, .i 0]) [] [] := by
 by_cases hmn : m < n
 ·have h1 := l5Bool_ok true
  rw [show decide (m < n) = true by simp [hmn]]
  rw [show truthM true = tTrue from rfl] at h1 ⊢
  refine ACalls.of_body Tryz.func308 (by kernel_rfl) rfl (by kernel_rfl) (by simp [Tryz.ntmps308]) (by simp) ?_
  rw [Tryz.ntmps308]
  repeat' first | (refine aops_end (hK _ ?_); clear hK K) | (refine aops_go ?_; simp [hmn]; (try simp (disch := omega) only [wrap64]); (try (refine gen fun q hq => ?_; cases q <;> (try simp [hmn] at hq) <;> (try (have hh : True := hq; clear hh hq))))) | (refine wpcall_pure rfl (h1) ?_; simp [hmn]; (try simp (disch := omega) only [wrap64]); (try (refine gen fun q hq => ?_; cases q <;> (try simp [hmn] at hq) <;> (try (have hh : True := hq; clear hh hq))))) | (refine T.ret (Done.tup (Or.inr rfl) ?_) <;> simp [resAs, Tryz.results308] <;> omega) | refine T.r0 fun K hK => ?_ | refine T.cf rfl ?_ | refine T.seq ?_ | refine T.skip ?_
 ·have h1 := l5Bool_ok false
  rw [show decide (m < n) = false by simp [hmn]]
  rw [show truthM false = tFalse from rfl] at h1 ⊢
  refine ACalls.of_body Tryz.func308 (by kernel_rfl) rfl (by kernel_rfl) (by simp [Tryz.ntmps308]) (by simp) ?_
  rw [Tryz.ntmps308]
  repeat' first | (refine aops_end (hK _ ?_); clear hK K) | (refine aops_go ?_; simp [hmn]; (try simp (disch := omega) only [wrap64]); (try (refine gen fun q hq => ?_; cases q <;> (try simp [hmn] at hq) <;> (try (have hh : True := hq; clear hh hq))))) | (refine wpcall_pure rfl (h1) ?_; simp [hmn]; (try simp (disch := omega) only [wrap64]); (try (refine gen fun q hq => ?_; cases q <;> (try simp [hmn] at hq) <;> (try (have hh : True := hq; clear hh hq))))) | (refine T.ret (Done.tup (Or.inr rfl) ?_) <;> simp [resAs, Tryz.results308] <;> omega) | refine T.r0 fun K hK => ?_ | refine T.cf rfl ?_ | refine T.seq ?_ | refine T.skip ?_

theorem l5Number_bad (k : Int) (a b : MTm) (h : ¬ (a.kind = 2 /\ b.kind = 2)) : ACalls Tryz.prog 308 [.i k, aTm a, aTm b] [] (.tup [aTm zeroE, .i 3, .i 0]) [] [] := by
 by_cases ha : a.kind = 2
 ·have hb : ¬ b.kind = 2 := fun hb => h ⟨ha, hb⟩
  refine ACalls.of_body Tryz.func308 (by kernel_rfl) rfl (by kernel_rfl) (by simp [Tryz.ntmps308]) (by simp) ?_
  rw [Tryz.ntmps308]
  repeat' first | (refine aops_end (hK _ ?_); clear hK K) | (refine aops_go ?_; simp [ha, hb]; (try (refine gen fun q hq => ?_; cases q <;> (try simp [ha, hb] at hq) <;> (try (have hh : True := hq; clear hh hq))))) | (refine T.ret (Done.tup (Or.inr rfl) ?_) <;> simp [resAs, Tryz.results308] <;> omega) | refine T.r0 fun K hK => ?_ | refine T.ct rfl ?_ | refine T.seq ?_
 ·refine ACalls.of_body Tryz.func308 (by kernel_rfl) rfl (by kernel_rfl) (by simp [Tryz.ntmps308]) (by simp) ?_
  rw [Tryz.ntmps308]
  repeat' first | (refine aops_end (hK _ ?_); clear hK K) | (refine aops_go ?_; simp [ha]; (try (refine gen fun q hq => ?_; cases q <;> (try simp [ha] at hq) <;> (try (have hh : True := hq; clear hh hq))))) | (refine T.ret (Done.tup (Or.inr rfl) ?_) <;> simp [resAs, Tryz.results308] <;> omega) | refine T.r0 fun K hK => ?_ | refine T.ct rfl ?_ | refine T.seq ?_

abbrev redR (e : MTm) : List AV := match ruleM e with
 | some x => [aTm x, .i 1, .i 0]
 | none => [aTm zeroE, .i 2, .i (wrongM e.kind)]

theorem l13Number_ok (k : Int) (a b : MTm) (hk : k = 7 \/ k = 8) {da db : Nat} (ha : TmV 13 da a) (hb : TmV 13 db b) : ACalls Tryz.prog 301 [aTm (tN2 k a b)] [] (.tup (redR (tN2 k a b))) [] [] := by
 by_cases h2 : a.kind = 2 /\ b.kind = 2
 ·obtain ⟨m, rfl, hm⟩ := ha.kind2 h2.1
  obtain ⟨n, rfl, hn⟩ := hb.kind2 h2.2
  rcases hk with rfl | rfl
  ·have h1 := l5Number_add m n hm hn
   rw [show redR (tN2 7 (tNum m) (tNum n)) = [aTm (tNum ((m + n).tmod 1000)), .i 1, .i 0] by simp [redR, ruleM]]
   refine ACalls.of_body Tryz.func301 (by kernel_rfl) rfl (by kernel_rfl) (by simp [Tryz.ntmps301]) (by simp) ?_
   rw [Tryz.ntmps301]
   repeat' first | ((first | refine aops_end (hK _ ?_) | refine aopsF_end (hK _ ?_)); clear hK K) | ((first | refine aops_go ?_ | refine aopsF_go ?_); simp [eTm_def]; (try (refine gen fun q hq => ?_; cases q <;> (try simp [eTm_def] at hq) <;> (try (have hh : True := hq; clear hh hq))))) | (refine wpcall_pure ?_ (h1) ?_; (focus (solve | simp [eTm_def])); simp [eTm_def]; (try (refine gen fun q hq => ?_; cases q <;> (try simp [eTm_def] at hq) <;> (try (have hh : True := hq; clear hh hq))))) | (refine T.ret (Done.tup (Or.inr rfl) ?_) <;> simp [resAs, Tryz.results301] <;> omega) | refine T.rdF (id := 1) mixed (fun _ => false) [15, 16] [1, 3, 4, 5, 7, 8, 9, 10] 16 [] (by kernel_rfl) fun K hK => ?_ | (refine ⟨?_, ?_⟩; (focus (intros; refine wpcall_pure ?_ (h1) ?_; (focus (solve | simp [eTm_def])); simp; done))) | refine T.r0 fun K hK => ?_ | refine T.cf rfl ?_ | refine T.seq ?_ | refine T.skip ?_
  ·have h1 := l5Number_less m n
   by_cases hmn : m < n
   ·rw [show decide (m < n) = true by simp [hmn], show truthM true = tTrue from rfl] at h1
    rw [show redR (tN2 8 (tNum m) (tNum n)) = [aTm tTrue, .i 1, .i 0] by simp [redR, ruleM, truthM, hmn]]
    refine ACalls.of_body Tryz.func301 (by kernel_rfl) rfl (by kernel_rfl) (by simp [Tryz.ntmps301]) (by simp) ?_
    rw [Tryz.ntmps301]
    repeat' first | ((first | refine aops_end (hK _ ?_) | refine aopsF_end (hK _ ?_)); clear hK K) | ((first | refine aops_go ?_ | refine aopsF_go ?_); simp [eTm_def]; (try (refine gen fun q hq => ?_; cases q <;> (try simp [eTm_def] at hq) <;> (try (have hh : True := hq; clear hh hq))))) | (refine wpcall_pure ?_ (h1) ?_; (focus (solve | simp [eTm_def])); simp [eTm_def]; (try (refine gen fun q hq => ?_; cases q <;> (try simp [eTm_def] at hq) <;> (try (have hh : True := hq; clear hh hq))))) | (refine T.ret (Done.tup (Or.inr rfl) ?_) <;> simp [resAs, Tryz.results301] <;> omega) | refine T.rdF (id := 1) mixed (fun _ => false) [15, 16] [1, 3, 4, 5, 7, 8, 9, 10] 16 [] (by kernel_rfl) fun K hK => ?_ | (refine ⟨?_, ?_⟩; (focus (intros; refine wpcall_pure ?_ (h1) ?_; (focus (solve | simp [eTm_def])); simp; done))) | refine T.r0 fun K hK => ?_ | refine T.cf rfl ?_ | refine T.seq ?_ | refine T.skip ?_
   ·rw [show decide (m < n) = false by simp [hmn], show truthM false = tFalse from rfl] at h1
    rw [show redR (tN2 8 (tNum m) (tNum n)) = [aTm tFalse, .i 1, .i 0] by simp [redR, ruleM, truthM, hmn]]
    refine ACalls.of_body Tryz.func301 (by kernel_rfl) rfl (by kernel_rfl) (by simp [Tryz.ntmps301]) (by simp) ?_
    rw [Tryz.ntmps301]
    repeat' first | ((first | refine aops_end (hK _ ?_) | refine aopsF_end (hK _ ?_)); clear hK K) | ((first | refine aops_go ?_ | refine aopsF_go ?_); simp [eTm_def]; (try (refine gen fun q hq => ?_; cases q <;> (try simp [eTm_def] at hq) <;> (try (have hh : True := hq; clear hh hq))))) | (refine wpcall_pure ?_ (h1) ?_; (focus (solve | simp [eTm_def])); simp [eTm_def]; (try (refine gen fun q hq => ?_; cases q <;> (try simp [eTm_def] at hq) <;> (try (have hh : True := hq; clear hh hq))))) | (refine T.ret (Done.tup (Or.inr rfl) ?_) <;> simp [resAs, Tryz.results301] <;> omega) | refine T.rdF (id := 1) mixed (fun _ => false) [15, 16] [1, 3, 4, 5, 7, 8, 9, 10] 16 [] (by kernel_rfl) fun K hK => ?_ | (refine ⟨?_, ?_⟩; (focus (intros; refine wpcall_pure ?_ (h1) ?_; (focus (solve | simp [eTm_def])); simp; done))) | refine T.r0 fun K hK => ?_ | refine T.cf rfl ?_ | refine T.seq ?_ | refine T.skip ?_
 ·have h1 := l5Number_bad k a b h2
  rcases hk with rfl | rfl
  ·rw [show redR (tN2 7 a b) = [aTm zeroE, .i 2, .i 2] by simp [redR, ruleM, h2, wrongM]]
   refine ACalls.of_body Tryz.func301 (by kernel_rfl) rfl (by kernel_rfl) (by simp [Tryz.ntmps301]) (by simp) ?_
   rw [Tryz.ntmps301]
   repeat' first | ((first | refine aops_end (hK _ ?_) | refine aopsF_end (hK _ ?_)); clear hK K) | ((first | refine aops_go ?_ | refine aopsF_go ?_); simp [eTm_def]; (try (refine gen fun q hq => ?_; cases q <;> (try simp [eTm_def] at hq) <;> (try (have hh : True := hq; clear hh hq))))) | (refine wpcall_pure ?_ (h1) ?_; (focus (solve | simp [eTm_def])); simp [eTm_def]; (try (refine gen fun q hq => ?_; cases q <;> (try simp [eTm_def] at hq) <;> (try (have hh : True := hq; clear hh hq))))) | (refine T.ret (Done.tup (Or.inr rfl) ?_) <;> simp [resAs, Tryz.results301] <;> omega) | refine T.rdF (id := 1) mixed (fun _ => false) [15, 16] [1, 3, 4, 5, 7, 8, 9, 10] 16 [] (by kernel_rfl) fun K hK => ?_ | (refine ⟨?_, ?_⟩; (focus (intros; refine wpcall_pure ?_ (h1) ?_; (focus (solve | simp [eTm_def])); simp; done))) | refine T.r0 fun K hK => ?_ | refine T.ct rfl ?_ | refine T.seq ?_
  ·rw [show redR (tN2 8 a b) = [aTm zeroE, .i 2, .i 2] by simp [redR, ruleM, h2, wrongM]]
   refine ACalls.of_body Tryz.func301 (by kernel_rfl) rfl (by kernel_rfl) (by simp [Tryz.ntmps301]) (by simp) ?_
   rw [Tryz.ntmps301]
   repeat' first | ((first | refine aops_end (hK _ ?_) | refine aopsF_end (hK _ ?_)); clear hK K) | ((first | refine aops_go ?_ | refine aopsF_go ?_); simp [eTm_def]; (try (refine gen fun q hq => ?_; cases q <;> (try simp [eTm_def] at hq) <;> (try (have hh : True := hq; clear hh hq))))) | (refine wpcall_pure ?_ (h1) ?_; (focus (solve | simp [eTm_def])); simp [eTm_def]; (try (refine gen fun q hq => ?_; cases q <;> (try simp [eTm_def] at hq) <;> (try (have hh : True := hq; clear hh hq))))) | (refine T.ret (Done.tup (Or.inr rfl) ?_) <;> simp [resAs, Tryz.results301] <;> omega) | refine T.rdF (id := 1) mixed (fun _ => false) [15, 16] [1, 3, 4, 5, 7, 8, 9, 10] 16 [] (by kernel_rfl) fun K hK => ?_ | (refine ⟨?_, ?_⟩; (focus (intros; refine wpcall_pure ?_ (h1) ?_; (focus (solve | simp [eTm_def])); simp; done))) | refine T.r0 fun K hK => ?_ | refine T.ct rfl ?_ | refine T.seq ?_

theorem l2Subst_n1 (v : MTm) (x : List UInt8) (e : MTm) (h1 : e.kind = 1) (hx : ¬ e.name = x) (hn : nTm e <= 1073741824)
  (ih : ∀ u ∈ e.kids, ACalls Tryz.prog 302 [aTm u, .s x, aTm v] [] (aTm (substM x v u)) [] []) : ACalls Tryz.prog 302 [aTm e, .s x, aTm v] [] (aTm (.mk e.kind e.name e.num e.ty e.fr e.label (e.kids.map (substM x v)))) [] [] := by
 obtain ⟨hnt, hnf, hnk, hnu⟩ := nTm_parts (show nTm e <= 1099511627776 by omega)
 have hnk2 : e.kids.length <= 1073741824 := by have := nTmS_len e.kids; rw [nTm_def] at hn; omega
 have k1 := l1Copy_ok e.ty hnt
 have k2 := l1Copy_ok e.fr hnf
 refine ACalls.of_body Tryz.func302 (by kernel_rfl) rfl (by kernel_rfl) (by simp [Tryz.ntmps302]) (by simp) ?_
 rw [Tryz.ntmps302]
 repeat' first | (refine aops_end (hK _ ?_); clear hK K) | (refine aops_go ?_; simp [h1, hx]; (try (refine gen fun q hq => ?_; cases q <;> (try simp [h1, hx] at hq) <;> (try (have hh : True := hq; clear hh hq))))) | (refine wpcall_pure rfl (k1) ?_; simp [h1, hx]; (try (refine gen fun q hq => ?_; cases q <;> (try simp [h1, hx] at hq) <;> (try (have hh : True := hq; clear hh hq))))) | (refine wpcall_pure rfl (k2) ?_; simp [h1, hx]; (try (refine gen fun q hq => ?_; cases q <;> (try simp [h1, hx] at hq) <;> (try (have hh : True := hq; clear hh hq))))) | refine T.r0 fun K hK => ?_ | refine T.cf rfl ?_ | refine T.seq ?_ | refine T.block ?_ | refine T.skip ?_
 refine T.ownifyObj 3 8 9 46 (row := [.d (.i 1), .d (.str e.name), .d (.i e.num), .d (.i e.ty.kind), .d (.sl (e.ty.kids.map eTy)), .d (.i e.fr.kind), .d (.sl (e.fr.kids.map eTy)), .d (.i e.label), .nil]) (by simp) (by simp) ?_
 refine T.loopK (α := Nat) [1, 3, 5, 6, 7] (fun x => [(8, .i x)]) (fun x => [(3, [.d (.i 1), .d (.str e.name), .d (.i e.num), .d (.i e.ty.kind), .d (.sl (e.ty.kids.map eTy)), .d (.i e.fr.kind), .d (.sl (e.fr.kids.map eTy)), .d (.i e.label), .own 0 x])]) (fun x => []) (fun p _ => [{ sz := 9, ety := 46, rows := ((e.kids.map (substM x v)).take p).map eTm, wr := true }]) (fun x => e.kids.length + 1 - x) (fun x => x <= e.kids.length) (by simp; rfl) (fun p hp => ?_) 0 (by simp) (by simp) (by simp) (by simp)
 dsimp only at hp ⊢
 simp only [ups, List.set_cons_zero, List.set_cons_succ, List.cons_append, List.nil_append, List.append_nil]
 by_cases hlt : p < e.kids.length
 ·obtain ⟨u, ht⟩ := get_lt hlt
  have htm : u ∈ e.kids := List.mem_of_getElem? ht
  have hgt : e.kids[p] = u := by rw [List.getElem?_eq_getElem hlt] at ht; exact Option.some.inj ht
  have hdr : e.kids.drop p = u :: e.kids.drop (p + 1) := by rw [List.drop_eq_getElem_cons hlt, hgt]
  have hu := ih u htm
  have htk : (e.kids.map (substM x v)).take (p + 1) = (e.kids.map (substM x v)).take p ++ [substM x v u] := by rw [List.take_add_one, List.getElem?_map, ht]; rfl
  have hlm : min p (e.kids.map (substM x v)).length = p := by simp; omega
  generalize e.kids.map (substM x v) = Z at *
  generalize substM x v u = su at *
  repeat' first | ((first | refine aops_end (hK _ ?_) | refine aopsD_end (hK _ ?_)); clear hK K) | ((first | refine aops_go ?_ | refine aopsD_go ?_); simp [hlt, hgt, hlm]; (try simp (disch := omega) only [wrap64]); (try (refine gen fun q hq => ?_; cases q <;> (try simp [hlt, hgt, hlm] at hq) <;> (try (have hh : True := hq; clear hh hq))))) | (refine wpcall_pure rfl (hu) ?_; simp [hlt, hgt, hlm]; (try simp (disch := omega) only [wrap64]); (try (refine gen fun q hq => ?_; cases q <;> (try simp [hlt, hgt, hlm] at hq) <;> (try (have hh : True := hq; clear hh hq))))) | (refine ⟨by omega, by omega, ?_⟩) | (refine ⟨p + 1, by dsimp only; omega, by dsimp only; omega, ?_, ?_, ?_⟩ <;> simp (disch := omega) [ups, wrap64, htk, eTm_def, hlm]) | refine T.rd1 (id := 12) mixed (fun _ => false) [11, 13] (by kernel_rfl) fun K hK => ?_ | refine T.r0 fun K hK => ?_ | refine T.r1 fun K hK => ?_ | refine T.ct rfl ?_ | refine T.seq ?_ | refine T.block ?_ | refine T.skip ?_
 ·have hp' : p = e.kids.length := by omega
  subst hp'
  have hlm : (e.kids.map (substM x v)).length = e.kids.length := by simp
  rw [List.take_of_length_le (by omega)]
  generalize e.kids.map (substM x v) = Z at *
  repeat' first | (refine aops_end (hK _ ?_); clear hK K) | (refine aops_go ?_; simp [hlt, hlm]; (try (refine gen fun q hq => ?_; cases q <;> (try simp [hlt, hlm] at hq) <;> (try (have hh : True := hq; clear hh hq))))) | (refine T.ret (Done.val (Or.inr rfl) ?_) <;> simp [resAs, Tryz.results302, hlm, h1] <;> omega) | refine T.r0 fun K hK => ?_ | refine T.cf rfl ?_ | refine T.seq ?_ | refine T.exit ?_

theorem l2Subst_n5 (v : MTm) (x : List UInt8) (e : MTm) (h5 : e.kind = 5) (hx : ¬ e.name = x) (hn : nTm e <= 1073741824)
  (ih : ∀ u ∈ e.kids, ACalls Tryz.prog 302 [aTm u, .s x, aTm v] [] (aTm (substM x v u)) [] []) : ACalls Tryz.prog 302 [aTm e, .s x, aTm v] [] (aTm (.mk e.kind e.name e.num e.ty e.fr e.label (e.kids.map (substM x v)))) [] [] := by
 obtain ⟨hnt, hnf, hnk, hnu⟩ := nTm_parts (show nTm e <= 1099511627776 by omega)
 have hnk2 : e.kids.length <= 1073741824 := by have := nTmS_len e.kids; rw [nTm_def] at hn; omega
 have k1 := l1Copy_ok e.ty hnt
 have k2 := l1Copy_ok e.fr hnf
 refine ACalls.of_body Tryz.func302 (by kernel_rfl) rfl (by kernel_rfl) (by simp [Tryz.ntmps302]) (by simp) ?_
 rw [Tryz.ntmps302]
 repeat' first | (refine aops_end (hK _ ?_); clear hK K) | (refine aops_go ?_; simp [h5, hx]; (try (refine gen fun q hq => ?_; cases q <;> (try simp [h5, hx] at hq) <;> (try (have hh : True := hq; clear hh hq))))) | (refine wpcall_pure rfl (k1) ?_; simp [h5, hx]; (try (refine gen fun q hq => ?_; cases q <;> (try simp [h5, hx] at hq) <;> (try (have hh : True := hq; clear hh hq))))) | (refine wpcall_pure rfl (k2) ?_; simp [h5, hx]; (try (refine gen fun q hq => ?_; cases q <;> (try simp [h5, hx] at hq) <;> (try (have hh : True := hq; clear hh hq))))) | refine T.r0 fun K hK => ?_ | refine T.cf rfl ?_ | refine T.seq ?_ | refine T.block ?_ | refine T.skip ?_
 refine T.ownifyObj 3 8 9 46 (row := [.d (.i 5), .d (.str e.name), .d (.i e.num), .d (.i e.ty.kind), .d (.sl (e.ty.kids.map eTy)), .d (.i e.fr.kind), .d (.sl (e.fr.kids.map eTy)), .d (.i e.label), .nil]) (by simp) (by simp) ?_
 refine T.loopK (α := Nat) [1, 3, 5, 6, 7] (fun x => [(8, .i x)]) (fun x => [(3, [.d (.i 5), .d (.str e.name), .d (.i e.num), .d (.i e.ty.kind), .d (.sl (e.ty.kids.map eTy)), .d (.i e.fr.kind), .d (.sl (e.fr.kids.map eTy)), .d (.i e.label), .own 0 x])]) (fun x => []) (fun p _ => [{ sz := 9, ety := 46, rows := ((e.kids.map (substM x v)).take p).map eTm, wr := true }]) (fun x => e.kids.length + 1 - x) (fun x => x <= e.kids.length) (by simp; rfl) (fun p hp => ?_) 0 (by simp) (by simp) (by simp) (by simp)
 dsimp only at hp ⊢
 simp only [ups, List.set_cons_zero, List.set_cons_succ, List.cons_append, List.nil_append, List.append_nil]
 by_cases hlt : p < e.kids.length
 ·obtain ⟨u, ht⟩ := get_lt hlt
  have htm : u ∈ e.kids := List.mem_of_getElem? ht
  have hgt : e.kids[p] = u := by rw [List.getElem?_eq_getElem hlt] at ht; exact Option.some.inj ht
  have hdr : e.kids.drop p = u :: e.kids.drop (p + 1) := by rw [List.drop_eq_getElem_cons hlt, hgt]
  have hu := ih u htm
  have htk : (e.kids.map (substM x v)).take (p + 1) = (e.kids.map (substM x v)).take p ++ [substM x v u] := by rw [List.take_add_one, List.getElem?_map, ht]; rfl
  have hlm : min p (e.kids.map (substM x v)).length = p := by simp; omega
  generalize e.kids.map (substM x v) = Z at *
  generalize substM x v u = su at *
  repeat' first | ((first | refine aops_end (hK _ ?_) | refine aopsD_end (hK _ ?_)); clear hK K) | ((first | refine aops_go ?_ | refine aopsD_go ?_); simp [hlt, hgt, hlm]; (try simp (disch := omega) only [wrap64]); (try (refine gen fun q hq => ?_; cases q <;> (try simp [hlt, hgt, hlm] at hq) <;> (try (have hh : True := hq; clear hh hq))))) | (refine wpcall_pure rfl (hu) ?_; simp [hlt, hgt, hlm]; (try simp (disch := omega) only [wrap64]); (try (refine gen fun q hq => ?_; cases q <;> (try simp [hlt, hgt, hlm] at hq) <;> (try (have hh : True := hq; clear hh hq))))) | (refine ⟨by omega, by omega, ?_⟩) | (refine ⟨p + 1, by dsimp only; omega, by dsimp only; omega, ?_, ?_, ?_⟩ <;> simp (disch := omega) [ups, wrap64, htk, eTm_def, hlm]) | refine T.rd1 (id := 12) mixed (fun _ => false) [11, 13] (by kernel_rfl) fun K hK => ?_ | refine T.r0 fun K hK => ?_ | refine T.r1 fun K hK => ?_ | refine T.ct rfl ?_ | refine T.seq ?_ | refine T.block ?_ | refine T.skip ?_
 ·have hp' : p = e.kids.length := by omega
  subst hp'
  have hlm : (e.kids.map (substM x v)).length = e.kids.length := by simp
  rw [List.take_of_length_le (by omega)]
  generalize e.kids.map (substM x v) = Z at *
  repeat' first | (refine aops_end (hK _ ?_); clear hK K) | (refine aops_go ?_; simp [hlt, hlm]; (try (refine gen fun q hq => ?_; cases q <;> (try simp [hlt, hlm] at hq) <;> (try (have hh : True := hq; clear hh hq))))) | (refine T.ret (Done.val (Or.inr rfl) ?_) <;> simp [resAs, Tryz.results302, hlm, h5] <;> omega) | refine T.r0 fun K hK => ?_ | refine T.cf rfl ?_ | refine T.seq ?_ | refine T.exit ?_

theorem l2Subst_kd (v : MTm) (x : List UInt8) (e : MTm) (h1 : ¬ e.kind = 1) (h5 : ¬ e.kind = 5) (hn : nTm e <= 1073741824)
  (ih : ∀ u ∈ e.kids, ACalls Tryz.prog 302 [aTm u, .s x, aTm v] [] (aTm (substM x v u)) [] []) : ACalls Tryz.prog 302 [aTm e, .s x, aTm v] [] (aTm (.mk e.kind e.name e.num e.ty e.fr e.label (e.kids.map (substM x v)))) [] [] := by
 obtain ⟨hnt, hnf, hnk, hnu⟩ := nTm_parts (show nTm e <= 1099511627776 by omega)
 have hnk2 : e.kids.length <= 1073741824 := by have := nTmS_len e.kids; rw [nTm_def] at hn; omega
 have k1 := l1Copy_ok e.ty hnt
 have k2 := l1Copy_ok e.fr hnf
 refine ACalls.of_body Tryz.func302 (by kernel_rfl) rfl (by kernel_rfl) (by simp [Tryz.ntmps302]) (by simp) ?_
 rw [Tryz.ntmps302]
 repeat' first | (refine aops_end (hK _ ?_); clear hK K) | (refine aops_go ?_; simp [h1, h5]; (try (refine gen fun q hq => ?_; cases q <;> (try simp [h1, h5] at hq) <;> (try (have hh : True := hq; clear hh hq))))) | (refine wpcall_pure rfl (k1) ?_; simp [h1, h5]; (try (refine gen fun q hq => ?_; cases q <;> (try simp [h1, h5] at hq) <;> (try (have hh : True := hq; clear hh hq))))) | (refine wpcall_pure rfl (k2) ?_; simp [h1, h5]; (try (refine gen fun q hq => ?_; cases q <;> (try simp [h1, h5] at hq) <;> (try (have hh : True := hq; clear hh hq))))) | refine T.r0 fun K hK => ?_ | refine T.cf rfl ?_ | refine T.seq ?_ | refine T.block ?_ | refine T.skip ?_
 refine T.ownifyObj 3 8 9 46 (row := [.d (.i e.kind), .d (.str e.name), .d (.i e.num), .d (.i e.ty.kind), .d (.sl (e.ty.kids.map eTy)), .d (.i e.fr.kind), .d (.sl (e.fr.kids.map eTy)), .d (.i e.label), .nil]) (by simp) (by simp) ?_
 refine T.loopK (α := Nat) [1, 3, 5, 6, 7] (fun x => [(8, .i x)]) (fun x => [(3, [.d (.i e.kind), .d (.str e.name), .d (.i e.num), .d (.i e.ty.kind), .d (.sl (e.ty.kids.map eTy)), .d (.i e.fr.kind), .d (.sl (e.fr.kids.map eTy)), .d (.i e.label), .own 0 x])]) (fun x => []) (fun p _ => [{ sz := 9, ety := 46, rows := ((e.kids.map (substM x v)).take p).map eTm, wr := true }]) (fun x => e.kids.length + 1 - x) (fun x => x <= e.kids.length) (by simp; rfl) (fun p hp => ?_) 0 (by simp) (by simp) (by simp) (by simp)
 dsimp only at hp ⊢
 simp only [ups, List.set_cons_zero, List.set_cons_succ, List.cons_append, List.nil_append, List.append_nil]
 by_cases hlt : p < e.kids.length
 ·obtain ⟨u, ht⟩ := get_lt hlt
  have htm : u ∈ e.kids := List.mem_of_getElem? ht
  have hgt : e.kids[p] = u := by rw [List.getElem?_eq_getElem hlt] at ht; exact Option.some.inj ht
  have hdr : e.kids.drop p = u :: e.kids.drop (p + 1) := by rw [List.drop_eq_getElem_cons hlt, hgt]
  have hu := ih u htm
  have htk : (e.kids.map (substM x v)).take (p + 1) = (e.kids.map (substM x v)).take p ++ [substM x v u] := by rw [List.take_add_one, List.getElem?_map, ht]; rfl
  have hlm : min p (e.kids.map (substM x v)).length = p := by simp; omega
  generalize e.kids.map (substM x v) = Z at *
  generalize substM x v u = su at *
  repeat' first | ((first | refine aops_end (hK _ ?_) | refine aopsD_end (hK _ ?_)); clear hK K) | ((first | refine aops_go ?_ | refine aopsD_go ?_); simp [hlt, hgt, hlm]; (try simp (disch := omega) only [wrap64]); (try (refine gen fun q hq => ?_; cases q <;> (try simp [hlt, hgt, hlm] at hq) <;> (try (have hh : True := hq; clear hh hq))))) | (refine wpcall_pure rfl (hu) ?_; simp [hlt, hgt, hlm]; (try simp (disch := omega) only [wrap64]); (try (refine gen fun q hq => ?_; cases q <;> (try simp [hlt, hgt, hlm] at hq) <;> (try (have hh : True := hq; clear hh hq))))) | (refine ⟨by omega, by omega, ?_⟩) | (refine ⟨p + 1, by dsimp only; omega, by dsimp only; omega, ?_, ?_, ?_⟩ <;> simp (disch := omega) [ups, wrap64, htk, eTm_def, hlm]) | refine T.rd1 (id := 12) mixed (fun _ => false) [11, 13] (by kernel_rfl) fun K hK => ?_ | refine T.r0 fun K hK => ?_ | refine T.r1 fun K hK => ?_ | refine T.ct rfl ?_ | refine T.seq ?_ | refine T.block ?_ | refine T.skip ?_
 ·have hp' : p = e.kids.length := by omega
  subst hp'
  have hlm : (e.kids.map (substM x v)).length = e.kids.length := by simp
  rw [List.take_of_length_le (by omega)]
  generalize e.kids.map (substM x v) = Z at *
  repeat' first | (refine aops_end (hK _ ?_); clear hK K) | (refine aops_go ?_; simp [hlt, hlm]; (try (refine gen fun q hq => ?_; cases q <;> (try simp [hlt, hlm] at hq) <;> (try (have hh : True := hq; clear hh hq))))) | (refine T.ret (Done.val (Or.inr rfl) ?_) <;> simp [resAs, Tryz.results302, hlm] <;> omega) | refine T.r0 fun K hK => ?_ | refine T.cf rfl ?_ | refine T.seq ?_ | refine T.exit ?_

theorem l2Subst_ok (v : MTm) (x : List UInt8) (hv : nTm v <= 1073741824) : ∀ (e : MTm), nTm e <= 1073741824 -> ACalls Tryz.prog 302 [aTm e, .s x, aTm v] [] (aTm (substM x v e)) [] [] := by
 intro e
 induction e using MTm.ind with
 | h e ih =>
  intro hn
  have ih' := fun u hu => ih u hu (by have := nTmS_mem hu; rw [nTm_def] at hn; omega)
  have k1 := l2Copy_ok v (by omega)
  have k2 := l2Copy_ok e (by omega)
  rw [substM_def]
  by_cases hx : e.name = x
  ·by_cases h1 : e.kind = 1
   ·simp only [h1, hx, and_self, if_true]
    refine ACalls.of_body Tryz.func302 (by kernel_rfl) rfl (by kernel_rfl) (by simp [Tryz.ntmps302]) (by simp) ?_
    rw [Tryz.ntmps302]
    repeat' first | (refine aops_end (hK _ ?_); clear hK K) | (refine aops_go ?_; simp [h1, hx]; (try (refine gen fun q hq => ?_; cases q <;> (try simp [h1, hx] at hq) <;> (try (have hh : True := hq; clear hh hq))))) | (refine wpcall_pure rfl (k1) ?_; simp [h1, hx]; (try (refine gen fun q hq => ?_; cases q <;> (try simp [h1, hx] at hq) <;> (try (have hh : True := hq; clear hh hq))))) | (refine T.ret (Done.val (Or.inr rfl) ?_) <;> simp [resAs, Tryz.results302] <;> omega) | refine T.r0 fun K hK => ?_ | refine T.ct rfl ?_ | refine T.seq ?_
   ·by_cases h5 : e.kind = 5
    ·rw [if_neg (by simp [h1]), if_pos ⟨h5, hx⟩]
     refine ACalls.of_body Tryz.func302 (by kernel_rfl) rfl (by kernel_rfl) (by simp [Tryz.ntmps302]) (by simp) ?_
     rw [Tryz.ntmps302]
     repeat' first | (refine aops_end (hK _ ?_); clear hK K) | (refine aops_go ?_; simp [h1, h5, hx]; (try (refine gen fun q hq => ?_; cases q <;> (try simp [h1, h5, hx] at hq) <;> (try (have hh : True := hq; clear hh hq))))) | (refine wpcall_pure ?_ (k2) ?_; (focus (solve | simp [h1, h5, hx])); simp [h1, h5, hx]; (try (refine gen fun q hq => ?_; cases q <;> (try simp [h1, h5, hx] at hq) <;> (try (have hh : True := hq; clear hh hq))))) | (refine T.ret (Done.val (Or.inr rfl) ?_) <;> simp [resAs, Tryz.results302, h5, hx] <;> omega) | refine T.r0 fun K hK => ?_ | refine T.ct rfl ?_ | refine T.cf rfl ?_ | refine T.seq ?_ | refine T.skip ?_
    ·rw [if_neg (by simp [h1]), if_neg (by simp [h5])]
     exact l2Subst_kd v x e h1 h5 hn ih'
  ·rw [if_neg (by simp [hx]), if_neg (by simp [hx])]
   by_cases h1 : e.kind = 1
   ·exact l2Subst_n1 v x e h1 hx hn ih'
   ·by_cases h5 : e.kind = 5
    ·exact l2Subst_n5 v x e h5 hx hn ih'
    ·exact l2Subst_kd v x e h1 h5 hn ih'

theorem l13Reduce_ok (e : MTm) (d : Nat) (hv : TmV 13 d e) (hn : nTm e <= 1073741824) (hk : e.kind = 1 \/ e.kind = 6 \/ e.kind = 7 \/ e.kind = 8 \/ e.kind = 11 \/ e.kind = 12) : ACalls Tryz.prog 284 [aTm e] [] (.tup (redR e)) [] [] := by
 rcases hv.cases13 with ⟨s, rfl⟩ | ⟨k, rfl, h1, h2⟩ | rfl | rfl | ⟨s, t, b, rfl⟩ | ⟨a, f, t, l, rfl⟩ | ⟨k, a, rfl, hk2, _, ha⟩ | ⟨p, a, b, rfl, _, hp⟩ | ⟨k, a, b, rfl, hk2, ⟨_, ha⟩, _, hb⟩
 ·rw [show redR (tVar s) = [aTm zeroE, .i 2, .i 5] by simp [redR, ruleM, wrongM]]
  refine ACalls.of_body Tryz.func284 (by kernel_rfl) rfl (by kernel_rfl) (by simp [Tryz.ntmps284]) (by simp) ?_
  rw [Tryz.ntmps284]
  repeat' first | (refine aops_end (hK _ ?_); clear hK K) | (refine aops_go ?_; simp; (try (refine gen fun q hq => ?_; cases q <;> (try simp at hq) <;> (try (have hh : True := hq; clear hh hq))))) | (refine T.ret (Done.tup (Or.inr rfl) ?_) <;> simp [resAs, Tryz.results284] <;> omega) | refine T.r0 fun K hK => ?_ | refine T.ct rfl ?_ | refine T.seq ?_ | refine T.block ?_
 ·simp at hk
 ·simp at hk
 ·simp at hk
 ·simp at hk
 ·simp at hk
 ·by_cases h10 : a.kind = 10
  ·obtain ⟨x, y, rfl⟩ := ha.kind10 h10
   rcases hk2 with rfl | rfl
   ·rw [show redR (tN1 11 (tN2 10 x y)) = [aTm x, .i 1, .i 0] by simp [redR, ruleM]]
    refine ACalls.of_body Tryz.func284 (by kernel_rfl) rfl (by kernel_rfl) (by simp [Tryz.ntmps284]) (by simp) ?_
    rw [Tryz.ntmps284]
    repeat' first | ((first | refine aops_end (hK _ ?_) | refine aopsD_end (hK _ ?_)); clear hK K) | ((first | refine aops_go ?_ | refine aopsD_go ?_); simp [eTm_def]; (try simp (disch := omega) only [wrap64]); (try (refine gen fun q hq => ?_; cases q <;> (try simp [eTm_def] at hq) <;> (try (have hh : True := hq; clear hh hq))))) | (refine T.ret (Done.tup (Or.inr rfl) ?_) <;> simp [resAs, Tryz.results284, eTm_def] <;> omega) | refine T.rd (id := 14) mixed (fun _ => false) [10] (by kernel_rfl) fun K hK => ?_ | refine T.r0 fun K hK => ?_ | refine T.r1 fun K hK => ?_ | refine T.cf rfl ?_ | refine T.seq ?_ | refine T.block ?_ | refine T.skip ?_
   ·rw [show redR (tN1 12 (tN2 10 x y)) = [aTm y, .i 1, .i 0] by simp [redR, ruleM]]
    refine ACalls.of_body Tryz.func284 (by kernel_rfl) rfl (by kernel_rfl) (by simp [Tryz.ntmps284]) (by simp) ?_
    rw [Tryz.ntmps284]
    repeat' first | ((first | refine aops_end (hK _ ?_) | refine aopsD_end (hK _ ?_)); clear hK K) | ((first | refine aops_go ?_ | refine aopsD_go ?_); simp [eTm_def]; (try simp (disch := omega) only [wrap64]); (try (refine gen fun q hq => ?_; cases q <;> (try simp [eTm_def] at hq) <;> (try (have hh : True := hq; clear hh hq))))) | (refine T.ret (Done.tup (Or.inr rfl) ?_) <;> simp [resAs, Tryz.results284, eTm_def] <;> omega) | refine T.rd (id := 14) mixed (fun _ => false) [10] (by kernel_rfl) fun K hK => ?_ | refine T.r0 fun K hK => ?_ | refine T.r1 fun K hK => ?_ | refine T.cf rfl ?_ | refine T.seq ?_ | refine T.block ?_ | refine T.skip ?_
  ·rcases hk2 with rfl | rfl
   ·rw [show redR (tN1 11 a) = [aTm zeroE, .i 2, .i 4] by simp [redR, ruleM, h10, wrongM]]
    refine ACalls.of_body Tryz.func284 (by kernel_rfl) rfl (by kernel_rfl) (by simp [Tryz.ntmps284]) (by simp) ?_
    rw [Tryz.ntmps284]
    repeat' first | (refine aops_end (hK _ ?_); clear hK K) | (refine aops_go ?_; simp [eTm_def, h10]; (try (refine gen fun q hq => ?_; cases q <;> (try simp [eTm_def, h10] at hq) <;> (try (have hh : True := hq; clear hh hq))))) | (refine T.ret (Done.tup (Or.inr rfl) ?_) <;> simp [resAs, Tryz.results284] <;> omega) | refine T.r0 fun K hK => ?_ | refine T.r1 fun K hK => ?_ | refine T.ct rfl ?_ | refine T.cf rfl ?_ | refine T.seq ?_ | refine T.block ?_ | refine T.skip ?_
   ·rw [show redR (tN1 12 a) = [aTm zeroE, .i 2, .i 4] by simp [redR, ruleM, h10, wrongM]]
    refine ACalls.of_body Tryz.func284 (by kernel_rfl) rfl (by kernel_rfl) (by simp [Tryz.ntmps284]) (by simp) ?_
    rw [Tryz.ntmps284]
    repeat' first | (refine aops_end (hK _ ?_); clear hK K) | (refine aops_go ?_; simp [eTm_def, h10]; (try (refine gen fun q hq => ?_; cases q <;> (try simp [eTm_def, h10] at hq) <;> (try (have hh : True := hq; clear hh hq))))) | (refine T.ret (Done.tup (Or.inr rfl) ?_) <;> simp [resAs, Tryz.results284] <;> omega) | refine T.r0 fun K hK => ?_ | refine T.r1 fun K hK => ?_ | refine T.ct rfl ?_ | refine T.cf rfl ?_ | refine T.seq ?_ | refine T.block ?_ | refine T.skip ?_
 ·simp at hk
 ·by_cases h6 : k = 6
  ·subst h6
   by_cases h5 : a.kind = 5
   ·obtain ⟨s, t, x, rfl⟩ := ha.kind5 h5
    rw [show redR (tN2 6 (tLam s t x) b) = [aTm (substM s b x), .i 1, .i 0] by simp [redR, ruleM]]
    have k1 := l2Subst_ok b s (by simp [nTm_mk, nTmS] at hn; omega) x (by simp [nTm_mk, nTmS] at hn; omega)
    generalize substM s b x = R at *
    refine ACalls.of_body Tryz.func284 (by kernel_rfl) rfl (by kernel_rfl) (by simp [Tryz.ntmps284]) (by simp) ?_
    rw [Tryz.ntmps284]
    repeat' first | ((first | refine aops_end (hK _ ?_) | refine aopsD_end (hK _ ?_)); clear hK K) | ((first | refine aops_go ?_ | refine aopsD_go ?_); simp [eTm_def]; (try (refine gen fun q hq => ?_; cases q <;> (try simp [eTm_def] at hq) <;> (try (have hh : True := hq; clear hh hq))))) | (refine wpcall_pure ?_ (k1) ?_; (focus (solve | simp [eTm_def])); simp [eTm_def]; (try (refine gen fun q hq => ?_; cases q <;> (try simp [eTm_def] at hq) <;> (try (have hh : True := hq; clear hh hq))))) | (refine T.ret (Done.tup (Or.inr rfl) ?_) <;> simp [resAs, Tryz.results284] <;> omega) | refine T.rd (id := 11) mixed (fun _ => false) [11] (by kernel_rfl) fun K hK => ?_ | refine T.r0 fun K hK => ?_ | refine T.r1 fun K hK => ?_ | refine T.ct rfl ?_ | refine T.cf rfl ?_ | refine T.seq ?_ | refine T.block ?_ | refine T.skip ?_
   ·rw [show redR (tN2 6 a b) = [aTm zeroE, .i 2, .i 1] by simp [redR, ruleM, h5, wrongM]]
    refine ACalls.of_body Tryz.func284 (by kernel_rfl) rfl (by kernel_rfl) (by simp [Tryz.ntmps284]) (by simp) ?_
    rw [Tryz.ntmps284]
    repeat' first | (refine aops_end (hK _ ?_); clear hK K) | (refine aops_go ?_; simp [eTm_def, h5]; (try (refine gen fun q hq => ?_; cases q <;> (try simp [eTm_def, h5] at hq) <;> (try (have hh : True := hq; clear hh hq))))) | (refine T.ret (Done.tup (Or.inr rfl) ?_) <;> simp [resAs, Tryz.results284] <;> omega) | refine T.r0 fun K hK => ?_ | refine T.r1 fun K hK => ?_ | refine T.ct rfl ?_ | refine T.cf rfl ?_ | refine T.seq ?_ | refine T.block ?_
  ·by_cases h7 : k = 7
   ·subst h7
    have k1 := l13Number_ok 7 a b (.inl rfl) ha hb
    cases hR : ruleM (tN2 7 a b) with
    | none =>
     simp only [redR, hR] at k1 ⊢
     refine ACalls.of_body Tryz.func284 (by kernel_rfl) rfl (by kernel_rfl) (by simp [Tryz.ntmps284]) (by simp) ?_
     rw [Tryz.ntmps284]
     repeat' first | (refine aops_end (hK _ ?_); clear hK K) | (refine aops_go ?_; simp [eTm_def]; (try (refine gen fun q hq => ?_; cases q <;> (try simp [eTm_def] at hq) <;> (try (have hh : True := hq; clear hh hq))))) | (refine wpcall_pure ?_ (k1) ?_; (focus (solve | simp [eTm_def])); simp [eTm_def]; (try (refine gen fun q hq => ?_; cases q <;> (try simp [eTm_def] at hq) <;> (try (have hh : True := hq; clear hh hq))))) | (refine T.ret (Done.tup (Or.inr rfl) ?_) <;> simp [resAs, Tryz.results284] <;> omega) | refine T.r0 fun K hK => ?_ | refine T.ct rfl ?_ | refine T.cf rfl ?_ | refine T.seq ?_ | refine T.block ?_ | refine T.skip ?_
    | some y =>
     simp only [redR, hR] at k1 ⊢
     refine ACalls.of_body Tryz.func284 (by kernel_rfl) rfl (by kernel_rfl) (by simp [Tryz.ntmps284]) (by simp) ?_
     rw [Tryz.ntmps284]
     repeat' first | (refine aops_end (hK _ ?_); clear hK K) | (refine aops_go ?_; simp [eTm_def]; (try (refine gen fun q hq => ?_; cases q <;> (try simp [eTm_def] at hq) <;> (try (have hh : True := hq; clear hh hq))))) | (refine wpcall_pure ?_ (k1) ?_; (focus (solve | simp [eTm_def])); simp [eTm_def]; (try (refine gen fun q hq => ?_; cases q <;> (try simp [eTm_def] at hq) <;> (try (have hh : True := hq; clear hh hq))))) | (refine T.ret (Done.tup (Or.inr rfl) ?_) <;> simp [resAs, Tryz.results284] <;> omega) | refine T.r0 fun K hK => ?_ | refine T.ct rfl ?_ | refine T.cf rfl ?_ | refine T.seq ?_ | refine T.block ?_ | refine T.skip ?_
   ·have h8 : k = 8 := by simp at hk; omega
    subst h8
    have k1 := l13Number_ok 8 a b (.inr rfl) ha hb
    cases hR : ruleM (tN2 8 a b) with
    | none =>
     simp only [redR, hR] at k1 ⊢
     refine ACalls.of_body Tryz.func284 (by kernel_rfl) rfl (by kernel_rfl) (by simp [Tryz.ntmps284]) (by simp) ?_
     rw [Tryz.ntmps284]
     repeat' first | (refine aops_end (hK _ ?_); clear hK K) | (refine aops_go ?_; simp [eTm_def]; (try (refine gen fun q hq => ?_; cases q <;> (try simp [eTm_def] at hq) <;> (try (have hh : True := hq; clear hh hq))))) | (refine wpcall_pure ?_ (k1) ?_; (focus (solve | simp [eTm_def])); simp [eTm_def]; (try (refine gen fun q hq => ?_; cases q <;> (try simp [eTm_def] at hq) <;> (try (have hh : True := hq; clear hh hq))))) | (refine T.ret (Done.tup (Or.inr rfl) ?_) <;> simp [resAs, Tryz.results284] <;> omega) | refine T.r0 fun K hK => ?_ | refine T.r1 fun K hK => ?_ | refine T.ct rfl ?_ | refine T.cf rfl ?_ | refine T.seq ?_ | refine T.block ?_
    | some y =>
     simp only [redR, hR] at k1 ⊢
     refine ACalls.of_body Tryz.func284 (by kernel_rfl) rfl (by kernel_rfl) (by simp [Tryz.ntmps284]) (by simp) ?_
     rw [Tryz.ntmps284]
     repeat' first | (refine aops_end (hK _ ?_); clear hK K) | (refine aops_go ?_; simp [eTm_def]; (try (refine gen fun q hq => ?_; cases q <;> (try simp [eTm_def] at hq) <;> (try (have hh : True := hq; clear hh hq))))) | (refine wpcall_pure ?_ (k1) ?_; (focus (solve | simp [eTm_def])); simp [eTm_def]; (try (refine gen fun q hq => ?_; cases q <;> (try simp [eTm_def] at hq) <;> (try (have hh : True := hq; clear hh hq))))) | (refine T.ret (Done.tup (Or.inr rfl) ?_) <;> simp [resAs, Tryz.results284] <;> omega) | refine T.r0 fun K hK => ?_ | refine T.r1 fun K hK => ?_ | refine T.ct rfl ?_ | refine T.cf rfl ?_ | refine T.seq ?_ | refine T.block ?_

def stepS (p : MTm × Int × Int) : MTm × Int × Int := if p.2.1 = 1 then (p.1, 1, 0) else (zeroE, p.2.1, p.2.2)

theorem take_drop_cons {α : Type} {l : List α} {n p : Nat} {u : α} (h : l[p]? = some u) (hp : p < n) : (l.take n).drop p = u :: (l.take n).drop (p + 1) := by
 obtain ⟨hl, rfl⟩ := List.getElem?_eq_some_iff.1 h
 have hlt : p < (l.take n).length := by simp; omega
 rw [drop_cons hlt]
 simp

theorem l13Step_no (e : MTm) (h9 : ¬ e.kind = 9) (hlen : e.kids.length <= 3) (hN : countsM e = e.kids.length) (hcnt : e.kids.length <= e.kids.length) (hred : ¬ e.kind = 9 -> firstNV (e.kids.take (e.kids.length)) = none -> ACalls Tryz.prog 284 [aTm e] [] (.tup (redR e)) [] [])
  (hnu : ∀ u ∈ e.kids, ∃ d', TmV 13 d' u) (hif : e.kind = 9 -> ∃ c a b, e.kids = [c, a, b])
  (ih : ∀ u ∈ e.kids, valM u = false -> ACalls Tryz.prog 257 [aTm u] [] (.tup (stepR (stepS (stepB u)))) [] []) : ACalls Tryz.prog 257 [aTm e] [] (.tup (stepR (stepS (stepB e)))) [] [] := by
 obtain ⟨R, hR⟩ : ∃ R, firstNV (e.kids.take (e.kids.length)) = R := ⟨_, rfl⟩
 have hat : ∀ i u, e.kids[i]? = some u -> R = some i -> stepB e = (.mk e.kind e.name e.num e.ty e.fr e.label (e.kids.set i (stepB u).1), (stepB u).2.1, (stepB u).2.2) := fun i u h1 h2 => stepB_at ((show firstNV (e.kids.take (countsM e)) = R by rw [hN]; exact hR).trans h2) h1
 have hnone : R = none -> stepB e = match ruleM e with
  | some x => (x, 1, 0)
  | none => (zeroE, 2, wrongM e.kind) := fun h => stepB_none ((show firstNV (e.kids.take (countsM e)) = R by rw [hN]; exact hR).trans h)
 rw [hR] at hred
 generalize stepB e = S at *
 refine ACalls.of_body Tryz.func257 (by kernel_rfl) rfl (by kernel_rfl) (by simp [Tryz.ntmps257]) (by simp) ?_
 rw [Tryz.ntmps257]
 repeat' first | (refine aops_end (hK _ ?_); clear hK K) | (refine aops_go ?_; simp [h9]; (try (refine gen fun q hq => ?_; cases q <;> (try simp [h9] at hq) <;> (try (have hh : True := hq; clear hh hq))))) | refine T.r0 fun K hK => ?_ | refine T.cf rfl ?_ | refine T.seq ?_ | refine T.block ?_ | refine T.skip ?_
 refine T.loopK (α := Nat × List (List CV)) [1, 2, 5] (fun x => [(3, .i 0), (4, .i 0), (6, .i x.1)]) (fun x => []) (fun x => x.2) (fun x A => A) (fun x => e.kids.length + 1 - x.1) (fun x => x.1 <= e.kids.length /\ (firstNV ((e.kids.take (e.kids.length)).drop x.1)).map (· + x.1) = R) (by simp; rfl) (fun x hx => ?_) (0, []) (by simpa using hR) (by simp) (by simp) (by simp)
 obtain ⟨p, G⟩ := x
 obtain ⟨hx, he⟩ := hx
 dsimp only at hx he ⊢
 simp only [ups, List.set_cons_zero, List.set_cons_succ, List.cons_append, List.nil_append, List.append_nil]
 by_cases hlt : p < e.kids.length
 ·have hlk : p < e.kids.length := by omega
  obtain ⟨u, ht⟩ := get_lt hlk
  have htm : u ∈ e.kids := List.mem_of_getElem? ht
  have hgt : e.kids[p] = u := by rw [List.getElem?_eq_getElem hlk] at ht; exact Option.some.inj ht
  have hdr : e.kids.drop p = u :: e.kids.drop (p + 1) := by rw [List.drop_eq_getElem_cons hlk, hgt]
  have hltI : (p : Int) < e.kids.length := by omega
  obtain ⟨du, hdu⟩ := hnu u htm
  have hv := l5Value_ok u du hdu
  rw [take_drop_cons ht hlt, firstNV] at he
  cases hb : valM u with
  | true =>
   rw [hb] at hv he
   simp only [if_true, Option.map_map] at he
   have he' : (firstNV ((e.kids.take (e.kids.length)).drop (p + 1))).map (· + (p + 1)) = R := by rw [<- he]; congr 1; funext z; simp; omega
   repeat' first | (refine aops_end (hK _ ?_); clear hK K) | (refine aops_go ?_; simp [hlt, hlk, hgt, hltI]; (try simp (disch := omega) only [wrap64]); (try (refine gen fun q hq => ?_; cases q <;> (try simp [hlt, hlk, hgt, hltI] at hq) <;> (try (have hh : True := hq; clear hh hq))))) | (refine wpcall_pure rfl (hv) ?_; simp [hlt, hlk, hgt, hltI]; (try simp (disch := omega) only [wrap64]); (try (refine gen fun q hq => ?_; cases q <;> (try simp [hlt, hlk, hgt, hltI] at hq) <;> (try (have hh : True := hq; clear hh hq))))) | (refine ⟨(p + 1, _), by dsimp only; omega, ⟨by dsimp only; omega, he'⟩, rfl, ?_, ?_⟩ <;> simp (disch := omega) [wrap64]) | refine T.r0 fun K hK => ?_ | refine T.r1 fun K hK => ?_ | refine T.ct rfl ?_ | refine T.seq ?_ | refine T.block ?_ | refine T.skip ?_ | refine T.exit ?_
  | false =>
   rw [hb] at hv he
   simp at he
   have hs := hat p u ht he.symm
   have hi := ih u htm hb
   generalize stepB u = su at *
   obtain ⟨y, cd, lb⟩ := su
   subst hs
   by_cases hc : cd = 1
   ·subst hc
    simp only [stepS, if_true] at hi ⊢
    repeat' first | (refine aops_end (hK _ ?_); clear hK K) | (refine aops_go ?_; simp [hlt, hlk, hgt, hltI]; (try simp (disch := omega) only [wrap64]); (try (refine gen fun q hq => ?_; cases q <;> (try simp [hlt, hlk, hgt, hltI] at hq) <;> (try (have hh : True := hq; clear hh hq))))) | (refine wpcall_pure rfl (hv) ?_; simp [hlt, hlk, hgt, hltI]; (try simp (disch := omega) only [wrap64]); (try (refine gen fun q hq => ?_; cases q <;> (try simp [hlt, hlk, hgt, hltI] at hq) <;> (try (have hh : True := hq; clear hh hq))))) | (refine wpcall_pure rfl (hi) ?_; simp [hlt, hlk, hgt, hltI]; (try simp (disch := omega) only [wrap64]); (try (refine gen fun q hq => ?_; cases q <;> (try simp [hlt, hlk, hgt, hltI] at hq) <;> (try (have hh : True := hq; clear hh hq))))) | (refine ⟨by omega, by omega, ?_⟩) | (refine T.ret (Done.tup (Or.inr rfl) ?_) <;> simp [resAs, Tryz.results257, eTm_def, List.map_set] <;> omega) | refine T.rs (id := 12) (fun i => i == 0) fun K hK => ?_ | refine T.rs (id := 5) (fun _ => false) fun K hK => ?_ | refine T.rs (id := 7) (fun _ => false) fun K hK => ?_ | refine T.rs (id := 8) (fun _ => false) fun K hK => ?_ | refine T.rs (id := 9) (fun _ => false) fun K hK => ?_ | refine T.rs (id := 11) (fun _ => false) fun K hK => ?_ | refine T.rs (id := 13) (fun _ => false) fun K hK => ?_ | refine T.rs (id := 14) (fun _ => false) fun K hK => ?_ | refine T.ct rfl ?_ | refine T.cf rfl ?_ | refine T.seq ?_ | refine T.block ?_ | refine T.skip ?_
   ·simp only [stepS, if_neg hc] at hi ⊢
    repeat' first | (refine aops_end (hK _ ?_); clear hK K) | (refine aops_go ?_; simp [hlt, hlk, hgt, hltI, hc]; (try simp (disch := omega) only [wrap64]); (try (refine gen fun q hq => ?_; cases q <;> (try simp [hlt, hlk, hgt, hltI, hc] at hq) <;> (try (have hh : True := hq; clear hh hq))))) | (refine wpcall_pure rfl (hv) ?_; simp [hlt, hlk, hgt, hltI, hc]; (try simp (disch := omega) only [wrap64]); (try (refine gen fun q hq => ?_; cases q <;> (try simp [hlt, hlk, hgt, hltI, hc] at hq) <;> (try (have hh : True := hq; clear hh hq))))) | (refine wpcall_pure rfl (hi) ?_; simp [hlt, hlk, hgt, hltI, hc]; (try simp (disch := omega) only [wrap64]); (try (refine gen fun q hq => ?_; cases q <;> (try simp [hlt, hlk, hgt, hltI, hc] at hq) <;> (try (have hh : True := hq; clear hh hq))))) | (refine T.ret (Done.tup (Or.inr rfl) ?_) <;> simp [resAs, Tryz.results257] <;> omega) | refine T.rs (id := 5) (fun _ => false) fun K hK => ?_ | refine T.rs (id := 7) (fun _ => false) fun K hK => ?_ | refine T.rs (id := 8) (fun _ => false) fun K hK => ?_ | refine T.rs (id := 9) (fun _ => false) fun K hK => ?_ | refine T.rs (id := 10) (fun _ => false) fun K hK => ?_ | refine T.ct rfl ?_ | refine T.cf rfl ?_ | refine T.seq ?_ | refine T.block ?_ | refine T.skip ?_
 ·have hp' : p = e.kids.length := by omega
  subst hp'
  have hz : (e.kids.take (e.kids.length)).drop (e.kids.length) = [] := by simp
  rw [hz] at he
  simp [firstNV] at he
  have hs := hnone he.symm
  have hr := hred h9 he.symm
  cases hq : ruleM e with
  | none =>
   simp only [hq] at hs
   simp only [redR, hq] at hr
   subst hs
   simp only [stepS, show ¬ (2 : Int) = 1 by omega, if_false]
   repeat' first | (refine aops_end (hK _ ?_); clear hK K) | (refine aops_go ?_; simp [h9, hlt]; (try (refine gen fun q hq => ?_; cases q <;> (try simp [h9, hlt] at hq) <;> (try (have hh : True := hq; clear hh hq))))) | (refine wpcall_pure rfl (hr) ?_; simp [h9, hlt]; (try (refine gen fun q hq => ?_; cases q <;> (try simp [h9, hlt] at hq) <;> (try (have hh : True := hq; clear hh hq))))) | (refine T.ret (Done.tup (Or.inr rfl) ?_) <;> simp [resAs, Tryz.results257] <;> omega) | refine T.rs (id := 5) (fun _ => false) fun K hK => ?_ | refine T.rs (id := 15) (fun _ => false) fun K hK => ?_ | refine T.rs (id := 16) (fun _ => false) fun K hK => ?_ | refine T.ct rfl ?_ | refine T.cf rfl ?_ | refine T.seq ?_ | refine T.exit ?_
  | some x =>
   simp only [hq] at hs
   simp only [redR, hq] at hr
   subst hs
   simp only [stepS, if_true]
   repeat' first | (refine aops_end (hK _ ?_); clear hK K) | (refine aops_go ?_; simp [h9, hlt]; (try (refine gen fun q hq => ?_; cases q <;> (try simp [h9, hlt] at hq) <;> (try (have hh : True := hq; clear hh hq))))) | (refine wpcall_pure rfl (hr) ?_; simp [h9, hlt]; (try (refine gen fun q hq => ?_; cases q <;> (try simp [h9, hlt] at hq) <;> (try (have hh : True := hq; clear hh hq))))) | (refine T.ret (Done.tup (Or.inr rfl) ?_) <;> simp [resAs, Tryz.results257] <;> omega) | refine T.rs (id := 5) (fun _ => false) fun K hK => ?_ | refine T.rs (id := 15) (fun _ => false) fun K hK => ?_ | refine T.rs (id := 16) (fun _ => false) fun K hK => ?_ | refine T.ct rfl ?_ | refine T.cf rfl ?_ | refine T.seq ?_ | refine T.exit ?_

theorem l13Step_yes (e : MTm) (h9 : e.kind = 9) (hlen : e.kids.length <= 3) (hN : countsM e = 1) (hcnt : 1 <= e.kids.length) (hred : ¬ e.kind = 9 -> firstNV (e.kids.take (1)) = none -> ACalls Tryz.prog 284 [aTm e] [] (.tup (redR e)) [] [])
  (hnu : ∀ u ∈ e.kids, ∃ d', TmV 13 d' u) (hif : e.kind = 9 -> ∃ c a b, e.kids = [c, a, b])
  (ih : ∀ u ∈ e.kids, valM u = false -> ACalls Tryz.prog 257 [aTm u] [] (.tup (stepR (stepS (stepB u)))) [] []) : ACalls Tryz.prog 257 [aTm e] [] (.tup (stepR (stepS (stepB e)))) [] [] := by
 obtain ⟨R, hR⟩ : ∃ R, firstNV (e.kids.take (1)) = R := ⟨_, rfl⟩
 have hat : ∀ i u, e.kids[i]? = some u -> R = some i -> stepB e = (.mk e.kind e.name e.num e.ty e.fr e.label (e.kids.set i (stepB u).1), (stepB u).2.1, (stepB u).2.2) := fun i u h1 h2 => stepB_at ((show firstNV (e.kids.take (countsM e)) = R by rw [hN]; exact hR).trans h2) h1
 have hnone : R = none -> stepB e = match ruleM e with
  | some x => (x, 1, 0)
  | none => (zeroE, 2, wrongM e.kind) := fun h => stepB_none ((show firstNV (e.kids.take (countsM e)) = R by rw [hN]; exact hR).trans h)
 rw [hR] at hred
 generalize stepB e = S at *
 refine ACalls.of_body Tryz.func257 (by kernel_rfl) rfl (by kernel_rfl) (by simp [Tryz.ntmps257]) (by simp) ?_
 rw [Tryz.ntmps257]
 repeat' first | (refine aops_end (hK _ ?_); clear hK K) | (refine aops_go ?_; simp [h9]; (try (refine gen fun q hq => ?_; cases q <;> (try simp [h9] at hq) <;> (try (have hh : True := hq; clear hh hq))))) | refine T.r0 fun K hK => ?_ | refine T.r1 fun K hK => ?_ | refine T.ct rfl ?_ | refine T.seq ?_ | refine T.block ?_
 refine T.loopK (α := Nat × List (List CV)) [1, 2, 5] (fun x => [(3, .i 0), (4, .i 0), (6, .i x.1)]) (fun x => []) (fun x => x.2) (fun x A => A) (fun x => 1 + 1 - x.1) (fun x => x.1 <= 1 /\ (firstNV ((e.kids.take (1)).drop x.1)).map (· + x.1) = R) (by simp; rfl) (fun x hx => ?_) (0, []) (by simpa using hR) (by simp) (by simp) (by simp)
 obtain ⟨p, G⟩ := x
 obtain ⟨hx, he⟩ := hx
 dsimp only at hx he ⊢
 simp only [ups, List.set_cons_zero, List.set_cons_succ, List.cons_append, List.nil_append, List.append_nil]
 by_cases hlt : p < 1
 ·have hlk : p < e.kids.length := by omega
  obtain ⟨u, ht⟩ := get_lt hlk
  have htm : u ∈ e.kids := List.mem_of_getElem? ht
  have hgt : e.kids[p] = u := by rw [List.getElem?_eq_getElem hlk] at ht; exact Option.some.inj ht
  have hdr : e.kids.drop p = u :: e.kids.drop (p + 1) := by rw [List.drop_eq_getElem_cons hlk, hgt]
  have hltI : (p : Int) < 1 := by omega
  obtain ⟨du, hdu⟩ := hnu u htm
  have hv := l5Value_ok u du hdu
  rw [take_drop_cons ht hlt, firstNV] at he
  cases hb : valM u with
  | true =>
   rw [hb] at hv he
   simp only [if_true, Option.map_map] at he
   have he' : (firstNV ((e.kids.take (1)).drop (p + 1))).map (· + (p + 1)) = R := by rw [<- he]; congr 1; funext z; simp; omega
   repeat' first | (refine aops_end (hK _ ?_); clear hK K) | (refine aops_go ?_; simp [hlt, hlk, hgt, hltI]; (try simp (disch := omega) only [wrap64]); (try (refine gen fun q hq => ?_; cases q <;> (try simp [hlt, hlk, hgt, hltI] at hq) <;> (try (have hh : True := hq; clear hh hq))))) | (refine wpcall_pure rfl (hv) ?_; simp [hlt, hlk, hgt, hltI]; (try simp (disch := omega) only [wrap64]); (try (refine gen fun q hq => ?_; cases q <;> (try simp [hlt, hlk, hgt, hltI] at hq) <;> (try (have hh : True := hq; clear hh hq))))) | (refine ⟨(p + 1, _), by dsimp only; omega, ⟨by dsimp only; omega, he'⟩, rfl, ?_, ?_⟩ <;> simp (disch := omega) [wrap64]) | refine T.r0 fun K hK => ?_ | refine T.r1 fun K hK => ?_ | refine T.ct rfl ?_ | refine T.seq ?_ | refine T.block ?_ | refine T.skip ?_ | refine T.exit ?_
  | false =>
   rw [hb] at hv he
   simp at he
   have hs := hat p u ht he.symm
   have hi := ih u htm hb
   generalize stepB u = su at *
   obtain ⟨y, cd, lb⟩ := su
   subst hs
   by_cases hc : cd = 1
   ·subst hc
    simp only [stepS, if_true] at hi ⊢
    repeat' first | (refine aops_end (hK _ ?_); clear hK K) | (refine aops_go ?_; simp [hlt, hlk, hgt, hltI]; (try simp (disch := omega) only [wrap64]); (try (refine gen fun q hq => ?_; cases q <;> (try simp [hlt, hlk, hgt, hltI] at hq) <;> (try (have hh : True := hq; clear hh hq))))) | (refine wpcall_pure rfl (hv) ?_; simp [hlt, hlk, hgt, hltI]; (try simp (disch := omega) only [wrap64]); (try (refine gen fun q hq => ?_; cases q <;> (try simp [hlt, hlk, hgt, hltI] at hq) <;> (try (have hh : True := hq; clear hh hq))))) | (refine wpcall_pure rfl (hi) ?_; simp [hlt, hlk, hgt, hltI]; (try simp (disch := omega) only [wrap64]); (try (refine gen fun q hq => ?_; cases q <;> (try simp [hlt, hlk, hgt, hltI] at hq) <;> (try (have hh : True := hq; clear hh hq))))) | (refine ⟨by omega, by omega, ?_⟩) | (refine T.ret (Done.tup (Or.inr rfl) ?_) <;> simp [resAs, Tryz.results257, eTm_def, List.map_set] <;> omega) | refine T.rs (id := 12) (fun i => i == 0) fun K hK => ?_ | refine T.rs (id := 5) (fun _ => false) fun K hK => ?_ | refine T.rs (id := 7) (fun _ => false) fun K hK => ?_ | refine T.rs (id := 8) (fun _ => false) fun K hK => ?_ | refine T.rs (id := 9) (fun _ => false) fun K hK => ?_ | refine T.rs (id := 11) (fun _ => false) fun K hK => ?_ | refine T.rs (id := 13) (fun _ => false) fun K hK => ?_ | refine T.rs (id := 14) (fun _ => false) fun K hK => ?_ | refine T.ct rfl ?_ | refine T.cf rfl ?_ | refine T.seq ?_ | refine T.block ?_ | refine T.skip ?_
   ·simp only [stepS, if_neg hc] at hi ⊢
    repeat' first | (refine aops_end (hK _ ?_); clear hK K) | (refine aops_go ?_; simp [hlt, hlk, hgt, hltI, hc]; (try simp (disch := omega) only [wrap64]); (try (refine gen fun q hq => ?_; cases q <;> (try simp [hlt, hlk, hgt, hltI, hc] at hq) <;> (try (have hh : True := hq; clear hh hq))))) | (refine wpcall_pure rfl (hv) ?_; simp [hlt, hlk, hgt, hltI, hc]; (try simp (disch := omega) only [wrap64]); (try (refine gen fun q hq => ?_; cases q <;> (try simp [hlt, hlk, hgt, hltI, hc] at hq) <;> (try (have hh : True := hq; clear hh hq))))) | (refine wpcall_pure rfl (hi) ?_; simp [hlt, hlk, hgt, hltI, hc]; (try simp (disch := omega) only [wrap64]); (try (refine gen fun q hq => ?_; cases q <;> (try simp [hlt, hlk, hgt, hltI, hc] at hq) <;> (try (have hh : True := hq; clear hh hq))))) | (refine T.ret (Done.tup (Or.inr rfl) ?_) <;> simp [resAs, Tryz.results257] <;> omega) | refine T.rs (id := 5) (fun _ => false) fun K hK => ?_ | refine T.rs (id := 7) (fun _ => false) fun K hK => ?_ | refine T.rs (id := 8) (fun _ => false) fun K hK => ?_ | refine T.rs (id := 9) (fun _ => false) fun K hK => ?_ | refine T.rs (id := 10) (fun _ => false) fun K hK => ?_ | refine T.ct rfl ?_ | refine T.cf rfl ?_ | refine T.seq ?_ | refine T.block ?_ | refine T.skip ?_
 ·have hp' : p = 1 := by omega
  subst hp'
  have hz : (e.kids.take (1)).drop (1) = [] := by simp
  rw [hz] at he
  simp [firstNV] at he
  have hs := hnone he.symm
  obtain ⟨c, a, b, hkk⟩ := hif h9
  by_cases h3 : c.kind = 3
  ·rw [show ruleM e = some a by simp [ruleM, h9, hkk, h3]] at hs
   subst hs
   simp only [stepS, if_true]
   repeat' first | (refine aops_end (hK _ ?_); clear hK K) | (refine aops_go ?_; simp [h9, hlt, hkk, eTm_def, h3]; (try (refine gen fun q hq => ?_; cases q <;> (try simp [h9, hlt, hkk, eTm_def, h3] at hq) <;> (try (have hh : True := hq; clear hh hq))))) | (refine T.ret (Done.tup (Or.inr rfl) ?_) <;> simp [resAs, Tryz.results257, eTm_def] <;> omega) | refine T.rs (id := 5) (fun _ => false) fun K hK => ?_ | refine T.rs (id := 15) (fun _ => false) fun K hK => ?_ | refine T.rs (id := 17) (fun _ => false) fun K hK => ?_ | refine T.rs (id := 18) (fun _ => false) fun K hK => ?_ | refine T.rs (id := 19) (fun _ => false) fun K hK => ?_ | refine T.ct rfl ?_ | refine T.cf rfl ?_ | refine T.seq ?_ | refine T.block ?_ | refine T.skip ?_ | refine T.exit ?_
  by_cases h4 : c.kind = 4
  ·rw [show ruleM e = some b by simp [ruleM, h9, hkk, h4]] at hs
   subst hs
   simp only [stepS, if_true]
   repeat' first | (refine aops_end (hK _ ?_); clear hK K) | (refine aops_go ?_; simp [h9, hlt, hkk, eTm_def, h4]; (try (refine gen fun q hq => ?_; cases q <;> (try simp [h9, hlt, hkk, eTm_def, h4] at hq) <;> (try (have hh : True := hq; clear hh hq))))) | (refine T.ret (Done.tup (Or.inr rfl) ?_) <;> simp [resAs, Tryz.results257, eTm_def] <;> omega) | refine T.rs (id := 5) (fun _ => false) fun K hK => ?_ | refine T.rs (id := 15) (fun _ => false) fun K hK => ?_ | refine T.rs (id := 17) (fun _ => false) fun K hK => ?_ | refine T.rs (id := 18) (fun _ => false) fun K hK => ?_ | refine T.rs (id := 20) (fun _ => false) fun K hK => ?_ | refine T.rs (id := 21) (fun _ => false) fun K hK => ?_ | refine T.ct rfl ?_ | refine T.cf rfl ?_ | refine T.seq ?_ | refine T.block ?_ | refine T.skip ?_ | refine T.exit ?_
  ·rw [show ruleM e = none by simp [ruleM, h9, hkk, h3, h4]] at hs
   subst hs
   simp only [stepS, show ¬ (2 : Int) = 1 by omega, if_false]
   repeat' first | (refine aops_end (hK _ ?_); clear hK K) | (refine aops_go ?_; simp [h9, hlt, hkk, eTm_def, h3, h4]; (try (refine gen fun q hq => ?_; cases q <;> (try simp [h9, hlt, hkk, eTm_def, h3, h4] at hq) <;> (try (have hh : True := hq; clear hh hq))))) | (refine T.ret (Done.tup (Or.inr rfl) ?_) <;> simp [resAs, Tryz.results257, wrongM, h9] <;> omega) | refine T.rs (id := 5) (fun _ => false) fun K hK => ?_ | refine T.rs (id := 15) (fun _ => false) fun K hK => ?_ | refine T.rs (id := 17) (fun _ => false) fun K hK => ?_ | refine T.rs (id := 18) (fun _ => false) fun K hK => ?_ | refine T.rs (id := 20) (fun _ => false) fun K hK => ?_ | refine T.rs (id := 22) (fun _ => false) fun K hK => ?_ | refine T.cf rfl ?_ | refine T.seq ?_ | refine T.block ?_ | refine T.skip ?_ | refine T.exit ?_

theorem l13Step_ok : ∀ (e : MTm) (d : Nat), TmV 13 d e -> bareM e = true -> valM e = false -> nTm e <= 1073741824 -> ACalls Tryz.prog 257 [aTm e] [] (.tup (stepR (stepS (stepB e)))) [] [] := by
 intro e
 induction e using MTm.ind with
 | h e ih =>
  intro d hv hbr hvl hn
  obtain ⟨d', rfl, _, hlen, _, hk⟩ := shapeTm_kids hv.shape
  have hl3 := kidsM_le e.kind
  have hnu : ∀ u ∈ e.kids, nTm u <= 1073741824 := fun u hu => by have := nTmS_mem hu; rw [nTm_def] at hn; omega
  have hkd : ∀ u ∈ e.kids, ∃ d', TmV 13 d' u := fun u hu => ⟨d', TmV.of (hk u hu)⟩
  have ih' := fun u hu hvu => ih u hu d' (TmV.of (hk u hu)) (bareM_kids hbr u hu) hvu (hnu u hu)
  have h14 : ¬ e.kind = 14 := by rw [bareM_def] at hbr; simp only [Bool.and_eq_true, decide_eq_true_eq] at hbr; exact hbr.1.1
  by_cases h9 : e.kind = 9
  ·have hif : e.kind = 9 -> ∃ c a b, e.kids = [c, a, b] := fun _ => by
    rw [h9] at hlen
    have h3 : e.kids.length = 3 := by simp [kidsM] at hlen; omega
    match h : e.kids, h3 with
    | [c, a, b], _ => exact ⟨c, a, b, rfl⟩
   obtain ⟨c, a, b, hkk⟩ := hif h9
   exact l13Step_yes e h9 (by omega) (by simp [countsM, h9]) (by rw [hkk]; simp) (fun h => absurd h9 h) hkd hif ih'
  ·refine l13Step_no e h9 (by omega) (by simp [countsM, h9]) (Nat.le_refl _) (fun _ hf => ?_) hkd (fun h => absurd h h9) ih'
   rw [List.take_length] at hf
   refine l13Reduce_ok e _ hv hn ?_
   have hall := firstNV_none hf
   rcases hv.cases13 with ⟨s, rfl⟩ | ⟨k, rfl, _, _⟩ | rfl | rfl | ⟨s, t, b, rfl⟩ | ⟨a, f, t, l, rfl⟩ | ⟨k, a, rfl, hk2, _, _⟩ | ⟨p, a, b, rfl, _, _⟩ | ⟨k, a, b, rfl, hk2, ⟨_, _⟩, _, _⟩
   ·simp
   ·simp [valM_def, proxyM, injM, plainM] at hvl
   ·simp [valM_def, proxyM, injM, plainM] at hvl
   ·simp [valM_def, proxyM, injM, plainM] at hvl
   ·simp [valM_def, proxyM, injM, plainM] at hvl
   ·simp at h14
   ·simp; omega
   ·simp at h9
   ·simp
    by_cases h10 : k = 10
    ·subst h10
     have h1 := hall a (by simp)
     have h2 := hall b (by simp)
     simp [valM_def (tN2 10 a b), h1, h2] at hvl
    ·omega

theorem StepBareS_ok (e : MTm) (hn : nTm e <= 1073741824) : ACalls Tryz.prog 215 [aTm e] [] (.tup (stepR (stepBareM e))) [] [] := by
 have k1 := BareValidS_ok e (by omega)
 rw [stepBareM]
 rw [show (castValidM e && bareM e) = bareValidM e from rfl] at k1
 cases hb : bareValidM e with
 | false =>
  rw [hb] at k1
  simp only [Bool.false_eq_true, if_false]
  refine ACalls.of_body Tryz.func215 (by kernel_rfl) rfl (by kernel_rfl) (by simp [Tryz.ntmps215]) (by simp) ?_
  rw [Tryz.ntmps215]
  repeat' first | (refine aops_end (hK _ ?_); clear hK K) | (refine aops_go ?_; simp; (try (refine gen fun q hq => ?_; cases q <;> (try simp at hq) <;> (try (have hh : True := hq; clear hh hq))))) | (refine wpcall_pure rfl (k1) ?_; simp; (try (refine gen fun q hq => ?_; cases q <;> (try simp at hq) <;> (try (have hh : True := hq; clear hh hq))))) | (refine T.ret (Done.tup (Or.inr rfl) ?_) <;> simp [resAs, Tryz.results215] <;> omega) | refine T.r0 fun K hK => ?_ | refine T.ct rfl ?_ | refine T.seq ?_
 | true =>
  rw [hb] at k1
  simp only [if_true]
  have hb2 := hb
  simp only [bareValidM, Bool.and_eq_true] at hb2
  obtain ⟨hcv, hbr⟩ := hb2
  have hv := (castValidM_iff.1 hcv).1
  have hsm := castValid_small hcv
  have k2 := l5Value_ok e 40 hv
  cases hvl : valM e with
  | true =>
   rw [hvl] at k2
   have k3 := l2Copy_ok e (by omega)
   simp only [if_true]
   refine ACalls.of_body Tryz.func215 (by kernel_rfl) rfl (by kernel_rfl) (by simp [Tryz.ntmps215]) (by simp) ?_
   rw [Tryz.ntmps215]
   repeat' first | (refine aops_end (hK _ ?_); clear hK K) | (refine aops_go ?_; simp; (try (refine gen fun q hq => ?_; cases q <;> (try simp at hq) <;> (try (have hh : True := hq; clear hh hq))))) | (refine wpcall_pure rfl (k1) ?_; simp; (try (refine gen fun q hq => ?_; cases q <;> (try simp at hq) <;> (try (have hh : True := hq; clear hh hq))))) | (refine wpcall_pure rfl (k2) ?_; simp; (try (refine gen fun q hq => ?_; cases q <;> (try simp at hq) <;> (try (have hh : True := hq; clear hh hq))))) | (refine wpcall_pure rfl (k3) ?_; simp; (try (refine gen fun q hq => ?_; cases q <;> (try simp at hq) <;> (try (have hh : True := hq; clear hh hq))))) | (refine T.ret (Done.tup (Or.inr rfl) ?_) <;> simp [resAs, Tryz.results215] <;> omega) | refine T.r0 fun K hK => ?_ | refine T.ct rfl ?_ | refine T.cf rfl ?_ | refine T.seq ?_ | refine T.skip ?_
  | false =>
   rw [hvl] at k2
   have k3 := l13Step_ok e 40 hv hbr hvl hn
   have hsz := step_size e
   have hsz2 : nodesM e * nTm e <= 200 * 60000 := Nat.mul_le_mul hsm.2 hsm.1
   have k4 := CastValidS_ok (stepB e).1 (by omega)
   have k5 := l2Copy_ok (stepB e).1 (by omega)
   have hcq := step_castValid (e := e) hbr
   simp only [Bool.false_eq_true, if_false]
   generalize stepB e = p at *
   obtain ⟨x, cd, lb⟩ := p
   dsimp only at *
   by_cases h1 : cd = 1
   ·subst h1
    rw [<- hcq rfl] at k4
    simp only [stepS, if_true] at k3
    cases hbx : bareValidM x <;> rw [hbx] at k4
    ·simp only [if_true, Bool.false_eq_true, if_false]
     refine ACalls.of_body Tryz.func215 (by kernel_rfl) rfl (by kernel_rfl) (by simp [Tryz.ntmps215]) (by simp) ?_
     rw [Tryz.ntmps215]
     repeat' first | (refine aops_end (hK _ ?_); clear hK K) | (refine aops_go ?_; simp; (try (refine gen fun q hq => ?_; cases q <;> (try simp at hq) <;> (try (have hh : True := hq; clear hh hq))))) | (refine wpcall_pure rfl (k1) ?_; simp; (try (refine gen fun q hq => ?_; cases q <;> (try simp at hq) <;> (try (have hh : True := hq; clear hh hq))))) | (refine wpcall_pure rfl (k2) ?_; simp; (try (refine gen fun q hq => ?_; cases q <;> (try simp at hq) <;> (try (have hh : True := hq; clear hh hq))))) | (refine wpcall_pure rfl (k3) ?_; simp; (try (refine gen fun q hq => ?_; cases q <;> (try simp at hq) <;> (try (have hh : True := hq; clear hh hq))))) | (refine wpcall_pure rfl (k4) ?_; simp; (try (refine gen fun q hq => ?_; cases q <;> (try simp at hq) <;> (try (have hh : True := hq; clear hh hq))))) | (refine T.ret (Done.tup (Or.inr rfl) ?_) <;> simp [resAs, Tryz.results215] <;> omega) | refine T.r0 fun K hK => ?_ | refine T.ct rfl ?_ | refine T.cf rfl ?_ | refine T.seq ?_ | refine T.skip ?_
    ·simp only [if_true]
     refine ACalls.of_body Tryz.func215 (by kernel_rfl) rfl (by kernel_rfl) (by simp [Tryz.ntmps215]) (by simp) ?_
     rw [Tryz.ntmps215]
     repeat' first | (refine aops_end (hK _ ?_); clear hK K) | (refine aops_go ?_; simp; (try (refine gen fun q hq => ?_; cases q <;> (try simp at hq) <;> (try (have hh : True := hq; clear hh hq))))) | (refine wpcall_pure rfl (k1) ?_; simp; (try (refine gen fun q hq => ?_; cases q <;> (try simp at hq) <;> (try (have hh : True := hq; clear hh hq))))) | (refine wpcall_pure rfl (k2) ?_; simp; (try (refine gen fun q hq => ?_; cases q <;> (try simp at hq) <;> (try (have hh : True := hq; clear hh hq))))) | (refine wpcall_pure rfl (k3) ?_; simp; (try (refine gen fun q hq => ?_; cases q <;> (try simp at hq) <;> (try (have hh : True := hq; clear hh hq))))) | (refine wpcall_pure rfl (k4) ?_; simp; (try (refine gen fun q hq => ?_; cases q <;> (try simp at hq) <;> (try (have hh : True := hq; clear hh hq))))) | (refine wpcall_pure rfl (k5) ?_; simp; (try (refine gen fun q hq => ?_; cases q <;> (try simp at hq) <;> (try (have hh : True := hq; clear hh hq))))) | (refine T.ret (Done.tup (Or.inr rfl) ?_) <;> simp [resAs, Tryz.results215] <;> omega) | refine T.r0 fun K hK => ?_ | refine T.cf rfl ?_ | refine T.seq ?_ | refine T.skip ?_
   ·rw [if_neg h1]
    simp only [stepS, if_neg h1] at k3
    refine ACalls.of_body Tryz.func215 (by kernel_rfl) rfl (by kernel_rfl) (by simp [Tryz.ntmps215]) (by simp) ?_
    rw [Tryz.ntmps215]
    repeat' first | (refine aops_end (hK _ ?_); clear hK K) | (refine aops_go ?_; simp [h1]; (try (refine gen fun q hq => ?_; cases q <;> (try simp [h1] at hq) <;> (try (have hh : True := hq; clear hh hq))))) | (refine wpcall_pure rfl (k1) ?_; simp [h1]; (try (refine gen fun q hq => ?_; cases q <;> (try simp [h1] at hq) <;> (try (have hh : True := hq; clear hh hq))))) | (refine wpcall_pure rfl (k2) ?_; simp [h1]; (try (refine gen fun q hq => ?_; cases q <;> (try simp [h1] at hq) <;> (try (have hh : True := hq; clear hh hq))))) | (refine wpcall_pure rfl (k3) ?_; simp [h1]; (try (refine gen fun q hq => ?_; cases q <;> (try simp [h1] at hq) <;> (try (have hh : True := hq; clear hh hq))))) | (refine T.ret (Done.tup (Or.inr rfl) ?_) <;> simp [resAs, Tryz.results215] <;> omega) | refine T.r0 fun K hK => ?_ | refine T.ct rfl ?_ | refine T.cf rfl ?_ | refine T.seq ?_ | refine T.skip ?_

def evR (p : MTm × Int × Int × Int) : MTm × Int × Int × Int := if p.2.1 = 1 then (zeroE, 5, 0, p.2.2.2) else p

theorem evR_pos {p : MTm × Int × Int × Int} (h : p.2.1 = 1) : evR p = (zeroE, 5, 0, p.2.2.2) := if_pos h
theorem evR_neg {p : MTm × Int × Int × Int} (h : p.2.1 ≠ 1) : evR p = p := if_neg h

theorem l13Eval_ok (e : MTm) (n : Nat) (hn : nTm e <= 1073741824) (hf : n <= 1000) : ACalls Tryz.prog 167 [aTm e, .i n] [] (.tup (runR (evR (runB n e)))) [] [] := by
 obtain ⟨R, hR⟩ : ∃ R, evR (runB n e) = R := ⟨_, rfl⟩
 rw [hR]
 have hadd : ∀ p : MTm × Int × Int × Int, evR (p.1, p.2.1, p.2.2.1, p.2.2.2 + 1) = ((evR p).1, (evR p).2.1, (evR p).2.2.1, (evR p).2.2.2 + 1) := fun p => by
  simp only [evR]; split <;> rfl
 obtain ⟨r1, r2, r3, r4⟩ := R
 refine ACalls.of_body Tryz.func167 (by kernel_rfl) rfl (by kernel_rfl) (by simp [Tryz.ntmps167]) (by simp) ?_
 rw [Tryz.ntmps167]
 repeat' first | ((first | refine aops_end (hK _ ?_) | refine aopsD_end (hK _ ?_) | refine aopsF_end (hK _ ?_)); clear hK K) | ((first | refine aops_go ?_ | refine aopsD_go ?_ | refine aopsF_go ?_); simp; (try (refine gen fun q hq => ?_; cases q <;> (try simp at hq) <;> (try (have hh : True := hq; clear hh hq))))) | refine T.r0 fun K hK => ?_ | refine T.r1 fun K hK => ?_ | (refine ⟨by omega, ?_⟩) | refine T.ct rfl ?_ | refine T.cf rfl ?_ | refine T.seq ?_ | refine T.block ?_ | refine T.skip ?_ | refine T.exit ?_
 refine T.loopK (α := Nat × MTm × List (List CV)) [1, 2, 4] (fun x => [(5, .i 0), (6, .i 0), (7, .i 0), (8, .i x.1)]) (fun x => [(0, (aTm x.2.1).cells)]) (fun x => x.2.2) (fun x A => A) (fun x => n + 1 - x.1) (fun x => x.1 <= n /\ nTm x.2.1 <= 1073741824 /\ (evR (runB (n - x.1) x.2.1)).1 = r1 /\ (evR (runB (n - x.1) x.2.1)).2.1 = r2 /\ (evR (runB (n - x.1) x.2.1)).2.2.1 = r3 /\ (evR (runB (n - x.1) x.2.1)).2.2.2 + x.1 = r4) (by simp; rfl) (fun x hx => ?_) (0, e, []) (by simp [hR, hn]) (by simp) (by simp) (by simp)
 obtain ⟨s, f, G⟩ := x
 obtain ⟨h1, h2, h3, h4, h5, h6⟩ := hx
 dsimp only at h1 h2 h3 h4 h5 h6 ⊢
 simp only [ups, List.set_cons_zero, List.set_cons_succ, List.cons_append, List.nil_append, List.append_nil]
 have k1 := StepBareS_ok f h2
 have hsz := stepBare_small f
 obtain ⟨m, hm⟩ : ∃ m, n - s = m := ⟨_, rfl⟩
 rw [hm] at h3 h4 h5 h6
 have hbad : (stepBareM f).2.1 ≠ 1 -> (stepBareM f).1 = r1 /\ (stepBareM f).2.1 = r2 /\ (stepBareM f).2.2 = r3 /\ (s : Int) = r4 := by
  intro h
  have e1 : runB m f = ((stepBareM f).1, (stepBareM f).2.1, (stepBareM f).2.2, 0) := by
   cases m with
   | zero => rfl
   | succ m => simp only [runB, if_neg h]
  rw [e1, evR_neg h] at h3 h4 h5 h6
  exact ⟨h3, h4, h5, by dsimp only at h6; omega⟩
 have hend : m = 0 -> (stepBareM f).2.1 = 1 -> zeroE = r1 /\ 5 = r2 /\ 0 = r3 /\ (s : Int) = r4 := by
  intro hm0 h
  subst hm0
  have e1 : runB 0 f = ((stepBareM f).1, (stepBareM f).2.1, (stepBareM f).2.2, 0) := rfl
  rw [e1, evR_pos h] at h3 h4 h5 h6
  exact ⟨h3, h4, h5, by dsimp only at h6; omega⟩
 have hnext : ∀ k, m = k + 1 -> (stepBareM f).2.1 = 1 -> (evR (runB k (stepBareM f).1)).1 = r1 /\ (evR (runB k (stepBareM f).1)).2.1 = r2 /\ (evR (runB k (stepBareM f).1)).2.2.1 = r3 /\ (evR (runB k (stepBareM f).1)).2.2.2 + (s + 1 : Nat) = r4 := by
  intro k hk h
  subst hk
  simp only [runB, if_pos h, hadd] at h3 h4 h5 h6
  exact ⟨h3, h4, h5, by push_cast; omega⟩
 clear h3 h4 h5 h6 hR hadd
 generalize stepBareM f = p at *
 obtain ⟨x, cd, lb⟩ := p
 dsimp only at hsz hbad hend hnext
 by_cases hc : cd = 1
 ·subst hc
  cases m with
  | zero =>
   obtain ⟨rfl, rfl, rfl, rfl⟩ := hend rfl rfl
   have hs : n = s := by omega
   subst hs
   repeat' first | ((first | refine aops_end (hK _ ?_) | refine aopsD_end (hK _ ?_) | refine aopsF_end (hK _ ?_)); clear hK K) | ((first | refine aops_go ?_ | refine aopsD_go ?_ | refine aopsF_go ?_); simp; (try simp (disch := omega) only [wrap64]); (try (refine gen fun q hq => ?_; cases q <;> (try simp at hq) <;> (try (have hh : True := hq; clear hh hq))))) | (refine wpcall_pure rfl (k1) ?_; simp; (try simp (disch := omega) only [wrap64]); (try (refine gen fun q hq => ?_; cases q <;> (try simp at hq) <;> (try (have hh : True := hq; clear hh hq))))) | (refine T.ret (Done.tup (Or.inr rfl) ?_) <;> simp [resAs, Tryz.results167] <;> omega) | refine T.r0 fun K hK => ?_ | refine T.r1 fun K hK => ?_ | (refine ⟨by omega, ?_⟩) | refine T.ct rfl ?_ | refine T.cf rfl ?_ | refine T.seq ?_ | refine T.block ?_ | refine T.skip ?_ | refine T.exit ?_
  | succ m =>
   obtain ⟨g1, g2, g3, g4⟩ := hnext m rfl rfl
   have hs : ¬ (s : Int) = n := by omega
   have hs2 : n - (s + 1) = m := by omega
   repeat' first | ((first | refine aops_end (hK _ ?_) | refine aopsD_end (hK _ ?_) | refine aopsF_end (hK _ ?_)); clear hK K) | ((first | refine aops_go ?_ | refine aopsD_go ?_ | refine aopsF_go ?_); simp [hs]; (try simp (disch := omega) only [wrap64]); (try (refine gen fun q hq => ?_; cases q <;> (try simp [hs] at hq) <;> (try (have hh : True := hq; clear hh hq))))) | (refine wpcall_pure rfl (k1) ?_; simp [hs]; (try simp (disch := omega) only [wrap64]); (try (refine gen fun q hq => ?_; cases q <;> (try simp [hs] at hq) <;> (try (have hh : True := hq; clear hh hq))))) | (refine ⟨(s + 1, x, _), by dsimp only; omega, ⟨by dsimp only; omega, by dsimp only; omega, by dsimp only; rw [hs2]; exact g1, by dsimp only; rw [hs2]; exact g2, by dsimp only; rw [hs2]; exact g3, by dsimp only; rw [hs2]; exact g4⟩, rfl, ?_, ?_⟩ <;> simp (disch := omega) [wrap64]) | refine T.r0 fun K hK => ?_ | refine T.r1 fun K hK => ?_ | (refine ⟨by omega, ?_⟩) | refine T.ct rfl ?_ | refine T.cf rfl ?_ | refine T.seq ?_ | refine T.block ?_ | refine T.skip ?_ | refine T.exit ?_
 ·obtain ⟨rfl, rfl, rfl, rfl⟩ := hbad hc
  repeat' first | ((first | refine aops_end (hK _ ?_) | refine aopsD_end (hK _ ?_) | refine aopsF_end (hK _ ?_)); clear hK K) | ((first | refine aops_go ?_ | refine aopsD_go ?_ | refine aopsF_go ?_); simp [hc]; (try simp (disch := omega) only [wrap64]); (try (refine gen fun q hq => ?_; cases q <;> (try simp [hc] at hq) <;> (try (have hh : True := hq; clear hh hq))))) | (refine wpcall_pure rfl (k1) ?_; simp [hc]; (try simp (disch := omega) only [wrap64]); (try (refine gen fun q hq => ?_; cases q <;> (try simp [hc] at hq) <;> (try (have hh : True := hq; clear hh hq))))) | (refine T.ret (Done.tup (Or.inr rfl) ?_) <;> simp [resAs, Tryz.results167] <;> omega) | refine T.r0 fun K hK => ?_ | refine T.r1 fun K hK => ?_ | (refine ⟨by omega, ?_⟩) | refine T.ct rfl ?_ | refine T.cf rfl ?_ | refine T.seq ?_ | refine T.block ?_ | refine T.skip ?_ | refine T.exit ?_

theorem EvalBareS_ok (e : MTm) (n : Int) (hn : nTm e <= 1073741824) : ACalls Tryz.prog 91 [aTm e, .i n] [] (.tup (stepR (evalBareM e n))) [] [] := by
 rw [evalBareM]
 by_cases h0 : n < 0
 ·rw [show fuelM n = false by simp [fuelM]; omega]
  simp only [Bool.false_eq_true, if_false]
  refine ACalls.of_body Tryz.func91 (by kernel_rfl) rfl (by kernel_rfl) (by simp [Tryz.ntmps91]) (by simp) ?_
  rw [Tryz.ntmps91]
  repeat' first | ((first | refine aops_end (hK _ ?_) | refine aopsD_end (hK _ ?_) | refine aopsF_end (hK _ ?_)); clear hK K) | ((first | refine aops_go ?_ | refine aopsD_go ?_ | refine aopsF_go ?_); simp [h0]; (try (refine gen fun q hq => ?_; cases q <;> (try simp [h0] at hq) <;> (try (have hh : True := hq; clear hh hq))))) | (refine T.ret (Done.tup (Or.inr rfl) ?_) <;> simp [resAs, Tryz.results91] <;> omega) | refine T.r0 fun K hK => ?_ | refine T.r1 fun K hK => ?_ | (refine ⟨by omega, ?_⟩) | refine T.ct rfl ?_ | refine T.cf rfl ?_ | refine T.seq ?_ | refine T.block ?_ | refine T.skip ?_ | refine T.exit ?_
 by_cases h3 : 300 < n
 ·rw [show fuelM n = false by simp [fuelM]; omega]
  simp only [Bool.false_eq_true, if_false]
  refine ACalls.of_body Tryz.func91 (by kernel_rfl) rfl (by kernel_rfl) (by simp [Tryz.ntmps91]) (by simp) ?_
  rw [Tryz.ntmps91]
  repeat' first | ((first | refine aops_end (hK _ ?_) | refine aopsD_end (hK _ ?_) | refine aopsF_end (hK _ ?_)); clear hK K) | ((first | refine aops_go ?_ | refine aopsD_go ?_ | refine aopsF_go ?_); simp [h0, h3]; (try (refine gen fun q hq => ?_; cases q <;> (try simp [h0, h3] at hq) <;> (try (have hh : True := hq; clear hh hq))))) | (refine T.ret (Done.tup (Or.inr rfl) ?_) <;> simp [resAs, Tryz.results91] <;> omega) | refine T.r0 fun K hK => ?_ | refine T.r1 fun K hK => ?_ | (refine ⟨by omega, ?_⟩) | refine T.ct rfl ?_ | refine T.cf rfl ?_ | refine T.seq ?_ | refine T.block ?_ | refine T.skip ?_ | refine T.exit ?_
 have k2 := l13Eval_ok e n.toNat hn (by omega)
 rw [show ((n.toNat : Nat) : Int) = n by omega] at k2
 rw [show fuelM n = true by simp [fuelM]; omega]
 simp only [if_true]
 generalize runB n.toNat e = p at *
 obtain ⟨x, cd, lb, st⟩ := p
 dsimp only
 by_cases hc : cd = 1
 ·subst hc
  simp only [evR, if_true] at k2 ⊢
  refine ACalls.of_body Tryz.func91 (by kernel_rfl) rfl (by kernel_rfl) (by simp [Tryz.ntmps91]) (by simp) ?_
  rw [Tryz.ntmps91]
  repeat' first | ((first | refine aops_end (hK _ ?_) | refine aopsD_end (hK _ ?_) | refine aopsF_end (hK _ ?_)); clear hK K) | ((first | refine aops_go ?_ | refine aopsD_go ?_ | refine aopsF_go ?_); simp [h0, h3]; (try (refine gen fun q hq => ?_; cases q <;> (try simp [h0, h3] at hq) <;> (try (have hh : True := hq; clear hh hq))))) | (refine wpcall_pure rfl (k2) ?_; simp [h0, h3]; (try (refine gen fun q hq => ?_; cases q <;> (try simp [h0, h3] at hq) <;> (try (have hh : True := hq; clear hh hq))))) | (refine T.ret (Done.tup (Or.inr rfl) ?_) <;> simp [resAs, Tryz.results91] <;> omega) | refine T.r0 fun K hK => ?_ | refine T.r1 fun K hK => ?_ | (refine ⟨by omega, ?_⟩) | refine T.ct rfl ?_ | refine T.cf rfl ?_ | refine T.seq ?_ | refine T.block ?_ | refine T.skip ?_ | refine T.exit ?_
 ·simp only [evR, if_neg hc] at k2 ⊢
  refine ACalls.of_body Tryz.func91 (by kernel_rfl) rfl (by kernel_rfl) (by simp [Tryz.ntmps91]) (by simp) ?_
  rw [Tryz.ntmps91]
  repeat' first | ((first | refine aops_end (hK _ ?_) | refine aopsD_end (hK _ ?_) | refine aopsF_end (hK _ ?_)); clear hK K) | ((first | refine aops_go ?_ | refine aopsD_go ?_ | refine aopsF_go ?_); simp [h0, h3]; (try (refine gen fun q hq => ?_; cases q <;> (try simp [h0, h3] at hq) <;> (try (have hh : True := hq; clear hh hq))))) | (refine wpcall_pure rfl (k2) ?_; simp [h0, h3]; (try (refine gen fun q hq => ?_; cases q <;> (try simp [h0, h3] at hq) <;> (try (have hh : True := hq; clear hh hq))))) | (refine T.ret (Done.tup (Or.inr rfl) ?_) <;> simp [resAs, Tryz.results91] <;> omega) | refine T.r0 fun K hK => ?_ | refine T.r1 fun K hK => ?_ | (refine ⟨by omega, ?_⟩) | refine T.ct rfl ?_ | refine T.cf rfl ?_ | refine T.seq ?_ | refine T.block ?_ | refine T.skip ?_ | refine T.exit ?_

end Go.Proofs.YtflmjilnecanhaaGreatDoor
