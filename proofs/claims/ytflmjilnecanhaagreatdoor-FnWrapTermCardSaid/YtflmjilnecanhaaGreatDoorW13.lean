/- A part of the library of this seat. -/
import Derived.Test.YtflmjilnecanhaaGreatDoorW12
set_option linter.unusedVariables false
set_option linter.unusedSimpArgs false
namespace Go.Proofs.YtflmjilnecanhaaGreatDoor
open Go Go.Av
attribute [local irreducible] T ACalls TX EX LX Draws Some_ ACallsX eTy eTm MTy.kind MTy.kids MTm.kind MTm.name MTm.num MTm.ty MTm.fr MTm.label MTm.kids
attribute [local simp] eTy_def eTm_def
set_option maxHeartbeats 16000000
set_option maxRecDepth 8000


theorem subst_nm (e v : MTm) (x : List UInt8) (hx : ¬ e.name = x) (hn : e.kids.length <= 1099511627776)
  (ih : ∀ u ∈ e.kids, ACalls Tryz.prog 296 [aTm u, .s x, aTm v] [] (aTm (substM x v u)) [] []) :
  ACalls Tryz.prog 296 [aTm e, .s x, aTm v] [] (aTm (.mk e.kind e.name e.num e.ty e.fr e.label (e.kids.map (substM x v)))) [] [] := by
 refine ACalls.of_body Tryz.func296 (by kernel_rfl) rfl (by kernel_rfl) (by simp [Tryz.ntmps296]) (by simp) ?_
 rw [Tryz.ntmps296]
 repeat' first | (refine aops_end (hK _ ?_); clear hK K) | (refine aops_go ?_; simp [hx]; (try (refine gen fun q hq => ?_; cases q <;> (try simp [hx] at hq) <;> (try (have hh : True := hq; clear hh hq))))) | refine T.r0 fun K hK => ?_ | refine T.cf rfl ?_ | refine T.seq ?_ | refine T.block ?_ | refine T.skip ?_
 all_goals refine T.ownifyObj 3 8 9 46 rfl rfl ?_
 all_goals refine T.loopK (α := Nat × List (List CV)) [1, 5, 6, 7, 35, 36] (fun x => [(37, .i x.1)]) (fun x => [(3, [.d (.i e.kind), .d (.str e.name), .d (.i e.num), .d (.i e.ty.kind), .d (.sl (e.ty.kids.map eTy)), .d (.i e.fr.kind), .d (.sl (e.fr.kids.map eTy)), .d (.i e.label), .own 0 x.1])]) (fun x => x.2) (fun y _ => [{ sz := 9, ety := 46, rows := ((e.kids.map (substM x v)).take y.1).map eTm, wr := true }]) (fun x => e.kids.length + 1 - x.1) (fun x => x.1 <= e.kids.length) (by simp; rfl) (fun y hy => ?_) (0, []) (by simp) (by simp) (by simp) (by simp)
 all_goals
  obtain ⟨p, G⟩ := y
  dsimp only at hy ⊢
  simp only [ups, List.set_cons_zero, List.set_cons_succ, List.cons_append, List.nil_append]
  have hwl : (e.kids.map (substM x v)).length = e.kids.length := by simp
  by_cases hlt : p < e.kids.length
  ·obtain ⟨u, ht⟩ := get_lt hlt
   have htm : u ∈ e.kids := List.mem_of_getElem? ht
   have hgt : e.kids[p] = u := by rw [List.getElem?_eq_getElem hlt] at ht; exact Option.some.inj ht
   have hdr : e.kids.drop p = u :: e.kids.drop (p + 1) := by rw [List.drop_eq_getElem_cons hlt, hgt]
   have hu := ih u htm
   have htk : (e.kids.map (substM x v)).take (p + 1) = (e.kids.map (substM x v)).take p ++ [substM x v u] := by rw [List.take_add_one, List.getElem?_map, ht]; rfl
   have hlm : min p e.kids.length = p := by omega
   generalize (e.kids.map (substM x v)) = Z at *
   generalize substM x v u = wu at *
   repeat' first | ((first | refine aops_end (hK _ ?_) | refine aopsD_end (hK _ ?_)); clear hK K) | ((first | refine aops_go ?_ | refine aopsD_go ?_ | refine wpcall_pure rfl (hu) ?_); simp [hlt, hgt, hlm, hwl]; (try simp (disch := omega) only [wrap64]); (try (refine gen fun q hq => ?_; cases q <;> (try simp [hlt, hgt, hlm, hwl] at hq) <;> (try (have hh : True := hq; clear hh hq))))) | (refine ⟨(p + 1, _), by dsimp only; omega, by dsimp only; omega, rfl, ?_, ?_⟩ <;> simp (disch := omega) [wrap64, htk, eTm_def]) | refine T.rd1 (id := 10) mixed (fun _ => false) [7, 9] (by kernel_rfl) fun K hK => ?_ | refine T.r0 fun K hK => ?_ | refine T.r1 fun K hK => ?_ | (refine ⟨by omega, ?_⟩) | refine T.ct rfl ?_ | refine T.seq ?_ | refine T.block ?_ | refine T.skip ?_
  ·have hp' : p = e.kids.length := by omega
   subst hp'
   rw [List.take_of_length_le (by omega)]
   generalize (e.kids.map (substM x v)) = Z at *
   repeat' first | (refine aops_end (hK _ ?_); clear hK K) | (refine aops_go ?_; simp [hlt, hwl]; (try (refine gen fun q hq => ?_; cases q <;> (try simp [hlt, hwl] at hq) <;> (try (have hh : True := hq; clear hh hq))))) | (refine T.ret (Done.val (Or.inr rfl) ?_) <;> simp [resAs, Tryz.results296, eTm_def, hwl] <;> omega) | refine T.r0 fun K hK => ?_ | refine T.cf rfl ?_ | refine T.seq ?_ | refine T.exit ?_

theorem subst_kd (e v : MTm) (x : List UInt8) (h1 : ¬ e.kind = 1) (h5 : ¬ e.kind = 5) (hn : e.kids.length <= 1099511627776)
  (ih : ∀ u ∈ e.kids, ACalls Tryz.prog 296 [aTm u, .s x, aTm v] [] (aTm (substM x v u)) [] []) :
  ACalls Tryz.prog 296 [aTm e, .s x, aTm v] [] (aTm (.mk e.kind e.name e.num e.ty e.fr e.label (e.kids.map (substM x v)))) [] [] := by
 refine ACalls.of_body Tryz.func296 (by kernel_rfl) rfl (by kernel_rfl) (by simp [Tryz.ntmps296]) (by simp) ?_
 rw [Tryz.ntmps296]
 repeat' first | (refine aops_end (hK _ ?_); clear hK K) | (refine aops_go ?_; simp [h1, h5]; (try (refine gen fun q hq => ?_; cases q <;> (try simp [h1, h5] at hq) <;> (try (have hh : True := hq; clear hh hq))))) | refine T.r0 fun K hK => ?_ | refine T.cf rfl ?_ | refine T.seq ?_ | refine T.block ?_ | refine T.skip ?_
 all_goals refine T.ownifyObj 3 8 9 46 rfl rfl ?_
 all_goals refine T.loopK (α := Nat × List (List CV)) [1, 5, 6, 7, 35, 36] (fun x => [(37, .i x.1)]) (fun x => [(3, [.d (.i e.kind), .d (.str e.name), .d (.i e.num), .d (.i e.ty.kind), .d (.sl (e.ty.kids.map eTy)), .d (.i e.fr.kind), .d (.sl (e.fr.kids.map eTy)), .d (.i e.label), .own 0 x.1])]) (fun x => x.2) (fun y _ => [{ sz := 9, ety := 46, rows := ((e.kids.map (substM x v)).take y.1).map eTm, wr := true }]) (fun x => e.kids.length + 1 - x.1) (fun x => x.1 <= e.kids.length) (by simp; rfl) (fun y hy => ?_) (0, []) (by simp) (by simp) (by simp) (by simp)
 all_goals
  obtain ⟨p, G⟩ := y
  dsimp only at hy ⊢
  simp only [ups, List.set_cons_zero, List.set_cons_succ, List.cons_append, List.nil_append]
  have hwl : (e.kids.map (substM x v)).length = e.kids.length := by simp
  by_cases hlt : p < e.kids.length
  ·obtain ⟨u, ht⟩ := get_lt hlt
   have htm : u ∈ e.kids := List.mem_of_getElem? ht
   have hgt : e.kids[p] = u := by rw [List.getElem?_eq_getElem hlt] at ht; exact Option.some.inj ht
   have hdr : e.kids.drop p = u :: e.kids.drop (p + 1) := by rw [List.drop_eq_getElem_cons hlt, hgt]
   have hu := ih u htm
   have htk : (e.kids.map (substM x v)).take (p + 1) = (e.kids.map (substM x v)).take p ++ [substM x v u] := by rw [List.take_add_one, List.getElem?_map, ht]; rfl
   have hlm : min p e.kids.length = p := by omega
   generalize (e.kids.map (substM x v)) = Z at *
   generalize substM x v u = wu at *
   repeat' first | ((first | refine aops_end (hK _ ?_) | refine aopsD_end (hK _ ?_)); clear hK K) | ((first | refine aops_go ?_ | refine aopsD_go ?_ | refine wpcall_pure rfl (hu) ?_); simp [hlt, hgt, hlm, hwl]; (try simp (disch := omega) only [wrap64]); (try (refine gen fun q hq => ?_; cases q <;> (try simp [hlt, hgt, hlm, hwl] at hq) <;> (try (have hh : True := hq; clear hh hq))))) | (refine ⟨(p + 1, _), by dsimp only; omega, by dsimp only; omega, rfl, ?_, ?_⟩ <;> simp (disch := omega) [wrap64, htk, eTm_def]) | refine T.rd1 (id := 10) mixed (fun _ => false) [7, 9] (by kernel_rfl) fun K hK => ?_ | refine T.r0 fun K hK => ?_ | refine T.r1 fun K hK => ?_ | (refine ⟨by omega, ?_⟩) | refine T.ct rfl ?_ | refine T.seq ?_ | refine T.block ?_ | refine T.skip ?_
  ·have hp' : p = e.kids.length := by omega
   subst hp'
   rw [List.take_of_length_le (by omega)]
   generalize (e.kids.map (substM x v)) = Z at *
   repeat' first | (refine aops_end (hK _ ?_); clear hK K) | (refine aops_go ?_; simp [hlt, hwl]; (try (refine gen fun q hq => ?_; cases q <;> (try simp [hlt, hwl] at hq) <;> (try (have hh : True := hq; clear hh hq))))) | (refine T.ret (Done.val (Or.inr rfl) ?_) <;> simp [resAs, Tryz.results296, eTm_def, hwl] <;> omega) | refine T.r0 fun K hK => ?_ | refine T.cf rfl ?_ | refine T.seq ?_ | refine T.exit ?_

theorem subst_ok (v : MTm) (x : List UInt8) : ∀ (e : MTm), nTm e <= 1099511627776 -> ACalls Tryz.prog 296 [aTm e, .s x, aTm v] [] (aTm (substM x v e)) [] [] := by
 intro e
 induction e using MTm.ind with
 | h e ih =>
  intro hn
  obtain ⟨_, _, hnk, hnu⟩ := nTm_parts hn
  have ih' := fun u hu => ih u hu (hnu u hu)
  rw [substM_def]
  by_cases hx : e.name = x
  ·by_cases h1 : e.kind = 1
   ·simp only [h1, hx, and_self, if_true]
    refine ACalls.of_body Tryz.func296 (by kernel_rfl) rfl (by kernel_rfl) (by simp [Tryz.ntmps296]) (by simp) ?_
    rw [Tryz.ntmps296]
    repeat' first | (refine aops_end (hK _ ?_); clear hK K) | (refine aops_go ?_; simp [h1, hx]; (try (refine gen fun q hq => ?_; cases q <;> (try simp [h1, hx] at hq) <;> (try (have hh : True := hq; clear hh hq))))) | (refine T.ret (Done.val (Or.inr rfl) ?_) <;> simp [resAs, Tryz.results296] <;> omega) | refine T.r0 fun K hK => ?_ | refine T.ct rfl ?_ | refine T.seq ?_ | refine T.block ?_
   ·by_cases h5 : e.kind = 5
    ·rw [if_neg (by simp [h1]), if_pos ⟨h5, hx⟩]
     refine ACalls.of_body Tryz.func296 (by kernel_rfl) rfl (by kernel_rfl) (by simp [Tryz.ntmps296]) (by simp) ?_
     rw [Tryz.ntmps296]
     repeat' first | (refine aops_end (hK _ ?_); clear hK K) | (refine aops_go ?_; simp [h1, h5, hx]; (try (refine gen fun q hq => ?_; cases q <;> (try simp [h1, h5, hx] at hq) <;> (try (have hh : True := hq; clear hh hq))))) | (refine T.ret (Done.val (Or.inr rfl) ?_) <;> simp [resAs, Tryz.results296, h5, hx] <;> omega) | refine T.r0 fun K hK => ?_ | refine T.ct rfl ?_ | refine T.cf rfl ?_ | refine T.seq ?_ | refine T.block ?_
    ·rw [if_neg (by simp [h1]), if_neg (by simp [h5])]
     exact subst_kd e v x h1 h5 hnk ih'
  ·rw [if_neg (by simp [hx]), if_neg (by simp [hx])]
   exact subst_nm e v x hx hnk ih'

end Go.Proofs.YtflmjilnecanhaaGreatDoor

namespace Go.Proofs.YtflmjilnecanhaaGreatDoor
open Go Go.Av
attribute [local irreducible] T ACalls TX EX LX Draws Some_ ACallsX eTy eTm MTy.kind MTy.kids MTm.kind MTm.name MTm.num MTm.ty MTm.fr MTm.label MTm.kids
attribute [local simp] eTy_def eTm_def
set_option maxHeartbeats 16000000
set_option maxRecDepth 8000
attribute [local simp] Option.bind

theorem cloneTm_own (l : List MTm) (hl : l.length <= 1073741824) : ACalls Tryz.prog 280 [.l (l.map eTm)] [] (.c (.own 0 l.length)) [] [{ sz := 9, ety := 46, rows := l.map eTm, wr := true }] := by
 refine ACalls.of_body Tryz.func280 (by kernel_rfl) rfl (by kernel_rfl) (by simp [Tryz.ntmps280]) (by simp) ?_
 rw [Tryz.ntmps280]
 refine T.rs (fun _ => false) fun K hK => ?_
 refine aops_go ?_
 simp
 refine aops_end (hK _ ?_)
 clear hK K
 refine T.seq ?_
 refine T.eqNil rfl rfl rfl rfl rfl rfl td_implTermS rfl (by simp; rfl) fun bb hbb => ?_
 cases bb
 ·repeat' first | (refine aops_end (hK _ ?_); clear hK K) | (refine aops_go ?_; simp [eTm_def]; (try (refine gen fun q hq => ?_; cases q <;> (try simp [eTm_def] at hq) <;> (try (have hh : True := hq; clear hh hq))))) | (refine ⟨by omega, by omega, ?_⟩) | refine T.rs (id := 3) (fun i => i == 0) fun K hK => ?_ | refine T.cf rfl ?_ | refine T.skip ?_
  refine T.ret (Done.own1 0 (Or.inr rfl) (ys := [_]) ?_ rfl ?_) <;> simp [resAs, Tryz.results280, eTm_def] <;> rfl
 ·have : l = [] := by simpa using hbb rfl
  subst this
  refine T.cond rfl (fun hcnd => ?_) (fun hcnd => absurd hcnd (by decide))
  refine T.rs (fun _ => false) fun K hK => ?_
  refine aops_go ?_
  simp
  refine aops_end (hK _ ?_)
  clear hK K
  refine T.ownify 2 9 46 (by simp) ?_
  refine T.ret (Done.own1 0 (Or.inr rfl) (ys := [_]) ?_ rfl ?_) <;> simp [resAs, Tryz.results280]

theorem ground_ok (k : Int) : ACalls Tryz.prog 300 [.i k] [] (aTy (groundT k)) [] [] := by
 have h1 := base_ok 1
 by_cases h4 : k = 4
 ·subst h4
  rw [show groundT 4 = .mk 4 [anyT, anyT] from rfl]
  have h2 := both_ok 4 anyT anyT
  refine ACalls.of_body Tryz.func300 (by kernel_rfl) rfl (by kernel_rfl) (by simp [Tryz.ntmps300]) (by simp) ?_
  rw [Tryz.ntmps300]
  repeat' first | (refine aops_end (hK _ ?_); clear hK K) | ((first | refine aops_go ?_ | refine wpcall_pure rfl (h1) ?_ | (refine wpcall_pure ?_ (h2) ?_; (focus (solve | simp)))); simp; (try (refine gen fun q hq => ?_; cases q <;> (try simp at hq) <;> (try (have hh : True := hq; clear hh hq))))) | (refine T.ret (Done.val (Or.inr rfl) ?_) <;> simp [resAs, Tryz.results300] <;> omega) | refine T.r0 fun K hK => ?_ | refine T.ct rfl ?_ | refine T.seq ?_
 by_cases h5 : k = 5
 ·subst h5
  rw [show groundT 5 = .mk 5 [anyT, anyT] from rfl]
  have h2 := both_ok 5 anyT anyT
  refine ACalls.of_body Tryz.func300 (by kernel_rfl) rfl (by kernel_rfl) (by simp [Tryz.ntmps300]) (by simp) ?_
  rw [Tryz.ntmps300]
  repeat' first | (refine aops_end (hK _ ?_); clear hK K) | ((first | refine aops_go ?_ | refine wpcall_pure rfl (h1) ?_ | (refine wpcall_pure ?_ (h2) ?_; (focus (solve | simp)))); simp; (try (refine gen fun q hq => ?_; cases q <;> (try simp at hq) <;> (try (have hh : True := hq; clear hh hq))))) | (refine T.ret (Done.val (Or.inr rfl) ?_) <;> simp [resAs, Tryz.results300] <;> omega) | refine T.r0 fun K hK => ?_ | refine T.ct rfl ?_ | refine T.seq ?_
 ·rw [show groundT k = .mk k [] by simp [groundT, h4, h5]]
  have h3 := base_ok k
  refine ACalls.of_body Tryz.func300 (by kernel_rfl) rfl (by kernel_rfl) (by simp [Tryz.ntmps300]) (by simp) ?_
  rw [Tryz.ntmps300]
  repeat' first | (refine aops_end (hK _ ?_); clear hK K) | ((first | refine aops_go ?_ | refine wpcall_pure rfl (h3) ?_); simp [h4, h5]; (try (refine gen fun q hq => ?_; cases q <;> (try simp [h4, h5] at hq) <;> (try (have hh : True := hq; clear hh hq))))) | (refine T.ret (Done.val (Or.inr rfl) ?_) <;> simp [resAs, Tryz.results300] <;> omega) | refine T.r0 fun K hK => ?_ | refine T.cf rfl ?_ | refine T.seq ?_ | refine T.skip ?_

theorem isGround_ok (t : MTy) (hn : nTy t <= 1099511627776) : ACalls Tryz.prog 294 [aTy t] [] (.b (isGroundM t)) [] [] := by
 have h1 := ground_ok t.kind
 have h2 := TypeSame_ok t (groundT t.kind) hn
 rw [isGroundM]
 generalize sameTy t (groundT t.kind) = q at *
 generalize groundT t.kind = G at *
 by_cases hk : t.kind = 1
 ·simp only [hk, ne_eq, not_true_eq_false, decide_false, Bool.false_and]
  refine ACalls.of_body Tryz.func294 (by kernel_rfl) rfl (by kernel_rfl) (by simp [Tryz.ntmps294]) (by simp) ?_
  rw [Tryz.ntmps294]
  repeat' first | ((first | refine aops_end (hK _ ?_) | refine aopsD_end (hK _ ?_)); clear hK K) | ((first | refine aops_go ?_ | refine aopsD_go ?_); simp [hk]; (try (refine gen fun q hq => ?_; cases q <;> (try simp [hk] at hq) <;> (try (have hh : True := hq; clear hh hq))))) | (refine T.ret (Done.data (Or.inr rfl) ?_ ?_) <;> simp [Tryz.results294] <;> omega) | refine T.rd (id := 1) mixed (fun _ => false) [] (by kernel_rfl) fun K hK => ?_ | refine T.r0 fun K hK => ?_
 ·simp only [hk, ne_eq, not_false_eq_true, decide_true, Bool.true_and]
  refine ACalls.of_body Tryz.func294 (by kernel_rfl) rfl (by kernel_rfl) (by simp [Tryz.ntmps294]) (by simp) ?_
  rw [Tryz.ntmps294]
  repeat' first | ((first | refine aops_end (hK _ ?_) | refine aopsD_end (hK _ ?_)); clear hK K) | ((first | refine aops_go ?_ | refine aopsD_go ?_ | refine wpcall_pure rfl (h1) ?_ | refine wpcall_pure rfl (h2) ?_); simp [hk]; (try (refine gen fun q hq => ?_; cases q <;> (try simp [hk] at hq) <;> (try (have hh : True := hq; clear hh hq))))) | (refine T.ret (Done.data (Or.inr rfl) ?_ ?_) <;> simp [Tryz.results294, *] <;> omega) | refine T.rd (id := 1) mixed (fun _ => false) [] (by kernel_rfl) fun K hK => ?_ | refine T.r0 fun K hK => ?_

theorem isProxy_ok (e : MTm) : ACalls Tryz.prog 162 [aTm e] [] (.b (proxyM e)) [] [] := by
 rw [proxyM]
 refine ACalls.of_body Tryz.func162 (by kernel_rfl) rfl (by kernel_rfl) (by simp [Tryz.ntmps162]) (by simp) ?_
 rw [Tryz.ntmps162]
 repeat' first | (refine aops_end (hK _ ?_); clear hK K) | (refine aops_go ?_; simp; (try (refine gen fun q hq => ?_; cases q <;> (try simp at hq) <;> (try (have hh : True := hq; clear hh hq))))) | (refine T.ret (Done.data (Or.inr rfl) ?_ ?_) <;> simp [Tryz.results162, *] <;> omega) | refine T.r0 fun K hK => ?_

theorem isInjection_ok (e : MTm) (hn : nTy e.fr <= 1099511627776) : ACalls Tryz.prog 275 [aTm e] [] (.b (injM e)) [] [] := by
 have h1 := isGround_ok e.fr hn
 rw [injM]
 generalize isGroundM e.fr = q at *
 refine ACalls.of_body Tryz.func275 (by kernel_rfl) rfl (by kernel_rfl) (by simp [Tryz.ntmps275]) (by simp) ?_
 rw [Tryz.ntmps275]
 repeat' first | (refine aops_end (hK _ ?_); clear hK K) | ((first | refine aops_go ?_ | refine wpcall_pure rfl (h1) ?_); simp; (try (refine gen fun q hq => ?_; cases q <;> (try simp at hq) <;> (try (have hh : True := hq; clear hh hq))))) | (refine T.ret (Done.data (Or.inr rfl) ?_ ?_) <;> simp [Tryz.results275, *] <;> omega) | refine T.r0 fun K hK => ?_

theorem isPlain_ok (e : MTm) : ACalls Tryz.prog 278 [aTm e] [] (.b (plainM e)) [] [] := by
 rw [plainM]
 refine ACalls.of_body Tryz.func278 (by kernel_rfl) rfl (by kernel_rfl) (by simp [Tryz.ntmps278]) (by simp) ?_
 rw [Tryz.ntmps278]
 repeat' first | (refine aops_end (hK _ ?_); clear hK K) | (refine aops_go ?_; simp; (try (refine gen fun q hq => ?_; cases q <;> (try simp at hq) <;> (try (have hh : True := hq; clear hh hq))))) | (refine T.ret (Done.data (Or.inr rfl) ?_ ?_) <;> simp [Tryz.results278, *] <;> omega) | refine T.r0 fun K hK => ?_

theorem isValue1_ok (e : MTm) (q : Bool) (h : ACalls Tryz.prog 252 [aTm e] [] (.b q) [] []) : ACalls Tryz.prog 277 [aTm e] [] (.b (!q)) [] [] := by
 refine ACalls.of_body Tryz.func277 (by kernel_rfl) rfl (by kernel_rfl) (by simp [Tryz.ntmps277]) (by simp) ?_
 rw [Tryz.ntmps277]
 repeat' first | (refine aops_end (hK _ ?_); clear hK K) | ((first | refine aops_go ?_ | refine wpcall_pure rfl (h) ?_); simp) | (refine T.ret (Done.data (Or.inr rfl) ?_ ?_) <;> simp [Tryz.results277] <;> omega) | refine T.r0 fun K hK => ?_

theorem isValue_ok : ∀ (e : MTm), nTm e <= 1099511627776 -> ACalls Tryz.prog 252 [aTm e] [] (.b (valM e)) [] [] := by
 intro e
 induction e using MTm.ind with
 | h e ih =>
  intro hn
  obtain ⟨hnt, hnf, hnk, hnu⟩ := nTm_parts hn
  have hcf := containsFuncTm_0 277 e.kids (fun t => !valM t) (by omega) (fun u hu => isValue1_ok u _ (ih u hu (hnu u hu)))
  have h1 := isProxy_ok e
  have h2 := isInjection_ok e hnf
  have h3 := isPlain_ok e
  rw [valM_def, <- not_any_not]
  generalize (e.kids.any fun t => !valM t) = R at hcf ⊢
  generalize proxyM e = q1 at *
  generalize injM e = q2 at *
  generalize plainM e = q3 at *
  by_cases hk : e.kind = 10
  ·simp only [hk, decide_true, Bool.true_or, if_true]
   refine ACalls.of_body Tryz.func252 (by kernel_rfl) rfl (by kernel_rfl) (by simp [Tryz.ntmps252]) (by simp) ?_
   rw [Tryz.ntmps252]
   repeat' first | (refine aops_end (hK _ ?_); clear hK K) | ((first | refine aops_go ?_ | refine wpcall_pure rfl (hcf) ?_); simp [hk]; (try (refine gen fun q hq => ?_; cases q <;> (try simp [hk] at hq) <;> (try (have hh : True := hq; clear hh hq))))) | (refine T.ret (Done.data (Or.inr rfl) ?_ ?_) <;> simp [Tryz.results252, *] <;> omega) | refine T.r0 fun K hK => ?_ | refine T.ct rfl ?_ | refine T.seq ?_
  ·simp only [hk, decide_false, Bool.false_or]
   cases q1
   ·cases q2
    ·simp only [Bool.or_self, Bool.false_eq_true, if_false]
     refine ACalls.of_body Tryz.func252 (by kernel_rfl) rfl (by kernel_rfl) (by simp [Tryz.ntmps252]) (by simp) ?_
     rw [Tryz.ntmps252]
     repeat' first | (refine aops_end (hK _ ?_); clear hK K) | ((first | refine aops_go ?_ | refine wpcall_pure rfl (h1) ?_ | refine wpcall_pure rfl (h2) ?_ | refine wpcall_pure rfl (h3) ?_); simp [hk]; (try (refine gen fun q hq => ?_; cases q <;> (try simp [hk] at hq) <;> (try (have hh : True := hq; clear hh hq))))) | (refine T.ret (Done.data (Or.inr rfl) ?_ ?_) <;> simp [Tryz.results252, *] <;> omega) | refine T.r0 fun K hK => ?_ | refine T.cf rfl ?_ | refine T.seq ?_ | refine T.skip ?_
    ·simp only [Bool.or_true, if_true]
     refine ACalls.of_body Tryz.func252 (by kernel_rfl) rfl (by kernel_rfl) (by simp [Tryz.ntmps252]) (by simp) ?_
     rw [Tryz.ntmps252]
     repeat' first | (refine aops_end (hK _ ?_); clear hK K) | ((first | refine aops_go ?_ | refine wpcall_pure rfl (h1) ?_ | refine wpcall_pure rfl (h2) ?_ | refine wpcall_pure rfl (hcf) ?_); simp [hk]; (try (refine gen fun q hq => ?_; cases q <;> (try simp [hk] at hq) <;> (try (have hh : True := hq; clear hh hq))))) | (refine T.ret (Done.data (Or.inr rfl) ?_ ?_) <;> simp [Tryz.results252, *] <;> omega) | refine T.r0 fun K hK => ?_ | refine T.ct rfl ?_ | refine T.seq ?_
   ·simp only [Bool.true_or, if_true]
    refine ACalls.of_body Tryz.func252 (by kernel_rfl) rfl (by kernel_rfl) (by simp [Tryz.ntmps252]) (by simp) ?_
    rw [Tryz.ntmps252]
    repeat' first | (refine aops_end (hK _ ?_); clear hK K) | ((first | refine aops_go ?_ | refine wpcall_pure rfl (h1) ?_ | refine wpcall_pure rfl (hcf) ?_); simp [hk]; (try (refine gen fun q hq => ?_; cases q <;> (try simp [hk] at hq) <;> (try (have hh : True := hq; clear hh hq))))) | (refine T.ret (Done.data (Or.inr rfl) ?_ ?_) <;> simp [Tryz.results252, *] <;> omega) | refine T.r0 fun K hK => ?_ | refine T.ct rfl ?_ | refine T.seq ?_

theorem counts_ok (e : MTm) : ACalls Tryz.prog 279 [aTm e] [] (.i (countsM e)) [] [] := by
 by_cases hk : e.kind = 9
 ·rw [show countsM e = 1 by simp [countsM, hk]]
  refine ACalls.of_body Tryz.func279 (by kernel_rfl) rfl (by kernel_rfl) (by simp [Tryz.ntmps279]) (by simp) ?_
  rw [Tryz.ntmps279]
  repeat' first | (refine aops_end (hK _ ?_); clear hK K) | (refine aops_go ?_; simp [hk]; (try (refine gen fun q hq => ?_; cases q <;> (try simp [hk] at hq) <;> (try (have hh : True := hq; clear hh hq))))) | (refine T.ret (Done.data (Or.inr rfl) ?_ ?_) <;> simp [Tryz.results279] <;> omega) | refine T.r0 fun K hK => ?_ | refine T.ct rfl ?_ | refine T.seq ?_
 ·rw [show countsM e = e.kids.length by simp [countsM, hk]]
  refine ACalls.of_body Tryz.func279 (by kernel_rfl) rfl (by kernel_rfl) (by simp [Tryz.ntmps279]) (by simp) ?_
  rw [Tryz.ntmps279]
  repeat' first | (refine aops_end (hK _ ?_); clear hK K) | (refine aops_go ?_; simp [hk]; (try (refine gen fun q hq => ?_; cases q <;> (try simp [hk] at hq) <;> (try (have hh : True := hq; clear hh hq))))) | (refine T.ret (Done.data (Or.inr rfl) ?_ ?_) <;> simp [Tryz.results279] <;> omega) | refine T.r0 fun K hK => ?_ | refine T.cf rfl ?_ | refine T.seq ?_ | refine T.skip ?_

theorem node0l_ok (k : Int) : ACalls Tryz.prog 299 [.i k, .l []] [] (aTm (.mk k [] 0 zeroT zeroT 0 [])) [] [] := by
 refine ACalls.of_body Tryz.func299 (by kernel_rfl) rfl (by kernel_rfl) (by simp [Tryz.ntmps299]) (by simp) ?_
 rw [Tryz.ntmps299]
 repeat' first | (refine aops_end (hK _ ?_); clear hK K) | (refine aops_go ?_; simp; (try (refine gen fun q hq => ?_; cases q <;> (try simp at hq) <;> (try (have hh : True := hq; clear hh hq))))) | (refine T.ret (Done.val (Or.inr rfl) ?_) <;> simp [resAs, Tryz.results299] <;> omega) | refine T.r0 fun K hK => ?_

theorem truth_ok (b : Bool) : ACalls Tryz.prog 297 [.b b] [] (aTm (truthM b)) [] [] := by
 have h3 := node0l_ok 3
 have h4 := node0l_ok 4
 cases b
 ·rw [show truthM false = tFalse from rfl]
  refine ACalls.of_body Tryz.func297 (by kernel_rfl) rfl (by kernel_rfl) (by simp [Tryz.ntmps297]) (by simp) ?_
  rw [Tryz.ntmps297]
  repeat' first | (refine aops_end (hK _ ?_); clear hK K) | ((first | refine aops_go ?_ | refine wpcall_pure rfl (h4) ?_); simp; (try (refine gen fun q hq => ?_; cases q <;> (try simp at hq) <;> (try (have hh : True := hq; clear hh hq))))) | (refine T.ret (Done.val (Or.inr rfl) ?_) <;> simp [resAs, Tryz.results297] <;> omega) | refine T.r0 fun K hK => ?_ | refine T.cf rfl ?_ | refine T.seq ?_ | refine T.skip ?_
 ·rw [show truthM true = tTrue from rfl]
  refine ACalls.of_body Tryz.func297 (by kernel_rfl) rfl (by kernel_rfl) (by simp [Tryz.ntmps297]) (by simp) ?_
  rw [Tryz.ntmps297]
  repeat' first | (refine aops_end (hK _ ?_); clear hK K) | ((first | refine aops_go ?_ | refine wpcall_pure rfl (h3) ?_); simp; (try (refine gen fun q hq => ?_; cases q <;> (try simp at hq) <;> (try (have hh : True := hq; clear hh hq))))) | (refine T.ret (Done.val (Or.inr rfl) ?_) <;> simp [resAs, Tryz.results297] <;> omega) | refine T.r0 fun K hK => ?_ | refine T.ct rfl ?_ | refine T.seq ?_

abbrev ruleR (o : Option MTm) : List AV := match o with
 | some x => [aTm x, .i 1]
 | none => [aTm zeroE, .i 3]

theorem rule_ok (e : MTm) (d : Nat) (hv : TmV 13 d e) (hn : nTm e <= 1073741824) : ACalls Tryz.prog 281 [aTm e] [] (.tup (ruleR (ruleM e))) [] [] := by
 rcases hv.cases13 with ⟨s, rfl⟩ | ⟨k, rfl, h1, h2⟩ | rfl | rfl | ⟨s, t, b, rfl⟩ | ⟨a, f, t, l, rfl⟩ | ⟨k, a, rfl, hk, _, ha⟩ | ⟨p, a, b, rfl, _, hp⟩ | ⟨k, a, b, rfl, hk, ⟨_, ha⟩, _, hb⟩
 ·skip
  rw [show ruleM (tVar s) = none by simp [ruleM]]
  refine ACalls.of_body Tryz.func281 (by kernel_rfl) rfl (by kernel_rfl) (by simp [Tryz.ntmps281]) (by simp) ?_
  rw [Tryz.ntmps281]
  repeat' first | (refine aops_end (hK _ ?_); clear hK K) | (refine aops_go ?_; simp; (try (refine gen fun q hq => ?_; cases q <;> (try simp at hq) <;> (try (have hh : True := hq; clear hh hq))))) | (refine T.ret (Done.tup (Or.inr rfl) ?_) <;> simp [resAs, Tryz.results281] <;> omega) | refine T.r0 fun K hK => ?_ | refine T.r1 fun K hK => ?_ | refine T.cf rfl ?_ | refine T.seq ?_ | refine T.block ?_ | refine T.skip ?_
 ·skip
  rw [show ruleM (tNum k) = none by simp [ruleM]]
  refine ACalls.of_body Tryz.func281 (by kernel_rfl) rfl (by kernel_rfl) (by simp [Tryz.ntmps281]) (by simp) ?_
  rw [Tryz.ntmps281]
  repeat' first | (refine aops_end (hK _ ?_); clear hK K) | (refine aops_go ?_; simp; (try (refine gen fun q hq => ?_; cases q <;> (try simp at hq) <;> (try (have hh : True := hq; clear hh hq))))) | (refine T.ret (Done.tup (Or.inr rfl) ?_) <;> simp [resAs, Tryz.results281] <;> omega) | refine T.r0 fun K hK => ?_ | refine T.r1 fun K hK => ?_ | refine T.cf rfl ?_ | refine T.seq ?_ | refine T.block ?_ | refine T.skip ?_
 ·skip
  rw [show ruleM tTrue = none by simp [ruleM]]
  refine ACalls.of_body Tryz.func281 (by kernel_rfl) rfl (by kernel_rfl) (by simp [Tryz.ntmps281]) (by simp) ?_
  rw [Tryz.ntmps281]
  repeat' first | (refine aops_end (hK _ ?_); clear hK K) | (refine aops_go ?_; simp; (try (refine gen fun q hq => ?_; cases q <;> (try simp at hq) <;> (try (have hh : True := hq; clear hh hq))))) | (refine T.ret (Done.tup (Or.inr rfl) ?_) <;> simp [resAs, Tryz.results281] <;> omega) | refine T.r0 fun K hK => ?_ | refine T.r1 fun K hK => ?_ | refine T.cf rfl ?_ | refine T.seq ?_ | refine T.block ?_ | refine T.skip ?_
 ·skip
  rw [show ruleM tFalse = none by simp [ruleM]]
  refine ACalls.of_body Tryz.func281 (by kernel_rfl) rfl (by kernel_rfl) (by simp [Tryz.ntmps281]) (by simp) ?_
  rw [Tryz.ntmps281]
  repeat' first | (refine aops_end (hK _ ?_); clear hK K) | (refine aops_go ?_; simp; (try (refine gen fun q hq => ?_; cases q <;> (try simp at hq) <;> (try (have hh : True := hq; clear hh hq))))) | (refine T.ret (Done.tup (Or.inr rfl) ?_) <;> simp [resAs, Tryz.results281] <;> omega) | refine T.r0 fun K hK => ?_ | refine T.r1 fun K hK => ?_ | refine T.cf rfl ?_ | refine T.seq ?_ | refine T.block ?_ | refine T.skip ?_
 ·skip
  rw [show ruleM (tLam s t b) = none by simp [ruleM]]
  refine ACalls.of_body Tryz.func281 (by kernel_rfl) rfl (by kernel_rfl) (by simp [Tryz.ntmps281]) (by simp) ?_
  rw [Tryz.ntmps281]
  repeat' first | (refine aops_end (hK _ ?_); clear hK K) | (refine aops_go ?_; simp [eTm_def]; (try (refine gen fun q hq => ?_; cases q <;> (try simp [eTm_def] at hq) <;> (try (have hh : True := hq; clear hh hq))))) | (refine T.ret (Done.tup (Or.inr rfl) ?_) <;> simp [resAs, Tryz.results281] <;> omega) | refine T.r0 fun K hK => ?_ | refine T.r1 fun K hK => ?_ | refine T.ct rfl ?_ | refine T.cf rfl ?_ | refine T.seq ?_ | refine T.block ?_ | refine T.skip ?_
 ·skip
  rw [show ruleM (tCast a f t l) = none by simp [ruleM]]
  refine ACalls.of_body Tryz.func281 (by kernel_rfl) rfl (by kernel_rfl) (by simp [Tryz.ntmps281]) (by simp) ?_
  rw [Tryz.ntmps281]
  repeat' first | (refine aops_end (hK _ ?_); clear hK K) | (refine aops_go ?_; simp [eTm_def]; (try (refine gen fun q hq => ?_; cases q <;> (try simp [eTm_def] at hq) <;> (try (have hh : True := hq; clear hh hq))))) | (refine T.ret (Done.tup (Or.inr rfl) ?_) <;> simp [resAs, Tryz.results281] <;> omega) | refine T.r0 fun K hK => ?_ | refine T.r1 fun K hK => ?_ | refine T.ct rfl ?_ | refine T.cf rfl ?_ | refine T.seq ?_ | refine T.block ?_ | refine T.skip ?_
 ·skip
  by_cases h10 : a.kind = 10
  ·obtain ⟨x, y, rfl⟩ := ha.kind10 h10
   rcases hk with rfl | rfl
   ·rw [show ruleM (tN1 11 (tN2 10 x y)) = some x by simp [ruleM]]
    refine ACalls.of_body Tryz.func281 (by kernel_rfl) rfl (by kernel_rfl) (by simp [Tryz.ntmps281]) (by simp) ?_
    rw [Tryz.ntmps281]
    repeat' first | (refine aops_end (hK _ ?_); clear hK K) | (refine aops_go ?_; simp [eTm_def]; (try simp (disch := omega) only [wrap64]); (try (refine gen fun q hq => ?_; cases q <;> (try simp [eTm_def] at hq) <;> (try (have hh : True := hq; clear hh hq))))) | (refine T.ret (Done.tup (Or.inr rfl) ?_) <;> simp [resAs, Tryz.results281, eTm_def] <;> omega) | refine T.r0 fun K hK => ?_ | refine T.r1 fun K hK => ?_ | refine T.ct rfl ?_ | refine T.cf rfl ?_ | refine T.seq ?_ | refine T.block ?_ | refine T.skip ?_
   ·rw [show ruleM (tN1 12 (tN2 10 x y)) = some y by simp [ruleM]]
    refine ACalls.of_body Tryz.func281 (by kernel_rfl) rfl (by kernel_rfl) (by simp [Tryz.ntmps281]) (by simp) ?_
    rw [Tryz.ntmps281]
    repeat' first | (refine aops_end (hK _ ?_); clear hK K) | (refine aops_go ?_; simp [eTm_def]; (try simp (disch := omega) only [wrap64]); (try (refine gen fun q hq => ?_; cases q <;> (try simp [eTm_def] at hq) <;> (try (have hh : True := hq; clear hh hq))))) | (refine T.ret (Done.tup (Or.inr rfl) ?_) <;> simp [resAs, Tryz.results281, eTm_def] <;> omega) | refine T.r0 fun K hK => ?_ | refine T.r1 fun K hK => ?_ | refine T.ct rfl ?_ | refine T.cf rfl ?_ | refine T.seq ?_ | refine T.block ?_
  ·rcases hk with rfl | rfl
   ·rw [show ruleM (tN1 11 a) = none by simp [ruleM, h10]]
    refine ACalls.of_body Tryz.func281 (by kernel_rfl) rfl (by kernel_rfl) (by simp [Tryz.ntmps281]) (by simp) ?_
    rw [Tryz.ntmps281]
    repeat' first | (refine aops_end (hK _ ?_); clear hK K) | (refine aops_go ?_; simp [eTm_def, h10]; (try (refine gen fun q hq => ?_; cases q <;> (try simp [eTm_def, h10] at hq) <;> (try (have hh : True := hq; clear hh hq))))) | (refine T.ret (Done.tup (Or.inr rfl) ?_) <;> simp [resAs, Tryz.results281] <;> omega) | refine T.r0 fun K hK => ?_ | refine T.r1 fun K hK => ?_ | refine T.ct rfl ?_ | refine T.cf rfl ?_ | refine T.seq ?_ | refine T.block ?_ | refine T.skip ?_
   ·rw [show ruleM (tN1 12 a) = none by simp [ruleM, h10]]
    refine ACalls.of_body Tryz.func281 (by kernel_rfl) rfl (by kernel_rfl) (by simp [Tryz.ntmps281]) (by simp) ?_
    rw [Tryz.ntmps281]
    repeat' first | (refine aops_end (hK _ ?_); clear hK K) | (refine aops_go ?_; simp [eTm_def, h10]; (try (refine gen fun q hq => ?_; cases q <;> (try simp [eTm_def, h10] at hq) <;> (try (have hh : True := hq; clear hh hq))))) | (refine T.ret (Done.tup (Or.inr rfl) ?_) <;> simp [resAs, Tryz.results281] <;> omega) | refine T.r0 fun K hK => ?_ | refine T.r1 fun K hK => ?_ | refine T.ct rfl ?_ | refine T.cf rfl ?_ | refine T.seq ?_ | refine T.block ?_ | refine T.skip ?_
 ·skip
  by_cases h3 : p.kind = 3
  ·rw [show ruleM (tIf p a b) = some a by simp [ruleM, h3]]
   refine ACalls.of_body Tryz.func281 (by kernel_rfl) rfl (by kernel_rfl) (by simp [Tryz.ntmps281]) (by simp) ?_
   rw [Tryz.ntmps281]
   repeat' first | (refine aops_end (hK _ ?_); clear hK K) | (refine aops_go ?_; simp [eTm_def, h3]; (try (refine gen fun q hq => ?_; cases q <;> (try simp [eTm_def, h3] at hq) <;> (try (have hh : True := hq; clear hh hq))))) | (refine T.ret (Done.tup (Or.inr rfl) ?_) <;> simp [resAs, Tryz.results281, eTm_def] <;> omega) | refine T.r0 fun K hK => ?_ | refine T.r1 fun K hK => ?_ | refine T.ct rfl ?_ | refine T.cf rfl ?_ | refine T.seq ?_ | refine T.block ?_
  by_cases h4 : p.kind = 4
  ·rw [show ruleM (tIf p a b) = some b by simp [ruleM, h4]]
   refine ACalls.of_body Tryz.func281 (by kernel_rfl) rfl (by kernel_rfl) (by simp [Tryz.ntmps281]) (by simp) ?_
   rw [Tryz.ntmps281]
   repeat' first | (refine aops_end (hK _ ?_); clear hK K) | (refine aops_go ?_; simp [eTm_def, h4]; (try (refine gen fun q hq => ?_; cases q <;> (try simp [eTm_def, h4] at hq) <;> (try (have hh : True := hq; clear hh hq))))) | (refine T.ret (Done.tup (Or.inr rfl) ?_) <;> simp [resAs, Tryz.results281, eTm_def] <;> omega) | refine T.r0 fun K hK => ?_ | refine T.r1 fun K hK => ?_ | refine T.ct rfl ?_ | refine T.cf rfl ?_ | refine T.seq ?_ | refine T.block ?_
  ·rw [show ruleM (tIf p a b) = none by simp [ruleM, h3, h4]]
   refine ACalls.of_body Tryz.func281 (by kernel_rfl) rfl (by kernel_rfl) (by simp [Tryz.ntmps281]) (by simp) ?_
   rw [Tryz.ntmps281]
   repeat' first | (refine aops_end (hK _ ?_); clear hK K) | (refine aops_go ?_; simp [eTm_def, h3, h4]; (try (refine gen fun q hq => ?_; cases q <;> (try simp [eTm_def, h3, h4] at hq) <;> (try (have hh : True := hq; clear hh hq))))) | (refine T.ret (Done.tup (Or.inr rfl) ?_) <;> simp [resAs, Tryz.results281] <;> omega) | refine T.r0 fun K hK => ?_ | refine T.r1 fun K hK => ?_ | refine T.ct rfl ?_ | refine T.cf rfl ?_ | refine T.seq ?_ | refine T.block ?_ | refine T.skip ?_
 ·skip
  rcases hk with rfl | rfl | rfl | rfl
  ·by_cases h5 : a.kind = 5
   ·obtain ⟨s, t, x, rfl⟩ := ha.kind5 h5
    rw [show ruleM (tN2 6 (tLam s t x) b) = some (substM s b x) by simp [ruleM]]
    have k1 := subst_ok b s x (by simp [nTm_mk, nTmS] at hn; omega)
    generalize substM s b x = R at *
    refine ACalls.of_body Tryz.func281 (by kernel_rfl) rfl (by kernel_rfl) (by simp [Tryz.ntmps281]) (by simp) ?_
    rw [Tryz.ntmps281]
    repeat' first | ((first | refine aops_end (hK _ ?_) | refine aopsD_end (hK _ ?_)); clear hK K) | ((first | refine aops_go ?_ | refine aopsD_go ?_ | (refine wpcall_pure ?_ (k1) ?_; (focus (solve | simp [eTm_def])))); simp [eTm_def]; (try (refine gen fun q hq => ?_; cases q <;> (try simp [eTm_def] at hq) <;> (try (have hh : True := hq; clear hh hq))))) | (refine T.ret (Done.tup (Or.inr rfl) ?_) <;> simp [resAs, Tryz.results281] <;> omega) | refine T.rd (id := 7) mixed (fun _ => false) [11] (by kernel_rfl) fun K hK => ?_ | refine T.r0 fun K hK => ?_ | refine T.r1 fun K hK => ?_ | refine T.ct rfl ?_ | refine T.seq ?_ | refine T.block ?_
   ·rw [show ruleM (tN2 6 a b) = none by simp [ruleM, h5]]
    refine ACalls.of_body Tryz.func281 (by kernel_rfl) rfl (by kernel_rfl) (by simp [Tryz.ntmps281]) (by simp) ?_
    rw [Tryz.ntmps281]
    repeat' first | (refine aops_end (hK _ ?_); clear hK K) | (refine aops_go ?_; simp [eTm_def, h5]; (try (refine gen fun q hq => ?_; cases q <;> (try simp [eTm_def, h5] at hq) <;> (try (have hh : True := hq; clear hh hq))))) | (refine T.ret (Done.tup (Or.inr rfl) ?_) <;> simp [resAs, Tryz.results281] <;> omega) | refine T.r0 fun K hK => ?_ | refine T.r1 fun K hK => ?_ | refine T.ct rfl ?_ | refine T.cf rfl ?_ | refine T.seq ?_ | refine T.block ?_ | refine T.skip ?_
  ·by_cases h2 : a.kind = 2 /\ b.kind = 2
   ·obtain ⟨m, rfl, hm1, hm2⟩ := ha.kind2 h2.1
    obtain ⟨n, rfl, hn1, hn2⟩ := hb.kind2 h2.2
    rw [show ruleM (tN2 7 (tNum m) (tNum n)) = some (tNum ((m + n).tmod 1000)) by simp [ruleM]]
    refine ACalls.of_body Tryz.func281 (by kernel_rfl) rfl (by kernel_rfl) (by simp [Tryz.ntmps281]) (by simp) ?_
    rw [Tryz.ntmps281]
    repeat' first | (refine aops_end (hK _ ?_); clear hK K) | (refine aops_go ?_; simp [eTm_def]; (try simp (disch := omega) only [wrap64]); (try (refine gen fun q hq => ?_; cases q <;> (try simp [eTm_def] at hq) <;> (try (have hh : True := hq; clear hh hq))))) | (refine T.ret (Done.tup (Or.inr rfl) ?_) <;> simp [resAs, Tryz.results281] <;> omega) | refine T.r0 fun K hK => ?_ | refine T.r1 fun K hK => ?_ | refine T.ct rfl ?_ | refine T.cf rfl ?_ | refine T.seq ?_ | refine T.block ?_ | refine T.skip ?_
   ·rw [show ruleM (tN2 7 a b) = none by simp [ruleM]; omega]
    by_cases ha2 : a.kind = 2
    ·have hb2 : ¬ b.kind = 2 := fun h => h2 ⟨ha2, h⟩
     refine ACalls.of_body Tryz.func281 (by kernel_rfl) rfl (by kernel_rfl) (by simp [Tryz.ntmps281]) (by simp) ?_
     rw [Tryz.ntmps281]
     repeat' first | (refine aops_end (hK _ ?_); clear hK K) | (refine aops_go ?_; simp [eTm_def, ha2, hb2]; (try (refine gen fun q hq => ?_; cases q <;> (try simp [eTm_def, ha2, hb2] at hq) <;> (try (have hh : True := hq; clear hh hq))))) | (refine T.ret (Done.tup (Or.inr rfl) ?_) <;> simp [resAs, Tryz.results281] <;> omega) | refine T.r0 fun K hK => ?_ | refine T.r1 fun K hK => ?_ | refine T.ct rfl ?_ | refine T.cf rfl ?_ | refine T.seq ?_ | refine T.block ?_ | refine T.skip ?_
    ·refine ACalls.of_body Tryz.func281 (by kernel_rfl) rfl (by kernel_rfl) (by simp [Tryz.ntmps281]) (by simp) ?_
     rw [Tryz.ntmps281]
     repeat' first | (refine aops_end (hK _ ?_); clear hK K) | (refine aops_go ?_; simp [eTm_def, ha2]; (try (refine gen fun q hq => ?_; cases q <;> (try simp [eTm_def, ha2] at hq) <;> (try (have hh : True := hq; clear hh hq))))) | (refine T.ret (Done.tup (Or.inr rfl) ?_) <;> simp [resAs, Tryz.results281] <;> omega) | refine T.r0 fun K hK => ?_ | refine T.r1 fun K hK => ?_ | refine T.ct rfl ?_ | refine T.cf rfl ?_ | refine T.seq ?_ | refine T.block ?_ | refine T.skip ?_
  ·by_cases h2 : a.kind = 2 /\ b.kind = 2
   ·obtain ⟨m, rfl, hm1, hm2⟩ := ha.kind2 h2.1
    obtain ⟨n, rfl, hn1, hn2⟩ := hb.kind2 h2.2
    by_cases hmn : m < n
    ·rw [show ruleM (tN2 8 (tNum m) (tNum n)) = some tTrue by simp [ruleM, truthM, hmn]]
     have k1 := truth_ok true
     rw [show truthM true = tTrue from rfl] at k1
     refine ACalls.of_body Tryz.func281 (by kernel_rfl) rfl (by kernel_rfl) (by simp [Tryz.ntmps281]) (by simp) ?_
     rw [Tryz.ntmps281]
     repeat' first | (refine aops_end (hK _ ?_); clear hK K) | ((first | refine aops_go ?_ | refine wpcall_pure rfl (k1) ?_); simp [eTm_def, hmn]; (try simp (disch := omega) only [wrap64]); (try (refine gen fun q hq => ?_; cases q <;> (try simp [eTm_def, hmn] at hq) <;> (try (have hh : True := hq; clear hh hq))))) | (refine T.ret (Done.tup (Or.inr rfl) ?_) <;> simp [resAs, Tryz.results281] <;> omega) | refine T.r0 fun K hK => ?_ | refine T.r1 fun K hK => ?_ | refine T.ct rfl ?_ | refine T.cf rfl ?_ | refine T.seq ?_ | refine T.block ?_
    ·rw [show ruleM (tN2 8 (tNum m) (tNum n)) = some tFalse by simp [ruleM, truthM, hmn]]
     have k1 := truth_ok false
     rw [show truthM false = tFalse from rfl] at k1
     refine ACalls.of_body Tryz.func281 (by kernel_rfl) rfl (by kernel_rfl) (by simp [Tryz.ntmps281]) (by simp) ?_
     rw [Tryz.ntmps281]
     repeat' first | (refine aops_end (hK _ ?_); clear hK K) | ((first | refine aops_go ?_ | refine wpcall_pure rfl (k1) ?_); simp [eTm_def, hmn]; (try simp (disch := omega) only [wrap64]); (try (refine gen fun q hq => ?_; cases q <;> (try simp [eTm_def, hmn] at hq) <;> (try (have hh : True := hq; clear hh hq))))) | (refine T.ret (Done.tup (Or.inr rfl) ?_) <;> simp [resAs, Tryz.results281] <;> omega) | refine T.r0 fun K hK => ?_ | refine T.r1 fun K hK => ?_ | refine T.ct rfl ?_ | refine T.cf rfl ?_ | refine T.seq ?_ | refine T.block ?_
   ·rw [show ruleM (tN2 8 a b) = none by simp [ruleM]; omega]
    by_cases ha2 : a.kind = 2
    ·have hb2 : ¬ b.kind = 2 := fun h => h2 ⟨ha2, h⟩
     refine ACalls.of_body Tryz.func281 (by kernel_rfl) rfl (by kernel_rfl) (by simp [Tryz.ntmps281]) (by simp) ?_
     rw [Tryz.ntmps281]
     repeat' first | (refine aops_end (hK _ ?_); clear hK K) | (refine aops_go ?_; simp [eTm_def, ha2, hb2]; (try (refine gen fun q hq => ?_; cases q <;> (try simp [eTm_def, ha2, hb2] at hq) <;> (try (have hh : True := hq; clear hh hq))))) | (refine T.ret (Done.tup (Or.inr rfl) ?_) <;> simp [resAs, Tryz.results281] <;> omega) | refine T.r0 fun K hK => ?_ | refine T.r1 fun K hK => ?_ | refine T.ct rfl ?_ | refine T.cf rfl ?_ | refine T.seq ?_ | refine T.block ?_ | refine T.skip ?_
    ·refine ACalls.of_body Tryz.func281 (by kernel_rfl) rfl (by kernel_rfl) (by simp [Tryz.ntmps281]) (by simp) ?_
     rw [Tryz.ntmps281]
     repeat' first | (refine aops_end (hK _ ?_); clear hK K) | (refine aops_go ?_; simp [eTm_def, ha2]; (try (refine gen fun q hq => ?_; cases q <;> (try simp [eTm_def, ha2] at hq) <;> (try (have hh : True := hq; clear hh hq))))) | (refine T.ret (Done.tup (Or.inr rfl) ?_) <;> simp [resAs, Tryz.results281] <;> omega) | refine T.r0 fun K hK => ?_ | refine T.r1 fun K hK => ?_ | refine T.ct rfl ?_ | refine T.cf rfl ?_ | refine T.seq ?_ | refine T.block ?_ | refine T.skip ?_
  ·rw [show ruleM (tN2 10 a b) = none by simp [ruleM]]
   refine ACalls.of_body Tryz.func281 (by kernel_rfl) rfl (by kernel_rfl) (by simp [Tryz.ntmps281]) (by simp) ?_
   rw [Tryz.ntmps281]
   repeat' first | (refine aops_end (hK _ ?_); clear hK K) | (refine aops_go ?_; simp [eTm_def]; (try (refine gen fun q hq => ?_; cases q <;> (try simp [eTm_def] at hq) <;> (try (have hh : True := hq; clear hh hq))))) | (refine T.ret (Done.tup (Or.inr rfl) ?_) <;> simp [resAs, Tryz.results281] <;> omega) | refine T.r0 fun K hK => ?_ | refine T.r1 fun K hK => ?_ | refine T.ct rfl ?_ | refine T.cf rfl ?_ | refine T.seq ?_ | refine T.block ?_ | refine T.skip ?_

end Go.Proofs.YtflmjilnecanhaaGreatDoor

namespace Go.Proofs.YtflmjilnecanhaaGreatDoor
open Go Go.Av
attribute [local irreducible] T ACalls TX EX LX Draws Some_ ACallsX eTy eTm MTy.kind MTy.kids MTm.kind MTm.name MTm.num MTm.ty MTm.fr MTm.label MTm.kids
attribute [local simp] eTy_def eTm_def
set_option maxHeartbeats 16000000
set_option maxRecDepth 8000

def cntP (l : List MTy) (p : Nat) : Nat := ((l.take p).map cntM).sum
end Go.Proofs.YtflmjilnecanhaaGreatDoor

namespace Go.Proofs.YtflmjilnecanhaaGreatDoor
open Go Go.Av
attribute [local irreducible] T ACalls TX EX LX Draws Some_ ACallsX eTy eTm MTy.kind MTy.kids MTm.kind MTm.name MTm.num MTm.ty MTm.fr MTm.label MTm.kids
attribute [local simp] eTy_def eTm_def
set_option maxHeartbeats 16000000
set_option maxRecDepth 8000
@[simp] theorem td_uint : td Tryz.prog 210 = some { ag := false, sz := 1, by_ := 8, zero := some [.d (.int .u64 0)], el := none, ar := none, fl := [], ik := some .u64, isS := false, isB := false } := keep (by kernel_rfl)
@[simp] theorem td_intS2 : td Tryz.prog 107 = some { ag := false, sz := 1, by_ := 24, zero := some [.nil], el := some 3, ar := none, fl := [], ik := none, isS := false, isB := false } := keep (by kernel_rfl)

theorem wrap_i64_0 : IntKind.i64.wrap 0 = 0 := by decide
end Go.Proofs.YtflmjilnecanhaaGreatDoor

namespace Go.Proofs.YtflmjilnecanhaaGreatDoor
open Go Go.Av
attribute [local irreducible] T ACalls TX EX LX Draws Some_ ACallsX eTy eTm MTy.kind MTy.kids MTm.kind MTm.name MTm.num MTm.ty MTm.fr MTm.label MTm.kids
attribute [local simp] eTy_def eTm_def
set_option maxHeartbeats 16000000
set_option maxRecDepth 8000

def redM (e : MTm) : Int := if castValidM e = true then ((castsM e).length : Int) - (castsM (simpM e)).length else 0

abbrev tmOwn (e : MTm) : AV := .agg [.d (.i e.kind), .d (.str e.name), .d (.i e.num), .d (.i e.ty.kind), .d (.sl (e.ty.kids.map eTy)), .d (.i e.fr.kind), .d (.sl (e.fr.kids.map eTy)), .d (.i e.label), .own 0 e.kids.length]
def mixM (l : List MTm) (p : Nat) : List MTm := (l.map simpM).take p ++ l.drop p
end Go.Proofs.YtflmjilnecanhaaGreatDoor

namespace Go.Proofs.YtflmjilnecanhaaGreatDoor
open Go Go.Av
attribute [local irreducible] T ACalls TX EX LX Draws Some_ ACallsX eTy eTm MTy.kind MTy.kids MTm.kind MTm.name MTm.num MTm.ty MTm.fr MTm.label MTm.kids
attribute [local simp] eTy_def eTm_def
set_option maxHeartbeats 16000000
set_option maxRecDepth 8000
attribute [local simp] Option.bind

theorem isFuel_ok (n : Int) : ACalls Tryz.prog 159 [.i n] [] (.b (fuelM n)) [] [] := by
 have h : ACalls Tryz.prog 52 [.i n, .i 0, .i 300] [] (.b (fuelM n)) [] [] := by
  rw [fuelM]
  refine ACalls.of_body Tryz.func52 (by kernel_rfl) rfl (by kernel_rfl) (by simp [Tryz.ntmps52]) (by simp) ?_
  rw [Tryz.ntmps52]
  repeat' first | ((first | refine aops_end (hK _ ?_) | refine aopsD_end (hK _ ?_) | refine aopsF_end (hK _ ?_)); clear hK K) | ((first | refine aops_go ?_ | refine aopsD_go ?_ | refine aopsF_go ?_); simp; (try (refine gen fun q hq => ?_; cases q <;> (try simp at hq) <;> (try (have hh : True := hq; clear hh hq))))) | (refine T.ret (Done.data (Or.inr rfl) ?_ ?_) <;> simp [Tryz.results52, *] <;> omega) | refine T.r0 fun K hK => ?_ | refine T.r1 fun K hK => ?_ | (refine ⟨by omega, ?_⟩) | refine T.ct rfl ?_ | refine T.cf rfl ?_ | refine T.seq ?_ | refine T.block ?_ | refine T.skip ?_ | refine T.exit ?_
 refine ACalls.of_body Tryz.func159 (by kernel_rfl) rfl (by kernel_rfl) (by simp [Tryz.ntmps159]) (by simp) ?_
 rw [Tryz.ntmps159]
 repeat' first | ((first | refine aops_end (hK _ ?_) | refine aopsD_end (hK _ ?_) | refine aopsF_end (hK _ ?_)); clear hK K) | ((first | refine aops_go ?_ | refine aopsD_go ?_ | refine aopsF_go ?_ | refine wpcall_pure rfl (h) ?_); simp; (try (refine gen fun q hq => ?_; cases q <;> (try simp at hq) <;> (try (have hh : True := hq; clear hh hq))))) | (refine T.ret (Done.data (Or.inr rfl) ?_ ?_) <;> simp [Tryz.results159] <;> omega) | refine T.r0 fun K hK => ?_ | refine T.r1 fun K hK => ?_ | (refine ⟨by omega, ?_⟩) | refine T.ct rfl ?_ | refine T.cf rfl ?_ | refine T.seq ?_ | refine T.block ?_ | refine T.skip ?_ | refine T.exit ?_

abbrev stepR (p : MTm × Int × Int) : List AV := [aTm p.1, .i p.2.1, .i p.2.2]

theorem counts_le {e : MTm} (hlen : kidsM e.kind = e.kids.length) : countsM e <= e.kids.length := by
 rw [countsM]
 split
 ·rename_i h
  rw [h] at hlen; simp [kidsM] at hlen; omega
 ·exact Nat.le_refl _

abbrev runR (p : MTm × Int × Int × Int) : List AV := [aTm p.1, .i p.2.1, .i p.2.2.1, .i p.2.2.2]

end Go.Proofs.YtflmjilnecanhaaGreatDoor

namespace Go.Proofs.YtflmjilnecanhaaGreatDoor
open Go Go.Av
attribute [local irreducible] T ACalls TX EX LX Draws Some_ ACallsX eTy eTm MTy.kind MTy.kids MTm.kind MTm.name MTm.num MTm.ty MTm.fr MTm.label MTm.kids
attribute [local simp] eTy_def eTm_def
set_option maxHeartbeats 16000000
set_option maxRecDepth 8000
attribute [local simp] Option.bind

abbrev redR (e : MTm) : List AV := match ruleM e with
 | some x => [aTm x, .i 1, .i 0]
 | none => [aTm zeroE, .i 2, .i (wrongM e.kind)]

def stepS (p : MTm × Int × Int) : MTm × Int × Int := if p.2.1 = 1 then (p.1, 1, 0) else (zeroE, p.2.1, p.2.2)

def evR (p : MTm × Int × Int × Int) : MTm × Int × Int × Int := if p.2.1 = 1 then (zeroE, 5, 0, p.2.2.2) else p

end Go.Proofs.YtflmjilnecanhaaGreatDoor

namespace Go.Proofs.YtflmjilnecanhaaGreatDoor
open Go Go.Av
attribute [local irreducible] T ACalls TX EX LX Draws Some_ ACallsX eTy eTm MTy.kind MTy.kids MTm.kind MTm.name MTm.num MTm.ty MTm.fr MTm.label MTm.kids
attribute [local simp] eTy_def eTm_def
set_option maxHeartbeats 16000000
set_option maxRecDepth 8000

theorem asAny_ok (e : MTm) : ACalls Tryz.prog 80 [aTm e] [] (aTm (asAnyM e)) [] [] := by
 have h1 := base_ok 1
 refine ACalls.of_body Tryz.func80 (by kernel_rfl) rfl (by kernel_rfl) (by simp [Tryz.ntmps80]) (by simp) ?_
 rw [Tryz.ntmps80]
 repeat' first | ((first | refine aops_end (hK _ ?_) | refine aopsD_end (hK _ ?_) | refine aopsF_end (hK _ ?_)); clear hK K) | ((first | refine aops_go ?_ | refine aopsD_go ?_ | refine aopsF_go ?_ | refine wpcall_pure rfl (h1) ?_); simp; (try (refine gen fun q hq => ?_; cases q <;> (try simp at hq) <;> (try (have hh : True := hq; clear hh hq))))) | (refine T.ret (Done.val (Or.inr rfl) ?_) <;> simp [resAs, Tryz.results80, eTm_def] <;> omega) | refine T.rd (id := 1) mixed (fun _ => false) [4] (by kernel_rfl) fun K hK => ?_ | refine T.rd1 (id := 1) mixed (fun _ => false) [4] (by kernel_rfl) fun K hK => ?_ | refine T.r0 fun K hK => ?_ | refine T.r1 fun K hK => ?_ | (refine ⟨by omega, ?_⟩) | refine T.ct rfl ?_ | refine T.cf rfl ?_ | refine T.seq ?_ | refine T.block ?_ | refine T.skip ?_ | refine T.exit ?_

theorem l9As_ok (e : MTm) : ACalls Tryz.prog 100 [aTm e] [] (aTm (asAnyM e)) [] [] := by
 have h1 := l1Any_ok
 refine ACalls.of_body Tryz.func100 (by kernel_rfl) rfl (by kernel_rfl) (by simp [Tryz.ntmps100]) (by simp) ?_
 rw [Tryz.ntmps100]
 repeat' first | ((first | refine aops_end (hK _ ?_) | refine aopsD_end (hK _ ?_) | refine aopsF_end (hK _ ?_)); clear hK K) | ((first | refine aops_go ?_ | refine aopsD_go ?_ | refine aopsF_go ?_ | refine wpcall_pure rfl (h1) ?_); simp; (try (refine gen fun q hq => ?_; cases q <;> (try simp at hq) <;> (try (have hh : True := hq; clear hh hq))))) | (refine T.ret (Done.val (Or.inr rfl) ?_) <;> simp [resAs, Tryz.results100, eTm_def] <;> omega) | refine T.rd (id := 1) mixed (fun _ => false) [4] (by kernel_rfl) fun K hK => ?_ | refine T.rd1 (id := 1) mixed (fun _ => false) [4] (by kernel_rfl) fun K hK => ?_ | refine T.r0 fun K hK => ?_ | refine T.r1 fun K hK => ?_ | (refine ⟨by omega, ?_⟩) | refine T.ct rfl ?_ | refine T.cf rfl ?_ | refine T.seq ?_ | refine T.block ?_ | refine T.skip ?_ | refine T.exit ?_

theorem checkedTerm_ok (e : MTm) (hn : nTm e <= 1073741824) : ACalls Tryz.prog 76 [aTm e] [] (.tup (tmRes (if termValidM e = true then some e else none))) [] [] := by
 have h1 := TermValid_ok e (by omega)
 have h2 := own_ok e (by omega)
 cases hv : termValidM e with
 | false =>
  rw [hv] at h1
  simp only [Bool.false_eq_true, if_false, tmRes]
  refine ACalls.of_body Tryz.func76 (by kernel_rfl) rfl (by kernel_rfl) (by simp [Tryz.ntmps76]) (by simp) ?_
  rw [Tryz.ntmps76]
  repeat' first | ((first | refine aops_end (hK _ ?_) | refine aopsD_end (hK _ ?_) | refine aopsF_end (hK _ ?_)); clear hK K) | ((first | refine aops_go ?_ | refine aopsD_go ?_ | refine aopsF_go ?_ | refine wpcall_pure rfl (h1) ?_); simp; (try (refine gen fun q hq => ?_; cases q <;> (try simp at hq) <;> (try (have hh : True := hq; clear hh hq))))) | (refine T.ret (Done.tup (Or.inr rfl) ?_) <;> simp [resAs, Tryz.results76] <;> omega) | refine T.r0 fun K hK => ?_ | refine T.r1 fun K hK => ?_ | (refine ⟨by omega, ?_⟩) | refine T.ct rfl ?_ | refine T.cf rfl ?_ | refine T.seq ?_ | refine T.block ?_ | refine T.skip ?_ | refine T.exit ?_
 | true =>
  rw [hv] at h1
  simp only [if_true, tmRes]
  refine ACalls.of_body Tryz.func76 (by kernel_rfl) rfl (by kernel_rfl) (by simp [Tryz.ntmps76]) (by simp) ?_
  rw [Tryz.ntmps76]
  repeat' first | ((first | refine aops_end (hK _ ?_) | refine aopsD_end (hK _ ?_) | refine aopsF_end (hK _ ?_)); clear hK K) | ((first | refine aops_go ?_ | refine aopsD_go ?_ | refine aopsF_go ?_ | refine wpcall_pure rfl (h1) ?_ | refine wpcall_pure rfl (h2) ?_); simp; (try (refine gen fun q hq => ?_; cases q <;> (try simp at hq) <;> (try (have hh : True := hq; clear hh hq))))) | (refine T.ret (Done.tup (Or.inr rfl) ?_) <;> simp [resAs, Tryz.results76] <;> omega) | refine T.r0 fun K hK => ?_ | refine T.r1 fun K hK => ?_ | (refine ⟨by omega, ?_⟩) | refine T.ct rfl ?_ | refine T.cf rfl ?_ | refine T.seq ?_ | refine T.block ?_ | refine T.skip ?_ | refine T.exit ?_

theorem embed1_ok (e : MTm) (h13 : e.kind = 13 -> ∃ x, e.kids = [x]) : ACalls Tryz.prog 78 [aTm e] [] (aTm (embG e)) [] [] := by
 have h1 := base_ok 1
 by_cases hk : e.kind = 13
 ·obtain ⟨x, hx⟩ := h13 hk
  rw [show embG e = x by simp [embG, hk, hx]]
  refine ACalls.of_body Tryz.func78 (by kernel_rfl) rfl (by kernel_rfl) (by simp [Tryz.ntmps78]) (by simp) ?_
  rw [Tryz.ntmps78]
  repeat' first | ((first | refine aops_end (hK _ ?_) | refine aopsD_end (hK _ ?_) | refine aopsF_end (hK _ ?_)); clear hK K) | ((first | refine aops_go ?_ | refine aopsD_go ?_ | refine aopsF_go ?_); simp [hk, hx, eTm_def]; (try (refine gen fun q hq => ?_; cases q <;> (try simp [hk, hx, eTm_def] at hq) <;> (try (have hh : True := hq; clear hh hq))))) | (refine T.ret (Done.val (Or.inr rfl) ?_) <;> simp [resAs, Tryz.results78] <;> omega) | refine T.r0 fun K hK => ?_ | refine T.r1 fun K hK => ?_ | (refine ⟨by omega, ?_⟩) | refine T.ct rfl ?_ | refine T.cf rfl ?_ | refine T.seq ?_ | refine T.block ?_ | refine T.skip ?_ | refine T.exit ?_
 by_cases ho : e.kind = 1 \/ e.kind = 6 \/ e.kind = 9 \/ e.kind = 11 \/ e.kind = 12
 ·rw [show embG e = e by simp [embG, hk, ho]]
  rcases ho with ho | ho | ho | ho | ho
  ·refine ACalls.of_body Tryz.func78 (by kernel_rfl) rfl (by kernel_rfl) (by simp [Tryz.ntmps78]) (by simp) ?_
   rw [Tryz.ntmps78]
   repeat' first | ((first | refine aops_end (hK _ ?_) | refine aopsD_end (hK _ ?_) | refine aopsF_end (hK _ ?_)); clear hK K) | ((first | refine aops_go ?_ | refine aopsD_go ?_ | refine aopsF_go ?_); simp [ho]; (try (refine gen fun q hq => ?_; cases q <;> (try simp [ho] at hq) <;> (try (have hh : True := hq; clear hh hq))))) | (refine T.ret (Done.val (Or.inr rfl) ?_) <;> simp [resAs, Tryz.results78, ho] <;> omega) | refine T.r0 fun K hK => ?_ | refine T.r1 fun K hK => ?_ | (refine ⟨by omega, ?_⟩) | refine T.ct rfl ?_ | refine T.cf rfl ?_ | refine T.seq ?_ | refine T.block ?_ | refine T.skip ?_ | refine T.exit ?_
  ·refine ACalls.of_body Tryz.func78 (by kernel_rfl) rfl (by kernel_rfl) (by simp [Tryz.ntmps78]) (by simp) ?_
   rw [Tryz.ntmps78]
   repeat' first | ((first | refine aops_end (hK _ ?_) | refine aopsD_end (hK _ ?_) | refine aopsF_end (hK _ ?_)); clear hK K) | ((first | refine aops_go ?_ | refine aopsD_go ?_ | refine aopsF_go ?_); simp [ho]; (try (refine gen fun q hq => ?_; cases q <;> (try simp [ho] at hq) <;> (try (have hh : True := hq; clear hh hq))))) | (refine T.ret (Done.val (Or.inr rfl) ?_) <;> simp [resAs, Tryz.results78, ho] <;> omega) | refine T.r0 fun K hK => ?_ | refine T.r1 fun K hK => ?_ | (refine ⟨by omega, ?_⟩) | refine T.ct rfl ?_ | refine T.cf rfl ?_ | refine T.seq ?_ | refine T.block ?_ | refine T.skip ?_ | refine T.exit ?_
  ·refine ACalls.of_body Tryz.func78 (by kernel_rfl) rfl (by kernel_rfl) (by simp [Tryz.ntmps78]) (by simp) ?_
   rw [Tryz.ntmps78]
   repeat' first | ((first | refine aops_end (hK _ ?_) | refine aopsD_end (hK _ ?_) | refine aopsF_end (hK _ ?_)); clear hK K) | ((first | refine aops_go ?_ | refine aopsD_go ?_ | refine aopsF_go ?_); simp [ho]; (try (refine gen fun q hq => ?_; cases q <;> (try simp [ho] at hq) <;> (try (have hh : True := hq; clear hh hq))))) | (refine T.ret (Done.val (Or.inr rfl) ?_) <;> simp [resAs, Tryz.results78, ho] <;> omega) | refine T.r0 fun K hK => ?_ | refine T.r1 fun K hK => ?_ | (refine ⟨by omega, ?_⟩) | refine T.ct rfl ?_ | refine T.cf rfl ?_ | refine T.seq ?_ | refine T.block ?_ | refine T.skip ?_ | refine T.exit ?_
  ·refine ACalls.of_body Tryz.func78 (by kernel_rfl) rfl (by kernel_rfl) (by simp [Tryz.ntmps78]) (by simp) ?_
   rw [Tryz.ntmps78]
   repeat' first | ((first | refine aops_end (hK _ ?_) | refine aopsD_end (hK _ ?_) | refine aopsF_end (hK _ ?_)); clear hK K) | ((first | refine aops_go ?_ | refine aopsD_go ?_ | refine aopsF_go ?_); simp [ho]; (try (refine gen fun q hq => ?_; cases q <;> (try simp [ho] at hq) <;> (try (have hh : True := hq; clear hh hq))))) | (refine T.ret (Done.val (Or.inr rfl) ?_) <;> simp [resAs, Tryz.results78, ho] <;> omega) | refine T.r0 fun K hK => ?_ | refine T.r1 fun K hK => ?_ | (refine ⟨by omega, ?_⟩) | refine T.ct rfl ?_ | refine T.cf rfl ?_ | refine T.seq ?_ | refine T.block ?_ | refine T.skip ?_ | refine T.exit ?_
  ·refine ACalls.of_body Tryz.func78 (by kernel_rfl) rfl (by kernel_rfl) (by simp [Tryz.ntmps78]) (by simp) ?_
   rw [Tryz.ntmps78]
   repeat' first | ((first | refine aops_end (hK _ ?_) | refine aopsD_end (hK _ ?_) | refine aopsF_end (hK _ ?_)); clear hK K) | ((first | refine aops_go ?_ | refine aopsD_go ?_ | refine aopsF_go ?_); simp [ho]; (try (refine gen fun q hq => ?_; cases q <;> (try simp [ho] at hq) <;> (try (have hh : True := hq; clear hh hq))))) | (refine T.ret (Done.val (Or.inr rfl) ?_) <;> simp [resAs, Tryz.results78, ho] <;> omega) | refine T.r0 fun K hK => ?_ | refine T.r1 fun K hK => ?_ | (refine ⟨by omega, ?_⟩) | refine T.ct rfl ?_ | refine T.cf rfl ?_ | refine T.seq ?_ | refine T.block ?_ | refine T.skip ?_ | refine T.exit ?_
 have g1 : ¬ e.kind = 1 := fun h => ho (.inl h)
 have g2 : ¬ e.kind = 6 := fun h => ho (.inr (.inl h))
 have g3 : ¬ e.kind = 9 := fun h => ho (.inr (.inr (.inl h)))
 have g4 : ¬ e.kind = 11 := fun h => ho (.inr (.inr (.inr (.inl h))))
 have g5 : ¬ e.kind = 12 := fun h => ho (.inr (.inr (.inr (.inr h))))
 by_cases h5 : e.kind = 5
 ·rw [show embG e = asAnyM (.mk 5 e.name e.num anyT e.fr e.label e.kids) by simp [embG, h5]]
  have h2 := asAny_ok (.mk 5 e.name e.num anyT e.fr e.label e.kids)
  generalize asAnyM (.mk 5 e.name e.num anyT e.fr e.label e.kids) = R at *
  refine ACalls.of_body Tryz.func78 (by kernel_rfl) rfl (by kernel_rfl) (by simp [Tryz.ntmps78]) (by simp) ?_
  rw [Tryz.ntmps78]
  repeat' first | ((first | refine aops_end (hK _ ?_) | refine aopsD_end (hK _ ?_) | refine aopsF_end (hK _ ?_)); clear hK K) | ((first | refine aops_go ?_ | refine aopsD_go ?_ | refine aopsF_go ?_ | refine wpcall_pure rfl (h1) ?_ | (refine wpcall_pure ?_ (h2) ?_; (focus (solve | simp [h5])))); simp [h5]; (try (refine gen fun q hq => ?_; cases q <;> (try simp [h5] at hq) <;> (try (have hh : True := hq; clear hh hq))))) | (refine T.ret (Done.val (Or.inr rfl) ?_) <;> simp [resAs, Tryz.results78] <;> omega) | refine T.r0 fun K hK => ?_ | refine T.r1 fun K hK => ?_ | (refine ⟨by omega, ?_⟩) | refine T.ct rfl ?_ | refine T.cf rfl ?_ | refine T.seq ?_ | refine T.block ?_ | refine T.skip ?_ | refine T.exit ?_
 ·rw [show embG e = asAnyM e by simp [embG, hk, ho, h5]]
  have h2 := asAny_ok e
  generalize asAnyM e = R at *
  refine ACalls.of_body Tryz.func78 (by kernel_rfl) rfl (by kernel_rfl) (by simp [Tryz.ntmps78]) (by simp) ?_
  rw [Tryz.ntmps78]
  repeat' first | ((first | refine aops_end (hK _ ?_) | refine aopsD_end (hK _ ?_) | refine aopsF_end (hK _ ?_)); clear hK K) | ((first | refine aops_go ?_ | refine aopsD_go ?_ | refine aopsF_go ?_ | refine wpcall_pure rfl (h2) ?_); simp [hk, g1, g2, g3, g4, g5, h5]; (try (refine gen fun q hq => ?_; cases q <;> (try simp [hk, g1, g2, g3, g4, g5, h5] at hq) <;> (try (have hh : True := hq; clear hh hq))))) | (refine T.ret (Done.val (Or.inr rfl) ?_) <;> simp [resAs, Tryz.results78] <;> omega) | refine T.r0 fun K hK => ?_ | refine T.r1 fun K hK => ?_ | (refine ⟨by omega, ?_⟩) | refine T.ct rfl ?_ | refine T.cf rfl ?_ | refine T.seq ?_ | refine T.block ?_ | refine T.skip ?_ | refine T.exit ?_

theorem EmbedTerm_ok (e : MTm) (hn : nTm e <= 1073741824) : ACalls Tryz.prog 27 [aTm e] [] (.tup (tmRes (embedTermM e))) [] [] := by
 have h1 := TermValid_ok e (by omega)
 rw [embedTermM]
 cases hv : termValidM e with
 | false =>
  rw [hv] at h1
  simp only [Bool.false_eq_true, if_false, tmRes]
  refine ACalls.of_body Tryz.func27 (by kernel_rfl) rfl (by kernel_rfl) (by simp [Tryz.ntmps27]) (by simp) ?_
  rw [Tryz.ntmps27]
  repeat' first | ((first | refine aops_end (hK _ ?_) | refine aopsD_end (hK _ ?_) | refine aopsF_end (hK _ ?_)); clear hK K) | ((first | refine aops_go ?_ | refine aopsD_go ?_ | refine aopsF_go ?_ | refine wpcall_pure rfl (h1) ?_); simp; (try (refine gen fun q hq => ?_; cases q <;> (try simp at hq) <;> (try (have hh : True := hq; clear hh hq))))) | (refine T.ret (Done.tup (Or.inr rfl) ?_) <;> simp [resAs, Tryz.results27] <;> omega) | refine T.r0 fun K hK => ?_ | refine T.r1 fun K hK => ?_ | (refine ⟨by omega, ?_⟩) | refine T.ct rfl ?_ | refine T.cf rfl ?_ | refine T.seq ?_ | refine T.block ?_ | refine T.skip ?_ | refine T.exit ?_
 | true =>
  rw [hv] at h1
  have h2 := mapped_ok 78 embG (fun e => ∃ d, TmV 14 d e) (fun e h u hu => by
    obtain ⟨d, h⟩ := h
    obtain ⟨d', rfl, _, _, _, hk⟩ := shapeTm_kids h.shape
    exact ⟨d', TmV.of (hk u hu)⟩) (fun e h => by
    obtain ⟨d, h⟩ := h
    rw [mapM_def]
    exact embed1_ok _ (fun hk => by
     obtain ⟨x, hx⟩ := h.plain.1 (.inl (by simpa using hk))
     exact ⟨mapM embG x, by simp [hx]⟩)) e ⟨12, (termValidM_iff.1 hv).1⟩ (by omega)
  have h3 := checkedTerm_ok (embM e) (by have := emb_small hv; omega)
  rw [embM] at h3 ⊢
  generalize mapM embG e = R at *
  simp only [if_true]
  cases hr : termValidM R with
  | false =>
   rw [hr] at h3
   simp only [Bool.false_eq_true, if_false, tmRes] at h3 ⊢
   refine ACalls.of_body Tryz.func27 (by kernel_rfl) rfl (by kernel_rfl) (by simp [Tryz.ntmps27]) (by simp) ?_
   rw [Tryz.ntmps27]
   repeat' first | ((first | refine aops_end (hK _ ?_) | refine aopsD_end (hK _ ?_) | refine aopsF_end (hK _ ?_)); clear hK K) | ((first | refine aops_go ?_ | refine aopsD_go ?_ | refine aopsF_go ?_ | refine wpcall_pure rfl (h1) ?_ | refine wpcall_pure rfl (h2) ?_ | refine wpcall_pure rfl (h3) ?_); simp; (try (refine gen fun q hq => ?_; cases q <;> (try simp at hq) <;> (try (have hh : True := hq; clear hh hq))))) | (refine T.ret (Done.tup (Or.inr rfl) ?_) <;> simp [resAs, Tryz.results27] <;> omega) | refine T.r0 fun K hK => ?_ | refine T.r1 fun K hK => ?_ | (refine ⟨by omega, ?_⟩) | refine T.ct rfl ?_ | refine T.cf rfl ?_ | refine T.seq ?_ | refine T.block ?_ | refine T.skip ?_ | refine T.exit ?_
  | true =>
   rw [hr] at h3
   simp only [if_true, tmRes] at h3 ⊢
   refine ACalls.of_body Tryz.func27 (by kernel_rfl) rfl (by kernel_rfl) (by simp [Tryz.ntmps27]) (by simp) ?_
   rw [Tryz.ntmps27]
   repeat' first | ((first | refine aops_end (hK _ ?_) | refine aopsD_end (hK _ ?_) | refine aopsF_end (hK _ ?_)); clear hK K) | ((first | refine aops_go ?_ | refine aopsD_go ?_ | refine aopsF_go ?_ | refine wpcall_pure rfl (h1) ?_ | refine wpcall_pure rfl (h2) ?_ | refine wpcall_pure rfl (h3) ?_); simp; (try (refine gen fun q hq => ?_; cases q <;> (try simp at hq) <;> (try (have hh : True := hq; clear hh hq))))) | (refine T.ret (Done.tup (Or.inr rfl) ?_) <;> simp [resAs, Tryz.results27] <;> omega) | refine T.r0 fun K hK => ?_ | refine T.r1 fun K hK => ?_ | (refine ⟨by omega, ?_⟩) | refine T.ct rfl ?_ | refine T.cf rfl ?_ | refine T.seq ?_ | refine T.block ?_ | refine T.skip ?_ | refine T.exit ?_

theorem l9Embed_out (e : MTm) (h13 : ¬ e.kind = 13) (ho : e.kind = 1 \/ e.kind = 6 \/ e.kind = 9 \/ e.kind = 11 \/ e.kind = 12) (hn : nTm e <= 1073741824)
  (ih : ∀ u ∈ e.kids, ACalls Tryz.prog 82 [aTm u] [] (aTm (embM u)) [] []) : ACalls Tryz.prog 82 [aTm e] [] (aTm (.mk e.kind e.name e.num zeroT zeroT 0 (e.kids.map embM))) [] [] := by
 have hnk2 : e.kids.length <= 1073741824 := by have := nTmS_len e.kids; rw [nTm_def] at hn; omega
 have hany := l1Any_ok
 have h5 : ¬ e.kind = 5 := by omega
 refine ACalls.of_body Tryz.func82 (by kernel_rfl) rfl (by kernel_rfl) (by simp [Tryz.ntmps82]) (by simp) ?_
 rw [Tryz.ntmps82]
 repeat' first | ((first | refine aops_end (hK _ ?_) | refine aopsD_end (hK _ ?_) | refine aopsF_end (hK _ ?_)); clear hK K) | ((first | refine aops_go ?_ | refine aopsD_go ?_ | refine aopsF_go ?_ | refine wpcall_pure rfl (hany) ?_); simp [h13, h5]; (try (refine gen fun q hq => ?_; cases q <;> (try simp [h13, h5] at hq) <;> (try (have hh : True := hq; clear hh hq))))) | refine T.rd (id := 9) mixed (fun _ => false) [9, 11] (by kernel_rfl) fun K hK => ?_ | refine T.rd1 (id := 9) mixed (fun _ => false) [9, 11] (by kernel_rfl) fun K hK => ?_ | refine T.r0 fun K hK => ?_ | refine T.r1 fun K hK => ?_ | (refine ⟨by omega, ?_⟩) | refine T.ct rfl ?_ | refine T.cf rfl ?_ | refine T.seq ?_ | refine T.block ?_ | refine T.skip ?_ | refine T.exit ?_
 refine T.ownifyObj 2 8 9 46 (row := [.d (.i e.kind), .d (.str e.name), .d (.i e.num), .d (.i 0), .nil, .d (.i 0), .nil, .d (.i 0), .nil]) (by simp) (by simp) ?_
 refine T.loopK (α := Nat) [1, 2, 3] (fun x => [(4, .i x)]) (fun x => [(2, [.d (.i e.kind), .d (.str e.name), .d (.i e.num), .d (.i 0), .nil, .d (.i 0), .nil, .d (.i 0), .own 0 x])]) (fun x => []) (fun p _ => [{ sz := 9, ety := 46, rows := ((e.kids.map embM).take p).map eTm, wr := true }]) (fun x => e.kids.length + 1 - x) (fun x => x <= e.kids.length) (by simp; rfl) (fun p hp => ?_) 0 (by simp) (by simp) (by simp) (by simp)
 dsimp only at hp ⊢
 simp only [ups, List.set_cons_zero, List.set_cons_succ, List.cons_append, List.nil_append, List.append_nil]
 by_cases hlt : p < e.kids.length
 ·obtain ⟨u, ht⟩ := get_lt hlt
  have htm : u ∈ e.kids := List.mem_of_getElem? ht
  have hgt : e.kids[p] = u := by rw [List.getElem?_eq_getElem hlt] at ht; exact Option.some.inj ht
  have hdr : e.kids.drop p = u :: e.kids.drop (p + 1) := by rw [List.drop_eq_getElem_cons hlt, hgt]
  have hu := ih u htm
  have htk : (e.kids.map embM).take (p + 1) = (e.kids.map embM).take p ++ [embM u] := by rw [List.take_add_one, List.getElem?_map, ht]; rfl
  have hlm : min p (e.kids.map embM).length = p := by simp; omega
  generalize e.kids.map embM = Z at *
  generalize embM u = su at *
  repeat' first | ((first | refine aops_end (hK _ ?_) | refine aopsD_end (hK _ ?_) | refine aopsF_end (hK _ ?_)); clear hK K) | ((first | refine aops_go ?_ | refine aopsD_go ?_ | refine aopsF_go ?_ | refine wpcall_pure rfl (hu) ?_); simp [hlt, hgt, hlm]; (try simp (disch := omega) only [wrap64]); (try (refine gen fun q hq => ?_; cases q <;> (try simp [hlt, hgt, hlm] at hq) <;> (try (have hh : True := hq; clear hh hq))))) | (refine ⟨by omega, by omega, ?_⟩) | (refine ⟨p + 1, by dsimp only; omega, by dsimp only; omega, ?_, ?_, ?_⟩ <;> simp (disch := omega) [ups, wrap64, htk, eTm_def, hlm]) | refine T.rd (id := 9) mixed (fun _ => false) [9, 11] (by kernel_rfl) fun K hK => ?_ | refine T.rd1 (id := 9) mixed (fun _ => false) [9, 11] (by kernel_rfl) fun K hK => ?_ | refine T.r0 fun K hK => ?_ | refine T.r1 fun K hK => ?_ | (refine ⟨by omega, ?_⟩) | refine T.ct rfl ?_ | refine T.cf rfl ?_ | refine T.seq ?_ | refine T.block ?_ | refine T.skip ?_ | refine T.exit ?_
 ·have hp' : p = e.kids.length := by omega
  subst hp'
  have hlm : (e.kids.map embM).length = e.kids.length := by simp
  rw [List.take_of_length_le (by omega)]
  generalize e.kids.map embM = Z at *
  rcases ho with ho | ho | ho | ho | ho
  ·repeat' first | ((first | refine aops_end (hK _ ?_) | refine aopsD_end (hK _ ?_) | refine aopsF_end (hK _ ?_)); clear hK K) | ((first | refine aops_go ?_ | refine aopsD_go ?_ | refine aopsF_go ?_); simp [hlt, hlm, ho]; (try (refine gen fun q hq => ?_; cases q <;> (try simp [hlt, hlm, ho] at hq) <;> (try (have hh : True := hq; clear hh hq))))) | (refine T.ret (Done.val (Or.inr rfl) ?_) <;> simp [resAs, Tryz.results82, hlm, ho] <;> omega) | refine T.rd (id := 9) mixed (fun _ => false) [9, 11] (by kernel_rfl) fun K hK => ?_ | refine T.rd1 (id := 9) mixed (fun _ => false) [9, 11] (by kernel_rfl) fun K hK => ?_ | refine T.r0 fun K hK => ?_ | refine T.r1 fun K hK => ?_ | (refine ⟨by omega, ?_⟩) | refine T.ct rfl ?_ | refine T.cf rfl ?_ | refine T.seq ?_ | refine T.block ?_ | refine T.skip ?_ | refine T.exit ?_
  ·repeat' first | ((first | refine aops_end (hK _ ?_) | refine aopsD_end (hK _ ?_) | refine aopsF_end (hK _ ?_)); clear hK K) | ((first | refine aops_go ?_ | refine aopsD_go ?_ | refine aopsF_go ?_); simp [hlt, hlm, ho]; (try (refine gen fun q hq => ?_; cases q <;> (try simp [hlt, hlm, ho] at hq) <;> (try (have hh : True := hq; clear hh hq))))) | (refine T.ret (Done.val (Or.inr rfl) ?_) <;> simp [resAs, Tryz.results82, hlm, ho] <;> omega) | refine T.rd (id := 9) mixed (fun _ => false) [9, 11] (by kernel_rfl) fun K hK => ?_ | refine T.rd1 (id := 9) mixed (fun _ => false) [9, 11] (by kernel_rfl) fun K hK => ?_ | refine T.r0 fun K hK => ?_ | refine T.r1 fun K hK => ?_ | (refine ⟨by omega, ?_⟩) | refine T.ct rfl ?_ | refine T.cf rfl ?_ | refine T.seq ?_ | refine T.block ?_ | refine T.skip ?_ | refine T.exit ?_
  ·repeat' first | ((first | refine aops_end (hK _ ?_) | refine aopsD_end (hK _ ?_) | refine aopsF_end (hK _ ?_)); clear hK K) | ((first | refine aops_go ?_ | refine aopsD_go ?_ | refine aopsF_go ?_); simp [hlt, hlm, ho]; (try (refine gen fun q hq => ?_; cases q <;> (try simp [hlt, hlm, ho] at hq) <;> (try (have hh : True := hq; clear hh hq))))) | (refine T.ret (Done.val (Or.inr rfl) ?_) <;> simp [resAs, Tryz.results82, hlm, ho] <;> omega) | refine T.rd (id := 9) mixed (fun _ => false) [9, 11] (by kernel_rfl) fun K hK => ?_ | refine T.rd1 (id := 9) mixed (fun _ => false) [9, 11] (by kernel_rfl) fun K hK => ?_ | refine T.r0 fun K hK => ?_ | refine T.r1 fun K hK => ?_ | (refine ⟨by omega, ?_⟩) | refine T.ct rfl ?_ | refine T.cf rfl ?_ | refine T.seq ?_ | refine T.block ?_ | refine T.skip ?_ | refine T.exit ?_
  ·repeat' first | ((first | refine aops_end (hK _ ?_) | refine aopsD_end (hK _ ?_) | refine aopsF_end (hK _ ?_)); clear hK K) | ((first | refine aops_go ?_ | refine aopsD_go ?_ | refine aopsF_go ?_); simp [hlt, hlm, ho]; (try (refine gen fun q hq => ?_; cases q <;> (try simp [hlt, hlm, ho] at hq) <;> (try (have hh : True := hq; clear hh hq))))) | (refine T.ret (Done.val (Or.inr rfl) ?_) <;> simp [resAs, Tryz.results82, hlm, ho] <;> omega) | refine T.rd (id := 9) mixed (fun _ => false) [9, 11] (by kernel_rfl) fun K hK => ?_ | refine T.rd1 (id := 9) mixed (fun _ => false) [9, 11] (by kernel_rfl) fun K hK => ?_ | refine T.r0 fun K hK => ?_ | refine T.r1 fun K hK => ?_ | (refine ⟨by omega, ?_⟩) | refine T.ct rfl ?_ | refine T.cf rfl ?_ | refine T.seq ?_ | refine T.block ?_ | refine T.skip ?_ | refine T.exit ?_
  ·repeat' first | ((first | refine aops_end (hK _ ?_) | refine aopsD_end (hK _ ?_) | refine aopsF_end (hK _ ?_)); clear hK K) | ((first | refine aops_go ?_ | refine aopsD_go ?_ | refine aopsF_go ?_); simp [hlt, hlm, ho]; (try (refine gen fun q hq => ?_; cases q <;> (try simp [hlt, hlm, ho] at hq) <;> (try (have hh : True := hq; clear hh hq))))) | (refine T.ret (Done.val (Or.inr rfl) ?_) <;> simp [resAs, Tryz.results82, hlm, ho] <;> omega) | refine T.rd (id := 9) mixed (fun _ => false) [9, 11] (by kernel_rfl) fun K hK => ?_ | refine T.rd1 (id := 9) mixed (fun _ => false) [9, 11] (by kernel_rfl) fun K hK => ?_ | refine T.r0 fun K hK => ?_ | refine T.r1 fun K hK => ?_ | (refine ⟨by omega, ?_⟩) | refine T.ct rfl ?_ | refine T.cf rfl ?_ | refine T.seq ?_ | refine T.block ?_ | refine T.skip ?_ | refine T.exit ?_

theorem l9Embed_lam (e : MTm) (h13 : ¬ e.kind = 13) (h5 : e.kind = 5) (hn : nTm e <= 1073741824)
  (ih : ∀ u ∈ e.kids, ACalls Tryz.prog 82 [aTm u] [] (aTm (embM u)) [] []) : ACalls Tryz.prog 82 [aTm e] [] (aTm (asAnyM (.mk e.kind e.name e.num anyT zeroT 0 (e.kids.map embM)))) [] [] := by
 have hnk2 : e.kids.length <= 1073741824 := by have := nTmS_len e.kids; rw [nTm_def] at hn; omega
 have hany := l1Any_ok
 have has := l9As_ok (.mk e.kind e.name e.num anyT zeroT 0 (e.kids.map embM))
 refine ACalls.of_body Tryz.func82 (by kernel_rfl) rfl (by kernel_rfl) (by simp [Tryz.ntmps82]) (by simp) ?_
 rw [Tryz.ntmps82]
 repeat' first | ((first | refine aops_end (hK _ ?_) | refine aopsD_end (hK _ ?_) | refine aopsF_end (hK _ ?_)); clear hK K) | ((first | refine aops_go ?_ | refine aopsD_go ?_ | refine aopsF_go ?_ | refine wpcall_pure rfl (hany) ?_); simp [h13, h5]; (try (refine gen fun q hq => ?_; cases q <;> (try simp [h13, h5] at hq) <;> (try (have hh : True := hq; clear hh hq))))) | refine T.rd (id := 9) mixed (fun _ => false) [9, 11] (by kernel_rfl) fun K hK => ?_ | refine T.rd1 (id := 9) mixed (fun _ => false) [9, 11] (by kernel_rfl) fun K hK => ?_ | refine T.r0 fun K hK => ?_ | refine T.r1 fun K hK => ?_ | (refine ⟨by omega, ?_⟩) | refine T.ct rfl ?_ | refine T.cf rfl ?_ | refine T.seq ?_ | refine T.block ?_ | refine T.skip ?_ | refine T.exit ?_
 refine T.ownifyObj 2 8 9 46 (row := [.d (.i 5), .d (.str e.name), .d (.i e.num), .d (.i 1), .d (.sl []), .d (.i 0), .nil, .d (.i 0), .nil]) (by simp) (by simp) ?_
 refine T.loopK (α := Nat) [1, 2, 3] (fun x => [(4, .i x)]) (fun x => [(2, [.d (.i 5), .d (.str e.name), .d (.i e.num), .d (.i 1), .d (.sl []), .d (.i 0), .nil, .d (.i 0), .own 0 x])]) (fun x => []) (fun p _ => [{ sz := 9, ety := 46, rows := ((e.kids.map embM).take p).map eTm, wr := true }]) (fun x => e.kids.length + 1 - x) (fun x => x <= e.kids.length) (by simp; rfl) (fun p hp => ?_) 0 (by simp) (by simp) (by simp) (by simp)
 dsimp only at hp ⊢
 simp only [ups, List.set_cons_zero, List.set_cons_succ, List.cons_append, List.nil_append, List.append_nil]
 by_cases hlt : p < e.kids.length
 ·obtain ⟨u, ht⟩ := get_lt hlt
  have htm : u ∈ e.kids := List.mem_of_getElem? ht
  have hgt : e.kids[p] = u := by rw [List.getElem?_eq_getElem hlt] at ht; exact Option.some.inj ht
  have hdr : e.kids.drop p = u :: e.kids.drop (p + 1) := by rw [List.drop_eq_getElem_cons hlt, hgt]
  have hu := ih u htm
  have htk : (e.kids.map embM).take (p + 1) = (e.kids.map embM).take p ++ [embM u] := by rw [List.take_add_one, List.getElem?_map, ht]; rfl
  have hlm : min p (e.kids.map embM).length = p := by simp; omega
  generalize e.kids.map embM = Z at *
  generalize embM u = su at *
  repeat' first | ((first | refine aops_end (hK _ ?_) | refine aopsD_end (hK _ ?_) | refine aopsF_end (hK _ ?_)); clear hK K) | ((first | refine aops_go ?_ | refine aopsD_go ?_ | refine aopsF_go ?_ | refine wpcall_pure rfl (hu) ?_); simp [hlt, hgt, hlm]; (try simp (disch := omega) only [wrap64]); (try (refine gen fun q hq => ?_; cases q <;> (try simp [hlt, hgt, hlm] at hq) <;> (try (have hh : True := hq; clear hh hq))))) | (refine ⟨by omega, by omega, ?_⟩) | (refine ⟨p + 1, by dsimp only; omega, by dsimp only; omega, ?_, ?_, ?_⟩ <;> simp (disch := omega) [ups, wrap64, htk, eTm_def, hlm]) | refine T.rd (id := 9) mixed (fun _ => false) [9, 11] (by kernel_rfl) fun K hK => ?_ | refine T.rd1 (id := 9) mixed (fun _ => false) [9, 11] (by kernel_rfl) fun K hK => ?_ | refine T.r0 fun K hK => ?_ | refine T.r1 fun K hK => ?_ | (refine ⟨by omega, ?_⟩) | refine T.ct rfl ?_ | refine T.cf rfl ?_ | refine T.seq ?_ | refine T.block ?_ | refine T.skip ?_ | refine T.exit ?_
 ·have hp' : p = e.kids.length := by omega
  subst hp'
  have hlm : (e.kids.map embM).length = e.kids.length := by simp
  rw [List.take_of_length_le (by omega)]
  generalize e.kids.map embM = Z at *
  generalize hR : asAnyM (.mk e.kind e.name e.num anyT zeroT 0 Z) = R at *
  repeat' first | ((first | refine aops_end (hK _ ?_) | refine aopsD_end (hK _ ?_) | refine aopsF_end (hK _ ?_)); clear hK K) | ((first | refine aops_go ?_ | refine aopsD_go ?_ | refine aopsF_go ?_ | (refine wpcall_pure ?_ (has) ?_; (focus (solve | simp [hlt, hlm, h5])))); simp [hlt, hlm, h5]; (try (refine gen fun q hq => ?_; cases q <;> (try simp [hlt, hlm, h5] at hq) <;> (try (have hh : True := hq; clear hh hq))))) | (refine T.ret (Done.val (Or.inr rfl) ?_) <;> simp [resAs, Tryz.results82] <;> omega) | refine T.rd (id := 9) mixed (fun _ => false) [9, 11] (by kernel_rfl) fun K hK => ?_ | refine T.rd1 (id := 9) mixed (fun _ => false) [9, 11] (by kernel_rfl) fun K hK => ?_ | refine T.r0 fun K hK => ?_ | refine T.r1 fun K hK => ?_ | (refine ⟨by omega, ?_⟩) | refine T.ct rfl ?_ | refine T.cf rfl ?_ | refine T.seq ?_ | refine T.block ?_ | refine T.skip ?_ | refine T.exit ?_

theorem l9Embed_oth (e : MTm) (h13 : ¬ e.kind = 13) (ho : ¬ (e.kind = 1 \/ e.kind = 6 \/ e.kind = 9 \/ e.kind = 11 \/ e.kind = 12)) (h5 : ¬ e.kind = 5) (hn : nTm e <= 1073741824)
  (ih : ∀ u ∈ e.kids, ACalls Tryz.prog 82 [aTm u] [] (aTm (embM u)) [] []) : ACalls Tryz.prog 82 [aTm e] [] (aTm (asAnyM (.mk e.kind e.name e.num zeroT zeroT 0 (e.kids.map embM)))) [] [] := by
 have hnk2 : e.kids.length <= 1073741824 := by have := nTmS_len e.kids; rw [nTm_def] at hn; omega
 have hany := l1Any_ok
 have has := l9As_ok (.mk e.kind e.name e.num zeroT zeroT 0 (e.kids.map embM))
 have g1 : ¬ e.kind = 1 := fun h => ho (.inl h)
 have g2 : ¬ e.kind = 6 := fun h => ho (.inr (.inl h))
 have g3 : ¬ e.kind = 9 := fun h => ho (.inr (.inr (.inl h)))
 have g4 : ¬ e.kind = 11 := fun h => ho (.inr (.inr (.inr (.inl h))))
 have g5 : ¬ e.kind = 12 := fun h => ho (.inr (.inr (.inr (.inr h))))
 refine ACalls.of_body Tryz.func82 (by kernel_rfl) rfl (by kernel_rfl) (by simp [Tryz.ntmps82]) (by simp) ?_
 rw [Tryz.ntmps82]
 repeat' first | ((first | refine aops_end (hK _ ?_) | refine aopsD_end (hK _ ?_) | refine aopsF_end (hK _ ?_)); clear hK K) | ((first | refine aops_go ?_ | refine aopsD_go ?_ | refine aopsF_go ?_ | refine wpcall_pure rfl (hany) ?_); simp [h13, h5]; (try (refine gen fun q hq => ?_; cases q <;> (try simp [h13, h5] at hq) <;> (try (have hh : True := hq; clear hh hq))))) | refine T.rd (id := 9) mixed (fun _ => false) [9, 11] (by kernel_rfl) fun K hK => ?_ | refine T.rd1 (id := 9) mixed (fun _ => false) [9, 11] (by kernel_rfl) fun K hK => ?_ | refine T.r0 fun K hK => ?_ | refine T.r1 fun K hK => ?_ | (refine ⟨by omega, ?_⟩) | refine T.ct rfl ?_ | refine T.cf rfl ?_ | refine T.seq ?_ | refine T.block ?_ | refine T.skip ?_ | refine T.exit ?_
 refine T.ownifyObj 2 8 9 46 (row := [.d (.i e.kind), .d (.str e.name), .d (.i e.num), .d (.i 0), .nil, .d (.i 0), .nil, .d (.i 0), .nil]) (by simp) (by simp) ?_
 refine T.loopK (α := Nat) [1, 2, 3] (fun x => [(4, .i x)]) (fun x => [(2, [.d (.i e.kind), .d (.str e.name), .d (.i e.num), .d (.i 0), .nil, .d (.i 0), .nil, .d (.i 0), .own 0 x])]) (fun x => []) (fun p _ => [{ sz := 9, ety := 46, rows := ((e.kids.map embM).take p).map eTm, wr := true }]) (fun x => e.kids.length + 1 - x) (fun x => x <= e.kids.length) (by simp; rfl) (fun p hp => ?_) 0 (by simp) (by simp) (by simp) (by simp)
 dsimp only at hp ⊢
 simp only [ups, List.set_cons_zero, List.set_cons_succ, List.cons_append, List.nil_append, List.append_nil]
 by_cases hlt : p < e.kids.length
 ·obtain ⟨u, ht⟩ := get_lt hlt
  have htm : u ∈ e.kids := List.mem_of_getElem? ht
  have hgt : e.kids[p] = u := by rw [List.getElem?_eq_getElem hlt] at ht; exact Option.some.inj ht
  have hdr : e.kids.drop p = u :: e.kids.drop (p + 1) := by rw [List.drop_eq_getElem_cons hlt, hgt]
  have hu := ih u htm
  have htk : (e.kids.map embM).take (p + 1) = (e.kids.map embM).take p ++ [embM u] := by rw [List.take_add_one, List.getElem?_map, ht]; rfl
  have hlm : min p (e.kids.map embM).length = p := by simp; omega
  generalize e.kids.map embM = Z at *
  generalize embM u = su at *
  repeat' first | ((first | refine aops_end (hK _ ?_) | refine aopsD_end (hK _ ?_) | refine aopsF_end (hK _ ?_)); clear hK K) | ((first | refine aops_go ?_ | refine aopsD_go ?_ | refine aopsF_go ?_ | refine wpcall_pure rfl (hu) ?_); simp [hlt, hgt, hlm]; (try simp (disch := omega) only [wrap64]); (try (refine gen fun q hq => ?_; cases q <;> (try simp [hlt, hgt, hlm] at hq) <;> (try (have hh : True := hq; clear hh hq))))) | (refine ⟨by omega, by omega, ?_⟩) | (refine ⟨p + 1, by dsimp only; omega, by dsimp only; omega, ?_, ?_, ?_⟩ <;> simp (disch := omega) [ups, wrap64, htk, eTm_def, hlm]) | refine T.rd (id := 9) mixed (fun _ => false) [9, 11] (by kernel_rfl) fun K hK => ?_ | refine T.rd1 (id := 9) mixed (fun _ => false) [9, 11] (by kernel_rfl) fun K hK => ?_ | refine T.r0 fun K hK => ?_ | refine T.r1 fun K hK => ?_ | (refine ⟨by omega, ?_⟩) | refine T.ct rfl ?_ | refine T.cf rfl ?_ | refine T.seq ?_ | refine T.block ?_ | refine T.skip ?_ | refine T.exit ?_
 ·have hp' : p = e.kids.length := by omega
  subst hp'
  have hlm : (e.kids.map embM).length = e.kids.length := by simp
  rw [List.take_of_length_le (by omega)]
  generalize e.kids.map embM = Z at *
  generalize hR : asAnyM (.mk e.kind e.name e.num zeroT zeroT 0 Z) = R at *
  repeat' first | ((first | refine aops_end (hK _ ?_) | refine aopsD_end (hK _ ?_) | refine aopsF_end (hK _ ?_)); clear hK K) | ((first | refine aops_go ?_ | refine aopsD_go ?_ | refine aopsF_go ?_ | (refine wpcall_pure ?_ (has) ?_; (focus (solve | simp [hlt, hlm, g1, g2, g3, g4, g5])))); simp [hlt, hlm, g1, g2, g3, g4, g5]; (try (refine gen fun q hq => ?_; cases q <;> (try simp [hlt, hlm, g1, g2, g3, g4, g5] at hq) <;> (try (have hh : True := hq; clear hh hq))))) | (refine T.ret (Done.val (Or.inr rfl) ?_) <;> simp [resAs, Tryz.results82] <;> omega) | refine T.rd (id := 9) mixed (fun _ => false) [9, 11] (by kernel_rfl) fun K hK => ?_ | refine T.rd1 (id := 9) mixed (fun _ => false) [9, 11] (by kernel_rfl) fun K hK => ?_ | refine T.r0 fun K hK => ?_ | refine T.r1 fun K hK => ?_ | (refine ⟨by omega, ?_⟩) | refine T.ct rfl ?_ | refine T.cf rfl ?_ | refine T.seq ?_ | refine T.block ?_ | refine T.skip ?_ | refine T.exit ?_

theorem l9Embed_ok : ∀ (e : MTm) (d : Nat), TmV 14 d e -> nTm e <= 1073741824 -> ACalls Tryz.prog 82 [aTm e] [] (aTm (embM e)) [] [] := by
 intro e
 induction e using MTm.ind with
 | h e ih =>
  intro d hv hn
  obtain ⟨hp1, hp2⟩ := hv.plain
  obtain ⟨d', rfl, hne, _, _, hk⟩ := shapeTm_kids hv.shape
  have ih' : ∀ u ∈ e.kids, ACalls Tryz.prog 82 [aTm u] [] (aTm (embM u)) [] [] := fun u hu => ih u hu d' (TmV.of (hk u hu)) (by have := nTmS_mem hu; rw [nTm_def] at hn; omega)
  by_cases hh : e.kind = 13
  ·obtain ⟨x, hx⟩ := hp1 (.inl hh)
   have h1 := ih' x (by simp [hx])
   rw [show embM e = embM x by rw [embM, mapM_def]; simp [embG, hh, hx, embM]]
   generalize embM x = R at *
   refine ACalls.of_body Tryz.func82 (by kernel_rfl) rfl (by kernel_rfl) (by simp [Tryz.ntmps82]) (by simp) ?_
   rw [Tryz.ntmps82]
   repeat' first | ((first | refine aops_end (hK _ ?_) | refine aopsD_end (hK _ ?_) | refine aopsF_end (hK _ ?_)); clear hK K) | ((first | refine aops_go ?_ | refine aopsD_go ?_ | refine aopsF_go ?_ | (refine wpcall_pure ?_ (h1) ?_; (focus (solve | simp [hh, hx, eTm_def])))); simp [hh, hx, eTm_def]; (try (refine gen fun q hq => ?_; cases q <;> (try simp [hh, hx, eTm_def] at hq) <;> (try (have hh : True := hq; clear hh hq))))) | (refine T.ret (Done.val (Or.inr rfl) ?_) <;> simp [resAs, Tryz.results82] <;> omega) | refine T.rd (id := 9) mixed (fun _ => false) [9, 11] (by kernel_rfl) fun K hK => ?_ | refine T.rd1 (id := 9) mixed (fun _ => false) [9, 11] (by kernel_rfl) fun K hK => ?_ | refine T.r0 fun K hK => ?_ | refine T.r1 fun K hK => ?_ | (refine ⟨by omega, ?_⟩) | refine T.ct rfl ?_ | refine T.cf rfl ?_ | refine T.seq ?_ | refine T.block ?_ | refine T.skip ?_ | refine T.exit ?_
  ·obtain ⟨hf, hl, ht⟩ := hp2 (fun h => h.elim hh hne)
   have e0 : embM e = embG (.mk e.kind e.name e.num e.ty e.fr e.label (e.kids.map embM)) := by rw [embM, mapM_def]; rfl
   rw [e0, hf, hl]
   by_cases h5 : e.kind = 5
   ·have := l9Embed_lam e hh h5 hn ih'
    rw [show embG (.mk e.kind e.name e.num e.ty zeroT 0 (e.kids.map embM)) = asAnyM (.mk e.kind e.name e.num anyT zeroT 0 (e.kids.map embM)) by simp [embG, h5]]
    exact this
   ·rw [ht h5]
    by_cases ho : e.kind = 1 \/ e.kind = 6 \/ e.kind = 9 \/ e.kind = 11 \/ e.kind = 12
    ·rw [show embG (.mk e.kind e.name e.num zeroT zeroT 0 (e.kids.map embM)) = .mk e.kind e.name e.num zeroT zeroT 0 (e.kids.map embM) by simp [embG, hh, ho]]
     exact l9Embed_out e hh ho hn ih'
    ·rw [show embG (.mk e.kind e.name e.num zeroT zeroT 0 (e.kids.map embM)) = asAnyM (.mk e.kind e.name e.num zeroT zeroT 0 (e.kids.map embM)) by simp [embG, hh, ho, h5]]
     exact l9Embed_oth e hh ho h5 hn ih'

theorem EmbedTermS_ok (e : MTm) (hn : nTm e <= 1073741824) : ACalls Tryz.prog 28 [aTm e] [] (.tup (tmRes (embedTermM e))) [] [] := by
 have h1 := TermValidS_ok e (by omega)
 rw [embedTermM]
 cases hv : termValidM e with
 | false =>
  rw [hv] at h1
  simp only [Bool.false_eq_true, if_false, tmRes]
  refine ACalls.of_body Tryz.func28 (by kernel_rfl) rfl (by kernel_rfl) (by simp [Tryz.ntmps28]) (by simp) ?_
  rw [Tryz.ntmps28]
  repeat' first | ((first | refine aops_end (hK _ ?_) | refine aopsD_end (hK _ ?_) | refine aopsF_end (hK _ ?_)); clear hK K) | ((first | refine aops_go ?_ | refine aopsD_go ?_ | refine aopsF_go ?_ | refine wpcall_pure rfl (h1) ?_); simp; (try (refine gen fun q hq => ?_; cases q <;> (try simp at hq) <;> (try (have hh : True := hq; clear hh hq))))) | (refine T.ret (Done.tup (Or.inr rfl) ?_) <;> simp [resAs, Tryz.results28] <;> omega) | refine T.r0 fun K hK => ?_ | refine T.r1 fun K hK => ?_ | (refine ⟨by omega, ?_⟩) | refine T.ct rfl ?_ | refine T.cf rfl ?_ | refine T.seq ?_ | refine T.block ?_ | refine T.skip ?_ | refine T.exit ?_
 | true =>
  rw [hv] at h1
  have h2 := l9Embed_ok e 12 (termValidM_iff.1 hv).1 hn
  have h3 := TermValidS_ok (embM e) (by have := emb_small hv; omega)
  simp only [if_true]
  generalize embM e = R at *
  cases hr : termValidM R with
  | false =>
   rw [hr] at h3
   simp only [Bool.false_eq_true, if_false, tmRes]
   refine ACalls.of_body Tryz.func28 (by kernel_rfl) rfl (by kernel_rfl) (by simp [Tryz.ntmps28]) (by simp) ?_
   rw [Tryz.ntmps28]
   repeat' first | ((first | refine aops_end (hK _ ?_) | refine aopsD_end (hK _ ?_) | refine aopsF_end (hK _ ?_)); clear hK K) | ((first | refine aops_go ?_ | refine aopsD_go ?_ | refine aopsF_go ?_ | refine wpcall_pure rfl (h1) ?_ | refine wpcall_pure rfl (h2) ?_ | refine wpcall_pure rfl (h3) ?_); simp; (try (refine gen fun q hq => ?_; cases q <;> (try simp at hq) <;> (try (have hh : True := hq; clear hh hq))))) | (refine T.ret (Done.tup (Or.inr rfl) ?_) <;> simp [resAs, Tryz.results28] <;> omega) | refine T.r0 fun K hK => ?_ | refine T.r1 fun K hK => ?_ | (refine ⟨by omega, ?_⟩) | refine T.ct rfl ?_ | refine T.cf rfl ?_ | refine T.seq ?_ | refine T.block ?_ | refine T.skip ?_ | refine T.exit ?_
  | true =>
   rw [hr] at h3
   simp only [if_true, tmRes]
   refine ACalls.of_body Tryz.func28 (by kernel_rfl) rfl (by kernel_rfl) (by simp [Tryz.ntmps28]) (by simp) ?_
   rw [Tryz.ntmps28]
   repeat' first | ((first | refine aops_end (hK _ ?_) | refine aopsD_end (hK _ ?_) | refine aopsF_end (hK _ ?_)); clear hK K) | ((first | refine aops_go ?_ | refine aopsD_go ?_ | refine aopsF_go ?_ | refine wpcall_pure rfl (h1) ?_ | refine wpcall_pure rfl (h2) ?_ | refine wpcall_pure rfl (h3) ?_); simp; (try (refine gen fun q hq => ?_; cases q <;> (try simp at hq) <;> (try (have hh : True := hq; clear hh hq))))) | (refine T.ret (Done.tup (Or.inr rfl) ?_) <;> simp [resAs, Tryz.results28] <;> omega) | refine T.r0 fun K hK => ?_ | refine T.r1 fun K hK => ?_ | (refine ⟨by omega, ?_⟩) | refine T.ct rfl ?_ | refine T.cf rfl ?_ | refine T.seq ?_ | refine T.block ?_ | refine T.skip ?_ | refine T.exit ?_

theorem wrap_i64_1 : IntKind.i64.wrap 1 = 1 := by decide

theorem FormatAny_ok : ACalls Tryz.prog 40 [aTy anyT] [] (.s [63]) [] [] := by
 have h1 := TypeValid_ok anyT (by simp [nTy_mk, nTyS])
 rw [show shapeTy 4 anyT = true by simp [shapeTy, tyKids]] at h1
 have h2 : ACalls Tryz.prog 118 [.i 1] [] (.s [63]) [] [] := by
  refine ACalls.of_body Tryz.func118 (by kernel_rfl) rfl (by kernel_rfl) (by simp [Tryz.ntmps118]) (by simp) ?_
  rw [Tryz.ntmps118]
  repeat' first | ((first | refine aops_end (hK _ ?_) | refine aopsD_end (hK _ ?_) | refine aopsF_end (hK _ ?_)); clear hK K) | ((first | refine aops_go ?_ | refine aopsD_go ?_ | refine aopsF_go ?_); simp [wrap_i64_0, wrap_i64_1]) | (refine T.ret (Done.data (Or.inr rfl) ?_ ?_) <;> simp [Tryz.results118] <;> omega) | refine T.r0 fun K hK => ?_ | refine T.r1 fun K hK => ?_ | (refine ⟨by omega, ?_⟩) | refine T.ct rfl ?_ | refine T.cf rfl ?_ | refine T.seq ?_ | refine T.block ?_ | refine T.skip ?_ | refine T.exit ?_
 have h3 : ACalls Tryz.prog 104 [aTy anyT] [] (.s [63]) [] [] := by
  refine ACalls.of_body Tryz.func104 (by kernel_rfl) rfl (by kernel_rfl) (by simp [Tryz.ntmps104]) (by simp) ?_
  rw [Tryz.ntmps104]
  repeat' first | ((first | refine aops_end (hK _ ?_) | refine aopsD_end (hK _ ?_) | refine aopsF_end (hK _ ?_)); clear hK K) | ((first | refine aops_go ?_ | refine aopsD_go ?_ | refine aopsF_go ?_ | refine wpcall_pure rfl (h2) ?_); simp) | (refine T.ret (Done.data (Or.inr rfl) ?_ ?_) <;> simp [Tryz.results104] <;> omega) | refine T.rd (id := 3) mixed (fun _ => false) [] (by kernel_rfl) fun K hK => ?_ | refine T.rd1 (id := 3) mixed (fun _ => false) [] (by kernel_rfl) fun K hK => ?_ | refine T.r0 fun K hK => ?_ | refine T.r1 fun K hK => ?_ | (refine ⟨by omega, ?_⟩) | refine T.ct rfl ?_ | refine T.cf rfl ?_ | refine T.seq ?_ | refine T.block ?_ | refine T.skip ?_ | refine T.exit ?_
 refine ACalls.of_body Tryz.func40 (by kernel_rfl) rfl (by kernel_rfl) (by simp [Tryz.ntmps40]) (by simp) ?_
 rw [Tryz.ntmps40]
 repeat' first | ((first | refine aops_end (hK _ ?_) | refine aopsD_end (hK _ ?_) | refine aopsF_end (hK _ ?_)); clear hK K) | ((first | refine aops_go ?_ | refine aopsD_go ?_ | refine aopsF_go ?_ | (refine wpcall_pure ?_ (h1) ?_; (focus (solve | simp))) | (refine wpcall_pure ?_ (h3) ?_; (focus (solve | simp)))); simp) | (refine T.ret (Done.data (Or.inr rfl) ?_ ?_) <;> simp [Tryz.results40] <;> omega) | refine T.r0 fun K hK => ?_ | refine T.r1 fun K hK => ?_ | (refine ⟨by omega, ?_⟩) | refine T.ct rfl ?_ | refine T.cf rfl ?_ | refine T.seq ?_ | refine T.block ?_ | refine T.skip ?_ | refine T.exit ?_

end Go.Proofs.YtflmjilnecanhaaGreatDoor
