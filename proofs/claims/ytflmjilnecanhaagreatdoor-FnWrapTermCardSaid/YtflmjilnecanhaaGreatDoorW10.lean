/- A part of the library of this seat. -/
import Derived.Test.YtflmjilnecanhaaGreatDoorW9
set_option linter.unusedVariables false
set_option linter.unusedSimpArgs false
namespace Go.Proofs.YtflmjilnecanhaaGreatDoor
attribute [-simp] Go.Av.freeStepG Go.Av.exA Go.Av.innAsH Go.Av.AV.innH Go.Av.CV.innH Go.Av.innHs Go.Av.AV.outnH Go.Av.CV.outnH
open Go Go.Av
attribute [local irreducible] T ACalls TX EX LX Draws Some_ ACallsX eTy eTm MTy.kind MTy.kids MTm.kind MTm.name MTm.num MTm.ty MTm.fr MTm.label MTm.kids
attribute [local simp] eTy_def eTm_def
set_option maxHeartbeats 16000000
set_option maxRecDepth 8000

theorem base_ok (k : Int) : ACalls Tryz.prog 79 [.i k] [] (aTy (.mk k [])) [] [] := by
 refine ACalls.of_body Tryz.func79 (by kernel_rfl) rfl (by kernel_rfl) (by simp [Tryz.ntmps79]) (by simp) ?_
 rw [Tryz.ntmps79]
 repeat' first | (refine aops_end (hK _ ?_); clear hK K) | (refine aops_go ?_; simp; (try (refine gen fun q hq => ?_; cases q <;> (try simp at hq) <;> (try (have hh : True := hq; clear hh hq))))) | (refine T.ret (Done.val (Or.inr rfl) ?_) <;> simp [resAs, Tryz.results79] <;> omega) | refine T.r0 fun K hK => ?_

theorem both_ok (k : Int) (a b : MTy) : ACalls Tryz.prog 248 [.i k, aTy a, aTy b] [] (aTy (.mk k [a, b])) [] [] := by
 refine ACalls.of_body Tryz.func248 (by kernel_rfl) rfl (by kernel_rfl) (by simp [Tryz.ntmps248]) (by simp) ?_
 rw [Tryz.ntmps248]
 repeat' first | (refine aops_end (hK _ ?_); clear hK K) | (refine aops_go ?_; simp; (try (refine gen fun q hq => ?_; cases q <;> (try simp at hq) <;> (try (have hh : True := hq; clear hh hq))))) | (refine T.ret (Done.val (Or.inr rfl) ?_) <;> simp [resAs, Tryz.results248, eTy_def] <;> omega) | refine T.r0 fun K hK => ?_

theorem ownType_ok : ∀ (t : MTy), nTy t <= 1099511627776 -> ACalls Tryz.prog 154 [aTy t] [] (aTy t) [] [] := by
 intro t
 induction t using MTy.ind with
 | h t ih =>
  intro hn
  rw [nTy_def] at hn
  have hlen := nTyS_len t.kids
  refine ACalls.of_body Tryz.func154 (by kernel_rfl) rfl (by kernel_rfl) (by simp [Tryz.ntmps154]) (by simp) ?_
  rw [Tryz.ntmps154]
  repeat' first | (refine aops_end (hK _ ?_); clear hK K) | (refine aops_go ?_; simp; (try (refine gen fun q hq => ?_; cases q <;> (try simp at hq) <;> (try (have hh : True := hq; clear hh hq))))) | refine T.r0 fun K hK => ?_ | refine T.seq ?_ | refine T.block ?_
  refine T.ownifyObj 2 1 2 43 (row := [.d (.i t.kind), .nil]) (by simp) (by simp) ?_
  refine T.loopK (α := Nat × List (List CV)) [2, 3, 10, 11] (fun x => [(12, .i x.1)]) (fun x => [(2, [.d (.i t.kind), .own 0 x.1])]) (fun x => x.2) (fun x _ => [{ sz := 2, ety := 43, rows := (t.kids.take x.1).map eTy, wr := true }]) (fun x => t.kids.length + 1 - x.1) (fun x => x.1 <= t.kids.length) (by simp; rfl) (fun x hx => ?_) (0, []) (by simp) (by simp) (by simp) (by simp)
  obtain ⟨p, G⟩ := x
  dsimp only at hx ⊢
  by_cases hlt : p < t.kids.length
  ·obtain ⟨u, ht⟩ := get_lt hlt
   have htm : u ∈ t.kids := List.mem_of_getElem? ht
   have hgt : t.kids[p] = u := by rw [List.getElem?_eq_getElem hlt] at ht; exact Option.some.inj ht
   have hdr : t.kids.drop p = u :: t.kids.drop (p + 1) := by rw [List.drop_eq_getElem_cons hlt, hgt]
   have hu := ih u htm (by have := nTyS_mem htm; omega)
   have htk : t.kids.take (p + 1) = t.kids.take p ++ [u] := by rw [List.take_add_one, ht]; rfl
   have hmin : min p t.kids.length = p := by omega
   simp only [ups, List.set_cons_zero, List.set_cons_succ, List.cons_append, List.nil_append]
   repeat' first | ((first | refine aops_end (hK _ ?_) | refine aopsD_end (hK _ ?_)); clear hK K) | ((first | refine aops_go ?_ | refine aopsD_go ?_ | refine wpcall_pure rfl (hu) ?_); simp [hlt, hgt, hmin]; (try simp (disch := omega) only [wrap64]); (try (refine gen fun q hq => ?_; cases q <;> (try simp [hlt, hgt, hmin] at hq) <;> (try (have hh : True := hq; clear hh hq))))) | (refine ⟨by omega, by omega, ?_⟩) | (refine ⟨(p + 1, _), by dsimp only; omega, by dsimp only; omega, rfl, ?_, ?_⟩ <;> simp (disch := omega) [wrap64, htk, eTy_def]) | refine T.rd1 (id := 5) mixed (fun _ => false) [5, 7] (by kernel_rfl) fun K hK => ?_ | refine T.r0 fun K hK => ?_ | refine T.r1 fun K hK => ?_ | refine T.ct rfl ?_ | refine T.seq ?_ | refine T.block ?_ | refine T.skip ?_
  ·have hp' : p = t.kids.length := by omega
   subst hp'
   simp only [ups, List.set_cons_zero, List.set_cons_succ, List.cons_append, List.nil_append]
   repeat' first | (refine aops_end (hK _ ?_); clear hK K) | (refine aops_go ?_; simp [hlt]; (try (refine gen fun q hq => ?_; cases q <;> (try simp [hlt] at hq) <;> (try (have hh : True := hq; clear hh hq))))) | (refine T.ret (Done.val (Or.inr rfl) ?_) <;> simp [resAs, Tryz.results154, eTy_def] <;> omega) | refine T.r0 fun K hK => ?_ | refine T.cf rfl ?_ | refine T.seq ?_ | refine T.exit ?_

theorem match_ok (k : Int) (hk : k ≠ 1) (t : MTy) (hl : t.kind = k -> 2 <= t.kids.length) :
  ACalls Tryz.prog 249 [aTy t, .i k] [] (.tup (match matchM k t with | some (a, b) => [aTy a, aTy b, .b true] | none => [aTy zeroT, aTy zeroT, .b false])) [] [] := by
 have hany := base_ok 1
 simp only [matchM]
 by_cases hk1 : t.kind = 1
 ·rw [if_pos hk1]
  have hk' : ¬ (1 : Int) = k := fun h => hk h.symm
  dsimp only
  refine ACalls.of_body Tryz.func249 (by kernel_rfl) rfl (by kernel_rfl) (by simp [Tryz.ntmps249]) (by simp) ?_
  rw [Tryz.ntmps249]
  repeat' first | (refine aops_end (hK _ ?_); clear hK K) | ((first | refine aops_go ?_ | refine wpcall_pure rfl (hany) ?_); simp [hk1, hk']; (try (refine gen fun q hq => ?_; cases q <;> (try simp [hk1, hk'] at hq) <;> (try (have hh : True := hq; clear hh hq))))) | (refine T.ret (Done.tup (Or.inr rfl) ?_) <;> simp [resAs, Tryz.results249] <;> omega) | refine T.r0 fun K hK => ?_ | refine T.ct rfl ?_ | refine T.cf rfl ?_ | refine T.seq ?_ | refine T.block ?_
 rw [if_neg hk1]
 by_cases hk : t.kind = k
 rotate_left
 ·rw [if_neg hk]
  dsimp only
  refine ACalls.of_body Tryz.func249 (by kernel_rfl) rfl (by kernel_rfl) (by simp [Tryz.ntmps249]) (by simp) ?_
  rw [Tryz.ntmps249]
  repeat' first | (refine aops_end (hK _ ?_); clear hK K) | (refine aops_go ?_; simp [hk1, hk]; (try (refine gen fun q hq => ?_; cases q <;> (try simp [hk1, hk] at hq) <;> (try (have hh : True := hq; clear hh hq))))) | (refine T.ret (Done.tup (Or.inr rfl) ?_) <;> simp [resAs, Tryz.results249] <;> omega) | refine T.r0 fun K hK => ?_ | refine T.cf rfl ?_ | refine T.seq ?_ | refine T.block ?_ | refine T.skip ?_
 rw [if_pos hk]
 have hl2 := hl hk
 match hkd : t.kids, hl2 with
 | a :: b :: r, _ =>
  dsimp only
  refine ACalls.of_body Tryz.func249 (by kernel_rfl) rfl (by kernel_rfl) (by simp [Tryz.ntmps249]) (by simp) ?_
  rw [Tryz.ntmps249]
  repeat' first | ((first | refine aops_end (hK _ ?_) | refine aopsF_end (hK _ ?_)); clear hK K) | ((first | refine aops_go ?_ | refine aopsF_go ?_); simp [hk, hkd]; (try (refine gen fun q hq => ?_; cases q <;> (try simp [hk, hkd] at hq) <;> (try (have hh : True := hq; clear hh hq))))) | (refine T.ret (Done.tup (Or.inr rfl) ?_) <;> simp [resAs, Tryz.results249] <;> omega) | refine T.rdF (id := 3) mixed (fun _ => false) [8, 9] [5, 6, 7] 9 [1] (by kernel_rfl) fun K hK => ?_ | refine T.r0 fun K hK => ?_ | refine T.ct rfl ?_ | refine T.seq ?_ | refine T.block ?_

theorem meet_ok : ∀ {d : Nat} {a : MTy}, VTy d a -> d <= 4 -> ∀ {b : MTy}, VTy d b -> consTy a b = true -> ACalls Tryz.prog 251 [aTy a, aTy b] [] (aTy (meetTy a b)) [] [] := by
 intro d a ha
 induction ha with
 | any d =>
  intro hd b hb hc
  have hn : nTy b <= 1099511627776 := by have := shape_nTy _ b hb.shape; have : 2 ^ (d + 1) <= 2 ^ 4 := Nat.pow_le_pow_right (by omega) hd; omega
  have ho := ownType_ok b hn
  rw [show meetTy anyT b = b by rw [meetTy_def]; simp]
  refine ACalls.of_body Tryz.func251 (by kernel_rfl) rfl (by kernel_rfl) (by simp [Tryz.ntmps251]) (by simp) ?_
  rw [Tryz.ntmps251]
  repeat' first | (refine aops_end (hK _ ?_); clear hK K) | ((first | refine aops_go ?_ | refine wpcall_pure rfl (ho) ?_); simp; (try (refine gen fun q hq => ?_; cases q <;> (try simp at hq) <;> (try (have hh : True := hq; clear hh hq))))) | (refine T.ret (Done.val (Or.inr rfl) ?_) <;> simp [resAs, Tryz.results251] <;> omega) | refine T.r0 fun K hK => ?_ | refine T.ct rfl ?_ | refine T.seq ?_ | refine T.block ?_
 | int d =>
  intro hd b hb hc
  have ho := ownType_ok intT (by simp [nTy_mk, nTyS])
  have e : meetTy intT b = intT := by cases hb <;> simp [meetTy, meetTyS] <;> simp [consTy] at hc
  rw [e]
  by_cases hb1 : b.kind = 1
  ·refine ACalls.of_body Tryz.func251 (by kernel_rfl) rfl (by kernel_rfl) (by simp [Tryz.ntmps251]) (by simp) ?_
   rw [Tryz.ntmps251]
   repeat' first | (refine aops_end (hK _ ?_); clear hK K) | ((first | refine aops_go ?_ | (refine wpcall_pure ?_ (ho) ?_; (focus (solve | simp [hb1])))); simp [hb1]; (try (refine gen fun q hq => ?_; cases q <;> (try simp [hb1] at hq) <;> (try (have hh : True := hq; clear hh hq))))) | (refine T.ret (Done.val (Or.inr rfl) ?_) <;> simp [resAs, Tryz.results251] <;> omega) | refine T.r0 fun K hK => ?_ | refine T.ct rfl ?_ | refine T.cf rfl ?_ | refine T.seq ?_ | refine T.block ?_
  ·refine ACalls.of_body Tryz.func251 (by kernel_rfl) rfl (by kernel_rfl) (by simp [Tryz.ntmps251]) (by simp) ?_
   rw [Tryz.ntmps251]
   repeat' first | (refine aops_end (hK _ ?_); clear hK K) | ((first | refine aops_go ?_ | (refine wpcall_pure ?_ (ho) ?_; (focus (solve | simp [hb1])))); simp [hb1]; (try (refine gen fun q hq => ?_; cases q <;> (try simp [hb1] at hq) <;> (try (have hh : True := hq; clear hh hq))))) | (refine T.ret (Done.val (Or.inr rfl) ?_) <;> simp [resAs, Tryz.results251] <;> omega) | refine T.r0 fun K hK => ?_ | refine T.ct rfl ?_ | refine T.cf rfl ?_ | refine T.seq ?_ | refine T.block ?_
 | bool d =>
  intro hd b hb hc
  have ho := ownType_ok boolT (by simp [nTy_mk, nTyS])
  have e : meetTy boolT b = boolT := by cases hb <;> simp [meetTy, meetTyS] <;> simp [consTy] at hc
  rw [e]
  by_cases hb1 : b.kind = 1
  ·refine ACalls.of_body Tryz.func251 (by kernel_rfl) rfl (by kernel_rfl) (by simp [Tryz.ntmps251]) (by simp) ?_
   rw [Tryz.ntmps251]
   repeat' first | (refine aops_end (hK _ ?_); clear hK K) | ((first | refine aops_go ?_ | (refine wpcall_pure ?_ (ho) ?_; (focus (solve | simp [hb1])))); simp [hb1]; (try (refine gen fun q hq => ?_; cases q <;> (try simp [hb1] at hq) <;> (try (have hh : True := hq; clear hh hq))))) | (refine T.ret (Done.val (Or.inr rfl) ?_) <;> simp [resAs, Tryz.results251] <;> omega) | refine T.r0 fun K hK => ?_ | refine T.ct rfl ?_ | refine T.cf rfl ?_ | refine T.seq ?_ | refine T.block ?_
  ·refine ACalls.of_body Tryz.func251 (by kernel_rfl) rfl (by kernel_rfl) (by simp [Tryz.ntmps251]) (by simp) ?_
   rw [Tryz.ntmps251]
   repeat' first | (refine aops_end (hK _ ?_); clear hK K) | ((first | refine aops_go ?_ | (refine wpcall_pure ?_ (ho) ?_; (focus (solve | simp [hb1])))); simp [hb1]; (try (refine gen fun q hq => ?_; cases q <;> (try simp [hb1] at hq) <;> (try (have hh : True := hq; clear hh hq))))) | (refine T.ret (Done.val (Or.inr rfl) ?_) <;> simp [resAs, Tryz.results251] <;> omega) | refine T.r0 fun K hK => ?_ | refine T.ct rfl ?_ | refine T.cf rfl ?_ | refine T.seq ?_ | refine T.block ?_
 | @fn d x y hx hy ih1 ih2 =>
  intro hd b hb hc
  by_cases hb1 : b.kind = 1
  ·have e : b = anyT := by cases hb <;> simp at hb1 <;> rfl
   subst e
   have hn : nTy (.mk 4 [x, y]) <= 1099511627776 := by have := shape_nTy _ _ (VTy.fn hx hy).shape; have : 2 ^ (d + 1) <= 2 ^ 4 := Nat.pow_le_pow_right (by omega) hd; omega
   have ho := ownType_ok (.mk 4 [x, y]) hn
   rw [show meetTy (.mk 4 [x, y]) anyT = .mk 4 [x, y] by rw [meetTy_def]; simp]
   refine ACalls.of_body Tryz.func251 (by kernel_rfl) rfl (by kernel_rfl) (by simp [Tryz.ntmps251]) (by simp) ?_
   rw [Tryz.ntmps251]
   repeat' first | (refine aops_end (hK _ ?_); clear hK K) | ((first | refine aops_go ?_ | (refine wpcall_pure ?_ (ho) ?_; (focus (solve | simp)))); simp; (try (refine gen fun q hq => ?_; cases q <;> (try simp at hq) <;> (try (have hh : True := hq; clear hh hq))))) | (refine T.ret (Done.val (Or.inr rfl) ?_) <;> simp [resAs, Tryz.results251] <;> omega) | refine T.r0 fun K hK => ?_ | refine T.ct rfl ?_ | refine T.cf rfl ?_ | refine T.seq ?_ | refine T.block ?_
  ·obtain ⟨u, v, e, hu, hv⟩ : ∃ u v, b = .mk 4 [u, v] /\ VTy d u /\ VTy d v := by
    cases hb with
    | any => simp at hb1
    | int => simp [consTy] at hc
    | bool => simp [consTy] at hc
    | fn h1 h2 => first | exact ⟨_, _, rfl, h1, h2⟩ | simp [consTy] at hc
    | pair h1 h2 => first | exact ⟨_, _, rfl, h1, h2⟩ | simp [consTy] at hc
   subst e
   rw [cons_two (by omega)] at hc
   simp only [Bool.and_eq_true] at hc
   have h1 := ih1 (by omega) hu hc.1
   have h2 := ih2 (by omega) hv hc.2
   have h3 := both_ok 4 (meetTy x u) (meetTy y v)
   rw [meet_two (by omega)]
   refine ACalls.of_body Tryz.func251 (by kernel_rfl) rfl (by kernel_rfl) (by simp [Tryz.ntmps251]) (by simp) ?_
   rw [Tryz.ntmps251]
   repeat' first | ((first | refine aops_end (hK _ ?_) | refine aopsD_end (hK _ ?_)); clear hK K) | ((first | refine aops_go ?_ | refine aopsD_go ?_ | refine wpcall_pure rfl (h1) ?_ | refine wpcall_pure rfl (h2) ?_ | refine wpcall_pure rfl (h3) ?_); simp; (try (refine gen fun q hq => ?_; cases q <;> (try simp at hq) <;> (try (have hh : True := hq; clear hh hq))))) | (refine T.ret (Done.val (Or.inr rfl) ?_) <;> simp [resAs, Tryz.results251] <;> omega) | refine T.rd (id := 5) mixed (fun _ => false) [21] (by kernel_rfl) fun K hK => ?_ | refine T.r0 fun K hK => ?_ | refine T.cf rfl ?_ | refine T.seq ?_ | refine T.block ?_ | refine T.skip ?_
 | @pair d x y hx hy ih1 ih2 =>
  intro hd b hb hc
  by_cases hb1 : b.kind = 1
  ·have e : b = anyT := by cases hb <;> simp at hb1 <;> rfl
   subst e
   have hn : nTy (.mk 5 [x, y]) <= 1099511627776 := by have := shape_nTy _ _ (VTy.pair hx hy).shape; have : 2 ^ (d + 1) <= 2 ^ 4 := Nat.pow_le_pow_right (by omega) hd; omega
   have ho := ownType_ok (.mk 5 [x, y]) hn
   rw [show meetTy (.mk 5 [x, y]) anyT = .mk 5 [x, y] by rw [meetTy_def]; simp]
   refine ACalls.of_body Tryz.func251 (by kernel_rfl) rfl (by kernel_rfl) (by simp [Tryz.ntmps251]) (by simp) ?_
   rw [Tryz.ntmps251]
   repeat' first | (refine aops_end (hK _ ?_); clear hK K) | ((first | refine aops_go ?_ | (refine wpcall_pure ?_ (ho) ?_; (focus (solve | simp)))); simp; (try (refine gen fun q hq => ?_; cases q <;> (try simp at hq) <;> (try (have hh : True := hq; clear hh hq))))) | (refine T.ret (Done.val (Or.inr rfl) ?_) <;> simp [resAs, Tryz.results251] <;> omega) | refine T.r0 fun K hK => ?_ | refine T.ct rfl ?_ | refine T.cf rfl ?_ | refine T.seq ?_ | refine T.block ?_
  ·obtain ⟨u, v, e, hu, hv⟩ : ∃ u v, b = .mk 5 [u, v] /\ VTy d u /\ VTy d v := by
    cases hb with
    | any => simp at hb1
    | int => simp [consTy] at hc
    | bool => simp [consTy] at hc
    | fn h1 h2 => first | exact ⟨_, _, rfl, h1, h2⟩ | simp [consTy] at hc
    | pair h1 h2 => first | exact ⟨_, _, rfl, h1, h2⟩ | simp [consTy] at hc
   subst e
   rw [cons_two (by omega)] at hc
   simp only [Bool.and_eq_true] at hc
   have h1 := ih1 (by omega) hu hc.1
   have h2 := ih2 (by omega) hv hc.2
   have h3 := both_ok 5 (meetTy x u) (meetTy y v)
   rw [meet_two (by omega)]
   refine ACalls.of_body Tryz.func251 (by kernel_rfl) rfl (by kernel_rfl) (by simp [Tryz.ntmps251]) (by simp) ?_
   rw [Tryz.ntmps251]
   repeat' first | ((first | refine aops_end (hK _ ?_) | refine aopsD_end (hK _ ?_)); clear hK K) | ((first | refine aops_go ?_ | refine aopsD_go ?_ | refine wpcall_pure rfl (h1) ?_ | refine wpcall_pure rfl (h2) ?_ | refine wpcall_pure rfl (h3) ?_); simp; (try (refine gen fun q hq => ?_; cases q <;> (try simp at hq) <;> (try (have hh : True := hq; clear hh hq))))) | (refine T.ret (Done.val (Or.inr rfl) ?_) <;> simp [resAs, Tryz.results251] <;> omega) | refine T.rd (id := 5) mixed (fun _ => false) [21] (by kernel_rfl) fun K hK => ?_ | refine T.r0 fun K hK => ?_ | refine T.cf rfl ?_ | refine T.seq ?_ | refine T.block ?_ | refine T.skip ?_
end Go.Proofs.YtflmjilnecanhaaGreatDoor

namespace Go.Proofs.YtflmjilnecanhaaGreatDoor
attribute [-simp] Go.Av.freeStepG Go.Av.exA Go.Av.innAsH Go.Av.AV.innH Go.Av.CV.innH Go.Av.innHs Go.Av.AV.outnH Go.Av.CV.outnH
open Go Go.Av
attribute [local irreducible] T ACalls TX EX LX Draws Some_ ACallsX eTy eTm MTy.kind MTy.kids MTm.kind MTm.name MTm.num MTm.ty MTm.fr MTm.label MTm.kids
attribute [local simp] eTy_def eTm_def
set_option maxHeartbeats 16000000
set_option maxRecDepth 8000

theorem indexFuncBd_0 (f : FuncId) (l : List MBd) (q : MBd -> Bool) (hl : l.length <= 4611686018427387904) (hf : ∀ t ∈ l, ACalls Tryz.prog f [aBd t] [] (.b (q t)) [] []) :
  ACalls Tryz.prog 261 [.l (l.map eBd), .c (.fn f [])] [] (.i (firstIx q l 0)) [] [] := by
 refine ACalls.of_body Tryz.func261 (by kernel_rfl) rfl (by kernel_rfl) (by simp [Tryz.ntmps261]) (by simp) ?_
 rw [Tryz.ntmps261]
 repeat' first | (refine aops_end (hK _ ?_); clear hK K) | (refine aops_go ?_; simp; (try (refine gen fun q hq => ?_; cases q <;> (try simp at hq) <;> (try (have hh : True := hq; clear hh hq))))) | refine T.r0 fun K hK => ?_ | refine T.seq ?_ | refine T.block ?_
 obtain ⟨R, hR⟩ : ∃ R, firstIx q l 0 = R := ⟨_, rfl⟩
 rw [hR]
 refine T.loopF (fun p : Nat => ⟨[(0, .l (l.map eBd)), (1, .c (.fn f [])), (7, .i l.length), (8, .i p)], [], []⟩) (fun p => l.length + 1 - p) (fun p => p <= l.length /\ firstIx q (l.drop p) p = R) (fun p hp => ?_) 0 (by simpa using hR) (by simp)
 obtain ⟨hi, he⟩ := hp
 by_cases hlt : p < l.length
 ·obtain ⟨u, ht⟩ := get_lt hlt
  have htm : u ∈ l := List.mem_of_getElem? ht
  have hgt : l[p] = u := by rw [List.getElem?_eq_getElem hlt] at ht; exact Option.some.inj ht
  have hdr : l.drop p = u :: l.drop (p + 1) := by rw [List.drop_eq_getElem_cons hlt, hgt]
  have hu := hf u htm
  rw [hdr, firstIx] at he
  cases hb : q u <;> rw [hb] at hu he
  ·repeat' first | (refine aops_end (hK _ ?_); clear hK K) | ((first | refine aops_go ?_ | refine wpcall_pure rfl (hu) ?_); simp [hlt, hgt, eBd]; (try simp (disch := omega) only [wrap64]); (try (refine gen fun q hq => ?_; cases q <;> (try simp [hlt, hgt, eBd] at hq) <;> (try (have hh : True := hq; clear hh hq))))) | (refine ⟨p + 1, by dsimp only; omega, ⟨by omega, by simpa using he⟩, ?_⟩; simp (disch := omega) [wrap64]) | refine T.r0 fun K hK => ?_ | refine T.r1 fun K hK => ?_ | refine T.ct rfl ?_ | refine T.cf rfl ?_ | refine T.seq ?_ | refine T.block ?_ | refine T.skip ?_
  ·repeat' first | (refine aops_end (hK _ ?_); clear hK K) | ((first | refine aops_go ?_ | refine wpcall_pure rfl (hu) ?_); simp [hlt, hgt, eBd]; (try simp (disch := omega) only [wrap64]); (try (refine gen fun q hq => ?_; cases q <;> (try simp [hlt, hgt, eBd] at hq) <;> (try (have hh : True := hq; clear hh hq))))) | (refine T.ret (Done.data (Or.inr rfl) ?_ ?_) <;> simp [Tryz.results261, <- he] <;> omega) | refine T.r0 fun K hK => ?_ | refine T.ct rfl ?_ | refine T.seq ?_ | refine T.block ?_ | refine T.skip ?_
 ·have hp' : p = l.length := by omega
  subst hp'
  simp [firstIx] at he
  repeat' first | (refine aops_end (hK _ ?_); clear hK K) | (refine aops_go ?_; simp [hlt]; (try (refine gen fun q hq => ?_; cases q <;> (try simp [hlt] at hq) <;> (try (have hh : True := hq; clear hh hq))))) | (refine T.ret (Done.data (Or.inr rfl) ?_ ?_) <;> simp [Tryz.results261, he] <;> omega) | refine T.r0 fun K hK => ?_ | refine T.cf rfl ?_ | refine T.seq ?_ | refine T.exit ?_

theorem containsFuncBd_0 (f : FuncId) (l : List MBd) (q : MBd -> Bool) (hl : l.length <= 4611686018427387904) (hf : ∀ t ∈ l, ACalls Tryz.prog f [aBd t] [] (.b (q t)) [] []) :
  ACalls Tryz.prog 219 [.l (l.map eBd), .c (.fn f [])] [] (.b (l.any q)) [] [] := by
 refine ACalls.of_body Tryz.func219 (by kernel_rfl) rfl (by kernel_rfl) (by simp [Tryz.ntmps219]) (by simp) ?_
 rw [Tryz.ntmps219]
 rw [<- firstIx_any (i := 0) (by omega)]
 repeat' first | (refine aops_end (hK _ ?_); clear hK K) | ((first | refine aops_go ?_ | refine wpcall_pure rfl (indexFuncBd_0 f l q hl hf) ?_); simp; (try (refine gen fun q hq => ?_; cases q <;> (try simp at hq) <;> (try (have hh : True := hq; clear hh hq))))) | (refine T.ret (Done.data (Or.inr rfl) ?_ ?_) <;> simp [Tryz.results219, *] <;> omega) | refine T.r0 fun K hK => ?_

theorem CtxValid1_ok (b : MBd) (hn : nTy b.ty <= 1099511627776) : ACalls Tryz.prog 220 [aBd b] [] (.b (!(nameM b.name && shapeTy 4 b.ty))) [] [] := by
 have h1 := isName_ok b.name
 have h2 := TypeValid_ok b.ty hn
 generalize nameM b.name = q1 at *
 generalize shapeTy 4 b.ty = q2 at *
 refine ACalls.of_body Tryz.func220 (by kernel_rfl) rfl (by kernel_rfl) (by simp [Tryz.ntmps220]) (by simp) ?_
 rw [Tryz.ntmps220]
 repeat' first | (refine aops_end (hK _ ?_); clear hK K) | ((first | refine aops_go ?_ | refine wpcall_pure rfl (h1) ?_ | refine wpcall_pure rfl (h2) ?_); simp; (try (refine gen fun q hq => ?_; cases q <;> (try simp at hq) <;> (try (have hh : True := hq; clear hh hq))))) | (refine T.ret (Done.data (Or.inr rfl) ?_ ?_) <;> simp [Tryz.results220, *] <;> omega) | refine T.r0 fun K hK => ?_

theorem CtxValid_ok (ctx : List MBd) (hl : ctx.length <= 1099511627776) (hn : ∀ b ∈ ctx, nTy b.ty <= 1099511627776) : ACalls Tryz.prog 175 [aBds ctx] [] (.b (ctxM ctx)) [] [] := by
 have h := containsFuncBd_0 220 ctx _ (by omega) (fun b hb => CtxValid1_ok b (hn b hb))
 have e : ctxM ctx = (decide (ctx.length <= 12) && !ctx.any fun b => !(nameM b.name && shapeTy 4 b.ty)) := by
  have h2 := not_any_not (fun b : MBd => nameM b.name && shapeTy 4 b.ty) ctx
  rw [h2, ctxM, Bool.and_comm]
 rw [e]
 generalize (ctx.any fun b => !(nameM b.name && shapeTy 4 b.ty)) = q at *
 have e2 : (decide ((ctx.length : Int) <= 12)) = decide (ctx.length <= 12) := decide_eq_decide.2 (by omega)
 refine ACalls.of_body Tryz.func175 (by kernel_rfl) rfl (by kernel_rfl) (by simp [Tryz.ntmps175]) (by simp) ?_
 rw [Tryz.ntmps175]
 repeat' first | (refine aops_end (hK _ ?_); clear hK K) | ((first | refine aops_go ?_ | refine wpcall_pure rfl (h) ?_); simp; (try (refine gen fun q hq => ?_; cases q <;> (try simp at hq) <;> (try (have hh : True := hq; clear hh hq))))) | (refine T.ret (Done.data (Or.inr rfl) ?_ ?_) <;> simp [Tryz.results175, *] <;> omega) | refine T.r0 fun K hK => ?_

theorem TypeSame_ok : (a b : MTy) -> nTy a <= 1099511627776 -> ACalls Tryz.prog 83 [aTy a, aTy b] [] (.b (sameTy a b)) [] []
 | .mk k l, b, hn => by
  rw [nTy_def] at hn
  have hlen := nTyS_len l
  have hc := equalFuncTy_0 83 l b.kids sameTy (by simp at hn; omega) (fun u hu v hv => TypeSame_ok u v (by have := nTyS_mem hu; simp at hn; omega))
  rw [sameTy_def]
  simp only [MTy.kids_mk, MTy.kind_mk]
  generalize all2 sameTy l b.kids = R at hc ⊢
  refine ACalls.of_body Tryz.func83 (by kernel_rfl) rfl (by kernel_rfl) (by simp [Tryz.ntmps83]) (by simp) ?_
  rw [Tryz.ntmps83]
  repeat' first | (refine aops_end (hK _ ?_); clear hK K) | ((first | refine aops_go ?_ | refine wpcall_pure rfl (hc) ?_); simp; (try (refine gen fun q hq => ?_; cases q <;> (try simp at hq) <;> (try (have hh : True := hq; clear hh hq))))) | (refine T.ret (Done.data (Or.inr rfl) ?_ ?_) <;> simp [Tryz.results83, *] <;> omega) | refine T.r0 fun K hK => ?_
termination_by a => SizeOf.sizeOf a
decreasing_by have := List.sizeOf_lt_of_mem hu; simp; omega

theorem TermSame_ok : (a b : MTm) -> nTm a <= 1099511627776 -> ACalls Tryz.prog 29 [aTm a, aTm b] [] (.b (sameTm a b)) [] []
 | .mk k s n t f lb l, b, hn => by
  obtain ⟨hnt, hnf, hnk, hnu⟩ := nTm_parts hn
  have hnt : nTy t <= 1099511627776 := by simpa using hnt
  have hnf : nTy f <= 1099511627776 := by simpa using hnf
  have hnk : l.length <= 1099511627776 := by simpa using hnk
  have hnu : ∀ u ∈ l, nTm u <= 1099511627776 := by simpa using hnu
  have hc := equalFuncTm_0 29 l b.kids sameTm (by omega) (fun u hu v hv => TermSame_ok u v (by have := hnu u hu; omega))
  have h1 := TypeSame_ok t b.ty hnt
  have h2 := TypeSame_ok f b.fr hnf
  rw [sameTm_def]
  simp only [MTm.kids_mk, MTm.kind_mk, MTm.name_mk, MTm.num_mk, MTm.ty_mk, MTm.fr_mk, MTm.label_mk]
  generalize all2 sameTm l b.kids = R at hc ⊢
  generalize sameTy t b.ty = R1 at h1 ⊢
  generalize sameTy f b.fr = R2 at h2 ⊢
  refine ACalls.of_body Tryz.func29 (by kernel_rfl) rfl (by kernel_rfl) (by simp [Tryz.ntmps29]) (by simp) ?_
  rw [Tryz.ntmps29]
  repeat' first | (refine aops_end (hK _ ?_); clear hK K) | ((first | refine aops_go ?_ | refine wpcall_pure rfl (hc) ?_ | refine wpcall_pure rfl (h1) ?_ | refine wpcall_pure rfl (h2) ?_); simp; (try (refine gen fun q hq => ?_; cases q <;> (try simp at hq) <;> (try (have hh : True := hq; clear hh hq))))) | (refine T.ret (Done.data (Or.inr rfl) ?_ ?_) <;> simp [Tryz.results29, *] <;> omega) | refine T.r0 fun K hK => ?_
termination_by a => SizeOf.sizeOf a
decreasing_by have := List.sizeOf_lt_of_mem hu; simp; omega

theorem own1_ok (e : MTm) : ACalls Tryz.prog 207 [aTm e] [] (aTm e) [] [] := by
 refine ACalls.of_body Tryz.func207 (by kernel_rfl) rfl (by kernel_rfl) (by simp [Tryz.ntmps207]) (by simp) ?_
 rw [Tryz.ntmps207]
 repeat' first | (refine aops_end (hK _ ?_); clear hK K) | (refine aops_go ?_; simp; (try (refine gen fun q hq => ?_; cases q <;> (try simp at hq) <;> (try (have hh : True := hq; clear hh hq))))) | (refine T.ret (Done.val (Or.inr rfl) ?_) <;> simp [resAs, Tryz.results207] <;> omega) | refine T.r0 fun K hK => ?_

theorem mapped_ok (f : FuncId) (g : MTm -> MTm) (q : MTm -> Prop) (hq : ∀ e, q e -> ∀ u ∈ e.kids, q u)
  (hf : ∀ e, q e -> ACalls Tryz.prog f [aTm (.mk e.kind e.name e.num e.ty e.fr e.label (e.kids.map (mapM g)))] [] (aTm (mapM g e)) [] []) :
  ∀ (e : MTm), q e -> nTm e <= 1099511627776 -> ACalls Tryz.prog 77 [aTm e, .c (.fn f [])] [] (aTm (mapM g e)) [] [] := by
 intro e
 induction e using MTm.ind with
 | h e ih =>
  intro hqe hn
  obtain ⟨hnt, hnf, hnk, hnu⟩ := nTm_parts hn
  have h1 := ownType_ok e.ty hnt
  have h2 := ownType_ok e.fr hnf
  have h3 := hf e hqe
  simp only [aTm, MTm.kids_mk, MTm.kind_mk, MTm.name_mk, MTm.num_mk, MTm.ty_mk, MTm.fr_mk, MTm.label_mk] at h3
  generalize mapM g e = R at h3 ⊢
  refine ACalls.of_body Tryz.func77 (by kernel_rfl) rfl (by kernel_rfl) (by simp [Tryz.ntmps77]) (by simp) ?_
  rw [Tryz.ntmps77]
  repeat' first | (refine aops_end (hK _ ?_); clear hK K) | (refine aops_go ?_; simp; (try (refine gen fun q hq => ?_; cases q <;> (try simp at hq) <;> (try (have hh : True := hq; clear hh hq))))) | refine T.r0 fun K hK => ?_ | refine T.seq ?_ | refine T.block ?_
  refine T.ownify 5 9 46 (by simp) ?_
  refine T.loopK (α := Nat × List (List CV)) [1, 2, 4, 9, 10] (fun x => [(5, .c (.own 0 x.1)), (11, .i x.1)]) (fun x => []) (fun x => x.2) (fun x _ => [{ sz := 9, ety := 46, rows := ((e.kids.map (mapM g)).take x.1).map eTm, wr := true }]) (fun x => e.kids.length + 1 - x.1) (fun x => x.1 <= e.kids.length) (by simp; rfl) (fun x hx => ?_) (0, []) (by simp) (by simp) (by simp) (by simp)
  obtain ⟨p, G⟩ := x
  dsimp only at hx ⊢
  simp only [ups, List.cons_append, List.nil_append]
  by_cases hlt : p < e.kids.length
  ·obtain ⟨u, ht⟩ := get_lt hlt
   have htm : u ∈ e.kids := List.mem_of_getElem? ht
   have hgt : e.kids[p] = u := by rw [List.getElem?_eq_getElem hlt] at ht; exact Option.some.inj ht
   have hdr : e.kids.drop p = u :: e.kids.drop (p + 1) := by rw [List.drop_eq_getElem_cons hlt, hgt]
   have hu := ih u htm (hq e hqe u htm) (by have := hnu u htm; omega)
   have htk : (e.kids.map (mapM g)).take (p + 1) = (e.kids.map (mapM g)).take p ++ [mapM g u] := by rw [List.take_add_one, List.getElem?_map, ht]; rfl
   have hlm : min p (e.kids.map (mapM g)).length = p := by simp; omega
   generalize (e.kids.map (mapM g)) = Z at *
   repeat' first | (refine aops_end (hK _ ?_); clear hK K) | ((first | refine aops_go ?_ | refine wpcall_pure rfl (hu) ?_); simp [hlt, hgt, hlm]; (try simp (disch := omega) only [wrap64]); (try (refine gen fun q hq => ?_; cases q <;> (try simp [hlt, hgt, hlm] at hq) <;> (try (have hh : True := hq; clear hh hq))))) | (refine ⟨by omega, by omega, ?_⟩) | (refine ⟨(p + 1, _), by dsimp only; omega, by dsimp only; omega, rfl, ?_, ?_⟩ <;> simp (disch := omega) [wrap64, htk, eTm_def, hlm]) | refine T.r0 fun K hK => ?_ | refine T.r1 fun K hK => ?_ | refine T.ct rfl ?_ | refine T.seq ?_ | refine T.block ?_ | refine T.skip ?_
  ·have hp' : p = e.kids.length := by omega
   subst hp'
   have hlm : (e.kids.map (mapM g)).length = e.kids.length := by simp
   rw [List.take_of_length_le (by omega)]
   generalize (e.kids.map (mapM g)) = Z at *
   repeat' first | ((first | refine aops_end (hK _ ?_) | refine aopsD_end (hK _ ?_)); clear hK K) | ((first | refine aops_go ?_ | refine aopsD_go ?_ | refine wpcall_pure rfl (h1) ?_ | refine wpcall_pure rfl (h2) ?_ | (refine wpcall_pure ?_ (h3) ?_; (focus (solve | simp [hlt, hlm])))); simp [hlt, hlm]; (try (refine gen fun q hq => ?_; cases q <;> (try simp [hlt, hlm] at hq) <;> (try (have hh : True := hq; clear hh hq))))) | (refine T.ret (Done.val (Or.inr rfl) ?_) <;> simp [resAs, Tryz.results77] <;> omega) | refine T.rd (id := 7) mixed (fun _ => false) [8, 10, 12] (by kernel_rfl) fun K hK => ?_ | refine T.r0 fun K hK => ?_ | refine T.cf rfl ?_ | refine T.seq ?_ | refine T.exit ?_
end Go.Proofs.YtflmjilnecanhaaGreatDoor

namespace Go.Proofs.YtflmjilnecanhaaGreatDoor
attribute [-simp] Go.Av.freeStepG Go.Av.exA Go.Av.innAsH Go.Av.AV.innH Go.Av.CV.innH Go.Av.innHs Go.Av.AV.outnH Go.Av.CV.outnH
open Go Go.Av
attribute [local irreducible] T ACalls TX EX LX Draws Some_ ACallsX eTy eTm MTy.kind MTy.kids MTm.kind MTm.name MTm.num MTm.ty MTm.fr MTm.label MTm.kids
attribute [local simp] eTy_def eTm_def
set_option maxHeartbeats 16000000
set_option maxRecDepth 8000
attribute [local simp] Option.bind

theorem cloneBd_own (l : List MBd) (hl : l.length <= 1099511627776) : ACalls Tryz.prog 209 [aBds l] [] (.c (.own 0 l.length)) [] [{ sz := 3, ety := 153, rows := l.map eBd, wr := true }] := by
 refine ACalls.of_body Tryz.func209 (by kernel_rfl) rfl (by kernel_rfl) (by simp [Tryz.ntmps209]) (by simp) ?_
 rw [Tryz.ntmps209]
 refine T.rs (fun _ => false) fun K hK => ?_
 refine aops_go ?_
 simp
 refine aops_end (hK _ ?_)
 clear hK K
 refine T.seq ?_
 refine T.eqNil rfl rfl rfl rfl rfl rfl td_bindS rfl (by simp; rfl) fun bb hbb => ?_
 cases bb
 ·repeat' first | (refine aops_end (hK _ ?_); clear hK K) | (refine aops_go ?_; simp [eBd]; (try (refine gen fun q hq => ?_; cases q <;> (try simp [eBd] at hq) <;> (try (have hh : True := hq; clear hh hq))))) | (refine ⟨by omega, by omega, ?_⟩) | refine T.rs (id := 3) (fun i => i == 0) fun K hK => ?_ | refine T.cf rfl ?_ | refine T.skip ?_
  refine T.ret (Done.own1 0 (Or.inr rfl) (ys := [_]) ?_ rfl ?_) <;> simp [resAs, Tryz.results209, eBd] <;> rfl
 ·have : l = [] := by simpa using hbb rfl
  subst this
  refine T.cond rfl (fun hcnd => ?_) (fun hcnd => absurd hcnd (by decide))
  refine T.rs (fun _ => false) fun K hK => ?_
  refine aops_go ?_
  simp
  refine aops_end (hK _ ?_)
  clear hK K
  refine T.ownify 2 3 153 (by simp) ?_
  refine T.ret (Done.own1 0 (Or.inr rfl) (ys := [_]) ?_ rfl ?_) <;> simp [resAs, Tryz.results209]

theorem lookup_ok (ctx : List MBd) (s : List UInt8) (hl : ctx.length <= 1099511627776) :
  ACalls Tryz.prog 247 [aBds ctx, .s s] [] (.tup (match lookM ctx s with | some t => [aTy t, .b true] | none => [aTy zeroT, .b false])) [] [] := by
 have hlook : ∀ p, p < ctx.length -> lookM (ctx.take (p + 1)) s = if (ctx[p]?.map MBd.name) = some s then ctx[p]?.map MBd.ty else lookM (ctx.take p) s := by
  have happ : ∀ (l : List MBd) (b : MBd), lookM (l ++ [b]) s = if b.name = s then some b.ty else lookM l s := by
   intro l
   induction l with
   | nil => intro b; simp [lookM]
   | cons x r ih =>
    intro b
    simp only [List.cons_append, lookM, ih b]
    by_cases hb : b.name = s
    ·simp [hb]
    ·simp [hb]
  intro p hp
  rw [List.take_add_one, List.getElem?_eq_getElem hp]
  simp only [Option.toList_some, happ, Option.map_some, Option.some.injEq]
 refine ACalls.of_body Tryz.func247 (by kernel_rfl) rfl (by kernel_rfl) (by simp [Tryz.ntmps247]) (by simp) ?_
 rw [Tryz.ntmps247]
 repeat' first | (refine aops_end (hK _ ?_); clear hK K) | (refine aops_go ?_; simp; (try simp (disch := omega) only [wrap64]); (try (refine gen fun q hq => ?_; cases q <;> (try simp at hq) <;> (try (have hh : True := hq; clear hh hq))))) | refine T.r0 fun K hK => ?_ | refine T.seq ?_ | refine T.block ?_
 obtain ⟨R, hR⟩ : ∃ R, lookM ctx s = R := ⟨_, rfl⟩
 rw [hR]
 refine T.loopK (α := Nat) [0, 1, 4] (fun p => [(6, .i ((p : Int) - 1))]) (fun p => []) (fun _ => []) (fun _ A => A) (fun p => p) (fun p => p <= ctx.length /\ lookM (ctx.take p) s = R) (by simp; rfl) (fun p hp => ?_) ctx.length (by simpa using hR) (by simp) (by simp) (by simp)
 obtain ⟨hi, he⟩ := hp
 simp only [ups, List.append_nil, List.cons_append, List.nil_append]
 cases p with
 | zero =>
  simp [lookM] at he
  subst he
  repeat' first | (refine aops_end (hK _ ?_); clear hK K) | (refine aops_go ?_; simp; (try (refine gen fun q hq => ?_; cases q <;> (try simp at hq) <;> (try (have hh : True := hq; clear hh hq))))) | (refine T.ret (Done.tup (Or.inr rfl) ?_) <;> simp [resAs, Tryz.results247] <;> omega) | refine T.r0 fun K hK => ?_ | refine T.cf rfl ?_ | refine T.seq ?_ | refine T.exit ?_
 | succ p =>
  rw [hlook p (by omega)] at he
  have hlt : p < ctx.length := by omega
  obtain ⟨b, ht⟩ := get_lt hlt
  have htm : b ∈ ctx := List.mem_of_getElem? ht
  have hgt : ctx[p] = b := by rw [List.getElem?_eq_getElem hlt] at ht; exact Option.some.inj ht
  have hge : (0 : Int) <= (p : Int) + 1 - 1 := by omega
  have hpp : ((p : Int) + 1 - 1) = p := by omega
  rw [ht] at he
  by_cases hb : b.name = s
  ·simp [hb] at he
   subst he
   repeat' first | (refine aops_end (hK _ ?_); clear hK K) | (refine aops_go ?_; simp [hlt, hgt, hge, hpp, hb, eBd]; (try simp (disch := omega) only [wrap64]); (try (refine gen fun q hq => ?_; cases q <;> (try simp [hlt, hgt, hge, hpp, hb, eBd] at hq) <;> (try (have hh : True := hq; clear hh hq))))) | (refine T.ret (Done.tup (Or.inr rfl) ?_) <;> simp [resAs, Tryz.results247] <;> omega) | refine T.r0 fun K hK => ?_ | refine T.ct rfl ?_ | refine T.seq ?_ | refine T.block ?_ | refine T.skip ?_
  ·simp [hb] at he
   repeat' first | (refine aops_end (hK _ ?_); clear hK K) | (refine aops_go ?_; simp [hlt, hgt, hge, hpp, hb, eBd]; (try simp (disch := omega) only [wrap64]); (try (refine gen fun q hq => ?_; cases q <;> (try simp [hlt, hgt, hge, hpp, hb, eBd] at hq) <;> (try (have hh : True := hq; clear hh hq))))) | (refine ⟨p, by dsimp only; omega, ⟨by omega, he⟩, rfl, rfl, ?_⟩; simp (disch := omega) [wrap64]) | refine T.r0 fun K hK => ?_ | refine T.r1 fun K hK => ?_ | refine T.ct rfl ?_ | refine T.cf rfl ?_ | refine T.seq ?_ | refine T.block ?_ | refine T.skip ?_

def WT (ctx : List MBd) (e : MTm) (ts : List MTy) (r : Option (List MTy × MTy)) : Prop := ∃ ws t, (∀ p, r = some p -> p = (ws, t)) /\ ACalls Tryz.prog 210 [aBds ctx, aTm e, aTys ts] [] (.tup [aTys ws, aTy t, .b r.isSome]) [] []

theorem wanted1 (ctx : List MBd) (hl : ctx.length <= 1099511627776) (e : MTm) (hk : e.kind = 1) : WT ctx e [] (wantM ctx e.kind e.name e.ty []) := by
 have hint := base_ok 2
 have hbool := base_ok 3
 have hlk := lookup_ok ctx e.name hl
 rw [show wantM ctx e.kind e.name e.ty [] = (lookM ctx e.name).map fun t => ([], t) by simp [wantM, hk]]
 cases hr : lookM ctx e.name with
 | none =>
  rw [hr] at hlk
  refine ⟨[], zeroT, by simp, ?_⟩
  simp only [Option.map_none, Option.isSome_none] at hlk ⊢
  refine ACalls.of_body Tryz.func210 (by kernel_rfl) rfl (by kernel_rfl) (by simp [Tryz.ntmps210]) (by simp) ?_
  rw [Tryz.ntmps210]
  repeat' first | ((first | refine aops_end (hK _ ?_) | refine aopsD_end (hK _ ?_)); clear hK K) | ((first | refine aops_go ?_ | refine aopsD_go ?_ | refine wpcall_pure rfl (hint) ?_ | refine wpcall_pure rfl (hbool) ?_ | refine wpcall_pure rfl (hlk) ?_); simp [hk]; (try (refine gen fun q hq => ?_; cases q <;> (try simp [hk] at hq) <;> (try (have hh : True := hq; clear hh hq))))) | (refine T.ret (Done.tup (Or.inr rfl) ?_) <;> simp [resAs, Tryz.results210] <;> omega) | refine T.rd (id := 5) mixed (fun _ => false) [3] (by kernel_rfl) fun K hK => ?_ | refine T.r0 fun K hK => ?_ | refine T.ct rfl ?_ | refine T.seq ?_ | refine T.block ?_
 | some t =>
  rw [hr] at hlk
  refine ⟨[], t, by simp, ?_⟩
  simp only [Option.map_some, Option.isSome_some] at hlk ⊢
  refine ACalls.of_body Tryz.func210 (by kernel_rfl) rfl (by kernel_rfl) (by simp [Tryz.ntmps210]) (by simp) ?_
  rw [Tryz.ntmps210]
  repeat' first | ((first | refine aops_end (hK _ ?_) | refine aopsD_end (hK _ ?_)); clear hK K) | ((first | refine aops_go ?_ | refine aopsD_go ?_ | refine wpcall_pure rfl (hint) ?_ | refine wpcall_pure rfl (hbool) ?_ | refine wpcall_pure rfl (hlk) ?_); simp [hk]; (try (refine gen fun q hq => ?_; cases q <;> (try simp [hk] at hq) <;> (try (have hh : True := hq; clear hh hq))))) | (refine T.ret (Done.tup (Or.inr rfl) ?_) <;> simp [resAs, Tryz.results210] <;> omega) | refine T.rd (id := 5) mixed (fun _ => false) [3] (by kernel_rfl) fun K hK => ?_ | refine T.r0 fun K hK => ?_ | refine T.ct rfl ?_ | refine T.seq ?_ | refine T.block ?_

theorem wanted2 (ctx : List MBd) (e : MTm) (hk : e.kind = 2) : WT ctx e [] (wantM ctx e.kind e.name e.ty []) := by
 have hint := base_ok 2
 have hbool := base_ok 3
 rw [show wantM ctx e.kind e.name e.ty [] = some ([], intT) by simp [wantM, hk]]
 refine ⟨[], intT, by simp, ?_⟩
 simp only [Option.isSome_some]
 refine ACalls.of_body Tryz.func210 (by kernel_rfl) rfl (by kernel_rfl) (by simp [Tryz.ntmps210]) (by simp) ?_
 rw [Tryz.ntmps210]
 repeat' first | ((first | refine aops_end (hK _ ?_) | refine aopsD_end (hK _ ?_)); clear hK K) | ((first | refine aops_go ?_ | refine aopsD_go ?_ | refine wpcall_pure rfl (hint) ?_ | refine wpcall_pure rfl (hbool) ?_); simp [hk]; (try (refine gen fun q hq => ?_; cases q <;> (try simp [hk] at hq) <;> (try (have hh : True := hq; clear hh hq))))) | (refine T.ret (Done.tup (Or.inr rfl) ?_) <;> simp [resAs, Tryz.results210] <;> omega) | refine T.rd (id := 7) mixed (fun _ => false) [2] (by kernel_rfl) fun K hK => ?_ | refine T.r0 fun K hK => ?_ | refine T.ct rfl ?_ | refine T.cf rfl ?_ | refine T.seq ?_ | refine T.block ?_

theorem wanted3 (ctx : List MBd) (e : MTm) (hk : e.kind = 3) : WT ctx e [] (wantM ctx e.kind e.name e.ty []) := by
 have hint := base_ok 2
 have hbool := base_ok 3
 rw [show wantM ctx e.kind e.name e.ty [] = some ([], boolT) by simp [wantM, hk]]
 refine ⟨[], boolT, by simp, ?_⟩
 simp only [Option.isSome_some]
 refine ACalls.of_body Tryz.func210 (by kernel_rfl) rfl (by kernel_rfl) (by simp [Tryz.ntmps210]) (by simp) ?_
 rw [Tryz.ntmps210]
 repeat' first | ((first | refine aops_end (hK _ ?_) | refine aopsD_end (hK _ ?_)); clear hK K) | ((first | refine aops_go ?_ | refine aopsD_go ?_ | refine wpcall_pure rfl (hint) ?_ | refine wpcall_pure rfl (hbool) ?_); simp [hk]; (try (refine gen fun q hq => ?_; cases q <;> (try simp [hk] at hq) <;> (try (have hh : True := hq; clear hh hq))))) | (refine T.ret (Done.tup (Or.inr rfl) ?_) <;> simp [resAs, Tryz.results210] <;> omega) | refine T.rd (id := 10) mixed (fun _ => false) [2] (by kernel_rfl) fun K hK => ?_ | refine T.r0 fun K hK => ?_ | refine T.ct rfl ?_ | refine T.cf rfl ?_ | refine T.seq ?_ | refine T.block ?_ | refine T.skip ?_

theorem wanted4 (ctx : List MBd) (e : MTm) (hk : e.kind = 4) : WT ctx e [] (wantM ctx e.kind e.name e.ty []) := by
 have hint := base_ok 2
 have hbool := base_ok 3
 rw [show wantM ctx e.kind e.name e.ty [] = some ([], boolT) by simp [wantM, hk]]
 refine ⟨[], boolT, by simp, ?_⟩
 simp only [Option.isSome_some]
 refine ACalls.of_body Tryz.func210 (by kernel_rfl) rfl (by kernel_rfl) (by simp [Tryz.ntmps210]) (by simp) ?_
 rw [Tryz.ntmps210]
 repeat' first | ((first | refine aops_end (hK _ ?_) | refine aopsD_end (hK _ ?_)); clear hK K) | ((first | refine aops_go ?_ | refine aopsD_go ?_ | refine wpcall_pure rfl (hint) ?_ | refine wpcall_pure rfl (hbool) ?_); simp [hk]; (try (refine gen fun q hq => ?_; cases q <;> (try simp [hk] at hq) <;> (try (have hh : True := hq; clear hh hq))))) | (refine T.ret (Done.tup (Or.inr rfl) ?_) <;> simp [resAs, Tryz.results210] <;> omega) | refine T.rd (id := 10) mixed (fun _ => false) [2] (by kernel_rfl) fun K hK => ?_ | refine T.r0 fun K hK => ?_ | refine T.r1 fun K hK => ?_ | refine T.ct rfl ?_ | refine T.cf rfl ?_ | refine T.seq ?_ | refine T.block ?_

theorem wanted5 (ctx : List MBd) (e : MTm) (a : MTy) (hk : e.kind = 5) : WT ctx e [a] (wantM ctx e.kind e.name e.ty [a]) := by
 have hint := base_ok 2
 have hbool := base_ok 3
 have hb := both_ok 4 e.ty a
 rw [show wantM ctx e.kind e.name e.ty [a] = some ([], .mk 4 [e.ty, a]) by simp [wantM, hk]]
 refine ⟨[], .mk 4 [e.ty, a], by simp, ?_⟩
 simp only [Option.isSome_some]
 refine ACalls.of_body Tryz.func210 (by kernel_rfl) rfl (by kernel_rfl) (by simp [Tryz.ntmps210]) (by simp) ?_
 rw [Tryz.ntmps210]
 repeat' first | ((first | refine aops_end (hK _ ?_) | refine aopsD_end (hK _ ?_)); clear hK K) | ((first | refine aops_go ?_ | refine aopsD_go ?_ | refine wpcall_pure rfl (hint) ?_ | refine wpcall_pure rfl (hbool) ?_ | refine wpcall_pure rfl (hb) ?_); simp [hk]; (try (refine gen fun q hq => ?_; cases q <;> (try simp [hk] at hq) <;> (try (have hh : True := hq; clear hh hq))))) | (refine T.ret (Done.tup (Or.inr rfl) ?_) <;> simp [resAs, Tryz.results210] <;> omega) | refine T.rd (id := 12) mixed (fun _ => false) [7] (by kernel_rfl) fun K hK => ?_ | refine T.r0 fun K hK => ?_ | refine T.r1 fun K hK => ?_ | refine T.ct rfl ?_ | refine T.cf rfl ?_ | refine T.seq ?_ | refine T.block ?_

theorem wanted6 (ctx : List MBd) (e : MTm) (a b : MTy) (hk : e.kind = 6) (ha : shapeTy 4 a = true) (hb : shapeTy 4 b = true) : WT ctx e [a, b] (wantM ctx e.kind e.name e.ty [a, b]) := by
 have hint := base_ok 2
 have hbool := base_ok 3
 have hm := match_ok 4 (by omega) a (shape_two (.inl rfl) ha)
 rw [show wantM ctx e.kind e.name e.ty [a, b] = match matchM 4 a with | some (x, y) => if consTy b x = true then some ([.mk 4 [x, y], x], y) else none | none => none by simp [wantM, hk]; rfl]
 cases hr : matchM 4 a with
 | none =>
  rw [hr] at hm
  have h2 := both_ok 4 zeroT zeroT
  refine ⟨[.mk 4 [zeroT, zeroT], zeroT], zeroT, by simp, ?_⟩
  simp only [Option.isSome_none] at hm ⊢
  refine ACalls.of_body Tryz.func210 (by kernel_rfl) rfl (by kernel_rfl) (by simp [Tryz.ntmps210]) (by simp) ?_
  rw [Tryz.ntmps210]
  repeat' first | ((first | refine aops_end (hK _ ?_) | refine aopsD_end (hK _ ?_)); clear hK K) | ((first | refine aops_go ?_ | refine aopsD_go ?_ | refine wpcall_pure rfl (hint) ?_ | refine wpcall_pure rfl (hbool) ?_ | refine wpcall_pure rfl (hm) ?_ | (refine wpcall_pure ?_ (h2) ?_; (focus (solve | simp [hk])))); simp [hk]; (try (refine gen fun q hq => ?_; cases q <;> (try simp [hk] at hq) <;> (try (have hh : True := hq; clear hh hq))))) | (refine T.ret (Done.tup (Or.inr rfl) ?_) <;> simp [resAs, Tryz.results210, eTy_def] <;> omega) | refine T.rd (id := 15) mixed (fun _ => false) [15] (by kernel_rfl) fun K hK => ?_ | refine T.r0 fun K hK => ?_ | refine T.r1 fun K hK => ?_ | refine T.ct rfl ?_ | refine T.cf rfl ?_ | refine T.seq ?_ | refine T.block ?_
 | some p =>
  obtain ⟨x, y⟩ := p
  rw [hr] at hm
  have h2 := both_ok 4 x y
  have h3 := consistent_ok b x (by have := shape4 hb; omega)
  refine ⟨[.mk 4 [x, y], x], y, ?_, ?_⟩
  ·intro p h; dsimp only at h; split at h <;> simp at h; exact h.symm
  dsimp only at hm ⊢
  rw [show (if consTy b x = true then some ([MTy.mk 4 [x, y], x], y) else none).isSome = consTy b x by cases consTy b x <;> rfl]
  generalize consTy b x = c at h3
  refine ACalls.of_body Tryz.func210 (by kernel_rfl) rfl (by kernel_rfl) (by simp [Tryz.ntmps210]) (by simp) ?_
  rw [Tryz.ntmps210]
  repeat' first | ((first | refine aops_end (hK _ ?_) | refine aopsD_end (hK _ ?_)); clear hK K) | ((first | refine aops_go ?_ | refine aopsD_go ?_ | refine wpcall_pure rfl (hint) ?_ | refine wpcall_pure rfl (hbool) ?_ | refine wpcall_pure rfl (hm) ?_ | refine wpcall_pure rfl (h2) ?_ | refine wpcall_pure rfl (h3) ?_); simp [hk]; (try (refine gen fun q hq => ?_; cases q <;> (try simp [hk] at hq) <;> (try (have hh : True := hq; clear hh hq))))) | (refine T.ret (Done.tup (Or.inr rfl) ?_) <;> simp [resAs, Tryz.results210, eTy_def] <;> omega) | refine T.rd (id := 15) mixed (fun _ => false) [15] (by kernel_rfl) fun K hK => ?_ | refine T.r0 fun K hK => ?_ | refine T.r1 fun K hK => ?_ | refine T.ct rfl ?_ | refine T.cf rfl ?_ | refine T.seq ?_ | refine T.block ?_

theorem wanted7 (ctx : List MBd) (e : MTm) (a b : MTy) (hk : e.kind = 7) (ha : shapeTy 4 a = true) (hb : shapeTy 4 b = true) : WT ctx e [a, b] (wantM ctx e.kind e.name e.ty [a, b]) := by
 have hint := base_ok 2
 have hbool := base_ok 3
 have h1 := consistent_ok a intT (by have := shape4 ha; omega)
 have h2 := consistent_ok b intT (by have := shape4 hb; omega)
 rw [show wantM ctx e.kind e.name e.ty [a, b] = if consTy a intT = true /\ consTy b intT = true then some ([intT, intT], intT) else none by simp [wantM, hk]]
 refine ⟨[intT, intT], intT, ?_, ?_⟩
 ·intro p h; split at h <;> simp at h; exact h.symm
 rw [show (if consTy a intT = true /\ consTy b intT = true then some ([intT, intT], intT) else none).isSome = (consTy a intT && consTy b intT) by cases consTy a intT <;> cases consTy b intT <;> rfl]
 generalize consTy a intT = c1 at h1 ⊢
 generalize consTy b intT = c2 at h2 ⊢
 refine ACalls.of_body Tryz.func210 (by kernel_rfl) rfl (by kernel_rfl) (by simp [Tryz.ntmps210]) (by simp) ?_
 rw [Tryz.ntmps210]
 repeat' first | ((first | refine aops_end (hK _ ?_) | refine aopsD_end (hK _ ?_)); clear hK K) | ((first | refine aops_go ?_ | refine aopsD_go ?_ | refine wpcall_pure rfl (hint) ?_ | refine wpcall_pure rfl (hbool) ?_ | (refine wpcall_pure ?_ (h1) ?_; (focus (solve | simp [hk]))) | (refine wpcall_pure ?_ (h2) ?_; (focus (solve | simp [hk])))); simp [hk]; (try (refine gen fun q hq => ?_; cases q <;> (try simp [hk] at hq) <;> (try (have hh : True := hq; clear hh hq))))) | (refine T.ret (Done.tup (Or.inr rfl) ?_) <;> simp [resAs, Tryz.results210, *, eTy_def] <;> omega) | refine T.rd (id := 21) mixed (fun _ => false) [17] (by kernel_rfl) fun K hK => ?_ | refine T.r0 fun K hK => ?_ | refine T.r1 fun K hK => ?_ | refine T.ct rfl ?_ | refine T.cf rfl ?_ | refine T.seq ?_ | refine T.block ?_ | refine T.skip ?_

theorem wanted8 (ctx : List MBd) (e : MTm) (a b : MTy) (hk : e.kind = 8) (ha : shapeTy 4 a = true) (hb : shapeTy 4 b = true) : WT ctx e [a, b] (wantM ctx e.kind e.name e.ty [a, b]) := by
 have hint := base_ok 2
 have hbool := base_ok 3
 have h1 := consistent_ok a intT (by have := shape4 ha; omega)
 have h2 := consistent_ok b intT (by have := shape4 hb; omega)
 rw [show wantM ctx e.kind e.name e.ty [a, b] = if consTy a intT = true /\ consTy b intT = true then some ([intT, intT], boolT) else none by simp [wantM, hk]]
 refine ⟨[intT, intT], boolT, ?_, ?_⟩
 ·intro p h; split at h <;> simp at h; exact h.symm
 rw [show (if consTy a intT = true /\ consTy b intT = true then some ([intT, intT], boolT) else none).isSome = (consTy a intT && consTy b intT) by cases consTy a intT <;> cases consTy b intT <;> rfl]
 generalize consTy a intT = c1 at h1 ⊢
 generalize consTy b intT = c2 at h2 ⊢
 refine ACalls.of_body Tryz.func210 (by kernel_rfl) rfl (by kernel_rfl) (by simp [Tryz.ntmps210]) (by simp) ?_
 rw [Tryz.ntmps210]
 repeat' first | ((first | refine aops_end (hK _ ?_) | refine aopsD_end (hK _ ?_)); clear hK K) | ((first | refine aops_go ?_ | refine aopsD_go ?_ | refine wpcall_pure rfl (hint) ?_ | refine wpcall_pure rfl (hbool) ?_ | (refine wpcall_pure ?_ (h1) ?_; (focus (solve | simp [hk]))) | (refine wpcall_pure ?_ (h2) ?_; (focus (solve | simp [hk])))); simp [hk]; (try (refine gen fun q hq => ?_; cases q <;> (try simp [hk] at hq) <;> (try (have hh : True := hq; clear hh hq))))) | (refine T.ret (Done.tup (Or.inr rfl) ?_) <;> simp [resAs, Tryz.results210, *, eTy_def] <;> omega) | refine T.rd (id := 21) mixed (fun _ => false) [17] (by kernel_rfl) fun K hK => ?_ | refine T.r0 fun K hK => ?_ | refine T.r1 fun K hK => ?_ | refine T.ct rfl ?_ | refine T.cf rfl ?_ | refine T.seq ?_ | refine T.block ?_

theorem wanted9 (ctx : List MBd) (e : MTm) (a b c : MTy) (hk : e.kind = 9) (ha : shapeTy 4 a = true) (hb : shapeTy 4 b = true) (hc : shapeTy 4 c = true) : WT ctx e [a, b, c] (wantM ctx e.kind e.name e.ty [a, b, c]) := by
 have hint := base_ok 2
 have hbool := base_ok 3
 have h1 := consistent_ok a boolT (by have := shape4 ha; omega)
 have h2 := consistent_ok b c (by have := shape4 hb; omega)
 rw [show wantM ctx e.kind e.name e.ty [a, b, c] = if consTy a boolT = true /\ consTy b c = true then some ([boolT, meetTy b c, meetTy b c], meetTy b c) else none by simp [wantM, hk]]
 by_cases hq : consTy a boolT = true /\ consTy b c = true
 ·rw [if_pos hq]
  have h3 := meet_ok (VTy.of hb) (by omega) (VTy.of hc) hq.2
  rw [hq.1] at h1
  rw [hq.2] at h2
  refine ⟨[boolT, meetTy b c, meetTy b c], meetTy b c, by simp, ?_⟩
  generalize meetTy b c = mt at h3 ⊢
  simp only [Option.isSome_some]
  refine ACalls.of_body Tryz.func210 (by kernel_rfl) rfl (by kernel_rfl) (by simp [Tryz.ntmps210]) (by simp) ?_
  rw [Tryz.ntmps210]
  repeat' first | ((first | refine aops_end (hK _ ?_) | refine aopsD_end (hK _ ?_) | refine aopsF_end (hK _ ?_)); clear hK K) | ((first | refine aops_go ?_ | refine aopsD_go ?_ | refine aopsF_go ?_ | refine wpcall_pure rfl (hint) ?_ | refine wpcall_pure rfl (hbool) ?_ | (refine wpcall_pure ?_ (h1) ?_; (focus (solve | simp [hk]))) | refine wpcall_pure rfl (h2) ?_ | refine wpcall_pure rfl (h3) ?_); simp [hk]; (try (refine gen fun q hq => ?_; cases q <;> (try simp [hk] at hq) <;> (try (have hh : True := hq; clear hh hq))))) | (refine T.ret (Done.tup (Or.inr rfl) ?_) <;> simp [resAs, Tryz.results210, eTy_def] <;> omega) | refine T.rd (id := 23) mixed (fun _ => false) [] (by kernel_rfl) fun K hK => ?_ | refine T.rdF (id := 25) mixed (fun _ => false) [7, 8] [1, 2, 4, 5, 6] 8 [] (by kernel_rfl) fun K hK => ?_ | (refine ⟨?_, ?_⟩; (focus (intros; refine wpcall_pure rfl (h3) ?_; simp; done))) | refine T.rd (id := 26) mixed (fun _ => false) [6] (by kernel_rfl) fun K hK => ?_ | refine T.r0 fun K hK => ?_ | refine T.r1 fun K hK => ?_ | refine T.ct rfl ?_ | refine T.cf rfl ?_ | refine T.seq ?_ | refine T.block ?_ | refine T.skip ?_
 ·rw [if_neg hq]
  refine ⟨[], zeroT, by simp, ?_⟩
  simp only [Option.isSome_none]
  generalize consTy a boolT = c1 at h1 hq ⊢
  generalize consTy b c = c2 at h2 hq ⊢
  cases c1 <;> cases c2
  ·refine ACalls.of_body Tryz.func210 (by kernel_rfl) rfl (by kernel_rfl) (by simp [Tryz.ntmps210]) (by simp) ?_
   rw [Tryz.ntmps210]
   repeat' first | ((first | refine aops_end (hK _ ?_) | refine aopsD_end (hK _ ?_)); clear hK K) | ((first | refine aops_go ?_ | refine aopsD_go ?_ | refine wpcall_pure rfl (hint) ?_ | refine wpcall_pure rfl (hbool) ?_ | (refine wpcall_pure ?_ (h1) ?_; (focus (solve | simp [hk])))); simp [hk]; (try (refine gen fun q hq => ?_; cases q <;> (try simp [hk] at hq) <;> (try (have hh : True := hq; clear hh hq))))) | (refine T.ret (Done.tup (Or.inr rfl) ?_) <;> simp [resAs, Tryz.results210, *] <;> omega) | refine T.rd (id := 23) mixed (fun _ => false) [] (by kernel_rfl) fun K hK => ?_ | refine T.r0 fun K hK => ?_ | refine T.r1 fun K hK => ?_ | refine T.ct rfl ?_ | refine T.cf rfl ?_ | refine T.seq ?_ | refine T.block ?_
  ·refine ACalls.of_body Tryz.func210 (by kernel_rfl) rfl (by kernel_rfl) (by simp [Tryz.ntmps210]) (by simp) ?_
   rw [Tryz.ntmps210]
   repeat' first | ((first | refine aops_end (hK _ ?_) | refine aopsD_end (hK _ ?_)); clear hK K) | ((first | refine aops_go ?_ | refine aopsD_go ?_ | refine wpcall_pure rfl (hint) ?_ | refine wpcall_pure rfl (hbool) ?_ | (refine wpcall_pure ?_ (h1) ?_; (focus (solve | simp [hk])))); simp [hk]; (try (refine gen fun q hq => ?_; cases q <;> (try simp [hk] at hq) <;> (try (have hh : True := hq; clear hh hq))))) | (refine T.ret (Done.tup (Or.inr rfl) ?_) <;> simp [resAs, Tryz.results210, *] <;> omega) | refine T.rd (id := 23) mixed (fun _ => false) [] (by kernel_rfl) fun K hK => ?_ | refine T.r0 fun K hK => ?_ | refine T.r1 fun K hK => ?_ | refine T.ct rfl ?_ | refine T.cf rfl ?_ | refine T.seq ?_ | refine T.block ?_
  ·refine ACalls.of_body Tryz.func210 (by kernel_rfl) rfl (by kernel_rfl) (by simp [Tryz.ntmps210]) (by simp) ?_
   rw [Tryz.ntmps210]
   repeat' first | ((first | refine aops_end (hK _ ?_) | refine aopsD_end (hK _ ?_)); clear hK K) | ((first | refine aops_go ?_ | refine aopsD_go ?_ | refine wpcall_pure rfl (hint) ?_ | refine wpcall_pure rfl (hbool) ?_ | (refine wpcall_pure ?_ (h1) ?_; (focus (solve | simp [hk]))) | refine wpcall_pure rfl (h2) ?_); simp [hk]; (try (refine gen fun q hq => ?_; cases q <;> (try simp [hk] at hq) <;> (try (have hh : True := hq; clear hh hq))))) | (refine T.ret (Done.tup (Or.inr rfl) ?_) <;> simp [resAs, Tryz.results210, *] <;> omega) | refine T.rd (id := 23) mixed (fun _ => false) [] (by kernel_rfl) fun K hK => ?_ | refine T.r0 fun K hK => ?_ | refine T.r1 fun K hK => ?_ | refine T.ct rfl ?_ | refine T.cf rfl ?_ | refine T.seq ?_ | refine T.block ?_
  ·exact absurd ⟨rfl, rfl⟩ hq

theorem wanted10 (ctx : List MBd) (e : MTm) (a b : MTy) (hk : e.kind = 10) : WT ctx e [a, b] (wantM ctx e.kind e.name e.ty [a, b]) := by
 have hint := base_ok 2
 have hbool := base_ok 3
 have hb := both_ok 5 a b
 rw [show wantM ctx e.kind e.name e.ty [a, b] = some ([], .mk 5 [a, b]) by simp [wantM, hk]]
 refine ⟨[], .mk 5 [a, b], by simp, ?_⟩
 simp only [Option.isSome_some]
 refine ACalls.of_body Tryz.func210 (by kernel_rfl) rfl (by kernel_rfl) (by simp [Tryz.ntmps210]) (by simp) ?_
 rw [Tryz.ntmps210]
 repeat' first | ((first | refine aops_end (hK _ ?_) | refine aopsD_end (hK _ ?_)); clear hK K) | ((first | refine aops_go ?_ | refine aopsD_go ?_ | refine wpcall_pure rfl (hint) ?_ | refine wpcall_pure rfl (hbool) ?_ | refine wpcall_pure rfl (hb) ?_); simp [hk]; (try (refine gen fun q hq => ?_; cases q <;> (try simp [hk] at hq) <;> (try (have hh : True := hq; clear hh hq))))) | (refine T.ret (Done.tup (Or.inr rfl) ?_) <;> simp [resAs, Tryz.results210] <;> omega) | refine T.rd (id := 28) mixed (fun _ => false) [8] (by kernel_rfl) fun K hK => ?_ | refine T.r0 fun K hK => ?_ | refine T.r1 fun K hK => ?_ | refine T.ct rfl ?_ | refine T.cf rfl ?_ | refine T.seq ?_ | refine T.block ?_

theorem wanted11 (ctx : List MBd) (e : MTm) (a : MTy) (hk : e.kind = 11) (ha : shapeTy 4 a = true) : WT ctx e [a] (wantM ctx e.kind e.name e.ty [a]) := by
 have hint := base_ok 2
 have hbool := base_ok 3
 have hm := match_ok 5 (by omega) a (shape_two (.inr rfl) ha)
 rw [show wantM ctx e.kind e.name e.ty [a] = (matchM 5 a).map fun p => ([.mk 5 [p.1, p.2]], p.1) by simp [wantM, hk]]
 cases hr : matchM 5 a with
 | none =>
  rw [hr] at hm
  have h2 := both_ok 5 zeroT zeroT
  refine ⟨[.mk 5 [zeroT, zeroT]], zeroT, by simp, ?_⟩
  simp only [Option.map_none, Option.isSome_none] at hm ⊢
  refine ACalls.of_body Tryz.func210 (by kernel_rfl) rfl (by kernel_rfl) (by simp [Tryz.ntmps210]) (by simp) ?_
  rw [Tryz.ntmps210]
  repeat' first | ((first | refine aops_end (hK _ ?_) | refine aopsD_end (hK _ ?_)); clear hK K) | ((first | refine aops_go ?_ | refine aopsD_go ?_ | refine wpcall_pure rfl (hint) ?_ | refine wpcall_pure rfl (hbool) ?_ | refine wpcall_pure rfl (hm) ?_ | (refine wpcall_pure ?_ (h2) ?_; (focus (solve | simp [hk])))); simp [hk]; (try (refine gen fun q hq => ?_; cases q <;> (try simp [hk] at hq) <;> (try (have hh : True := hq; clear hh hq))))) | (refine T.ret (Done.tup (Or.inr rfl) ?_) <;> simp [resAs, Tryz.results210, eTy_def] <;> omega) | refine T.rd (id := 35) mixed (fun _ => false) [7] (by kernel_rfl) fun K hK => ?_ | refine T.r0 fun K hK => ?_ | refine T.r1 fun K hK => ?_ | refine T.cf rfl ?_ | refine T.seq ?_ | refine T.block ?_ | refine T.skip ?_
 | some p =>
  obtain ⟨x, y⟩ := p
  rw [hr] at hm
  have h2 := both_ok 5 x y
  refine ⟨[.mk 5 [x, y]], x, by simp, ?_⟩
  simp only [Option.map_some, Option.isSome_some] at hm ⊢
  refine ACalls.of_body Tryz.func210 (by kernel_rfl) rfl (by kernel_rfl) (by simp [Tryz.ntmps210]) (by simp) ?_
  rw [Tryz.ntmps210]
  repeat' first | ((first | refine aops_end (hK _ ?_) | refine aopsD_end (hK _ ?_)); clear hK K) | ((first | refine aops_go ?_ | refine aopsD_go ?_ | refine wpcall_pure rfl (hint) ?_ | refine wpcall_pure rfl (hbool) ?_ | refine wpcall_pure rfl (hm) ?_ | refine wpcall_pure rfl (h2) ?_); simp [hk]; (try (refine gen fun q hq => ?_; cases q <;> (try simp [hk] at hq) <;> (try (have hh : True := hq; clear hh hq))))) | (refine T.ret (Done.tup (Or.inr rfl) ?_) <;> simp [resAs, Tryz.results210, eTy_def] <;> omega) | refine T.rd (id := 35) mixed (fun _ => false) [7] (by kernel_rfl) fun K hK => ?_ | refine T.r0 fun K hK => ?_ | refine T.r1 fun K hK => ?_ | refine T.cf rfl ?_ | refine T.seq ?_ | refine T.block ?_ | refine T.skip ?_

theorem wanted12 (ctx : List MBd) (e : MTm) (a : MTy) (hk : e.kind = 12) (ha : shapeTy 4 a = true) : WT ctx e [a] (wantM ctx e.kind e.name e.ty [a]) := by
 have hint := base_ok 2
 have hbool := base_ok 3
 have hm := match_ok 5 (by omega) a (shape_two (.inr rfl) ha)
 rw [show wantM ctx e.kind e.name e.ty [a] = (matchM 5 a).map fun p => ([.mk 5 [p.1, p.2]], p.2) by simp [wantM, hk]]
 cases hr : matchM 5 a with
 | none =>
  rw [hr] at hm
  have h2 := both_ok 5 zeroT zeroT
  refine ⟨[.mk 5 [zeroT, zeroT]], zeroT, by simp, ?_⟩
  simp only [Option.map_none, Option.isSome_none] at hm ⊢
  refine ACalls.of_body Tryz.func210 (by kernel_rfl) rfl (by kernel_rfl) (by simp [Tryz.ntmps210]) (by simp) ?_
  rw [Tryz.ntmps210]
  repeat' first | ((first | refine aops_end (hK _ ?_) | refine aopsD_end (hK _ ?_)); clear hK K) | ((first | refine aops_go ?_ | refine aopsD_go ?_ | refine wpcall_pure rfl (hint) ?_ | refine wpcall_pure rfl (hbool) ?_ | refine wpcall_pure rfl (hm) ?_ | (refine wpcall_pure ?_ (h2) ?_; (focus (solve | simp [hk])))); simp [hk]; (try (refine gen fun q hq => ?_; cases q <;> (try simp [hk] at hq) <;> (try (have hh : True := hq; clear hh hq))))) | (refine T.ret (Done.tup (Or.inr rfl) ?_) <;> simp [resAs, Tryz.results210, eTy_def] <;> omega) | refine T.rd (id := 35) mixed (fun _ => false) [7] (by kernel_rfl) fun K hK => ?_ | refine T.r0 fun K hK => ?_ | refine T.r1 fun K hK => ?_ | refine T.ct rfl ?_ | refine T.cf rfl ?_ | refine T.seq ?_ | refine T.block ?_ | refine T.skip ?_
 | some p =>
  obtain ⟨x, y⟩ := p
  rw [hr] at hm
  have h2 := both_ok 5 x y
  refine ⟨[.mk 5 [x, y]], y, by simp, ?_⟩
  simp only [Option.map_some, Option.isSome_some] at hm ⊢
  refine ACalls.of_body Tryz.func210 (by kernel_rfl) rfl (by kernel_rfl) (by simp [Tryz.ntmps210]) (by simp) ?_
  rw [Tryz.ntmps210]
  repeat' first | ((first | refine aops_end (hK _ ?_) | refine aopsD_end (hK _ ?_)); clear hK K) | ((first | refine aops_go ?_ | refine aopsD_go ?_ | refine wpcall_pure rfl (hint) ?_ | refine wpcall_pure rfl (hbool) ?_ | refine wpcall_pure rfl (hm) ?_ | refine wpcall_pure rfl (h2) ?_); simp [hk]; (try (refine gen fun q hq => ?_; cases q <;> (try simp [hk] at hq) <;> (try (have hh : True := hq; clear hh hq))))) | (refine T.ret (Done.tup (Or.inr rfl) ?_) <;> simp [resAs, Tryz.results210, eTy_def] <;> omega) | refine T.rd (id := 35) mixed (fun _ => false) [7] (by kernel_rfl) fun K hK => ?_ | refine T.r0 fun K hK => ?_ | refine T.r1 fun K hK => ?_ | refine T.ct rfl ?_ | refine T.cf rfl ?_ | refine T.seq ?_ | refine T.block ?_ | refine T.skip ?_

theorem wanted13 (ctx : List MBd) (e : MTm) (a : MTy) (hk : e.kind = 13) (ha : shapeTy 4 a = true) : WT ctx e [a] (wantM ctx e.kind e.name e.ty [a]) := by
 have hint := base_ok 2
 have hbool := base_ok 3
 have h1 := consistent_ok a e.ty (by have := shape4 ha; omega)
 rw [show wantM ctx e.kind e.name e.ty [a] = if consTy a e.ty = true then some ([e.ty], e.ty) else none by simp [wantM, hk]]
 refine ⟨[e.ty], e.ty, ?_, ?_⟩
 ·intro p h; split at h <;> simp at h; exact h.symm
 rw [show (if consTy a e.ty = true then some ([e.ty], e.ty) else none).isSome = consTy a e.ty by cases consTy a e.ty <;> rfl]
 generalize consTy a e.ty = c at h1 ⊢
 refine ACalls.of_body Tryz.func210 (by kernel_rfl) rfl (by kernel_rfl) (by simp [Tryz.ntmps210]) (by simp) ?_
 rw [Tryz.ntmps210]
 repeat' first | ((first | refine aops_end (hK _ ?_) | refine aopsD_end (hK _ ?_)); clear hK K) | ((first | refine aops_go ?_ | refine aopsD_go ?_ | refine wpcall_pure rfl (hint) ?_ | refine wpcall_pure rfl (hbool) ?_ | refine wpcall_pure rfl (h1) ?_); simp [hk]; (try (refine gen fun q hq => ?_; cases q <;> (try simp [hk] at hq) <;> (try (have hh : True := hq; clear hh hq))))) | (refine T.ret (Done.tup (Or.inr rfl) ?_) <;> simp [resAs, Tryz.results210, eTy_def] <;> omega) | refine T.rd (id := 30) mixed (fun _ => false) [12] (by kernel_rfl) fun K hK => ?_ | refine T.r0 fun K hK => ?_ | refine T.r1 fun K hK => ?_ | refine T.ct rfl ?_ | refine T.cf rfl ?_ | refine T.seq ?_ | refine T.block ?_

@[simp] theorem td_elab : td Tryz.prog 164 = some { ag := true, sz := 1, by_ := 8, zero := some [.d (.int .i64 0)], el := none, ar := none, fl := [(0, 1)], ik := none, isS := false, isB := false } := keep (by kernel_rfl)

theorem cast_ok (n : Int) (h0 : 0 <= n) (hn : n <= 1099511627776) (e : MTm) (f t : MTy) (hf : nTy f <= 1099511627776) :
  ACalls Tryz.prog 211 [.c (.ptr 0 0), aTm e, aTy f, aTy t] (dV [[.i n]]) (aTm (castM n e f t).1) (dV [[.i (castM n e f t).2]]) [] := by
 have h1 := TypeSame_ok f t hf
 simp only [castM]
 by_cases hq : sameTy f t = true
 ·rw [if_pos hq]
  rw [hq] at h1
  refine ACalls.of_body Tryz.func211 (by kernel_rfl) rfl (by kernel_rfl) (by simp [Tryz.ntmps211]) (by simp) ?_
  rw [Tryz.ntmps211]
  repeat' first | (refine aops_end (hK _ ?_); clear hK K) | ((first | refine aops_go ?_ | refine wpcall_pure rfl (h1) ?_); simp; (try (refine gen fun q hq => ?_; cases q <;> (try simp at hq) <;> (try (have hh : True := hq; clear hh hq))))) | refine T.r0 fun K hK => ?_ | refine T.ct rfl ?_ | refine T.seq ?_
  refine T.ret (Done.obj1 (Or.inr rfl) ?_ ?_ ?_) <;> simp [Tryz.results211]
 ·rw [if_neg hq]
  rw [show sameTy f t = false by simpa using hq] at h1
  refine ACalls.of_body Tryz.func211 (by kernel_rfl) rfl (by kernel_rfl) (by simp [Tryz.ntmps211]) (by simp) ?_
  rw [Tryz.ntmps211]
  repeat' first | ((first | refine aops_end (hK _ ?_) | refine aopsD_end (hK _ ?_)); clear hK K) | ((first | refine aops_go ?_ | refine aopsD_go ?_ | refine wpcall_pure rfl (h1) ?_); simp; (try simp (disch := omega) only [wrap64]); (try (refine gen fun q hq => ?_; cases q <;> (try simp at hq) <;> (try (have hh : True := hq; clear hh hq))))) | refine T.rd (id := 4) mixed (fun _ => false) [9] (by kernel_rfl) fun K hK => ?_ | refine T.r0 fun K hK => ?_ | refine T.cf rfl ?_ | refine T.seq ?_ | refine T.skip ?_
  refine T.ret (Done.obj1 (Or.inr rfl) ?_ ?_ ?_) <;> simp [Tryz.results211, eTm_def]
end Go.Proofs.YtflmjilnecanhaaGreatDoor

namespace Go.Proofs.YtflmjilnecanhaaGreatDoor
attribute [-simp] Go.Av.innAsH Go.Av.AV.innH Go.Av.CV.innH Go.Av.innHs Go.Av.AV.outnH Go.Av.CV.outnH
open Go Go.Av
attribute [local irreducible] T ACalls TX EX LX Draws Some_ ACallsX eTy eTm MTy.kind MTy.kids MTm.kind MTm.name MTm.num MTm.ty MTm.fr MTm.label MTm.kids
attribute [local simp] eTy_def eTm_def
set_option maxHeartbeats 16000000
set_option maxRecDepth 8000
attribute [local simp] Option.bind

theorem wanted_ok (ctx : List MBd) (hl : ctx.length <= 1099511627776) (e : MTm) (ts : List MTy) (hk : 0 < e.kind /\ e.kind < 14) (hlen : (ts.length : Int) = kidsM e.kind) (hts : ∀ u ∈ ts, shapeTy 4 u = true) :
  WT ctx e ts (wantM ctx e.kind e.name e.ty ts) := by
 have hcases : e.kind = 1 \/ e.kind = 2 \/ e.kind = 3 \/ e.kind = 4 \/ e.kind = 5 \/ e.kind = 6 \/ e.kind = 7 \/ e.kind = 8 \/ e.kind = 9 \/ e.kind = 10 \/ e.kind = 11 \/ e.kind = 12 \/ e.kind = 13 := by omega
 have h0 : kidsM e.kind = 0 -> ts = [] := fun h => List.eq_nil_of_length_eq_zero (by omega)
 have h1 : kidsM e.kind = 1 -> ∃ a, ts = [a] := fun h => by
  match ts, hlen with
  | [a], _ => exact ⟨a, rfl⟩
  | [], h' => simp at h'; omega
  | _ :: _ :: _, h' => simp at h'; omega
 have h2 : kidsM e.kind = 2 -> ∃ a b, ts = [a, b] := fun h => by
  match ts, hlen with
  | [a, b], _ => exact ⟨a, b, rfl⟩
  | [], h' => simp at h'; omega
  | [_], h' => simp at h'; omega
  | _ :: _ :: _ :: _, h' => simp at h'; omega
 have h3 : kidsM e.kind = 3 -> ∃ a b c, ts = [a, b, c] := fun h => by
  match ts, hlen with
  | [a, b, c], _ => exact ⟨a, b, c, rfl⟩
  | [], h' => simp at h'; omega
  | [_], h' => simp at h'; omega
  | [_, _], h' => simp at h'; omega
  | _ :: _ :: _ :: _ :: _, h' => simp at h'; omega
 rcases hcases with h | h | h | h | h | h | h | h | h | h | h | h | h
 ·obtain rfl := h0 (by rw [h]; rfl); exact wanted1 ctx hl e h
 ·obtain rfl := h0 (by rw [h]; rfl); exact wanted2 ctx e h
 ·obtain rfl := h0 (by rw [h]; rfl); exact wanted3 ctx e h
 ·obtain rfl := h0 (by rw [h]; rfl); exact wanted4 ctx e h
 ·obtain ⟨a, rfl⟩ := h1 (by rw [h]; rfl); exact wanted5 ctx e a h
 ·obtain ⟨a, b, rfl⟩ := h2 (by rw [h]; rfl); exact wanted6 ctx e a b h (hts a (by simp)) (hts b (by simp))
 ·obtain ⟨a, b, rfl⟩ := h2 (by rw [h]; rfl); exact wanted7 ctx e a b h (hts a (by simp)) (hts b (by simp))
 ·obtain ⟨a, b, rfl⟩ := h2 (by rw [h]; rfl); exact wanted8 ctx e a b h (hts a (by simp)) (hts b (by simp))
 ·obtain ⟨a, b, c, rfl⟩ := h3 (by rw [h]; rfl); exact wanted9 ctx e a b c h (hts a (by simp)) (hts b (by simp)) (hts c (by simp))
 ·obtain ⟨a, b, rfl⟩ := h2 (by rw [h]; rfl); exact wanted10 ctx e a b h
 ·obtain ⟨a, rfl⟩ := h1 (by rw [h]; rfl); exact wanted11 ctx e a h (hts a (by simp))
 ·obtain ⟨a, rfl⟩ := h1 (by rw [h]; rfl); exact wanted12 ctx e a h (hts a (by simp))
 ·obtain ⟨a, rfl⟩ := h1 (by rw [h]; rfl); exact wanted13 ctx e a h (hts a (by simp))

def afterE (es : List MTm) (ts : List MTy) : Option (List MTm × List MTy) × Int -> Option (List MTm × List MTy) × Int
 | (none, n) => (none, n)
 | (some (es', ts'), n) => (some (es ++ es', ts ++ ts'), n)

theorem afterE_nil (r : Option (List MTm × List MTy) × Int) : afterE [] [] r = r := by
 obtain ⟨o, n⟩ := r
 cases o <;> rfl

theorem afterE_cons (es : List MTm) (ts : List MTy) (e : MTm) (t : MTy) (m : Int) (f : Int -> Option (List MTm × List MTy) × Int) : afterE es ts (consE (some (e, t), m) f) = afterE (es ++ [e]) (ts ++ [t]) (f m) := by
 simp only [consE]
 cases f m with
 | mk o n =>
  cases o with
  | none => rfl
  | some p => obtain ⟨a, b⟩ := p; simp [afterE]

theorem want_len {ctx : List MBd} {k : Int} {s : List UInt8} {ty : MTy} {ts ws : List MTy} {t : MTy} (h : wantM ctx k s ty ts = some (ws, t)) : ws.length <= ts.length := by
 simp only [wantM] at h
 split at h
 ·obtain ⟨_, _, h'⟩ := Option.map_eq_some_iff.1 h; cases h'; simp
 split at h
 ·cases h <;> simp
 split at h
 ·cases h <;> simp
 split at h
 ·split at h
  ·cases h <;> simp
  split at h
  ·obtain ⟨_, _, h'⟩ := Option.map_eq_some_iff.1 h; cases h'; simp
  split at h
  ·obtain ⟨_, _, h'⟩ := Option.map_eq_some_iff.1 h; cases h'; simp
  split at h
  ·split at h <;> cases h <;> simp
  ·cases h
 ·split at h
  ·split at h
   ·split at h <;> cases h <;> simp
   ·cases h
  split at h
  ·split at h <;> cases h <;> simp
  split at h
  ·split at h <;> cases h <;> simp
  split at h
  ·cases h <;> simp
  ·cases h
 ·split at h
  ·split at h <;> cases h <;> simp
  ·cases h
 ·cases h

theorem want_small {ctx : List MBd} {e : MTm} {ts ws : List MTy} {t : MTy} (hc : okCtx ctx) (he : typedM e.kind = true -> shapeTy 4 e.ty = true) (hts : ∀ u ∈ ts, shapeTy 4 u = true) (h : wantM ctx e.kind e.name e.ty ts = some (ws, t)) : nTy t <= 1000 := by
 have key : ∀ {t : MTy}, shapeTy 4 t = true -> nTy t <= 100 := fun h => by have := shape4 h; omega
 simp only [wantM] at h
 split at h
 ·obtain ⟨_, h1, h'⟩ := Option.map_eq_some_iff.1 h
  cases h'
  obtain ⟨b, h2, h3, _⟩ := look_mem h1
  have := key (hc b h2); rw [h3] at this; omega
 split at h
 ·cases h; simp [nTy_mk, nTyS]
 split at h
 ·cases h; simp [nTy_mk, nTyS]
 split at h
 ·rename_i a
  have ha := key (hts a (by simp))
  split at h
  ·rename_i h5
   cases h
   have := key (he (by simp [typedM, h5]))
   simp [nTy_mk, nTyS]; omega
  split at h
  ·obtain ⟨p, h1, h'⟩ := Option.map_eq_some_iff.1 h
   obtain ⟨x, y⟩ := p
   cases h'
   have := key (match_shape h1 (hts a (by simp))).1; dsimp only; omega
  split at h
  ·obtain ⟨p, h1, h'⟩ := Option.map_eq_some_iff.1 h
   obtain ⟨x, y⟩ := p
   cases h'
   have := key (match_shape h1 (hts a (by simp))).2; dsimp only; omega
  split at h
  ·rename_i h13
   split at h
   ·cases h
    have := key (he (by simp [typedM, h13])); omega
   ·cases h
  ·cases h
 ·rename_i a b
  have ha := key (hts a (by simp))
  have hb := key (hts b (by simp))
  split at h
  ·split at h
   ·rename_i x y hm
    split at h
    ·cases h
     have := key (match_shape hm (hts a (by simp))).2; omega
    ·cases h
   ·cases h
  split at h
  ·split at h
   ·cases h; simp [nTy_mk, nTyS]
   ·cases h
  split at h
  ·split at h
   ·cases h; simp [nTy_mk, nTyS]
   ·cases h
  split at h
  ·cases h; simp [nTy_mk, nTyS]; omega
  ·cases h
 ·rename_i a b c
  split at h
  ·split at h
   ·rename_i hq
    cases h
    have := key (meet_shape 4 b c (hts b (by simp)) (hts c (by simp)) hq.2); omega
   ·cases h
  ·cases h
 ·cases h

theorem castS_nil (c : Int) (es : List MTm) (ts : List MTy) : castS c es ts [] = (es, c) := by
 cases es <;> cases ts <;> rfl

theorem term_non (ctx : List MBd) (hl : ctx.length <= 1073741824) (e : MTm) (hk : 0 < e.kind /\ e.kind < 14) (h5 : e.kind ≠ 5)  (n : Int) (hlen : kidsM e.kind = e.kids.length)
  (h0 : 0 <= n) (hn : n + nTm e <= 1073741824) (hc : okCtx ctx) (hty : typedM e.kind = true -> shapeTy 4 e.ty = true)
  (hs : ∀ u ∈ e.kids, ∀ (n : Int) x t m, elabM ctx u n = (some (x, t), m) -> shapeTy 4 t = true)
  (ih : ∀ u ∈ e.kids, ∀ n : Int, 0 <= n -> n + nTm u <= 1073741824 -> ACalls Tryz.prog 158 [.c (.ptr 0 0), aBds ctx, aTm u] (dV [[.i n]]) (.tup (elRes (elabM ctx u n).1)) (dV [[.i (elabM ctx u n).2]]) []) :
  ACalls Tryz.prog 158 [.c (.ptr 0 0), aBds ctx, aTm e] (dV [[.i n]]) (.tup (elRes (finM ctx e.kind e.name e.num e.ty e.fr e.label (elabS ctx e.kids n)).1)) (dV [[.i (finM ctx e.kind e.name e.num e.ty e.fr e.label (elabS ctx e.kids n)).2]]) [] := by
 obtain ⟨R, hR⟩ : ∃ R, elabS ctx e.kids n = R := ⟨_, rfl⟩
 rw [hR]
 have hkl : e.kids.length <= 3 := by have := kidsM_le e.kind; omega
 have hnS : n + nTmS e.kids <= 1073741824 := by rw [nTm_def] at hn; omega
 refine ACalls.of_body Tryz.func158 (by kernel_rfl) rfl (by kernel_rfl) (by simp [Tryz.ntmps158]) (by simp) ?_
 rw [Tryz.ntmps158]
 repeat' first | (refine aops_end (hK _ ?_); clear hK K) | (refine aops_go ?_; simp [h5]; (try (refine gen fun q hq => ?_; cases q <;> (try simp [h5] at hq) <;> (try (have hh : True := hq; clear hh hq))))) | refine T.r0 fun K hK => ?_ | refine T.cf rfl ?_ | refine T.seq ?_ | refine T.block ?_ | refine T.skip ?_

 refine T.ownifyObj 4 8 9 46 (row := [.d (.i e.kind), .d (.str e.name), .d (.i e.num), .d (.i e.ty.kind), .d (.sl (e.ty.kids.map eTy)), .d (.i e.fr.kind), .d (.sl (e.fr.kids.map eTy)), .d (.i e.label), .nil]) (by simp) (by simp) ?_
 refine T.ownify 11 2 43 (by simp) ?_
 refine T.loopK (α := Nat × List MTm × List MTy × Int × List (List CV)) [0, 1, 5, 6, 7, 9, 10, 38, 39] (fun x => [(8, .b false), (11, .c (.own 1 x.1)), (40, .i x.1)]) (fun x => [(0, [.d (.i x.2.2.2.1)]), (4, [.d (.i e.kind), .d (.str e.name), .d (.i e.num), .d (.i e.ty.kind), .d (.sl (e.ty.kids.map eTy)), .d (.i e.fr.kind), .d (.sl (e.fr.kids.map eTy)), .d (.i e.label), .own 0 x.1])]) (fun x => x.2.2.2.2) (fun x _ => [{ sz := 9, ety := 46, rows := x.2.1.map eTm, wr := true }, { sz := 2, ety := 43, rows := x.2.2.1.map eTy, wr := true }]) (fun x => e.kids.length + 1 - x.1)
  (fun x => x.1 <= e.kids.length /\ x.2.1.length = x.1 /\ x.2.2.1.length = x.1 /\ (∀ u ∈ x.2.2.1, shapeTy 4 u = true) /\ 0 <= x.2.2.2.1 /\ x.2.2.2.1 + nTmS (e.kids.drop x.1) <= 1073741824 /\ afterE x.2.1 x.2.2.1 (elabS ctx (e.kids.drop x.1) x.2.2.2.1) = R) (by simp; rfl) (fun x hx => ?_) (0, [], [], n, []) (by simp [afterE_nil, hR]; omega) (by simp) (by simp) (by simp)
 obtain ⟨p, es, ts, c, G⟩ := x
 obtain ⟨hi, hes, hts, hsh, hc0, hcn, he⟩ := hx
 dsimp only at hi hes hts hsh hc0 hcn he ⊢
 simp only [ups, List.set_cons_zero, List.set_cons_succ, List.cons_append, List.nil_append]
 by_cases hlt : p < e.kids.length
 ·obtain ⟨u, ht⟩ := get_lt hlt
  have htm : u ∈ e.kids := List.mem_of_getElem? ht
  have hgt : e.kids[p] = u := by rw [List.getElem?_eq_getElem hlt] at ht; exact Option.some.inj ht
  have hdr : e.kids.drop p = u :: e.kids.drop (p + 1) := by rw [List.drop_eq_getElem_cons hlt, hgt]
  rw [hdr] at he hcn
  simp only [nTmS] at hcn
  have hu := ih u htm c hc0 (by omega)
  have hle := elab_le u ctx c
  rw [elabS] at he
  cases hb : elabM ctx u c with
  | mk o m =>
   rw [hb] at hu he hle
   cases o with
   | none =>
    simp only [consE, afterE] at he
    subst he
    simp only [finM, elRes] at hu ⊢
    repeat' first | (refine aops_end (hK _ ?_); clear hK K) | (refine aops_go ?_; simp [hlt, hgt]; (try simp (disch := omega) only [wrap64]); (try (refine gen fun q hq => ?_; cases q <;> (try simp [hlt, hgt] at hq) <;> (try (have hh : True := hq; clear hh hq))))) | (refine wpcall_g [0] (by simp) rfl rfl hu ?_; simp) | refine T.r0 fun K hK => ?_ | refine T.ct rfl ?_ | refine T.seq ?_ | refine T.block ?_ | refine T.skip ?_
    all_goals (first | refine T.ret (Done.gt (Or.inr rfl) ?_ ?_) | refine T.ret (Done.g1 (Or.inr rfl) ?_ ?_)) <;> (simp [resAs, Tryz.results158])
   | some q =>
    obtain ⟨x, t⟩ := q
    have hst := hs u htm c x t m hb
    simp only [elRes] at hu hle
    rw [afterE_cons] at he
    repeat' first | ((first | refine aops_end (hK _ ?_) | refine aopsG_end (hK _ ?_)); clear hK K) | ((first | refine aops_go ?_ | refine aopsG_go ?_); simp [hlt, hgt, hes, hts]; (try simp (disch := omega) only [wrap64]); (try (refine gen fun q hq => ?_; cases q <;> (try simp [hlt, hgt, hes, hts] at hq) <;> (try (have hh : True := hq; clear hh hq))))) | (refine wpcall_g [0] (by simp) rfl rfl hu ?_; simp) | (refine ⟨by omega, by omega, ?_⟩) | refine T.rdG1 (id := 13) mixed (fun _ => false) [4, 8, 10] [6, 7] 5 [4] [0] (by kernel_rfl) fun K hK => ?_ | refine T.r0 fun K hK => ?_ | refine T.r1 fun K hK => ?_ | refine T.ct rfl ?_ | refine T.cf rfl ?_ | refine T.seq ?_ | refine T.block ?_ | refine T.skip ?_
    refine ⟨(p + 1, es ++ [x], ts ++ [t], m, _), by dsimp only; omega, ⟨by dsimp only; omega, by simp [hes], by simp [hts], fun v hv => ?_, by dsimp only at hle ⊢; omega, by dsimp only at hle ⊢; omega, he⟩, rfl, ?_, ?_⟩
    ·rcases List.mem_append.1 hv with h | h
     ·exact hsh v h
     ·simp at h; subst h; exact hst
    ·simp [eTm_def, eTy_def]
    ·simp (disch := omega) [wrap64]
 ·have hp' : p = e.kids.length := by omega
  subst hp'
  simp [elabS, afterE] at he
  subst he
  obtain ⟨ws, t, hw1, hw2⟩ := wanted_ok ctx (by omega) e ts hk (by rw [hts]; exact hlen.symm) hsh
  cases hwr : wantM ctx e.kind e.name e.ty ts with
  | none =>
   rw [hwr] at hw2
   simp only [Option.isSome_none] at hw2
   simp only [finM, hwr, elRes]
   repeat' first | (refine aops_end (hK _ ?_); clear hK K) | ((first | refine aops_go ?_ | (refine wpcall_pure ?_ (hw2) ?_; (focus (solve | simp [hlt, hts])))); simp [hlt, hts]; (try (refine gen fun q hq => ?_; cases q <;> (try simp [hlt, hts] at hq) <;> (try (have hh : True := hq; clear hh hq))))) | refine T.r0 fun K hK => ?_ | refine T.ct rfl ?_ | refine T.cf rfl ?_ | refine T.seq ?_ | refine T.exit ?_
   all_goals (first | refine T.ret (Done.gt (Or.inr rfl) ?_ ?_) | refine T.ret (Done.g1 (Or.inr rfl) ?_ ?_)) <;> (simp [resAs, Tryz.results158])
  | some q =>
   obtain rfl := hw1 q hwr
   rw [hwr] at hw2
   simp only [Option.isSome_some] at hw2
   have hvt : nTy t <= 1099511627776 := by have := want_small hc hty hsh hwr; omega
   have htv := TypeValid_ok t hvt
   cases hsh4 : shapeTy 4 t with
   | false =>
    rw [hsh4] at htv
    simp only [finM, hwr, hsh4, elRes]
    repeat' first | (refine aops_end (hK _ ?_); clear hK K) | ((first | refine aops_go ?_ | (refine wpcall_pure ?_ (hw2) ?_; (focus (solve | simp [hlt, hts]))) | refine wpcall_pure rfl (htv) ?_); simp [hlt, hts]; (try (refine gen fun q hq => ?_; cases q <;> (try simp [hlt, hts] at hq) <;> (try (have hh : True := hq; clear hh hq))))) | refine T.r0 fun K hK => ?_ | refine T.ct rfl ?_ | refine T.cf rfl ?_ | refine T.seq ?_ | refine T.exit ?_
    all_goals (first | refine T.ret (Done.gt (Or.inr rfl) ?_ ?_) | refine T.ret (Done.g1 (Or.inr rfl) ?_ ?_)) <;> (simp [resAs, Tryz.results158])
   | true =>
    rw [hsh4] at htv
    have hwl := want_len hwr
    repeat' first | (refine aops_end (hK _ ?_); clear hK K) | ((first | refine aops_go ?_ | (refine wpcall_pure ?_ (hw2) ?_; (focus (solve | simp [hlt, hts]))) | refine wpcall_pure rfl (htv) ?_); simp [hlt, hts]; (try (refine gen fun q hq => ?_; cases q <;> (try simp [hlt, hts] at hq) <;> (try (have hh : True := hq; clear hh hq))))) | refine T.r0 fun K hK => ?_ | refine T.cf rfl ?_ | refine T.seq ?_ | refine T.block ?_ | refine T.skip ?_ | refine T.exit ?_
    obtain ⟨F, hF⟩ : ∃ F, castS c es ts ws = F := ⟨_, rfl⟩
    rw [show finM ctx e.kind e.name e.num e.ty e.fr e.label (some (es, ts), c) = (if e.kind = 13 then (F.1.head?.map fun x => (x, t), F.2) else (some (.mk e.kind e.name e.num e.ty e.fr e.label F.1, t), F.2)) by simp only [finM, hwr, hF]; simp [hsh4]]
    refine T.loopK (α := Nat × List MTm × Int × List (List CV)) [0, 5, 6, 7, 8, 10, 11, 18, 84, 85] (fun x => [(86, .i x.1)]) (fun x => [(0, [.d (.i x.2.2.1)])]) (fun x => x.2.2.2) (fun x _ => [{ sz := 9, ety := 46, rows := x.2.1.map eTm, wr := true }, { sz := 2, ety := 43, rows := ts.map eTy, wr := false }]) (fun x => ws.length + 1 - x.1)
     (fun x => x.1 <= ws.length /\ x.2.1.length = ts.length /\ 0 <= x.2.2.1 /\ x.2.2.1 <= c + x.1 /\ (x.2.1.take x.1 ++ (castS x.2.2.1 (x.2.1.drop x.1) (ts.drop x.1) (ws.drop x.1)).1, (castS x.2.2.1 (x.2.1.drop x.1) (ts.drop x.1) (ws.drop x.1)).2) = F) (by simp; rfl) (fun x hx => ?_) (0, es, c, []) (by simp [hes, hts, hF, hc0]) (by simp) (by simp) (by simp)
    clear hF
    obtain ⟨p, cur, c2, G2⟩ := x
    obtain ⟨hp, hcl, hc20, hc2, hFF⟩ := hx
    dsimp only at hp hcl hc20 hc2 hFF ⊢
    simp only [ups, List.set_cons_zero, List.set_cons_succ, List.cons_append, List.nil_append]
    by_cases hpl : p < ws.length
    ·have hp2 : p < ts.length := by omega
     have hp3 : p < cur.length := by omega
     obtain ⟨w, hw⟩ : ∃ w, ws[p] = w := ⟨_, rfl⟩
     obtain ⟨h, hh⟩ : ∃ h, ts[p] = h := ⟨_, rfl⟩
     obtain ⟨x, hx⟩ : ∃ x, cur[p] = x := ⟨_, rfl⟩
     rw [drop_cons hpl, drop_cons hp2, drop_cons hp3, hw, hh, hx] at hFF
     have hhm : h ∈ ts := by rw [<- hh]; exact List.getElem_mem hp2
     have hcast := cast_ok c2 hc20 (by omega) x h w (by have := shape4 (hsh h hhm); omega)
     have hcle := castM_le c2 x h w
     simp only [castS] at hFF
     have hst : ∀ y, (cur.set p y).take (p + 1) = cur.take p ++ [y] := fun y => by rw [List.take_add_one, List.getElem?_set_self hp3, List.take_set_of_le (Nat.le_refl p)]; rfl
     have hsd : ∀ y, (cur.set p y).drop (p + 1) = cur.drop (p + 1) := fun y => by rw [List.drop_set]; simp
     generalize castM c2 x h w = CM at *
     obtain ⟨y, m⟩ := CM
     dsimp only at hFF hcle hcast
     have hp4 : p < e.kids.length := by omega
     repeat' first | ((first | refine aops_end (hK _ ?_) | refine aopsG_end (hK _ ?_)); clear hK K) | ((first | refine aops_go ?_ | refine aopsG_go ?_); simp [hpl, hp2, hp3, hp4, hw, hh, hx, hts, hcl]; (try simp (disch := omega) only [wrap64]); (try (refine gen fun q hq => ?_; cases q <;> (try simp [hpl, hp2, hp3, hp4, hw, hh, hx, hts, hcl] at hq) <;> (try (have hh : True := hq; clear hh hq))))) | (refine wpcall_g [0] (by simp) rfl rfl hcast ?_; simp) | refine T.rdG1 (id := 21) mixed (fun _ => false) [14, 16] [1] 15 [0] [] (by kernel_rfl) fun K hK => ?_ | refine T.r0 fun K hK => ?_ | refine T.r1 fun K hK => ?_ | refine T.ct rfl ?_ | refine T.seq ?_ | refine T.block ?_ | refine T.skip ?_
     refine ⟨(p + 1, cur.set p y, m, _), by dsimp only; omega, ⟨by dsimp only; omega, by simp [hcl], by dsimp only; omega, by dsimp only; omega, by dsimp only; rw [hst, hsd]; simpa using hFF⟩, (by simp only [ups, List.set_cons_zero, List.cons_append, List.append_assoc, List.nil_append]; rfl), ?_, ?_⟩
     ·simp [eTm_def]
     ·simp (disch := omega) [wrap64]
    ·have hpe : p = ws.length := by omega
     subst hpe
     rw [List.drop_length, castS_nil, List.take_append_drop] at hFF
     subst hFF
     by_cases h13 : e.kind = 13
     ·rw [if_pos h13]
      have hc1 : cur.length = 1 := by rw [hcl, hts]; rw [h13] at hlen; simp [kidsM] at hlen; omega
      match cur, hc1 with
      | [x], _ =>
       simp only [List.head?_cons, Option.map_some, elRes]
       have hk1 : e.kids.length = 1 := by simp at hcl; omega
       repeat' first | ((first | refine aops_end (hK _ ?_) | refine aopsG_end (hK _ ?_)); clear hK K) | ((first | refine aops_go ?_ | refine aopsG_go ?_); simp [hpl, h13, hk1]; (try (refine gen fun q hq => ?_; cases q <;> (try simp [hpl, h13, hk1] at hq) <;> (try (have hh : True := hq; clear hh hq))))) | refine T.rdG (id := 24) mixed (fun _ => false) [5, 6] [4] 6 [2] [] (by kernel_rfl) fun K hK => ?_ | refine T.r0 fun K hK => ?_ | refine T.ct rfl ?_ | refine T.cf rfl ?_ | refine T.seq ?_ | refine T.exit ?_
       all_goals (first | refine T.ret (Done.gt (Or.inr rfl) ?_ ?_) | refine T.ret (Done.g1 (Or.inr rfl) ?_ ?_)) <;> (simp [resAs, Tryz.results158])
     ·rw [if_neg h13]
      simp only [elRes]
      repeat' first | ((first | refine aops_end (hK _ ?_) | refine aopsG_end (hK _ ?_)); clear hK K) | ((first | refine aops_go ?_ | refine aopsG_go ?_); simp [hpl, h13, hcl, hts]; (try (refine gen fun q hq => ?_; cases q <;> (try simp [hpl, h13, hcl, hts] at hq) <;> (try (have hh : True := hq; clear hh hq))))) | refine T.rdG (id := 25) mixed (fun _ => false) [2, 3] [1] 3 [2] [] (by kernel_rfl) fun K hK => ?_ | refine T.r0 fun K hK => ?_ | refine T.cf rfl ?_ | refine T.seq ?_ | refine T.skip ?_ | refine T.exit ?_
      all_goals (first | refine T.ret (Done.gt (Or.inr rfl) ?_ ?_) | refine T.ret (Done.g1 (Or.inr rfl) ?_ ?_)) <;> (simp [resAs, Tryz.results158, hcl, hts])

theorem term_lam (ctx : List MBd) (hl : ctx.length <= 1073741824) (e : MTm) (hk : 0 < e.kind /\ e.kind < 14) (h5 : e.kind = 5) (ins : List MBd) (hins : ins = ctx ++ [⟨e.name, e.ty⟩]) (n : Int) (hlen : kidsM e.kind = e.kids.length)
  (h0 : 0 <= n) (hn : n + nTm e <= 1073741824) (hc : okCtx ctx) (hty : typedM e.kind = true -> shapeTy 4 e.ty = true)
  (hs : ∀ u ∈ e.kids, ∀ (n : Int) x t m, elabM ins u n = (some (x, t), m) -> shapeTy 4 t = true)
  (ih : ∀ u ∈ e.kids, ∀ n : Int, 0 <= n -> n + nTm u <= 1073741824 -> ACalls Tryz.prog 158 [.c (.ptr 0 0), aBds ins, aTm u] (dV [[.i n]]) (.tup (elRes (elabM ins u n).1)) (dV [[.i (elabM ins u n).2]]) []) :
  ACalls Tryz.prog 158 [.c (.ptr 0 0), aBds ctx, aTm e] (dV [[.i n]]) (.tup (elRes (finM ctx e.kind e.name e.num e.ty e.fr e.label (elabS ins e.kids n)).1)) (dV [[.i (finM ctx e.kind e.name e.num e.ty e.fr e.label (elabS ins e.kids n)).2]]) [] := by
 obtain ⟨R, hR⟩ : ∃ R, elabS ins e.kids n = R := ⟨_, rfl⟩
 rw [hR]
 have hkl : e.kids.length <= 3 := by have := kidsM_le e.kind; omega
 have hnS : n + nTmS e.kids <= 1073741824 := by rw [nTm_def] at hn; omega
 refine ACalls.of_body Tryz.func158 (by kernel_rfl) rfl (by kernel_rfl) (by simp [Tryz.ntmps158]) (by simp) ?_
 rw [Tryz.ntmps158]
 repeat' first | ((first | refine aops_end (hK _ ?_) | refine aopsG_end (hK _ ?_)); clear hK K) | ((first | refine aops_go ?_ | refine aopsG_go ?_); simp [h5]; (try (refine gen fun q hq => ?_; cases q <;> (try simp [h5] at hq) <;> (try (have hh : True := hq; clear hh hq))))) | (refine wpcall_own rfl (cloneBd_own ctx (by omega)) ?_; simp [h5]; (try (refine gen fun q hq => ?_; cases q <;> (try simp [h5] at hq) <;> (try (have hh : True := hq; clear hh hq))))) | (refine ⟨by omega, by omega, ?_⟩) | refine T.rdG1 (id := 3) mixed (fun _ => false) [1, 8] [3, 5, 6, 7] 2 [] [] (by kernel_rfl) fun K hK => ?_ | refine T.r0 fun K hK => ?_ | refine T.ct rfl ?_ | refine T.seq ?_ | refine T.block ?_
 refine T.seal 9 0 (ctx.length + 1) (r := { sz := 3, ety := 153, rows := ins.map eBd, wr := true }) (by simp) (by simp [hins, eBd]) (by simp [hins]) ?_
 clear hins
 refine T.ownifyObj 4 8 9 46 (row := [.d (.i 5), .d (.str e.name), .d (.i e.num), .d (.i e.ty.kind), .d (.sl (e.ty.kids.map eTy)), .d (.i e.fr.kind), .d (.sl (e.fr.kids.map eTy)), .d (.i e.label), .nil]) (by simp) (by simp) ?_
 refine T.ownify 11 2 43 (by simp) ?_
 refine T.loopK (α := Nat × List MTm × List MTy × Int × List (List CV)) [0, 1, 5, 6, 7, 9, 10, 38, 39] (fun x => [(8, .b false), (11, .c (.own 2 x.1)), (40, .i x.1)]) (fun x => [(0, [.d (.i x.2.2.2.1)]), (4, [.d (.i 5), .d (.str e.name), .d (.i e.num), .d (.i e.ty.kind), .d (.sl (e.ty.kids.map eTy)), .d (.i e.fr.kind), .d (.sl (e.fr.kids.map eTy)), .d (.i e.label), .own 1 x.1])]) (fun x => x.2.2.2.2) (fun x _ => [{ sz := 3, ety := 153, rows := ins.map eBd, wr := false },{ sz := 9, ety := 46, rows := x.2.1.map eTm, wr := true }, { sz := 2, ety := 43, rows := x.2.2.1.map eTy, wr := true }]) (fun x => e.kids.length + 1 - x.1)
  (fun x => x.1 <= e.kids.length /\ x.2.1.length = x.1 /\ x.2.2.1.length = x.1 /\ (∀ u ∈ x.2.2.1, shapeTy 4 u = true) /\ 0 <= x.2.2.2.1 /\ x.2.2.2.1 + nTmS (e.kids.drop x.1) <= 1073741824 /\ afterE x.2.1 x.2.2.1 (elabS ins (e.kids.drop x.1) x.2.2.2.1) = R) (by simp; rfl) (fun x hx => ?_) (0, [], [], n, []) (by simp [afterE_nil, hR]; omega) (by simp) (by simp) (by simp)
 obtain ⟨p, es, ts, c, G⟩ := x
 obtain ⟨hi, hes, hts, hsh, hc0, hcn, he⟩ := hx
 dsimp only at hi hes hts hsh hc0 hcn he ⊢
 simp only [ups, List.set_cons_zero, List.set_cons_succ, List.cons_append, List.nil_append]
 by_cases hlt : p < e.kids.length
 ·obtain ⟨u, ht⟩ := get_lt hlt
  have htm : u ∈ e.kids := List.mem_of_getElem? ht
  have hgt : e.kids[p] = u := by rw [List.getElem?_eq_getElem hlt] at ht; exact Option.some.inj ht
  have hdr : e.kids.drop p = u :: e.kids.drop (p + 1) := by rw [List.drop_eq_getElem_cons hlt, hgt]
  rw [hdr] at he hcn
  simp only [nTmS] at hcn
  have hu := ih u htm c hc0 (by omega)
  have hle := elab_le u ins c
  rw [elabS] at he
  cases hb : elabM ins u c with
  | mk o m =>
   rw [hb] at hu he hle
   cases o with
   | none =>
    simp only [consE, afterE] at he
    subst he
    simp only [finM, elRes] at hu ⊢
    repeat' first | (refine aops_end (hK _ ?_); clear hK K) | (refine aops_go ?_; simp [hlt, hgt]; (try simp (disch := omega) only [wrap64]); (try (refine gen fun q hq => ?_; cases q <;> (try simp [hlt, hgt] at hq) <;> (try (have hh : True := hq; clear hh hq))))) | (refine wpcall_g [0] (by simp) rfl rfl hu ?_; simp) | refine T.r0 fun K hK => ?_ | refine T.ct rfl ?_ | refine T.seq ?_ | refine T.block ?_ | refine T.skip ?_
    all_goals (first | refine T.ret (Done.gt (Or.inr rfl) ?_ ?_) | refine T.ret (Done.g1 (Or.inr rfl) ?_ ?_)) <;> (simp [resAs, Tryz.results158])
   | some q =>
    obtain ⟨x, t⟩ := q
    have hst := hs u htm c x t m hb
    simp only [elRes] at hu hle
    rw [afterE_cons] at he
    repeat' first | ((first | refine aops_end (hK _ ?_) | refine aopsG_end (hK _ ?_)); clear hK K) | ((first | refine aops_go ?_ | refine aopsG_go ?_); simp [hlt, hgt, hes, hts]; (try simp (disch := omega) only [wrap64]); (try (refine gen fun q hq => ?_; cases q <;> (try simp [hlt, hgt, hes, hts] at hq) <;> (try (have hh : True := hq; clear hh hq))))) | (refine wpcall_g [0] (by simp) rfl rfl hu ?_; simp) | (refine ⟨by omega, by omega, ?_⟩) | refine T.rdG1 (id := 13) mixed (fun _ => false) [4, 8, 10] [6, 7] 5 [4] [1] (by kernel_rfl) fun K hK => ?_ | refine T.r0 fun K hK => ?_ | refine T.r1 fun K hK => ?_ | refine T.ct rfl ?_ | refine T.cf rfl ?_ | refine T.seq ?_ | refine T.block ?_ | refine T.skip ?_
    refine ⟨(p + 1, es ++ [x], ts ++ [t], m, _), by dsimp only; omega, ⟨by dsimp only; omega, by simp [hes], by simp [hts], fun v hv => ?_, by dsimp only at hle ⊢; omega, by dsimp only at hle ⊢; omega, he⟩, rfl, ?_, ?_⟩
    ·rcases List.mem_append.1 hv with h | h
     ·exact hsh v h
     ·simp at h; subst h; exact hst
    ·simp [eTm_def, eTy_def]
    ·simp (disch := omega) [wrap64]
 ·have hp' : p = e.kids.length := by omega
  subst hp'
  simp [elabS, afterE] at he
  subst he
  obtain ⟨ws, t, hw1, hw2⟩ := wanted_ok ctx (by omega) e ts hk (by rw [hts]; exact hlen.symm) hsh
  cases hwr : wantM ctx e.kind e.name e.ty ts with
  | none =>
   rw [hwr] at hw2
   simp only [Option.isSome_none] at hw2
   simp only [finM, hwr, elRes]
   repeat' first | (refine aops_end (hK _ ?_); clear hK K) | ((first | refine aops_go ?_ | (refine wpcall_pure ?_ (hw2) ?_; (focus (solve | simp [hlt, hts, h5])))); simp [hlt, hts, h5]; (try (refine gen fun q hq => ?_; cases q <;> (try simp [hlt, hts, h5] at hq) <;> (try (have hh : True := hq; clear hh hq))))) | refine T.r0 fun K hK => ?_ | refine T.ct rfl ?_ | refine T.cf rfl ?_ | refine T.seq ?_ | refine T.exit ?_
   all_goals (first | refine T.ret (Done.gt (Or.inr rfl) ?_ ?_) | refine T.ret (Done.g1 (Or.inr rfl) ?_ ?_)) <;> (simp [resAs, Tryz.results158])
  | some q =>
   obtain rfl := hw1 q hwr
   rw [hwr] at hw2
   simp only [Option.isSome_some] at hw2
   have hvt : nTy t <= 1099511627776 := by have := want_small hc hty hsh hwr; omega
   have htv := TypeValid_ok t hvt
   cases hsh4 : shapeTy 4 t with
   | false =>
    rw [hsh4] at htv
    simp only [finM, hwr, hsh4, elRes]
    repeat' first | (refine aops_end (hK _ ?_); clear hK K) | ((first | refine aops_go ?_ | (refine wpcall_pure ?_ (hw2) ?_; (focus (solve | simp [hlt, hts, h5]))) | refine wpcall_pure rfl (htv) ?_); simp [hlt, hts, h5]; (try (refine gen fun q hq => ?_; cases q <;> (try simp [hlt, hts, h5] at hq) <;> (try (have hh : True := hq; clear hh hq))))) | refine T.r0 fun K hK => ?_ | refine T.ct rfl ?_ | refine T.cf rfl ?_ | refine T.seq ?_ | refine T.exit ?_
    all_goals (first | refine T.ret (Done.gt (Or.inr rfl) ?_ ?_) | refine T.ret (Done.g1 (Or.inr rfl) ?_ ?_)) <;> (simp [resAs, Tryz.results158])
   | true =>
    rw [hsh4] at htv
    have hwl := want_len hwr
    repeat' first | (refine aops_end (hK _ ?_); clear hK K) | ((first | refine aops_go ?_ | (refine wpcall_pure ?_ (hw2) ?_; (focus (solve | simp [hlt, hts, h5]))) | refine wpcall_pure rfl (htv) ?_); simp [hlt, hts, h5]; (try (refine gen fun q hq => ?_; cases q <;> (try simp [hlt, hts, h5] at hq) <;> (try (have hh : True := hq; clear hh hq))))) | refine T.r0 fun K hK => ?_ | refine T.cf rfl ?_ | refine T.seq ?_ | refine T.block ?_ | refine T.skip ?_ | refine T.exit ?_
    obtain ⟨F, hF⟩ : ∃ F, castS c es ts ws = F := ⟨_, rfl⟩
    rw [show finM ctx e.kind e.name e.num e.ty e.fr e.label (some (es, ts), c) = (if e.kind = 13 then (F.1.head?.map fun x => (x, t), F.2) else (some (.mk e.kind e.name e.num e.ty e.fr e.label F.1, t), F.2)) by simp only [finM, hwr, hF]; simp [hsh4]]
    refine T.loopK (α := Nat × List MTm × Int × List (List CV)) [0, 5, 6, 7, 8, 10, 11, 18, 84, 85] (fun x => [(86, .i x.1)]) (fun x => [(0, [.d (.i x.2.2.1)])]) (fun x => x.2.2.2) (fun x _ => [{ sz := 3, ety := 153, rows := ins.map eBd, wr := false },{ sz := 9, ety := 46, rows := x.2.1.map eTm, wr := true }, { sz := 2, ety := 43, rows := ts.map eTy, wr := false }]) (fun x => ws.length + 1 - x.1)
     (fun x => x.1 <= ws.length /\ x.2.1.length = ts.length /\ 0 <= x.2.2.1 /\ x.2.2.1 <= c + x.1 /\ (x.2.1.take x.1 ++ (castS x.2.2.1 (x.2.1.drop x.1) (ts.drop x.1) (ws.drop x.1)).1, (castS x.2.2.1 (x.2.1.drop x.1) (ts.drop x.1) (ws.drop x.1)).2) = F) (by simp; rfl) (fun x hx => ?_) (0, es, c, []) (by simp [hes, hts, hF, hc0]) (by simp) (by simp) (by simp)
    clear hF
    obtain ⟨p, cur, c2, G2⟩ := x
    obtain ⟨hp, hcl, hc20, hc2, hFF⟩ := hx
    dsimp only at hp hcl hc20 hc2 hFF ⊢
    simp only [ups, List.set_cons_zero, List.set_cons_succ, List.cons_append, List.nil_append]
    by_cases hpl : p < ws.length
    ·have hp2 : p < ts.length := by omega
     have hp3 : p < cur.length := by omega
     obtain ⟨w, hw⟩ : ∃ w, ws[p] = w := ⟨_, rfl⟩
     obtain ⟨h, hh⟩ : ∃ h, ts[p] = h := ⟨_, rfl⟩
     obtain ⟨x, hx⟩ : ∃ x, cur[p] = x := ⟨_, rfl⟩
     rw [drop_cons hpl, drop_cons hp2, drop_cons hp3, hw, hh, hx] at hFF
     have hhm : h ∈ ts := by rw [<- hh]; exact List.getElem_mem hp2
     have hcast := cast_ok c2 hc20 (by omega) x h w (by have := shape4 (hsh h hhm); omega)
     have hcle := castM_le c2 x h w
     simp only [castS] at hFF
     have hst : ∀ y, (cur.set p y).take (p + 1) = cur.take p ++ [y] := fun y => by rw [List.take_add_one, List.getElem?_set_self hp3, List.take_set_of_le (Nat.le_refl p)]; rfl
     have hsd : ∀ y, (cur.set p y).drop (p + 1) = cur.drop (p + 1) := fun y => by rw [List.drop_set]; simp
     generalize castM c2 x h w = CM at *
     obtain ⟨y, m⟩ := CM
     dsimp only at hFF hcle hcast
     have hp4 : p < e.kids.length := by omega
     repeat' first | ((first | refine aops_end (hK _ ?_) | refine aopsG_end (hK _ ?_)); clear hK K) | ((first | refine aops_go ?_ | refine aopsG_go ?_); simp [hpl, hp2, hp3, hp4, hw, hh, hx, hts, hcl]; (try simp (disch := omega) only [wrap64]); (try (refine gen fun q hq => ?_; cases q <;> (try simp [hpl, hp2, hp3, hp4, hw, hh, hx, hts, hcl] at hq) <;> (try (have hh : True := hq; clear hh hq))))) | (refine wpcall_g [0] (by simp) rfl rfl hcast ?_; simp) | refine T.rdG1 (id := 21) mixed (fun _ => false) [14, 16] [1] 15 [0] [] (by kernel_rfl) fun K hK => ?_ | refine T.r0 fun K hK => ?_ | refine T.r1 fun K hK => ?_ | refine T.ct rfl ?_ | refine T.seq ?_ | refine T.block ?_ | refine T.skip ?_
     refine ⟨(p + 1, cur.set p y, m, _), by dsimp only; omega, ⟨by dsimp only; omega, by simp [hcl], by dsimp only; omega, by dsimp only; omega, by dsimp only; rw [hst, hsd]; simpa using hFF⟩, (by simp only [ups, List.set_cons_zero, List.cons_append, List.append_assoc, List.nil_append]; rfl), ?_, ?_⟩
     ·simp [eTm_def]
     ·simp (disch := omega) [wrap64]
    ·have hpe : p = ws.length := by omega
     subst hpe
     rw [List.drop_length, castS_nil, List.take_append_drop] at hFF
     subst hFF
     by_cases h13 : e.kind = 13
     ·exact absurd h13 (by omega)
     ·rw [if_neg h13]
      simp only [elRes]
      repeat' first | ((first | refine aops_end (hK _ ?_) | refine aopsG_end (hK _ ?_)); clear hK K) | ((first | refine aops_go ?_ | refine aopsG_go ?_); simp [hpl, h5, hcl, hts]; (try (refine gen fun q hq => ?_; cases q <;> (try simp [hpl, h5, hcl, hts] at hq) <;> (try (have hh : True := hq; clear hh hq))))) | refine T.rdG (id := 25) mixed (fun _ => false) [2, 3] [1] 3 [2] [] (by kernel_rfl) fun K hK => ?_ | refine T.r0 fun K hK => ?_ | refine T.cf rfl ?_ | refine T.seq ?_ | refine T.skip ?_ | refine T.exit ?_
      all_goals (first | refine T.ret (Done.gt (Or.inr rfl) ?_ ?_) | refine T.ret (Done.g1 (Or.inr rfl) ?_ ?_)) <;> (simp [resAs, Tryz.results158, hcl, hts, h5])

end Go.Proofs.YtflmjilnecanhaaGreatDoor

namespace Go.Proofs.YtflmjilnecanhaaGreatDoor
attribute [-simp] Go.Av.innAsH Go.Av.AV.innH Go.Av.CV.innH Go.Av.innHs Go.Av.AV.outnH Go.Av.CV.outnH
open Go Go.Av
attribute [local irreducible] T ACalls TX EX LX Draws Some_ ACallsX eTy eTm MTy.kind MTy.kids MTm.kind MTm.name MTm.num MTm.ty MTm.fr MTm.label MTm.kids
attribute [local simp] eTy_def eTm_def
set_option maxHeartbeats 16000000
set_option maxRecDepth 8000
attribute [local simp] Option.bind

theorem term_ok : ∀ (e : MTm) (d : Nat) (ctx : List MBd) (n : Int), shapeTm 14 d e = true -> ctx.length + d <= 1073741824 -> okCtx ctx -> 0 <= n -> n + nTm e <= 1073741824 ->
  ACalls Tryz.prog 158 [.c (.ptr 0 0), aBds ctx, aTm e] (dV [[.i n]]) (.tup (elRes (elabM ctx e n).1)) (dV [[.i (elabM ctx e n).2]]) [] := by
 intro e
 induction e using MTm.ind with
 | h e ih =>
  intro d ctx n hs hl hc h0 hn
  obtain ⟨d', rfl, hne, hlen, hown, hkids⟩ := shapeTm_kids hs
  have hb := kidsM_lt e.kind _ hlen
  have hin : okCtx (insideM ctx e) := by
   simp only [insideM]
   split
   ·rename_i h5
    exact hc.app (own_typed hown (by simp [typedM, h5]))
   ·exact hc
  have hil : (insideM ctx e).length <= ctx.length + 1 := by simp only [insideM]; split <;> simp
  have hsh : ∀ u ∈ e.kids, ∀ (n : Int) x t m, elabM (insideM ctx e) u n = (some (x, t), m) -> shapeTy 4 t = true := by
   intro u hu n x t m h
   have h1 := elab_type u d' (insideM ctx e) n (hkids u hu) hin
   rw [h] at h1
   exact typeM_shape u d' 14 _ t (hkids u hu) hin (by simpa using h1.symm)
  have hih : ∀ u ∈ e.kids, ∀ n : Int, 0 <= n -> n + nTm u <= 1073741824 -> ACalls Tryz.prog 158 [.c (.ptr 0 0), aBds (insideM ctx e), aTm u] (dV [[.i n]]) (.tup (elRes (elabM (insideM ctx e) u n).1)) (dV [[.i (elabM (insideM ctx e) u n).2]]) [] :=
   fun u hu n h0 hn => ih u hu d' (insideM ctx e) n (hkids u hu) (by omega) hin h0 hn
  rw [elabM_def]
  by_cases h5 : e.kind = 5
  ·exact term_lam ctx (by omega) e ⟨by omega, by omega⟩ h5 (insideM ctx e) (by simp [insideM, h5]) n hlen h0 hn hc (own_typed hown) hsh hih
  ·have hi : insideM ctx e = ctx := by simp [insideM, h5]
   rw [hi] at hsh hih ⊢
   exact term_non ctx (by omega) e ⟨by omega, by omega⟩ h5 n hlen h0 hn hc (own_typed hown) hsh hih

theorem TermValid_ok (e : MTm) (hn : nTm e <= 1099511627776) : ACalls Tryz.prog 75 [aTm e] [] (.b (termValidM e)) [] [] := by
 have h := scan_ok 30 12 14 (by omega) (by omega) e hn 1 0 (by omega) (by omega) (by omega)
 have hl := (scanM_law 30 12 14 e 12 0 (by omega) (by omega)).1
 have hr : (scanM 30 12 14 1 e 0).1 = termValidM e := by
  rw [show ((12 : Int) + 1 - ((12 : Nat) : Int)) = 1 by omega] at hl
  rw [hl, termValidM]
  congr 1
  exact decide_eq_decide.2 (by omega)
 rw [hr] at h
 refine ACalls.of_body Tryz.func75 (by kernel_rfl) rfl (by kernel_rfl) (by simp [Tryz.ntmps75]) (by simp) ?_
 rw [Tryz.ntmps75]
 repeat' first | (refine aops_end (hK _ ?_); clear hK K) | (refine aops_go ?_; simp) | (refine wpcall_upd1 1 [.i 0] [.i (scanM 30 12 14 1 e 0).2] rfl rfl h ?_; simp) | (refine T.ret (Done.data (Or.inr rfl) ?_ ?_) <;> simp [Tryz.results75] <;> omega) | refine T.r0 fun K hK => ?_

theorem term0_ok (ctx : List MBd) (e : MTm) (d : Nat) (hs : shapeTm 14 d e = true) (hl : ctx.length + d <= 1073741824) (hc : okCtx ctx) (hn : nTm e <= 1073741824) :
  ACalls Tryz.prog 176 [aBds ctx, aTm e] [] (.tup (tyRes (typeM ctx e))) [] [] := by
 have h := term_ok e d ctx 0 hs hl hc (by omega) (by omega)
 have ht := elab_type e d ctx 0 hs hc
 generalize elabM ctx e 0 = X at h ht
 obtain ⟨o, m⟩ := X
 rw [<- ht]
 cases o with
 | none =>
  simp only [elRes] at h
  simp only [Option.map_none, tyRes]
  refine ACalls.of_body Tryz.func176 (by kernel_rfl) rfl (by kernel_rfl) (by simp [Tryz.ntmps176]) (by simp) ?_
  rw [Tryz.ntmps176]
  repeat' first | (refine aops_end (hK _ ?_); clear hK K) | (refine aops_go ?_; simp) | (refine wpcall_g [2] (by simp) rfl rfl h ?_; simp) | (refine T.ret (Done.tup (Or.inr rfl) ?_) <;> simp [resAs, Tryz.results176] <;> omega) | refine T.r0 fun K hK => ?_
 | some p =>
  obtain ⟨x, t⟩ := p
  simp only [elRes] at h
  simp only [Option.map_some, tyRes]
  refine ACalls.of_body Tryz.func176 (by kernel_rfl) rfl (by kernel_rfl) (by simp [Tryz.ntmps176]) (by simp) ?_
  rw [Tryz.ntmps176]
  repeat' first | (refine aops_end (hK _ ?_); clear hK K) | (refine aops_go ?_; simp) | (refine wpcall_g [2] (by simp) rfl rfl h ?_; simp) | (refine T.ret (Done.tup (Or.inr rfl) ?_) <;> simp [resAs, Tryz.results176] <;> omega) | refine T.r0 fun K hK => ?_

theorem TypeIn_ok (ctx : List MBd) (e : MTm) (hl : ctx.length <= 1073741800) (hnc : ∀ b ∈ ctx, nTy b.ty <= 1099511627776) (hn : nTm e <= 1073741824) : ACalls Tryz.prog 102 [aBds ctx, aTm e] [] (.tup (tyRes (typeInM ctx e))) [] [] := by
 have h1 := CtxValid_ok ctx (by omega) hnc
 have h2 := TermValid_ok e (by omega)
 cases hc : ctxM ctx with
 | false =>
  rw [show typeInM ctx e = none by simp [typeInM, hc]]
  rw [hc] at h1
  refine ACalls.of_body Tryz.func102 (by kernel_rfl) rfl (by kernel_rfl) (by simp [Tryz.ntmps102]) (by simp) ?_
  rw [Tryz.ntmps102]
  repeat' first | (refine aops_end (hK _ ?_); clear hK K) | ((first | refine aops_go ?_ | refine wpcall_pure rfl (h1) ?_); simp; (try (refine gen fun q hq => ?_; cases q <;> (try simp at hq) <;> (try (have hh : True := hq; clear hh hq))))) | (refine T.ret (Done.tup (Or.inr rfl) ?_) <;> simp [resAs, Tryz.results102] <;> omega) | refine T.r0 fun K hK => ?_ | refine T.ct rfl ?_ | refine T.seq ?_
 | true =>
  rw [hc] at h1
  cases hv : termValidM e with
  | false =>
   rw [show typeInM ctx e = none by simp [typeInM, hv]]
   rw [hv] at h2
   refine ACalls.of_body Tryz.func102 (by kernel_rfl) rfl (by kernel_rfl) (by simp [Tryz.ntmps102]) (by simp) ?_
   rw [Tryz.ntmps102]
   repeat' first | (refine aops_end (hK _ ?_); clear hK K) | ((first | refine aops_go ?_ | refine wpcall_pure rfl (h1) ?_ | refine wpcall_pure rfl (h2) ?_); simp; (try (refine gen fun q hq => ?_; cases q <;> (try simp at hq) <;> (try (have hh : True := hq; clear hh hq))))) | (refine T.ret (Done.tup (Or.inr rfl) ?_) <;> simp [resAs, Tryz.results102] <;> omega) | refine T.r0 fun K hK => ?_ | refine T.ct rfl ?_ | refine T.seq ?_
  | true =>
   rw [hv] at h2
   have hok : okCtx ctx := fun b hb => by
    simp only [ctxM, Bool.and_eq_true, List.all_eq_true] at hc
    exact (hc.1 b hb).2
   have hsh : shapeTm 14 12 e = true := by simp only [termValidM, Bool.and_eq_true] at hv; exact hv.1
   have h3 := term0_ok ctx e 12 hsh (by omega) hok hn
   rw [show typeInM ctx e = typeM ctx e by simp [typeInM, hc, hv]]
   cases hr : typeM ctx e with
   | none =>
    rw [hr] at h3
    simp only [tyRes] at h3 ⊢
    refine ACalls.of_body Tryz.func102 (by kernel_rfl) rfl (by kernel_rfl) (by simp [Tryz.ntmps102]) (by simp) ?_
    rw [Tryz.ntmps102]
    repeat' first | (refine aops_end (hK _ ?_); clear hK K) | ((first | refine aops_go ?_ | refine wpcall_pure rfl (h1) ?_ | refine wpcall_pure rfl (h2) ?_ | refine wpcall_pure rfl (h3) ?_); simp; (try (refine gen fun q hq => ?_; cases q <;> (try simp at hq) <;> (try (have hh : True := hq; clear hh hq))))) | (refine T.ret (Done.tup (Or.inr rfl) ?_) <;> simp [resAs, Tryz.results102] <;> omega) | refine T.r0 fun K hK => ?_ | refine T.ct rfl ?_ | refine T.cf rfl ?_ | refine T.seq ?_ | refine T.skip ?_
   | some t =>
    rw [hr] at h3
    have h4 := ownType_ok t (by have := shape4 (typeM_shape e 12 14 ctx t hsh hok hr); omega)
    simp only [tyRes] at h3 ⊢
    refine ACalls.of_body Tryz.func102 (by kernel_rfl) rfl (by kernel_rfl) (by simp [Tryz.ntmps102]) (by simp) ?_
    rw [Tryz.ntmps102]
    repeat' first | (refine aops_end (hK _ ?_); clear hK K) | ((first | refine aops_go ?_ | refine wpcall_pure rfl (h1) ?_ | refine wpcall_pure rfl (h2) ?_ | refine wpcall_pure rfl (h3) ?_ | refine wpcall_pure rfl (h4) ?_); simp; (try (refine gen fun q hq => ?_; cases q <;> (try simp at hq) <;> (try (have hh : True := hq; clear hh hq))))) | (refine T.ret (Done.tup (Or.inr rfl) ?_) <;> simp [resAs, Tryz.results102] <;> omega) | refine T.r0 fun K hK => ?_ | refine T.cf rfl ?_ | refine T.seq ?_ | refine T.skip ?_

theorem TypeOf_ok (e : MTm) (hn : nTm e <= 1073741824) : ACalls Tryz.prog 39 [aTm e] [] (.tup (tyRes (typeInM [] e))) [] [] := by
 have h := TypeIn_ok [] e (by simp) (by simp) hn
 cases hr : typeInM [] e with
 | none =>
  rw [hr] at h
  refine ACalls.of_body Tryz.func39 (by kernel_rfl) rfl (by kernel_rfl) (by simp [Tryz.ntmps39]) (by simp) ?_
  rw [Tryz.ntmps39]
  repeat' first | (refine aops_end (hK _ ?_); clear hK K) | ((first | refine aops_go ?_ | (refine wpcall_pure ?_ (h) ?_; (focus (solve | simp)))); simp) | (refine T.ret (Done.tup (Or.inr rfl) ?_) <;> simp [resAs, Tryz.results39] <;> omega) | refine T.r0 fun K hK => ?_
 | some t =>
  rw [hr] at h
  refine ACalls.of_body Tryz.func39 (by kernel_rfl) rfl (by kernel_rfl) (by simp [Tryz.ntmps39]) (by simp) ?_
  rw [Tryz.ntmps39]
  repeat' first | (refine aops_end (hK _ ?_); clear hK K) | ((first | refine aops_go ?_ | (refine wpcall_pure ?_ (h) ?_; (focus (solve | simp)))); simp) | (refine T.ret (Done.tup (Or.inr rfl) ?_) <;> simp [resAs, Tryz.results39] <;> omega) | refine T.r0 fun K hK => ?_

def matchedM (k : Int) (t : MTy) : Option (MTy × MTy) := if shapeTy 4 t = true then matchM k t else none
abbrev twoRes : Option (MTy × MTy) -> List AV
 | some (a, b) => [aTy a, aTy b, .b true]
 | none => [aTy zeroT, aTy zeroT, .b false]

end Go.Proofs.YtflmjilnecanhaaGreatDoor

namespace Go.Proofs.YtflmjilnecanhaaGreatDoor
attribute [-simp] Go.Av.innAsH Go.Av.AV.innH Go.Av.CV.innH Go.Av.innHs Go.Av.AV.outnH Go.Av.CV.outnH
open Go Go.Av
attribute [local irreducible] T ACalls TX EX LX Draws Some_ ACallsX eTy eTm MTy.kind MTy.kids MTm.kind MTm.name MTm.num MTm.ty MTm.fr MTm.label MTm.kids
attribute [local simp] eTy_def eTm_def
set_option maxHeartbeats 16000000
set_option maxRecDepth 8000
attribute [local simp] Option.bind

end Go.Proofs.YtflmjilnecanhaaGreatDoor

namespace Go.Proofs.YtflmjilnecanhaaGreatDoor
attribute [-simp] Go.Av.innAsH Go.Av.AV.innH Go.Av.CV.innH Go.Av.innHs Go.Av.AV.outnH Go.Av.CV.outnH
open Go Go.Av
attribute [local irreducible] T ACalls TX EX LX Draws Some_ ACallsX eTy eTm MTy.kind MTy.kids MTm.kind MTm.name MTm.num MTm.ty MTm.fr MTm.label MTm.kids
attribute [local simp] eTy_def eTm_def
set_option maxHeartbeats 16000000
set_option maxRecDepth 8000
attribute [local simp] Option.bind

end Go.Proofs.YtflmjilnecanhaaGreatDoor

namespace Go.Proofs.YtflmjilnecanhaaGreatDoor
attribute [-simp] Go.Av.innAsH Go.Av.AV.innH Go.Av.CV.innH Go.Av.innHs Go.Av.AV.outnH Go.Av.CV.outnH
open Go Go.Av
attribute [local irreducible] T ACalls TX EX LX Draws Some_ ACallsX eTy eTm MTy.kind MTy.kids MTm.kind MTm.name MTm.num MTm.ty MTm.fr MTm.label MTm.kids
attribute [local simp] eTy_def eTm_def
set_option maxHeartbeats 16000000
set_option maxRecDepth 8000

theorem typeIn_of {ctx : List MBd} {e : MTm} (h1 : ctxM ctx = true) (h2 : termValidM e = true) : typeInM ctx e = typeM ctx e := by simp [typeInM, h1, h2]
theorem ctxM_nil : ctxM [] = true := rfl
theorem typeOf_of {e : MTm} (h2 : termValidM e = true) : typeInM [] e = typeM [] e := typeIn_of ctxM_nil h2

end Go.Proofs.YtflmjilnecanhaaGreatDoor

namespace Go.Proofs.YtflmjilnecanhaaGreatDoor
attribute [-simp] Go.Av.innAsH Go.Av.AV.innH Go.Av.CV.innH Go.Av.innHs Go.Av.AV.outnH Go.Av.CV.outnH
open Go Go.Av
attribute [local irreducible] T ACalls TX EX LX Draws Some_ ACallsX eTy eTm MTy.kind MTy.kids MTm.kind MTm.name MTm.num MTm.ty MTm.fr MTm.label MTm.kids
attribute [local simp] eTy_def eTm_def
set_option maxHeartbeats 16000000
set_option maxRecDepth 8000
attribute [local simp] Option.bind

theorem own_ok (e : MTm) (hn : nTm e <= 1099511627776) : ACalls Tryz.prog 153 [aTm e] [] (aTm e) [] [] := by
 have h := mapped_ok 207 (fun x => x) (fun _ => True) (fun _ _ _ _ => trivial) (fun e _ => by have := own1_ok (.mk e.kind e.name e.num e.ty e.fr e.label (e.kids.map (mapM fun x => x))); rw [mapM_def]; exact this) e trivial hn
 rw [mapM_id] at h
 refine ACalls.of_body Tryz.func153 (by kernel_rfl) rfl (by kernel_rfl) (by simp [Tryz.ntmps153]) (by simp) ?_
 rw [Tryz.ntmps153]
 repeat' first | (refine aops_end (hK _ ?_); clear hK K) | ((first | refine aops_go ?_ | refine wpcall_pure rfl (h) ?_); simp; (try (refine gen fun q hq => ?_; cases q <;> (try simp at hq) <;> (try (have hh : True := hq; clear hh hq))))) | (refine T.ret (Done.val (Or.inr rfl) ?_) <;> simp [resAs, Tryz.results153] <;> omega) | refine T.r0 fun K hK => ?_

def fitM (e : MTm) : Prop := ∃ nt d, shapeTm nt d e = true
def insertM (e : MTm) : Option (MTm × MTy) := if termValidM e = true then (elabM [] e 0).1 else none
theorem insert_some {e x : MTm} {t : MTy} (h : insertM e = some (x, t)) : termValidM e = true /\ typeInM [] e = some t /\ ∃ m, elabM [] e 0 = (some (x, t), m) /\ EV [] e 0 x t m /\ TmV 13 24 x /\ shapeTy 4 t = true /\ 0 <= m /\ m + 1 <= nodesM e /\ nodesM e <= 30 /\ nodesM x + 1 <= 2 * nodesM e /\ castTyM [] x = some t /\ nTm x <= 100000 := by
 simp only [insertM] at h
 by_cases hv : termValidM e = true
 ·rw [if_pos hv] at h
  obtain ⟨m, hm⟩ : ∃ m, elabM [] e 0 = (some (x, t), m) := ⟨(elabM [] e 0).2, by rw [<- h]⟩
  obtain ⟨hv1, hv2⟩ := termValidM_iff.1 hv
  have ev := EV.of hv1 hm
  obtain ⟨l1, l2, l3, l4, l5, l6⟩ := ev.law (d := 12) (fun b hb => by simp at hb) hv1 (by omega) (by omega)
  have hsm := l1.small
  refine ⟨hv, ?_, m, hm, ev, l1, l2, l3, by omega, hv2, l5, l6, by omega⟩
  have := elab_type e 12 [] 0 hv1.shape (fun b hb => by simp at hb)
  rw [hm] at this
  rw [typeOf_of hv]; exact this.symm
 ·rw [if_neg hv] at h; simp at h
theorem insert_none {e : MTm} (h : insertM e = none) : typeInM [] e = none := by
 simp only [insertM] at h
 by_cases hv : termValidM e = true
 ·rw [if_pos hv] at h
  have := elab_type e 12 [] 0 (termValidM_iff.1 hv).1.shape (fun b hb => by simp at hb)
  rw [h] at this
  rw [typeOf_of hv]; exact this.symm
 ·have hv' : termValidM e = false := by simpa using hv
  simp [typeInM, hv']

theorem InsertCasts_ok (e : MTm) (hn : nTm e <= 1073741824) : ACalls Tryz.prog 85 [aTm e] [] (.tup (elRes (insertM e))) [] [] := by
 have h1 := TermValid_ok e (by omega)
 cases hv : termValidM e with
 | false =>
  rw [hv] at h1
  simp only [insertM, hv, Bool.false_eq_true, if_false, elRes]
  refine ACalls.of_body Tryz.func85 (by kernel_rfl) rfl (by kernel_rfl) (by simp [Tryz.ntmps85]) (by simp) ?_
  rw [Tryz.ntmps85]
  repeat' first | (refine aops_end (hK _ ?_); clear hK K) | ((first | refine aops_go ?_ | refine wpcall_pure rfl (h1) ?_); simp; (try (refine gen fun q hq => ?_; cases q <;> (try simp at hq) <;> (try (have hh : True := hq; clear hh hq))))) | (refine T.ret (Done.tup (Or.inr rfl) ?_) <;> simp [resAs, Tryz.results85] <;> omega) | refine T.r0 fun K hK => ?_ | refine T.ct rfl ?_ | refine T.seq ?_
 | true =>
  rw [hv] at h1
  have h2 := term_ok e 12 [] 0 (termValidM_iff.1 hv).1.shape (by simp) (fun b hb => by simp at hb) (by omega) (by omega)
  cases hr : insertM e with
  | none =>
   have hr' := hr
   simp only [insertM, hv, if_true] at hr'
   rw [hr'] at h2
   generalize (elabM [] e 0).2 = m at h2
   simp only [elRes] at h2 ⊢
   refine ACalls.of_body Tryz.func85 (by kernel_rfl) rfl (by kernel_rfl) (by simp [Tryz.ntmps85]) (by simp) ?_
   rw [Tryz.ntmps85]
   repeat' first | (refine aops_end (hK _ ?_); clear hK K) | ((first | refine aops_go ?_ | refine wpcall_pure rfl (h1) ?_); simp; (try (refine gen fun q hq => ?_; cases q <;> (try simp at hq) <;> (try (have hh : True := hq; clear hh hq))))) | (refine wpcall_g [3] (by simp) rfl rfl h2 ?_; simp) | (refine T.ret (Done.tup (Or.inr rfl) ?_) <;> simp [resAs, Tryz.results85] <;> omega) | refine T.r0 fun K hK => ?_ | refine T.ct rfl ?_ | refine T.cf rfl ?_ | refine T.seq ?_ | refine T.skip ?_
  | some p =>
   obtain ⟨x, t⟩ := p
   obtain ⟨_, _, m, hm, _, _, hst, _, _, _, _, _, hnx⟩ := insert_some hr
   rw [hm] at h2
   have h3 := own_ok x (by omega)
   have h4 := ownType_ok t (by have := shape4 hst; omega)
   simp only [elRes] at h2 ⊢
   refine ACalls.of_body Tryz.func85 (by kernel_rfl) rfl (by kernel_rfl) (by simp [Tryz.ntmps85]) (by simp) ?_
   rw [Tryz.ntmps85]
   repeat' first | ((first | refine aops_end (hK _ ?_) | refine aopsD_end (hK _ ?_)); clear hK K) | ((first | refine aops_go ?_ | refine aopsD_go ?_ | refine wpcall_pure rfl (h1) ?_ | refine wpcall_pure rfl (h3) ?_ | refine wpcall_pure rfl (h4) ?_); simp; (try (refine gen fun q hq => ?_; cases q <;> (try simp at hq) <;> (try (have hh : True := hq; clear hh hq))))) | (refine wpcall_g [3] (by simp) rfl rfl h2 ?_; simp) | (refine T.ret (Done.tup (Or.inr rfl) ?_) <;> simp [resAs, Tryz.results85] <;> omega) | refine T.rd (id := 6) mixed (fun _ => false) [4, 5] (by kernel_rfl) fun K hK => ?_ | refine T.r0 fun K hK => ?_ | refine T.cf rfl ?_ | refine T.seq ?_ | refine T.skip ?_

end Go.Proofs.YtflmjilnecanhaaGreatDoor

namespace Go.Proofs.YtflmjilnecanhaaGreatDoor
open Go Go.Av
attribute [local irreducible] T ACalls TX EX LX Draws Some_ ACallsX eTy eTm MTy.kind MTy.kids MTm.kind MTm.name MTm.num MTm.ty MTm.fr MTm.label MTm.kids
attribute [local simp] eTy_def eTm_def
set_option maxHeartbeats 16000000
set_option maxRecDepth 8000

end Go.Proofs.YtflmjilnecanhaaGreatDoor

namespace Go.Proofs.YtflmjilnecanhaaGreatDoor
open Go Go.Av
attribute [local irreducible] T ACalls TX EX LX Draws Some_ ACallsX eTy eTm MTy.kind MTy.kids MTm.kind MTm.name MTm.num MTm.ty MTm.fr MTm.label MTm.kids
attribute [local simp] eTy_def eTm_def
set_option maxHeartbeats 16000000
set_option maxRecDepth 8000

end Go.Proofs.YtflmjilnecanhaaGreatDoor

namespace Go.Proofs.YtflmjilnecanhaaGreatDoor
attribute [-simp] Go.Av.innAsH Go.Av.AV.innH Go.Av.CV.innH Go.Av.innHs Go.Av.AV.outnH Go.Av.CV.outnH
open Go Go.Av
attribute [local irreducible] T ACalls TX EX LX Draws Some_ ACallsX eTy eTm MTy.kind MTy.kids MTm.kind MTm.name MTm.num MTm.ty MTm.fr MTm.label MTm.kids
attribute [local simp] eTy_def eTm_def
set_option maxHeartbeats 16000000
set_option maxRecDepth 8000

abbrev goodBd (u : MBd) : Prop := u.name ∈ ([[120], [122], [121], [88], []] : List (List UInt8)) /\ nTy u.ty <= 1000

end Go.Proofs.YtflmjilnecanhaaGreatDoor
