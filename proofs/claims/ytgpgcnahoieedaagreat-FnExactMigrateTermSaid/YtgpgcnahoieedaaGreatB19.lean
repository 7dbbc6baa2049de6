/- A part of the library of this seat. -/
import Derived.Test.YtgpgcnahoieedaaGreatB18
set_option linter.unusedVariables false
set_option linter.unusedSimpArgs false
namespace Go.Proofs.YtgpgcnahoieedaaGreat
attribute [-simp] Go.Av.astepJ Go.Av.relC Go.Av.relL Go.Av.relV Go.Av.relVs Go.Av.callJ
open Go Go.Av
attribute [local irreducible] T ACalls TX EX LX Draws Some_ ACallsX eTy eTm MTy.kind MTy.kids MTm.kind MTm.name MTm.num MTm.ty MTm.fr MTm.label MTm.kids
attribute [local simp] eTy_def eTm_def
set_option maxHeartbeats 16000000
set_option maxRecDepth 8000
attribute [local simp] Option.bind

theorem l10Steps_own : ∀ (t : MTy) (d : Nat), d <= 4 -> shapeTy d t = true -> ACalls Tryz.prog 68 [aTy t, .i d] [] (.c (.own 0 (stepsM d t).length)) [] [{ sz := 2, ety := 31, rows := (stepsM d t).map eTy, wr := true }] := by
 intro t
 induction t using MTy.ind with
 | h t ih =>
  intro d hd hs
  have hsl := steps_len (VTy.of hs)
  have hnt := shape_nTyP (VTy.of hs)
  have h16 : 2 ^ d <= 2 ^ 4 := Nat.pow_le_pow_right (by omega) hd
  obtain ⟨e, he, _, hkl, hks⟩ := shapeTy_kids hs
  rw [stepsM_def] at hsl ⊢
  by_cases h1 : t.kind = 1
  ·simp only [if_pos h1]
   have b2 := l3Int_ok
   have b3 := l3Bool_ok
   have b1 := l1Any_ok
   by_cases h2 : 1 < d
   ·simp only [if_pos h2]
    have h2' : (1 : Int) < d := by omega
    refine ACalls.of_body Tryz.func68 (by kernel_rfl) rfl (by kernel_rfl) (by simp [Tryz.ntmps68]) (by simp) ?_
    rw [Tryz.ntmps68]
    repeat' first | (refine aops_end (hK _ ?_); clear hK K) | (refine aops_go ?_; simp [h1]; (try (refine gen fun q hq => ?_; cases q <;> (try simp [h1] at hq) <;> (try (have hh : True := hq; clear hh hq))))) | (refine wpcall_pure rfl (b2) ?_; simp [h1]; (try (refine gen fun q hq => ?_; cases q <;> (try simp [h1] at hq) <;> (try (have hh : True := hq; clear hh hq))))) | (refine wpcall_pure rfl (b3) ?_; simp [h1]; (try (refine gen fun q hq => ?_; cases q <;> (try simp [h1] at hq) <;> (try (have hh : True := hq; clear hh hq))))) | refine T.rs (id := 1) (fun i => i == 0) fun K hK => ?_ | refine T.rs (id := 0) (fun _ => false) fun K hK => ?_ | refine T.rs (id := 2) (fun _ => false) fun K hK => ?_ | refine T.rs (id := 3) (fun _ => false) fun K hK => ?_ | refine T.rs (id := 4) (fun _ => false) fun K hK => ?_ | refine T.ct rfl ?_ | refine T.seq ?_ | refine T.block ?_
    refine T.loopK (α := Nat) [1, 2, 4] (fun j => [(5, .c (.own 0 (2 + j))), (6, .i (4 + j))]) (fun x => []) (fun x => []) (fun j _ => [{ sz := 2, ety := 31, rows := ([intT, boolT] ++ [gFun, gPair].take j).map eTy, wr := true }]) (fun j => 3 - j) (fun j => j <= 2) (by simp; rfl) (fun j hj => ?_) 0 (by simp) (by simp) (by simp [eTy_def]) (by simp)
    dsimp only at hj ⊢
    simp only [ups, List.set_cons_zero, List.set_cons_succ, List.cons_append, List.nil_append, List.append_nil]
    match j, hj with
    | 0, _ =>
     repeat' first | (refine aops_end (hK _ ?_); clear hK K) | (refine aops_go ?_; simp [h2']; (try simp (disch := omega) only [wrap64]); (try (refine gen fun q hq => ?_; cases q <;> (try simp [h2'] at hq) <;> (try (have hh : True := hq; clear hh hq))))) | (refine wpcall_pure rfl (b1) ?_; simp [h2']; (try simp (disch := omega) only [wrap64]); (try (refine gen fun q hq => ?_; cases q <;> (try simp [h2'] at hq) <;> (try (have hh : True := hq; clear hh hq))))) | (refine ⟨1, by dsimp only; omega, by dsimp only; omega, rfl, ?_, ?_⟩ <;> simp (disch := omega) [wrap64, eTy_def]) | refine T.r0 fun K hK => ?_ | refine T.r1 fun K hK => ?_ | refine T.ct rfl ?_ | refine T.seq ?_ | refine T.block ?_ | refine T.skip ?_
    | 1, _ =>
     repeat' first | (refine aops_end (hK _ ?_); clear hK K) | (refine aops_go ?_; simp [h2']; (try simp (disch := omega) only [wrap64]); (try (refine gen fun q hq => ?_; cases q <;> (try simp [h2'] at hq) <;> (try (have hh : True := hq; clear hh hq))))) | (refine wpcall_pure rfl (b1) ?_; simp [h2']; (try simp (disch := omega) only [wrap64]); (try (refine gen fun q hq => ?_; cases q <;> (try simp [h2'] at hq) <;> (try (have hh : True := hq; clear hh hq))))) | (refine ⟨2, by dsimp only; omega, by dsimp only; omega, rfl, ?_, ?_⟩ <;> simp (disch := omega) [wrap64, eTy_def]) | refine T.r0 fun K hK => ?_ | refine T.r1 fun K hK => ?_ | refine T.ct rfl ?_ | refine T.seq ?_ | refine T.block ?_ | refine T.skip ?_
    | 2, _ =>
     repeat' first | (refine aops_end (hK _ ?_); clear hK K) | (refine aops_go ?_; simp [h2']; (try simp (disch := omega) only [wrap64]); (try (refine gen fun q hq => ?_; cases q <;> (try simp [h2'] at hq) <;> (try (have hh : True := hq; clear hh hq))))) | refine T.r0 fun K hK => ?_ | refine T.cf rfl ?_ | refine T.seq ?_ | refine T.exit ?_
     all_goals (refine T.ret (Done.own1 0 (Or.inr rfl) (ys := [_]) ?_ rfl ?_) <;> simp [resAs, Tryz.results68, eTy_def])
   ·simp only [if_neg h2]
    have h2' : ¬ (1 : Int) < d := by omega
    refine ACalls.of_body Tryz.func68 (by kernel_rfl) rfl (by kernel_rfl) (by simp [Tryz.ntmps68]) (by simp) ?_
    rw [Tryz.ntmps68]
    repeat' first | (refine aops_end (hK _ ?_); clear hK K) | (refine aops_go ?_; simp [h1]; (try (refine gen fun q hq => ?_; cases q <;> (try simp [h1] at hq) <;> (try (have hh : True := hq; clear hh hq))))) | (refine wpcall_pure rfl (b2) ?_; simp [h1]; (try (refine gen fun q hq => ?_; cases q <;> (try simp [h1] at hq) <;> (try (have hh : True := hq; clear hh hq))))) | (refine wpcall_pure rfl (b3) ?_; simp [h1]; (try (refine gen fun q hq => ?_; cases q <;> (try simp [h1] at hq) <;> (try (have hh : True := hq; clear hh hq))))) | refine T.rs (id := 1) (fun i => i == 0) fun K hK => ?_ | refine T.rs (id := 0) (fun _ => false) fun K hK => ?_ | refine T.rs (id := 2) (fun _ => false) fun K hK => ?_ | refine T.rs (id := 3) (fun _ => false) fun K hK => ?_ | refine T.rs (id := 4) (fun _ => false) fun K hK => ?_ | refine T.ct rfl ?_ | refine T.seq ?_ | refine T.block ?_
    refine T.loopK (α := Unit) [1, 2, 4] (fun x => [(5, .c (.own 0 2)), (6, .i 4)]) (fun x => []) (fun x => []) (fun x A => A) (fun x => 0) (fun x => True) (by simp; rfl) (fun x hx => ?_) () trivial (by simp) (by simp) (by simp)
    simp only [ups, List.set_cons_zero, List.set_cons_succ, List.cons_append, List.nil_append, List.append_nil]
    repeat' first | (refine aops_end (hK _ ?_); clear hK K) | (refine aops_go ?_; simp [h2']; (try (refine gen fun q hq => ?_; cases q <;> (try simp [h2'] at hq) <;> (try (have hh : True := hq; clear hh hq))))) | refine T.r0 fun K hK => ?_ | refine T.cf rfl ?_ | refine T.seq ?_ | refine T.exit ?_
    all_goals (refine T.ret (Done.own1 0 (Or.inr rfl) (ys := [_]) ?_ rfl ?_) <;> simp [resAs, Tryz.results68, eTy_def])
  ·simp only [if_neg h1, List.length_map, List.map_map] at hsl ⊢
   subst he
   simp only [Nat.add_sub_cancel] at hsl ⊢
   have hkl2 : t.kids.length <= 14 := by have := nTyS_len t.kids; rw [nTy_def] at hnt; omega
   have hcp := l1Copy_own t (by omega)
   rw [<- subsP_all] at hsl ⊢
   refine ACalls.of_body Tryz.func68 (by kernel_rfl) rfl (by kernel_rfl) (by simp [Tryz.ntmps68]) (by simp) ?_
   rw [Tryz.ntmps68]
   repeat' first | (refine aops_end (hK _ ?_); clear hK K) | (refine aops_go ?_; simp [h1]; (try (refine gen fun q hq => ?_; cases q <;> (try simp [h1] at hq) <;> (try (have hh : True := hq; clear hh hq))))) | refine T.rs (id := 1) (fun i => i == 0) fun K hK => ?_ | refine T.rs (id := 0) (fun _ => false) fun K hK => ?_ | refine T.rs (id := 2) (fun _ => false) fun K hK => ?_ | refine T.rs (id := 9) (fun _ => false) fun K hK => ?_ | refine T.cf rfl ?_ | refine T.seq ?_ | refine T.block ?_ | refine T.skip ?_
   refine T.loopK (α := Nat × List (List CV) × List Arr) [1, 2, 4] (fun x => [(5, .c (.own 0 (subsP (stepsM e) t.kids x.1).length)), (7, .i x.1)]) (fun x => []) (fun x => x.2.1) (fun x _ => { sz := 2, ety := 31, rows := (subsP (stepsM e) t.kids x.1).map (eTy ∘ MTy.mk t.kind), wr := true } :: x.2.2) (fun x => t.kids.length + 1 - x.1) (fun x => x.1 <= t.kids.length) (by simp; rfl) (fun x hx => ?_) (0, [], []) (by simp) (by simp) (by simp [subsP_zero]) (by simp [subsP_zero])
   obtain ⟨p, G, GA⟩ := x
   dsimp only at hx ⊢
   simp only [ups, List.set_cons_zero, List.set_cons_succ, List.cons_append, List.nil_append, List.append_nil]
   by_cases hlt : p < t.kids.length
   ·obtain ⟨u, ht⟩ := get_lt hlt
    have htm : u ∈ t.kids := List.mem_of_getElem? ht
    have hgt : t.kids[p] = u := by rw [List.getElem?_eq_getElem hlt] at ht; exact Option.some.inj ht
    have hdr : t.kids.drop p = u :: t.kids.drop (p + 1) := by rw [List.drop_eq_getElem_cons hlt, hgt]
    have hu := (ih u htm e (by omega) (hks u htm)).sealed (by simp)
    dsimp only at hu
    have hsu := subsP_succ (stepsM e) ht
    have hle := subsP_le (stepsM e) t.kids (p + 1) (by omega)
    rw [hsu, List.length_append, List.length_map] at hle
    rw [subsP_all] at hsl
    generalize subsP (stepsM e) t.kids p = Z at *
    generalize stepsM e u = ru at *
    generalize (subsM (stepsM e) t.kids).length = M at *
    repeat' first | (refine aops_end (hK _ ?_); clear hK K) | (refine aops_go ?_; simp [hlt, hgt]; (try simp (disch := omega) only [wrap64]); (try (refine gen fun q hq => ?_; cases q <;> (try simp [hlt, hgt] at hq) <;> (try (have hh : True := hq; clear hh hq))))) | (refine wpcall_pure ?_ (hu) ?_; (focus (solve | simp [hlt, hgt])); simp [hlt, hgt]; (try simp (disch := omega) only [wrap64]); (try (refine gen fun q hq => ?_; cases q <;> (try simp [hlt, hgt] at hq) <;> (try (have hh : True := hq; clear hh hq))))) | refine T.r0 fun K hK => ?_ | refine T.ct rfl ?_ | refine T.seq ?_ | refine T.block ?_ | refine T.skip ?_
    refine T.loopK (α := Nat × List (List CV) × List Arr) [1, 2, 4, 7, 8, 37, 38, 39, 40, 41, 42, 43, 44, 45, 46, 47, 48, 49, 50, 51] (fun y => [(5, .c (.own 0 (Z.length + y.1))), (9, .i y.1)]) (fun y => []) (fun y => y.2.1) (fun y _ => { sz := 2, ety := 31, rows := Z.map (eTy ∘ MTy.mk t.kind) ++ (ru.take y.1).map (fun v => eTy (.mk t.kind (t.kids.set p v))), wr := true } :: (GA ++ y.2.2)) (fun y => ru.length + 1 - y.1) (fun y => y.1 <= ru.length) (by simp; rfl) (fun y hy => ?_) (0, [], []) (by simp) (by simp) (by simp) (by simp)
    obtain ⟨q, G2, GA2⟩ := y
    dsimp only at hy ⊢
    simp only [ups, List.set_cons_zero, List.set_cons_succ, List.cons_append, List.nil_append, List.append_nil]
    by_cases hlq : q < ru.length
    ·obtain ⟨v, hv⟩ := get_lt hlq
     have hgv : ru[q] = v := by rw [List.getElem?_eq_getElem hlq] at hv; exact Option.some.inj hv
     have htv : ru.take (q + 1) = ru.take q ++ [v] := by rw [List.take_add_one, hv]; rfl
     have hmin : min q ru.length = q := by omega
     repeat' first | ((first | refine aops_end (hK _ ?_) | refine aopsD_end (hK _ ?_)); clear hK K) | ((first | refine aops_go ?_ | refine aopsD_go ?_); simp [hlq, hgv, hlt, hmin]; (try simp (disch := omega) only [wrap64]); (try (refine gen fun q hq => ?_; cases q <;> (try simp [hlq, hgv, hlt, hmin] at hq) <;> (try (have hh : True := hq; clear hh hq))))) | (refine wpcall_own rfl (hcp) ?_; simp [hlq, hgv, hlt, hmin]; (try simp (disch := omega) only [wrap64]); (try (refine gen fun q hq => ?_; cases q <;> (try simp [hlq, hgv, hlt, hmin] at hq) <;> (try (have hh : True := hq; clear hh hq))))) | (refine ⟨by omega, by omega, ?_⟩) | refine T.rd (id := 17) mixed (fun _ => false) [8] (by kernel_rfl) fun K hK => ?_ | refine T.r0 fun K hK => ?_ | refine T.r1 fun K hK => ?_ | refine T.ct rfl ?_ | refine T.seq ?_ | refine T.block ?_ | refine T.skip ?_
     refine ⟨(q + 1, _, GA2 ++ [{ sz := 2, ety := 31, rows := (t.kids.map eTy).set p (eTy v), wr := false }]), by dsimp only; omega, by dsimp only; omega, (by simp only [ups, List.set_cons_zero, List.cons_append, List.append_assoc, List.nil_append]; rfl), ?_, ?_⟩
     ·simp [htv, eTy_def, List.map_set]
     ·simp (disch := omega) [wrap64, Nat.add_assoc]
    ·have hq' : q = ru.length := by omega
     subst hq'
     rw [List.take_length]
     repeat' first | (refine aops_end (hK _ ?_); clear hK K) | (refine aops_go ?_; simp [hlq]; (try simp (disch := omega) only [wrap64]); (try (refine gen fun q hq => ?_; cases q <;> (try simp [hlq] at hq) <;> (try (have hh : True := hq; clear hh hq))))) | refine T.r0 fun K hK => ?_ | refine T.r1 fun K hK => ?_ | refine T.cf rfl ?_ | refine T.seq ?_ | refine T.exit ?_
     refine ⟨(p + 1, _, GA ++ GA2), by dsimp only; omega, by dsimp only; omega, (by simp only [ups, List.set_cons_zero, List.cons_append, List.append_assoc, List.nil_append]; rfl), ?_, ?_⟩
     ·simp [hsu, Function.comp_def]
     ·simp (disch := omega) [wrap64, hsu]
   ·have hp' : p = t.kids.length := by omega
    subst hp'
    repeat' first | (refine aops_end (hK _ ?_); clear hK K) | (refine aops_go ?_; simp [hlt]; (try (refine gen fun q hq => ?_; cases q <;> (try simp [hlt] at hq) <;> (try (have hh : True := hq; clear hh hq))))) | refine T.r0 fun K hK => ?_ | refine T.cf rfl ?_ | refine T.seq ?_ | refine T.exit ?_
    refine T.ret (Done.own1 0 (Or.inr rfl) (ys := [_]) ?_ rfl ?_) <;> simp [resAs, Tryz.results68]
end Go.Proofs.YtgpgcnahoieedaaGreat

namespace Go.Proofs.YtgpgcnahoieedaaGreat
attribute [-simp] Go.Av.astepJ Go.Av.relC Go.Av.relL Go.Av.relV Go.Av.relVs Go.Av.callJ
open Go Go.Av
attribute [local irreducible] T ACalls TX EX LX Draws Some_ ACallsX eTy eTm MTy.kind MTy.kids MTm.kind MTm.name MTm.num MTm.ty MTm.fr MTm.label MTm.kids
attribute [local simp] eTy_def eTm_def
set_option maxHeartbeats 16000000
set_option maxRecDepth 8000
attribute [local simp] Option.bind

theorem RefineTypeS_ok (t : MTy) (hn : nTy t <= 1099511627776) : ACalls Tryz.prog 45 [aTy t] [] (.l ((refTyM t).map eTy)) [] [] := by
 have h1 := TypeValidS_ok t hn
 cases hv : shapeTy 4 t with
 | false =>
  rw [hv] at h1
  rw [show refTyM t = [] by simp [refTyM, hv]]
  refine ACalls.of_body Tryz.func45 (by kernel_rfl) rfl (by kernel_rfl) (by simp [Tryz.ntmps45]) (by simp) ?_
  rw [Tryz.ntmps45]
  repeat' first | (refine aops_end (hK _ ?_); clear hK K) | (refine aops_go ?_; simp; (try (refine gen fun q hq => ?_; cases q <;> (try simp at hq) <;> (try (have hh : True := hq; clear hh hq))))) | (refine wpcall_pure rfl (h1) ?_; simp; (try (refine gen fun q hq => ?_; cases q <;> (try simp at hq) <;> (try (have hh : True := hq; clear hh hq))))) | (refine T.ret (Done.val (Or.inr rfl) ?_) <;> simp [resAs, Tryz.results45] <;> omega) | refine T.r0 fun K hK => ?_ | refine T.ct rfl ?_ | refine T.seq ?_
 | true =>
  rw [hv] at h1
  rw [refTy_steps hv]
  have h2 := (l10Steps_own t 4 (by omega) hv).sealed (by simp)
  dsimp only at h2
  generalize stepsM 4 t = R at *
  refine ACalls.of_body Tryz.func45 (by kernel_rfl) rfl (by kernel_rfl) (by simp [Tryz.ntmps45]) (by simp) ?_
  rw [Tryz.ntmps45]
  repeat' first | (refine aops_end (hK _ ?_); clear hK K) | (refine aops_go ?_; simp; (try (refine gen fun q hq => ?_; cases q <;> (try simp at hq) <;> (try (have hh : True := hq; clear hh hq))))) | (refine wpcall_pure rfl (h1) ?_; simp; (try (refine gen fun q hq => ?_; cases q <;> (try simp at hq) <;> (try (have hh : True := hq; clear hh hq))))) | (refine wpcall_pure rfl (h2) ?_; simp; (try (refine gen fun q hq => ?_; cases q <;> (try simp at hq) <;> (try (have hh : True := hq; clear hh hq))))) | (refine T.ret (Done.val (Or.inr rfl) ?_) <;> simp [resAs, Tryz.results45] <;> omega) | refine T.r0 fun K hK => ?_ | refine T.cf rfl ?_ | refine T.seq ?_ | refine T.skip ?_

theorem ctx_nil : ctxM [] = true := by simp [ctxM]
theorem typeIn_nil {e : MTm} (h : termValidM e = true) : typeInM [] e = typeM [] e := by simp [typeInM, ctx_nil, h]
theorem with_some {e : MTm} {c : List MTy} (hv : termValidM e = true) (hl : c.length = (typesM e).length) (hs : ∀ u ∈ c, shapeTy 4 u = true) : withTypesM e c = some (withM e c) := by
 simp only [withTypesM, hv, hl]
 rw [if_pos]
 simpa using hs

theorem l10First_ok (e : MTm) (hn : nTm e <= 1073741824) : ACalls Tryz.prog 29 [aTm e] [] (.tup (tmRes (refineTm e).head?)) [] [] := by
 have h1 := (TermTypesS_own e hn).sealed (by simp)
 dsimp only at h1
 simp only [refineTm]
 cases hv : termValidM e with
 | false =>
  simp only [termTypesM, hv, Bool.false_eq_true, if_false, List.map_nil, List.head?_nil, tmRes] at h1 ⊢
  refine ACalls.of_body Tryz.func29 (by kernel_rfl) rfl (by kernel_rfl) (by simp [Tryz.ntmps29]) (by simp) ?_
  rw [Tryz.ntmps29]
  repeat' first | (refine aops_end (hK _ ?_); clear hK K) | (refine aops_go ?_; simp; (try (refine gen fun q hq => ?_; cases q <;> (try simp at hq) <;> (try (have hh : True := hq; clear hh hq))))) | (refine wpcall_pure rfl (h1) ?_; simp; (try (refine gen fun q hq => ?_; cases q <;> (try simp at hq) <;> (try (have hh : True := hq; clear hh hq))))) | refine T.r0 fun K hK => ?_ | refine T.seq ?_ | refine T.block ?_
  refine T.loopK (α := Unit) [1, 2, 4] (fun x => [(5, .i 0)]) (fun x => []) (fun x => []) (fun x A => A) (fun x => 0) (fun x => True) (by simp; rfl) (fun x hx => ?_) () trivial (by simp) (by simp) (by simp)
  simp only [ups, List.set_cons_zero, List.set_cons_succ, List.cons_append, List.nil_append, List.append_nil]
  repeat' first | (refine aops_end (hK _ ?_); clear hK K) | (refine aops_go ?_; simp; (try (refine gen fun q hq => ?_; cases q <;> (try simp at hq) <;> (try (have hh : True := hq; clear hh hq))))) | (refine T.ret (Done.tup (Or.inr rfl) ?_) <;> simp [resAs, Tryz.results29] <;> omega) | refine T.r0 fun K hK => ?_ | refine T.cf rfl ?_ | refine T.seq ?_ | refine T.exit ?_
 | true =>
  simp only [termTypesM, hv, if_true] at h1 ⊢
  have hsz := valid_small hv
  obtain ⟨hvt, hvn⟩ := termValidM_iff.1 hv
  obtain ⟨hsh, hln⟩ := hvt.types
  have hcv := fun i t y => cand_valid (i := i) (t := t) (y := y) hv
  have hws := fun c => with_some (c := c) hv
  have hff := fun L c => flt_first (e := e) (L := L) (c := c)
  have hall := flt_refine e
  rw [candM] at hall
  simp only [candM] at hff
  obtain ⟨R, hR⟩ : ∃ R, (refineM e).head? = R := ⟨_, rfl⟩
  rw [hR]
  obtain ⟨ts, hts⟩ : ∃ ts, typesM e = ts := ⟨_, rfl⟩
  rw [hts] at h1 hsh hln hcv hws hff hall
  have hl30 : ts.length <= 30 := by omega
  rw [<- subsP_all] at hall
  refine ACalls.of_body Tryz.func29 (by kernel_rfl) rfl (by kernel_rfl) (by simp [Tryz.ntmps29]) (by simp) ?_
  rw [Tryz.ntmps29]
  repeat' first | (refine aops_end (hK _ ?_); clear hK K) | (refine aops_go ?_; simp; (try (refine gen fun q hq => ?_; cases q <;> (try simp at hq) <;> (try (have hh : True := hq; clear hh hq))))) | (refine wpcall_pure rfl (h1) ?_; simp; (try (refine gen fun q hq => ?_; cases q <;> (try simp at hq) <;> (try (have hh : True := hq; clear hh hq))))) | refine T.r0 fun K hK => ?_ | refine T.seq ?_ | refine T.block ?_
  refine T.loopK (α := Nat × List (List CV) × List Arr) [1, 2, 4] (fun x => [(5, .i x.1)]) (fun x => []) (fun x => x.2.1) (fun x _ => x.2.2) (fun x => ts.length + 1 - x.1) (fun x => x.1 <= ts.length /\ fltM e (subsP refTyM ts x.1) = []) (by simp; rfl) (fun x hx => ?_) (0, [], []) (by simp [subsP_zero, flt_nil]) (by simp) (by simp) (by simp)
  obtain ⟨p, G, GA⟩ := x
  obtain ⟨hx, h0⟩ := hx
  dsimp only at hx h0 ⊢
  simp only [ups, List.set_cons_zero, List.set_cons_succ, List.cons_append, List.nil_append, List.append_nil]
  by_cases hlt : p < ts.length
  ·obtain ⟨u, ht⟩ := get_lt hlt
   have htm : u ∈ ts := List.mem_of_getElem? ht
   have hgt : ts[p] = u := by rw [List.getElem?_eq_getElem hlt] at ht; exact Option.some.inj ht
   have hdr : ts.drop p = u :: ts.drop (p + 1) := by rw [List.drop_eq_getElem_cons hlt, hgt]
   have hun := shape4 (hsh u htm)
   have hu := RefineTypeS_ok u (by omega)
   have hul := refTy_small u
   have hsu := subsP_succ refTyM ht
   have hpre := cand_prefix ht
   simp only [candM] at hpre
   generalize subsP refTyM ts p = Z at *
   obtain ⟨ru, hru⟩ : ∃ ru, refTyM u = ru := ⟨_, rfl⟩
   rw [hru] at hu hul hsu hpre
   repeat' first | (refine aops_end (hK _ ?_); clear hK K) | (refine aops_go ?_; simp [hlt, hgt]; (try simp (disch := omega) only [wrap64]); (try (refine gen fun q hq => ?_; cases q <;> (try simp [hlt, hgt] at hq) <;> (try (have hh : True := hq; clear hh hq))))) | (refine wpcall_pure rfl (hu) ?_; simp [hlt, hgt]; (try simp (disch := omega) only [wrap64]); (try (refine gen fun q hq => ?_; cases q <;> (try simp [hlt, hgt] at hq) <;> (try (have hh : True := hq; clear hh hq))))) | refine T.r0 fun K hK => ?_ | refine T.ct rfl ?_ | refine T.seq ?_ | refine T.block ?_ | refine T.skip ?_
   refine T.loopK (α := Nat × List (List CV) × List Arr) [1, 2, 4, 5, 6, 15, 16, 17, 18, 19, 20, 21, 22, 23, 24, 25] (fun y => [(7, .i y.1)]) (fun y => []) (fun y => y.2.1) (fun y _ => GA ++ y.2.2) (fun y => ru.length + 1 - y.1) (fun y => y.1 <= ru.length /\ fltM e (Z ++ (ru.take y.1).map (fun v => ts.set p v)) = []) (by simp; rfl) (fun y hy => ?_) (0, [], []) (by simpa using h0) (by simp) (by simp) (by simp)
   obtain ⟨q, G2, GA2⟩ := y
   obtain ⟨hy, hq0⟩ := hy
   dsimp only at hy hq0 ⊢
   simp only [ups, List.set_cons_zero, List.set_cons_succ, List.cons_append, List.nil_append, List.append_nil]
   by_cases hlq : q < ru.length
   ·obtain ⟨v, hv2⟩ := get_lt hlq
    have hgv : ru[q] = v := by rw [List.getElem?_eq_getElem hlq] at hv2; exact Option.some.inj hv2
    have htv : Z ++ (ru.take (q + 1)).map (fun v => ts.set p v) = (Z ++ (ru.take q).map (fun v => ts.set p v)) ++ [ts.set p v] := by rw [List.take_add_one, hv2]; simp
    obtain ⟨hxv, hcs⟩ := hcv p u v ht (by rw [hru]; exact List.mem_of_getElem? hv2)
    have hky := hff (Z ++ (ru.take q).map (fun v => ts.set p v)) (ts.set p v) (by rw [<- htv]; exact hpre (q + 1)) hq0
    have hkn := fun h => flt_no (e := e) (L := Z ++ (ru.take q).map (fun v => ts.set p v)) (c := ts.set p v) h
    rw [<- htv, hq0] at hkn
    rw [hR] at hky
    have hrt := WithTypesS_ok e (ts.set p v) hn (fun t h => by have := shape4 (hcs t h); omega) (by simp; omega)
    rw [hws (ts.set p v) (by simp) hcs] at hrt
    simp only [tmRes] at hrt
    have hxn := valid_small hxv
    have hti := TypeOfS_ok (withM e (ts.set p v)) (by omega)
    rw [typeIn_nil hxv] at hti
    have hset : (ts.set p v).map eTy = (ts.map eTy).set p (eTy v) := List.map_set
    simp only [typedB] at hky hkn
    generalize withM e (ts.set p v) = X at *
    cases hty : typeM [] X with
    | none =>
     rw [hty] at hti hkn
     simp only [tyRes] at hti
     have hk2 := hkn rfl
     repeat' first | (refine aops_end (hK _ ?_); clear hK K) | (refine aops_go ?_; simp [hlq, hgv, hlt, <- hset]; (try simp (disch := omega) only [wrap64]); (try (refine gen fun q hq => ?_; cases q <;> (try simp [hlq, hgv, hlt, <- hset] at hq) <;> (try (have hh : True := hq; clear hh hq))))) | (refine wpcall_pure ?_ (hrt) ?_; (focus (solve | simp [hlq, hgv, hlt, <- hset])); simp [hlq, hgv, hlt, <- hset]; (try simp (disch := omega) only [wrap64]); (try (refine gen fun q hq => ?_; cases q <;> (try simp [hlq, hgv, hlt, <- hset] at hq) <;> (try (have hh : True := hq; clear hh hq))))) | (refine wpcall_pure ?_ (hti) ?_; (focus (solve | simp [hlq, hgv, hlt, <- hset])); simp [hlq, hgv, hlt, <- hset]; (try simp (disch := omega) only [wrap64]); (try (refine gen fun q hq => ?_; cases q <;> (try simp [hlq, hgv, hlt, <- hset] at hq) <;> (try (have hh : True := hq; clear hh hq))))) | (refine ⟨by omega, by omega, ?_⟩) | refine T.rs (id := 9) (fun i => i == 0) fun K hK => ?_ | refine T.rs (id := 7) (fun _ => false) fun K hK => ?_ | refine T.rs (id := 10) (fun _ => false) fun K hK => ?_ | refine T.rs (id := 11) (fun _ => false) fun K hK => ?_ | refine T.rs (id := 12) (fun _ => false) fun K hK => ?_ | refine T.rs (id := 13) (fun _ => false) fun K hK => ?_ | refine T.rs1 (id := 8) (fun _ => false) fun K hK => ?_ | refine T.ct rfl ?_ | refine T.cf rfl ?_ | refine T.seq ?_ | refine T.block ?_ | refine T.skip ?_
     refine ⟨(q + 1, _, GA2 ++ [{ sz := 2, ety := 31, rows := (ts.map eTy).set p (eTy v), wr := false }]), by dsimp only; omega, ⟨by dsimp only; omega, hk2⟩, (by simp only [ups, List.set_cons_zero, List.cons_append, List.append_assoc, List.nil_append]; rfl), ?_, ?_⟩
     ·simp [eTy_def]
     ·simp (disch := omega) [wrap64]
    | some t =>
     rw [hty] at hti hky
     simp only [tyRes] at hti
     have hk2 := hky rfl
     subst hk2
     simp only [tmRes]
     repeat' first | (refine aops_end (hK _ ?_); clear hK K) | (refine aops_go ?_; simp [hlq, hgv, hlt, <- hset]; (try simp (disch := omega) only [wrap64]); (try (refine gen fun q hq => ?_; cases q <;> (try simp [hlq, hgv, hlt, <- hset] at hq) <;> (try (have hh : True := hq; clear hh hq))))) | (refine wpcall_pure ?_ (hrt) ?_; (focus (solve | simp [hlq, hgv, hlt, <- hset])); simp [hlq, hgv, hlt, <- hset]; (try simp (disch := omega) only [wrap64]); (try (refine gen fun q hq => ?_; cases q <;> (try simp [hlq, hgv, hlt, <- hset] at hq) <;> (try (have hh : True := hq; clear hh hq))))) | (refine wpcall_pure ?_ (hti) ?_; (focus (solve | simp [hlq, hgv, hlt, <- hset])); simp [hlq, hgv, hlt, <- hset]; (try simp (disch := omega) only [wrap64]); (try (refine gen fun q hq => ?_; cases q <;> (try simp [hlq, hgv, hlt, <- hset] at hq) <;> (try (have hh : True := hq; clear hh hq))))) | (refine ⟨by omega, by omega, ?_⟩) | (refine T.ret (Done.tup (Or.inr rfl) ?_) <;> simp [resAs, Tryz.results29, eTm_def] <;> omega) | refine T.rs (id := 9) (fun i => i == 0) fun K hK => ?_ | refine T.rs (id := 7) (fun _ => false) fun K hK => ?_ | refine T.rs (id := 10) (fun _ => false) fun K hK => ?_ | refine T.rs (id := 11) (fun _ => false) fun K hK => ?_ | refine T.rs (id := 12) (fun _ => false) fun K hK => ?_ | refine T.rs (id := 13) (fun _ => false) fun K hK => ?_ | refine T.rs (id := 14) (fun _ => false) fun K hK => ?_ | refine T.ct rfl ?_ | refine T.seq ?_ | refine T.block ?_ | refine T.skip ?_
   ·have hq' : q = ru.length := by omega
    subst hq'
    rw [List.take_length, <- hsu] at hq0
    repeat' first | (refine aops_end (hK _ ?_); clear hK K) | (refine aops_go ?_; simp [hlq]; (try simp (disch := omega) only [wrap64]); (try (refine gen fun q hq => ?_; cases q <;> (try simp [hlq] at hq) <;> (try (have hh : True := hq; clear hh hq))))) | refine T.r0 fun K hK => ?_ | refine T.r1 fun K hK => ?_ | refine T.cf rfl ?_ | refine T.seq ?_ | refine T.exit ?_
    refine ⟨(p + 1, _, GA ++ GA2), by dsimp only; omega, ⟨by dsimp only; omega, hq0⟩, (by simp only [ups, List.set_cons_zero, List.cons_append, List.append_assoc, List.nil_append]; rfl), ?_, ?_⟩
    ·simp
    ·simp (disch := omega) [wrap64]
  ·have hp' : p = ts.length := by omega
   subst hp'
   rw [h0] at hall
   rw [<- hall] at hR
   simp only [List.head?_nil] at hR
   subst hR
   simp only [tmRes]
   repeat' first | (refine aops_end (hK _ ?_); clear hK K) | (refine aops_go ?_; simp [hlt]; (try (refine gen fun q hq => ?_; cases q <;> (try simp [hlt] at hq) <;> (try (have hh : True := hq; clear hh hq))))) | (refine T.ret (Done.tup (Or.inr rfl) ?_) <;> simp [resAs, Tryz.results29] <;> omega) | refine T.r0 fun K hK => ?_ | refine T.cf rfl ?_ | refine T.seq ?_ | refine T.exit ?_

theorem MigrateTermS_ok (e : MTm) (hn : nTm e <= 1073741824) : ACalls Tryz.prog 12 [aTm e] [] (.tup (tmRes (migrateTm e))) [] [] := by
 have h1 := TypeOfS_ok e (by omega)
 simp only [migrateTm]
 cases ht : typeInM [] e with
 | none =>
  rw [ht] at h1
  simp only [tyRes, Option.isSome_none, Bool.false_eq_true, if_false, tmRes] at h1 ⊢
  refine ACalls.of_body Tryz.func12 (by kernel_rfl) rfl (by kernel_rfl) (by simp [Tryz.ntmps12]) (by simp) ?_
  rw [Tryz.ntmps12]
  repeat' first | (refine aops_end (hK _ ?_); clear hK K) | (refine aops_go ?_; simp; (try (refine gen fun q hq => ?_; cases q <;> (try simp at hq) <;> (try (have hh : True := hq; clear hh hq))))) | (refine wpcall_pure rfl (h1) ?_; simp; (try (refine gen fun q hq => ?_; cases q <;> (try simp at hq) <;> (try (have hh : True := hq; clear hh hq))))) | (refine T.ret (Done.tup (Or.inr rfl) ?_) <;> simp [resAs, Tryz.results12] <;> omega) | refine T.r0 fun K hK => ?_ | refine T.ct rfl ?_ | refine T.seq ?_
 | some t =>
  rw [ht] at h1
  simp only [tyRes, Option.isSome_some, if_true, tmRes] at h1 ⊢
  have h2 := l2Copy_ok e (by omega)
  have hv := (typeIn_some ht).2.1
  obtain ⟨R, hR⟩ : ∃ R, migrateM e = R := ⟨_, rfl⟩
  rw [hR]
  refine ACalls.of_body Tryz.func12 (by kernel_rfl) rfl (by kernel_rfl) (by simp [Tryz.ntmps12]) (by simp) ?_
  rw [Tryz.ntmps12]
  repeat' first | (refine aops_end (hK _ ?_); clear hK K) | (refine aops_go ?_; simp; (try (refine gen fun q hq => ?_; cases q <;> (try simp at hq) <;> (try (have hh : True := hq; clear hh hq))))) | (refine wpcall_pure rfl (h1) ?_; simp; (try (refine gen fun q hq => ?_; cases q <;> (try simp at hq) <;> (try (have hh : True := hq; clear hh hq))))) | (refine wpcall_pure rfl (h2) ?_; simp; (try (refine gen fun q hq => ?_; cases q <;> (try simp at hq) <;> (try (have hh : True := hq; clear hh hq))))) | refine T.r0 fun K hK => ?_ | refine T.cf rfl ?_ | refine T.seq ?_ | refine T.block ?_ | refine T.skip ?_
  refine T.loopK (α := MTm × List (List CV)) [1, 2] (fun x => []) (fun x => [(0, (aTm x.1).cells)]) (fun x => x.2) (fun x A => A) (fun x => 15 * (typesM x.1).length + 1 - sumW x.1) (fun x => termValidM x.1 = true /\ migrateM x.1 = R) (by simp; rfl) (fun x hx => ?_) (e, []) ⟨hv, hR⟩ (by simp) (by simp) (by simp)
  obtain ⟨x, G⟩ := x
  obtain ⟨hxv, hxR⟩ := hx
  dsimp only at hxv hxR ⊢
  simp only [ups, List.set_cons_zero, List.set_cons_succ, List.cons_append, List.nil_append, List.append_nil]
  have hxs := valid_small hxv
  have h3 := l10First_ok x (by omega)
  simp only [refineTm, hxv, if_true] at h3
  cases hr : refineM x with
  | nil =>
   rw [hr] at h3
   simp only [List.head?_nil, tmRes] at h3
   rw [migrate_nil hr] at hxR
   subst hxR
   repeat' first | (refine aops_end (hK _ ?_); clear hK K) | (refine aops_go ?_; simp; (try (refine gen fun q hq => ?_; cases q <;> (try simp at hq) <;> (try (have hh : True := hq; clear hh hq))))) | (refine wpcall_pure rfl (h3) ?_; simp; (try (refine gen fun q hq => ?_; cases q <;> (try simp at hq) <;> (try (have hh : True := hq; clear hh hq))))) | (refine T.ret (Done.tup (Or.inr rfl) ?_) <;> simp [resAs, Tryz.results12] <;> omega) | refine T.r0 fun K hK => ?_ | refine T.ct rfl ?_ | refine T.seq ?_ | refine T.block ?_
  | cons y r =>
   rw [hr] at h3
   simp only [List.head?_cons, tmRes] at h3
   obtain ⟨q1, q2, q3⟩ := migrate_cons hxv hr
   repeat' first | (refine aops_end (hK _ ?_); clear hK K) | (refine aops_go ?_; simp; (try (refine gen fun q hq => ?_; cases q <;> (try simp at hq) <;> (try (have hh : True := hq; clear hh hq))))) | (refine wpcall_pure rfl (h3) ?_; simp; (try (refine gen fun q hq => ?_; cases q <;> (try simp at hq) <;> (try (have hh : True := hq; clear hh hq))))) | (refine ⟨(y, _), q3, ⟨q2, by rw [<- q1]; exact hxR⟩, rfl, ?_, ?_⟩ <;> simp [eTm_def]) | refine T.r0 fun K hK => ?_ | refine T.r1 fun K hK => ?_ | refine T.cf rfl ?_ | refine T.seq ?_ | refine T.block ?_ | refine T.skip ?_

end Go.Proofs.YtgpgcnahoieedaaGreat
