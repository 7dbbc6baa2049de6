/- A part of the library of this seat. -/
import Derived.Test.YtgpgcnahoieedaaR17
set_option linter.unusedVariables false
set_option linter.unusedSimpArgs false
namespace Go.Proofs.Ytgpgcnahoieedaa
attribute [-simp] Go.Av.astepJ Go.Av.relC Go.Av.relL Go.Av.relV Go.Av.relVs Go.Av.callJ
open Go Go.Av
attribute [local irreducible] T ACalls TX EX LX Draws Some_ ACallsX eTy eTm MTy.kind MTy.kids MTm.kind MTm.name MTm.num MTm.ty MTm.fr MTm.label MTm.kids
attribute [local simp] eTy_def eTm_def
set_option maxHeartbeats 16000000
set_option maxRecDepth 8000
attribute [local simp] Option.bind

theorem l10Steps_own : ∀ (t : MTy) (d : Nat), d <= 4 -> shapeTy d t = true -> ACalls Try.prog 109 [aTy t, .i d] [] (.c (.own 0 (stepsM d t).length)) [] [{ sz := 2, ety := 31, rows := (stepsM d t).map eTy, wr := true }] := by
 intro t
 induction t using MTy.ind with
 | h t ih =>
  intro d hd hs
  have hsl := steps_len (VTy.of hs)
  have hnt := shape_nTyP (VTy.of hs)
  have h16 : 2 ^ d <= 2 ^ 4 := Nat.pow_le_pow_right (by omega) hd
  obtain ⟨e, he, _, hkl, hks⟩ := shapeTy_kids hs
  rw [stepsM_def] at hsl ⊢
  by_cases h1 : t.kind = 1
  ·simp only [if_pos h1]
   have b2 := l3Int_ok
   have b3 := l3Bool_ok
   have b1 := l1Any_ok
   by_cases h2 : 1 < d
   ·simp only [if_pos h2]
    have h2' : (1 : Int) < d := by omega
    refine ACalls.of_body Try.func109 (by kernel_rfl) rfl (by kernel_rfl) (by simp [Try.ntmps109]) (by simp) ?_
    rw [Try.ntmps109]
    repeat' first | (refine aops_end (hK _ ?_); clear hK K) | (refine aops_go ?_; simp [h1]; (try (refine gen fun q hq => ?_; cases q <;> (try simp [h1] at hq) <;> (try (have hh : True := hq; clear hh hq))))) | (refine wpcall_pure rfl (b2) ?_; simp [h1]; (try (refine gen fun q hq => ?_; cases q <;> (try simp [h1] at hq) <;> (try (have hh : True := hq; clear hh hq))))) | (refine wpcall_pure rfl (b3) ?_; simp [h1]; (try (refine gen fun q hq => ?_; cases q <;> (try simp [h1] at hq) <;> (try (have hh : True := hq; clear hh hq))))) | refine T.rs (id := 1) (fun i => i == 0) fun K hK => ?_ | refine T.rs (id := 0) (fun _ => false) fun K hK => ?_ | refine T.rs (id := 2) (fun _ => false) fun K hK => ?_ | refine T.rs (id := 3) (fun _ => false) fun K hK => ?_ | refine T.rs (id := 4) (fun _ => false) fun K hK => ?_ | refine T.ct rfl ?_ | refine T.seq ?_ | refine T.block ?_
    refine T.loopK (α := Nat) [1, 2, 4] (fun j => [(5, .c (.own 0 (2 + j))), (6, .i (4 + j))]) (fun x => []) (fun x => []) (fun j _ => [{ sz := 2, ety := 31, rows := ([intT, boolT] ++ [gFun, gPair].take j).map eTy, wr := true }]) (fun j => 3 - j) (fun j => j <= 2) (by simp; rfl) (fun j hj => ?_) 0 (by simp) (by simp) (by simp [eTy_def]) (by simp)
    dsimp only at hj ⊢
    simp only [ups, List.set_cons_zero, List.set_cons_succ, List.cons_append, List.nil_append, List.append_nil]
    match j, hj with
    | 0, _ =>
     repeat' first | (refine aops_end (hK _ ?_); clear hK K) | (refine aops_go ?_; simp [h2']; (try simp (disch := omega) only [wrap64]); (try (refine gen fun q hq => ?_; cases q <;> (try simp [h2'] at hq) <;> (try (have hh : True := hq; clear hh hq))))) | (refine wpcall_pure rfl (b1) ?_; simp [h2']; (try simp (disch := omega) only [wrap64]); (try (refine gen fun q hq => ?_; cases q <;> (try simp [h2'] at hq) <;> (try (have hh : True := hq; clear hh hq))))) | (refine ⟨1, by dsimp only; omega, by dsimp only; omega, rfl, ?_, ?_⟩ <;> simp (disch := omega) [wrap64, eTy_def]) | refine T.r0 fun K hK => ?_ | refine T.r1 fun K hK => ?_ | refine T.ct rfl ?_ | refine T.seq ?_ | refine T.block ?_ | refine T.skip ?_
    | 1, _ =>
     repeat' first | (refine aops_end (hK _ ?_); clear hK K) | (refine aops_go ?_; simp [h2']; (try simp (disch := omega) only [wrap64]); (try (refine gen fun q hq => ?_; cases q <;> (try simp [h2'] at hq) <;> (try (have hh : True := hq; clear hh hq))))) | (refine wpcall_pure rfl (b1) ?_; simp [h2']; (try simp (disch := omega) only [wrap64]); (try (refine gen fun q hq => ?_; cases q <;> (try simp [h2'] at hq) <;> (try (have hh : True := hq; clear hh hq))))) | (refine ⟨2, by dsimp only; omega, by dsimp only; omega, rfl, ?_, ?_⟩ <;> simp (disch := omega) [wrap64, eTy_def]) | refine T.r0 fun K hK => ?_ | refine T.r1 fun K hK => ?_ | refine T.ct rfl ?_ | refine T.seq ?_ | refine T.block ?_ | refine T.skip ?_
    | 2, _ =>
     repeat' first | (refine aops_end (hK _ ?_); clear hK K) | (refine aops_go ?_; simp [h2']; (try simp (disch := omega) only [wrap64]); (try (refine gen fun q hq => ?_; cases q <;> (try simp [h2'] at hq) <;> (try (have hh : True := hq; clear hh hq))))) | refine T.r0 fun K hK => ?_ | refine T.cf rfl ?_ | refine T.seq ?_ | refine T.exit ?_
     all_goals (refine T.ret (Done.own1 0 (Or.inr rfl) (ys := [_]) ?_ rfl ?_) <;> simp [resAs, Try.results109, eTy_def])
   ·simp only [if_neg h2]
    have h2' : ¬ (1 : Int) < d := by omega
    refine ACalls.of_body Try.func109 (by kernel_rfl) rfl (by kernel_rfl) (by simp [Try.ntmps109]) (by simp) ?_
    rw [Try.ntmps109]
    repeat' first | (refine aops_end (hK _ ?_); clear hK K) | (refine aops_go ?_; simp [h1]; (try (refine gen fun q hq => ?_; cases q <;> (try simp [h1] at hq) <;> (try (have hh : True := hq; clear hh hq))))) | (refine wpcall_pure rfl (b2) ?_; simp [h1]; (try (refine gen fun q hq => ?_; cases q <;> (try simp [h1] at hq) <;> (try (have hh : True := hq; clear hh hq))))) | (refine wpcall_pure rfl (b3) ?_; simp [h1]; (try (refine gen fun q hq => ?_; cases q <;> (try simp [h1] at hq) <;> (try (have hh : True := hq; clear hh hq))))) | refine T.rs (id := 1) (fun i => i == 0) fun K hK => ?_ | refine T.rs (id := 0) (fun _ => false) fun K hK => ?_ | refine T.rs (id := 2) (fun _ => false) fun K hK => ?_ | refine T.rs (id := 3) (fun _ => false) fun K hK => ?_ | refine T.rs (id := 4) (fun _ => false) fun K hK => ?_ | refine T.ct rfl ?_ | refine T.seq ?_ | refine T.block ?_
    refine T.loopK (α := Unit) [1, 2, 4] (fun x => [(5, .c (.own 0 2)), (6, .i 4)]) (fun x => []) (fun x => []) (fun x A => A) (fun x => 0) (fun x => True) (by simp; rfl) (fun x hx => ?_) () trivial (by simp) (by simp) (by simp)
    simp only [ups, List.set_cons_zero, List.set_cons_succ, List.cons_append, List.nil_append, List.append_nil]
    repeat' first | (refine aops_end (hK _ ?_); clear hK K) | (refine aops_go ?_; simp [h2']; (try (refine gen fun q hq => ?_; cases q <;> (try simp [h2'] at hq) <;> (try (have hh : True := hq; clear hh hq))))) | refine T.r0 fun K hK => ?_ | refine T.cf rfl ?_ | refine T.seq ?_ | refine T.exit ?_
    all_goals (refine T.ret (Done.own1 0 (Or.inr rfl) (ys := [_]) ?_ rfl ?_) <;> simp [resAs, Try.results109, eTy_def])
  ·simp only [if_neg h1, List.length_map, List.map_map] at hsl ⊢
   subst he
   simp only [Nat.add_sub_cancel] at hsl ⊢
   have hkl2 : t.kids.length <= 14 := by have := nTyS_len t.kids; rw [nTy_def] at hnt; omega
   have hcp := l1Copy_own t (by omega)
   rw [<- subsP_all] at hsl ⊢
   refine ACalls.of_body Try.func109 (by kernel_rfl) rfl (by kernel_rfl) (by simp [Try.ntmps109]) (by simp) ?_
   rw [Try.ntmps109]
   repeat' first | (refine aops_end (hK _ ?_); clear hK K) | (refine aops_go ?_; simp [h1]; (try (refine gen fun q hq => ?_; cases q <;> (try simp [h1] at hq) <;> (try (have hh : True := hq; clear hh hq))))) | refine T.rs (id := 1) (fun i => i == 0) fun K hK => ?_ | refine T.rs (id := 0) (fun _ => false) fun K hK => ?_ | refine T.rs (id := 2) (fun _ => false) fun K hK => ?_ | refine T.rs (id := 9) (fun _ => false) fun K hK => ?_ | refine T.cf rfl ?_ | refine T.seq ?_ | refine T.block ?_ | refine T.skip ?_
   refine T.loopK (α := Nat × List (List CV) × List Arr) [1, 2, 4] (fun x => [(5, .c (.own 0 (subsP (stepsM e) t.kids x.1).length)), (7, .i x.1)]) (fun x => []) (fun x => x.2.1) (fun x _ => { sz := 2, ety := 31, rows := (subsP (stepsM e) t.kids x.1).map (eTy ∘ MTy.mk t.kind), wr := true } :: x.2.2) (fun x => t.kids.length + 1 - x.1) (fun x => x.1 <= t.kids.length) (by simp; rfl) (fun x hx => ?_) (0, [], []) (by simp) (by simp) (by simp [subsP_zero]) (by simp [subsP_zero])
   obtain ⟨p, G, GA⟩ := x
   dsimp only at hx ⊢
   simp only [ups, List.set_cons_zero, List.set_cons_succ, List.cons_append, List.nil_append, List.append_nil]
   by_cases hlt : p < t.kids.length
   ·obtain ⟨u, ht⟩ := get_lt hlt
    have htm : u ∈ t.kids := List.mem_of_getElem? ht
    have hgt : t.kids[p] = u := by rw [List.getElem?_eq_getElem hlt] at ht; exact Option.some.inj ht
    have hdr : t.kids.drop p = u :: t.kids.drop (p + 1) := by rw [List.drop_eq_getElem_cons hlt, hgt]
    have hu := (ih u htm e (by omega) (hks u htm)).sealed (by simp)
    dsimp only at hu
    have hsu := subsP_succ (stepsM e) ht
    have hle := subsP_le (stepsM e) t.kids (p + 1) (by omega)
    rw [hsu, List.length_append, List.length_map] at hle
    rw [subsP_all] at hsl
    generalize subsP (stepsM e) t.kids p = Z at *
    generalize stepsM e u = ru at *
    generalize (subsM (stepsM e) t.kids).length = M at *
    repeat' first | (refine aops_end (hK _ ?_); clear hK K) | (refine aops_go ?_; simp [hlt, hgt]; (try simp (disch := omega) only [wrap64]); (try (refine gen fun q hq => ?_; cases q <;> (try simp [hlt, hgt] at hq) <;> (try (have hh : True := hq; clear hh hq))))) | (refine wpcall_pure ?_ (hu) ?_; (focus (solve | simp [hlt, hgt])); simp [hlt, hgt]; (try simp (disch := omega) only [wrap64]); (try (refine gen fun q hq => ?_; cases q <;> (try simp [hlt, hgt] at hq) <;> (try (have hh : True := hq; clear hh hq))))) | refine T.r0 fun K hK => ?_ | refine T.ct rfl ?_ | refine T.seq ?_ | refine T.block ?_ | refine T.skip ?_
    refine T.loopK (α := Nat × List (List CV) × List Arr) [1, 2, 4, 7, 8, 37, 38, 39, 40, 41, 42, 43, 44, 45, 46, 47, 48, 49, 50, 51] (fun y => [(5, .c (.own 0 (Z.length + y.1))), (9, .i y.1)]) (fun y => []) (fun y => y.2.1) (fun y _ => { sz := 2, ety := 31, rows := Z.map (eTy ∘ MTy.mk t.kind) ++ (ru.take y.1).map (fun v => eTy (.mk t.kind (t.kids.set p v))), wr := true } :: (GA ++ y.2.2)) (fun y => ru.length + 1 - y.1) (fun y => y.1 <= ru.length) (by simp; rfl) (fun y hy => ?_) (0, [], []) (by simp) (by simp) (by simp) (by simp)
    obtain ⟨q, G2, GA2⟩ := y
    dsimp only at hy ⊢
    simp only [ups, List.set_cons_zero, List.set_cons_succ, List.cons_append, List.nil_append, List.append_nil]
    by_cases hlq : q < ru.length
    ·obtain ⟨v, hv⟩ := get_lt hlq
     have hgv : ru[q] = v := by rw [List.getElem?_eq_getElem hlq] at hv; exact Option.some.inj hv
     have htv : ru.take (q + 1) = ru.take q ++ [v] := by rw [List.take_add_one, hv]; rfl
     have hmin : min q ru.length = q := by omega
     repeat' first | ((first | refine aops_end (hK _ ?_) | refine aopsD_end (hK _ ?_)); clear hK K) | ((first | refine aops_go ?_ | refine aopsD_go ?_); simp [hlq, hgv, hlt, hmin]; (try simp (disch := omega) only [wrap64]); (try (refine gen fun q hq => ?_; cases q <;> (try simp [hlq, hgv, hlt, hmin] at hq) <;> (try (have hh : True := hq; clear hh hq))))) | (refine wpcall_own rfl (hcp) ?_; simp [hlq, hgv, hlt, hmin]; (try simp (disch := omega) only [wrap64]); (try (refine gen fun q hq => ?_; cases q <;> (try simp [hlq, hgv, hlt, hmin] at hq) <;> (try (have hh : True := hq; clear hh hq))))) | (refine ⟨by omega, by omega, ?_⟩) | refine T.rd (id := 17) mixed (fun _ => false) [8] (by kernel_rfl) fun K hK => ?_ | refine T.r0 fun K hK => ?_ | refine T.r1 fun K hK => ?_ | refine T.ct rfl ?_ | refine T.seq ?_ | refine T.block ?_ | refine T.skip ?_
     refine ⟨(q + 1, _, GA2 ++ [{ sz := 2, ety := 31, rows := (t.kids.map eTy).set p (eTy v), wr := false }]), by dsimp only; omega, by dsimp only; omega, (by simp only [ups, List.set_cons_zero, List.cons_append, List.append_assoc, List.nil_append]; rfl), ?_, ?_⟩
     ·simp [htv, eTy_def, List.map_set]
     ·simp (disch := omega) [wrap64, Nat.add_assoc]
    ·have hq' : q = ru.length := by omega
     subst hq'
     rw [List.take_length]
     repeat' first | (refine aops_end (hK _ ?_); clear hK K) | (refine aops_go ?_; simp [hlq]; (try simp (disch := omega) only [wrap64]); (try (refine gen fun q hq => ?_; cases q <;> (try simp [hlq] at hq) <;> (try (have hh : True := hq; clear hh hq))))) | refine T.r0 fun K hK => ?_ | refine T.r1 fun K hK => ?_ | refine T.cf rfl ?_ | refine T.seq ?_ | refine T.exit ?_
     refine ⟨(p + 1, _, GA ++ GA2), by dsimp only; omega, by dsimp only; omega, (by simp only [ups, List.set_cons_zero, List.cons_append, List.append_assoc, List.nil_append]; rfl), ?_, ?_⟩
     ·simp [hsu, Function.comp_def]
     ·simp (disch := omega) [wrap64, hsu]
   ·have hp' : p = t.kids.length := by omega
    subst hp'
    repeat' first | (refine aops_end (hK _ ?_); clear hK K) | (refine aops_go ?_; simp [hlt]; (try (refine gen fun q hq => ?_; cases q <;> (try simp [hlt] at hq) <;> (try (have hh : True := hq; clear hh hq))))) | refine T.r0 fun K hK => ?_ | refine T.cf rfl ?_ | refine T.seq ?_ | refine T.exit ?_
    refine T.ret (Done.own1 0 (Or.inr rfl) (ys := [_]) ?_ rfl ?_) <;> simp [resAs, Try.results109]
end Go.Proofs.Ytgpgcnahoieedaa

namespace Go.Proofs.Ytgpgcnahoieedaa
attribute [-simp] Go.Av.astepJ Go.Av.relC Go.Av.relL Go.Av.relV Go.Av.relVs Go.Av.callJ
open Go Go.Av
attribute [local irreducible] T ACalls TX EX LX Draws Some_ ACallsX eTy eTm MTy.kind MTy.kids MTm.kind MTm.name MTm.num MTm.ty MTm.fr MTm.label MTm.kids
attribute [local simp] eTy_def eTm_def
set_option maxHeartbeats 16000000
set_option maxRecDepth 8000
attribute [local simp] Option.bind

theorem RefineTypeS_ok (t : MTy) (hn : nTy t <= 1099511627776) : ACalls Try.prog 64 [aTy t] [] (.l ((refTyM t).map eTy)) [] [] := by
 have h1 := TypeValidS_ok t hn
 cases hv : shapeTy 4 t with
 | false =>
  rw [hv] at h1
  rw [show refTyM t = [] by simp [refTyM, hv]]
  refine ACalls.of_body Try.func64 (by kernel_rfl) rfl (by kernel_rfl) (by simp [Try.ntmps64]) (by simp) ?_
  rw [Try.ntmps64]
  repeat' first | (refine aops_end (hK _ ?_); clear hK K) | (refine aops_go ?_; simp; (try (refine gen fun q hq => ?_; cases q <;> (try simp at hq) <;> (try (have hh : True := hq; clear hh hq))))) | (refine wpcall_pure rfl (h1) ?_; simp; (try (refine gen fun q hq => ?_; cases q <;> (try simp at hq) <;> (try (have hh : True := hq; clear hh hq))))) | (refine T.ret (Done.val (Or.inr rfl) ?_) <;> simp [resAs, Try.results64] <;> omega) | refine T.r0 fun K hK => ?_ | refine T.ct rfl ?_ | refine T.seq ?_
 | true =>
  rw [hv] at h1
  rw [refTy_steps hv]
  have h2 := (l10Steps_own t 4 (by omega) hv).sealed (by simp)
  dsimp only at h2
  generalize stepsM 4 t = R at *
  refine ACalls.of_body Try.func64 (by kernel_rfl) rfl (by kernel_rfl) (by simp [Try.ntmps64]) (by simp) ?_
  rw [Try.ntmps64]
  repeat' first | (refine aops_end (hK _ ?_); clear hK K) | (refine aops_go ?_; simp; (try (refine gen fun q hq => ?_; cases q <;> (try simp at hq) <;> (try (have hh : True := hq; clear hh hq))))) | (refine wpcall_pure rfl (h1) ?_; simp; (try (refine gen fun q hq => ?_; cases q <;> (try simp at hq) <;> (try (have hh : True := hq; clear hh hq))))) | (refine wpcall_pure rfl (h2) ?_; simp; (try (refine gen fun q hq => ?_; cases q <;> (try simp at hq) <;> (try (have hh : True := hq; clear hh hq))))) | (refine T.ret (Done.val (Or.inr rfl) ?_) <;> simp [resAs, Try.results64] <;> omega) | refine T.r0 fun K hK => ?_ | refine T.cf rfl ?_ | refine T.seq ?_ | refine T.skip ?_

theorem ctx_nil : ctxM [] = true := by simp [ctxM]
theorem typeIn_nil {e : MTm} (h : termValidM e = true) : typeInM [] e = typeM [] e := by simp [typeInM, ctx_nil, h]
theorem with_some {e : MTm} {c : List MTy} (hv : termValidM e = true) (hl : c.length = (typesM e).length) (hs : ∀ u ∈ c, shapeTy 4 u = true) : withTypesM e c = some (withM e c) := by
 simp only [withTypesM, hv, hl]
 rw [if_pos]
 simpa using hs

theorem RefineTermS_ok (e : MTm) (hn : nTm e <= 1073741824) : ACalls Try.prog 28 [aTm e] [] (.l ((refineTm e).map eTm)) [] [] := by
 have h1 := (TermTypesS_own e hn).sealed (by simp)
 dsimp only at h1
 simp only [refineTm]
 cases hv : termValidM e with
 | false =>
  simp only [termTypesM, hv, Bool.false_eq_true, if_false, List.map_nil] at h1 ⊢
  refine ACalls.of_body Try.func28 (by kernel_rfl) rfl (by kernel_rfl) (by simp [Try.ntmps28]) (by simp) ?_
  rw [Try.ntmps28]
  repeat' first | (refine aops_end (hK _ ?_); clear hK K) | (refine aops_go ?_; simp; (try (refine gen fun q hq => ?_; cases q <;> (try simp at hq) <;> (try (have hh : True := hq; clear hh hq))))) | (refine wpcall_pure rfl (h1) ?_; simp; (try (refine gen fun q hq => ?_; cases q <;> (try simp at hq) <;> (try (have hh : True := hq; clear hh hq))))) | refine T.rs (id := 1) (fun i => i == 0) fun K hK => ?_ | refine T.rs (id := 0) (fun _ => false) fun K hK => ?_ | refine T.rs (id := 2) (fun _ => false) fun K hK => ?_ | refine T.rs (id := 3) (fun _ => false) fun K hK => ?_ | refine T.seq ?_ | refine T.block ?_
  refine T.loopK (α := Unit) [1, 2, 4] (fun x => [(3, .c (.own 0 0)), (5, .i 0)]) (fun x => []) (fun x => []) (fun x A => A) (fun x => 0) (fun x => True) (by simp; rfl) (fun x hx => ?_) () trivial (by simp) (by simp) (by simp)
  simp only [ups, List.set_cons_zero, List.set_cons_succ, List.cons_append, List.nil_append, List.append_nil]
  repeat' first | (refine aops_end (hK _ ?_); clear hK K) | (refine aops_go ?_; simp; (try (refine gen fun q hq => ?_; cases q <;> (try simp at hq) <;> (try (have hh : True := hq; clear hh hq))))) | (refine T.ret (Done.val (Or.inr rfl) ?_) <;> simp [resAs, Try.results28] <;> omega) | refine T.r0 fun K hK => ?_ | refine T.cf rfl ?_ | refine T.seq ?_ | refine T.exit ?_
 | true =>
  simp only [termTypesM, hv, if_true] at h1 ⊢
  have hsz := valid_small hv
  have hrs := (refine_small hv).1
  obtain ⟨hvt, hvn⟩ := termValidM_iff.1 hv
  obtain ⟨hsh, hln⟩ := hvt.types
  have hcv := fun i t y => cand_valid (i := i) (t := t) (y := y) hv
  have hws := fun c => with_some (c := c) hv
  have hcl : (candM (typesM e)).length <= 1800 := by have := subs_le refTyM 60 refTy_small (typesM e); rw [candM]; omega
  rw [<- flt_refine, candM] at *
  obtain ⟨ts, hts⟩ : ∃ ts, typesM e = ts := ⟨_, rfl⟩
  rw [hts] at h1 hsh hln hcv hws hcl ⊢
  have hl30 : ts.length <= 30 := by omega
  rw [<- subsP_all] at hcl ⊢
  refine ACalls.of_body Try.func28 (by kernel_rfl) rfl (by kernel_rfl) (by simp [Try.ntmps28]) (by simp) ?_
  rw [Try.ntmps28]
  repeat' first | (refine aops_end (hK _ ?_); clear hK K) | (refine aops_go ?_; simp; (try (refine gen fun q hq => ?_; cases q <;> (try simp at hq) <;> (try (have hh : True := hq; clear hh hq))))) | (refine wpcall_pure rfl (h1) ?_; simp; (try (refine gen fun q hq => ?_; cases q <;> (try simp at hq) <;> (try (have hh : True := hq; clear hh hq))))) | refine T.rs (id := 1) (fun i => i == 0) fun K hK => ?_ | refine T.rs (id := 0) (fun _ => false) fun K hK => ?_ | refine T.rs (id := 2) (fun _ => false) fun K hK => ?_ | refine T.rs (id := 3) (fun _ => false) fun K hK => ?_ | refine T.seq ?_ | refine T.block ?_
  refine T.loopK (α := Nat × List (List CV) × List Arr) [1, 2, 4] (fun x => [(3, .c (.own 0 (fltM e (subsP refTyM ts x.1)).length)), (5, .i x.1)]) (fun x => []) (fun x => x.2.1) (fun x _ => { sz := 9, ety := 36, rows := (fltM e (subsP refTyM ts x.1)).map eTm, wr := true } :: x.2.2) (fun x => ts.length + 1 - x.1) (fun x => x.1 <= ts.length) (by simp; rfl) (fun x hx => ?_) (0, [], []) (by simp) (by simp) (by simp [subsP_zero, flt_nil]) (by simp [subsP_zero, flt_nil])
  obtain ⟨p, G, GA⟩ := x
  dsimp only at hx ⊢
  simp only [ups, List.set_cons_zero, List.set_cons_succ, List.cons_append, List.nil_append, List.append_nil]
  by_cases hlt : p < ts.length
  ·obtain ⟨u, ht⟩ := get_lt hlt
   have htm : u ∈ ts := List.mem_of_getElem? ht
   have hgt : ts[p] = u := by rw [List.getElem?_eq_getElem hlt] at ht; exact Option.some.inj ht
   have hdr : ts.drop p = u :: ts.drop (p + 1) := by rw [List.drop_eq_getElem_cons hlt, hgt]
   have hun := shape4 (hsh u htm)
   have hu := RefineTypeS_ok u (by omega)
   have hul := refTy_small u
   have hsu := subsP_succ refTyM ht
   have hpl := subsP_le refTyM ts p (by omega)
   rw [subsP_all] at hcl
   generalize subsP refTyM ts p = Z at *
   obtain ⟨ru, hru⟩ : ∃ ru, refTyM u = ru := ⟨_, rfl⟩
   rw [hru] at hu hul hsu
   generalize (subsM refTyM ts).length = M at *
   repeat' first | (refine aops_end (hK _ ?_); clear hK K) | (refine aops_go ?_; simp [hlt, hgt]; (try simp (disch := omega) only [wrap64]); (try (refine gen fun q hq => ?_; cases q <;> (try simp [hlt, hgt] at hq) <;> (try (have hh : True := hq; clear hh hq))))) | (refine wpcall_pure rfl (hu) ?_; simp [hlt, hgt]; (try simp (disch := omega) only [wrap64]); (try (refine gen fun q hq => ?_; cases q <;> (try simp [hlt, hgt] at hq) <;> (try (have hh : True := hq; clear hh hq))))) | refine T.r0 fun K hK => ?_ | refine T.ct rfl ?_ | refine T.seq ?_ | refine T.block ?_ | refine T.skip ?_
   refine T.loopK (α := Nat × List (List CV) × List Arr) [1, 2, 4, 5, 6, 16, 17, 18, 19, 20, 21, 22, 23, 24, 25, 26] (fun y => [(3, .c (.own 0 (fltM e (Z ++ (ru.take y.1).map (fun v => ts.set p v))).length)), (7, .i y.1)]) (fun y => []) (fun y => y.2.1) (fun y _ => { sz := 9, ety := 36, rows := (fltM e (Z ++ (ru.take y.1).map (fun v => ts.set p v))).map eTm, wr := true } :: (GA ++ y.2.2)) (fun y => ru.length + 1 - y.1) (fun y => y.1 <= ru.length) (by simp; rfl) (fun y hy => ?_) (0, [], []) (by simp) (by simp) (by simp) (by simp)
   obtain ⟨q, G2, GA2⟩ := y
   dsimp only at hy ⊢
   simp only [ups, List.set_cons_zero, List.set_cons_succ, List.cons_append, List.nil_append, List.append_nil]
   by_cases hlq : q < ru.length
   ·obtain ⟨v, hv2⟩ := get_lt hlq
    have hgv : ru[q] = v := by rw [List.getElem?_eq_getElem hlq] at hv2; exact Option.some.inj hv2
    have htv : Z ++ (ru.take (q + 1)).map (fun v => ts.set p v) = (Z ++ (ru.take q).map (fun v => ts.set p v)) ++ [ts.set p v] := by rw [List.take_add_one, hv2]; simp
    obtain ⟨hxv, hcs⟩ := hcv p u v ht (by rw [hru]; exact List.mem_of_getElem? hv2)
    have hky := fun h => flt_yes (e := e) (L := Z ++ (ru.take q).map (fun v => ts.set p v)) (c := ts.set p v) h
    have hkn := fun h => flt_no (e := e) (L := Z ++ (ru.take q).map (fun v => ts.set p v)) (c := ts.set p v) h
    have hkl := flt_len e (Z ++ (ru.take q).map (fun v => ts.set p v))
    simp only [List.length_append, List.length_map, List.length_take] at hkl
    rw [<- htv] at hky hkn
    have hrt := WithTypesS_ok e (ts.set p v) hn (fun t h => by have := shape4 (hcs t h); omega) (by simp; omega)
    rw [hws (ts.set p v) (by simp) hcs] at hrt
    simp only [tmRes] at hrt
    have hxn := valid_small hxv
    have hti := TypeOfS_ok (withM e (ts.set p v)) (by omega)
    rw [typeIn_nil hxv] at hti
    have hset : (ts.set p v).map eTy = (ts.map eTy).set p (eTy v) := List.map_set
    simp only [typedB] at hky hkn
    generalize fltM e (Z ++ (ru.take q).map (fun v => ts.set p v)) = K1 at *
    generalize withM e (ts.set p v) = X at *
    cases hty : typeM [] X with
    | none =>
     rw [hty] at hti hkn
     simp only [tyRes] at hti
     have hk2 := hkn rfl
     repeat' first | (refine aops_end (hK _ ?_); clear hK K) | (refine aops_go ?_; simp [hlq, hgv, hlt, <- hset]; (try simp (disch := omega) only [wrap64]); (try (refine gen fun q hq => ?_; cases q <;> (try simp [hlq, hgv, hlt, <- hset] at hq) <;> (try (have hh : True := hq; clear hh hq))))) | (refine wpcall_pure ?_ (hrt) ?_; (focus (solve | simp [hlq, hgv, hlt, <- hset])); simp [hlq, hgv, hlt, <- hset]; (try simp (disch := omega) only [wrap64]); (try (refine gen fun q hq => ?_; cases q <;> (try simp [hlq, hgv, hlt, <- hset] at hq) <;> (try (have hh : True := hq; clear hh hq))))) | (refine wpcall_pure ?_ (hti) ?_; (focus (solve | simp [hlq, hgv, hlt, <- hset])); simp [hlq, hgv, hlt, <- hset]; (try simp (disch := omega) only [wrap64]); (try (refine gen fun q hq => ?_; cases q <;> (try simp [hlq, hgv, hlt, <- hset] at hq) <;> (try (have hh : True := hq; clear hh hq))))) | (refine ⟨by omega, by omega, ?_⟩) | refine T.rs (id := 10) (fun i => i == 0) fun K hK => ?_ | refine T.rs (id := 8) (fun _ => false) fun K hK => ?_ | refine T.rs (id := 11) (fun _ => false) fun K hK => ?_ | refine T.rs (id := 12) (fun _ => false) fun K hK => ?_ | refine T.rs (id := 13) (fun _ => false) fun K hK => ?_ | refine T.rs (id := 14) (fun _ => false) fun K hK => ?_ | refine T.rs1 (id := 9) (fun _ => false) fun K hK => ?_ | refine T.ct rfl ?_ | refine T.cf rfl ?_ | refine T.seq ?_ | refine T.block ?_ | refine T.skip ?_
     refine ⟨(q + 1, _, GA2 ++ [{ sz := 2, ety := 31, rows := (ts.map eTy).set p (eTy v), wr := false }]), by dsimp only; omega, by dsimp only; omega, (by simp only [ups, List.set_cons_zero, List.cons_append, List.append_assoc, List.nil_append]; rfl), ?_, ?_⟩
     ·simp [hk2, eTy_def, eTm_def, -List.map_take]
     ·simp (disch := omega) [wrap64, hk2, -List.map_take]
    | some t =>
     rw [hty] at hti hky
     simp only [tyRes] at hti
     have hk2 := hky rfl
     repeat' first | (refine aops_end (hK _ ?_); clear hK K) | (refine aops_go ?_; simp [hlq, hgv, hlt, <- hset]; (try simp (disch := omega) only [wrap64]); (try (refine gen fun q hq => ?_; cases q <;> (try simp [hlq, hgv, hlt, <- hset] at hq) <;> (try (have hh : True := hq; clear hh hq))))) | (refine wpcall_pure ?_ (hrt) ?_; (focus (solve | simp [hlq, hgv, hlt, <- hset])); simp [hlq, hgv, hlt, <- hset]; (try simp (disch := omega) only [wrap64]); (try (refine gen fun q hq => ?_; cases q <;> (try simp [hlq, hgv, hlt, <- hset] at hq) <;> (try (have hh : True := hq; clear hh hq))))) | (refine wpcall_pure ?_ (hti) ?_; (focus (solve | simp [hlq, hgv, hlt, <- hset])); simp [hlq, hgv, hlt, <- hset]; (try simp (disch := omega) only [wrap64]); (try (refine gen fun q hq => ?_; cases q <;> (try simp [hlq, hgv, hlt, <- hset] at hq) <;> (try (have hh : True := hq; clear hh hq))))) | (refine ⟨by omega, by omega, ?_⟩) | refine T.rs (id := 10) (fun i => i == 0) fun K hK => ?_ | refine T.rs (id := 8) (fun _ => false) fun K hK => ?_ | refine T.rs (id := 11) (fun _ => false) fun K hK => ?_ | refine T.rs (id := 12) (fun _ => false) fun K hK => ?_ | refine T.rs (id := 13) (fun _ => false) fun K hK => ?_ | refine T.rs (id := 14) (fun _ => false) fun K hK => ?_ | refine T.rs1 (id := 15) (fun _ => false) fun K hK => ?_ | refine T.rs1 (id := 9) (fun _ => false) fun K hK => ?_ | refine T.ct rfl ?_ | refine T.seq ?_ | refine T.block ?_ | refine T.skip ?_
     refine ⟨(q + 1, _, GA2 ++ [{ sz := 2, ety := 31, rows := (ts.map eTy).set p (eTy v), wr := false }]), by dsimp only; omega, by dsimp only; omega, (by simp only [ups, List.set_cons_zero, List.cons_append, List.append_assoc, List.nil_append]; rfl), ?_, ?_⟩
     ·simp [hk2, eTy_def, eTm_def, -List.map_take]
     ·simp (disch := omega) [wrap64, hk2, -List.map_take]
   ·have hq' : q = ru.length := by omega
    subst hq'
    rw [List.take_length, <- hsu]
    repeat' first | (refine aops_end (hK _ ?_); clear hK K) | (refine aops_go ?_; simp [hlq]; (try simp (disch := omega) only [wrap64]); (try (refine gen fun q hq => ?_; cases q <;> (try simp [hlq] at hq) <;> (try (have hh : True := hq; clear hh hq))))) | refine T.r0 fun K hK => ?_ | refine T.r1 fun K hK => ?_ | refine T.cf rfl ?_ | refine T.seq ?_ | refine T.exit ?_
    refine ⟨(p + 1, _, GA ++ GA2), by dsimp only; omega, by dsimp only; omega, (by simp only [ups, List.set_cons_zero, List.cons_append, List.append_assoc, List.nil_append]; rfl), ?_, ?_⟩
    ·simp [hsu]
    ·simp (disch := omega) [wrap64, hsu]
  ·have hp' : p = ts.length := by omega
   subst hp'
   repeat' first | (refine aops_end (hK _ ?_); clear hK K) | (refine aops_go ?_; simp [hlt]; (try (refine gen fun q hq => ?_; cases q <;> (try simp [hlt] at hq) <;> (try (have hh : True := hq; clear hh hq))))) | (refine T.ret (Done.val (Or.inr rfl) ?_) <;> simp [resAs, Try.results28] <;> omega) | refine T.r0 fun K hK => ?_ | refine T.cf rfl ?_ | refine T.seq ?_ | refine T.exit ?_

end Go.Proofs.Ytgpgcnahoieedaa
