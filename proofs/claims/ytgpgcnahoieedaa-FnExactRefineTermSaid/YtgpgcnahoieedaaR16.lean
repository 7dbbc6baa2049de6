/- A part of the library of this seat. -/
import Derived.Test.YtgpgcnahoieedaaR15
set_option linter.unusedVariables false
set_option linter.unusedSimpArgs false
namespace Go.Proofs.Ytgpgcnahoieedaa
attribute [-simp] Go.Av.astepJ Go.Av.relC Go.Av.relL Go.Av.relV Go.Av.relVs Go.Av.callJ
open Go Go.Av
attribute [local irreducible] T ACalls TX EX LX Draws Some_ ACallsX eTy eTm MTy.kind MTy.kids MTm.kind MTm.name MTm.num MTm.ty MTm.fr MTm.label MTm.kids
attribute [local simp] eTy_def eTm_def
set_option maxHeartbeats 16000000
set_option maxRecDepth 8000


end Go.Proofs.Ytgpgcnahoieedaa

namespace Go.Proofs.Ytgpgcnahoieedaa
attribute [-simp] Go.Av.astepJ Go.Av.relC Go.Av.relL Go.Av.relV Go.Av.relVs Go.Av.callJ
open Go Go.Av
attribute [local irreducible] T ACalls TX EX LX Draws Some_ ACallsX eTy eTm MTy.kind MTy.kids MTm.kind MTm.name MTm.num MTm.ty MTm.fr MTm.label MTm.kids
attribute [local simp] eTy_def eTm_def
set_option maxHeartbeats 16000000
set_option maxRecDepth 8000
attribute [local simp] Option.bind

theorem ground_ok (k : Int) : ACalls Try.prog 160 [.i k] [] (aTy (groundT k)) [] [] := by
 have h1 := base_ok 1
 by_cases h4 : k = 4
 ·subst h4
  rw [show groundT 4 = .mk 4 [anyT, anyT] from rfl]
  have h2 := both_ok 4 anyT anyT
  refine ACalls.of_body Try.func160 (by kernel_rfl) rfl (by kernel_rfl) (by simp [Try.ntmps160]) (by simp) ?_
  rw [Try.ntmps160]
  repeat' first | (refine aops_end (hK _ ?_); clear hK K) | (refine aops_go ?_; simp; (try (refine gen fun q hq => ?_; cases q <;> (try simp at hq) <;> (try (have hh : True := hq; clear hh hq))))) | (refine wpcall_pure rfl (h1) ?_; simp; (try (refine gen fun q hq => ?_; cases q <;> (try simp at hq) <;> (try (have hh : True := hq; clear hh hq))))) | (refine wpcall_pure ?_ (h2) ?_; (focus (solve | simp)); simp; (try (refine gen fun q hq => ?_; cases q <;> (try simp at hq) <;> (try (have hh : True := hq; clear hh hq))))) | (refine T.ret (Done.val (Or.inr rfl) ?_) <;> simp [resAs, Try.results160] <;> omega) | refine T.r0 fun K hK => ?_ | refine T.ct rfl ?_ | refine T.seq ?_
 by_cases h5 : k = 5
 ·subst h5
  rw [show groundT 5 = .mk 5 [anyT, anyT] from rfl]
  have h2 := both_ok 5 anyT anyT
  refine ACalls.of_body Try.func160 (by kernel_rfl) rfl (by kernel_rfl) (by simp [Try.ntmps160]) (by simp) ?_
  rw [Try.ntmps160]
  repeat' first | (refine aops_end (hK _ ?_); clear hK K) | (refine aops_go ?_; simp; (try (refine gen fun q hq => ?_; cases q <;> (try simp at hq) <;> (try (have hh : True := hq; clear hh hq))))) | (refine wpcall_pure rfl (h1) ?_; simp; (try (refine gen fun q hq => ?_; cases q <;> (try simp at hq) <;> (try (have hh : True := hq; clear hh hq))))) | (refine wpcall_pure ?_ (h2) ?_; (focus (solve | simp)); simp; (try (refine gen fun q hq => ?_; cases q <;> (try simp at hq) <;> (try (have hh : True := hq; clear hh hq))))) | (refine T.ret (Done.val (Or.inr rfl) ?_) <;> simp [resAs, Try.results160] <;> omega) | refine T.r0 fun K hK => ?_ | refine T.ct rfl ?_ | refine T.seq ?_
 ·rw [show groundT k = .mk k [] by simp [groundT, h4, h5]]
  have h3 := base_ok k
  refine ACalls.of_body Try.func160 (by kernel_rfl) rfl (by kernel_rfl) (by simp [Try.ntmps160]) (by simp) ?_
  rw [Try.ntmps160]
  repeat' first | (refine aops_end (hK _ ?_); clear hK K) | (refine aops_go ?_; simp [h4, h5]; (try (refine gen fun q hq => ?_; cases q <;> (try simp [h4, h5] at hq) <;> (try (have hh : True := hq; clear hh hq))))) | (refine wpcall_pure rfl (h3) ?_; simp [h4, h5]; (try (refine gen fun q hq => ?_; cases q <;> (try simp [h4, h5] at hq) <;> (try (have hh : True := hq; clear hh hq))))) | (refine T.ret (Done.val (Or.inr rfl) ?_) <;> simp [resAs, Try.results160] <;> omega) | refine T.r0 fun K hK => ?_ | refine T.cf rfl ?_ | refine T.seq ?_ | refine T.skip ?_

abbrev ruleR (o : Option MTm) : List AV := match o with
 | some x => [aTm x, .i 1]
 | none => [aTm zeroE, .i 3]

end Go.Proofs.Ytgpgcnahoieedaa

namespace Go.Proofs.Ytgpgcnahoieedaa
attribute [-simp] Go.Av.astepJ Go.Av.relC Go.Av.relL Go.Av.relV Go.Av.relVs Go.Av.callJ
open Go Go.Av
attribute [local irreducible] T ACalls TX EX LX Draws Some_ ACallsX eTy eTm MTy.kind MTy.kids MTm.kind MTm.name MTm.num MTm.ty MTm.fr MTm.label MTm.kids
attribute [local simp] eTy_def eTm_def
set_option maxHeartbeats 16000000
set_option maxRecDepth 8000
attribute [local simp] Option.bind

theorem firstIx_cases {α : Type} (q : α -> Bool) : ∀ (l : List α) (i0 : Int), (firstIx q l i0 = -1 /\ l.filter (fun t => !q t) = l) \/ ∃ i : Nat, i < l.length /\ firstIx q l i0 = i0 + i /\ (l.take (i + 1)).filter (fun t => !q t) = l.take i
 | [], i0 => .inl ⟨rfl, rfl⟩
 | x :: r, i0 => by
  cases hq : q x with
  | true => exact .inr ⟨0, by simp, by simp [firstIx, hq], by simp [hq]⟩
  | false =>
   rcases firstIx_cases q r (i0 + 1) with ⟨h1, h2⟩ | ⟨i, h1, h2, h3⟩
   ·exact .inl ⟨by simp [firstIx, hq, h1], by simp [hq, h2]⟩
   ·refine .inr ⟨i + 1, by simp; omega, ?_, ?_⟩
    ·simp only [firstIx, hq, Bool.false_eq_true, if_false, h2]; omega
    ·simp only [List.take_succ_cons, List.filter_cons, hq, Bool.not_false, if_true, h3]
theorem take_set_one {α : Type} {R : List α} {i : Nat} (h : i < R.length) (u : α) : (R.set i u).take (i + 1) = R.take i ++ [u] := by
 apply List.ext_getElem?
 intro j
 rw [List.getElem?_take, List.getElem?_set]
 by_cases h1 : j < i
 ·rw [List.getElem?_append_left (by simp; omega), List.getElem?_take]
  simp [h1, show j < i + 1 by omega, show ¬ i = j by omega]
 ·by_cases h2 : j = i
  ·subst h2
   rw [List.getElem?_append_right (by simp; omega)]
   simp [h, Nat.min_eq_left (Nat.le_of_lt h)]
  ·rw [List.getElem?_append_right (by simp; omega), if_neg (by omega)]
   rw [List.getElem?_eq_none]
   simp; omega
theorem drop_set_lt {α : Type} {R : List α} {i j : Nat} (h : i < j) (u : α) : (R.set i u).drop j = R.drop j := by
 apply List.ext_getElem?
 intro k
 rw [List.getElem?_drop, List.getElem?_drop, List.getElem?_set, if_neg (by omega)]

theorem cloneTy_own (l : List MTy) (hl : l.length <= 1073741824) : ACalls Try.prog 113 [.l (l.map eTy)] [] (.c (.own 0 l.length)) [] [{ sz := 2, ety := 31, rows := l.map eTy, wr := true }] := by
 refine ACalls.of_body Try.func113 (by kernel_rfl) rfl (by kernel_rfl) (by simp [Try.ntmps113]) (by simp) ?_
 rw [Try.ntmps113]
 refine T.rs (fun _ => false) fun K hK => ?_
 refine aops_go ?_
 simp
 refine aops_end (hK _ ?_)
 clear hK K
 refine T.seq ?_
 refine T.eqNil rfl rfl rfl rfl rfl rfl td_implTypeS rfl (by simp; rfl) fun bb hbb => ?_
 cases bb
 ·repeat' first | (refine aops_end (hK _ ?_); clear hK K) | (refine aops_go ?_; simp [eTy_def]; (try (refine gen fun q hq => ?_; cases q <;> (try simp [eTy_def] at hq) <;> (try (have hh : True := hq; clear hh hq))))) | (refine ⟨by omega, by omega, ?_⟩) | refine T.rs (id := 3) (fun i => i == 0) fun K hK => ?_ | refine T.cf rfl ?_ | refine T.skip ?_
  refine T.ret (Done.own1 0 (Or.inr rfl) (ys := [_]) ?_ rfl ?_) <;> simp [resAs, Try.results113, eTy_def] <;> rfl
 ·have : l = [] := by simpa using hbb rfl
  subst this
  refine T.cond rfl (fun hcnd => ?_) (fun hcnd => absurd hcnd (by decide))
  refine T.rs (fun _ => false) fun K hK => ?_
  refine aops_go ?_
  simp
  refine aops_end (hK _ ?_)
  clear hK K
  refine T.ownify 2 2 31 (by simp) ?_
  refine T.ret (Done.own1 0 (Or.inr rfl) (ys := [_]) ?_ rfl ?_) <;> simp [resAs, Try.results113]

theorem indexFuncTy_own (f : FuncId) (l : List MTy) (q : MTy -> Bool) (hl : l.length <= 1099511627776) (hf : ∀ t ∈ l, ACalls Try.prog f [aTy t] [] (.b (q t)) [] []) :
  ACallsG Try.prog 162 [.c (.own 0 l.length), .c (.fn f [])] [] [{ sz := 2, ety := 31, rows := l.map eTy, wr := true }] (.i (firstIx q l 0)) [] [{ sz := 2, ety := 31, rows := l.map eTy, wr := true }] := by
 refine ACallsG.of_body Try.func162 (by kernel_rfl) rfl (by kernel_rfl) (by simp [Try.ntmps162]) (by simp) ?_
 rw [Try.ntmps162]
 repeat' first | (refine aops_end (hK _ ?_); clear hK K) | (refine aops_go ?_; simp; (try (refine gen fun q hq => ?_; cases q <;> (try simp at hq) <;> (try (have hh : True := hq; clear hh hq))))) | refine T.r0 fun K hK => ?_ | refine T.seq ?_ | refine T.block ?_
 obtain ⟨R, hR⟩ : ∃ R, firstIx q l 0 = R := ⟨_, rfl⟩
 rw [hR]
 refine T.loopF (fun p : Nat => ⟨[(0, .c (.own 0 l.length)), (1, .c (.fn f [])), (7, .i l.length), (8, .i p)], [], [{ sz := 2, ety := 31, rows := l.map eTy, wr := true }]⟩) (fun p => l.length + 1 - p) (fun p => p <= l.length /\ firstIx q (l.drop p) p = R) (fun p hp => ?_) 0 (by simpa using hR) (by simp)
 obtain ⟨hi, he⟩ := hp
 by_cases hlt : p < l.length
 ·obtain ⟨u, ht⟩ := get_lt hlt
  have htm : u ∈ l := List.mem_of_getElem? ht
  have hgt : l[p] = u := by rw [List.getElem?_eq_getElem hlt] at ht; exact Option.some.inj ht
  have hdr : l.drop p = u :: l.drop (p + 1) := by rw [List.drop_eq_getElem_cons hlt, hgt]
  have hu := hf u htm
  rw [hdr, firstIx] at he
  cases hb : q u <;> rw [hb] at hu he
  ·repeat' first | (refine aops_end (hK _ ?_); clear hK K) | (refine aops_go ?_; simp [hlt, hgt, eTy]; (try simp (disch := omega) only [wrap64]); (try (refine gen fun q hq => ?_; cases q <;> (try simp [hlt, hgt, eTy] at hq) <;> (try (have hh : True := hq; clear hh hq))))) | (refine wpcall_pure rfl (hu) ?_; simp [hlt, hgt, eTy]; (try simp (disch := omega) only [wrap64]); (try (refine gen fun q hq => ?_; cases q <;> (try simp [hlt, hgt, eTy] at hq) <;> (try (have hh : True := hq; clear hh hq))))) | (refine ⟨p + 1, by dsimp only; omega, ⟨by omega, by simpa using he⟩, ?_⟩; simp (disch := omega) [wrap64]) | refine T.r0 fun K hK => ?_ | refine T.r1 fun K hK => ?_ | refine T.ct rfl ?_ | refine T.cf rfl ?_ | refine T.seq ?_ | refine T.block ?_ | refine T.skip ?_
  ·repeat' first | (refine aops_end (hK _ ?_); clear hK K) | (refine aops_go ?_; simp [hlt, hgt, eTy]; (try simp (disch := omega) only [wrap64]); (try (refine gen fun q hq => ?_; cases q <;> (try simp [hlt, hgt, eTy] at hq) <;> (try (have hh : True := hq; clear hh hq))))) | (refine wpcall_pure rfl (hu) ?_; simp [hlt, hgt, eTy]; (try simp (disch := omega) only [wrap64]); (try (refine gen fun q hq => ?_; cases q <;> (try simp [hlt, hgt, eTy] at hq) <;> (try (have hh : True := hq; clear hh hq))))) | refine T.r0 fun K hK => ?_ | refine T.ct rfl ?_ | refine T.seq ?_ | refine T.block ?_ | refine T.skip ?_
   all_goals (refine T.ret (DoneG.one (Or.inr rfl) ?_ ?_) <;> simp [resAs, Try.results162, <- he])
 ·have hp' : p = l.length := by omega
  subst hp'
  simp [firstIx] at he
  repeat' first | (refine aops_end (hK _ ?_); clear hK K) | (refine aops_go ?_; simp [hlt]; (try (refine gen fun q hq => ?_; cases q <;> (try simp [hlt] at hq) <;> (try (have hh : True := hq; clear hh hq))))) | refine T.r0 fun K hK => ?_ | refine T.cf rfl ?_ | refine T.seq ?_ | refine T.exit ?_
  all_goals (refine T.ret (DoneG.one (Or.inr rfl) ?_ ?_) <;> simp [resAs, Try.results162, he])

theorem deleteFuncTy_own (f : FuncId) (l : List MTy) (q : MTy -> Bool) (hl : l.length <= 1099511627776) (hf : ∀ t ∈ l, ACalls Try.prog f [aTy t] [] (.b (q t)) [] []) :
  ACallsG Try.prog 144 [.c (.own 0 l.length), .c (.fn f [])] [] [{ sz := 2, ety := 31, rows := l.map eTy, wr := true }] (.l ((l.filter fun t => !q t).map eTy)) [] [{ sz := 2, ety := 31, rows := (l.filter fun t => !q t).map eTy ++ List.replicate (l.length - (l.filter fun t => !q t).length) [.int .i64 0, .sl []], wr := false }] := by
 have hix := indexFuncTy_own f l q hl hf
 rcases firstIx_cases q l 0 with ⟨h1, h2⟩ | ⟨i0, h1, h2, h3⟩
 ·rw [h1] at hix
  rw [h2]
  refine ACallsG.of_body Try.func144 (by kernel_rfl) rfl (by kernel_rfl) (by simp [Try.ntmps144]) (by simp) ?_
  rw [Try.ntmps144]
  repeat' first | (refine aops_end (hK _ ?_); clear hK K) | (refine aops_go ?_; simp; (try (refine gen fun q hq => ?_; cases q <;> (try simp at hq) <;> (try (have hh : True := hq; clear hh hq))))) | (refine wpcall_hand 0 hix rfl rfl rfl rfl ?_; simp [back]) | refine T.r0 fun K hK => ?_ | refine T.ct rfl ?_ | refine T.seq ?_
  refine T.seal 4 0 l.length (by simp) rfl (by simp) ?_
  all_goals (refine T.ret (DoneG.one (Or.inr rfl) ?_ ?_) <;> simp [resAs, Try.results144])
 ·rw [h2] at hix
  obtain ⟨F, hF⟩ : ∃ F, (l.filter fun t => !q t) = F := ⟨_, rfl⟩
  rw [hF]
  have hne : ¬ (0 : Int) + (i0 : Int) = -1 := by omega
  have hne2 : ¬ (i0 : Int) = -1 := by omega
  refine ACallsG.of_body Try.func144 (by kernel_rfl) rfl (by kernel_rfl) (by simp [Try.ntmps144]) (by simp) ?_
  rw [Try.ntmps144]
  repeat' first | (refine aops_end (hK _ ?_); clear hK K) | (refine aops_go ?_; simp [hne, hne2]; (try simp (disch := omega) only [wrap64]); (try (refine gen fun q hq => ?_; cases q <;> (try simp [hne, hne2] at hq) <;> (try (have hh : True := hq; clear hh hq))))) | (refine wpcall_hand 0 hix rfl rfl rfl rfl ?_; simp [back]) | refine T.r0 fun K hK => ?_ | refine T.cf rfl ?_ | refine T.seq ?_ | refine T.block ?_ | refine T.skip ?_
  refine T.loopK (α := Nat × Nat × List MTy × List (List CV)) [0, 1, 4] (fun x => [(5, .i x.2.1), (6, .i x.1)]) (fun x => []) (fun x => x.2.2.2) (fun x _ => [{ sz := 2, ety := 31, rows := x.2.2.1.map eTy, wr := true }]) (fun x => l.length + 1 - x.1)
   (fun x => x.1 <= l.length /\ x.2.1 < x.1 /\ x.2.2.1.length = l.length /\ x.2.2.1.take x.2.1 = (l.take x.1).filter (fun t => !q t) /\ x.2.2.1.drop x.1 = l.drop x.1) (by simp; rfl) (fun x hx => ?_) (i0 + 1, i0, l, []) ⟨by dsimp only; omega, by dsimp only; omega, rfl, h3.symm, rfl⟩ (by simp) (by simp) (by simp)
  obtain ⟨j, i, R, G⟩ := x
  obtain ⟨hj, hij, hRl, hRt, hRd⟩ := hx
  dsimp only at hj hij hRl hRt hRd ⊢
  simp only [ups, List.set_cons_zero, List.set_cons_succ, List.cons_append, List.nil_append, List.append_nil]
  by_cases hlt : j < l.length
  ·have hltR : j < R.length := by omega
   obtain ⟨u, hlu⟩ := get_lt hlt
   have hul : u ∈ l := List.mem_of_getElem? hlu
   have hRu : R[j]? = some u := by
    have : (R.drop j)[0]? = (l.drop j)[0]? := by rw [hRd]
    rw [List.getElem?_drop, List.getElem?_drop, Nat.add_zero, hlu] at this; exact this
   have hgt : R[j] = u := by rw [List.getElem?_eq_getElem hltR] at hRu; exact Option.some.inj hRu
   have hu := hf u hul
   have hft : (l.take (j + 1)).filter (fun t => !q t) = (l.take j).filter (fun t => !q t) ++ if q u then [] else [u] := by
    rw [List.take_add_one, hlu, List.filter_append]; cases hq : q u <;> simp [hq]
   have hd1 : R.drop (j + 1) = l.drop (j + 1) := by
    have : (R.drop j).drop 1 = (l.drop j).drop 1 := by rw [hRd]
    rwa [List.drop_drop, List.drop_drop] at this
   have hltR2 : i < R.length := by omega
   obtain ⟨y, hy⟩ := get_lt hltR2
   have hsl : (R.set i u).length = l.length := by simp [hRl]
   cases hb : q u <;> rw [hb] at hu hft
   ·repeat' first | (refine aops_end (hK _ ?_); clear hK K) | (refine aops_go ?_; simp [hlt, hltR, hRl, hgt, hy, hij]; (try simp (disch := omega) only [wrap64]); (try (refine gen fun q hq => ?_; cases q <;> (try simp [hlt, hltR, hRl, hgt, hy, hij] at hq) <;> (try (have hh : True := hq; clear hh hq))))) | (refine wpcall_pure rfl (hu) ?_; simp [hlt, hltR, hRl, hgt, hy, hij]; (try simp (disch := omega) only [wrap64]); (try (refine gen fun q hq => ?_; cases q <;> (try simp [hlt, hltR, hRl, hgt, hy, hij] at hq) <;> (try (have hh : True := hq; clear hh hq))))) | (refine ⟨by omega, ?_⟩) | refine T.r0 fun K hK => ?_ | refine T.r1 fun K hK => ?_ | refine T.ct rfl ?_ | refine T.seq ?_ | refine T.block ?_ | refine T.skip ?_
    refine ⟨(j + 1, i + 1, R.set i u, _), by dsimp only; omega, ⟨by dsimp only; omega, by dsimp only; omega, hsl, ?_, ?_⟩, rfl, ?_, ?_⟩
    ·dsimp only; rw [take_set_one hltR2, hRt, hft]; rfl
    ·dsimp only; rw [drop_set_lt (by omega), hd1]
    ·simp [eTy_def, List.map_set]
    ·simp (disch := omega) [wrap64]
   ·repeat' first | (refine aops_end (hK _ ?_); clear hK K) | (refine aops_go ?_; simp [hlt, hltR, hRl, hgt]; (try simp (disch := omega) only [wrap64]); (try (refine gen fun q hq => ?_; cases q <;> (try simp [hlt, hltR, hRl, hgt] at hq) <;> (try (have hh : True := hq; clear hh hq))))) | (refine wpcall_pure rfl (hu) ?_; simp [hlt, hltR, hRl, hgt]; (try simp (disch := omega) only [wrap64]); (try (refine gen fun q hq => ?_; cases q <;> (try simp [hlt, hltR, hRl, hgt] at hq) <;> (try (have hh : True := hq; clear hh hq))))) | refine T.r0 fun K hK => ?_ | refine T.r1 fun K hK => ?_ | refine T.ct rfl ?_ | refine T.cf rfl ?_ | refine T.seq ?_ | refine T.block ?_ | refine T.skip ?_
    refine ⟨(j + 1, i, R, _), by dsimp only; omega, ⟨by dsimp only; omega, by dsimp only; omega, hRl, ?_, ?_⟩, rfl, ?_, ?_⟩
    ·dsimp only; rw [hRt, hft]; simp
    ·dsimp only; exact hd1
    ·simp
    ·simp (disch := omega) [wrap64]
  ·have hp' : j = l.length := by omega
   subst hp'
   have hFR : R.take i = F := by rw [hRt, List.take_length, hF]
   have hFl : F.length = i := by rw [<- hFR]; simp; omega
   rw [hFl]
   obtain ⟨Z, hZ⟩ : ∃ Z, F.map eTy ++ List.replicate (l.length - i) [DV.int .i64 0, .sl []] = Z := ⟨_, rfl⟩
   have hZl : Z.length = l.length := by rw [<- hZ]; simp [hFl]; omega
   have hZt : Z.take i = F.map eTy := by rw [<- hZ, List.take_append_of_le_length (by simp [hFl]), List.take_of_length_le (by simp [hFl])]
   have hZ2 : ∀ r ∈ Z, r.length = 2 := fun r hr => by
    rw [<- hZ] at hr
    simp only [List.mem_append, List.mem_map, List.mem_replicate] at hr
    rcases hr with ⟨t, _, rfl⟩ | ⟨_, rfl⟩
    ·simp [eTy_def]
    ·rfl
   rw [hZ]
   repeat' first | (refine aops_end (hK _ ?_); clear hK K) | (refine aops_go ?_; simp [hlt]; (try (refine gen fun q hq => ?_; cases q <;> (try simp [hlt] at hq) <;> (try (have hh : True := hq; clear hh hq))))) | (refine T.rsClear (id := 11) fun K hK => ?_) | (refine aops_end ?_; have hcl : True := trivial) | refine T.r0 fun K hK => ?_ | refine T.cf rfl ?_ | refine T.seq ?_ | refine T.exit ?_
   refine ⟨_, _, _, _, _, _, _, _, _, _, _, _, _, _, _, _, ⟨rfl, rfl, rfl, fun a w => by simp [execOp, resolve, invoke]; rfl, rfl⟩, by simp, by simp, td_implTypeS, rfl, td_implType, rfl, rfl, rfl, by decide, rfl, rfl, Int.natCast_nonneg _, by simpa using hij, rfl, by simp [hRl], rfl, rfl, hK _ ?_⟩
   clear hK K
   simp only [Int.toNat_natCast, <- List.map_take, hFR, List.set_cons_zero]
   rw [hZ]
   have hiZ : i <= l.length := by omega
   repeat' first | (refine aops_end (hK _ ?_); clear hK K) | (refine aops_go ?_; simp [hZl, hiZ, hZt]; (try (refine gen fun q hq => ?_; cases q <;> (try simp [hZl, hiZ, hZt] at hq) <;> (try (have hh : True := hq; clear hh hq))))) | (refine ⟨hZ2, ?_⟩) | refine T.r0 fun K hK => ?_
   all_goals (refine T.ret (DoneG.one (Or.inr rfl) ?_ ?_) <;> simp [resAs, Try.results144, hZt, hZl])
end Go.Proofs.Ytgpgcnahoieedaa

namespace Go.Proofs.Ytgpgcnahoieedaa
attribute [-simp] Go.Av.astepJ Go.Av.relC Go.Av.relL Go.Av.relV Go.Av.relVs Go.Av.callJ
open Go Go.Av
attribute [local irreducible] T ACalls TX EX LX Draws Some_ ACallsX eTy eTm MTy.kind MTy.kids MTm.kind MTm.name MTm.num MTm.ty MTm.fr MTm.label MTm.kids
attribute [local simp] eTy_def eTm_def
set_option maxHeartbeats 16000000
set_option maxRecDepth 8000
attribute [local simp] Option.bind

theorem refined_own : ∀ (t : MTy), nTy t <= 1048576 -> ACalls Try.prog 145 [aTy t] [] (.c (.own 0 (refinedM t).length)) [] [{ sz := 2, ety := 31, rows := (refinedM t).map eTy, wr := true }] := by
 intro t
 induction t using MTy.ind with
 | h t ih =>
  intro hn
  have hrl := refined_len t
  rw [refinedM_def] at hrl ⊢
  by_cases h1 : t.kind = 1
  ·simp only [if_pos h1]
   have b2 := base_ok 2
   have b3 := base_ok 3
   have g4 : ACalls Try.prog 160 [.i 4] [] (aTy gFun) [] [] := ground_ok 4
   have g5 : ACalls Try.prog 160 [.i 5] [] (aTy gPair) [] [] := ground_ok 5
   refine ACalls.of_body Try.func145 (by kernel_rfl) rfl (by kernel_rfl) (by simp [Try.ntmps145]) (by simp) ?_
   rw [Try.ntmps145]
   repeat' first | (refine aops_end (hK _ ?_); clear hK K) | (refine aops_go ?_; simp [h1]; (try (refine gen fun q hq => ?_; cases q <;> (try simp [h1] at hq) <;> (try (have hh : True := hq; clear hh hq))))) | (refine wpcall_pure rfl (b2) ?_; simp [h1]; (try (refine gen fun q hq => ?_; cases q <;> (try simp [h1] at hq) <;> (try (have hh : True := hq; clear hh hq))))) | (refine wpcall_pure rfl (b3) ?_; simp [h1]; (try (refine gen fun q hq => ?_; cases q <;> (try simp [h1] at hq) <;> (try (have hh : True := hq; clear hh hq))))) | (refine wpcall_pure rfl (g4) ?_; simp [h1]; (try (refine gen fun q hq => ?_; cases q <;> (try simp [h1] at hq) <;> (try (have hh : True := hq; clear hh hq))))) | (refine wpcall_pure rfl (g5) ?_; simp [h1]; (try (refine gen fun q hq => ?_; cases q <;> (try simp [h1] at hq) <;> (try (have hh : True := hq; clear hh hq))))) | refine T.rs (id := 2) (fun i => i == 4) fun K hK => ?_ | refine T.rs (id := 0) (fun _ => false) fun K hK => ?_ | refine T.rs (id := 1) (fun _ => false) fun K hK => ?_ | refine T.ct rfl ?_ | refine T.seq ?_
   refine T.ret (Done.own1 0 (Or.inr rfl) (ys := [_]) ?_ rfl ?_) <;> simp [resAs, Try.results145, eTy_def]
  ·simp only [if_neg h1, List.length_map, List.map_map] at hrl ⊢
   have hkl : t.kids.length <= 1048576 := by have := nTyS_len t.kids; rw [nTy_def] at hn; omega
   have hcl := cloneTy_own t.kids (by omega)
   rw [<- subsP_all] at hrl ⊢
   refine ACalls.of_body Try.func145 (by kernel_rfl) rfl (by kernel_rfl) (by simp [Try.ntmps145]) (by simp) ?_
   rw [Try.ntmps145]
   repeat' first | (refine aops_end (hK _ ?_); clear hK K) | (refine aops_go ?_; simp [h1]; (try (refine gen fun q hq => ?_; cases q <;> (try simp [h1] at hq) <;> (try (have hh : True := hq; clear hh hq))))) | refine T.r0 fun K hK => ?_ | refine T.cf rfl ?_ | refine T.seq ?_ | refine T.block ?_ | refine T.skip ?_
   refine T.ownify 3 2 31 (by simp) ?_
   refine T.loopK (α := Nat × List (List CV) × List Arr) [1, 2, 18, 19] (fun x => [(3, .c (.own 0 (subsP refinedM t.kids x.1).length)), (20, .i x.1)]) (fun x => []) (fun x => x.2.1) (fun x _ => { sz := 2, ety := 31, rows := (subsP refinedM t.kids x.1).map (eTy ∘ MTy.mk t.kind), wr := true } :: x.2.2) (fun x => t.kids.length + 1 - x.1) (fun x => x.1 <= t.kids.length) (by simp; rfl) (fun x hx => ?_) (0, [], []) (by simp) (by simp) (by simp [subsP_zero]) (by simp [subsP_zero])
   obtain ⟨p, G, GA⟩ := x
   dsimp only at hx ⊢
   simp only [ups, List.set_cons_zero, List.set_cons_succ, List.cons_append, List.nil_append, List.append_nil]
   by_cases hlt : p < t.kids.length
   ·obtain ⟨u, ht⟩ := get_lt hlt
    have htm : u ∈ t.kids := List.mem_of_getElem? ht
    have hgt : t.kids[p] = u := by rw [List.getElem?_eq_getElem hlt] at ht; exact Option.some.inj ht
    have hdr : t.kids.drop p = u :: t.kids.drop (p + 1) := by rw [List.drop_eq_getElem_cons hlt, hgt]
    have hu := (ih u htm (by have := nTyS_mem htm; rw [nTy_def] at hn; omega)).sealed (by simp)
    dsimp only at hu
    have hsu := subsP_succ refinedM ht
    have hle := subsP_le refinedM t.kids (p + 1) (by omega)
    rw [hsu, List.length_append, List.length_map] at hle
    rw [subsP_all] at hrl
    generalize subsP refinedM t.kids p = Z at *
    generalize refinedM u = ru at *
    generalize (subsM refinedM t.kids).length = M at *
    repeat' first | (refine aops_end (hK _ ?_); clear hK K) | (refine aops_go ?_; simp [hlt, hgt]; (try simp (disch := omega) only [wrap64]); (try (refine gen fun q hq => ?_; cases q <;> (try simp [hlt, hgt] at hq) <;> (try (have hh : True := hq; clear hh hq))))) | (refine wpcall_pure rfl (hu) ?_; simp [hlt, hgt]; (try simp (disch := omega) only [wrap64]); (try (refine gen fun q hq => ?_; cases q <;> (try simp [hlt, hgt] at hq) <;> (try (have hh : True := hq; clear hh hq))))) | refine T.r0 fun K hK => ?_ | refine T.ct rfl ?_ | refine T.seq ?_ | refine T.block ?_ | refine T.skip ?_
    refine T.loopK (α := Nat × List (List CV) × List Arr) [1, 2, 4, 5, 18, 19, 20, 21, 22, 23, 24, 25, 26, 27, 48] (fun y => [(3, .c (.own 0 (Z.length + y.1))), (28, .i y.1)]) (fun y => []) (fun y => y.2.1) (fun y _ => { sz := 2, ety := 31, rows := Z.map (eTy ∘ MTy.mk t.kind) ++ (ru.take y.1).map (fun v => eTy (.mk t.kind (t.kids.set p v))), wr := true } :: (GA ++ y.2.2)) (fun y => ru.length + 1 - y.1) (fun y => y.1 <= ru.length) (by simp; rfl) (fun y hy => ?_) (0, [], []) (by simp) (by simp) (by simp) (by simp)
    obtain ⟨q, G2, GA2⟩ := y
    dsimp only at hy ⊢
    simp only [ups, List.set_cons_zero, List.set_cons_succ, List.cons_append, List.nil_append, List.append_nil]
    by_cases hlq : q < ru.length
    ·obtain ⟨v, hv⟩ := get_lt hlq
     have hgv : ru[q] = v := by rw [List.getElem?_eq_getElem hlq] at hv; exact Option.some.inj hv
     have htv : ru.take (q + 1) = ru.take q ++ [v] := by rw [List.take_add_one, hv]; rfl
     have hmin : min q ru.length = q := by omega
     repeat' first | (refine aops_end (hK _ ?_); clear hK K) | (refine aops_go ?_; simp [hlq, hgv, hlt, hmin]; (try simp (disch := omega) only [wrap64]); (try (refine gen fun q hq => ?_; cases q <;> (try simp [hlq, hgv, hlt, hmin] at hq) <;> (try (have hh : True := hq; clear hh hq))))) | (refine aopsW_end (hK _ ?_); clear hK K) | (refine aopsW_go ?_; simp [hlq, hgv, hlt, hmin]; (try simp (disch := omega) only [wrap64]); (try (refine OpsW.gen fun q hq => ?_; cases q <;> (try simp [hlq, hgv, hlt, hmin] at hq) <;> (try (have hh : True := hq; clear hh hq))))) | (refine wpcall_own rfl (hcl) ?_; simp [hlq, hgv, hlt, hmin]; (try simp (disch := omega) only [wrap64]); (try (refine gen fun q hq => ?_; cases q <;> (try simp [hlq, hgv, hlt, hmin] at hq) <;> (try (have hh : True := hq; clear hh hq))))) | (refine ⟨fun _ V2 => ?_, ?_⟩; (focus ((try simp); refine wpcall_own rfl (hcl) ?_; simp; done))) | (refine ⟨by omega, by omega, ?_⟩) | refine T.rdW (id := 10) mixed (fun _ => false) [6, 7] [4] [1, 3, 5] 7 [] (by kernel_rfl) fun K hK => ?_ | refine T.r0 fun K hK => ?_ | refine T.r1 fun K hK => ?_ | refine T.ct rfl ?_ | refine T.seq ?_ | refine T.block ?_ | refine T.skip ?_
     refine ⟨(q + 1, _, GA2 ++ [{ sz := 2, ety := 31, rows := (t.kids.map eTy).set p (eTy v), wr := false }]), by dsimp only; omega, by dsimp only; omega, (by simp only [ups, List.set_cons_zero, List.cons_append, List.append_assoc, List.nil_append]; rfl), ?_, ?_⟩
     ·simp [htv, eTy_def, List.map_set]
     ·simp (disch := omega) [wrap64, Nat.add_assoc]
    ·have hq' : q = ru.length := by omega
     subst hq'
     rw [List.take_length]
     repeat' first | (refine aops_end (hK _ ?_); clear hK K) | (refine aops_go ?_; simp [hlq]; (try simp (disch := omega) only [wrap64]); (try (refine gen fun q hq => ?_; cases q <;> (try simp [hlq] at hq) <;> (try (have hh : True := hq; clear hh hq))))) | refine T.r0 fun K hK => ?_ | refine T.r1 fun K hK => ?_ | refine T.cf rfl ?_ | refine T.seq ?_ | refine T.exit ?_
     refine ⟨(p + 1, _, GA ++ GA2), by dsimp only; omega, by dsimp only; omega, (by simp only [ups, List.set_cons_zero, List.cons_append, List.append_assoc, List.nil_append]; rfl), ?_, ?_⟩
     ·simp [hsu, Function.comp_def]
     ·simp (disch := omega) [wrap64, hsu]
   ·have hp' : p = t.kids.length := by omega
    subst hp'
    repeat' first | (refine aops_end (hK _ ?_); clear hK K) | (refine aops_go ?_; simp [hlt]; (try (refine gen fun q hq => ?_; cases q <;> (try simp [hlt] at hq) <;> (try (have hh : True := hq; clear hh hq))))) | refine T.r0 fun K hK => ?_ | refine T.cf rfl ?_ | refine T.seq ?_ | refine T.exit ?_
    refine T.ret (Done.own1 0 (Or.inr rfl) (ys := [_]) ?_ rfl ?_) <;> simp [resAs, Try.results145]

theorem RefineType1_ok (t : MTy) (hn : nTy t <= 1099511627776) : ACalls Try.prog 146 [aTy t] [] (.b (!shapeTy 4 t)) [] [] := by
 have h1 := TypeValid_ok t hn
 generalize shapeTy 4 t = q at *
 refine ACalls.of_body Try.func146 (by kernel_rfl) rfl (by kernel_rfl) (by simp [Try.ntmps146]) (by simp) ?_
 rw [Try.ntmps146]
 repeat' first | (refine aops_end (hK _ ?_); clear hK K) | (refine aops_go ?_; simp; (try (refine gen fun q hq => ?_; cases q <;> (try simp at hq) <;> (try (have hh : True := hq; clear hh hq))))) | (refine wpcall_pure rfl (h1) ?_; simp; (try (refine gen fun q hq => ?_; cases q <;> (try simp at hq) <;> (try (have hh : True := hq; clear hh hq))))) | (refine T.ret (Done.data (Or.inr rfl) ?_ ?_) <;> simp [Try.results146, *] <;> omega) | refine T.r0 fun K hK => ?_

theorem ownTypes_own (l : List MTy) (hl : l.length <= 1073741824) (hn : ∀ t ∈ l, nTy t <= 1099511627776) : ACalls Try.prog 143 [.l (l.map eTy)] [] (.c (.own 0 l.length)) [] [{ sz := 2, ety := 31, rows := l.map eTy, wr := true }] := by
 refine ACalls.of_body Try.func143 (by kernel_rfl) rfl (by kernel_rfl) (by simp [Try.ntmps143]) (by simp) ?_
 rw [Try.ntmps143]
 repeat' first | (refine aops_end (hK _ ?_); clear hK K) | (refine aops_go ?_; simp; (try (refine gen fun q hq => ?_; cases q <;> (try simp at hq) <;> (try (have hh : True := hq; clear hh hq))))) | refine T.r0 fun K hK => ?_ | refine T.seq ?_ | refine T.block ?_
 refine T.ownify 3 2 31 (by simp) ?_
 refine T.loopK (α := Nat × List (List CV)) [2, 6, 7] (fun x => [(3, .c (.own 0 x.1)), (8, .i x.1)]) (fun x => []) (fun x => x.2) (fun x _ => [{ sz := 2, ety := 31, rows := (l.take x.1).map eTy, wr := true }]) (fun x => l.length + 1 - x.1) (fun x => x.1 <= l.length) (by simp; rfl) (fun x hx => ?_) (0, []) (by simp) (by simp) (by simp) (by simp)
 obtain ⟨p, G⟩ := x
 dsimp only at hx ⊢
 simp only [ups, List.set_cons_zero, List.set_cons_succ, List.cons_append, List.nil_append, List.append_nil]
 by_cases hlt : p < l.length
 ·obtain ⟨u, ht⟩ := get_lt hlt
  have htm : u ∈ l := List.mem_of_getElem? ht
  have hgt : l[p] = u := by rw [List.getElem?_eq_getElem hlt] at ht; exact Option.some.inj ht
  have hdr : l.drop p = u :: l.drop (p + 1) := by rw [List.drop_eq_getElem_cons hlt, hgt]
  have hu := ownType_ok u (hn u htm)
  have htk : l.take (p + 1) = l.take p ++ [u] := by rw [List.take_add_one, ht]; rfl
  have hmin : min p l.length = p := by omega
  repeat' first | (refine aops_end (hK _ ?_); clear hK K) | (refine aops_go ?_; simp [hlt, hgt, hmin]; (try simp (disch := omega) only [wrap64]); (try (refine gen fun q hq => ?_; cases q <;> (try simp [hlt, hgt, hmin] at hq) <;> (try (have hh : True := hq; clear hh hq))))) | (refine wpcall_pure rfl (hu) ?_; simp [hlt, hgt, hmin]; (try simp (disch := omega) only [wrap64]); (try (refine gen fun q hq => ?_; cases q <;> (try simp [hlt, hgt, hmin] at hq) <;> (try (have hh : True := hq; clear hh hq))))) | (refine ⟨by omega, by omega, ?_⟩) | (refine ⟨(p + 1, _), by dsimp only; omega, by dsimp only; omega, rfl, ?_, ?_⟩ <;> simp (disch := omega) [wrap64, htk, eTy_def]) | refine T.r0 fun K hK => ?_ | refine T.r1 fun K hK => ?_ | refine T.ct rfl ?_ | refine T.seq ?_ | refine T.block ?_ | refine T.skip ?_
 ·have hp' : p = l.length := by omega
  subst hp'
  repeat' first | (refine aops_end (hK _ ?_); clear hK K) | (refine aops_go ?_; simp [hlt]; (try (refine gen fun q hq => ?_; cases q <;> (try simp [hlt] at hq) <;> (try (have hh : True := hq; clear hh hq))))) | refine T.r0 fun K hK => ?_ | refine T.cf rfl ?_ | refine T.seq ?_ | refine T.exit ?_
  refine T.ret (Done.own1 0 (Or.inr rfl) (ys := [_]) ?_ rfl ?_) <;> simp [resAs, Try.results143]

theorem RefineType_ok (t : MTy) (hn : nTy t <= 1099511627776) : ACalls Try.prog 112 [aTy t] [] (.l ((refTyM t).map eTy)) [] [] := by
 have h1 := TypeValid_ok t hn
 simp only [refTyM]
 cases hv : shapeTy 4 t with
 | false =>
  rw [hv] at h1
  simp only [Bool.false_eq_true, if_false]
  refine ACalls.of_body Try.func112 (by kernel_rfl) rfl (by kernel_rfl) (by simp [Try.ntmps112]) (by simp) ?_
  rw [Try.ntmps112]
  repeat' first | (refine aops_end (hK _ ?_); clear hK K) | (refine aops_go ?_; simp; (try (refine gen fun q hq => ?_; cases q <;> (try simp at hq) <;> (try (have hh : True := hq; clear hh hq))))) | (refine wpcall_pure rfl (h1) ?_; simp; (try (refine gen fun q hq => ?_; cases q <;> (try simp at hq) <;> (try (have hh : True := hq; clear hh hq))))) | (refine T.ret (Done.val (Or.inr rfl) ?_) <;> simp [resAs, Try.results112] <;> omega) | refine T.r0 fun K hK => ?_ | refine T.ct rfl ?_ | refine T.seq ?_
 | true =>
  rw [hv] at h1
  simp only [if_true]
  have h14 := shape4 hv
  have h2 := refined_own t (by omega)
  have hrl := refined_len t
  have hrn : ∀ u ∈ refinedM t, nTy u <= 1099511627776 := fun u hu => by have := refined_nTy hu; omega
  have h3 := deleteFuncTy_own 146 (refinedM t) (fun u => !shapeTy 4 u) (by omega) (fun u hu => RefineType1_ok u (hrn u hu))
  simp only [Bool.not_not] at h3
  have h4 := ownTypes_own ((refinedM t).filter (shapeTy 4)) (Nat.le_trans (List.length_filter_le _ _) (by omega)) (fun u hu => hrn u ((List.mem_filter.1 hu).1))
  replace h4 := h4.sealed (by simp)
  dsimp only at h4
  generalize refinedM t = R at *
  generalize R.filter (shapeTy 4) = F at *
  refine ACalls.of_body Try.func112 (by kernel_rfl) rfl (by kernel_rfl) (by simp [Try.ntmps112]) (by simp) ?_
  rw [Try.ntmps112]
  repeat' first | (refine aops_end (hK _ ?_); clear hK K) | (refine aops_go ?_; simp; (try (refine gen fun q hq => ?_; cases q <;> (try simp at hq) <;> (try (have hh : True := hq; clear hh hq))))) | (refine wpcall_pure rfl (h1) ?_; simp; (try (refine gen fun q hq => ?_; cases q <;> (try simp at hq) <;> (try (have hh : True := hq; clear hh hq))))) | (refine wpcall_pure rfl (h4) ?_; simp; (try (refine gen fun q hq => ?_; cases q <;> (try simp at hq) <;> (try (have hh : True := hq; clear hh hq))))) | (refine wpcall_own rfl (h2) ?_; simp; (try (refine gen fun q hq => ?_; cases q <;> (try simp at hq) <;> (try (have hh : True := hq; clear hh hq))))) | (refine wpcall_hand 0 h3 rfl rfl rfl rfl ?_; simp [back]) | (refine T.ret (Done.val (Or.inr rfl) ?_) <;> simp [resAs, Try.results112] <;> omega) | refine T.r0 fun K hK => ?_ | refine T.cf rfl ?_ | refine T.seq ?_ | refine T.skip ?_
end Go.Proofs.Ytgpgcnahoieedaa

namespace Go.Proofs.Ytgpgcnahoieedaa
attribute [-simp] Go.Av.astepJ Go.Av.relC Go.Av.relL Go.Av.relV Go.Av.relVs Go.Av.callJ
open Go Go.Av
attribute [local irreducible] T ACalls TX EX LX Draws Some_ ACallsX eTy eTm MTy.kind MTy.kids MTm.kind MTm.name MTm.num MTm.ty MTm.fr MTm.label MTm.kids
attribute [local simp] eTy_def eTm_def
set_option maxHeartbeats 16000000
set_option maxRecDepth 8000

theorem sum_take_le {α : Type} (f : α -> Nat) : ∀ (l : List α) (p : Nat), ((l.take p).map f).sum <= (l.map f).sum
 | [], p => by simp
 | x :: r, 0 => by simp
 | x :: r, p + 1 => by have := sum_take_le f r p; simp only [List.take_succ_cons, List.map_cons, List.sum_cons]; omega
def cntP (l : List MTy) (p : Nat) : Nat := ((l.take p).map cntM).sum
theorem types_yes (e : MTm) (hh : hasTyM e.kind = true) (hn : nTm e <= 1099511627776)
  (ih : ∀ u ∈ e.kids, ACalls Try.prog 111 [aTm u] [] (.c (.own 0 (typesM u).length)) [] [{ sz := 2, ety := 31, rows := (typesM u).map eTy, wr := true }]) :
  ACalls Try.prog 111 [aTm e] [] (.c (.own 0 ([e.ty] ++ typesS e.kids).length)) [] [{ sz := 2, ety := 31, rows := ([e.ty] ++ typesS e.kids).map eTy, wr := true }] := by
 obtain ⟨hnt, hnf, hnk, hnu⟩ := nTm_parts hn
 have h1 := ownType_ok e.ty hnt
 have h2 := hasType_ok e
 rw [hh] at h2
 have hsm : (typesS e.kids).length <= 1099511627777 := by have := (typesM_small e).2; rw [typesM_def] at this; simp only [List.length_append] at this; omega
 refine ACalls.of_body Try.func111 (by kernel_rfl) rfl (by kernel_rfl) (by simp [Try.ntmps111]) (by simp) ?_
 rw [Try.ntmps111]
 repeat' first | (refine aops_end (hK _ ?_); clear hK K) | (refine aops_go ?_; simp; (try (refine gen fun q hq => ?_; cases q <;> (try simp at hq) <;> (try (have hh : True := hq; clear hh hq))))) | (refine wpcall_pure rfl (h2) ?_; simp; (try (refine gen fun q hq => ?_; cases q <;> (try simp at hq) <;> (try (have hh : True := hq; clear hh hq))))) | (refine wpcall_pure rfl (h1) ?_; simp; (try (refine gen fun q hq => ?_; cases q <;> (try simp at hq) <;> (try (have hh : True := hq; clear hh hq))))) | refine T.r0 fun K hK => ?_ | refine T.r1 fun K hK => ?_ | refine T.ct rfl ?_ | refine T.seq ?_ | refine T.block ?_
 refine T.loopK (α := Nat × List (List CV) × List Arr) [2, 15, 16] (fun x => [(3, .c (.own 0 ([e.ty] ++ typesS (e.kids.take x.1)).length)), (17, .i x.1)]) (fun x => []) (fun x => x.2.1) (fun x _ => { sz := 2, ety := 31, rows := ([e.ty] ++ typesS (e.kids.take x.1)).map eTy, wr := true } :: x.2.2) (fun x => e.kids.length + 1 - x.1) (fun x => x.1 <= e.kids.length) (by simp; rfl) (fun x hx => ?_) (0, [], []) (by simp) (by simp) (by simp [typesS, eTy_def]) (by simp [typesS])
 obtain ⟨p, G, GA⟩ := x
 dsimp only at hx ⊢
 simp only [ups, List.set_cons_zero, List.set_cons_succ, List.cons_append, List.nil_append]
 by_cases hlt : p < e.kids.length
 ·obtain ⟨u, ht⟩ := get_lt hlt
  have htm : u ∈ e.kids := List.mem_of_getElem? ht
  have hgt : e.kids[p] = u := by rw [List.getElem?_eq_getElem hlt] at ht; exact Option.some.inj ht
  have hdr : e.kids.drop p = u :: e.kids.drop (p + 1) := by rw [List.drop_eq_getElem_cons hlt, hgt]
  have hu := ih u htm
  have htk : typesS (e.kids.take (p + 1)) = typesS (e.kids.take p) ++ typesM u := typesS_take ht
  have hle := typesS_le e.kids (p + 1)
  rw [htk, List.length_append] at hle
  generalize typesS (e.kids.take p) = Z at *
  generalize typesM u = tu at *
  repeat' first | (refine aops_end (hK _ ?_); clear hK K) | (refine aops_go ?_; simp [hlt, hgt]; (try simp (disch := omega) only [wrap64]); (try (refine gen fun q hq => ?_; cases q <;> (try simp [hlt, hgt] at hq) <;> (try (have hh : True := hq; clear hh hq))))) | (refine wpcall_own rfl (hu) ?_; simp [hlt, hgt]; (try simp (disch := omega) only [wrap64]); (try (refine gen fun q hq => ?_; cases q <;> (try simp [hlt, hgt] at hq) <;> (try (have hh : True := hq; clear hh hq))))) | (refine ⟨by omega, by omega, ?_⟩) | (refine ⟨(p + 1, _, GA ++ [{ sz := 2, ety := 31, rows := tu.map eTy, wr := true }]), by dsimp only; omega, by dsimp only; omega, rfl, ?_, ?_⟩ <;> simp (disch := omega) [wrap64, htk, eTy_def] <;> omega) | refine T.r0 fun K hK => ?_ | refine T.r1 fun K hK => ?_ | refine T.ct rfl ?_ | refine T.seq ?_ | refine T.block ?_ | refine T.skip ?_
 ·have hp' : p = e.kids.length := by omega
  subst hp'
  rw [List.take_length]
  repeat' first | (refine aops_end (hK _ ?_); clear hK K) | (refine aops_go ?_; simp [hlt]; (try (refine gen fun q hq => ?_; cases q <;> (try simp [hlt] at hq) <;> (try (have hh : True := hq; clear hh hq))))) | refine T.r0 fun K hK => ?_ | refine T.cf rfl ?_ | refine T.seq ?_ | refine T.exit ?_
  all_goals (refine T.ret (Done.own1 0 (Or.inr rfl) (ys := [_]) ?_ rfl ?_) <;> simp [resAs, Try.results111])

theorem types_no (e : MTm) (hh : hasTyM e.kind = false) (hn : nTm e <= 1099511627776)
  (ih : ∀ u ∈ e.kids, ACalls Try.prog 111 [aTm u] [] (.c (.own 0 (typesM u).length)) [] [{ sz := 2, ety := 31, rows := (typesM u).map eTy, wr := true }]) :
  ACalls Try.prog 111 [aTm e] [] (.c (.own 0 ([] ++ typesS e.kids).length)) [] [{ sz := 2, ety := 31, rows := ([] ++ typesS e.kids).map eTy, wr := true }] := by
 obtain ⟨hnt, hnf, hnk, hnu⟩ := nTm_parts hn
 have h1 := ownType_ok e.ty hnt
 have h2 := hasType_ok e
 rw [hh] at h2
 have hsm : (typesS e.kids).length <= 1099511627777 := by have := (typesM_small e).2; rw [typesM_def] at this; simp only [List.length_append] at this; omega
 refine ACalls.of_body Try.func111 (by kernel_rfl) rfl (by kernel_rfl) (by simp [Try.ntmps111]) (by simp) ?_
 rw [Try.ntmps111]
 repeat' first | (refine aops_end (hK _ ?_); clear hK K) | (refine aops_go ?_; simp; (try (refine gen fun q hq => ?_; cases q <;> (try simp at hq) <;> (try (have hh : True := hq; clear hh hq))))) | (refine wpcall_pure rfl (h2) ?_; simp; (try (refine gen fun q hq => ?_; cases q <;> (try simp at hq) <;> (try (have hh : True := hq; clear hh hq))))) | refine T.r0 fun K hK => ?_ | refine T.cf rfl ?_ | refine T.seq ?_ | refine T.block ?_ | refine T.skip ?_
 refine T.ownify 3 2 31 (by simp) ?_
 refine T.loopK (α := Nat × List (List CV) × List Arr) [2, 15, 16] (fun x => [(3, .c (.own 0 ([] ++ typesS (e.kids.take x.1)).length)), (17, .i x.1)]) (fun x => []) (fun x => x.2.1) (fun x _ => { sz := 2, ety := 31, rows := ([] ++ typesS (e.kids.take x.1)).map eTy, wr := true } :: x.2.2) (fun x => e.kids.length + 1 - x.1) (fun x => x.1 <= e.kids.length) (by simp; rfl) (fun x hx => ?_) (0, [], []) (by simp) (by simp) (by simp [typesS, eTy_def]) (by simp [typesS])
 obtain ⟨p, G, GA⟩ := x
 dsimp only at hx ⊢
 simp only [ups, List.set_cons_zero, List.set_cons_succ, List.cons_append, List.nil_append]
 by_cases hlt : p < e.kids.length
 ·obtain ⟨u, ht⟩ := get_lt hlt
  have htm : u ∈ e.kids := List.mem_of_getElem? ht
  have hgt : e.kids[p] = u := by rw [List.getElem?_eq_getElem hlt] at ht; exact Option.some.inj ht
  have hdr : e.kids.drop p = u :: e.kids.drop (p + 1) := by rw [List.drop_eq_getElem_cons hlt, hgt]
  have hu := ih u htm
  have htk : typesS (e.kids.take (p + 1)) = typesS (e.kids.take p) ++ typesM u := typesS_take ht
  have hle := typesS_le e.kids (p + 1)
  rw [htk, List.length_append] at hle
  generalize typesS (e.kids.take p) = Z at *
  generalize typesM u = tu at *
  repeat' first | (refine aops_end (hK _ ?_); clear hK K) | (refine aops_go ?_; simp [hlt, hgt]; (try simp (disch := omega) only [wrap64]); (try (refine gen fun q hq => ?_; cases q <;> (try simp [hlt, hgt] at hq) <;> (try (have hh : True := hq; clear hh hq))))) | (refine wpcall_own rfl (hu) ?_; simp [hlt, hgt]; (try simp (disch := omega) only [wrap64]); (try (refine gen fun q hq => ?_; cases q <;> (try simp [hlt, hgt] at hq) <;> (try (have hh : True := hq; clear hh hq))))) | (refine ⟨by omega, by omega, ?_⟩) | (refine ⟨(p + 1, _, GA ++ [{ sz := 2, ety := 31, rows := tu.map eTy, wr := true }]), by dsimp only; omega, by dsimp only; omega, rfl, ?_, ?_⟩ <;> simp (disch := omega) [wrap64, htk, eTy_def] <;> omega) | refine T.r0 fun K hK => ?_ | refine T.r1 fun K hK => ?_ | refine T.ct rfl ?_ | refine T.seq ?_ | refine T.block ?_ | refine T.skip ?_
 ·have hp' : p = e.kids.length := by omega
  subst hp'
  rw [List.take_length]
  repeat' first | (refine aops_end (hK _ ?_); clear hK K) | (refine aops_go ?_; simp [hlt]; (try (refine gen fun q hq => ?_; cases q <;> (try simp [hlt] at hq) <;> (try (have hh : True := hq; clear hh hq))))) | refine T.r0 fun K hK => ?_ | refine T.cf rfl ?_ | refine T.seq ?_ | refine T.exit ?_
  all_goals (refine T.ret (Done.own1 0 (Or.inr rfl) (ys := [_]) ?_ rfl ?_) <;> simp [resAs, Try.results111])

theorem types_own : ∀ (e : MTm), nTm e <= 1099511627776 -> ACalls Try.prog 111 [aTm e] [] (.c (.own 0 (typesM e).length)) [] [{ sz := 2, ety := 31, rows := (typesM e).map eTy, wr := true }] := by
 intro e
 induction e using MTm.ind with
 | h e ih =>
  intro hn
  obtain ⟨_, _, _, hnu⟩ := nTm_parts hn
  have ih' := fun u hu => ih u hu (hnu u hu)
  rw [typesM_def]
  cases hh : hasTyM e.kind with
  | true => rw [if_pos rfl]; exact types_yes e hh hn ih'
  | false => rw [if_neg (by simp)]; exact types_no e hh hn ih'

end Go.Proofs.Ytgpgcnahoieedaa

namespace Go.Proofs.Ytgpgcnahoieedaa
attribute [-simp] Go.Av.astepJ Go.Av.relC Go.Av.relL Go.Av.relV Go.Av.relVs Go.Av.callJ
open Go Go.Av
attribute [local irreducible] T ACalls TX EX LX Draws Some_ ACallsX eTy eTm MTy.kind MTy.kids MTm.kind MTm.name MTm.num MTm.ty MTm.fr MTm.label MTm.kids
attribute [local simp] eTy_def eTm_def
set_option maxHeartbeats 16000000
set_option maxRecDepth 8000
attribute [local simp] Option.bind

theorem retyped_yes (e : MTm) (hh : hasTyM e.kind = true) (t0 : MTy) (h0 : nTy t0 <= 1099511627776) (ts : List MTy) (hn : nTm e <= 1099511627776) (hts : ∀ t ∈ ts, nTy t <= 1099511627776) (hl : (typesS e.kids).length <= ts.length) (hl2 : ts.length <= 1099511627776)
  (ih : ∀ u ∈ e.kids, ∀ (ts : List MTy), (∀ t ∈ ts, nTy t <= 1099511627776) -> (typesM u).length <= ts.length -> ts.length <= 1099511627776 -> ACalls Try.prog 114 [aTm u, .l (ts.map eTy)] [] (.tup [aTm (withM u ts), .l ((ts.drop (typesM u).length).map eTy)]) [] []) :
  ACalls Try.prog 114 [aTm e, .l (((t0 :: ts)).map eTy)] [] (.tup [aTm (.mk e.kind e.name e.num t0 e.fr e.label (withS e.kids ts)), .l ((ts.drop (typesS e.kids).length).map eTy)]) [] [] := by
 obtain ⟨hnt, hnf, hnk, hnu⟩ := nTm_parts hn
 have h1 := ownType_ok t0 h0
 have h2 := hasType_ok e
 rw [hh] at h2
 refine ACalls.of_body Try.func114 (by kernel_rfl) rfl (by kernel_rfl) (by simp [Try.ntmps114]) (by simp) ?_
 rw [Try.ntmps114]
 repeat' first | ((first | refine aops_end (hK _ ?_) | refine aopsF_end (hK _ ?_)); clear hK K) | ((first | refine aops_go ?_ | refine aopsF_go ?_); simp; (try (refine gen fun q hq => ?_; cases q <;> (try simp at hq) <;> (try (have hh : True := hq; clear hh hq))))) | (refine wpcall_pure rfl (h2) ?_; simp; (try (refine gen fun q hq => ?_; cases q <;> (try simp at hq) <;> (try (have hh : True := hq; clear hh hq))))) | (refine wpcall_pure rfl (h1) ?_; simp; (try (refine gen fun q hq => ?_; cases q <;> (try simp at hq) <;> (try (have hh : True := hq; clear hh hq))))) | refine T.rdF1 (id := 4) mixed (fun _ => false) [7] [5] 8 [2] (by kernel_rfl) fun K hK => ?_ | refine T.r0 fun K hK => ?_ | (refine ⟨by omega, ?_⟩) | refine T.ct rfl ?_ | refine T.seq ?_ | refine T.block ?_
 refine T.ownifyObj 2 8 9 36 (row := [.d (.i e.kind), .d (.str e.name), .d (.i e.num), .d (.i (t0).kind), .d (.sl ((t0).kids.map eTy)), .d (.i e.fr.kind), .d (.sl (e.fr.kids.map eTy)), .d (.i e.label), .nil]) rfl rfl ?_
 refine T.loopK (α := Nat × List (List CV)) [4, 5, 6, 23, 24] (fun x => [(1, .l ((ts.drop (typesS (e.kids.take x.1)).length).map eTy)), (25, .i x.1)]) (fun x => [(2, [.d (.i e.kind), .d (.str e.name), .d (.i e.num), .d (.i (t0).kind), .d (.sl ((t0).kids.map eTy)), .d (.i e.fr.kind), .d (.sl (e.fr.kids.map eTy)), .d (.i e.label), .own 0 x.1])]) (fun x => x.2)
  (fun x _ => [{ sz := 9, ety := 36, rows := ((withS e.kids ts).take x.1).map eTm, wr := true }]) (fun x => e.kids.length + 1 - x.1) (fun x => x.1 <= e.kids.length) (by simp; rfl) (fun x hx => ?_) (0, []) (by simp) (by simp) (by simp) (by simp [typesS, List.take_of_length_le])
 obtain ⟨p, G⟩ := x
 dsimp only at hx ⊢
 simp only [ups, List.set_cons_zero, List.set_cons_succ, List.cons_append, List.nil_append]
 have hwl : (withS e.kids ts).length = e.kids.length := withS_len _ _
 by_cases hlt : p < e.kids.length
 ·obtain ⟨u, ht⟩ := get_lt hlt
  have htm : u ∈ e.kids := List.mem_of_getElem? ht
  have hgt : e.kids[p] = u := by rw [List.getElem?_eq_getElem hlt] at ht; exact Option.some.inj ht
  have hdr : e.kids.drop p = u :: e.kids.drop (p + 1) := by rw [List.drop_eq_getElem_cons hlt, hgt]
  have hle := typesS_le e.kids (p + 1)
  rw [typesS_take ht, List.length_append] at hle
  have hu := ih u htm (ts.drop (typesS (e.kids.take p)).length) (fun t h => hts t (List.mem_of_mem_drop h)) (by simp; omega) (by simp; omega)
  have hwt := withS_take ts ht
  have htk : ts.drop (typesS (e.kids.take (p + 1))).length = (ts.drop (typesS (e.kids.take p)).length).drop (typesM u).length := by rw [typesS_take ht, List.drop_drop, List.length_append]
  generalize (ts.drop (typesS (e.kids.take p)).length) = T1 at *
  generalize (withM u T1) = wu at *
  generalize (withS e.kids ts) = Z at *
  generalize T1.drop (typesM u).length = T2 at *
  have hmin : min p e.kids.length = p := by omega
  repeat' first | (refine aops_end (hK _ ?_); clear hK K) | (refine aops_go ?_; simp [hlt, hgt, hmin, hwl]; (try simp (disch := omega) only [wrap64]); (try (refine gen fun q hq => ?_; cases q <;> (try simp [hlt, hgt, hmin, hwl] at hq) <;> (try (have hh : True := hq; clear hh hq))))) | (refine wpcall_pure rfl (hu) ?_; simp [hlt, hgt, hmin, hwl]; (try simp (disch := omega) only [wrap64]); (try (refine gen fun q hq => ?_; cases q <;> (try simp [hlt, hgt, hmin, hwl] at hq) <;> (try (have hh : True := hq; clear hh hq))))) | (refine ⟨by omega, by omega, ?_⟩) | (refine ⟨(p + 1, _), by dsimp only; omega, by dsimp only; omega, rfl, ?_, ?_⟩ <;> simp (disch := omega) [wrap64, hwt, htk, eTm_def]) | refine T.r0 fun K hK => ?_ | refine T.r1 fun K hK => ?_ | refine T.ct rfl ?_ | refine T.seq ?_ | refine T.block ?_ | refine T.skip ?_
 ·have hp' : p = e.kids.length := by omega
  subst hp'
  rw [List.take_length, List.take_of_length_le (by omega)]
  repeat' first | (refine aops_end (hK _ ?_); clear hK K) | (refine aops_go ?_; simp [hlt]; (try (refine gen fun q hq => ?_; cases q <;> (try simp [hlt] at hq) <;> (try (have hh : True := hq; clear hh hq))))) | (refine T.ret (Done.tup (Or.inr rfl) ?_) <;> simp [resAs, Try.results114, eTm_def, hwl] <;> omega) | refine T.r0 fun K hK => ?_ | refine T.cf rfl ?_ | refine T.seq ?_ | refine T.exit ?_

theorem retyped_no (e : MTm) (hh : hasTyM e.kind = false) (t0 : MTy) (h0 : nTy t0 <= 1099511627776) (ts : List MTy) (hn : nTm e <= 1099511627776) (hts : ∀ t ∈ ts, nTy t <= 1099511627776) (hl : (typesS e.kids).length <= ts.length) (hl2 : ts.length <= 1099511627776)
  (ih : ∀ u ∈ e.kids, ∀ (ts : List MTy), (∀ t ∈ ts, nTy t <= 1099511627776) -> (typesM u).length <= ts.length -> ts.length <= 1099511627776 -> ACalls Try.prog 114 [aTm u, .l (ts.map eTy)] [] (.tup [aTm (withM u ts), .l ((ts.drop (typesM u).length).map eTy)]) [] []) :
  ACalls Try.prog 114 [aTm e, .l ((ts).map eTy)] [] (.tup [aTm (.mk e.kind e.name e.num e.ty e.fr e.label (withS e.kids ts)), .l ((ts.drop (typesS e.kids).length).map eTy)]) [] [] := by
 obtain ⟨hnt, hnf, hnk, hnu⟩ := nTm_parts hn
 have h1 := ownType_ok t0 h0
 have h2 := hasType_ok e
 rw [hh] at h2
 refine ACalls.of_body Try.func114 (by kernel_rfl) rfl (by kernel_rfl) (by simp [Try.ntmps114]) (by simp) ?_
 rw [Try.ntmps114]
 repeat' first | (refine aops_end (hK _ ?_); clear hK K) | (refine aops_go ?_; simp; (try (refine gen fun q hq => ?_; cases q <;> (try simp at hq) <;> (try (have hh : True := hq; clear hh hq))))) | (refine wpcall_pure rfl (h2) ?_; simp; (try (refine gen fun q hq => ?_; cases q <;> (try simp at hq) <;> (try (have hh : True := hq; clear hh hq))))) | refine T.r0 fun K hK => ?_ | refine T.cf rfl ?_ | refine T.seq ?_ | refine T.block ?_ | refine T.skip ?_
 refine T.ownifyObj 2 8 9 36 (row := [.d (.i e.kind), .d (.str e.name), .d (.i e.num), .d (.i (e.ty).kind), .d (.sl ((e.ty).kids.map eTy)), .d (.i e.fr.kind), .d (.sl (e.fr.kids.map eTy)), .d (.i e.label), .nil]) rfl rfl ?_
 refine T.loopK (α := Nat × List (List CV)) [4, 5, 6, 23, 24] (fun x => [(1, .l ((ts.drop (typesS (e.kids.take x.1)).length).map eTy)), (25, .i x.1)]) (fun x => [(2, [.d (.i e.kind), .d (.str e.name), .d (.i e.num), .d (.i (e.ty).kind), .d (.sl ((e.ty).kids.map eTy)), .d (.i e.fr.kind), .d (.sl (e.fr.kids.map eTy)), .d (.i e.label), .own 0 x.1])]) (fun x => x.2)
  (fun x _ => [{ sz := 9, ety := 36, rows := ((withS e.kids ts).take x.1).map eTm, wr := true }]) (fun x => e.kids.length + 1 - x.1) (fun x => x.1 <= e.kids.length) (by simp; rfl) (fun x hx => ?_) (0, []) (by simp) (by simp) (by simp) (by simp [typesS, List.take_of_length_le])
 obtain ⟨p, G⟩ := x
 dsimp only at hx ⊢
 simp only [ups, List.set_cons_zero, List.set_cons_succ, List.cons_append, List.nil_append]
 have hwl : (withS e.kids ts).length = e.kids.length := withS_len _ _
 by_cases hlt : p < e.kids.length
 ·obtain ⟨u, ht⟩ := get_lt hlt
  have htm : u ∈ e.kids := List.mem_of_getElem? ht
  have hgt : e.kids[p] = u := by rw [List.getElem?_eq_getElem hlt] at ht; exact Option.some.inj ht
  have hdr : e.kids.drop p = u :: e.kids.drop (p + 1) := by rw [List.drop_eq_getElem_cons hlt, hgt]
  have hle := typesS_le e.kids (p + 1)
  rw [typesS_take ht, List.length_append] at hle
  have hu := ih u htm (ts.drop (typesS (e.kids.take p)).length) (fun t h => hts t (List.mem_of_mem_drop h)) (by simp; omega) (by simp; omega)
  have hwt := withS_take ts ht
  have htk : ts.drop (typesS (e.kids.take (p + 1))).length = (ts.drop (typesS (e.kids.take p)).length).drop (typesM u).length := by rw [typesS_take ht, List.drop_drop, List.length_append]
  generalize (ts.drop (typesS (e.kids.take p)).length) = T1 at *
  generalize (withM u T1) = wu at *
  generalize (withS e.kids ts) = Z at *
  generalize T1.drop (typesM u).length = T2 at *
  have hmin : min p e.kids.length = p := by omega
  repeat' first | (refine aops_end (hK _ ?_); clear hK K) | (refine aops_go ?_; simp [hlt, hgt, hmin, hwl]; (try simp (disch := omega) only [wrap64]); (try (refine gen fun q hq => ?_; cases q <;> (try simp [hlt, hgt, hmin, hwl] at hq) <;> (try (have hh : True := hq; clear hh hq))))) | (refine wpcall_pure rfl (hu) ?_; simp [hlt, hgt, hmin, hwl]; (try simp (disch := omega) only [wrap64]); (try (refine gen fun q hq => ?_; cases q <;> (try simp [hlt, hgt, hmin, hwl] at hq) <;> (try (have hh : True := hq; clear hh hq))))) | (refine ⟨by omega, by omega, ?_⟩) | (refine ⟨(p + 1, _), by dsimp only; omega, by dsimp only; omega, rfl, ?_, ?_⟩ <;> simp (disch := omega) [wrap64, hwt, htk, eTm_def]) | refine T.r0 fun K hK => ?_ | refine T.r1 fun K hK => ?_ | refine T.ct rfl ?_ | refine T.seq ?_ | refine T.block ?_ | refine T.skip ?_
 ·have hp' : p = e.kids.length := by omega
  subst hp'
  rw [List.take_length, List.take_of_length_le (by omega)]
  repeat' first | (refine aops_end (hK _ ?_); clear hK K) | (refine aops_go ?_; simp [hlt]; (try (refine gen fun q hq => ?_; cases q <;> (try simp [hlt] at hq) <;> (try (have hh : True := hq; clear hh hq))))) | (refine T.ret (Done.tup (Or.inr rfl) ?_) <;> simp [resAs, Try.results114, eTm_def, hwl] <;> omega) | refine T.r0 fun K hK => ?_ | refine T.cf rfl ?_ | refine T.seq ?_ | refine T.exit ?_

theorem retyped_ok : ∀ (e : MTm), nTm e <= 1099511627776 -> ∀ (ts : List MTy), (∀ t ∈ ts, nTy t <= 1099511627776) -> (typesM e).length <= ts.length -> ts.length <= 1099511627776 -> ACalls Try.prog 114 [aTm e, .l (ts.map eTy)] [] (.tup [aTm (withM e ts), .l ((ts.drop (typesM e).length).map eTy)]) [] [] := by
 intro e
 induction e using MTm.ind with
 | h e ih =>
  intro hn ts hts hl hl2
  obtain ⟨_, _, _, hnu⟩ := nTm_parts hn
  have ih' := fun u hu => ih u hu (hnu u hu)
  rw [typesM_def] at hl ⊢
  rw [withM_def]
  cases hh : hasTyM e.kind with
  | true =>
   rw [hh] at hl
   simp only [if_true, List.length_append, List.length_singleton] at hl ⊢
   match ts, hl, hts, hl2 with
   | t0 :: r, hl, hts, hl2 =>
    simp only [List.length_cons] at hl hl2
    have := retyped_yes e hh t0 (hts t0 (by simp)) r hn (fun t h => hts t (by simp [h])) (by omega) (by omega) ih'
    rw [Nat.add_comm 1, List.drop_succ_cons, List.drop_succ_cons, List.drop_zero, List.headD_cons]
    exact this
   | [], hl, _, _ => simp at hl
  | false =>
   rw [hh] at hl
   simp only [Bool.false_eq_true, if_false, List.nil_append] at hl ⊢
   exact retyped_no e hh zeroT (by simp [nTy_mk, nTyS]) ts hn hts hl hl2 ih'

end Go.Proofs.Ytgpgcnahoieedaa

namespace Go.Proofs.Ytgpgcnahoieedaa
attribute [-simp] Go.Av.astepJ Go.Av.relC Go.Av.relL Go.Av.relV Go.Av.relVs Go.Av.callJ
open Go Go.Av
attribute [local irreducible] T ACalls TX EX LX Draws Some_ ACallsX eTy eTm MTy.kind MTy.kids MTm.kind MTm.name MTm.num MTm.ty MTm.fr MTm.label MTm.kids
attribute [local simp] eTy_def eTm_def
set_option maxHeartbeats 16000000
set_option maxRecDepth 8000
@[simp] theorem td_intS2 : td Try.prog 141 = some { ag := false, sz := 1, by_ := 24, zero := some [.nil], el := some 3, ar := none, fl := [], ik := none, isS := false, isB := false } := keep (by kernel_rfl)

end Go.Proofs.Ytgpgcnahoieedaa

namespace Go.Proofs.Ytgpgcnahoieedaa
attribute [-simp] Go.Av.astepJ Go.Av.relC Go.Av.relL Go.Av.relV Go.Av.relVs Go.Av.callJ
open Go Go.Av
attribute [local irreducible] T ACalls TX EX LX Draws Some_ ACallsX eTy eTm MTy.kind MTy.kids MTm.kind MTm.name MTm.num MTm.ty MTm.fr MTm.label MTm.kids
attribute [local simp] eTy_def eTm_def
set_option maxHeartbeats 16000000
set_option maxRecDepth 8000

def redM (e : MTm) : Int := if castValidM e = true then ((castsM e).length : Int) - (castsM (simpM e)).length else 0

abbrev tmOwn (e : MTm) : AV := .agg [.d (.i e.kind), .d (.str e.name), .d (.i e.num), .d (.i e.ty.kind), .d (.sl (e.ty.kids.map eTy)), .d (.i e.fr.kind), .d (.sl (e.fr.kids.map eTy)), .d (.i e.label), .own 0 e.kids.length]
def mixM (l : List MTm) (p : Nat) : List MTm := (l.map simpM).take p ++ l.drop p
end Go.Proofs.Ytgpgcnahoieedaa

namespace Go.Proofs.Ytgpgcnahoieedaa
attribute [-simp] Go.Av.astepJ Go.Av.relC Go.Av.relL Go.Av.relV Go.Av.relVs Go.Av.callJ
open Go Go.Av
attribute [local irreducible] T ACalls TX EX LX Draws Some_ ACallsX eTy eTm MTy.kind MTy.kids MTm.kind MTm.name MTm.num MTm.ty MTm.fr MTm.label MTm.kids
attribute [local simp] eTy_def eTm_def
set_option maxHeartbeats 16000000
set_option maxRecDepth 8000
attribute [local simp] Option.bind

abbrev stepR (p : MTm × Int × Int) : List AV := [aTm p.1, .i p.2.1, .i p.2.2]

abbrev runR (p : MTm × Int × Int × Int) : List AV := [aTm p.1, .i p.2.1, .i p.2.2.1, .i p.2.2.2]

end Go.Proofs.Ytgpgcnahoieedaa
