/- A part of the library of this seat. -/
import Derived.Test.YtgpgcnahoieedaaGreatB14
set_option linter.unusedVariables false
set_option linter.unusedSimpArgs false
namespace Go.Proofs.YtgpgcnahoieedaaGreat
attribute [-simp] Go.Av.astepJ Go.Av.relC Go.Av.relL Go.Av.relV Go.Av.relVs Go.Av.callJ
open Go Go.Av
attribute [local irreducible] T ACalls TX EX LX Draws Some_ ACallsX eTy eTm MTy.kind MTy.kids MTm.kind MTm.name MTm.num MTm.ty MTm.fr MTm.label MTm.kids
attribute [local simp] eTy_def eTm_def
set_option maxHeartbeats 16000000
set_option maxRecDepth 8000


end Go.Proofs.YtgpgcnahoieedaaGreat

namespace Go.Proofs.YtgpgcnahoieedaaGreat
attribute [-simp] Go.Av.astepJ Go.Av.relC Go.Av.relL Go.Av.relV Go.Av.relVs Go.Av.callJ
open Go Go.Av
attribute [local irreducible] T ACalls TX EX LX Draws Some_ ACallsX eTy eTm MTy.kind MTy.kids MTm.kind MTm.name MTm.num MTm.ty MTm.fr MTm.label MTm.kids
attribute [local simp] eTy_def eTm_def
set_option maxHeartbeats 16000000
set_option maxRecDepth 8000
attribute [local simp] Option.bind

theorem ground_ok (k : Int) : ACalls Tryz.prog 114 [.i k] [] (aTy (groundT k)) [] [] := by
 have h1 := base_ok 1
 by_cases h4 : k = 4
 ·subst h4
  rw [show groundT 4 = .mk 4 [anyT, anyT] from rfl]
  have h2 := both_ok 4 anyT anyT
  refine ACalls.of_body Tryz.func114 (by kernel_rfl) rfl (by kernel_rfl) (by simp [Tryz.ntmps114]) (by simp) ?_
  rw [Tryz.ntmps114]
  repeat' first | (refine aops_end (hK _ ?_); clear hK K) | (refine aops_go ?_; simp; (try (refine gen fun q hq => ?_; cases q <;> (try simp at hq) <;> (try (have hh : True := hq; clear hh hq))))) | (refine wpcall_pure rfl (h1) ?_; simp; (try (refine gen fun q hq => ?_; cases q <;> (try simp at hq) <;> (try (have hh : True := hq; clear hh hq))))) | (refine wpcall_pure ?_ (h2) ?_; (focus (solve | simp)); simp; (try (refine gen fun q hq => ?_; cases q <;> (try simp at hq) <;> (try (have hh : True := hq; clear hh hq))))) | (refine T.ret (Done.val (Or.inr rfl) ?_) <;> simp [resAs, Tryz.results114] <;> omega) | refine T.r0 fun K hK => ?_ | refine T.ct rfl ?_ | refine T.seq ?_
 by_cases h5 : k = 5
 ·subst h5
  rw [show groundT 5 = .mk 5 [anyT, anyT] from rfl]
  have h2 := both_ok 5 anyT anyT
  refine ACalls.of_body Tryz.func114 (by kernel_rfl) rfl (by kernel_rfl) (by simp [Tryz.ntmps114]) (by simp) ?_
  rw [Tryz.ntmps114]
  repeat' first | (refine aops_end (hK _ ?_); clear hK K) | (refine aops_go ?_; simp; (try (refine gen fun q hq => ?_; cases q <;> (try simp at hq) <;> (try (have hh : True := hq; clear hh hq))))) | (refine wpcall_pure rfl (h1) ?_; simp; (try (refine gen fun q hq => ?_; cases q <;> (try simp at hq) <;> (try (have hh : True := hq; clear hh hq))))) | (refine wpcall_pure ?_ (h2) ?_; (focus (solve | simp)); simp; (try (refine gen fun q hq => ?_; cases q <;> (try simp at hq) <;> (try (have hh : True := hq; clear hh hq))))) | (refine T.ret (Done.val (Or.inr rfl) ?_) <;> simp [resAs, Tryz.results114] <;> omega) | refine T.r0 fun K hK => ?_ | refine T.ct rfl ?_ | refine T.seq ?_
 ·rw [show groundT k = .mk k [] by simp [groundT, h4, h5]]
  have h3 := base_ok k
  refine ACalls.of_body Tryz.func114 (by kernel_rfl) rfl (by kernel_rfl) (by simp [Tryz.ntmps114]) (by simp) ?_
  rw [Tryz.ntmps114]
  repeat' first | (refine aops_end (hK _ ?_); clear hK K) | (refine aops_go ?_; simp [h4, h5]; (try (refine gen fun q hq => ?_; cases q <;> (try simp [h4, h5] at hq) <;> (try (have hh : True := hq; clear hh hq))))) | (refine wpcall_pure rfl (h3) ?_; simp [h4, h5]; (try (refine gen fun q hq => ?_; cases q <;> (try simp [h4, h5] at hq) <;> (try (have hh : True := hq; clear hh hq))))) | (refine T.ret (Done.val (Or.inr rfl) ?_) <;> simp [resAs, Tryz.results114] <;> omega) | refine T.r0 fun K hK => ?_ | refine T.cf rfl ?_ | refine T.seq ?_ | refine T.skip ?_

abbrev ruleR (o : Option MTm) : List AV := match o with
 | some x => [aTm x, .i 1]
 | none => [aTm zeroE, .i 3]

end Go.Proofs.YtgpgcnahoieedaaGreat

namespace Go.Proofs.YtgpgcnahoieedaaGreat
attribute [-simp] Go.Av.astepJ Go.Av.relC Go.Av.relL Go.Av.relV Go.Av.relVs Go.Av.callJ
open Go Go.Av
attribute [local irreducible] T ACalls TX EX LX Draws Some_ ACallsX eTy eTm MTy.kind MTy.kids MTm.kind MTm.name MTm.num MTm.ty MTm.fr MTm.label MTm.kids
attribute [local simp] eTy_def eTm_def
set_option maxHeartbeats 16000000
set_option maxRecDepth 8000

theorem sum_take_le {α : Type} (f : α -> Nat) : ∀ (l : List α) (p : Nat), ((l.take p).map f).sum <= (l.map f).sum
 | [], p => by simp
 | x :: r, 0 => by simp
 | x :: r, p + 1 => by have := sum_take_le f r p; simp only [List.take_succ_cons, List.map_cons, List.sum_cons]; omega
def cntP (l : List MTy) (p : Nat) : Nat := ((l.take p).map cntM).sum
theorem types_yes (e : MTm) (hh : hasTyM e.kind = true) (hn : nTm e <= 1099511627776)
  (ih : ∀ u ∈ e.kids, ACalls Tryz.prog 50 [aTm u] [] (.c (.own 0 (typesM u).length)) [] [{ sz := 2, ety := 31, rows := (typesM u).map eTy, wr := true }]) :
  ACalls Tryz.prog 50 [aTm e] [] (.c (.own 0 ([e.ty] ++ typesS e.kids).length)) [] [{ sz := 2, ety := 31, rows := ([e.ty] ++ typesS e.kids).map eTy, wr := true }] := by
 obtain ⟨hnt, hnf, hnk, hnu⟩ := nTm_parts hn
 have h1 := ownType_ok e.ty hnt
 have h2 := hasType_ok e
 rw [hh] at h2
 have hsm : (typesS e.kids).length <= 1099511627777 := by have := (typesM_small e).2; rw [typesM_def] at this; simp only [List.length_append] at this; omega
 refine ACalls.of_body Tryz.func50 (by kernel_rfl) rfl (by kernel_rfl) (by simp [Tryz.ntmps50]) (by simp) ?_
 rw [Tryz.ntmps50]
 repeat' first | (refine aops_end (hK _ ?_); clear hK K) | (refine aops_go ?_; simp; (try (refine gen fun q hq => ?_; cases q <;> (try simp at hq) <;> (try (have hh : True := hq; clear hh hq))))) | (refine wpcall_pure rfl (h2) ?_; simp; (try (refine gen fun q hq => ?_; cases q <;> (try simp at hq) <;> (try (have hh : True := hq; clear hh hq))))) | (refine wpcall_pure rfl (h1) ?_; simp; (try (refine gen fun q hq => ?_; cases q <;> (try simp at hq) <;> (try (have hh : True := hq; clear hh hq))))) | refine T.r0 fun K hK => ?_ | refine T.r1 fun K hK => ?_ | refine T.ct rfl ?_ | refine T.seq ?_ | refine T.block ?_
 refine T.loopK (α := Nat × List (List CV) × List Arr) [2, 15, 16] (fun x => [(3, .c (.own 0 ([e.ty] ++ typesS (e.kids.take x.1)).length)), (17, .i x.1)]) (fun x => []) (fun x => x.2.1) (fun x _ => { sz := 2, ety := 31, rows := ([e.ty] ++ typesS (e.kids.take x.1)).map eTy, wr := true } :: x.2.2) (fun x => e.kids.length + 1 - x.1) (fun x => x.1 <= e.kids.length) (by simp; rfl) (fun x hx => ?_) (0, [], []) (by simp) (by simp) (by simp [typesS, eTy_def]) (by simp [typesS])
 obtain ⟨p, G, GA⟩ := x
 dsimp only at hx ⊢
 simp only [ups, List.set_cons_zero, List.set_cons_succ, List.cons_append, List.nil_append]
 by_cases hlt : p < e.kids.length
 ·obtain ⟨u, ht⟩ := get_lt hlt
  have htm : u ∈ e.kids := List.mem_of_getElem? ht
  have hgt : e.kids[p] = u := by rw [List.getElem?_eq_getElem hlt] at ht; exact Option.some.inj ht
  have hdr : e.kids.drop p = u :: e.kids.drop (p + 1) := by rw [List.drop_eq_getElem_cons hlt, hgt]
  have hu := ih u htm
  have htk : typesS (e.kids.take (p + 1)) = typesS (e.kids.take p) ++ typesM u := typesS_take ht
  have hle := typesS_le e.kids (p + 1)
  rw [htk, List.length_append] at hle
  generalize typesS (e.kids.take p) = Z at *
  generalize typesM u = tu at *
  repeat' first | (refine aops_end (hK _ ?_); clear hK K) | (refine aops_go ?_; simp [hlt, hgt]; (try simp (disch := omega) only [wrap64]); (try (refine gen fun q hq => ?_; cases q <;> (try simp [hlt, hgt] at hq) <;> (try (have hh : True := hq; clear hh hq))))) | (refine wpcall_own rfl (hu) ?_; simp [hlt, hgt]; (try simp (disch := omega) only [wrap64]); (try (refine gen fun q hq => ?_; cases q <;> (try simp [hlt, hgt] at hq) <;> (try (have hh : True := hq; clear hh hq))))) | (refine ⟨by omega, by omega, ?_⟩) | (refine ⟨(p + 1, _, GA ++ [{ sz := 2, ety := 31, rows := tu.map eTy, wr := true }]), by dsimp only; omega, by dsimp only; omega, rfl, ?_, ?_⟩ <;> simp (disch := omega) [wrap64, htk, eTy_def] <;> omega) | refine T.r0 fun K hK => ?_ | refine T.r1 fun K hK => ?_ | refine T.ct rfl ?_ | refine T.seq ?_ | refine T.block ?_ | refine T.skip ?_
 ·have hp' : p = e.kids.length := by omega
  subst hp'
  rw [List.take_length]
  repeat' first | (refine aops_end (hK _ ?_); clear hK K) | (refine aops_go ?_; simp [hlt]; (try (refine gen fun q hq => ?_; cases q <;> (try simp [hlt] at hq) <;> (try (have hh : True := hq; clear hh hq))))) | refine T.r0 fun K hK => ?_ | refine T.cf rfl ?_ | refine T.seq ?_ | refine T.exit ?_
  all_goals (refine T.ret (Done.own1 0 (Or.inr rfl) (ys := [_]) ?_ rfl ?_) <;> simp [resAs, Tryz.results50])

theorem types_no (e : MTm) (hh : hasTyM e.kind = false) (hn : nTm e <= 1099511627776)
  (ih : ∀ u ∈ e.kids, ACalls Tryz.prog 50 [aTm u] [] (.c (.own 0 (typesM u).length)) [] [{ sz := 2, ety := 31, rows := (typesM u).map eTy, wr := true }]) :
  ACalls Tryz.prog 50 [aTm e] [] (.c (.own 0 ([] ++ typesS e.kids).length)) [] [{ sz := 2, ety := 31, rows := ([] ++ typesS e.kids).map eTy, wr := true }] := by
 obtain ⟨hnt, hnf, hnk, hnu⟩ := nTm_parts hn
 have h1 := ownType_ok e.ty hnt
 have h2 := hasType_ok e
 rw [hh] at h2
 have hsm : (typesS e.kids).length <= 1099511627777 := by have := (typesM_small e).2; rw [typesM_def] at this; simp only [List.length_append] at this; omega
 refine ACalls.of_body Tryz.func50 (by kernel_rfl) rfl (by kernel_rfl) (by simp [Tryz.ntmps50]) (by simp) ?_
 rw [Tryz.ntmps50]
 repeat' first | (refine aops_end (hK _ ?_); clear hK K) | (refine aops_go ?_; simp; (try (refine gen fun q hq => ?_; cases q <;> (try simp at hq) <;> (try (have hh : True := hq; clear hh hq))))) | (refine wpcall_pure rfl (h2) ?_; simp; (try (refine gen fun q hq => ?_; cases q <;> (try simp at hq) <;> (try (have hh : True := hq; clear hh hq))))) | refine T.r0 fun K hK => ?_ | refine T.cf rfl ?_ | refine T.seq ?_ | refine T.block ?_ | refine T.skip ?_
 refine T.ownify 3 2 31 (by simp) ?_
 refine T.loopK (α := Nat × List (List CV) × List Arr) [2, 15, 16] (fun x => [(3, .c (.own 0 ([] ++ typesS (e.kids.take x.1)).length)), (17, .i x.1)]) (fun x => []) (fun x => x.2.1) (fun x _ => { sz := 2, ety := 31, rows := ([] ++ typesS (e.kids.take x.1)).map eTy, wr := true } :: x.2.2) (fun x => e.kids.length + 1 - x.1) (fun x => x.1 <= e.kids.length) (by simp; rfl) (fun x hx => ?_) (0, [], []) (by simp) (by simp) (by simp [typesS, eTy_def]) (by simp [typesS])
 obtain ⟨p, G, GA⟩ := x
 dsimp only at hx ⊢
 simp only [ups, List.set_cons_zero, List.set_cons_succ, List.cons_append, List.nil_append]
 by_cases hlt : p < e.kids.length
 ·obtain ⟨u, ht⟩ := get_lt hlt
  have htm : u ∈ e.kids := List.mem_of_getElem? ht
  have hgt : e.kids[p] = u := by rw [List.getElem?_eq_getElem hlt] at ht; exact Option.some.inj ht
  have hdr : e.kids.drop p = u :: e.kids.drop (p + 1) := by rw [List.drop_eq_getElem_cons hlt, hgt]
  have hu := ih u htm
  have htk : typesS (e.kids.take (p + 1)) = typesS (e.kids.take p) ++ typesM u := typesS_take ht
  have hle := typesS_le e.kids (p + 1)
  rw [htk, List.length_append] at hle
  generalize typesS (e.kids.take p) = Z at *
  generalize typesM u = tu at *
  repeat' first | (refine aops_end (hK _ ?_); clear hK K) | (refine aops_go ?_; simp [hlt, hgt]; (try simp (disch := omega) only [wrap64]); (try (refine gen fun q hq => ?_; cases q <;> (try simp [hlt, hgt] at hq) <;> (try (have hh : True := hq; clear hh hq))))) | (refine wpcall_own rfl (hu) ?_; simp [hlt, hgt]; (try simp (disch := omega) only [wrap64]); (try (refine gen fun q hq => ?_; cases q <;> (try simp [hlt, hgt] at hq) <;> (try (have hh : True := hq; clear hh hq))))) | (refine ⟨by omega, by omega, ?_⟩) | (refine ⟨(p + 1, _, GA ++ [{ sz := 2, ety := 31, rows := tu.map eTy, wr := true }]), by dsimp only; omega, by dsimp only; omega, rfl, ?_, ?_⟩ <;> simp (disch := omega) [wrap64, htk, eTy_def] <;> omega) | refine T.r0 fun K hK => ?_ | refine T.r1 fun K hK => ?_ | refine T.ct rfl ?_ | refine T.seq ?_ | refine T.block ?_ | refine T.skip ?_
 ·have hp' : p = e.kids.length := by omega
  subst hp'
  rw [List.take_length]
  repeat' first | (refine aops_end (hK _ ?_); clear hK K) | (refine aops_go ?_; simp [hlt]; (try (refine gen fun q hq => ?_; cases q <;> (try simp [hlt] at hq) <;> (try (have hh : True := hq; clear hh hq))))) | refine T.r0 fun K hK => ?_ | refine T.cf rfl ?_ | refine T.seq ?_ | refine T.exit ?_
  all_goals (refine T.ret (Done.own1 0 (Or.inr rfl) (ys := [_]) ?_ rfl ?_) <;> simp [resAs, Tryz.results50])

theorem types_own : ∀ (e : MTm), nTm e <= 1099511627776 -> ACalls Tryz.prog 50 [aTm e] [] (.c (.own 0 (typesM e).length)) [] [{ sz := 2, ety := 31, rows := (typesM e).map eTy, wr := true }] := by
 intro e
 induction e using MTm.ind with
 | h e ih =>
  intro hn
  obtain ⟨_, _, _, hnu⟩ := nTm_parts hn
  have ih' := fun u hu => ih u hu (hnu u hu)
  rw [typesM_def]
  cases hh : hasTyM e.kind with
  | true => rw [if_pos rfl]; exact types_yes e hh hn ih'
  | false => rw [if_neg (by simp)]; exact types_no e hh hn ih'

end Go.Proofs.YtgpgcnahoieedaaGreat

namespace Go.Proofs.YtgpgcnahoieedaaGreat
attribute [-simp] Go.Av.astepJ Go.Av.relC Go.Av.relL Go.Av.relV Go.Av.relVs Go.Av.callJ
open Go Go.Av
attribute [local irreducible] T ACalls TX EX LX Draws Some_ ACallsX eTy eTm MTy.kind MTy.kids MTm.kind MTm.name MTm.num MTm.ty MTm.fr MTm.label MTm.kids
attribute [local simp] eTy_def eTm_def
set_option maxHeartbeats 16000000
set_option maxRecDepth 8000
@[simp] theorem td_intS2 : td Tryz.prog 130 = some { ag := false, sz := 1, by_ := 24, zero := some [.nil], el := some 3, ar := none, fl := [], ik := none, isS := false, isB := false } := keep (by kernel_rfl)

end Go.Proofs.YtgpgcnahoieedaaGreat

namespace Go.Proofs.YtgpgcnahoieedaaGreat
attribute [-simp] Go.Av.astepJ Go.Av.relC Go.Av.relL Go.Av.relV Go.Av.relVs Go.Av.callJ
open Go Go.Av
attribute [local irreducible] T ACalls TX EX LX Draws Some_ ACallsX eTy eTm MTy.kind MTy.kids MTm.kind MTm.name MTm.num MTm.ty MTm.fr MTm.label MTm.kids
attribute [local simp] eTy_def eTm_def
set_option maxHeartbeats 16000000
set_option maxRecDepth 8000

def redM (e : MTm) : Int := if castValidM e = true then ((castsM e).length : Int) - (castsM (simpM e)).length else 0

abbrev tmOwn (e : MTm) : AV := .agg [.d (.i e.kind), .d (.str e.name), .d (.i e.num), .d (.i e.ty.kind), .d (.sl (e.ty.kids.map eTy)), .d (.i e.fr.kind), .d (.sl (e.fr.kids.map eTy)), .d (.i e.label), .own 0 e.kids.length]
def mixM (l : List MTm) (p : Nat) : List MTm := (l.map simpM).take p ++ l.drop p
end Go.Proofs.YtgpgcnahoieedaaGreat

namespace Go.Proofs.YtgpgcnahoieedaaGreat
attribute [-simp] Go.Av.astepJ Go.Av.relC Go.Av.relL Go.Av.relV Go.Av.relVs Go.Av.callJ
open Go Go.Av
attribute [local irreducible] T ACalls TX EX LX Draws Some_ ACallsX eTy eTm MTy.kind MTy.kids MTm.kind MTm.name MTm.num MTm.ty MTm.fr MTm.label MTm.kids
attribute [local simp] eTy_def eTm_def
set_option maxHeartbeats 16000000
set_option maxRecDepth 8000
attribute [local simp] Option.bind

abbrev stepR (p : MTm × Int × Int) : List AV := [aTm p.1, .i p.2.1, .i p.2.2]

abbrev runR (p : MTm × Int × Int × Int) : List AV := [aTm p.1, .i p.2.1, .i p.2.2.1, .i p.2.2.2]

end Go.Proofs.YtgpgcnahoieedaaGreat
