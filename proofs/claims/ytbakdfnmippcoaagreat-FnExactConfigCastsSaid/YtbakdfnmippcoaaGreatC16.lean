/- A part of the library of this seat: a value-semantic program logic over the model, plain models, and walks of functions. -/
import Derived.Test.YtbakdfnmippcoaaGreatC15
set_option linter.unusedVariables false
set_option linter.unusedSimpArgs false
namespace Go.Proofs.YtbakdfnmippcoaaGreat
attribute [-simp] Go.Av.astepJ Go.Av.relC Go.Av.relL Go.Av.relV Go.Av.relVs Go.Av.callJ
open Go Go.Av
attribute [local irreducible] T ACalls TX EX LX Draws Some_ ACallsX eTy eTm MTy.kind MTy.kids MTm.kind MTm.name MTm.num MTm.ty MTm.fr MTm.label MTm.kids
attribute [local simp] eTy_def eTm_def
set_option maxHeartbeats 16000000
set_option maxRecDepth 8000


end Go.Proofs.YtbakdfnmippcoaaGreat

namespace Go.Proofs.YtbakdfnmippcoaaGreat
attribute [-simp] Go.Av.astepJ Go.Av.relC Go.Av.relL Go.Av.relV Go.Av.relVs Go.Av.callJ
open Go Go.Av
attribute [local irreducible] T ACalls TX EX LX Draws Some_ ACallsX eTy eTm MTy.kind MTy.kids MTm.kind MTm.name MTm.num MTm.ty MTm.fr MTm.label MTm.kids
attribute [local simp] eTy_def eTm_def
set_option maxHeartbeats 16000000
set_option maxRecDepth 8000
attribute [local simp] Option.bind

abbrev ruleR (o : Option MTm) : List AV := match o with
  | some x => [aTm x, .i 1]
  | none => [aTm zeroE, .i 3]

end Go.Proofs.YtbakdfnmippcoaaGreat

namespace Go.Proofs.YtbakdfnmippcoaaGreat
attribute [-simp] Go.Av.astepJ Go.Av.relC Go.Av.relL Go.Av.relV Go.Av.relVs Go.Av.callJ
open Go Go.Av
attribute [local irreducible] T ACalls TX EX LX Draws Some_ ACallsX eTy eTm MTy.kind MTy.kids MTm.kind MTm.name MTm.num MTm.ty MTm.fr MTm.label MTm.kids
attribute [local simp] eTy_def eTm_def
set_option maxHeartbeats 16000000
set_option maxRecDepth 8000
attribute [local simp] Option.bind

end Go.Proofs.YtbakdfnmippcoaaGreat

namespace Go.Proofs.YtbakdfnmippcoaaGreat
attribute [-simp] Go.Av.astepJ Go.Av.relC Go.Av.relL Go.Av.relV Go.Av.relVs Go.Av.callJ
open Go Go.Av
attribute [local irreducible] T ACalls TX EX LX Draws Some_ ACallsX eTy eTm MTy.kind MTy.kids MTm.kind MTm.name MTm.num MTm.ty MTm.fr MTm.label MTm.kids
attribute [local simp] eTy_def eTm_def
set_option maxHeartbeats 16000000
set_option maxRecDepth 8000
attribute [local simp] Option.bind

end Go.Proofs.YtbakdfnmippcoaaGreat

namespace Go.Proofs.YtbakdfnmippcoaaGreat
attribute [-simp] Go.Av.astepJ Go.Av.relC Go.Av.relL Go.Av.relV Go.Av.relVs Go.Av.callJ
open Go Go.Av
attribute [local irreducible] T ACalls TX EX LX Draws Some_ ACallsX eTy eTm MTy.kind MTy.kids MTm.kind MTm.name MTm.num MTm.ty MTm.fr MTm.label MTm.kids
attribute [local simp] eTy_def eTm_def
set_option maxHeartbeats 16000000
set_option maxRecDepth 8000

theorem sum_take_le {α : Type} (f : α → Nat) : ∀ (l : List α) (p : Nat), ((l.take p).map f).sum ≤ (l.map f).sum
  | [], p => by simp
  | x :: r, 0 => by simp
  | x :: r, p + 1 => by have := sum_take_le f r p; simp only [List.take_succ_cons, List.map_cons, List.sum_cons]; omega
def cntP (l : List MTy) (p : Nat) : Nat := ((l.take p).map cntM).sum
theorem types_yes (e : MTm) (hh : hasTyM e.kind = true) (hn : nTm e ≤ 1099511627776)
    (ih : ∀ u ∈ e.kids, ACalls Tryz.prog 56 [aTm u] [] (.c (.own 0 (typesM u).length)) [] [{ sz := 2, ety := 34, rows := (typesM u).map eTy, wr := true }]) :
    ACalls Tryz.prog 56 [aTm e] [] (.c (.own 0 ([e.ty] ++ typesS e.kids).length)) [] [{ sz := 2, ety := 34, rows := ([e.ty] ++ typesS e.kids).map eTy, wr := true }] := by
  obtain ⟨hnt, hnf, hnk, hnu⟩ := nTm_parts hn
  have h1 := ownType_ok e.ty hnt
  have h2 := hasType_ok e
  rw [hh] at h2
  have hsm : (typesS e.kids).length ≤ 1099511627777 := by have := (typesM_small e).2; rw [typesM_def] at this; simp only [List.length_append] at this; omega
  refine ACalls.of_body Tryz.func56 (by kernel_rfl) rfl (by kernel_rfl) (by simp [Tryz.ntmps56]) (by simp) ?_
  rw [Tryz.ntmps56]
  repeat' first | (refine aops_end (hK _ ?_); clear hK K) | (refine aops_go ?_; simp; (try (refine gen fun q hq => ?_; cases q <;> (try simp at hq) <;> (try (have hh : True := hq; clear hh hq))))) | (refine wpcall_pure rfl (h2) ?_; simp; (try (refine gen fun q hq => ?_; cases q <;> (try simp at hq) <;> (try (have hh : True := hq; clear hh hq))))) | (refine wpcall_pure rfl (h1) ?_; simp; (try (refine gen fun q hq => ?_; cases q <;> (try simp at hq) <;> (try (have hh : True := hq; clear hh hq))))) | refine T.r0 fun K hK => ?_ | refine T.r1 fun K hK => ?_ | refine T.ct rfl ?_ | refine T.seq ?_ | refine T.block ?_
  refine T.loopK (α := Nat × List (List CV) × List Arr) [2, 15, 16] (fun x => [(3, .c (.own 0 ([e.ty] ++ typesS (e.kids.take x.1)).length)), (17, .i x.1)]) (fun x => []) (fun x => x.2.1) (fun x _ => { sz := 2, ety := 34, rows := ([e.ty] ++ typesS (e.kids.take x.1)).map eTy, wr := true } :: x.2.2) (fun x => e.kids.length + 1 - x.1) (fun x => x.1 ≤ e.kids.length) (by simp; rfl) (fun x hx => ?_) (0, [], []) (by simp) (by simp) (by simp [typesS, eTy_def]) (by simp [typesS])
  obtain ⟨p, G, GA⟩ := x
  dsimp only at hx ⊢
  simp only [ups, List.set_cons_zero, List.set_cons_succ, List.cons_append, List.nil_append]
  by_cases hlt : p < e.kids.length
  · obtain ⟨u, ht⟩ := get_lt hlt
    have htm : u ∈ e.kids := List.mem_of_getElem? ht
    have hgt : e.kids[p] = u := by rw [List.getElem?_eq_getElem hlt] at ht; exact Option.some.inj ht
    have hdr : e.kids.drop p = u :: e.kids.drop (p + 1) := by rw [List.drop_eq_getElem_cons hlt, hgt]
    have hu := ih u htm
    have htk : typesS (e.kids.take (p + 1)) = typesS (e.kids.take p) ++ typesM u := typesS_take ht
    have hle := typesS_le e.kids (p + 1)
    rw [htk, List.length_append] at hle
    generalize typesS (e.kids.take p) = Z at *
    generalize typesM u = tu at *
    repeat' first | (refine aops_end (hK _ ?_); clear hK K) | (refine aops_go ?_; simp [hlt, hgt]; (try simp (disch := omega) only [wrap64]); (try (refine gen fun q hq => ?_; cases q <;> (try simp [hlt, hgt] at hq) <;> (try (have hh : True := hq; clear hh hq))))) | (refine wpcall_own rfl (hu) ?_; simp [hlt, hgt]; (try simp (disch := omega) only [wrap64]); (try (refine gen fun q hq => ?_; cases q <;> (try simp [hlt, hgt] at hq) <;> (try (have hh : True := hq; clear hh hq))))) | (refine ⟨by omega, by omega, ?_⟩) | (refine ⟨(p + 1, _, GA ++ [{ sz := 2, ety := 34, rows := tu.map eTy, wr := true }]), by dsimp only; omega, by dsimp only; omega, rfl, ?_, ?_⟩ <;> simp (disch := omega) [wrap64, htk, eTy_def] <;> omega) | refine T.r0 fun K hK => ?_ | refine T.r1 fun K hK => ?_ | refine T.ct rfl ?_ | refine T.seq ?_ | refine T.block ?_ | refine T.skip ?_
  · have hp' : p = e.kids.length := by omega
    subst hp'
    rw [List.take_length]
    repeat' first | (refine aops_end (hK _ ?_); clear hK K) | (refine aops_go ?_; simp [hlt]; (try (refine gen fun q hq => ?_; cases q <;> (try simp [hlt] at hq) <;> (try (have hh : True := hq; clear hh hq))))) | refine T.r0 fun K hK => ?_ | refine T.cf rfl ?_ | refine T.seq ?_ | refine T.exit ?_
    all_goals (refine T.ret (Done.own1 0 (Or.inr rfl) (ys := [_]) ?_ rfl ?_) <;> simp [resAs, Tryz.results56])

theorem types_no (e : MTm) (hh : hasTyM e.kind = false) (hn : nTm e ≤ 1099511627776)
    (ih : ∀ u ∈ e.kids, ACalls Tryz.prog 56 [aTm u] [] (.c (.own 0 (typesM u).length)) [] [{ sz := 2, ety := 34, rows := (typesM u).map eTy, wr := true }]) :
    ACalls Tryz.prog 56 [aTm e] [] (.c (.own 0 ([] ++ typesS e.kids).length)) [] [{ sz := 2, ety := 34, rows := ([] ++ typesS e.kids).map eTy, wr := true }] := by
  obtain ⟨hnt, hnf, hnk, hnu⟩ := nTm_parts hn
  have h1 := ownType_ok e.ty hnt
  have h2 := hasType_ok e
  rw [hh] at h2
  have hsm : (typesS e.kids).length ≤ 1099511627777 := by have := (typesM_small e).2; rw [typesM_def] at this; simp only [List.length_append] at this; omega
  refine ACalls.of_body Tryz.func56 (by kernel_rfl) rfl (by kernel_rfl) (by simp [Tryz.ntmps56]) (by simp) ?_
  rw [Tryz.ntmps56]
  repeat' first | (refine aops_end (hK _ ?_); clear hK K) | (refine aops_go ?_; simp; (try (refine gen fun q hq => ?_; cases q <;> (try simp at hq) <;> (try (have hh : True := hq; clear hh hq))))) | (refine wpcall_pure rfl (h2) ?_; simp; (try (refine gen fun q hq => ?_; cases q <;> (try simp at hq) <;> (try (have hh : True := hq; clear hh hq))))) | refine T.r0 fun K hK => ?_ | refine T.cf rfl ?_ | refine T.seq ?_ | refine T.block ?_ | refine T.skip ?_
  refine T.ownify 3 2 34 (by simp) ?_
  refine T.loopK (α := Nat × List (List CV) × List Arr) [2, 15, 16] (fun x => [(3, .c (.own 0 ([] ++ typesS (e.kids.take x.1)).length)), (17, .i x.1)]) (fun x => []) (fun x => x.2.1) (fun x _ => { sz := 2, ety := 34, rows := ([] ++ typesS (e.kids.take x.1)).map eTy, wr := true } :: x.2.2) (fun x => e.kids.length + 1 - x.1) (fun x => x.1 ≤ e.kids.length) (by simp; rfl) (fun x hx => ?_) (0, [], []) (by simp) (by simp) (by simp [typesS, eTy_def]) (by simp [typesS])
  obtain ⟨p, G, GA⟩ := x
  dsimp only at hx ⊢
  simp only [ups, List.set_cons_zero, List.set_cons_succ, List.cons_append, List.nil_append]
  by_cases hlt : p < e.kids.length
  · obtain ⟨u, ht⟩ := get_lt hlt
    have htm : u ∈ e.kids := List.mem_of_getElem? ht
    have hgt : e.kids[p] = u := by rw [List.getElem?_eq_getElem hlt] at ht; exact Option.some.inj ht
    have hdr : e.kids.drop p = u :: e.kids.drop (p + 1) := by rw [List.drop_eq_getElem_cons hlt, hgt]
    have hu := ih u htm
    have htk : typesS (e.kids.take (p + 1)) = typesS (e.kids.take p) ++ typesM u := typesS_take ht
    have hle := typesS_le e.kids (p + 1)
    rw [htk, List.length_append] at hle
    generalize typesS (e.kids.take p) = Z at *
    generalize typesM u = tu at *
    repeat' first | (refine aops_end (hK _ ?_); clear hK K) | (refine aops_go ?_; simp [hlt, hgt]; (try simp (disch := omega) only [wrap64]); (try (refine gen fun q hq => ?_; cases q <;> (try simp [hlt, hgt] at hq) <;> (try (have hh : True := hq; clear hh hq))))) | (refine wpcall_own rfl (hu) ?_; simp [hlt, hgt]; (try simp (disch := omega) only [wrap64]); (try (refine gen fun q hq => ?_; cases q <;> (try simp [hlt, hgt] at hq) <;> (try (have hh : True := hq; clear hh hq))))) | (refine ⟨by omega, by omega, ?_⟩) | (refine ⟨(p + 1, _, GA ++ [{ sz := 2, ety := 34, rows := tu.map eTy, wr := true }]), by dsimp only; omega, by dsimp only; omega, rfl, ?_, ?_⟩ <;> simp (disch := omega) [wrap64, htk, eTy_def] <;> omega) | refine T.r0 fun K hK => ?_ | refine T.r1 fun K hK => ?_ | refine T.ct rfl ?_ | refine T.seq ?_ | refine T.block ?_ | refine T.skip ?_
  · have hp' : p = e.kids.length := by omega
    subst hp'
    rw [List.take_length]
    repeat' first | (refine aops_end (hK _ ?_); clear hK K) | (refine aops_go ?_; simp [hlt]; (try (refine gen fun q hq => ?_; cases q <;> (try simp [hlt] at hq) <;> (try (have hh : True := hq; clear hh hq))))) | refine T.r0 fun K hK => ?_ | refine T.cf rfl ?_ | refine T.seq ?_ | refine T.exit ?_
    all_goals (refine T.ret (Done.own1 0 (Or.inr rfl) (ys := [_]) ?_ rfl ?_) <;> simp [resAs, Tryz.results56])

theorem types_own : ∀ (e : MTm), nTm e ≤ 1099511627776 → ACalls Tryz.prog 56 [aTm e] [] (.c (.own 0 (typesM e).length)) [] [{ sz := 2, ety := 34, rows := (typesM e).map eTy, wr := true }] := by
  intro e
  induction e using MTm.ind with
  | h e ih =>
    intro hn
    obtain ⟨_, _, _, hnu⟩ := nTm_parts hn
    have ih' := fun u hu => ih u hu (hnu u hu)
    rw [typesM_def]
    cases hh : hasTyM e.kind with
    | true => rw [if_pos rfl]; exact types_yes e hh hn ih'
    | false => rw [if_neg (by simp)]; exact types_no e hh hn ih'

end Go.Proofs.YtbakdfnmippcoaaGreat

namespace Go.Proofs.YtbakdfnmippcoaaGreat
attribute [-simp] Go.Av.astepJ Go.Av.relC Go.Av.relL Go.Av.relV Go.Av.relVs Go.Av.callJ
open Go Go.Av
attribute [local irreducible] T ACalls TX EX LX Draws Some_ ACallsX eTy eTm MTy.kind MTy.kids MTm.kind MTm.name MTm.num MTm.ty MTm.fr MTm.label MTm.kids
attribute [local simp] eTy_def eTm_def
set_option maxHeartbeats 16000000
set_option maxRecDepth 8000
attribute [local simp] Option.bind

theorem retyped_yes (e : MTm) (hh : hasTyM e.kind = true) (t0 : MTy) (h0 : nTy t0 ≤ 1099511627776) (ts : List MTy) (hn : nTm e ≤ 1099511627776) (hts : ∀ t ∈ ts, nTy t ≤ 1099511627776) (hl : (typesS e.kids).length ≤ ts.length) (hl2 : ts.length ≤ 1099511627776)
    (ih : ∀ u ∈ e.kids, ∀ (ts : List MTy), (∀ t ∈ ts, nTy t ≤ 1099511627776) → (typesM u).length ≤ ts.length → ts.length ≤ 1099511627776 → ACalls Tryz.prog 81 [aTm u, .l (ts.map eTy)] [] (.tup [aTm (withM u ts), .l ((ts.drop (typesM u).length).map eTy)]) [] []) :
    ACalls Tryz.prog 81 [aTm e, .l (((t0 :: ts)).map eTy)] [] (.tup [aTm (.mk e.kind e.name e.num t0 e.fr e.label (withS e.kids ts)), .l ((ts.drop (typesS e.kids).length).map eTy)]) [] [] := by
  obtain ⟨hnt, hnf, hnk, hnu⟩ := nTm_parts hn
  have h1 := ownType_ok t0 h0
  have h2 := hasType_ok e
  rw [hh] at h2
  refine ACalls.of_body Tryz.func81 (by kernel_rfl) rfl (by kernel_rfl) (by simp [Tryz.ntmps81]) (by simp) ?_
  rw [Tryz.ntmps81]
  repeat' first | ((first | refine aops_end (hK _ ?_) | refine aopsF_end (hK _ ?_)); clear hK K) | ((first | refine aops_go ?_ | refine aopsF_go ?_); simp; (try (refine gen fun q hq => ?_; cases q <;> (try simp at hq) <;> (try (have hh : True := hq; clear hh hq))))) | (refine wpcall_pure rfl (h2) ?_; simp; (try (refine gen fun q hq => ?_; cases q <;> (try simp at hq) <;> (try (have hh : True := hq; clear hh hq))))) | (refine wpcall_pure rfl (h1) ?_; simp; (try (refine gen fun q hq => ?_; cases q <;> (try simp at hq) <;> (try (have hh : True := hq; clear hh hq))))) | refine T.rdF1 (id := 4) mixed (fun _ => false) [7] [5] 8 [2] (by kernel_rfl) fun K hK => ?_ | refine T.r0 fun K hK => ?_ | (refine ⟨by omega, ?_⟩) | refine T.ct rfl ?_ | refine T.seq ?_ | refine T.block ?_
  refine T.ownifyObj 2 8 9 37 (row := [.d (.i e.kind), .d (.str e.name), .d (.i e.num), .d (.i (t0).kind), .d (.sl ((t0).kids.map eTy)), .d (.i e.fr.kind), .d (.sl (e.fr.kids.map eTy)), .d (.i e.label), .nil]) rfl rfl ?_
  refine T.loopK (α := Nat × List (List CV)) [4, 5, 6, 23, 24] (fun x => [(1, .l ((ts.drop (typesS (e.kids.take x.1)).length).map eTy)), (25, .i x.1)]) (fun x => [(2, [.d (.i e.kind), .d (.str e.name), .d (.i e.num), .d (.i (t0).kind), .d (.sl ((t0).kids.map eTy)), .d (.i e.fr.kind), .d (.sl (e.fr.kids.map eTy)), .d (.i e.label), .own 0 x.1])]) (fun x => x.2)
    (fun x _ => [{ sz := 9, ety := 37, rows := ((withS e.kids ts).take x.1).map eTm, wr := true }]) (fun x => e.kids.length + 1 - x.1) (fun x => x.1 ≤ e.kids.length) (by simp; rfl) (fun x hx => ?_) (0, []) (by simp) (by simp) (by simp) (by simp [typesS, List.take_of_length_le])
  obtain ⟨p, G⟩ := x
  dsimp only at hx ⊢
  simp only [ups, List.set_cons_zero, List.set_cons_succ, List.cons_append, List.nil_append]
  have hwl : (withS e.kids ts).length = e.kids.length := withS_len _ _
  by_cases hlt : p < e.kids.length
  · obtain ⟨u, ht⟩ := get_lt hlt
    have htm : u ∈ e.kids := List.mem_of_getElem? ht
    have hgt : e.kids[p] = u := by rw [List.getElem?_eq_getElem hlt] at ht; exact Option.some.inj ht
    have hdr : e.kids.drop p = u :: e.kids.drop (p + 1) := by rw [List.drop_eq_getElem_cons hlt, hgt]
    have hle := typesS_le e.kids (p + 1)
    rw [typesS_take ht, List.length_append] at hle
    have hu := ih u htm (ts.drop (typesS (e.kids.take p)).length) (fun t h => hts t (List.mem_of_mem_drop h)) (by simp; omega) (by simp; omega)
    have hwt := withS_take ts ht
    have htk : ts.drop (typesS (e.kids.take (p + 1))).length = (ts.drop (typesS (e.kids.take p)).length).drop (typesM u).length := by rw [typesS_take ht, List.drop_drop, List.length_append]
    generalize (ts.drop (typesS (e.kids.take p)).length) = T1 at *
    generalize (withM u T1) = wu at *
    generalize (withS e.kids ts) = Z at *
    generalize T1.drop (typesM u).length = T2 at *
    have hmin : min p e.kids.length = p := by omega
    repeat' first | (refine aops_end (hK _ ?_); clear hK K) | (refine aops_go ?_; simp [hlt, hgt, hmin, hwl]; (try simp (disch := omega) only [wrap64]); (try (refine gen fun q hq => ?_; cases q <;> (try simp [hlt, hgt, hmin, hwl] at hq) <;> (try (have hh : True := hq; clear hh hq))))) | (refine wpcall_pure rfl (hu) ?_; simp [hlt, hgt, hmin, hwl]; (try simp (disch := omega) only [wrap64]); (try (refine gen fun q hq => ?_; cases q <;> (try simp [hlt, hgt, hmin, hwl] at hq) <;> (try (have hh : True := hq; clear hh hq))))) | (refine ⟨by omega, by omega, ?_⟩) | (refine ⟨(p + 1, _), by dsimp only; omega, by dsimp only; omega, rfl, ?_, ?_⟩ <;> simp (disch := omega) [wrap64, hwt, htk, eTm_def]) | refine T.r0 fun K hK => ?_ | refine T.r1 fun K hK => ?_ | refine T.ct rfl ?_ | refine T.seq ?_ | refine T.block ?_ | refine T.skip ?_
  · have hp' : p = e.kids.length := by omega
    subst hp'
    rw [List.take_length, List.take_of_length_le (by omega)]
    repeat' first | (refine aops_end (hK _ ?_); clear hK K) | (refine aops_go ?_; simp [hlt]; (try (refine gen fun q hq => ?_; cases q <;> (try simp [hlt] at hq) <;> (try (have hh : True := hq; clear hh hq))))) | (refine T.ret (Done.tup (Or.inr rfl) ?_) <;> simp [resAs, Tryz.results81, eTm_def, hwl] <;> omega) | refine T.r0 fun K hK => ?_ | refine T.cf rfl ?_ | refine T.seq ?_ | refine T.exit ?_

theorem retyped_no (e : MTm) (hh : hasTyM e.kind = false) (t0 : MTy) (h0 : nTy t0 ≤ 1099511627776) (ts : List MTy) (hn : nTm e ≤ 1099511627776) (hts : ∀ t ∈ ts, nTy t ≤ 1099511627776) (hl : (typesS e.kids).length ≤ ts.length) (hl2 : ts.length ≤ 1099511627776)
    (ih : ∀ u ∈ e.kids, ∀ (ts : List MTy), (∀ t ∈ ts, nTy t ≤ 1099511627776) → (typesM u).length ≤ ts.length → ts.length ≤ 1099511627776 → ACalls Tryz.prog 81 [aTm u, .l (ts.map eTy)] [] (.tup [aTm (withM u ts), .l ((ts.drop (typesM u).length).map eTy)]) [] []) :
    ACalls Tryz.prog 81 [aTm e, .l ((ts).map eTy)] [] (.tup [aTm (.mk e.kind e.name e.num e.ty e.fr e.label (withS e.kids ts)), .l ((ts.drop (typesS e.kids).length).map eTy)]) [] [] := by
  obtain ⟨hnt, hnf, hnk, hnu⟩ := nTm_parts hn
  have h1 := ownType_ok t0 h0
  have h2 := hasType_ok e
  rw [hh] at h2
  refine ACalls.of_body Tryz.func81 (by kernel_rfl) rfl (by kernel_rfl) (by simp [Tryz.ntmps81]) (by simp) ?_
  rw [Tryz.ntmps81]
  repeat' first | (refine aops_end (hK _ ?_); clear hK K) | (refine aops_go ?_; simp; (try (refine gen fun q hq => ?_; cases q <;> (try simp at hq) <;> (try (have hh : True := hq; clear hh hq))))) | (refine wpcall_pure rfl (h2) ?_; simp; (try (refine gen fun q hq => ?_; cases q <;> (try simp at hq) <;> (try (have hh : True := hq; clear hh hq))))) | refine T.r0 fun K hK => ?_ | refine T.cf rfl ?_ | refine T.seq ?_ | refine T.block ?_ | refine T.skip ?_
  refine T.ownifyObj 2 8 9 37 (row := [.d (.i e.kind), .d (.str e.name), .d (.i e.num), .d (.i (e.ty).kind), .d (.sl ((e.ty).kids.map eTy)), .d (.i e.fr.kind), .d (.sl (e.fr.kids.map eTy)), .d (.i e.label), .nil]) rfl rfl ?_
  refine T.loopK (α := Nat × List (List CV)) [4, 5, 6, 23, 24] (fun x => [(1, .l ((ts.drop (typesS (e.kids.take x.1)).length).map eTy)), (25, .i x.1)]) (fun x => [(2, [.d (.i e.kind), .d (.str e.name), .d (.i e.num), .d (.i (e.ty).kind), .d (.sl ((e.ty).kids.map eTy)), .d (.i e.fr.kind), .d (.sl (e.fr.kids.map eTy)), .d (.i e.label), .own 0 x.1])]) (fun x => x.2)
    (fun x _ => [{ sz := 9, ety := 37, rows := ((withS e.kids ts).take x.1).map eTm, wr := true }]) (fun x => e.kids.length + 1 - x.1) (fun x => x.1 ≤ e.kids.length) (by simp; rfl) (fun x hx => ?_) (0, []) (by simp) (by simp) (by simp) (by simp [typesS, List.take_of_length_le])
  obtain ⟨p, G⟩ := x
  dsimp only at hx ⊢
  simp only [ups, List.set_cons_zero, List.set_cons_succ, List.cons_append, List.nil_append]
  have hwl : (withS e.kids ts).length = e.kids.length := withS_len _ _
  by_cases hlt : p < e.kids.length
  · obtain ⟨u, ht⟩ := get_lt hlt
    have htm : u ∈ e.kids := List.mem_of_getElem? ht
    have hgt : e.kids[p] = u := by rw [List.getElem?_eq_getElem hlt] at ht; exact Option.some.inj ht
    have hdr : e.kids.drop p = u :: e.kids.drop (p + 1) := by rw [List.drop_eq_getElem_cons hlt, hgt]
    have hle := typesS_le e.kids (p + 1)
    rw [typesS_take ht, List.length_append] at hle
    have hu := ih u htm (ts.drop (typesS (e.kids.take p)).length) (fun t h => hts t (List.mem_of_mem_drop h)) (by simp; omega) (by simp; omega)
    have hwt := withS_take ts ht
    have htk : ts.drop (typesS (e.kids.take (p + 1))).length = (ts.drop (typesS (e.kids.take p)).length).drop (typesM u).length := by rw [typesS_take ht, List.drop_drop, List.length_append]
    generalize (ts.drop (typesS (e.kids.take p)).length) = T1 at *
    generalize (withM u T1) = wu at *
    generalize (withS e.kids ts) = Z at *
    generalize T1.drop (typesM u).length = T2 at *
    have hmin : min p e.kids.length = p := by omega
    repeat' first | (refine aops_end (hK _ ?_); clear hK K) | (refine aops_go ?_; simp [hlt, hgt, hmin, hwl]; (try simp (disch := omega) only [wrap64]); (try (refine gen fun q hq => ?_; cases q <;> (try simp [hlt, hgt, hmin, hwl] at hq) <;> (try (have hh : True := hq; clear hh hq))))) | (refine wpcall_pure rfl (hu) ?_; simp [hlt, hgt, hmin, hwl]; (try simp (disch := omega) only [wrap64]); (try (refine gen fun q hq => ?_; cases q <;> (try simp [hlt, hgt, hmin, hwl] at hq) <;> (try (have hh : True := hq; clear hh hq))))) | (refine ⟨by omega, by omega, ?_⟩) | (refine ⟨(p + 1, _), by dsimp only; omega, by dsimp only; omega, rfl, ?_, ?_⟩ <;> simp (disch := omega) [wrap64, hwt, htk, eTm_def]) | refine T.r0 fun K hK => ?_ | refine T.r1 fun K hK => ?_ | refine T.ct rfl ?_ | refine T.seq ?_ | refine T.block ?_ | refine T.skip ?_
  · have hp' : p = e.kids.length := by omega
    subst hp'
    rw [List.take_length, List.take_of_length_le (by omega)]
    repeat' first | (refine aops_end (hK _ ?_); clear hK K) | (refine aops_go ?_; simp [hlt]; (try (refine gen fun q hq => ?_; cases q <;> (try simp [hlt] at hq) <;> (try (have hh : True := hq; clear hh hq))))) | (refine T.ret (Done.tup (Or.inr rfl) ?_) <;> simp [resAs, Tryz.results81, eTm_def, hwl] <;> omega) | refine T.r0 fun K hK => ?_ | refine T.cf rfl ?_ | refine T.seq ?_ | refine T.exit ?_

theorem retyped_ok : ∀ (e : MTm), nTm e ≤ 1099511627776 → ∀ (ts : List MTy), (∀ t ∈ ts, nTy t ≤ 1099511627776) → (typesM e).length ≤ ts.length → ts.length ≤ 1099511627776 → ACalls Tryz.prog 81 [aTm e, .l (ts.map eTy)] [] (.tup [aTm (withM e ts), .l ((ts.drop (typesM e).length).map eTy)]) [] [] := by
  intro e
  induction e using MTm.ind with
  | h e ih =>
    intro hn ts hts hl hl2
    obtain ⟨_, _, _, hnu⟩ := nTm_parts hn
    have ih' := fun u hu => ih u hu (hnu u hu)
    rw [typesM_def] at hl ⊢
    rw [withM_def]
    cases hh : hasTyM e.kind with
    | true =>
      rw [hh] at hl
      simp only [if_true, List.length_append, List.length_singleton] at hl ⊢
      match ts, hl, hts, hl2 with
      | t0 :: r, hl, hts, hl2 =>
        simp only [List.length_cons] at hl hl2
        have := retyped_yes e hh t0 (hts t0 (by simp)) r hn (fun t h => hts t (by simp [h])) (by omega) (by omega) ih'
        rw [Nat.add_comm 1, List.drop_succ_cons, List.drop_succ_cons, List.drop_zero, List.headD_cons]
        exact this
      | [], hl, _, _ => simp at hl
    | false =>
      rw [hh] at hl
      simp only [Bool.false_eq_true, if_false, List.nil_append] at hl ⊢
      exact retyped_no e hh zeroT (by simp [nTy_mk, nTyS]) ts hn hts hl hl2 ih'

end Go.Proofs.YtbakdfnmippcoaaGreat

namespace Go.Proofs.YtbakdfnmippcoaaGreat
attribute [-simp] Go.Av.astepJ Go.Av.relC Go.Av.relL Go.Av.relV Go.Av.relVs Go.Av.callJ
open Go Go.Av
attribute [local irreducible] T ACalls TX EX LX Draws Some_ ACallsX eTy eTm MTy.kind MTy.kids MTm.kind MTm.name MTm.num MTm.ty MTm.fr MTm.label MTm.kids
attribute [local simp] eTy_def eTm_def
set_option maxHeartbeats 16000000
set_option maxRecDepth 8000
@[simp] theorem td_intS2 : td Tryz.prog 29 = some { ag := false, sz := 1, by_ := 24, zero := some [.nil], el := some 3, ar := none, fl := [], ik := none, isS := false, isB := false } := keep (by kernel_rfl)

theorem casts_small : ∀ (e : MTm), (castsM e).length ≤ nTm e + 1 := by
  intro e
  induction e using MTm.ind with
  | h e ih =>
    have hs : ∀ l : List MTm, (∀ u ∈ l, (castsM u).length ≤ nTm u + 1) → (castsS l).length ≤ nTmS l := by
      intro l
      induction l with
      | nil => intro _; simp [castsS]
      | cons u r ihr =>
        intro h
        have h1 := h u (by simp)
        have h2 := ihr fun v hv => h v (by simp [hv])
        simp only [castsS, List.length_append, nTmS]
        omega
    have h1 := hs e.kids ih
    rw [castsM_def, nTm_def]
    split
    · simp only [List.length_append, List.length_singleton]; omega
    · simp only [List.nil_append]; omega

theorem casts_yes (e : MTm) (hh : e.kind = 14) (hn : nTm e ≤ 1073741824)
    (ih : ∀ u ∈ e.kids, ACalls Tryz.prog 25 [aTm u] [] (.c (.own 0 (castsM u).length)) [] [{ sz := 9, ety := 37, rows := (castsM u).map eTm, wr := true }]) :
    ACalls Tryz.prog 25 [aTm e] [] (.c (.own 0 ([e] ++ castsS e.kids).length)) [] [{ sz := 9, ety := 37, rows := ([e] ++ castsS e.kids).map eTm, wr := true }] := by
  obtain ⟨hnt, hnf, hnk, hnu⟩ := nTm_parts (show nTm e ≤ 1099511627776 by omega)
  have hsm : (castsS e.kids).length ≤ 1073741825 := by have := casts_small e; rw [castsM_def] at this; simp only [List.length_append] at this; omega
  refine ACalls.of_body Tryz.func25 (by kernel_rfl) rfl (by kernel_rfl) (by simp [Tryz.ntmps25]) (by simp) ?_
  rw [Tryz.ntmps25]
  repeat' first | ((first | refine aops_end (hK _ ?_) | refine aopsD_end (hK _ ?_) | refine aopsF_end (hK _ ?_)); clear hK K) | ((first | refine aops_go ?_ | refine aopsD_go ?_ | refine aopsF_go ?_); simp [hh]; (try (refine gen fun q hq => ?_; cases q <;> (try simp [hh] at hq) <;> (try (have hh : True := hq; clear hh hq))))) | (refine ⟨by omega, by omega, ?_⟩) | refine T.r0 fun K hK => ?_ | refine T.r1 fun K hK => ?_ | (refine ⟨by omega, ?_⟩) | refine T.ct rfl ?_ | refine T.cf rfl ?_ | refine T.seq ?_ | refine T.block ?_ | refine T.skip ?_ | refine T.exit ?_
  refine T.loopK (α := Nat × List (List CV) × List Arr) [2, 14, 15] (fun x => [(3, .c (.own 0 ([e] ++ castsS (e.kids.take x.1)).length)), (16, .i x.1)]) (fun x => []) (fun x => x.2.1) (fun x _ => { sz := 9, ety := 37, rows := ([e] ++ castsS (e.kids.take x.1)).map eTm, wr := true } :: x.2.2) (fun x => e.kids.length + 1 - x.1) (fun x => x.1 ≤ e.kids.length) (by simp; rfl) (fun x hx => ?_) (0, [], []) (by simp) (by simp) (by simp [castsS, eTm_def, hh]) (by simp [castsS])
  obtain ⟨p, G, GA⟩ := x
  dsimp only at hx ⊢
  simp only [ups, List.set_cons_zero, List.set_cons_succ, List.cons_append, List.nil_append]
  by_cases hlt : p < e.kids.length
  · obtain ⟨u, ht⟩ := get_lt hlt
    have htm : u ∈ e.kids := List.mem_of_getElem? ht
    have hgt : e.kids[p] = u := by rw [List.getElem?_eq_getElem hlt] at ht; exact Option.some.inj ht
    have hdr : e.kids.drop p = u :: e.kids.drop (p + 1) := by rw [List.drop_eq_getElem_cons hlt, hgt]
    have hu := ih u htm
    have htk : castsS (e.kids.take (p + 1)) = castsS (e.kids.take p) ++ castsM u := castsS_take ht
    have hle := castsS_le e.kids (p + 1)
    rw [htk, List.length_append] at hle
    generalize castsS (e.kids.take p) = Z at *
    generalize castsM u = tu at *
    repeat' first | ((first | refine aops_end (hK _ ?_) | refine aopsD_end (hK _ ?_) | refine aopsF_end (hK _ ?_)); clear hK K) | ((first | refine aops_go ?_ | refine aopsD_go ?_ | refine aopsF_go ?_); simp [hlt, hgt]; (try simp (disch := omega) only [wrap64]); (try (refine gen fun q hq => ?_; cases q <;> (try simp [hlt, hgt] at hq) <;> (try (have hh : True := hq; clear hh hq))))) | (refine wpcall_own rfl (hu) ?_; simp [hlt, hgt]; (try simp (disch := omega) only [wrap64]); (try (refine gen fun q hq => ?_; cases q <;> (try simp [hlt, hgt] at hq) <;> (try (have hh : True := hq; clear hh hq))))) | (refine ⟨by omega, by omega, ?_⟩) | (refine ⟨(p + 1, _, GA ++ [{ sz := 9, ety := 37, rows := tu.map eTm, wr := true }]), by dsimp only; omega, by dsimp only; omega, rfl, ?_, ?_⟩ <;> simp (disch := omega) [wrap64, htk, eTm_def] <;> omega) | refine T.r0 fun K hK => ?_ | refine T.r1 fun K hK => ?_ | (refine ⟨by omega, ?_⟩) | refine T.ct rfl ?_ | refine T.cf rfl ?_ | refine T.seq ?_ | refine T.block ?_ | refine T.skip ?_ | refine T.exit ?_
  · have hp' : p = e.kids.length := by omega
    subst hp'
    rw [List.take_length]
    repeat' first | ((first | refine aops_end (hK _ ?_) | refine aopsD_end (hK _ ?_) | refine aopsF_end (hK _ ?_)); clear hK K) | ((first | refine aops_go ?_ | refine aopsD_go ?_ | refine aopsF_go ?_); simp [hlt]; (try (refine gen fun q hq => ?_; cases q <;> (try simp [hlt] at hq) <;> (try (have hh : True := hq; clear hh hq))))) | refine T.r0 fun K hK => ?_ | refine T.r1 fun K hK => ?_ | (refine ⟨by omega, ?_⟩) | refine T.ct rfl ?_ | refine T.cf rfl ?_ | refine T.seq ?_ | refine T.block ?_ | refine T.skip ?_ | refine T.exit ?_
    all_goals (refine T.ret (Done.own1 0 (Or.inr rfl) (ys := [_]) ?_ rfl ?_) <;> simp [resAs, Tryz.results25])

theorem casts_no (e : MTm) (hh : ¬ e.kind = 14) (hn : nTm e ≤ 1073741824)
    (ih : ∀ u ∈ e.kids, ACalls Tryz.prog 25 [aTm u] [] (.c (.own 0 (castsM u).length)) [] [{ sz := 9, ety := 37, rows := (castsM u).map eTm, wr := true }]) :
    ACalls Tryz.prog 25 [aTm e] [] (.c (.own 0 ([] ++ castsS e.kids).length)) [] [{ sz := 9, ety := 37, rows := ([] ++ castsS e.kids).map eTm, wr := true }] := by
  obtain ⟨hnt, hnf, hnk, hnu⟩ := nTm_parts (show nTm e ≤ 1099511627776 by omega)
  have hsm : (castsS e.kids).length ≤ 1073741825 := by have := casts_small e; rw [castsM_def] at this; simp only [List.length_append] at this; omega
  refine ACalls.of_body Tryz.func25 (by kernel_rfl) rfl (by kernel_rfl) (by simp [Tryz.ntmps25]) (by simp) ?_
  rw [Tryz.ntmps25]
  repeat' first | ((first | refine aops_end (hK _ ?_) | refine aopsD_end (hK _ ?_) | refine aopsF_end (hK _ ?_)); clear hK K) | ((first | refine aops_go ?_ | refine aopsD_go ?_ | refine aopsF_go ?_); simp [hh]; (try (refine gen fun q hq => ?_; cases q <;> (try simp [hh] at hq) <;> (try (have hh : True := hq; clear hh hq))))) | (refine ⟨by omega, by omega, ?_⟩) | refine T.r0 fun K hK => ?_ | refine T.r1 fun K hK => ?_ | (refine ⟨by omega, ?_⟩) | refine T.ct rfl ?_ | refine T.cf rfl ?_ | refine T.seq ?_ | refine T.block ?_ | refine T.skip ?_ | refine T.exit ?_
  refine T.ownify 3 9 37 (by simp) ?_
  refine T.loopK (α := Nat × List (List CV) × List Arr) [2, 14, 15] (fun x => [(3, .c (.own 0 ([] ++ castsS (e.kids.take x.1)).length)), (16, .i x.1)]) (fun x => []) (fun x => x.2.1) (fun x _ => { sz := 9, ety := 37, rows := ([] ++ castsS (e.kids.take x.1)).map eTm, wr := true } :: x.2.2) (fun x => e.kids.length + 1 - x.1) (fun x => x.1 ≤ e.kids.length) (by simp; rfl) (fun x hx => ?_) (0, [], []) (by simp) (by simp) (by simp [castsS, eTm_def, hh]) (by simp [castsS])
  obtain ⟨p, G, GA⟩ := x
  dsimp only at hx ⊢
  simp only [ups, List.set_cons_zero, List.set_cons_succ, List.cons_append, List.nil_append]
  by_cases hlt : p < e.kids.length
  · obtain ⟨u, ht⟩ := get_lt hlt
    have htm : u ∈ e.kids := List.mem_of_getElem? ht
    have hgt : e.kids[p] = u := by rw [List.getElem?_eq_getElem hlt] at ht; exact Option.some.inj ht
    have hdr : e.kids.drop p = u :: e.kids.drop (p + 1) := by rw [List.drop_eq_getElem_cons hlt, hgt]
    have hu := ih u htm
    have htk : castsS (e.kids.take (p + 1)) = castsS (e.kids.take p) ++ castsM u := castsS_take ht
    have hle := castsS_le e.kids (p + 1)
    rw [htk, List.length_append] at hle
    generalize castsS (e.kids.take p) = Z at *
    generalize castsM u = tu at *
    repeat' first | ((first | refine aops_end (hK _ ?_) | refine aopsD_end (hK _ ?_) | refine aopsF_end (hK _ ?_)); clear hK K) | ((first | refine aops_go ?_ | refine aopsD_go ?_ | refine aopsF_go ?_); simp [hlt, hgt]; (try simp (disch := omega) only [wrap64]); (try (refine gen fun q hq => ?_; cases q <;> (try simp [hlt, hgt] at hq) <;> (try (have hh : True := hq; clear hh hq))))) | (refine wpcall_own rfl (hu) ?_; simp [hlt, hgt]; (try simp (disch := omega) only [wrap64]); (try (refine gen fun q hq => ?_; cases q <;> (try simp [hlt, hgt] at hq) <;> (try (have hh : True := hq; clear hh hq))))) | (refine ⟨by omega, by omega, ?_⟩) | (refine ⟨(p + 1, _, GA ++ [{ sz := 9, ety := 37, rows := tu.map eTm, wr := true }]), by dsimp only; omega, by dsimp only; omega, rfl, ?_, ?_⟩ <;> simp (disch := omega) [wrap64, htk, eTm_def] <;> omega) | refine T.r0 fun K hK => ?_ | refine T.r1 fun K hK => ?_ | (refine ⟨by omega, ?_⟩) | refine T.ct rfl ?_ | refine T.cf rfl ?_ | refine T.seq ?_ | refine T.block ?_ | refine T.skip ?_ | refine T.exit ?_
  · have hp' : p = e.kids.length := by omega
    subst hp'
    rw [List.take_length]
    repeat' first | ((first | refine aops_end (hK _ ?_) | refine aopsD_end (hK _ ?_) | refine aopsF_end (hK _ ?_)); clear hK K) | ((first | refine aops_go ?_ | refine aopsD_go ?_ | refine aopsF_go ?_); simp [hlt]; (try (refine gen fun q hq => ?_; cases q <;> (try simp [hlt] at hq) <;> (try (have hh : True := hq; clear hh hq))))) | refine T.r0 fun K hK => ?_ | refine T.r1 fun K hK => ?_ | (refine ⟨by omega, ?_⟩) | refine T.ct rfl ?_ | refine T.cf rfl ?_ | refine T.seq ?_ | refine T.block ?_ | refine T.skip ?_ | refine T.exit ?_
    all_goals (refine T.ret (Done.own1 0 (Or.inr rfl) (ys := [_]) ?_ rfl ?_) <;> simp [resAs, Tryz.results25])

theorem casts_own : ∀ (e : MTm), nTm e ≤ 1073741824 → ACalls Tryz.prog 25 [aTm e] [] (.c (.own 0 (castsM e).length)) [] [{ sz := 9, ety := 37, rows := (castsM e).map eTm, wr := true }] := by
  intro e
  induction e using MTm.ind with
  | h e ih =>
    intro hn
    have ih' := fun u hu => ih u hu (by have := nTmS_mem hu; rw [nTm_def] at hn; omega)
    rw [castsM_def]
    by_cases hh : e.kind = 14
    · rw [if_pos hh]; exact casts_yes e hh hn ih'
    · rw [if_neg hh]; exact casts_no e hh hn ih'

end Go.Proofs.YtbakdfnmippcoaaGreat

namespace Go.Proofs.YtbakdfnmippcoaaGreat
attribute [-simp] Go.Av.astepJ Go.Av.relC Go.Av.relL Go.Av.relV Go.Av.relVs Go.Av.callJ
open Go Go.Av
attribute [local irreducible] T ACalls TX EX LX Draws Some_ ACallsX eTy eTm MTy.kind MTy.kids MTm.kind MTm.name MTm.num MTm.ty MTm.fr MTm.label MTm.kids
attribute [local simp] eTy_def eTm_def
set_option maxHeartbeats 16000000
set_option maxRecDepth 8000

theorem casts_pure (e : MTm) (hn : nTm e ≤ 1073741824) : ACalls Tryz.prog 25 [aTm e] [] (.l ((castsM e).map eTm)) [] [] :=
  (casts_own e hn).sealed (by simp)

def redM (e : MTm) : Int := if castValidM e = true then ((castsM e).length : Int) - (castsM (simpM e)).length else 0

theorem casts_drop {l : List MTm} {p : Nat} {u : MTm} (h : l[p]? = some u) : ((castsS (l.take (p + 1))).length : Int) = (castsS (l.take p)).length + (castsM u).length := by
  rw [castsS_take h, List.length_append]; omega

theorem l11Casts_yes (e : MTm) (hh : e.kind = 14) (hsm : (castsS e.kids).length ≤ 1099511627777) (hlen : e.kids.length ≤ 1099511627776) (ih : ∀ u ∈ e.kids, ACalls Tryz.prog 19 [aTm u] [] (.i (castsM u).length) [] []) :
    ACalls Tryz.prog 19 [aTm e] [] (.i (1 + (castsS e.kids).length)) [] [] := by
  refine ACalls.of_body Tryz.func19 (by kernel_rfl) rfl (by kernel_rfl) (by simp [Tryz.ntmps19]) (by simp) ?_
  rw [Tryz.ntmps19]
  repeat' first | ((first | refine aops_end (hK _ ?_) | refine aopsD_end (hK _ ?_) | refine aopsF_end (hK _ ?_)); clear hK K) | ((first | refine aops_go ?_ | refine aopsD_go ?_ | refine aopsF_go ?_); simp [hh]; (try (refine gen fun q hq => ?_; cases q <;> (try simp [hh] at hq) <;> (try (have hh : True := hq; clear hh hq))))) | refine T.r0 fun K hK => ?_ | refine T.r1 fun K hK => ?_ | (refine ⟨by omega, ?_⟩) | refine T.ct rfl ?_ | refine T.cf rfl ?_ | refine T.seq ?_ | refine T.block ?_ | refine T.skip ?_ | refine T.exit ?_
  refine T.loopK (α := Nat) [1, 2] (fun x => [(3, .i (1 + (castsS (e.kids.take x)).length)), (4, .i x)]) (fun x => []) (fun x => []) (fun x A => A) (fun x => e.kids.length + 1 - x) (fun x => x ≤ e.kids.length) (by simp; rfl) (fun x hx => ?_) 0 (by simp) (by simp) (by simp [castsS]) (by simp [castsS])
  dsimp only at hx ⊢
  simp only [ups, List.set_cons_zero, List.set_cons_succ, List.cons_append, List.nil_append, List.append_nil]
  by_cases hlt : x < e.kids.length
  · obtain ⟨u, ht⟩ := get_lt hlt
    have htm : u ∈ e.kids := List.mem_of_getElem? ht
    have hgt : e.kids[x] = u := by rw [List.getElem?_eq_getElem hlt] at ht; exact Option.some.inj ht
    have hdr : e.kids.drop x = u :: e.kids.drop (x + 1) := by rw [List.drop_eq_getElem_cons hlt, hgt]
    have hu := ih u htm
    have htk := casts_drop ht
    have hle := castsS_le e.kids (x + 1)
    generalize (castsS (e.kids.take x)).length = Z at *
    generalize (castsM u).length = tu at *
    repeat' first | ((first | refine aops_end (hK _ ?_) | refine aopsD_end (hK _ ?_) | refine aopsF_end (hK _ ?_)); clear hK K) | ((first | refine aops_go ?_ | refine aopsD_go ?_ | refine aopsF_go ?_); simp [hlt, hgt]; (try simp (disch := omega) only [wrap64]); (try (refine gen fun q hq => ?_; cases q <;> (try simp [hlt, hgt] at hq) <;> (try (have hh : True := hq; clear hh hq))))) | (refine wpcall_pure rfl (hu) ?_; simp [hlt, hgt]; (try simp (disch := omega) only [wrap64]); (try (refine gen fun q hq => ?_; cases q <;> (try simp [hlt, hgt] at hq) <;> (try (have hh : True := hq; clear hh hq))))) | (refine ⟨x + 1, by dsimp only; omega, by dsimp only; omega, rfl, ?_, ?_⟩ <;> simp (disch := omega) [wrap64, htk, Int.add_assoc]) | refine T.r0 fun K hK => ?_ | refine T.r1 fun K hK => ?_ | (refine ⟨by omega, ?_⟩) | refine T.ct rfl ?_ | refine T.cf rfl ?_ | refine T.seq ?_ | refine T.block ?_ | refine T.skip ?_ | refine T.exit ?_
  · have hp' : x = e.kids.length := by omega
    subst hp'
    rw [List.take_length]
    repeat' first | ((first | refine aops_end (hK _ ?_) | refine aopsD_end (hK _ ?_) | refine aopsF_end (hK _ ?_)); clear hK K) | ((first | refine aops_go ?_ | refine aopsD_go ?_ | refine aopsF_go ?_); simp [hlt]; (try (refine gen fun q hq => ?_; cases q <;> (try simp [hlt] at hq) <;> (try (have hh : True := hq; clear hh hq))))) | (refine T.ret (Done.data (Or.inr rfl) ?_ ?_) <;> simp [Tryz.results19] <;> omega) | refine T.r0 fun K hK => ?_ | refine T.r1 fun K hK => ?_ | (refine ⟨by omega, ?_⟩) | refine T.ct rfl ?_ | refine T.cf rfl ?_ | refine T.seq ?_ | refine T.block ?_ | refine T.skip ?_ | refine T.exit ?_

theorem l11Casts_no (e : MTm) (hh : ¬ e.kind = 14) (hsm : (castsS e.kids).length ≤ 1099511627777) (hlen : e.kids.length ≤ 1099511627776) (ih : ∀ u ∈ e.kids, ACalls Tryz.prog 19 [aTm u] [] (.i (castsM u).length) [] []) :
    ACalls Tryz.prog 19 [aTm e] [] (.i (0 + (castsS e.kids).length)) [] [] := by
  refine ACalls.of_body Tryz.func19 (by kernel_rfl) rfl (by kernel_rfl) (by simp [Tryz.ntmps19]) (by simp) ?_
  rw [Tryz.ntmps19]
  repeat' first | ((first | refine aops_end (hK _ ?_) | refine aopsD_end (hK _ ?_) | refine aopsF_end (hK _ ?_)); clear hK K) | ((first | refine aops_go ?_ | refine aopsD_go ?_ | refine aopsF_go ?_); simp [hh]; (try (refine gen fun q hq => ?_; cases q <;> (try simp [hh] at hq) <;> (try (have hh : True := hq; clear hh hq))))) | refine T.r0 fun K hK => ?_ | refine T.r1 fun K hK => ?_ | (refine ⟨by omega, ?_⟩) | refine T.ct rfl ?_ | refine T.cf rfl ?_ | refine T.seq ?_ | refine T.block ?_ | refine T.skip ?_ | refine T.exit ?_
  refine T.loopK (α := Nat) [1, 2] (fun x => [(3, .i (0 + (castsS (e.kids.take x)).length)), (4, .i x)]) (fun x => []) (fun x => []) (fun x A => A) (fun x => e.kids.length + 1 - x) (fun x => x ≤ e.kids.length) (by simp; rfl) (fun x hx => ?_) 0 (by simp) (by simp) (by simp [castsS]) (by simp [castsS])
  dsimp only at hx ⊢
  simp only [ups, List.set_cons_zero, List.set_cons_succ, List.cons_append, List.nil_append, List.append_nil]
  by_cases hlt : x < e.kids.length
  · obtain ⟨u, ht⟩ := get_lt hlt
    have htm : u ∈ e.kids := List.mem_of_getElem? ht
    have hgt : e.kids[x] = u := by rw [List.getElem?_eq_getElem hlt] at ht; exact Option.some.inj ht
    have hdr : e.kids.drop x = u :: e.kids.drop (x + 1) := by rw [List.drop_eq_getElem_cons hlt, hgt]
    have hu := ih u htm
    have htk := casts_drop ht
    have hle := castsS_le e.kids (x + 1)
    generalize (castsS (e.kids.take x)).length = Z at *
    generalize (castsM u).length = tu at *
    repeat' first | ((first | refine aops_end (hK _ ?_) | refine aopsD_end (hK _ ?_) | refine aopsF_end (hK _ ?_)); clear hK K) | ((first | refine aops_go ?_ | refine aopsD_go ?_ | refine aopsF_go ?_); simp [hlt, hgt]; (try simp (disch := omega) only [wrap64]); (try (refine gen fun q hq => ?_; cases q <;> (try simp [hlt, hgt] at hq) <;> (try (have hh : True := hq; clear hh hq))))) | (refine wpcall_pure rfl (hu) ?_; simp [hlt, hgt]; (try simp (disch := omega) only [wrap64]); (try (refine gen fun q hq => ?_; cases q <;> (try simp [hlt, hgt] at hq) <;> (try (have hh : True := hq; clear hh hq))))) | (refine ⟨x + 1, by dsimp only; omega, by dsimp only; omega, rfl, ?_, ?_⟩ <;> simp (disch := omega) [wrap64, htk, Int.add_assoc]) | refine T.r0 fun K hK => ?_ | refine T.r1 fun K hK => ?_ | (refine ⟨by omega, ?_⟩) | refine T.ct rfl ?_ | refine T.cf rfl ?_ | refine T.seq ?_ | refine T.block ?_ | refine T.skip ?_ | refine T.exit ?_
  · have hp' : x = e.kids.length := by omega
    subst hp'
    rw [List.take_length]
    repeat' first | ((first | refine aops_end (hK _ ?_) | refine aopsD_end (hK _ ?_) | refine aopsF_end (hK _ ?_)); clear hK K) | ((first | refine aops_go ?_ | refine aopsD_go ?_ | refine aopsF_go ?_); simp [hlt]; (try (refine gen fun q hq => ?_; cases q <;> (try simp [hlt] at hq) <;> (try (have hh : True := hq; clear hh hq))))) | (refine T.ret (Done.data (Or.inr rfl) ?_ ?_) <;> simp [Tryz.results19] <;> omega) | refine T.r0 fun K hK => ?_ | refine T.r1 fun K hK => ?_ | (refine ⟨by omega, ?_⟩) | refine T.ct rfl ?_ | refine T.cf rfl ?_ | refine T.seq ?_ | refine T.block ?_ | refine T.skip ?_ | refine T.exit ?_

theorem l11Casts_ok : ∀ (e : MTm), nTm e ≤ 1073741824 → ACalls Tryz.prog 19 [aTm e] [] (.i (castsM e).length) [] [] := by
  intro e
  induction e using MTm.ind with
  | h e ih =>
    intro hn
    obtain ⟨_, _, hlen, hnu⟩ := nTm_parts (show nTm e ≤ 1099511627776 by omega)
    have hnu' : ∀ u ∈ e.kids, nTm u ≤ 1073741824 := fun u hu => by have := nTmS_mem hu; rw [nTm_def] at hn; omega
    have hsm : (castsM e).length ≤ 1099511627777 := by have := casts_small e; omega
    rw [castsM_def, List.length_append] at hsm ⊢
    have ih' := fun u hu => ih u hu (hnu' u hu)
    by_cases hh : e.kind = 14
    · rw [if_pos hh] at hsm ⊢
      have := l11Casts_yes e hh (by omega) (by omega) ih'
      simpa [List.length_singleton] using this
    · rw [if_neg hh] at hsm ⊢
      have := l11Casts_no e hh (by omega) (by omega) ih'
      simpa using this

/-- A copy whose operands the caller may change. -/
abbrev tmOwn (e : MTm) : AV := .agg [.d (.i e.kind), .d (.str e.name), .d (.i e.num), .d (.i e.ty.kind), .d (.sl (e.ty.kids.map eTy)), .d (.i e.fr.kind), .d (.sl (e.fr.kids.map eTy)), .d (.i e.label), .own 0 e.kids.length]
/-- The operands, simplified as_ far as_ a place. -/
def mixM (l : List MTm) (p : Nat) : List MTm := (l.map simpM).take p ++ l.drop p
end Go.Proofs.YtbakdfnmippcoaaGreat
