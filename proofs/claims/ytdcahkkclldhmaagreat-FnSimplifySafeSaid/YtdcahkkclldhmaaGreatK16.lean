/- A part of the library of this seat: a value-semantic program logic over the model, plain models, and walks of functions. -/
import Derived.Test.YtdcahkkclldhmaaGreatK15
set_option linter.unusedVariables false
set_option linter.unusedSimpArgs false
namespace Go.Proofs.YtdcahkkclldhmaaGreat
open Go Go.Av
attribute [local irreducible] T ACalls TX EX LX Draws Some_ ACallsX eTy eTm MTy.kind MTy.kids MTm.kind MTm.name MTm.num MTm.ty MTm.fr MTm.label MTm.kids
attribute [local simp] eTy_def eTm_def
set_option maxHeartbeats 16000000
set_option maxRecDepth 8000


end Go.Proofs.YtdcahkkclldhmaaGreat

namespace Go.Proofs.YtdcahkkclldhmaaGreat
open Go Go.Av
attribute [local irreducible] T ACalls TX EX LX Draws Some_ ACallsX eTy eTm MTy.kind MTy.kids MTm.kind MTm.name MTm.num MTm.ty MTm.fr MTm.label MTm.kids
attribute [local simp] eTy_def eTm_def
set_option maxHeartbeats 16000000
set_option maxRecDepth 8000

theorem sum_take_le {α : Type} (f : α → Nat) : ∀ (l : List α) (p : Nat), ((l.take p).map f).sum ≤ (l.map f).sum
  | [], p => by simp
  | x :: r, 0 => by simp
  | x :: r, p + 1 => by have := sum_take_le f r p; simp only [List.take_succ_cons, List.map_cons, List.sum_cons]; omega
theorem sum_take_one {α : Type} (f : α → Nat) {l : List α} {p : Nat} {u : α} (h : l[p]? = some u) : ((l.take (p + 1)).map f).sum = ((l.take p).map f).sum + f u := by
  rw [List.take_add_one, h]; simp
def cntP (l : List MTy) (p : Nat) : Nat := ((l.take p).map cntM).sum
end Go.Proofs.YtdcahkkclldhmaaGreat

namespace Go.Proofs.YtdcahkkclldhmaaGreat
open Go Go.Av
attribute [local irreducible] T ACalls TX EX LX Draws Some_ ACallsX eTy eTm MTy.kind MTy.kids MTm.kind MTm.name MTm.num MTm.ty MTm.fr MTm.label MTm.kids
attribute [local simp] eTy_def eTm_def
set_option maxHeartbeats 16000000
set_option maxRecDepth 8000
@[simp] theorem td_uint : td Tryz.prog 82 = some { ag := false, sz := 1, by_ := 8, zero := some [.d (.int .u64 0)], el := none, ar := none, fl := [], ik := some .u64, isS := false, isB := false } := keep (by kernel_rfl)
@[simp] theorem td_intS2 : td Tryz.prog 33 = some { ag := false, sz := 1, by_ := 24, zero := some [.nil], el := some 3, ar := none, fl := [], ik := none, isS := false, isB := false } := keep (by kernel_rfl)

theorem casts_small : ∀ (e : MTm), (castsM e).length ≤ nTm e + 1 := by
  intro e
  induction e using MTm.ind with
  | h e ih =>
    have hs : ∀ l : List MTm, (∀ u ∈ l, (castsM u).length ≤ nTm u + 1) → (castsS l).length ≤ nTmS l := by
      intro l
      induction l with
      | nil => intro _; simp [castsS]
      | cons u r ihr =>
        intro h
        have h1 := h u (by simp)
        have h2 := ihr fun v hv => h v (by simp [hv])
        simp only [castsS, List.length_append, nTmS]
        omega
    have h1 := hs e.kids ih
    rw [castsM_def, nTm_def]
    split
    · simp only [List.length_append, List.length_singleton]; omega
    · simp only [List.nil_append]; omega

theorem casts_yes (e : MTm) (hh : e.kind = 14) (hn : nTm e ≤ 1073741824)
    (ih : ∀ u ∈ e.kids, ACalls Tryz.prog 30 [aTm u] [] (.c (.own 0 (castsM u).length)) [] [{ sz := 9, ety := 28, rows := (castsM u).map eTm, wr := true }]) :
    ACalls Tryz.prog 30 [aTm e] [] (.c (.own 0 ([e] ++ castsS e.kids).length)) [] [{ sz := 9, ety := 28, rows := ([e] ++ castsS e.kids).map eTm, wr := true }] := by
  obtain ⟨hnt, hnf, hnk, hnu⟩ := nTm_parts (show nTm e ≤ 1099511627776 by omega)
  have hsm : (castsS e.kids).length ≤ 1073741825 := by have := casts_small e; rw [castsM_def] at this; simp only [List.length_append] at this; omega
  refine ACalls.of_body Tryz.func30 (by kernel_rfl) rfl (by kernel_rfl) (by simp [Tryz.ntmps30]) (by simp) ?_
  rw [Tryz.ntmps30]
  repeat' first | ((first | refine aops_end (hK _ ?_) | refine aopsD_end (hK _ ?_) | refine aopsF_end (hK _ ?_)); clear hK K) | ((first | refine aops_go ?_ | refine aopsD_go ?_ | refine aopsF_go ?_); simp [hh]; (try (refine gen fun q hq => ?_; cases q <;> (try simp [hh] at hq) <;> (try (have hh : True := hq; clear hh hq))))) | (refine ⟨by omega, by omega, ?_⟩) | refine T.r0 fun K hK => ?_ | refine T.r1 fun K hK => ?_ | (refine ⟨by omega, ?_⟩) | refine T.ct rfl ?_ | refine T.cf rfl ?_ | refine T.seq ?_ | refine T.block ?_ | refine T.skip ?_ | refine T.exit ?_
  refine T.loopK (α := Nat × List (List CV) × List Arr) [2, 14, 15] (fun x => [(3, .c (.own 0 ([e] ++ castsS (e.kids.take x.1)).length)), (16, .i x.1)]) (fun x => []) (fun x => x.2.1) (fun x _ => { sz := 9, ety := 28, rows := ([e] ++ castsS (e.kids.take x.1)).map eTm, wr := true } :: x.2.2) (fun x => e.kids.length + 1 - x.1) (fun x => x.1 ≤ e.kids.length) (by simp; rfl) (fun x hx => ?_) (0, [], []) (by simp) (by simp) (by simp [castsS, eTm_def, hh]) (by simp [castsS])
  obtain ⟨p, G, GA⟩ := x
  dsimp only at hx ⊢
  simp only [ups, List.set_cons_zero, List.set_cons_succ, List.cons_append, List.nil_append]
  by_cases hlt : p < e.kids.length
  · obtain ⟨u, ht⟩ := get_lt hlt
    have htm : u ∈ e.kids := List.mem_of_getElem? ht
    have hgt : e.kids[p] = u := by rw [List.getElem?_eq_getElem hlt] at ht; exact Option.some.inj ht
    have hdr : e.kids.drop p = u :: e.kids.drop (p + 1) := by rw [List.drop_eq_getElem_cons hlt, hgt]
    have hu := ih u htm
    have htk : castsS (e.kids.take (p + 1)) = castsS (e.kids.take p) ++ castsM u := castsS_take ht
    have hle := castsS_le e.kids (p + 1)
    rw [htk, List.length_append] at hle
    generalize castsS (e.kids.take p) = Z at *
    generalize castsM u = tu at *
    repeat' first | ((first | refine aops_end (hK _ ?_) | refine aopsD_end (hK _ ?_) | refine aopsF_end (hK _ ?_)); clear hK K) | ((first | refine aops_go ?_ | refine aopsD_go ?_ | refine aopsF_go ?_); simp [hlt, hgt]; (try simp (disch := omega) only [wrap64]); (try (refine gen fun q hq => ?_; cases q <;> (try simp [hlt, hgt] at hq) <;> (try (have hh : True := hq; clear hh hq))))) | (refine wpcall_own rfl (hu) ?_; simp [hlt, hgt]; (try simp (disch := omega) only [wrap64]); (try (refine gen fun q hq => ?_; cases q <;> (try simp [hlt, hgt] at hq) <;> (try (have hh : True := hq; clear hh hq))))) | (refine ⟨by omega, by omega, ?_⟩) | (refine ⟨(p + 1, _, GA ++ [{ sz := 9, ety := 28, rows := tu.map eTm, wr := true }]), by dsimp only; omega, by dsimp only; omega, rfl, ?_, ?_⟩ <;> simp (disch := omega) [wrap64, htk, eTm_def] <;> omega) | refine T.r0 fun K hK => ?_ | refine T.r1 fun K hK => ?_ | (refine ⟨by omega, ?_⟩) | refine T.ct rfl ?_ | refine T.cf rfl ?_ | refine T.seq ?_ | refine T.block ?_ | refine T.skip ?_ | refine T.exit ?_
  · have hp' : p = e.kids.length := by omega
    subst hp'
    rw [List.take_length]
    repeat' first | ((first | refine aops_end (hK _ ?_) | refine aopsD_end (hK _ ?_) | refine aopsF_end (hK _ ?_)); clear hK K) | ((first | refine aops_go ?_ | refine aopsD_go ?_ | refine aopsF_go ?_); simp [hlt]; (try (refine gen fun q hq => ?_; cases q <;> (try simp [hlt] at hq) <;> (try (have hh : True := hq; clear hh hq))))) | refine T.r0 fun K hK => ?_ | refine T.r1 fun K hK => ?_ | (refine ⟨by omega, ?_⟩) | refine T.ct rfl ?_ | refine T.cf rfl ?_ | refine T.seq ?_ | refine T.block ?_ | refine T.skip ?_ | refine T.exit ?_
    all_goals (refine T.ret (Done.own1 0 (Or.inr rfl) (ys := [_]) ?_ rfl ?_) <;> simp [resAs, Tryz.results30])

theorem casts_no (e : MTm) (hh : ¬ e.kind = 14) (hn : nTm e ≤ 1073741824)
    (ih : ∀ u ∈ e.kids, ACalls Tryz.prog 30 [aTm u] [] (.c (.own 0 (castsM u).length)) [] [{ sz := 9, ety := 28, rows := (castsM u).map eTm, wr := true }]) :
    ACalls Tryz.prog 30 [aTm e] [] (.c (.own 0 ([] ++ castsS e.kids).length)) [] [{ sz := 9, ety := 28, rows := ([] ++ castsS e.kids).map eTm, wr := true }] := by
  obtain ⟨hnt, hnf, hnk, hnu⟩ := nTm_parts (show nTm e ≤ 1099511627776 by omega)
  have hsm : (castsS e.kids).length ≤ 1073741825 := by have := casts_small e; rw [castsM_def] at this; simp only [List.length_append] at this; omega
  refine ACalls.of_body Tryz.func30 (by kernel_rfl) rfl (by kernel_rfl) (by simp [Tryz.ntmps30]) (by simp) ?_
  rw [Tryz.ntmps30]
  repeat' first | ((first | refine aops_end (hK _ ?_) | refine aopsD_end (hK _ ?_) | refine aopsF_end (hK _ ?_)); clear hK K) | ((first | refine aops_go ?_ | refine aopsD_go ?_ | refine aopsF_go ?_); simp [hh]; (try (refine gen fun q hq => ?_; cases q <;> (try simp [hh] at hq) <;> (try (have hh : True := hq; clear hh hq))))) | (refine ⟨by omega, by omega, ?_⟩) | refine T.r0 fun K hK => ?_ | refine T.r1 fun K hK => ?_ | (refine ⟨by omega, ?_⟩) | refine T.ct rfl ?_ | refine T.cf rfl ?_ | refine T.seq ?_ | refine T.block ?_ | refine T.skip ?_ | refine T.exit ?_
  refine T.ownify 3 9 28 (by simp) ?_
  refine T.loopK (α := Nat × List (List CV) × List Arr) [2, 14, 15] (fun x => [(3, .c (.own 0 ([] ++ castsS (e.kids.take x.1)).length)), (16, .i x.1)]) (fun x => []) (fun x => x.2.1) (fun x _ => { sz := 9, ety := 28, rows := ([] ++ castsS (e.kids.take x.1)).map eTm, wr := true } :: x.2.2) (fun x => e.kids.length + 1 - x.1) (fun x => x.1 ≤ e.kids.length) (by simp; rfl) (fun x hx => ?_) (0, [], []) (by simp) (by simp) (by simp [castsS, eTm_def, hh]) (by simp [castsS])
  obtain ⟨p, G, GA⟩ := x
  dsimp only at hx ⊢
  simp only [ups, List.set_cons_zero, List.set_cons_succ, List.cons_append, List.nil_append]
  by_cases hlt : p < e.kids.length
  · obtain ⟨u, ht⟩ := get_lt hlt
    have htm : u ∈ e.kids := List.mem_of_getElem? ht
    have hgt : e.kids[p] = u := by rw [List.getElem?_eq_getElem hlt] at ht; exact Option.some.inj ht
    have hdr : e.kids.drop p = u :: e.kids.drop (p + 1) := by rw [List.drop_eq_getElem_cons hlt, hgt]
    have hu := ih u htm
    have htk : castsS (e.kids.take (p + 1)) = castsS (e.kids.take p) ++ castsM u := castsS_take ht
    have hle := castsS_le e.kids (p + 1)
    rw [htk, List.length_append] at hle
    generalize castsS (e.kids.take p) = Z at *
    generalize castsM u = tu at *
    repeat' first | ((first | refine aops_end (hK _ ?_) | refine aopsD_end (hK _ ?_) | refine aopsF_end (hK _ ?_)); clear hK K) | ((first | refine aops_go ?_ | refine aopsD_go ?_ | refine aopsF_go ?_); simp [hlt, hgt]; (try simp (disch := omega) only [wrap64]); (try (refine gen fun q hq => ?_; cases q <;> (try simp [hlt, hgt] at hq) <;> (try (have hh : True := hq; clear hh hq))))) | (refine wpcall_own rfl (hu) ?_; simp [hlt, hgt]; (try simp (disch := omega) only [wrap64]); (try (refine gen fun q hq => ?_; cases q <;> (try simp [hlt, hgt] at hq) <;> (try (have hh : True := hq; clear hh hq))))) | (refine ⟨by omega, by omega, ?_⟩) | (refine ⟨(p + 1, _, GA ++ [{ sz := 9, ety := 28, rows := tu.map eTm, wr := true }]), by dsimp only; omega, by dsimp only; omega, rfl, ?_, ?_⟩ <;> simp (disch := omega) [wrap64, htk, eTm_def] <;> omega) | refine T.r0 fun K hK => ?_ | refine T.r1 fun K hK => ?_ | (refine ⟨by omega, ?_⟩) | refine T.ct rfl ?_ | refine T.cf rfl ?_ | refine T.seq ?_ | refine T.block ?_ | refine T.skip ?_ | refine T.exit ?_
  · have hp' : p = e.kids.length := by omega
    subst hp'
    rw [List.take_length]
    repeat' first | ((first | refine aops_end (hK _ ?_) | refine aopsD_end (hK _ ?_) | refine aopsF_end (hK _ ?_)); clear hK K) | ((first | refine aops_go ?_ | refine aopsD_go ?_ | refine aopsF_go ?_); simp [hlt]; (try (refine gen fun q hq => ?_; cases q <;> (try simp [hlt] at hq) <;> (try (have hh : True := hq; clear hh hq))))) | refine T.r0 fun K hK => ?_ | refine T.r1 fun K hK => ?_ | (refine ⟨by omega, ?_⟩) | refine T.ct rfl ?_ | refine T.cf rfl ?_ | refine T.seq ?_ | refine T.block ?_ | refine T.skip ?_ | refine T.exit ?_
    all_goals (refine T.ret (Done.own1 0 (Or.inr rfl) (ys := [_]) ?_ rfl ?_) <;> simp [resAs, Tryz.results30])

theorem casts_own : ∀ (e : MTm), nTm e ≤ 1073741824 → ACalls Tryz.prog 30 [aTm e] [] (.c (.own 0 (castsM e).length)) [] [{ sz := 9, ety := 28, rows := (castsM e).map eTm, wr := true }] := by
  intro e
  induction e using MTm.ind with
  | h e ih =>
    intro hn
    have ih' := fun u hu => ih u hu (by have := nTmS_mem hu; rw [nTm_def] at hn; omega)
    rw [castsM_def]
    by_cases hh : e.kind = 14
    · rw [if_pos hh]; exact casts_yes e hh hn ih'
    · rw [if_neg hh]; exact casts_no e hh hn ih'

theorem wrap_u8_0 : IntKind.u8.wrap 0 = 0 := by decide
theorem wrap_i64_0 : IntKind.i64.wrap 0 = 0 := by decide
theorem Len64_0 : ACalls Tryz.prog 113 [.c (.d (.int .u64 0))] [] (.i 0) [] [] := by
  refine ACalls.of_body Tryz.func113 (by kernel_rfl) rfl (by kernel_rfl) (by simp [Tryz.ntmps113]) (by simp) ?_
  rw [Tryz.ntmps113]
  repeat' first | ((first | refine aops_end (hK _ ?_) | refine aopsD_end (hK _ ?_) | refine aopsF_end (hK _ ?_)); clear hK K) | ((first | refine aops_go ?_ | refine aopsD_go ?_ | refine aopsF_go ?_); simp [wrap_u8_0, wrap_i64_0]) | (refine T.ret (Done.data (Or.inr rfl) ?_ ?_) <;> simp [Tryz.results113, wrap_i64_0] <;> omega) | refine T.r0 fun K hK => ?_ | refine T.r1 fun K hK => ?_ | (refine ⟨by omega, ?_⟩) | refine T.ct rfl ?_ | refine T.cf rfl ?_ | refine T.seq ?_ | refine T.block ?_ | refine T.skip ?_ | refine T.exit ?_

theorem Len_0 : ACalls Tryz.prog 63 [.c (.d (.int .u64 0))] [] (.i 0) [] [] := by
  refine ACalls.of_body Tryz.func63 (by kernel_rfl) rfl (by kernel_rfl) (by simp [Tryz.ntmps63]) (by simp) ?_
  rw [Tryz.ntmps63]
  repeat' first | ((first | refine aops_end (hK _ ?_) | refine aopsD_end (hK _ ?_) | refine aopsF_end (hK _ ?_)); clear hK K) | ((first | refine aops_go ?_ | refine aopsD_go ?_ | refine aopsF_go ?_); simp) | (refine wpcall_pure rfl (Len64_0) ?_; simp) | (refine T.ret (Done.data (Or.inr rfl) ?_ ?_) <;> simp [Tryz.results63] <;> omega) | refine T.r0 fun K hK => ?_ | refine T.r1 fun K hK => ?_ | (refine ⟨by omega, ?_⟩) | refine T.ct rfl ?_ | refine T.cf rfl ?_ | refine T.seq ?_ | refine T.block ?_ | refine T.skip ?_ | refine T.exit ?_

theorem insSort_0 : ACalls Tryz.prog 103 [.l [], .i 0, .i 0] [] (.tup []) [] [] := by
  refine ACalls.of_body Tryz.func103 (by kernel_rfl) rfl (by kernel_rfl) (by simp [Tryz.ntmps103]) (by simp) ?_
  rw [Tryz.ntmps103]
  repeat' first | ((first | refine aops_end (hK _ ?_) | refine aopsD_end (hK _ ?_) | refine aopsF_end (hK _ ?_)); clear hK K) | ((first | refine aops_go ?_ | refine aopsD_go ?_ | refine aopsF_go ?_); simp; (try simp (disch := omega) only [wrap64])) | refine T.rd (id := 4) mixed (fun _ => false) [] (by kernel_rfl) fun K hK => ?_ | refine T.rd1 (id := 4) mixed (fun _ => false) [] (by kernel_rfl) fun K hK => ?_ | refine T.rd (id := 6) mixed (fun _ => false) [15, 17] (by kernel_rfl) fun K hK => ?_ | refine T.rd1 (id := 6) mixed (fun _ => false) [15, 17] (by kernel_rfl) fun K hK => ?_ | refine T.r0 fun K hK => ?_ | refine T.r1 fun K hK => ?_ | (refine ⟨by omega, ?_⟩) | refine T.ct rfl ?_ | refine T.cf rfl ?_ | refine T.seq ?_ | refine T.block ?_ | refine T.skip ?_ | refine T.exit ?_
  refine T.loopK (α := Unit) [0, 1, 2] (fun x => [(6, .i 1)]) (fun x => []) (fun x => []) (fun x A => A) (fun x => 0) (fun x => True) (by simp; rfl) (fun x hx => ?_) () trivial (by simp) (by simp) (by simp)
  simp only [ups, List.set_cons_zero, List.set_cons_succ, List.cons_append, List.nil_append, List.append_nil]
  repeat' first | ((first | refine aops_end (hK _ ?_) | refine aopsD_end (hK _ ?_) | refine aopsF_end (hK _ ?_)); clear hK K) | ((first | refine aops_go ?_ | refine aopsD_go ?_ | refine aopsF_go ?_); simp; (try simp (disch := omega) only [wrap64])) | refine T.rd (id := 4) mixed (fun _ => false) [] (by kernel_rfl) fun K hK => ?_ | refine T.rd1 (id := 4) mixed (fun _ => false) [] (by kernel_rfl) fun K hK => ?_ | refine T.rd (id := 6) mixed (fun _ => false) [15, 17] (by kernel_rfl) fun K hK => ?_ | refine T.rd1 (id := 6) mixed (fun _ => false) [15, 17] (by kernel_rfl) fun K hK => ?_ | refine T.r0 fun K hK => ?_ | refine T.r1 fun K hK => ?_ | (refine ⟨by omega, ?_⟩) | refine T.ct rfl ?_ | refine T.cf rfl ?_ | refine T.seq ?_ | refine T.block ?_ | refine T.skip ?_ | refine T.exit ?_
  all_goals (refine Done.g (ys := []) (Or.inl rfl) ?_ rfl ?_ <;> simp [resAs, Tryz.results103])

theorem pdq_0 (l : Int) : ACalls Tryz.prog 62 [.l [], .i 0, .i 0, .i l] [] (.tup []) [] [] := by
  refine ACalls.of_body Tryz.func62 (by kernel_rfl) rfl (by kernel_rfl) (by simp [Tryz.ntmps62]) (by simp) ?_
  rw [Tryz.ntmps62]
  repeat' first | ((first | refine aops_end (hK _ ?_) | refine aopsD_end (hK _ ?_) | refine aopsF_end (hK _ ?_)); clear hK K) | ((first | refine aops_go ?_ | refine aopsD_go ?_ | refine aopsF_go ?_); simp; (try simp (disch := omega) only [wrap64])) | refine T.rd (id := 17) mixed (fun _ => false) [] (by kernel_rfl) fun K hK => ?_ | refine T.rd1 (id := 17) mixed (fun _ => false) [] (by kernel_rfl) fun K hK => ?_ | refine T.r0 fun K hK => ?_ | refine T.r1 fun K hK => ?_ | (refine ⟨by omega, ?_⟩) | refine T.ct rfl ?_ | refine T.cf rfl ?_ | refine T.seq ?_ | refine T.block ?_ | refine T.skip ?_ | refine T.exit ?_
  refine T.loopK (α := Unit) [0] (fun x => [(1, .i 0), (2, .i 0), (3, .i l), (8, .b true), (9, .b true)]) (fun x => []) (fun x => []) (fun x A => A) (fun x => 0) (fun x => True) (by simp; rfl) (fun x hx => ?_) () trivial (by simp) (by simp) (by simp)
  simp only [ups, List.set_cons_zero, List.set_cons_succ, List.cons_append, List.nil_append, List.append_nil]
  repeat' first | ((first | refine aops_end (hK _ ?_) | refine aopsD_end (hK _ ?_) | refine aopsF_end (hK _ ?_)); clear hK K) | ((first | refine aops_go ?_ | refine aopsD_go ?_ | refine aopsF_go ?_); simp; (try simp (disch := omega) only [wrap64])) | (refine wpcall_pure rfl (insSort_0) ?_; simp; (try simp (disch := omega) only [wrap64])) | refine T.rd (id := 17) mixed (fun _ => false) [] (by kernel_rfl) fun K hK => ?_ | refine T.rd1 (id := 17) mixed (fun _ => false) [] (by kernel_rfl) fun K hK => ?_ | refine T.r0 fun K hK => ?_ | refine T.r1 fun K hK => ?_ | (refine ⟨by omega, ?_⟩) | refine T.ct rfl ?_ | refine T.cf rfl ?_ | refine T.seq ?_ | refine T.block ?_ | refine T.skip ?_ | refine T.exit ?_
  all_goals (refine T.ret (Done.g (ys := []) (Or.inr rfl) ?_ rfl ?_) <;> simp [resAs, Tryz.results62])

theorem Sort_0 : ACalls Tryz.prog 31 [.l []] [] (.tup []) [] [] := by
  refine ACalls.of_body Tryz.func31 (by kernel_rfl) rfl (by kernel_rfl) (by simp [Tryz.ntmps31]) (by simp) ?_
  rw [Tryz.ntmps31]
  repeat' first | ((first | refine aops_end (hK _ ?_) | refine aopsD_end (hK _ ?_) | refine aopsF_end (hK _ ?_)); clear hK K) | ((first | refine aops_go ?_ | refine aopsD_go ?_ | refine aopsF_go ?_); simp) | (refine wpcall_pure rfl (Len_0) ?_; simp) | (refine wpcall_pure rfl (pdq_0 0) ?_; simp) | refine T.r0 fun K hK => ?_ | refine T.r1 fun K hK => ?_ | (refine ⟨by omega, ?_⟩) | refine T.ct rfl ?_ | refine T.cf rfl ?_ | refine T.seq ?_ | refine T.block ?_ | refine T.skip ?_ | refine T.exit ?_
  all_goals (refine Done.g (ys := []) (Or.inl rfl) ?_ rfl ?_ <;> simp [resAs, Tryz.results31])

theorem Compact_0 : ACalls Tryz.prog 32 [.l []] [] (.l []) [] [] := by
  refine ACalls.of_body Tryz.func32 (by kernel_rfl) rfl (by kernel_rfl) (by simp [Tryz.ntmps32]) (by simp) ?_
  rw [Tryz.ntmps32]
  repeat' first | ((first | refine aops_end (hK _ ?_) | refine aopsD_end (hK _ ?_) | refine aopsF_end (hK _ ?_)); clear hK K) | ((first | refine aops_go ?_ | refine aopsD_go ?_ | refine aopsF_go ?_); simp) | (refine T.ret (Done.data (Or.inr rfl) ?_ ?_) <;> simp [Tryz.results32] <;> omega) | refine T.rd (id := 6) mixed (fun _ => false) [] (by kernel_rfl) fun K hK => ?_ | refine T.rd1 (id := 6) mixed (fun _ => false) [] (by kernel_rfl) fun K hK => ?_ | refine T.rd (id := 11) mixed (fun _ => false) [] (by kernel_rfl) fun K hK => ?_ | refine T.rd1 (id := 11) mixed (fun _ => false) [] (by kernel_rfl) fun K hK => ?_ | refine T.r0 fun K hK => ?_ | refine T.r1 fun K hK => ?_ | (refine ⟨by omega, ?_⟩) | refine T.ct rfl ?_ | refine T.cf rfl ?_ | refine T.seq ?_ | refine T.block ?_ | refine T.skip ?_ | refine T.exit ?_

theorem CastLabels_nil (e : MTm) (hn : nTm e ≤ 1073741824) (hv : castValidM e = true) (h0 : castsM e = []) : ACalls Tryz.prog 10 [aTm e] [] (.l []) [] [] := by
  have h1 := CastValid_ok e (by omega)
  rw [hv] at h1
  have h2 := casts_own e (by omega)
  rw [h0] at h2
  simp only [List.length_nil, List.map_nil] at h2
  refine ACalls.of_body Tryz.func10 (by kernel_rfl) rfl (by kernel_rfl) (by simp [Tryz.ntmps10]) (by simp) ?_
  rw [Tryz.ntmps10]
  repeat' first | ((first | refine aops_end (hK _ ?_) | refine aopsD_end (hK _ ?_) | refine aopsF_end (hK _ ?_)); clear hK K) | ((first | refine aops_go ?_ | refine aopsD_go ?_ | refine aopsF_go ?_); simp; (try (refine gen fun q hq => ?_; cases q <;> (try simp at hq) <;> (try (have hh : True := hq; clear hh hq))))) | (refine wpcall_pure rfl (h1) ?_; simp; (try (refine gen fun q hq => ?_; cases q <;> (try simp at hq) <;> (try (have hh : True := hq; clear hh hq))))) | (refine wpcall_own rfl (h2) ?_; simp; (try (refine gen fun q hq => ?_; cases q <;> (try simp at hq) <;> (try (have hh : True := hq; clear hh hq))))) | refine T.r0 fun K hK => ?_ | refine T.r1 fun K hK => ?_ | (refine ⟨by omega, ?_⟩) | refine T.ct rfl ?_ | refine T.cf rfl ?_ | refine T.seq ?_ | refine T.block ?_ | refine T.skip ?_ | refine T.exit ?_
  refine T.loopK (α := Unit) [2, 10, 11] (fun x => [(3, .c .nil), (12, .i 0)]) (fun x => []) (fun x => []) (fun x A => A) (fun x => 0) (fun x => True) (by simp; rfl) (fun x hx => ?_) () trivial (by simp) (by simp) (by simp)
  simp only [ups, List.set_cons_zero, List.set_cons_succ, List.cons_append, List.nil_append, List.append_nil]
  repeat' first | ((first | refine aops_end (hK _ ?_) | refine aopsD_end (hK _ ?_) | refine aopsF_end (hK _ ?_)); clear hK K) | ((first | refine aops_go ?_ | refine aopsD_go ?_ | refine aopsF_go ?_); simp; (try (refine gen fun q hq => ?_; cases q <;> (try simp at hq) <;> (try (have hh : True := hq; clear hh hq))))) | (refine wpcall_pure rfl (Sort_0) ?_; simp; (try (refine gen fun q hq => ?_; cases q <;> (try simp at hq) <;> (try (have hh : True := hq; clear hh hq))))) | (refine wpcall_pure rfl (Compact_0) ?_; simp; (try (refine gen fun q hq => ?_; cases q <;> (try simp at hq) <;> (try (have hh : True := hq; clear hh hq))))) | (refine T.ret (Done.val (Or.inr rfl) ?_) <;> simp [resAs, Tryz.results10] <;> omega) | refine T.r0 fun K hK => ?_ | refine T.r1 fun K hK => ?_ | (refine ⟨by omega, ?_⟩) | refine T.ct rfl ?_ | refine T.cf rfl ?_ | refine T.seq ?_ | refine T.block ?_ | refine T.skip ?_ | refine T.exit ?_

end Go.Proofs.YtdcahkkclldhmaaGreat

namespace Go.Proofs.YtdcahkkclldhmaaGreat
open Go Go.Av
attribute [local irreducible] T ACalls TX EX LX Draws Some_ ACallsX eTy eTm MTy.kind MTy.kids MTm.kind MTm.name MTm.num MTm.ty MTm.fr MTm.label MTm.kids
attribute [local simp] eTy_def eTm_def
set_option maxHeartbeats 16000000
set_option maxRecDepth 8000
attribute [local simp] Option.bind

theorem ground_ok (k : Int) : ACalls Tryz.prog 118 [.i k] [] (aTy (groundT k)) [] [] := by
  have h1 := base_ok 1
  by_cases h4 : k = 4
  · subst h4
    rw [show groundT 4 = .mk 4 [anyT, anyT] from rfl]
    have h2 := both_ok 4 anyT anyT
    refine ACalls.of_body Tryz.func118 (by kernel_rfl) rfl (by kernel_rfl) (by simp [Tryz.ntmps118]) (by simp) ?_
    rw [Tryz.ntmps118]
    repeat' first | ((first | refine aops_end (hK _ ?_) | refine aopsD_end (hK _ ?_) | refine aopsF_end (hK _ ?_)); clear hK K) | ((first | refine aops_go ?_ | refine aopsD_go ?_ | refine aopsF_go ?_); simp; (try (refine gen fun q hq => ?_; cases q <;> (try simp at hq) <;> (try (have hh : True := hq; clear hh hq))))) | (refine wpcall_pure rfl (h1) ?_; simp; (try (refine gen fun q hq => ?_; cases q <;> (try simp at hq) <;> (try (have hh : True := hq; clear hh hq))))) | (refine wpcall_pure ?_ (h2) ?_; (focus (solve | simp)); simp; (try (refine gen fun q hq => ?_; cases q <;> (try simp at hq) <;> (try (have hh : True := hq; clear hh hq))))) | (refine T.ret (Done.val (Or.inr rfl) ?_) <;> simp [resAs, Tryz.results118] <;> omega) | refine T.r0 fun K hK => ?_ | refine T.r1 fun K hK => ?_ | (refine ⟨by omega, ?_⟩) | refine T.ct rfl ?_ | refine T.cf rfl ?_ | refine T.seq ?_ | refine T.block ?_ | refine T.skip ?_ | refine T.exit ?_
  by_cases h5 : k = 5
  · subst h5
    rw [show groundT 5 = .mk 5 [anyT, anyT] from rfl]
    have h2 := both_ok 5 anyT anyT
    refine ACalls.of_body Tryz.func118 (by kernel_rfl) rfl (by kernel_rfl) (by simp [Tryz.ntmps118]) (by simp) ?_
    rw [Tryz.ntmps118]
    repeat' first | ((first | refine aops_end (hK _ ?_) | refine aopsD_end (hK _ ?_) | refine aopsF_end (hK _ ?_)); clear hK K) | ((first | refine aops_go ?_ | refine aopsD_go ?_ | refine aopsF_go ?_); simp; (try (refine gen fun q hq => ?_; cases q <;> (try simp at hq) <;> (try (have hh : True := hq; clear hh hq))))) | (refine wpcall_pure rfl (h1) ?_; simp; (try (refine gen fun q hq => ?_; cases q <;> (try simp at hq) <;> (try (have hh : True := hq; clear hh hq))))) | (refine wpcall_pure ?_ (h2) ?_; (focus (solve | simp)); simp; (try (refine gen fun q hq => ?_; cases q <;> (try simp at hq) <;> (try (have hh : True := hq; clear hh hq))))) | (refine T.ret (Done.val (Or.inr rfl) ?_) <;> simp [resAs, Tryz.results118] <;> omega) | refine T.r0 fun K hK => ?_ | refine T.r1 fun K hK => ?_ | (refine ⟨by omega, ?_⟩) | refine T.ct rfl ?_ | refine T.cf rfl ?_ | refine T.seq ?_ | refine T.block ?_ | refine T.skip ?_ | refine T.exit ?_
  · rw [show groundT k = .mk k [] by simp [groundT, h4, h5]]
    have h3 := base_ok k
    refine ACalls.of_body Tryz.func118 (by kernel_rfl) rfl (by kernel_rfl) (by simp [Tryz.ntmps118]) (by simp) ?_
    rw [Tryz.ntmps118]
    repeat' first | ((first | refine aops_end (hK _ ?_) | refine aopsD_end (hK _ ?_) | refine aopsF_end (hK _ ?_)); clear hK K) | ((first | refine aops_go ?_ | refine aopsD_go ?_ | refine aopsF_go ?_); simp [h4, h5]; (try (refine gen fun q hq => ?_; cases q <;> (try simp [h4, h5] at hq) <;> (try (have hh : True := hq; clear hh hq))))) | (refine wpcall_pure rfl (h3) ?_; simp [h4, h5]; (try (refine gen fun q hq => ?_; cases q <;> (try simp [h4, h5] at hq) <;> (try (have hh : True := hq; clear hh hq))))) | (refine T.ret (Done.val (Or.inr rfl) ?_) <;> simp [resAs, Tryz.results118] <;> omega) | refine T.r0 fun K hK => ?_ | refine T.r1 fun K hK => ?_ | (refine ⟨by omega, ?_⟩) | refine T.ct rfl ?_ | refine T.cf rfl ?_ | refine T.seq ?_ | refine T.block ?_ | refine T.skip ?_ | refine T.exit ?_

abbrev ruleR (o : Option MTm) : List AV := match o with
  | some x => [aTm x, .i 1]
  | none => [aTm zeroE, .i 3]

end Go.Proofs.YtdcahkkclldhmaaGreat

namespace Go.Proofs.YtdcahkkclldhmaaGreat
open Go Go.Av
attribute [local irreducible] T ACalls TX EX LX Draws Some_ ACallsX eTy eTm MTy.kind MTy.kids MTm.kind MTm.name MTm.num MTm.ty MTm.fr MTm.label MTm.kids
attribute [local simp] eTy_def eTm_def
set_option maxHeartbeats 16000000
set_option maxRecDepth 8000

theorem simplified_ok (e : MTm) (h1 : e.kind = 14 → ∃ a, e.kids = [a] ∧ (a.kind = 14 → ∃ x, a.kids = [x])) (hf : nTy e.fr ≤ 1099511627776) (ht : nTy e.ty ≤ 1099511627776) :
    ACalls Tryz.prog 40 [aTm e] [] (aTm (simpG e)) [] [] := by
  have k1 := TypeSame_ok e.fr e.ty hf
  by_cases hk : e.kind = 14
  · obtain ⟨a, ha, ha2⟩ := h1 hk
    have k2 := TypeSame_ok e.ty a.fr ht
    cases hs : sameTy e.fr e.ty with
    | true =>
      rw [hs] at k1
      rw [show simpG e = a by simp [simpG, hk, ha, hs]]
      refine ACalls.of_body Tryz.func40 (by kernel_rfl) rfl (by kernel_rfl) (by simp [Tryz.ntmps40]) (by simp) ?_
      rw [Tryz.ntmps40]
      repeat' first | ((first | refine aops_end (hK _ ?_) | refine aopsD_end (hK _ ?_) | refine aopsF_end (hK _ ?_)); clear hK K) | ((first | refine aops_go ?_ | refine aopsD_go ?_ | refine aopsF_go ?_); simp [hk, ha, eTm_def]; (try (refine gen fun q hq => ?_; cases q <;> (try simp [hk, ha, eTm_def] at hq) <;> (try (have hh : True := hq; clear hh hq))))) | (refine wpcall_pure ?_ (k1) ?_; (focus (solve | simp [hk, ha, eTm_def])); simp [hk, ha, eTm_def]; (try (refine gen fun q hq => ?_; cases q <;> (try simp [hk, ha, eTm_def] at hq) <;> (try (have hh : True := hq; clear hh hq))))) | (refine T.ret (Done.val (Or.inr rfl) ?_) <;> simp [resAs, Tryz.results40, eTm_def] <;> omega) | refine T.r0 fun K hK => ?_ | refine T.r1 fun K hK => ?_ | (refine ⟨by omega, ?_⟩) | refine T.ct rfl ?_ | refine T.cf rfl ?_ | refine T.seq ?_ | refine T.block ?_ | refine T.skip ?_ | refine T.exit ?_
    | false =>
      rw [hs] at k1
      by_cases hnq : e.fr.kind = 1 ∧ a.kind = 14 ∧ a.ty.kind = 1 ∧ sameTy e.ty a.fr = true
      · obtain ⟨q1, q2, q3, q4⟩ := hnq
        obtain ⟨x, hx⟩ := ha2 q2
        rw [q4] at k2
        rw [show simpG e = x by simp [simpG, hk, ha, hs, q1, q2, q3, q4, hx]]
        refine ACalls.of_body Tryz.func40 (by kernel_rfl) rfl (by kernel_rfl) (by simp [Tryz.ntmps40]) (by simp) ?_
        rw [Tryz.ntmps40]
        repeat' first | ((first | refine aops_end (hK _ ?_) | refine aopsD_end (hK _ ?_) | refine aopsF_end (hK _ ?_)); clear hK K) | ((first | refine aops_go ?_ | refine aopsD_go ?_ | refine aopsF_go ?_); simp [hk, ha, q1, q2, q3, hx, eTm_def]; (try (refine gen fun q hq => ?_; cases q <;> (try simp [hk, ha, q1, q2, q3, hx, eTm_def] at hq) <;> (try (have hh : True := hq; clear hh hq))))) | (refine wpcall_pure ?_ (k1) ?_; (focus (solve | simp [hk, ha, q1, q2, q3, hx, eTm_def])); simp [hk, ha, q1, q2, q3, hx, eTm_def]; (try (refine gen fun q hq => ?_; cases q <;> (try simp [hk, ha, q1, q2, q3, hx, eTm_def] at hq) <;> (try (have hh : True := hq; clear hh hq))))) | (refine wpcall_pure ?_ (k2) ?_; (focus (solve | simp [hk, ha, q1, q2, q3, hx, eTm_def])); simp [hk, ha, q1, q2, q3, hx, eTm_def]; (try (refine gen fun q hq => ?_; cases q <;> (try simp [hk, ha, q1, q2, q3, hx, eTm_def] at hq) <;> (try (have hh : True := hq; clear hh hq))))) | (refine T.ret (Done.val (Or.inr rfl) ?_) <;> simp [resAs, Tryz.results40, hx, eTm_def] <;> omega) | refine T.r0 fun K hK => ?_ | refine T.r1 fun K hK => ?_ | (refine ⟨by omega, ?_⟩) | refine T.ct rfl ?_ | refine T.cf rfl ?_ | refine T.seq ?_ | refine T.block ?_ | refine T.skip ?_ | refine T.exit ?_
      · rw [show simpG e = e by simp only [simpG, hk, ha, hs, if_true, Bool.false_eq_true, if_false]; rw [if_neg hnq]]
        cases hs2 : sameTy e.ty a.fr <;> rw [hs2] at k2 hnq
        · refine ACalls.of_body Tryz.func40 (by kernel_rfl) rfl (by kernel_rfl) (by simp [Tryz.ntmps40]) (by simp) ?_
          rw [Tryz.ntmps40]
          repeat' first | ((first | refine aops_end (hK _ ?_) | refine aopsD_end (hK _ ?_) | refine aopsF_end (hK _ ?_)); clear hK K) | ((first | refine aops_go ?_ | refine aopsD_go ?_ | refine aopsF_go ?_); simp [hk, ha, eTm_def]; (try (refine gen fun q hq => ?_; cases q <;> (try simp [hk, ha, eTm_def] at hq) <;> (try (have hh : True := hq; clear hh hq))))) | (refine wpcall_pure ?_ (k1) ?_; (focus (solve | simp [hk, ha, eTm_def])); simp [hk, ha, eTm_def]; (try (refine gen fun q hq => ?_; cases q <;> (try simp [hk, ha, eTm_def] at hq) <;> (try (have hh : True := hq; clear hh hq))))) | (refine wpcall_pure ?_ (k2) ?_; (focus (solve | simp [hk, ha, eTm_def])); simp [hk, ha, eTm_def]; (try (refine gen fun q hq => ?_; cases q <;> (try simp [hk, ha, eTm_def] at hq) <;> (try (have hh : True := hq; clear hh hq))))) | (refine T.ret (Done.val (Or.inr rfl) ?_) <;> simp [resAs, Tryz.results40, hk, ha, eTm_def] <;> omega) | refine T.r0 fun K hK => ?_ | refine T.r1 fun K hK => ?_ | (refine ⟨by omega, ?_⟩) | refine T.ct rfl ?_ | refine T.cf rfl ?_ | refine T.seq ?_ | refine T.block ?_ | refine T.skip ?_ | refine T.exit ?_
        · refine ACalls.of_body Tryz.func40 (by kernel_rfl) rfl (by kernel_rfl) (by simp [Tryz.ntmps40]) (by simp) ?_
          rw [Tryz.ntmps40]
          repeat' first | ((first | refine aops_end (hK _ ?_) | refine aopsD_end (hK _ ?_) | refine aopsF_end (hK _ ?_)); clear hK K) | ((first | refine aops_go ?_ | refine aopsD_go ?_ | refine aopsF_go ?_); simp [hk, ha, eTm_def]; (try (refine gen fun q hq => ?_; cases q <;> (try simp [hk, ha, eTm_def] at hq) <;> (try (have hh : True := hq; clear hh hq))))) | (refine wpcall_pure ?_ (k1) ?_; (focus (solve | simp [hk, ha, eTm_def])); simp [hk, ha, eTm_def]; (try (refine gen fun q hq => ?_; cases q <;> (try simp [hk, ha, eTm_def] at hq) <;> (try (have hh : True := hq; clear hh hq))))) | (refine wpcall_pure ?_ (k2) ?_; (focus (solve | simp [hk, ha, eTm_def])); simp [hk, ha, eTm_def]; (try (refine gen fun q hq => ?_; cases q <;> (try simp [hk, ha, eTm_def] at hq) <;> (try (have hh : True := hq; clear hh hq))))) | (exact absurd ⟨by assumption, by assumption, by assumption, rfl⟩ hnq) | (refine T.ret (Done.val (Or.inr rfl) ?_) <;> simp [resAs, Tryz.results40, hk, ha, eTm_def] <;> omega) | refine T.r0 fun K hK => ?_ | refine T.r1 fun K hK => ?_ | (refine ⟨by omega, ?_⟩) | refine T.ct rfl ?_ | refine T.cf rfl ?_ | refine T.seq ?_ | refine T.block ?_ | refine T.skip ?_ | refine T.exit ?_
  · rw [show simpG e = e by simp [simpG, hk]]
    refine ACalls.of_body Tryz.func40 (by kernel_rfl) rfl (by kernel_rfl) (by simp [Tryz.ntmps40]) (by simp) ?_
    rw [Tryz.ntmps40]
    repeat' first | ((first | refine aops_end (hK _ ?_) | refine aopsD_end (hK _ ?_) | refine aopsF_end (hK _ ?_)); clear hK K) | ((first | refine aops_go ?_ | refine aopsD_go ?_ | refine aopsF_go ?_); simp [hk]; (try (refine gen fun q hq => ?_; cases q <;> (try simp [hk] at hq) <;> (try (have hh : True := hq; clear hh hq))))) | (refine T.ret (Done.val (Or.inr rfl) ?_) <;> simp [resAs, Tryz.results40] <;> omega) | refine T.r0 fun K hK => ?_ | refine T.r1 fun K hK => ?_ | (refine ⟨by omega, ?_⟩) | refine T.ct rfl ?_ | refine T.cf rfl ?_ | refine T.seq ?_ | refine T.block ?_ | refine T.skip ?_ | refine T.exit ?_

theorem simp_node {e : MTm} {d : Nat} (h : TmV 13 d e) (hk : (.mk e.kind e.name e.num e.ty e.fr e.label (e.kids.map (mapM simpG)) : MTm).kind = 14) :
    ∃ a, (.mk e.kind e.name e.num e.ty e.fr e.label (e.kids.map (mapM simpG)) : MTm).kids = [a] ∧ (a.kind = 14 → ∃ x, a.kids = [x]) := by
  obtain ⟨d', x, f, t, l, rfl, rfl, hx⟩ := h.kind14 (by simpa using hk)
  refine ⟨simpM x, by simp [simpM], fun h14 => ?_⟩
  obtain ⟨d2, y, f2, t2, l2, _, he, _⟩ := (simp_law hx).1.kind14 h14
  exact ⟨y, by rw [he]; simp⟩

theorem simpM_ok (e : MTm) (hn : nTm e ≤ 1099511627776) (hv : castValidM e = true) : ACalls Tryz.prog 39 [aTm e, .c (.fn 40 [])] [] (aTm (simpM e)) [] [] := by
  refine mapped_ok 40 simpG (fun e => nTm e ≤ 1099511627776 ∧ ∃ d, TmV 13 d e) (fun e h u hu => ?_) (fun e h => ?_) e ⟨hn, 40, (castValidM_iff.1 hv).1⟩ hn
  · obtain ⟨h1, d, h2⟩ := h
    obtain ⟨_, _, _, hnu⟩ := nTm_parts h1
    obtain ⟨d', rfl, _, _, _, hk⟩ := shapeTm_kids h2.shape
    exact ⟨hnu u hu, d', TmV.of (hk u hu)⟩
  · obtain ⟨h1, d, h2⟩ := h
    obtain ⟨hnt, hnf, _, _⟩ := nTm_parts h1
    rw [mapM_def]
    exact simplified_ok _ (simp_node h2) (by simpa using hnf) (by simpa using hnt)

theorem SimplifyCasts_ok (e : MTm) (hn : nTm e ≤ 1099511627776) : ACalls Tryz.prog 15 [aTm e] [] (.tup (tmRes (if castValidM e = true then some (simpM e) else none))) [] [] := by
  have h1 := CastValid_ok e hn
  cases hv : castValidM e with
  | false =>
    rw [hv] at h1
    simp only [Bool.false_eq_true, if_false, tmRes]
    refine ACalls.of_body Tryz.func15 (by kernel_rfl) rfl (by kernel_rfl) (by simp [Tryz.ntmps15]) (by simp) ?_
    rw [Tryz.ntmps15]
    repeat' first | ((first | refine aops_end (hK _ ?_) | refine aopsD_end (hK _ ?_) | refine aopsF_end (hK _ ?_)); clear hK K) | ((first | refine aops_go ?_ | refine aopsD_go ?_ | refine aopsF_go ?_); simp; (try (refine gen fun q hq => ?_; cases q <;> (try simp at hq) <;> (try (have hh : True := hq; clear hh hq))))) | (refine wpcall_pure rfl (h1) ?_; simp; (try (refine gen fun q hq => ?_; cases q <;> (try simp at hq) <;> (try (have hh : True := hq; clear hh hq))))) | (refine T.ret (Done.tup (Or.inr rfl) ?_) <;> simp [resAs, Tryz.results15] <;> omega) | refine T.r0 fun K hK => ?_ | refine T.r1 fun K hK => ?_ | (refine ⟨by omega, ?_⟩) | refine T.ct rfl ?_ | refine T.cf rfl ?_ | refine T.seq ?_ | refine T.block ?_ | refine T.skip ?_ | refine T.exit ?_
  | true =>
    rw [hv] at h1
    have h2 := simpM_ok e hn hv
    simp only [if_true, tmRes]
    generalize simpM e = R at *
    refine ACalls.of_body Tryz.func15 (by kernel_rfl) rfl (by kernel_rfl) (by simp [Tryz.ntmps15]) (by simp) ?_
    rw [Tryz.ntmps15]
    repeat' first | ((first | refine aops_end (hK _ ?_) | refine aopsD_end (hK _ ?_) | refine aopsF_end (hK _ ?_)); clear hK K) | ((first | refine aops_go ?_ | refine aopsD_go ?_ | refine aopsF_go ?_); simp; (try (refine gen fun q hq => ?_; cases q <;> (try simp at hq) <;> (try (have hh : True := hq; clear hh hq))))) | (refine wpcall_pure rfl (h1) ?_; simp; (try (refine gen fun q hq => ?_; cases q <;> (try simp at hq) <;> (try (have hh : True := hq; clear hh hq))))) | (refine wpcall_pure rfl (h2) ?_; simp; (try (refine gen fun q hq => ?_; cases q <;> (try simp at hq) <;> (try (have hh : True := hq; clear hh hq))))) | (refine T.ret (Done.tup (Or.inr rfl) ?_) <;> simp [resAs, Tryz.results15] <;> omega) | refine T.r0 fun K hK => ?_ | refine T.r1 fun K hK => ?_ | (refine ⟨by omega, ?_⟩) | refine T.ct rfl ?_ | refine T.cf rfl ?_ | refine T.seq ?_ | refine T.block ?_ | refine T.skip ?_ | refine T.exit ?_

def redM (e : MTm) : Int := if castValidM e = true then ((castsM e).length : Int) - (castsM (simpM e)).length else 0

/-- A copy whose operands the caller may change. -/
abbrev tmOwn (e : MTm) : AV := .agg [.d (.i e.kind), .d (.str e.name), .d (.i e.num), .d (.i e.ty.kind), .d (.sl (e.ty.kids.map eTy)), .d (.i e.fr.kind), .d (.sl (e.fr.kids.map eTy)), .d (.i e.label), .own 0 e.kids.length]
theorem l2Copy_own (e : MTm) (hn : nTm e ≤ 1099511627776) : ACalls Tryz.prog 58 [aTm e] [] (tmOwn e) [] [{ sz := 9, ety := 28, rows := e.kids.map eTm, wr := true }] := by
  obtain ⟨hnt, hnf, hnk, hnu⟩ := nTm_parts hn
  have h1 := l1Copy_ok e.ty hnt
  have h2 := l1Copy_ok e.fr hnf
  refine ACalls.of_body Tryz.func58 (by kernel_rfl) rfl (by kernel_rfl) (by simp [Tryz.ntmps58]) (by simp) ?_
  rw [Tryz.ntmps58]
  repeat' first | ((first | refine aops_end (hK _ ?_) | refine aopsD_end (hK _ ?_) | refine aopsF_end (hK _ ?_)); clear hK K) | ((first | refine aops_go ?_ | refine aopsD_go ?_ | refine aopsF_go ?_); simp; (try (refine gen fun q hq => ?_; cases q <;> (try simp at hq) <;> (try (have hh : True := hq; clear hh hq))))) | (refine wpcall_pure rfl (h1) ?_; simp; (try (refine gen fun q hq => ?_; cases q <;> (try simp at hq) <;> (try (have hh : True := hq; clear hh hq))))) | (refine wpcall_pure rfl (h2) ?_; simp; (try (refine gen fun q hq => ?_; cases q <;> (try simp at hq) <;> (try (have hh : True := hq; clear hh hq))))) | refine T.rd (id := 8) mixed (fun _ => false) [9, 11] (by kernel_rfl) fun K hK => ?_ | refine T.rd1 (id := 8) mixed (fun _ => false) [9, 11] (by kernel_rfl) fun K hK => ?_ | refine T.r0 fun K hK => ?_ | refine T.r1 fun K hK => ?_ | (refine ⟨by omega, ?_⟩) | refine T.ct rfl ?_ | refine T.cf rfl ?_ | refine T.seq ?_ | refine T.block ?_ | refine T.skip ?_ | refine T.exit ?_
  refine T.ownifyObj 2 8 9 28 rfl rfl ?_
  refine T.loopF (fun p : Nat => ⟨[(1, .c (.ptr 0 0)), (2, .c (.ptr 1 0)), (3, .c (.ptr 2 0)), (4, .i p)], [(aTm e).cells, [.d (.i 0), .d (.str []), .d (.i 0), .d (.i 0), .nil, .d (.i 0), .nil, .d (.i 0), .nil], [.d (.i e.kind), .d (.str e.name), .d (.i e.num), .d (.i e.ty.kind), .d (.sl (e.ty.kids.map eTy)), .d (.i e.fr.kind), .d (.sl (e.fr.kids.map eTy)), .d (.i e.label), .own 0 p]], [{ sz := 9, ety := 28, rows := (e.kids.take p).map eTm, wr := true }]⟩) (fun p => e.kids.length + 1 - p) (fun p => p ≤ e.kids.length) (fun p hp => ?_) 0 (by simp) (by simp)
  by_cases hlt : p < e.kids.length
  · obtain ⟨u, ht⟩ := get_lt hlt
    have htm : u ∈ e.kids := List.mem_of_getElem? ht
    have hgt : e.kids[p] = u := by rw [List.getElem?_eq_getElem hlt] at ht; exact Option.some.inj ht
    have hdr : e.kids.drop p = u :: e.kids.drop (p + 1) := by rw [List.drop_eq_getElem_cons hlt, hgt]
    have hu := l2Copy_ok u (hnu u htm)
    have htk : e.kids.take (p + 1) = e.kids.take p ++ [u] := by rw [List.take_add_one, ht]; rfl
    have hmin : min p e.kids.length = p := by omega
    repeat' first | ((first | refine aops_end (hK _ ?_) | refine aopsD_end (hK _ ?_) | refine aopsF_end (hK _ ?_)); clear hK K) | ((first | refine aops_go ?_ | refine aopsD_go ?_ | refine aopsF_go ?_); simp [hlt, hgt, hmin]; (try simp (disch := omega) only [wrap64]); (try (refine gen fun q hq => ?_; cases q <;> (try simp [hlt, hgt, hmin] at hq) <;> (try (have hh : True := hq; clear hh hq))))) | (refine wpcall_pure rfl (hu) ?_; simp [hlt, hgt, hmin]; (try simp (disch := omega) only [wrap64]); (try (refine gen fun q hq => ?_; cases q <;> (try simp [hlt, hgt, hmin] at hq) <;> (try (have hh : True := hq; clear hh hq))))) | (refine ⟨p + 1, by dsimp only; omega, by omega, ?_, ?_, ?_⟩ <;> simp (disch := omega) [wrap64, htk, eTm_def]) | refine T.rd (id := 8) mixed (fun _ => false) [9, 11] (by kernel_rfl) fun K hK => ?_ | refine T.rd1 (id := 8) mixed (fun _ => false) [9, 11] (by kernel_rfl) fun K hK => ?_ | refine T.r0 fun K hK => ?_ | refine T.r1 fun K hK => ?_ | (refine ⟨by omega, ?_⟩) | refine T.ct rfl ?_ | refine T.cf rfl ?_ | refine T.seq ?_ | refine T.block ?_ | refine T.skip ?_ | refine T.exit ?_
  · have hp' : p = e.kids.length := by omega
    subst hp'
    repeat' first | ((first | refine aops_end (hK _ ?_) | refine aopsD_end (hK _ ?_) | refine aopsF_end (hK _ ?_)); clear hK K) | ((first | refine aops_go ?_ | refine aopsD_go ?_ | refine aopsF_go ?_); simp [hlt]; (try (refine gen fun q hq => ?_; cases q <;> (try simp [hlt] at hq) <;> (try (have hh : True := hq; clear hh hq))))) | refine T.rd (id := 8) mixed (fun _ => false) [9, 11] (by kernel_rfl) fun K hK => ?_ | refine T.rd1 (id := 8) mixed (fun _ => false) [9, 11] (by kernel_rfl) fun K hK => ?_ | refine T.r0 fun K hK => ?_ | refine T.r1 fun K hK => ?_ | (refine ⟨by omega, ?_⟩) | refine T.ct rfl ?_ | refine T.cf rfl ?_ | refine T.seq ?_ | refine T.block ?_ | refine T.skip ?_ | refine T.exit ?_
    all_goals (refine T.ret (Done.own1 0 (Or.inr rfl) (ys := [_]) ?_ rfl ?_) <;> simp [resAs, Tryz.results58])

/-- The operands, simplified as_ far as_ a place. -/
def mixM (l : List MTm) (p : Nat) : List MTm := (l.map simpM).take p ++ l.drop p
theorem mixM_set {l : List MTm} {p : Nat} {u : MTm} (h : l[p]? = some u) : (mixM l p).set p (simpM u) = mixM l (p + 1) := by
  obtain ⟨hp, rfl⟩ := List.getElem?_eq_some_iff.1 h
  have hl : ((l.map simpM).take p).length = p := by simp; omega
  rw [mixM, mixM, List.set_append_right _ _ (by omega), hl, Nat.sub_self, drop_cons hp, List.set_cons_zero, List.take_add_one, List.getElem?_map, h]
  simp
theorem mixM_len (l : List MTm) {p : Nat} (hp : p ≤ l.length) : (mixM l p).length = l.length := by simp [mixM]; omega
theorem mixM_zero (l : List MTm) : mixM l 0 = l := by simp [mixM]
theorem mixM_all (l : List MTm) : mixM l l.length = l.map simpM := by
  rw [mixM, List.take_of_length_le (by simp), List.drop_length, List.append_nil]

theorem l12Back_ok (e a : MTm) (hk : e.kids = [a]) (haf : nTy a.fr ≤ 1099511627776) : ACalls Tryz.prog 78 [aTm e] [] (.b (decide (e.fr.kind = 1 ∧ a.kind = 14 ∧ a.ty.kind = 1 ∧ sameTy e.ty a.fr = true))) [] [] := by
  have h1 := TypeSameS_ok a.fr e.ty haf
  have hsy : sameTy e.ty a.fr = sameTy a.fr e.ty := by
    cases h : sameTy a.fr e.ty with
    | true => rw [sameTy_iff] at h ⊢; exact h.symm
    | false =>
      cases h2 : sameTy e.ty a.fr with
      | true => rw [sameTy_iff] at h2; rw [h2, sameTy_refl] at h; cases h
      | false => rfl
  rw [hsy]
  by_cases q1 : e.fr.kind = 1 <;> by_cases q2 : a.kind = 14 <;> by_cases q3 : a.ty.kind = 1 <;> simp only [q1, q2, q3, true_and, false_and, and_false, decide_false]
  all_goals (generalize sameTy a.fr e.ty = c at *)
  all_goals try simp only [Bool.decide_eq_true]
  all_goals clear hsy
  · refine ACalls.of_body Tryz.func78 (by kernel_rfl) rfl (by kernel_rfl) (by simp [Tryz.ntmps78]) (by simp) ?_
    rw [Tryz.ntmps78]
    repeat' first | ((first | refine aops_end (hK _ ?_) | refine aopsD_end (hK _ ?_) | refine aopsF_end (hK _ ?_)); clear hK K) | ((first | refine aops_go ?_ | refine aopsD_go ?_ | refine aopsF_go ?_); simp [hk, q1, q2, q3, eTm_def]; (try (refine gen fun q hq => ?_; cases q <;> (try simp [hk, q1, q2, q3, eTm_def] at hq) <;> (try (have hh : True := hq; clear hh hq))))) | (refine wpcall_pure rfl (h1) ?_; simp [hk, q1, q2, q3, eTm_def]; (try (refine gen fun q hq => ?_; cases q <;> (try simp [hk, q1, q2, q3, eTm_def] at hq) <;> (try (have hh : True := hq; clear hh hq))))) | (refine T.ret (Done.data (Or.inr rfl) ?_ ?_) <;> simp [Tryz.results78, *] <;> omega) | refine T.r0 fun K hK => ?_ | refine T.r1 fun K hK => ?_ | (refine ⟨by omega, ?_⟩) | refine T.ct rfl ?_ | refine T.cf rfl ?_ | refine T.seq ?_ | refine T.block ?_ | refine T.skip ?_ | refine T.exit ?_
  · refine ACalls.of_body Tryz.func78 (by kernel_rfl) rfl (by kernel_rfl) (by simp [Tryz.ntmps78]) (by simp) ?_
    rw [Tryz.ntmps78]
    repeat' first | ((first | refine aops_end (hK _ ?_) | refine aopsD_end (hK _ ?_) | refine aopsF_end (hK _ ?_)); clear hK K) | ((first | refine aops_go ?_ | refine aopsD_go ?_ | refine aopsF_go ?_); simp [hk, q1, q2, q3, eTm_def]; (try (refine gen fun q hq => ?_; cases q <;> (try simp [hk, q1, q2, q3, eTm_def] at hq) <;> (try (have hh : True := hq; clear hh hq))))) | (refine wpcall_pure rfl (h1) ?_; simp [hk, q1, q2, q3, eTm_def]; (try (refine gen fun q hq => ?_; cases q <;> (try simp [hk, q1, q2, q3, eTm_def] at hq) <;> (try (have hh : True := hq; clear hh hq))))) | (refine T.ret (Done.data (Or.inr rfl) ?_ ?_) <;> simp [Tryz.results78, *] <;> omega) | refine T.r0 fun K hK => ?_ | refine T.r1 fun K hK => ?_ | (refine ⟨by omega, ?_⟩) | refine T.ct rfl ?_ | refine T.cf rfl ?_ | refine T.seq ?_ | refine T.block ?_ | refine T.skip ?_ | refine T.exit ?_
  · refine ACalls.of_body Tryz.func78 (by kernel_rfl) rfl (by kernel_rfl) (by simp [Tryz.ntmps78]) (by simp) ?_
    rw [Tryz.ntmps78]
    repeat' first | ((first | refine aops_end (hK _ ?_) | refine aopsD_end (hK _ ?_) | refine aopsF_end (hK _ ?_)); clear hK K) | ((first | refine aops_go ?_ | refine aopsD_go ?_ | refine aopsF_go ?_); simp [hk, q1, q2, q3, eTm_def]; (try (refine gen fun q hq => ?_; cases q <;> (try simp [hk, q1, q2, q3, eTm_def] at hq) <;> (try (have hh : True := hq; clear hh hq))))) | (refine wpcall_pure rfl (h1) ?_; simp [hk, q1, q2, q3, eTm_def]; (try (refine gen fun q hq => ?_; cases q <;> (try simp [hk, q1, q2, q3, eTm_def] at hq) <;> (try (have hh : True := hq; clear hh hq))))) | (refine T.ret (Done.data (Or.inr rfl) ?_ ?_) <;> simp [Tryz.results78, *] <;> omega) | refine T.r0 fun K hK => ?_ | refine T.r1 fun K hK => ?_ | (refine ⟨by omega, ?_⟩) | refine T.ct rfl ?_ | refine T.cf rfl ?_ | refine T.seq ?_ | refine T.block ?_ | refine T.skip ?_ | refine T.exit ?_
  · refine ACalls.of_body Tryz.func78 (by kernel_rfl) rfl (by kernel_rfl) (by simp [Tryz.ntmps78]) (by simp) ?_
    rw [Tryz.ntmps78]
    repeat' first | ((first | refine aops_end (hK _ ?_) | refine aopsD_end (hK _ ?_) | refine aopsF_end (hK _ ?_)); clear hK K) | ((first | refine aops_go ?_ | refine aopsD_go ?_ | refine aopsF_go ?_); simp [hk, q1, q2, q3, eTm_def]; (try (refine gen fun q hq => ?_; cases q <;> (try simp [hk, q1, q2, q3, eTm_def] at hq) <;> (try (have hh : True := hq; clear hh hq))))) | (refine wpcall_pure rfl (h1) ?_; simp [hk, q1, q2, q3, eTm_def]; (try (refine gen fun q hq => ?_; cases q <;> (try simp [hk, q1, q2, q3, eTm_def] at hq) <;> (try (have hh : True := hq; clear hh hq))))) | (refine T.ret (Done.data (Or.inr rfl) ?_ ?_) <;> simp [Tryz.results78, *] <;> omega) | refine T.r0 fun K hK => ?_ | refine T.r1 fun K hK => ?_ | (refine ⟨by omega, ?_⟩) | refine T.ct rfl ?_ | refine T.cf rfl ?_ | refine T.seq ?_ | refine T.block ?_ | refine T.skip ?_ | refine T.exit ?_
  · refine ACalls.of_body Tryz.func78 (by kernel_rfl) rfl (by kernel_rfl) (by simp [Tryz.ntmps78]) (by simp) ?_
    rw [Tryz.ntmps78]
    repeat' first | ((first | refine aops_end (hK _ ?_) | refine aopsD_end (hK _ ?_) | refine aopsF_end (hK _ ?_)); clear hK K) | ((first | refine aops_go ?_ | refine aopsD_go ?_ | refine aopsF_go ?_); simp [hk, q1, q2, q3, eTm_def]; (try (refine gen fun q hq => ?_; cases q <;> (try simp [hk, q1, q2, q3, eTm_def] at hq) <;> (try (have hh : True := hq; clear hh hq))))) | (refine wpcall_pure rfl (h1) ?_; simp [hk, q1, q2, q3, eTm_def]; (try (refine gen fun q hq => ?_; cases q <;> (try simp [hk, q1, q2, q3, eTm_def] at hq) <;> (try (have hh : True := hq; clear hh hq))))) | (refine T.ret (Done.data (Or.inr rfl) ?_ ?_) <;> simp [Tryz.results78, *] <;> omega) | refine T.r0 fun K hK => ?_ | refine T.r1 fun K hK => ?_ | (refine ⟨by omega, ?_⟩) | refine T.ct rfl ?_ | refine T.cf rfl ?_ | refine T.seq ?_ | refine T.block ?_ | refine T.skip ?_ | refine T.exit ?_
  · refine ACalls.of_body Tryz.func78 (by kernel_rfl) rfl (by kernel_rfl) (by simp [Tryz.ntmps78]) (by simp) ?_
    rw [Tryz.ntmps78]
    repeat' first | ((first | refine aops_end (hK _ ?_) | refine aopsD_end (hK _ ?_) | refine aopsF_end (hK _ ?_)); clear hK K) | ((first | refine aops_go ?_ | refine aopsD_go ?_ | refine aopsF_go ?_); simp [hk, q1, q2, q3, eTm_def]; (try (refine gen fun q hq => ?_; cases q <;> (try simp [hk, q1, q2, q3, eTm_def] at hq) <;> (try (have hh : True := hq; clear hh hq))))) | (refine wpcall_pure rfl (h1) ?_; simp [hk, q1, q2, q3, eTm_def]; (try (refine gen fun q hq => ?_; cases q <;> (try simp [hk, q1, q2, q3, eTm_def] at hq) <;> (try (have hh : True := hq; clear hh hq))))) | (refine T.ret (Done.data (Or.inr rfl) ?_ ?_) <;> simp [Tryz.results78, *] <;> omega) | refine T.r0 fun K hK => ?_ | refine T.r1 fun K hK => ?_ | (refine ⟨by omega, ?_⟩) | refine T.ct rfl ?_ | refine T.cf rfl ?_ | refine T.seq ?_ | refine T.block ?_ | refine T.skip ?_ | refine T.exit ?_
  · refine ACalls.of_body Tryz.func78 (by kernel_rfl) rfl (by kernel_rfl) (by simp [Tryz.ntmps78]) (by simp) ?_
    rw [Tryz.ntmps78]
    repeat' first | ((first | refine aops_end (hK _ ?_) | refine aopsD_end (hK _ ?_) | refine aopsF_end (hK _ ?_)); clear hK K) | ((first | refine aops_go ?_ | refine aopsD_go ?_ | refine aopsF_go ?_); simp [hk, q1, q2, q3, eTm_def]; (try (refine gen fun q hq => ?_; cases q <;> (try simp [hk, q1, q2, q3, eTm_def] at hq) <;> (try (have hh : True := hq; clear hh hq))))) | (refine wpcall_pure rfl (h1) ?_; simp [hk, q1, q2, q3, eTm_def]; (try (refine gen fun q hq => ?_; cases q <;> (try simp [hk, q1, q2, q3, eTm_def] at hq) <;> (try (have hh : True := hq; clear hh hq))))) | (refine T.ret (Done.data (Or.inr rfl) ?_ ?_) <;> simp [Tryz.results78, *] <;> omega) | refine T.r0 fun K hK => ?_ | refine T.r1 fun K hK => ?_ | (refine ⟨by omega, ?_⟩) | refine T.ct rfl ?_ | refine T.cf rfl ?_ | refine T.seq ?_ | refine T.block ?_ | refine T.skip ?_ | refine T.exit ?_
  · refine ACalls.of_body Tryz.func78 (by kernel_rfl) rfl (by kernel_rfl) (by simp [Tryz.ntmps78]) (by simp) ?_
    rw [Tryz.ntmps78]
    repeat' first | ((first | refine aops_end (hK _ ?_) | refine aopsD_end (hK _ ?_) | refine aopsF_end (hK _ ?_)); clear hK K) | ((first | refine aops_go ?_ | refine aopsD_go ?_ | refine aopsF_go ?_); simp [hk, q1, q2, q3, eTm_def]; (try (refine gen fun q hq => ?_; cases q <;> (try simp [hk, q1, q2, q3, eTm_def] at hq) <;> (try (have hh : True := hq; clear hh hq))))) | (refine wpcall_pure rfl (h1) ?_; simp [hk, q1, q2, q3, eTm_def]; (try (refine gen fun q hq => ?_; cases q <;> (try simp [hk, q1, q2, q3, eTm_def] at hq) <;> (try (have hh : True := hq; clear hh hq))))) | (refine T.ret (Done.data (Or.inr rfl) ?_ ?_) <;> simp [Tryz.results78, *] <;> omega) | refine T.r0 fun K hK => ?_ | refine T.r1 fun K hK => ?_ | (refine ⟨by omega, ?_⟩) | refine T.ct rfl ?_ | refine T.cf rfl ?_ | refine T.seq ?_ | refine T.block ?_ | refine T.skip ?_ | refine T.exit ?_

/-- The node behind its simplified operands. -/
theorem l12Simple_node (e : MTm) (d : Nat) (hv : TmV 13 d e) (hn : nTm e ≤ 1099511627776) (hsn : ∀ u ∈ e.kids, nTm (simpM u) ≤ 1099511627776) (ih : ∀ u ∈ e.kids, ACalls Tryz.prog 42 [aTm u] [] (aTm (simpM u)) [] []) :
    ACalls Tryz.prog 42 [aTm e] [] (aTm (simpM e)) [] [] := by
  obtain ⟨hnt, hnf, hlen, hnu⟩ := nTm_parts hn
  have hcp := l2Copy_own e hn
  have h1 := TypeSameS_ok e.fr e.ty hnf
  have hnode : e.kind = 14 → ∃ a, e.kids.map simpM = [a] ∧ (a.kind = 14 → ∃ x, a.kids = [x]) := fun hk => by
    obtain ⟨a, g1, g2⟩ := simp_node hv (by simpa using hk)
    simp only [MTm.kids_mk] at g1
    exact ⟨a, g1, g2⟩
  have e1 : simpM e = simpG (.mk e.kind e.name e.num e.ty e.fr e.label (e.kids.map simpM)) := by rw [simpM, mapM_def]; rfl
  rw [e1]
  refine ACalls.of_body Tryz.func42 (by kernel_rfl) rfl (by kernel_rfl) (by simp [Tryz.ntmps42]) (by simp) ?_
  rw [Tryz.ntmps42]
  repeat' first | ((first | refine aops_end (hK _ ?_) | refine aopsD_end (hK _ ?_) | refine aopsF_end (hK _ ?_)); clear hK K) | ((first | refine aops_go ?_ | refine aopsD_go ?_ | refine aopsF_go ?_); simp; (try (refine gen fun q hq => ?_; cases q <;> (try simp at hq) <;> (try (have hh : True := hq; clear hh hq))))) | (refine wpcall_own rfl (hcp) ?_; simp; (try (refine gen fun q hq => ?_; cases q <;> (try simp at hq) <;> (try (have hh : True := hq; clear hh hq))))) | refine T.rd (id := 5) mixed (fun _ => false) [10] (by kernel_rfl) fun K hK => ?_ | refine T.rd1 (id := 5) mixed (fun _ => false) [10] (by kernel_rfl) fun K hK => ?_ | refine T.r0 fun K hK => ?_ | refine T.r1 fun K hK => ?_ | (refine ⟨by omega, ?_⟩) | refine T.ct rfl ?_ | refine T.cf rfl ?_ | refine T.seq ?_ | refine T.block ?_ | refine T.skip ?_ | refine T.exit ?_
  refine T.loopK (α := Nat × List (List CV)) [1, 2, 3] (fun x => [(4, .i x.1)]) (fun x => []) (fun x => x.2) (fun x _ => [{ sz := 9, ety := 28, rows := (mixM e.kids x.1).map eTm, wr := true }]) (fun x => e.kids.length + 1 - x.1) (fun x => x.1 ≤ e.kids.length) (by simp; rfl) (fun x hx => ?_) (0, []) (by simp) (by simp [mixM_zero]) (by simp [mixM_zero]) (by simp)
  obtain ⟨p, G⟩ := x
  dsimp only at hx ⊢
  simp only [ups, List.set_cons_zero, List.set_cons_succ, List.cons_append, List.nil_append]
  by_cases hlt : p < e.kids.length
  · obtain ⟨u, ht⟩ := get_lt hlt
    have htm : u ∈ e.kids := List.mem_of_getElem? ht
    have hgt : e.kids[p] = u := by rw [List.getElem?_eq_getElem hlt] at ht; exact Option.some.inj ht
    have hdr : e.kids.drop p = u :: e.kids.drop (p + 1) := by rw [List.drop_eq_getElem_cons hlt, hgt]
    have hu := ih u htm
    have hms := mixM_set ht
    have hml := mixM_len e.kids (p := p) (by omega)
    generalize mixM e.kids p = Z at *
    generalize simpM u = su at *
    repeat' first | ((first | refine aops_end (hK _ ?_) | refine aopsD_end (hK _ ?_) | refine aopsF_end (hK _ ?_)); clear hK K) | ((first | refine aops_go ?_ | refine aopsD_go ?_ | refine aopsF_go ?_); simp [hlt, hgt, hml]; (try simp (disch := omega) only [wrap64]); (try (refine gen fun q hq => ?_; cases q <;> (try simp [hlt, hgt, hml] at hq) <;> (try (have hh : True := hq; clear hh hq))))) | (refine wpcall_pure rfl (hu) ?_; simp [hlt, hgt, hml]; (try simp (disch := omega) only [wrap64]); (try (refine gen fun q hq => ?_; cases q <;> (try simp [hlt, hgt, hml] at hq) <;> (try (have hh : True := hq; clear hh hq))))) | (refine ⟨by omega, by omega, ?_⟩) | (refine ⟨(p + 1, _), by dsimp only; omega, by dsimp only; omega, rfl, ?_, ?_⟩ <;> simp (disch := omega) [wrap64, ← hms, eTm_def, List.map_set]) | refine T.rd (id := 5) mixed (fun _ => false) [10] (by kernel_rfl) fun K hK => ?_ | refine T.rd1 (id := 5) mixed (fun _ => false) [10] (by kernel_rfl) fun K hK => ?_ | refine T.r0 fun K hK => ?_ | refine T.r1 fun K hK => ?_ | (refine ⟨by omega, ?_⟩) | refine T.ct rfl ?_ | refine T.cf rfl ?_ | refine T.seq ?_ | refine T.block ?_ | refine T.skip ?_ | refine T.exit ?_
  · have hp' : p = e.kids.length := by omega
    subst hp'
    rw [mixM_all]
    have hml : (e.kids.map simpM).length = e.kids.length := by simp
    by_cases hk : e.kind = 14
    · obtain ⟨a, ha, ha2⟩ := hnode hk
      have hkl : e.kids.length = 1 := by rw [← hml, ha]; rfl
      rw [ha, hkl]
      cases hs : sameTy e.fr e.ty with
      | true =>
        rw [hs] at h1
        rw [show simpG (.mk e.kind e.name e.num e.ty e.fr e.label [a]) = a by simp [simpG, hk, hs]]
        repeat' first | ((first | refine aops_end (hK _ ?_) | refine aopsD_end (hK _ ?_) | refine aopsF_end (hK _ ?_)); clear hK K) | ((first | refine aops_go ?_ | refine aopsD_go ?_ | refine aopsF_go ?_); simp [hlt, hk, hkl, eTm_def]; (try (refine gen fun q hq => ?_; cases q <;> (try simp [hlt, hk, hkl, eTm_def] at hq) <;> (try (have hh : True := hq; clear hh hq))))) | (refine wpcall_pure rfl (h1) ?_; simp [hlt, hk, hkl, eTm_def]; (try (refine gen fun q hq => ?_; cases q <;> (try simp [hlt, hk, hkl, eTm_def] at hq) <;> (try (have hh : True := hq; clear hh hq))))) | (refine T.ret (Done.val (Or.inr rfl) ?_) <;> simp [resAs, Tryz.results42] <;> omega) | refine T.rd (id := 5) mixed (fun _ => false) [10] (by kernel_rfl) fun K hK => ?_ | refine T.rd1 (id := 5) mixed (fun _ => false) [10] (by kernel_rfl) fun K hK => ?_ | refine T.r0 fun K hK => ?_ | refine T.r1 fun K hK => ?_ | (refine ⟨by omega, ?_⟩) | refine T.ct rfl ?_ | refine T.cf rfl ?_ | refine T.seq ?_ | refine T.block ?_ | refine T.skip ?_ | refine T.exit ?_
      | false =>
        rw [hs] at h1
        obtain ⟨u0, hu0⟩ : ∃ u0, e.kids = [u0] := by
          match h : e.kids, hkl with
          | [u0], _ => exact ⟨u0, rfl⟩
        have haf : nTy a.fr ≤ 1099511627776 := by
          have h3 := hsn u0 (by simp [hu0])
          rw [hu0] at ha; simp at ha; rw [ha] at h3
          exact (nTm_parts h3).2.1
        have hb := l12Back_ok (.mk e.kind e.name e.num e.ty e.fr e.label [a]) a (by simp) haf
        by_cases hnq : e.fr.kind = 1 ∧ a.kind = 14 ∧ a.ty.kind = 1 ∧ sameTy e.ty a.fr = true
        · obtain ⟨x, hx2⟩ := ha2 hnq.2.1
          have e2 : simpG (.mk e.kind e.name e.num e.ty e.fr e.label [a]) = x := by simp [simpG, hk, hs, hnq.1, hnq.2.1, hnq.2.2.1, hnq.2.2.2, hx2]
          rw [e2]
          simp only [MTm.fr_mk, MTm.ty_mk, hnq, and_self, decide_true] at hb
          repeat' first | ((first | refine aops_end (hK _ ?_) | refine aopsD_end (hK _ ?_) | refine aopsF_end (hK _ ?_)); clear hK K) | ((first | refine aops_go ?_ | refine aopsD_go ?_ | refine aopsF_go ?_); simp [hlt, hk, hkl, eTm_def, hx2]; (try (refine gen fun q hq => ?_; cases q <;> (try simp [hlt, hk, hkl, eTm_def, hx2] at hq) <;> (try (have hh : True := hq; clear hh hq))))) | (refine wpcall_pure rfl (h1) ?_; simp [hlt, hk, hkl, eTm_def, hx2]; (try (refine gen fun q hq => ?_; cases q <;> (try simp [hlt, hk, hkl, eTm_def, hx2] at hq) <;> (try (have hh : True := hq; clear hh hq))))) | (refine wpcall_pure ?_ (hb) ?_; (focus (solve | simp [hlt, hk, hkl, eTm_def, hx2])); simp [hlt, hk, hkl, eTm_def, hx2]; (try (refine gen fun q hq => ?_; cases q <;> (try simp [hlt, hk, hkl, eTm_def, hx2] at hq) <;> (try (have hh : True := hq; clear hh hq))))) | (refine T.ret (Done.val (Or.inr rfl) ?_) <;> simp [resAs, Tryz.results42] <;> omega) | refine T.rd (id := 5) mixed (fun _ => false) [10] (by kernel_rfl) fun K hK => ?_ | refine T.rd1 (id := 5) mixed (fun _ => false) [10] (by kernel_rfl) fun K hK => ?_ | refine T.r0 fun K hK => ?_ | refine T.r1 fun K hK => ?_ | (refine ⟨by omega, ?_⟩) | refine T.ct rfl ?_ | refine T.cf rfl ?_ | refine T.seq ?_ | refine T.block ?_ | refine T.skip ?_ | refine T.exit ?_
        · have e2 : simpG (.mk e.kind e.name e.num e.ty e.fr e.label [a]) = .mk e.kind e.name e.num e.ty e.fr e.label [a] := by
            simp only [simpG, MTm.kind_mk, MTm.kids_mk, MTm.fr_mk, MTm.ty_mk, hk, hs, if_true, Bool.false_eq_true, if_false]
            rw [if_neg hnq]
          rw [e2]
          simp only [MTm.fr_mk, MTm.ty_mk, hnq, decide_false] at hb
          repeat' first | ((first | refine aops_end (hK _ ?_) | refine aopsD_end (hK _ ?_) | refine aopsF_end (hK _ ?_)); clear hK K) | ((first | refine aops_go ?_ | refine aopsD_go ?_ | refine aopsF_go ?_); simp [hlt, hk, hkl, eTm_def]; (try (refine gen fun q hq => ?_; cases q <;> (try simp [hlt, hk, hkl, eTm_def] at hq) <;> (try (have hh : True := hq; clear hh hq))))) | (refine wpcall_pure rfl (h1) ?_; simp [hlt, hk, hkl, eTm_def]; (try (refine gen fun q hq => ?_; cases q <;> (try simp [hlt, hk, hkl, eTm_def] at hq) <;> (try (have hh : True := hq; clear hh hq))))) | (refine wpcall_pure ?_ (hb) ?_; (focus (solve | simp [hlt, hk, hkl, eTm_def])); simp [hlt, hk, hkl, eTm_def]; (try (refine gen fun q hq => ?_; cases q <;> (try simp [hlt, hk, hkl, eTm_def] at hq) <;> (try (have hh : True := hq; clear hh hq))))) | (refine T.ret (Done.val (Or.inr rfl) ?_) <;> simp [resAs, Tryz.results42] <;> omega) | refine T.rd (id := 5) mixed (fun _ => false) [10] (by kernel_rfl) fun K hK => ?_ | refine T.rd1 (id := 5) mixed (fun _ => false) [10] (by kernel_rfl) fun K hK => ?_ | refine T.r0 fun K hK => ?_ | refine T.r1 fun K hK => ?_ | (refine ⟨by omega, ?_⟩) | refine T.ct rfl ?_ | refine T.cf rfl ?_ | refine T.seq ?_ | refine T.block ?_ | refine T.skip ?_ | refine T.exit ?_
    · rw [show simpG (.mk e.kind e.name e.num e.ty e.fr e.label (e.kids.map simpM)) = .mk e.kind e.name e.num e.ty e.fr e.label (e.kids.map simpM) by simp [simpG, hk]]
      generalize e.kids.map simpM = Z at *
      repeat' first | ((first | refine aops_end (hK _ ?_) | refine aopsD_end (hK _ ?_) | refine aopsF_end (hK _ ?_)); clear hK K) | ((first | refine aops_go ?_ | refine aopsD_go ?_ | refine aopsF_go ?_); simp [hlt, hk, hml]; (try (refine gen fun q hq => ?_; cases q <;> (try simp [hlt, hk, hml] at hq) <;> (try (have hh : True := hq; clear hh hq))))) | (refine T.ret (Done.val (Or.inr rfl) ?_) <;> simp [resAs, Tryz.results42, hml] <;> omega) | refine T.rd (id := 5) mixed (fun _ => false) [10] (by kernel_rfl) fun K hK => ?_ | refine T.rd1 (id := 5) mixed (fun _ => false) [10] (by kernel_rfl) fun K hK => ?_ | refine T.r0 fun K hK => ?_ | refine T.r1 fun K hK => ?_ | (refine ⟨by omega, ?_⟩) | refine T.ct rfl ?_ | refine T.cf rfl ?_ | refine T.seq ?_ | refine T.block ?_ | refine T.skip ?_ | refine T.exit ?_

theorem l12Simple_ok : ∀ (e : MTm) (d : Nat), TmV 13 d e → nodesM e ≤ 200 → ACalls Tryz.prog 42 [aTm e] [] (aTm (simpM e)) [] [] := by
  intro e
  induction e using MTm.ind with
  | h e ih =>
    intro d hv hn
    have hs := hv.small
    have hk : ∀ u ∈ e.kids, (∃ d', TmV 13 d' u) ∧ nodesM u ≤ 200 := fun u hu => by
      obtain ⟨d', rfl, _, _, _, hk⟩ := shapeTm_kids hv.shape
      exact ⟨⟨d', TmV.of (hk u hu)⟩, by have := nodesM_kid hu; omega⟩
    refine l12Simple_node e d hv (by omega) (fun u hu => ?_) (fun u hu => ?_)
    · obtain ⟨⟨d', h1⟩, h2⟩ := hk u hu
      obtain ⟨g1, g2, _⟩ := simp_law h1
      have := g1.small
      omega
    · obtain ⟨⟨d', h1⟩, h2⟩ := hk u hu
      exact ih u hu d' h1 h2

end Go.Proofs.YtdcahkkclldhmaaGreat

namespace Go.Proofs.YtdcahkkclldhmaaGreat
open Go Go.Av
attribute [local irreducible] T ACalls TX EX LX Draws Some_ ACallsX eTy eTm MTy.kind MTy.kids MTm.kind MTm.name MTm.num MTm.ty MTm.fr MTm.label MTm.kids
attribute [local simp] eTy_def eTm_def
set_option maxHeartbeats 16000000
set_option maxRecDepth 8000

/-- What l4Exact answers. -/
def L4E (e : MTm) (ts : List MTy) (o : Option MTy) : Prop := ∃ t', (∀ t, o = some t → t' = t) ∧ ACalls Tryz.prog 144 [aTm e, .l (ts.map eTy)] [] (.tup [aTy t', .b o.isSome]) [] []

theorem l4E14 (c : List MBd) (e : MTm) (a : MTy) (hk : e.kind = 14) (ha : shapeTy 4 a = true) (he : shapeTy 4 e.ty = true) : L4E e [a] (castN c e [a]) := by
  have h1 := l1Copy_ok e.ty (by have := shape4 he; omega)
  have h2 := TypeSameS_ok a e.fr (by have := shape4 ha; omega)
  rw [show castN c e [a] = if sameTy a e.fr = true then some e.ty else none from cn14 a hk]
  refine ⟨e.ty, ?_, ?_⟩
  · intro t h; split at h <;> simp at h; exact h
  rw [show (if sameTy a e.fr = true then some e.ty else none).isSome = sameTy a e.fr by cases sameTy a e.fr <;> rfl]
  generalize sameTy a e.fr = q at h2 ⊢
  refine ACalls.of_body Tryz.func144 (by kernel_rfl) rfl (by kernel_rfl) (by simp [Tryz.ntmps144]) (by simp) ?_
  rw [Tryz.ntmps144]
  repeat' first | ((first | refine aops_end (hK _ ?_) | refine aopsD_end (hK _ ?_) | refine aopsF_end (hK _ ?_)); clear hK K) | ((first | refine aops_go ?_ | refine aopsD_go ?_ | refine aopsF_go ?_); simp [hk]; (try (refine gen fun q hq => ?_; cases q <;> (try simp [hk] at hq) <;> (try (have hh : True := hq; clear hh hq))))) | (refine wpcall_pure rfl (h1) ?_; simp [hk]; (try (refine gen fun q hq => ?_; cases q <;> (try simp [hk] at hq) <;> (try (have hh : True := hq; clear hh hq))))) | (refine wpcall_pure rfl (h2) ?_; simp [hk]; (try (refine gen fun q hq => ?_; cases q <;> (try simp [hk] at hq) <;> (try (have hh : True := hq; clear hh hq))))) | (refine T.ret (Done.tup (Or.inr rfl) ?_) <;> simp [resAs, Tryz.results144, *] <;> omega) | refine T.rd (id := 3) mixed (fun _ => false) [9] (by kernel_rfl) fun K hK => ?_ | refine T.rd1 (id := 3) mixed (fun _ => false) [9] (by kernel_rfl) fun K hK => ?_ | refine T.rd (id := 5) mixed (fun _ => false) [] (by kernel_rfl) fun K hK => ?_ | refine T.rd1 (id := 5) mixed (fun _ => false) [] (by kernel_rfl) fun K hK => ?_ | refine T.rd (id := 9) mixed (fun _ => false) [13] (by kernel_rfl) fun K hK => ?_ | refine T.rd1 (id := 9) mixed (fun _ => false) [13] (by kernel_rfl) fun K hK => ?_ | refine T.rd (id := 11) mixed (fun _ => false) [13] (by kernel_rfl) fun K hK => ?_ | refine T.rd1 (id := 11) mixed (fun _ => false) [13] (by kernel_rfl) fun K hK => ?_ | refine T.rd (id := 13) mixed (fun _ => false) [18] (by kernel_rfl) fun K hK => ?_ | refine T.rd1 (id := 13) mixed (fun _ => false) [18] (by kernel_rfl) fun K hK => ?_ | refine T.rd (id := 15) mixed (fun _ => false) [9] (by kernel_rfl) fun K hK => ?_ | refine T.rd1 (id := 15) mixed (fun _ => false) [9] (by kernel_rfl) fun K hK => ?_ | refine T.rd (id := 18) mixed (fun _ => false) [10] (by kernel_rfl) fun K hK => ?_ | refine T.rd1 (id := 18) mixed (fun _ => false) [10] (by kernel_rfl) fun K hK => ?_ | refine T.r0 fun K hK => ?_ | refine T.r1 fun K hK => ?_ | (refine ⟨by omega, ?_⟩) | refine T.ct rfl ?_ | refine T.cf rfl ?_ | refine T.seq ?_ | refine T.block ?_ | refine T.skip ?_ | refine T.exit ?_

theorem l4E7 (c : List MBd) (e : MTm) (a b : MTy) (hk : e.kind = 7) (ha : shapeTy 4 a = true) (hb : shapeTy 4 b = true) : L4E e [a, b] (castN c e [a, b]) := by
  have h1 := TypeSameS_ok a intT (by have := shape4 ha; omega)
  have h2 := TypeSameS_ok b intT (by have := shape4 hb; omega)
  have h3 := l3Int_ok
  have h4 := l3Bool_ok
  have e1 : castN c e [a, b] = if (sameTy a intT && sameTy b intT) = true then some intT else none := cn7 a b hk
  rw [e1]
  refine ⟨intT, ?_, ?_⟩
  · intro t h; split at h <;> simp at h; exact h
  rw [show (if (sameTy a intT && sameTy b intT) = true then some intT else none).isSome = (sameTy a intT && sameTy b intT) by cases (sameTy a intT && sameTy b intT) <;> rfl]
  generalize sameTy a intT = q1 at h1 ⊢
  generalize sameTy b intT = q2 at h2 ⊢
  refine ACalls.of_body Tryz.func144 (by kernel_rfl) rfl (by kernel_rfl) (by simp [Tryz.ntmps144]) (by simp) ?_
  rw [Tryz.ntmps144]
  repeat' first | ((first | refine aops_end (hK _ ?_) | refine aopsD_end (hK _ ?_) | refine aopsF_end (hK _ ?_)); clear hK K) | ((first | refine aops_go ?_ | refine aopsD_go ?_ | refine aopsF_go ?_); simp [hk]; (try (refine gen fun q hq => ?_; cases q <;> (try simp [hk] at hq) <;> (try (have hh : True := hq; clear hh hq))))) | (refine wpcall_pure rfl (h3) ?_; simp [hk]; (try (refine gen fun q hq => ?_; cases q <;> (try simp [hk] at hq) <;> (try (have hh : True := hq; clear hh hq))))) | (refine wpcall_pure rfl (h4) ?_; simp [hk]; (try (refine gen fun q hq => ?_; cases q <;> (try simp [hk] at hq) <;> (try (have hh : True := hq; clear hh hq))))) | (refine wpcall_pure ?_ (h1) ?_; (focus (solve | simp [hk])); simp [hk]; (try (refine gen fun q hq => ?_; cases q <;> (try simp [hk] at hq) <;> (try (have hh : True := hq; clear hh hq))))) | (refine wpcall_pure ?_ (h2) ?_; (focus (solve | simp [hk])); simp [hk]; (try (refine gen fun q hq => ?_; cases q <;> (try simp [hk] at hq) <;> (try (have hh : True := hq; clear hh hq))))) | (refine T.ret (Done.tup (Or.inr rfl) ?_) <;> simp [resAs, Tryz.results144, *] <;> omega) | refine T.rd (id := 3) mixed (fun _ => false) [9] (by kernel_rfl) fun K hK => ?_ | refine T.rd1 (id := 3) mixed (fun _ => false) [9] (by kernel_rfl) fun K hK => ?_ | refine T.rd (id := 5) mixed (fun _ => false) [] (by kernel_rfl) fun K hK => ?_ | refine T.rd1 (id := 5) mixed (fun _ => false) [] (by kernel_rfl) fun K hK => ?_ | refine T.rd (id := 9) mixed (fun _ => false) [13] (by kernel_rfl) fun K hK => ?_ | refine T.rd1 (id := 9) mixed (fun _ => false) [13] (by kernel_rfl) fun K hK => ?_ | refine T.rd (id := 11) mixed (fun _ => false) [13] (by kernel_rfl) fun K hK => ?_ | refine T.rd1 (id := 11) mixed (fun _ => false) [13] (by kernel_rfl) fun K hK => ?_ | refine T.rd (id := 13) mixed (fun _ => false) [18] (by kernel_rfl) fun K hK => ?_ | refine T.rd1 (id := 13) mixed (fun _ => false) [18] (by kernel_rfl) fun K hK => ?_ | refine T.rd (id := 15) mixed (fun _ => false) [9] (by kernel_rfl) fun K hK => ?_ | refine T.rd1 (id := 15) mixed (fun _ => false) [9] (by kernel_rfl) fun K hK => ?_ | refine T.rd (id := 18) mixed (fun _ => false) [10] (by kernel_rfl) fun K hK => ?_ | refine T.rd1 (id := 18) mixed (fun _ => false) [10] (by kernel_rfl) fun K hK => ?_ | refine T.r0 fun K hK => ?_ | refine T.r1 fun K hK => ?_ | (refine ⟨by omega, ?_⟩) | refine T.ct rfl ?_ | refine T.cf rfl ?_ | refine T.seq ?_ | refine T.block ?_ | refine T.skip ?_ | refine T.exit ?_

theorem l4E8 (c : List MBd) (e : MTm) (a b : MTy) (hk : e.kind = 8) (ha : shapeTy 4 a = true) (hb : shapeTy 4 b = true) : L4E e [a, b] (castN c e [a, b]) := by
  have h1 := TypeSameS_ok a intT (by have := shape4 ha; omega)
  have h2 := TypeSameS_ok b intT (by have := shape4 hb; omega)
  have h3 := l3Int_ok
  have h4 := l3Bool_ok
  have e1 : castN c e [a, b] = if (sameTy a intT && sameTy b intT) = true then some boolT else none := cn8 a b hk
  rw [e1]
  refine ⟨boolT, ?_, ?_⟩
  · intro t h; split at h <;> simp at h; exact h
  rw [show (if (sameTy a intT && sameTy b intT) = true then some boolT else none).isSome = (sameTy a intT && sameTy b intT) by cases (sameTy a intT && sameTy b intT) <;> rfl]
  generalize sameTy a intT = q1 at h1 ⊢
  generalize sameTy b intT = q2 at h2 ⊢
  refine ACalls.of_body Tryz.func144 (by kernel_rfl) rfl (by kernel_rfl) (by simp [Tryz.ntmps144]) (by simp) ?_
  rw [Tryz.ntmps144]
  repeat' first | ((first | refine aops_end (hK _ ?_) | refine aopsD_end (hK _ ?_) | refine aopsF_end (hK _ ?_)); clear hK K) | ((first | refine aops_go ?_ | refine aopsD_go ?_ | refine aopsF_go ?_); simp [hk]; (try (refine gen fun q hq => ?_; cases q <;> (try simp [hk] at hq) <;> (try (have hh : True := hq; clear hh hq))))) | (refine wpcall_pure rfl (h3) ?_; simp [hk]; (try (refine gen fun q hq => ?_; cases q <;> (try simp [hk] at hq) <;> (try (have hh : True := hq; clear hh hq))))) | (refine wpcall_pure rfl (h4) ?_; simp [hk]; (try (refine gen fun q hq => ?_; cases q <;> (try simp [hk] at hq) <;> (try (have hh : True := hq; clear hh hq))))) | (refine wpcall_pure ?_ (h1) ?_; (focus (solve | simp [hk])); simp [hk]; (try (refine gen fun q hq => ?_; cases q <;> (try simp [hk] at hq) <;> (try (have hh : True := hq; clear hh hq))))) | (refine wpcall_pure ?_ (h2) ?_; (focus (solve | simp [hk])); simp [hk]; (try (refine gen fun q hq => ?_; cases q <;> (try simp [hk] at hq) <;> (try (have hh : True := hq; clear hh hq))))) | (refine T.ret (Done.tup (Or.inr rfl) ?_) <;> simp [resAs, Tryz.results144, *] <;> omega) | refine T.rd (id := 3) mixed (fun _ => false) [9] (by kernel_rfl) fun K hK => ?_ | refine T.rd1 (id := 3) mixed (fun _ => false) [9] (by kernel_rfl) fun K hK => ?_ | refine T.rd (id := 5) mixed (fun _ => false) [] (by kernel_rfl) fun K hK => ?_ | refine T.rd1 (id := 5) mixed (fun _ => false) [] (by kernel_rfl) fun K hK => ?_ | refine T.rd (id := 9) mixed (fun _ => false) [13] (by kernel_rfl) fun K hK => ?_ | refine T.rd1 (id := 9) mixed (fun _ => false) [13] (by kernel_rfl) fun K hK => ?_ | refine T.rd (id := 11) mixed (fun _ => false) [13] (by kernel_rfl) fun K hK => ?_ | refine T.rd1 (id := 11) mixed (fun _ => false) [13] (by kernel_rfl) fun K hK => ?_ | refine T.rd (id := 13) mixed (fun _ => false) [18] (by kernel_rfl) fun K hK => ?_ | refine T.rd1 (id := 13) mixed (fun _ => false) [18] (by kernel_rfl) fun K hK => ?_ | refine T.rd (id := 15) mixed (fun _ => false) [9] (by kernel_rfl) fun K hK => ?_ | refine T.rd1 (id := 15) mixed (fun _ => false) [9] (by kernel_rfl) fun K hK => ?_ | refine T.rd (id := 18) mixed (fun _ => false) [10] (by kernel_rfl) fun K hK => ?_ | refine T.rd1 (id := 18) mixed (fun _ => false) [10] (by kernel_rfl) fun K hK => ?_ | refine T.r0 fun K hK => ?_ | refine T.r1 fun K hK => ?_ | (refine ⟨by omega, ?_⟩) | refine T.ct rfl ?_ | refine T.cf rfl ?_ | refine T.seq ?_ | refine T.block ?_ | refine T.skip ?_ | refine T.exit ?_

theorem l4E9 (c : List MBd) (e : MTm) (a b d : MTy) (hk : e.kind = 9) (ha : shapeTy 4 a = true) (hb : shapeTy 4 b = true) : L4E e [a, b, d] (castN c e [a, b, d]) := by
  have h1 := TypeSameS_ok a boolT (by have := shape4 ha; omega)
  have h2 := TypeSameS_ok b d (by have := shape4 hb; omega)
  have h3 := l3Bool_ok
  have h4 := l1Copy_ok b (by have := shape4 hb; omega)
  have e1 : castN c e [a, b, d] = if (sameTy a boolT && sameTy b d) = true then some b else none := cn9 a b d hk hb
  rw [e1]
  refine ⟨b, ?_, ?_⟩
  · intro t h; split at h <;> simp at h; exact h
  rw [show (if (sameTy a boolT && sameTy b d) = true then some b else none).isSome = (sameTy a boolT && sameTy b d) by cases (sameTy a boolT && sameTy b d) <;> rfl]
  generalize sameTy a boolT = q1 at h1 ⊢
  generalize sameTy b d = q2 at h2 ⊢
  refine ACalls.of_body Tryz.func144 (by kernel_rfl) rfl (by kernel_rfl) (by simp [Tryz.ntmps144]) (by simp) ?_
  rw [Tryz.ntmps144]
  repeat' first | ((first | refine aops_end (hK _ ?_) | refine aopsD_end (hK _ ?_) | refine aopsF_end (hK _ ?_)); clear hK K) | ((first | refine aops_go ?_ | refine aopsD_go ?_ | refine aopsF_go ?_); simp [hk]; (try (refine gen fun q hq => ?_; cases q <;> (try simp [hk] at hq) <;> (try (have hh : True := hq; clear hh hq))))) | (refine wpcall_pure rfl (h3) ?_; simp [hk]; (try (refine gen fun q hq => ?_; cases q <;> (try simp [hk] at hq) <;> (try (have hh : True := hq; clear hh hq))))) | (refine wpcall_pure rfl (h4) ?_; simp [hk]; (try (refine gen fun q hq => ?_; cases q <;> (try simp [hk] at hq) <;> (try (have hh : True := hq; clear hh hq))))) | (refine wpcall_pure ?_ (h1) ?_; (focus (solve | simp [hk])); simp [hk]; (try (refine gen fun q hq => ?_; cases q <;> (try simp [hk] at hq) <;> (try (have hh : True := hq; clear hh hq))))) | (refine wpcall_pure rfl (h2) ?_; simp [hk]; (try (refine gen fun q hq => ?_; cases q <;> (try simp [hk] at hq) <;> (try (have hh : True := hq; clear hh hq))))) | (refine T.ret (Done.tup (Or.inr rfl) ?_) <;> simp [resAs, Tryz.results144, *] <;> omega) | refine T.rd (id := 3) mixed (fun _ => false) [9] (by kernel_rfl) fun K hK => ?_ | refine T.rd1 (id := 3) mixed (fun _ => false) [9] (by kernel_rfl) fun K hK => ?_ | refine T.rd (id := 5) mixed (fun _ => false) [] (by kernel_rfl) fun K hK => ?_ | refine T.rd1 (id := 5) mixed (fun _ => false) [] (by kernel_rfl) fun K hK => ?_ | refine T.rd (id := 9) mixed (fun _ => false) [13] (by kernel_rfl) fun K hK => ?_ | refine T.rd1 (id := 9) mixed (fun _ => false) [13] (by kernel_rfl) fun K hK => ?_ | refine T.rd (id := 11) mixed (fun _ => false) [13] (by kernel_rfl) fun K hK => ?_ | refine T.rd1 (id := 11) mixed (fun _ => false) [13] (by kernel_rfl) fun K hK => ?_ | refine T.rd (id := 13) mixed (fun _ => false) [18] (by kernel_rfl) fun K hK => ?_ | refine T.rd1 (id := 13) mixed (fun _ => false) [18] (by kernel_rfl) fun K hK => ?_ | refine T.rd (id := 15) mixed (fun _ => false) [9] (by kernel_rfl) fun K hK => ?_ | refine T.rd1 (id := 15) mixed (fun _ => false) [9] (by kernel_rfl) fun K hK => ?_ | refine T.rd (id := 18) mixed (fun _ => false) [10] (by kernel_rfl) fun K hK => ?_ | refine T.rd1 (id := 18) mixed (fun _ => false) [10] (by kernel_rfl) fun K hK => ?_ | refine T.r0 fun K hK => ?_ | refine T.r1 fun K hK => ?_ | (refine ⟨by omega, ?_⟩) | refine T.ct rfl ?_ | refine T.cf rfl ?_ | refine T.seq ?_ | refine T.block ?_ | refine T.skip ?_ | refine T.exit ?_

theorem l4E10 (c : List MBd) (e : MTm) (a b : MTy) (hk : e.kind = 10) (ha : shapeTy 4 a = true) (hb : shapeTy 4 b = true) : L4E e [a, b] (castN c e [a, b]) := by
  have h1 := l3Two_ok 5 a b (by have := shape4 ha; omega) (by have := shape4 hb; omega)
  rw [show castN c e [a, b] = if shapeTy 4 (.mk 5 [a, b]) = true then some (.mk 5 [a, b]) else none from cn10 a b hk]
  refine ⟨.mk 5 [a, b], ?_, ?_⟩
  · intro t h; split at h <;> simp at h; exact h
  rw [show (if shapeTy 4 (.mk 5 [a, b]) = true then some (MTy.mk 5 [a, b]) else none).isSome = shapeTy 4 (.mk 5 [a, b]) by cases shapeTy 4 (.mk 5 [a, b]) <;> rfl]
  generalize shapeTy 4 (.mk 5 [a, b]) = q at h1 ⊢
  refine ACalls.of_body Tryz.func144 (by kernel_rfl) rfl (by kernel_rfl) (by simp [Tryz.ntmps144]) (by simp) ?_
  rw [Tryz.ntmps144]
  repeat' first | ((first | refine aops_end (hK _ ?_) | refine aopsD_end (hK _ ?_) | refine aopsF_end (hK _ ?_)); clear hK K) | ((first | refine aops_go ?_ | refine aopsD_go ?_ | refine aopsF_go ?_); simp [hk]; (try (refine gen fun q hq => ?_; cases q <;> (try simp [hk] at hq) <;> (try (have hh : True := hq; clear hh hq))))) | (refine wpcall_pure rfl (h1) ?_; simp [hk]; (try (refine gen fun q hq => ?_; cases q <;> (try simp [hk] at hq) <;> (try (have hh : True := hq; clear hh hq))))) | (refine T.ret (Done.tup (Or.inr rfl) ?_) <;> simp [resAs, Tryz.results144, *] <;> omega) | refine T.rd (id := 3) mixed (fun _ => false) [9] (by kernel_rfl) fun K hK => ?_ | refine T.rd1 (id := 3) mixed (fun _ => false) [9] (by kernel_rfl) fun K hK => ?_ | refine T.rd (id := 5) mixed (fun _ => false) [] (by kernel_rfl) fun K hK => ?_ | refine T.rd1 (id := 5) mixed (fun _ => false) [] (by kernel_rfl) fun K hK => ?_ | refine T.rd (id := 9) mixed (fun _ => false) [13] (by kernel_rfl) fun K hK => ?_ | refine T.rd1 (id := 9) mixed (fun _ => false) [13] (by kernel_rfl) fun K hK => ?_ | refine T.rd (id := 11) mixed (fun _ => false) [13] (by kernel_rfl) fun K hK => ?_ | refine T.rd1 (id := 11) mixed (fun _ => false) [13] (by kernel_rfl) fun K hK => ?_ | refine T.rd (id := 13) mixed (fun _ => false) [18] (by kernel_rfl) fun K hK => ?_ | refine T.rd1 (id := 13) mixed (fun _ => false) [18] (by kernel_rfl) fun K hK => ?_ | refine T.rd (id := 15) mixed (fun _ => false) [9] (by kernel_rfl) fun K hK => ?_ | refine T.rd1 (id := 15) mixed (fun _ => false) [9] (by kernel_rfl) fun K hK => ?_ | refine T.rd (id := 18) mixed (fun _ => false) [10] (by kernel_rfl) fun K hK => ?_ | refine T.rd1 (id := 18) mixed (fun _ => false) [10] (by kernel_rfl) fun K hK => ?_ | refine T.r0 fun K hK => ?_ | refine T.r1 fun K hK => ?_ | (refine ⟨by omega, ?_⟩) | refine T.ct rfl ?_ | refine T.cf rfl ?_ | refine T.seq ?_ | refine T.block ?_ | refine T.skip ?_ | refine T.exit ?_

theorem l4E6 (c : List MBd) (e : MTm) (a b : MTy) (hk : e.kind = 6) (ha : shapeTy 4 a = true) (hb : shapeTy 4 b = true) : L4E e [a, b] (castN c e [a, b]) := by
  cases VTy.of ha with
  | any d =>
    rw [show castN c e [anyT, b] = none from cn6n hk (.inl rfl)]
    refine ⟨zeroT, by simp, ?_⟩
    refine ACalls.of_body Tryz.func144 (by kernel_rfl) rfl (by kernel_rfl) (by simp [Tryz.ntmps144]) (by simp) ?_
    rw [Tryz.ntmps144]
    repeat' first | ((first | refine aops_end (hK _ ?_) | refine aopsD_end (hK _ ?_) | refine aopsF_end (hK _ ?_)); clear hK K) | ((first | refine aops_go ?_ | refine aopsD_go ?_ | refine aopsF_go ?_); simp [hk]; (try (refine gen fun q hq => ?_; cases q <;> (try simp [hk] at hq) <;> (try (have hh : True := hq; clear hh hq))))) | (refine T.ret (Done.tup (Or.inr rfl) ?_) <;> simp [resAs, Tryz.results144] <;> omega) | refine T.rd (id := 3) mixed (fun _ => false) [9] (by kernel_rfl) fun K hK => ?_ | refine T.rd1 (id := 3) mixed (fun _ => false) [9] (by kernel_rfl) fun K hK => ?_ | refine T.rd (id := 5) mixed (fun _ => false) [] (by kernel_rfl) fun K hK => ?_ | refine T.rd1 (id := 5) mixed (fun _ => false) [] (by kernel_rfl) fun K hK => ?_ | refine T.rd (id := 9) mixed (fun _ => false) [13] (by kernel_rfl) fun K hK => ?_ | refine T.rd1 (id := 9) mixed (fun _ => false) [13] (by kernel_rfl) fun K hK => ?_ | refine T.rd (id := 11) mixed (fun _ => false) [13] (by kernel_rfl) fun K hK => ?_ | refine T.rd1 (id := 11) mixed (fun _ => false) [13] (by kernel_rfl) fun K hK => ?_ | refine T.rd (id := 13) mixed (fun _ => false) [18] (by kernel_rfl) fun K hK => ?_ | refine T.rd1 (id := 13) mixed (fun _ => false) [18] (by kernel_rfl) fun K hK => ?_ | refine T.rd (id := 15) mixed (fun _ => false) [9] (by kernel_rfl) fun K hK => ?_ | refine T.rd1 (id := 15) mixed (fun _ => false) [9] (by kernel_rfl) fun K hK => ?_ | refine T.rd (id := 18) mixed (fun _ => false) [10] (by kernel_rfl) fun K hK => ?_ | refine T.rd1 (id := 18) mixed (fun _ => false) [10] (by kernel_rfl) fun K hK => ?_ | refine T.r0 fun K hK => ?_ | refine T.r1 fun K hK => ?_ | (refine ⟨by omega, ?_⟩) | refine T.ct rfl ?_ | refine T.cf rfl ?_ | refine T.seq ?_ | refine T.block ?_ | refine T.skip ?_ | refine T.exit ?_
  | int d =>
    rw [show castN c e [intT, b] = none from cn6n hk (.inr (.inl rfl))]
    refine ⟨zeroT, by simp, ?_⟩
    refine ACalls.of_body Tryz.func144 (by kernel_rfl) rfl (by kernel_rfl) (by simp [Tryz.ntmps144]) (by simp) ?_
    rw [Tryz.ntmps144]
    repeat' first | ((first | refine aops_end (hK _ ?_) | refine aopsD_end (hK _ ?_) | refine aopsF_end (hK _ ?_)); clear hK K) | ((first | refine aops_go ?_ | refine aopsD_go ?_ | refine aopsF_go ?_); simp [hk]; (try (refine gen fun q hq => ?_; cases q <;> (try simp [hk] at hq) <;> (try (have hh : True := hq; clear hh hq))))) | (refine T.ret (Done.tup (Or.inr rfl) ?_) <;> simp [resAs, Tryz.results144] <;> omega) | refine T.rd (id := 3) mixed (fun _ => false) [9] (by kernel_rfl) fun K hK => ?_ | refine T.rd1 (id := 3) mixed (fun _ => false) [9] (by kernel_rfl) fun K hK => ?_ | refine T.rd (id := 5) mixed (fun _ => false) [] (by kernel_rfl) fun K hK => ?_ | refine T.rd1 (id := 5) mixed (fun _ => false) [] (by kernel_rfl) fun K hK => ?_ | refine T.rd (id := 9) mixed (fun _ => false) [13] (by kernel_rfl) fun K hK => ?_ | refine T.rd1 (id := 9) mixed (fun _ => false) [13] (by kernel_rfl) fun K hK => ?_ | refine T.rd (id := 11) mixed (fun _ => false) [13] (by kernel_rfl) fun K hK => ?_ | refine T.rd1 (id := 11) mixed (fun _ => false) [13] (by kernel_rfl) fun K hK => ?_ | refine T.rd (id := 13) mixed (fun _ => false) [18] (by kernel_rfl) fun K hK => ?_ | refine T.rd1 (id := 13) mixed (fun _ => false) [18] (by kernel_rfl) fun K hK => ?_ | refine T.rd (id := 15) mixed (fun _ => false) [9] (by kernel_rfl) fun K hK => ?_ | refine T.rd1 (id := 15) mixed (fun _ => false) [9] (by kernel_rfl) fun K hK => ?_ | refine T.rd (id := 18) mixed (fun _ => false) [10] (by kernel_rfl) fun K hK => ?_ | refine T.rd1 (id := 18) mixed (fun _ => false) [10] (by kernel_rfl) fun K hK => ?_ | refine T.r0 fun K hK => ?_ | refine T.r1 fun K hK => ?_ | (refine ⟨by omega, ?_⟩) | refine T.ct rfl ?_ | refine T.cf rfl ?_ | refine T.seq ?_ | refine T.block ?_ | refine T.skip ?_ | refine T.exit ?_
  | bool d =>
    rw [show castN c e [boolT, b] = none from cn6n hk (.inr (.inr (.inl rfl)))]
    refine ⟨zeroT, by simp, ?_⟩
    refine ACalls.of_body Tryz.func144 (by kernel_rfl) rfl (by kernel_rfl) (by simp [Tryz.ntmps144]) (by simp) ?_
    rw [Tryz.ntmps144]
    repeat' first | ((first | refine aops_end (hK _ ?_) | refine aopsD_end (hK _ ?_) | refine aopsF_end (hK _ ?_)); clear hK K) | ((first | refine aops_go ?_ | refine aopsD_go ?_ | refine aopsF_go ?_); simp [hk]; (try (refine gen fun q hq => ?_; cases q <;> (try simp [hk] at hq) <;> (try (have hh : True := hq; clear hh hq))))) | (refine T.ret (Done.tup (Or.inr rfl) ?_) <;> simp [resAs, Tryz.results144] <;> omega) | refine T.rd (id := 3) mixed (fun _ => false) [9] (by kernel_rfl) fun K hK => ?_ | refine T.rd1 (id := 3) mixed (fun _ => false) [9] (by kernel_rfl) fun K hK => ?_ | refine T.rd (id := 5) mixed (fun _ => false) [] (by kernel_rfl) fun K hK => ?_ | refine T.rd1 (id := 5) mixed (fun _ => false) [] (by kernel_rfl) fun K hK => ?_ | refine T.rd (id := 9) mixed (fun _ => false) [13] (by kernel_rfl) fun K hK => ?_ | refine T.rd1 (id := 9) mixed (fun _ => false) [13] (by kernel_rfl) fun K hK => ?_ | refine T.rd (id := 11) mixed (fun _ => false) [13] (by kernel_rfl) fun K hK => ?_ | refine T.rd1 (id := 11) mixed (fun _ => false) [13] (by kernel_rfl) fun K hK => ?_ | refine T.rd (id := 13) mixed (fun _ => false) [18] (by kernel_rfl) fun K hK => ?_ | refine T.rd1 (id := 13) mixed (fun _ => false) [18] (by kernel_rfl) fun K hK => ?_ | refine T.rd (id := 15) mixed (fun _ => false) [9] (by kernel_rfl) fun K hK => ?_ | refine T.rd1 (id := 15) mixed (fun _ => false) [9] (by kernel_rfl) fun K hK => ?_ | refine T.rd (id := 18) mixed (fun _ => false) [10] (by kernel_rfl) fun K hK => ?_ | refine T.rd1 (id := 18) mixed (fun _ => false) [10] (by kernel_rfl) fun K hK => ?_ | refine T.r0 fun K hK => ?_ | refine T.r1 fun K hK => ?_ | (refine ⟨by omega, ?_⟩) | refine T.ct rfl ?_ | refine T.cf rfl ?_ | refine T.seq ?_ | refine T.block ?_ | refine T.skip ?_ | refine T.exit ?_
  | @pair d x y hx hy =>
    rw [show castN c e [.mk 5 [x, y], b] = none from cn6n hk (.inr (.inr (.inr ⟨_, _, rfl⟩)))]
    refine ⟨zeroT, by simp, ?_⟩
    refine ACalls.of_body Tryz.func144 (by kernel_rfl) rfl (by kernel_rfl) (by simp [Tryz.ntmps144]) (by simp) ?_
    rw [Tryz.ntmps144]
    repeat' first | ((first | refine aops_end (hK _ ?_) | refine aopsD_end (hK _ ?_) | refine aopsF_end (hK _ ?_)); clear hK K) | ((first | refine aops_go ?_ | refine aopsD_go ?_ | refine aopsF_go ?_); simp [hk]; (try (refine gen fun q hq => ?_; cases q <;> (try simp [hk] at hq) <;> (try (have hh : True := hq; clear hh hq))))) | (refine T.ret (Done.tup (Or.inr rfl) ?_) <;> simp [resAs, Tryz.results144] <;> omega) | refine T.rd (id := 3) mixed (fun _ => false) [9] (by kernel_rfl) fun K hK => ?_ | refine T.rd1 (id := 3) mixed (fun _ => false) [9] (by kernel_rfl) fun K hK => ?_ | refine T.rd (id := 5) mixed (fun _ => false) [] (by kernel_rfl) fun K hK => ?_ | refine T.rd1 (id := 5) mixed (fun _ => false) [] (by kernel_rfl) fun K hK => ?_ | refine T.rd (id := 9) mixed (fun _ => false) [13] (by kernel_rfl) fun K hK => ?_ | refine T.rd1 (id := 9) mixed (fun _ => false) [13] (by kernel_rfl) fun K hK => ?_ | refine T.rd (id := 11) mixed (fun _ => false) [13] (by kernel_rfl) fun K hK => ?_ | refine T.rd1 (id := 11) mixed (fun _ => false) [13] (by kernel_rfl) fun K hK => ?_ | refine T.rd (id := 13) mixed (fun _ => false) [18] (by kernel_rfl) fun K hK => ?_ | refine T.rd1 (id := 13) mixed (fun _ => false) [18] (by kernel_rfl) fun K hK => ?_ | refine T.rd (id := 15) mixed (fun _ => false) [9] (by kernel_rfl) fun K hK => ?_ | refine T.rd1 (id := 15) mixed (fun _ => false) [9] (by kernel_rfl) fun K hK => ?_ | refine T.rd (id := 18) mixed (fun _ => false) [10] (by kernel_rfl) fun K hK => ?_ | refine T.rd1 (id := 18) mixed (fun _ => false) [10] (by kernel_rfl) fun K hK => ?_ | refine T.r0 fun K hK => ?_ | refine T.r1 fun K hK => ?_ | (refine ⟨by omega, ?_⟩) | refine T.ct rfl ?_ | refine T.cf rfl ?_ | refine T.seq ?_ | refine T.block ?_ | refine T.skip ?_ | refine T.exit ?_
  | @fn d x y hx hy =>
    have hx4 := shapeTy_mono hx.shape
    have hy4 := shapeTy_mono hy.shape
    have h1 := TypeSameS_ok x b (by have := shape4 hx4; omega)
    have h2 := l1Copy_ok y (by have := shape4 hy4; omega)
    rw [show castN c e [.mk 4 [x, y], b] = if sameTy x b = true then some y else none from cn6 x y b hk hy4]
    cases hq : sameTy x b <;> rw [hq] at h1
    · refine ⟨zeroT, by simp, ?_⟩
      refine ACalls.of_body Tryz.func144 (by kernel_rfl) rfl (by kernel_rfl) (by simp [Tryz.ntmps144]) (by simp) ?_
      rw [Tryz.ntmps144]
      repeat' first | ((first | refine aops_end (hK _ ?_) | refine aopsD_end (hK _ ?_) | refine aopsF_end (hK _ ?_)); clear hK K) | ((first | refine aops_go ?_ | refine aopsD_go ?_ | refine aopsF_go ?_); simp [hk, eTy_def]; (try (refine gen fun q hq => ?_; cases q <;> (try simp [hk, eTy_def] at hq) <;> (try (have hh : True := hq; clear hh hq))))) | (refine wpcall_pure ?_ (h1) ?_; (focus (solve | simp [hk, eTy_def])); simp [hk, eTy_def]; (try (refine gen fun q hq => ?_; cases q <;> (try simp [hk, eTy_def] at hq) <;> (try (have hh : True := hq; clear hh hq))))) | (refine wpcall_pure ?_ (h2) ?_; (focus (solve | simp [hk, eTy_def])); simp [hk, eTy_def]; (try (refine gen fun q hq => ?_; cases q <;> (try simp [hk, eTy_def] at hq) <;> (try (have hh : True := hq; clear hh hq))))) | (refine T.ret (Done.tup (Or.inr rfl) ?_) <;> simp [resAs, Tryz.results144] <;> omega) | refine T.rd (id := 3) mixed (fun _ => false) [9] (by kernel_rfl) fun K hK => ?_ | refine T.rd1 (id := 3) mixed (fun _ => false) [9] (by kernel_rfl) fun K hK => ?_ | refine T.rd (id := 5) mixed (fun _ => false) [] (by kernel_rfl) fun K hK => ?_ | refine T.rd1 (id := 5) mixed (fun _ => false) [] (by kernel_rfl) fun K hK => ?_ | refine T.rd (id := 9) mixed (fun _ => false) [13] (by kernel_rfl) fun K hK => ?_ | refine T.rd1 (id := 9) mixed (fun _ => false) [13] (by kernel_rfl) fun K hK => ?_ | refine T.rd (id := 11) mixed (fun _ => false) [13] (by kernel_rfl) fun K hK => ?_ | refine T.rd1 (id := 11) mixed (fun _ => false) [13] (by kernel_rfl) fun K hK => ?_ | refine T.rd (id := 13) mixed (fun _ => false) [18] (by kernel_rfl) fun K hK => ?_ | refine T.rd1 (id := 13) mixed (fun _ => false) [18] (by kernel_rfl) fun K hK => ?_ | refine T.rd (id := 15) mixed (fun _ => false) [9] (by kernel_rfl) fun K hK => ?_ | refine T.rd1 (id := 15) mixed (fun _ => false) [9] (by kernel_rfl) fun K hK => ?_ | refine T.rd (id := 18) mixed (fun _ => false) [10] (by kernel_rfl) fun K hK => ?_ | refine T.rd1 (id := 18) mixed (fun _ => false) [10] (by kernel_rfl) fun K hK => ?_ | refine T.r0 fun K hK => ?_ | refine T.r1 fun K hK => ?_ | (refine ⟨by omega, ?_⟩) | refine T.ct rfl ?_ | refine T.cf rfl ?_ | refine T.seq ?_ | refine T.block ?_ | refine T.skip ?_ | refine T.exit ?_
    · refine ⟨y, by simp, ?_⟩
      refine ACalls.of_body Tryz.func144 (by kernel_rfl) rfl (by kernel_rfl) (by simp [Tryz.ntmps144]) (by simp) ?_
      rw [Tryz.ntmps144]
      repeat' first | ((first | refine aops_end (hK _ ?_) | refine aopsD_end (hK _ ?_) | refine aopsF_end (hK _ ?_)); clear hK K) | ((first | refine aops_go ?_ | refine aopsD_go ?_ | refine aopsF_go ?_); simp [hk, eTy_def]; (try (refine gen fun q hq => ?_; cases q <;> (try simp [hk, eTy_def] at hq) <;> (try (have hh : True := hq; clear hh hq))))) | (refine wpcall_pure ?_ (h1) ?_; (focus (solve | simp [hk, eTy_def])); simp [hk, eTy_def]; (try (refine gen fun q hq => ?_; cases q <;> (try simp [hk, eTy_def] at hq) <;> (try (have hh : True := hq; clear hh hq))))) | (refine wpcall_pure ?_ (h2) ?_; (focus (solve | simp [hk, eTy_def])); simp [hk, eTy_def]; (try (refine gen fun q hq => ?_; cases q <;> (try simp [hk, eTy_def] at hq) <;> (try (have hh : True := hq; clear hh hq))))) | (refine T.ret (Done.tup (Or.inr rfl) ?_) <;> simp [resAs, Tryz.results144] <;> omega) | refine T.rd (id := 3) mixed (fun _ => false) [9] (by kernel_rfl) fun K hK => ?_ | refine T.rd1 (id := 3) mixed (fun _ => false) [9] (by kernel_rfl) fun K hK => ?_ | refine T.rd (id := 5) mixed (fun _ => false) [] (by kernel_rfl) fun K hK => ?_ | refine T.rd1 (id := 5) mixed (fun _ => false) [] (by kernel_rfl) fun K hK => ?_ | refine T.rd (id := 9) mixed (fun _ => false) [13] (by kernel_rfl) fun K hK => ?_ | refine T.rd1 (id := 9) mixed (fun _ => false) [13] (by kernel_rfl) fun K hK => ?_ | refine T.rd (id := 11) mixed (fun _ => false) [13] (by kernel_rfl) fun K hK => ?_ | refine T.rd1 (id := 11) mixed (fun _ => false) [13] (by kernel_rfl) fun K hK => ?_ | refine T.rd (id := 13) mixed (fun _ => false) [18] (by kernel_rfl) fun K hK => ?_ | refine T.rd1 (id := 13) mixed (fun _ => false) [18] (by kernel_rfl) fun K hK => ?_ | refine T.rd (id := 15) mixed (fun _ => false) [9] (by kernel_rfl) fun K hK => ?_ | refine T.rd1 (id := 15) mixed (fun _ => false) [9] (by kernel_rfl) fun K hK => ?_ | refine T.rd (id := 18) mixed (fun _ => false) [10] (by kernel_rfl) fun K hK => ?_ | refine T.rd1 (id := 18) mixed (fun _ => false) [10] (by kernel_rfl) fun K hK => ?_ | refine T.r0 fun K hK => ?_ | refine T.r1 fun K hK => ?_ | (refine ⟨by omega, ?_⟩) | refine T.ct rfl ?_ | refine T.cf rfl ?_ | refine T.seq ?_ | refine T.block ?_ | refine T.skip ?_ | refine T.exit ?_

theorem l4E11 (c : List MBd) (e : MTm) (a : MTy) (hk : e.kind = 11) (ha : shapeTy 4 a = true) : L4E e [a] (castN c e [a]) := by
  cases VTy.of ha with
  | any d =>
    rw [show castN c e [anyT] = none from cn1n (.inl hk) (.inl rfl)]
    refine ⟨zeroT, by simp, ?_⟩
    refine ACalls.of_body Tryz.func144 (by kernel_rfl) rfl (by kernel_rfl) (by simp [Tryz.ntmps144]) (by simp) ?_
    rw [Tryz.ntmps144]
    repeat' first | ((first | refine aops_end (hK _ ?_) | refine aopsD_end (hK _ ?_) | refine aopsF_end (hK _ ?_)); clear hK K) | ((first | refine aops_go ?_ | refine aopsD_go ?_ | refine aopsF_go ?_); simp [hk]; (try (refine gen fun q hq => ?_; cases q <;> (try simp [hk] at hq) <;> (try (have hh : True := hq; clear hh hq))))) | (refine T.ret (Done.tup (Or.inr rfl) ?_) <;> simp [resAs, Tryz.results144] <;> omega) | refine T.rd (id := 3) mixed (fun _ => false) [9] (by kernel_rfl) fun K hK => ?_ | refine T.rd1 (id := 3) mixed (fun _ => false) [9] (by kernel_rfl) fun K hK => ?_ | refine T.rd (id := 5) mixed (fun _ => false) [] (by kernel_rfl) fun K hK => ?_ | refine T.rd1 (id := 5) mixed (fun _ => false) [] (by kernel_rfl) fun K hK => ?_ | refine T.rd (id := 9) mixed (fun _ => false) [13] (by kernel_rfl) fun K hK => ?_ | refine T.rd1 (id := 9) mixed (fun _ => false) [13] (by kernel_rfl) fun K hK => ?_ | refine T.rd (id := 11) mixed (fun _ => false) [13] (by kernel_rfl) fun K hK => ?_ | refine T.rd1 (id := 11) mixed (fun _ => false) [13] (by kernel_rfl) fun K hK => ?_ | refine T.rd (id := 13) mixed (fun _ => false) [18] (by kernel_rfl) fun K hK => ?_ | refine T.rd1 (id := 13) mixed (fun _ => false) [18] (by kernel_rfl) fun K hK => ?_ | refine T.rd (id := 15) mixed (fun _ => false) [9] (by kernel_rfl) fun K hK => ?_ | refine T.rd1 (id := 15) mixed (fun _ => false) [9] (by kernel_rfl) fun K hK => ?_ | refine T.rd (id := 18) mixed (fun _ => false) [10] (by kernel_rfl) fun K hK => ?_ | refine T.rd1 (id := 18) mixed (fun _ => false) [10] (by kernel_rfl) fun K hK => ?_ | refine T.r0 fun K hK => ?_ | refine T.r1 fun K hK => ?_ | (refine ⟨by omega, ?_⟩) | refine T.ct rfl ?_ | refine T.cf rfl ?_ | refine T.seq ?_ | refine T.block ?_ | refine T.skip ?_ | refine T.exit ?_
  | int d =>
    rw [show castN c e [intT] = none from cn1n (.inl hk) (.inr (.inl rfl))]
    refine ⟨zeroT, by simp, ?_⟩
    refine ACalls.of_body Tryz.func144 (by kernel_rfl) rfl (by kernel_rfl) (by simp [Tryz.ntmps144]) (by simp) ?_
    rw [Tryz.ntmps144]
    repeat' first | ((first | refine aops_end (hK _ ?_) | refine aopsD_end (hK _ ?_) | refine aopsF_end (hK _ ?_)); clear hK K) | ((first | refine aops_go ?_ | refine aopsD_go ?_ | refine aopsF_go ?_); simp [hk]; (try (refine gen fun q hq => ?_; cases q <;> (try simp [hk] at hq) <;> (try (have hh : True := hq; clear hh hq))))) | (refine T.ret (Done.tup (Or.inr rfl) ?_) <;> simp [resAs, Tryz.results144] <;> omega) | refine T.rd (id := 3) mixed (fun _ => false) [9] (by kernel_rfl) fun K hK => ?_ | refine T.rd1 (id := 3) mixed (fun _ => false) [9] (by kernel_rfl) fun K hK => ?_ | refine T.rd (id := 5) mixed (fun _ => false) [] (by kernel_rfl) fun K hK => ?_ | refine T.rd1 (id := 5) mixed (fun _ => false) [] (by kernel_rfl) fun K hK => ?_ | refine T.rd (id := 9) mixed (fun _ => false) [13] (by kernel_rfl) fun K hK => ?_ | refine T.rd1 (id := 9) mixed (fun _ => false) [13] (by kernel_rfl) fun K hK => ?_ | refine T.rd (id := 11) mixed (fun _ => false) [13] (by kernel_rfl) fun K hK => ?_ | refine T.rd1 (id := 11) mixed (fun _ => false) [13] (by kernel_rfl) fun K hK => ?_ | refine T.rd (id := 13) mixed (fun _ => false) [18] (by kernel_rfl) fun K hK => ?_ | refine T.rd1 (id := 13) mixed (fun _ => false) [18] (by kernel_rfl) fun K hK => ?_ | refine T.rd (id := 15) mixed (fun _ => false) [9] (by kernel_rfl) fun K hK => ?_ | refine T.rd1 (id := 15) mixed (fun _ => false) [9] (by kernel_rfl) fun K hK => ?_ | refine T.rd (id := 18) mixed (fun _ => false) [10] (by kernel_rfl) fun K hK => ?_ | refine T.rd1 (id := 18) mixed (fun _ => false) [10] (by kernel_rfl) fun K hK => ?_ | refine T.r0 fun K hK => ?_ | refine T.r1 fun K hK => ?_ | (refine ⟨by omega, ?_⟩) | refine T.ct rfl ?_ | refine T.cf rfl ?_ | refine T.seq ?_ | refine T.block ?_ | refine T.skip ?_ | refine T.exit ?_
  | bool d =>
    rw [show castN c e [boolT] = none from cn1n (.inl hk) (.inr (.inr (.inl rfl)))]
    refine ⟨zeroT, by simp, ?_⟩
    refine ACalls.of_body Tryz.func144 (by kernel_rfl) rfl (by kernel_rfl) (by simp [Tryz.ntmps144]) (by simp) ?_
    rw [Tryz.ntmps144]
    repeat' first | ((first | refine aops_end (hK _ ?_) | refine aopsD_end (hK _ ?_) | refine aopsF_end (hK _ ?_)); clear hK K) | ((first | refine aops_go ?_ | refine aopsD_go ?_ | refine aopsF_go ?_); simp [hk]; (try (refine gen fun q hq => ?_; cases q <;> (try simp [hk] at hq) <;> (try (have hh : True := hq; clear hh hq))))) | (refine T.ret (Done.tup (Or.inr rfl) ?_) <;> simp [resAs, Tryz.results144] <;> omega) | refine T.rd (id := 3) mixed (fun _ => false) [9] (by kernel_rfl) fun K hK => ?_ | refine T.rd1 (id := 3) mixed (fun _ => false) [9] (by kernel_rfl) fun K hK => ?_ | refine T.rd (id := 5) mixed (fun _ => false) [] (by kernel_rfl) fun K hK => ?_ | refine T.rd1 (id := 5) mixed (fun _ => false) [] (by kernel_rfl) fun K hK => ?_ | refine T.rd (id := 9) mixed (fun _ => false) [13] (by kernel_rfl) fun K hK => ?_ | refine T.rd1 (id := 9) mixed (fun _ => false) [13] (by kernel_rfl) fun K hK => ?_ | refine T.rd (id := 11) mixed (fun _ => false) [13] (by kernel_rfl) fun K hK => ?_ | refine T.rd1 (id := 11) mixed (fun _ => false) [13] (by kernel_rfl) fun K hK => ?_ | refine T.rd (id := 13) mixed (fun _ => false) [18] (by kernel_rfl) fun K hK => ?_ | refine T.rd1 (id := 13) mixed (fun _ => false) [18] (by kernel_rfl) fun K hK => ?_ | refine T.rd (id := 15) mixed (fun _ => false) [9] (by kernel_rfl) fun K hK => ?_ | refine T.rd1 (id := 15) mixed (fun _ => false) [9] (by kernel_rfl) fun K hK => ?_ | refine T.rd (id := 18) mixed (fun _ => false) [10] (by kernel_rfl) fun K hK => ?_ | refine T.rd1 (id := 18) mixed (fun _ => false) [10] (by kernel_rfl) fun K hK => ?_ | refine T.r0 fun K hK => ?_ | refine T.r1 fun K hK => ?_ | (refine ⟨by omega, ?_⟩) | refine T.ct rfl ?_ | refine T.cf rfl ?_ | refine T.seq ?_ | refine T.block ?_ | refine T.skip ?_ | refine T.exit ?_
  | @fn d x y hx hy =>
    rw [show castN c e [.mk 4 [x, y]] = none from cn1n (.inl hk) (.inr (.inr (.inr ⟨_, _, rfl⟩)))]
    refine ⟨zeroT, by simp, ?_⟩
    refine ACalls.of_body Tryz.func144 (by kernel_rfl) rfl (by kernel_rfl) (by simp [Tryz.ntmps144]) (by simp) ?_
    rw [Tryz.ntmps144]
    repeat' first | ((first | refine aops_end (hK _ ?_) | refine aopsD_end (hK _ ?_) | refine aopsF_end (hK _ ?_)); clear hK K) | ((first | refine aops_go ?_ | refine aopsD_go ?_ | refine aopsF_go ?_); simp [hk]; (try (refine gen fun q hq => ?_; cases q <;> (try simp [hk] at hq) <;> (try (have hh : True := hq; clear hh hq))))) | (refine T.ret (Done.tup (Or.inr rfl) ?_) <;> simp [resAs, Tryz.results144] <;> omega) | refine T.rd (id := 3) mixed (fun _ => false) [9] (by kernel_rfl) fun K hK => ?_ | refine T.rd1 (id := 3) mixed (fun _ => false) [9] (by kernel_rfl) fun K hK => ?_ | refine T.rd (id := 5) mixed (fun _ => false) [] (by kernel_rfl) fun K hK => ?_ | refine T.rd1 (id := 5) mixed (fun _ => false) [] (by kernel_rfl) fun K hK => ?_ | refine T.rd (id := 9) mixed (fun _ => false) [13] (by kernel_rfl) fun K hK => ?_ | refine T.rd1 (id := 9) mixed (fun _ => false) [13] (by kernel_rfl) fun K hK => ?_ | refine T.rd (id := 11) mixed (fun _ => false) [13] (by kernel_rfl) fun K hK => ?_ | refine T.rd1 (id := 11) mixed (fun _ => false) [13] (by kernel_rfl) fun K hK => ?_ | refine T.rd (id := 13) mixed (fun _ => false) [18] (by kernel_rfl) fun K hK => ?_ | refine T.rd1 (id := 13) mixed (fun _ => false) [18] (by kernel_rfl) fun K hK => ?_ | refine T.rd (id := 15) mixed (fun _ => false) [9] (by kernel_rfl) fun K hK => ?_ | refine T.rd1 (id := 15) mixed (fun _ => false) [9] (by kernel_rfl) fun K hK => ?_ | refine T.rd (id := 18) mixed (fun _ => false) [10] (by kernel_rfl) fun K hK => ?_ | refine T.rd1 (id := 18) mixed (fun _ => false) [10] (by kernel_rfl) fun K hK => ?_ | refine T.r0 fun K hK => ?_ | refine T.r1 fun K hK => ?_ | (refine ⟨by omega, ?_⟩) | refine T.ct rfl ?_ | refine T.cf rfl ?_ | refine T.seq ?_ | refine T.block ?_ | refine T.skip ?_ | refine T.exit ?_
  | @pair d x y hx hy =>
    have hx4 := shapeTy_mono hx.shape
    have hy4 := shapeTy_mono hy.shape
    have h2 := l1Copy_ok x (by have := shape4 hx4; omega)
    rw [show castN c e [.mk 5 [x, y]] = some x from cn11 x y hk hx4]
    refine ⟨x, by simp, ?_⟩
    refine ACalls.of_body Tryz.func144 (by kernel_rfl) rfl (by kernel_rfl) (by simp [Tryz.ntmps144]) (by simp) ?_
    rw [Tryz.ntmps144]
    repeat' first | ((first | refine aops_end (hK _ ?_) | refine aopsD_end (hK _ ?_) | refine aopsF_end (hK _ ?_)); clear hK K) | ((first | refine aops_go ?_ | refine aopsD_go ?_ | refine aopsF_go ?_); simp [hk, eTy_def]; (try simp (disch := omega) only [wrap64]); (try (refine gen fun q hq => ?_; cases q <;> (try simp [hk, eTy_def] at hq) <;> (try (have hh : True := hq; clear hh hq))))) | (refine wpcall_pure ?_ (h2) ?_; (focus (solve | simp [hk, eTy_def])); simp [hk, eTy_def]; (try simp (disch := omega) only [wrap64]); (try (refine gen fun q hq => ?_; cases q <;> (try simp [hk, eTy_def] at hq) <;> (try (have hh : True := hq; clear hh hq))))) | (refine T.ret (Done.tup (Or.inr rfl) ?_) <;> simp [resAs, Tryz.results144] <;> omega) | refine T.rd (id := 3) mixed (fun _ => false) [9] (by kernel_rfl) fun K hK => ?_ | refine T.rd1 (id := 3) mixed (fun _ => false) [9] (by kernel_rfl) fun K hK => ?_ | refine T.rd (id := 5) mixed (fun _ => false) [] (by kernel_rfl) fun K hK => ?_ | refine T.rd1 (id := 5) mixed (fun _ => false) [] (by kernel_rfl) fun K hK => ?_ | refine T.rd (id := 9) mixed (fun _ => false) [13] (by kernel_rfl) fun K hK => ?_ | refine T.rd1 (id := 9) mixed (fun _ => false) [13] (by kernel_rfl) fun K hK => ?_ | refine T.rd (id := 11) mixed (fun _ => false) [13] (by kernel_rfl) fun K hK => ?_ | refine T.rd1 (id := 11) mixed (fun _ => false) [13] (by kernel_rfl) fun K hK => ?_ | refine T.rd (id := 13) mixed (fun _ => false) [18] (by kernel_rfl) fun K hK => ?_ | refine T.rd1 (id := 13) mixed (fun _ => false) [18] (by kernel_rfl) fun K hK => ?_ | refine T.rd (id := 15) mixed (fun _ => false) [9] (by kernel_rfl) fun K hK => ?_ | refine T.rd1 (id := 15) mixed (fun _ => false) [9] (by kernel_rfl) fun K hK => ?_ | refine T.rd (id := 18) mixed (fun _ => false) [10] (by kernel_rfl) fun K hK => ?_ | refine T.rd1 (id := 18) mixed (fun _ => false) [10] (by kernel_rfl) fun K hK => ?_ | refine T.r0 fun K hK => ?_ | refine T.r1 fun K hK => ?_ | (refine ⟨by omega, ?_⟩) | refine T.ct rfl ?_ | refine T.cf rfl ?_ | refine T.seq ?_ | refine T.block ?_ | refine T.skip ?_ | refine T.exit ?_

theorem l4E12 (c : List MBd) (e : MTm) (a : MTy) (hk : e.kind = 12) (ha : shapeTy 4 a = true) : L4E e [a] (castN c e [a]) := by
  cases VTy.of ha with
  | any d =>
    rw [show castN c e [anyT] = none from cn1n (.inr hk) (.inl rfl)]
    refine ⟨zeroT, by simp, ?_⟩
    refine ACalls.of_body Tryz.func144 (by kernel_rfl) rfl (by kernel_rfl) (by simp [Tryz.ntmps144]) (by simp) ?_
    rw [Tryz.ntmps144]
    repeat' first | ((first | refine aops_end (hK _ ?_) | refine aopsD_end (hK _ ?_) | refine aopsF_end (hK _ ?_)); clear hK K) | ((first | refine aops_go ?_ | refine aopsD_go ?_ | refine aopsF_go ?_); simp [hk]; (try (refine gen fun q hq => ?_; cases q <;> (try simp [hk] at hq) <;> (try (have hh : True := hq; clear hh hq))))) | (refine T.ret (Done.tup (Or.inr rfl) ?_) <;> simp [resAs, Tryz.results144] <;> omega) | refine T.rd (id := 3) mixed (fun _ => false) [9] (by kernel_rfl) fun K hK => ?_ | refine T.rd1 (id := 3) mixed (fun _ => false) [9] (by kernel_rfl) fun K hK => ?_ | refine T.rd (id := 5) mixed (fun _ => false) [] (by kernel_rfl) fun K hK => ?_ | refine T.rd1 (id := 5) mixed (fun _ => false) [] (by kernel_rfl) fun K hK => ?_ | refine T.rd (id := 9) mixed (fun _ => false) [13] (by kernel_rfl) fun K hK => ?_ | refine T.rd1 (id := 9) mixed (fun _ => false) [13] (by kernel_rfl) fun K hK => ?_ | refine T.rd (id := 11) mixed (fun _ => false) [13] (by kernel_rfl) fun K hK => ?_ | refine T.rd1 (id := 11) mixed (fun _ => false) [13] (by kernel_rfl) fun K hK => ?_ | refine T.rd (id := 13) mixed (fun _ => false) [18] (by kernel_rfl) fun K hK => ?_ | refine T.rd1 (id := 13) mixed (fun _ => false) [18] (by kernel_rfl) fun K hK => ?_ | refine T.rd (id := 15) mixed (fun _ => false) [9] (by kernel_rfl) fun K hK => ?_ | refine T.rd1 (id := 15) mixed (fun _ => false) [9] (by kernel_rfl) fun K hK => ?_ | refine T.rd (id := 18) mixed (fun _ => false) [10] (by kernel_rfl) fun K hK => ?_ | refine T.rd1 (id := 18) mixed (fun _ => false) [10] (by kernel_rfl) fun K hK => ?_ | refine T.r0 fun K hK => ?_ | refine T.r1 fun K hK => ?_ | (refine ⟨by omega, ?_⟩) | refine T.ct rfl ?_ | refine T.cf rfl ?_ | refine T.seq ?_ | refine T.block ?_ | refine T.skip ?_ | refine T.exit ?_
  | int d =>
    rw [show castN c e [intT] = none from cn1n (.inr hk) (.inr (.inl rfl))]
    refine ⟨zeroT, by simp, ?_⟩
    refine ACalls.of_body Tryz.func144 (by kernel_rfl) rfl (by kernel_rfl) (by simp [Tryz.ntmps144]) (by simp) ?_
    rw [Tryz.ntmps144]
    repeat' first | ((first | refine aops_end (hK _ ?_) | refine aopsD_end (hK _ ?_) | refine aopsF_end (hK _ ?_)); clear hK K) | ((first | refine aops_go ?_ | refine aopsD_go ?_ | refine aopsF_go ?_); simp [hk]; (try (refine gen fun q hq => ?_; cases q <;> (try simp [hk] at hq) <;> (try (have hh : True := hq; clear hh hq))))) | (refine T.ret (Done.tup (Or.inr rfl) ?_) <;> simp [resAs, Tryz.results144] <;> omega) | refine T.rd (id := 3) mixed (fun _ => false) [9] (by kernel_rfl) fun K hK => ?_ | refine T.rd1 (id := 3) mixed (fun _ => false) [9] (by kernel_rfl) fun K hK => ?_ | refine T.rd (id := 5) mixed (fun _ => false) [] (by kernel_rfl) fun K hK => ?_ | refine T.rd1 (id := 5) mixed (fun _ => false) [] (by kernel_rfl) fun K hK => ?_ | refine T.rd (id := 9) mixed (fun _ => false) [13] (by kernel_rfl) fun K hK => ?_ | refine T.rd1 (id := 9) mixed (fun _ => false) [13] (by kernel_rfl) fun K hK => ?_ | refine T.rd (id := 11) mixed (fun _ => false) [13] (by kernel_rfl) fun K hK => ?_ | refine T.rd1 (id := 11) mixed (fun _ => false) [13] (by kernel_rfl) fun K hK => ?_ | refine T.rd (id := 13) mixed (fun _ => false) [18] (by kernel_rfl) fun K hK => ?_ | refine T.rd1 (id := 13) mixed (fun _ => false) [18] (by kernel_rfl) fun K hK => ?_ | refine T.rd (id := 15) mixed (fun _ => false) [9] (by kernel_rfl) fun K hK => ?_ | refine T.rd1 (id := 15) mixed (fun _ => false) [9] (by kernel_rfl) fun K hK => ?_ | refine T.rd (id := 18) mixed (fun _ => false) [10] (by kernel_rfl) fun K hK => ?_ | refine T.rd1 (id := 18) mixed (fun _ => false) [10] (by kernel_rfl) fun K hK => ?_ | refine T.r0 fun K hK => ?_ | refine T.r1 fun K hK => ?_ | (refine ⟨by omega, ?_⟩) | refine T.ct rfl ?_ | refine T.cf rfl ?_ | refine T.seq ?_ | refine T.block ?_ | refine T.skip ?_ | refine T.exit ?_
  | bool d =>
    rw [show castN c e [boolT] = none from cn1n (.inr hk) (.inr (.inr (.inl rfl)))]
    refine ⟨zeroT, by simp, ?_⟩
    refine ACalls.of_body Tryz.func144 (by kernel_rfl) rfl (by kernel_rfl) (by simp [Tryz.ntmps144]) (by simp) ?_
    rw [Tryz.ntmps144]
    repeat' first | ((first | refine aops_end (hK _ ?_) | refine aopsD_end (hK _ ?_) | refine aopsF_end (hK _ ?_)); clear hK K) | ((first | refine aops_go ?_ | refine aopsD_go ?_ | refine aopsF_go ?_); simp [hk]; (try (refine gen fun q hq => ?_; cases q <;> (try simp [hk] at hq) <;> (try (have hh : True := hq; clear hh hq))))) | (refine T.ret (Done.tup (Or.inr rfl) ?_) <;> simp [resAs, Tryz.results144] <;> omega) | refine T.rd (id := 3) mixed (fun _ => false) [9] (by kernel_rfl) fun K hK => ?_ | refine T.rd1 (id := 3) mixed (fun _ => false) [9] (by kernel_rfl) fun K hK => ?_ | refine T.rd (id := 5) mixed (fun _ => false) [] (by kernel_rfl) fun K hK => ?_ | refine T.rd1 (id := 5) mixed (fun _ => false) [] (by kernel_rfl) fun K hK => ?_ | refine T.rd (id := 9) mixed (fun _ => false) [13] (by kernel_rfl) fun K hK => ?_ | refine T.rd1 (id := 9) mixed (fun _ => false) [13] (by kernel_rfl) fun K hK => ?_ | refine T.rd (id := 11) mixed (fun _ => false) [13] (by kernel_rfl) fun K hK => ?_ | refine T.rd1 (id := 11) mixed (fun _ => false) [13] (by kernel_rfl) fun K hK => ?_ | refine T.rd (id := 13) mixed (fun _ => false) [18] (by kernel_rfl) fun K hK => ?_ | refine T.rd1 (id := 13) mixed (fun _ => false) [18] (by kernel_rfl) fun K hK => ?_ | refine T.rd (id := 15) mixed (fun _ => false) [9] (by kernel_rfl) fun K hK => ?_ | refine T.rd1 (id := 15) mixed (fun _ => false) [9] (by kernel_rfl) fun K hK => ?_ | refine T.rd (id := 18) mixed (fun _ => false) [10] (by kernel_rfl) fun K hK => ?_ | refine T.rd1 (id := 18) mixed (fun _ => false) [10] (by kernel_rfl) fun K hK => ?_ | refine T.r0 fun K hK => ?_ | refine T.r1 fun K hK => ?_ | (refine ⟨by omega, ?_⟩) | refine T.ct rfl ?_ | refine T.cf rfl ?_ | refine T.seq ?_ | refine T.block ?_ | refine T.skip ?_ | refine T.exit ?_
  | @fn d x y hx hy =>
    rw [show castN c e [.mk 4 [x, y]] = none from cn1n (.inr hk) (.inr (.inr (.inr ⟨_, _, rfl⟩)))]
    refine ⟨zeroT, by simp, ?_⟩
    refine ACalls.of_body Tryz.func144 (by kernel_rfl) rfl (by kernel_rfl) (by simp [Tryz.ntmps144]) (by simp) ?_
    rw [Tryz.ntmps144]
    repeat' first | ((first | refine aops_end (hK _ ?_) | refine aopsD_end (hK _ ?_) | refine aopsF_end (hK _ ?_)); clear hK K) | ((first | refine aops_go ?_ | refine aopsD_go ?_ | refine aopsF_go ?_); simp [hk]; (try (refine gen fun q hq => ?_; cases q <;> (try simp [hk] at hq) <;> (try (have hh : True := hq; clear hh hq))))) | (refine T.ret (Done.tup (Or.inr rfl) ?_) <;> simp [resAs, Tryz.results144] <;> omega) | refine T.rd (id := 3) mixed (fun _ => false) [9] (by kernel_rfl) fun K hK => ?_ | refine T.rd1 (id := 3) mixed (fun _ => false) [9] (by kernel_rfl) fun K hK => ?_ | refine T.rd (id := 5) mixed (fun _ => false) [] (by kernel_rfl) fun K hK => ?_ | refine T.rd1 (id := 5) mixed (fun _ => false) [] (by kernel_rfl) fun K hK => ?_ | refine T.rd (id := 9) mixed (fun _ => false) [13] (by kernel_rfl) fun K hK => ?_ | refine T.rd1 (id := 9) mixed (fun _ => false) [13] (by kernel_rfl) fun K hK => ?_ | refine T.rd (id := 11) mixed (fun _ => false) [13] (by kernel_rfl) fun K hK => ?_ | refine T.rd1 (id := 11) mixed (fun _ => false) [13] (by kernel_rfl) fun K hK => ?_ | refine T.rd (id := 13) mixed (fun _ => false) [18] (by kernel_rfl) fun K hK => ?_ | refine T.rd1 (id := 13) mixed (fun _ => false) [18] (by kernel_rfl) fun K hK => ?_ | refine T.rd (id := 15) mixed (fun _ => false) [9] (by kernel_rfl) fun K hK => ?_ | refine T.rd1 (id := 15) mixed (fun _ => false) [9] (by kernel_rfl) fun K hK => ?_ | refine T.rd (id := 18) mixed (fun _ => false) [10] (by kernel_rfl) fun K hK => ?_ | refine T.rd1 (id := 18) mixed (fun _ => false) [10] (by kernel_rfl) fun K hK => ?_ | refine T.r0 fun K hK => ?_ | refine T.r1 fun K hK => ?_ | (refine ⟨by omega, ?_⟩) | refine T.ct rfl ?_ | refine T.cf rfl ?_ | refine T.seq ?_ | refine T.block ?_ | refine T.skip ?_ | refine T.exit ?_
  | @pair d x y hx hy =>
    have hx4 := shapeTy_mono hx.shape
    have hy4 := shapeTy_mono hy.shape
    have h2 := l1Copy_ok y (by have := shape4 hy4; omega)
    rw [show castN c e [.mk 5 [x, y]] = some y from cn12 x y hk hy4]
    refine ⟨y, by simp, ?_⟩
    refine ACalls.of_body Tryz.func144 (by kernel_rfl) rfl (by kernel_rfl) (by simp [Tryz.ntmps144]) (by simp) ?_
    rw [Tryz.ntmps144]
    repeat' first | ((first | refine aops_end (hK _ ?_) | refine aopsD_end (hK _ ?_) | refine aopsF_end (hK _ ?_)); clear hK K) | ((first | refine aops_go ?_ | refine aopsD_go ?_ | refine aopsF_go ?_); simp [hk, eTy_def]; (try simp (disch := omega) only [wrap64]); (try (refine gen fun q hq => ?_; cases q <;> (try simp [hk, eTy_def] at hq) <;> (try (have hh : True := hq; clear hh hq))))) | (refine wpcall_pure ?_ (h2) ?_; (focus (solve | simp [hk, eTy_def])); simp [hk, eTy_def]; (try simp (disch := omega) only [wrap64]); (try (refine gen fun q hq => ?_; cases q <;> (try simp [hk, eTy_def] at hq) <;> (try (have hh : True := hq; clear hh hq))))) | (refine T.ret (Done.tup (Or.inr rfl) ?_) <;> simp [resAs, Tryz.results144] <;> omega) | refine T.rd (id := 3) mixed (fun _ => false) [9] (by kernel_rfl) fun K hK => ?_ | refine T.rd1 (id := 3) mixed (fun _ => false) [9] (by kernel_rfl) fun K hK => ?_ | refine T.rd (id := 5) mixed (fun _ => false) [] (by kernel_rfl) fun K hK => ?_ | refine T.rd1 (id := 5) mixed (fun _ => false) [] (by kernel_rfl) fun K hK => ?_ | refine T.rd (id := 9) mixed (fun _ => false) [13] (by kernel_rfl) fun K hK => ?_ | refine T.rd1 (id := 9) mixed (fun _ => false) [13] (by kernel_rfl) fun K hK => ?_ | refine T.rd (id := 11) mixed (fun _ => false) [13] (by kernel_rfl) fun K hK => ?_ | refine T.rd1 (id := 11) mixed (fun _ => false) [13] (by kernel_rfl) fun K hK => ?_ | refine T.rd (id := 13) mixed (fun _ => false) [18] (by kernel_rfl) fun K hK => ?_ | refine T.rd1 (id := 13) mixed (fun _ => false) [18] (by kernel_rfl) fun K hK => ?_ | refine T.rd (id := 15) mixed (fun _ => false) [9] (by kernel_rfl) fun K hK => ?_ | refine T.rd1 (id := 15) mixed (fun _ => false) [9] (by kernel_rfl) fun K hK => ?_ | refine T.rd (id := 18) mixed (fun _ => false) [10] (by kernel_rfl) fun K hK => ?_ | refine T.rd1 (id := 18) mixed (fun _ => false) [10] (by kernel_rfl) fun K hK => ?_ | refine T.r0 fun K hK => ?_ | refine T.r1 fun K hK => ?_ | (refine ⟨by omega, ?_⟩) | refine T.ct rfl ?_ | refine T.cf rfl ?_ | refine T.seq ?_ | refine T.block ?_ | refine T.skip ?_ | refine T.exit ?_

theorem l4Exact_ok (c : List MBd) (e : MTm) (ts : List MTy) (hk : 5 < e.kind ∧ e.kind < 15) (h13 : e.kind ≠ 13) (hlen : (ts.length : Int) = kidsM e.kind) (hts : ∀ u ∈ ts, shapeTy 4 u = true) (he : typedM e.kind = true → shapeTy 4 e.ty = true) :
    L4E e ts (castN c e ts) := by
  have hcases : e.kind = 6 ∨ e.kind = 7 ∨ e.kind = 8 ∨ e.kind = 9 ∨ e.kind = 10 ∨ e.kind = 11 ∨ e.kind = 12 ∨ e.kind = 14 := by omega
  rcases hcases with h | h | h | h | h | h | h | h <;> rw [h] at hlen
  · match ts, hlen with
    | [a, b], _ => exact l4E6 c e a b h (hts a (by simp)) (hts b (by simp))
  · match ts, hlen with
    | [a, b], _ => exact l4E7 c e a b h (hts a (by simp)) (hts b (by simp))
  · match ts, hlen with
    | [a, b], _ => exact l4E8 c e a b h (hts a (by simp)) (hts b (by simp))
  · match ts, hlen with
    | [a, b, d], _ => exact l4E9 c e a b d h (hts a (by simp)) (hts b (by simp))
  · match ts, hlen with
    | [a, b], _ => exact l4E10 c e a b h (hts a (by simp)) (hts b (by simp))
  · match ts, hlen with
    | [a], _ => exact l4E11 c e a h (hts a (by simp))
  · match ts, hlen with
    | [a], _ => exact l4E12 c e a h (hts a (by simp))
  · match ts, hlen with
    | [a], _ => exact l4E14 c e a h (hts a (by simp)) (he (by simp [typedM, h]))

/-- What l4Type answers. -/
def L4T (ctx : List MBd) (e : MTm) : Prop := ∃ t', (∀ t, castTyM ctx e = some t → t' = t) ∧ ACalls Tryz.prog 121 [.l (ctx.map eBd), aTm e] [] (.tup [aTy t', .b (castTyM ctx e).isSome]) [] []

theorem l4Type_leaf (ctx : List MBd) (e : MTm) (hl : ctx.length ≤ 1099511627776) (hc : okCtx ctx) (hlen : kidsM e.kind = e.kids.length) (hk : e.kind = 1 ∨ e.kind = 2 ∨ e.kind = 3 ∨ e.kind = 4) : L4T ctx e := by
  obtain ⟨t', h1, h2⟩ := l3Type_leaf ctx e hl hc hlen hk
  have hnil : e.kids = [] := by
    have : e.kids.length = 0 := by
      rcases hk with h | h | h | h <;> rw [h] at hlen <;> simp [kidsM] at hlen <;> omega
    exact List.eq_nil_of_length_eq_zero this
  have ht : castTyM ctx e = typeM ctx e := by
    have e1 : typeM ctx e = nodeTy ctx e.kind e.name e.ty [] := by rw [typeM_def, hnil]; simp [typeMS]
    rw [e1, want_node hc (fun h => by exfalso; rcases hk with k | k | k | k <;> rw [k] at h <;> simp [typedM] at h) (by simp), castTyM_N, hnil]
    simp only [castTyS]
    exact castN_leaf hk
  rw [L4T, ht]
  refine ⟨t', h1, ?_⟩
  generalize (typeM ctx e).isSome = q at *
  rcases hk with h | h | h | h
  · refine ACalls.of_body Tryz.func121 (by kernel_rfl) rfl (by kernel_rfl) (by simp [Tryz.ntmps121]) (by simp) ?_
    rw [Tryz.ntmps121]
    repeat' first | ((first | refine aops_end (hK _ ?_) | refine aopsD_end (hK _ ?_) | refine aopsF_end (hK _ ?_)); clear hK K) | ((first | refine aops_go ?_ | refine aopsD_go ?_ | refine aopsF_go ?_); simp [h]; (try (refine gen fun q hq => ?_; cases q <;> (try simp [h] at hq) <;> (try (have hh : True := hq; clear hh hq))))) | (refine wpcall_pure ?_ (h2) ?_; (focus (solve | simp [h])); simp [h]; (try (refine gen fun q hq => ?_; cases q <;> (try simp [h] at hq) <;> (try (have hh : True := hq; clear hh hq))))) | (refine T.ret (Done.tup (Or.inr rfl) ?_) <;> simp [resAs, Tryz.results121, *] <;> omega) | refine T.rdF (id := 8) mixed (fun _ => false) [14, 15] [2, 4, 5, 7, 8, 9, 10] 15 [] (by kernel_rfl) fun K hK => ?_ | refine T.rdF1 (id := 8) mixed (fun _ => false) [14, 15] [2, 4, 5, 7, 8, 9, 10] 15 [] (by kernel_rfl) fun K hK => ?_ | (refine ⟨?_, ?_⟩; (focus (intros; refine wpcall_pure ?_ (h2) ?_; (focus (solve | simp [h])); simp; done))) | refine T.r0 fun K hK => ?_ | refine T.r1 fun K hK => ?_ | (refine ⟨by omega, ?_⟩) | refine T.ct rfl ?_ | refine T.cf rfl ?_ | refine T.seq ?_ | refine T.block ?_ | refine T.skip ?_ | refine T.exit ?_
  · refine ACalls.of_body Tryz.func121 (by kernel_rfl) rfl (by kernel_rfl) (by simp [Tryz.ntmps121]) (by simp) ?_
    rw [Tryz.ntmps121]
    repeat' first | ((first | refine aops_end (hK _ ?_) | refine aopsD_end (hK _ ?_) | refine aopsF_end (hK _ ?_)); clear hK K) | ((first | refine aops_go ?_ | refine aopsD_go ?_ | refine aopsF_go ?_); simp [h]; (try (refine gen fun q hq => ?_; cases q <;> (try simp [h] at hq) <;> (try (have hh : True := hq; clear hh hq))))) | (refine wpcall_pure ?_ (h2) ?_; (focus (solve | simp [h])); simp [h]; (try (refine gen fun q hq => ?_; cases q <;> (try simp [h] at hq) <;> (try (have hh : True := hq; clear hh hq))))) | (refine T.ret (Done.tup (Or.inr rfl) ?_) <;> simp [resAs, Tryz.results121, *] <;> omega) | refine T.rdF (id := 8) mixed (fun _ => false) [14, 15] [2, 4, 5, 7, 8, 9, 10] 15 [] (by kernel_rfl) fun K hK => ?_ | refine T.rdF1 (id := 8) mixed (fun _ => false) [14, 15] [2, 4, 5, 7, 8, 9, 10] 15 [] (by kernel_rfl) fun K hK => ?_ | (refine ⟨?_, ?_⟩; (focus (intros; refine wpcall_pure ?_ (h2) ?_; (focus (solve | simp [h])); simp; done))) | refine T.r0 fun K hK => ?_ | refine T.r1 fun K hK => ?_ | (refine ⟨by omega, ?_⟩) | refine T.ct rfl ?_ | refine T.cf rfl ?_ | refine T.seq ?_ | refine T.block ?_ | refine T.skip ?_ | refine T.exit ?_
  · refine ACalls.of_body Tryz.func121 (by kernel_rfl) rfl (by kernel_rfl) (by simp [Tryz.ntmps121]) (by simp) ?_
    rw [Tryz.ntmps121]
    repeat' first | ((first | refine aops_end (hK _ ?_) | refine aopsD_end (hK _ ?_) | refine aopsF_end (hK _ ?_)); clear hK K) | ((first | refine aops_go ?_ | refine aopsD_go ?_ | refine aopsF_go ?_); simp [h]; (try (refine gen fun q hq => ?_; cases q <;> (try simp [h] at hq) <;> (try (have hh : True := hq; clear hh hq))))) | (refine wpcall_pure ?_ (h2) ?_; (focus (solve | simp [h])); simp [h]; (try (refine gen fun q hq => ?_; cases q <;> (try simp [h] at hq) <;> (try (have hh : True := hq; clear hh hq))))) | (refine T.ret (Done.tup (Or.inr rfl) ?_) <;> simp [resAs, Tryz.results121, *] <;> omega) | refine T.rdF (id := 8) mixed (fun _ => false) [14, 15] [2, 4, 5, 7, 8, 9, 10] 15 [] (by kernel_rfl) fun K hK => ?_ | refine T.rdF1 (id := 8) mixed (fun _ => false) [14, 15] [2, 4, 5, 7, 8, 9, 10] 15 [] (by kernel_rfl) fun K hK => ?_ | (refine ⟨?_, ?_⟩; (focus (intros; refine wpcall_pure ?_ (h2) ?_; (focus (solve | simp [h])); simp; done))) | refine T.r0 fun K hK => ?_ | refine T.r1 fun K hK => ?_ | (refine ⟨by omega, ?_⟩) | refine T.ct rfl ?_ | refine T.cf rfl ?_ | refine T.seq ?_ | refine T.block ?_ | refine T.skip ?_ | refine T.exit ?_
  · refine ACalls.of_body Tryz.func121 (by kernel_rfl) rfl (by kernel_rfl) (by simp [Tryz.ntmps121]) (by simp) ?_
    rw [Tryz.ntmps121]
    repeat' first | ((first | refine aops_end (hK _ ?_) | refine aopsD_end (hK _ ?_) | refine aopsF_end (hK _ ?_)); clear hK K) | ((first | refine aops_go ?_ | refine aopsD_go ?_ | refine aopsF_go ?_); simp [h]; (try (refine gen fun q hq => ?_; cases q <;> (try simp [h] at hq) <;> (try (have hh : True := hq; clear hh hq))))) | (refine wpcall_pure ?_ (h2) ?_; (focus (solve | simp [h])); simp [h]; (try (refine gen fun q hq => ?_; cases q <;> (try simp [h] at hq) <;> (try (have hh : True := hq; clear hh hq))))) | (refine T.ret (Done.tup (Or.inr rfl) ?_) <;> simp [resAs, Tryz.results121, *] <;> omega) | refine T.rdF (id := 8) mixed (fun _ => false) [14, 15] [2, 4, 5, 7, 8, 9, 10] 15 [] (by kernel_rfl) fun K hK => ?_ | refine T.rdF1 (id := 8) mixed (fun _ => false) [14, 15] [2, 4, 5, 7, 8, 9, 10] 15 [] (by kernel_rfl) fun K hK => ?_ | (refine ⟨?_, ?_⟩; (focus (intros; refine wpcall_pure ?_ (h2) ?_; (focus (solve | simp [h])); simp; done))) | refine T.r0 fun K hK => ?_ | refine T.r1 fun K hK => ?_ | (refine ⟨by omega, ?_⟩) | refine T.ct rfl ?_ | refine T.cf rfl ?_ | refine T.seq ?_ | refine T.block ?_ | refine T.skip ?_ | refine T.exit ?_

theorem l4Type_lam (ctx : List MBd) (e b : MTm) (hl : ctx.length ≤ 1099511627776) (hk : e.kind = 5) (hb : e.kids = [b]) (hty : shapeTy 4 e.ty = true)
    (hs : ∀ t, castTyM (ctx ++ [MBd.mk e.name e.ty]) b = some t → shapeTy 4 t = true) (ih : L4T (ctx ++ [MBd.mk e.name e.ty]) b) : L4T ctx e := by
  have ht : castTyM ctx e = match castTyM (ctx ++ [MBd.mk e.name e.ty]) b with | some t => twoM 4 e.ty t | none => none := by
    rw [castTyM_N, hb]
    simp only [insideM, hk, castTyS, if_true]
    cases castTyM (ctx ++ [MBd.mk e.name e.ty]) b with
    | none => rfl
    | some t => simp [castN, hk, wantM, exactS, twoM]
  obtain ⟨t', h1, h2⟩ := ih
  have hm := l3More_ok ctx e.name e.ty hl
  generalize ctx ++ [MBd.mk e.name e.ty] = ctx' at *
  simp only [L4T, ht]
  cases hr : castTyM ctx' b with
  | none =>
    rw [hr] at h2
    refine ⟨zeroT, by simp, ?_⟩
    dsimp only [Option.isSome] at h2 ⊢
    refine ACalls.of_body Tryz.func121 (by kernel_rfl) rfl (by kernel_rfl) (by simp [Tryz.ntmps121]) (by simp) ?_
    rw [Tryz.ntmps121]
    repeat' first | ((first | refine aops_end (hK _ ?_) | refine aopsD_end (hK _ ?_) | refine aopsF_end (hK _ ?_)); clear hK K) | ((first | refine aops_go ?_ | refine aopsD_go ?_ | refine aopsF_go ?_); simp [hk, hb]; (try (refine gen fun q hq => ?_; cases q <;> (try simp [hk, hb] at hq) <;> (try (have hh : True := hq; clear hh hq))))) | (refine wpcall_pure rfl (hm) ?_; simp [hk, hb]; (try (refine gen fun q hq => ?_; cases q <;> (try simp [hk, hb] at hq) <;> (try (have hh : True := hq; clear hh hq))))) | (refine wpcall_pure rfl (h2) ?_; simp [hk, hb]; (try (refine gen fun q hq => ?_; cases q <;> (try simp [hk, hb] at hq) <;> (try (have hh : True := hq; clear hh hq))))) | (refine T.ret (Done.tup (Or.inr rfl) ?_) <;> simp [resAs, Tryz.results121] <;> omega) | refine T.rdF (id := 8) mixed (fun _ => false) [14, 15] [2, 4, 5, 7, 8, 9, 10] 15 [] (by kernel_rfl) fun K hK => ?_ | refine T.rdF1 (id := 8) mixed (fun _ => false) [14, 15] [2, 4, 5, 7, 8, 9, 10] 15 [] (by kernel_rfl) fun K hK => ?_ | (refine ⟨?_, ?_⟩; (focus (intros; refine wpcall_pure rfl (hm) ?_; simp; done))) | (refine ⟨?_, ?_⟩; (focus (intros; refine wpcall_pure rfl (h2) ?_; simp; done))) | refine T.r0 fun K hK => ?_ | refine T.r1 fun K hK => ?_ | (refine ⟨by omega, ?_⟩) | refine T.ct rfl ?_ | refine T.cf rfl ?_ | refine T.seq ?_ | refine T.block ?_ | refine T.skip ?_ | refine T.exit ?_
  | some t =>
    rw [hr] at h2
    obtain rfl := h1 t hr
    have htw := l3Two_ok 4 e.ty t' (by have := shape4 hty; omega) (by have := shape4 (hs t' hr); omega)
    refine ⟨.mk 4 [e.ty, t'], ?_, ?_⟩
    · intro u h; simp only [twoM] at h; split at h <;> simp at h; exact h
    simp only [Option.isSome_some] at h2
    dsimp only
    rw [show (twoM 4 e.ty t').isSome = shapeTy 4 (.mk 4 [e.ty, t']) by simp only [twoM]; split <;> simp [*]]
    generalize shapeTy 4 (.mk 4 [e.ty, t']) = c at htw
    refine ACalls.of_body Tryz.func121 (by kernel_rfl) rfl (by kernel_rfl) (by simp [Tryz.ntmps121]) (by simp) ?_
    rw [Tryz.ntmps121]
    repeat' first | ((first | refine aops_end (hK _ ?_) | refine aopsD_end (hK _ ?_) | refine aopsF_end (hK _ ?_)); clear hK K) | ((first | refine aops_go ?_ | refine aopsD_go ?_ | refine aopsF_go ?_); simp [hk, hb]; (try (refine gen fun q hq => ?_; cases q <;> (try simp [hk, hb] at hq) <;> (try (have hh : True := hq; clear hh hq))))) | (refine wpcall_pure rfl (hm) ?_; simp [hk, hb]; (try (refine gen fun q hq => ?_; cases q <;> (try simp [hk, hb] at hq) <;> (try (have hh : True := hq; clear hh hq))))) | (refine wpcall_pure rfl (h2) ?_; simp [hk, hb]; (try (refine gen fun q hq => ?_; cases q <;> (try simp [hk, hb] at hq) <;> (try (have hh : True := hq; clear hh hq))))) | (refine wpcall_pure rfl (htw) ?_; simp [hk, hb]; (try (refine gen fun q hq => ?_; cases q <;> (try simp [hk, hb] at hq) <;> (try (have hh : True := hq; clear hh hq))))) | (refine T.ret (Done.tup (Or.inr rfl) ?_) <;> simp [resAs, Tryz.results121, eTy_def] <;> omega) | refine T.rdF (id := 8) mixed (fun _ => false) [14, 15] [2, 4, 5, 7, 8, 9, 10] 15 [] (by kernel_rfl) fun K hK => ?_ | refine T.rdF1 (id := 8) mixed (fun _ => false) [14, 15] [2, 4, 5, 7, 8, 9, 10] 15 [] (by kernel_rfl) fun K hK => ?_ | (refine ⟨?_, ?_⟩; (focus (intros; refine wpcall_pure rfl (hm) ?_; simp; done))) | (refine ⟨?_, ?_⟩; (focus (intros; refine wpcall_pure rfl (h2) ?_; simp; done))) | (refine ⟨?_, ?_⟩; (focus (intros; refine wpcall_pure rfl (htw) ?_; simp; done))) | refine T.r0 fun K hK => ?_ | refine T.r1 fun K hK => ?_ | (refine ⟨by omega, ?_⟩) | refine T.ct rfl ?_ | refine T.cf rfl ?_ | refine T.seq ?_ | refine T.block ?_ | refine T.skip ?_ | refine T.exit ?_

theorem l4Type_loop (ctx : List MBd) (e : MTm) (R : Option (List MTy)) (t' : MTy) (ok : Bool) (hl : ctx.length ≤ 1099511627776) (hk : 5 < e.kind ∧ e.kind < 15) (hlen : e.kids.length ≤ 3) (hR : castTyS ctx e.kids = R)
    (hs : ∀ u ∈ e.kids, ∀ t, castTyM ctx u = some t → shapeTy 4 t = true) (ih : ∀ u ∈ e.kids, L4T ctx u) (hnone : R = none → t' = zeroT ∧ ok = false)
    (hsome : ∀ ts, R = some ts → (∀ u ∈ ts, shapeTy 4 u = true) → ACalls Tryz.prog 144 [aTm e, .l (ts.map eTy)] [] (.tup [aTy t', .b ok]) [] []) :
    ACalls Tryz.prog 121 [.l (ctx.map eBd), aTm e] [] (.tup [aTy t', .b ok]) [] [] := by
  have hk1 : ¬ e.kind = 1 := by omega
  have hk2 : ¬ e.kind = 2 := by omega
  have hk3 : ¬ e.kind = 3 := by omega
  have hk4 : ¬ e.kind = 4 := by omega
  have hk5 : ¬ e.kind = 5 := by omega
  refine ACalls.of_body Tryz.func121 (by kernel_rfl) rfl (by kernel_rfl) (by simp [Tryz.ntmps121]) (by simp) ?_
  rw [Tryz.ntmps121]
  repeat' first | ((first | refine aops_end (hK _ ?_) | refine aopsD_end (hK _ ?_) | refine aopsF_end (hK _ ?_)); clear hK K) | ((first | refine aops_go ?_ | refine aopsD_go ?_ | refine aopsF_go ?_); simp [hk1, hk2, hk3, hk4, hk5]; (try (refine gen fun q hq => ?_; cases q <;> (try simp [hk1, hk2, hk3, hk4, hk5] at hq) <;> (try (have hh : True := hq; clear hh hq))))) | refine T.rdF (id := 8) mixed (fun _ => false) [14, 15] [2, 4, 5, 7, 8, 9, 10] 15 [] (by kernel_rfl) fun K hK => ?_ | refine T.rdF1 (id := 8) mixed (fun _ => false) [14, 15] [2, 4, 5, 7, 8, 9, 10] 15 [] (by kernel_rfl) fun K hK => ?_ | refine T.rs (id := 12) (fun i => i == 0) fun K hK => ?_ | refine T.rs1 (id := 12) (fun i => i == 0) fun K hK => ?_ | refine T.rs (id := 0) (fun _ => false) fun K hK => ?_ | refine T.rs1 (id := 0) (fun _ => false) fun K hK => ?_ | refine T.rs (id := 1) (fun _ => false) fun K hK => ?_ | refine T.rs1 (id := 1) (fun _ => false) fun K hK => ?_ | refine T.rs (id := 2) (fun _ => false) fun K hK => ?_ | refine T.rs1 (id := 2) (fun _ => false) fun K hK => ?_ | refine T.rs (id := 3) (fun _ => false) fun K hK => ?_ | refine T.rs1 (id := 3) (fun _ => false) fun K hK => ?_ | refine T.rs (id := 4) (fun _ => false) fun K hK => ?_ | refine T.rs1 (id := 4) (fun _ => false) fun K hK => ?_ | refine T.rs (id := 5) (fun _ => false) fun K hK => ?_ | refine T.rs1 (id := 5) (fun _ => false) fun K hK => ?_ | refine T.rs (id := 6) (fun _ => false) fun K hK => ?_ | refine T.rs1 (id := 6) (fun _ => false) fun K hK => ?_ | refine T.rs (id := 7) (fun _ => false) fun K hK => ?_ | refine T.rs1 (id := 7) (fun _ => false) fun K hK => ?_ | refine T.rs (id := 9) (fun _ => false) fun K hK => ?_ | refine T.rs1 (id := 9) (fun _ => false) fun K hK => ?_ | refine T.rs (id := 10) (fun _ => false) fun K hK => ?_ | refine T.rs1 (id := 10) (fun _ => false) fun K hK => ?_ | refine T.rs (id := 11) (fun _ => false) fun K hK => ?_ | refine T.rs1 (id := 11) (fun _ => false) fun K hK => ?_ | refine T.rs (id := 13) (fun _ => false) fun K hK => ?_ | refine T.rs1 (id := 13) (fun _ => false) fun K hK => ?_ | refine T.rs (id := 14) (fun _ => false) fun K hK => ?_ | refine T.rs1 (id := 14) (fun _ => false) fun K hK => ?_ | refine T.rs (id := 16) (fun _ => false) fun K hK => ?_ | refine T.rs1 (id := 16) (fun _ => false) fun K hK => ?_ | refine T.rs (id := 17) (fun _ => false) fun K hK => ?_ | refine T.rs1 (id := 17) (fun _ => false) fun K hK => ?_ | refine T.rs (id := 18) (fun _ => false) fun K hK => ?_ | refine T.rs1 (id := 18) (fun _ => false) fun K hK => ?_ | refine T.rs (id := 19) (fun _ => false) fun K hK => ?_ | refine T.rs1 (id := 19) (fun _ => false) fun K hK => ?_ | refine T.rs (id := 15) (fun _ => false) fun K hK => ?_ | refine T.rs1 (id := 15) (fun _ => false) fun K hK => ?_ | refine T.rs (id := 20) (fun _ => false) fun K hK => ?_ | refine T.rs1 (id := 20) (fun _ => false) fun K hK => ?_ | (refine ⟨by omega, ?_⟩) | refine T.ct rfl ?_ | refine T.cf rfl ?_ | refine T.seq ?_ | refine T.block ?_ | refine T.skip ?_ | refine T.exit ?_
  refine T.loopK (α := Nat × List MTy × List (List CV)) [0, 3, 4] (fun x => [(5, .b false), (8, .c (.own 0 x.1)), (9, .i x.1)]) (fun x => []) (fun x => x.2.2) (fun x _ => [{ sz := 2, ety := 25, rows := x.2.1.map eTy, wr := true }]) (fun x => e.kids.length + 1 - x.1) (fun x => x.1 ≤ e.kids.length ∧ x.2.1.length = x.1 ∧ (∀ u ∈ x.2.1, shapeTy 4 u = true) ∧ (castTyS ctx (e.kids.drop x.1)).map (x.2.1 ++ ·) = R) (by simp; rfl) (fun x hx => ?_) (0, [], []) (by simp [hR]) (by simp) (by simp) (by simp)
  obtain ⟨p, ts, G⟩ := x
  obtain ⟨hi, hp, hsh, he⟩ := hx
  dsimp only at hi hp hsh he ⊢
  simp only [ups, List.set_cons_zero, List.set_cons_succ, List.cons_append, List.nil_append]
  by_cases hlt : p < e.kids.length
  · obtain ⟨u, ht⟩ := get_lt hlt
    have htm : u ∈ e.kids := List.mem_of_getElem? ht
    have hgt : e.kids[p] = u := by rw [List.getElem?_eq_getElem hlt] at ht; exact Option.some.inj ht
    have hdr : e.kids.drop p = u :: e.kids.drop (p + 1) := by rw [List.drop_eq_getElem_cons hlt, hgt]
    obtain ⟨tu, h1, h2⟩ := ih u htm
    have hsu := hs u htm
    rw [hdr] at he
    simp only [castTyS] at he
    cases hb : castTyM ctx u with
    | none =>
      rw [hb] at h2 he
      simp only [Option.isSome_none] at h2
      obtain ⟨rfl, rfl⟩ := hnone (by simpa using he.symm)
      repeat' first | ((first | refine aops_end (hK _ ?_) | refine aopsD_end (hK _ ?_) | refine aopsF_end (hK _ ?_)); clear hK K) | ((first | refine aops_go ?_ | refine aopsD_go ?_ | refine aopsF_go ?_); simp [hlt, hgt, hp]; (try simp (disch := omega) only [wrap64]); (try (refine gen fun q hq => ?_; cases q <;> (try simp [hlt, hgt, hp] at hq) <;> (try (have hh : True := hq; clear hh hq))))) | (refine wpcall_pure rfl (h2) ?_; simp [hlt, hgt, hp]; (try simp (disch := omega) only [wrap64]); (try (refine gen fun q hq => ?_; cases q <;> (try simp [hlt, hgt, hp] at hq) <;> (try (have hh : True := hq; clear hh hq))))) | (refine ⟨by omega, by omega, ?_⟩) | (refine T.ret (Done.tup (Or.inr rfl) ?_) <;> simp [resAs, Tryz.results121] <;> omega) | refine T.rdF (id := 8) mixed (fun _ => false) [14, 15] [2, 4, 5, 7, 8, 9, 10] 15 [] (by kernel_rfl) fun K hK => ?_ | refine T.rdF1 (id := 8) mixed (fun _ => false) [14, 15] [2, 4, 5, 7, 8, 9, 10] 15 [] (by kernel_rfl) fun K hK => ?_ | (refine ⟨?_, ?_⟩; (focus (intros; refine wpcall_pure rfl (h2) ?_; simp; done))) | refine T.rs (id := 12) (fun i => i == 0) fun K hK => ?_ | refine T.rs1 (id := 12) (fun i => i == 0) fun K hK => ?_ | refine T.rs (id := 0) (fun _ => false) fun K hK => ?_ | refine T.rs1 (id := 0) (fun _ => false) fun K hK => ?_ | refine T.rs (id := 1) (fun _ => false) fun K hK => ?_ | refine T.rs1 (id := 1) (fun _ => false) fun K hK => ?_ | refine T.rs (id := 2) (fun _ => false) fun K hK => ?_ | refine T.rs1 (id := 2) (fun _ => false) fun K hK => ?_ | refine T.rs (id := 3) (fun _ => false) fun K hK => ?_ | refine T.rs1 (id := 3) (fun _ => false) fun K hK => ?_ | refine T.rs (id := 4) (fun _ => false) fun K hK => ?_ | refine T.rs1 (id := 4) (fun _ => false) fun K hK => ?_ | refine T.rs (id := 5) (fun _ => false) fun K hK => ?_ | refine T.rs1 (id := 5) (fun _ => false) fun K hK => ?_ | refine T.rs (id := 6) (fun _ => false) fun K hK => ?_ | refine T.rs1 (id := 6) (fun _ => false) fun K hK => ?_ | refine T.rs (id := 7) (fun _ => false) fun K hK => ?_ | refine T.rs1 (id := 7) (fun _ => false) fun K hK => ?_ | refine T.rs (id := 9) (fun _ => false) fun K hK => ?_ | refine T.rs1 (id := 9) (fun _ => false) fun K hK => ?_ | refine T.rs (id := 10) (fun _ => false) fun K hK => ?_ | refine T.rs1 (id := 10) (fun _ => false) fun K hK => ?_ | refine T.rs (id := 11) (fun _ => false) fun K hK => ?_ | refine T.rs1 (id := 11) (fun _ => false) fun K hK => ?_ | refine T.rs (id := 13) (fun _ => false) fun K hK => ?_ | refine T.rs1 (id := 13) (fun _ => false) fun K hK => ?_ | refine T.rs (id := 14) (fun _ => false) fun K hK => ?_ | refine T.rs1 (id := 14) (fun _ => false) fun K hK => ?_ | refine T.rs (id := 16) (fun _ => false) fun K hK => ?_ | refine T.rs1 (id := 16) (fun _ => false) fun K hK => ?_ | refine T.rs (id := 17) (fun _ => false) fun K hK => ?_ | refine T.rs1 (id := 17) (fun _ => false) fun K hK => ?_ | refine T.rs (id := 18) (fun _ => false) fun K hK => ?_ | refine T.rs1 (id := 18) (fun _ => false) fun K hK => ?_ | refine T.rs (id := 19) (fun _ => false) fun K hK => ?_ | refine T.rs1 (id := 19) (fun _ => false) fun K hK => ?_ | refine T.rs (id := 15) (fun _ => false) fun K hK => ?_ | refine T.rs1 (id := 15) (fun _ => false) fun K hK => ?_ | refine T.rs (id := 20) (fun _ => false) fun K hK => ?_ | refine T.rs1 (id := 20) (fun _ => false) fun K hK => ?_ | (refine ⟨by omega, ?_⟩) | refine T.ct rfl ?_ | refine T.cf rfl ?_ | refine T.seq ?_ | refine T.block ?_ | refine T.skip ?_ | refine T.exit ?_
    | some t =>
      obtain rfl := h1 t hb
      rw [hb] at h2 he
      simp only [Option.isSome_some] at h2
      have he' : (castTyS ctx (e.kids.drop (p + 1))).map ((ts ++ [tu]) ++ ·) = R := by
        rw [← he]
        cases castTyS ctx (e.kids.drop (p + 1)) <;> simp
      have hsh' : ∀ v ∈ ts ++ [tu], shapeTy 4 v = true := fun v hv => by
        rcases List.mem_append.1 hv with h | h
        · exact hsh v h
        · simp at h; subst h; exact hsu _ hb
      repeat' first | ((first | refine aops_end (hK _ ?_) | refine aopsD_end (hK _ ?_) | refine aopsF_end (hK _ ?_)); clear hK K) | ((first | refine aops_go ?_ | refine aopsD_go ?_ | refine aopsF_go ?_); simp [hlt, hgt, hp]; (try simp (disch := omega) only [wrap64]); (try (refine gen fun q hq => ?_; cases q <;> (try simp [hlt, hgt, hp] at hq) <;> (try (have hh : True := hq; clear hh hq))))) | (refine wpcall_pure rfl (h2) ?_; simp [hlt, hgt, hp]; (try simp (disch := omega) only [wrap64]); (try (refine gen fun q hq => ?_; cases q <;> (try simp [hlt, hgt, hp] at hq) <;> (try (have hh : True := hq; clear hh hq))))) | (refine ⟨by omega, by omega, ?_⟩) | (refine ⟨(p + 1, ts ++ [tu], _), by dsimp only; omega, ⟨by dsimp only; omega, by simp [hp], hsh', he'⟩, rfl, ?_, ?_⟩ <;> simp (disch := omega) [wrap64, eTy_def]) | refine T.rdF (id := 8) mixed (fun _ => false) [14, 15] [2, 4, 5, 7, 8, 9, 10] 15 [] (by kernel_rfl) fun K hK => ?_ | refine T.rdF1 (id := 8) mixed (fun _ => false) [14, 15] [2, 4, 5, 7, 8, 9, 10] 15 [] (by kernel_rfl) fun K hK => ?_ | (refine ⟨?_, ?_⟩; (focus (intros; refine wpcall_pure rfl (h2) ?_; simp; done))) | refine T.rs (id := 12) (fun i => i == 0) fun K hK => ?_ | refine T.rs1 (id := 12) (fun i => i == 0) fun K hK => ?_ | refine T.rs (id := 0) (fun _ => false) fun K hK => ?_ | refine T.rs1 (id := 0) (fun _ => false) fun K hK => ?_ | refine T.rs (id := 1) (fun _ => false) fun K hK => ?_ | refine T.rs1 (id := 1) (fun _ => false) fun K hK => ?_ | refine T.rs (id := 2) (fun _ => false) fun K hK => ?_ | refine T.rs1 (id := 2) (fun _ => false) fun K hK => ?_ | refine T.rs (id := 3) (fun _ => false) fun K hK => ?_ | refine T.rs1 (id := 3) (fun _ => false) fun K hK => ?_ | refine T.rs (id := 4) (fun _ => false) fun K hK => ?_ | refine T.rs1 (id := 4) (fun _ => false) fun K hK => ?_ | refine T.rs (id := 5) (fun _ => false) fun K hK => ?_ | refine T.rs1 (id := 5) (fun _ => false) fun K hK => ?_ | refine T.rs (id := 6) (fun _ => false) fun K hK => ?_ | refine T.rs1 (id := 6) (fun _ => false) fun K hK => ?_ | refine T.rs (id := 7) (fun _ => false) fun K hK => ?_ | refine T.rs1 (id := 7) (fun _ => false) fun K hK => ?_ | refine T.rs (id := 9) (fun _ => false) fun K hK => ?_ | refine T.rs1 (id := 9) (fun _ => false) fun K hK => ?_ | refine T.rs (id := 10) (fun _ => false) fun K hK => ?_ | refine T.rs1 (id := 10) (fun _ => false) fun K hK => ?_ | refine T.rs (id := 11) (fun _ => false) fun K hK => ?_ | refine T.rs1 (id := 11) (fun _ => false) fun K hK => ?_ | refine T.rs (id := 13) (fun _ => false) fun K hK => ?_ | refine T.rs1 (id := 13) (fun _ => false) fun K hK => ?_ | refine T.rs (id := 14) (fun _ => false) fun K hK => ?_ | refine T.rs1 (id := 14) (fun _ => false) fun K hK => ?_ | refine T.rs (id := 16) (fun _ => false) fun K hK => ?_ | refine T.rs1 (id := 16) (fun _ => false) fun K hK => ?_ | refine T.rs (id := 17) (fun _ => false) fun K hK => ?_ | refine T.rs1 (id := 17) (fun _ => false) fun K hK => ?_ | refine T.rs (id := 18) (fun _ => false) fun K hK => ?_ | refine T.rs1 (id := 18) (fun _ => false) fun K hK => ?_ | refine T.rs (id := 19) (fun _ => false) fun K hK => ?_ | refine T.rs1 (id := 19) (fun _ => false) fun K hK => ?_ | refine T.rs (id := 15) (fun _ => false) fun K hK => ?_ | refine T.rs1 (id := 15) (fun _ => false) fun K hK => ?_ | refine T.rs (id := 20) (fun _ => false) fun K hK => ?_ | refine T.rs1 (id := 20) (fun _ => false) fun K hK => ?_ | (refine ⟨by omega, ?_⟩) | refine T.ct rfl ?_ | refine T.cf rfl ?_ | refine T.seq ?_ | refine T.block ?_ | refine T.skip ?_ | refine T.exit ?_
  · have hp' : p = e.kids.length := by omega
    subst hp'
    simp [castTyS] at he
    have hres := hsome ts he.symm hsh
    repeat' first | ((first | refine aops_end (hK _ ?_) | refine aopsD_end (hK _ ?_) | refine aopsF_end (hK _ ?_)); clear hK K) | ((first | refine aops_go ?_ | refine aopsD_go ?_ | refine aopsF_go ?_); simp [hlt, hp]; (try (refine gen fun q hq => ?_; cases q <;> (try simp [hlt, hp] at hq) <;> (try (have hh : True := hq; clear hh hq))))) | (refine wpcall_pure ?_ (hres) ?_; (focus (solve | simp [hlt, hp])); simp [hlt, hp]; (try (refine gen fun q hq => ?_; cases q <;> (try simp [hlt, hp] at hq) <;> (try (have hh : True := hq; clear hh hq))))) | (refine T.ret (Done.tup (Or.inr rfl) ?_) <;> simp [resAs, Tryz.results121] <;> omega) | refine T.rdF (id := 8) mixed (fun _ => false) [14, 15] [2, 4, 5, 7, 8, 9, 10] 15 [] (by kernel_rfl) fun K hK => ?_ | refine T.rdF1 (id := 8) mixed (fun _ => false) [14, 15] [2, 4, 5, 7, 8, 9, 10] 15 [] (by kernel_rfl) fun K hK => ?_ | (refine ⟨?_, ?_⟩; (focus (intros; refine wpcall_pure ?_ (hres) ?_; (focus (solve | simp [hlt, hp])); simp; done))) | refine T.rs (id := 12) (fun i => i == 0) fun K hK => ?_ | refine T.rs1 (id := 12) (fun i => i == 0) fun K hK => ?_ | refine T.rs (id := 0) (fun _ => false) fun K hK => ?_ | refine T.rs1 (id := 0) (fun _ => false) fun K hK => ?_ | refine T.rs (id := 1) (fun _ => false) fun K hK => ?_ | refine T.rs1 (id := 1) (fun _ => false) fun K hK => ?_ | refine T.rs (id := 2) (fun _ => false) fun K hK => ?_ | refine T.rs1 (id := 2) (fun _ => false) fun K hK => ?_ | refine T.rs (id := 3) (fun _ => false) fun K hK => ?_ | refine T.rs1 (id := 3) (fun _ => false) fun K hK => ?_ | refine T.rs (id := 4) (fun _ => false) fun K hK => ?_ | refine T.rs1 (id := 4) (fun _ => false) fun K hK => ?_ | refine T.rs (id := 5) (fun _ => false) fun K hK => ?_ | refine T.rs1 (id := 5) (fun _ => false) fun K hK => ?_ | refine T.rs (id := 6) (fun _ => false) fun K hK => ?_ | refine T.rs1 (id := 6) (fun _ => false) fun K hK => ?_ | refine T.rs (id := 7) (fun _ => false) fun K hK => ?_ | refine T.rs1 (id := 7) (fun _ => false) fun K hK => ?_ | refine T.rs (id := 9) (fun _ => false) fun K hK => ?_ | refine T.rs1 (id := 9) (fun _ => false) fun K hK => ?_ | refine T.rs (id := 10) (fun _ => false) fun K hK => ?_ | refine T.rs1 (id := 10) (fun _ => false) fun K hK => ?_ | refine T.rs (id := 11) (fun _ => false) fun K hK => ?_ | refine T.rs1 (id := 11) (fun _ => false) fun K hK => ?_ | refine T.rs (id := 13) (fun _ => false) fun K hK => ?_ | refine T.rs1 (id := 13) (fun _ => false) fun K hK => ?_ | refine T.rs (id := 14) (fun _ => false) fun K hK => ?_ | refine T.rs1 (id := 14) (fun _ => false) fun K hK => ?_ | refine T.rs (id := 16) (fun _ => false) fun K hK => ?_ | refine T.rs1 (id := 16) (fun _ => false) fun K hK => ?_ | refine T.rs (id := 17) (fun _ => false) fun K hK => ?_ | refine T.rs1 (id := 17) (fun _ => false) fun K hK => ?_ | refine T.rs (id := 18) (fun _ => false) fun K hK => ?_ | refine T.rs1 (id := 18) (fun _ => false) fun K hK => ?_ | refine T.rs (id := 19) (fun _ => false) fun K hK => ?_ | refine T.rs1 (id := 19) (fun _ => false) fun K hK => ?_ | refine T.rs (id := 15) (fun _ => false) fun K hK => ?_ | refine T.rs1 (id := 15) (fun _ => false) fun K hK => ?_ | refine T.rs (id := 20) (fun _ => false) fun K hK => ?_ | refine T.rs1 (id := 20) (fun _ => false) fun K hK => ?_ | (refine ⟨by omega, ?_⟩) | refine T.ct rfl ?_ | refine T.cf rfl ?_ | refine T.seq ?_ | refine T.block ?_ | refine T.skip ?_ | refine T.exit ?_

theorem castTyS_len' : ∀ {c : List MBd} {l : List MTm} {ts : List MTy}, castTyS c l = some ts → ts.length = l.length ∧ ∀ u ∈ ts, ∃ x ∈ l, castTyM c x = some u
  | c, [], ts, h => by simp [castTyS] at h; subst h; simp
  | c, e :: r, ts, h => by
    simp only [castTyS] at h
    cases h1 : castTyM c e with
    | none => rw [h1] at h; simp at h
    | some t =>
      rw [h1] at h
      cases h2 : castTyS c r with
      | none => rw [h2] at h; simp at h
      | some us =>
        rw [h2] at h; simp at h; subst h
        obtain ⟨g1, g2⟩ := castTyS_len' h2
        refine ⟨by simp [g1], fun u hu => ?_⟩
        simp only [List.mem_cons] at hu
        rcases hu with rfl | hu
        · exact ⟨e, by simp, h1⟩
        · obtain ⟨x, g3, g4⟩ := g2 u hu
          exact ⟨x, by simp [g3], g4⟩

theorem l4Type_node (ctx : List MBd) (e : MTm) (hl : ctx.length ≤ 1099511627776) (hk : 5 < e.kind ∧ e.kind < 15) (h13 : e.kind ≠ 13) (hlen : kidsM e.kind = e.kids.length) (hty : typedM e.kind = true → shapeTy 4 e.ty = true)
    (hs : ∀ u ∈ e.kids, ∀ t, castTyM ctx u = some t → shapeTy 4 t = true) (ih : ∀ u ∈ e.kids, L4T ctx u) : L4T ctx e := by
  have hk5 : ¬ e.kind = 5 := by omega
  have hk9 := kidsM_le e.kind
  have ht : castTyM ctx e = (castTyS ctx e.kids).bind (castN ctx e) := by
    rw [castTyM_N, insideM, if_neg hk5]
    cases castTyS ctx e.kids <;> rfl
  simp only [L4T, ht]
  cases hr : castTyS ctx e.kids with
  | none =>
    refine ⟨zeroT, by simp, ?_⟩
    exact l4Type_loop ctx e none zeroT false hl hk (by omega) hr hs ih (fun _ => ⟨rfl, rfl⟩) (fun ts h => by simp at h)
  | some ts =>
    obtain ⟨hlt, hmem⟩ := castTyS_len' hr
    have hsts : ∀ u ∈ ts, shapeTy 4 u = true := fun u hu => by obtain ⟨x, g1, g2⟩ := hmem u hu; exact hs x g1 u g2
    obtain ⟨t', h1, h2⟩ := l4Exact_ok ctx e ts hk h13 (by rw [hlt]; exact hlen.symm) hsts hty
    refine ⟨t', by simpa using h1, ?_⟩
    rw [show ((some ts).bind (castN ctx e)) = castN ctx e ts from rfl]
    exact l4Type_loop ctx e (some ts) t' _ hl hk (by omega) hr hs ih (fun h => by simp at h) (fun us h _ => by simp at h; subst h; exact h2)

theorem l4Type_ok : ∀ (e : MTm) (d : Nat) (ctx : List MBd), shapeTm 13 d e = true → ctx.length + d ≤ 1099511627776 → okCtx ctx → L4T ctx e := by
  intro e
  induction e using MTm.ind with
  | h e ih =>
    intro d ctx hs hl hc
    obtain ⟨d', rfl, hne, hlen, hown, hkids⟩ := shapeTm_kids hs
    have hb := kidsM_lt e.kind _ hlen
    by_cases h5 : e.kind = 5
    · have hty : shapeTy 4 e.ty = true := own_typed hown (by simp [typedM, h5])
      have hl1 : e.kids.length = 1 := by rw [h5] at hlen; simp [kidsM] at hlen; omega
      match hk : e.kids, hl1 with
      | [b], _ =>
        have hbm : b ∈ e.kids := by simp [hk]
        have hc' : okCtx (ctx ++ [MBd.mk e.name e.ty]) := by
          intro x hx
          rcases List.mem_append.1 hx with h | h
          · exact hc x h
          · simp at h; subst h; exact hty
        exact l4Type_lam ctx e b (by omega) h5 hk hty (fun t h => castTy_shape (hkids b hbm) h) (ih b hbm d' _ (hkids b hbm) (by simp; omega) hc')
    · by_cases hsm : e.kind < 5
      · exact l4Type_leaf ctx e (by omega) hc hlen (by omega)
      · exact l4Type_node ctx e (by omega) ⟨by omega, by omega⟩ hne hlen (own_typed hown) (fun u hu t h => castTy_shape (hkids u hu) h) (fun u hu => ih u hu d' ctx (hkids u hu) (by omega) hc)

theorem CastTypeOfS_ok (e : MTm) (hn : nTm e ≤ 1099511627776) : ACalls Tryz.prog 71 [aTm e] [] (.tup (tyRes (castTypeM e))) [] [] := by
  have h2 := CastValidS_ok e hn
  rw [castTypeM]
  cases hv : castValidM e with
  | false =>
    rw [hv] at h2
    simp only [Bool.false_eq_true, if_false]
    refine ACalls.of_body Tryz.func71 (by kernel_rfl) rfl (by kernel_rfl) (by simp [Tryz.ntmps71]) (by simp) ?_
    rw [Tryz.ntmps71]
    repeat' first | ((first | refine aops_end (hK _ ?_) | refine aopsD_end (hK _ ?_) | refine aopsF_end (hK _ ?_)); clear hK K) | ((first | refine aops_go ?_ | refine aopsD_go ?_ | refine aopsF_go ?_); simp; (try (refine gen fun q hq => ?_; cases q <;> (try simp at hq) <;> (try (have hh : True := hq; clear hh hq))))) | (refine wpcall_pure rfl (h2) ?_; simp; (try (refine gen fun q hq => ?_; cases q <;> (try simp at hq) <;> (try (have hh : True := hq; clear hh hq))))) | (refine T.ret (Done.tup (Or.inr rfl) ?_) <;> simp [resAs, Tryz.results71] <;> omega) | refine T.r0 fun K hK => ?_ | refine T.r1 fun K hK => ?_ | (refine ⟨by omega, ?_⟩) | refine T.ct rfl ?_ | refine T.cf rfl ?_ | refine T.seq ?_ | refine T.block ?_ | refine T.skip ?_ | refine T.exit ?_
  | true =>
    rw [hv] at h2
    simp only [if_true]
    have hsh : shapeTm 13 40 e = true := by simp only [castValidM, Bool.and_eq_true] at hv; exact hv.1
    obtain ⟨t', h3, h4⟩ := l4Type_ok e 40 [] hsh (by simp) (by intro b hb; simp at hb)
    cases hr : castTyM [] e with
    | none =>
      rw [hr] at h4
      have h5 := l3Sure_ok t' false
      simp only [Option.isSome_none] at h4
      refine ACalls.of_body Tryz.func71 (by kernel_rfl) rfl (by kernel_rfl) (by simp [Tryz.ntmps71]) (by simp) ?_
      rw [Tryz.ntmps71]
      repeat' first | ((first | refine aops_end (hK _ ?_) | refine aopsD_end (hK _ ?_) | refine aopsF_end (hK _ ?_)); clear hK K) | ((first | refine aops_go ?_ | refine aopsD_go ?_ | refine aopsF_go ?_); simp; (try (refine gen fun q hq => ?_; cases q <;> (try simp at hq) <;> (try (have hh : True := hq; clear hh hq))))) | (refine wpcall_pure rfl (h2) ?_; simp; (try (refine gen fun q hq => ?_; cases q <;> (try simp at hq) <;> (try (have hh : True := hq; clear hh hq))))) | (refine wpcall_pure ?_ (h4) ?_; (focus (solve | simp)); simp; (try (refine gen fun q hq => ?_; cases q <;> (try simp at hq) <;> (try (have hh : True := hq; clear hh hq))))) | (refine wpcall_pure rfl (h5) ?_; simp; (try (refine gen fun q hq => ?_; cases q <;> (try simp at hq) <;> (try (have hh : True := hq; clear hh hq))))) | (refine T.ret (Done.tup (Or.inr rfl) ?_) <;> simp [resAs, Tryz.results71] <;> omega) | refine T.r0 fun K hK => ?_ | refine T.r1 fun K hK => ?_ | (refine ⟨by omega, ?_⟩) | refine T.ct rfl ?_ | refine T.cf rfl ?_ | refine T.seq ?_ | refine T.block ?_ | refine T.skip ?_ | refine T.exit ?_
    | some t =>
      obtain rfl := h3 t hr
      rw [hr] at h4
      have h5 := l3Sure_ok t' true
      simp only [Option.isSome_some] at h4
      refine ACalls.of_body Tryz.func71 (by kernel_rfl) rfl (by kernel_rfl) (by simp [Tryz.ntmps71]) (by simp) ?_
      rw [Tryz.ntmps71]
      repeat' first | ((first | refine aops_end (hK _ ?_) | refine aopsD_end (hK _ ?_) | refine aopsF_end (hK _ ?_)); clear hK K) | ((first | refine aops_go ?_ | refine aopsD_go ?_ | refine aopsF_go ?_); simp; (try (refine gen fun q hq => ?_; cases q <;> (try simp at hq) <;> (try (have hh : True := hq; clear hh hq))))) | (refine wpcall_pure rfl (h2) ?_; simp; (try (refine gen fun q hq => ?_; cases q <;> (try simp at hq) <;> (try (have hh : True := hq; clear hh hq))))) | (refine wpcall_pure ?_ (h4) ?_; (focus (solve | simp)); simp; (try (refine gen fun q hq => ?_; cases q <;> (try simp at hq) <;> (try (have hh : True := hq; clear hh hq))))) | (refine wpcall_pure rfl (h5) ?_; simp; (try (refine gen fun q hq => ?_; cases q <;> (try simp at hq) <;> (try (have hh : True := hq; clear hh hq))))) | (refine T.ret (Done.tup (Or.inr rfl) ?_) <;> simp [resAs, Tryz.results71] <;> omega) | refine T.r0 fun K hK => ?_ | refine T.r1 fun K hK => ?_ | (refine ⟨by omega, ?_⟩) | refine T.ct rfl ?_ | refine T.cf rfl ?_ | refine T.seq ?_ | refine T.block ?_ | refine T.skip ?_ | refine T.exit ?_

end Go.Proofs.YtdcahkkclldhmaaGreat

namespace Go.Proofs.YtdcahkkclldhmaaGreat
open Go Go.Av
attribute [local irreducible] T ACalls TX EX LX Draws Some_ ACallsX eTy eTm MTy.kind MTy.kids MTm.kind MTm.name MTm.num MTm.ty MTm.fr MTm.label MTm.kids
attribute [local simp] eTy_def eTm_def
set_option maxHeartbeats 16000000
set_option maxRecDepth 8000

def castC (e : MTm) (f t : MTy) (l : Int) : MTm := if sameTy f t = true then e else tCast e f t l
theorem castC_size (e : MTm) {f t : MTy} (l : Int) (hf : shapeTy 4 f = true) (ht : shapeTy 4 t = true) : nTm (castC e f t l) ≤ nTm e + 300 := by
  have := shape4 hf
  have := shape4 ht
  rw [castC]
  split
  · omega
  · simp [nTm_mk, nTmS]; omega

theorem l4Cast_any (e : MTm) (f t : MTy) (l : Int) (h : -1000 ≤ l ∧ l ≤ 1000) (hf : shapeTy 4 f = true) (ht : shapeTy 4 t = true) :
    ACalls Tryz.prog 61 [aTm e, aTy f, aTy t, .i l] [] (.tup [aTm (castC e f t l), .i (if sameTy f t = true then l else l + 1)]) [] [] := by
  have qf := shape4 hf
  have qt := shape4 ht
  have h1 := TypeSameS_ok f t (by omega)
  have h2 := l1Copy_ok f (by omega)
  have h3 := l1Copy_ok t (by omega)
  simp only [castC]
  by_cases hq : sameTy f t = true
  · rw [if_pos hq, if_pos hq]
    rw [hq] at h1
    refine ACalls.of_body Tryz.func61 (by kernel_rfl) rfl (by kernel_rfl) (by simp [Tryz.ntmps61]) (by simp) ?_
    rw [Tryz.ntmps61]
    repeat' first | ((first | refine aops_end (hK _ ?_) | refine aopsD_end (hK _ ?_) | refine aopsF_end (hK _ ?_)); clear hK K) | ((first | refine aops_go ?_ | refine aopsD_go ?_ | refine aopsF_go ?_); simp; (try (refine gen fun q hq => ?_; cases q <;> (try simp at hq) <;> (try (have hh : True := hq; clear hh hq))))) | (refine wpcall_pure rfl (h1) ?_; simp; (try (refine gen fun q hq => ?_; cases q <;> (try simp at hq) <;> (try (have hh : True := hq; clear hh hq))))) | (refine T.ret (Done.tup (Or.inr rfl) ?_) <;> simp [resAs, Tryz.results61] <;> omega) | refine T.rd (id := 3) mixed (fun _ => false) [10] (by kernel_rfl) fun K hK => ?_ | refine T.rd1 (id := 3) mixed (fun _ => false) [10] (by kernel_rfl) fun K hK => ?_ | refine T.r0 fun K hK => ?_ | refine T.r1 fun K hK => ?_ | (refine ⟨by omega, ?_⟩) | refine T.ct rfl ?_ | refine T.cf rfl ?_ | refine T.seq ?_ | refine T.block ?_ | refine T.skip ?_ | refine T.exit ?_
  · rw [if_neg hq, if_neg hq]
    rw [show sameTy f t = false by simpa using hq] at h1
    refine ACalls.of_body Tryz.func61 (by kernel_rfl) rfl (by kernel_rfl) (by simp [Tryz.ntmps61]) (by simp) ?_
    rw [Tryz.ntmps61]
    repeat' first | ((first | refine aops_end (hK _ ?_) | refine aopsD_end (hK _ ?_) | refine aopsF_end (hK _ ?_)); clear hK K) | ((first | refine aops_go ?_ | refine aopsD_go ?_ | refine aopsF_go ?_); simp; (try simp (disch := omega) only [wrap64]); (try (refine gen fun q hq => ?_; cases q <;> (try simp at hq) <;> (try (have hh : True := hq; clear hh hq))))) | (refine wpcall_pure rfl (h1) ?_; simp; (try simp (disch := omega) only [wrap64]); (try (refine gen fun q hq => ?_; cases q <;> (try simp at hq) <;> (try (have hh : True := hq; clear hh hq))))) | (refine wpcall_pure rfl (h2) ?_; simp; (try simp (disch := omega) only [wrap64]); (try (refine gen fun q hq => ?_; cases q <;> (try simp at hq) <;> (try (have hh : True := hq; clear hh hq))))) | (refine wpcall_pure rfl (h3) ?_; simp; (try simp (disch := omega) only [wrap64]); (try (refine gen fun q hq => ?_; cases q <;> (try simp at hq) <;> (try (have hh : True := hq; clear hh hq))))) | (refine T.ret (Done.tup (Or.inr rfl) ?_) <;> simp [resAs, Tryz.results61, eTm_def] <;> omega) | refine T.rd (id := 3) mixed (fun _ => false) [10] (by kernel_rfl) fun K hK => ?_ | refine T.rd1 (id := 3) mixed (fun _ => false) [10] (by kernel_rfl) fun K hK => ?_ | refine T.r0 fun K hK => ?_ | refine T.r1 fun K hK => ?_ | (refine ⟨by omega, ?_⟩) | refine T.ct rfl ?_ | refine T.cf rfl ?_ | refine T.seq ?_ | refine T.block ?_ | refine T.skip ?_ | refine T.exit ?_

theorem l5Cast_ok (e : MTm) (f t : MTy) (l : Int) (hf : nTy f ≤ 1099511627776) (ht : nTy t ≤ 1099511627776) :
    ACalls Tryz.prog 72 [aTm e, aTy f, aTy t, .i l] [] (aTm (tCast e f t l)) [] [] := by
  have h2 := l1Copy_ok f hf
  have h3 := l1Copy_ok t ht
  refine ACalls.of_body Tryz.func72 (by kernel_rfl) rfl (by kernel_rfl) (by simp [Tryz.ntmps72]) (by simp) ?_
  rw [Tryz.ntmps72]
  repeat' first | ((first | refine aops_end (hK _ ?_) | refine aopsD_end (hK _ ?_) | refine aopsF_end (hK _ ?_)); clear hK K) | ((first | refine aops_go ?_ | refine aopsD_go ?_ | refine aopsF_go ?_); simp; (try (refine gen fun q hq => ?_; cases q <;> (try simp at hq) <;> (try (have hh : True := hq; clear hh hq))))) | (refine wpcall_pure rfl (h2) ?_; simp; (try (refine gen fun q hq => ?_; cases q <;> (try simp at hq) <;> (try (have hh : True := hq; clear hh hq))))) | (refine wpcall_pure rfl (h3) ?_; simp; (try (refine gen fun q hq => ?_; cases q <;> (try simp at hq) <;> (try (have hh : True := hq; clear hh hq))))) | (refine T.ret (Done.val (Or.inr rfl) ?_) <;> simp [resAs, Tryz.results72, eTm_def] <;> omega) | refine T.rd (id := 1) mixed (fun _ => false) [8] (by kernel_rfl) fun K hK => ?_ | refine T.rd1 (id := 1) mixed (fun _ => false) [8] (by kernel_rfl) fun K hK => ?_ | refine T.r0 fun K hK => ?_ | refine T.r1 fun K hK => ?_ | (refine ⟨by omega, ?_⟩) | refine T.ct rfl ?_ | refine T.cf rfl ?_ | refine T.seq ?_ | refine T.block ?_ | refine T.skip ?_ | refine T.exit ?_

theorem l4Mutate_ok (b : List Int) (hb : okB b) (e : MTm) (hn : nTm e ≤ 900000000) (p : Nat) (hp : p + 1000 ≤ 1099511627776) : Draws Tryz.prog 74 [aTm e] b p 1000 (RV aTm noA fun u => nTm u ≤ nTm e + 1000) := by
  have hde := nTm_def e
  have hdt := nTy_def e.ty
  have hdf := nTy_def e.fr
  refine Draws.of_body Tryz.func74 (by kernel_rfl) rfl (by kernel_rfl) (by simp [Tryz.ntmps74]) ?_
  rw [Tryz.ntmps74]
  repeat' first | ((first | refine aops_end (hK _ ?_) | refine aopsD_end (hK _ ?_) | refine aopsF_end (hK _ ?_)); clear hK K) | ((first | refine aops_go ?_ | refine aopsD_go ?_ | refine aopsF_go ?_); simp; (try simp (disch := omega) only [wrap64]); (try (refine gen fun q hq => ?_; cases q <;> (try simp at hq) <;> (try (have hh : True := hq; clear hh hq))))) | (refine wpcall_dr 0 rfl rfl (pick_ok b hb _ (by omega) 40 (by omega)) (fun x1 p1 hx1 hp1 hp1' => ?_); simp; (try simp (disch := omega) only [wrap64]); (try (refine gen fun q hq => ?_; cases q <;> (try simp at hq) <;> (try (have hh : True := hq; clear hh hq))))) | (refine wpcall_dr 0 rfl rfl (num_ok b hb _ (by omega) [0, 100, -9223372036854775808, 3] (by simp) (by simp)) (fun x1 p1 hx1 hp1 hp1' => ?_); simp; (try simp (disch := omega) only [wrap64]); (try (refine gen fun q hq => ?_; cases q <;> (try simp at hq) <;> (try (have hh : True := hq; clear hh hq))))) | (refine wpcall_dr 0 rfl rfl (l2Mutate_ok b hb _ (by omega) _ (by omega)) (fun e2 p1 he2 hp1 hp1' => ?_); rw [nTm_def e2, nTy_def e2.ty, nTy_def e2.fr] at he2; simp) | (refine wpcall_dr 0 rfl rfl (l1Type_ok b hb _ (by omega)) (fun t p1 ht hp1 hp1' => ?_); replace ht := shape4 ht; simp) | (refine wpcall_dr 0 rfl rfl (l1Mutate_ok b hb _ (by omega) _ (by omega)) (fun t2 p4 ht2 hp4 hp4' => ?_); rw [nTy_def t2] at ht2; simp) | refine TX.rs (fun _ => false) fun K hK => ?_ | refine TX.rs1 (fun _ => false) fun K hK => ?_ | (refine ⟨by omega, ?_⟩) | refine TX.cond rfl (fun hcnd => ?_) (fun hcnd => absurd hcnd (by decide)) | refine TX.cond rfl (fun hcnd => absurd hcnd (by decide)) (fun hcnd => ?_) | refine TX.seq ?_ | refine TX.block ?_ | refine TX.skip ?_ | refine TX.exit ?_ | refine EX.thenN ?_ | refine EX.thenR ?_ | refine EX.thenE ?_ | refine EX.blockN ?_ | refine EX.blockR ?_ | refine EX.blockE ?_ | refine EX.blockO (by simp) ?_ | refine EX.outR ?_ | refine EX.outE ?_
  all_goals (
    refine TX.ret ?_
    repeat' first | refine EX.outR ?_ | refine EX.thenR ?_ | refine EX.blockR ?_ | refine EX.unrR ?_
    apply EX.drA (ks := [])
    case he => exact Or.inr rfl
    case hys => simp [resAs, getAs, Tryz.results74] <;> rfl
    case hv => first | (dsimp only [Av.one]; exact rfl) | dsimp only [Av.one]
    case hx => repeat' first | exact IsT2.var _ | exact IsV.tmv _ | exact IsTm.var _ | exact IsTy.row _ | exact IsTm.row _ | exact IsTys.nil | exact IsTms.nil | exact IsBds.nil | exact IsTys.map _ | exact IsTms.map _ | exact IsBds.map _ | exact IsV.int _ | exact IsV.str _ | exact IsV.bool _ | apply IsV.p2 | apply IsV.p3 | apply IsV.tm | apply IsV.ty | apply IsTm.node | apply IsTy.of | apply IsTys.cons | apply IsTms.cons | apply IsBds.cons | apply IsV.tys | apply IsV.tms | apply IsV.bds | apply IsT2.node | apply IsTys.app | apply IsTms.app | apply IsBds.app
    case hA => exact rfl
    case hks => simp
    case hV => exact rfl
    case h1 => omega
    case h2 => omega
    case hg => simp [nTm_mk, nTy_mk, nTm_def, nTy_def] <;> omega)

theorem l4Random_ok (b : List Int) (hb : okB b) (p : Nat) (hp : p + 60010000 ≤ 1099511627776) : Draws Tryz.prog 70 [] b p 60010000 (RV aTm noA fun e => nTm e ≤ 200000) := by
  refine Draws.of_body Tryz.func70 (by kernel_rfl) rfl (by kernel_rfl) (by simp [Tryz.ntmps70]) ?_
  rw [Tryz.ntmps70]
  repeat' first | ((first | refine aops_end (hK _ ?_) | refine aopsD_end (hK _ ?_) | refine aopsF_end (hK _ ?_)); clear hK K) | ((first | refine aops_go ?_ | refine aopsD_go ?_ | refine aopsF_go ?_); simp; (try simp (disch := omega) only [wrap64]); (try (refine gen fun q hq => ?_; cases q <;> (try simp at hq) <;> (try (have hh : True := hq; clear hh hq))))) | (refine wpcall_pure rfl (l2Num_ok 6) ?_; simp; (try simp (disch := omega) only [wrap64]); (try (refine gen fun q hq => ?_; cases q <;> (try simp at hq) <;> (try (have hh : True := hq; clear hh hq))))) | (refine wpcall_dr 0 rfl rfl (pick_ok b hb _ (by omega) 3 (by omega)) (fun x1 p1 hx1 hp1 hp1' => ?_); simp; (try simp (disch := omega) only [wrap64]); (try (refine gen fun q hq => ?_; cases q <;> (try simp at hq) <;> (try (have hh : True := hq; clear hh hq))))) | (refine wpcall_dr 0 rfl rfl (l3Typed_ok b hb _ (by omega)) (fun e p1 he hp1 hp1' => ?_); simp) | (refine wpcall_pure rfl (InsertCastsS_ok _ (by omega)) ?_; rcases hr : insertM e with _ | ⟨x, t⟩ <;> simp [elRes]) | refine TX.rs (fun _ => false) fun K hK => ?_ | refine TX.rs1 (fun _ => false) fun K hK => ?_ | (refine ⟨by omega, ?_⟩) | refine TX.cond rfl (fun hcnd => ?_) (fun hcnd => absurd hcnd (by decide)) | refine TX.cond rfl (fun hcnd => absurd hcnd (by decide)) (fun hcnd => ?_) | refine TX.seq ?_ | refine TX.block ?_ | refine TX.skip ?_ | refine TX.exit ?_ | refine EX.thenN ?_ | refine EX.thenR ?_ | refine EX.thenE ?_ | refine EX.blockN ?_ | refine EX.blockR ?_ | refine EX.blockE ?_ | refine EX.blockO (by simp) ?_ | refine EX.outR ?_ | refine EX.outE ?_
  · all_goals (
      refine TX.ret ?_
      repeat' first | refine EX.outR ?_ | refine EX.thenR ?_ | refine EX.blockR ?_ | refine EX.unrR ?_
      apply EX.drA (ks := [])
      case he => exact Or.inr rfl
      case hys => simp [resAs, getAs, Tryz.results70] <;> rfl
      case hv => first | (dsimp only [Av.one]; exact rfl) | dsimp only [Av.one]
      case hx => repeat' first | exact IsT2.var _ | exact IsV.tmv _ | exact IsTm.var _ | exact IsTy.row _ | exact IsTm.row _ | exact IsTys.nil | exact IsTms.nil | exact IsBds.nil | exact IsTys.map _ | exact IsTms.map _ | exact IsBds.map _ | exact IsV.int _ | exact IsV.str _ | exact IsV.bool _ | apply IsV.p2 | apply IsV.p3 | apply IsV.tm | apply IsV.ty | apply IsTm.node | apply IsTy.of | apply IsTys.cons | apply IsTms.cons | apply IsBds.cons | apply IsV.tys | apply IsV.tms | apply IsV.bds | apply IsT2.node | apply IsTys.app | apply IsTms.app | apply IsBds.app
      case hA => exact rfl
      case hks => simp
      case hV => exact rfl
      case h1 => omega
      case h2 => omega
      case hg => simp [nTm_mk, nTy_mk, nTyS, nTmS])
  obtain ⟨hv, hty, m, hm, hev, hvx, hst, h0m, hmn, hn30, hnx, hct, hsm⟩ := insert_some hr
  refine TX.loopK (α := Nat × Nat × MTm × MTy × List (List CV)) [0, 2, 3, 4] (fun x => [(6, .i x.1)]) (fun x => [(0, (rd b x.2.1).map CV.d), (2, (aTm x.2.2.1).cells), (3, (aTy x.2.2.2.1).cells)]) (fun x => x.2.2.2.2) (fun x A => A) (fun x => x.1) (fun x => x.1 ≤ 2 ∧ p ≤ x.2.1 ∧ x.2.1 + 1000 * x.1 ≤ p + 60005000 ∧ shapeTy 4 x.2.2.2.1 = true ∧ nTm x.2.2.1 + 1000 * x.1 ≤ 110000) (by simp; rfl) (fun x hx => ?_) (x1, p1, x, t, []) (by refine ⟨by omega, by dsimp only; omega, by dsimp only; omega, hst, by dsimp only; omega⟩) (by simp) (by simp) (by simp)
  clear hm hev hvx hct hty hr
  obtain ⟨j, q, e1, t1, G⟩ := x
  obtain ⟨h1, h2, h3, h4, h5⟩ := hx
  dsimp only at h1 h2 h3 h4 h5 ⊢
  simp only [ups, List.set_cons_zero, List.set_cons_succ, List.cons_append, List.nil_append, List.append_nil]
  cases j with
  | zero =>
    repeat' first | ((first | refine aops_end (hK _ ?_) | refine aopsD_end (hK _ ?_) | refine aopsF_end (hK _ ?_)); clear hK K) | ((first | refine aops_go ?_ | refine aopsD_go ?_ | refine aopsF_go ?_); simp; (try simp (disch := omega) only [wrap64]); (try (refine gen fun q hq => ?_; cases q <;> (try simp at hq) <;> (try (have hh : True := hq; clear hh hq))))) | refine TX.rs (fun _ => false) fun K hK => ?_ | refine TX.rs1 (fun _ => false) fun K hK => ?_ | (refine ⟨by omega, ?_⟩) | refine TX.cond rfl (fun hcnd => ?_) (fun hcnd => absurd hcnd (by decide)) | refine TX.cond rfl (fun hcnd => absurd hcnd (by decide)) (fun hcnd => ?_) | refine TX.seq ?_ | refine TX.block ?_ | refine TX.skip ?_ | refine TX.exit ?_ | refine EX.thenN ?_ | refine EX.thenR ?_ | refine EX.thenE ?_ | refine EX.blockN ?_ | refine EX.blockR ?_ | refine EX.blockE ?_ | refine EX.blockO (by simp) ?_ | refine EX.outR ?_ | refine EX.outE ?_
    all_goals (
      refine TX.ret ?_
      repeat' first | refine EX.outR ?_ | refine EX.thenR ?_ | refine EX.blockR ?_ | refine EX.unrR ?_
      apply EX.drA (ks := [])
      case he => exact Or.inr rfl
      case hys => simp [resAs, getAs, Tryz.results70] <;> rfl
      case hv => first | (dsimp only [Av.one]; exact rfl) | dsimp only [Av.one]
      case hx => repeat' first | exact IsT2.var _ | exact IsV.tmv _ | exact IsTm.var _ | exact IsTy.row _ | exact IsTm.row _ | exact IsTys.nil | exact IsTms.nil | exact IsBds.nil | exact IsTys.map _ | exact IsTms.map _ | exact IsBds.map _ | exact IsV.int _ | exact IsV.str _ | exact IsV.bool _ | apply IsV.p2 | apply IsV.p3 | apply IsV.tm | apply IsV.ty | apply IsTm.node | apply IsTy.of | apply IsTys.cons | apply IsTms.cons | apply IsBds.cons | apply IsV.tys | apply IsV.tms | apply IsV.bds | apply IsT2.node | apply IsTys.app | apply IsTms.app | apply IsBds.app
      case hA => exact rfl
      case hks => simp
      case hV => exact rfl
      case h1 => omega
      case h2 => omega
      case hg => omega)
  | succ j =>
    have q1 : (0 : Int) < (j : Int) + 1 := by omega
    repeat' first | ((first | refine aops_end (hK _ ?_) | refine aopsD_end (hK _ ?_) | refine aopsF_end (hK _ ?_)); clear hK K) | ((first | refine aops_go ?_ | refine aopsD_go ?_ | refine aopsF_go ?_); simp [q1]; (try simp (disch := omega) only [wrap64]); (try (refine gen fun q hq => ?_; cases q <;> (try simp [q1] at hq) <;> (try (have hh : True := hq; clear hh hq))))) | (refine wpcall_pure rfl (l1Consistent_ok 4 _ _ (by omega) (by assumption) (by assumption)) ?_; simp [q1]; (try simp (disch := omega) only [wrap64]); (try (refine gen fun q hq => ?_; cases q <;> (try simp [q1] at hq) <;> (try (have hh : True := hq; clear hh hq))))) | (refine wpcall_pure rfl (l4Cast_any _ _ _ _ (by omega) (by assumption) (by assumption)) ?_; simp [q1]; (try simp (disch := omega) only [wrap64]); (try (refine gen fun q hq => ?_; cases q <;> (try simp [q1] at hq) <;> (try (have hh : True := hq; clear hh hq))))) | (refine wpcall_dr 0 rfl rfl (l1Blur_ok b hb 4 _ _ (by assumption) (by omega)) (fun x1 p1 hx1 hp1 hp1' => ?_); simp [q1]; (try simp (disch := omega) only [wrap64]); (try (refine gen fun q hq => ?_; cases q <;> (try simp [q1] at hq) <;> (try (have hh : True := hq; clear hh hq))))) | (refine wpcall_dr 0 rfl rfl (pick_ok b hb _ (by omega) 2 (by omega)) (fun x1 p1 hx1 hp1 hp1' => ?_); simp [q1]; (try simp (disch := omega) only [wrap64]); (try (refine gen fun q hq => ?_; cases q <;> (try simp [q1] at hq) <;> (try (have hh : True := hq; clear hh hq))))) | (refine wpcall_dr 0 rfl rfl (l1Type_ok b hb _ (by omega)) (fun x1 p1 hx1 hp1 hp1' => ?_); simp [q1]; (try simp (disch := omega) only [wrap64]); (try (refine gen fun q hq => ?_; cases q <;> (try simp [q1] at hq) <;> (try (have hh : True := hq; clear hh hq))))) | (refine wpcall_dr 0 rfl rfl (pick_ok b hb _ (by omega) 3 (by omega)) (fun x1 p1 hx1 hp1 hp1' => ?_); simp [q1]; (try simp (disch := omega) only [wrap64]); (try (refine gen fun q hq => ?_; cases q <;> (try simp [q1] at hq) <;> (try (have hh : True := hq; clear hh hq))))) | (focus (refine EX.next (j, p1, _, _, _) (by dsimp only; omega) ?_ ⟨rfl, by simp, ?_⟩; (refine ⟨by dsimp only; omega, by dsimp only; omega, by dsimp only; omega, by assumption, ?_⟩; dsimp only; first | omega | exact Nat.le_trans (Nat.add_le_add_right (castC_size _ _ (by assumption) (by assumption)) _) (by omega)); simp (disch := omega) [wrap64]; done)) | refine TX.rs (fun _ => false) fun K hK => ?_ | refine TX.rs1 (fun _ => false) fun K hK => ?_ | (refine ⟨by omega, ?_⟩) | refine TX.cond rfl (fun hcnd => ?_) (fun hcnd => absurd hcnd (by decide)) | refine TX.cond rfl (fun hcnd => absurd hcnd (by decide)) (fun hcnd => ?_) | refine TX.seq ?_ | refine TX.block ?_ | refine TX.skip ?_ | refine TX.exit ?_ | refine EX.thenN ?_ | refine EX.thenR ?_ | refine EX.thenE ?_ | refine EX.blockN ?_ | refine EX.blockR ?_ | refine EX.blockE ?_ | refine EX.blockO (by simp) ?_ | refine EX.outR ?_ | refine EX.outE ?_

theorem castTypeM_shape {e : MTm} {t : MTy} (h : castTypeM e = some t) : shapeTy 4 t = true := by
  rw [castTypeM] at h
  split at h
  · rename_i hv
    simp only [castValidM, Bool.and_eq_true] at hv
    exact castTy_shape hv.1 h
  · simp at h

theorem castTypeM_cases (e : MTm) : castTypeM e = none ∨ ∃ t, castTypeM e = some t ∧ nTy t ≤ 100 := by
  cases hr : castTypeM e with
  | none => exact .inl rfl
  | some t => exact .inr ⟨t, rfl, by have := shape4 (castTypeM_shape hr); omega⟩

theorem l12Draw_ok (b : List Int) (hb : okB b) (p : Nat) (hp : p + 60020000 ≤ 1099511627776) : Draws Tryz.prog 37 [] b p 60020000 (RV aTm noA fun e => nTm e ≤ 300000) := by
  have hany := l1Any_ok
  refine Draws.of_body Tryz.func37 (by kernel_rfl) rfl (by kernel_rfl) (by simp [Tryz.ntmps37]) ?_
  rw [Tryz.ntmps37]
  repeat' first | ((first | refine aops_end (hK _ ?_) | refine aopsD_end (hK _ ?_) | refine aopsF_end (hK _ ?_)); clear hK K) | ((first | refine aops_go ?_ | refine aopsD_go ?_ | refine aopsF_go ?_); simp [eTm_def]; (try simp (disch := omega) only [wrap64]); (try (refine gen fun q hq => ?_; cases q <;> (try simp [eTm_def] at hq) <;> (try (have hh : True := hq; clear hh hq))))) | (refine wpcall_pure rfl (hany) ?_; simp [eTm_def]; (try simp (disch := omega) only [wrap64]); (try (refine gen fun q hq => ?_; cases q <;> (try simp [eTm_def] at hq) <;> (try (have hh : True := hq; clear hh hq))))) | (refine wpcall_pure ?_ (l5Cast_ok e t t 61 (by first | omega | simp [nTy_mk, nTyS]) (by first | omega | simp [nTy_mk, nTyS])) ?_; (focus (solve | simp [eTm_def])); simp [eTm_def]; (try simp (disch := omega) only [wrap64]); (try (refine gen fun q hq => ?_; cases q <;> (try simp [eTm_def] at hq) <;> (try (have hh : True := hq; clear hh hq))))) | (refine wpcall_pure ?_ (l5Cast_ok e t anyT 62 (by first | omega | simp [nTy_mk, nTyS]) (by first | omega | simp [nTy_mk, nTyS])) ?_; (focus (solve | simp [eTm_def])); simp [eTm_def]; (try simp (disch := omega) only [wrap64]); (try (refine gen fun q hq => ?_; cases q <;> (try simp [eTm_def] at hq) <;> (try (have hh : True := hq; clear hh hq))))) | (refine wpcall_pure ?_ (l5Cast_ok (tCast e t t 61) t anyT 62 (by first | omega | simp [nTy_mk, nTyS]) (by first | omega | simp [nTy_mk, nTyS])) ?_; (focus (solve | simp [eTm_def])); simp [eTm_def]; (try simp (disch := omega) only [wrap64]); (try (refine gen fun q hq => ?_; cases q <;> (try simp [eTm_def] at hq) <;> (try (have hh : True := hq; clear hh hq))))) | (refine wpcall_pure ?_ (l5Cast_ok (tCast e t anyT 62) anyT t 63 (by first | omega | simp [nTy_mk, nTyS]) (by first | omega | simp [nTy_mk, nTyS])) ?_; (focus (solve | simp [eTm_def])); simp [eTm_def]; (try simp (disch := omega) only [wrap64]); (try (refine gen fun q hq => ?_; cases q <;> (try simp [eTm_def] at hq) <;> (try (have hh : True := hq; clear hh hq))))) | (refine wpcall_pure ?_ (l5Cast_ok (tCast (tCast e t t 61) t anyT 62) anyT t 63 (by first | omega | simp [nTy_mk, nTyS]) (by first | omega | simp [nTy_mk, nTyS])) ?_; (focus (solve | simp [eTm_def])); simp [eTm_def]; (try simp (disch := omega) only [wrap64]); (try (refine gen fun q hq => ?_; cases q <;> (try simp [eTm_def] at hq) <;> (try (have hh : True := hq; clear hh hq))))) | (refine wpcall_dr 0 rfl rfl (pick_ok b hb _ (by omega) 2 (by omega)) (fun x1 p1 hx1 hp1 hp1' => ?_); simp [eTm_def]; (try simp (disch := omega) only [wrap64]); (try (refine gen fun q hq => ?_; cases q <;> (try simp [eTm_def] at hq) <;> (try (have hh : True := hq; clear hh hq))))) | (refine wpcall_dr 0 rfl rfl (l4Random_ok b hb _ (by omega)) (fun e p1 he hp1 hp1' => ?_); simp) | (refine wpcall_pure rfl (CastTypeOfS_ok _ (by omega)) ?_; rcases castTypeM_cases e with hr | ⟨t, hr, ht⟩ <;> rw [hr] <;> simp [tyRes]) | (refine wpcall_dr 0 rfl rfl (l4Mutate_ok b hb e (by omega) _ (by omega)) (fun e9 p9 he9 hp9 hp9' => ?_); simp) | (refine wpcall_dr 0 rfl ?_ (l4Mutate_ok b hb (tCast e t t 61) (by first | omega | (simp [nTm_mk, nTmS, nTy_mk, nTyS]; omega)) _ (by omega)) (fun e9 p9 he9 hp9 hp9' => ?_); (focus (solve | simp [eTm_def])); (simp [nTm_mk, nTmS, nTy_mk, nTyS] at he9); simp) | (refine wpcall_dr 0 rfl ?_ (l4Mutate_ok b hb (tCast (tCast e t anyT 62) anyT t 63) (by first | omega | (simp [nTm_mk, nTmS, nTy_mk, nTyS]; omega)) _ (by omega)) (fun e9 p9 he9 hp9 hp9' => ?_); (focus (solve | simp [eTm_def])); (simp [nTm_mk, nTmS, nTy_mk, nTyS] at he9); simp) | (refine wpcall_dr 0 rfl ?_ (l4Mutate_ok b hb (tCast (tCast (tCast e t t 61) t anyT 62) anyT t 63) (by first | omega | (simp [nTm_mk, nTmS, nTy_mk, nTyS]; omega)) _ (by omega)) (fun e9 p9 he9 hp9 hp9' => ?_); (focus (solve | simp [eTm_def])); (simp [nTm_mk, nTmS, nTy_mk, nTyS] at he9); simp) | refine TX.rd (id := 6) mixed (fun _ => false) [7] (by kernel_rfl) fun K hK => ?_ | refine TX.rd1 (id := 6) mixed (fun _ => false) [7] (by kernel_rfl) fun K hK => ?_ | refine TX.rs (fun _ => false) fun K hK => ?_ | refine TX.rs1 (fun _ => false) fun K hK => ?_ | (refine ⟨by omega, ?_⟩) | refine TX.cond rfl (fun hcnd => ?_) (fun hcnd => absurd hcnd (by decide)) | refine TX.cond rfl (fun hcnd => absurd hcnd (by decide)) (fun hcnd => ?_) | refine TX.seq ?_ | refine TX.block ?_ | refine TX.skip ?_ | refine TX.exit ?_ | refine EX.thenN ?_ | refine EX.thenR ?_ | refine EX.thenE ?_ | refine EX.blockN ?_ | refine EX.blockR ?_ | refine EX.blockE ?_ | refine EX.blockO (by simp) ?_ | refine EX.outR ?_ | refine EX.outE ?_
  all_goals (
    refine TX.ret ?_
    repeat' first | refine EX.outR ?_ | refine EX.thenR ?_ | refine EX.blockR ?_ | refine EX.unrR ?_
    apply EX.drA (ks := [])
    case he => exact Or.inr rfl
    case hys => simp [resAs, getAs, Tryz.results37] <;> rfl
    case hv => first | (dsimp only [Av.one]; exact rfl) | dsimp only [Av.one]
    case hx => repeat' first | exact IsT2.var _ | exact IsV.tmv _ | exact IsTm.var _ | exact IsTy.row _ | exact IsTm.row _ | exact IsTys.nil | exact IsTms.nil | exact IsBds.nil | exact IsTys.map _ | exact IsTms.map _ | exact IsBds.map _ | exact IsV.int _ | exact IsV.str _ | exact IsV.bool _ | apply IsV.p2 | apply IsV.p3 | apply IsV.tm | apply IsV.ty | apply IsTm.node | apply IsTy.of | apply IsTys.cons | apply IsTms.cons | apply IsBds.cons | apply IsV.tys | apply IsV.tms | apply IsV.bds | apply IsT2.node | apply IsTys.app | apply IsTms.app | apply IsBds.app
    case hA => exact rfl
    case hks => simp
    case hV => exact rfl
    case h1 => omega
    case h2 => omega
    case hg => omega)

end Go.Proofs.YtdcahkkclldhmaaGreat
