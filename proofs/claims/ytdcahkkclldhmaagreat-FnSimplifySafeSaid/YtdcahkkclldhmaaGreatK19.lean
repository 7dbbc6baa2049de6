/- A part of the library of this seat: a value-semantic program logic over the model, plain models, and walks of functions. -/
import Derived.Test.YtdcahkkclldhmaaGreatK18
set_option linter.unusedVariables false
set_option linter.unusedSimpArgs false
namespace Go.Proofs.YtdcahkkclldhmaaGreat
open Go Go.Av
attribute [local irreducible] T ACalls TX EX LX Draws Some_ ACallsX eTy eTm MTy.kind MTy.kids MTm.kind MTm.name MTm.num MTm.ty MTm.fr MTm.label MTm.kids
attribute [local simp] eTy_def eTm_def
set_option maxHeartbeats 16000000
set_option maxRecDepth 8000

def sortRen : Go.Shelf.Ren := ⟨fun n => match n with | 125 => 63 | 128 => 112 | 129 => 113 | 189 => 31 | 215 => 142 | 216 => 109 | 257 => 62 | 294 => 103 | 295 => 104 | 296 => 105 | 297 => 106 | 298 => 107 | 299 => 108 | 300 => 110 | 301 => 111 | 328 => 137 | 329 => 138 | 330 => 139 | 331 => 140 | 332 => 141 | 343 => 148 | _ => 0, fun n => match n with | 0 => 0 | 3 => 3 | 4 => 4 | 5 => 5 | 9 => 9 | 28 => 33 | 46 => 82 | 51 => 121 | 53 => 123 | 131 => 118 | 182 => 112 | 183 => 113 | 218 => 132 | 222 => 67 | 228 => 138 | 229 => 139 | _ => 0, fun n => n⟩
theorem sortLays : Go.Proofs.Lays.n189 Tryz.prog sortRen where
  mixed := mixed
  f125 := by kernel_rfl
  f128 := by kernel_rfl
  f129 := by kernel_rfl
  f189 := by kernel_rfl
  f215 := by kernel_rfl
  f216 := by kernel_rfl
  f257 := by kernel_rfl
  f294 := by kernel_rfl
  f295 := by kernel_rfl
  f296 := by kernel_rfl
  f297 := by kernel_rfl
  f298 := by kernel_rfl
  f299 := by kernel_rfl
  f300 := by kernel_rfl
  f301 := by kernel_rfl
  f328 := by kernel_rfl
  f329 := by kernel_rfl
  f330 := by kernel_rfl
  f331 := by kernel_rfl
  f332 := by kernel_rfl
  f343 := by kernel_rfl
  t0 := by kernel_rfl
  a0 := by intro w; kernel_rfl
  z0 := by intro w; kernel_rfl
  v0 := by intro w; kernel_rfl
  t3 := by kernel_rfl
  a3 := by intro w; kernel_rfl
  z3 := by intro w; kernel_rfl
  v3 := by intro w; kernel_rfl
  t4 := by kernel_rfl
  a4 := by intro w; kernel_rfl
  z4 := by intro w; kernel_rfl
  v4 := by intro w; kernel_rfl
  t5 := by kernel_rfl
  a5 := by intro w; kernel_rfl
  z5 := by intro w; kernel_rfl
  v5 := by intro w; kernel_rfl
  t9 := by kernel_rfl
  a9 := by intro w; kernel_rfl
  z9 := by intro w; kernel_rfl
  v9 := by intro w; kernel_rfl
  t28 := by kernel_rfl
  a28 := by intro w; kernel_rfl
  z28 := by intro w; kernel_rfl
  v28 := by intro w; kernel_rfl
  t46 := by kernel_rfl
  a46 := by intro w; kernel_rfl
  z46 := by intro w; kernel_rfl
  v46 := by intro w; kernel_rfl
  t51 := by kernel_rfl
  a51 := by intro w; kernel_rfl
  z51 := by intro w; kernel_rfl
  v51 := by intro w; kernel_rfl
  t53 := by kernel_rfl
  a53 := by intro w; kernel_rfl
  z53 := by intro w; kernel_rfl
  v53 := by intro w; kernel_rfl
  t131 := by kernel_rfl
  a131 := by intro w; kernel_rfl
  z131 := by intro w; kernel_rfl
  v131 := by intro w; kernel_rfl
  t182 := by kernel_rfl
  a182 := by intro w; kernel_rfl
  z182 := by intro w; kernel_rfl
  v182 := by intro w; kernel_rfl
  t183 := by kernel_rfl
  a183 := by intro w; kernel_rfl
  z183 := by intro w; kernel_rfl
  v183 := by intro w; kernel_rfl
  t218 := by kernel_rfl
  a218 := by intro w; kernel_rfl
  z218 := by intro w; kernel_rfl
  v218 := by intro w; kernel_rfl
  t222 := by kernel_rfl
  a222 := by intro w; kernel_rfl
  z222 := by intro w; kernel_rfl
  v222 := by intro w; kernel_rfl
  t228 := by kernel_rfl
  a228 := by intro w; kernel_rfl
  z228 := by intro w; kernel_rfl
  v228 := by intro w; kernel_rfl
  t229 := by kernel_rfl
  a229 := by intro w; kernel_rfl
  z229 := by intro w; kernel_rfl
  v229 := by intro w; kernel_rfl

def compRen : Go.Shelf.Ren := ⟨fun n => match n with | 20 => 32 | _ => 0, fun n => match n with | 0 => 0 | 3 => 3 | 4 => 4 | 22 => 33 | _ => 0, fun n => n⟩
theorem compLays : Go.Proofs.Lays2.n20 Tryz.prog compRen where
  mixed := mixed
  f20 := by kernel_rfl
  t0 := by kernel_rfl
  a0 := by intro w; kernel_rfl
  z0 := by intro w; kernel_rfl
  v0 := by intro w; kernel_rfl
  t3 := by kernel_rfl
  a3 := by intro w; kernel_rfl
  z3 := by intro w; kernel_rfl
  v3 := by intro w; kernel_rfl
  t4 := by kernel_rfl
  a4 := by intro w; kernel_rfl
  z4 := by intro w; kernel_rfl
  v4 := by intro w; kernel_rfl
  t22 := by kernel_rfl
  a22 := by intro w; kernel_rfl
  z22 := by intro w; kernel_rfl
  v22 := by intro w; kernel_rfl
  i3 := by kernel_rfl

theorem sort_own (l : List Int) (hne : l ≠ []) (hl : l.length ≤ 1099511627776) : ACallsG Tryz.prog 31 [.c (.own 0 l.length)] [] [{ sz := 1, ety := 3, rows := rI l, wr := true }] (.tup []) [] [{ sz := 1, ety := 3, rows := rI (sortI l), wr := true }] :=
  sort_contract sortLays (enters Tryz.func31 (by kernel_rfl) rfl) l hne hl

theorem compact_own (l : List Int) (hne : l ≠ []) (hl : l.length ≤ 1099511627776) : ACallsG Tryz.prog 32 [.c (.own 0 l.length)] [] [{ sz := 1, ety := 3, rows := rI l, wr := true }] (.l (rI (compactI l))) [] [{ sz := 1, ety := 3, rows := rI (compactI l ++ List.replicate (l.length - (compactI l).length) 0), wr := false }] :=
  compact_contract compLays (enters Tryz.func32 (by kernel_rfl) rfl) l hne hl

/-- The labels of casts, in order, each once. -/
def castLabelsM (e : MTm) : List Int := if castValidM e = true then compactI (sortI (labelsM e)) else []
theorem compactI_nil : compactI [] = [] := rfl
theorem sortI_nil : sortI [] = [] := by simp [sortI]

theorem CastLabels_ok (e : MTm) (hn : nTm e ≤ 1073741824) : ACalls Tryz.prog 10 [aTm e] [] (.l (rI (castLabelsM e))) [] [] := by
  have h1 := CastValid_ok e (by omega)
  simp only [castLabelsM]
  cases hv : castValidM e with
  | false =>
    rw [hv] at h1
    simp only [Bool.false_eq_true, if_false]
    refine ACalls.of_body Tryz.func10 (by kernel_rfl) rfl (by kernel_rfl) (by simp [Tryz.ntmps10]) (by simp) ?_
    rw [Tryz.ntmps10]
    repeat' first | (refine aops_end (hK _ ?_); clear hK K) | (refine aops_go ?_; simp; (try (refine gen fun q hq => ?_; cases q <;> (try simp at hq) <;> (try (have hh : True := hq; clear hh hq))))) | (refine wpcall_pure rfl (h1) ?_; simp; (try (refine gen fun q hq => ?_; cases q <;> (try simp at hq) <;> (try (have hh : True := hq; clear hh hq))))) | (refine T.ret (Done.val (Or.inr rfl) ?_) <;> simp [resAs, Tryz.results10, rI] <;> omega) | refine T.r0 fun K hK => ?_ | refine T.ct rfl ?_ | refine T.seq ?_
  | true =>
    simp only [if_true]
    by_cases h0 : castsM e = []
    · have := CastLabels_nil e hn hv h0
      rw [labelsM, h0, List.map_nil, sortI_nil, compactI_nil]
      exact this
    rw [hv] at h1
    have h2 := (casts_own e (by omega)).sealed (by simp)
    dsimp only at h2
    have hcs := casts_small e
    simp only [labelsM]
    obtain ⟨cs, hc⟩ : ∃ cs, castsM e = cs := ⟨_, rfl⟩
    rw [hc] at h0 h2 hcs ⊢
    have hne : cs.map MTm.label ≠ [] := by simpa using h0
    have hs := sort_own (cs.map MTm.label) hne (by simp; omega)
    have hne2 : sortI (cs.map MTm.label) ≠ [] := fun h => hne (List.eq_nil_of_length_eq_zero (by rw [← sortI_len, h]; rfl))
    have hk := compact_own (sortI (cs.map MTm.label)) hne2 (by rw [sortI_len]; simp; omega)
    rw [sortI_len] at hk
    simp only [List.length_map] at hs hk
    refine ACalls.of_body Tryz.func10 (by kernel_rfl) rfl (by kernel_rfl) (by simp [Tryz.ntmps10]) (by simp) ?_
    rw [Tryz.ntmps10]
    repeat' first | (refine aops_end (hK _ ?_); clear hK K) | (refine aops_go ?_; simp; (try (refine gen fun q hq => ?_; cases q <;> (try simp at hq) <;> (try (have hh : True := hq; clear hh hq))))) | (refine wpcall_pure rfl (h1) ?_; simp; (try (refine gen fun q hq => ?_; cases q <;> (try simp at hq) <;> (try (have hh : True := hq; clear hh hq))))) | (refine wpcall_pure rfl (h2) ?_; simp; (try (refine gen fun q hq => ?_; cases q <;> (try simp at hq) <;> (try (have hh : True := hq; clear hh hq))))) | refine T.r0 fun K hK => ?_ | refine T.cf rfl ?_ | refine T.seq ?_ | refine T.block ?_ | refine T.skip ?_
    refine T.ownify 3 1 3 (by simp) ?_
    refine T.loopK (α := Nat × List (List CV)) [2, 10, 11] (fun x => [(3, .c (.own 0 x.1)), (12, .i x.1)]) (fun x => []) (fun x => x.2) (fun x _ => [{ sz := 1, ety := 3, rows := rI ((cs.take x.1).map MTm.label), wr := true }]) (fun x => cs.length + 1 - x.1) (fun x => x.1 ≤ cs.length) (by simp; rfl) (fun x hx => ?_) (0, []) (by simp) (by simp) (by simp [rI]) (by simp)
    obtain ⟨p, G⟩ := x
    dsimp only at hx ⊢
    simp only [ups, List.set_cons_zero, List.set_cons_succ, List.cons_append, List.nil_append, List.append_nil]
    by_cases hlt : p < cs.length
    · obtain ⟨u, ht⟩ := get_lt hlt
      have htm : u ∈ cs := List.mem_of_getElem? ht
      have hgt : cs[p] = u := by rw [List.getElem?_eq_getElem hlt] at ht; exact Option.some.inj ht
      have hdr : cs.drop p = u :: cs.drop (p + 1) := by rw [List.drop_eq_getElem_cons hlt, hgt]
      have htk : cs.take (p + 1) = cs.take p ++ [u] := by rw [List.take_add_one, ht]; rfl
      have hmin : min p cs.length = p := by omega
      repeat' first | (refine aops_end (hK _ ?_); clear hK K) | (refine aops_go ?_; simp [hlt, hgt, hmin, rI]; (try simp (disch := omega) only [wrap64]); (try (refine gen fun q hq => ?_; cases q <;> (try simp [hlt, hgt, hmin, rI] at hq) <;> (try (have hh : True := hq; clear hh hq))))) | (refine ⟨by omega, by omega, ?_⟩) | (refine ⟨(p + 1, _), by dsimp only; omega, by dsimp only; omega, rfl, ?_, ?_⟩ <;> simp (disch := omega) [wrap64, htk, rI]) | refine T.r0 fun K hK => ?_ | refine T.r1 fun K hK => ?_ | refine T.ct rfl ?_ | refine T.seq ?_ | refine T.block ?_ | refine T.skip ?_
    · have hp' : p = cs.length := by omega
      subst hp'
      rw [List.take_length]
      repeat' first | (refine aops_end (hK _ ?_); clear hK K) | (refine aops_go ?_; simp [hlt]; (try (refine gen fun q hq => ?_; cases q <;> (try simp [hlt] at hq) <;> (try (have hh : True := hq; clear hh hq))))) | (refine wpcall_hand 0 hs rfl rfl rfl rfl ?_; simp [back]) | (refine wpcall_hand 0 hk rfl rfl rfl rfl ?_; simp [back]) | (refine T.ret (Done.val (Or.inr rfl) ?_) <;> simp [resAs, Tryz.results10] <;> omega) | refine T.r0 fun K hK => ?_ | refine T.cf rfl ?_ | refine T.seq ?_ | refine T.exit ?_
end Go.Proofs.YtdcahkkclldhmaaGreat

namespace Go.Proofs.YtdcahkkclldhmaaGreat
open Go Go.Av
attribute [local irreducible] T ACalls TX EX LX Draws Some_ ACallsX eTy eTm MTy.kind MTy.kids MTm.kind MTm.name MTm.num MTm.ty MTm.fr MTm.label MTm.kids
attribute [local simp] eTy_def eTm_def
set_option maxHeartbeats 16000000
set_option maxRecDepth 8000
attribute [local simp] Option.bind

theorem compact_seg (m : Nat) : compactI (segM m) = segM m := by
  refine Go.Lib.compact_all _ fun j hj => ?_
  rw [seg_len] at hj
  simp only [Go.Lib.keeps, decide_eq_true_eq]
  by_cases h0 : j = 0
  · exact .inl h0
  · refine .inr ?_
    have e1 : (segM m).toArray[j]! = (j : Int) + 1 := by
      have := seg_at hj
      simp [getElem!_def, this]
    have e2 : (segM m).toArray[j - 1]! = ((j - 1 : Nat) : Int) + 1 := by
      have := seg_at (m := m) (i := j - 1) (by omega)
      simp [getElem!_def, this]
    rw [e1, e2]; omega
theorem insert_labels {e x : MTm} {t : MTy} {m : Int} (hv : termValidM e = true) (h : EV [] e 0 x t m) (hcv : castValidM x = true) : castLabelsM x = segM m.toNat ∧ Lb 0 m x ∧ m + 1 ≤ nodesM e := by
  obtain ⟨h1, h2, _⟩ := h.labels (fun b hb => by simp at hb) (termValidM_iff.1 hv).1
  refine ⟨?_, h1, by omega⟩
  rw [castLabelsM, if_pos hcv, sortI, sort_seg (m := m.toNat) (fun v => ?_), compact_seg]
  rw [h1.cnt v, Int.toNat_of_nonneg h1.le]

theorem CastTypes_ok (e : MTm) (l : Int) (hn : nTm e ≤ 1073741824) : ACalls Tryz.prog 11 [aTm e, .i l] [] (.l ((castTypesM e l).map eTy)) [] [] := by
  have h1 := CastValid_ok e (by omega)
  simp only [castTypesM]
  cases hv : castValidM e with
  | false =>
    rw [hv] at h1
    simp only [Bool.false_eq_true, if_false]
    refine ACalls.of_body Tryz.func11 (by kernel_rfl) rfl (by kernel_rfl) (by simp [Tryz.ntmps11]) (by simp) ?_
    rw [Tryz.ntmps11]
    repeat' first | (refine aops_end (hK _ ?_); clear hK K) | (refine aops_go ?_; simp; (try (refine gen fun q hq => ?_; cases q <;> (try simp at hq) <;> (try (have hh : True := hq; clear hh hq))))) | (refine wpcall_pure rfl (h1) ?_; simp; (try (refine gen fun q hq => ?_; cases q <;> (try simp at hq) <;> (try (have hh : True := hq; clear hh hq))))) | (refine T.ret (Done.val (Or.inr rfl) ?_) <;> simp [resAs, Tryz.results11] <;> omega) | refine T.r0 fun K hK => ?_ | refine T.ct rfl ?_ | refine T.seq ?_
  | true =>
    rw [hv] at h1
    simp only [if_true]
    have h2 := (casts_own e (by omega)).sealed (by simp)
    dsimp only at h2
    have hcs := casts_small e
    have hct : ∀ c ∈ castsM e, nTy c.fr ≤ 1099511627776 ∧ nTy c.ty ≤ 1099511627776 := fun c hc => by
      have := casts_nTm e c hc
      obtain ⟨q1, q2, _⟩ := nTm_parts (show nTm c ≤ 1099511627776 by omega)
      exact ⟨q2, q1⟩
    obtain ⟨cs, hc⟩ : ∃ cs, castsM e = cs := ⟨_, rfl⟩
    rw [hc] at h2 hcs hct ⊢
    have hlen : ∀ p, (castTyL l (cs.take p)).length ≤ 2 * p := fun p => Nat.le_trans (tyL_len l (cs.take p)) (by simp; omega)
    refine ACalls.of_body Tryz.func11 (by kernel_rfl) rfl (by kernel_rfl) (by simp [Tryz.ntmps11]) (by simp) ?_
    rw [Tryz.ntmps11]
    repeat' first | (refine aops_end (hK _ ?_); clear hK K) | (refine aops_go ?_; simp; (try (refine gen fun q hq => ?_; cases q <;> (try simp at hq) <;> (try (have hh : True := hq; clear hh hq))))) | (refine wpcall_pure rfl (h1) ?_; simp; (try (refine gen fun q hq => ?_; cases q <;> (try simp at hq) <;> (try (have hh : True := hq; clear hh hq))))) | (refine wpcall_pure rfl (h2) ?_; simp; (try (refine gen fun q hq => ?_; cases q <;> (try simp at hq) <;> (try (have hh : True := hq; clear hh hq))))) | refine T.r0 fun K hK => ?_ | refine T.cf rfl ?_ | refine T.seq ?_ | refine T.block ?_ | refine T.skip ?_
    refine T.ownify 5 2 25 (by simp) ?_
    refine T.loopK (α := Nat × List (List CV)) [1, 4, 12, 13] (fun x => [(5, .c (.own 0 (castTyL l (cs.take x.1)).length)), (14, .i x.1)]) (fun x => []) (fun x => x.2) (fun x _ => [{ sz := 2, ety := 25, rows := (castTyL l (cs.take x.1)).map eTy, wr := true }]) (fun x => cs.length + 1 - x.1) (fun x => x.1 ≤ cs.length) (by simp; rfl) (fun x hx => ?_) (0, []) (by simp) (by simp) (by simp [castTyL]) (by simp [castTyL])
    obtain ⟨p, G⟩ := x
    dsimp only at hx ⊢
    simp only [ups, List.set_cons_zero, List.set_cons_succ, List.cons_append, List.nil_append, List.append_nil]
    by_cases hlt : p < cs.length
    · obtain ⟨u, ht⟩ := get_lt hlt
      have htm : u ∈ cs := List.mem_of_getElem? ht
      have hgt : cs[p] = u := by rw [List.getElem?_eq_getElem hlt] at ht; exact Option.some.inj ht
      have hdr : cs.drop p = u :: cs.drop (p + 1) := by rw [List.drop_eq_getElem_cons hlt, hgt]
      obtain ⟨q1, q2⟩ := hct u htm
      have k1 := ownType_ok u.fr q1
      have k2 := ownType_ok u.ty q2
      have hl2 := hlen p
      have htk : castTyL l (cs.take (p + 1)) = castTyL l (cs.take p) ++ (if u.label = l then [u.fr, u.ty] else []) := by rw [List.take_add_one, ht]; simp [castTyL]
      generalize castTyL l (cs.take p) = Z at *
      by_cases hul : u.label = l
      · rw [if_pos hul] at htk
        repeat' first | ((first | refine aops_end (hK _ ?_) | refine aopsD_end (hK _ ?_)); clear hK K) | ((first | refine aops_go ?_ | refine aopsD_go ?_); simp [hlt, hgt, hul]; (try simp (disch := omega) only [wrap64]); (try (refine gen fun q hq => ?_; cases q <;> (try simp [hlt, hgt, hul] at hq) <;> (try (have hh : True := hq; clear hh hq))))) | (refine wpcall_pure rfl (k1) ?_; simp [hlt, hgt, hul]; (try simp (disch := omega) only [wrap64]); (try (refine gen fun q hq => ?_; cases q <;> (try simp [hlt, hgt, hul] at hq) <;> (try (have hh : True := hq; clear hh hq))))) | (refine wpcall_pure rfl (k2) ?_; simp [hlt, hgt, hul]; (try simp (disch := omega) only [wrap64]); (try (refine gen fun q hq => ?_; cases q <;> (try simp [hlt, hgt, hul] at hq) <;> (try (have hh : True := hq; clear hh hq))))) | (refine ⟨by omega, by omega, ?_⟩) | (refine ⟨(p + 1, _), by dsimp only; omega, by dsimp only; omega, rfl, ?_, ?_⟩ <;> simp (disch := omega) [wrap64, htk, eTy_def]) | refine T.rd1 (id := 8) mixed (fun _ => false) [8] (by kernel_rfl) fun K hK => ?_ | refine T.r0 fun K hK => ?_ | refine T.r1 fun K hK => ?_ | refine T.ct rfl ?_ | refine T.seq ?_ | refine T.block ?_ | refine T.skip ?_
      · rw [if_neg hul, List.append_nil] at htk
        repeat' first | (refine aops_end (hK _ ?_); clear hK K) | (refine aops_go ?_; simp [hlt, hgt, hul]; (try simp (disch := omega) only [wrap64]); (try (refine gen fun q hq => ?_; cases q <;> (try simp [hlt, hgt, hul] at hq) <;> (try (have hh : True := hq; clear hh hq))))) | (refine ⟨(p + 1, _), by dsimp only; omega, by dsimp only; omega, rfl, ?_, ?_⟩ <;> simp (disch := omega) [wrap64, htk]) | refine T.r0 fun K hK => ?_ | refine T.r1 fun K hK => ?_ | refine T.ct rfl ?_ | refine T.cf rfl ?_ | refine T.seq ?_ | refine T.block ?_ | refine T.skip ?_
    · have hp' : p = cs.length := by omega
      subst hp'
      rw [List.take_length]
      repeat' first | (refine aops_end (hK _ ?_); clear hK K) | (refine aops_go ?_; simp [hlt]; (try (refine gen fun q hq => ?_; cases q <;> (try simp [hlt] at hq) <;> (try (have hh : True := hq; clear hh hq))))) | (refine T.ret (Done.val (Or.inr rfl) ?_) <;> simp [resAs, Tryz.results11] <;> omega) | refine T.r0 fun K hK => ?_ | refine T.cf rfl ?_ | refine T.seq ?_ | refine T.exit ?_

def nodP (l : List MTm) (p : Nat) : Nat := ((l.take p).map nodesM).sum
theorem size_ok : ∀ (e : MTm), nTm e ≤ 1099511627776 → ACalls Tryz.prog 46 [aTm e] [] (.i (nodesM e)) [] [] := by
  intro e
  induction e using MTm.ind with
  | h e ih =>
    intro hn
    have hle := nodes_nTm e
    have hd := nodesM_def e
    obtain ⟨_, _, hkl, hnu⟩ := nTm_parts hn
    rw [hd] at hle ⊢
    refine ACalls.of_body Tryz.func46 (by kernel_rfl) rfl (by kernel_rfl) (by simp [Tryz.ntmps46]) (by simp) ?_
    rw [Tryz.ntmps46]
    repeat' first | (refine aops_end (hK _ ?_); clear hK K) | (refine aops_go ?_; simp; (try (refine gen fun q hq => ?_; cases q <;> (try simp at hq) <;> (try (have hh : True := hq; clear hh hq))))) | refine T.r0 fun K hK => ?_ | refine T.seq ?_ | refine T.block ?_
    refine T.loopK (α := Nat × List (List CV)) [2, 7, 8] (fun x => [(3, .i (1 + nodP e.kids x.1)), (9, .i x.1)]) (fun x => []) (fun x => x.2) (fun x A => A) (fun x => e.kids.length + 1 - x.1) (fun x => x.1 ≤ e.kids.length) (by simp; rfl) (fun x hx => ?_) (0, []) (by simp) (by simp) (by simp) (by simp [nodP])
    obtain ⟨p, G⟩ := x
    dsimp only at hx ⊢
    simp only [ups, List.set_cons_zero, List.set_cons_succ, List.cons_append, List.nil_append]
    by_cases hlt : p < e.kids.length
    · obtain ⟨u, ht⟩ := get_lt hlt
      have htm : u ∈ e.kids := List.mem_of_getElem? ht
      have hgt : e.kids[p] = u := by rw [List.getElem?_eq_getElem hlt] at ht; exact Option.some.inj ht
      have hdr : e.kids.drop p = u :: e.kids.drop (p + 1) := by rw [List.drop_eq_getElem_cons hlt, hgt]
      have hu := ih u htm (hnu u htm)
      have hs : nodP e.kids (p + 1) = nodP e.kids p + nodesM u := sum_take_one nodesM ht
      have hb : nodP e.kids (p + 1) ≤ (e.kids.map nodesM).sum := sum_take_le nodesM e.kids (p + 1)
      generalize nodP e.kids p = S at *
      have hs' : (nodP e.kids (p + 1) : Int) = S + nodesM u := by omega
      repeat' first | (refine aops_end (hK _ ?_); clear hK K) | (refine aops_go ?_; simp [hlt, hgt]; (try simp (disch := omega) only [wrap64]); (try (refine gen fun q hq => ?_; cases q <;> (try simp [hlt, hgt] at hq) <;> (try (have hh : True := hq; clear hh hq))))) | (refine wpcall_pure rfl (hu) ?_; simp [hlt, hgt]; (try simp (disch := omega) only [wrap64]); (try (refine gen fun q hq => ?_; cases q <;> (try simp [hlt, hgt] at hq) <;> (try (have hh : True := hq; clear hh hq))))) | (refine ⟨(p + 1, _), by dsimp only; omega, by dsimp only; omega, rfl, ?_, ?_⟩ <;> simp (disch := omega) [wrap64, hs', Int.add_assoc]) | refine T.r0 fun K hK => ?_ | refine T.r1 fun K hK => ?_ | refine T.ct rfl ?_ | refine T.seq ?_ | refine T.block ?_ | refine T.skip ?_
    · have hp' : p = e.kids.length := by omega
      subst hp'
      rw [show nodP e.kids e.kids.length = (e.kids.map nodesM).sum by rw [nodP, List.take_length]]
      repeat' first | (refine aops_end (hK _ ?_); clear hK K) | (refine aops_go ?_; simp [hlt]; (try (refine gen fun q hq => ?_; cases q <;> (try simp [hlt] at hq) <;> (try (have hh : True := hq; clear hh hq))))) | (refine T.ret (Done.val (Or.inr rfl) ?_) <;> simp [resAs, Tryz.results46] <;> omega) | refine T.r0 fun K hK => ?_ | refine T.cf rfl ?_ | refine T.seq ?_ | refine T.exit ?_

theorem CountNodes_ok (e : MTm) (hn : nTm e ≤ 1099511627776) : ACalls Tryz.prog 20 [aTm e] [] (.i (if termValidM e = true then (nodesM e : Int) else 0)) [] [] := by
  have h1 := TermValid_ok e hn
  have h2 := size_ok e hn
  cases hv : termValidM e with
  | false =>
    rw [hv] at h1
    simp only [Bool.false_eq_true, if_false]
    refine ACalls.of_body Tryz.func20 (by kernel_rfl) rfl (by kernel_rfl) (by simp [Tryz.ntmps20]) (by simp) ?_
    rw [Tryz.ntmps20]
    repeat' first | (refine aops_end (hK _ ?_); clear hK K) | (refine aops_go ?_; simp; (try (refine gen fun q hq => ?_; cases q <;> (try simp at hq) <;> (try (have hh : True := hq; clear hh hq))))) | (refine wpcall_pure rfl (h1) ?_; simp; (try (refine gen fun q hq => ?_; cases q <;> (try simp at hq) <;> (try (have hh : True := hq; clear hh hq))))) | (refine T.ret (Done.data (Or.inr rfl) ?_ ?_) <;> simp [Tryz.results20] <;> omega) | refine T.r0 fun K hK => ?_ | refine T.ct rfl ?_ | refine T.seq ?_
  | true =>
    rw [hv] at h1
    simp only [if_true]
    refine ACalls.of_body Tryz.func20 (by kernel_rfl) rfl (by kernel_rfl) (by simp [Tryz.ntmps20]) (by simp) ?_
    rw [Tryz.ntmps20]
    repeat' first | (refine aops_end (hK _ ?_); clear hK K) | (refine aops_go ?_; simp; (try (refine gen fun q hq => ?_; cases q <;> (try simp at hq) <;> (try (have hh : True := hq; clear hh hq))))) | (refine wpcall_pure rfl (h1) ?_; simp; (try (refine gen fun q hq => ?_; cases q <;> (try simp at hq) <;> (try (have hh : True := hq; clear hh hq))))) | (refine wpcall_pure rfl (h2) ?_; simp; (try (refine gen fun q hq => ?_; cases q <;> (try simp at hq) <;> (try (have hh : True := hq; clear hh hq))))) | (refine T.ret (Done.data (Or.inr rfl) ?_ ?_) <;> simp [Tryz.results20] <;> omega) | refine T.r0 fun K hK => ?_ | refine T.cf rfl ?_ | refine T.seq ?_ | refine T.skip ?_
end Go.Proofs.YtdcahkkclldhmaaGreat

namespace Go.Proofs.YtdcahkkclldhmaaGreat
open Go Go.Av
attribute [local irreducible] T ACalls TX EX LX Draws Some_ ACallsX eTy eTm MTy.kind MTy.kids MTm.kind MTm.name MTm.num MTm.ty MTm.fr MTm.label MTm.kids
attribute [local simp] eTy_def eTm_def
set_option maxHeartbeats 16000000
set_option maxRecDepth 8000

theorem rI_at {l : List Int} {p : Nat} {n : Int} (h : l[p]? = some n) : (rI l)[p]? = some [.i n] := by
  rw [rI, List.getElem?_map, h]; rfl

theorem lawInsertLabels_ok (b : List Int) (hb : ∀ n ∈ b, 0 ≤ n ∧ n ≤ 255) : ACalls Tryz.prog 5 [.l (rB b)] [] (.b true) [] [] := by
  by_cases h1 : (1048576 : Int) < b.length
  · refine ACalls.of_body Tryz.func5 (by kernel_rfl) rfl (by kernel_rfl) (by simp [Tryz.ntmps5]) (by simp) ?_
    rw [Tryz.ntmps5]
    repeat' first | (refine aops_end (hK _ ?_); clear hK K) | (refine aops_go ?_; simp [h1, rB_len]; (try (refine gen fun q hq => ?_; cases q <;> (try simp [h1, rB_len] at hq) <;> (try (have hh : True := hq; clear hh hq))))) | (refine T.ret (Done.data (Or.inr rfl) ?_ ?_) <;> simp [Tryz.results5] <;> omega) | refine T.r0 fun K hK => ?_ | refine T.ct rfl ?_ | refine T.seq ?_
  obtain ⟨e, he, d1⟩ := (DrawInsertCasts_ok b hb).elim
  have k1 := InsertCasts_ok e (by omega)
  have k2 := InsertCastsS_ok e (by omega)
  cases hr : insertM e with
  | none =>
    have kz := TermSame_ok zeroE zeroE (by simp [nTm_mk, nTmS, nTy_mk, nTyS])
    rw [sameTm_refl] at kz
    rw [hr] at k1 k2
    simp only [elRes] at k1 k2
    refine ACalls.of_body Tryz.func5 (by kernel_rfl) rfl (by kernel_rfl) (by simp [Tryz.ntmps5]) (by simp) ?_
    rw [Tryz.ntmps5]
    repeat' first | (refine aops_end (hK _ ?_); clear hK K) | (refine aops_go ?_; simp [h1, rB_len]; (try (refine gen fun q hq => ?_; cases q <;> (try simp [h1, rB_len] at hq) <;> (try (have hh : True := hq; clear hh hq))))) | (refine wpcall_pure rfl (d1) ?_; simp [h1, rB_len]; (try (refine gen fun q hq => ?_; cases q <;> (try simp [h1, rB_len] at hq) <;> (try (have hh : True := hq; clear hh hq))))) | (refine wpcall_pure rfl (k1) ?_; simp [h1, rB_len]; (try (refine gen fun q hq => ?_; cases q <;> (try simp [h1, rB_len] at hq) <;> (try (have hh : True := hq; clear hh hq))))) | (refine wpcall_pure rfl (k2) ?_; simp [h1, rB_len]; (try (refine gen fun q hq => ?_; cases q <;> (try simp [h1, rB_len] at hq) <;> (try (have hh : True := hq; clear hh hq))))) | (refine wpcall_pure ?_ (kz) ?_; (focus (solve | simp [h1, rB_len])); simp [h1, rB_len]; (try (refine gen fun q hq => ?_; cases q <;> (try simp [h1, rB_len] at hq) <;> (try (have hh : True := hq; clear hh hq))))) | (refine T.ret (Done.data (Or.inr rfl) ?_ ?_) <;> simp [Tryz.results5] <;> omega) | refine T.r0 fun K hK => ?_ | refine T.ct rfl ?_ | refine T.cf rfl ?_ | refine T.seq ?_ | refine T.skip ?_
  | some q =>
    obtain ⟨x, t⟩ := q
    obtain ⟨hv, hty, m, hm, hev, hvx, hst, h0m, hmn, hn30, hnx, hct, hsm⟩ := insert_some hr
    have hcv : castValidM x = true := castValidM_iff.2 ⟨hvx.mono (by omega), by omega⟩
    obtain ⟨hlab, hLb, hmn2⟩ := insert_labels hv hev hcv
    have k3 := TermSame_ok x x (by omega)
    rw [sameTm_refl] at k3
    have k4 := CastLabels_ok x (by omega)
    rw [hlab] at k4
    have k5 := CountNodes_ok e (by omega)
    rw [if_pos hv] at k5
    rw [hr] at k1 k2
    simp only [elRes] at k1 k2
    obtain ⟨M, hM⟩ : ∃ M : Nat, m = M := ⟨m.toNat, (Int.toNat_of_nonneg h0m).symm⟩
    subst hM
    rw [Int.toNat_natCast] at k4
    have hcasts := hvx.casts
    have hk6 := fun l => CastTypes_ok x l (by omega)
    simp only [castTypesM, if_pos hcv] at hk6
    refine ACalls.of_body Tryz.func5 (by kernel_rfl) rfl (by kernel_rfl) (by simp [Tryz.ntmps5]) (by simp) ?_
    rw [Tryz.ntmps5]
    repeat' first | (refine aops_end (hK _ ?_); clear hK K) | (refine aops_go ?_; simp [h1, rB_len]; (try (refine gen fun q hq => ?_; cases q <;> (try simp [h1, rB_len] at hq) <;> (try (have hh : True := hq; clear hh hq))))) | (refine wpcall_pure rfl (d1) ?_; simp [h1, rB_len]; (try (refine gen fun q hq => ?_; cases q <;> (try simp [h1, rB_len] at hq) <;> (try (have hh : True := hq; clear hh hq))))) | (refine wpcall_pure rfl (k1) ?_; simp [h1, rB_len]; (try (refine gen fun q hq => ?_; cases q <;> (try simp [h1, rB_len] at hq) <;> (try (have hh : True := hq; clear hh hq))))) | (refine wpcall_pure rfl (k2) ?_; simp [h1, rB_len]; (try (refine gen fun q hq => ?_; cases q <;> (try simp [h1, rB_len] at hq) <;> (try (have hh : True := hq; clear hh hq))))) | (refine wpcall_pure rfl (k3) ?_; simp [h1, rB_len]; (try (refine gen fun q hq => ?_; cases q <;> (try simp [h1, rB_len] at hq) <;> (try (have hh : True := hq; clear hh hq))))) | (refine wpcall_pure rfl (k4) ?_; simp [h1, rB_len]; (try (refine gen fun q hq => ?_; cases q <;> (try simp [h1, rB_len] at hq) <;> (try (have hh : True := hq; clear hh hq))))) | refine T.r0 fun K hK => ?_ | refine T.cf rfl ?_ | refine T.seq ?_ | refine T.block ?_ | refine T.skip ?_
    refine T.loopK (α := Nat × List (List CV)) [3, 4, 10] (fun x => [(2, .b false), (11, .i x.1)]) (fun x => []) (fun x => x.2) (fun x A => A) (fun x => M + 1 - x.1) (fun x => x.1 ≤ M) (by simp; rfl) (fun x hx => ?_) (0, []) (by simp) (by simp) (by simp) (by simp)
    obtain ⟨p, G⟩ := x
    dsimp only at hx ⊢
    simp only [ups, List.set_cons_zero, List.set_cons_succ, List.cons_append, List.nil_append, List.append_nil]
    have hrl : (rI (segM M)).length = M := by rw [rI_len, seg_len]
    by_cases hlt : p < M
    · have hat := rI_at (seg_at hlt)
      have h1c : ((castsM x).map MTm.label).count ((p : Int) + 1) = 1 := by
        have := hLb.cnt ((p : Int) + 1)
        rw [labelsM] at this
        rw [this, cnt1, if_pos (by omega)]
      obtain ⟨c, hc1, hc2, hc3, hc4⟩ := tyL_one _ _ h1c
      obtain ⟨s1, s2, s3⟩ := hcasts c hc1
      obtain ⟨o1, o2⟩ := hLb.ok c hc1
      have n1 := shape4 s1
      have n2 := shape4 s2
      have k6 := hk6 ((p : Int) + 1)
      rw [hc3] at k6
      have k7 := TypeSame_ok c.fr c.ty (by omega)
      rw [show sameTy c.fr c.ty = false by cases hq : sameTy c.fr c.ty with | false => rfl | true => exact absurd (sameTy_iff.1 hq) o1] at k7
      have k8 := Consistent_ok c.fr c.ty (by omega) (by omega)
      rw [s1, s2, o2] at k8
      simp only [Bool.and_self] at k8
      generalize rI (segM M) = L at *
      have hlL : p < L.length := by omega
      have hgL : L[p] = [.i ((p : Int) + 1)] := by rw [List.getElem?_eq_getElem hlL] at hat; exact Option.some.inj hat
      repeat' first | ((first | refine aops_end (hK _ ?_) | refine aopsD_end (hK _ ?_)); clear hK K) | ((first | refine aops_go ?_ | refine aopsD_go ?_); simp [hlt, hrl, hlL, hgL]; (try simp (disch := omega) only [wrap64]); (try (refine gen fun q hq => ?_; cases q <;> (try simp [hlt, hrl, hlL, hgL] at hq) <;> (try (have hh : True := hq; clear hh hq))))) | (refine wpcall_pure rfl (k6) ?_; simp [hlt, hrl, hlL, hgL]; (try simp (disch := omega) only [wrap64]); (try (refine gen fun q hq => ?_; cases q <;> (try simp [hlt, hrl, hlL, hgL] at hq) <;> (try (have hh : True := hq; clear hh hq))))) | (refine wpcall_pure rfl (k7) ?_; simp [hlt, hrl, hlL, hgL]; (try simp (disch := omega) only [wrap64]); (try (refine gen fun q hq => ?_; cases q <;> (try simp [hlt, hrl, hlL, hgL] at hq) <;> (try (have hh : True := hq; clear hh hq))))) | (refine wpcall_pure rfl (k8) ?_; simp [hlt, hrl, hlL, hgL]; (try simp (disch := omega) only [wrap64]); (try (refine gen fun q hq => ?_; cases q <;> (try simp [hlt, hrl, hlL, hgL] at hq) <;> (try (have hh : True := hq; clear hh hq))))) | (refine ⟨(p + 1, _), by dsimp only; omega, by dsimp only; omega, rfl, ?_, ?_⟩ <;> simp (disch := omega) [wrap64]) | refine T.rd (id := 12) mixed (fun _ => false) [] (by kernel_rfl) fun K hK => ?_ | refine T.rd (id := 13) mixed (fun _ => false) [] (by kernel_rfl) fun K hK => ?_ | refine T.r0 fun K hK => ?_ | refine T.r1 fun K hK => ?_ | refine T.ct rfl ?_ | refine T.cf rfl ?_ | refine T.seq ?_ | refine T.block ?_ | refine T.skip ?_
      all_goals skip
    · have hp' : p = M := by omega
      subst hp'
      have hle : (p : Int) ≤ nodesM e := by omega
      generalize rI (segM p) = L at *
      repeat' first | (refine aops_end (hK _ ?_); clear hK K) | (refine aops_go ?_; simp [hlt, hrl, hle]; (try (refine gen fun q hq => ?_; cases q <;> (try simp [hlt, hrl, hle] at hq) <;> (try (have hh : True := hq; clear hh hq))))) | (refine wpcall_pure rfl (k5) ?_; simp [hlt, hrl, hle]; (try (refine gen fun q hq => ?_; cases q <;> (try simp [hlt, hrl, hle] at hq) <;> (try (have hh : True := hq; clear hh hq))))) | (refine T.ret (Done.data (Or.inr rfl) ?_ ?_) <;> simp [Tryz.results5] <;> omega) | refine T.r0 fun K hK => ?_ | refine T.cf rfl ?_ | refine T.seq ?_ | refine T.exit ?_
end Go.Proofs.YtdcahkkclldhmaaGreat

namespace Go.Proofs.YtdcahkkclldhmaaGreat
open Go Go.Av
attribute [local irreducible] T ACalls TX EX LX Draws Some_ ACallsX eTy eTm MTy.kind MTy.kids MTm.kind MTm.name MTm.num MTm.ty MTm.fr MTm.label MTm.kids
attribute [local simp] eTy_def eTm_def
set_option maxHeartbeats 16000000
set_option maxRecDepth 8000
attribute [local simp] Option.bind

theorem sub_ok (f g : FuncId) (S O : MTy → MTy → Bool) {d : Nat} {a b : MTy} (ha : VTy (d + 1) a) (hb : VTy (d + 1) b) (hS : ∀ x y, VTy d x → VTy d y → ACalls Tryz.prog f [aTy x, aTy y] [] (.b (S x y)) [] []) (hO : ∀ x y, VTy d x → VTy d y → ACalls Tryz.prog g [aTy x, aTy y] [] (.b (O x y)) [] []) :
    ACalls Tryz.prog 117 [aTy a, aTy b, .c (.fn f []), .c (.fn g [])] [] (.b (subB S O a b)) [] [] := by
  by_cases hk : a.kind = b.kind
  rotate_left
  · rw [show subB S O a b = false by simp [subB, hk]]
    refine ACalls.of_body Tryz.func117 (by kernel_rfl) rfl (by kernel_rfl) (by simp [Tryz.ntmps117]) (by simp) ?_
    rw [Tryz.ntmps117]
    repeat' first | (refine aops_end (hK _ ?_); clear hK K) | (refine aops_go ?_; simp [hk]; (try (refine gen fun q hq => ?_; cases q <;> (try simp [hk] at hq) <;> (try (have hh : True := hq; clear hh hq))))) | (refine T.ret (Done.data (Or.inr rfl) ?_ ?_) <;> simp [Tryz.results117] <;> omega) | refine T.r0 fun K hK => ?_ | refine T.ct rfl ?_ | refine T.seq ?_
  cases ha with
  | any =>
    rw [subB_leaf (VTy.any d) hb hk (by simp) (by simp)]
    have hk' : b.kind = 1 := by simpa using hk.symm
    refine ACalls.of_body Tryz.func117 (by kernel_rfl) rfl (by kernel_rfl) (by simp [Tryz.ntmps117]) (by simp) ?_
    rw [Tryz.ntmps117]
    repeat' first | (refine aops_end (hK _ ?_); clear hK K) | (refine aops_go ?_; simp [hk']; (try (refine gen fun q hq => ?_; cases q <;> (try simp [hk'] at hq) <;> (try (have hh : True := hq; clear hh hq))))) | (refine T.ret (Done.data (Or.inr rfl) ?_ ?_) <;> simp [Tryz.results117] <;> omega) | refine T.r0 fun K hK => ?_ | refine T.cf rfl ?_ | refine T.seq ?_ | refine T.block ?_ | refine T.skip ?_
  | int =>
    rw [subB_leaf (VTy.int d) hb hk (by simp) (by simp)]
    have hk' : b.kind = 2 := by simpa using hk.symm
    refine ACalls.of_body Tryz.func117 (by kernel_rfl) rfl (by kernel_rfl) (by simp [Tryz.ntmps117]) (by simp) ?_
    rw [Tryz.ntmps117]
    repeat' first | (refine aops_end (hK _ ?_); clear hK K) | (refine aops_go ?_; simp [hk']; (try (refine gen fun q hq => ?_; cases q <;> (try simp [hk'] at hq) <;> (try (have hh : True := hq; clear hh hq))))) | (refine T.ret (Done.data (Or.inr rfl) ?_ ?_) <;> simp [Tryz.results117] <;> omega) | refine T.r0 fun K hK => ?_ | refine T.cf rfl ?_ | refine T.seq ?_ | refine T.block ?_ | refine T.skip ?_
  | bool =>
    rw [subB_leaf (VTy.bool d) hb hk (by simp) (by simp)]
    have hk' : b.kind = 3 := by simpa using hk.symm
    refine ACalls.of_body Tryz.func117 (by kernel_rfl) rfl (by kernel_rfl) (by simp [Tryz.ntmps117]) (by simp) ?_
    rw [Tryz.ntmps117]
    repeat' first | (refine aops_end (hK _ ?_); clear hK K) | (refine aops_go ?_; simp [hk']; (try (refine gen fun q hq => ?_; cases q <;> (try simp [hk'] at hq) <;> (try (have hh : True := hq; clear hh hq))))) | (refine T.ret (Done.data (Or.inr rfl) ?_ ?_) <;> simp [Tryz.results117] <;> omega) | refine T.r0 fun K hK => ?_ | refine T.cf rfl ?_ | refine T.seq ?_ | refine T.block ?_ | refine T.skip ?_
  | @fn _ a1 a2 h1 h2 =>
    cases hb with
    | @fn _ b1 b2 g1 g2 =>
      rw [subB_fn]
      have k1 := hO b1 a1 g1 h1
      have k2 := hS a2 b2 h2 g2
      generalize O b1 a1 = q1 at *
      generalize S a2 b2 = q2 at *
      refine ACalls.of_body Tryz.func117 (by kernel_rfl) rfl (by kernel_rfl) (by simp [Tryz.ntmps117]) (by simp) ?_
      rw [Tryz.ntmps117]
      repeat' first | ((first | refine aops_end (hK _ ?_) | refine aopsD_end (hK _ ?_)); clear hK K) | ((first | refine aops_go ?_ | refine aopsD_go ?_); simp; (try (refine gen fun q hq => ?_; cases q <;> (try simp at hq) <;> (try (have hh : True := hq; clear hh hq))))) | (refine wpcall_pure rfl (k1) ?_; simp; (try (refine gen fun q hq => ?_; cases q <;> (try simp at hq) <;> (try (have hh : True := hq; clear hh hq))))) | (refine wpcall_pure rfl (k2) ?_; simp; (try (refine gen fun q hq => ?_; cases q <;> (try simp at hq) <;> (try (have hh : True := hq; clear hh hq))))) | (refine T.ret (Done.data (Or.inr rfl) ?_ ?_) <;> simp [Tryz.results117, *] <;> omega) | refine T.rd (id := 5) mixed (fun _ => false) [] (by kernel_rfl) fun K hK => ?_ | refine T.r0 fun K hK => ?_ | refine T.ct rfl ?_ | refine T.cf rfl ?_ | refine T.seq ?_ | refine T.block ?_ | refine T.skip ?_
    | _ => simp at hk
  | @pair _ a1 a2 h1 h2 =>
    cases hb with
    | @pair _ b1 b2 g1 g2 =>
      rw [subB_pair]
      have k1 := hS a1 b1 h1 g1
      have k2 := hS a2 b2 h2 g2
      generalize S a1 b1 = q1 at *
      generalize S a2 b2 = q2 at *
      refine ACalls.of_body Tryz.func117 (by kernel_rfl) rfl (by kernel_rfl) (by simp [Tryz.ntmps117]) (by simp) ?_
      rw [Tryz.ntmps117]
      repeat' first | ((first | refine aops_end (hK _ ?_) | refine aopsD_end (hK _ ?_)); clear hK K) | ((first | refine aops_go ?_ | refine aopsD_go ?_); simp; (try (refine gen fun q hq => ?_; cases q <;> (try simp at hq) <;> (try (have hh : True := hq; clear hh hq))))) | (refine wpcall_pure rfl (k1) ?_; simp; (try (refine gen fun q hq => ?_; cases q <;> (try simp at hq) <;> (try (have hh : True := hq; clear hh hq))))) | (refine wpcall_pure rfl (k2) ?_; simp; (try (refine gen fun q hq => ?_; cases q <;> (try simp at hq) <;> (try (have hh : True := hq; clear hh hq))))) | (refine T.ret (Done.data (Or.inr rfl) ?_ ?_) <;> simp [Tryz.results117, *] <;> omega) | refine T.rd (id := 7) mixed (fun _ => false) [] (by kernel_rfl) fun K hK => ?_ | refine T.r0 fun K hK => ?_ | refine T.ct rfl ?_ | refine T.cf rfl ?_ | refine T.seq ?_ | refine T.block ?_ | refine T.skip ?_
    | _ => simp at hk

theorem posneg_ok : ∀ (d : Nat), (∀ a b, VTy d a → VTy d b → ACalls Tryz.prog 68 [aTy a, aTy b] [] (.b (posF d a b)) [] []) ∧ (∀ a b, VTy d a → VTy d b → ACalls Tryz.prog 69 [aTy a, aTy b] [] (.b (negF d a b)) [] [])
  | 0 => ⟨(fun a b ha _ => by cases ha), (fun a b ha _ => by cases ha)⟩
  | d + 1 => by
    obtain ⟨ihp, ihn⟩ := posneg_ok d
    have hsub := fun {a b : MTy} (ha : VTy (d + 1) a) (hb : VTy (d + 1) b) => sub_ok 68 69 (posF d) (negF d) ha hb ihp ihn
    have hsubn := fun {a b : MTy} (ha : VTy (d + 1) a) (hb : VTy (d + 1) b) => sub_ok 69 68 (negF d) (posF d) ha hb ihn ihp
    have hneg : ∀ a b, VTy (d + 1) a → VTy (d + 1) b → b.kind ≠ 1 → ACalls Tryz.prog 69 [aTy a, aTy b] [] (.b (negF (d + 1) a b)) [] [] := by
      intro a b ha hb hb1
      have h1 := hsubn ha hb
      rw [negF, if_neg hb1]
      generalize subB (negF d) (posF d) a b = q at *
      by_cases ha1 : a.kind = 1
      · simp only [ha1, decide_true, Bool.true_or]
        refine ACalls.of_body Tryz.func69 (by kernel_rfl) rfl (by kernel_rfl) (by simp [Tryz.ntmps69]) (by simp) ?_
        rw [Tryz.ntmps69]
        repeat' first | (refine aops_end (hK _ ?_); clear hK K) | (refine aops_go ?_; simp [ha1]; (try (refine gen fun q hq => ?_; cases q <;> (try simp [ha1] at hq) <;> (try (have hh : True := hq; clear hh hq))))) | (refine T.ret (Done.data (Or.inr rfl) ?_ ?_) <;> simp [Tryz.results69] <;> omega) | refine T.r0 fun K hK => ?_ | refine T.ct rfl ?_ | refine T.seq ?_ | refine T.block ?_
      · simp only [ha1, decide_false, Bool.false_or]
        refine ACalls.of_body Tryz.func69 (by kernel_rfl) rfl (by kernel_rfl) (by simp [Tryz.ntmps69]) (by simp) ?_
        rw [Tryz.ntmps69]
        repeat' first | (refine aops_end (hK _ ?_); clear hK K) | (refine aops_go ?_; simp [ha1, hb1]; (try (refine gen fun q hq => ?_; cases q <;> (try simp [ha1, hb1] at hq) <;> (try (have hh : True := hq; clear hh hq))))) | (refine wpcall_pure rfl (h1) ?_; simp [ha1, hb1]; (try (refine gen fun q hq => ?_; cases q <;> (try simp [ha1, hb1] at hq) <;> (try (have hh : True := hq; clear hh hq))))) | (refine T.ret (Done.data (Or.inr rfl) ?_ ?_) <;> simp [Tryz.results69] <;> omega) | refine T.r0 fun K hK => ?_ | refine T.cf rfl ?_ | refine T.seq ?_ | refine T.block ?_ | refine T.skip ?_
    refine ⟨fun a b ha hb => ?_, fun a b ha hb => ?_⟩
    · have h1 := hsub ha hb
      rw [posF]
      generalize subB (posF d) (negF d) a b = q at *
      by_cases hb1 : b.kind = 1
      · simp only [hb1, decide_true, Bool.true_or]
        refine ACalls.of_body Tryz.func68 (by kernel_rfl) rfl (by kernel_rfl) (by simp [Tryz.ntmps68]) (by simp) ?_
        rw [Tryz.ntmps68]
        repeat' first | (refine aops_end (hK _ ?_); clear hK K) | (refine aops_go ?_; simp [hb1]; (try (refine gen fun q hq => ?_; cases q <;> (try simp [hb1] at hq) <;> (try (have hh : True := hq; clear hh hq))))) | (refine T.ret (Done.data (Or.inr rfl) ?_ ?_) <;> simp [Tryz.results68] <;> omega) | refine T.r0 fun K hK => ?_
      · simp only [hb1, decide_false, Bool.false_or]
        refine ACalls.of_body Tryz.func68 (by kernel_rfl) rfl (by kernel_rfl) (by simp [Tryz.ntmps68]) (by simp) ?_
        rw [Tryz.ntmps68]
        repeat' first | (refine aops_end (hK _ ?_); clear hK K) | (refine aops_go ?_; simp [hb1]; (try (refine gen fun q hq => ?_; cases q <;> (try simp [hb1] at hq) <;> (try (have hh : True := hq; clear hh hq))))) | (refine wpcall_pure rfl (h1) ?_; simp [hb1]; (try (refine gen fun q hq => ?_; cases q <;> (try simp [hb1] at hq) <;> (try (have hh : True := hq; clear hh hq))))) | (refine T.ret (Done.data (Or.inr rfl) ?_ ?_) <;> simp [Tryz.results68] <;> omega) | refine T.r0 fun K hK => ?_
    · by_cases hb1 : b.kind = 1
      · by_cases ha1 : a.kind = 1
        · rw [negF]
          simp only [ha1, decide_true, Bool.true_or]
          refine ACalls.of_body Tryz.func69 (by kernel_rfl) rfl (by kernel_rfl) (by simp [Tryz.ntmps69]) (by simp) ?_
          rw [Tryz.ntmps69]
          repeat' first | (refine aops_end (hK _ ?_); clear hK K) | (refine aops_go ?_; simp [ha1]; (try (refine gen fun q hq => ?_; cases q <;> (try simp [ha1] at hq) <;> (try (have hh : True := hq; clear hh hq))))) | (refine T.ret (Done.data (Or.inr rfl) ?_ ?_) <;> simp [Tryz.results69] <;> omega) | refine T.r0 fun K hK => ?_ | refine T.ct rfl ?_ | refine T.seq ?_ | refine T.block ?_
        · obtain ⟨hg, hg1⟩ := ground_V ha ha1
          have h1 := hneg a (groundT a.kind) ha hg hg1
          have h2 := ground_ok a.kind
          rw [show negF (d + 1) a b = negF (d + 1) a (groundT a.kind) by simp only [negF, ha1, decide_false, Bool.false_or, if_pos hb1, if_neg hg1]]
          generalize negF (d + 1) a (groundT a.kind) = q at *
          generalize groundT a.kind = G at *
          refine ACalls.of_body Tryz.func69 (by kernel_rfl) rfl (by kernel_rfl) (by simp [Tryz.ntmps69]) (by simp) ?_
          rw [Tryz.ntmps69]
          repeat' first | ((first | refine aops_end (hK _ ?_) | refine aopsD_end (hK _ ?_)); clear hK K) | ((first | refine aops_go ?_ | refine aopsD_go ?_); simp [ha1, hb1]; (try (refine gen fun q hq => ?_; cases q <;> (try simp [ha1, hb1] at hq) <;> (try (have hh : True := hq; clear hh hq))))) | (refine wpcall_pure rfl (h2) ?_; simp [ha1, hb1]; (try (refine gen fun q hq => ?_; cases q <;> (try simp [ha1, hb1] at hq) <;> (try (have hh : True := hq; clear hh hq))))) | (refine wpcall_pure rfl (h1) ?_; simp [ha1, hb1]; (try (refine gen fun q hq => ?_; cases q <;> (try simp [ha1, hb1] at hq) <;> (try (have hh : True := hq; clear hh hq))))) | (refine T.ret (Done.data (Or.inr rfl) ?_ ?_) <;> simp [Tryz.results69] <;> omega) | refine T.rd (id := 4) mixed (fun _ => false) [] (by kernel_rfl) fun K hK => ?_ | refine T.r0 fun K hK => ?_ | refine T.ct rfl ?_ | refine T.cf rfl ?_ | refine T.seq ?_ | refine T.block ?_
      · exact hneg a b ha hb hb1

theorem safe1_ok (l : Int) (hl : -1000 ≤ l) (hl2 : l ≤ 1000) (h0 : l ≠ 0) (c : MTm) (hf : shapeTy 4 c.fr = true) (ht : shapeTy 4 c.ty = true) : ACalls Tryz.prog 67 [aTm c, .c (.ptr 0 0)] (dV [[.i l]]) (.b (!safeC l c)) (dV [[.i l]]) [] := by
  have k1 := (posneg_ok 4).1 c.fr c.ty (VTy.of hf) (VTy.of ht)
  have k2 := (posneg_ok 4).2 c.fr c.ty (VTy.of hf) (VTy.of ht)
  simp only [safeC, Bool.not_not]
  generalize posF 4 c.fr c.ty = q1 at *
  generalize negF 4 c.fr c.ty = q2 at *
  have hneg : IntKind.i64.wrap (-l) = -l := by rw [wrap64 (by omega) (by omega)]
  by_cases h1 : c.label = l
  · have h3 : ¬ l = -l := by omega
    simp only [h1, h3, decide_true, decide_false, Bool.true_and, Bool.false_and, Bool.or_false]
    cases q1
    · refine ACalls.of_body Tryz.func67 (by kernel_rfl) rfl (by kernel_rfl) (by simp [Tryz.ntmps67]) (by simp) ?_
      rw [Tryz.ntmps67]
      repeat' first | (refine aops_end (hK _ ?_); clear hK K) | (refine aops_go ?_; simp [h1, hneg, h3]; (try (refine gen fun q hq => ?_; cases q <;> (try simp [h1, hneg, h3] at hq) <;> (try (have hh : True := hq; clear hh hq))))) | (refine wpcall_pure rfl (k1) ?_; simp [h1, hneg, h3]; (try (refine gen fun q hq => ?_; cases q <;> (try simp [h1, hneg, h3] at hq) <;> (try (have hh : True := hq; clear hh hq))))) | refine T.r0 fun K hK => ?_
      refine T.ret (Done.obj1 (Or.inr rfl) ?_ ?_ ?_) <;> simp [Tryz.results67]
    · refine ACalls.of_body Tryz.func67 (by kernel_rfl) rfl (by kernel_rfl) (by simp [Tryz.ntmps67]) (by simp) ?_
      rw [Tryz.ntmps67]
      repeat' first | (refine aops_end (hK _ ?_); clear hK K) | (refine aops_go ?_; simp [h1, hneg, h3]; (try (refine gen fun q hq => ?_; cases q <;> (try simp [h1, hneg, h3] at hq) <;> (try (have hh : True := hq; clear hh hq))))) | (refine wpcall_pure rfl (k1) ?_; simp [h1, hneg, h3]; (try (refine gen fun q hq => ?_; cases q <;> (try simp [h1, hneg, h3] at hq) <;> (try (have hh : True := hq; clear hh hq))))) | refine T.r0 fun K hK => ?_
      refine T.ret (Done.obj1 (Or.inr rfl) ?_ ?_ ?_) <;> simp [Tryz.results67]
  · by_cases h2 : c.label = -l
    · have h3 : ¬ -l = l := by omega
      simp only [h2, h3, decide_true, decide_false, Bool.true_and, Bool.false_and, Bool.false_or]
      cases q2
      · refine ACalls.of_body Tryz.func67 (by kernel_rfl) rfl (by kernel_rfl) (by simp [Tryz.ntmps67]) (by simp) ?_
        rw [Tryz.ntmps67]
        repeat' first | (refine aops_end (hK _ ?_); clear hK K) | (refine aops_go ?_; simp [h2, hneg, h3]; (try (refine gen fun q hq => ?_; cases q <;> (try simp [h2, hneg, h3] at hq) <;> (try (have hh : True := hq; clear hh hq))))) | (refine wpcall_pure rfl (k2) ?_; simp [h2, hneg, h3]; (try (refine gen fun q hq => ?_; cases q <;> (try simp [h2, hneg, h3] at hq) <;> (try (have hh : True := hq; clear hh hq))))) | refine T.r0 fun K hK => ?_
        refine T.ret (Done.obj1 (Or.inr rfl) ?_ ?_ ?_) <;> simp [Tryz.results67]
      · refine ACalls.of_body Tryz.func67 (by kernel_rfl) rfl (by kernel_rfl) (by simp [Tryz.ntmps67]) (by simp) ?_
        rw [Tryz.ntmps67]
        repeat' first | (refine aops_end (hK _ ?_); clear hK K) | (refine aops_go ?_; simp [h2, hneg, h3]; (try (refine gen fun q hq => ?_; cases q <;> (try simp [h2, hneg, h3] at hq) <;> (try (have hh : True := hq; clear hh hq))))) | (refine wpcall_pure rfl (k2) ?_; simp [h2, hneg, h3]; (try (refine gen fun q hq => ?_; cases q <;> (try simp [h2, hneg, h3] at hq) <;> (try (have hh : True := hq; clear hh hq))))) | refine T.r0 fun K hK => ?_
        refine T.ret (Done.obj1 (Or.inr rfl) ?_ ?_ ?_) <;> simp [Tryz.results67]
    · simp only [h1, h2, decide_false, Bool.false_and, Bool.or_self]
      refine ACalls.of_body Tryz.func67 (by kernel_rfl) rfl (by kernel_rfl) (by simp [Tryz.ntmps67]) (by simp) ?_
      rw [Tryz.ntmps67]
      repeat' first | (refine aops_end (hK _ ?_); clear hK K) | (refine aops_go ?_; simp [h1, h2, hneg]; (try (refine gen fun q hq => ?_; cases q <;> (try simp [h1, h2, hneg] at hq) <;> (try (have hh : True := hq; clear hh hq))))) | refine T.r0 fun K hK => ?_
      refine T.ret (Done.obj1 (Or.inr rfl) ?_ ?_ ?_) <;> simp [Tryz.results67]

theorem safe_ok (e : MTm) (l : Int) (hl : -1000 ≤ l) (hl2 : l ≤ 1000) (h0 : l ≠ 0) {d : Nat} (hv : TmV 13 d e) (hn : nTm e ≤ 1073741824) : ACalls Tryz.prog 36 [aTm e, .i l] [] (.b ((castsM e).all (safeC l))) [] [] := by
  have h1 := (casts_own e hn).sealed (by simp)
  dsimp only at h1
  have hcs := casts_small e
  have hc := containsFuncTm_1 67 (.i l) (castsM e) (fun c => !safeC l c) (by omega) (fun c hc => by
    obtain ⟨s1, s2, _⟩ := hv.casts c hc
    exact safe1_ok l hl hl2 h0 c s1 s2)
  rw [← not_any_not]
  generalize ((castsM e).any fun c => !safeC l c) = R at *
  generalize castsM e = cs at *
  refine ACalls.of_body Tryz.func36 (by kernel_rfl) rfl (by kernel_rfl) (by simp [Tryz.ntmps36]) (by simp) ?_
  rw [Tryz.ntmps36]
  repeat' first | (refine aops_end (hK _ ?_); clear hK K) | (refine aops_go ?_; simp; (try (refine gen fun q hq => ?_; cases q <;> (try simp at hq) <;> (try (have hh : True := hq; clear hh hq))))) | (refine wpcall_pure rfl (h1) ?_; simp; (try (refine gen fun q hq => ?_; cases q <;> (try simp at hq) <;> (try (have hh : True := hq; clear hh hq))))) | (refine wpcall_obj1 1 [.i l] rfl (by simp) hc ?_; simp) | (refine T.ret (Done.data (Or.inr rfl) ?_ ?_) <;> simp [Tryz.results36, *] <;> omega) | refine T.r0 fun K hK => ?_

theorem SafeFor_ok (e : MTm) (l : Int) (hn : nTm e ≤ 1073741824) : ACalls Tryz.prog 13 [aTm e, .i l] [] (.b (castValidM e && labM l && (castsM e).all (safeC l))) [] [] := by
  have h1 := CastValid_ok e (by omega)
  have h2 := isLabel_ok l
  cases hv : castValidM e with
  | false =>
    rw [hv] at h1
    refine ACalls.of_body Tryz.func13 (by kernel_rfl) rfl (by kernel_rfl) (by simp [Tryz.ntmps13]) (by simp) ?_
    rw [Tryz.ntmps13]
    repeat' first | (refine aops_end (hK _ ?_); clear hK K) | (refine aops_go ?_; simp; (try (refine gen fun q hq => ?_; cases q <;> (try simp at hq) <;> (try (have hh : True := hq; clear hh hq))))) | (refine wpcall_pure rfl (h1) ?_; simp; (try (refine gen fun q hq => ?_; cases q <;> (try simp at hq) <;> (try (have hh : True := hq; clear hh hq))))) | (refine T.ret (Done.data (Or.inr rfl) ?_ ?_) <;> simp [Tryz.results13] <;> omega) | refine T.r0 fun K hK => ?_
  | true =>
    rw [hv] at h1
    cases hl : labM l with
    | false =>
      rw [hl] at h2
      refine ACalls.of_body Tryz.func13 (by kernel_rfl) rfl (by kernel_rfl) (by simp [Tryz.ntmps13]) (by simp) ?_
      rw [Tryz.ntmps13]
      repeat' first | (refine aops_end (hK _ ?_); clear hK K) | (refine aops_go ?_; simp; (try (refine gen fun q hq => ?_; cases q <;> (try simp at hq) <;> (try (have hh : True := hq; clear hh hq))))) | (refine wpcall_pure rfl (h1) ?_; simp; (try (refine gen fun q hq => ?_; cases q <;> (try simp at hq) <;> (try (have hh : True := hq; clear hh hq))))) | (refine wpcall_pure rfl (h2) ?_; simp; (try (refine gen fun q hq => ?_; cases q <;> (try simp at hq) <;> (try (have hh : True := hq; clear hh hq))))) | (refine T.ret (Done.data (Or.inr rfl) ?_ ?_) <;> simp [Tryz.results13] <;> omega) | refine T.r0 fun K hK => ?_
    | true =>
      rw [hl] at h2
      have hb : -1000 ≤ l ∧ l ≤ 1000 ∧ l ≠ 0 := by
        simp only [labM, inM, Bool.or_eq_true, Bool.and_eq_true, decide_eq_true_eq] at hl
        omega
      have h3 := safe_ok e l hb.1 hb.2.1 hb.2.2 (castValidM_iff.1 hv).1 hn
      simp only [Bool.true_and]
      generalize (castsM e).all (safeC l) = q at *
      refine ACalls.of_body Tryz.func13 (by kernel_rfl) rfl (by kernel_rfl) (by simp [Tryz.ntmps13]) (by simp) ?_
      rw [Tryz.ntmps13]
      repeat' first | (refine aops_end (hK _ ?_); clear hK K) | (refine aops_go ?_; simp; (try (refine gen fun q hq => ?_; cases q <;> (try simp at hq) <;> (try (have hh : True := hq; clear hh hq))))) | (refine wpcall_pure rfl (h1) ?_; simp; (try (refine gen fun q hq => ?_; cases q <;> (try simp at hq) <;> (try (have hh : True := hq; clear hh hq))))) | (refine wpcall_pure rfl (h2) ?_; simp; (try (refine gen fun q hq => ?_; cases q <;> (try simp at hq) <;> (try (have hh : True := hq; clear hh hq))))) | (refine wpcall_pure rfl (h3) ?_; simp; (try (refine gen fun q hq => ?_; cases q <;> (try simp at hq) <;> (try (have hh : True := hq; clear hh hq))))) | (refine T.ret (Done.data (Or.inr rfl) ?_ ?_) <;> simp [Tryz.results13] <;> omega) | refine T.r0 fun K hK => ?_
end Go.Proofs.YtdcahkkclldhmaaGreat

namespace Go.Proofs.YtdcahkkclldhmaaGreat
open Go Go.Av
attribute [local irreducible] T ACalls TX EX LX Draws Some_ ACallsX eTy eTm MTy.kind MTy.kids MTm.kind MTm.name MTm.num MTm.ty MTm.fr MTm.label MTm.kids
attribute [local simp] eTy_def eTm_def
set_option maxHeartbeats 16000000
set_option maxRecDepth 8000

theorem lawSafeInserted_ok (b : List Int) (hb : ∀ n ∈ b, 0 ≤ n ∧ n ≤ 255) : ACalls Tryz.prog 3 [.l (rB b)] [] (.b true) [] [] := by
  by_cases h1 : (1048576 : Int) < b.length
  · refine ACalls.of_body Tryz.func3 (by kernel_rfl) rfl (by kernel_rfl) (by simp [Tryz.ntmps3]) (by simp) ?_
    rw [Tryz.ntmps3]
    repeat' first | (refine aops_end (hK _ ?_); clear hK K) | (refine aops_go ?_; simp [h1, rB_len]; (try (refine gen fun q hq => ?_; cases q <;> (try simp [h1, rB_len] at hq) <;> (try (have hh : True := hq; clear hh hq))))) | (refine T.ret (Done.data (Or.inr rfl) ?_ ?_) <;> simp [Tryz.results3] <;> omega) | refine T.r0 fun K hK => ?_ | refine T.ct rfl ?_ | refine T.seq ?_
  obtain ⟨e, he, d1⟩ := (DrawInsertCasts_ok b hb).elim
  have k1 := InsertCasts_ok e (by omega)
  have k2 := InsertCastsS_ok e (by omega)
  cases hr : insertM e with
  | none =>
    have kz := TermSame_ok zeroE zeroE (by simp [nTm_mk, nTmS, nTy_mk, nTyS])
    rw [sameTm_refl] at kz
    rw [hr] at k1 k2
    simp only [elRes] at k1 k2
    refine ACalls.of_body Tryz.func3 (by kernel_rfl) rfl (by kernel_rfl) (by simp [Tryz.ntmps3]) (by simp) ?_
    rw [Tryz.ntmps3]
    repeat' first | (refine aops_end (hK _ ?_); clear hK K) | (refine aops_go ?_; simp [h1, rB_len]; (try (refine gen fun q hq => ?_; cases q <;> (try simp [h1, rB_len] at hq) <;> (try (have hh : True := hq; clear hh hq))))) | (refine wpcall_pure rfl (d1) ?_; simp [h1, rB_len]; (try (refine gen fun q hq => ?_; cases q <;> (try simp [h1, rB_len] at hq) <;> (try (have hh : True := hq; clear hh hq))))) | (refine wpcall_pure rfl (k1) ?_; simp [h1, rB_len]; (try (refine gen fun q hq => ?_; cases q <;> (try simp [h1, rB_len] at hq) <;> (try (have hh : True := hq; clear hh hq))))) | (refine wpcall_pure rfl (k2) ?_; simp [h1, rB_len]; (try (refine gen fun q hq => ?_; cases q <;> (try simp [h1, rB_len] at hq) <;> (try (have hh : True := hq; clear hh hq))))) | (refine wpcall_pure ?_ (kz) ?_; (focus (solve | simp [h1, rB_len])); simp [h1, rB_len]; (try (refine gen fun q hq => ?_; cases q <;> (try simp [h1, rB_len] at hq) <;> (try (have hh : True := hq; clear hh hq))))) | (refine T.ret (Done.data (Or.inr rfl) ?_ ?_) <;> simp [Tryz.results3] <;> omega) | refine T.r0 fun K hK => ?_ | refine T.ct rfl ?_ | refine T.cf rfl ?_ | refine T.seq ?_ | refine T.skip ?_
  | some q =>
    obtain ⟨x, t⟩ := q
    obtain ⟨hv, hty, m, hm, hev, hvx, hst, h0m, hmn, hn30, hnx, hct, hsm⟩ := insert_some hr
    have hcv : castValidM x = true := castValidM_iff.2 ⟨hvx.mono (by omega), by omega⟩
    obtain ⟨hlab, hLb, hmn2⟩ := insert_labels hv hev hcv
    have k3 := TermSame_ok x x (by omega)
    rw [sameTm_refl] at k3
    have k4 := CastLabels_ok x (by omega)
    rw [hlab] at k4
    rw [hr] at k1 k2
    simp only [elRes] at k1 k2
    obtain ⟨M, hM⟩ : ∃ M : Nat, m = M := ⟨m.toNat, (Int.toNat_of_nonneg h0m).symm⟩
    subst hM
    rw [Int.toNat_natCast] at k4
    have hcasts := hvx.casts
    have hk6 := fun l => CastTypes_ok x l (by omega)
    simp only [castTypesM, if_pos hcv] at hk6
    refine ACalls.of_body Tryz.func3 (by kernel_rfl) rfl (by kernel_rfl) (by simp [Tryz.ntmps3]) (by simp) ?_
    rw [Tryz.ntmps3]
    repeat' first | (refine aops_end (hK _ ?_); clear hK K) | (refine aops_go ?_; simp [h1, rB_len]; (try (refine gen fun q hq => ?_; cases q <;> (try simp [h1, rB_len] at hq) <;> (try (have hh : True := hq; clear hh hq))))) | (refine wpcall_pure rfl (d1) ?_; simp [h1, rB_len]; (try (refine gen fun q hq => ?_; cases q <;> (try simp [h1, rB_len] at hq) <;> (try (have hh : True := hq; clear hh hq))))) | (refine wpcall_pure rfl (k1) ?_; simp [h1, rB_len]; (try (refine gen fun q hq => ?_; cases q <;> (try simp [h1, rB_len] at hq) <;> (try (have hh : True := hq; clear hh hq))))) | (refine wpcall_pure rfl (k2) ?_; simp [h1, rB_len]; (try (refine gen fun q hq => ?_; cases q <;> (try simp [h1, rB_len] at hq) <;> (try (have hh : True := hq; clear hh hq))))) | (refine wpcall_pure rfl (k3) ?_; simp [h1, rB_len]; (try (refine gen fun q hq => ?_; cases q <;> (try simp [h1, rB_len] at hq) <;> (try (have hh : True := hq; clear hh hq))))) | (refine wpcall_pure rfl (k4) ?_; simp [h1, rB_len]; (try (refine gen fun q hq => ?_; cases q <;> (try simp [h1, rB_len] at hq) <;> (try (have hh : True := hq; clear hh hq))))) | refine T.r0 fun K hK => ?_ | refine T.cf rfl ?_ | refine T.seq ?_ | refine T.block ?_ | refine T.skip ?_
    refine T.loopK (α := Nat × List (List CV)) [4, 10] (fun x => [(2, .b false), (11, .i x.1)]) (fun x => []) (fun x => x.2) (fun x A => A) (fun x => M + 1 - x.1) (fun x => x.1 ≤ M) (by simp; rfl) (fun x hx => ?_) (0, []) (by simp) (by simp) (by simp) (by simp)
    obtain ⟨p, G⟩ := x
    dsimp only at hx ⊢
    simp only [ups, List.set_cons_zero, List.set_cons_succ, List.cons_append, List.nil_append, List.append_nil]
    have hrl : (rI (segM M)).length = M := by rw [rI_len, seg_len]
    by_cases hlt : p < M
    · have hat := rI_at (seg_at hlt)
      have h1c : ((castsM x).map MTm.label).count ((p : Int) + 1) = 1 := by
        have := hLb.cnt ((p : Int) + 1)
        rw [labelsM] at this
        rw [this, cnt1, if_pos (by omega)]
      obtain ⟨c, hc1, hc2, hc3, hc4⟩ := tyL_one _ _ h1c
      obtain ⟨s1, s2, s3⟩ := hcasts c hc1
      obtain ⟨o1, o2⟩ := hLb.ok c hc1
      have n1 := shape4 s1
      have n2 := shape4 s2
      have k6 := hk6 ((p : Int) + 1)
      rw [hc3] at k6
      have k7 := Precise_ok c.fr c.ty (by omega) (by omega)
      have k8 := Precise_ok c.ty c.fr (by omega) (by omega)
      rw [s1, s2] at k7 k8
      simp only [Bool.and_self, Bool.true_and] at k7 k8
      have hl1 : labM ((p : Int) + 1) = true := by rw [← hc2]; exact s3
      have hl2 : labM (-((p : Int) + 1)) = true := by
        simp only [labM, inM, Bool.or_eq_true, Bool.and_eq_true, decide_eq_true_eq] at hl1 ⊢
        omega
      have hpos : ∀ d ∈ castsM x, 0 < d.label := fun d hd => by
        have h3 := hLb.cnt d.label
        have h4 : 0 < (labelsM x).count d.label := List.count_pos_iff.2 (List.mem_map.2 ⟨d, hd, rfl⟩)
        rw [h3, cnt1] at h4
        split at h4 <;> omega
      obtain ⟨w1, w2⟩ := safe_one (l := (p : Int) + 1) (by omega) hpos hc4
      obtain ⟨g1, g2⟩ := prec_sub 4 (VTy.of s1) (VTy.of s2)
      have k9 := SafeFor_ok x ((p : Int) + 1) (by omega)
      have k10 := SafeFor_ok x (-((p : Int) + 1)) (by omega)
      rw [hcv, hl1] at k9
      rw [hcv, hl2] at k10
      simp only [Bool.true_and] at k9 k10
      generalize rI (segM M) = L at *
      have hlL : p < L.length := by omega
      have hgL : L[p] = [.i ((p : Int) + 1)] := by rw [List.getElem?_eq_getElem hlL] at hat; exact Option.some.inj hat
      have hneg : ∀ q : Int, q = (p : Int) → IntKind.i64.wrap (-(q + 1)) = -(q + 1) := fun q hq => by rw [wrap64 (by omega) (by omega)]
      cases hp1 : precTy c.fr c.ty with
      | true =>
        rw [hp1] at k7 g1
        rw [w1 (g1 rfl)] at k9
        cases hp2 : precTy c.ty c.fr with
        | true =>
          rw [hp2] at k8 g2
          rw [w2 (g2 rfl)] at k10
          repeat' first | ((first | refine aops_end (hK _ ?_) | refine aopsD_end (hK _ ?_)); clear hK K) | ((first | refine aops_go ?_ | refine aopsD_go ?_); simp [hlt, hrl, hlL, hgL, hneg]; (try simp (disch := omega) only [wrap64]); (try (refine gen fun q hq => ?_; cases q <;> (try simp [hlt, hrl, hlL, hgL, hneg] at hq) <;> (try (have hh : True := hq; clear hh hq))))) | (refine wpcall_pure rfl (k6) ?_; simp [hlt, hrl, hlL, hgL, hneg]; (try simp (disch := omega) only [wrap64]); (try (refine gen fun q hq => ?_; cases q <;> (try simp [hlt, hrl, hlL, hgL, hneg] at hq) <;> (try (have hh : True := hq; clear hh hq))))) | (refine wpcall_pure rfl (k7) ?_; simp [hlt, hrl, hlL, hgL, hneg]; (try simp (disch := omega) only [wrap64]); (try (refine gen fun q hq => ?_; cases q <;> (try simp [hlt, hrl, hlL, hgL, hneg] at hq) <;> (try (have hh : True := hq; clear hh hq))))) | (refine wpcall_pure rfl (k8) ?_; simp [hlt, hrl, hlL, hgL, hneg]; (try simp (disch := omega) only [wrap64]); (try (refine gen fun q hq => ?_; cases q <;> (try simp [hlt, hrl, hlL, hgL, hneg] at hq) <;> (try (have hh : True := hq; clear hh hq))))) | (refine wpcall_pure rfl (k9) ?_; simp [hlt, hrl, hlL, hgL, hneg]; (try simp (disch := omega) only [wrap64]); (try (refine gen fun q hq => ?_; cases q <;> (try simp [hlt, hrl, hlL, hgL, hneg] at hq) <;> (try (have hh : True := hq; clear hh hq))))) | (refine wpcall_pure rfl (k10) ?_; simp [hlt, hrl, hlL, hgL, hneg]; (try simp (disch := omega) only [wrap64]); (try (refine gen fun q hq => ?_; cases q <;> (try simp [hlt, hrl, hlL, hgL, hneg] at hq) <;> (try (have hh : True := hq; clear hh hq))))) | (refine ⟨(p + 1, _), by dsimp only; omega, by dsimp only; omega, rfl, ?_, ?_⟩ <;> simp (disch := omega) [wrap64]) | refine T.rd (id := 12) mixed (fun _ => false) [] (by kernel_rfl) fun K hK => ?_ | refine T.rd (id := 13) mixed (fun _ => false) [] (by kernel_rfl) fun K hK => ?_ | refine T.r0 fun K hK => ?_ | refine T.r1 fun K hK => ?_ | refine T.ct rfl ?_ | refine T.cf rfl ?_ | refine T.seq ?_ | refine T.block ?_ | refine T.skip ?_
        | false =>
          rw [hp2] at k8
          repeat' first | ((first | refine aops_end (hK _ ?_) | refine aopsD_end (hK _ ?_)); clear hK K) | ((first | refine aops_go ?_ | refine aopsD_go ?_); simp [hlt, hrl, hlL, hgL, hneg]; (try simp (disch := omega) only [wrap64]); (try (refine gen fun q hq => ?_; cases q <;> (try simp [hlt, hrl, hlL, hgL, hneg] at hq) <;> (try (have hh : True := hq; clear hh hq))))) | (refine wpcall_pure rfl (k6) ?_; simp [hlt, hrl, hlL, hgL, hneg]; (try simp (disch := omega) only [wrap64]); (try (refine gen fun q hq => ?_; cases q <;> (try simp [hlt, hrl, hlL, hgL, hneg] at hq) <;> (try (have hh : True := hq; clear hh hq))))) | (refine wpcall_pure rfl (k7) ?_; simp [hlt, hrl, hlL, hgL, hneg]; (try simp (disch := omega) only [wrap64]); (try (refine gen fun q hq => ?_; cases q <;> (try simp [hlt, hrl, hlL, hgL, hneg] at hq) <;> (try (have hh : True := hq; clear hh hq))))) | (refine wpcall_pure rfl (k8) ?_; simp [hlt, hrl, hlL, hgL, hneg]; (try simp (disch := omega) only [wrap64]); (try (refine gen fun q hq => ?_; cases q <;> (try simp [hlt, hrl, hlL, hgL, hneg] at hq) <;> (try (have hh : True := hq; clear hh hq))))) | (refine wpcall_pure rfl (k9) ?_; simp [hlt, hrl, hlL, hgL, hneg]; (try simp (disch := omega) only [wrap64]); (try (refine gen fun q hq => ?_; cases q <;> (try simp [hlt, hrl, hlL, hgL, hneg] at hq) <;> (try (have hh : True := hq; clear hh hq))))) | (refine ⟨(p + 1, _), by dsimp only; omega, by dsimp only; omega, rfl, ?_, ?_⟩ <;> simp (disch := omega) [wrap64]) | refine T.rd (id := 12) mixed (fun _ => false) [] (by kernel_rfl) fun K hK => ?_ | refine T.rd (id := 13) mixed (fun _ => false) [] (by kernel_rfl) fun K hK => ?_ | refine T.r0 fun K hK => ?_ | refine T.r1 fun K hK => ?_ | refine T.ct rfl ?_ | refine T.cf rfl ?_ | refine T.seq ?_ | refine T.block ?_ | refine T.skip ?_
      | false =>
        rw [hp1] at k7
        cases hp2 : precTy c.ty c.fr with
        | true =>
          rw [hp2] at k8 g2
          rw [w2 (g2 rfl)] at k10
          repeat' first | ((first | refine aops_end (hK _ ?_) | refine aopsD_end (hK _ ?_)); clear hK K) | ((first | refine aops_go ?_ | refine aopsD_go ?_); simp [hlt, hrl, hlL, hgL, hneg]; (try simp (disch := omega) only [wrap64]); (try (refine gen fun q hq => ?_; cases q <;> (try simp [hlt, hrl, hlL, hgL, hneg] at hq) <;> (try (have hh : True := hq; clear hh hq))))) | (refine wpcall_pure rfl (k6) ?_; simp [hlt, hrl, hlL, hgL, hneg]; (try simp (disch := omega) only [wrap64]); (try (refine gen fun q hq => ?_; cases q <;> (try simp [hlt, hrl, hlL, hgL, hneg] at hq) <;> (try (have hh : True := hq; clear hh hq))))) | (refine wpcall_pure rfl (k7) ?_; simp [hlt, hrl, hlL, hgL, hneg]; (try simp (disch := omega) only [wrap64]); (try (refine gen fun q hq => ?_; cases q <;> (try simp [hlt, hrl, hlL, hgL, hneg] at hq) <;> (try (have hh : True := hq; clear hh hq))))) | (refine wpcall_pure rfl (k8) ?_; simp [hlt, hrl, hlL, hgL, hneg]; (try simp (disch := omega) only [wrap64]); (try (refine gen fun q hq => ?_; cases q <;> (try simp [hlt, hrl, hlL, hgL, hneg] at hq) <;> (try (have hh : True := hq; clear hh hq))))) | (refine wpcall_pure rfl (k10) ?_; simp [hlt, hrl, hlL, hgL, hneg]; (try simp (disch := omega) only [wrap64]); (try (refine gen fun q hq => ?_; cases q <;> (try simp [hlt, hrl, hlL, hgL, hneg] at hq) <;> (try (have hh : True := hq; clear hh hq))))) | (refine ⟨(p + 1, _), by dsimp only; omega, by dsimp only; omega, rfl, ?_, ?_⟩ <;> simp (disch := omega) [wrap64]) | refine T.rd (id := 12) mixed (fun _ => false) [] (by kernel_rfl) fun K hK => ?_ | refine T.rd (id := 13) mixed (fun _ => false) [] (by kernel_rfl) fun K hK => ?_ | refine T.r0 fun K hK => ?_ | refine T.r1 fun K hK => ?_ | refine T.ct rfl ?_ | refine T.cf rfl ?_ | refine T.seq ?_ | refine T.block ?_ | refine T.skip ?_
        | false =>
          rw [hp2] at k8
          repeat' first | ((first | refine aops_end (hK _ ?_) | refine aopsD_end (hK _ ?_)); clear hK K) | ((first | refine aops_go ?_ | refine aopsD_go ?_); simp [hlt, hrl, hlL, hgL, hneg]; (try simp (disch := omega) only [wrap64]); (try (refine gen fun q hq => ?_; cases q <;> (try simp [hlt, hrl, hlL, hgL, hneg] at hq) <;> (try (have hh : True := hq; clear hh hq))))) | (refine wpcall_pure rfl (k6) ?_; simp [hlt, hrl, hlL, hgL, hneg]; (try simp (disch := omega) only [wrap64]); (try (refine gen fun q hq => ?_; cases q <;> (try simp [hlt, hrl, hlL, hgL, hneg] at hq) <;> (try (have hh : True := hq; clear hh hq))))) | (refine wpcall_pure rfl (k7) ?_; simp [hlt, hrl, hlL, hgL, hneg]; (try simp (disch := omega) only [wrap64]); (try (refine gen fun q hq => ?_; cases q <;> (try simp [hlt, hrl, hlL, hgL, hneg] at hq) <;> (try (have hh : True := hq; clear hh hq))))) | (refine wpcall_pure rfl (k8) ?_; simp [hlt, hrl, hlL, hgL, hneg]; (try simp (disch := omega) only [wrap64]); (try (refine gen fun q hq => ?_; cases q <;> (try simp [hlt, hrl, hlL, hgL, hneg] at hq) <;> (try (have hh : True := hq; clear hh hq))))) | (refine ⟨(p + 1, _), by dsimp only; omega, by dsimp only; omega, rfl, ?_, ?_⟩ <;> simp (disch := omega) [wrap64]) | refine T.rd (id := 12) mixed (fun _ => false) [] (by kernel_rfl) fun K hK => ?_ | refine T.rd (id := 13) mixed (fun _ => false) [] (by kernel_rfl) fun K hK => ?_ | refine T.r0 fun K hK => ?_ | refine T.r1 fun K hK => ?_ | refine T.ct rfl ?_ | refine T.cf rfl ?_ | refine T.seq ?_ | refine T.block ?_ | refine T.skip ?_
    · have hp' : p = M := by omega
      subst hp'
      generalize rI (segM p) = L at *
      repeat' first | (refine aops_end (hK _ ?_); clear hK K) | (refine aops_go ?_; simp [hlt, hrl]; (try (refine gen fun q hq => ?_; cases q <;> (try simp [hlt, hrl] at hq) <;> (try (have hh : True := hq; clear hh hq))))) | (refine T.ret (Done.data (Or.inr rfl) ?_ ?_) <;> simp [Tryz.results3] <;> omega) | refine T.r0 fun K hK => ?_ | refine T.cf rfl ?_ | refine T.seq ?_ | refine T.exit ?_
end Go.Proofs.YtdcahkkclldhmaaGreat

namespace Go.Proofs.YtdcahkkclldhmaaGreat
open Go Go.Av
attribute [local irreducible] T ACalls TX EX LX Draws Some_ ACallsX eTy eTm MTy.kind MTy.kids MTm.kind MTm.name MTm.num MTm.ty MTm.fr MTm.label MTm.kids
attribute [local simp] eTy_def eTm_def
set_option maxHeartbeats 16000000
set_option maxRecDepth 8000
attribute [local simp] Option.bind

def badL (e : MTm) (l : Int) : Bool := !(castsM e).all (safeC l)
def unsafeL (e : MTm) (cs : List MTm) : List Int := cs.flatMap fun c => [c.label, -c.label].filter (badL e)
theorem unsafeL_len (e : MTm) : ∀ cs : List MTm, (unsafeL e cs).length ≤ 2 * cs.length
  | [] => by simp [unsafeL]
  | c :: r => by
    have := unsafeL_len e r
    have h2 := List.length_filter_le (badL e) [c.label, -c.label]
    simp only [unsafeL, List.flatMap_cons, List.length_append, List.length_cons, List.length_nil] at this h2 ⊢
    omega
theorem compactI_ne {l : List Int} (h : l ≠ []) : compactI l ≠ [] := by
  have hp := List.length_pos_iff.2 h
  intro h0
  have h1 : (0 : Nat) ∈ (List.range l.length).filter (Go.Lib.keeps l.toArray) := by
    rw [List.mem_filter]
    exact ⟨List.mem_range.2 hp, by simp [Go.Lib.keeps]⟩
  simp only [compactI, Go.Lib.compact, Go.Lib.compactUpTo, List.map_eq_nil_iff] at h0
  rw [h0] at h1
  simp at h1
theorem sortcomp_len (l : List Int) : decide (((compactI (sortI l)).length : Int) = 0) = l.isEmpty := by
  cases l with
  | nil => rw [sortI_nil, compactI_nil]; rfl
  | cons x r =>
    have h1 : sortI (x :: r) ≠ [] := fun h => by have := sortI_len (x :: r); rw [h] at this; simp at this
    have h2 := List.length_pos_iff.2 (compactI_ne h1)
    simp only [List.isEmpty_cons, decide_eq_false_iff_not]; omega
/-- Where no label can be blamed, none of fewer casts' can. -/
theorem unsafe_sub {e x : MTm} {d : Nat} (hv : TmV 13 d e) (hx : x = simpM e) (h : (unsafeL e (castsM e)).isEmpty = true) : (unsafeL x (castsM x)).isEmpty = true := by
  subst hx
  have h0 : ∀ c ∈ castsM e, badL e c.label = false ∧ badL e (-c.label) = false := by
    intro c hc
    have h1 : unsafeL e (castsM e) = [] := by simpa using h
    have h2 : ∀ l ∈ [c.label, -c.label], badL e l = false := by
      intro l hl
      cases hb : badL e l with
      | false => rfl
      | true =>
        have : l ∈ unsafeL e (castsM e) := List.mem_flatMap.2 ⟨c, hc, List.mem_filter.2 ⟨hl, hb⟩⟩
        rw [h1] at this; simp at this
    exact ⟨h2 _ (by simp), h2 _ (by simp)⟩
  have h3 : unsafeL (simpM e) (castsM (simpM e)) = [] := by
    rw [unsafeL, List.flatMap_eq_nil_iff]
    intro c hc
    obtain ⟨v, hv1, hv2⟩ := (simp_law hv).2.2.2.2 c hc
    simp only [trip, Prod.mk.injEq] at hv2
    obtain ⟨g1, g2⟩ := h0 v hv1
    simp only [badL, Bool.not_eq_false'] at g1 g2
    rw [List.filter_eq_nil_iff]
    intro l hl
    simp only [badL, Bool.not_eq_true', Bool.not_eq_false, List.mem_cons, List.not_mem_nil, or_false] at hl ⊢
    rcases hl with rfl | rfl
    · rw [hv2.2.2]; exact simp_safe hv g1
    · rw [hv2.2.2]; exact simp_safe hv g2
  rw [h3]; rfl

theorem UnsafeLabels_ok (e : MTm) (hn : nTm e ≤ 1073741824) (hv : castValidM e = true) : ACalls Tryz.prog 43 [aTm e] [] (.l (rI (compactI (sortI (unsafeL e (castsM e)))))) [] [] := by
  have h1 := CastValid_ok e (by omega)
  rw [hv] at h1
  have hvt := (castValidM_iff.1 hv).1
  have h2 := (casts_own e hn).sealed (by simp)
  dsimp only at h2
  have hcs := casts_small e
  have hlb : ∀ c ∈ castsM e, -1000 ≤ c.label ∧ c.label ≤ 1000 ∧ c.label ≠ 0 := fun c hc => by
    obtain ⟨_, _, hl⟩ := hvt.casts c hc
    simp only [labM, inM, Bool.or_eq_true, Bool.and_eq_true, decide_eq_true_eq] at hl
    omega
  have hsafe := fun l h1 h2 h3 => safe_ok e l h1 h2 h3 hvt hn
  have hbad : ∀ l, (castsM e).all (safeC l) = !badL e l := fun l => by simp [badL]
  simp only [hbad] at hsafe
  have hUl := unsafeL_len e (castsM e)
  have hlen : ∀ p, (unsafeL e ((castsM e).take p)).length ≤ 2 * p := fun p => Nat.le_trans (unsafeL_len e _) (by simp; omega)
  obtain ⟨cs, hc⟩ : ∃ cs, castsM e = cs := ⟨_, rfl⟩
  rw [hc] at h2 hcs hlb hUl hlen ⊢
  obtain ⟨U, hU⟩ : ∃ U, unsafeL e cs = U := ⟨_, rfl⟩
  refine ACalls.of_body Tryz.func43 (by kernel_rfl) rfl (by kernel_rfl) (by simp [Tryz.ntmps43]) (by simp) ?_
  rw [Tryz.ntmps43]
  repeat' first | (refine aops_end (hK _ ?_); clear hK K) | (refine aops_go ?_; simp; (try (refine gen fun q hq => ?_; cases q <;> (try simp at hq) <;> (try (have hh : True := hq; clear hh hq))))) | (refine wpcall_pure rfl (h1) ?_; simp; (try (refine gen fun q hq => ?_; cases q <;> (try simp at hq) <;> (try (have hh : True := hq; clear hh hq))))) | (refine wpcall_pure rfl (h2) ?_; simp; (try (refine gen fun q hq => ?_; cases q <;> (try simp at hq) <;> (try (have hh : True := hq; clear hh hq))))) | refine T.r0 fun K hK => ?_ | refine T.cf rfl ?_ | refine T.seq ?_ | refine T.block ?_ | refine T.skip ?_
  refine T.ownify 3 1 3 (by simp) ?_
  refine T.loopK (α := Nat × List (List CV)) [1, 2, 12, 13] (fun x => [(3, .c (.own 0 (unsafeL e (cs.take x.1)).length)), (14, .i x.1)]) (fun x => []) (fun x => x.2) (fun x _ => [{ sz := 1, ety := 3, rows := rI (unsafeL e (cs.take x.1)), wr := true }]) (fun x => cs.length + 1 - x.1) (fun x => x.1 ≤ cs.length) (by simp; rfl) (fun x hx => ?_) (0, []) (by simp) (by simp) (by simp [unsafeL, rI]) (by simp [unsafeL])
  obtain ⟨p, G⟩ := x
  dsimp only at hx ⊢
  simp only [ups, List.set_cons_zero, List.set_cons_succ, List.cons_append, List.nil_append, List.append_nil]
  by_cases hlt : p < cs.length
  · obtain ⟨u, ht⟩ := get_lt hlt
    have htm : u ∈ cs := List.mem_of_getElem? ht
    have hgt : cs[p] = u := by rw [List.getElem?_eq_getElem hlt] at ht; exact Option.some.inj ht
    have hdr : cs.drop p = u :: cs.drop (p + 1) := by rw [List.drop_eq_getElem_cons hlt, hgt]
    obtain ⟨b1, b2, b3⟩ := hlb u htm
    have hl2 := hlen p
    have htk : unsafeL e (cs.take (p + 1)) = unsafeL e (cs.take p) ++ [u.label, -u.label].filter (badL e) := by rw [List.take_add_one, ht]; simp [unsafeL]
    obtain ⟨l, hl⟩ : ∃ l, u.label = l := ⟨_, rfl⟩
    rw [hl] at htk b1 b2 b3
    have hneg : IntKind.i64.wrap (-l) = -l := by rw [wrap64 (by omega) (by omega)]
    have k1 := hsafe l (by omega) (by omega) (by omega)
    have k2 := hsafe (-l) (by omega) (by omega) (by omega)
    generalize unsafeL e (cs.take p) = Z at *
    repeat' first | (refine aops_end (hK _ ?_); clear hK K) | (refine aops_go ?_; simp [hlt, hgt, hl, hneg]; (try simp (disch := omega) only [wrap64]); (try (refine gen fun q hq => ?_; cases q <;> (try simp [hlt, hgt, hl, hneg] at hq) <;> (try (have hh : True := hq; clear hh hq))))) | refine T.r0 fun K hK => ?_ | refine T.ct rfl ?_ | refine T.seq ?_ | refine T.block ?_ | refine T.skip ?_
    refine T.loopK (α := Nat) [1, 2, 5, 12, 13, 14, 15, 16, 17, 18, 19, 20, 21, 22, 23, 24, 38] (fun q => [(3, .c (.own 0 (Z ++ ([l, -l].take q).filter (badL e)).length)), (25, .i q)]) (fun y => []) (fun y => []) (fun q _ => [{ sz := 1, ety := 3, rows := rI (Z ++ ([l, -l].take q).filter (badL e)), wr := true }]) (fun q => 3 - q) (fun q => q ≤ 2) (by simp; rfl) (fun q hq => ?_) 0 (by simp) (by simp) (by simp) (by simp)
    dsimp only at hq ⊢
    simp only [ups, List.set_cons_zero, List.set_cons_succ, List.cons_append, List.nil_append, List.append_nil]
    match q, hq with
    | 0, _ =>
      cases hb : badL e l <;> rw [hb] at k1
      · repeat' first | (refine aops_end (hK _ ?_); clear hK K) | (refine aops_go ?_; simp [rI]; (try simp (disch := omega) only [wrap64]); (try (refine gen fun q hq => ?_; cases q <;> (try simp [rI] at hq) <;> (try (have hh : True := hq; clear hh hq))))) | (refine wpcall_pure rfl (k1) ?_; simp [rI]; (try simp (disch := omega) only [wrap64]); (try (refine gen fun q hq => ?_; cases q <;> (try simp [rI] at hq) <;> (try (have hh : True := hq; clear hh hq))))) | (refine ⟨1, by dsimp only; omega, by dsimp only; omega, rfl, ?_, ?_⟩ <;> simp (disch := omega) [wrap64, hb, rI]) | refine T.r0 fun K hK => ?_ | refine T.r1 fun K hK => ?_ | refine T.ct rfl ?_ | refine T.cf rfl ?_ | refine T.seq ?_ | refine T.block ?_ | refine T.skip ?_
      · repeat' first | (refine aops_end (hK _ ?_); clear hK K) | (refine aops_go ?_; simp [rI]; (try simp (disch := omega) only [wrap64]); (try (refine gen fun q hq => ?_; cases q <;> (try simp [rI] at hq) <;> (try (have hh : True := hq; clear hh hq))))) | (refine wpcall_pure rfl (k1) ?_; simp [rI]; (try simp (disch := omega) only [wrap64]); (try (refine gen fun q hq => ?_; cases q <;> (try simp [rI] at hq) <;> (try (have hh : True := hq; clear hh hq))))) | (refine ⟨by omega, by omega, ?_⟩) | (refine ⟨1, by dsimp only; omega, by dsimp only; omega, rfl, ?_, ?_⟩ <;> simp (disch := omega) [wrap64, hb, rI]) | refine T.r0 fun K hK => ?_ | refine T.r1 fun K hK => ?_ | refine T.ct rfl ?_ | refine T.seq ?_ | refine T.block ?_ | refine T.skip ?_
    | 1, _ =>
      have hl3 : (Z ++ ([l, -l].take 1).filter (badL e)).length ≤ Z.length + 1 := by
        have := List.length_filter_le (badL e) ([l, -l].take 1)
        simp at this ⊢; omega
      have htk2 : Z ++ ([l, -l].take 2).filter (badL e) = (Z ++ ([l, -l].take 1).filter (badL e)) ++ [-l].filter (badL e) := by simp [List.filter_cons]; split <;> simp
      generalize Z ++ ([l, -l].take 1).filter (badL e) = Z1 at *
      cases hb : badL e (-l) <;> rw [hb] at k2
      · repeat' first | (refine aops_end (hK _ ?_); clear hK K) | (refine aops_go ?_; simp [rI]; (try simp (disch := omega) only [wrap64]); (try (refine gen fun q hq => ?_; cases q <;> (try simp [rI] at hq) <;> (try (have hh : True := hq; clear hh hq))))) | (refine wpcall_pure rfl (k2) ?_; simp [rI]; (try simp (disch := omega) only [wrap64]); (try (refine gen fun q hq => ?_; cases q <;> (try simp [rI] at hq) <;> (try (have hh : True := hq; clear hh hq))))) | (refine ⟨2, by dsimp only; omega, by dsimp only; omega, rfl, ?_, ?_⟩ <;> simp (disch := omega) [wrap64, htk2, hb, rI, -List.take_succ_cons]) | refine T.r0 fun K hK => ?_ | refine T.r1 fun K hK => ?_ | refine T.ct rfl ?_ | refine T.cf rfl ?_ | refine T.seq ?_ | refine T.block ?_ | refine T.skip ?_
      · repeat' first | (refine aops_end (hK _ ?_); clear hK K) | (refine aops_go ?_; simp [rI]; (try simp (disch := omega) only [wrap64]); (try (refine gen fun q hq => ?_; cases q <;> (try simp [rI] at hq) <;> (try (have hh : True := hq; clear hh hq))))) | (refine wpcall_pure rfl (k2) ?_; simp [rI]; (try simp (disch := omega) only [wrap64]); (try (refine gen fun q hq => ?_; cases q <;> (try simp [rI] at hq) <;> (try (have hh : True := hq; clear hh hq))))) | (refine ⟨by omega, by omega, ?_⟩) | (refine ⟨2, by dsimp only; omega, by dsimp only; omega, rfl, ?_, ?_⟩ <;> simp (disch := omega) [wrap64, htk2, hb, rI, -List.take_succ_cons]) | refine T.r0 fun K hK => ?_ | refine T.r1 fun K hK => ?_ | refine T.ct rfl ?_ | refine T.seq ?_ | refine T.block ?_ | refine T.skip ?_
    | 2, _ =>
      rw [show ([l, -l] : List Int).take 2 = [l, -l] from rfl, ← htk]
      repeat' first | (refine aops_end (hK _ ?_); clear hK K) | (refine aops_go ?_; simp; (try simp (disch := omega) only [wrap64]); (try (refine gen fun q hq => ?_; cases q <;> (try simp at hq) <;> (try (have hh : True := hq; clear hh hq))))) | (refine ⟨(p + 1, _), by dsimp only; omega, by dsimp only; omega, rfl, ?_, ?_⟩ <;> simp (disch := omega) [wrap64]) | refine T.r0 fun K hK => ?_ | refine T.r1 fun K hK => ?_ | refine T.cf rfl ?_ | refine T.seq ?_ | refine T.exit ?_
  · have hp' : p = cs.length := by omega
    subst hp'
    rw [List.take_length, hU]
    rw [hU] at hUl
    by_cases h0 : U = []
    · subst h0
      repeat' first | (refine aops_end (hK _ ?_); clear hK K) | (refine aops_go ?_; simp [hlt, rI]; (try (refine gen fun q hq => ?_; cases q <;> (try simp [hlt, rI] at hq) <;> (try (have hh : True := hq; clear hh hq))))) | (refine wpcall_pure rfl (Sort_0) ?_; simp [hlt, rI]; (try (refine gen fun q hq => ?_; cases q <;> (try simp [hlt, rI] at hq) <;> (try (have hh : True := hq; clear hh hq))))) | (refine wpcall_pure rfl (Compact_0) ?_; simp [hlt, rI]; (try (refine gen fun q hq => ?_; cases q <;> (try simp [hlt, rI] at hq) <;> (try (have hh : True := hq; clear hh hq))))) | (refine T.ret (Done.val (Or.inr rfl) ?_) <;> simp [resAs, Tryz.results43, rI, sortI_nil, compactI_nil] <;> omega) | refine T.r0 fun K hK => ?_ | refine T.cf rfl ?_ | refine T.seq ?_ | refine T.exit ?_
    · have hs := sort_own U h0 (by omega)
      have hne2 : sortI U ≠ [] := fun h => h0 (List.eq_nil_of_length_eq_zero (by rw [← sortI_len, h]; rfl))
      have hk := compact_own (sortI U) hne2 (by rw [sortI_len]; omega)
      rw [sortI_len] at hk
      repeat' first | (refine aops_end (hK _ ?_); clear hK K) | (refine aops_go ?_; simp [hlt]; (try (refine gen fun q hq => ?_; cases q <;> (try simp [hlt] at hq) <;> (try (have hh : True := hq; clear hh hq))))) | (refine wpcall_hand 0 hs rfl rfl rfl rfl ?_; simp [back]) | (refine wpcall_hand 0 hk rfl rfl rfl rfl ?_; simp [back]) | (refine T.ret (Done.val (Or.inr rfl) ?_) <;> simp [resAs, Tryz.results43] <;> omega) | refine T.r0 fun K hK => ?_ | refine T.cf rfl ?_ | refine T.seq ?_ | refine T.exit ?_

theorem SafeTerm_ok (e : MTm) (hn : nTm e ≤ 1073741824) : ACalls Tryz.prog 17 [aTm e] [] (.b (castValidM e && (unsafeL e (castsM e)).isEmpty)) [] [] := by
  have h1 := CastValid_ok e (by omega)
  cases hv : castValidM e with
  | false =>
    rw [hv] at h1
    refine ACalls.of_body Tryz.func17 (by kernel_rfl) rfl (by kernel_rfl) (by simp [Tryz.ntmps17]) (by simp) ?_
    rw [Tryz.ntmps17]
    repeat' first | (refine aops_end (hK _ ?_); clear hK K) | (refine aops_go ?_; simp; (try (refine gen fun q hq => ?_; cases q <;> (try simp at hq) <;> (try (have hh : True := hq; clear hh hq))))) | (refine wpcall_pure rfl (h1) ?_; simp; (try (refine gen fun q hq => ?_; cases q <;> (try simp at hq) <;> (try (have hh : True := hq; clear hh hq))))) | (refine T.ret (Done.data (Or.inr rfl) ?_ ?_) <;> simp [Tryz.results17] <;> omega) | refine T.r0 fun K hK => ?_
  | true =>
    rw [hv] at h1
    have h2 := UnsafeLabels_ok e hn hv
    have h3 := sortcomp_len (unsafeL e (castsM e))
    rw [Bool.true_and, ← h3]
    have h4 : (rI (compactI (sortI (unsafeL e (castsM e))))).length = (compactI (sortI (unsafeL e (castsM e)))).length := rI_len _
    generalize compactI (sortI (unsafeL e (castsM e))) = R at *
    generalize rI R = L at *
    by_cases hz : R = []
    · subst hz
      have : L = [] := List.eq_nil_of_length_eq_zero h4
      subst this
      refine ACalls.of_body Tryz.func17 (by kernel_rfl) rfl (by kernel_rfl) (by simp [Tryz.ntmps17]) (by simp) ?_
      rw [Tryz.ntmps17]
      repeat' first | (refine aops_end (hK _ ?_); clear hK K) | (refine aops_go ?_; simp; (try (refine gen fun q hq => ?_; cases q <;> (try simp at hq) <;> (try (have hh : True := hq; clear hh hq))))) | (refine wpcall_pure rfl (h1) ?_; simp; (try (refine gen fun q hq => ?_; cases q <;> (try simp at hq) <;> (try (have hh : True := hq; clear hh hq))))) | (refine wpcall_pure rfl (h2) ?_; simp; (try (refine gen fun q hq => ?_; cases q <;> (try simp at hq) <;> (try (have hh : True := hq; clear hh hq))))) | (refine T.ret (Done.data (Or.inr rfl) ?_ ?_) <;> simp [Tryz.results17] <;> omega) | refine T.r0 fun K hK => ?_
    · have hz2 : ¬ (R.length : Int) = 0 := fun h => hz (List.eq_nil_of_length_eq_zero (by omega))
      have hz3 : ¬ L = [] := fun h => by rw [h] at h4; simp at h4; omega
      refine ACalls.of_body Tryz.func17 (by kernel_rfl) rfl (by kernel_rfl) (by simp [Tryz.ntmps17]) (by simp) ?_
      rw [Tryz.ntmps17]
      repeat' first | (refine aops_end (hK _ ?_); clear hK K) | (refine aops_go ?_; simp [hz2, hz, hz3, h4]; (try (refine gen fun q hq => ?_; cases q <;> (try simp [hz2, hz, hz3, h4] at hq) <;> (try (have hh : True := hq; clear hh hq))))) | (refine wpcall_pure rfl (h1) ?_; simp [hz2, hz, hz3, h4]; (try (refine gen fun q hq => ?_; cases q <;> (try simp [hz2, hz, hz3, h4] at hq) <;> (try (have hh : True := hq; clear hh hq))))) | (refine wpcall_pure rfl (h2) ?_; simp [hz2, hz, hz3, h4]; (try (refine gen fun q hq => ?_; cases q <;> (try simp [hz2, hz, hz3, h4] at hq) <;> (try (have hh : True := hq; clear hh hq))))) | (refine T.ret (Done.data (Or.inr rfl) ?_ ?_) <;> simp [Tryz.results17, hz2, hz] <;> omega) | refine T.r0 fun K hK => ?_

theorem SimplifyCastsS_ok (e : MTm) (hn : nTm e ≤ 1073741824) : ACalls Tryz.prog 16 [aTm e] [] (.tup (tmRes (if castValidM e = true then some (simpM e) else none))) [] [] := by
  have h1 := CastValidS_ok e (by omega)
  cases hv : castValidM e with
  | false =>
    rw [hv] at h1
    simp only [Bool.false_eq_true, if_false, tmRes]
    refine ACalls.of_body Tryz.func16 (by kernel_rfl) rfl (by kernel_rfl) (by simp [Tryz.ntmps16]) (by simp) ?_
    rw [Tryz.ntmps16]
    repeat' first | (refine aops_end (hK _ ?_); clear hK K) | (refine aops_go ?_; simp; (try (refine gen fun q hq => ?_; cases q <;> (try simp at hq) <;> (try (have hh : True := hq; clear hh hq))))) | (refine wpcall_pure rfl (h1) ?_; simp; (try (refine gen fun q hq => ?_; cases q <;> (try simp at hq) <;> (try (have hh : True := hq; clear hh hq))))) | (refine T.ret (Done.tup (Or.inr rfl) ?_) <;> simp [resAs, Tryz.results16] <;> omega) | refine T.r0 fun K hK => ?_ | refine T.ct rfl ?_ | refine T.seq ?_
  | true =>
    rw [hv] at h1
    have h2 := l12Simple_ok e 40 (castValidM_iff.1 hv).1 (castValidM_iff.1 hv).2
    simp only [if_true, tmRes]
    generalize simpM e = R at *
    refine ACalls.of_body Tryz.func16 (by kernel_rfl) rfl (by kernel_rfl) (by simp [Tryz.ntmps16]) (by simp) ?_
    rw [Tryz.ntmps16]
    repeat' first | (refine aops_end (hK _ ?_); clear hK K) | (refine aops_go ?_; simp; (try (refine gen fun q hq => ?_; cases q <;> (try simp at hq) <;> (try (have hh : True := hq; clear hh hq))))) | (refine wpcall_pure rfl (h1) ?_; simp; (try (refine gen fun q hq => ?_; cases q <;> (try simp at hq) <;> (try (have hh : True := hq; clear hh hq))))) | (refine wpcall_pure rfl (h2) ?_; simp; (try (refine gen fun q hq => ?_; cases q <;> (try simp at hq) <;> (try (have hh : True := hq; clear hh hq))))) | (refine T.ret (Done.tup (Or.inr rfl) ?_) <;> simp [resAs, Tryz.results16] <;> omega) | refine T.r0 fun K hK => ?_ | refine T.cf rfl ?_ | refine T.seq ?_ | refine T.skip ?_

theorem DrawSimplifyCasts_ok (b : List Int) (hb : ∀ n ∈ b, 0 ≤ n ∧ n ≤ 255) : Some_ Tryz.prog 14 [.l (rB b)] (RV aTm noA fun e => nTm e ≤ 300000) := by
  obtain ⟨b, p, hb, hp, hc⟩ := l18Open_ok b hb
  refine Some_.of_body Tryz.func14 (by kernel_rfl) rfl (by kernel_rfl) (by simp [Tryz.ntmps14]) ?_
  rw [Tryz.ntmps14]
  repeat' first | (refine aops_end (hK _ ?_); clear hK K) | (refine aops_go ?_; simp; (try simp (disch := omega) only [wrap64]); (try (refine gen fun q hq => ?_; cases q <;> (try simp at hq) <;> (try (have hh : True := hq; clear hh hq))))) | (refine wpcall_dr 1 rfl rfl (l12Draw_ok b hb _ (by omega)) (fun x1 p1 hx1 hp1 hp1' => ?_); simp; (try simp (disch := omega) only [wrap64]); (try (refine gen fun q hq => ?_; cases q <;> (try simp at hq) <;> (try (have hh : True := hq; clear hh hq))))) | (refine wpcall_new1 rfl hc ?_; simp [back]) | refine TX.rs (fun _ => false) fun K hK => ?_
  all_goals (
    refine TX.ret ?_
    repeat' first | refine EX.outR ?_ | refine EX.thenR ?_ | refine EX.blockR ?_ | refine EX.unrR ?_
    apply EX.someA (ks := [])
    case he => exact Or.inr rfl
    case hys => simp [resAs, getAs, Tryz.results14] <;> rfl
    case hv => first | (dsimp only [Av.one]; exact rfl) | dsimp only [Av.one]
    case hx => repeat' first | exact IsT2.var _ | exact IsV.tmv _ | exact IsTm.var _ | exact IsTy.row _ | exact IsTm.row _ | exact IsTys.nil | exact IsTms.nil | exact IsBds.nil | exact IsTys.map _ | exact IsTms.map _ | exact IsBds.map _ | exact IsV.int _ | exact IsV.str _ | exact IsV.bool _ | apply IsV.p2 | apply IsV.p3 | apply IsV.tm | apply IsV.ty | apply IsTm.node | apply IsTy.of | apply IsTys.cons | apply IsTms.cons | apply IsBds.cons | apply IsV.tys | apply IsV.tms | apply IsV.bds | apply IsT2.node | apply IsTys.app | apply IsTms.app | apply IsBds.app
    case hA => exact rfl
    case hks => simp
    case hg => assumption)
end Go.Proofs.YtdcahkkclldhmaaGreat

namespace Go.Proofs.YtdcahkkclldhmaaGreat
open Go Go.Av
attribute [local irreducible] T ACalls TX EX LX Draws Some_ ACallsX eTy eTm MTy.kind MTy.kids MTm.kind MTm.name MTm.num MTm.ty MTm.fr MTm.label MTm.kids
attribute [local simp] eTy_def eTm_def
set_option maxHeartbeats 16000000
set_option maxRecDepth 8000

theorem lawSimplifySafe_ok (b : List Int) (hb : ∀ n ∈ b, 0 ≤ n ∧ n ≤ 255) : ACalls Tryz.prog 4 [.l (rB b)] [] (.b true) [] [] := by
  by_cases h1 : (1048576 : Int) < b.length
  · refine ACalls.of_body Tryz.func4 (by kernel_rfl) rfl (by kernel_rfl) (by simp [Tryz.ntmps4]) (by simp) ?_
    rw [Tryz.ntmps4]
    repeat' first | (refine aops_end (hK _ ?_); clear hK K) | (refine aops_go ?_; simp [h1, rB_len]; (try (refine gen fun q hq => ?_; cases q <;> (try simp [h1, rB_len] at hq) <;> (try (have hh : True := hq; clear hh hq))))) | (refine T.ret (Done.data (Or.inr rfl) ?_ ?_) <;> simp [Tryz.results4] <;> omega) | refine T.r0 fun K hK => ?_ | refine T.ct rfl ?_ | refine T.seq ?_
  obtain ⟨e, he, d1⟩ := (DrawSimplifyCasts_ok b hb).elim
  have k1 := SimplifyCasts_ok e (by omega)
  have k2 := SimplifyCastsS_ok e (by omega)
  cases hv : castValidM e with
  | false =>
    have kz := TermSame_ok zeroE zeroE (by simp [nTm_mk, nTmS, nTy_mk, nTyS])
    rw [sameTm_refl] at kz
    rw [hv] at k1 k2
    simp only [Bool.false_eq_true, if_false, tmRes] at k1 k2
    refine ACalls.of_body Tryz.func4 (by kernel_rfl) rfl (by kernel_rfl) (by simp [Tryz.ntmps4]) (by simp) ?_
    rw [Tryz.ntmps4]
    repeat' first | (refine aops_end (hK _ ?_); clear hK K) | (refine aops_go ?_; simp [h1, rB_len]; (try (refine gen fun q hq => ?_; cases q <;> (try simp [h1, rB_len] at hq) <;> (try (have hh : True := hq; clear hh hq))))) | (refine wpcall_pure rfl (d1) ?_; simp [h1, rB_len]; (try (refine gen fun q hq => ?_; cases q <;> (try simp [h1, rB_len] at hq) <;> (try (have hh : True := hq; clear hh hq))))) | (refine wpcall_pure rfl (k1) ?_; simp [h1, rB_len]; (try (refine gen fun q hq => ?_; cases q <;> (try simp [h1, rB_len] at hq) <;> (try (have hh : True := hq; clear hh hq))))) | (refine wpcall_pure rfl (k2) ?_; simp [h1, rB_len]; (try (refine gen fun q hq => ?_; cases q <;> (try simp [h1, rB_len] at hq) <;> (try (have hh : True := hq; clear hh hq))))) | (refine wpcall_pure ?_ (kz) ?_; (focus (solve | simp [h1, rB_len])); simp [h1, rB_len]; (try (refine gen fun q hq => ?_; cases q <;> (try simp [h1, rB_len] at hq) <;> (try (have hh : True := hq; clear hh hq))))) | (refine T.ret (Done.data (Or.inr rfl) ?_ ?_) <;> simp [Tryz.results4] <;> omega) | refine T.r0 fun K hK => ?_ | refine T.ct rfl ?_ | refine T.cf rfl ?_ | refine T.seq ?_ | refine T.skip ?_
  | true =>
    rw [hv] at k1 k2
    simp only [if_true, tmRes] at k1 k2
    obtain ⟨hvt, hvn⟩ := castValidM_iff.1 hv
    have hlaw := simp_law hvt
    have hvx : castValidM (simpM e) = true := castValidM_iff.2 ⟨hlaw.1, by have := hlaw.2.1; omega⟩
    have hsx := (castValid_small hvx).1
    have k3 := TermSame_ok (simpM e) (simpM e) (by omega)
    rw [sameTm_refl] at k3
    have k4 := CastLabels_ok e (by omega)
    have k5 := SafeTerm_ok e (by omega)
    have k6 := SafeTerm_ok (simpM e) (by omega)
    rw [hv] at k5
    rw [hvx] at k6
    simp only [Bool.true_and] at k5 k6
    have hun := unsafe_sub hvt (rfl : simpM e = simpM e)
    have hsf := fun l => simp_safe hvt (l := l)
    have ka := fun l => SafeFor_ok e l (by omega)
    have kb := fun l => SafeFor_ok (simpM e) l (by omega)
    simp only [hv, hvx, Bool.true_and] at ka kb
    generalize (unsafeL e (castsM e)).isEmpty = z1 at *
    generalize (unsafeL (simpM e) (castsM (simpM e))).isEmpty = z2 at *
    obtain ⟨L, hL⟩ : ∃ L, castLabelsM e = L := ⟨_, rfl⟩
    rw [hL] at k4
    have hLl : L.length ≤ 1000000 := by
      rw [← hL, castLabelsM, if_pos hv]
      have q1 := compactI_le (sortI (labelsM e))
      rw [sortI_len, labelsM, List.length_map] at q1
      have q2 := casts_small e
      have q3 := (castValid_small hv).1
      rw [labelsM]; omega
    generalize simpM e = x at *
    refine ACalls.of_body Tryz.func4 (by kernel_rfl) rfl (by kernel_rfl) (by simp [Tryz.ntmps4]) (by simp) ?_
    rw [Tryz.ntmps4]
    repeat' first | (refine aops_end (hK _ ?_); clear hK K) | (refine aops_go ?_; simp [h1, rB_len]; (try (refine gen fun q hq => ?_; cases q <;> (try simp [h1, rB_len] at hq) <;> (try (have hh : True := hq; clear hh hq))))) | (refine wpcall_pure rfl (d1) ?_; simp [h1, rB_len]; (try (refine gen fun q hq => ?_; cases q <;> (try simp [h1, rB_len] at hq) <;> (try (have hh : True := hq; clear hh hq))))) | (refine wpcall_pure rfl (k1) ?_; simp [h1, rB_len]; (try (refine gen fun q hq => ?_; cases q <;> (try simp [h1, rB_len] at hq) <;> (try (have hh : True := hq; clear hh hq))))) | (refine wpcall_pure rfl (k2) ?_; simp [h1, rB_len]; (try (refine gen fun q hq => ?_; cases q <;> (try simp [h1, rB_len] at hq) <;> (try (have hh : True := hq; clear hh hq))))) | (refine wpcall_pure rfl (k3) ?_; simp [h1, rB_len]; (try (refine gen fun q hq => ?_; cases q <;> (try simp [h1, rB_len] at hq) <;> (try (have hh : True := hq; clear hh hq))))) | (refine wpcall_pure rfl (k4) ?_; simp [h1, rB_len]; (try (refine gen fun q hq => ?_; cases q <;> (try simp [h1, rB_len] at hq) <;> (try (have hh : True := hq; clear hh hq))))) | refine T.r0 fun K hK => ?_ | refine T.cf rfl ?_ | refine T.seq ?_ | refine T.block ?_ | refine T.skip ?_
    refine T.loopK (α := Nat × List (List CV)) [3, 4, 8] (fun x => [(2, .b false), (9, .i x.1)]) (fun x => []) (fun x => x.2) (fun x A => A) (fun x => L.length + 1 - x.1) (fun x => x.1 ≤ L.length) (by simp; rfl) (fun x hx => ?_) (0, []) (by simp) (by simp) (by simp) (by simp)
    obtain ⟨p, G⟩ := x
    dsimp only at hx ⊢
    simp only [ups, List.set_cons_zero, List.set_cons_succ, List.cons_append, List.nil_append, List.append_nil]
    have hrl := rI_len L
    by_cases hlt : p < L.length
    · obtain ⟨l, hl⟩ := get_lt hlt
      have hat := rI_at hl
      obtain ⟨l', hl'⟩ : ∃ l', IntKind.i64.wrap (-l) = l' := ⟨_, rfl⟩
      have a1 := ka l
      have b1 := kb l
      have a2 := ka l'
      have b2 := kb l'
      have s1 : (labM l && (castsM e).all (safeC l)) = true → (labM l && (castsM x).all (safeC l)) = true := fun h => by
        rw [Bool.and_eq_true] at h ⊢; exact ⟨h.1, hsf l h.2⟩
      have s2 : (labM l' && (castsM e).all (safeC l')) = true → (labM l' && (castsM x).all (safeC l')) = true := fun h => by
        rw [Bool.and_eq_true] at h ⊢; exact ⟨h.1, hsf l' h.2⟩
      generalize (labM l && (castsM e).all (safeC l)) = u1 at *
      generalize (labM l' && (castsM e).all (safeC l')) = u2 at *
      generalize (labM l && (castsM x).all (safeC l)) = v1 at *
      generalize (labM l' && (castsM x).all (safeC l')) = v2 at *
      generalize rI L = LL at *
      have hlL : p < LL.length := by omega
      have hgL : LL[p] = [.i l] := by rw [List.getElem?_eq_getElem hlL] at hat; exact Option.some.inj hat
      cases u1 <;> cases v1 <;> first | (exact absurd (s1 rfl) (by decide)) | skip
      all_goals (cases u2 <;> cases v2 <;> first | (exact absurd (s2 rfl) (by decide)) | skip)
      all_goals (
        repeat' first | ((first | refine aops_end (hK _ ?_) | refine aopsD_end (hK _ ?_)); clear hK K) | ((first | refine aops_go ?_ | refine aopsD_go ?_); simp [hlt, hrl, hlL, hgL, hl']; (try simp (disch := omega) only [wrap64]); (try (refine gen fun q hq => ?_; cases q <;> (try simp [hlt, hrl, hlL, hgL, hl'] at hq) <;> (try (have hh : True := hq; clear hh hq))))) | (refine wpcall_pure rfl (a1) ?_; simp [hlt, hrl, hlL, hgL, hl']; (try simp (disch := omega) only [wrap64]); (try (refine gen fun q hq => ?_; cases q <;> (try simp [hlt, hrl, hlL, hgL, hl'] at hq) <;> (try (have hh : True := hq; clear hh hq))))) | (refine wpcall_pure rfl (b1) ?_; simp [hlt, hrl, hlL, hgL, hl']; (try simp (disch := omega) only [wrap64]); (try (refine gen fun q hq => ?_; cases q <;> (try simp [hlt, hrl, hlL, hgL, hl'] at hq) <;> (try (have hh : True := hq; clear hh hq))))) | (refine wpcall_pure rfl (a2) ?_; simp [hlt, hrl, hlL, hgL, hl']; (try simp (disch := omega) only [wrap64]); (try (refine gen fun q hq => ?_; cases q <;> (try simp [hlt, hrl, hlL, hgL, hl'] at hq) <;> (try (have hh : True := hq; clear hh hq))))) | (refine wpcall_pure rfl (b2) ?_; simp [hlt, hrl, hlL, hgL, hl']; (try simp (disch := omega) only [wrap64]); (try (refine gen fun q hq => ?_; cases q <;> (try simp [hlt, hrl, hlL, hgL, hl'] at hq) <;> (try (have hh : True := hq; clear hh hq))))) | (refine ⟨(p + 1, _), by dsimp only; omega, by dsimp only; omega, rfl, ?_, ?_⟩ <;> simp (disch := omega) [wrap64]) | refine T.rd (id := 12) mixed (fun _ => false) [] (by kernel_rfl) fun K hK => ?_ | refine T.r0 fun K hK => ?_ | refine T.r1 fun K hK => ?_ | refine T.ct rfl ?_ | refine T.cf rfl ?_ | refine T.seq ?_ | refine T.block ?_ | refine T.skip ?_
        )
    · have hp' : p = L.length := by omega
      subst hp'
      generalize rI L = LL at *
      cases z1 <;> cases z2 <;> first | (exact absurd (hun rfl) (by decide)) | skip
      · repeat' first | (refine aops_end (hK _ ?_); clear hK K) | (refine aops_go ?_; simp [hlt, hrl]; (try (refine gen fun q hq => ?_; cases q <;> (try simp [hlt, hrl] at hq) <;> (try (have hh : True := hq; clear hh hq))))) | (refine wpcall_pure rfl (k5) ?_; simp [hlt, hrl]; (try (refine gen fun q hq => ?_; cases q <;> (try simp [hlt, hrl] at hq) <;> (try (have hh : True := hq; clear hh hq))))) | (refine T.ret (Done.data (Or.inr rfl) ?_ ?_) <;> simp [Tryz.results4] <;> omega) | refine T.r0 fun K hK => ?_ | refine T.cf rfl ?_ | refine T.seq ?_ | refine T.exit ?_
      · repeat' first | (refine aops_end (hK _ ?_); clear hK K) | (refine aops_go ?_; simp [hlt, hrl]; (try (refine gen fun q hq => ?_; cases q <;> (try simp [hlt, hrl] at hq) <;> (try (have hh : True := hq; clear hh hq))))) | (refine wpcall_pure rfl (k5) ?_; simp [hlt, hrl]; (try (refine gen fun q hq => ?_; cases q <;> (try simp [hlt, hrl] at hq) <;> (try (have hh : True := hq; clear hh hq))))) | (refine T.ret (Done.data (Or.inr rfl) ?_ ?_) <;> simp [Tryz.results4] <;> omega) | refine T.r0 fun K hK => ?_ | refine T.cf rfl ?_ | refine T.seq ?_ | refine T.exit ?_
      · repeat' first | (refine aops_end (hK _ ?_); clear hK K) | (refine aops_go ?_; simp [hlt, hrl]; (try (refine gen fun q hq => ?_; cases q <;> (try simp [hlt, hrl] at hq) <;> (try (have hh : True := hq; clear hh hq))))) | (refine wpcall_pure rfl (k5) ?_; simp [hlt, hrl]; (try (refine gen fun q hq => ?_; cases q <;> (try simp [hlt, hrl] at hq) <;> (try (have hh : True := hq; clear hh hq))))) | (refine wpcall_pure rfl (k6) ?_; simp [hlt, hrl]; (try (refine gen fun q hq => ?_; cases q <;> (try simp [hlt, hrl] at hq) <;> (try (have hh : True := hq; clear hh hq))))) | (refine T.ret (Done.data (Or.inr rfl) ?_ ?_) <;> simp [Tryz.results4] <;> omega) | refine T.r0 fun K hK => ?_ | refine T.cf rfl ?_ | refine T.seq ?_ | refine T.exit ?_
end Go.Proofs.YtdcahkkclldhmaaGreat
