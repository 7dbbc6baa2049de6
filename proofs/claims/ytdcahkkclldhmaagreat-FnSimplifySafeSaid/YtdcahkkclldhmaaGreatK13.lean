/- A part of the library of this seat: a value-semantic program logic over the model, plain models, and walks of functions. -/
import Derived.Test.YtdcahkkclldhmaaGreatK12
set_option linter.unusedVariables false
set_option linter.unusedSimpArgs false
namespace Go.Av
attribute [-simp] Go.Av.freeStepG Go.Av.exA Go.Av.innAsH Go.Av.AV.innH Go.Av.CV.innH Go.Av.innHs Go.Av.AV.outnH Go.Av.CV.outnH
open Go
/-- The labels of casts. -/
def labelsM (e : MTm) : List Int := (castsM e).map MTm.label
def cnt1 (n m v : Int) : Nat := if n < v ∧ v ≤ m then 1 else 0
theorem cnt1_app {n k m : Int} (h1 : n ≤ k) (h2 : k ≤ m) (v : Int) : cnt1 n k v + cnt1 k m v = cnt1 n m v := by
  simp only [cnt1]
  split <;> split <;> split <;> omega
theorem cnt1_none (n v : Int) : cnt1 n n v = 0 := by simp only [cnt1]; rw [if_neg (by omega)]
structure Lb (n m : Int) (e : MTm) : Prop where
  le : n ≤ m
  cnt : ∀ v : Int, (labelsM e).count v = cnt1 n m v
  ok : ∀ c ∈ castsM e, c.fr ≠ c.ty ∧ consTy c.fr c.ty = true
theorem CaV.labs {k k2 : Int} {a a2 : MTm} {f t : MTy} (h : CaV k a f t a2 k2) (hc : consTy f t = true) (hok : ∀ c ∈ castsM a, c.fr ≠ c.ty ∧ consTy c.fr c.ty = true) :
    k ≤ k2 ∧ k2 ≤ k + 1 ∧ (∀ v : Int, (labelsM a2).count v = (labelsM a).count v + cnt1 k k2 v) ∧ ∀ c ∈ castsM a2, c.fr ≠ c.ty ∧ consTy c.fr c.ty = true := by
  cases h with
  | same h => exact ⟨Int.le_refl _, by omega, fun v => by rw [cnt1_none]; rfl, hok⟩
  | cast h =>
    have e1 : castsM (tCast a f t (k + 1)) = tCast a f t (k + 1) :: castsM a := by simp [castsM, castsS]
    refine ⟨by omega, Int.le_refl _, fun v => ?_, fun c hc' => ?_⟩
    · simp only [labelsM, e1, List.map_cons, List.count_cons, cnt1]
      simp only [MTm.label_mk, beq_iff_eq]
      split <;> split <;> omega
    · rw [e1] at hc'
      simp only [List.mem_cons] at hc'
      rcases hc' with rfl | hc'
      · exact ⟨h, hc⟩
      · exact hok c hc'
theorem labs_node {k : Int} (hk : k ≠ 14) (s : List UInt8) (n : Int) (t f : MTy) (b : Int) (l : List MTm) : castsM (.mk k s n t f b l) = castsS l := by
  rw [castsM_def]; simp [hk]
theorem EV.labels {c : List MBd} {e e' : MTm} {n m : Int} {t : MTy} (h : EV c e n e' t m) : ∀ {d : Nat}, okCtx c → TmV 14 d e → Lb n m e' ∧ m - n + 1 ≤ nodesM e ∧ shapeTy 4 t = true := by
  induction h with
  | @var c s t n hl =>
    intro d hc hv
    obtain ⟨b, h1, h2, _⟩ := look_mem hl
    exact ⟨⟨Int.le_refl _, fun v => by rw [cnt1_none]; simp [labelsM, castsM, castsS], by simp [castsM, castsS]⟩, by simp [nodesM, nodesS], by rw [← h2]; exact hc b h1⟩
  | num => intro d hc hv; exact ⟨⟨Int.le_refl _, fun v => by rw [cnt1_none]; simp [labelsM, castsM, castsS], by simp [castsM, castsS]⟩, by simp [nodesM, nodesS], rfl⟩
  | tru => intro d hc hv; exact ⟨⟨Int.le_refl _, fun v => by rw [cnt1_none]; simp [labelsM, castsM, castsS], by simp [castsM, castsS]⟩, by simp [nodesM, nodesS], rfl⟩
  | fls => intro d hc hv; exact ⟨⟨Int.le_refl _, fun v => by rw [cnt1_none]; simp [labelsM, castsM, castsS], by simp [castsM, castsS]⟩, by simp [nodesM, nodesS], rfl⟩
  | @lam c s u t b b' n m _ hsh ih =>
    intro d hc hv
    obtain ⟨d', rfl, hn, hu, hb⟩ := hv.inv_lam
    obtain ⟨i1, i2, i3⟩ := ih (hc.app hu) hb
    have e1 : castsM (tLam s u b') = castsM b' := by simp [castsM, castsS]
    exact ⟨⟨i1.le, fun v => by rw [labelsM, e1]; exact i1.cnt v, by rw [e1]; exact i1.ok⟩, by simp [nodesM, nodesS]; omega, hsh⟩
  | @app c a b a' b' a2 b2 ta tb x y n n1 n2 n3 n4 _ _ hm hq h1 h2 iha ihb =>
    intro d hc hv
    obtain ⟨d', rfl, _, ha, hb⟩ := hv.inv_n2
    obtain ⟨i1, i2, i3⟩ := iha hc ha
    obtain ⟨j1, j2, j3⟩ := ihb hc hb
    obtain ⟨m1, m2⟩ := match_cons (.inl rfl) hm i3
    obtain ⟨s1, s2⟩ := match_shape hm i3
    obtain ⟨p1, p2, p3, p4⟩ := h1.labs m1 i1.ok
    obtain ⟨q1, q2, q3, q4⟩ := h2.labs hq j1.ok
    have e1 : castsM (tN2 6 a2 b2) = castsM a2 ++ castsM b2 := by simp [castsM, castsS]
    have l1 := i1.le
    have l2 := j1.le
    refine ⟨⟨by omega, fun v => ?_, fun c hc' => ?_⟩, by simp [nodesM, nodesS]; omega, s2⟩
    · rw [labelsM, e1, List.map_append, List.count_append]
      have := p3 v; have := q3 v; have := i1.cnt v; have := j1.cnt v
      simp only [labelsM] at *
      have g1 := cnt1_app l1 l2 v
      have g2 := cnt1_app p1 q1 v
      have g3 := cnt1_app (show n ≤ n2 by omega) (show n2 ≤ n4 by omega) v
      omega
    · rw [e1, List.mem_append] at hc'
      exact hc'.elim (p4 c) (q4 c)
  | @op c k a b a' b' a2 b2 ta tb t n n1 n2 n3 n4 hk _ _ q1' q2' h1 h2 iha ihb =>
    intro d hc hv
    obtain ⟨d', rfl, _, ha, hb⟩ := hv.inv_n2
    obtain ⟨i1, i2, i3⟩ := iha hc ha
    obtain ⟨j1, j2, j3⟩ := ihb hc hb
    obtain ⟨p1, p2, p3, p4⟩ := h1.labs q1' i1.ok
    obtain ⟨q1, q2, q3, q4⟩ := h2.labs q2' j1.ok
    have e1 : castsM (tN2 k a2 b2) = castsM a2 ++ castsM b2 := by
      rw [labs_node (by omega)]; simp [castsS]
    have l1 := i1.le
    have l2 := j1.le
    refine ⟨⟨by omega, fun v => ?_, fun c hc' => ?_⟩, by simp [nodesM, nodesS]; omega, by rcases hk with ⟨_, rfl⟩ | ⟨_, rfl⟩ <;> rfl⟩
    · rw [labelsM, e1, List.map_append, List.count_append]
      have := p3 v; have := q3 v; have := i1.cnt v; have := j1.cnt v
      simp only [labelsM] at *
      have g1 := cnt1_app l1 l2 v
      have g2 := cnt1_app p1 q1 v
      have g3 := cnt1_app (show n ≤ n2 by omega) (show n2 ≤ n4 by omega) v
      omega
    · rw [e1, List.mem_append] at hc'
      exact hc'.elim (p4 c) (q4 c)
  | @ite c p a b p' a' b' p2 a2 b2 tp ta tb n n1 n2 n3 n4 n5 n6 _ _ _ q1' q2' h1 h2 h3 ihp iha ihb =>
    intro d hc hv
    obtain ⟨d', rfl, hp, ha, hb⟩ := hv.inv_if
    obtain ⟨o1, o2, o3⟩ := ihp hc hp
    obtain ⟨i1, i2, i3⟩ := iha hc ha
    obtain ⟨j1, j2, j3⟩ := ihb hc hb
    obtain ⟨w1, w2⟩ := meet_low (VTy.of i3) (VTy.of j3) q2'
    obtain ⟨r1, r2, r3, r4⟩ := h1.labs q1' o1.ok
    obtain ⟨z1, z2, z3, z4⟩ := h2.labs (prec_cons w1) i1.ok
    obtain ⟨q1, q2, q3, q4⟩ := h3.labs (prec_cons w2) j1.ok
    have e1 : castsM (tIf p2 a2 b2) = castsM p2 ++ (castsM a2 ++ castsM b2) := by simp [castsM, castsS]
    have l0 := o1.le
    have l1 := i1.le
    have l2 := j1.le
    refine ⟨⟨by omega, fun v => ?_, fun c hc' => ?_⟩, by simp [nodesM, nodesS]; omega, meet_shape 4 ta tb i3 j3 q2'⟩
    · rw [labelsM, e1, List.map_append, List.map_append, List.count_append, List.count_append]
      have := r3 v; have := z3 v; have := q3 v; have := o1.cnt v; have := i1.cnt v; have := j1.cnt v
      simp only [labelsM] at *
      have g1 := cnt1_app l0 l1 v
      have g2 := cnt1_app (show n ≤ n2 by omega) l2 v
      have g3 := cnt1_app r1 z1 v
      have g4 := cnt1_app (show n3 ≤ n5 by omega) q1 v
      have g5 := cnt1_app (show n ≤ n3 by omega) (show n3 ≤ n6 by omega) v
      omega
    · rw [e1, List.mem_append, List.mem_append] at hc'
      rcases hc' with hc' | hc' | hc'
      · exact r4 c hc'
      · exact z4 c hc'
      · exact q4 c hc'
  | @pair c a b a' b' ta tb n n1 n2 _ _ hsh iha ihb =>
    intro d hc hv
    obtain ⟨d', rfl, _, ha, hb⟩ := hv.inv_n2
    obtain ⟨i1, i2, i3⟩ := iha hc ha
    obtain ⟨j1, j2, j3⟩ := ihb hc hb
    have e1 : castsM (tN2 10 a' b') = castsM a' ++ castsM b' := by simp [castsM, castsS]
    have l1 := i1.le
    have l2 := j1.le
    refine ⟨⟨by omega, fun v => ?_, fun c hc' => ?_⟩, by simp [nodesM, nodesS]; omega, hsh⟩
    · rw [labelsM, e1, List.map_append, List.count_append]
      have := i1.cnt v; have := j1.cnt v
      simp only [labelsM] at *
      have g1 := cnt1_app l1 l2 v
      omega
    · rw [e1, List.mem_append] at hc'
      exact hc'.elim (i1.ok c) (j1.ok c)
  | @sel c k a a' a2 ta x y t n n1 n2 hk _ hm h1 ih =>
    intro d hc hv
    obtain ⟨d', rfl, _, ha⟩ := hv.inv_n1
    obtain ⟨i1, i2, i3⟩ := ih hc ha
    obtain ⟨m1, m2⟩ := match_cons (.inr rfl) hm i3
    obtain ⟨s1, s2⟩ := match_shape hm i3
    obtain ⟨p1, p2, p3, p4⟩ := h1.labs m1 i1.ok
    have e1 : castsM (tN1 k a2) = castsM a2 := by
      rw [labs_node (by omega)]; simp [castsS]
    have l1 := i1.le
    refine ⟨⟨by omega, fun v => ?_, by rw [e1]; exact p4⟩, by simp [nodesM, nodesS]; omega, by rcases hk with ⟨_, rfl⟩ | ⟨_, rfl⟩ <;> assumption⟩
    rw [labelsM, e1]
    have := p3 v; have := i1.cnt v
    simp only [labelsM] at *
    have g1 := cnt1_app l1 p1 v
    omega
  | @asc c a a' a2 ta t n n1 n2 _ q h1 ih =>
    intro d hc hv
    obtain ⟨d', rfl, hty, ha⟩ := hv.inv_as
    obtain ⟨i1, i2, i3⟩ := ih hc ha
    obtain ⟨p1, p2, p3, p4⟩ := h1.labs q i1.ok
    have l1 := i1.le
    refine ⟨⟨by omega, fun v => ?_, p4⟩, by simp [nodesM, nodesS]; omega, hty⟩
    have := p3 v; have := i1.cnt v
    have g1 := cnt1_app l1 p1 v
    omega
/-- The labels from 1 to m. -/
def segM (m : Nat) : List Int := (List.range m).map fun i : Nat => (i : Int) + 1
theorem seg_count (m : Nat) (v : Int) : (segM m).count v = cnt1 0 m v := by
  induction m with
  | zero => simp [segM, cnt1_none]
  | succ m ih =>
    have e1 : segM (m + 1) = segM m ++ [(m : Int) + 1] := by simp [segM, List.range_succ]
    rw [e1, List.count_append, ih]
    simp only [cnt1, List.count_singleton, beq_iff_eq]
    push_cast
    split <;> split <;> split <;> omega
theorem seg_sorted (m : Nat) : (segM m).Pairwise fun a b => a ≤ b := by
  rw [segM, List.pairwise_map]
  exact (List.pairwise_lt_range (n := m)).imp fun h => by omega
theorem sort_seg {l : List Int} {m : Nat} (h : ∀ v : Int, l.count v = cnt1 0 m v) : (l.mergeSort fun x y => decide (x ≤ y)) = segM m := by
  have hp : (l.mergeSort fun x y => decide (x ≤ y)).Perm (segM m) := by
    refine (List.mergeSort_perm l _).trans ?_
    rw [List.perm_iff_count]
    intro v; rw [h v, seg_count]
  have hs := List.pairwise_mergeSort (le := fun x y : Int => decide (x ≤ y)) (fun a b c h1 h2 => by simp at *; omega) (fun a b => by simp; omega) l
  refine hp.eq_of_pairwise (le := fun a b => a ≤ b) (fun a b _ _ h1 h2 => by omega) (hs.imp fun h => by simpa using h) (seg_sorted m)
end Go.Av

namespace Go.Av
attribute [-simp] Go.Av.freeStepG Go.Av.exA Go.Av.innAsH Go.Av.AV.innH Go.Av.CV.innH Go.Av.innHs Go.Av.AV.outnH Go.Av.CV.outnH
open Go
/-- The kids of two types of one kind, by two relations. -/
def subB (same other : MTy → MTy → Bool) (a b : MTy) : Bool := decide (a.kind = b.kind) && (match a.kids, b.kids with
  | [x, y], [x', y'] => if a.kind = 4 then other x' x && same y y' else if a.kind = 5 then same x x' && same y y' else true
  | _, _ => true)
mutual
def posF : Nat → MTy → MTy → Bool
  | 0, _, _ => true
  | d + 1, a, b => decide (b.kind = 1) || subB (posF d) (negF d) a b
def negF : Nat → MTy → MTy → Bool
  | 0, _, _ => true
  | d + 1, a, b => decide (a.kind = 1) || (if b.kind = 1 then subB (negF d) (posF d) a (groundT a.kind) else subB (negF d) (posF d) a b)
end
theorem sub_two {k k' : Int} {x y x' y' : MTy} (h : precTy (.mk k [x, y]) (.mk k' [x', y']) = true) (hk : k' ≠ 1) : k = k' ∧ precTy x x' = true ∧ precTy y y' = true := by
  rw [precTy_def] at h
  rcases Bool.or_eq_true_iff.1 h with h | h
  · exact absurd (of_decide_eq_true h) hk
  · obtain ⟨h1, h2⟩ := Bool.and_eq_true_iff.1 h
    simp only [MTy.kids_mk, all2, Bool.and_eq_true] at h2
    exact ⟨of_decide_eq_true h1, h2.1, h2.2.1⟩
theorem sub_kind {a b : MTy} (h : precTy a b = true) (hk : b.kind ≠ 1) : a.kind = b.kind := by
  rw [precTy_def] at h
  simp only [Bool.or_eq_true, Bool.and_eq_true, decide_eq_true_eq, hk, false_or] at h
  exact h.1
/-- What is more precise is a positive subtype; what is less precise, a negative one. -/
theorem prec_sub : ∀ (d : Nat) {a b : MTy}, VTy d a → VTy d b → (precTy a b = true → posF d a b = true) ∧ (precTy b a = true → negF d a b = true)
  | 0, a, b, ha, hb => ⟨fun _ => by simp [posF], fun _ => by simp [negF]⟩
  | d + 1, a, b, ha, hb => by
    have ih := fun {a b : MTy} (ha : VTy d a) (hb : VTy d b) => prec_sub d ha hb
    refine ⟨fun hp => ?_, fun hp => ?_⟩
    · simp only [posF, Bool.or_eq_true, decide_eq_true_eq]
      by_cases h1 : b.kind = 1
      · exact .inl h1
      refine .inr ?_
      have hk := sub_kind hp h1
      cases ha with
      | any => cases hb <;> simp at hk h1
      | int => cases hb <;> first | (simp [subB]; done) | (simp at hk)
      | bool => cases hb <;> first | (simp [subB]; done) | (simp at hk)
      | fn a1 a2 =>
        cases hb with
        | fn b1 b2 =>
          obtain ⟨_, p1, p2⟩ := sub_two hp (by simp)
          simp [subB, (ih b1 a1).2 p1, (ih a2 b2).1 p2]
        | _ => simp at hk
      | pair a1 a2 =>
        cases hb with
        | pair b1 b2 =>
          obtain ⟨_, p1, p2⟩ := sub_two hp (by simp)
          simp [subB, (ih a1 b1).1 p1, (ih a2 b2).1 p2]
        | _ => simp at hk
    · simp only [negF, Bool.or_eq_true, decide_eq_true_eq]
      by_cases h1 : a.kind = 1
      · exact .inl h1
      refine .inr ?_
      have hk := sub_kind hp h1
      have hb1 : ¬ b.kind = 1 := by rw [hk]; exact h1
      rw [if_neg hb1]
      cases ha with
      | any => simp at h1
      | int => cases hb <;> first | (simp [subB]; done) | (simp at hk)
      | bool => cases hb <;> first | (simp [subB]; done) | (simp at hk)
      | fn a1 a2 =>
        cases hb with
        | fn b1 b2 =>
          obtain ⟨_, p1, p2⟩ := sub_two hp (by simp)
          simp [subB, (ih b1 a1).1 p1, (ih a2 b2).2 p2]
        | _ => simp at hk
      | pair a1 a2 =>
        cases hb with
        | pair b1 b2 =>
          obtain ⟨_, p1, p2⟩ := sub_two hp (by simp)
          simp [subB, (ih a1 b1).2 p1, (ih a2 b2).2 p2]
        | _ => simp at hk
theorem subB_leaf {S O : MTy → MTy → Bool} {d n : Nat} {a b : MTy} (ha : VTy d a) (hb : VTy n b) (hk : a.kind = b.kind) (h4 : a.kind ≠ 4) (h5 : a.kind ≠ 5) : subB S O a b = true := by
  cases ha <;> cases hb <;> first | rfl | (simp at hk; done) | (simp at h4; done) | (simp at h5; done)
theorem subB_fn (S O : MTy → MTy → Bool) (a1 a2 b1 b2 : MTy) : subB S O (.mk 4 [a1, a2]) (.mk 4 [b1, b2]) = (O b1 a1 && S a2 b2) := by simp [subB]
theorem subB_pair (S O : MTy → MTy → Bool) (a1 a2 b1 b2 : MTy) : subB S O (.mk 5 [a1, a2]) (.mk 5 [b1, b2]) = (S a1 b1 && S a2 b2) := by simp [subB]
theorem ground_V {d : Nat} {a : MTy} (h : VTy (d + 1) a) (h1 : a.kind ≠ 1) : VTy (d + 1) (groundT a.kind) ∧ (groundT a.kind).kind ≠ 1 := by
  cases h with
  | any => exact absurd rfl h1
  | int => exact ⟨by rw [show groundT (MTy.kind intT) = intT from rfl]; exact .int d, by rw [show groundT (MTy.kind intT) = intT from rfl]; exact h1⟩
  | bool => exact ⟨by rw [show groundT (MTy.kind boolT) = boolT from rfl]; exact .bool d, by rw [show groundT (MTy.kind boolT) = boolT from rfl]; exact h1⟩
  | @fn _ a1 a2 h2 h3 => cases d with
    | zero => cases h2
    | succ d => exact ⟨VTy.fn (.any d) (.any d), h1⟩
  | @pair _ a1 a2 h2 h3 => cases d with
    | zero => cases h2
    | succ d => exact ⟨VTy.pair (.any d) (.any d), h1⟩
/-- A label cannot be blamed by some casts. -/
def safeC (l : Int) (c : MTm) : Bool := !((decide (c.label = l) && !posF 4 c.fr c.ty) || (decide (c.label = -l) && !negF 4 c.fr c.ty))
end Go.Av

namespace Go.Av
attribute [-simp] Go.Av.freeStepG Go.Av.exA Go.Av.innAsH Go.Av.AV.innH Go.Av.CV.innH Go.Av.innHs Go.Av.AV.outnH Go.Av.CV.outnH
open Go
theorem safe_trip {l : Int} {c d : MTm} (h : trip c = trip d) : safeC l c = safeC l d := by
  simp only [trip, Prod.mk.injEq] at h
  obtain ⟨h1, h2, h3⟩ := h
  simp only [safeC, h1, h2, h3]
theorem simp_safe {d : Nat} {e : MTm} (h : TmV 13 d e) {l : Int} (hs : (castsM e).all (safeC l) = true) : (castsM (simpM e)).all (safeC l) = true := by
  rw [List.all_eq_true] at hs ⊢
  intro c hc
  obtain ⟨v, hv, ht⟩ := (simp_law h).2.2.2.2 c hc
  rw [safe_trip ht]; exact hs v hv
end Go.Av

namespace Go.Av
attribute [-simp] Go.Av.freeStepG Go.Av.exA Go.Av.innAsH Go.Av.AV.innH Go.Av.CV.innH Go.Av.innHs Go.Av.AV.outnH Go.Av.CV.outnH
open Go
/-- The types of the casts with a label. -/
def castTyL (l : Int) (cs : List MTm) : List MTy := cs.flatMap fun c => if c.label = l then [c.fr, c.ty] else []
def castTypesM (e : MTm) (l : Int) : List MTy := if castValidM e = true then castTyL l (castsM e) else []
theorem tyL_len (l : Int) : ∀ cs : List MTm, (castTyL l cs).length ≤ 2 * cs.length
  | [] => by simp [castTyL]
  | c :: r => by
    have h1 := tyL_len l r
    have h2 : castTyL l (c :: r) = (if c.label = l then [c.fr, c.ty] else []) ++ castTyL l r := rfl
    rw [h2, List.length_append, List.length_cons]
    split
    · simp only [List.length_cons, List.length_nil]; omega
    · simp only [List.length_nil]; omega
theorem tyL_none (l : Int) : ∀ (cs : List MTm), (cs.map MTm.label).count l = 0 → castTyL l cs = [] ∧ ∀ c ∈ cs, c.label ≠ l
  | [], _ => ⟨rfl, by simp⟩
  | c :: r, h => by
    simp only [List.map_cons, List.count_cons, beq_iff_eq] at h
    by_cases hc : c.label = l
    · rw [if_pos hc] at h; omega
    · rw [if_neg hc] at h
      obtain ⟨h1, h2⟩ := tyL_none l r (by omega)
      refine ⟨by simp only [castTyL, List.flatMap_cons, if_neg hc, List.nil_append]; exact h1, fun d hd => ?_⟩
      simp only [List.mem_cons] at hd
      rcases hd with rfl | hd
      · exact hc
      · exact h2 d hd
theorem tyL_one (l : Int) : ∀ (cs : List MTm), (cs.map MTm.label).count l = 1 → ∃ c ∈ cs, c.label = l ∧ castTyL l cs = [c.fr, c.ty] ∧ ∀ d ∈ cs, d.label = l → d = c
  | [], h => by simp at h
  | c :: r, h => by
    simp only [List.map_cons, List.count_cons, beq_iff_eq] at h
    by_cases hc : c.label = l
    · rw [if_pos hc] at h
      obtain ⟨h1, h2⟩ := tyL_none l r (by omega)
      refine ⟨c, by simp, hc, ?_, fun d hd hl => ?_⟩
      · simp only [castTyL, List.flatMap_cons, if_pos hc]
        rw [show (r.flatMap fun c => if c.label = l then [c.fr, c.ty] else []) = [] from h1]; rfl
      · simp only [List.mem_cons] at hd
        rcases hd with rfl | hd
        · rfl
        · exact absurd hl (h2 d hd)
    · rw [if_neg hc] at h
      obtain ⟨x, h1, h2, h3, h4⟩ := tyL_one l r (by omega)
      refine ⟨x, by simp [h1], h2, ?_, fun d hd hl => ?_⟩
      · simp only [castTyL, List.flatMap_cons, if_neg hc, List.nil_append]; exact h3
      · simp only [List.mem_cons] at hd
        rcases hd with rfl | hd
        · exact absurd hl hc
        · exact h4 d hd hl
theorem safe_one {l : Int} {cs : List MTm} {c : MTm} (hl : 0 < l) (hpos : ∀ d ∈ cs, 0 < d.label) (hu : ∀ d ∈ cs, d.label = l → d = c) :
    (posF 4 c.fr c.ty = true → cs.all (safeC l) = true) ∧ (negF 4 c.fr c.ty = true → cs.all (safeC (-l)) = true) := by
  refine ⟨fun hp => ?_, fun hn => ?_⟩
  · rw [List.all_eq_true]
    intro d hd
    have h1 := hpos d hd
    simp only [safeC, Bool.not_eq_true', Bool.or_eq_false_iff, Bool.and_eq_false_iff, decide_eq_false_iff_not, Bool.not_eq_false']
    refine ⟨?_, .inl (by omega)⟩
    by_cases h2 : d.label = l
    · rw [hu d hd h2]; exact .inr hp
    · exact .inl h2
  · rw [List.all_eq_true]
    intro d hd
    have h1 := hpos d hd
    simp only [safeC, Bool.not_eq_true', Bool.or_eq_false_iff, Bool.and_eq_false_iff, decide_eq_false_iff_not, Bool.not_eq_false', Int.neg_neg]
    refine ⟨.inl (by omega), ?_⟩
    by_cases h2 : d.label = l
    · rw [hu d hd h2]; exact .inr hn
    · exact .inl h2
theorem casts_nTm (e : MTm) : ∀ c ∈ castsM e, nTm c ≤ nTm e := by
  induction e using MTm.ind with
  | h e ih =>
    intro c hc
    rw [castsM_def, List.mem_append] at hc
    rcases hc with hc | hc
    · split at hc
      · simp at hc; subst hc; exact Nat.le_refl _
      · simp at hc
    · have : ∀ l : List MTm, (∀ u ∈ l, ∀ c ∈ castsM u, nTm c ≤ nTm u) → c ∈ castsS l → nTm c ≤ nTmS l := by
        intro l
        induction l with
        | nil => intro _ h; simp [castsS] at h
        | cons u r ihr =>
          intro h hm
          simp only [castsS, List.mem_append] at hm
          simp only [nTmS]
          rcases hm with hm | hm
          · have := h u (by simp) c hm; omega
          · have := ihr (fun v hv => h v (by simp [hv])) hm; omega
      have h1 := this e.kids ih hc
      rw [nTm_def e]; omega
theorem TmV.casts {nt : Int} {d : Nat} {e : MTm} (h : TmV nt d e) : ∀ c ∈ castsM e, shapeTy 4 c.fr = true ∧ shapeTy 4 c.ty = true ∧ labM c.label = true := by
  have hnode : ∀ {k : Int} (hk : k ≠ 14) (s : List UInt8) (n : Int) (t f : MTy) (b : Int) (l : List MTm) (Q : MTm → Prop), (∀ u ∈ l, ∀ c ∈ castsM u, Q c) → ∀ c ∈ castsM (.mk k s n t f b l), Q c := by
    intro k hk s n t f b l Q h c hc
    rw [labs_node hk] at hc
    have : ∀ l : List MTm, (∀ u ∈ l, ∀ c ∈ castsM u, Q c) → ∀ c ∈ castsS l, Q c := by
      intro l
      induction l with
      | nil => intro _ c h; simp [castsS] at h
      | cons u r ih =>
        intro h c hm
        simp only [castsS, List.mem_append] at hm
        rcases hm with hm | hm
        · exact h u (by simp) c hm
        · exact ih (fun v hv => h v (by simp [hv])) c hm
    exact this l h c hc
  induction h with
  | var => exact hnode (by omega) _ _ _ _ _ _ _ (by simp)
  | num => exact hnode (by omega) _ _ _ _ _ _ _ (by simp)
  | tru => exact hnode (by omega) _ _ _ _ _ _ _ (by simp)
  | fls => exact hnode (by omega) _ _ _ _ _ _ _ (by simp)
  | lam _ _ _ _ ih => exact hnode (by omega) _ _ _ _ _ _ _ (by simpa using ih)
  | n2 _ hk _ _ iha ihb => exact hnode (by omega) _ _ _ _ _ _ _ (by simp only [List.mem_cons, List.not_mem_nil, or_false, forall_eq_or_imp, forall_eq]; exact ⟨iha, ihb⟩)
  | ite _ _ _ _ ihp iha ihb => exact hnode (by omega) _ _ _ _ _ _ _ (by simp only [List.mem_cons, List.not_mem_nil, or_false, forall_eq_or_imp, forall_eq]; exact ⟨ihp, iha, ihb⟩)
  | n1 _ hk _ ih => exact hnode (by omega) _ _ _ _ _ _ _ (by simpa using ih)
  | asc _ _ _ ih => exact hnode (by omega) _ _ _ _ _ _ _ (by simpa using ih)
  | @cast d f t l a h1 h2 h3 h4 h5 h6 ih =>
    intro c hc
    have e1 : castsM (tCast a f t l) = tCast a f t l :: castsM a := by simp [castsM, castsS]
    rw [e1] at hc
    simp only [List.mem_cons] at hc
    rcases hc with rfl | hc
    · exact ⟨by assumption, by assumption, by assumption⟩
    · exact ih c hc
theorem nodes_nTm (e : MTm) : nodesM e ≤ nTm e + 1 := by
  induction e using MTm.ind with
  | h e ih =>
    have : ∀ l : List MTm, (∀ u ∈ l, nodesM u ≤ nTm u + 1) → nodesS l ≤ nTmS l := by
      intro l
      induction l with
      | nil => intro _; simp [nodesS]
      | cons u r ihr =>
        intro h
        have h1 := h u (by simp)
        have h2 := ihr fun v hv => h v (by simp [hv])
        simp only [nodesS, nTmS]; omega
    have h1 := this e.kids ih
    rw [nTm_def e]
    cases e
    simp only [nodesM, MTm.kids_mk] at h1 ⊢
    omega
theorem seg_len (m : Nat) : (segM m).length = m := by simp [segM]
theorem seg_at {m i : Nat} (h : i < m) : (segM m)[i]? = some ((i : Int) + 1) := by simp [segM, h]
end Go.Av
