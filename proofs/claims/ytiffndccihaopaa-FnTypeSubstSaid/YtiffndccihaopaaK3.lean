/- A part of the library of this seat: a value-semantic program logic over the model, plain models, and walks of functions. -/
import Derived.Test.YtiffndccihaopaaK2
set_option linter.unusedVariables false
set_option linter.unusedSimpArgs false
namespace Go.Av
open Go
set_option linter.unusedVariables false
set_option linter.unusedSimpArgs false

/-! ### Substitution -/
mutual
def substM (x : List UInt8) (v : MTm) : MTm → MTm
  | .mk k s n t f b l => if k = 1 ∧ s = x then v else if k = 5 ∧ s = x then .mk k s n t f b l else .mk k s n t f b (substS x v l)
def substS (x : List UInt8) (v : MTm) : List MTm → List MTm
  | [] => []
  | e :: r => substM x v e :: substS x v r
end
theorem substS_map (x : List UInt8) (v : MTm) : ∀ (l : List MTm), substS x v l = l.map (substM x v)
  | [] => rfl
  | e :: r => by simp [substS, substS_map x v r]
theorem substM_def (x : List UInt8) (v e : MTm) : substM x v e = if e.kind = 1 ∧ e.name = x then v else if e.kind = 5 ∧ e.name = x then e else .mk e.kind e.name e.num e.ty e.fr e.label (e.kids.map (substM x v)) := by
  cases e; simp only [substM, substS_map]; rfl

def eqCtx (c c' : List MBd) : Prop := ∀ s, lookM c s = lookM c' s
theorem eqCtx.sub {c c' : List MBd} (h : eqCtx c c') : subCtx c c' := fun s t hs => by rw [← h s]; exact hs

theorem typeM_subst {x : List UInt8} {v : MTm} {u : MTy} {dv : Nat} (hvv : TmV 14 dv v) (hv : typeM [] v = some u) {d : Nat} {e : MTm} (he : TmV 14 d e) :
    ∀ {c : List MBd} {t : MTy}, (∀ b ∈ c, b.name ≠ x) → typeM (⟨x, u⟩ :: c) e = some t → typeM c (substM x v e) = some t := by
  have hl : ∀ {c : List MBd}, (∀ b ∈ c, b.name ≠ x) → lookM c x = none := by
    intro c
    induction c with
    | nil => intro _; rfl
    | cons b r ih => intro h; rw [lookM, ih (fun b' hb' => h b' (by simp [hb']))]; simp [h b (by simp)]
  have hsub : ∀ {c : List MBd} {s : List UInt8}, s ≠ x → lookM (⟨x, u⟩ :: c) s = lookM c s := by
    intro c s hs
    rw [lookM]
    cases lookM c s with
    | some _ => rfl
    | none => simp [Ne.symm hs]
  induction he with
  | @var d s _ hs =>
    intro c t hc ht
    rw [typeM_var] at ht
    simp only [substM, substS]
    by_cases h : s = x
    · subst h
      rw [lookM, hl hc] at ht
      simp at ht; subst ht
      simp only [and_self, if_true]
      exact typeM_weak hvv (fun s t h => by simp [lookM] at h) hv
    · simp only [h, and_false, if_false]
      rw [hsub h] at ht
      rw [typeM_var]; exact ht
  | num _ _ _ => intro c t hc ht; rw [typeM_num] at ht; simp [substM, substS, typeM_num, ht]
  | tru _ => intro c t hc ht; rw [typeM_true] at ht; simp [substM, substS, typeM_true, ht]
  | fls _ => intro c t hc ht; rw [typeM_false] at ht; simp [substM, substS, typeM_false, ht]
  | @lam d s ty b _ hs hty hb ih =>
    intro c t hc ht
    by_cases h : s = x
    · subst h
      simp only [substM, substS, and_self, if_true, show ¬ ((5 : Int) = 1 ∧ True) by omega, if_false]
      have hsame : subCtx (⟨s, u⟩ :: c) c → False ∨ True := fun _ => .inr trivial
      rw [typeM_lam] at ht ⊢
      obtain ⟨w, h1, h2⟩ := Option.bind_eq_some_iff.1 ht
      have hs' : subCtx (⟨s, u⟩ :: c ++ [⟨s, ty⟩]) (c ++ [⟨s, ty⟩]) := by
        intro s' t' h'
        rw [lookM_app] at h' ⊢
        simp only [lookM] at h' ⊢
        by_cases e : s = s'
        · simp [e] at h' ⊢; exact h'
        · simp [e] at h' ⊢
          cases hq : lookM c s' with
          | some z => rw [hq] at h'; simpa using h'
          | none => rw [hq] at h'; simp at h'
      rw [typeM_weak hb hs' h1]; exact h2
    · simp only [substM, substS, show ¬ ((5 : Int) = 1 ∧ s = x) by omega, h, and_false, if_false]
      rw [typeM_lam] at ht
      show typeM c (tLam s ty (substM x v b)) = some t
      rw [typeM_lam]
      obtain ⟨w, h1, h2⟩ := Option.bind_eq_some_iff.1 ht
      rw [List.cons_append] at h1
      have h3 := ih (c := c ++ [⟨s, ty⟩]) (fun b' hb' => by
        rcases List.mem_append.1 hb' with h' | h'
        · exact hc b' h'
        · simp at h'; subst h'; exact h) h1
      rw [h3]
      exact h2
  | @n2 d k a b _ hk _ _ ih1 ih2 =>
    intro c t hc ht
    have e1 : ¬ (k = 1 ∧ ([] : List UInt8) = x) := by omega
    have e2 : ¬ (k = 5 ∧ ([] : List UInt8) = x) := by omega
    simp only [substM, substS, if_neg e1, if_neg e2]
    show typeM c (tN2 k (substM x v a) (substM x v b)) = some t
    rw [typeM_n2 _ _ _ (by omega)] at ht ⊢
    obtain ⟨p, h1, h2⟩ := Option.bind_eq_some_iff.1 ht
    obtain ⟨q, h3, h4⟩ := Option.bind_eq_some_iff.1 h2
    rw [ih1 hc h1, Option.bind_some, ih2 hc h3, Option.bind_some, node_ctx (by omega) c (⟨x, u⟩ :: c)]; exact h4
  | @ite d a b e _ _ _ _ ih1 ih2 ih3 =>
    intro c t hc ht
    simp only [substM, substS, show ¬ ((9 : Int) = 1 ∧ ([] : List UInt8) = x) by omega, show ¬ ((9 : Int) = 5 ∧ ([] : List UInt8) = x) by omega, if_false]
    show typeM c (tIf (substM x v a) (substM x v b) (substM x v e)) = some t
    rw [typeM_if] at ht ⊢
    obtain ⟨p, h1, h2⟩ := Option.bind_eq_some_iff.1 ht
    obtain ⟨q, h3, h4⟩ := Option.bind_eq_some_iff.1 h2
    obtain ⟨w, h5, h6⟩ := Option.bind_eq_some_iff.1 h4
    rw [ih1 hc h1, Option.bind_some, ih2 hc h3, Option.bind_some, ih3 hc h5, Option.bind_some]; exact h6
  | @n1 d k a _ hk _ ih =>
    intro c t hc ht
    have e1 : ¬ (k = 1 ∧ ([] : List UInt8) = x) := by omega
    have e2 : ¬ (k = 5 ∧ ([] : List UInt8) = x) := by omega
    simp only [substM, substS, if_neg e1, if_neg e2]
    show typeM c (tN1 k (substM x v a)) = some t
    rw [typeM_n1 _ _ hk] at ht ⊢
    obtain ⟨p, h1, h2⟩ := Option.bind_eq_some_iff.1 ht
    rw [ih hc h1, Option.bind_some, node_ctx (by omega) c (⟨x, u⟩ :: c)]; exact h2
  | @asc d ty a _ _ _ ih =>
    intro c t hc ht
    simp only [substM, substS, show ¬ ((13 : Int) = 1 ∧ ([] : List UInt8) = x) by omega, show ¬ ((13 : Int) = 5 ∧ ([] : List UInt8) = x) by omega, if_false]
    show typeM c (tAs (substM x v a) ty) = some t
    rw [typeM_as] at ht ⊢
    obtain ⟨p, h1, h2⟩ := Option.bind_eq_some_iff.1 ht
    rw [ih hc h1]; exact h2
  | cast h => exact absurd rfl h

/-! ### Precision -/
mutual
def precTy : MTy → MTy → Bool
  | .mk k l, .mk k' l' => decide (k' = 1) || (decide (k = k') && precTyS l l')
def precTyS : List MTy → List MTy → Bool
  | [], [] => true
  | x :: xs, y :: ys => precTy x y && precTyS xs ys
  | _, _ => false
end
theorem precTyS_all2 : ∀ (l m : List MTy), precTyS l m = all2 precTy l m
  | [], [] => rfl
  | x :: xs, y :: ys => by simp [precTyS, all2, precTyS_all2 xs ys]
  | [], _ :: _ => rfl
  | _ :: _, [] => rfl
theorem precTy_def (a b : MTy) : precTy a b = (decide (b.kind = 1) || (decide (a.kind = b.kind) && all2 precTy a.kids b.kids)) := by
  cases a; cases b; simp only [precTy, precTyS_all2]; rfl

def hasTyM (k : Int) : Bool := decide (k = 5) || decide (k = 13)
mutual
/-- Two terms differ only in types, each pair of which is as asked. -/
def alikeM (q : MTy → MTy → Bool) : MTm → MTm → Bool
  | .mk k s n t _ _ l, .mk k' s' n' t' _ _ l' => !(hasTyM k && decide (k = k') && !q t t') && (decide (k = k') && (decide (s = s') && (decide (n = n') && alikeS q l l')))
def alikeS (q : MTy → MTy → Bool) : List MTm → List MTm → Bool
  | [], [] => true
  | x :: xs, y :: ys => alikeM q x y && alikeS q xs ys
  | _, _ => false
end
theorem alikeS_all2 (q : MTy → MTy → Bool) : ∀ (l m : List MTm), alikeS q l m = all2 (alikeM q) l m
  | [], [] => rfl
  | x :: xs, y :: ys => by simp [alikeS, all2, alikeS_all2 q xs ys]
  | [], _ :: _ => rfl
  | _ :: _, [] => rfl
theorem alikeM_def (q : MTy → MTy → Bool) (a b : MTm) : alikeM q a b = (!(hasTyM a.kind && decide (a.kind = b.kind) && !q a.ty b.ty) && (decide (a.kind = b.kind) && (decide (a.name = b.name) && (decide (a.num = b.num) && all2 (alikeM q) a.kids b.kids)))) := by
  cases a; cases b; simp only [alikeM, alikeS_all2]; rfl

theorem all2_iff {α β : Type} {q : α → β → Bool} : ∀ {xs : List α} {ys : List β}, all2 q xs ys = true ↔ xs.length = ys.length ∧ ∀ (i : Nat) x y, xs[i]? = some x → ys[i]? = some y → q x y = true
  | [], [] => by simp [all2]
  | [], y :: ys => by simp [all2]
  | x :: xs, [] => by simp [all2]
  | x :: xs, y :: ys => by
    simp only [all2, Bool.and_eq_true, all2_iff (xs := xs) (ys := ys), List.length_cons, Nat.add_right_cancel_iff]
    constructor
    · rintro ⟨h1, h2, h3⟩
      refine ⟨h2, fun i u v hu hv => ?_⟩
      cases i with
      | zero => simp at hu hv; subst hu; subst hv; exact h1
      | succ i => simp at hu hv; exact h3 i u v hu hv
    · rintro ⟨h1, h2⟩
      exact ⟨h2 0 x y rfl rfl, h1, fun i u v hu hv => h2 (i + 1) u v (by simpa using hu) (by simpa using hv)⟩

theorem all2_mono3 {α : Type} {q p : α → α → Bool} {xs ys xs' ys' : List α} (h : all2 q xs ys = true) (h1 : all2 p xs xs' = true) (h2 : all2 p ys ys' = true)
    (hs : ∀ x ∈ xs, ∀ y ∈ ys, ∀ x' ∈ xs', ∀ y' ∈ ys', q x y = true → p x x' = true → p y y' = true → q x' y' = true) : all2 q xs' ys' = true := by
  rw [all2_iff] at *
  refine ⟨by omega, fun i x' y' hx' hy' => ?_⟩
  have hi : i < xs.length := by have := (List.getElem?_eq_some_iff.1 hx').1; omega
  obtain ⟨x, hx⟩ : ∃ x, xs[i]? = some x := ⟨_, List.getElem?_eq_getElem hi⟩
  obtain ⟨y, hy⟩ : ∃ y, ys[i]? = some y := ⟨_, List.getElem?_eq_getElem (by omega)⟩
  exact hs x (List.mem_of_getElem? hx) y (List.mem_of_getElem? hy) x' (List.mem_of_getElem? hx') y' (List.mem_of_getElem? hy') (h.2 i x y hx hy) (h1.2 i x x' hx hx') (h2.2 i y y' hy hy')

theorem prec_two {k : Int} (hk : k ≠ 1) {a b a' b' : MTy} : precTy (.mk k [a, b]) (.mk k [a', b']) = (precTy a a' && precTy b b') := by
  rw [precTy_def]; simp [hk, all2]
theorem cons_two {k : Int} (hk : k ≠ 1) {a b a' b' : MTy} : consTy (.mk k [a, b]) (.mk k [a', b']) = (consTy a a' && consTy b b') := by
  rw [consTy_def]; simp [hk, all2]
theorem cons_any1 (b : MTy) : consTy anyT b = true := by rw [consTy_def]; simp
theorem cons_any2 (a : MTy) : consTy a anyT = true := by rw [consTy_def]; simp
theorem prec_any2 (a : MTy) : precTy a anyT = true := by rw [precTy_def]; simp

theorem prec_kind {a b : MTy} (h : precTy a b = true) (hb : b.kind ≠ 1) : a.kind = b.kind ∧ all2 precTy a.kids b.kids = true := by
  rw [precTy_def] at h; simpa [hb] using h

theorem prec_refl : ∀ (a : MTy), precTy a a = true := by
  intro a
  induction a using MTy.ind with
  | h a ih =>
    rw [precTy_def]
    simp only [decide_true, Bool.true_and, Bool.or_eq_true]
    right
    rw [all2_iff]
    refine ⟨rfl, fun i x y hx hy => ?_⟩
    rw [hx] at hy; simp at hy; subst hy
    exact ih x (List.mem_of_getElem? hx)

theorem prec_trans : ∀ (a b c : MTy), precTy a b = true → precTy b c = true → precTy a c = true := by
  intro a
  induction a using MTy.ind with
  | h a ih =>
    intro b c h1 h2
    by_cases hc : c.kind = 1
    · rw [precTy_def]; simp [hc]
    · obtain ⟨h3, h4⟩ := prec_kind h2 hc
      obtain ⟨h5, h6⟩ := prec_kind h1 (by omega)
      rw [precTy_def]
      simp only [hc, decide_false, Bool.false_or, Bool.and_eq_true, decide_eq_true_eq]
      refine ⟨by omega, ?_⟩
      rw [all2_iff] at *
      refine ⟨by omega, fun i x z hx hz => ?_⟩
      obtain ⟨y, hy⟩ : ∃ y, b.kids[i]? = some y := ⟨_, List.getElem?_eq_getElem (by have := (List.getElem?_eq_some_iff.1 hx).1; omega)⟩
      exact ih x (List.mem_of_getElem? hx) y z (h6.2 i x y hx hy) (h4.2 i y z hy hz)

theorem cons_mono : ∀ (a b a' b' : MTy), consTy a b = true → precTy a a' = true → precTy b b' = true → consTy a' b' = true := by
  intro a
  induction a using MTy.ind with
  | h a ih =>
    intro b a' b' h h1 h2
    rw [consTy_def]
    by_cases ha : a'.kind = 1
    · simp [ha]
    by_cases hb : b'.kind = 1
    · simp [hb]
    obtain ⟨h3, h4⟩ := prec_kind h1 ha
    obtain ⟨h5, h6⟩ := prec_kind h2 hb
    obtain ⟨h7, h8⟩ := consTy_kind h (by omega) (by omega)
    simp only [ha, hb, decide_false, Bool.false_or, Bool.and_eq_true, decide_eq_true_eq]
    exact ⟨by omega, all2_mono3 h8 h4 h6 fun x hx y _ x' _ y' _ => ih x hx y x' y'⟩

/-- A less precise type is no deeper. -/
theorem prec_shape : ∀ {d : Nat} {x : MTy}, VTy d x → ∀ {n : Nat} {y : MTy}, VTy n y → precTy x y = true → VTy d y := by
  intro d x hx
  induction hx with
  | any d => intro n y hy h; cases hy <;> simp [precTy, precTyS] at h <;> exact .any d
  | int d => intro n y hy h; cases hy <;> simp [precTy, precTyS] at h <;> first | exact .any d | exact .int d
  | bool d => intro n y hy h; cases hy <;> simp [precTy, precTyS] at h <;> first | exact .any d | exact .bool d
  | @fn d a b _ _ ih1 ih2 =>
    intro n y hy h
    cases hy with
    | any => exact .any d
    | int => simp [precTy, precTyS] at h
    | bool => simp [precTy, precTyS] at h
    | fn h1 h2 => rw [prec_two (by omega)] at h; simp at h; exact .fn (ih1 h1 h.1) (ih2 h2 h.2)
    | pair h1 h2 => simp [precTy, precTyS] at h
  | @pair d a b _ _ ih1 ih2 =>
    intro n y hy h
    cases hy with
    | any => exact .any d
    | int => simp [precTy, precTyS] at h
    | bool => simp [precTy, precTyS] at h
    | fn h1 h2 => simp [precTy, precTyS] at h
    | pair h1 h2 => rw [prec_two (by omega)] at h; simp at h; exact .pair (ih1 h1 h.1) (ih2 h2 h.2)

theorem meet_two {k : Int} (hk : k ≠ 1) {a b a' b' : MTy} : meetTy (.mk k [a, b]) (.mk k [a', b']) = .mk k [meetTy a a', meetTy b b'] := by
  rw [meetTy_def]; simp [hk]

/-- The meet lies below both, and above what lies below both. -/
theorem meet_low : ∀ {d : Nat} {a : MTy}, VTy d a → ∀ {n : Nat} {b : MTy}, VTy n b → consTy a b = true → precTy (meetTy a b) a = true ∧ precTy (meetTy a b) b = true := by
  intro d a ha
  induction ha with
  | any d => intro n b hb h; rw [show meetTy anyT b = b by rw [meetTy_def]; simp]; exact ⟨prec_any2 b, prec_refl b⟩
  | int d => intro n b hb h; cases hb <;> simp [consTy, consTyS] at h <;> simp [meetTy, meetTyS, precTy, precTyS]
  | bool d => intro n b hb h; cases hb <;> simp [consTy, consTyS] at h <;> simp [meetTy, meetTyS, precTy, precTyS]
  | @fn d x y _ _ ih1 ih2 =>
    intro n b hb h
    cases hb with
    | any => rw [show meetTy (.mk 4 [x, y]) anyT = .mk 4 [x, y] by rw [meetTy_def]; simp]; exact ⟨prec_refl _, prec_any2 _⟩
    | int => simp [consTy, consTyS] at h
    | bool => simp [consTy, consTyS] at h
    | fn h1 h2 => rw [cons_two (by omega)] at h; simp at h; rw [meet_two (by omega), prec_two (by omega), prec_two (by omega)]; simp [ih1 h1 h.1, ih2 h2 h.2]
    | pair h1 h2 => simp [consTy, consTyS] at h
  | @pair d x y _ _ ih1 ih2 =>
    intro n b hb h
    cases hb with
    | any => rw [show meetTy (.mk 5 [x, y]) anyT = .mk 5 [x, y] by rw [meetTy_def]; simp]; exact ⟨prec_refl _, prec_any2 _⟩
    | int => simp [consTy, consTyS] at h
    | bool => simp [consTy, consTyS] at h
    | fn h1 h2 => simp [consTy, consTyS] at h
    | pair h1 h2 => rw [cons_two (by omega)] at h; simp at h; rw [meet_two (by omega), prec_two (by omega), prec_two (by omega)]; simp [ih1 h1 h.1, ih2 h2 h.2]

theorem meet_great : ∀ {d : Nat} {a : MTy}, VTy d a → ∀ {n : Nat} {b : MTy}, VTy n b → ∀ {c : MTy}, precTy c a = true → precTy c b = true → consTy a b = true ∧ precTy c (meetTy a b) = true := by
  intro d a ha
  induction ha with
  | any d => intro n b hb c h1 h2; rw [show meetTy anyT b = b by rw [meetTy_def]; simp]; exact ⟨cons_any1 b, h2⟩
  | int d =>
    intro n b hb c h1 h2
    obtain ⟨k, l⟩ := c
    obtain ⟨hk, hl⟩ := prec_kind h1 (by simp)
    simp only [MTy.kind_mk, MTy.kids_mk] at hk hl
    subst hk
    cases l with
    | cons _ _ => simp [all2] at hl
    | nil => cases hb <;> simp [precTy, precTyS] at h2 <;> simp [consTy, consTyS, meetTy, meetTyS, precTy, precTyS]
  | bool d =>
    intro n b hb c h1 h2
    obtain ⟨k, l⟩ := c
    obtain ⟨hk, hl⟩ := prec_kind h1 (by simp)
    simp only [MTy.kind_mk, MTy.kids_mk] at hk hl
    subst hk
    cases l with
    | cons _ _ => simp [all2] at hl
    | nil => cases hb <;> simp [precTy, precTyS] at h2 <;> simp [consTy, consTyS, meetTy, meetTyS, precTy, precTyS]
  | @fn d x y _ _ ih1 ih2 =>
    intro n b hb c h1 h2
    obtain ⟨k, l⟩ := c
    obtain ⟨hk, hl⟩ := prec_kind h1 (by simp)
    simp at hk; subst hk
    cases hb with
    | any => rw [show meetTy (.mk 4 [x, y]) anyT = .mk 4 [x, y] by rw [meetTy_def]; simp]; exact ⟨cons_any2 _, h1⟩
    | int => simp [precTy, precTyS] at h2
    | bool => simp [precTy, precTyS] at h2
    | fn g1 g2 =>
      match l, hl with
      | [u, v], _ =>
        rw [prec_two (by omega)] at h1 h2; simp at h1 h2
        rw [meet_two (by omega), prec_two (by omega), cons_two (by omega)]
        simp [ih1 g1 h1.1 h2.1, ih2 g2 h1.2 h2.2]
      | [], h => simp [all2] at h
      | [_], h => simp [all2] at h
      | _ :: _ :: _ :: _, h => simp [all2] at h
    | pair g1 g2 => simp [precTy, precTyS] at h2
  | @pair d x y _ _ ih1 ih2 =>
    intro n b hb c h1 h2
    obtain ⟨k, l⟩ := c
    obtain ⟨hk, hl⟩ := prec_kind h1 (by simp)
    simp at hk; subst hk
    cases hb with
    | any => rw [show meetTy (.mk 5 [x, y]) anyT = .mk 5 [x, y] by rw [meetTy_def]; simp]; exact ⟨cons_any2 _, h1⟩
    | int => simp [precTy, precTyS] at h2
    | bool => simp [precTy, precTyS] at h2
    | fn g1 g2 => simp [precTy, precTyS] at h2
    | pair g1 g2 =>
      match l, hl with
      | [u, v], _ =>
        rw [prec_two (by omega)] at h1 h2; simp at h1 h2
        rw [meet_two (by omega), prec_two (by omega), cons_two (by omega)]
        simp [ih1 g1 h1.1 h2.1, ih2 g2 h1.2 h2.2]
      | [], h => simp [all2] at h
      | [_], h => simp [all2] at h
      | _ :: _ :: _ :: _, h => simp [all2] at h

theorem meet_mono {a b a' b' : MTy} {n m n' m' : Nat} (ha : VTy n a) (hb : VTy m b) (ha' : VTy n' a') (hb' : VTy m' b') (h : consTy a b = true) (h1 : precTy a a' = true) (h2 : precTy b b' = true) :
    precTy (meetTy a b) (meetTy a' b') = true := by
  obtain ⟨h3, h4⟩ := meet_low ha hb h
  exact (meet_great ha' hb' (prec_trans _ _ _ h3 h1) (prec_trans _ _ _ h4 h2)).2

theorem match_mono {k : Int} (hk : k = 4 ∨ k = 5) {n m : Nat} {a a' x y : MTy} (ha : VTy n a) (ha' : VTy m a') (h : precTy a a' = true) (hm : matchM k a = some (x, y)) :
    ∃ x' y', matchM k a' = some (x', y') ∧ precTy x x' = true ∧ precTy y y' = true := by
  have hk1 : k ≠ 1 := by omega
  cases ha' with
  | any => exact ⟨anyT, anyT, by simp [matchM], prec_any2 _, prec_any2 _⟩
  | int => 
    cases ha <;> simp [precTy, precTyS] at h
    simp [matchM, show ¬ (2 : Int) = k by omega] at hm
  | bool =>
    cases ha <;> simp [precTy, precTyS] at h
    simp [matchM, show ¬ (3 : Int) = k by omega] at hm
  | @fn _ p q _ _ =>
    cases ha <;> simp [precTy, precTyS] at h
    rename_i p' q' _ _
    by_cases e : (4 : Int) = k
    · simp [matchM, e] at hm ⊢
      simp [hk1] at hm ⊢
      obtain ⟨rfl, rfl⟩ := hm
      exact ⟨_, _, ⟨rfl, rfl⟩, h⟩
    · simp [matchM, e] at hm
  | @pair _ p q _ _ =>
    cases ha <;> simp [precTy, precTyS] at h
    rename_i p' q' _ _
    by_cases e : (5 : Int) = k
    · simp [matchM, e] at hm ⊢
      simp [hk1] at hm ⊢
      obtain ⟨rfl, rfl⟩ := hm
      exact ⟨_, _, ⟨rfl, rfl⟩, h⟩
    · simp [matchM, e] at hm

/-- Contexts of one length, the names the same, the types of the first at least as precise. -/
def precCtx : List MBd → List MBd → Prop
  | [], [] => True
  | b :: r, b' :: r' => b.name = b'.name ∧ precTy b.ty b'.ty = true ∧ precCtx r r'
  | _, _ => False
theorem precCtx.app : ∀ {c c' : List MBd} (h : precCtx c c') {s : List UInt8} {t t' : MTy} (ht : precTy t t' = true), precCtx (c ++ [⟨s, t⟩]) (c' ++ [⟨s, t'⟩])
  | [], [], _, s, t, t', ht => ⟨rfl, ht, trivial⟩
  | b :: r, b' :: r', h, s, t, t', ht => ⟨h.1, h.2.1, precCtx.app h.2.2 ht⟩
  | [], _ :: _, h, _, _, _, _ => h.elim
  | _ :: _, [], h, _, _, _, _ => h.elim
theorem precCtx.look : ∀ {c c' : List MBd}, precCtx c c' → ∀ {s : List UInt8}, (lookM c s = none → lookM c' s = none) ∧ ∀ {t : MTy}, lookM c s = some t → ∃ t', lookM c' s = some t' ∧ precTy t t' = true
  | [], [], _, s => by simp [lookM]
  | b :: r, b' :: r', h, s => by
    obtain ⟨h1, h2, h3⟩ := h
    obtain ⟨h4, h5⟩ := precCtx.look h3 (s := s)
    simp only [lookM]
    cases hr : lookM r s with
    | some u =>
      obtain ⟨u', h6, h7⟩ := h5 hr
      rw [h6]
      exact ⟨fun h => by simp at h, fun {t} h => by simp at h; subst h; exact ⟨u', rfl, h7⟩⟩
    | none =>
      rw [h4 hr]
      simp only [h1]
      by_cases e : b'.name = s
      · simp only [e, if_true]
        exact ⟨fun h => by simp at h, fun {t} h => by simp at h; subst h; exact ⟨_, rfl, h2⟩⟩
      · simp [e]
  | [], _ :: _, h, _ => h.elim
  | _ :: _, [], h, _ => h.elim

theorem prec_int {a : MTy} {b : MTy} (h : precTy a b = true) (hc : consTy a intT = true) : consTy b intT = true := cons_mono _ _ _ _ hc h (prec_refl _)
theorem prec_bool {a : MTy} {b : MTy} (h : precTy a b = true) (hc : consTy a boolT = true) : consTy b boolT = true := cons_mono _ _ _ _ hc h (prec_refl _)

theorem okCtx.app {c : List MBd} (h : okCtx c) {s : List UInt8} {t : MTy} (ht : shapeTy 4 t = true) : okCtx (c ++ [⟨s, t⟩]) := by
  intro b hb
  rcases List.mem_append.1 hb with h' | h'
  · exact h b h'
  · simp at h'; subst h'; exact ht
theorem TmV.typed {d : Nat} {nt : Int} {e : MTm} {c : List MBd} {t : MTy} (h : TmV nt d e) (hc : okCtx c) (ht : typeM c e = some t) : VTy 4 t := VTy.of (typeM_shape e d nt c t h.shape hc ht)

theorem twoM_some {k : Int} {a b t : MTy} (h : twoM k a b = some t) : t = .mk k [a, b] ∧ shapeTy 4 (.mk k [a, b]) = true := by
  simp only [twoM] at h
  split at h
  · simp at h; exact ⟨h.symm, by assumption⟩
  · cases h
theorem twoM_mono {k : Int} (hk : k = 4 ∨ k = 5) {a b a' b' t : MTy} {n m : Nat} (ha : VTy n a') (hb : VTy m b') (h1 : precTy a a' = true) (h2 : precTy b b' = true) (h : twoM k a b = some t) : ∃ u, twoM k a' b' = some u ∧ precTy t u = true := by
  obtain ⟨rfl, hs⟩ := twoM_some h
  have hv := VTy.of hs
  have hp : precTy (.mk k [a, b]) (.mk k [a', b']) = true := by rw [prec_two (by omega)]; simp [h1, h2]
  have hsh : shapeTy 4 (.mk k [a', b']) = true := by
    rcases hk with rfl | rfl
    · cases hv with | fn g1 g2 => exact (VTy.fn (prec_shape g1 ha h1) (prec_shape g2 hb h2)).shape
    · cases hv with | pair g1 g2 => exact (VTy.pair (prec_shape g1 ha h1) (prec_shape g2 hb h2)).shape
  exact ⟨.mk k [a', b'], by simp [twoM, hsh], hp⟩

/-- Two valid terms that differ only in types, each pair of which is as asked. -/
inductive AlV (q : MTy → MTy → Bool) : MTm → MTm → Prop
  | var (s : List UInt8) : AlV q (tVar s) (tVar s)
  | num (n : Int) : AlV q (tNum n) (tNum n)
  | tru : AlV q tTrue tTrue
  | fls : AlV q tFalse tFalse
  | lam {s : List UInt8} {t t' : MTy} {b b' : MTm} : q t t' = true → AlV q b b' → AlV q (tLam s t b) (tLam s t' b')
  | n2 {k : Int} {a b a' b' : MTm} : AlV q a a' → AlV q b b' → AlV q (tN2 k a b) (tN2 k a' b')
  | ite {a b c a' b' c' : MTm} : AlV q a a' → AlV q b b' → AlV q c c' → AlV q (tIf a b c) (tIf a' b' c')
  | n1 {k : Int} {a a' : MTm} : AlV q a a' → AlV q (tN1 k a) (tN1 k a')
  | asc {t t' : MTy} {a a' : MTm} : q t t' = true → AlV q a a' → AlV q (tAs a t) (tAs a' t')

theorem AlV.of {q : MTy → MTy → Bool} {d : Nat} {a : MTm} (ha : TmV 14 d a) : ∀ {n : Nat} {b : MTm}, TmV 14 n b → alikeM q a b = true → AlV q a b := by
  induction ha with
  | var _ _ =>
    intro n b hb h
    cases hb <;> simp only [alikeM, alikeS, Bool.and_eq_true, Bool.not_eq_true', decide_eq_true_eq] at h <;> (try omega)
    obtain ⟨_, _, rfl, _⟩ := h; exact .var _
  | num _ _ _ =>
    intro n b hb h
    cases hb <;> simp only [alikeM, alikeS, Bool.and_eq_true, Bool.not_eq_true', decide_eq_true_eq] at h <;> (try omega)
    obtain ⟨_, _, _, rfl, _⟩ := h; exact .num _
  | tru _ =>
    intro n b hb h
    cases hb <;> simp only [alikeM, alikeS, Bool.and_eq_true, Bool.not_eq_true', decide_eq_true_eq] at h <;> (try omega)
    exact .tru
  | fls _ =>
    intro n b hb h
    cases hb <;> simp only [alikeM, alikeS, Bool.and_eq_true, Bool.not_eq_true', decide_eq_true_eq] at h <;> (try omega)
    exact .fls
  | lam _ _ _ _ ih =>
    intro n b hb h
    cases hb <;> simp only [alikeM, alikeS, Bool.and_eq_true, Bool.not_eq_true', decide_eq_true_eq] at h <;> (try omega)
    rename_i hb'
    obtain ⟨h1, _, rfl, _, h2, _⟩ := h
    refine .lam ?_ (ih hb' h2)
    simpa [hasTyM] using h1
  | n2 _ hk _ _ ih1 ih2 =>
    intro n b hb h
    cases hb <;> simp only [alikeM, alikeS, Bool.and_eq_true, Bool.not_eq_true', decide_eq_true_eq] at h <;> (try omega)
    rename_i h1 h2
    obtain ⟨_, rfl, _, _, h3, h4, _⟩ := h
    exact .n2 (ih1 h1 h3) (ih2 h2 h4)
  | ite _ _ _ _ ih1 ih2 ih3 =>
    intro n b hb h
    cases hb <;> simp only [alikeM, alikeS, Bool.and_eq_true, Bool.not_eq_true', decide_eq_true_eq] at h <;> (try omega)
    rename_i h1 h2 h3
    obtain ⟨_, _, _, _, h4, h5, h6, _⟩ := h
    exact .ite (ih1 h1 h4) (ih2 h2 h5) (ih3 h3 h6)
  | n1 _ hk _ ih =>
    intro n b hb h
    cases hb <;> simp only [alikeM, alikeS, Bool.and_eq_true, Bool.not_eq_true', decide_eq_true_eq] at h <;> (try omega)
    rename_i h1
    obtain ⟨_, rfl, _, _, h3, _⟩ := h
    exact .n1 (ih h1 h3)
  | asc _ _ _ ih =>
    intro n b hb h
    cases hb <;> simp only [alikeM, alikeS, Bool.and_eq_true, Bool.not_eq_true', decide_eq_true_eq] at h <;> (try omega)
    rename_i h1
    obtain ⟨h3, _, _, _, h4, _⟩ := h
    refine .asc ?_ (ih h1 h4)
    simpa [hasTyM] using h3
  | cast h => exact absurd rfl h

/-- Typing is monotonic. -/
theorem typeM_gradual {a b : MTm} (h : AlV precTy a b) : ∀ {d n : Nat}, TmV 14 d a → TmV 14 n b → ∀ {c c' : List MBd}, okCtx c → okCtx c' → precCtx c c' →
    ∀ {t : MTy}, typeM c a = some t → ∃ u, typeM c' b = some u ∧ precTy t u = true := by
  induction h with
  | var _ =>
    intro d n ha hb c c' hc hc' hcc t ht
    rw [typeM_var] at ht ⊢
    exact hcc.look.2 ht
  | num _ =>
    intro d n ha hb c c' hc hc' hcc t ht
    rw [typeM_num] at ht ⊢
    cases ht; exact ⟨_, rfl, prec_refl _⟩
  | tru =>
    intro d n ha hb c c' hc hc' hcc t ht
    rw [typeM_true] at ht ⊢
    cases ht; exact ⟨_, rfl, prec_refl _⟩
  | fls =>
    intro d n ha hb c c' hc hc' hcc t ht
    rw [typeM_false] at ht ⊢
    cases ht; exact ⟨_, rfl, prec_refl _⟩
  | lam h1 _ ih =>
    intro d n ha hb c c' hc hc' hcc t ht
    obtain ⟨_, _, _, hty, hb1⟩ := ha.inv_lam
    obtain ⟨_, _, _, hty', hb2⟩ := hb.inv_lam
    rw [typeM_lam] at ht
    obtain ⟨u, h4, h5⟩ := Option.bind_eq_some_iff.1 ht
    obtain ⟨u', h6, h7⟩ := ih hb1 hb2 (hc.app hty) (hc'.app hty') (hcc.app h1) h4
    rw [typeM_lam, h6, Option.bind_some]
    exact twoM_mono (.inl rfl) (VTy.of hty') (hb2.typed (hc'.app hty') h6) h1 h7 h5
  | @n2 k _ _ _ _ _ _ ih1 ih2 =>
    intro d n ha hb c c' hc hc' hcc t ht
    obtain ⟨_, _, hk, hv1, hv2⟩ := ha.inv_n2
    obtain ⟨_, _, hk', hw1, hw2⟩ := hb.inv_n2
    rw [typeM_n2 _ _ _ (by omega)] at ht
    obtain ⟨p, g1, ht⟩ := Option.bind_eq_some_iff.1 ht
    obtain ⟨q, g2, ht⟩ := Option.bind_eq_some_iff.1 ht
    obtain ⟨p', g3, g4⟩ := ih1 hv1 hw1 hc hc' hcc g1
    obtain ⟨q', g5, g6⟩ := ih2 hv2 hw2 hc hc' hcc g2
    rw [typeM_n2 _ _ _ (by omega), g3, Option.bind_some, g5, Option.bind_some]
    have v1 := hv1.typed hc g1
    have v2 := hv2.typed hc g2
    have w1 := hw1.typed hc' g3
    have w2 := hw2.typed hc' g5
    rcases hk with rfl | rfl | rfl | rfl
    · simp only [nodeTy, show ¬ (6 : Int) = 1 by omega, show ¬ (6 : Int) = 2 by omega, show ¬ ((6 : Int) = 3 ∨ (6 : Int) = 4) by omega, if_false, if_true] at ht ⊢
      cases hm : matchM 4 p with
      | none => simp [hm] at ht
      | some xy =>
        obtain ⟨x, y⟩ := xy
        simp only [hm] at ht
        split at ht
        · rename_i hcon
          cases ht
          obtain ⟨x', y', m1, m2, m3⟩ := match_mono (.inl rfl) v1 w1 g4 hm
          rw [m1]
          simp only [cons_mono _ _ _ _ hcon g6 m2, if_true]
          exact ⟨y', rfl, m3⟩
        · cases ht
    · simp only [nodeTy, show ¬ (7 : Int) = 1 by omega, show ¬ (7 : Int) = 2 by omega, show ¬ ((7 : Int) = 3 ∨ (7 : Int) = 4) by omega, show ¬ (7 : Int) = 6 by omega, if_false, if_true] at ht ⊢
      split at ht
      · rename_i hcon
        cases ht
        rw [if_pos ⟨prec_int g4 hcon.1, prec_int g6 hcon.2⟩]
        exact ⟨_, rfl, prec_refl _⟩
      · cases ht
    · simp only [nodeTy, show ¬ (8 : Int) = 1 by omega, show ¬ (8 : Int) = 2 by omega, show ¬ ((8 : Int) = 3 ∨ (8 : Int) = 4) by omega, show ¬ (8 : Int) = 6 by omega, show ¬ (8 : Int) = 7 by omega, if_false, if_true] at ht ⊢
      split at ht
      · rename_i hcon
        cases ht
        rw [if_pos ⟨prec_int g4 hcon.1, prec_int g6 hcon.2⟩]
        exact ⟨_, rfl, prec_refl _⟩
      · cases ht
    · simp only [nodeTy, show ¬ (10 : Int) = 1 by omega, show ¬ (10 : Int) = 2 by omega, show ¬ ((10 : Int) = 3 ∨ (10 : Int) = 4) by omega, show ¬ (10 : Int) = 6 by omega, show ¬ (10 : Int) = 7 by omega, show ¬ (10 : Int) = 8 by omega, if_false, if_true] at ht ⊢
      exact twoM_mono (.inr rfl) w1 w2 g4 g6 ht
  | ite _ _ _ ih1 ih2 ih3 =>
    intro d n ha hb c c' hc hc' hcc t ht
    obtain ⟨_, _, hv1, hv2, hv3⟩ := ha.inv_if
    obtain ⟨_, _, hw1, hw2, hw3⟩ := hb.inv_if
    rw [typeM_if] at ht
    obtain ⟨p, g1, ht⟩ := Option.bind_eq_some_iff.1 ht
    obtain ⟨q, g2, ht⟩ := Option.bind_eq_some_iff.1 ht
    obtain ⟨r, g3, ht⟩ := Option.bind_eq_some_iff.1 ht
    obtain ⟨p', k1, k2⟩ := ih1 hv1 hw1 hc hc' hcc g1
    obtain ⟨q', k3, k4⟩ := ih2 hv2 hw2 hc hc' hcc g2
    obtain ⟨r', k5, k6⟩ := ih3 hv3 hw3 hc hc' hcc g3
    rw [typeM_if, k1, Option.bind_some, k3, Option.bind_some, k5, Option.bind_some]
    split at ht
    · rename_i hcon
      cases ht
      rw [if_pos ⟨cons_mono _ _ _ _ hcon.1 k4 k6, prec_bool k2 hcon.2⟩]
      exact ⟨_, rfl, meet_mono (hv2.typed hc g2) (hv3.typed hc g3) (hw2.typed hc' k3) (hw3.typed hc' k5) hcon.1 k4 k6⟩
    · cases ht
  | n1 _ ih =>
    intro d n ha hb c c' hc hc' hcc t ht
    obtain ⟨_, _, hk, hv1⟩ := ha.inv_n1
    obtain ⟨_, _, hk', hw1⟩ := hb.inv_n1
    rw [typeM_n1 _ _ hk] at ht
    obtain ⟨p, g1, ht⟩ := Option.bind_eq_some_iff.1 ht
    obtain ⟨p', g3, g4⟩ := ih hv1 hw1 hc hc' hcc g1
    rw [typeM_n1 _ _ hk, g3, Option.bind_some]
    rcases hk with rfl | rfl
    · simp only [nodeTy, show ¬ (11 : Int) = 1 by omega, show ¬ (11 : Int) = 2 by omega, show ¬ ((11 : Int) = 3 ∨ (11 : Int) = 4) by omega, show ¬ (11 : Int) = 5 by omega, if_false, if_true] at ht ⊢
      cases hm : matchM 5 p with
      | none => simp [hm] at ht
      | some xy =>
        obtain ⟨x, y⟩ := xy
        simp [hm] at ht
        obtain ⟨x', y', m1, m2, m3⟩ := match_mono (.inr rfl) (hv1.typed hc g1) (hw1.typed hc' g3) g4 hm
        subst ht
        rw [m1]; exact ⟨x', rfl, m2⟩
    · simp only [nodeTy, show ¬ (12 : Int) = 1 by omega, show ¬ (12 : Int) = 2 by omega, show ¬ ((12 : Int) = 3 ∨ (12 : Int) = 4) by omega, show ¬ (12 : Int) = 5 by omega, show ¬ (12 : Int) = 11 by omega, if_false, if_true] at ht ⊢
      cases hm : matchM 5 p with
      | none => simp [hm] at ht
      | some xy =>
        obtain ⟨x, y⟩ := xy
        simp [hm] at ht
        obtain ⟨x', y', m1, m2, m3⟩ := match_mono (.inr rfl) (hv1.typed hc g1) (hw1.typed hc' g3) g4 hm
        subst ht
        rw [m1]; exact ⟨y', rfl, m3⟩
  | asc h1 _ ih =>
    intro d n ha hb c c' hc hc' hcc t ht
    obtain ⟨_, _, hty, hv1⟩ := ha.inv_as
    obtain ⟨_, _, hty', hw1⟩ := hb.inv_as
    rw [typeM_as] at ht
    obtain ⟨p, g1, ht⟩ := Option.bind_eq_some_iff.1 ht
    obtain ⟨p', g3, g4⟩ := ih hv1 hw1 hc hc' hcc g1
    rw [typeM_as, g3, Option.bind_some]
    split at ht
    · rename_i hcon
      cases ht
      rw [if_pos (cons_mono _ _ _ _ hcon g4 h1)]
      exact ⟨_, rfl, h1⟩
    · cases ht
end Go.Av

namespace Go.Av
open Go
section
variable {P : Program} {n : Nat} {ι : Type} {Q : Exit → St → Prop} {QX : ι → Exit → St → Prop} {s s' : St} {c : Code}
theorem subL.app : ∀ {l m fr : List (Nat × AV)}, subL l fr → subL m fr → subL (l ++ m) fr
  | [], m, fr, _, h => h
  | (t, x) :: r, m, fr, h, h' => ⟨h.1, subL.app h.2 h'⟩
theorem keepL_sub' : ∀ (ks : List Nat) {fr fr' : List (Nat × AV)}, (∀ t x, look fr t = some x → look fr' t = some x) → subL (keepL ks fr) fr'
  | [], _, _, _ => trivial
  | k :: r, fr, fr', h => by
    simp only [keepL]
    cases hk : look fr k with
    | some x => exact ⟨h k x hk, keepL_sub' r h⟩
    | none => exact keepL_sub' r h
theorem keepL_sub (ks : List Nat) (fr : List (Nat × AV)) : subL (keepL ks fr) fr := keepL_sub' ks fun _ _ h => h

/-- A loop: ks the slots that stay; ph the slots that change; ob the objects that change; G what is left behind; ar the own arrays. -/
theorem T.loopK {α : Type} (ks : List Nat) (ph : α → List (Nat × AV)) (ob : α → List (Nat × List CV)) (G : α → List (List CV)) (ar : α → List Arr → List Arr) (m : α → Nat) (H : α → Prop) {fr0 : List (Nat × AV)} (hk : keepL ks s.fr = fr0)
    (h : ∀ a, H a → T P n c (Round (fun a => ⟨ph a ++ fr0, ups (ob a) s.V ++ G a, ar a s.A⟩) m H (m a) Q) ⟨ph a ++ fr0, ups (ob a) s.V ++ G a, ar a s.A⟩) (a : α) (ha : H a) (hV : ups (ob a) s.V ++ G a = s.V) (hA : ar a s.A = s.A) (hp : subL (ph a) s.fr) : T P n (.loop c) Q s := by
  subst hk
  exact T.loopF (fun a => ⟨ph a ++ keepL ks s.fr, ups (ob a) s.V ++ G a, ar a s.A⟩) m H h a ha ⟨hV, hA, hp.app (keepL_sub ks s.fr)⟩
theorem TX.loopK {α : Type} (ks : List Nat) (ph : α → List (Nat × AV)) (ob : α → List (Nat × List CV)) (G : α → List (List CV)) (ar : α → List Arr → List Arr) (m : α → Nat) (H : α → Prop) {fr0 : List (Nat × AV)} (hk : keepL ks s.fr = fr0)
    (h : ∀ a, H a → TX P n c (RoundX (fun a => ⟨ph a ++ fr0, ups (ob a) s.V ++ G a, ar a s.A⟩) m H (m a) QX) ⟨ph a ++ fr0, ups (ob a) s.V ++ G a, ar a s.A⟩) (a : α) (ha : H a) (hV : ups (ob a) s.V ++ G a = s.V) (hA : ar a s.A = s.A) (hp : subL (ph a) s.fr) : TX P n (.loop c) QX s := by
  subst hk
  exact TX.loopF (fun a => ⟨ph a ++ keepL ks s.fr, ups (ob a) s.V ++ G a, ar a s.A⟩) m H h a ha ⟨hV, hA, hp.app (keepL_sub ks s.fr)⟩
end
end Go.Av
