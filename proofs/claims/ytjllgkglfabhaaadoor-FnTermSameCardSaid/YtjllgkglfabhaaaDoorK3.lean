/- A part of the library of this seat: a value-semantic program logic over the model, plain models, and walks of functions. -/
import Derived.Test.YtjllgkglfabhaaaDoorK2
set_option linter.unusedVariables false
set_option linter.unusedSimpArgs false
namespace Go.Av
open Go

/-! ### Substitution -/
mutual
def substM (x : List UInt8) (v : MTm) : MTm → MTm
  | .mk k s n t f b l => if k = 1 ∧ s = x then v else if k = 5 ∧ s = x then .mk k s n t f b l else .mk k s n t f b (substS x v l)
def substS (x : List UInt8) (v : MTm) : List MTm → List MTm
  | [] => []
  | e :: r => substM x v e :: substS x v r
end
def eqCtx (c c' : List MBd) : Prop := ∀ s, lookM c s = lookM c' s
theorem eqCtx.sub {c c' : List MBd} (h : eqCtx c c') : subCtx c c' := fun s t hs => by rw [← h s]; exact hs

/-! ### Precision -/
mutual
def precTy : MTy → MTy → Bool
  | .mk k l, .mk k' l' => decide (k' = 1) || (decide (k = k') && precTyS l l')
def precTyS : List MTy → List MTy → Bool
  | [], [] => true
  | x :: xs, y :: ys => precTy x y && precTyS xs ys
  | _, _ => false
end
theorem precTyS_all2 : ∀ (l m : List MTy), precTyS l m = all2 precTy l m
  | [], [] => rfl
  | x :: xs, y :: ys => by simp [precTyS, all2, precTyS_all2 xs ys]
  | [], _ :: _ => rfl
  | _ :: _, [] => rfl
theorem precTy_def (a b : MTy) : precTy a b = (decide (b.kind = 1) || (decide (a.kind = b.kind) && all2 precTy a.kids b.kids)) := by
  cases a; cases b; simp only [precTy, precTyS_all2]; rfl

def hasTyM (k : Int) : Bool := decide (k = 5) || decide (k = 13)
mutual
/-- Two terms differ only in types, each pair of which is as asked. -/
def alikeM (q : MTy → MTy → Bool) : MTm → MTm → Bool
  | .mk k s n t _ _ l, .mk k' s' n' t' _ _ l' => !(hasTyM k && decide (k = k') && !q t t') && (decide (k = k') && (decide (s = s') && (decide (n = n') && alikeS q l l')))
def alikeS (q : MTy → MTy → Bool) : List MTm → List MTm → Bool
  | [], [] => true
  | x :: xs, y :: ys => alikeM q x y && alikeS q xs ys
  | _, _ => false
end
theorem all2_iff {α β : Type} {q : α → β → Bool} : ∀ {xs : List α} {ys : List β}, all2 q xs ys = true ↔ xs.length = ys.length ∧ ∀ (i : Nat) x y, xs[i]? = some x → ys[i]? = some y → q x y = true
  | [], [] => by simp [all2]
  | [], y :: ys => by simp [all2]
  | x :: xs, [] => by simp [all2]
  | x :: xs, y :: ys => by
    simp only [all2, Bool.and_eq_true, all2_iff (xs := xs) (ys := ys), List.length_cons, Nat.add_right_cancel_iff]
    constructor
    · rintro ⟨h1, h2, h3⟩
      refine ⟨h2, fun i u v hu hv => ?_⟩
      cases i with
      | zero => simp at hu hv; subst hu; subst hv; exact h1
      | succ i => simp at hu hv; exact h3 i u v hu hv
    · rintro ⟨h1, h2⟩
      exact ⟨h2 0 x y rfl rfl, h1, fun i u v hu hv => h2 (i + 1) u v (by simpa using hu) (by simpa using hv)⟩

theorem all2_mono3 {α : Type} {q p : α → α → Bool} {xs ys xs' ys' : List α} (h : all2 q xs ys = true) (h1 : all2 p xs xs' = true) (h2 : all2 p ys ys' = true)
    (hs : ∀ x ∈ xs, ∀ y ∈ ys, ∀ x' ∈ xs', ∀ y' ∈ ys', q x y = true → p x x' = true → p y y' = true → q x' y' = true) : all2 q xs' ys' = true := by
  rw [all2_iff] at *
  refine ⟨by omega, fun i x' y' hx' hy' => ?_⟩
  have hi : i < xs.length := by have := (List.getElem?_eq_some_iff.1 hx').1; omega
  obtain ⟨x, hx⟩ : ∃ x, xs[i]? = some x := ⟨_, List.getElem?_eq_getElem hi⟩
  obtain ⟨y, hy⟩ : ∃ y, ys[i]? = some y := ⟨_, List.getElem?_eq_getElem (by omega)⟩
  exact hs x (List.mem_of_getElem? hx) y (List.mem_of_getElem? hy) x' (List.mem_of_getElem? hx') y' (List.mem_of_getElem? hy') (h.2 i x y hx hy) (h1.2 i x x' hx hx') (h2.2 i y y' hy hy')

theorem prec_two {k : Int} (hk : k ≠ 1) {a b a' b' : MTy} : precTy (.mk k [a, b]) (.mk k [a', b']) = (precTy a a' && precTy b b') := by
  rw [precTy_def]; simp [hk, all2]
theorem cons_two {k : Int} (hk : k ≠ 1) {a b a' b' : MTy} : consTy (.mk k [a, b]) (.mk k [a', b']) = (consTy a a' && consTy b b') := by
  rw [consTy_def]; simp [hk, all2]
theorem cons_any1 (b : MTy) : consTy anyT b = true := by rw [consTy_def]; simp
theorem prec_any2 (a : MTy) : precTy a anyT = true := by rw [precTy_def]; simp

theorem prec_kind {a b : MTy} (h : precTy a b = true) (hb : b.kind ≠ 1) : a.kind = b.kind ∧ all2 precTy a.kids b.kids = true := by
  rw [precTy_def] at h; simpa [hb] using h

theorem prec_refl : ∀ (a : MTy), precTy a a = true := by
  intro a
  induction a using MTy.ind with
  | h a ih =>
    rw [precTy_def]
    simp only [decide_true, Bool.true_and, Bool.or_eq_true]
    right
    rw [all2_iff]
    refine ⟨rfl, fun i x y hx hy => ?_⟩
    rw [hx] at hy; simp at hy; subst hy
    exact ih x (List.mem_of_getElem? hx)

theorem cons_mono : ∀ (a b a' b' : MTy), consTy a b = true → precTy a a' = true → precTy b b' = true → consTy a' b' = true := by
  intro a
  induction a using MTy.ind with
  | h a ih =>
    intro b a' b' h h1 h2
    rw [consTy_def]
    by_cases ha : a'.kind = 1
    · simp [ha]
    by_cases hb : b'.kind = 1
    · simp [hb]
    obtain ⟨h3, h4⟩ := prec_kind h1 ha
    obtain ⟨h5, h6⟩ := prec_kind h2 hb
    obtain ⟨h7, h8⟩ := consTy_kind h (by omega) (by omega)
    simp only [ha, hb, decide_false, Bool.false_or, Bool.and_eq_true, decide_eq_true_eq]
    exact ⟨by omega, all2_mono3 h8 h4 h6 fun x hx y _ x' _ y' _ => ih x hx y x' y'⟩

theorem meet_two {k : Int} (hk : k ≠ 1) {a b a' b' : MTy} : meetTy (.mk k [a, b]) (.mk k [a', b']) = .mk k [meetTy a a', meetTy b b'] := by
  rw [meetTy_def]; simp [hk]

/-- The meet lies below both, and above what lies below both. -/
theorem meet_low : ∀ {d : Nat} {a : MTy}, VTy d a → ∀ {n : Nat} {b : MTy}, VTy n b → consTy a b = true → precTy (meetTy a b) a = true ∧ precTy (meetTy a b) b = true := by
  intro d a ha
  induction ha with
  | any d => intro n b hb h; rw [show meetTy anyT b = b by rw [meetTy_def]; simp]; exact ⟨prec_any2 b, prec_refl b⟩
  | int d => intro n b hb h; cases hb <;> simp [consTy, consTyS] at h <;> simp [meetTy, meetTyS, precTy, precTyS]
  | bool d => intro n b hb h; cases hb <;> simp [consTy, consTyS] at h <;> simp [meetTy, meetTyS, precTy, precTyS]
  | @fn d x y _ _ ih1 ih2 =>
    intro n b hb h
    cases hb with
    | any => rw [show meetTy (.mk 4 [x, y]) anyT = .mk 4 [x, y] by rw [meetTy_def]; simp]; exact ⟨prec_refl _, prec_any2 _⟩
    | int => simp [consTy, consTyS] at h
    | bool => simp [consTy, consTyS] at h
    | fn h1 h2 => rw [cons_two (by omega)] at h; simp at h; rw [meet_two (by omega), prec_two (by omega), prec_two (by omega)]; simp [ih1 h1 h.1, ih2 h2 h.2]
    | pair h1 h2 => simp [consTy, consTyS] at h
  | @pair d x y _ _ ih1 ih2 =>
    intro n b hb h
    cases hb with
    | any => rw [show meetTy (.mk 5 [x, y]) anyT = .mk 5 [x, y] by rw [meetTy_def]; simp]; exact ⟨prec_refl _, prec_any2 _⟩
    | int => simp [consTy, consTyS] at h
    | bool => simp [consTy, consTyS] at h
    | fn h1 h2 => simp [consTy, consTyS] at h
    | pair h1 h2 => rw [cons_two (by omega)] at h; simp at h; rw [meet_two (by omega), prec_two (by omega), prec_two (by omega)]; simp [ih1 h1 h.1, ih2 h2 h.2]

/-- Contexts of one length, the names the same, the types of the first at least as precise. -/
def precCtx : List MBd → List MBd → Prop
  | [], [] => True
  | b :: r, b' :: r' => b.name = b'.name ∧ precTy b.ty b'.ty = true ∧ precCtx r r'
  | _, _ => False
theorem precCtx.app : ∀ {c c' : List MBd} (h : precCtx c c') {s : List UInt8} {t t' : MTy} (ht : precTy t t' = true), precCtx (c ++ [⟨s, t⟩]) (c' ++ [⟨s, t'⟩])
  | [], [], _, s, t, t', ht => ⟨rfl, ht, trivial⟩
  | b :: r, b' :: r', h, s, t, t', ht => ⟨h.1, h.2.1, precCtx.app h.2.2 ht⟩
  | [], _ :: _, h, _, _, _, _ => h.elim
  | _ :: _, [], h, _, _, _, _ => h.elim
theorem precCtx.look : ∀ {c c' : List MBd}, precCtx c c' → ∀ {s : List UInt8}, (lookM c s = none → lookM c' s = none) ∧ ∀ {t : MTy}, lookM c s = some t → ∃ t', lookM c' s = some t' ∧ precTy t t' = true
  | [], [], _, s => by simp [lookM]
  | b :: r, b' :: r', h, s => by
    obtain ⟨h1, h2, h3⟩ := h
    obtain ⟨h4, h5⟩ := precCtx.look h3 (s := s)
    simp only [lookM]
    cases hr : lookM r s with
    | some u =>
      obtain ⟨u', h6, h7⟩ := h5 hr
      rw [h6]
      exact ⟨fun h => by simp at h, fun {t} h => by simp at h; subst h; exact ⟨u', rfl, h7⟩⟩
    | none =>
      rw [h4 hr]
      simp only [h1]
      by_cases e : b'.name = s
      · simp only [e, if_true]
        exact ⟨fun h => by simp at h, fun {t} h => by simp at h; subst h; exact ⟨_, rfl, h2⟩⟩
      · simp [e]
  | [], _ :: _, h, _ => h.elim
  | _ :: _, [], h, _ => h.elim

theorem okCtx.app {c : List MBd} (h : okCtx c) {s : List UInt8} {t : MTy} (ht : shapeTy 4 t = true) : okCtx (c ++ [⟨s, t⟩]) := by
  intro b hb
  rcases List.mem_append.1 hb with h' | h'
  · exact h b h'
  · simp at h'; subst h'; exact ht
theorem TmV.typed {d : Nat} {nt : Int} {e : MTm} {c : List MBd} {t : MTy} (h : TmV nt d e) (hc : okCtx c) (ht : typeM c e = some t) : VTy 4 t := VTy.of (typeM_shape e d nt c t h.shape hc ht)

/-- Two valid terms that differ only in types, each pair of which is as asked. -/
inductive AlV (q : MTy → MTy → Bool) : MTm → MTm → Prop
  | var (s : List UInt8) : AlV q (tVar s) (tVar s)
  | num (n : Int) : AlV q (tNum n) (tNum n)
  | tru : AlV q tTrue tTrue
  | fls : AlV q tFalse tFalse
  | lam {s : List UInt8} {t t' : MTy} {b b' : MTm} : q t t' = true → AlV q b b' → AlV q (tLam s t b) (tLam s t' b')
  | n2 {k : Int} {a b a' b' : MTm} : AlV q a a' → AlV q b b' → AlV q (tN2 k a b) (tN2 k a' b')
  | ite {a b c a' b' c' : MTm} : AlV q a a' → AlV q b b' → AlV q c c' → AlV q (tIf a b c) (tIf a' b' c')
  | n1 {k : Int} {a a' : MTm} : AlV q a a' → AlV q (tN1 k a) (tN1 k a')
  | asc {t t' : MTy} {a a' : MTm} : q t t' = true → AlV q a a' → AlV q (tAs a t) (tAs a' t')

theorem AlV.of {q : MTy → MTy → Bool} {d : Nat} {a : MTm} (ha : TmV 14 d a) : ∀ {n : Nat} {b : MTm}, TmV 14 n b → alikeM q a b = true → AlV q a b := by
  induction ha with
  | var _ _ =>
    intro n b hb h
    cases hb <;> simp only [alikeM, alikeS, Bool.and_eq_true, Bool.not_eq_true', decide_eq_true_eq] at h <;> (try omega)
    obtain ⟨_, _, rfl, _⟩ := h; exact .var _
  | num _ _ _ =>
    intro n b hb h
    cases hb <;> simp only [alikeM, alikeS, Bool.and_eq_true, Bool.not_eq_true', decide_eq_true_eq] at h <;> (try omega)
    obtain ⟨_, _, _, rfl, _⟩ := h; exact .num _
  | tru _ =>
    intro n b hb h
    cases hb <;> simp only [alikeM, alikeS, Bool.and_eq_true, Bool.not_eq_true', decide_eq_true_eq] at h <;> (try omega)
    exact .tru
  | fls _ =>
    intro n b hb h
    cases hb <;> simp only [alikeM, alikeS, Bool.and_eq_true, Bool.not_eq_true', decide_eq_true_eq] at h <;> (try omega)
    exact .fls
  | lam _ _ _ _ ih =>
    intro n b hb h
    cases hb <;> simp only [alikeM, alikeS, Bool.and_eq_true, Bool.not_eq_true', decide_eq_true_eq] at h <;> (try omega)
    rename_i hb'
    obtain ⟨h1, _, rfl, _, h2, _⟩ := h
    refine .lam ?_ (ih hb' h2)
    simpa [hasTyM] using h1
  | n2 _ hk _ _ ih1 ih2 =>
    intro n b hb h
    cases hb <;> simp only [alikeM, alikeS, Bool.and_eq_true, Bool.not_eq_true', decide_eq_true_eq] at h <;> (try omega)
    rename_i h1 h2
    obtain ⟨_, rfl, _, _, h3, h4, _⟩ := h
    exact .n2 (ih1 h1 h3) (ih2 h2 h4)
  | ite _ _ _ _ ih1 ih2 ih3 =>
    intro n b hb h
    cases hb <;> simp only [alikeM, alikeS, Bool.and_eq_true, Bool.not_eq_true', decide_eq_true_eq] at h <;> (try omega)
    rename_i h1 h2 h3
    obtain ⟨_, _, _, _, h4, h5, h6, _⟩ := h
    exact .ite (ih1 h1 h4) (ih2 h2 h5) (ih3 h3 h6)
  | n1 _ hk _ ih =>
    intro n b hb h
    cases hb <;> simp only [alikeM, alikeS, Bool.and_eq_true, Bool.not_eq_true', decide_eq_true_eq] at h <;> (try omega)
    rename_i h1
    obtain ⟨_, rfl, _, _, h3, _⟩ := h
    exact .n1 (ih h1 h3)
  | asc _ _ _ ih =>
    intro n b hb h
    cases hb <;> simp only [alikeM, alikeS, Bool.and_eq_true, Bool.not_eq_true', decide_eq_true_eq] at h <;> (try omega)
    rename_i h1
    obtain ⟨h3, _, _, _, h4, _⟩ := h
    refine .asc ?_ (ih h1 h4)
    simpa [hasTyM] using h3
  | cast h => exact absurd rfl h

end Go.Av

namespace Go.Av
open Go
section
variable {P : Program} {n : Nat} {ι : Type} {Q : Exit → St → Prop} {QX : ι → Exit → St → Prop} {s s' : St} {c : Code}
theorem subL.app : ∀ {l m fr : List (Nat × AV)}, subL l fr → subL m fr → subL (l ++ m) fr
  | [], m, fr, _, h => h
  | (t, x) :: r, m, fr, h, h' => ⟨h.1, subL.app h.2 h'⟩
theorem keepL_sub' : ∀ (ks : List Nat) {fr fr' : List (Nat × AV)}, (∀ t x, look fr t = some x → look fr' t = some x) → subL (keepL ks fr) fr'
  | [], _, _, _ => trivial
  | k :: r, fr, fr', h => by
    simp only [keepL]
    cases hk : look fr k with
    | some x => exact ⟨h k x hk, keepL_sub' r h⟩
    | none => exact keepL_sub' r h
theorem keepL_sub (ks : List Nat) (fr : List (Nat × AV)) : subL (keepL ks fr) fr := keepL_sub' ks fun _ _ h => h

/-- A loop: ks the slots that stay; ph the slots that change; ob the objects that change; G what is left behind; ar the own arrays. -/
theorem T.loopK {α : Type} (ks : List Nat) (ph : α → List (Nat × AV)) (ob : α → List (Nat × List CV)) (G : α → List (List CV)) (ar : α → List Arr → List Arr) (m : α → Nat) (H : α → Prop) {fr0 : List (Nat × AV)} (hk : keepL ks s.fr = fr0)
    (h : ∀ a, H a → T P n c (Round (fun a => ⟨ph a ++ fr0, ups (ob a) s.V ++ G a, ar a s.A⟩) m H (m a) Q) ⟨ph a ++ fr0, ups (ob a) s.V ++ G a, ar a s.A⟩) (a : α) (ha : H a) (hV : ups (ob a) s.V ++ G a = s.V) (hA : ar a s.A = s.A) (hp : subL (ph a) s.fr) : T P n (.loop c) Q s := by
  subst hk
  exact T.loopF (fun a => ⟨ph a ++ keepL ks s.fr, ups (ob a) s.V ++ G a, ar a s.A⟩) m H h a ha ⟨hV, hA, hp.app (keepL_sub ks s.fr)⟩
theorem TX.loopK {α : Type} (ks : List Nat) (ph : α → List (Nat × AV)) (ob : α → List (Nat × List CV)) (G : α → List (List CV)) (ar : α → List Arr → List Arr) (m : α → Nat) (H : α → Prop) {fr0 : List (Nat × AV)} (hk : keepL ks s.fr = fr0)
    (h : ∀ a, H a → TX P n c (RoundX (fun a => ⟨ph a ++ fr0, ups (ob a) s.V ++ G a, ar a s.A⟩) m H (m a) QX) ⟨ph a ++ fr0, ups (ob a) s.V ++ G a, ar a s.A⟩) (a : α) (ha : H a) (hV : ups (ob a) s.V ++ G a = s.V) (hA : ar a s.A = s.A) (hp : subL (ph a) s.fr) : TX P n (.loop c) QX s := by
  subst hk
  exact TX.loopF (fun a => ⟨ph a ++ keepL ks s.fr, ups (ob a) s.V ++ G a, ar a s.A⟩) m H h a ha ⟨hV, hA, hp.app (keepL_sub ks s.fr)⟩
end
end Go.Av
