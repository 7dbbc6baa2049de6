/- A part of the library of this seat: a value-semantic program logic over the model, plain models, and walks of functions. -/
import Derived.Test.YtfdknjjnifnobaaK2
set_option linter.unusedVariables false
set_option linter.unusedSimpArgs false
namespace Go.Av
open Go
set_option linter.unusedVariables false
set_option linter.unusedSimpArgs false

/-- A valid type of at most so many levels. -/
inductive VTy : Nat → MTy → Prop
  | any (d : Nat) : VTy (d + 1) anyT
  | int (d : Nat) : VTy (d + 1) intT
  | bool (d : Nat) : VTy (d + 1) boolT
  | fn {d : Nat} {a b : MTy} : VTy d a → VTy d b → VTy (d + 1) (.mk 4 [a, b])
  | pair {d : Nat} {a b : MTy} : VTy d a → VTy d b → VTy (d + 1) (.mk 5 [a, b])

theorem VTy.of : ∀ {d : Nat} {t : MTy}, shapeTy d t = true → VTy d t
  | 0, t, h => by simp [shapeTy] at h
  | d + 1, .mk k l, h => by
    simp only [shapeTy, Bool.and_eq_true, decide_eq_true_eq, List.all_eq_true] at h
    simp only [MTy.kind_mk, MTy.kids_mk] at h
    obtain ⟨h1, h2⟩ := h
    match l, h1, h2 with
    | [], h1, _ =>
      simp only [tyKids, List.length_nil] at h1
      split at h1
      · rename_i h; rcases h with rfl | rfl | rfl
        · exact .any d
        · exact .int d
        · exact .bool d
      · split at h1 <;> simp at h1
    | [a], h1, _ =>
      simp only [tyKids] at h1
      split at h1
      · simp at h1
      · split at h1 <;> simp at h1
    | [a, b], h1, h2 =>
      simp only [tyKids] at h1
      split at h1
      · simp at h1
      · split at h1
        · rename_i h; rcases h with rfl | rfl
          · exact .fn (VTy.of (h2 a (by simp))) (VTy.of (h2 b (by simp)))
          · exact .pair (VTy.of (h2 a (by simp))) (VTy.of (h2 b (by simp)))
        · simp at h1
    | a :: b :: c :: r, h1, _ =>
      simp only [tyKids, List.length_cons] at h1
      split at h1
      · omega
      · split at h1 <;> omega

theorem VTy.shape {d : Nat} {t : MTy} (h : VTy d t) : shapeTy d t = true := by
  induction h with
  | any d => simp [shapeTy, tyKids]
  | int d => simp [shapeTy, tyKids]
  | bool d => simp [shapeTy, tyKids]
  | fn _ _ h1 h2 => simp [shapeTy, tyKids, h1, h2]
  | pair _ _ h1 h2 => simp [shapeTy, tyKids, h1, h2]

abbrev tVar (s : List UInt8) : MTm := .mk 1 s 0 zeroT zeroT 0 []
abbrev tNum (n : Int) : MTm := .mk 2 [] n zeroT zeroT 0 []
abbrev tTrue : MTm := .mk 3 [] 0 zeroT zeroT 0 []
abbrev tFalse : MTm := .mk 4 [] 0 zeroT zeroT 0 []
abbrev tLam (s : List UInt8) (t : MTy) (b : MTm) : MTm := .mk 5 s 0 t zeroT 0 [b]
abbrev tN1 (k : Int) (a : MTm) : MTm := .mk k [] 0 zeroT zeroT 0 [a]
abbrev tN2 (k : Int) (a b : MTm) : MTm := .mk k [] 0 zeroT zeroT 0 [a, b]
abbrev tIf (a b c : MTm) : MTm := .mk 9 [] 0 zeroT zeroT 0 [a, b, c]
abbrev tAs (a : MTm) (t : MTy) : MTm := .mk 13 [] 0 t zeroT 0 [a]
abbrev tCast (a : MTm) (f t : MTy) (l : Int) : MTm := .mk 14 [] 0 t f l [a]

/-- A term of at most so many levels, all nodes right, no node of the kind nt. -/
inductive TmV (nt : Int) : Nat → MTm → Prop
  | var {d : Nat} {s : List UInt8} : nt ≠ 1 → nameM s = true → TmV nt (d + 1) (tVar s)
  | num {d : Nat} {n : Int} : nt ≠ 2 → 0 ≤ n → n ≤ 999 → TmV nt (d + 1) (tNum n)
  | tru {d : Nat} : nt ≠ 3 → TmV nt (d + 1) tTrue
  | fls {d : Nat} : nt ≠ 4 → TmV nt (d + 1) tFalse
  | lam {d : Nat} {s : List UInt8} {t : MTy} {b : MTm} : nt ≠ 5 → nameM s = true → shapeTy 4 t = true → TmV nt d b → TmV nt (d + 1) (tLam s t b)
  | n2 {d : Nat} {k : Int} {a b : MTm} : nt ≠ k → k = 6 ∨ k = 7 ∨ k = 8 ∨ k = 10 → TmV nt d a → TmV nt d b → TmV nt (d + 1) (tN2 k a b)
  | ite {d : Nat} {a b c : MTm} : nt ≠ 9 → TmV nt d a → TmV nt d b → TmV nt d c → TmV nt (d + 1) (tIf a b c)
  | n1 {d : Nat} {k : Int} {a : MTm} : nt ≠ k → k = 11 ∨ k = 12 → TmV nt d a → TmV nt (d + 1) (tN1 k a)
  | asc {d : Nat} {t : MTy} {a : MTm} : nt ≠ 13 → shapeTy 4 t = true → TmV nt d a → TmV nt (d + 1) (tAs a t)
  | cast {d : Nat} {f t : MTy} {l : Int} {a : MTm} : nt ≠ 14 → shapeTy 4 f = true → shapeTy 4 t = true → consTy f t = true → labM l = true → TmV nt d a → TmV nt (d + 1) (tCast a f t l)

theorem noTy_eq {t : MTy} (h : noTyM t = true) : t = zeroT := by
  obtain ⟨k, l⟩ := t
  simp only [noTyM, Bool.and_eq_true, decide_eq_true_eq] at h
  obtain ⟨h1, h2⟩ := h
  cases h1; cases h2; rfl

theorem TmV.of {nt : Int} : ∀ {d : Nat} {e : MTm}, shapeTm nt d e = true → TmV nt d e
  | 0, e, h => by simp [shapeTm] at h
  | d + 1, .mk k s n t f b l, h => by
    simp only [shapeTm, nodeM, Bool.and_eq_true, decide_eq_true_eq, List.all_eq_true] at h
    simp only [MTm.kind_mk, MTm.kids_mk] at h
    obtain ⟨⟨hk, h1, h2⟩, h3⟩ := h
    have h2' := h2
    have h2 : (if namedM k then nameM s else decide (s = [])) = true ∧ (inM n 0 (if k = 2 then 999 else 0)) = true ∧ (if typedM k then shapeTy 4 t else noTyM t) = true ∧ (if k = 14 then castOwnM (.mk k s n t f b l) else noTyM f && decide (b = 0)) = true := by
      simp only [ownM, Bool.and_eq_true] at h2
      exact ⟨h2.1.1.1, h2.1.1.2, h2.1.2, h2.2⟩
    simp only [inM, Bool.and_eq_true, decide_eq_true_eq] at h2
    obtain ⟨g1, g2, g3, g4⟩ := h2
    have hnt : nt ≠ k := fun e => hk e.symm
    match l, h1, h3 with
    | [], h1, _ =>
      have : k = 1 ∨ k = 2 ∨ k = 3 ∨ k = 4 := by
        simp only [kidsM, List.length_nil] at h1
        split at h1
        · assumption
        · split at h1
          · omega
          · split at h1
            · omega
            · split at h1 <;> omega
      rcases this with rfl | rfl | rfl | rfl <;> simp [namedM, typedM] at g1 g2 g3 g4 <;> obtain ⟨g4, rfl⟩ := g4 <;> obtain rfl := noTy_eq g3 <;> obtain rfl := noTy_eq g4
      · obtain rfl : n = 0 := by omega
        exact .var hnt g1
      · subst g1
        exact .num hnt g2.1 g2.2
      · subst g1
        obtain rfl : n = 0 := by omega
        exact .tru hnt
      · subst g1
        obtain rfl : n = 0 := by omega
        exact .fls hnt
    | [a], h1, h3 =>
      have : k = 5 ∨ k = 11 ∨ k = 12 ∨ k = 13 ∨ k = 14 := by
        simp only [kidsM, List.length_cons, List.length_nil] at h1
        split at h1
        · omega
        · split at h1
          · assumption
          · split at h1
            · omega
            · split at h1 <;> omega
      have ha := TmV.of (h3 a (by simp))
      rcases this with rfl | rfl | rfl | rfl | rfl <;> simp [namedM, typedM] at g1 g2 g3 g4
      · obtain ⟨g4, rfl⟩ := g4
        obtain rfl := noTy_eq g4
        obtain rfl : n = 0 := by omega
        exact .lam hnt g1 g3 ha
      · obtain ⟨g4, rfl⟩ := g4
        obtain rfl := noTy_eq g4
        obtain rfl := noTy_eq g3
        subst g1
        obtain rfl : n = 0 := by omega
        exact .n1 hnt (.inl rfl) ha
      · obtain ⟨g4, rfl⟩ := g4
        obtain rfl := noTy_eq g4
        obtain rfl := noTy_eq g3
        subst g1
        obtain rfl : n = 0 := by omega
        exact .n1 hnt (.inr rfl) ha
      · obtain ⟨g4, rfl⟩ := g4
        obtain rfl := noTy_eq g4
        subst g1
        obtain rfl : n = 0 := by omega
        exact .asc hnt g3 ha
      · subst g1
        obtain rfl : n = 0 := by omega
        simp only [castOwnM, Bool.and_eq_true] at g4
        exact .cast hnt g4.1.1.1 g3 g4.1.2 g4.2 ha
    | [a, b'], h1, h3 =>
      have : k = 6 ∨ k = 7 ∨ k = 8 ∨ k = 10 := by
        simp only [kidsM, List.length_cons, List.length_nil] at h1
        split at h1
        · omega
        · split at h1
          · omega
          · split at h1
            · assumption
            · split at h1 <;> omega
      have ha := TmV.of (h3 a (by simp))
      have hb := TmV.of (h3 b' (by simp))
      have e1 : namedM k = false := by rcases this with rfl | rfl | rfl | rfl <;> rfl
      have e2 : typedM k = false := by rcases this with rfl | rfl | rfl | rfl <;> rfl
      have e3 : ¬ k = 14 := by omega
      have e4 : ¬ k = 2 := by omega
      simp [e1, e2, e3, e4] at g1 g2 g3 g4
      obtain ⟨g4, rfl⟩ := g4
      obtain rfl := noTy_eq g4
      obtain rfl := noTy_eq g3
      subst g1
      obtain rfl : n = 0 := by omega
      exact .n2 hnt this ha hb
    | [a, b', c], h1, h3 =>
      have : k = 9 := by
        simp only [kidsM, List.length_cons, List.length_nil] at h1
        split at h1
        · omega
        · split at h1
          · omega
          · split at h1
            · omega
            · split at h1 <;> omega
      have ha := TmV.of (h3 a (by simp))
      have hb := TmV.of (h3 b' (by simp))
      have hc := TmV.of (h3 c (by simp))
      subst this
      simp [namedM, typedM] at g1 g2 g3 g4
      obtain ⟨g4, rfl⟩ := g4
      obtain rfl := noTy_eq g4
      obtain rfl := noTy_eq g3
      subst g1
      obtain rfl : n = 0 := by omega
      exact .ite hnt ha hb hc
    | a :: b' :: c :: x :: r, h1, _ =>
      exfalso
      have := kidsM_le k
      simp only [List.length_cons] at h1
      omega

theorem TmV.shape {nt : Int} {d : Nat} {e : MTm} (h : TmV nt d e) : shapeTm nt d e = true := by
  induction h with
  | var h1 h2 => simp [shapeTm, nodeM, ownM, kidsM, namedM, typedM, inM, noTyM, h1.symm, h2]
  | num h1 h2 h3 => simp [shapeTm, nodeM, ownM, kidsM, namedM, typedM, inM, noTyM, h1.symm, h2, h3]
  | tru h1 => simp [shapeTm, nodeM, ownM, kidsM, namedM, typedM, inM, noTyM, h1.symm]
  | fls h1 => simp [shapeTm, nodeM, ownM, kidsM, namedM, typedM, inM, noTyM, h1.symm]
  | lam h1 h2 h3 _ h4 => simp [shapeTm, nodeM, ownM, kidsM, namedM, typedM, inM, noTyM, h1.symm, h2, h3, h4]
  | n2 h1 h2 _ _ h3 h4 =>
    rcases h2 with rfl | rfl | rfl | rfl <;> simp [shapeTm, nodeM, ownM, kidsM, namedM, typedM, inM, noTyM, h1.symm, h3, h4]
  | ite h1 _ _ _ h2 h3 h4 => simp [shapeTm, nodeM, ownM, kidsM, namedM, typedM, inM, noTyM, h1.symm, h2, h3, h4]
  | n1 h1 h2 _ h3 =>
    rcases h2 with rfl | rfl <;> simp [shapeTm, nodeM, ownM, kidsM, namedM, typedM, inM, noTyM, h1.symm, h3]
  | asc h1 h2 _ h3 => simp [shapeTm, nodeM, ownM, kidsM, namedM, typedM, inM, noTyM, h1.symm, h2, h3]
  | cast h1 h2 h3 h4 h5 _ h6 => simp [shapeTm, nodeM, ownM, kidsM, namedM, typedM, inM, noTyM, castOwnM, h1.symm, h2, h3, h4, h5, h6]

section
variable {nt : Int} {d : Nat}
theorem TmV.inv_lam {s : List UInt8} {t : MTy} {b : MTm} (h : TmV nt d (tLam s t b)) : ∃ d', d = d' + 1 ∧ nameM s = true ∧ shapeTy 4 t = true ∧ TmV nt d' b := by
  cases h with
  | lam _ h1 h2 h3 => exact ⟨_, rfl, h1, h2, h3⟩
  | n1 _ hk _ => omega
theorem TmV.inv_n1 {k : Int} {a : MTm} (h : TmV nt d (tN1 k a)) : ∃ d', d = d' + 1 ∧ (k = 11 ∨ k = 12) ∧ TmV nt d' a := by
  cases h with
  | lam _ h1 h2 h3 => simp [nameM] at h1
  | n1 _ hk h => exact ⟨_, rfl, hk, h⟩
  | asc _ h1 _ => simp [shapeTy, tyKids] at h1
  | cast _ h1 _ _ _ _ => simp [shapeTy, tyKids] at h1
theorem TmV.inv_as {t : MTy} {a : MTm} (h : TmV nt d (tAs a t)) : ∃ d', d = d' + 1 ∧ shapeTy 4 t = true ∧ TmV nt d' a := by
  cases h with
  | n1 _ hk h => omega
  | asc _ h1 h2 => exact ⟨_, rfl, h1, h2⟩
theorem TmV.inv_n2 {k : Int} {a b : MTm} (h : TmV nt d (tN2 k a b)) : ∃ d', d = d' + 1 ∧ (k = 6 ∨ k = 7 ∨ k = 8 ∨ k = 10) ∧ TmV nt d' a ∧ TmV nt d' b := by
  cases h with
  | n2 _ hk h1 h2 => exact ⟨_, rfl, hk, h1, h2⟩
theorem TmV.inv_if {a b c : MTm} (h : TmV nt d (tIf a b c)) : ∃ d', d = d' + 1 ∧ TmV nt d' a ∧ TmV nt d' b ∧ TmV nt d' c := by
  cases h with
  | ite _ h1 h2 h3 => exact ⟨_, rfl, h1, h2, h3⟩
theorem TmV.mono {nt : Int} {d : Nat} {e : MTm} (h : TmV nt d e) : ∀ {m : Nat}, d ≤ m → TmV nt m e := by
  induction h with
  | var h1 h2 => intro m hm; obtain ⟨m, rfl⟩ : ∃ j, m = j + 1 := ⟨m - 1, by omega⟩; exact .var h1 h2
  | num h1 h2 h3 => intro m hm; obtain ⟨m, rfl⟩ : ∃ j, m = j + 1 := ⟨m - 1, by omega⟩; exact .num h1 h2 h3
  | tru h1 => intro m hm; obtain ⟨m, rfl⟩ : ∃ j, m = j + 1 := ⟨m - 1, by omega⟩; exact .tru h1
  | fls h1 => intro m hm; obtain ⟨m, rfl⟩ : ∃ j, m = j + 1 := ⟨m - 1, by omega⟩; exact .fls h1
  | lam h1 h2 h3 _ ih => intro m hm; obtain ⟨m, rfl⟩ : ∃ j, m = j + 1 := ⟨m - 1, by omega⟩; exact .lam h1 h2 h3 (ih (by omega))
  | n2 h1 h2 _ _ ih1 ih2 => intro m hm; obtain ⟨m, rfl⟩ : ∃ j, m = j + 1 := ⟨m - 1, by omega⟩; exact .n2 h1 h2 (ih1 (by omega)) (ih2 (by omega))
  | ite h1 _ _ _ ih1 ih2 ih3 => intro m hm; obtain ⟨m, rfl⟩ : ∃ j, m = j + 1 := ⟨m - 1, by omega⟩; exact .ite h1 (ih1 (by omega)) (ih2 (by omega)) (ih3 (by omega))
  | n1 h1 h2 _ ih => intro m hm; obtain ⟨m, rfl⟩ : ∃ j, m = j + 1 := ⟨m - 1, by omega⟩; exact .n1 h1 h2 (ih (by omega))
  | asc h1 h2 _ ih => intro m hm; obtain ⟨m, rfl⟩ : ∃ j, m = j + 1 := ⟨m - 1, by omega⟩; exact .asc h1 h2 (ih (by omega))
  | cast h1 h2 h3 h4 h5 _ ih => intro m hm; obtain ⟨m, rfl⟩ : ∃ j, m = j + 1 := ⟨m - 1, by omega⟩; exact .cast h1 h2 h3 h4 h5 (ih (by omega))
end

/-! ### Typing, a rule a kind -/
section
variable (ctx : List MBd) (s : List UInt8) (n : Int) (t : MTy) (a b c : MTm)
theorem typeM_var : typeM ctx (tVar s) = lookM ctx s := by simp [typeM, typeMS, nodeTy]
theorem typeM_num : typeM ctx (tNum n) = some intT := by simp [typeM, typeMS, nodeTy]
theorem typeM_true : typeM ctx tTrue = some boolT := by simp [typeM, typeMS, nodeTy]
theorem typeM_false : typeM ctx tFalse = some boolT := by simp [typeM, typeMS, nodeTy]
theorem typeM_lam : typeM ctx (tLam s t b) = (typeM (ctx ++ [⟨s, t⟩]) b).bind (twoM 4 t) := by
  simp only [typeM, typeMS, if_true]
  cases typeM (ctx ++ [⟨s, t⟩]) b <;> simp [nodeTy]
theorem typeM_n1 {k : Int} (hk : k = 11 ∨ k = 12) : typeM ctx (tN1 k a) = (typeM ctx a).bind fun x => nodeTy ctx k [] zeroT [x] := by
  have h5 : ¬ k = 5 := by omega
  simp only [typeM, typeMS, if_neg h5]
  cases typeM ctx a <;> rfl
theorem typeM_as : typeM ctx (tAs a t) = (typeM ctx a).bind fun x => if consTy x t = true then some t else none := by
  simp only [typeM, typeMS, show ¬ (13 : Int) = 5 by omega, if_false]
  cases typeM ctx a <;> simp [nodeTy]
theorem typeM_n2 {k : Int} (hk : k ≠ 5) : typeM ctx (tN2 k a b) = (typeM ctx a).bind fun x => (typeM ctx b).bind fun y => nodeTy ctx k [] zeroT [x, y] := by
  simp only [typeM, typeMS, if_neg hk]
  cases typeM ctx a <;> cases typeM ctx b <;> rfl
theorem typeM_if : typeM ctx (tIf a b c) = (typeM ctx a).bind fun x => (typeM ctx b).bind fun y => (typeM ctx c).bind fun z => if consTy y z = true ∧ consTy x boolT = true then some (meetTy y z) else none := by
  simp only [typeM, typeMS, show ¬ (9 : Int) = 5 by omega, if_false]
  cases typeM ctx a <;> cases typeM ctx b <;> cases typeM ctx c <;> simp [nodeTy]
end
/-! ### Weakening -/
theorem lookM_app : ∀ (l m : List MBd) (s : List UInt8), lookM (l ++ m) s = match lookM m s with | some t => some t | none => lookM l s
  | [], m, s => by cases h : lookM m s <;> simp [lookM, h]
  | b :: l, m, s => by
    simp only [List.cons_append, lookM, lookM_app l m s]
    cases lookM m s <;> rfl

/-- One context tells what another one tells. -/
def subCtx (c c' : List MBd) : Prop := ∀ s t, lookM c s = some t → lookM c' s = some t
theorem subCtx.app {c c' : List MBd} (h : subCtx c c') (m : List MBd) : subCtx (c ++ m) (c' ++ m) := by
  intro s t hs
  rw [lookM_app] at hs ⊢
  cases hm : lookM m s with
  | some u => rw [hm] at hs; exact hs
  | none => rw [hm] at hs; exact h s t hs

end Go.Av

namespace Go.Av
open Go
set_option linter.unusedVariables false
set_option linter.unusedSimpArgs false

/-! ### Substitution -/
mutual
def substM (x : List UInt8) (v : MTm) : MTm → MTm
  | .mk k s n t f b l => if k = 1 ∧ s = x then v else if k = 5 ∧ s = x then .mk k s n t f b l else .mk k s n t f b (substS x v l)
def substS (x : List UInt8) (v : MTm) : List MTm → List MTm
  | [] => []
  | e :: r => substM x v e :: substS x v r
end
def eqCtx (c c' : List MBd) : Prop := ∀ s, lookM c s = lookM c' s
theorem eqCtx.sub {c c' : List MBd} (h : eqCtx c c') : subCtx c c' := fun s t hs => by rw [← h s]; exact hs

/-! ### Precision -/
mutual
def precTy : MTy → MTy → Bool
  | .mk k l, .mk k' l' => decide (k' = 1) || (decide (k = k') && precTyS l l')
def precTyS : List MTy → List MTy → Bool
  | [], [] => true
  | x :: xs, y :: ys => precTy x y && precTyS xs ys
  | _, _ => false
end
theorem precTyS_all2 : ∀ (l m : List MTy), precTyS l m = all2 precTy l m
  | [], [] => rfl
  | x :: xs, y :: ys => by simp [precTyS, all2, precTyS_all2 xs ys]
  | [], _ :: _ => rfl
  | _ :: _, [] => rfl
theorem precTy_def (a b : MTy) : precTy a b = (decide (b.kind = 1) || (decide (a.kind = b.kind) && all2 precTy a.kids b.kids)) := by
  cases a; cases b; simp only [precTy, precTyS_all2]; rfl

def hasTyM (k : Int) : Bool := decide (k = 5) || decide (k = 13)
mutual
/-- Two terms differ only in types, each pair of which is as asked. -/
def alikeM (q : MTy → MTy → Bool) : MTm → MTm → Bool
  | .mk k s n t _ _ l, .mk k' s' n' t' _ _ l' => !(hasTyM k && decide (k = k') && !q t t') && (decide (k = k') && (decide (s = s') && (decide (n = n') && alikeS q l l')))
def alikeS (q : MTy → MTy → Bool) : List MTm → List MTm → Bool
  | [], [] => true
  | x :: xs, y :: ys => alikeM q x y && alikeS q xs ys
  | _, _ => false
end
theorem all2_iff {α β : Type} {q : α → β → Bool} : ∀ {xs : List α} {ys : List β}, all2 q xs ys = true ↔ xs.length = ys.length ∧ ∀ (i : Nat) x y, xs[i]? = some x → ys[i]? = some y → q x y = true
  | [], [] => by simp [all2]
  | [], y :: ys => by simp [all2]
  | x :: xs, [] => by simp [all2]
  | x :: xs, y :: ys => by
    simp only [all2, Bool.and_eq_true, all2_iff (xs := xs) (ys := ys), List.length_cons, Nat.add_right_cancel_iff]
    constructor
    · rintro ⟨h1, h2, h3⟩
      refine ⟨h2, fun i u v hu hv => ?_⟩
      cases i with
      | zero => simp at hu hv; subst hu; subst hv; exact h1
      | succ i => simp at hu hv; exact h3 i u v hu hv
    · rintro ⟨h1, h2⟩
      exact ⟨h2 0 x y rfl rfl, h1, fun i u v hu hv => h2 (i + 1) u v (by simpa using hu) (by simpa using hv)⟩

theorem all2_mono3 {α : Type} {q p : α → α → Bool} {xs ys xs' ys' : List α} (h : all2 q xs ys = true) (h1 : all2 p xs xs' = true) (h2 : all2 p ys ys' = true)
    (hs : ∀ x ∈ xs, ∀ y ∈ ys, ∀ x' ∈ xs', ∀ y' ∈ ys', q x y = true → p x x' = true → p y y' = true → q x' y' = true) : all2 q xs' ys' = true := by
  rw [all2_iff] at *
  refine ⟨by omega, fun i x' y' hx' hy' => ?_⟩
  have hi : i < xs.length := by have := (List.getElem?_eq_some_iff.1 hx').1; omega
  obtain ⟨x, hx⟩ : ∃ x, xs[i]? = some x := ⟨_, List.getElem?_eq_getElem hi⟩
  obtain ⟨y, hy⟩ : ∃ y, ys[i]? = some y := ⟨_, List.getElem?_eq_getElem (by omega)⟩
  exact hs x (List.mem_of_getElem? hx) y (List.mem_of_getElem? hy) x' (List.mem_of_getElem? hx') y' (List.mem_of_getElem? hy') (h.2 i x y hx hy) (h1.2 i x x' hx hx') (h2.2 i y y' hy hy')

theorem prec_two {k : Int} (hk : k ≠ 1) {a b a' b' : MTy} : precTy (.mk k [a, b]) (.mk k [a', b']) = (precTy a a' && precTy b b') := by
  rw [precTy_def]; simp [hk, all2]
theorem cons_two {k : Int} (hk : k ≠ 1) {a b a' b' : MTy} : consTy (.mk k [a, b]) (.mk k [a', b']) = (consTy a a' && consTy b b') := by
  rw [consTy_def]; simp [hk, all2]
theorem cons_any1 (b : MTy) : consTy anyT b = true := by rw [consTy_def]; simp
theorem cons_any2 (a : MTy) : consTy a anyT = true := by rw [consTy_def]; simp
theorem prec_any2 (a : MTy) : precTy a anyT = true := by rw [precTy_def]; simp

theorem prec_kind {a b : MTy} (h : precTy a b = true) (hb : b.kind ≠ 1) : a.kind = b.kind ∧ all2 precTy a.kids b.kids = true := by
  rw [precTy_def] at h; simpa [hb] using h

theorem prec_refl : ∀ (a : MTy), precTy a a = true := by
  intro a
  induction a using MTy.ind with
  | h a ih =>
    rw [precTy_def]
    simp only [decide_true, Bool.true_and, Bool.or_eq_true]
    right
    rw [all2_iff]
    refine ⟨rfl, fun i x y hx hy => ?_⟩
    rw [hx] at hy; simp at hy; subst hy
    exact ih x (List.mem_of_getElem? hx)

theorem prec_trans : ∀ (a b c : MTy), precTy a b = true → precTy b c = true → precTy a c = true := by
  intro a
  induction a using MTy.ind with
  | h a ih =>
    intro b c h1 h2
    by_cases hc : c.kind = 1
    · rw [precTy_def]; simp [hc]
    · obtain ⟨h3, h4⟩ := prec_kind h2 hc
      obtain ⟨h5, h6⟩ := prec_kind h1 (by omega)
      rw [precTy_def]
      simp only [hc, decide_false, Bool.false_or, Bool.and_eq_true, decide_eq_true_eq]
      refine ⟨by omega, ?_⟩
      rw [all2_iff] at *
      refine ⟨by omega, fun i x z hx hz => ?_⟩
      obtain ⟨y, hy⟩ : ∃ y, b.kids[i]? = some y := ⟨_, List.getElem?_eq_getElem (by have := (List.getElem?_eq_some_iff.1 hx).1; omega)⟩
      exact ih x (List.mem_of_getElem? hx) y z (h6.2 i x y hx hy) (h4.2 i y z hy hz)

theorem cons_mono : ∀ (a b a' b' : MTy), consTy a b = true → precTy a a' = true → precTy b b' = true → consTy a' b' = true := by
  intro a
  induction a using MTy.ind with
  | h a ih =>
    intro b a' b' h h1 h2
    rw [consTy_def]
    by_cases ha : a'.kind = 1
    · simp [ha]
    by_cases hb : b'.kind = 1
    · simp [hb]
    obtain ⟨h3, h4⟩ := prec_kind h1 ha
    obtain ⟨h5, h6⟩ := prec_kind h2 hb
    obtain ⟨h7, h8⟩ := consTy_kind h (by omega) (by omega)
    simp only [ha, hb, decide_false, Bool.false_or, Bool.and_eq_true, decide_eq_true_eq]
    exact ⟨by omega, all2_mono3 h8 h4 h6 fun x hx y _ x' _ y' _ => ih x hx y x' y'⟩

/-- A less precise type is no deeper. -/
theorem prec_shape : ∀ {d : Nat} {x : MTy}, VTy d x → ∀ {n : Nat} {y : MTy}, VTy n y → precTy x y = true → VTy d y := by
  intro d x hx
  induction hx with
  | any d => intro n y hy h; cases hy <;> simp [precTy, precTyS] at h <;> exact .any d
  | int d => intro n y hy h; cases hy <;> simp [precTy, precTyS] at h <;> first | exact .any d | exact .int d
  | bool d => intro n y hy h; cases hy <;> simp [precTy, precTyS] at h <;> first | exact .any d | exact .bool d
  | @fn d a b _ _ ih1 ih2 =>
    intro n y hy h
    cases hy with
    | any => exact .any d
    | int => simp [precTy, precTyS] at h
    | bool => simp [precTy, precTyS] at h
    | fn h1 h2 => rw [prec_two (by omega)] at h; simp at h; exact .fn (ih1 h1 h.1) (ih2 h2 h.2)
    | pair h1 h2 => simp [precTy, precTyS] at h
  | @pair d a b _ _ ih1 ih2 =>
    intro n y hy h
    cases hy with
    | any => exact .any d
    | int => simp [precTy, precTyS] at h
    | bool => simp [precTy, precTyS] at h
    | fn h1 h2 => simp [precTy, precTyS] at h
    | pair h1 h2 => rw [prec_two (by omega)] at h; simp at h; exact .pair (ih1 h1 h.1) (ih2 h2 h.2)

theorem meet_two {k : Int} (hk : k ≠ 1) {a b a' b' : MTy} : meetTy (.mk k [a, b]) (.mk k [a', b']) = .mk k [meetTy a a', meetTy b b'] := by
  rw [meetTy_def]; simp [hk]

/-- The meet lies below both, and above what lies below both. -/
theorem meet_low : ∀ {d : Nat} {a : MTy}, VTy d a → ∀ {n : Nat} {b : MTy}, VTy n b → consTy a b = true → precTy (meetTy a b) a = true ∧ precTy (meetTy a b) b = true := by
  intro d a ha
  induction ha with
  | any d => intro n b hb h; rw [show meetTy anyT b = b by rw [meetTy_def]; simp]; exact ⟨prec_any2 b, prec_refl b⟩
  | int d => intro n b hb h; cases hb <;> simp [consTy, consTyS] at h <;> simp [meetTy, meetTyS, precTy, precTyS]
  | bool d => intro n b hb h; cases hb <;> simp [consTy, consTyS] at h <;> simp [meetTy, meetTyS, precTy, precTyS]
  | @fn d x y _ _ ih1 ih2 =>
    intro n b hb h
    cases hb with
    | any => rw [show meetTy (.mk 4 [x, y]) anyT = .mk 4 [x, y] by rw [meetTy_def]; simp]; exact ⟨prec_refl _, prec_any2 _⟩
    | int => simp [consTy, consTyS] at h
    | bool => simp [consTy, consTyS] at h
    | fn h1 h2 => rw [cons_two (by omega)] at h; simp at h; rw [meet_two (by omega), prec_two (by omega), prec_two (by omega)]; simp [ih1 h1 h.1, ih2 h2 h.2]
    | pair h1 h2 => simp [consTy, consTyS] at h
  | @pair d x y _ _ ih1 ih2 =>
    intro n b hb h
    cases hb with
    | any => rw [show meetTy (.mk 5 [x, y]) anyT = .mk 5 [x, y] by rw [meetTy_def]; simp]; exact ⟨prec_refl _, prec_any2 _⟩
    | int => simp [consTy, consTyS] at h
    | bool => simp [consTy, consTyS] at h
    | fn h1 h2 => simp [consTy, consTyS] at h
    | pair h1 h2 => rw [cons_two (by omega)] at h; simp at h; rw [meet_two (by omega), prec_two (by omega), prec_two (by omega)]; simp [ih1 h1 h.1, ih2 h2 h.2]

theorem meet_great : ∀ {d : Nat} {a : MTy}, VTy d a → ∀ {n : Nat} {b : MTy}, VTy n b → ∀ {c : MTy}, precTy c a = true → precTy c b = true → consTy a b = true ∧ precTy c (meetTy a b) = true := by
  intro d a ha
  induction ha with
  | any d => intro n b hb c h1 h2; rw [show meetTy anyT b = b by rw [meetTy_def]; simp]; exact ⟨cons_any1 b, h2⟩
  | int d =>
    intro n b hb c h1 h2
    obtain ⟨k, l⟩ := c
    obtain ⟨hk, hl⟩ := prec_kind h1 (by simp)
    simp only [MTy.kind_mk, MTy.kids_mk] at hk hl
    subst hk
    cases l with
    | cons _ _ => simp [all2] at hl
    | nil => cases hb <;> simp [precTy, precTyS] at h2 <;> simp [consTy, consTyS, meetTy, meetTyS, precTy, precTyS]
  | bool d =>
    intro n b hb c h1 h2
    obtain ⟨k, l⟩ := c
    obtain ⟨hk, hl⟩ := prec_kind h1 (by simp)
    simp only [MTy.kind_mk, MTy.kids_mk] at hk hl
    subst hk
    cases l with
    | cons _ _ => simp [all2] at hl
    | nil => cases hb <;> simp [precTy, precTyS] at h2 <;> simp [consTy, consTyS, meetTy, meetTyS, precTy, precTyS]
  | @fn d x y _ _ ih1 ih2 =>
    intro n b hb c h1 h2
    obtain ⟨k, l⟩ := c
    obtain ⟨hk, hl⟩ := prec_kind h1 (by simp)
    simp at hk; subst hk
    cases hb with
    | any => rw [show meetTy (.mk 4 [x, y]) anyT = .mk 4 [x, y] by rw [meetTy_def]; simp]; exact ⟨cons_any2 _, h1⟩
    | int => simp [precTy, precTyS] at h2
    | bool => simp [precTy, precTyS] at h2
    | fn g1 g2 =>
      match l, hl with
      | [u, v], _ =>
        rw [prec_two (by omega)] at h1 h2; simp at h1 h2
        rw [meet_two (by omega), prec_two (by omega), cons_two (by omega)]
        simp [ih1 g1 h1.1 h2.1, ih2 g2 h1.2 h2.2]
      | [], h => simp [all2] at h
      | [_], h => simp [all2] at h
      | _ :: _ :: _ :: _, h => simp [all2] at h
    | pair g1 g2 => simp [precTy, precTyS] at h2
  | @pair d x y _ _ ih1 ih2 =>
    intro n b hb c h1 h2
    obtain ⟨k, l⟩ := c
    obtain ⟨hk, hl⟩ := prec_kind h1 (by simp)
    simp at hk; subst hk
    cases hb with
    | any => rw [show meetTy (.mk 5 [x, y]) anyT = .mk 5 [x, y] by rw [meetTy_def]; simp]; exact ⟨cons_any2 _, h1⟩
    | int => simp [precTy, precTyS] at h2
    | bool => simp [precTy, precTyS] at h2
    | fn g1 g2 => simp [precTy, precTyS] at h2
    | pair g1 g2 =>
      match l, hl with
      | [u, v], _ =>
        rw [prec_two (by omega)] at h1 h2; simp at h1 h2
        rw [meet_two (by omega), prec_two (by omega), cons_two (by omega)]
        simp [ih1 g1 h1.1 h2.1, ih2 g2 h1.2 h2.2]
      | [], h => simp [all2] at h
      | [_], h => simp [all2] at h
      | _ :: _ :: _ :: _, h => simp [all2] at h

theorem meet_mono {a b a' b' : MTy} {n m n' m' : Nat} (ha : VTy n a) (hb : VTy m b) (ha' : VTy n' a') (hb' : VTy m' b') (h : consTy a b = true) (h1 : precTy a a' = true) (h2 : precTy b b' = true) :
    precTy (meetTy a b) (meetTy a' b') = true := by
  obtain ⟨h3, h4⟩ := meet_low ha hb h
  exact (meet_great ha' hb' (prec_trans _ _ _ h3 h1) (prec_trans _ _ _ h4 h2)).2

theorem match_mono {k : Int} (hk : k = 4 ∨ k = 5) {n m : Nat} {a a' x y : MTy} (ha : VTy n a) (ha' : VTy m a') (h : precTy a a' = true) (hm : matchM k a = some (x, y)) :
    ∃ x' y', matchM k a' = some (x', y') ∧ precTy x x' = true ∧ precTy y y' = true := by
  have hk1 : k ≠ 1 := by omega
  cases ha' with
  | any => exact ⟨anyT, anyT, by simp [matchM], prec_any2 _, prec_any2 _⟩
  | int => 
    cases ha <;> simp [precTy, precTyS] at h
    simp [matchM, show ¬ (2 : Int) = k by omega] at hm
  | bool =>
    cases ha <;> simp [precTy, precTyS] at h
    simp [matchM, show ¬ (3 : Int) = k by omega] at hm
  | @fn _ p q _ _ =>
    cases ha <;> simp [precTy, precTyS] at h
    rename_i p' q' _ _
    by_cases e : (4 : Int) = k
    · simp [matchM, e] at hm ⊢
      simp [hk1] at hm ⊢
      obtain ⟨rfl, rfl⟩ := hm
      exact ⟨_, _, ⟨rfl, rfl⟩, h⟩
    · simp [matchM, e] at hm
  | @pair _ p q _ _ =>
    cases ha <;> simp [precTy, precTyS] at h
    rename_i p' q' _ _
    by_cases e : (5 : Int) = k
    · simp [matchM, e] at hm ⊢
      simp [hk1] at hm ⊢
      obtain ⟨rfl, rfl⟩ := hm
      exact ⟨_, _, ⟨rfl, rfl⟩, h⟩
    · simp [matchM, e] at hm

/-- Contexts of one length, the names the same, the types of the first at least as precise. -/
def precCtx : List MBd → List MBd → Prop
  | [], [] => True
  | b :: r, b' :: r' => b.name = b'.name ∧ precTy b.ty b'.ty = true ∧ precCtx r r'
  | _, _ => False
theorem precCtx.app : ∀ {c c' : List MBd} (h : precCtx c c') {s : List UInt8} {t t' : MTy} (ht : precTy t t' = true), precCtx (c ++ [⟨s, t⟩]) (c' ++ [⟨s, t'⟩])
  | [], [], _, s, t, t', ht => ⟨rfl, ht, trivial⟩
  | b :: r, b' :: r', h, s, t, t', ht => ⟨h.1, h.2.1, precCtx.app h.2.2 ht⟩
  | [], _ :: _, h, _, _, _, _ => h.elim
  | _ :: _, [], h, _, _, _, _ => h.elim
theorem precCtx.look : ∀ {c c' : List MBd}, precCtx c c' → ∀ {s : List UInt8}, (lookM c s = none → lookM c' s = none) ∧ ∀ {t : MTy}, lookM c s = some t → ∃ t', lookM c' s = some t' ∧ precTy t t' = true
  | [], [], _, s => by simp [lookM]
  | b :: r, b' :: r', h, s => by
    obtain ⟨h1, h2, h3⟩ := h
    obtain ⟨h4, h5⟩ := precCtx.look h3 (s := s)
    simp only [lookM]
    cases hr : lookM r s with
    | some u =>
      obtain ⟨u', h6, h7⟩ := h5 hr
      rw [h6]
      exact ⟨fun h => by simp at h, fun {t} h => by simp at h; subst h; exact ⟨u', rfl, h7⟩⟩
    | none =>
      rw [h4 hr]
      simp only [h1]
      by_cases e : b'.name = s
      · simp only [e, if_true]
        exact ⟨fun h => by simp at h, fun {t} h => by simp at h; subst h; exact ⟨_, rfl, h2⟩⟩
      · simp [e]
  | [], _ :: _, h, _ => h.elim
  | _ :: _, [], h, _ => h.elim

theorem prec_int {a : MTy} {b : MTy} (h : precTy a b = true) (hc : consTy a intT = true) : consTy b intT = true := cons_mono _ _ _ _ hc h (prec_refl _)
theorem prec_bool {a : MTy} {b : MTy} (h : precTy a b = true) (hc : consTy a boolT = true) : consTy b boolT = true := cons_mono _ _ _ _ hc h (prec_refl _)

theorem okCtx.app {c : List MBd} (h : okCtx c) {s : List UInt8} {t : MTy} (ht : shapeTy 4 t = true) : okCtx (c ++ [⟨s, t⟩]) := by
  intro b hb
  rcases List.mem_append.1 hb with h' | h'
  · exact h b h'
  · simp at h'; subst h'; exact ht
theorem TmV.typed {d : Nat} {nt : Int} {e : MTm} {c : List MBd} {t : MTy} (h : TmV nt d e) (hc : okCtx c) (ht : typeM c e = some t) : VTy 4 t := VTy.of (typeM_shape e d nt c t h.shape hc ht)

theorem twoM_some {k : Int} {a b t : MTy} (h : twoM k a b = some t) : t = .mk k [a, b] ∧ shapeTy 4 (.mk k [a, b]) = true := by
  simp only [twoM] at h
  split at h
  · simp at h; exact ⟨h.symm, by assumption⟩
  · cases h
theorem twoM_mono {k : Int} (hk : k = 4 ∨ k = 5) {a b a' b' t : MTy} {n m : Nat} (ha : VTy n a') (hb : VTy m b') (h1 : precTy a a' = true) (h2 : precTy b b' = true) (h : twoM k a b = some t) : ∃ u, twoM k a' b' = some u ∧ precTy t u = true := by
  obtain ⟨rfl, hs⟩ := twoM_some h
  have hv := VTy.of hs
  have hp : precTy (.mk k [a, b]) (.mk k [a', b']) = true := by rw [prec_two (by omega)]; simp [h1, h2]
  have hsh : shapeTy 4 (.mk k [a', b']) = true := by
    rcases hk with rfl | rfl
    · cases hv with | fn g1 g2 => exact (VTy.fn (prec_shape g1 ha h1) (prec_shape g2 hb h2)).shape
    · cases hv with | pair g1 g2 => exact (VTy.pair (prec_shape g1 ha h1) (prec_shape g2 hb h2)).shape
  exact ⟨.mk k [a', b'], by simp [twoM, hsh], hp⟩

/-- Two valid terms that differ only in types, each pair of which is as asked. -/
inductive AlV (q : MTy → MTy → Bool) : MTm → MTm → Prop
  | var (s : List UInt8) : AlV q (tVar s) (tVar s)
  | num (n : Int) : AlV q (tNum n) (tNum n)
  | tru : AlV q tTrue tTrue
  | fls : AlV q tFalse tFalse
  | lam {s : List UInt8} {t t' : MTy} {b b' : MTm} : q t t' = true → AlV q b b' → AlV q (tLam s t b) (tLam s t' b')
  | n2 {k : Int} {a b a' b' : MTm} : AlV q a a' → AlV q b b' → AlV q (tN2 k a b) (tN2 k a' b')
  | ite {a b c a' b' c' : MTm} : AlV q a a' → AlV q b b' → AlV q c c' → AlV q (tIf a b c) (tIf a' b' c')
  | n1 {k : Int} {a a' : MTm} : AlV q a a' → AlV q (tN1 k a) (tN1 k a')
  | asc {t t' : MTy} {a a' : MTm} : q t t' = true → AlV q a a' → AlV q (tAs a t) (tAs a' t')

theorem AlV.of {q : MTy → MTy → Bool} {d : Nat} {a : MTm} (ha : TmV 14 d a) : ∀ {n : Nat} {b : MTm}, TmV 14 n b → alikeM q a b = true → AlV q a b := by
  induction ha with
  | var _ _ =>
    intro n b hb h
    cases hb <;> simp only [alikeM, alikeS, Bool.and_eq_true, Bool.not_eq_true', decide_eq_true_eq] at h <;> (try omega)
    obtain ⟨_, _, rfl, _⟩ := h; exact .var _
  | num _ _ _ =>
    intro n b hb h
    cases hb <;> simp only [alikeM, alikeS, Bool.and_eq_true, Bool.not_eq_true', decide_eq_true_eq] at h <;> (try omega)
    obtain ⟨_, _, _, rfl, _⟩ := h; exact .num _
  | tru _ =>
    intro n b hb h
    cases hb <;> simp only [alikeM, alikeS, Bool.and_eq_true, Bool.not_eq_true', decide_eq_true_eq] at h <;> (try omega)
    exact .tru
  | fls _ =>
    intro n b hb h
    cases hb <;> simp only [alikeM, alikeS, Bool.and_eq_true, Bool.not_eq_true', decide_eq_true_eq] at h <;> (try omega)
    exact .fls
  | lam _ _ _ _ ih =>
    intro n b hb h
    cases hb <;> simp only [alikeM, alikeS, Bool.and_eq_true, Bool.not_eq_true', decide_eq_true_eq] at h <;> (try omega)
    rename_i hb'
    obtain ⟨h1, _, rfl, _, h2, _⟩ := h
    refine .lam ?_ (ih hb' h2)
    simpa [hasTyM] using h1
  | n2 _ hk _ _ ih1 ih2 =>
    intro n b hb h
    cases hb <;> simp only [alikeM, alikeS, Bool.and_eq_true, Bool.not_eq_true', decide_eq_true_eq] at h <;> (try omega)
    rename_i h1 h2
    obtain ⟨_, rfl, _, _, h3, h4, _⟩ := h
    exact .n2 (ih1 h1 h3) (ih2 h2 h4)
  | ite _ _ _ _ ih1 ih2 ih3 =>
    intro n b hb h
    cases hb <;> simp only [alikeM, alikeS, Bool.and_eq_true, Bool.not_eq_true', decide_eq_true_eq] at h <;> (try omega)
    rename_i h1 h2 h3
    obtain ⟨_, _, _, _, h4, h5, h6, _⟩ := h
    exact .ite (ih1 h1 h4) (ih2 h2 h5) (ih3 h3 h6)
  | n1 _ hk _ ih =>
    intro n b hb h
    cases hb <;> simp only [alikeM, alikeS, Bool.and_eq_true, Bool.not_eq_true', decide_eq_true_eq] at h <;> (try omega)
    rename_i h1
    obtain ⟨_, rfl, _, _, h3, _⟩ := h
    exact .n1 (ih h1 h3)
  | asc _ _ _ ih =>
    intro n b hb h
    cases hb <;> simp only [alikeM, alikeS, Bool.and_eq_true, Bool.not_eq_true', decide_eq_true_eq] at h <;> (try omega)
    rename_i h1
    obtain ⟨h3, _, _, _, h4, _⟩ := h
    refine .asc ?_ (ih h1 h4)
    simpa [hasTyM] using h3
  | cast h => exact absurd rfl h

/-- Typing is monotonic. -/
theorem typeM_gradual {a b : MTm} (h : AlV precTy a b) : ∀ {d n : Nat}, TmV 14 d a → TmV 14 n b → ∀ {c c' : List MBd}, okCtx c → okCtx c' → precCtx c c' →
    ∀ {t : MTy}, typeM c a = some t → ∃ u, typeM c' b = some u ∧ precTy t u = true := by
  induction h with
  | var _ =>
    intro d n ha hb c c' hc hc' hcc t ht
    rw [typeM_var] at ht ⊢
    exact hcc.look.2 ht
  | num _ =>
    intro d n ha hb c c' hc hc' hcc t ht
    rw [typeM_num] at ht ⊢
    cases ht; exact ⟨_, rfl, prec_refl _⟩
  | tru =>
    intro d n ha hb c c' hc hc' hcc t ht
    rw [typeM_true] at ht ⊢
    cases ht; exact ⟨_, rfl, prec_refl _⟩
  | fls =>
    intro d n ha hb c c' hc hc' hcc t ht
    rw [typeM_false] at ht ⊢
    cases ht; exact ⟨_, rfl, prec_refl _⟩
  | lam h1 _ ih =>
    intro d n ha hb c c' hc hc' hcc t ht
    obtain ⟨_, _, _, hty, hb1⟩ := ha.inv_lam
    obtain ⟨_, _, _, hty', hb2⟩ := hb.inv_lam
    rw [typeM_lam] at ht
    obtain ⟨u, h4, h5⟩ := Option.bind_eq_some_iff.1 ht
    obtain ⟨u', h6, h7⟩ := ih hb1 hb2 (hc.app hty) (hc'.app hty') (hcc.app h1) h4
    rw [typeM_lam, h6, Option.bind_some]
    exact twoM_mono (.inl rfl) (VTy.of hty') (hb2.typed (hc'.app hty') h6) h1 h7 h5
  | @n2 k _ _ _ _ _ _ ih1 ih2 =>
    intro d n ha hb c c' hc hc' hcc t ht
    obtain ⟨_, _, hk, hv1, hv2⟩ := ha.inv_n2
    obtain ⟨_, _, hk', hw1, hw2⟩ := hb.inv_n2
    rw [typeM_n2 _ _ _ (by omega)] at ht
    obtain ⟨p, g1, ht⟩ := Option.bind_eq_some_iff.1 ht
    obtain ⟨q, g2, ht⟩ := Option.bind_eq_some_iff.1 ht
    obtain ⟨p', g3, g4⟩ := ih1 hv1 hw1 hc hc' hcc g1
    obtain ⟨q', g5, g6⟩ := ih2 hv2 hw2 hc hc' hcc g2
    rw [typeM_n2 _ _ _ (by omega), g3, Option.bind_some, g5, Option.bind_some]
    have v1 := hv1.typed hc g1
    have v2 := hv2.typed hc g2
    have w1 := hw1.typed hc' g3
    have w2 := hw2.typed hc' g5
    rcases hk with rfl | rfl | rfl | rfl
    · simp only [nodeTy, show ¬ (6 : Int) = 1 by omega, show ¬ (6 : Int) = 2 by omega, show ¬ ((6 : Int) = 3 ∨ (6 : Int) = 4) by omega, if_false, if_true] at ht ⊢
      cases hm : matchM 4 p with
      | none => simp [hm] at ht
      | some xy =>
        obtain ⟨x, y⟩ := xy
        simp only [hm] at ht
        split at ht
        · rename_i hcon
          cases ht
          obtain ⟨x', y', m1, m2, m3⟩ := match_mono (.inl rfl) v1 w1 g4 hm
          rw [m1]
          simp only [cons_mono _ _ _ _ hcon g6 m2, if_true]
          exact ⟨y', rfl, m3⟩
        · cases ht
    · simp only [nodeTy, show ¬ (7 : Int) = 1 by omega, show ¬ (7 : Int) = 2 by omega, show ¬ ((7 : Int) = 3 ∨ (7 : Int) = 4) by omega, show ¬ (7 : Int) = 6 by omega, if_false, if_true] at ht ⊢
      split at ht
      · rename_i hcon
        cases ht
        rw [if_pos ⟨prec_int g4 hcon.1, prec_int g6 hcon.2⟩]
        exact ⟨_, rfl, prec_refl _⟩
      · cases ht
    · simp only [nodeTy, show ¬ (8 : Int) = 1 by omega, show ¬ (8 : Int) = 2 by omega, show ¬ ((8 : Int) = 3 ∨ (8 : Int) = 4) by omega, show ¬ (8 : Int) = 6 by omega, show ¬ (8 : Int) = 7 by omega, if_false, if_true] at ht ⊢
      split at ht
      · rename_i hcon
        cases ht
        rw [if_pos ⟨prec_int g4 hcon.1, prec_int g6 hcon.2⟩]
        exact ⟨_, rfl, prec_refl _⟩
      · cases ht
    · simp only [nodeTy, show ¬ (10 : Int) = 1 by omega, show ¬ (10 : Int) = 2 by omega, show ¬ ((10 : Int) = 3 ∨ (10 : Int) = 4) by omega, show ¬ (10 : Int) = 6 by omega, show ¬ (10 : Int) = 7 by omega, show ¬ (10 : Int) = 8 by omega, if_false, if_true] at ht ⊢
      exact twoM_mono (.inr rfl) w1 w2 g4 g6 ht
  | ite _ _ _ ih1 ih2 ih3 =>
    intro d n ha hb c c' hc hc' hcc t ht
    obtain ⟨_, _, hv1, hv2, hv3⟩ := ha.inv_if
    obtain ⟨_, _, hw1, hw2, hw3⟩ := hb.inv_if
    rw [typeM_if] at ht
    obtain ⟨p, g1, ht⟩ := Option.bind_eq_some_iff.1 ht
    obtain ⟨q, g2, ht⟩ := Option.bind_eq_some_iff.1 ht
    obtain ⟨r, g3, ht⟩ := Option.bind_eq_some_iff.1 ht
    obtain ⟨p', k1, k2⟩ := ih1 hv1 hw1 hc hc' hcc g1
    obtain ⟨q', k3, k4⟩ := ih2 hv2 hw2 hc hc' hcc g2
    obtain ⟨r', k5, k6⟩ := ih3 hv3 hw3 hc hc' hcc g3
    rw [typeM_if, k1, Option.bind_some, k3, Option.bind_some, k5, Option.bind_some]
    split at ht
    · rename_i hcon
      cases ht
      rw [if_pos ⟨cons_mono _ _ _ _ hcon.1 k4 k6, prec_bool k2 hcon.2⟩]
      exact ⟨_, rfl, meet_mono (hv2.typed hc g2) (hv3.typed hc g3) (hw2.typed hc' k3) (hw3.typed hc' k5) hcon.1 k4 k6⟩
    · cases ht
  | n1 _ ih =>
    intro d n ha hb c c' hc hc' hcc t ht
    obtain ⟨_, _, hk, hv1⟩ := ha.inv_n1
    obtain ⟨_, _, hk', hw1⟩ := hb.inv_n1
    rw [typeM_n1 _ _ hk] at ht
    obtain ⟨p, g1, ht⟩ := Option.bind_eq_some_iff.1 ht
    obtain ⟨p', g3, g4⟩ := ih hv1 hw1 hc hc' hcc g1
    rw [typeM_n1 _ _ hk, g3, Option.bind_some]
    rcases hk with rfl | rfl
    · simp only [nodeTy, show ¬ (11 : Int) = 1 by omega, show ¬ (11 : Int) = 2 by omega, show ¬ ((11 : Int) = 3 ∨ (11 : Int) = 4) by omega, show ¬ (11 : Int) = 5 by omega, if_false, if_true] at ht ⊢
      cases hm : matchM 5 p with
      | none => simp [hm] at ht
      | some xy =>
        obtain ⟨x, y⟩ := xy
        simp [hm] at ht
        obtain ⟨x', y', m1, m2, m3⟩ := match_mono (.inr rfl) (hv1.typed hc g1) (hw1.typed hc' g3) g4 hm
        subst ht
        rw [m1]; exact ⟨x', rfl, m2⟩
    · simp only [nodeTy, show ¬ (12 : Int) = 1 by omega, show ¬ (12 : Int) = 2 by omega, show ¬ ((12 : Int) = 3 ∨ (12 : Int) = 4) by omega, show ¬ (12 : Int) = 5 by omega, show ¬ (12 : Int) = 11 by omega, if_false, if_true] at ht ⊢
      cases hm : matchM 5 p with
      | none => simp [hm] at ht
      | some xy =>
        obtain ⟨x, y⟩ := xy
        simp [hm] at ht
        obtain ⟨x', y', m1, m2, m3⟩ := match_mono (.inr rfl) (hv1.typed hc g1) (hw1.typed hc' g3) g4 hm
        subst ht
        rw [m1]; exact ⟨y', rfl, m3⟩
  | asc h1 _ ih =>
    intro d n ha hb c c' hc hc' hcc t ht
    obtain ⟨_, _, hty, hv1⟩ := ha.inv_as
    obtain ⟨_, _, hty', hw1⟩ := hb.inv_as
    rw [typeM_as] at ht
    obtain ⟨p, g1, ht⟩ := Option.bind_eq_some_iff.1 ht
    obtain ⟨p', g3, g4⟩ := ih hv1 hw1 hc hc' hcc g1
    rw [typeM_as, g3, Option.bind_some]
    split at ht
    · rename_i hcon
      cases ht
      rw [if_pos (cons_mono _ _ _ _ hcon g4 h1)]
      exact ⟨_, rfl, h1⟩
    · cases ht
end Go.Av

namespace Go.Av
open Go
section
variable {P : Program} {n : Nat} {ι : Type} {Q : Exit → St → Prop} {QX : ι → Exit → St → Prop} {s s' : St} {c : Code}
theorem subL.app : ∀ {l m fr : List (Nat × AV)}, subL l fr → subL m fr → subL (l ++ m) fr
  | [], m, fr, _, h => h
  | (t, x) :: r, m, fr, h, h' => ⟨h.1, subL.app h.2 h'⟩
theorem keepL_sub' : ∀ (ks : List Nat) {fr fr' : List (Nat × AV)}, (∀ t x, look fr t = some x → look fr' t = some x) → subL (keepL ks fr) fr'
  | [], _, _, _ => trivial
  | k :: r, fr, fr', h => by
    simp only [keepL]
    cases hk : look fr k with
    | some x => exact ⟨h k x hk, keepL_sub' r h⟩
    | none => exact keepL_sub' r h
theorem keepL_sub (ks : List Nat) (fr : List (Nat × AV)) : subL (keepL ks fr) fr := keepL_sub' ks fun _ _ h => h

/-- A loop: ks the slots that stay; ph the slots that change; ob the objects that change; G what is left behind; ar the own arrays. -/
theorem T.loopK {α : Type} (ks : List Nat) (ph : α → List (Nat × AV)) (ob : α → List (Nat × List CV)) (G : α → List (List CV)) (ar : α → List Arr → List Arr) (m : α → Nat) (H : α → Prop) {fr0 : List (Nat × AV)} (hk : keepL ks s.fr = fr0)
    (h : ∀ a, H a → T P n c (Round (fun a => ⟨ph a ++ fr0, ups (ob a) s.V ++ G a, ar a s.A⟩) m H (m a) Q) ⟨ph a ++ fr0, ups (ob a) s.V ++ G a, ar a s.A⟩) (a : α) (ha : H a) (hV : ups (ob a) s.V ++ G a = s.V) (hA : ar a s.A = s.A) (hp : subL (ph a) s.fr) : T P n (.loop c) Q s := by
  subst hk
  exact T.loopF (fun a => ⟨ph a ++ keepL ks s.fr, ups (ob a) s.V ++ G a, ar a s.A⟩) m H h a ha ⟨hV, hA, hp.app (keepL_sub ks s.fr)⟩
theorem TX.loopK {α : Type} (ks : List Nat) (ph : α → List (Nat × AV)) (ob : α → List (Nat × List CV)) (G : α → List (List CV)) (ar : α → List Arr → List Arr) (m : α → Nat) (H : α → Prop) {fr0 : List (Nat × AV)} (hk : keepL ks s.fr = fr0)
    (h : ∀ a, H a → TX P n c (RoundX (fun a => ⟨ph a ++ fr0, ups (ob a) s.V ++ G a, ar a s.A⟩) m H (m a) QX) ⟨ph a ++ fr0, ups (ob a) s.V ++ G a, ar a s.A⟩) (a : α) (ha : H a) (hV : ups (ob a) s.V ++ G a = s.V) (hA : ar a s.A = s.A) (hp : subL (ph a) s.fr) : TX P n (.loop c) QX s := by
  subst hk
  exact TX.loopF (fun a => ⟨ph a ++ keepL ks s.fr, ups (ob a) s.V ++ G a, ar a s.A⟩) m H h a ha ⟨hV, hA, hp.app (keepL_sub ks s.fr)⟩
end
end Go.Av
