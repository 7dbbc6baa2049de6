/- A part of the library of this seat: a value-semantic program logic over the model, plain models, and walks of functions. -/
import Derived.Test.YtdcahkkclldhmaaGreatK14
set_option linter.unusedVariables false
set_option linter.unusedSimpArgs false
namespace Go.Av
attribute [-simp] Go.Av.freeStepG Go.Av.exA Go.Av.innAsH Go.Av.AV.innH Go.Av.CV.innH Go.Av.innHs Go.Av.AV.outnH Go.Av.CV.outnH
open Go
/-- The same as_ 'subsM', at the first places alone. -/
def subsP {α : Type} (f : α → List α) (l : List α) (p : Nat) : List (List α) := (subsM f (l.take p)).map (· ++ l.drop p)
end Go.Av

namespace Go.Av
attribute [-simp] Go.Av.freeStepG Go.Av.exA Go.Av.innAsH Go.Av.AV.innH Go.Av.CV.innH Go.Av.innHs Go.Av.AV.outnH Go.Av.CV.outnH
open Go
def castN (c : List MBd) (e : MTm) (ts : List MTy) : Option MTy :=
  if e.kind = 14 then match ts with
    | x :: _ => if sameTy x e.fr = true then some e.ty else none
    | [] => none
  else match wantM c e.kind e.name e.ty ts with
    | none => none
    | some (ws, u) => if shapeTy 4 u = true ∧ exactS ws ts = true then some u else none
theorem castTyM_N (c : List MBd) (e : MTm) : castTyM c e = match castTyS (insideM c e) e.kids with
    | none => none
    | some ts => castN c e ts := by
  rw [castTyM_def]
  cases castTyS (insideM c e) e.kids <;> rfl
theorem cn14 {c : List MBd} {e : MTm} (a : MTy) (hk : e.kind = 14) : castN c e [a] = if sameTy a e.fr = true then some e.ty else none := by simp [castN, hk]
theorem cn7 {c : List MBd} {e : MTm} (a b : MTy) (hk : e.kind = 7) : castN c e [a, b] = if (sameTy a intT && sameTy b intT) = true then some intT else none := by
  simp only [castN, hk, wantM]
  by_cases h1 : a = intT
  · subst h1
    by_cases h2 : b = intT
    · subst h2; simp [cons_refl, shape_int, exactS, sameTy_refl]
    · cases hq : consTy b intT <;> simp [cons_refl, exactS, sameTy_iff, h2, Ne.symm h2, hq]
  · cases hq : consTy a intT <;> cases hq2 : consTy b intT <;> simp [exactS, sameTy_iff, h1, Ne.symm h1, hq, hq2]
theorem cn8 {c : List MBd} {e : MTm} (a b : MTy) (hk : e.kind = 8) : castN c e [a, b] = if (sameTy a intT && sameTy b intT) = true then some boolT else none := by
  simp only [castN, hk, wantM]
  by_cases h1 : a = intT
  · subst h1
    by_cases h2 : b = intT
    · subst h2; simp [cons_refl, shape_bool, exactS, sameTy_refl]
    · cases hq : consTy b intT <;> simp [cons_refl, exactS, sameTy_iff, h2, Ne.symm h2, hq]
  · cases hq : consTy a intT <;> cases hq2 : consTy b intT <;> simp [exactS, sameTy_iff, h1, Ne.symm h1, hq, hq2]
theorem cn9 {c : List MBd} {e : MTm} (a b d : MTy) (hk : e.kind = 9) (hb : shapeTy 4 b = true) : castN c e [a, b, d] = if (sameTy a boolT && sameTy b d) = true then some b else none := by
  simp only [castN, hk, wantM]
  by_cases h1 : a = boolT
  · subst h1
    by_cases h2 : b = d
    · subst h2; simp [cons_refl, meet_self (VTy.of hb), hb, exactS, sameTy_refl]
    · have h3 : meetTy b d = b → ¬ meetTy b d = d := fun h h' => h2 (h.symm.trans h')
      have h4 : sameTy b d = false := by cases hs : sameTy b d with
        | false => rfl
        | true => exact absurd (sameTy_iff.1 hs) h2
      cases hq : consTy b d
      · simp [h4]
      · simp [cons_refl, h4]
        intro _
        cases hx : exactS [boolT, meetTy b d, meetTy b d] [boolT, b, d] with
        | false => rfl
        | true =>
          simp only [exactS, Bool.and_eq_true, sameTy_iff] at hx
          exact absurd hx.2.2.1 (h3 hx.2.1)
  · cases hq : consTy a boolT <;> cases hq2 : consTy b d <;> simp [exactS, sameTy_iff, h1, Ne.symm h1, hq, hq2]
theorem cn10 {c : List MBd} {e : MTm} (a b : MTy) (hk : e.kind = 10) : castN c e [a, b] = if shapeTy 4 (.mk 5 [a, b]) = true then some (.mk 5 [a, b]) else none := by
  simp [castN, hk, wantM, exactS]
theorem cn6 {c : List MBd} {e : MTm} (x y b : MTy) (hk : e.kind = 6) (hy : shapeTy 4 y = true) : castN c e [.mk 4 [x, y], b] = if sameTy x b = true then some y else none := by
  simp only [castN, hk, wantM, matchM_two (show (4 : Int) ≠ 1 by omega)]
  by_cases h : x = b
  · subst h; simp [cons_refl, sameTy_refl, exactS, hy]
  · cases hq : consTy b x <;> simp [exactS, sameTy_iff, h, hq]
theorem cn6n {c : List MBd} {e : MTm} {a b : MTy} (hk : e.kind = 6) (ha : a = anyT ∨ a = intT ∨ a = boolT ∨ ∃ x y, a = .mk 5 [x, y]) : castN c e [a, b] = none := by
  rcases ha with rfl | rfl | rfl | ⟨x, y, rfl⟩
  · cases hq : consTy b anyT <;> simp [castN, hk, wantM, matchM, exactS, sameTy_iff, hq]
  · simp [castN, hk, wantM, matchM]
  · simp [castN, hk, wantM, matchM]
  · simp [castN, hk, wantM, matchM]
theorem cn11 {c : List MBd} {e : MTm} (x y : MTy) (hk : e.kind = 11) (hx : shapeTy 4 x = true) : castN c e [.mk 5 [x, y]] = some x := by
  simp [castN, hk, wantM, matchM_two (show (5 : Int) ≠ 1 by omega), exactS, sameTy_refl, hx]
theorem cn12 {c : List MBd} {e : MTm} (x y : MTy) (hk : e.kind = 12) (hy : shapeTy 4 y = true) : castN c e [.mk 5 [x, y]] = some y := by
  simp [castN, hk, wantM, matchM_two (show (5 : Int) ≠ 1 by omega), exactS, sameTy_refl, hy]
theorem cn1n {c : List MBd} {e : MTm} {a : MTy} (hk : e.kind = 11 ∨ e.kind = 12) (ha : a = anyT ∨ a = intT ∨ a = boolT ∨ ∃ x y, a = .mk 4 [x, y]) : castN c e [a] = none := by
  rcases hk with hk | hk <;> rcases ha with rfl | rfl | rfl | ⟨x, y, rfl⟩ <;> simp [castN, hk, wantM, matchM, exactS, sameTy_iff]
theorem castN_leaf {c : List MBd} {e : MTm} (hk : e.kind = 1 ∨ e.kind = 2 ∨ e.kind = 3 ∨ e.kind = 4) : castN c e [] = (wantM c e.kind e.name e.ty []).bind fun p => if shapeTy 4 p.2 = true then some p.2 else none := by
  rcases hk with h | h | h | h
  · simp only [castN, h, wantM]; cases lookM c e.name <;> simp [exactS]
  · simp [castN, h, wantM, exactS]
  · simp [castN, h, wantM, exactS]
  · simp [castN, h, wantM, exactS]
def castTypeM (e : MTm) : Option MTy := if castValidM e = true then castTyM [] e else none

end Go.Av
