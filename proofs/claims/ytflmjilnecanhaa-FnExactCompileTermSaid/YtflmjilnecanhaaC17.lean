/- A part of the library of this seat. -/
import Derived.Test.YtflmjilnecanhaaC16
import Derived.Lib.ItoaNum
set_option linter.unusedVariables false
set_option linter.unusedSimpArgs false
namespace Go.Av
attribute [-simp] Go.Av.astepJ Go.Av.relC Go.Av.relL Go.Av.relV Go.Av.relVs Go.Av.callJ
open Go

mutual
def markR : MTy -> Nat -> MTy
 | .mk _ l, k => .mk k (markS l (k + 1))
def markS : List MTy -> Nat -> List MTy
 | [], _ => []
 | t :: r, k => markR t k :: markS r (k + 1 + nTyS t.kids)
end
theorem markR_def (t : MTy) (k : Nat) : markR t k = .mk k (markS t.kids (k + 1)) := by cases t; simp [markR]
theorem markS_len : ∀ (l : List MTy) (k : Nat), (markS l k).length = l.length
 | [], _ => by simp [markS]
 | t :: r, k => by simp [markS, markS_len r]
theorem nTyS_cons (t : MTy) (r : List MTy) : nTyS (t :: r) = 1 + nTyS t.kids + nTyS r := by rw [nTyS, nTy_def]
theorem markS_append : ∀ (a b : List MTy) (k : Nat), markS (a ++ b) k = markS a k ++ markS b (k + nTyS a)
 | [], b, k => by simp [markS, nTyS]
 | t :: r, b, k => by
  rw [List.cons_append, markS, markS, markS_append r b, List.cons_append, nTyS_cons]
  congr 3
  omega
theorem nTyS_append : ∀ (a b : List MTy), nTyS (a ++ b) = nTyS a + nTyS b
 | [], b => by simp [nTyS]
 | t :: r, b => by rw [List.cons_append, nTyS_cons, nTyS_cons, nTyS_append r b]; omega

def mText (k : Nat) : List UInt8 := 109 :: Lib.decDigits k
mutual
def cTm : MTm -> Nat
 | .mk _ _ _ t f _ l => 6 + nTyS t.kids + nTyS f.kids + cTmS l
def cTmS : List MTm -> Nat
 | [] => 0
 | t :: r => cTm t + cTmS r
end
theorem cTm_def (e : MTm) : cTm e = 6 + nTyS e.ty.kids + nTyS e.fr.kids + cTmS e.kids := by cases e; simp [cTm]
mutual
def markRm : MTm -> Nat -> MTm
 | .mk _ _ _ t f _ l, k => .mk k (mText (k + 1)) ((k + 2 : Nat) : Int) (.mk ((k + 3 : Nat) : Int) (markS t.kids (k + 4))) (.mk ((k + 4 + nTyS t.kids : Nat) : Int) (markS f.kids (k + 5 + nTyS t.kids)))
   ((k + 5 + nTyS t.kids + nTyS f.kids : Nat) : Int) (markSm l (k + 6 + nTyS t.kids + nTyS f.kids))
def markSm : List MTm -> Nat -> List MTm
 | [], _ => []
 | t :: r, k => markRm t k :: markSm r (k + cTm t)
end
theorem markRm_def (e : MTm) (k : Nat) : markRm e k = .mk k (mText (k + 1)) ((k + 2 : Nat) : Int) (.mk ((k + 3 : Nat) : Int) (markS e.ty.kids (k + 4))) (.mk ((k + 4 + nTyS e.ty.kids : Nat) : Int) (markS e.fr.kids (k + 5 + nTyS e.ty.kids)))
  ((k + 5 + nTyS e.ty.kids + nTyS e.fr.kids : Nat) : Int) (markSm e.kids (k + 6 + nTyS e.ty.kids + nTyS e.fr.kids)) := by cases e; simp [markRm]
theorem markSm_len : ∀ (l : List MTm) (k : Nat), (markSm l k).length = l.length
 | [], _ => by simp [markSm]
 | t :: r, k => by simp [markSm, markSm_len r]
theorem cTmS_append : ∀ (a b : List MTm), cTmS (a ++ b) = cTmS a + cTmS b
 | [], b => by simp [cTmS]
 | t :: r, b => by rw [List.cons_append, cTmS, cTmS, cTmS_append r b]; omega
theorem markSm_append : ∀ (a b : List MTm) (k : Nat), markSm (a ++ b) k = markSm a k ++ markSm b (k + cTmS a)
 | [], b, k => by simp [markSm, cTmS]
 | t :: r, b, k => by
  rw [List.cons_append, markSm, markSm, markSm_append r b, List.cons_append, cTmS]
  congr 3
  omega
theorem cTm_le (e : MTm) : cTm e <= 6 + 6 * nTm e := by
 induction e using MTm.ind with
 | h e ih =>
  have hl : ∀ l : List MTm, (∀ u ∈ l, u ∈ e.kids) -> cTmS l <= 6 * nTmS l := by
   intro l
   induction l with
   | nil => intro _; simp [cTmS]
   | cons x r ihl =>
    intro hm
    have h1 := ih x (hm x (by simp))
    have h2 := ihl fun u hu => hm u (by simp [hu])
    simp only [cTmS, nTmS]
    omega
  have h3 := hl e.kids fun _ h => h
  rw [cTm_def, nTm_def]
  have e1 := nTy_def e.ty
  have e2 := nTy_def e.fr
  omega
end Go.Av

namespace Go.Av
attribute [-simp] Go.Av.astepJ Go.Av.relC Go.Av.relL Go.Av.relV Go.Av.relVs Go.Av.callJ
open Go

section
variable {α β γ : Type}
theorem perm_out {l : List α} {j : Nat} {x : α} (h : l[j]? = some x) : l.Perm ([x] ++ l.eraseIdx j) := by
 induction l generalizing j with
 | nil => simp at h
 | cons a r ih =>
  cases j with
  | zero => simp at h; subst h; exact .refl _
  | succ j =>
   simp at h
   exact (List.Perm.cons a (ih h)).trans (List.Perm.swap x a _)
theorem perm_in {l : List α} {j : Nat} (y : α) (h : j < l.length) : ([y] ++ l.eraseIdx j).Perm (l.set j y) := by
 have h1 : (l.set j y)[j]? = some y := by simp [h]
 have h2 := perm_out h1
 have e : (l.set j y).eraseIdx j = l.eraseIdx j := List.eraseIdx_set_eq
 rw [e] at h2
 exact h2.symm
theorem flat_out {l : List (List α)} {j : Nat} {x : List α} (h : l[j]? = some x) : l.flatten.Perm (x ++ (l.eraseIdx j).flatten) := by
 have h1 := (perm_out h).flatten
 simpa using h1
theorem flat_in {l : List (List α)} {j : Nat} (y : List α) (h : j < l.length) : (y ++ (l.eraseIdx j).flatten).Perm (l.set j y).flatten := by
 have h1 := (perm_in y h).flatten
 simpa using h1
theorem zipWith_set1 {f : α -> β -> γ} {l : List α} {vs : List β} {j : Nat} {v : β} (hv : vs[j]? = some v) (u : α) : (List.zipWith f l vs).set j (f u v) = List.zipWith f (l.set j u) vs := by
 apply List.ext_getElem?
 intro i
 rw [List.getElem?_set]
 simp only [List.getElem?_zipWith, List.getElem?_set, List.length_zipWith]
 by_cases e : j = i
 ·subst e
  have hj := (List.getElem?_eq_some_iff.1 hv).1
  simp only [if_true, hv]
  by_cases h : j < l.length
  ·rw [if_pos (by omega), if_pos h]
  ·rw [if_neg (by omega), if_neg h]
 ·rw [if_neg e, if_neg e]
theorem zipWith_at {f : α -> β -> γ} {l : List α} {vs : List β} {j : Nat} {u : α} {v : β} (hu : l[j]? = some u) (hv : vs[j]? = some v) : (List.zipWith f l vs)[j]? = some (f u v) := by
 simp [List.getElem?_zipWith, hu, hv]
theorem take_succ_of {l : List α} {j : Nat} {u : α} (h : l[j]? = some u) : l.take (j + 1) = l.take j ++ [u] := by rw [List.take_add_one, h]; rfl
theorem drop_of {l : List α} {j : Nat} {u : α} (h : l[j]? = some u) : l.drop j = u :: l.drop (j + 1) := by
 obtain ⟨h1, h2⟩ := List.getElem?_eq_some_iff.1 h
 rw [List.drop_eq_getElem_cons h1, h2]
end

theorem tyK_unf (e : TypeId) (l : List MTy) : tyK e l = .t e 2 l.length (tyRows e l) := rfl
theorem tmK_unf (et em : TypeId) (l : List MTm) : tmK et em l = .t em 9 l.length (tmRows et em l) := rfl
def mT (l : List MTy) (k j : Nat) : List MTy := markS (l.take j) k ++ l.drop j
theorem mT_zero (l : List MTy) (k : Nat) : mT l k 0 = l := by simp [mT, markS]
theorem mT_all (l : List MTy) (k : Nat) : mT l k l.length = markS l k := by simp [mT]
theorem mT_len (l : List MTy) (k j : Nat) : (mT l k j).length = l.length := by simp only [mT, List.length_append, markS_len, List.length_take, List.length_drop]; omega
theorem mT_at {l : List MTy} {k j : Nat} {u : MTy} (h : l[j]? = some u) : (mT l k j)[j]? = some u := by
 have hj := (List.getElem?_eq_some_iff.1 h).1
 have e : (markS (l.take j) k).length = j := by rw [markS_len, List.length_take]; omega
 rw [mT, List.getElem?_append_right (by omega), e, Nat.sub_self, drop_of h]; rfl
theorem mT_succ {l : List MTy} {k j : Nat} {u : MTy} (h : l[j]? = some u) : mT l k (j + 1) = (mT l k j).set j (markR u (k + nTyS (l.take j))) := by
 have hj := (List.getElem?_eq_some_iff.1 h).1
 have e : (markS (l.take j) k).length = j := by rw [markS_len, List.length_take]; omega
 rw [mT, mT, take_succ_of h, markS_append, drop_of h, List.set_append_right _ _ (by omega), e, Nat.sub_self, List.set_cons_zero, List.append_assoc]
 simp [markS]
theorem nTyS_take_succ {l : List MTy} {j : Nat} {u : MTy} (h : l[j]? = some u) : nTyS (l.take (j + 1)) = nTyS (l.take j) + 1 + nTyS u.kids := by
 rw [take_succ_of h, nTyS_append, nTyS_cons]; simp [nTyS]; omega
theorem nTyS_take_le (l : List MTy) (j : Nat) : nTyS (l.take j) <= nTyS l := by
 conv => rhs; rw [<- List.take_append_drop j l, nTyS_append]
 omega

def mM (l : List MTm) (k j : Nat) : List MTm := markSm (l.take j) k ++ l.drop j
theorem mM_zero (l : List MTm) (k : Nat) : mM l k 0 = l := by simp [mM, markSm]
theorem mM_all (l : List MTm) (k : Nat) : mM l k l.length = markSm l k := by simp [mM]
theorem mM_len (l : List MTm) (k j : Nat) : (mM l k j).length = l.length := by simp only [mM, List.length_append, markSm_len, List.length_take, List.length_drop]; omega
theorem mM_at {l : List MTm} {k j : Nat} {u : MTm} (h : l[j]? = some u) : (mM l k j)[j]? = some u := by
 have hj := (List.getElem?_eq_some_iff.1 h).1
 have e : (markSm (l.take j) k).length = j := by rw [markSm_len, List.length_take]; omega
 rw [mM, List.getElem?_append_right (by omega), e, Nat.sub_self, drop_of h]; rfl
theorem mM_succ {l : List MTm} {k j : Nat} {u : MTm} (h : l[j]? = some u) : mM l k (j + 1) = (mM l k j).set j (markRm u (k + cTmS (l.take j))) := by
 have hj := (List.getElem?_eq_some_iff.1 h).1
 have e : (markSm (l.take j) k).length = j := by rw [markSm_len, List.length_take]; omega
 rw [mM, mM, take_succ_of h, markSm_append, drop_of h, List.set_append_right _ _ (by omega), e, Nat.sub_self, List.set_cons_zero, List.append_assoc]
 simp [markSm]
theorem cTmS_take_succ {l : List MTm} {j : Nat} {u : MTm} (h : l[j]? = some u) : cTmS (l.take (j + 1)) = cTmS (l.take j) + cTm u := by
 rw [take_succ_of h, cTmS_append]; simp [cTmS]
theorem cTmS_take_le (l : List MTm) (j : Nat) : cTmS (l.take j) <= cTmS l := by
 conv => rhs; rw [<- List.take_append_drop j l, cTmS_append]
 omega
theorem cTmS_len : ∀ (l : List MTm), l.length <= cTmS l
 | [] => by simp
 | t :: r => by have := cTmS_len r; rw [cTmS, cTm_def, List.length_cons]; omega
end Go.Av

namespace Go.Av
attribute [-simp] Go.Av.astepJ Go.Av.relC Go.Av.relL Go.Av.relV Go.Av.relVs Go.Av.callJ
open Go

abbrev rIn (l : List Int) : List (List DV) := l.map fun n => [DV.i n]
def inRows : List Int -> List GC
 | [] => []
 | n :: r => .d (.i n) :: inRows r
def inK (e : TypeId) (l : List Int) : GC := .t e 1 l.length (inRows l)
def seqI (k : Nat) : Nat -> List Int
 | 0 => []
 | n + 1 => seqI k n ++ [((k + n : Nat) : Int)]
def mI (l : List Int) (k j : Nat) : List Int := seqI k j ++ l.drop j
end Go.Av
