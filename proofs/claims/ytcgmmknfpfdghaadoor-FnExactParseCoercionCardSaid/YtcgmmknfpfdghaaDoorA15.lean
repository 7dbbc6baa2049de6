/- A part of the library of this seat. -/
import Derived.Test.YtcgmmknfpfdghaaDoorA14
import Derived.Lib.ItoaNum
set_option linter.unusedVariables false
set_option linter.unusedSimpArgs false
namespace Go.Av
attribute [-simp] Go.Av.MCo.kind_mk Go.Av.MCo.tag_mk Go.Av.MCo.label_mk Go.Av.MCo.kids_mk Go.Av.astepJ Go.Av.relC Go.Av.relL Go.Av.relV Go.Av.relVs Go.Av.callJ
open Go

mutual
def markR : MTy -> Nat -> MTy
 | .mk _ l, k => .mk k (markS l (k + 1))
def markS : List MTy -> Nat -> List MTy
 | [], _ => []
 | t :: r, k => markR t k :: markS r (k + 1 + nTyS t.kids)
end
def mText (k : Nat) : List UInt8 := 109 :: Lib.decDigits k
mutual
def cTm : MTm -> Nat
 | .mk _ _ _ t f _ l => 6 + nTyS t.kids + nTyS f.kids + cTmS l
def cTmS : List MTm -> Nat
 | [] => 0
 | t :: r => cTm t + cTmS r
end
mutual
def markRm : MTm -> Nat -> MTm
 | .mk _ _ _ t f _ l, k => .mk k (mText (k + 1)) ((k + 2 : Nat) : Int) (.mk ((k + 3 : Nat) : Int) (markS t.kids (k + 4))) (.mk ((k + 4 + nTyS t.kids : Nat) : Int) (markS f.kids (k + 5 + nTyS t.kids)))
   ((k + 5 + nTyS t.kids + nTyS f.kids : Nat) : Int) (markSm l (k + 6 + nTyS t.kids + nTyS f.kids))
def markSm : List MTm -> Nat -> List MTm
 | [], _ => []
 | t :: r, k => markRm t k :: markSm r (k + cTm t)
end
end Go.Av

namespace Go.Av
attribute [-simp] Go.Av.MCo.kind_mk Go.Av.MCo.tag_mk Go.Av.MCo.label_mk Go.Av.MCo.kids_mk Go.Av.astepJ Go.Av.relC Go.Av.relL Go.Av.relV Go.Av.relVs Go.Av.callJ
open Go

section
variable {α β γ : Type}
theorem perm_out {l : List α} {j : Nat} {x : α} (h : l[j]? = some x) : l.Perm ([x] ++ l.eraseIdx j) := by
 induction l generalizing j with
 | nil => simp at h
 | cons a r ih =>
  cases j with
  | zero => simp at h; subst h; exact .refl _
  | succ j =>
   simp at h
   exact (List.Perm.cons a (ih h)).trans (List.Perm.swap x a _)
theorem perm_in {l : List α} {j : Nat} (y : α) (h : j < l.length) : ([y] ++ l.eraseIdx j).Perm (l.set j y) := by
 have h1 : (l.set j y)[j]? = some y := by simp [h]
 have h2 := perm_out h1
 have e : (l.set j y).eraseIdx j = l.eraseIdx j := List.eraseIdx_set_eq
 rw [e] at h2
 exact h2.symm
theorem zipWith_set1 {f : α -> β -> γ} {l : List α} {vs : List β} {j : Nat} {v : β} (hv : vs[j]? = some v) (u : α) : (List.zipWith f l vs).set j (f u v) = List.zipWith f (l.set j u) vs := by
 apply List.ext_getElem?
 intro i
 rw [List.getElem?_set]
 simp only [List.getElem?_zipWith, List.getElem?_set, List.length_zipWith]
 by_cases e : j = i
 ·subst e
  have hj := (List.getElem?_eq_some_iff.1 hv).1
  simp only [if_true, hv]
  by_cases h : j < l.length
  ·rw [if_pos (by omega), if_pos h]
  ·rw [if_neg (by omega), if_neg h]
 ·rw [if_neg e, if_neg e]
theorem zipWith_at {f : α -> β -> γ} {l : List α} {vs : List β} {j : Nat} {u : α} {v : β} (hu : l[j]? = some u) (hv : vs[j]? = some v) : (List.zipWith f l vs)[j]? = some (f u v) := by
 simp [List.getElem?_zipWith, hu, hv]
theorem take_succ_of {l : List α} {j : Nat} {u : α} (h : l[j]? = some u) : l.take (j + 1) = l.take j ++ [u] := by rw [List.take_add_one, h]; rfl
theorem drop_of {l : List α} {j : Nat} {u : α} (h : l[j]? = some u) : l.drop j = u :: l.drop (j + 1) := by
 obtain ⟨h1, h2⟩ := List.getElem?_eq_some_iff.1 h
 rw [List.drop_eq_getElem_cons h1, h2]
end

def mT (l : List MTy) (k j : Nat) : List MTy := markS (l.take j) k ++ l.drop j
def mM (l : List MTm) (k j : Nat) : List MTm := markSm (l.take j) k ++ l.drop j
end Go.Av
