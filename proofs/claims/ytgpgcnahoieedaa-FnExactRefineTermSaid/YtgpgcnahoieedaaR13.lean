/- A part of the library of this seat. -/
import Derived.Test.YtgpgcnahoieedaaR12
set_option linter.unusedVariables false
set_option linter.unusedSimpArgs false
namespace Go.Av
attribute [-simp] Go.Av.freeStepG Go.Av.exA Go.Av.innAsH Go.Av.AV.innH Go.Av.CV.innH Go.Av.innHs Go.Av.AV.outnH Go.Av.CV.outnH Go.Av.astepJ Go.Av.relC Go.Av.relL Go.Av.relV Go.Av.relVs Go.Av.callJ
open Go
theorem subs_len {α : Type} (f : α -> List α) : ∀ l : List α, (subsM f l).length = (l.map fun x => (f x).length).sum
 | [] => rfl
 | x :: r => by simp [subsM, subs_len f r]
theorem refined_len (t : MTy) : (refinedM t).length <= 4 * (nTy t + 1) := by
 induction t using MTy.ind with
 | h t ih =>
  rw [refinedM_def]
  split
  ·simp; omega
  ·rw [List.length_map, subs_len, nTy_def]
   have : ∀ l : List MTy, (∀ u ∈ l, (refinedM u).length <= 4 * (nTy u + 1)) -> (l.map fun x => (refinedM x).length).sum <= 4 * nTyS l := by
    intro l
    induction l with
    | nil => intro _; simp
    | cons u r ih =>
     intro h
     have h1 := h u (by simp)
     have h2 := ih fun v hv => h v (by simp [hv])
     simp only [List.map_cons, List.sum_cons, nTyS]; omega
   have := this t.kids ih
   omega
theorem nTyS_set : ∀ {l : List MTy} {i : Nat} {x y : MTy}, l[i]? = some x -> nTy y <= nTy x + 2 -> nTyS (l.set i y) <= nTyS l + 2
 | [], i, x, y, h, _ => by simp at h
 | a :: r, 0, x, y, h, hn => by simp at h; subst h; simp only [List.set_cons_zero, nTyS]; omega
 | a :: r, i + 1, x, y, h, hn => by
  simp at h
  have := nTyS_set h hn
  simp only [List.set_cons_succ, nTyS]; omega
theorem refined_nTy {t : MTy} : ∀ {u : MTy}, u ∈ refinedM t -> nTy u <= nTy t + 2 := by
 induction t using MTy.ind with
 | h t ih =>
  intro u hu
  rw [refinedM_def] at hu
  split at hu
  ·simp only [List.mem_cons, List.not_mem_nil, or_false] at hu
   rcases hu with rfl | rfl | rfl | rfl <;> simp [nTy_mk, nTyS]
  ·simp only [List.mem_map] at hu
   obtain ⟨m, hm, rfl⟩ := hu
   obtain ⟨i, x, y, h1, h2, rfl⟩ := subs_mem hm
   rw [nTy_mk, nTy_def t]
   exact nTyS_set h1 (ih x (List.mem_of_getElem? h1) h2)
theorem shape_nTyP : ∀ {d : Nat} {t : MTy}, VTy d t -> nTy t + 2 <= 2 ^ d := by
 intro d t h
 induction h with
 | any d => have : 0 < 2 ^ d := Nat.two_pow_pos d; simp only [nTy_mk, nTyS, Nat.pow_succ]; omega
 | int d => have : 0 < 2 ^ d := Nat.two_pow_pos d; simp only [nTy_mk, nTyS, Nat.pow_succ]; omega
 | bool d => have : 0 < 2 ^ d := Nat.two_pow_pos d; simp only [nTy_mk, nTyS, Nat.pow_succ]; omega
 | fn _ _ h1 h2 => simp only [nTy_mk, nTyS, Nat.pow_succ]; omega
 | pair _ _ h1 h2 => simp only [nTy_mk, nTyS, Nat.pow_succ]; omega
theorem refTy_small (t : MTy) : (refTyM t).length <= 60 := by
 rw [refTyM]
 split
 ·rename_i h
  have h1 := shape_nTyP (VTy.of h)
  have h2 := refined_len t
  have h3 := List.length_filter_le (shapeTy 4) (refinedM t)
  omega
 ·simp
theorem subs_le {α : Type} (f : α -> List α) (n : Nat) (h : ∀ x, (f x).length <= n) : ∀ l : List α, (subsM f l).length <= n * l.length
 | [] => by simp [subsM]
 | x :: r => by
  have h1 := h x
  have h2 := subs_le f n h r
  simp only [subsM, List.length_append, List.length_map, List.length_cons, Nat.mul_add, Nat.mul_one]; omega
def keepM (e : MTm) (m : Nat) (L : List (List MTy)) : List MTm := ((L.map (withM e)).filter typedB).take m
theorem keep_nil (e : MTm) (m : Nat) : keepM e m [] = [] := by simp [keepM]
theorem keep_len (e : MTm) (m : Nat) (L : List (List MTy)) : (keepM e m L).length <= m := by simp [keepM]; omega
theorem keep_yes {e : MTm} {m : Nat} {L : List (List MTy)} {c : List MTy} (h : typedB (withM e c) = true) (hl : (keepM e m L).length < m) : keepM e m (L ++ [c]) = keepM e m L ++ [withM e c] := by
 simp only [keepM, List.length_take] at hl
 simp only [keepM, List.map_append, List.map_cons, List.map_nil, List.filter_append]
 rw [show List.filter typedB [withM e c] = [withM e c] by simp [h]]
 rw [List.take_of_length_le (l := List.filter typedB (List.map (withM e) L)) (by omega), List.take_of_length_le (by simp; omega)]
theorem keep_no {e : MTm} {m : Nat} {L : List (List MTy)} {c : List MTy} (h : typedB (withM e c) = false) : keepM e m (L ++ [c]) = keepM e m L := by
 simp [keepM, List.filter_append, h]
theorem keep_full {e : MTm} {m : Nat} {L : List (List MTy)} {c : List MTy} (hl : ¬ (keepM e m L).length < m) : keepM e m (L ++ [c]) = keepM e m L := by
 simp only [keepM, List.length_take] at hl
 simp only [keepM, List.map_append, List.filter_append]
 rw [List.take_append_of_le_length (by omega)]
theorem keep_refine (e : MTm) (m : Nat) : keepM e m (candM (typesM e)) = (refineM e).take m := rfl
theorem refine_small {e : MTm} (hv : termValidM e = true) : (refineM e).length <= 1800 /\ (typesM e).length <= 30 := by
 have h1 := (sumW_le hv).2
 have h2 := subs_le refTyM 60 refTy_small (typesM e)
 have h3 := List.length_filter_le typedB ((candM (typesM e)).map (withM e))
 rw [refineM]
 rw [List.length_map] at h3
 simp only [candM] at *
 omega
theorem cand_valid {e : MTm} (hv : termValidM e = true) {i : Nat} {t y : MTy} (h1 : (typesM e)[i]? = some t) (h2 : y ∈ refTyM t) : termValidM (withM e ((typesM e).set i y)) = true /\ (∀ u ∈ (typesM e).set i y, shapeTy 4 u = true) := by
 obtain ⟨hvt, hvn⟩ := termValidM_iff.1 hv
 obtain ⟨hsh, hln⟩ := hvt.types
 have hs2 : ∀ u ∈ (typesM e).set i y, shapeTy 4 u = true := fun u hu => by
  rcases List.mem_or_eq_of_mem_set hu with hu | rfl
  ·exact hsh u hu
  ·exact (refTy_shape h2).2
 obtain ⟨h6, h7⟩ := hvt.withM hs2
 exact ⟨termValidM_iff.2 ⟨h6, by omega⟩, hs2⟩
def fltM (e : MTm) (L : List (List MTy)) : List MTm := (L.map (withM e)).filter typedB
theorem flt_nil (e : MTm) : fltM e [] = [] := rfl
theorem flt_len (e : MTm) (L : List (List MTy)) : (fltM e L).length <= L.length := by
 have := List.length_filter_le typedB (L.map (withM e)); rwa [List.length_map] at this
theorem flt_yes {e : MTm} {L : List (List MTy)} {c : List MTy} (h : typedB (withM e c) = true) : fltM e (L ++ [c]) = fltM e L ++ [withM e c] := by
 simp [fltM, List.filter_append, h]
theorem flt_no {e : MTm} {L : List (List MTy)} {c : List MTy} (h : typedB (withM e c) = false) : fltM e (L ++ [c]) = fltM e L := by
 simp [fltM, List.filter_append, h]
theorem flt_refine (e : MTm) : fltM e (candM (typesM e)) = refineM e := rfl
theorem steps_len {d : Nat} {t : MTy} (h : VTy d t) : (stepsM d t).length <= 4 * (nTy t + 1) := by
 rw [<- steps_filter h]
 exact Nat.le_trans (List.length_filter_le _ _) (refined_len t)
def refineTm (e : MTm) : List MTm := if termValidM e = true then refineM e else []
def migrateM (e : MTm) : MTm := migM (15 * (typesM e).length + 1 - sumW e) e
end Go.Av
