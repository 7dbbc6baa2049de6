/- A part of the library of this seat: a value-semantic program logic over the model, plain models, and walks of functions. -/
import Derived.Test.YtbakdfnmippcoaaGreatC17
set_option linter.unusedVariables false
set_option linter.unusedSimpArgs false
namespace Go.Av
attribute [-simp] Go.Av.astepJ Go.Av.relC Go.Av.relL Go.Av.relV Go.Av.relVs Go.Av.callJ
open Go

def blurL : List MTy → Nat → List MTy
  | [], _ => []
  | t :: r, m => (if m % 2 = 1 then anyT else t) :: blurL r (m / 2)
theorem blurL_len : ∀ (l : List MTy) (m : Nat), (blurL l m).length = l.length
  | [], _ => rfl
  | t :: r, m => by rw [blurL, List.length_cons, blurL_len r, List.length_cons]
theorem blurL_at : ∀ {l : List MTy} {m i : Nat} {t : MTy}, l[i]? = some t → (blurL l m)[i]? = some (if m / 2 ^ i % 2 = 1 then anyT else t)
  | [], m, i, t, h => by simp at h
  | x :: r, m, i, t, h => by
    cases i with
    | zero => simp at h; subst h; simp [blurL]
    | succ i =>
      simp at h
      rw [blurL, List.getElem?_cons_succ, blurL_at h, Nat.div_div_eq_div_mul, Nat.pow_succ, Nat.mul_comm]
theorem blurL_shape : ∀ {l : List MTy} {m : Nat}, (∀ t ∈ l, shapeTy 4 t = true) → ∀ t ∈ blurL l m, shapeTy 4 t = true
  | [], m, _, t, h => by simp [blurL] at h
  | x :: r, m, hs, t, h => by
    rw [blurL] at h
    rcases List.mem_cons.1 h with rfl | h
    · split
      · rfl
      · exact hs x (by simp)
    · exact blurL_shape (fun u hu => hs u (by simp [hu])) t h
/-- The list while it is blurred from the front. -/
def blurK (l : List MTy) (m j : Nat) : List MTy := (blurL l m).take j ++ l.drop j
theorem blurK_zero (l : List MTy) (m : Nat) : blurK l m 0 = l := by simp [blurK]
theorem blurK_all (l : List MTy) (m : Nat) : blurK l m l.length = blurL l m := by
  rw [blurK, List.drop_length, List.append_nil, ← blurL_len l m, List.take_length]
theorem blurK_len {l : List MTy} {m j : Nat} (h : j ≤ l.length) : (blurK l m j).length = l.length := by
  rw [blurK, List.length_append, List.length_take, blurL_len, List.length_drop]; omega
theorem blurK_succ {l : List MTy} {m j : Nat} {t : MTy} (h : l[j]? = some t) : blurK l m (j + 1) = (blurK l m j).set j (if m / 2 ^ j % 2 = 1 then anyT else t) := by
  have hj := (List.getElem?_eq_some_iff.1 h).1
  have e : ((blurL l m).take j).length = j := by rw [List.length_take, blurL_len]; omega
  rw [blurK, blurK, take_succ_of (blurL_at h), drop_of h, List.set_append_right _ _ (by omega), e, Nat.sub_self, List.set_cons_zero, List.append_assoc]
  rfl
theorem blurK_at {l : List MTy} {m j : Nat} {t : MTy} (h : l[j]? = some t) : (blurK l m j)[j]? = some t := by
  have hj := (List.getElem?_eq_some_iff.1 h).1
  have e : ((blurL l m).take j).length = j := by rw [List.length_take, blurL_len]; omega
  rw [blurK, List.getElem?_append_right (by omega), e, Nat.sub_self, drop_of h]; rfl
theorem blurK_keep {l : List MTy} {m j : Nat} {t : MTy} (h : l[j]? = some t) (hb : ¬ m / 2 ^ j % 2 = 1) : blurK l m (j + 1) = blurK l m j := by
  rw [blurK_succ h, if_neg hb]
  apply List.ext_getElem?
  intro i
  rw [List.getElem?_set]
  split
  · rename_i e; subst e
    split
    · rw [blurK_at h]
    · rename_i hl; rw [List.getElem?_eq_none (by omega)]
  · rfl

def blurM (e : MTm) (m : Nat) : MTm := withM e (blurL (typesM e) m)
theorem blur_valid {e : MTm} (hv : termValidM e = true) (m : Nat) : termValidM (blurM e m) = true := by
  obtain ⟨hvt, hvn⟩ := termValidM_iff.1 hv
  obtain ⟨hsh, hln⟩ := hvt.types
  obtain ⟨h6, h7⟩ := hvt.withM (blurL_shape (m := m) hsh)
  rw [blurM]
  exact termValidM_iff.2 ⟨h6, by omega⟩

theorem bit_and : ∀ m < 64, ∀ i < 6, bitI .and .i64 (((m : Nat) : Int).fdiv (2 ^ min i 64)) 1 = ((m / 2 ^ i % 2 : Nat) : Int) := by decide +kernel
theorem shl_one : ∀ n < 7, IntKind.i64.wrap (2 ^ min n 64) = ((2 ^ n : Nat) : Int) := by decide +kernel

mutual
/-- How many casts a term has. -/
def ctM : MTm → Nat
  | .mk k _ _ _ _ _ l => (if k = 14 then 1 else 0) + ctS l
def ctS : List MTm → Nat
  | [] => 0
  | e :: r => ctM e + ctS r
end
mutual
theorem casts_cnt : ∀ (e : MTm), (castsM e).length = ctM e
  | .mk k s n t f b l => by
    have := casts_cntS l
    rw [castsM, ctM, List.length_append, this]
    split <;> rfl
theorem casts_cntS : ∀ (l : List MTm), (castsS l).length = ctS l
  | [] => rfl
  | e :: r => by rw [castsS, ctS, List.length_append, casts_cnt e, casts_cntS r]
end
mutual
theorem cnt_le : ∀ (e : MTm), ctM e ≤ nTm e + 1
  | .mk k s n t f b l => by
    have := cnt_leS l
    rw [ctM, nTm_mk]
    split <;> omega
theorem cnt_leS : ∀ (l : List MTm), ctS l ≤ nTmS l
  | [] => by simp [ctS]
  | e :: r => by
    have h1 := cnt_le e
    have h2 := cnt_leS r
    rw [ctS, nTmS]; omega
end
end Go.Av
