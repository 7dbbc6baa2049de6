/- The models of the program's types and terms, and how they lie in rows of cells. No program in sight. -/
import Derived.Test.YtdbffbmbbfbamaaA16
namespace Go.Av
open Go

inductive MTy where
  | mk (kind : Int) (kids : List MTy)
def MTy.kind : MTy → Int | .mk k _ => k
def MTy.kids : MTy → List MTy | .mk _ l => l

inductive MTm where
  | mk (kind : Int) (name : List UInt8) (num : Int) (ty fr : MTy) (label : Int) (kids : List MTm)
def MTm.kind : MTm → Int | .mk k _ _ _ _ _ _ => k
def MTm.name : MTm → List UInt8 | .mk _ s _ _ _ _ _ => s
def MTm.num : MTm → Int | .mk _ _ n _ _ _ _ => n
def MTm.ty : MTm → MTy | .mk _ _ _ t _ _ _ => t
def MTm.fr : MTm → MTy | .mk _ _ _ _ t _ _ => t
def MTm.label : MTm → Int | .mk _ _ _ _ _ l _ => l
def MTm.kids : MTm → List MTm | .mk _ _ _ _ _ _ l => l

@[simp] theorem MTy.kind_mk (k : Int) (l : List MTy) : (MTy.mk k l).kind = k := rfl
@[simp] theorem MTy.kids_mk (k : Int) (l : List MTy) : (MTy.mk k l).kids = l := rfl
section
variable (k : Int) (s : List UInt8) (n : Int) (t f : MTy) (b : Int) (l : List MTm)
@[simp] theorem MTm.kind_mk : (MTm.mk k s n t f b l).kind = k := rfl
@[simp] theorem MTm.name_mk : (MTm.mk k s n t f b l).name = s := rfl
@[simp] theorem MTm.num_mk : (MTm.mk k s n t f b l).num = n := rfl
@[simp] theorem MTm.ty_mk : (MTm.mk k s n t f b l).ty = t := rfl
@[simp] theorem MTm.fr_mk : (MTm.mk k s n t f b l).fr = f := rfl
@[simp] theorem MTm.label_mk : (MTm.mk k s n t f b l).label = b := rfl
@[simp] theorem MTm.kids_mk : (MTm.mk k s n t f b l).kids = l := rfl
end

mutual
def eTy : MTy → List DV
  | .mk k l => [.i k, .sl (eTyS l)]
def eTyS : List MTy → List (List DV)
  | [] => []
  | t :: r => eTy t :: eTyS r
end
theorem eTyS_map : ∀ (l : List MTy), eTyS l = l.map eTy
  | [] => rfl
  | t :: r => by simp [eTyS, eTyS_map r]
theorem eTy_def (t : MTy) : eTy t = [.i t.kind, .sl (t.kids.map eTy)] := by
  cases t; simp [eTy, eTyS_map]

mutual
def eTm : MTm → List DV
  | .mk k s n t f l kids => [.i k, .str s, .i n, .i t.kind, .sl (t.kids.map eTy), .i f.kind, .sl (f.kids.map eTy), .i l, .sl (eTmS kids)]
def eTmS : List MTm → List (List DV)
  | [] => []
  | t :: r => eTm t :: eTmS r
end
theorem eTmS_map : ∀ (l : List MTm), eTmS l = l.map eTm
  | [] => rfl
  | t :: r => by simp [eTmS, eTmS_map r]
theorem eTm_def (e : MTm) : eTm e = [.i e.kind, .str e.name, .i e.num, .i e.ty.kind, .sl (e.ty.kids.map eTy), .i e.fr.kind, .sl (e.fr.kids.map eTy), .i e.label, .sl (e.kids.map eTm)] := by
  cases e; simp [eTm, eTmS_map]

/-- As values. -/
abbrev aTy (t : MTy) : AV := .agg [.d (.i t.kind), .d (.sl (t.kids.map eTy))]
abbrev aTm (e : MTm) : AV := .agg [.d (.i e.kind), .d (.str e.name), .d (.i e.num), .d (.i e.ty.kind), .d (.sl (e.ty.kids.map eTy)), .d (.i e.fr.kind), .d (.sl (e.fr.kids.map eTy)), .d (.i e.label), .d (.sl (e.kids.map eTm))]

/- How many nodes lie below a node. -/
mutual
def nTy : MTy → Nat
  | .mk _ l => nTyS l
def nTyS : List MTy → Nat
  | [] => 0
  | t :: r => 1 + nTy t + nTyS r
end
mutual
def nTm : MTm → Nat
  | .mk _ s _ t f _ kids => s.length + nTy t + nTy f + nTmS kids
def nTmS : List MTm → Nat
  | [] => 0
  | e :: r => 1 + nTm e + nTmS r
end
theorem nTy_def (t : MTy) : nTy t = nTyS t.kids := by cases t; simp [nTy]
theorem nTm_def (e : MTm) : nTm e = e.name.length + nTy e.ty + nTy e.fr + nTmS e.kids := by cases e; simp [nTm]

theorem nTyS_len : ∀ (l : List MTy), l.length ≤ nTyS l
  | [] => by simp [nTyS]
  | t :: r => by have := nTyS_len r; simp [nTyS]; omega
theorem nTmS_len : ∀ (l : List MTm), l.length ≤ nTmS l
  | [] => by simp [nTmS]
  | t :: r => by have := nTmS_len r; simp [nTmS]; omega
theorem nTyS_mem : ∀ {l : List MTy} {t : MTy}, t ∈ l → nTy t < nTyS l
  | x :: r, t, h => by
    simp only [List.mem_cons] at h
    simp only [nTyS]
    rcases h with rfl | h
    · omega
    · have := nTyS_mem h; omega
theorem nTmS_mem : ∀ {l : List MTm} {e : MTm}, e ∈ l → nTm e < nTmS l
  | x :: r, t, h => by
    simp only [List.mem_cons] at h
    simp only [nTmS]
    rcases h with rfl | h
    · omega
    · have := nTmS_mem h; omega

/-- What the first i of a row's nodes weigh, beyond one each. -/
def sumTy (l : List MTy) : Nat := (l.map nTy).sum
def sumTm (l : List MTm) : Nat := (l.map nTm).sum
theorem nTyS_sum : ∀ (l : List MTy), nTyS l = l.length + sumTy l
  | [] => by simp [nTyS, sumTy]
  | t :: r => by have := nTyS_sum r; simp [nTyS, sumTy] at *; omega
theorem nTmS_sum : ∀ (l : List MTm), nTmS l = l.length + sumTm l
  | [] => by simp [nTmS, sumTm]
  | t :: r => by have := nTmS_sum r; simp [nTmS, sumTm] at *; omega
theorem sumTy_take {l : List MTy} {i : Nat} {t : MTy} (h : l[i]? = some t) : sumTy (l.take (i + 1)) = sumTy (l.take i) + nTy t := by
  simp [sumTy, List.take_add_one, h]
theorem sumTm_take {l : List MTm} {i : Nat} {t : MTm} (h : l[i]? = some t) : sumTm (l.take (i + 1)) = sumTm (l.take i) + nTm t := by
  simp [sumTm, List.take_add_one, h]
theorem sum_take_le : ∀ (l : List Nat) (i : Nat), (l.take i).sum ≤ l.sum
  | [], i => by simp
  | x :: r, 0 => by simp
  | x :: r, i + 1 => by have := sum_take_le r i; simp; omega
theorem sumTy_le (l : List MTy) (i : Nat) : sumTy (l.take i) ≤ sumTy l := by
  have := sum_take_le (l.map nTy) i
  simpa [sumTy] using this
theorem sumTm_le (l : List MTm) (i : Nat) : sumTm (l.take i) ≤ sumTm l := by
  have := sum_take_le (l.map nTm) i
  simpa [sumTm] using this

/- No row is longer than any Go slice. -/
mutual
def wTy : MTy → Prop
  | .mk _ l => l.length ≤ 9223372036854775807 ∧ wTyS l
def wTyS : List MTy → Prop
  | [] => True
  | t :: r => wTy t ∧ wTyS r
end
mutual
def wTm : MTm → Prop
  | .mk _ s _ t f _ kids => s.length ≤ 9223372036854775807 ∧ wTy t ∧ wTy f ∧ kids.length ≤ 9223372036854775807 ∧ wTmS kids
def wTmS : List MTm → Prop
  | [] => True
  | e :: r => wTm e ∧ wTmS r
end
theorem wTyS_mem : ∀ {l : List MTy} {t : MTy}, wTyS l → t ∈ l → wTy t
  | x :: r, t, h, hm => by
    simp only [wTyS] at h
    simp only [List.mem_cons] at hm
    rcases hm with rfl | hm
    · exact h.1
    · exact wTyS_mem h.2 hm
theorem wTmS_mem : ∀ {l : List MTm} {t : MTm}, wTmS l → t ∈ l → wTm t
  | x :: r, t, h, hm => by
    simp only [wTmS] at h
    simp only [List.mem_cons] at hm
    rcases hm with rfl | hm
    · exact h.1
    · exact wTmS_mem h.2 hm
theorem wTy_def (t : MTy) : wTy t = (t.kids.length ≤ 9223372036854775807 ∧ wTyS t.kids) := by cases t; simp [wTy]
theorem wTm_def (e : MTm) : wTm e = (e.name.length ≤ 9223372036854775807 ∧ wTy e.ty ∧ wTy e.fr ∧ e.kids.length ≤ 9223372036854775807 ∧ wTmS e.kids) := by cases e; simp [wTm]

/-- What a size function answers. -/
def szM (n : Nat) (left : Int) : Int := if (n : Int) ≤ left then left - n else -1
end Go.Av
