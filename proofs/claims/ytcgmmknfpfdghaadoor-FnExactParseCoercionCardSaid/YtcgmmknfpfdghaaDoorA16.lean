/- A part of the library of this seat. -/
import Derived.Test.YtcgmmknfpfdghaaDoorA15
set_option linter.unusedVariables false
set_option linter.unusedSimpArgs false
namespace Go.Av
attribute [-simp] Go.Av.MCo.kind_mk Go.Av.MCo.tag_mk Go.Av.MCo.label_mk Go.Av.MCo.kids_mk Go.Av.astepJ Go.Av.relC Go.Av.relL Go.Av.relV Go.Av.relVs Go.Av.callJ
open Go

def formatTmM (e : MTm) : List UInt8 := if termValidM e = true then tmTextF 12 e else []
def formatCaM (e : MTm) : List UInt8 := if castValidM e = true then tmTextF 40 e else []

def pairB : List UInt8 := [112, 97, 105, 114]
def funB : List UInt8 := [102, 117, 110, 99, 116, 105, 111, 110]
def valTextF : Nat -> MTm -> List UInt8
 | 0, _ => []
 | d + 1, .mk k s n t f l kids =>
  if decide (k = 10) || (proxyM (.mk k s n t f l []) && decide (t.kind = 5)) then pairB
  else if decide (k = 5) || proxyM (.mk k s n t f l []) then funB
  else match kids with
   | [a] => valTextF d a
   | _ => if k = 2 then Lib.itoa n else if k = 3 then [84] else [70]
section
variable (d : Nat)
end
def valueTextM (e : MTm) : List UInt8 := if (castValidM e && valM e) = true then valTextF 40 e else []
end Go.Av

namespace Go.Av
attribute [-simp] Go.Av.MCo.kind_mk Go.Av.MCo.tag_mk Go.Av.MCo.label_mk Go.Av.MCo.kids_mk Go.Av.astepJ Go.Av.relC Go.Av.relL Go.Av.relV Go.Av.relVs Go.Av.callJ
open Go
theorem catLe {α : Type} {n m : Nat} [inst : Decidable (n <= m)] {a b : α} (h : n <= m) : (if n <= m then a else b) = a := if_pos h

theorem dec_len_le : ∀ n : Nat, n <= 9999 -> (Lib.decDigits n).length <= 4 := by
 intro n hn
 by_cases h1 : 9 < n
 ·rw [decDigits_step h1]
  by_cases h2 : 9 < n / 10
  ·rw [decDigits_step h2]
   by_cases h3 : 9 < n / 10 / 10
   ·rw [decDigits_step h3]
    rw [decDigits_small (by omega)]; simp
   ·rw [decDigits_small (by omega)]; simp
  ·rw [decDigits_small (by omega)]; simp
 ·rw [decDigits_small (by omega)]; simp
theorem itoa_len_le {n : Int} (h0 : -9999 <= n) (h1 : n <= 9999) : (Lib.itoa n).length <= 5 := by
 rw [Lib.itoa]
 split
 ·have := dec_len_le n.natAbs (by omega); simp; omega
 ·have := dec_len_le n.toNat (by omega); omega
theorem lab_bound {l : Int} (h : labM l = true) : -99 <= l /\ l <= 99 := by
 simp only [labM, inM, Bool.or_eq_true, Bool.and_eq_true, decide_eq_true_eq] at h
 omega
end Go.Av

namespace Go.Av
attribute [-simp] Go.Av.astepJ Go.Av.relC Go.Av.relL Go.Av.relV Go.Av.relVs Go.Av.callJ
open Go

def coKidsM (k : Int) : Int := if k = 1 \/ k = 6 then 0 else if k = 4 \/ k = 5 then 1 else if k = 2 \/ k = 3 then 2 else -1
def anyCo (c : MCo) : Bool := decide (c.kind = 1) && decide (c.tag = 1)
theorem shapeCo_def (d : Nat) (c : MCo) : shapeCo (d + 1) c = (c.kids.all (shapeCo d) && coNode c) := by cases c; rfl
theorem coNode_bad {k t b : Int} {l : List MCo} (h : ¬ coKidsM k = l.length) : coNode (.mk k t b l) = false := by
 have hx : ∀ m : Int, k = m -> ¬ coKidsM m = l.length := fun m e => e ▸ h
 match l with
 | [] =>
  have h1 : ¬ k = 1 := fun e => hx 1 e rfl
  have h6 : ¬ k = 6 := fun e => hx 6 e rfl
  simp [coNode, h1, h6]
 | [x] =>
  have h1 : ¬ k = 4 := fun e => hx 4 e rfl
  have h6 : ¬ k = 5 := fun e => hx 5 e rfl
  simp [coNode, h1, h6]
 | [x, y] =>
  have h1 : ¬ k = 2 := fun e => hx 2 e rfl
  have h6 : ¬ k = 3 := fun e => hx 3 e rfl
  simp [coNode, h1, h6]
 | _ :: _ :: _ :: _ => rfl
theorem coKids_cases {k : Int} {l : List MCo} (h : coKidsM k = l.length) : ((k = 1 \/ k = 6) /\ l = []) \/ (∃ x, (k = 4 \/ k = 5) /\ l = [x]) \/ (∃ x y, (k = 2 \/ k = 3) /\ l = [x, y]) := by
 simp only [coKidsM] at h
 split at h
 ·exact .inl ⟨by assumption, List.length_eq_zero_iff.1 (by omega)⟩
 ·split at h
  ·match l with
   | [x] => exact .inr (.inl ⟨x, by assumption, rfl⟩)
   | [] => simp at h
   | _ :: _ :: _ => simp at h; omega
  ·split at h
   ·match l with
    | [x, y] => exact .inr (.inr ⟨x, y, by assumption, rfl⟩)
    | [] => simp at h
    | [_] => simp at h
    | _ :: _ :: _ :: _ => simp at h; omega
   ·omega

mutual
def sameCo : MCo -> MCo -> Bool
 | .mk k t b l, .mk k' t' b' l' => decide (k = k') && decide (t = t') && decide (b = b') && sameCoS l l'
def sameCoS : List MCo -> List MCo -> Bool
 | [], [] => true
 | x :: xs, y :: ys => sameCo x y && sameCoS xs ys
 | _, _ => false
end
mutual
theorem sameCo_iff : ∀ {a b : MCo}, sameCo a b = true ↔ a = b
 | .mk k t b l, .mk k' t' b' l' => by
  simp only [sameCo, Bool.and_eq_true, decide_eq_true_eq, sameCoS_iff, MCo.mk.injEq, and_assoc]
theorem sameCoS_iff : ∀ {l m : List MCo}, sameCoS l m = true ↔ l = m
 | [], [] => by simp [sameCoS]
 | x :: xs, y :: ys => by simp only [sameCoS, Bool.and_eq_true, sameCo_iff, sameCoS_iff, List.cons.injEq]
 | [], _ :: _ => by simp [sameCoS]
 | _ :: _, [] => by simp [sameCoS]
end
def coText (c : MCo) : List UInt8 := coTextF 9 c
def formatCoM (c : MCo) : List UInt8 := if shapeCo 9 c = true then coText c else []
theorem coTextF_len {d : Nat} {c : MCo} (h : CoV d c) : (coTextF d c).length + 8 <= 16 * 2 ^ d := by
 induction h with
 | id _ _ => simp [coTextF_id, Nat.pow_succ]; have := Nat.one_le_two_pow (n := ‹Nat›); omega
 | @fail d b t hb _ _ => have h1 := lab_bound hb; have := itoa_len_le (n := b) (by omega) (by omega); simp [coTextF_fail, Nat.pow_succ]; have := Nat.one_le_two_pow (n := d); omega
 | inj _ _ ih => simp [coTextF_inj, Nat.pow_succ]; omega
 | @proj d b x hb _ _ ih => have h1 := lab_bound hb; have := itoa_len_le (n := b) (by omega) (by omega); simp [coTextF_proj, Nat.pow_succ]; omega
 | two _ _ _ ih1 ih2 => rw [coTextF_two]; simp [Nat.pow_succ]; omega
theorem coTextF_le {d : Nat} {c : MCo} (h : CoV d c) (hd : d <= 24) : (coTextF d c).length <= 268435456 := by
 have h1 := coTextF_len h
 have h2 : 2 ^ d <= 2 ^ 24 := Nat.pow_le_pow_right (by omega) hd
 have h3 : (2 : Nat) ^ 24 = 16777216 := by decide
 omega
def tagM (c : MCo) : Int := if c.kind = 2 then 4 else if c.kind = 3 then 5 else c.tag
end Go.Av

namespace Go.Av
attribute [-simp] Go.Av.astepJ Go.Av.relC Go.Av.relL Go.Av.relV Go.Av.relVs Go.Av.callJ
open Go

theorem signB_mem (t : Int) : signB t = 63 \/ signB t = 73 \/ signB t = 66 \/ signB t = 62 \/ signB t = 42 := by
 simp only [signB]; repeat' split
 all_goals simp
theorem signB_nodig (t : Int) (r : List UInt8) : NoDig (signB t :: r) := by
 rcases signB_mem t with e | e | e | e | e <;> rw [e] <;> exact NoDig.cons (by decide)
def coHead (c : MCo) : UInt8 := if c.kind = 1 then signB c.tag else if c.kind = 4 then 33 else if c.kind = 5 then 35 else if c.kind = 6 then 88 else 40
theorem coText_head {d : Nat} {c : MCo} (h : CoV d c) : ∃ r, coTextF d c = coHead c :: r := by
 cases h with
 | id _ _ => exact ⟨[], by simp [coTextF_id, coHead]⟩
 | fail _ _ _ => exact ⟨_, by rw [coTextF_fail]; simp [coHead]; rfl⟩
 | inj _ _ => exact ⟨_, by rw [coTextF_inj]; simp [coHead]; rfl⟩
 | proj _ _ _ => exact ⟨_, by rw [coTextF_proj]; simp [coHead]; rfl⟩
 | two hk _ _ => rcases hk with rfl | rfl <;> exact ⟨_, by rw [coTextF_two]; simp [coHead]; rfl⟩
theorem CoV.small {d : Nat} {c : MCo} (h : CoV d c) : nCo c + 2 <= 2 * 2 ^ d := by
 induction h with
 | id _ _ => simp [nCo, nCoS, Nat.pow_succ]; have := Nat.one_le_two_pow (n := ‹Nat›); omega
 | fail _ _ _ => simp [nCo, nCoS, Nat.pow_succ]; have := Nat.one_le_two_pow (n := ‹Nat›); omega
 | inj _ _ ih => simp [nCo, nCoS, Nat.pow_succ]; omega
 | proj _ _ _ ih => simp [nCo, nCoS, Nat.pow_succ]; omega
 | two _ _ _ h1 h2 => simp [nCo, nCoS, Nat.pow_succ]; omega
theorem coText_ne {d : Nat} {a : MCo} (ha : CoV d a) : coTextF d a ≠ [] := fun h => by
 obtain ⟨r, e⟩ := coText_head ha
 rw [h] at e; cases e
end Go.Av
