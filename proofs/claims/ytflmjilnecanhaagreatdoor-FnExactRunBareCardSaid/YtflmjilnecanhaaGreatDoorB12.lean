/- A part of the library of this seat. -/
import Derived.Test.YtflmjilnecanhaaGreatDoorB11
set_option linter.unusedVariables false
set_option linter.unusedSimpArgs false
namespace Go.Av
open Go

def formatTmM (e : MTm) : List UInt8 := if termValidM e = true then tmTextF 12 e else []
def formatCaM (e : MTm) : List UInt8 := if castValidM e = true then tmTextF 40 e else []

def pairB : List UInt8 := [112, 97, 105, 114]
def funB : List UInt8 := [102, 117, 110, 99, 116, 105, 111, 110]
def valTextF : Nat -> MTm -> List UInt8
 | 0, _ => []
 | d + 1, .mk k s n t f l kids =>
  if decide (k = 10) || (proxyM (.mk k s n t f l []) && decide (t.kind = 5)) then pairB
  else if decide (k = 5) || proxyM (.mk k s n t f l []) then funB
  else match kids with
   | [a] => valTextF d a
   | _ => if k = 2 then Lib.itoa n else if k = 3 then [84] else [70]
section
variable (d : Nat)
theorem valTextF_num (n : Int) : valTextF (d + 1) (tNum n) = Lib.itoa n := by simp [valTextF, tNum, proxyM]
theorem valTextF_true : valTextF (d + 1) tTrue = [84] := by simp [valTextF, tTrue, proxyM]
theorem valTextF_false : valTextF (d + 1) tFalse = [70] := by simp [valTextF, tFalse, proxyM]
theorem valTextF_lam (s : List UInt8) (t : MTy) (a : MTm) : valTextF (d + 1) (tLam s t a) = funB := by simp [valTextF, tLam, proxyM]
theorem valTextF_pair (a b : MTm) : valTextF (d + 1) (tN2 10 a b) = pairB := by simp [valTextF, tN2]
theorem valTextF_cast (a : MTm) (f t : MTy) (l : Int) : valTextF (d + 1) (tCast a f t l) = if f.kind = t.kind /\ (t.kind = 4 \/ t.kind = 5) then (if t.kind = 5 then pairB else funB) else valTextF d a := by
 simp only [valTextF, tCast, proxyM, MTm.kind_mk, MTm.fr_mk, MTm.ty_mk]
 by_cases h1 : f.kind = t.kind
 ·simp only [h1]
  by_cases h2 : t.kind = 4
  ·simp [h2]
  ·by_cases h3 : t.kind = 5
   ·simp [h3]
   ·simp [h2, h3]
 ·simp [h1]
end
def valueTextM (e : MTm) : List UInt8 := if (castValidM e && valM e) = true then valTextF 40 e else []
end Go.Av

namespace Go.Av
open Go
theorem catLe {α : Type} {n m : Nat} [inst : Decidable (n <= m)] {a b : α} (h : n <= m) : (if n <= m then a else b) = a := if_pos h

theorem tyTextF_len {d : Nat} {t : MTy} (h : VTy d t) : (tyTextF d t).length + 3 <= 4 * 2 ^ d := by
 induction h with
 | any d => simp [tyTextF_any, Nat.pow_succ]; have := Nat.one_le_two_pow (n := d); omega
 | int d => simp [tyTextF_int, Nat.pow_succ]; have := Nat.one_le_two_pow (n := d); omega
 | bool d => simp [tyTextF_bool, Nat.pow_succ]; have := Nat.one_le_two_pow (n := d); omega
 | fn ha hb iha ihb => simp [tyTextF_fn, Nat.pow_succ]; omega
 | pair ha hb iha ihb => simp [tyTextF_pair, Nat.pow_succ]; omega
theorem tyTextF_le {d : Nat} {t : MTy} (h : VTy d t) (hd : d <= 40) : (tyTextF d t).length <= 8796093022208 := by
 have h1 := tyTextF_len h
 have h2 : 2 ^ d <= 2 ^ 40 := Nat.pow_le_pow_right (by omega) hd
 have h3 : (2 : Nat) ^ 40 = 1099511627776 := by decide
 omega
theorem tyText_le {t : MTy} (h : shapeTy 4 t = true) : (tyText t).length <= 61 := by
 have := tyTextF_len (VTy.of h)
 simp only [tyText]
 omega

theorem dec_len_le : ∀ n : Nat, n <= 9999 -> (Lib.decDigits n).length <= 4 := by
 intro n hn
 by_cases h1 : 9 < n
 ·rw [decDigits_step h1]
  by_cases h2 : 9 < n / 10
  ·rw [decDigits_step h2]
   by_cases h3 : 9 < n / 10 / 10
   ·rw [decDigits_step h3]
    rw [decDigits_small (by omega)]; simp
   ·rw [decDigits_small (by omega)]; simp
  ·rw [decDigits_small (by omega)]; simp
 ·rw [decDigits_small (by omega)]; simp
theorem itoa_len_le {n : Int} (h0 : -9999 <= n) (h1 : n <= 9999) : (Lib.itoa n).length <= 5 := by
 rw [Lib.itoa]
 split
 ·have := dec_len_le n.natAbs (by omega); simp; omega
 ·have := dec_len_le n.toNat (by omega); omega
theorem lab_bound {l : Int} (h : labM l = true) : -99 <= l /\ l <= 99 := by
 simp only [labM, inM, Bool.or_eq_true, Bool.and_eq_true, decide_eq_true_eq] at h
 omega
theorem tmTextF_len {nt : Int} {d : Nat} {e : MTm} (h : TmV nt d e) : (tmTextF d e).length <= 200 * nodesM e := by
 induction h with
 | var _ hs => obtain ⟨c, rfl, _⟩ := name_one hs; simp [tmTextF_var, nodesM_def]
 | @num d n _ h0 h1 => have := itoa_len_le (n := n) (by omega) (by omega); rw [tmTextF_num, nodesM_def]; simp; omega
 | tru _ => simp [tmTextF_true, nodesM_def]
 | fls _ => simp [tmTextF_false, nodesM_def]
 | lam _ hs ht ha ih => obtain ⟨c, rfl, _⟩ := name_one hs; have := tyText_le ht; rw [tmTextF_lam, nodesM_def]; simp; omega
 | @n2 d k a b _ hk ha hb iha ihb =>
  by_cases h10 : k = 10
  ·subst h10; rw [tmTextF_pair, nodesM_def]; simp; omega
  ·rw [tmTextF_n2 _ (by omega), nodesM_def]; simp; omega
 | ite _ ha hb hc iha ihb ihc => rw [tmTextF_ite, nodesM_def]; simp; omega
 | n1 _ hk ha ih => rw [tmTextF_n1 _ hk, nodesM_def]; simp; omega
 | asc _ ht ha ih => have := tyText_le ht; rw [tmTextF_as, nodesM_def]; simp; omega
 | @cast d f t l a _ hf ht _ hl ha ih => have := tyText_le ht; have := tyText_le hf; have hb := lab_bound hl; have := itoa_len_le (n := l) (by omega) (by omega); rw [tmTextF_cast, nodesM_def]; simp; omega
theorem tmText_le {nt : Int} {d : Nat} {e : MTm} (h : TmV nt d e) (hn : nodesM e <= 1000) : (tmTextF d e).length <= 200000 := by
 have := tmTextF_len h; omega
end Go.Av

namespace Go.Av
open Go
theorem val_cast {a : MTm} {f t : MTy} {l : Int} (h : valM (tCast a f t l) = true) : (f.kind = t.kind /\ (t.kind = 4 \/ t.kind = 5)) \/ (¬ (f.kind = t.kind /\ (t.kind = 4 \/ t.kind = 5)) /\ injM (tCast a f t l) = true /\ valM a = true) := by
 by_cases hp : f.kind = t.kind /\ (t.kind = 4 \/ t.kind = 5)
 ·exact .inl hp
 ·refine .inr ⟨hp, ?_⟩
  have hpf : proxyM (tCast a f t l) = false := by
   rw [<- Bool.not_eq_true]
   intro hh
   simp [proxyM] at hh
   exact hp ⟨of_decide_eq_true hh.1, hh.2.imp of_decide_eq_true of_decide_eq_true⟩
  rw [valM_def, hpf] at h
  cases hi : injM (tCast a f t l) with
  | true => rw [hi] at h; simpa using h
  | false => rw [hi] at h; simp [plainM] at h
theorem proxy_cast {a : MTm} {f t : MTy} {l : Int} : proxyM (tCast a f t l) = decide (f.kind = t.kind /\ (t.kind = 4 \/ t.kind = 5)) := by
 rw [Bool.eq_iff_iff]
 simp [proxyM]
 exact ⟨fun h => ⟨of_decide_eq_true h.1, h.2.imp of_decide_eq_true of_decide_eq_true⟩, fun h => ⟨decide_eq_true h.1, h.2.imp (fun q => decide_eq_true q) (fun q => decide_eq_true q)⟩⟩
theorem inj_not {a : MTm} {f t : MTy} {l : Int} (h : f.kind = t.kind /\ (t.kind = 4 \/ t.kind = 5)) : injM (tCast a f t l) = false := by
 have : ¬ t.kind = 1 := by omega
 simp [injM, this]

end Go.Av

namespace Go.Av
open Go

theorem step_zero {e : MTm} (h : (stepBareM e).2.1 = 0) : stepBareM e = (e, 0, 0) /\ castValidM e = true /\ valM e = true := by
 simp only [stepBareM] at h ⊢
 split at h
 ·rename_i hb
  rw [if_pos hb]
  have hb' := hb
  simp only [bareValidM, Bool.and_eq_true] at hb'
  split at h
  ·rename_i hv
   rw [if_pos hv]
   exact ⟨rfl, hb'.1, hv⟩
  ·exfalso
   split at h
   ·split at h <;> simp at h
   ·rcases (step_law e).1 with h1 | h1 <;> simp at h <;> omega
 ·simp at h
theorem run_zero : ∀ (n : Nat) (e : MTm), (runB n e).2.1 = 0 -> castValidM (runB n e).1 = true /\ valM (runB n e).1 = true
 | 0, e, h => by
  simp only [runB] at h ⊢
  obtain ⟨h1, h2, h3⟩ := step_zero h
  rw [h1]; exact ⟨h2, h3⟩
 | n + 1, e, h => by
  rw [runB] at h ⊢
  split at h
  ·rename_i h1
   rw [if_pos h1]
   exact run_zero n _ h
  ·rename_i h1
   rw [if_neg h1]
   obtain ⟨h1, h2, h3⟩ := step_zero h
   simp only [h1]; exact ⟨h2, h3⟩
theorem evalBare_zero {e : MTm} {n : Int} (h : (evalBareM e n).2.1 = 0) : castValidM (evalBareM e n).1 = true /\ valM (evalBareM e n).1 = true := by
 rw [evalBareM] at h ⊢
 split at h
 ·rename_i h1
  rw [if_pos h1]
  split at h
  ·simp at h
  ·rename_i h2
   rw [if_neg h2]
   exact run_zero _ _ h
 ·simp at h
def runBareM (e : MTm) (n : Int) : List UInt8 × Int × Int :=
 if (termValidM e || castValidM e) = true then (if (evalBareM (mapM bareG e) n).2.1 = 0 then valTextF 40 (evalBareM (mapM bareG e) n).1 else [], (evalBareM (mapM bareG e) n).2.1, (evalBareM (mapM bareG e) n).2.2) else ([], 3, 0)
end Go.Av
