/- A part of the library of this seat. -/
import Derived.Test.YtcmdpggdaiinpaaGreatDoorQ39
import Derived.Lib.AtoiAll
import Derived.Lib.IndexLaws
set_option linter.unusedVariables false
set_option linter.unusedSimpArgs false
namespace Go.Av
attribute [-simp] Go.Av.astepJ Go.Av.relC Go.Av.relL Go.Av.relV Go.Av.relVs Go.Av.callJ Go.Av.IT.kind_v Go.Av.IT.kind_b Go.Av.IT.kind_p Go.Av.IT.name_v Go.Av.IT.name_b Go.Av.IT.name_p Go.Av.IT.kids_v Go.Av.IT.kids_b Go.Av.IT.kids_p Go.Av.eIT_len Go.Av.gT_cons Go.Av.sT_cons
open Go

def cutL (c : UInt8) : List UInt8 -> List (List UInt8)
 | [] => [[]]
 | x :: r => if x = c then [] :: cutL c r else match cutL c r with
  | h :: t => (x :: h) :: t
  | [] => [[x]]
theorem cutL_ne (c : UInt8) : ∀ s, cutL c s ≠ []
 | [] => by simp [cutL]
 | x :: r => by
  simp only [cutL]
  split
  ·simp
  ·split <;> simp
theorem cutL_no {c : UInt8} : ∀ {a : List UInt8}, c ∉ a -> cutL c a = [a]
 | [], _ => rfl
 | x :: a, h => by
  simp only [List.mem_cons, not_or] at h
  simp only [cutL, if_neg (Ne.symm h.1), cutL_no h.2]
theorem cutL_sep {c : UInt8} (r : List UInt8) : ∀ {a : List UInt8}, c ∉ a -> cutL c (a ++ c :: r) = a :: cutL c r
 | [], _ => by simp [cutL]
 | x :: a, h => by
  simp only [List.mem_cons, not_or] at h
  simp only [List.cons_append, cutL, if_neg (Ne.symm h.1), cutL_sep r h.2]
theorem cutL_len (c : UInt8) : ∀ s, (cutL c s).length = s.count c + 1
 | [] => rfl
 | x :: r => by
  have ih := cutL_len c r
  simp only [cutL]
  by_cases h : x = c
  ·subst h; simp [ih]
  ·rw [if_neg h, List.count_cons, beq_false_of_ne h]
   split <;> rename_i e <;> rw [e] at ih
   ·simpa using ih
   ·simp at ih
theorem cutL_small (c : UInt8) : ∀ s, ∀ l ∈ cutL c s, l.length <= s.length
 | [], l, h => by simp [cutL] at h; subst h; simp
 | x :: r, l, h => by
  have ih := cutL_small c r
  simp only [cutL] at h
  split at h
  ·rcases List.mem_cons.1 h with rfl | h
   ·simp
   ·have := ih l h; simp; omega
  ·split at h <;> rename_i e
   ·rcases List.mem_cons.1 h with rfl | h
    ·have := ih _ (by rw [e]; exact List.mem_cons_self); simp; omega
    ·have := ih l (by rw [e]; exact List.mem_cons_of_mem _ h); simp; omega
   ·simp at h; subst h; simp
theorem ix_none {c : UInt8} {s : List UInt8} (h : Lib.indexByte s c = -1) : c ∉ s := fun hm => by
 obtain ⟨k, hk⟩ := List.getElem?_of_mem hm
 exact Lib.indexByte_none h k hk
theorem ix_some {c : UInt8} {s : List UInt8} {m : Nat} (h : Lib.indexByte s c = m) : m < s.length /\ c ∉ s.take m /\ s = s.take m ++ c :: s.drop (m + 1) := by
 obtain ⟨h1, h2⟩ := Lib.indexByte_some h
 obtain ⟨hl, h3⟩ := List.getElem?_eq_some_iff.1 h1
 refine ⟨hl, fun hm => ?_, ?_⟩
 ·obtain ⟨k, hk⟩ := List.getElem?_of_mem hm
  rw [List.getElem?_take] at hk
  split at hk
  ·exact h2 k (by omega) hk
  ·cases hk
 ·rw [<- h3, <- List.drop_eq_getElem_cons hl, List.take_append_drop]
theorem ix_or (s : List UInt8) (c : UInt8) : Lib.indexByte s c = -1 \/ ∃ m : Nat, Lib.indexByte s c = m := by
 have := Lib.indexByte_ge s c
 by_cases h : Lib.indexByte s c = -1
 ·exact .inl h
 ·exact .inr ⟨(Lib.indexByte s c).toNat, by omega⟩
theorem ix_no {c : UInt8} {s : List UInt8} (h : c ∉ s) : Lib.indexByte s c = -1 := by
 rcases ix_or s c with q | ⟨m, q⟩
 ·exact q
 ·exact absurd (List.mem_of_getElem? (Lib.indexByte_some q).1) h
theorem ix_at {c : UInt8} {a : List UInt8} (r : List UInt8) (h : c ∉ a) : Lib.indexByte (a ++ c :: r) c = a.length := by
 rcases ix_or (a ++ c :: r) c with q | ⟨m, q⟩
 ·exact absurd (by simp) (ix_none q)
 ·rw [q]
  obtain ⟨h1, h2⟩ := Lib.indexByte_some q
  have h3 : ¬ m < a.length := fun hm => by
   rw [List.getElem?_append_left hm] at h1
   exact h (List.mem_of_getElem? h1)
  have h4 : ¬ a.length < m := fun hm => h2 a.length hm (by simp)
  omega
def cutA (c : UInt8) (s : List UInt8) : List UInt8 := if Lib.indexByte s c < 0 then s else s.take (Lib.indexByte s c).toNat
def cutB (c : UInt8) (s : List UInt8) : List UInt8 := if Lib.indexByte s c < 0 then [] else s.drop ((Lib.indexByte s c).toNat + 1)
theorem cutA_no {c : UInt8} {s : List UInt8} (h : c ∉ s) : cutA c s = s /\ cutB c s = [] := by simp [cutA, cutB, ix_no h]
theorem cutA_at {c : UInt8} {a : List UInt8} (r : List UInt8) (h : c ∉ a) : cutA c (a ++ c :: r) = a /\ cutB c (a ++ c :: r) = r := by
 have : ¬ ((a.length : Nat) : Int) < 0 := by omega
 simp [cutA, cutB, ix_at r h, this]
theorem cutB_len (c : UInt8) (s : List UInt8) : (cutB c s).length <= s.length /\ (cutA c s).length <= s.length := by
 rw [cutA, cutB]; constructor <;> split <;> simp <;> omega

def ixW (w : List UInt8) : Nat -> List (List UInt8) -> Int
 | _, [] => -1
 | p, x :: r => if x = w then p else ixW w (p + 1) r
theorem ixW_bound (w : List UInt8) : ∀ (l : List (List UInt8)) (p : Nat), -1 <= ixW w p l /\ ixW w p l <= p + l.length
 | [], p => by simp [ixW] <;> (try omega)
 | x :: r, p => by
  have := ixW_bound w r (p + 1)
  simp only [ixW, List.length_cons]
  split <;> omega
def lastW (w : List UInt8) : Int -> Nat -> List (List UInt8) -> Int
 | acc, _, [] => acc
 | acc, p, x :: r => lastW w (if x = w then p else acc) (p + 1) r
theorem kindO_cases {k : Int} (h1 : 1 <= k) (h2 : k <= 13) : k = 1 \/ k = 2 \/ k = 3 \/ k = 4 \/ k = 5 \/ k = 6 \/ k = 7 \/ k = 8 \/ k = 9 \/ k = 10 \/ k = 11 \/ k = 12 \/ k = 13 := by omega
theorem word_facts {k : Int} (h1 : 1 <= k) (h2 : k <= 13) : ixW (opWord k) 0 wordsM = k - 1 /\ lastW (opWord k) 0 1 wordsM = k /\ (10 : UInt8) ∉ opWord k /\ (32 : UInt8) ∉ opWord k := by
 rcases kindO_cases h1 h2 with e | e | e | e | e | e | e | e | e | e | e | e | e <;> subst e <;> decide

def atoiV (l : List UInt8) : Int := match Lib.atoiAll l with
 | .ok v => v
 | .«syntax» => 0
 | .range => Lib.atoiSat l
def atoiOk (l : List UInt8) : Bool := match Lib.atoiAll l with
 | .ok _ => true
 | _ => false
theorem fold_ge : ∀ (l : List UInt8) (a : Nat), a <= l.foldl (fun a c => 10 * a + (c.toNat - 48)) a
 | [], a => Nat.le_refl _
 | c :: r, a => by have := fold_ge r (10 * a + (c.toNat - 48)); simp only [List.foldl_cons]; omega
theorem parse_dig : ∀ (l : List UInt8) (a : Nat), (∀ c ∈ l, isDig c = true) -> l.foldl (fun a c => 10 * a + (c.toNat - 48)) a <= 100000000000 -> Lib.parseUint10 a l = .ok (l.foldl (fun a c => 10 * a + (c.toNat - 48)) a)
 | [], a, _, _ => rfl
 | c :: r, a, h, hb => by
  have hc := h c (by simp)
  simp only [isDig, Bool.and_eq_true, decide_eq_true_eq] at hc
  simp only [List.foldl_cons] at hb ⊢
  have hg := fold_ge r (10 * a + (c.toNat - 48))
  rw [Lib.parseUint10, if_pos hc, if_neg (by omega), if_neg (by omega), show a * 10 + (c.toNat - 48) = 10 * a + (c.toNat - 48) by omega]
  exact parse_dig r _ (fun x hx => h x (by simp [hx])) hb
theorem mag_dec (n : Nat) (hn : n <= 100000000000) : Lib.parseMag (Lib.decDigits n) = .ok n := by
 obtain ⟨h1, h2⟩ := decDigits_dig n
 rw [Lib.parseMag, if_neg (decDigits_ne n), parse_dig _ 0 h1 (by rw [show List.foldl _ 0 _ = valL (Lib.decDigits n) from rfl, h2]; exact hn)]
 exact congrArg _ h2
theorem atoi_itoa {n : Int} (h0 : -9999 <= n) (h1 : n <= 9999) : Lib.atoiAll (Lib.itoa n) = .ok n := by
 by_cases hn : n < 0
 ·rw [Lib.itoa, if_pos hn]
  simp only [Lib.atoiAll]
  rw [show (45 : UInt8).toNat = 45 from rfl, if_pos (.inr rfl), mag_dec _ (by omega)]
  simp only [not_true_eq_false, false_and, if_false, true_and]
  rw [if_neg (by omega), if_pos trivial]
  congr 1; omega
 ·rw [Lib.itoa, if_neg hn]
  obtain ⟨d1, _⟩ := decDigits_dig n.toNat
  have hm := mag_dec n.toNat (by omega)
  cases hd : Lib.decDigits n.toNat with
  | nil => exact absurd hd (decDigits_ne _)
  | cons c r =>
   have hc := d1 c (by rw [hd]; simp)
   simp only [isDig, Bool.and_eq_true, decide_eq_true_eq] at hc
   rw [hd] at hm
   simp only [Lib.atoiAll]
   rw [if_neg (by omega), hm]
   simp only
   rw [if_neg (by omega), if_neg (by omega), if_neg (by omega)]
   congr 1; omega
def numS (s : List UInt8) : Option Int :=
 if s.head? = some 45 then (if s.tail = [] \/ 17 < s.tail.length \/ s.tail.head? = some 48 then none else if s.tail.all isDig = true then some (-(valL s.tail : Int)) else none)
 else if s = [] \/ 17 < s.length \/ (s.head? = some 48 /\ 1 < s.length) then none else if s.all isDig = true then some (valL s : Int) else none
theorem numS_neg (r : List UInt8) : numS (45 :: r) = if r = [] \/ 17 < r.length \/ r.head? = some 48 then none else if r.all isDig = true then some (-(valL r : Int)) else none := by
 have h : (45 :: r).head? = some (45 : UInt8) := rfl
 exact if_pos h
theorem dec_len {n : Nat} (h : n <= 9999) : (Lib.decDigits n).length <= 5 := by
 have := itoa_len_le (n := (n : Int)) (by omega) (by omega)
 rw [Lib.itoa, if_neg (by omega)] at this
 simpa using this
theorem dec_head (n : Nat) (h : 1 <= n) : (Lib.decDigits n).head? ≠ some 48 := by
 induction n using Nat.strongRecOn with
 | ind n ih =>
  by_cases h9 : 9 < n
  ·have := ih (n / 10) (by omega) (by omega)
   rw [decDigits_step h9]
   cases hd : Lib.decDigits (n / 10) with
   | nil => exact absurd hd (decDigits_ne _)
   | cons c r => rw [hd] at this; simpa using this
  ·rw [decDigits_small (by omega)]
   have e : n = 1 \/ n = 2 \/ n = 3 \/ n = 4 \/ n = 5 \/ n = 6 \/ n = 7 \/ n = 8 \/ n = 9 := by omega
   rcases e with e | e | e | e | e | e | e | e | e <;> subst e <;> decide
theorem num_itoa {n : Int} (h0 : -9999 <= n) (h1 : n <= 9999) : numS (Lib.itoa n) = some n := by
 by_cases hn : n < 0
 ·rw [Lib.itoa, if_pos hn]
  obtain ⟨d1, d2⟩ := decDigits_dig n.natAbs
  have hl := dec_len (n := n.natAbs) (by omega)
  have hh := dec_head n.natAbs (by omega)
  have hne := decDigits_ne n.natAbs
  have ha : (Lib.decDigits n.natAbs).all isDig = true := List.all_eq_true.2 d1
  rw [numS_neg, if_neg (by rintro (q | q | q); exact hne q; omega; exact hh q), if_pos ha, d2]
  congr 1; omega
 ·rw [Lib.itoa, if_neg hn]
  obtain ⟨d1, d2⟩ := decDigits_dig n.toNat
  have hl := dec_len (n := n.toNat) (by omega)
  have hne := decDigits_ne n.toNat
  have ha : (Lib.decDigits n.toNat).all isDig = true := List.all_eq_true.2 d1
  have h45 : ¬ (Lib.decDigits n.toNat).head? = some 45 := fun e => by
   have := d1 45 (List.mem_of_mem_head? e)
   exact absurd this (by decide)
  have hz : ¬ ((Lib.decDigits n.toNat).head? = some 48 /\ 1 < (Lib.decDigits n.toNat).length) := fun ⟨q1, q2⟩ => by
   by_cases e : 1 <= n.toNat
   ·exact dec_head _ e q1
   ·rw [decDigits_small (by omega)] at q2; simp at q2
  rw [numS, if_neg h45, if_neg (by rintro (q | q | q); exact hne q; omega; exact hz q), if_pos ha, d2]
  congr 1; omega
theorem itoa_sign {n : Int} {c : UInt8} (h : c ∈ Lib.itoa n) : c = 45 \/ isDig c = true := by
 rw [Lib.itoa] at h
 split at h
 ·rcases List.mem_cons.1 h with q | q
  ·exact .inl q
  ·exact .inr ((decDigits_dig _).1 c q)
 ·exact .inr ((decDigits_dig _).1 c h)

def lineM (o : MOp) : List UInt8 := opWord o.kind ++ (if hasAM o.kind = true then 32 :: Lib.itoa o.a else [])
theorem opText_line (o : MOp) : opText o = lineM o ++ [10] := by simp [opText, lineM]
theorem opsOk_all : ∀ {l : List MOp}, opsOk l = true -> l.length <= 1000 -> ∀ o ∈ l, 1 <= o.kind /\ o.kind <= 13 /\ 0 <= o.a /\ o.a <= 1000 /\ (hasAM o.kind = false -> o.a = 0)
 | x :: r, h, hl, o, ho => by
  simp only [opsOk, Bool.and_eq_true] at h
  simp only [List.length_cons] at hl
  rcases List.mem_cons.1 ho with rfl | ho
  ·have h1 := h.1
   simp only [opOk, inM, Bool.and_eq_true, decide_eq_true_eq] at h1
   have := mostA_le o.kind r.length (by omega) (by omega)
   refine ⟨by omega, by omega, by omega, by omega, fun hf => ?_⟩
   have h3 : mostA o.kind r.length = 0 := by
    simp only [hasAM, Bool.or_eq_false_iff, decide_eq_false_iff_not] at hf
    rw [mostA, if_neg (by omega), if_neg (by omega), if_neg (by omega), if_neg (by omega)]
   omega
  ·exact opsOk_all h.2 (by omega) o ho
def readOpI (l : List UInt8) : MOp := ⟨1 + ixW (cutA 32 l) 0 wordsM, atoiV (cutB 32 l)⟩
def readOpS (l : List UInt8) : MOp := ⟨lastW ((cutL 32 l).headD []) 0 1 wordsM, match (cutL 32 l)[1]? with | some w => (numS w).getD 0 | none => 0⟩
theorem read_line {o : MOp} (h1 : 1 <= o.kind) (h2 : o.kind <= 13) (h3 : 0 <= o.a) (h4 : o.a <= 1000) (h5 : hasAM o.kind = false -> o.a = 0) : readOpI (lineM o) = o /\ readOpS (lineM o) = o /\ (10 : UInt8) ∉ lineM o := by
 obtain ⟨w1, w2, w3, w4⟩ := word_facts h1 h2
 have e10 : (10 : UInt8) ∉ Lib.itoa o.a := fun h => by rcases itoa_sign h with q | q <;> exact absurd q (by decide)
 have e32 : (32 : UInt8) ∉ Lib.itoa o.a := fun h => by rcases itoa_sign h with q | q <;> exact absurd q (by decide)
 have hat := atoi_itoa (n := o.a) (by omega) (by omega)
 have hnu := num_itoa (n := o.a) (by omega) (by omega)
 cases hh : hasAM o.kind with
 | true =>
  have hl : lineM o = opWord o.kind ++ 32 :: Lib.itoa o.a := by simp [lineM, hh]
  obtain ⟨c1, c2⟩ := cutA_at (Lib.itoa o.a) w4
  refine ⟨?_, ?_, ?_⟩
  ·rw [hl, readOpI, c1, c2, w1, atoiV, hat]
   cases o; simp; omega
  ·rw [hl, readOpS, cutL_sep _ w4, cutL_no e32]
   simp [w2, hnu]
  ·rw [hl]; simp [w3, e10]
 | false =>
  have hl : lineM o = opWord o.kind := by simp [lineM, hh]
  obtain ⟨c1, c2⟩ := cutA_no w4
  have ha := h5 hh
  refine ⟨?_, ?_, ?_⟩
  ·rw [hl, readOpI, c1, c2, w1, show atoiV [] = 0 from rfl]
   cases o; simp at ha ⊢; omega
  ·rw [hl, readOpS, cutL_no w4]
   cases o; simp at ha ⊢; simp [w2, ha]
  ·rw [hl]; exact w3
theorem cut_ops : ∀ {l : List MOp}, (∀ o ∈ l, (10 : UInt8) ∉ lineM o) -> cutL 10 (opsTextM l) = l.map lineM ++ [[]]
 | [], _ => rfl
 | o :: r, h => by
  rw [opsTextM_cons, opText_line, List.append_assoc, List.singleton_append, cutL_sep _ (h o (by simp)), cut_ops fun x hx => h x (by simp [hx])]
  rfl
def parseI (t : List UInt8) : Option (List MOp) :=
 if 121 < (cutL 10 t).length then none else
 if opsValidM ((cutL 10 t).dropLast.map readOpI) = true /\ opsTextM ((cutL 10 t).dropLast.map readOpI) = t then some ((cutL 10 t).dropLast.map readOpI) else none
def parseS (t : List UInt8) : Option (List MOp) :=
 if 121 < (cutL 10 t).length then none else
 if t = [] \/ ¬ formatOpsM ((cutL 10 t).dropLast.map readOpS) = t then none else some ((cutL 10 t).dropLast.map readOpS)
theorem ops_read {l : List MOp} (h : opsValidM l = true) : ¬ 121 < (cutL 10 (opsTextM l)).length /\ (cutL 10 (opsTextM l)).dropLast.map readOpI = l /\ (cutL 10 (opsTextM l)).dropLast.map readOpS = l := by
 obtain ⟨h1, h2, h3⟩ := opsValid_iff.1 h
 have ha := opsOk_all h1 (by omega)
 have hr : ∀ o ∈ l, readOpI (lineM o) = o /\ readOpS (lineM o) = o /\ (10 : UInt8) ∉ lineM o := fun o ho => by
  obtain ⟨q1, q2, q3, q4, q5⟩ := ha o ho
  exact read_line q1 q2 q3 q4 q5
 rw [cut_ops fun o ho => (hr o ho).2.2]
 refine ⟨by simp; omega, ?_, ?_⟩
 ·rw [List.dropLast_concat, List.map_map]
  exact (List.map_congr_left fun o ho => (hr o ho).1).trans (List.map_id _)
 ·rw [List.dropLast_concat, List.map_map]
  exact (List.map_congr_left fun o ho => (hr o ho).2.1).trans (List.map_id _)
theorem parseI_iff {t : List UInt8} {l : List MOp} : parseI t = some l ↔ opsValidM l = true /\ opsTextM l = t := by
 constructor
 ·intro h
  rw [parseI] at h
  split at h
  ·cases h
  ·split at h
   ·rename_i q; cases h; exact q
   ·cases h
 ·rintro ⟨h, rfl⟩
  obtain ⟨h1, h2, _⟩ := ops_read h
  rw [parseI, if_neg h1, h2, if_pos ⟨h, rfl⟩]
theorem parseS_iff {t : List UInt8} {l : List MOp} : parseS t = some l ↔ opsValidM l = true /\ opsTextM l = t := by
 constructor
 ·intro h
  rw [parseS] at h
  split at h
  ·cases h
  ·split at h
   ·cases h
   ·rename_i q; cases h
    simp only [not_or, Decidable.not_not] at q
    obtain ⟨q1, q2⟩ := q
    rw [formatOpsM] at q2
    split at q2
    ·exact ⟨by assumption, q2⟩
    ·exact absurd q2.symm q1
 ·rintro ⟨h, rfl⟩
  obtain ⟨h1, _, h2⟩ := ops_read h
  have hne : opsTextM l ≠ [] := opsText_ne fun e => by
   have := (opsValid_iff.1 h).2.1
   rw [e] at this; simp at this
  rw [parseS, if_neg h1, h2, if_neg (by simp only [not_or, Decidable.not_not]; exact ⟨hne, by rw [formatOpsM, if_pos h]⟩)]
theorem parseS_eq (t : List UInt8) : parseS t = parseI t := by
 cases h : parseI t with
 | some l => exact parseS_iff.2 (parseI_iff.1 h)
 | none =>
  cases h2 : parseS t with
  | none => rfl
  | some l => rw [parseI_iff.2 (parseS_iff.1 h2)] at h; cases h
theorem parseI_format (l : List MOp) : parseI (formatOpsM l) = if opsValidM l = true then some l else none := by
 rw [formatOpsM]
 split
 ·exact parseI_iff.2 ⟨by assumption, rfl⟩
 ·cases h : parseI [] with
  | none => rfl
  | some m =>
   obtain ⟨h1, h2⟩ := parseI_iff.1 h
   exact absurd h2 (opsText_ne fun e => by
    have := (opsValid_iff.1 h1).2.1
    rw [e] at this; simp at this)
end Go.Av

namespace Go.Av
attribute [-simp] Go.Av.astepJ Go.Av.relC Go.Av.relL Go.Av.relV Go.Av.relVs Go.Av.callJ Go.Av.IT.kind_v Go.Av.IT.kind_b Go.Av.IT.kind_p Go.Av.IT.name_v Go.Av.IT.name_b Go.Av.IT.name_p Go.Av.IT.kids_v Go.Av.IT.kids_b Go.Av.IT.kids_p Go.Av.eIT_len Go.Av.gT_cons Go.Av.sT_cons
open Go

abbrev Rdr := List UInt8 × Bool
def rdOne : Rdr -> UInt8 × Rdr
 | (x :: r, false) => (x, (r, false))
 | (s, _) => (0, (s, true))
def rdNext : Rdr -> UInt8
 | (x :: _, false) => x
 | _ => 0
def rdSkip (c : UInt8) (q : Rdr) : Rdr := ((rdOne q).2.1, !decide ((rdOne q).1 = c) || (rdOne q).2.2)
def signsL : List UInt8 := [63, 73, 66, 62, 42]
def rdKind (lo hi : Int) (q : Rdr) : Int × Rdr := (1 + Lib.indexByte signsL (rdOne q).1, ((rdOne q).2.1, (rdOne q).2.2 || !inM (1 + Lib.indexByte signsL (rdOne q).1) lo hi))
def spanN : List UInt8 -> List UInt8 × List UInt8
 | [] => ([], [])
 | c :: r => if c = 45 then (45 :: r.takeWhile isDig, r.dropWhile isDig) else ((c :: r).takeWhile isDig, (c :: r).dropWhile isDig)
def rdNum (q : Rdr) : Int × Rdr := (atoiV (spanN q.1).1, ((spanN q.1).2, q.2 || !atoiOk (spanN q.1).1))
def rdCo : Nat -> Rdr -> MCo × Rdr
 | 0, q => (cId (rdKind 1 3 (q.1, true)).1, (rdKind 1 3 (q.1, true)).2)
 | f + 1, q =>
  if rdNext q = 33 then (cInj (rdCo f (rdOne q).2).1, (rdCo f (rdOne q).2).2)
  else if rdNext q = 35 then (cProj (rdNum (rdOne q).2).1 (rdCo f (rdSkip 46 (rdNum (rdOne q).2).2)).1, (rdCo f (rdSkip 46 (rdNum (rdOne q).2).2)).2)
  else if rdNext q = 88 then (cFail (rdNum (rdOne q).2).1 (rdKind 2 5 (rdNum (rdOne q).2).2).1, (rdKind 2 5 (rdNum (rdOne q).2).2).2)
  else if rdNext q = 40 then (cTwo (if (rdKind 4 5 (rdCo f (rdOne q).2).2).1 = 5 then 3 else 2) (rdCo f (rdOne q).2).1 (rdCo f (rdKind 4 5 (rdCo f (rdOne q).2).2).2).1, rdSkip 41 (rdCo f (rdKind 4 5 (rdCo f (rdOne q).2).2).2).2)
  else (cId (rdKind 1 3 q).1, (rdKind 1 3 q).2)
abbrev zeroCo : MCo := .mk 0 0 0 []
def whichB (y : UInt8) : Int := if y = 63 then 1 else if y = 73 then 2 else if y = 66 then 3 else if y = 62 then 4 else if y = 42 then 5 else 0
def dig4 (s : List UInt8) : List UInt8 := (s.takeWhile isDig).take 4
def numAt : List UInt8 -> Option (Int × List UInt8)
 | [] => none
 | c :: r => if c = 45 then (numS (dig4 r)).map fun n => (-n, r.drop (dig4 r).length) else (numS (dig4 (c :: r))).map fun n => (n, (c :: r).drop (dig4 (c :: r)).length)
def rsCo : Nat -> List UInt8 -> MCo × Option (List UInt8)
 | 0, _ => (zeroCo, none)
 | _ + 1, [] => (zeroCo, none)
 | d + 1, x :: r =>
  if x = 33 then (cInj (rsCo d r).1, (rsCo d r).2)
  else if x = 35 then match numAt r with
   | some (n, y :: r2) => if y = 46 then (cProj n (rsCo d r2).1, (rsCo d r2).2) else (zeroCo, none)
   | _ => (zeroCo, none)
  else if x = 88 then match numAt r with
   | some (n, y :: r2) => (cFail n (whichB y), some r2)
   | _ => (zeroCo, none)
  else if x = 40 then match (rsCo d r).2 with
   | some (y :: r2) => if y = 62 \/ y = 42 then match (rsCo d r2).2 with
     | some (z :: r3) => if z = 41 then (cTwo (if y = 62 then 2 else 3) (rsCo d r).1 (rsCo d r2).1, some r3) else (zeroCo, none)
     | _ => (zeroCo, none)
    else (zeroCo, none)
   | _ => (zeroCo, none)
  else (cId (whichB x), some r)
def parseCoI (t : List UInt8) : Option MCo := if (rdCo 9 (t, false)).2 = ([], false) /\ shapeCo 9 (rdCo 9 (t, false)).1 = true /\ coText (rdCo 9 (t, false)).1 = t then some (rdCo 9 (t, false)).1 else none
def parseCoS (t : List UInt8) : Option MCo := if t = [] \/ ¬ (rsCo 9 t).2 = some [] \/ ¬ formatCoM (rsCo 9 t).1 = t then none else some (rsCo 9 t).1
end Go.Av
