/- A part of the library of this seat. -/
import Derived.Test.YtcgmmknfpfdghaaGreatDoorC25
import Derived.Lib.AtoiAll
import Derived.Lib.IndexLaws
set_option linter.unusedVariables false
set_option linter.unusedSimpArgs false
namespace Go.Av
attribute [-simp] Go.Av.astepJ Go.Av.relC Go.Av.relL Go.Av.relV Go.Av.relVs Go.Av.callJ Go.Av.IT.kind_v Go.Av.IT.kind_b Go.Av.IT.kind_p Go.Av.IT.name_v Go.Av.IT.name_b Go.Av.IT.name_p Go.Av.IT.kids_v Go.Av.IT.kids_b Go.Av.IT.kids_p Go.Av.eIT_len Go.Av.gT_cons Go.Av.sT_cons
open Go

def cutL (c : UInt8) : List UInt8 -> List (List UInt8)
 | [] => [[]]
 | x :: r => if x = c then [] :: cutL c r else match cutL c r with
  | h :: t => (x :: h) :: t
  | [] => [[x]]
theorem ix_some {c : UInt8} {s : List UInt8} {m : Nat} (h : Lib.indexByte s c = m) : m < s.length /\ c ∉ s.take m /\ s = s.take m ++ c :: s.drop (m + 1) := by
 obtain ⟨h1, h2⟩ := Lib.indexByte_some h
 obtain ⟨hl, h3⟩ := List.getElem?_eq_some_iff.1 h1
 refine ⟨hl, fun hm => ?_, ?_⟩
 ·obtain ⟨k, hk⟩ := List.getElem?_of_mem hm
  rw [List.getElem?_take] at hk
  split at hk
  ·exact h2 k (by omega) hk
  ·cases hk
 ·rw [<- h3, <- List.drop_eq_getElem_cons hl, List.take_append_drop]
theorem ix_or (s : List UInt8) (c : UInt8) : Lib.indexByte s c = -1 \/ ∃ m : Nat, Lib.indexByte s c = m := by
 have := Lib.indexByte_ge s c
 by_cases h : Lib.indexByte s c = -1
 ·exact .inl h
 ·exact .inr ⟨(Lib.indexByte s c).toNat, by omega⟩
def cutA (c : UInt8) (s : List UInt8) : List UInt8 := if Lib.indexByte s c < 0 then s else s.take (Lib.indexByte s c).toNat
def cutB (c : UInt8) (s : List UInt8) : List UInt8 := if Lib.indexByte s c < 0 then [] else s.drop ((Lib.indexByte s c).toNat + 1)
def ixW (w : List UInt8) : Nat -> List (List UInt8) -> Int
 | _, [] => -1
 | p, x :: r => if x = w then p else ixW w (p + 1) r
def lastW (w : List UInt8) : Int -> Nat -> List (List UInt8) -> Int
 | acc, _, [] => acc
 | acc, p, x :: r => lastW w (if x = w then p else acc) (p + 1) r
def atoiV (l : List UInt8) : Int := match Lib.atoiAll l with
 | .ok v => v
 | .«syntax» => 0
 | .range => Lib.atoiSat l
def atoiOk (l : List UInt8) : Bool := match Lib.atoiAll l with
 | .ok _ => true
 | _ => false
theorem fold_ge : ∀ (l : List UInt8) (a : Nat), a <= l.foldl (fun a c => 10 * a + (c.toNat - 48)) a
 | [], a => Nat.le_refl _
 | c :: r, a => by have := fold_ge r (10 * a + (c.toNat - 48)); simp only [List.foldl_cons]; omega
theorem parse_dig : ∀ (l : List UInt8) (a : Nat), (∀ c ∈ l, isDig c = true) -> l.foldl (fun a c => 10 * a + (c.toNat - 48)) a <= 100000000000 -> Lib.parseUint10 a l = .ok (l.foldl (fun a c => 10 * a + (c.toNat - 48)) a)
 | [], a, _, _ => rfl
 | c :: r, a, h, hb => by
  have hc := h c (by simp)
  simp only [isDig, Bool.and_eq_true, decide_eq_true_eq] at hc
  simp only [List.foldl_cons] at hb ⊢
  have hg := fold_ge r (10 * a + (c.toNat - 48))
  rw [Lib.parseUint10, if_pos hc, if_neg (by omega), if_neg (by omega), show a * 10 + (c.toNat - 48) = 10 * a + (c.toNat - 48) by omega]
  exact parse_dig r _ (fun x hx => h x (by simp [hx])) hb
theorem mag_dec (n : Nat) (hn : n <= 100000000000) : Lib.parseMag (Lib.decDigits n) = .ok n := by
 obtain ⟨h1, h2⟩ := decDigits_dig n
 rw [Lib.parseMag, if_neg (decDigits_ne n), parse_dig _ 0 h1 (by rw [show List.foldl _ 0 _ = valL (Lib.decDigits n) from rfl, h2]; exact hn)]
 exact congrArg _ h2
theorem atoi_itoa {n : Int} (h0 : -9999 <= n) (h1 : n <= 9999) : Lib.atoiAll (Lib.itoa n) = .ok n := by
 by_cases hn : n < 0
 ·rw [Lib.itoa, if_pos hn]
  simp only [Lib.atoiAll]
  rw [show (45 : UInt8).toNat = 45 from rfl, if_pos (.inr rfl), mag_dec _ (by omega)]
  simp only [not_true_eq_false, false_and, if_false, true_and]
  rw [if_neg (by omega), if_pos trivial]
  congr 1; omega
 ·rw [Lib.itoa, if_neg hn]
  obtain ⟨d1, _⟩ := decDigits_dig n.toNat
  have hm := mag_dec n.toNat (by omega)
  cases hd : Lib.decDigits n.toNat with
  | nil => exact absurd hd (decDigits_ne _)
  | cons c r =>
   have hc := d1 c (by rw [hd]; simp)
   simp only [isDig, Bool.and_eq_true, decide_eq_true_eq] at hc
   rw [hd] at hm
   simp only [Lib.atoiAll]
   rw [if_neg (by omega), hm]
   simp only
   rw [if_neg (by omega), if_neg (by omega), if_neg (by omega)]
   congr 1; omega
def numS (s : List UInt8) : Option Int :=
 if s.head? = some 45 then (if s.tail = [] \/ 17 < s.tail.length \/ s.tail.head? = some 48 then none else if s.tail.all isDig = true then some (-(valL s.tail : Int)) else none)
 else if s = [] \/ 17 < s.length \/ (s.head? = some 48 /\ 1 < s.length) then none else if s.all isDig = true then some (valL s : Int) else none
theorem numS_neg (r : List UInt8) : numS (45 :: r) = if r = [] \/ 17 < r.length \/ r.head? = some 48 then none else if r.all isDig = true then some (-(valL r : Int)) else none := by
 have h : (45 :: r).head? = some (45 : UInt8) := rfl
 exact if_pos h
theorem dec_len {n : Nat} (h : n <= 9999) : (Lib.decDigits n).length <= 5 := by
 have := itoa_len_le (n := (n : Int)) (by omega) (by omega)
 rw [Lib.itoa, if_neg (by omega)] at this
 simpa using this
theorem dec_head (n : Nat) (h : 1 <= n) : (Lib.decDigits n).head? ≠ some 48 := by
 induction n using Nat.strongRecOn with
 | ind n ih =>
  by_cases h9 : 9 < n
  ·have := ih (n / 10) (by omega) (by omega)
   rw [decDigits_step h9]
   cases hd : Lib.decDigits (n / 10) with
   | nil => exact absurd hd (decDigits_ne _)
   | cons c r => rw [hd] at this; simpa using this
  ·rw [decDigits_small (by omega)]
   have e : n = 1 \/ n = 2 \/ n = 3 \/ n = 4 \/ n = 5 \/ n = 6 \/ n = 7 \/ n = 8 \/ n = 9 := by omega
   rcases e with e | e | e | e | e | e | e | e | e <;> subst e <;> decide
theorem num_itoa {n : Int} (h0 : -9999 <= n) (h1 : n <= 9999) : numS (Lib.itoa n) = some n := by
 by_cases hn : n < 0
 ·rw [Lib.itoa, if_pos hn]
  obtain ⟨d1, d2⟩ := decDigits_dig n.natAbs
  have hl := dec_len (n := n.natAbs) (by omega)
  have hh := dec_head n.natAbs (by omega)
  have hne := decDigits_ne n.natAbs
  have ha : (Lib.decDigits n.natAbs).all isDig = true := List.all_eq_true.2 d1
  rw [numS_neg, if_neg (by rintro (q | q | q); exact hne q; omega; exact hh q), if_pos ha, d2]
  congr 1; omega
 ·rw [Lib.itoa, if_neg hn]
  obtain ⟨d1, d2⟩ := decDigits_dig n.toNat
  have hl := dec_len (n := n.toNat) (by omega)
  have hne := decDigits_ne n.toNat
  have ha : (Lib.decDigits n.toNat).all isDig = true := List.all_eq_true.2 d1
  have h45 : ¬ (Lib.decDigits n.toNat).head? = some 45 := fun e => by
   have := d1 45 (List.mem_of_mem_head? e)
   exact absurd this (by decide)
  have hz : ¬ ((Lib.decDigits n.toNat).head? = some 48 /\ 1 < (Lib.decDigits n.toNat).length) := fun ⟨q1, q2⟩ => by
   by_cases e : 1 <= n.toNat
   ·exact dec_head _ e q1
   ·rw [decDigits_small (by omega)] at q2; simp at q2
  rw [numS, if_neg h45, if_neg (by rintro (q | q | q); exact hne q; omega; exact hz q), if_pos ha, d2]
  congr 1; omega
def lineM (o : MOp) : List UInt8 := opWord o.kind ++ (if hasAM o.kind = true then 32 :: Lib.itoa o.a else [])
def readOpI (l : List UInt8) : MOp := ⟨1 + ixW (cutA 32 l) 0 wordsM, atoiV (cutB 32 l)⟩
def readOpS (l : List UInt8) : MOp := ⟨lastW ((cutL 32 l).headD []) 0 1 wordsM, match (cutL 32 l)[1]? with | some w => (numS w).getD 0 | none => 0⟩
def parseI (t : List UInt8) : Option (List MOp) :=
 if 121 < (cutL 10 t).length then none else
 if opsValidM ((cutL 10 t).dropLast.map readOpI) = true /\ opsTextM ((cutL 10 t).dropLast.map readOpI) = t then some ((cutL 10 t).dropLast.map readOpI) else none
def parseS (t : List UInt8) : Option (List MOp) :=
 if 121 < (cutL 10 t).length then none else
 if t = [] \/ ¬ formatOpsM ((cutL 10 t).dropLast.map readOpS) = t then none else some ((cutL 10 t).dropLast.map readOpS)
end Go.Av

namespace Go.Av
attribute [-simp] Go.Av.astepJ Go.Av.relC Go.Av.relL Go.Av.relV Go.Av.relVs Go.Av.callJ Go.Av.IT.kind_v Go.Av.IT.kind_b Go.Av.IT.kind_p Go.Av.IT.name_v Go.Av.IT.name_b Go.Av.IT.name_p Go.Av.IT.kids_v Go.Av.IT.kids_b Go.Av.IT.kids_p Go.Av.eIT_len Go.Av.gT_cons Go.Av.sT_cons
open Go

abbrev Rdr := List UInt8 × Bool
def rdOne : Rdr -> UInt8 × Rdr
 | (x :: r, false) => (x, (r, false))
 | (s, _) => (0, (s, true))
def rdNext : Rdr -> UInt8
 | (x :: _, false) => x
 | _ => 0
def rdSkip (c : UInt8) (q : Rdr) : Rdr := ((rdOne q).2.1, !decide ((rdOne q).1 = c) || (rdOne q).2.2)
def signsL : List UInt8 := [63, 73, 66, 62, 42]
def rdKind (lo hi : Int) (q : Rdr) : Int × Rdr := (1 + Lib.indexByte signsL (rdOne q).1, ((rdOne q).2.1, (rdOne q).2.2 || !inM (1 + Lib.indexByte signsL (rdOne q).1) lo hi))
def spanN : List UInt8 -> List UInt8 × List UInt8
 | [] => ([], [])
 | c :: r => if c = 45 then (45 :: r.takeWhile isDig, r.dropWhile isDig) else ((c :: r).takeWhile isDig, (c :: r).dropWhile isDig)
def rdNum (q : Rdr) : Int × Rdr := (atoiV (spanN q.1).1, ((spanN q.1).2, q.2 || !atoiOk (spanN q.1).1))
def rdCo : Nat -> Rdr -> MCo × Rdr
 | 0, q => (cId (rdKind 1 3 (q.1, true)).1, (rdKind 1 3 (q.1, true)).2)
 | f + 1, q =>
  if rdNext q = 33 then (cInj (rdCo f (rdOne q).2).1, (rdCo f (rdOne q).2).2)
  else if rdNext q = 35 then (cProj (rdNum (rdOne q).2).1 (rdCo f (rdSkip 46 (rdNum (rdOne q).2).2)).1, (rdCo f (rdSkip 46 (rdNum (rdOne q).2).2)).2)
  else if rdNext q = 88 then (cFail (rdNum (rdOne q).2).1 (rdKind 2 5 (rdNum (rdOne q).2).2).1, (rdKind 2 5 (rdNum (rdOne q).2).2).2)
  else if rdNext q = 40 then (cTwo (if (rdKind 4 5 (rdCo f (rdOne q).2).2).1 = 5 then 3 else 2) (rdCo f (rdOne q).2).1 (rdCo f (rdKind 4 5 (rdCo f (rdOne q).2).2).2).1, rdSkip 41 (rdCo f (rdKind 4 5 (rdCo f (rdOne q).2).2).2).2)
  else (cId (rdKind 1 3 q).1, (rdKind 1 3 q).2)
theorem rdOne_cons (x : UInt8) (r : List UInt8) : rdOne (x :: r, false) = (x, (r, false)) := rfl
theorem rdOne_bad (s : List UInt8) : rdOne (s, true) = (0, (s, true)) := by cases s <;> rfl
theorem rdNext_cons (x : UInt8) (r : List UInt8) : rdNext (x :: r, false) = x := rfl
theorem rdNext_bad (s : List UInt8) : rdNext (s, true) = 0 := by cases s <;> rfl
theorem rdSkip_cons (x : UInt8) (r : List UInt8) : rdSkip x (x :: r, false) = (r, false) := by simp [rdSkip, rdOne_cons]
theorem span_len (s : List UInt8) : s = (spanN s).1 ++ (spanN s).2 := by
 cases s with
 | nil => rfl
 | cons c r =>
  simp only [spanN]
  split
  ·rename_i h; subst h; simp [List.takeWhile_append_dropWhile]
  ·exact (List.takeWhile_append_dropWhile).symm
theorem span_itoa (n : Int) {r : List UInt8} (hr : NoDig r) : spanN (Lib.itoa n ++ r) = (Lib.itoa n, r) := by
 by_cases h : n < 0
 ·rw [Lib.itoa, if_pos h]
  obtain ⟨q1, q2⟩ := span_dig (decDigits_dig n.natAbs).1 hr
  simp only [List.cons_append, spanN, if_true, q1, q2]
 ·rw [Lib.itoa, if_neg h]
  obtain ⟨h1, _⟩ := decDigits_dig n.toNat
  obtain ⟨q1, q2⟩ := span_dig h1 hr
  cases hd : Lib.decDigits n.toNat with
  | nil => exact absurd hd (decDigits_ne _)
  | cons c l =>
   have hc : isDig c = true := h1 c (by rw [hd]; simp)
   have h45 : c ≠ 45 := fun e => by subst e; exact absurd hc (by decide)
   rw [hd] at q1 q2
   rw [List.cons_append] at q1 q2 ⊢
   simp only [spanN, if_neg h45, q1, q2]
theorem rdNum_itoa {n : Int} (h0 : -9999 <= n) (h1 : n <= 9999) {r : List UInt8} (hr : NoDig r) : rdNum (Lib.itoa n ++ r, false) = (n, (r, false)) := by
 rw [rdNum]
 simp only [span_itoa n hr, atoiV, atoiOk, atoi_itoa h0 h1]
 rfl
theorem kind_sign {t lo hi : Int} (h1 : 1 <= t) (h2 : t <= 5) (h3 : lo <= t) (h4 : t <= hi) (r : List UInt8) : rdKind lo hi (signB t :: r, false) = (t, (r, false)) := by
 have hx : 1 + Lib.indexByte signsL (signB t) = t := by
  have e : t = 1 \/ t = 2 \/ t = 3 \/ t = 4 \/ t = 5 := by omega
  rcases e with rfl | rfl | rfl | rfl | rfl <;> decide
 simp only [rdKind, rdOne_cons, hx, inM]
 simp [h3, h4]
theorem sign_ne (t : Int) : signB t ≠ 33 /\ signB t ≠ 35 /\ signB t ≠ 88 /\ signB t ≠ 40 := by
 rcases signB_mem t with e | e | e | e | e <;> rw [e] <;> decide
theorem rdCo_text : ∀ {d : Nat} {c : MCo}, CoV d c -> ∀ f, d <= f -> ∀ r, rdCo f (coTextF d c ++ r, false) = (c, (r, false)) := by
 intro d c h
 induction h with
 | @id d t h1 h2 =>
  intro f hf r
  obtain ⟨f, rfl⟩ : ∃ g, f = g + 1 := ⟨f - 1, by omega⟩
  obtain ⟨s1, s2, s3, s4⟩ := sign_ne t
  rw [coTextF_id, List.singleton_append, rdCo, rdNext_cons, if_neg s1, if_neg s2, if_neg s3, if_neg s4, kind_sign h1 (by omega) h1 h2]
 | @fail d b t hb h1 h2 =>
  intro f hf r
  obtain ⟨f, rfl⟩ : ∃ g, f = g + 1 := ⟨f - 1, by omega⟩
  have hl := lab_bound hb
  rw [coTextF_fail, List.cons_append, List.append_assoc, List.singleton_append, rdCo, rdNext_cons, if_neg (by decide), if_neg (by decide), if_pos rfl]
  simp only [rdOne_cons, rdNum_itoa (n := b) (by omega) (by omega) (signB_nodig t r), kind_sign (lo := 2) (hi := 5) (show 1 <= t by omega) h2 h1 h2 r]
 | @inj d x _ _ ih =>
  intro f hf r
  obtain ⟨f, rfl⟩ : ∃ g, f = g + 1 := ⟨f - 1, by omega⟩
  rw [coTextF_inj, List.cons_append, rdCo, rdNext_cons, if_pos rfl]
  simp only [rdOne_cons, ih f (by omega) r]
 | @proj d b x hb _ _ ih =>
  intro f hf r
  obtain ⟨f, rfl⟩ : ∃ g, f = g + 1 := ⟨f - 1, by omega⟩
  have hl := lab_bound hb
  rw [coTextF_proj, List.cons_append, List.append_assoc, List.cons_append, rdCo, rdNext_cons, if_neg (by decide), if_pos rfl]
  simp only [rdOne_cons, rdNum_itoa (n := b) (by omega) (by omega) (NoDig.cons (c := 46) (r := coTextF d x ++ r) (by decide)), rdSkip_cons, ih f (by omega) r]
 | @two d k x y hk _ _ ih1 ih2 =>
  intro f hf r
  obtain ⟨f, rfl⟩ : ∃ g, f = g + 1 := ⟨f - 1, by omega⟩
  rw [coTextF_two, List.cons_append, List.append_assoc, List.cons_append, List.append_assoc, List.singleton_append, rdCo, rdNext_cons, if_neg (by decide), if_neg (by decide), if_neg (by decide), if_pos rfl]
  have hs : rdKind 4 5 ((if k = 2 then 62 else 42) :: (coTextF d y ++ 41 :: r), false) = ((if k = 2 then 4 else 5), (coTextF d y ++ 41 :: r, false)) := by
   rcases hk with rfl | rfl
   ·exact kind_sign (t := 4) (by omega) (by omega) (by omega) (by omega) _
   ·exact kind_sign (t := 5) (by omega) (by omega) (by omega) (by omega) _
  simp only [rdOne_cons, ih1 f (by omega) _, hs, ih2 f (by omega) _, rdSkip_cons]
  rcases hk with rfl | rfl <;> simp

abbrev zeroCo : MCo := .mk 0 0 0 []
def whichB (y : UInt8) : Int := if y = 63 then 1 else if y = 73 then 2 else if y = 66 then 3 else if y = 62 then 4 else if y = 42 then 5 else 0
def dig4 (s : List UInt8) : List UInt8 := (s.takeWhile isDig).take 4
def numAt : List UInt8 -> Option (Int × List UInt8)
 | [] => none
 | c :: r => if c = 45 then (numS (dig4 r)).map fun n => (-n, r.drop (dig4 r).length) else (numS (dig4 (c :: r))).map fun n => (n, (c :: r).drop (dig4 (c :: r)).length)
def rsCo : Nat -> List UInt8 -> MCo × Option (List UInt8)
 | 0, _ => (zeroCo, none)
 | _ + 1, [] => (zeroCo, none)
 | d + 1, x :: r =>
  if x = 33 then (cInj (rsCo d r).1, (rsCo d r).2)
  else if x = 35 then match numAt r with
   | some (n, y :: r2) => if y = 46 then (cProj n (rsCo d r2).1, (rsCo d r2).2) else (zeroCo, none)
   | _ => (zeroCo, none)
  else if x = 88 then match numAt r with
   | some (n, y :: r2) => (cFail n (whichB y), some r2)
   | _ => (zeroCo, none)
  else if x = 40 then match (rsCo d r).2 with
   | some (y :: r2) => if y = 62 \/ y = 42 then match (rsCo d r2).2 with
     | some (z :: r3) => if z = 41 then (cTwo (if y = 62 then 2 else 3) (rsCo d r).1 (rsCo d r2).1, some r3) else (zeroCo, none)
     | _ => (zeroCo, none)
    else (zeroCo, none)
   | _ => (zeroCo, none)
  else (cId (whichB x), some r)
theorem which_sign {t : Int} (h1 : 1 <= t) (h2 : t <= 5) : whichB (signB t) = t := by
 have e : t = 1 \/ t = 2 \/ t = 3 \/ t = 4 \/ t = 5 := by omega
 rcases e with rfl | rfl | rfl | rfl | rfl <;> decide
theorem dig4_dec {n : Nat} (h : n <= 9999) {r : List UInt8} (hr : NoDig r) : dig4 (Lib.decDigits n ++ r) = Lib.decDigits n := by
 obtain ⟨q1, _⟩ := span_dig (decDigits_dig n).1 hr
 rw [dig4, q1]
 refine List.take_of_length_le ?_
 by_cases h0 : 9 < n
 ·by_cases h1 : 9 < n / 10
  ·by_cases h2 : 9 < n / 10 / 10
   ·rw [decDigits_step h0, decDigits_step h1, decDigits_step h2, decDigits_small (by omega)]; simp
   ·rw [decDigits_step h0, decDigits_step h1, decDigits_small (by omega)]; simp
  ·rw [decDigits_step h0, decDigits_small (by omega)]; simp
 ·rw [decDigits_small (by omega)]; simp
theorem num_dec {n : Nat} (h : n <= 9999) : numS (Lib.decDigits n) = some (n : Int) := by
 have := num_itoa (n := (n : Int)) (by omega) (by omega)
 rwa [Lib.itoa, if_neg (by omega), Int.toNat_natCast] at this
theorem numAt_itoa {n : Int} (h0 : -9999 <= n) (h1 : n <= 9999) {r : List UInt8} (hr : NoDig r) : numAt (Lib.itoa n ++ r) = some (n, r) := by
 by_cases h : n < 0
 ·rw [Lib.itoa, if_pos h]
  simp only [List.cons_append, numAt, if_true, dig4_dec (n := n.natAbs) (by omega) hr, num_dec (n := n.natAbs) (by omega), Option.map_some, List.drop_left]
  congr 2; omega
 ·rw [Lib.itoa, if_neg h]
  obtain ⟨h2, _⟩ := decDigits_dig n.toNat
  have e1 := dig4_dec (n := n.toNat) (by omega) hr
  have e2 := num_dec (n := n.toNat) (by omega)
  have e3 : (Lib.decDigits n.toNat ++ r).drop (Lib.decDigits n.toNat).length = r := List.drop_left
  cases hd : Lib.decDigits n.toNat with
  | nil => exact absurd hd (decDigits_ne _)
  | cons c l =>
   have hc : isDig c = true := h2 c (by rw [hd]; simp)
   have h45 : c ≠ 45 := fun e => by subst e; exact absurd hc (by decide)
   rw [hd] at e1 e2 e3
   rw [List.cons_append] at e1 e3 ⊢
   simp only [numAt, if_neg h45, e1, e2, Option.map_some, e3]
   congr 2; omega
theorem rsCo_text : ∀ {d : Nat} {c : MCo}, CoV d c -> ∀ f, d <= f -> ∀ r, rsCo f (coTextF d c ++ r) = (c, some r) := by
 intro d c h
 induction h with
 | @id d t h1 h2 =>
  intro f hf r
  obtain ⟨f, rfl⟩ : ∃ g, f = g + 1 := ⟨f - 1, by omega⟩
  obtain ⟨s1, s2, s3, s4⟩ := sign_ne t
  rw [coTextF_id, List.singleton_append, rsCo, if_neg s1, if_neg s2, if_neg s3, if_neg s4, which_sign h1 (by omega)]
 | @fail d b t hb h1 h2 =>
  intro f hf r
  obtain ⟨f, rfl⟩ : ∃ g, f = g + 1 := ⟨f - 1, by omega⟩
  have hl := lab_bound hb
  rw [coTextF_fail, List.cons_append, List.append_assoc, List.singleton_append, rsCo, if_neg (by decide), if_neg (by decide), if_pos rfl, numAt_itoa (n := b) (by omega) (by omega) (signB_nodig t r)]
  simp only [which_sign (show 1 <= t by omega) h2]
 | @inj d x _ _ ih =>
  intro f hf r
  obtain ⟨f, rfl⟩ : ∃ g, f = g + 1 := ⟨f - 1, by omega⟩
  rw [coTextF_inj, List.cons_append, rsCo, if_pos rfl, ih f (by omega) r]
 | @proj d b x hb _ _ ih =>
  intro f hf r
  obtain ⟨f, rfl⟩ : ∃ g, f = g + 1 := ⟨f - 1, by omega⟩
  have hl := lab_bound hb
  rw [coTextF_proj, List.cons_append, List.append_assoc, List.cons_append, rsCo, if_neg (by decide), if_pos rfl, numAt_itoa (n := b) (by omega) (by omega) (NoDig.cons (c := 46) (r := coTextF d x ++ r) (by decide))]
  simp only [if_true, ih f (by omega) r]
 | @two d k x y hk _ _ ih1 ih2 =>
  intro f hf r
  obtain ⟨f, rfl⟩ : ∃ g, f = g + 1 := ⟨f - 1, by omega⟩
  rw [coTextF_two, List.cons_append, List.append_assoc, List.cons_append, List.append_assoc, List.singleton_append, rsCo, if_neg (by decide), if_neg (by decide), if_neg (by decide), if_pos rfl, ih1 f (by omega) _]
  simp only
  rw [if_pos (by rcases hk with rfl | rfl <;> simp), ih2 f (by omega) _]
  simp only [if_true]
  rcases hk with rfl | rfl <;> simp

def parseCoI (t : List UInt8) : Option MCo := if (rdCo 9 (t, false)).2 = ([], false) /\ shapeCo 9 (rdCo 9 (t, false)).1 = true /\ coText (rdCo 9 (t, false)).1 = t then some (rdCo 9 (t, false)).1 else none
def parseCoS (t : List UInt8) : Option MCo := if t = [] \/ ¬ (rsCo 9 t).2 = some [] \/ ¬ formatCoM (rsCo 9 t).1 = t then none else some (rsCo 9 t).1
theorem parseCoI_iff {t : List UInt8} {c : MCo} : parseCoI t = some c ↔ shapeCo 9 c = true /\ coText c = t := by
 constructor
 ·intro h
  rw [parseCoI] at h
  split at h
  ·rename_i q; cases h; exact q.2
  ·cases h
 ·rintro ⟨h, rfl⟩
  have := rdCo_text (CoV.of h) 9 (Nat.le_refl _) []
  rw [List.append_nil] at this
  rw [parseCoI, coText, this, if_pos ⟨rfl, h, rfl⟩]
theorem parseCoS_iff {t : List UInt8} {c : MCo} : parseCoS t = some c ↔ shapeCo 9 c = true /\ coText c = t := by
 constructor
 ·intro h
  rw [parseCoS] at h
  split at h
  ·cases h
  ·rename_i q; cases h
   simp only [not_or, Decidable.not_not] at q
   obtain ⟨q0, _, q2⟩ := q
   rw [formatCoM] at q2
   split at q2
   ·exact ⟨by assumption, q2⟩
   ·exact absurd q2.symm q0
 ·rintro ⟨h, rfl⟩
  have := rsCo_text (CoV.of h) 9 (Nat.le_refl _) []
  rw [List.append_nil] at this
  rw [parseCoS, coText, this, if_neg (by simp only [not_or, Decidable.not_not]; exact ⟨coText_ne (CoV.of h), by trivial, by rw [formatCoM, if_pos h]; rfl⟩)]
theorem parseCoS_eq (t : List UInt8) : parseCoS t = parseCoI t := by
 cases h : parseCoI t with
 | some l => exact parseCoS_iff.2 (parseCoI_iff.1 h)
 | none =>
  cases h2 : parseCoS t with
  | none => rfl
  | some l => rw [parseCoI_iff.2 (parseCoS_iff.1 h2)] at h; cases h
theorem parseCoI_format (c : MCo) : parseCoI (formatCoM c) = if shapeCo 9 c = true then some c else none := by
 rw [formatCoM]
 split
 ·exact parseCoI_iff.2 ⟨by assumption, rfl⟩
 ·cases h : parseCoI [] with
  | none => rfl
  | some m =>
   obtain ⟨h1, h2⟩ := parseCoI_iff.1 h
   exact absurd h2 (coText_ne (CoV.of h1))
end Go.Av

namespace Go.Av
attribute [-simp] Go.Av.astepJ Go.Av.relC Go.Av.relL Go.Av.relV Go.Av.relVs Go.Av.callJ Go.Av.IT.kind_v Go.Av.IT.kind_b Go.Av.IT.kind_p Go.Av.IT.name_v Go.Av.IT.name_b Go.Av.IT.name_p Go.Av.IT.kids_v Go.Av.IT.kids_b Go.Av.IT.kids_p Go.Av.eIT_len Go.Av.gT_cons Go.Av.sT_cons
open Go

theorem rdOne_len (q : Rdr) : (rdOne q).2.1.length <= q.1.length := by
 obtain ⟨s, b⟩ := q
 cases s with
 | nil => simp [rdOne]
 | cons x r => cases b <;> simp [rdOne]
theorem rdSkip_len (c : UInt8) (q : Rdr) : (rdSkip c q).1.length <= q.1.length := rdOne_len q
theorem rdKind_len (lo hi : Int) (q : Rdr) : (rdKind lo hi q).2.1.length <= q.1.length := rdOne_len q
theorem rdNum_len (q : Rdr) : (rdNum q).2.1.length <= q.1.length := by
 have := congrArg List.length (span_len q.1)
 rw [List.length_append] at this
 show (spanN q.1).2.length <= _
 omega
theorem rdCo_len : ∀ (f : Nat) (q : Rdr), (rdCo f q).2.1.length <= q.1.length
 | 0, q => rdKind_len 1 3 (q.1, true)
 | f + 1, q => by
  have h1 := rdOne_len q
  rw [rdCo]
  split
  ·exact Nat.le_trans (rdCo_len f _) h1
  split
  ·exact Nat.le_trans (rdCo_len f _) (Nat.le_trans (rdSkip_len 46 _) (Nat.le_trans (rdNum_len _) h1))
  split
  ·exact Nat.le_trans (rdKind_len 2 5 _) (Nat.le_trans (rdNum_len _) h1)
  split
  ·exact Nat.le_trans (rdSkip_len 41 _) (Nat.le_trans (rdCo_len f _) (Nat.le_trans (rdKind_len 4 5 _) (Nat.le_trans (rdCo_len f _) h1)))
  ·exact rdKind_len 1 3 q
end Go.Av

namespace Go.Av
attribute [-simp] Go.Av.astepJ Go.Av.relC Go.Av.relL Go.Av.relV Go.Av.relVs Go.Av.callJ Go.Av.IT.kind_v Go.Av.IT.kind_b Go.Av.IT.kind_p Go.Av.IT.name_v Go.Av.IT.name_b Go.Av.IT.name_p Go.Av.IT.kids_v Go.Av.IT.kids_b Go.Av.IT.kids_p Go.Av.eIT_len Go.Av.gT_cons Go.Av.sT_cons
open Go

theorem dig4_len (s : List UInt8) : (dig4 s).length <= 4 /\ (dig4 s).length <= s.length := by
 have h : (s.takeWhile isDig).length <= s.length := (List.takeWhile_prefix (p := isDig) (l := s)).length_le
 rw [dig4, List.length_take]
 omega
theorem dig4_all (s : List UInt8) : (dig4 s).all isDig = true := by
 rw [List.all_eq_true]
 intro x hx
 exact List.all_eq_true.1 (List.all_takeWhile (p := isDig) (l := s)) x (List.take_subset _ _ hx)
theorem dig4_take (s : List UInt8) : s.take (dig4 s).length = dig4 s := by
 have h1 : dig4 s <+: s := (List.take_prefix _ _).trans (List.takeWhile_prefix _)
 exact (List.prefix_iff_eq_take.1 h1).symm
theorem dig4_at {s : List UInt8} {j : Nat} (h : j < (dig4 s).length) : ∃ y, s[j]? = some y /\ isDig y = true := by
 have h1 := List.getElem?_eq_getElem h
 refine ⟨(dig4 s)[j], ?_, List.all_eq_true.1 (dig4_all s) _ (List.getElem_mem h)⟩
 rw [<- h1]
 conv => rhs; rw [<- dig4_take s]
 rw [List.getElem?_take, if_pos h]
theorem dig4_end {s : List UInt8} (h : (dig4 s).length < 4) {y : UInt8} (hy : s[(dig4 s).length]? = some y) : isDig y = false := by
 have hl : (dig4 s).length = (s.takeWhile isDig).length := by
  rw [dig4, List.length_take] at h ⊢; omega
 have e : s = s.takeWhile isDig ++ s.dropWhile isDig := (List.takeWhile_append_dropWhile).symm
 rw [hl] at hy
 rw [e, List.getElem?_append_right (by simp)] at hy
 simp only [List.takeWhile_append_dropWhile, Nat.sub_self] at hy
 cases hd : s.dropWhile isDig with
 | nil => rw [hd] at hy; simp at hy
 | cons z r =>
  rw [hd] at hy
  simp only [List.getElem?_cons_zero, Option.some.injEq] at hy
  subst hy
  have := List.head?_dropWhile_not isDig s
  rw [hd] at this
  simpa using this
theorem valL_lt (l : List UInt8) (h : l.all isDig = true) : valL l < 10 ^ l.length := by
 have key : ∀ (l : List UInt8) (a : Nat), l.all isDig = true -> l.foldl (fun a c => 10 * a + (c.toNat - 48)) a < (a + 1) * 10 ^ l.length := by
  intro l
  induction l with
  | nil => intro a _; simp
  | cons c r ih =>
   intro a h
   simp only [List.all_cons, Bool.and_eq_true] at h
   have h1 := ih (10 * a + (c.toNat - 48)) h.2
   have h2 : c.toNat <= 57 := by have := h.1; simp only [isDig, Bool.and_eq_true, decide_eq_true_eq] at this; omega
   simp only [List.foldl_cons, List.length_cons]
   refine Nat.lt_of_lt_of_le h1 ?_
   rw [Nat.pow_succ, Nat.mul_comm (10 ^ r.length) 10, <- Nat.mul_assoc]
   exact Nat.mul_le_mul_right _ (by omega)
 have := key l 0 h
 simpa [valL] using this
theorem num4 {s : List UInt8} {n : Int} (h : numS (dig4 s) = some n) : 0 <= n /\ n <= 9999 := by
 have ha := dig4_all s
 have hl := (dig4_len s).1
 have hv := valL_lt _ ha
 have hp : 10 ^ (dig4 s).length <= 10 ^ 4 := Nat.pow_le_pow_right (by omega) hl
 generalize dig4 s = u at *
 have h45 : ¬ u.head? = some 45 := fun e => by
  have := List.all_eq_true.1 ha 45 (List.mem_of_mem_head? e)
  exact absurd this (by decide)
 rw [numS, if_neg h45] at h
 split at h
 ·cases h
 ·cases h
  omega

theorem rs_size : ∀ (f : Nat) (s : List UInt8), nCo (rsCo f s).1 + 2 <= 2 ^ (f + 1)
 | 0, s => by rw [rsCo]; simp [nCo_def, nCoS]
 | f + 1, [] => by
  have hp : 2 <= 2 ^ (f + 1 + 1) := by rw [Nat.pow_succ]; have := Nat.one_le_two_pow (n := f + 1); omega
  rw [rsCo]; simp only [nCo_def, MCo.kids_mk, nCoS]; omega
 | f + 1, x :: r => by
  have e : 2 ^ (f + 1 + 1) = 2 ^ (f + 1) + 2 ^ (f + 1) := by rw [Nat.pow_succ 2 (f + 1)]; omega
  have hp : 2 <= 2 ^ (f + 1) := by rw [Nat.pow_succ]; have := Nat.one_le_two_pow (n := f); omega
  have hk : ∀ (k t b : Int) (x : MCo), nCo (.mk k t b [x]) = 1 + nCo x := fun k t b x => by simp [nCo_def, nCoS]
  have h0 : ∀ k t b : Int, nCo (.mk k t b []) = 0 := fun k t b => by simp [nCo_def, nCoS]
  have h3 : ∀ (k : Int) (x y : MCo), nCo (.mk k 0 0 [x, y]) = 2 + (nCo x + nCo y) := fun k x y => by simp [nCo_def, nCoS]; omega
  rw [rsCo]
  split
  ·have := rs_size f r
   rw [hk]; omega
  split
  ·split
   ·rename_i n y r2 _
    have := rs_size f r2
    split
    ·rw [hk]; omega
    ·rw [h0]; omega
   ·rw [h0]; omega
  split
  ·split
   ·rw [h0]; omega
   ·rw [h0]; omega
  split
  ·split
   ·rename_i y r2 _
    split
    ·split
     ·split
      ·have h1 := rs_size f r
       have h2 := rs_size f r2
       rw [h3]; omega
      ·rw [h0]; omega
     ·rw [h0]; omega
    ·rw [h0]; omega
   ·rw [h0]; omega
  ·rw [h0]; omega

theorem which_of {x : UInt8} {t : Int} (h : whichB x = t) (h1 : 1 <= t) : signB t = x := by
 rw [whichB] at h
 repeat' (split at h; rename_i e; subst e; subst h; rfl)
 omega
theorem which_le (x : UInt8) : 0 <= whichB x /\ whichB x <= 5 := by
 rw [whichB]
 repeat' (split; omega)
 omega
end Go.Av
