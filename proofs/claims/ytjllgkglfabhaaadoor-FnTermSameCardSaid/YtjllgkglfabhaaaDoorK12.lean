/- A part of the library of this seat: a value-semantic program logic over the model, plain models, and walks of functions. -/
import Derived.Test.YtjllgkglfabhaaaDoorK11
set_option linter.unusedVariables false
set_option linter.unusedSimpArgs false
namespace Go.Av
open Go

def isDig (c : UInt8) : Bool := decide (48 ≤ c.toNat) && decide (c.toNat ≤ 57)
def NoDig (r : List UInt8) : Prop := ∀ c r', r = c :: r' → isDig c = false
theorem NoDig.nil : NoDig [] := fun _ _ h => by cases h
theorem NoDig.cons {c : UInt8} {r : List UInt8} (h : isDig c = false) : NoDig (c :: r) := fun c' r' e => by cases e; exact h

def valL (l : List UInt8) : Nat := l.foldl (fun a c => 10 * a + (c.toNat - 48)) 0
theorem dig_ofNat {k : Nat} (h : k ≤ 9) : (UInt8.ofNat (48 + k)).toNat = 48 + k := by
  simp [UInt8.toNat_ofNat']; omega
theorem isDig_ofNat {k : Nat} (h : k ≤ 9) : isDig (UInt8.ofNat (48 + k)) = true := by
  simp only [isDig, dig_ofNat h, Bool.and_eq_true, decide_eq_true_eq]; omega
theorem decDigits_dig (n : Nat) : (∀ c ∈ Lib.decDigits n, isDig c = true) ∧ valL (Lib.decDigits n) = n := by
  induction n using Nat.strongRecOn with
  | ind n ih =>
    by_cases h : 9 < n
    · obtain ⟨h1, h2⟩ := ih (n / 10) (by omega)
      rw [decDigits_step h]
      have hm : n % 10 ≤ 9 := by omega
      refine ⟨fun c hc => ?_, ?_⟩
      · rcases List.mem_append.1 hc with q | q
        · exact h1 c q
        · rw [List.mem_singleton] at q; subst q; exact isDig_ofNat hm
      · have hd := dig_ofNat hm
        rw [valL, List.foldl_append]
        rw [valL] at h2
        rw [h2]
        simp only [List.foldl_cons, List.foldl_nil, hd]
        omega
    · rw [decDigits_small (by omega)]
      have hd := dig_ofNat (k := n) (by omega)
      refine ⟨fun c hc => ?_, ?_⟩
      · rw [List.mem_singleton] at hc; subst hc; exact isDig_ofNat (by omega)
      · simp only [valL, List.foldl_cons, List.foldl_nil, hd]; omega
theorem decDigits_ne (n : Nat) : Lib.decDigits n ≠ [] := by
  by_cases h : 9 < n
  · rw [decDigits_step h]; simp
  · rw [decDigits_small (by omega)]; simp

theorem span_dig : ∀ {l r : List UInt8}, (∀ c ∈ l, isDig c = true) → NoDig r → (l ++ r).takeWhile isDig = l ∧ (l ++ r).dropWhile isDig = r
  | [], [], _, _ => ⟨rfl, rfl⟩
  | [], c :: r, _, h => by simp [h c r rfl]
  | c :: l, r, h1, h2 => by
    obtain ⟨q1, q2⟩ := span_dig (l := l) (fun x hx => h1 x (by simp [hx])) h2
    simp [h1 c (by simp), q1, q2]

/-- A number with a sign, read. -/
def readI (l : List UInt8) : Int × List UInt8 := match l with
  | c :: r => if c = 45 then (-(valL (r.takeWhile isDig) : Int), r.dropWhile isDig) else ((valL (l.takeWhile isDig) : Int), l.dropWhile isDig)
  | [] => (0, [])
theorem readI_neg (r : List UInt8) : readI (45 :: r) = (-(valL (r.takeWhile isDig) : Int), r.dropWhile isDig) := rfl
theorem readI_pos {c : UInt8} (r : List UInt8) (h : c ≠ 45) : readI (c :: r) = ((valL ((c :: r).takeWhile isDig) : Int), (c :: r).dropWhile isDig) := if_neg h
theorem readI_nat (n : Nat) {r : List UInt8} (hr : NoDig r) : readI (Lib.decDigits n ++ r) = ((n : Int), r) := by
  obtain ⟨h1, h2⟩ := decDigits_dig n
  obtain ⟨q1, q2⟩ := span_dig h1 hr
  cases hd : Lib.decDigits n with
  | nil => exact absurd hd (decDigits_ne n)
  | cons c l =>
    have hc : isDig c = true := h1 c (by rw [hd]; simp)
    have h45 : c ≠ 45 := fun e => by subst e; exact absurd hc (by decide)
    rw [hd] at q1 q2 h2
    rw [List.cons_append] at q1 q2 ⊢
    rw [readI_pos _ h45, q1, q2, h2]
theorem readI_ok (n : Int) {r : List UInt8} (hr : NoDig r) : readI (Lib.itoa n ++ r) = (n, r) := by
  by_cases h : n < 0
  · rw [Lib.itoa, if_pos h]
    obtain ⟨h1, h2⟩ := decDigits_dig n.natAbs
    obtain ⟨q1, q2⟩ := span_dig h1 hr
    rw [List.cons_append, readI_neg, q1, q2, h2]
    simp; omega
  · rw [Lib.itoa, if_neg h, readI_nat _ hr]
    simp; omega

def readTy : Nat → List UInt8 → Option (MTy × List UInt8)
  | 0, _ => none
  | _ + 1, [] => none
  | d + 1, c :: r =>
    if c = 63 then some (anyT, r) else if c = 73 then some (intT, r) else if c = 66 then some (boolT, r)
    else match readTy d r with
      | some (a, k :: r1) => match readTy d r1 with
        | some (b, _ :: r2) => some (.mk (if k = 62 then 4 else 5) [a, b], r2)
        | _ => none
      | _ => none
theorem readTy_ok : ∀ {d : Nat} {t : MTy}, VTy d t → ∀ r, readTy d (tyTextF d t ++ r) = some (t, r)
  | _, _, .any d, r => rfl
  | _, _, .int d, r => rfl
  | _, _, .bool d, r => rfl
  | _, _, .fn (d := d) ha hb, r => by
    rw [tyTextF_fn]
    simp only [List.cons_append, List.append_assoc, List.nil_append, readTy]
    rw [if_neg (by decide), if_neg (by decide), if_neg (by decide), readTy_ok ha]
    simp only [readTy_ok hb]
    rfl
  | _, _, .pair (d := d) ha hb, r => by
    rw [tyTextF_pair]
    simp only [List.cons_append, List.append_assoc, List.nil_append, readTy]
    rw [if_neg (by decide), if_neg (by decide), if_neg (by decide), readTy_ok ha]
    simp only [readTy_ok hb]
    rfl
theorem readTy4 {t : MTy} (h : shapeTy 4 t = true) (r : List UInt8) : readTy 4 (tyText t ++ r) = some (t, r) := readTy_ok (VTy.of h) r

def readTm : Nat → List UInt8 → Option (MTm × List UInt8)
  | 0, _ => none
  | _ + 1, [] => none
  | d + 1, c :: r =>
    if c = 84 then some (tTrue, r) else if c = 70 then some (tFalse, r)
    else if c = 33 then match r with
      | s :: _ :: r1 => match readTy 4 r1 with
        | some (t, _ :: r2) => match readTm d r2 with
          | some (b, r3) => some (tLam [s] t b, r3)
          | none => none
        | _ => none
      | _ => none
    else if c = 36 then match readTm d r with
      | some (a, r1) => some (tN1 11 a, r1)
      | none => none
    else if c = 37 then match readTm d r with
      | some (a, r1) => some (tN1 12 a, r1)
      | none => none
    else if c = 91 then match readTm d r with
      | some (a, _ :: r1) => match readTm d r1 with
        | some (b, _ :: r2) => some (tN2 10 a b, r2)
        | _ => none
      | _ => none
    else if c = 123 then match readTm d r with
      | some (a, _ :: r1) => match readTm d r1 with
        | some (b, _ :: r2) => match readTm d r2 with
          | some (e, _ :: r3) => some (tIf a b e, r3)
          | _ => none
        | _ => none
      | _ => none
    else if c = 40 then match readTm d r with
      | some (a, k :: r1) =>
        if k = 58 then match readTy 4 r1 with
          | some (t, q :: r2) => if q = 41 then some (tAs a t, r2) else match readTy 4 r2 with
            | some (u, _ :: r3) => some (tCast a t u (readI r3).1, (readI r3).2.tail)
            | _ => none
          | _ => none
        else match readTm d r1 with
          | some (b, _ :: r2) => some (tN2 (if k = 32 then 6 else if k = 43 then 7 else 8) a b, r2)
          | _ => none
      | _ => none
    else if isDig c then some (tNum (readI (c :: r)).1, (readI (c :: r)).2)
    else some (tVar [c], r)

theorem name_one {s : List UInt8} (h : nameM s = true) : ∃ c, s = [c] ∧ 97 ≤ c.toNat ∧ c.toNat ≤ 122 := by
  match s, h with
  | [c], h => simp only [nameM, Bool.and_eq_true, decide_eq_true_eq] at h; exact ⟨c, rfl, h⟩

theorem readTm_ok {nt : Int} : ∀ {d : Nat} {e : MTm}, TmV nt d e → ∀ r, NoDig r → readTm d (tmTextF d e ++ r) = some (e, r)
  | _, _, .var (d := d) _ hs, r, hr => by
    obtain ⟨c, rfl, h1, h2⟩ := name_one hs
    have hne : ∀ k : UInt8, (k.toNat < 97 ∨ 122 < k.toNat) → c ≠ k := fun k hk e => by subst e; omega
    have hd : isDig c = false := by simp [isDig]; omega
    rw [tmTextF_var]
    simp only [List.cons_append, List.nil_append, readTm, hd]
    rw [if_neg (hne 84 (by decide)), if_neg (hne 70 (by decide)), if_neg (hne 33 (by decide)), if_neg (hne 36 (by decide)), if_neg (hne 37 (by decide)), if_neg (hne 91 (by decide)), if_neg (hne 123 (by decide)), if_neg (hne 40 (by decide))]
    rfl
  | _, _, .num (d := d) (n := n) _ h0 h1, r, hr => by
    obtain ⟨m, rfl⟩ : ∃ m : Nat, n = m := ⟨n.toNat, (Int.toNat_of_nonneg h0).symm⟩
    rw [tmTextF_num, itoa_nonneg]
    have hrd := readI_nat m hr
    obtain ⟨h2, _⟩ := decDigits_dig m
    cases hd : Lib.decDigits m with
    | nil => exact absurd hd (decDigits_ne m)
    | cons c l =>
      have hc : isDig c = true := h2 c (by rw [hd]; simp)
      rw [hd] at hrd
      have hne : ∀ k : UInt8, isDig k = false → c ≠ k := fun k hk e => by subst e; rw [hc] at hk; cases hk
      rw [List.cons_append] at hrd ⊢
      simp only [readTm, hc, hrd]
      rw [if_neg (hne 84 (by decide)), if_neg (hne 70 (by decide)), if_neg (hne 33 (by decide)), if_neg (hne 36 (by decide)), if_neg (hne 37 (by decide)), if_neg (hne 91 (by decide)), if_neg (hne 123 (by decide)), if_neg (hne 40 (by decide))]
      rfl
  | _, _, .tru _, r, hr => by rw [tmTextF_true]; rfl
  | _, _, .fls _, r, hr => by rw [tmTextF_false]; rfl
  | _, _, .lam (d := d) _ hs ht hb, r, hr => by
    obtain ⟨c, rfl, h1, h2⟩ := name_one hs
    rw [tmTextF_lam]
    simp only [List.cons_append, List.nil_append, List.append_assoc, readTm]
    rw [if_neg (by decide), if_neg (by decide), if_pos trivial, readTy4 ht]
    simp only [readTm_ok hb r hr]
  | _, _, .n2 (d := d) (k := k) _ hk ha hb, r, hr => by
    by_cases h10 : k = 10
    · subst h10
      rw [tmTextF_pair]
      simp only [List.cons_append, List.nil_append, List.append_assoc, readTm]
      rw [if_neg (by decide), if_neg (by decide), if_neg (by decide), if_neg (by decide), if_neg (by decide), if_pos trivial, readTm_ok ha _ (NoDig.cons (by decide))]
      simp only [readTm_ok hb _ (NoDig.cons (by decide : isDig 93 = false))]
    · have hk' : k = 6 ∨ k = 7 ∨ k = 8 := by omega
      rw [tmTextF_n2 _ hk']
      simp only [List.cons_append, List.nil_append, List.append_assoc, readTm]
      rw [if_neg (by decide), if_neg (by decide), if_neg (by decide), if_neg (by decide), if_neg (by decide), if_neg (by decide), if_neg (by decide), if_pos trivial, readTm_ok ha _ (NoDig.cons (by rcases hk' with rfl | rfl | rfl <;> decide))]
      simp only [readTm_ok hb _ (NoDig.cons (by decide : isDig 41 = false))]
      rcases hk' with rfl | rfl | rfl <;> rfl
  | _, _, .ite (d := d) _ ha hb hc, r, hr => by
    rw [tmTextF_ite]
    simp only [List.cons_append, List.nil_append, List.append_assoc, readTm]
    rw [if_neg (by decide), if_neg (by decide), if_neg (by decide), if_neg (by decide), if_neg (by decide), if_neg (by decide), if_pos trivial, readTm_ok ha _ (NoDig.cons (by decide))]
    simp only [readTm_ok hb _ (NoDig.cons (by decide : isDig 58 = false)), readTm_ok hc _ (NoDig.cons (by decide : isDig 125 = false))]
  | _, _, .n1 (d := d) _ hk ha, r, hr => by
    rw [tmTextF_n1 _ hk]
    rcases hk with rfl | rfl
    · simp only [List.cons_append, readTm, if_true]
      rw [if_neg (by decide), if_neg (by decide), if_neg (by decide)]
      simp only [readTm_ok ha r hr]
    · simp only [List.cons_append, readTm]
      rw [if_neg (by decide), if_neg (by decide), if_neg (by decide), if_neg (by decide), if_pos (by decide)]
      simp only [readTm_ok ha r hr]
  | _, _, .asc (d := d) _ ht ha, r, hr => by
    rw [tmTextF_as]
    simp only [List.cons_append, List.nil_append, List.append_assoc, readTm]
    rw [if_neg (by decide), if_neg (by decide), if_neg (by decide), if_neg (by decide), if_neg (by decide), if_neg (by decide), if_neg (by decide), if_pos trivial, readTm_ok ha _ (NoDig.cons (by decide))]
    simp only [readTy4 ht, if_true]
  | _, _, .cast (d := d) (l := l) _ hf ht _ _ ha, r, hr => by
    rw [tmTextF_cast]
    simp only [List.cons_append, List.nil_append, List.append_assoc, readTm]
    rw [if_neg (by decide), if_neg (by decide), if_neg (by decide), if_neg (by decide), if_neg (by decide), if_neg (by decide), if_neg (by decide), if_pos trivial, readTm_ok ha _ (NoDig.cons (by decide))]
    simp only [readTy4 hf, readTy4 ht, if_true]
    rw [if_neg (by decide), readI_ok l (NoDig.cons (by decide))]
    rfl

theorem tmText_inj {nt nt' : Int} {d : Nat} {a b : MTm} (ha : TmV nt d a) (hb : TmV nt' d b) (h : tmTextF d a = tmTextF d b) : a = b := by
  have h1 := readTm_ok ha [] NoDig.nil
  have h2 := readTm_ok hb [] NoDig.nil
  rw [h, h2] at h1
  exact ((Prod.mk.inj (Option.some.inj h1)).1).symm
end Go.Av
