/- A part of the library of this seat: a value-semantic program logic over the model, plain models, and walks of functions. -/
import Derived.Test.YtgpgcnahoieedaaDoorS9
set_option linter.unusedVariables false
set_option linter.unusedSimpArgs false
namespace Go.Av
attribute [-simp] Go.Av.MCo.kind_mk Go.Av.MCo.tag_mk Go.Av.MCo.label_mk Go.Av.MCo.kids_mk
open Go

def formatTmM (e : MTm) : List UInt8 := if termValidM e = true then tmTextF 12 e else []
def formatCaM (e : MTm) : List UInt8 := if castValidM e = true then tmTextF 40 e else []

def pairB : List UInt8 := [112, 97, 105, 114]
def funB : List UInt8 := [102, 117, 110, 99, 116, 105, 111, 110]
def valTextF : Nat → MTm → List UInt8
  | 0, _ => []
  | d + 1, .mk k s n t f l kids =>
    if decide (k = 10) || (proxyM (.mk k s n t f l []) && decide (t.kind = 5)) then pairB
    else if decide (k = 5) || proxyM (.mk k s n t f l []) then funB
    else match kids with
      | [a] => valTextF d a
      | _ => if k = 2 then Lib.itoa n else if k = 3 then [84] else [70]
section
variable (d : Nat)
end
def valueTextM (e : MTm) : List UInt8 := if (castValidM e && valM e) = true then valTextF 40 e else []
end Go.Av

namespace Go.Av
attribute [-simp] Go.Av.MCo.kind_mk Go.Av.MCo.tag_mk Go.Av.MCo.label_mk Go.Av.MCo.kids_mk
open Go
theorem catLe {α : Type} {n m : Nat} [inst : Decidable (n ≤ m)] {a b : α} (h : n ≤ m) : (if n ≤ m then a else b) = a := if_pos h

theorem dec_len_le : ∀ n : Nat, n ≤ 9999 → (Lib.decDigits n).length ≤ 4 := by
  intro n hn
  by_cases h1 : 9 < n
  · rw [decDigits_step h1]
    by_cases h2 : 9 < n / 10
    · rw [decDigits_step h2]
      by_cases h3 : 9 < n / 10 / 10
      · rw [decDigits_step h3]
        rw [decDigits_small (by omega)]; simp
      · rw [decDigits_small (by omega)]; simp
    · rw [decDigits_small (by omega)]; simp
  · rw [decDigits_small (by omega)]; simp
theorem itoa_len_le {n : Int} (h0 : -9999 ≤ n) (h1 : n ≤ 9999) : (Lib.itoa n).length ≤ 5 := by
  rw [Lib.itoa]
  split
  · have := dec_len_le n.natAbs (by omega); simp; omega
  · have := dec_len_le n.toNat (by omega); omega
theorem lab_bound {l : Int} (h : labM l = true) : -99 ≤ l ∧ l ≤ 99 := by
  simp only [labM, inM, Bool.or_eq_true, Bool.and_eq_true, decide_eq_true_eq] at h
  omega
end Go.Av

namespace Go.Av
open Go

theorem MCo.ind {P : MCo → Prop} (h : ∀ t, (∀ u ∈ t.kids, P u) → P t) : ∀ t, P t
  | .mk k t b l => h _ (fun u hu => MCo.ind h u)
termination_by t => SizeOf.sizeOf t
decreasing_by simp at hu; have := List.sizeOf_lt_of_mem hu; simp; omega
def coKidsM (k : Int) : Int := if k = 1 ∨ k = 6 then 0 else if k = 4 ∨ k = 5 then 1 else if k = 2 ∨ k = 3 then 2 else -1
def anyCo (c : MCo) : Bool := decide (c.kind = 1) && decide (c.tag = 1)
theorem shapeCo_def (d : Nat) (c : MCo) : shapeCo (d + 1) c = (c.kids.all (shapeCo d) && coNode c) := by cases c; rfl
theorem coNode_bad {k t b : Int} {l : List MCo} (h : ¬ coKidsM k = l.length) : coNode (.mk k t b l) = false := by
  have hx : ∀ m : Int, k = m → ¬ coKidsM m = l.length := fun m e => e ▸ h
  match l with
  | [] =>
    have h1 : ¬ k = 1 := fun e => hx 1 e rfl
    have h6 : ¬ k = 6 := fun e => hx 6 e rfl
    simp [coNode, h1, h6]
  | [x] =>
    have h1 : ¬ k = 4 := fun e => hx 4 e rfl
    have h6 : ¬ k = 5 := fun e => hx 5 e rfl
    simp [coNode, h1, h6]
  | [x, y] =>
    have h1 : ¬ k = 2 := fun e => hx 2 e rfl
    have h6 : ¬ k = 3 := fun e => hx 3 e rfl
    simp [coNode, h1, h6]
  | _ :: _ :: _ :: _ => rfl
theorem coKids_cases {k : Int} {l : List MCo} (h : coKidsM k = l.length) : ((k = 1 ∨ k = 6) ∧ l = []) ∨ (∃ x, (k = 4 ∨ k = 5) ∧ l = [x]) ∨ (∃ x y, (k = 2 ∨ k = 3) ∧ l = [x, y]) := by
  simp only [coKidsM] at h
  split at h
  · exact .inl ⟨by assumption, List.length_eq_zero_iff.1 (by omega)⟩
  · split at h
    · match l with
      | [x] => exact .inr (.inl ⟨x, by assumption, rfl⟩)
      | [] => simp at h
      | _ :: _ :: _ => simp at h; omega
    · split at h
      · match l with
        | [x, y] => exact .inr (.inr ⟨x, y, by assumption, rfl⟩)
        | [] => simp at h
        | [_] => simp at h
        | _ :: _ :: _ :: _ => simp at h; omega
      · omega

mutual
def sameCo : MCo → MCo → Bool
  | .mk k t b l, .mk k' t' b' l' => decide (k = k') && decide (t = t') && decide (b = b') && sameCoS l l'
def sameCoS : List MCo → List MCo → Bool
  | [], [] => true
  | x :: xs, y :: ys => sameCo x y && sameCoS xs ys
  | _, _ => false
end
theorem sameCoS_all2 : ∀ (l m : List MCo), sameCoS l m = all2 sameCo l m
  | [], [] => rfl
  | x :: xs, y :: ys => by simp [sameCoS, all2, sameCoS_all2 xs ys]
  | [], _ :: _ => rfl
  | _ :: _, [] => rfl
theorem sameCo_def (a b : MCo) : sameCo a b = (decide (a.kind = b.kind) && decide (a.tag = b.tag) && decide (a.label = b.label) && all2 sameCo a.kids b.kids) := by
  cases a; cases b; simp only [sameCo, sameCoS_all2]; rfl
theorem sameCo_mk (k t lb : Int) (l : List MCo) (b : MCo) : sameCo (.mk k t lb l) b = (decide (k = b.kind) && decide (t = b.tag) && decide (lb = b.label) && all2 sameCo l b.kids) := by rw [sameCo_def]; rfl
mutual
theorem sameCo_iff : ∀ {a b : MCo}, sameCo a b = true ↔ a = b
  | .mk k t b l, .mk k' t' b' l' => by
    simp only [sameCo, Bool.and_eq_true, decide_eq_true_eq, sameCoS_iff, MCo.mk.injEq, and_assoc]
theorem sameCoS_iff : ∀ {l m : List MCo}, sameCoS l m = true ↔ l = m
  | [], [] => by simp [sameCoS]
  | x :: xs, y :: ys => by simp only [sameCoS, Bool.and_eq_true, sameCo_iff, sameCoS_iff, List.cons.injEq]
  | [], _ :: _ => by simp [sameCoS]
  | _ :: _, [] => by simp [sameCoS]
end
theorem sameCo_refl (a : MCo) : sameCo a a = true := sameCo_iff.2 rfl
theorem sameCo_comm (a c : MCo) : sameCo c a = sameCo a c := by
  by_cases h : a = c
  · subst h; rfl
  · rw [Bool.eq_iff_iff, sameCo_iff, sameCo_iff]; exact ⟨fun e => e.symm, fun e => e.symm⟩

def coText (c : MCo) : List UInt8 := coTextF 9 c
def formatCoM (c : MCo) : List UInt8 := if shapeCo 9 c = true then coText c else []
theorem coTextF_len {d : Nat} {c : MCo} (h : CoV d c) : (coTextF d c).length + 8 ≤ 16 * 2 ^ d := by
  induction h with
  | id _ _ => simp [coTextF_id, Nat.pow_succ]; have := Nat.one_le_two_pow (n := ‹Nat›); omega
  | @fail d b t hb _ _ => have h1 := lab_bound hb; have := itoa_len_le (n := b) (by omega) (by omega); simp [coTextF_fail, Nat.pow_succ]; have := Nat.one_le_two_pow (n := d); omega
  | inj _ _ ih => simp [coTextF_inj, Nat.pow_succ]; omega
  | @proj d b x hb _ _ ih => have h1 := lab_bound hb; have := itoa_len_le (n := b) (by omega) (by omega); simp [coTextF_proj, Nat.pow_succ]; omega
  | two _ _ _ ih1 ih2 => rw [coTextF_two]; simp [Nat.pow_succ]; omega
theorem coTextF_le {d : Nat} {c : MCo} (h : CoV d c) (hd : d ≤ 20) : (coTextF d c).length ≤ 16777216 := by
  have h1 := coTextF_len h
  have h2 : 2 ^ d ≤ 2 ^ 20 := Nat.pow_le_pow_right (by omega) hd
  have h3 : (2 : Nat) ^ 20 = 1048576 := by decide
  omega
/-- The tag of a valid coercion that the program prints between two operands. -/
def tagM (c : MCo) : Int := if c.kind = 2 then 4 else if c.kind = 3 then 5 else c.tag
end Go.Av

namespace Go.Av
open Go

theorem signB_mem (t : Int) : signB t = 63 ∨ signB t = 73 ∨ signB t = 66 ∨ signB t = 62 ∨ signB t = 42 := by
  simp only [signB]; repeat' split
  all_goals simp
theorem signB_inj {t t' : Int} (h1 : 1 ≤ t) (h2 : t ≤ 5) (h3 : 1 ≤ t') (h4 : t' ≤ 5) (h : signB t = signB t') : t = t' := by
  have e1 : t = 1 ∨ t = 2 ∨ t = 3 ∨ t = 4 ∨ t = 5 := by omega
  have e2 : t' = 1 ∨ t' = 2 ∨ t' = 3 ∨ t' = 4 ∨ t' = 5 := by omega
  rcases e1 with rfl | rfl | rfl | rfl | rfl <;> rcases e2 with rfl | rfl | rfl | rfl | rfl <;> first | rfl | exact absurd h (by decide)
theorem signB_nodig (t : Int) (r : List UInt8) : NoDig (signB t :: r) := by
  rcases signB_mem t with e | e | e | e | e <;> rw [e] <;> exact NoDig.cons (by decide)
theorem itoa_pre {a b : Int} {r s : List UInt8} (hr : NoDig r) (hs : NoDig s) (h : Lib.itoa a ++ r = Lib.itoa b ++ s) : a = b ∧ r = s := by
  have h1 := readI_ok a hr
  have h2 := readI_ok b hs
  rw [h, h2] at h1
  cases h1
  exact ⟨rfl, rfl⟩
/-- The byte with which the text of a coercion begins. -/
def coHead (c : MCo) : UInt8 := if c.kind = 1 then signB c.tag else if c.kind = 4 then 33 else if c.kind = 5 then 35 else if c.kind = 6 then 88 else 40
theorem coText_pre : ∀ {d : Nat} {a : MCo}, CoV d a → ∀ {d' : Nat} {c : MCo}, CoV d' c → ∀ r s, coTextF d a ++ r = coTextF d' c ++ s → a = c ∧ r = s := by
  intro d a ha
  induction ha with
  | @id d t h1 h2 =>
    intro d' c hc r s h
    rw [coTextF_id] at h
    have hm := signB_mem t
    cases hc with
    | @id d' t' h3 h4 =>
      rw [coTextF_id] at h
      simp only [List.cons_append, List.nil_append, List.cons.injEq] at h
      obtain rfl := signB_inj (by omega) (by omega) (by omega) (by omega) h.1
      exact ⟨rfl, h.2⟩
    | fail _ _ _ => rw [coTextF_fail] at h; simp only [List.cons_append, List.cons.injEq] at h; rcases hm with e | e | e | e | e <;> (rw [e] at h; exact absurd h.1 (by decide))
    | inj _ _ => rw [coTextF_inj] at h; simp only [List.cons_append, List.cons.injEq] at h; rcases hm with e | e | e | e | e <;> (rw [e] at h; exact absurd h.1 (by decide))
    | proj _ _ _ => rw [coTextF_proj] at h; simp only [List.cons_append, List.cons.injEq] at h; rcases hm with e | e | e | e | e <;> (rw [e] at h; exact absurd h.1 (by decide))
    | two _ _ _ => rw [coTextF_two] at h; simp only [List.cons_append, List.cons.injEq] at h; rcases hm with e | e | e | e | e <;> (rw [e] at h; exact absurd h.1 (by decide))
  | @fail d b t hb h1 h2 =>
    intro d' c hc r s h
    rw [coTextF_fail] at h
    cases hc with
    | @id d' t' h3 h4 => rw [coTextF_id] at h; simp only [List.cons_append, List.cons.injEq] at h; rcases signB_mem t' with e | e | e | e | e <;> (rw [e] at h; exact absurd h.1 (by decide))
    | @fail d' b' t' hb' h3 h4 =>
      rw [coTextF_fail] at h
      simp only [List.cons_append, List.cons.injEq, List.append_assoc, List.nil_append, true_and] at h
      obtain ⟨rfl, h5⟩ := itoa_pre (signB_nodig _ _) (signB_nodig _ _) h
      simp only [List.cons.injEq] at h5
      obtain rfl := signB_inj (by omega) (by omega) (by omega) (by omega) h5.1
      exact ⟨rfl, h5.2⟩
    | inj _ _ => rw [coTextF_inj] at h; simp at h
    | proj _ _ _ => rw [coTextF_proj] at h; simp at h
    | two _ _ _ => rw [coTextF_two] at h; simp at h
  | @inj d x hx hg ih =>
    intro d' c hc r s h
    rw [coTextF_inj] at h
    cases hc with
    | @id d' t' h3 h4 => rw [coTextF_id] at h; simp only [List.cons_append, List.cons.injEq] at h; rcases signB_mem t' with e | e | e | e | e <;> (rw [e] at h; exact absurd h.1 (by decide))
    | fail _ _ _ => rw [coTextF_fail] at h; simp at h
    | inj hy _ =>
      rw [coTextF_inj] at h
      simp only [List.cons_append, List.cons.injEq, true_and] at h
      obtain ⟨rfl, h5⟩ := ih hy r s h
      exact ⟨rfl, h5⟩
    | proj _ _ _ => rw [coTextF_proj] at h; simp at h
    | two _ _ _ => rw [coTextF_two] at h; simp at h
  | @proj d b x hb hx hg ih =>
    intro d' c hc r s h
    rw [coTextF_proj] at h
    cases hc with
    | @id d' t' h3 h4 => rw [coTextF_id] at h; simp only [List.cons_append, List.cons.injEq] at h; rcases signB_mem t' with e | e | e | e | e <;> (rw [e] at h; exact absurd h.1 (by decide))
    | fail _ _ _ => rw [coTextF_fail] at h; simp at h
    | inj _ _ => rw [coTextF_inj] at h; simp at h
    | proj _ hy _ =>
      rw [coTextF_proj] at h
      simp only [List.cons_append, List.cons.injEq, List.append_assoc, true_and] at h
      obtain ⟨rfl, h5⟩ := itoa_pre (NoDig.cons (by decide)) (NoDig.cons (by decide)) h
      simp only [List.cons.injEq, true_and] at h5
      obtain ⟨rfl, h6⟩ := ih hy r s h5
      exact ⟨rfl, h6⟩
    | two _ _ _ => rw [coTextF_two] at h; simp at h
  | @two d k x y hk hx hy ih1 ih2 =>
    intro d' c hc r s h
    rw [coTextF_two] at h
    cases hc with
    | @id d' t' h3 h4 => rw [coTextF_id] at h; simp only [List.cons_append, List.cons.injEq] at h; rcases signB_mem t' with e | e | e | e | e <;> (rw [e] at h; exact absurd h.1 (by decide))
    | fail _ _ _ => rw [coTextF_fail] at h; simp at h
    | inj _ _ => rw [coTextF_inj] at h; simp at h
    | proj _ _ _ => rw [coTextF_proj] at h; simp at h
    | @two d' k' x' y' hk' hx' hy' =>
      rw [coTextF_two] at h
      simp only [List.cons_append, List.cons.injEq, List.append_assoc, true_and] at h
      obtain ⟨rfl, h5⟩ := ih1 hx' _ _ h
      simp only [List.cons.injEq] at h5
      obtain ⟨h6, h7⟩ := h5
      obtain ⟨rfl, h8⟩ := ih2 hy' _ _ h7
      simp only [List.nil_append, List.cons.injEq, true_and] at h8
      have hkk : k = k' := by
        rcases hk with rfl | rfl <;> rcases hk' with rfl | rfl <;> first | rfl | exact absurd h6 (by decide)
      subst hkk
      exact ⟨rfl, h8⟩
theorem CoV.mono_ {d : Nat} {c : MCo} (h : CoV d c) : CoV (d + 1) c := by
  induction h with
  | id h1 h2 => exact .id h1 h2
  | fail hb h1 h2 => exact .fail hb h1 h2
  | inj _ hg ih => exact .inj ih hg
  | proj hb _ hg ih => exact .proj hb ih hg
  | two hk _ _ h1 h2 => exact .two hk h1 h2
theorem CoV.le {d d' : Nat} {c : MCo} (h : CoV d c) (hd : d ≤ d') : CoV d' c := by
  induction hd with
  | refl => exact h
  | step _ ih => exact ih.mono_
theorem CoV.small {d : Nat} {c : MCo} (h : CoV d c) : nCo c + 2 ≤ 2 * 2 ^ d := by
  induction h with
  | id _ _ => simp [nCo, nCoS, Nat.pow_succ]; have := Nat.one_le_two_pow (n := ‹Nat›); omega
  | fail _ _ _ => simp [nCo, nCoS, Nat.pow_succ]; have := Nat.one_le_two_pow (n := ‹Nat›); omega
  | inj _ _ ih => simp [nCo, nCoS, Nat.pow_succ]; omega
  | proj _ _ _ ih => simp [nCo, nCoS, Nat.pow_succ]; omega
  | two _ _ _ h1 h2 => simp [nCo, nCoS, Nat.pow_succ]; omega
theorem coText_inj {d d' : Nat} {a c : MCo} (ha : CoV d a) (hc : CoV d' c) (h : coTextF d a = coTextF d' c) : a = c :=
  (coText_pre ha hc [] [] (by rw [h])).1
theorem formatCo_inj (a c : MCo) : formatCoM a = [] ∨ formatCoM c = [] ∨ sameCo a c = decide (formatCoM a = formatCoM c) := by
  by_cases ha : shapeCo 9 a = true
  · by_cases hc : shapeCo 9 c = true
    · refine .inr (.inr ?_)
      rw [formatCoM, formatCoM, if_pos ha, if_pos hc]
      by_cases he : a = c
      · subst he; simp [sameCo_refl]
      · have hn : ¬ coText a = coText c := fun h => he (coText_inj (CoV.of ha) (CoV.of hc) h)
        have hs : sameCo a c = false := by
          cases hq : sameCo a c with
          | false => rfl
          | true => exact absurd (sameCo_iff.1 hq) he
        simp [hn, hs]
    · exact .inr (.inl (by rw [formatCoM, if_neg hc]))
  · exact .inl (by rw [formatCoM, if_neg ha])
end Go.Av

namespace Go.Av
open Go
theorem consTy_sym : ∀ (a b : MTy), consTy a b = true → consTy b a = true := by
  intro a
  induction a using MTy.ind with
  | h a ih =>
    intro b h
    rw [consTy_def] at h ⊢
    simp only [Bool.or_eq_true, Bool.and_eq_true, decide_eq_true_eq] at h ⊢
    rcases h with (h | h) | ⟨h1, h2⟩
    · exact .inl (.inr h)
    · exact .inl (.inl h)
    · refine .inr ⟨h1.symm, ?_⟩
      have key : ∀ (l m : List MTy), (∀ u ∈ l, u ∈ a.kids) → all2 consTy l m = true → all2 consTy m l = true := by
        intro l
        induction l with
        | nil => intro m _ hm; cases m with
          | nil => rfl
          | cons y ys => simp [all2] at hm
        | cons x xs ihl =>
          intro m hmem hm
          cases m with
          | nil => simp [all2] at hm
          | cons y ys =>
            simp only [all2, Bool.and_eq_true] at hm ⊢
            exact ⟨ih x (hmem x (by simp)) y hm.1, ihl ys (fun u hu => hmem u (by simp [hu])) hm.2⟩
      exact key _ _ (fun _ h => h) h2
theorem labM_neg {l : Int} (h : labM l = true) : labM (-l) = true := by
  simp only [labM, inM, Bool.or_eq_true, Bool.and_eq_true, decide_eq_true_eq] at h ⊢
  omega
theorem ground_proj {c : MCo} (h : groundCo c = true) : projCo c = true := by
  simp only [groundCo, projCo, Bool.or_eq_true, Bool.and_eq_true, Bool.not_eq_true', decide_eq_true_eq, decide_eq_false_iff_not, Bool.and_eq_false_iff] at h ⊢
  omega
theorem grd_valid {d : Nat} {t : MTy} (h : VTy (d + 1) t) (h1 : ¬ t.kind = 1) : VTy (d + 1) (.mk t.kind (List.replicate t.kids.length anyT)) ∧ consTy t (.mk t.kind (List.replicate t.kids.length anyT)) = true := by
  cases h with
  | any => exact absurd (by simp) h1
  | int => exact ⟨.int _, by simp [consTy_def, all2]⟩
  | bool => exact ⟨.bool _, by simp [consTy_def, all2]⟩
  | @fn d a b ha hb =>
    cases d with
    | zero => cases ha
    | succ d => exact ⟨.fn (.any _) (.any _), by simp [consTy_def, all2]⟩
  | @pair d a b ha hb =>
    cases d with
    | zero => cases ha
    | succ d => exact ⟨.pair (.any _) (.any _), by simp [consTy_def, all2]⟩
theorem CoV.sz {d : Nat} {c : MCo} (h : CoV d c) (hd : d ≤ 38) : nCo c ≤ 1099511627776 := by
  have h1 := h.small
  have h2 : 2 ^ d ≤ 274877906944 := Nat.le_trans (Nat.pow_le_pow_right (n := 2) (by omega) hd) (by decide)
  omega
end Go.Av
