/- A part of the library of this seat. -/
import Derived.Test.YtcgmmknfpfdghaaGreatDoorC13
set_option linter.unusedVariables false
set_option linter.unusedSimpArgs false
namespace Go.Av
attribute [-simp] Go.Av.MCo.kind_mk Go.Av.MCo.tag_mk Go.Av.MCo.label_mk Go.Av.MCo.kids_mk Go.Av.astepJ Go.Av.relC Go.Av.relL Go.Av.relV Go.Av.relVs Go.Av.callJ
open Go

def lastUp (s : List UInt8) (c : UInt8) : Nat -> Int
 | 0 => -1
 | p + 1 => if s[p]? = some c then (p : Int) else lastUp s c p
def lastIx (s : List UInt8) (c : UInt8) : Int := lastUp s c s.length
def lastOp (k : Int) : Int := if k = 6 then 6 else if k = 7 then 7 else if k = 8 then 8 else if k = 10 then 11 else if k = 11 then 12 else 13
def opNode (k : Int) (x n : Int) (cs : List (List MOp)) : List MOp :=
 if k = 1 then [⟨3, x⟩] else if k = 2 then [⟨1, n⟩] else if k = 3 then [⟨2, 1⟩] else if k = 4 then [⟨2, 0⟩]
 else if k = 5 then (match cs with | [b] => [⟨4, b.length + 1⟩] ++ b ++ [⟨5, 0⟩] | _ => [])
 else if k = 9 then (match cs with | [c, y, z] => c ++ [⟨9, y.length + 1⟩] ++ y ++ [⟨10, z.length⟩] ++ z | _ => [])
 else cs.flatten ++ [⟨lastOp k, 0⟩]
mutual
def compM (names : List UInt8) : MTm -> List MOp
 | .mk k s n _ _ _ l => opNode k (names.length - 1 - lastIx names (s.headD 0)) n (compS (if k = 5 then names ++ s else names) l)
def compS (names : List UInt8) : List MTm -> List (List MOp)
 | [] => []
 | e :: r => compM names e :: compS names r
end
inductive BaV : List UInt8 -> MTm -> Prop
 | var {ns : List UInt8} {c : UInt8} : c ∈ ns -> BaV ns (tVar [c])
 | num {ns : List UInt8} (n : Int) : BaV ns (tNum n)
 | tru {ns : List UInt8} : BaV ns tTrue
 | fls {ns : List UInt8} : BaV ns tFalse
 | lam {ns : List UInt8} {c : UInt8} {t : MTy} {b : MTm} : BaV (ns ++ [c]) b -> BaV ns (tLam [c] t b)
 | n2 {ns : List UInt8} {k : Int} {a b : MTm} : k = 6 \/ k = 7 \/ k = 8 \/ k = 10 -> BaV ns a -> BaV ns b -> BaV ns (tN2 k a b)
 | ite {ns : List UInt8} {a b c : MTm} : BaV ns a -> BaV ns b -> BaV ns c -> BaV ns (tIf a b c)
 | n1 {ns : List UInt8} {k : Int} {a : MTm} : k = 11 \/ k = 12 -> BaV ns a -> BaV ns (tN1 k a)
structure BaHead (ns : List UInt8) (e : MTm) : Prop where
 var : e.kind = 1 -> ∃ c, e.name = [c] /\ c ∈ ns /\ e.kids = []
 lam : e.kind = 5 -> ∃ c b, e.name = [c] /\ e.kids = [b]
 ite : e.kind = 9 -> ∃ a b c, e.kids = [a, b, c]
 kind : 1 <= e.kind /\ e.kind <= 12
 leaf : e.kind <= 4 -> e.kids = []
 len : e.kids.length <= 3
 nlen : e.name.length <= 1
 kids : ∀ u ∈ e.kids, BaV (if e.kind = 5 then ns ++ e.name else ns) u
def compileM (e : MTm) : Option (List MOp) := if termValidM e = true /\ namesM e = [] then (if opsValidM (compM [] (mapM bareG e)) = true then some (compM [] (mapM bareG e)) else none) else none
def ops0 (o : Option (List MOp)) : List MOp := o.getD []
mutual
theorem free_erase (z : UInt8) : ∀ (e : MTm) (bd : List UInt8), freeIn z bd (mapM eraseG e) = freeIn z bd e
 | .mk k s n t f b l, bd => by
  rw [mapM, eraseG]
  split <;> (simp only [freeIn, MTm.kind_mk, MTm.name_mk, MTm.kids_mk, free_eraseS z l]; try rfl)
theorem free_eraseS (z : UInt8) : ∀ (l : List MTm) (bd : List UInt8), freeInS z bd (mapS eraseG l) = freeInS z bd l
 | [], bd => rfl
 | e :: r, bd => by rw [mapS, freeInS, freeInS, free_erase z e, free_eraseS z r]
end
mutual
def sfree (bd : List UInt8) : MTm -> List UInt8 -> List UInt8
 | .mk k s _ _ _ _ l, out => sfreeS (if k = 5 then addM (s.headD 0) bd else bd) l (if k = 1 /\ ¬ s.headD 0 ∈ bd then addM (s.headD 0) out else out)
def sfreeS (bd : List UInt8) : List MTm -> List UInt8 -> List UInt8
 | [], out => out
 | e :: r, out => sfreeS bd r (sfree bd e out)
end
mutual
theorem sfree_len : ∀ (e : MTm) (bd out : List UInt8), (sfree bd e out).length <= out.length + nodesM e
 | .mk k s n t f b l, bd, out => by
  rw [sfree, nodesM]
  have h1 := sfree_lenS l (if k = 5 then addM (s.headD 0) bd else bd) (if k = 1 /\ ¬ s.headD 0 ∈ bd then addM (s.headD 0) out else out)
  have h2 : (if k = 1 /\ ¬ s.headD 0 ∈ bd then addM (s.headD 0) out else out).length <= out.length + 1 := by
   split
   ·exact addM_len _ _
   ·omega
  omega
theorem sfree_lenS : ∀ (l : List MTm) (bd out : List UInt8), (sfreeS bd l out).length <= out.length + nodesS l
 | [], bd, out => by simp [sfreeS]
 | e :: r, bd, out => by
  rw [sfreeS, nodesS]
  have h1 := sfree_len e bd out
  have h2 := sfree_lenS r bd (sfree bd e out)
  omega
end
end Go.Av

namespace Go.Av
attribute [-simp] Go.Av.MCo.kind_mk Go.Av.MCo.tag_mk Go.Av.MCo.label_mk Go.Av.MCo.kids_mk Go.Av.astepJ Go.Av.relC Go.Av.relL Go.Av.relV Go.Av.relVs Go.Av.callJ
open Go

def formatTmM (e : MTm) : List UInt8 := if termValidM e = true then tmTextF 12 e else []
def formatCaM (e : MTm) : List UInt8 := if castValidM e = true then tmTextF 40 e else []

def pairB : List UInt8 := [112, 97, 105, 114]
def funB : List UInt8 := [102, 117, 110, 99, 116, 105, 111, 110]
def valTextF : Nat -> MTm -> List UInt8
 | 0, _ => []
 | d + 1, .mk k s n t f l kids =>
  if decide (k = 10) || (proxyM (.mk k s n t f l []) && decide (t.kind = 5)) then pairB
  else if decide (k = 5) || proxyM (.mk k s n t f l []) then funB
  else match kids with
   | [a] => valTextF d a
   | _ => if k = 2 then Lib.itoa n else if k = 3 then [84] else [70]
section
variable (d : Nat)
end
def valueTextM (e : MTm) : List UInt8 := if (castValidM e && valM e) = true then valTextF 40 e else []
end Go.Av

namespace Go.Av
attribute [-simp] Go.Av.MCo.kind_mk Go.Av.MCo.tag_mk Go.Av.MCo.label_mk Go.Av.MCo.kids_mk Go.Av.astepJ Go.Av.relC Go.Av.relL Go.Av.relV Go.Av.relVs Go.Av.callJ
open Go
theorem catLe {α : Type} {n m : Nat} [inst : Decidable (n <= m)] {a b : α} (h : n <= m) : (if n <= m then a else b) = a := if_pos h

theorem dec_len_le : ∀ n : Nat, n <= 9999 -> (Lib.decDigits n).length <= 4 := by
 intro n hn
 by_cases h1 : 9 < n
 ·rw [decDigits_step h1]
  by_cases h2 : 9 < n / 10
  ·rw [decDigits_step h2]
   by_cases h3 : 9 < n / 10 / 10
   ·rw [decDigits_step h3]
    rw [decDigits_small (by omega)]; simp
   ·rw [decDigits_small (by omega)]; simp
  ·rw [decDigits_small (by omega)]; simp
 ·rw [decDigits_small (by omega)]; simp
theorem itoa_len_le {n : Int} (h0 : -9999 <= n) (h1 : n <= 9999) : (Lib.itoa n).length <= 5 := by
 rw [Lib.itoa]
 split
 ·have := dec_len_le n.natAbs (by omega); simp; omega
 ·have := dec_len_le n.toNat (by omega); omega
theorem lab_bound {l : Int} (h : labM l = true) : -99 <= l /\ l <= 99 := by
 simp only [labM, inM, Bool.or_eq_true, Bool.and_eq_true, decide_eq_true_eq] at h
 omega
end Go.Av

namespace Go.Av
attribute [-simp] Go.Av.astepJ Go.Av.relC Go.Av.relL Go.Av.relV Go.Av.relVs Go.Av.callJ
open Go

theorem MCo.ind {P : MCo -> Prop} (h : ∀ t, (∀ u ∈ t.kids, P u) -> P t) : ∀ t, P t
 | .mk k t b l => h _ (fun u hu => MCo.ind h u)
termination_by t => SizeOf.sizeOf t
decreasing_by simp at hu; have := List.sizeOf_lt_of_mem hu; simp; omega
def coKidsM (k : Int) : Int := if k = 1 \/ k = 6 then 0 else if k = 4 \/ k = 5 then 1 else if k = 2 \/ k = 3 then 2 else -1
def anyCo (c : MCo) : Bool := decide (c.kind = 1) && decide (c.tag = 1)
theorem shapeCo_def (d : Nat) (c : MCo) : shapeCo (d + 1) c = (c.kids.all (shapeCo d) && coNode c) := by cases c; rfl
theorem coNode_bad {k t b : Int} {l : List MCo} (h : ¬ coKidsM k = l.length) : coNode (.mk k t b l) = false := by
 have hx : ∀ m : Int, k = m -> ¬ coKidsM m = l.length := fun m e => e ▸ h
 match l with
 | [] =>
  have h1 : ¬ k = 1 := fun e => hx 1 e rfl
  have h6 : ¬ k = 6 := fun e => hx 6 e rfl
  simp [coNode, h1, h6]
 | [x] =>
  have h1 : ¬ k = 4 := fun e => hx 4 e rfl
  have h6 : ¬ k = 5 := fun e => hx 5 e rfl
  simp [coNode, h1, h6]
 | [x, y] =>
  have h1 : ¬ k = 2 := fun e => hx 2 e rfl
  have h6 : ¬ k = 3 := fun e => hx 3 e rfl
  simp [coNode, h1, h6]
 | _ :: _ :: _ :: _ => rfl
theorem coKids_cases {k : Int} {l : List MCo} (h : coKidsM k = l.length) : ((k = 1 \/ k = 6) /\ l = []) \/ (∃ x, (k = 4 \/ k = 5) /\ l = [x]) \/ (∃ x y, (k = 2 \/ k = 3) /\ l = [x, y]) := by
 simp only [coKidsM] at h
 split at h
 ·exact .inl ⟨by assumption, List.length_eq_zero_iff.1 (by omega)⟩
 ·split at h
  ·match l with
   | [x] => exact .inr (.inl ⟨x, by assumption, rfl⟩)
   | [] => simp at h
   | _ :: _ :: _ => simp at h; omega
  ·split at h
   ·match l with
    | [x, y] => exact .inr (.inr ⟨x, y, by assumption, rfl⟩)
    | [] => simp at h
    | [_] => simp at h
    | _ :: _ :: _ :: _ => simp at h; omega
   ·omega

mutual
def sameCo : MCo -> MCo -> Bool
 | .mk k t b l, .mk k' t' b' l' => decide (k = k') && decide (t = t') && decide (b = b') && sameCoS l l'
def sameCoS : List MCo -> List MCo -> Bool
 | [], [] => true
 | x :: xs, y :: ys => sameCo x y && sameCoS xs ys
 | _, _ => false
end
theorem sameCoS_all2 : ∀ (l m : List MCo), sameCoS l m = all2 sameCo l m
 | [], [] => rfl
 | x :: xs, y :: ys => by simp [sameCoS, all2, sameCoS_all2 xs ys]
 | [], _ :: _ => rfl
 | _ :: _, [] => rfl
theorem sameCo_def (a b : MCo) : sameCo a b = (decide (a.kind = b.kind) && decide (a.tag = b.tag) && decide (a.label = b.label) && all2 sameCo a.kids b.kids) := by
 cases a; cases b; simp only [sameCo, sameCoS_all2]; rfl
mutual
theorem sameCo_iff : ∀ {a b : MCo}, sameCo a b = true ↔ a = b
 | .mk k t b l, .mk k' t' b' l' => by
  simp only [sameCo, Bool.and_eq_true, decide_eq_true_eq, sameCoS_iff, MCo.mk.injEq, and_assoc]
theorem sameCoS_iff : ∀ {l m : List MCo}, sameCoS l m = true ↔ l = m
 | [], [] => by simp [sameCoS]
 | x :: xs, y :: ys => by simp only [sameCoS, Bool.and_eq_true, sameCo_iff, sameCoS_iff, List.cons.injEq]
 | [], _ :: _ => by simp [sameCoS]
 | _ :: _, [] => by simp [sameCoS]
end
theorem sameCo_refl (a : MCo) : sameCo a a = true := sameCo_iff.2 rfl
def coText (c : MCo) : List UInt8 := coTextF 9 c
def formatCoM (c : MCo) : List UInt8 := if shapeCo 9 c = true then coText c else []
theorem coTextF_len {d : Nat} {c : MCo} (h : CoV d c) : (coTextF d c).length + 8 <= 16 * 2 ^ d := by
 induction h with
 | id _ _ => simp [coTextF_id, Nat.pow_succ]; have := Nat.one_le_two_pow (n := ‹Nat›); omega
 | @fail d b t hb _ _ => have h1 := lab_bound hb; have := itoa_len_le (n := b) (by omega) (by omega); simp [coTextF_fail, Nat.pow_succ]; have := Nat.one_le_two_pow (n := d); omega
 | inj _ _ ih => simp [coTextF_inj, Nat.pow_succ]; omega
 | @proj d b x hb _ _ ih => have h1 := lab_bound hb; have := itoa_len_le (n := b) (by omega) (by omega); simp [coTextF_proj, Nat.pow_succ]; omega
 | two _ _ _ ih1 ih2 => rw [coTextF_two]; simp [Nat.pow_succ]; omega
theorem coTextF_le {d : Nat} {c : MCo} (h : CoV d c) (hd : d <= 24) : (coTextF d c).length <= 268435456 := by
 have h1 := coTextF_len h
 have h2 : 2 ^ d <= 2 ^ 24 := Nat.pow_le_pow_right (by omega) hd
 have h3 : (2 : Nat) ^ 24 = 16777216 := by decide
 omega
def tagM (c : MCo) : Int := if c.kind = 2 then 4 else if c.kind = 3 then 5 else c.tag
end Go.Av

namespace Go.Av
attribute [-simp] Go.Av.astepJ Go.Av.relC Go.Av.relL Go.Av.relV Go.Av.relVs Go.Av.callJ
open Go

theorem signB_mem (t : Int) : signB t = 63 \/ signB t = 73 \/ signB t = 66 \/ signB t = 62 \/ signB t = 42 := by
 simp only [signB]; repeat' split
 all_goals simp
theorem signB_nodig (t : Int) (r : List UInt8) : NoDig (signB t :: r) := by
 rcases signB_mem t with e | e | e | e | e <;> rw [e] <;> exact NoDig.cons (by decide)
def coHead (c : MCo) : UInt8 := if c.kind = 1 then signB c.tag else if c.kind = 4 then 33 else if c.kind = 5 then 35 else if c.kind = 6 then 88 else 40
theorem coText_head {d : Nat} {c : MCo} (h : CoV d c) : ∃ r, coTextF d c = coHead c :: r := by
 cases h with
 | id _ _ => exact ⟨[], by simp [coTextF_id, coHead]⟩
 | fail _ _ _ => exact ⟨_, by rw [coTextF_fail]; simp [coHead]; rfl⟩
 | inj _ _ => exact ⟨_, by rw [coTextF_inj]; simp [coHead]; rfl⟩
 | proj _ _ _ => exact ⟨_, by rw [coTextF_proj]; simp [coHead]; rfl⟩
 | two hk _ _ => rcases hk with rfl | rfl <;> exact ⟨_, by rw [coTextF_two]; simp [coHead]; rfl⟩
theorem CoV.mono_ {d : Nat} {c : MCo} (h : CoV d c) : CoV (d + 1) c := by
 induction h with
 | id h1 h2 => exact .id h1 h2
 | fail hb h1 h2 => exact .fail hb h1 h2
 | inj _ hg ih => exact .inj ih hg
 | proj hb _ hg ih => exact .proj hb ih hg
 | two hk _ _ h1 h2 => exact .two hk h1 h2
theorem CoV.le {d d' : Nat} {c : MCo} (h : CoV d c) (hd : d <= d') : CoV d' c := by
 induction hd with
 | refl => exact h
 | step _ ih => exact ih.mono_
theorem CoV.small {d : Nat} {c : MCo} (h : CoV d c) : nCo c + 2 <= 2 * 2 ^ d := by
 induction h with
 | id _ _ => simp [nCo, nCoS, Nat.pow_succ]; have := Nat.one_le_two_pow (n := ‹Nat›); omega
 | fail _ _ _ => simp [nCo, nCoS, Nat.pow_succ]; have := Nat.one_le_two_pow (n := ‹Nat›); omega
 | inj _ _ ih => simp [nCo, nCoS, Nat.pow_succ]; omega
 | proj _ _ _ ih => simp [nCo, nCoS, Nat.pow_succ]; omega
 | two _ _ _ h1 h2 => simp [nCo, nCoS, Nat.pow_succ]; omega
theorem coText_ne {d : Nat} {a : MCo} (ha : CoV d a) : coTextF d a ≠ [] := fun h => by
 obtain ⟨r, e⟩ := coText_head ha
 rw [h] at e; cases e
end Go.Av

namespace Go.Av
attribute [-simp] Go.Av.astepJ Go.Av.relC Go.Av.relL Go.Av.relV Go.Av.relVs Go.Av.callJ
open Go
theorem consTy_sym : ∀ (a b : MTy), consTy a b = true -> consTy b a = true := by
 intro a
 induction a using MTy.ind with
 | h a ih =>
  intro b h
  rw [consTy_def] at h ⊢
  simp only [Bool.or_eq_true, Bool.and_eq_true, decide_eq_true_eq] at h ⊢
  rcases h with (h | h) | ⟨h1, h2⟩
  ·exact .inl (.inr h)
  ·exact .inl (.inl h)
  ·refine .inr ⟨h1.symm, ?_⟩
   have key : ∀ (l m : List MTy), (∀ u ∈ l, u ∈ a.kids) -> all2 consTy l m = true -> all2 consTy m l = true := by
    intro l
    induction l with
    | nil => intro m _ hm; cases m with
     | nil => rfl
     | cons y ys => simp [all2] at hm
    | cons x xs ihl =>
     intro m hmem hm
     cases m with
     | nil => simp [all2] at hm
     | cons y ys =>
      simp only [all2, Bool.and_eq_true] at hm ⊢
      exact ⟨ih x (hmem x (by simp)) y hm.1, ihl ys (fun u hu => hmem u (by simp [hu])) hm.2⟩
   exact key _ _ (fun _ h => h) h2
theorem labM_neg {l : Int} (h : labM l = true) : labM (-l) = true := by
 simp only [labM, inM, Bool.or_eq_true, Bool.and_eq_true, decide_eq_true_eq] at h ⊢
 omega
theorem ground_proj {c : MCo} (h : groundCo c = true) : projCo c = true := by
 simp only [groundCo, projCo, Bool.or_eq_true, Bool.and_eq_true, Bool.not_eq_true', decide_eq_true_eq, decide_eq_false_iff_not, Bool.and_eq_false_iff] at h ⊢
 omega
theorem grd_valid {d : Nat} {t : MTy} (h : VTy (d + 1) t) (h1 : ¬ t.kind = 1) : VTy (d + 1) (.mk t.kind (List.replicate t.kids.length anyT)) /\ consTy t (.mk t.kind (List.replicate t.kids.length anyT)) = true := by
 cases h with
 | any => exact absurd (by simp) h1
 | int => exact ⟨.int _, by simp [consTy_def, all2]⟩
 | bool => exact ⟨.bool _, by simp [consTy_def, all2]⟩
 | @fn d a b ha hb =>
  cases d with
  | zero => cases ha
  | succ d => exact ⟨.fn (.any _) (.any _), by simp [consTy_def, all2]⟩
 | @pair d a b ha hb =>
  cases d with
  | zero => cases ha
  | succ d => exact ⟨.pair (.any _) (.any _), by simp [consTy_def, all2]⟩
theorem CoV.sz {d : Nat} {c : MCo} (h : CoV d c) (hd : d <= 38) : nCo c <= 1099511627776 := by
 have h1 := h.small
 have h2 : 2 ^ d <= 274877906944 := Nat.le_trans (Nat.pow_le_pow_right (n := 2) (by omega) hd) (by decide)
 omega
end Go.Av

namespace Go.Av
attribute [-simp] Go.Av.MCo.kind_mk Go.Av.MCo.tag_mk Go.Av.MCo.label_mk Go.Av.MCo.kids_mk Go.Av.astepJ Go.Av.relC Go.Av.relL Go.Av.relV Go.Av.relVs Go.Av.callJ
open Go

inductive IT where
 | v (n : Nat)
 | b (k : Int)
 | p (k : Int) (x y : IT)
deriving DecidableEq

def bd (B : List IT) (n : Nat) : Option IT := match B[n]? with
 | some t => if t = .v n then none else some t
 | none => none
def ex (B : List IT) : Nat -> IT -> Bool
 | 0, _ => false
 | k + 1, .v n => match bd B n with
  | none => true
  | some t => ex B k t
 | _ + 1, .b _ => true
 | k + 1, .p _ x y => ex B k x && ex B k y
def hd (B : List IT) : Nat -> IT -> IT
 | k + 1, .v n => match bd B n with
  | none => .v n
  | some t => hd B k t
 | _, t => t
def occ (B : List IT) (n : Nat) : Nat -> IT -> Bool
 | k + 1, .v m => match bd B m with
  | none => decide (m = n)
  | some t => occ B n k t
 | k + 1, .p _ x y => occ B n k x || occ B n k y
 | _, _ => false
def uni : Nat -> List IT -> IT -> IT -> Option (List IT × Bool)
 | 0, _, _, _ => none
 | k + 1, B, a, b => if ex B k a && ex B k b then
   match hd B k a, hd B k b with
   | .v n, b' => if b' = .v n then some (B, true) else if occ B n k b' then some (B, false) else some (B.set n b', true)
   | a', .v n => if occ B n k a' then some (B, false) else some (B.set n a', true)
   | .b i, .b j => some (B, decide (i = j))
   | .p i x y, .p j x' y' => if i = j then (match uni k B x x' with
     | some (B1, true) => uni k B1 y y'
     | r => r) else some (B, false)
   | _, _ => some (B, false)
  else none

section
variable {B : List IT}
def isHd (B : List IT) (t : IT) : Prop := ∀ n, t = .v n -> bd B n = none
end

def sc (N : Nat) : IT -> Bool
 | .v n => decide (n < N)
 | .b _ => true
 | .p _ x y => sc N x && sc N y
def ScB (B : List IT) : Prop := ∀ t ∈ B, sc B.length t = true
def nfree (B : List IT) : Nat := (List.range B.length).countP fun n => (bd B n).isNone
def Acy (B : List IT) : Prop := ∀ n, n < B.length -> ∃ k, ex B k (.v n) = true
section
variable {G : Type} (mk : Int -> Option (G × G) -> G)
def rd_ (θ : Nat -> G) : IT -> G
 | .v n => θ n
 | .b k => mk k none
 | .p k x y => mk k (some (rd_ θ x, rd_ θ y))
def Sat (θ : Nat -> G) (B : List IT) : Prop := ∀ n t, bd B n = some t -> θ n = rd_ mk θ t
variable {mk}
structure GOk (mk : Int -> Option (G × G) -> G) : Prop where
 inj : ∀ k k' o o', mk k o = mk k' o' -> k = k' /\ o = o'
 size : ∃ sz : G -> Nat, ∀ k x y, sz x < sz (mk k (some (x, y))) /\ sz y < sz (mk k (some (x, y)))
end
end Go.Av

namespace Go.Av
attribute [-simp] Go.Av.MCo.kind_mk Go.Av.MCo.tag_mk Go.Av.MCo.label_mk Go.Av.MCo.kids_mk Go.Av.astepJ Go.Av.relC Go.Av.relL Go.Av.relV Go.Av.relVs Go.Av.callJ
open Go

def uniQ (k : Nat) (B : List IT) (a b : IT) : Option (Option (List IT)) := match uni k B a b with
 | none => none
 | some (B', true) => some (some B')
 | some (_, false) => some none
def infN (k : Nat) (kd : Int) (B : List IT) (ts : List IT) : Option (Option (List IT × IT)) :=
 if kd = 2 then some (some (B, .b 2)) else if kd = 3 \/ kd = 4 then some (some (B, .b 3)) else match ts with
  | [x] => if kd = 11 \/ kd = 12 then (uniQ k (B ++ [.v B.length, .v (B.length + 1)]) x (.p 5 (.v B.length) (.v (B.length + 1)))).map (·.map fun B' => (B', .v (if kd = 12 then B.length + 1 else B.length))) else some none
  | [x, y] => if kd = 10 then some (some (B, .p 5 x y))
   else if kd = 6 then (uniQ k (B ++ [.v B.length, .v (B.length + 1)]) x (.p 4 y (.v B.length))).map (·.map fun B' => (B', .v B.length))
   else if kd = 7 \/ kd = 8 then (match uniQ k B x (.b 2) with
    | some (some B1) => (uniQ k B1 y (.b 2)).map (·.map fun B' => (B', .b (if kd = 8 then 3 else 2)))
    | none => none
    | some none => some none) else some none
  | [x, y, z] => if kd = 9 then (match uniQ k B x (.b 3) with
    | some (some B1) => (uniQ k B1 y z).map (·.map fun B' => (B', y))
    | none => none
    | some none => some none) else some none
  | _ => some none
mutual
def inf (k : Nat) : MTm -> List IT -> List IT -> List UInt8 -> List IT -> Option (Option (List IT × List IT × IT))
 | .mk kd s _ _ _ _ l, B, ls, ns, ts =>
  if kd = 1 then some (if 0 <= lastIx ns (s.headD 0) then (ts[(lastIx ns (s.headD 0)).toNat]?).map fun t => (B, ls, t) else none)
  else match infS k l (if kd = 5 then B ++ [.v B.length] else B) (if kd = 5 then ls ++ [.v B.length] else ls) (if kd = 5 then ns ++ s else ns) (if kd = 5 then ts ++ [.v B.length] else ts) with
   | some (some (B1, ls1, us)) => if kd = 5 then (match us with | [u] => some (some (B1, ls1, .p 4 (.v B.length) u)) | _ => some none) else (infN k kd B1 us).map (·.map fun r => (r.1, ls1, r.2))
   | none => none
   | some none => some none
def infS (k : Nat) : List MTm -> List IT -> List IT -> List UInt8 -> List IT -> Option (Option (List IT × List IT × List IT))
 | [], B, ls, _, _ => some (some (B, ls, []))
 | e :: r, B, ls, ns, ts => match inf k e B ls ns ts with
  | some (some (B1, ls1, t)) => (match infS k r B1 ls1 ns ts with
   | some (some (B2, ls2, us)) => some (some (B2, ls2, t :: us))
   | none => none
   | some none => some none)
  | none => none
  | some none => some none
end

inductive Ba : MTm -> Prop
 | var (c : UInt8) : Ba (tVar [c])
 | num (n : Int) : Ba (tNum n)
 | tru : Ba tTrue
 | fls : Ba tFalse
 | lam {c : UInt8} {t : MTy} {b : MTm} : Ba b -> Ba (tLam [c] t b)
 | n2 {k : Int} {a b : MTm} : k = 6 \/ k = 7 \/ k = 8 \/ k = 10 -> Ba a -> Ba b -> Ba (tN2 k a b)
 | ite {a b c : MTm} : Ba a -> Ba b -> Ba c -> Ba (tIf a b c)
 | n1 {k : Int} {a : MTm} : k = 11 \/ k = 12 -> Ba a -> Ba (tN1 k a)
section
variable (k : Nat) (B ls : List IT) (ns : List UInt8) (ts : List IT)
end

structure NewV (B C : List IT) : Prop where
 le : B.length <= C.length
 old : ∀ n, n < B.length -> bd C n = bd B n
 new : ∀ n, B.length <= n -> n < C.length -> bd C n = none
 sc : ScB B -> ScB C
 acy : ScB B -> Acy B -> Acy C
structure OkB (B : List IT) : Prop where
 sc : ScB B
 acy : Acy B
structure NOk (B B' : List IT) (t : IT) : Prop where
 ok : OkB B'
 le : B.length <= B'.length
 len : B'.length <= B.length + 2
 sct : Av.sc B'.length t = true
structure IOk (e : MTm) (B ls : List IT) (B' ls' : List IT) (t : IT) : Prop where
 ok : OkB B'
 le : B.length <= B'.length
 len : B'.length <= B.length + 2 * nodesM e
 sct : Av.sc B'.length t = true
 lams : ∃ new, ls' = ls ++ new /\ new.length = (typesM e).length /\ ∀ u ∈ new, Av.sc B'.length u = true
structure CtxI (B : List IT) (ns : List UInt8) (ts : List IT) : Prop where
 len : ts.length = ns.length
 scs : ∀ u ∈ ts, Av.sc B.length u = true
end Go.Av

namespace Go.Av
attribute [-simp] Go.Av.MCo.kind_mk Go.Av.MCo.tag_mk Go.Av.MCo.label_mk Go.Av.MCo.kids_mk Go.Av.astepJ Go.Av.relC Go.Av.relL Go.Av.relV Go.Av.relVs Go.Av.callJ
open Go

def gmk (k : Int) : Option (MTy × MTy) -> MTy
 | none => .mk k []
 | some (x, y) => .mk k [x, y]
abbrev rdT := rd_ gmk
abbrev SatT := Sat gmk

def ctxI (θ : Nat -> MTy) (ns : List UInt8) (ts : List IT) : List MBd := List.zipWith (fun c t => ⟨[c], rdT θ t⟩) ns ts
def nodeEq (kd : Int) (ts : List MTy) (t : MTy) : Prop :=
 (kd = 2 /\ t = intT) \/ ((kd = 3 \/ kd = 4) /\ t = boolT) \/ (∃ x, ts = [.mk 5 [t, x]] /\ kd = 11) \/ (∃ x, ts = [.mk 5 [x, t]] /\ kd = 12) \/ (∃ x y, ts = [x, y] /\ kd = 10 /\ t = .mk 5 [x, y]) \/ (∃ y, ts = [.mk 4 [y, t], y] /\ kd = 6) \/
  (ts = [intT, intT] /\ kd = 7 /\ t = intT) \/ (ts = [intT, intT] /\ kd = 8 /\ t = boolT) \/ (ts = [boolT, t, t] /\ kd = 9)
end Go.Av

namespace Go.Av
attribute [-simp] Go.Av.MCo.kind_mk Go.Av.MCo.tag_mk Go.Av.MCo.label_mk Go.Av.MCo.kids_mk Go.Av.astepJ Go.Av.relC Go.Av.relL Go.Av.relV Go.Av.relVs Go.Av.callJ
open Go

mutual
theorem meet_same : ∀ t : MTy, meetTy t t = t
 | .mk k l => by
  simp only [meetTy]
  split
  ·rfl
  ·first
   | rw [meet_sameS l]
   | (split; rfl; rw [meet_sameS l])
theorem meet_sameS : ∀ l : List MTy, meetTyS l l = l
 | [] => rfl
 | t :: r => by rw [meetTyS, meet_same t, meet_sameS r]
end
mutual
theorem cons_same : ∀ t : MTy, consTy t t = true
 | .mk k l => by
  simp only [consTy]
  simp [cons_sameS l]
theorem cons_sameS : ∀ l : List MTy, consTyS l l = true
 | [] => rfl
 | t :: r => by simp [consTyS, cons_same t, cons_sameS r]
end

end Go.Av

namespace Go.Av
attribute [-simp] Go.Av.MCo.kind_mk Go.Av.MCo.tag_mk Go.Av.MCo.label_mk Go.Av.MCo.kids_mk Go.Av.astepJ Go.Av.relC Go.Av.relL Go.Av.relV Go.Av.relVs Go.Av.callJ
open Go

inductive DL : MTy -> MTy -> Prop
 | int (b : MTy) : DL intT b
 | base (k : Int) : DL (.mk k []) (.mk k [])
 | two {k : Int} {a b a' b' : MTy} : DL a a' -> DL b b' -> DL (.mk k [a, b]) (.mk k [a', b'])
def kdI : IT -> Prop
 | .v _ => True
 | .b k => k = 2 \/ k = 3
 | .p k x y => (k = 4 \/ k = 5) /\ kdI x /\ kdI y
structure Got (θ : Nat -> MTy) (B ls : List IT) (ns : List UInt8) (ts : List IT) (e : MTm) (T : MTy) : Prop where
 sta : cntM T = 0
 ex : ∃ k B' new t θ', inf k e B ls ns ts = some (some (B', ls ++ new, t)) /\ SatT θ' B' /\ (∀ n, n < B.length -> θ' n = θ n) /\ rdT θ' t = T /\ (∀ u ∈ new, shapeTy 4 (rdT θ' u) = true) /\
  ∀ θ0, SatT θ0 B' -> (∀ n, n < B'.length -> DL (θ0 n) (θ' n)) -> typeM (ctxI θ0 ns ts) (withM e (new.map (rdT θ0))) = some (rdT θ0 t)
def staC (c : List MBd) : Prop := ∀ b ∈ c, shapeTy 4 b.ty = true /\ cntM b.ty = 0
end Go.Av

namespace Go.Av
attribute [-simp] Go.Av.MCo.kind_mk Go.Av.MCo.tag_mk Go.Av.MCo.label_mk Go.Av.MCo.kids_mk Go.Av.astepJ Go.Av.relC Go.Av.relL Go.Av.relV Go.Av.relVs Go.Av.callJ
open Go

def staD (B : List IT) (K : Nat) : Nat -> IT -> Option MTy
 | 0, _ => none
 | d + 1, t => match hd B K t with
  | .v _ => some intT
  | .b k => some (.mk k [])
  | .p k x y => match staD B K d x with
   | none => none
   | some X => match staD B K d y with
    | none => none
    | some Y => some (.mk k [X, Y])
def staL (B : List IT) (K : Nat) : List IT -> Option (List MTy)
 | [] => some []
 | t :: r => match staD B K 4 t with
  | none => none
  | some T => match staL B K r with
   | none => none
   | some Ts => some (T :: Ts)
def KdB (B : List IT) : Prop := ∀ t ∈ B, kdI t
def stI (B : List IT) : Nat -> IT -> MTy
 | k + 1, .v n => match bd B n with
  | none => intT
  | some t => stI B k t
 | 0, .v _ => intT
 | _, .b k => .mk k []
 | 0, .p _ _ _ => intT
 | j + 1, .p k x y => .mk k [stI B j x, stI B j y]
def Fuel (B : List IT) (K : Nat) : Prop := ∀ n, n < B.length -> ex B K (.v n) = true
def th0 (B : List IT) (K : Nat) (n : Nat) : MTy := stI B K (.v n)
structure Whole (e : MTm) (k : Nat) (B ls : List IT) (t : IT) : Prop where
 ba : Ba e
 inf : Av.inf k e [] [] [] [] = some (some (B, ls, t))
end Go.Av

namespace Go.Av
attribute [-simp] Go.Av.MCo.kind_mk Go.Av.MCo.tag_mk Go.Av.MCo.label_mk Go.Av.MCo.kids_mk Go.Av.astepJ Go.Av.relC Go.Av.relL Go.Av.relV Go.Av.relVs Go.Av.callJ
open Go

def szI (B : List IT) : Nat -> IT -> Nat
 | k + 1, .v n => match bd B n with
  | none => 1
  | some t => szI B k t
 | k + 1, .p _ x y => 1 + szI B k x + szI B k y
 | _, _ => 1
def ixOf (n : Nat) : List Nat -> Nat
 | [] => 0
 | x :: r => if x = n then 0 else ixOf n r + 1
def letB (i : Nat) : UInt8 := UInt8.ofNat (97 + i)
def txI (B : List IT) : Nat -> IT -> List Nat -> List UInt8 × List Nat
 | k + 1, .v n, seen => match bd B n with
  | none => ([letB (ixOf n seen)], if n ∈ seen then seen else seen ++ [n])
  | some t => txI B k t seen
 | k + 1, .p c x y, seen => (40 :: ((txI B k x seen).1 ++ signB c :: ((txI B k y (txI B k x seen).2).1 ++ [41])), (txI B k y (txI B k x seen).2).2)
 | _, .b c, seen => ([signB c], seen)
 | 0, _, seen => ([], seen)
def unlet (c : UInt8) : UInt8 := if 97 <= c.toNat /\ c.toNat <= 122 then 73 else c
end Go.Av

namespace Go.Av
attribute [-simp] Go.Av.MCo.kind_mk Go.Av.MCo.tag_mk Go.Av.MCo.label_mk Go.Av.MCo.kids_mk Go.Av.astepJ Go.Av.relC Go.Av.relL Go.Av.relV Go.Av.relVs Go.Av.callJ
open Go

def IT.kind : IT -> Int
 | .v _ => 0
 | .b k => k
 | .p k _ _ => k
def IT.name : IT -> Nat
 | .v n => n
 | _ => 0
def IT.kids : IT -> List IT
 | .p _ x y => [x, y]
 | _ => []
section
variable (n : Nat) (k : Int) (x y : IT)
@[simp] theorem IT.kind_v : (IT.v n).kind = 0 := rfl
@[simp] theorem IT.kind_b : (IT.b k).kind = k := rfl
@[simp] theorem IT.kind_p : (IT.p k x y).kind = k := rfl
@[simp] theorem IT.name_v : (IT.v n).name = n := rfl
@[simp] theorem IT.name_b : (IT.b k).name = 0 := rfl
@[simp] theorem IT.name_p : (IT.p k x y).name = 0 := rfl
@[simp] theorem IT.kids_v : (IT.v n).kids = [] := rfl
@[simp] theorem IT.kids_b : (IT.b k).kids = [] := rfl
@[simp] theorem IT.kids_p : (IT.p k x y).kids = [x, y] := rfl
end
def eIT : IT -> List DV
 | .v n => [.i 0, .i n, .sl []]
 | .b k => [.i k, .i 0, .sl []]
 | .p k x y => [.i k, .i 0, .sl [eIT x, eIT y]]
@[simp] theorem eIT_len (t : IT) : (eIT t).length = 3 := by cases t <;> rfl
abbrev aIT (t : IT) : AV := .agg [.d (.i t.kind), .d (.i t.name), .d (.sl (t.kids.map eIT))]
abbrev aSt (B ls : List IT) : AV := .agg [.d (.sl (B.map eIT)), .d (.sl (ls.map eIT))]

def bindI (k : Nat) (B : List IT) (n : Nat) (t : IT) : List IT × Bool := if t = .v n then (B, true) else if occ B n k t = true then (B, false) else (B.set n t, true)
end Go.Av

namespace Go.Av
attribute [-simp] Go.Av.MCo.kind_mk Go.Av.MCo.tag_mk Go.Av.MCo.label_mk Go.Av.MCo.kids_mk Go.Av.astepJ Go.Av.relC Go.Av.relL Go.Av.relV Go.Av.relVs Go.Av.callJ
open Go

open Classical in
noncomputable def genB (e : MTm) : Option (List UInt8) := if h : ∃ x : Nat × List IT × List IT × IT × Nat, Whole e x.1 x.2.1 x.2.2.1 x.2.2.2.1 /\ ex x.2.1 x.2.2.2.2 x.2.2.2.1 = true /\ szI x.2.1 x.2.2.2.2 x.2.2.2.1 <= 30
 then some (txI h.choose.2.1 h.choose.2.2.2.2 h.choose.2.2.2.1 []).1 else none
noncomputable def genM (e : MTm) : Option (List UInt8) := if termValidM e = true then genB (mapM bareG e) else none
end Go.Av
