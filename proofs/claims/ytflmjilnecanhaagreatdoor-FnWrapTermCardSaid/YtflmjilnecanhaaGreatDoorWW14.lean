/- A part of the library of this seat. -/
import Derived.Test.YtflmjilnecanhaaGreatDoorW13
set_option linter.unusedVariables false
set_option linter.unusedSimpArgs false
namespace Go.Av
open Go

def formatTmM (e : MTm) : List UInt8 := if termValidM e = true then tmTextF 12 e else []
def formatCaM (e : MTm) : List UInt8 := if castValidM e = true then tmTextF 40 e else []

def pairB : List UInt8 := [112, 97, 105, 114]
def funB : List UInt8 := [102, 117, 110, 99, 116, 105, 111, 110]
def valTextF : Nat -> MTm -> List UInt8
 | 0, _ => []
 | d + 1, .mk k s n t f l kids =>
  if decide (k = 10) || (proxyM (.mk k s n t f l []) && decide (t.kind = 5)) then pairB
  else if decide (k = 5) || proxyM (.mk k s n t f l []) then funB
  else match kids with
   | [a] => valTextF d a
   | _ => if k = 2 then Lib.itoa n else if k = 3 then [84] else [70]
section
variable (d : Nat)
theorem valTextF_num (n : Int) : valTextF (d + 1) (tNum n) = Lib.itoa n := by simp [valTextF, tNum, proxyM]
theorem valTextF_true : valTextF (d + 1) tTrue = [84] := by simp [valTextF, tTrue, proxyM]
theorem valTextF_false : valTextF (d + 1) tFalse = [70] := by simp [valTextF, tFalse, proxyM]
theorem valTextF_lam (s : List UInt8) (t : MTy) (a : MTm) : valTextF (d + 1) (tLam s t a) = funB := by simp [valTextF, tLam, proxyM]
theorem valTextF_pair (a b : MTm) : valTextF (d + 1) (tN2 10 a b) = pairB := by simp [valTextF, tN2]
theorem valTextF_cast (a : MTm) (f t : MTy) (l : Int) : valTextF (d + 1) (tCast a f t l) = if f.kind = t.kind /\ (t.kind = 4 \/ t.kind = 5) then (if t.kind = 5 then pairB else funB) else valTextF d a := by
 simp only [valTextF, tCast, proxyM, MTm.kind_mk, MTm.fr_mk, MTm.ty_mk]
 by_cases h1 : f.kind = t.kind
 ·simp only [h1]
  by_cases h2 : t.kind = 4
  ·simp [h2]
  ·by_cases h3 : t.kind = 5
   ·simp [h3]
   ·simp [h2, h3]
 ·simp [h1]
end
def valueTextM (e : MTm) : List UInt8 := if (castValidM e && valM e) = true then valTextF 40 e else []
end Go.Av

namespace Go.Av
open Go
theorem catLe {α : Type} {n m : Nat} [inst : Decidable (n <= m)] {a b : α} (h : n <= m) : (if n <= m then a else b) = a := if_pos h

theorem tyTextF_len {d : Nat} {t : MTy} (h : VTy d t) : (tyTextF d t).length + 3 <= 4 * 2 ^ d := by
 induction h with
 | any d => simp [tyTextF_any, Nat.pow_succ]; have := Nat.one_le_two_pow (n := d); omega
 | int d => simp [tyTextF_int, Nat.pow_succ]; have := Nat.one_le_two_pow (n := d); omega
 | bool d => simp [tyTextF_bool, Nat.pow_succ]; have := Nat.one_le_two_pow (n := d); omega
 | fn ha hb iha ihb => simp [tyTextF_fn, Nat.pow_succ]; omega
 | pair ha hb iha ihb => simp [tyTextF_pair, Nat.pow_succ]; omega
theorem tyTextF_le {d : Nat} {t : MTy} (h : VTy d t) (hd : d <= 40) : (tyTextF d t).length <= 8796093022208 := by
 have h1 := tyTextF_len h
 have h2 : 2 ^ d <= 2 ^ 40 := Nat.pow_le_pow_right (by omega) hd
 have h3 : (2 : Nat) ^ 40 = 1099511627776 := by decide
 omega
theorem tyText_le {t : MTy} (h : shapeTy 4 t = true) : (tyText t).length <= 61 := by
 have := tyTextF_len (VTy.of h)
 simp only [tyText]
 omega

theorem dec_len_le : ∀ n : Nat, n <= 9999 -> (Lib.decDigits n).length <= 4 := by
 intro n hn
 by_cases h1 : 9 < n
 ·rw [decDigits_step h1]
  by_cases h2 : 9 < n / 10
  ·rw [decDigits_step h2]
   by_cases h3 : 9 < n / 10 / 10
   ·rw [decDigits_step h3]
    rw [decDigits_small (by omega)]; simp
   ·rw [decDigits_small (by omega)]; simp
  ·rw [decDigits_small (by omega)]; simp
 ·rw [decDigits_small (by omega)]; simp
theorem itoa_len_le {n : Int} (h0 : -9999 <= n) (h1 : n <= 9999) : (Lib.itoa n).length <= 5 := by
 rw [Lib.itoa]
 split
 ·have := dec_len_le n.natAbs (by omega); simp; omega
 ·have := dec_len_le n.toNat (by omega); omega
theorem lab_bound {l : Int} (h : labM l = true) : -99 <= l /\ l <= 99 := by
 simp only [labM, inM, Bool.or_eq_true, Bool.and_eq_true, decide_eq_true_eq] at h
 omega
theorem tmTextF_len {nt : Int} {d : Nat} {e : MTm} (h : TmV nt d e) : (tmTextF d e).length <= 200 * nodesM e := by
 induction h with
 | var _ hs => obtain ⟨c, rfl, _⟩ := name_one hs; simp [tmTextF_var, nodesM_def]
 | @num d n _ h0 h1 => have := itoa_len_le (n := n) (by omega) (by omega); rw [tmTextF_num, nodesM_def]; simp; omega
 | tru _ => simp [tmTextF_true, nodesM_def]
 | fls _ => simp [tmTextF_false, nodesM_def]
 | lam _ hs ht ha ih => obtain ⟨c, rfl, _⟩ := name_one hs; have := tyText_le ht; rw [tmTextF_lam, nodesM_def]; simp; omega
 | @n2 d k a b _ hk ha hb iha ihb =>
  by_cases h10 : k = 10
  ·subst h10; rw [tmTextF_pair, nodesM_def]; simp; omega
  ·rw [tmTextF_n2 _ (by omega), nodesM_def]; simp; omega
 | ite _ ha hb hc iha ihb ihc => rw [tmTextF_ite, nodesM_def]; simp; omega
 | n1 _ hk ha ih => rw [tmTextF_n1 _ hk, nodesM_def]; simp; omega
 | asc _ ht ha ih => have := tyText_le ht; rw [tmTextF_as, nodesM_def]; simp; omega
 | @cast d f t l a _ hf ht _ hl ha ih => have := tyText_le ht; have := tyText_le hf; have hb := lab_bound hl; have := itoa_len_le (n := l) (by omega) (by omega); rw [tmTextF_cast, nodesM_def]; simp; omega
theorem tmText_le {nt : Int} {d : Nat} {e : MTm} (h : TmV nt d e) (hn : nodesM e <= 1000) : (tmTextF d e).length <= 200000 := by
 have := tmTextF_len h; omega
end Go.Av

namespace Go.Av
open Go
theorem val_cast {a : MTm} {f t : MTy} {l : Int} (h : valM (tCast a f t l) = true) : (f.kind = t.kind /\ (t.kind = 4 \/ t.kind = 5)) \/ (¬ (f.kind = t.kind /\ (t.kind = 4 \/ t.kind = 5)) /\ injM (tCast a f t l) = true /\ valM a = true) := by
 by_cases hp : f.kind = t.kind /\ (t.kind = 4 \/ t.kind = 5)
 ·exact .inl hp
 ·refine .inr ⟨hp, ?_⟩
  have hpf : proxyM (tCast a f t l) = false := by
   rw [<- Bool.not_eq_true]
   intro hh
   simp [proxyM] at hh
   exact hp ⟨of_decide_eq_true hh.1, hh.2.imp of_decide_eq_true of_decide_eq_true⟩
  rw [valM_def, hpf] at h
  cases hi : injM (tCast a f t l) with
  | true => rw [hi] at h; simpa using h
  | false => rw [hi] at h; simp [plainM] at h
theorem proxy_cast {a : MTm} {f t : MTy} {l : Int} : proxyM (tCast a f t l) = decide (f.kind = t.kind /\ (t.kind = 4 \/ t.kind = 5)) := by
 rw [Bool.eq_iff_iff]
 simp [proxyM]
 exact ⟨fun h => ⟨of_decide_eq_true h.1, h.2.imp of_decide_eq_true of_decide_eq_true⟩, fun h => ⟨decide_eq_true h.1, h.2.imp (fun q => decide_eq_true q) (fun q => decide_eq_true q)⟩⟩
end Go.Av

namespace Go.Av
open Go

def castCast (a : MTm) (f t : MTy) (l : Int) : MTm × Int × Int :=
 if f.kind = t.kind then (a, 1, 0)
 else if t.kind = 1 then (tCast (tCast a f (groundT f.kind) l) (groundT f.kind) t l, 1, 0)
 else if isGroundM t = false then (tCast (tCast a f (groundT t.kind) l) (groundT t.kind) t l, 1, 0)
 else if injM a = false then (zeroE, 3, 0)
 else if sameTy a.fr t = true then (a.kids.headD zeroE, 1, 0)
 else (zeroE, 2, l)
def castRuleM (e : MTm) : MTm × Int × Int :=
 match e.kids with
 | [] => (zeroE, 3, 0)
 | a :: r =>
  if e.kind = 6 /\ (proxyM a = true /\ a.ty.kind = 4) then (tCast (tN2 6 (a.kids.headD zeroE) (tCast (r.headD zeroE) (a.ty.kids.headD zeroT) (a.fr.kids.headD zeroT) (-a.label))) ((a.fr.kids.drop 1).headD zeroT) ((a.ty.kids.drop 1).headD zeroT) a.label, 1, 0)
  else if (e.kind = 11 \/ e.kind = 12) /\ (proxyM a = true /\ a.ty.kind = 5) then
   (if e.kind = 11 then tCast (tN1 e.kind (a.kids.headD zeroE)) (a.fr.kids.headD zeroT) (a.ty.kids.headD zeroT) a.label else tCast (tN1 e.kind (a.kids.headD zeroE)) ((a.fr.kids.drop 1).headD zeroT) ((a.ty.kids.drop 1).headD zeroT) a.label, 1, 0)
  else if e.kind ≠ 14 then (zeroE, 3, 0)
  else castCast a e.fr e.ty e.label
mutual
def stepC : MTm -> MTm × Int × Int
 | .mk k s n t f b l => match stepCS (if k = 9 then 1 else l.length) l with
  | some (l', c, lb) => (.mk k s n t f b l', c, lb)
  | none => match ruleM (.mk k s n t f b l) with
   | some x => (x, 1, 0)
   | none => castRuleM (.mk k s n t f b l)
def stepCS : Nat -> List MTm -> Option (List MTm × Int × Int)
 | 0, _ => none
 | _, [] => none
 | n + 1, e :: r => if valM e = true then (stepCS n r).map fun p => (e :: p.1, p.2.1, p.2.2) else
   let p := stepC e
   some (p.1 :: r, p.2.1, p.2.2)
end
theorem stepC_def (e : MTm) : stepC e = match stepCS (countsM e) e.kids with
  | some (l', c, lb) => (.mk e.kind e.name e.num e.ty e.fr e.label l', c, lb)
  | none => match ruleM e with
   | some x => (x, 1, 0)
   | none => castRuleM e := by
 cases e; simp only [stepC]; rfl

section
variable {a b c : MTm}
theorem stepC_n2l {k : Int} (h9 : k ≠ 9) (ha : valM a = false) : stepC (tN2 k a b) = (tN2 k (stepC a).1 b, (stepC a).2.1, (stepC a).2.2) := by
 simp [stepC, stepCS, h9, ha]
theorem stepC_n2r {k : Int} (h9 : k ≠ 9) (ha : valM a = true) (hb : valM b = false) : stepC (tN2 k a b) = (tN2 k a (stepC b).1, (stepC b).2.1, (stepC b).2.2) := by
 simp [stepC, stepCS, h9, ha, hb]
theorem stepC_n2v {k : Int} (h9 : k ≠ 9) (ha : valM a = true) (hb : valM b = true) : stepC (tN2 k a b) = match ruleM (tN2 k a b) with
  | some x => (x, 1, 0)
  | none => castRuleM (tN2 k a b) := by
 simp [stepC, stepCS, h9, ha, hb]
theorem stepC_if (ha : valM a = false) : stepC (tIf a b c) = (tIf (stepC a).1 b c, (stepC a).2.1, (stepC a).2.2) := by
 simp [stepC, stepCS, ha]
theorem stepC_ifv (ha : valM a = true) : stepC (tIf a b c) = match ruleM (tIf a b c) with
  | some x => (x, 1, 0)
  | none => castRuleM (tIf a b c) := by
 simp [stepC, stepCS, ha]
theorem stepC_n1 {k : Int} (h9 : k ≠ 9) (ha : valM a = false) : stepC (tN1 k a) = (tN1 k (stepC a).1, (stepC a).2.1, (stepC a).2.2) := by
 simp [stepC, stepCS, h9, ha]
theorem stepC_n1v {k : Int} (h9 : k ≠ 9) (ha : valM a = true) : stepC (tN1 k a) = match ruleM (tN1 k a) with
  | some x => (x, 1, 0)
  | none => castRuleM (tN1 k a) := by
 simp [stepC, stepCS, h9, ha]
theorem stepC_cast {f t : MTy} {l : Int} (ha : valM a = false) : stepC (tCast a f t l) = (tCast (stepC a).1 f t l, (stepC a).2.1, (stepC a).2.2) := by
 simp [stepC, stepCS, ha]
theorem stepC_castv {f t : MTy} {l : Int} (ha : valM a = true) : stepC (tCast a f t l) = castCast a f t l := by
 simp [stepC, stepCS, ha, ruleM, castRuleM]
theorem stepB_n2l {k : Int} (h9 : k ≠ 9) (ha : valM a = false) : stepB (tN2 k a b) = (tN2 k (stepB a).1 b, (stepB a).2.1, (stepB a).2.2) := by
 simp [stepB, stepBS, h9, ha]
theorem stepB_n2r {k : Int} (h9 : k ≠ 9) (ha : valM a = true) (hb : valM b = false) : stepB (tN2 k a b) = (tN2 k a (stepB b).1, (stepB b).2.1, (stepB b).2.2) := by
 simp [stepB, stepBS, h9, ha, hb]
theorem stepB_n2v {k : Int} (h9 : k ≠ 9) (ha : valM a = true) (hb : valM b = true) : stepB (tN2 k a b) = match ruleM (tN2 k a b) with
  | some x => (x, 1, 0)
  | none => (zeroE, 2, wrongM k) := by
 simp [stepB, stepBS, h9, ha, hb]
 rfl
theorem stepB_if (ha : valM a = false) : stepB (tIf a b c) = (tIf (stepB a).1 b c, (stepB a).2.1, (stepB a).2.2) := by
 simp [stepB, stepBS, ha]
theorem stepB_ifv (ha : valM a = true) : stepB (tIf a b c) = match ruleM (tIf a b c) with
  | some x => (x, 1, 0)
  | none => (zeroE, 2, wrongM 9) := by
 simp [stepB, stepBS, ha]
 rfl
theorem stepB_n1 {k : Int} (h9 : k ≠ 9) (ha : valM a = false) : stepB (tN1 k a) = (tN1 k (stepB a).1, (stepB a).2.1, (stepB a).2.2) := by
 simp [stepB, stepBS, h9, ha]
theorem stepB_n1v {k : Int} (h9 : k ≠ 9) (ha : valM a = true) : stepB (tN1 k a) = match ruleM (tN1 k a) with
  | some x => (x, 1, 0)
  | none => (zeroE, 2, wrongM k) := by
 simp [stepB, stepBS, h9, ha]
 rfl
end

theorem val_num (n : Int) : valM (tNum n) = true := by simp [valM, proxyM, injM, plainM]
theorem val_tru : valM tTrue = true := by simp [valM, proxyM, injM, plainM]
theorem val_fls : valM tFalse = true := by simp [valM, proxyM, injM, plainM]
theorem val_lam (s : List UInt8) (t : MTy) (b : MTm) : valM (tLam s t b) = true := by simp [valM, proxyM, injM, plainM]
theorem val_pair (a b : MTm) : valM (tN2 10 a b) = (valM a && valM b) := by simp [valM, valS]
theorem val_n2 {k : Int} (hk : k = 6 \/ k = 7 \/ k = 8) (a b : MTm) : valM (tN2 k a b) = false := by rcases hk with rfl | rfl | rfl <;> simp [valM, proxyM, injM, plainM]
theorem val_if (a b c : MTm) : valM (tIf a b c) = false := by simp [valM, proxyM, injM, plainM]
theorem val_n1 {k : Int} (hk : k = 11 \/ k = 12) (a : MTm) : valM (tN1 k a) = false := by rcases hk with rfl | rfl <;> simp [valM, proxyM, injM, plainM]
theorem val_var (s : List UInt8) : valM (tVar s) = false := by simp [valM, proxyM, injM, plainM]
theorem vals_cast (a : MTm) (f t : MTy) (l : Int) : valM (tCast a f t l) = ((decide (f.kind = t.kind) && (decide (t.kind = 4) || decide (t.kind = 5)) || (decide (t.kind = 1) && isGroundM f)) && valM a) := by
 have h1 : proxyM (.mk 14 [] 0 t f l []) = (decide (f.kind = t.kind) && (decide (t.kind = 4) || decide (t.kind = 5))) := by simp [proxyM]; rfl
 have h2 : injM (.mk 14 [] 0 t f l []) = (decide (t.kind = 1) && isGroundM f) := by simp [injM]; rfl
 have h3 : plainM (.mk 14 [] 0 t f l []) = false := by simp [plainM]
 rw [valM, h1, h2, h3, valS, valS]
 generalize (decide (f.kind = t.kind) && (decide (t.kind = 4) || decide (t.kind = 5)) || (decide (t.kind = 1) && isGroundM f)) = q
 cases q <;> simp

inductive CT : (List UInt8 -> Option MTy) -> MTm -> MTy -> Prop
 | var {G : List UInt8 -> Option MTy} {s : List UInt8} {t : MTy} : G s = some t -> CT G (tVar s) t
 | num {G : List UInt8 -> Option MTy} {n : Int} : CT G (tNum n) intT
 | tru {G : List UInt8 -> Option MTy} : CT G tTrue boolT
 | fls {G : List UInt8 -> Option MTy} : CT G tFalse boolT
 | lam {G : List UInt8 -> Option MTy} {s : List UInt8} {t u : MTy} {b : MTm} : CT (fun x => if x = s then some t else G x) b u -> CT G (tLam s t b) (.mk 4 [t, u])
 | app {G : List UInt8 -> Option MTy} {a b : MTm} {x y : MTy} : CT G a (.mk 4 [x, y]) -> CT G b x -> CT G (tN2 6 a b) y
 | op {G : List UInt8 -> Option MTy} {k : Int} {a b : MTm} {t : MTy} : (k = 7 /\ t = intT \/ k = 8 /\ t = boolT) -> CT G a intT -> CT G b intT -> CT G (tN2 k a b) t
 | ite {G : List UInt8 -> Option MTy} {a b c : MTm} {t : MTy} : CT G a boolT -> CT G b t -> CT G c t -> CT G (tIf a b c) t
 | pair {G : List UInt8 -> Option MTy} {a b : MTm} {x y : MTy} : CT G a x -> CT G b y -> CT G (tN2 10 a b) (.mk 5 [x, y])
 | sel {G : List UInt8 -> Option MTy} {k : Int} {a : MTm} {x y t : MTy} : (k = 11 /\ t = x \/ k = 12 /\ t = y) -> CT G a (.mk 5 [x, y]) -> CT G (tN1 k a) t
 | cast {G : List UInt8 -> Option MTy} {a : MTm} {f t : MTy} {l : Int} : CT G a f -> CT G (tCast a f t l) t
abbrev noG : List UInt8 -> Option MTy := fun _ => none
theorem CT.weak {G : List UInt8 -> Option MTy} {e : MTm} {T : MTy} (h : CT G e T) : ∀ {G' : List UInt8 -> Option MTy}, (∀ s t, G s = some t -> G' s = some t) -> CT G' e T := by
 induction h with
 | var h => intro G' hs; exact .var (hs _ _ h)
 | num => intro G' hs; exact .num
 | tru => intro G' hs; exact .tru
 | fls => intro G' hs; exact .fls
 | lam _ ih =>
  intro G' hs
  refine .lam (ih fun x t hx => ?_)
  dsimp only at hx ⊢
  split at hx
  ·rename_i e; rw [if_pos e]; exact hx
  ·rename_i e; rw [if_neg e]; exact hs _ _ hx
 | app _ _ h1 h2 => intro G' hs; exact .app (h1 hs) (h2 hs)
 | op hk _ _ h1 h2 => intro G' hs; exact .op hk (h1 hs) (h2 hs)
 | ite _ _ _ h1 h2 h3 => intro G' hs; exact .ite (h1 hs) (h2 hs) (h3 hs)
 | pair _ _ h1 h2 => intro G' hs; exact .pair (h1 hs) (h2 hs)
 | sel hk _ h1 => intro G' hs; exact .sel hk (h1 hs)
 | cast _ h1 => intro G' hs; exact .cast (h1 hs)
section
variable (x : List UInt8) (v a b c : MTm)
theorem sub_var (s : List UInt8) : substM x v (tVar s) = if s = x then v else tVar s := by simp [substM, substS]
theorem sub_num (n : Int) : substM x v (tNum n) = tNum n := by simp [substM, substS]
theorem sub_tru : substM x v tTrue = tTrue := by simp [substM, substS]
theorem sub_fls : substM x v tFalse = tFalse := by simp [substM, substS]
theorem sub_lam (s : List UInt8) (t : MTy) : substM x v (tLam s t b) = if s = x then tLam s t b else tLam s t (substM x v b) := by simp [substM, substS]
theorem sub_n2 {k : Int} (h1 : k ≠ 1) (h5 : k ≠ 5) : substM x v (tN2 k a b) = tN2 k (substM x v a) (substM x v b) := by simp [substM, substS, h1, h5]
theorem sub_if : substM x v (tIf a b c) = tIf (substM x v a) (substM x v b) (substM x v c) := by simp [substM, substS]
theorem sub_n1 {k : Int} (h1 : k ≠ 1) (h5 : k ≠ 5) : substM x v (tN1 k a) = tN1 k (substM x v a) := by simp [substM, substS, h1, h5]
theorem sub_cast (f t : MTy) (l : Int) : substM x v (tCast a f t l) = tCast (substM x v a) f t l := by simp [substM, substS]
end
theorem CT.subst {G : List UInt8 -> Option MTy} {e : MTm} {T : MTy} (h : CT G e T) {x : List UInt8} {v : MTm} {U : MTy} (hv : CT noG v U) : ∀ {G' : List UInt8 -> Option MTy}, G x = some U -> (∀ s t, s ≠ x -> G s = some t -> G' s = some t) -> CT G' (substM x v e) T := by
 induction h with
 | @var G s t h =>
  intro G' hx hs
  rw [sub_var]
  split
  ·rename_i e; subst e; rw [h] at hx; cases hx; exact hv.weak (fun s t h => by cases h)
  ·rename_i e; exact .var (hs _ _ e h)
 | num => intro G' hx hs; rw [sub_num]; exact .num
 | tru => intro G' hx hs; rw [sub_tru]; exact .tru
 | fls => intro G' hx hs; rw [sub_fls]; exact .fls
 | @lam G s t u b hb ih =>
  intro G' hx hs
  rw [sub_lam]
  split
  ·rename_i e
   refine .lam (hb.weak fun y t' hy => ?_)
   try dsimp only at hx hy ⊢
   split at hy
   ·rename_i e2; rw [if_pos e2]; exact hy
   ·rename_i e2; rw [if_neg e2]; exact hs _ _ (fun e3 => e2 (e3.trans e.symm)) hy
  ·rename_i e
   refine .lam (ih (by dsimp only; rw [if_neg (fun e2 => e e2.symm)]; exact hx) fun y t' hne hy => ?_)
   dsimp only at hy ⊢
   split at hy
   ·rename_i e2; rw [if_pos e2]; exact hy
   ·rename_i e2; rw [if_neg e2]; exact hs _ _ hne hy
 | app _ _ h1 h2 => intro G' hx hs; rw [sub_n2 _ _ _ _ (by omega) (by omega)]; exact .app (h1 hx hs) (h2 hx hs)
 | op hk _ _ h1 h2 => intro G' hx hs; rw [sub_n2 _ _ _ _ (by omega) (by omega)]; exact .op hk (h1 hx hs) (h2 hx hs)
 | ite _ _ _ h1 h2 h3 => intro G' hx hs; rw [sub_if]; exact .ite (h1 hx hs) (h2 hx hs) (h3 hx hs)
 | pair _ _ h1 h2 => intro G' hx hs; rw [sub_n2 _ _ _ _ (by omega) (by omega)]; exact .pair (h1 hx hs) (h2 hx hs)
 | sel hk _ h1 => intro G' hx hs; rw [sub_n1 _ _ _ (by omega) (by omega)]; exact .sel hk (h1 hx hs)
 | cast _ h1 => intro G' hx hs; rw [sub_cast]; exact .cast (h1 hx hs)
theorem CT.of_EV {c : List MBd} {e e' : MTm} {n m : Int} {t : MTy} (h : EV c e n e' t m) : CT (lookM c) e' t := by
 have hc : ∀ {G : List UInt8 -> Option MTy} {n m : Int} {e e2 : MTm} {f t : MTy}, CaV n e f t e2 m -> CT G e f -> CT G e2 t := by
  intro G n m e e2 f t h hc
  cases h with
  | same h => subst h; exact hc
  | cast _ => exact .cast hc
 induction h with
 | var h => exact .var h
 | num => exact .num
 | tru => exact .tru
 | fls => exact .fls
 | @lam c s u t b b' n m _ _ ih =>
  refine .lam (ih.weak fun x t' hx => ?_)
  rw [lookM_app] at hx
  simp only [lookM] at hx
  by_cases e : s = x
  ·subst e; simp at hx; subst hx; simp
  ·rw [if_neg e] at hx; rw [if_neg (fun h => e h.symm)]; exact hx
 | app _ _ _ _ h1 h2 iha ihb => exact .app (hc h1 iha) (hc h2 ihb)
 | op hk _ _ _ _ h1 h2 iha ihb => exact .op hk (hc h1 iha) (hc h2 ihb)
 | ite _ _ _ _ _ h1 h2 h3 ihp iha ihb => exact .ite (hc h1 ihp) (hc h2 iha) (hc h3 ihb)
 | pair _ _ _ iha ihb => exact .pair iha ihb
 | sel hk _ _ h1 ih => exact .sel hk (hc h1 ih)
 | asc _ _ h1 ih => exact hc h1 ih

abbrev era (e : MTm) : MTm := mapM bareG e
section
variable (a b c : MTm)
theorem era_var (s : List UInt8) : era (tVar s) = tVar s := by simp [mapM, mapS, bareG]
theorem era_num (n : Int) : era (tNum n) = tNum n := by simp [mapM, mapS, bareG]
theorem era_tru : era tTrue = tTrue := by simp [mapM, mapS, bareG]
theorem era_fls : era tFalse = tFalse := by simp [mapM, mapS, bareG]
theorem era_lam (s : List UInt8) (t : MTy) : era (tLam s t b) = tLam s anyT (era b) := by simp [mapM, mapS, bareG]
theorem era_n2 {k : Int} (h5 : k ≠ 5) (h13 : k ≠ 13) (h14 : k ≠ 14) : era (tN2 k a b) = tN2 k (era a) (era b) := by simp [mapM, mapS, bareG, h5, h13, h14]
theorem era_if : era (tIf a b c) = tIf (era a) (era b) (era c) := by simp [mapM, mapS, bareG]
theorem era_n1 {k : Int} (h5 : k ≠ 5) (h13 : k ≠ 13) (h14 : k ≠ 14) : era (tN1 k a) = tN1 k (era a) := by simp [mapM, mapS, bareG, h5, h13, h14]
theorem era_cast (f t : MTy) (l : Int) : era (tCast a f t l) = era a := by simp [mapM, mapS, bareG]
end
theorem CT.era_sub {G : List UInt8 -> Option MTy} {e : MTm} {T : MTy} (h : CT G e T) (x : List UInt8) (v : MTm) : era (substM x v e) = substM x (era v) (era e) := by
 induction h with
 | @var G s t h =>
  rw [sub_var, era_var, sub_var]
  split
  ·rfl
  ·exact era_var s
 | num => rw [sub_num, era_num, sub_num]
 | tru => rw [sub_tru, era_tru, sub_tru]
 | fls => rw [sub_fls, era_fls, sub_fls]
 | @lam G s t u b hb ih =>
  rw [sub_lam, era_lam, sub_lam]
  split
  ·rw [era_lam]
  ·rw [era_lam, ih]
 | app _ _ h1 h2 => rw [sub_n2 _ _ _ _ (by omega) (by omega), era_n2 _ _ (by omega) (by omega) (by omega), era_n2 _ _ (by omega) (by omega) (by omega), sub_n2 _ _ _ _ (by omega) (by omega), h1, h2]
 | op hk _ _ h1 h2 => rw [sub_n2 _ _ _ _ (by omega) (by omega), era_n2 _ _ (by omega) (by omega) (by omega), era_n2 _ _ (by omega) (by omega) (by omega), sub_n2 _ _ _ _ (by omega) (by omega), h1, h2]
 | ite _ _ _ h1 h2 h3 => rw [sub_if, era_if, era_if, sub_if, h1, h2, h3]
 | pair _ _ h1 h2 => rw [sub_n2 _ _ _ _ (by omega) (by omega), era_n2 _ _ (by omega) (by omega) (by omega), era_n2 _ _ (by omega) (by omega) (by omega), sub_n2 _ _ _ _ (by omega) (by omega), h1, h2]
 | sel hk _ h1 => rw [sub_n1 _ _ _ (by omega) (by omega), era_n1 _ (by omega) (by omega) (by omega), era_n1 _ (by omega) (by omega) (by omega), sub_n1 _ _ _ (by omega) (by omega), h1]
 | cast _ h1 => rw [sub_cast, era_cast, era_cast, h1]
theorem CT.era_val {G : List UInt8 -> Option MTy} {e : MTm} {T : MTy} (h : CT G e T) : valM e = true -> valM (era e) = true := by
 induction h with
 | var _ => intro hv; rw [val_var] at hv; cases hv
 | num => intro _; rw [era_num]; exact val_num _
 | tru => intro _; rw [era_tru]; exact val_tru
 | fls => intro _; rw [era_fls]; exact val_fls
 | lam _ _ => intro _; rw [era_lam]; exact val_lam _ _ _
 | app _ _ _ _ => intro hv; rw [val_n2 (by omega)] at hv; cases hv
 | op hk _ _ _ _ => intro hv; rw [val_n2 (by omega)] at hv; cases hv
 | ite _ _ _ _ _ _ => intro hv; rw [val_if] at hv; cases hv
 | pair _ _ h1 h2 =>
  intro hv
  rw [val_pair, Bool.and_eq_true] at hv
  rw [era_n2 _ _ (by omega) (by omega) (by omega), val_pair, h1 hv.1, h2 hv.2]; rfl
 | sel hk _ _ => intro hv; rw [val_n1 (by omega)] at hv; cases hv
 | cast _ h1 =>
  intro hv
  rw [vals_cast, Bool.and_eq_true] at hv
  rw [era_cast]; exact h1 hv.2

theorem canon_any {a : MTm} (h : CT noG a anyT) (hv : valM a = true) : ∃ u g l, a = tCast u g anyT l /\ isGroundM g = true /\ valM u = true /\ CT noG u g := by
 cases h with
 | var h => cases h
 | app _ _ => rw [val_n2 (by omega)] at hv; cases hv
 | op hk _ _ => rcases hk with ⟨_, h⟩ | ⟨_, h⟩ <;> cases h
 | ite _ _ _ => rw [val_if] at hv; cases hv
 | sel hk _ => rw [val_n1 (by omega)] at hv; cases hv
 | @cast _ u f t l hc =>
  rw [vals_cast] at hv
  simp at hv
  exact ⟨u, f, l, rfl, hv.1, hv.2, hc⟩
theorem canon_int {a : MTm} (h : CT noG a intT) (hv : valM a = true) : ∃ n, a = tNum n := by
 cases h with
 | var h => cases h
 | num => exact ⟨_, rfl⟩
 | app _ _ => rw [val_n2 (by omega)] at hv; cases hv
 | op hk _ _ => rw [val_n2 (by omega)] at hv; cases hv
 | ite _ _ _ => rw [val_if] at hv; cases hv
 | sel hk _ => rw [val_n1 (by omega)] at hv; cases hv
 | cast hc => rw [vals_cast] at hv; simp at hv
theorem canon_bool {a : MTm} (h : CT noG a boolT) (hv : valM a = true) : a = tTrue \/ a = tFalse := by
 cases h with
 | var h => cases h
 | tru => exact .inl rfl
 | fls => exact .inr rfl
 | app _ _ => rw [val_n2 (by omega)] at hv; cases hv
 | op hk _ _ => rw [val_n2 (by omega)] at hv; cases hv
 | ite _ _ _ => rw [val_if] at hv; cases hv
 | sel hk _ => rw [val_n1 (by omega)] at hv; cases hv
 | cast hc => rw [vals_cast] at hv; simp at hv
theorem canon_fun {a : MTm} {x y : MTy} (h : CT noG a (.mk 4 [x, y])) (hv : valM a = true) : (∃ s b, a = tLam s x b /\ CT (fun z => if z = s then some x else noG z) b y) \/ (∃ u f l, a = tCast u f (.mk 4 [x, y]) l /\ f.kind = 4 /\ valM u = true /\ CT noG u f) := by
 cases h with
 | var h => cases h
 | lam h => exact .inl ⟨_, _, rfl, h⟩
 | app _ _ => rw [val_n2 (by omega)] at hv; cases hv
 | op hk _ _ => rcases hk with ⟨_, h⟩ | ⟨_, h⟩ <;> cases h
 | ite _ _ _ => rw [val_if] at hv; cases hv
 | sel hk _ => rw [val_n1 (by omega)] at hv; cases hv
 | @cast _ u f t l hc =>
  rw [vals_cast] at hv
  simp at hv
  exact .inr ⟨u, f, l, rfl, of_decide_eq_true hv.1, hv.2, hc⟩
theorem canon_pair {a : MTm} {x y : MTy} (h : CT noG a (.mk 5 [x, y])) (hv : valM a = true) : (∃ u v, a = tN2 10 u v /\ CT noG u x /\ CT noG v y) \/ (∃ u f l, a = tCast u f (.mk 5 [x, y]) l /\ f.kind = 5 /\ valM u = true /\ CT noG u f) := by
 cases h with
 | var h => cases h
 | pair h1 h2 => exact .inl ⟨_, _, rfl, h1, h2⟩
 | app _ _ => rw [val_n2 (by omega)] at hv; cases hv
 | op hk _ _ => rcases hk with ⟨_, h⟩ | ⟨_, h⟩ <;> cases h
 | ite _ _ _ => rw [val_if] at hv; cases hv
 | sel hk _ => rw [val_n1 (by omega)] at hv; cases hv
 | @cast _ u f t l hc =>
  rw [vals_cast] at hv
  simp at hv
  exact .inr ⟨u, f, l, rfl, of_decide_eq_true hv.1, hv.2, hc⟩
theorem vty4 {f : MTy} (h : shapeTy 4 f = true) (hk : f.kind = 4) : ∃ x y, f = .mk 4 [x, y] := by
 cases VTy.of h <;> simp at hk
 exact ⟨_, _, rfl⟩
theorem vty5 {f : MTy} (h : shapeTy 4 f = true) (hk : f.kind = 5) : ∃ x y, f = .mk 5 [x, y] := by
 cases VTy.of h <;> simp at hk
 exact ⟨_, _, rfl⟩

inductive SOk (c : MTm) (T : MTy) : MTm × Int × Int -> Prop
 | took {c' : MTm} {lb : Int} : CT noG c' T -> (era c = era c' \/ (valM (era c) = false /\ stepB (era c) = (era c', 1, 0))) -> SOk c T (c', 1, lb)
 | blame {c' : MTm} {lb : Int} : SOk c T (c', 2, lb)
theorem SOk.ctx {a c : MTm} {T U : MTy} {p : MTm × Int × Int} (h : SOk a T p) (F : MTm -> MTm) (H : ∀ a', CT noG a' T -> CT noG (F a') U) (hc : c = F a) (hE : ∀ a', era a = era a' -> era (F a) = era (F a')) (hS : ∀ a', valM (era a) = false -> stepB (era a) = (era a', 1, 0) -> valM (era (F a)) = false /\ stepB (era (F a)) = (era (F a'), 1, 0)) : SOk c U (F p.1, p.2.1, p.2.2) := by
 subst hc
 cases h with
 | took h1 h2 =>
  refine .took (H _ h1) ?_
  rcases h2 with h2 | ⟨h2, h3⟩
  ·exact .inl (hE _ h2)
  ·exact .inr (hS _ h2 h3)
 | blame => exact .blame
theorem step_ok {e : MTm} {T : MTy} {G : List UInt8 -> Option MTy} (h : CT G e T) : G = noG -> ∀ {d : Nat}, TmV 13 d e -> valM e = false -> SOk e T (stepC e) := by
 induction h with
 | var h => intro hG; subst hG; cases h
 | num => intro _ d _ hv; rw [val_num] at hv; cases hv
 | tru => intro _ d _ hv; rw [val_tru] at hv; cases hv
 | fls => intro _ d _ hv; rw [val_fls] at hv; cases hv
 | lam _ _ => intro _ d _ hv; rw [val_lam] at hv; cases hv
 | @app G a b x y ha hb iha ihb =>
  intro hG d ht hv
  subst hG
  obtain ⟨d', _, _, hta, htb⟩ := ht.inv_n2
  by_cases va : valM a = true
  rotate_left
  ·have va' : valM a = false := by simpa using va
   rw [stepC_n2l (by omega) va']
   refine (iha rfl hta va').ctx (fun z => tN2 6 z b) (fun a' h => .app h hb) rfl (fun a' h => ?_) (fun a' h1 h2 => ?_)
   ·simp only [era_n2 _ _ (show (6 : Int) ≠ 5 by omega) (by omega) (by omega), h]
   ·simp only [era_n2 _ _ (show (6 : Int) ≠ 5 by omega) (by omega) (by omega)]
    exact ⟨val_n2 (by omega) _ _, by rw [stepB_n2l (by omega) h1, h2]⟩
  by_cases vb : valM b = true
  rotate_left
  ·have vb' : valM b = false := by simpa using vb
   rw [stepC_n2r (by omega) va vb']
   refine (ihb rfl htb vb').ctx (fun z => tN2 6 a z) (fun a' h => .app ha h) rfl (fun a' h => ?_) (fun a' h1 h2 => ?_)
   ·simp only [era_n2 _ _ (show (6 : Int) ≠ 5 by omega) (by omega) (by omega), h]
   ·simp only [era_n2 _ _ (show (6 : Int) ≠ 5 by omega) (by omega) (by omega)]
    exact ⟨val_n2 (by omega) _ _, by rw [stepB_n2r (by omega) (ha.era_val va) h1, h2]⟩
  rw [stepC_n2v (by omega) va vb]
  rcases canon_fun ha va with ⟨s, b', rfl, hb'⟩ | ⟨u, f, l, rfl, hf, hu, hcu⟩
  ·rw [show ruleM (tN2 6 (tLam s x b') b) = some (substM s b b') by simp [ruleM]]
   refine .took (hb'.subst hb (by simp) fun z t hz h => by rw [if_neg hz] at h; exact h) (.inr ?_)
   rw [era_n2 _ _ (by omega) (by omega) (by omega)]
   refine ⟨val_n2 (by omega) _ _, ?_⟩
   rw [stepB_n2v (by omega) (ha.era_val va) (hb.era_val vb), era_lam, show ruleM (tN2 6 (tLam s anyT (era b')) (era b)) = some (substM s (era b) (era b')) by simp [ruleM], hb'.era_sub]
  ·obtain ⟨d2, _, hsf, hst, _, _, _⟩ := hta.inv_cast
   obtain ⟨p, q, rfl⟩ := vty4 hsf hf
   rw [show ruleM (tN2 6 (tCast u (.mk 4 [p, q]) (.mk 4 [x, y]) l) b) = none by simp [ruleM]]
   rw [show castRuleM (tN2 6 (tCast u (.mk 4 [p, q]) (.mk 4 [x, y]) l) b) = (tCast (tN2 6 u (tCast b x p (-l))) q y l, 1, 0) by simp [castRuleM, proxyM]]
   refine .took (.cast (.app hcu (.cast hb))) (.inl ?_)
   rw [era_cast, era_n2 _ _ (by omega) (by omega) (by omega), era_n2 _ _ (by omega) (by omega) (by omega), era_cast, era_cast]
 | @op G k a b t hk ha hb iha ihb =>
  intro hG d ht hv
  subst hG
  have hk78 : k = 7 \/ k = 8 := by omega
  obtain ⟨d', _, _, hta, htb⟩ := ht.inv_n2
  by_cases va : valM a = true
  rotate_left
  ·have va' : valM a = false := by simpa using va
   rw [stepC_n2l (by omega) va']
   refine (iha rfl hta va').ctx (fun z => tN2 k z b) (fun a' h => .op hk h hb) rfl (fun a' h => ?_) (fun a' h1 h2 => ?_)
   ·simp only [era_n2 _ _ (show k ≠ 5 by omega) (by omega) (by omega), h]
   ·simp only [era_n2 _ _ (show k ≠ 5 by omega) (by omega) (by omega)]
    exact ⟨val_n2 (by omega) _ _, by rw [stepB_n2l (by omega) h1, h2]⟩
  by_cases vb : valM b = true
  rotate_left
  ·have vb' : valM b = false := by simpa using vb
   rw [stepC_n2r (by omega) va vb']
   refine (ihb rfl htb vb').ctx (fun z => tN2 k a z) (fun a' h => .op hk ha h) rfl (fun a' h => ?_) (fun a' h1 h2 => ?_)
   ·simp only [era_n2 _ _ (show k ≠ 5 by omega) (by omega) (by omega), h]
   ·simp only [era_n2 _ _ (show k ≠ 5 by omega) (by omega) (by omega)]
    exact ⟨val_n2 (by omega) _ _, by rw [stepB_n2r (by omega) (ha.era_val va) h1, h2]⟩
  rw [stepC_n2v (by omega) va vb]
  obtain ⟨m, rfl⟩ := canon_int ha va
  obtain ⟨n, rfl⟩ := canon_int hb vb
  have hr : ruleM (tN2 k (tNum m) (tNum n)) = some (if k = 7 then tNum ((m + n).tmod 1000) else truthM (decide (m < n))) := by
   rcases hk78 with rfl | rfl <;> simp [ruleM] <;> rfl
  rw [hr]
  have hera : era (if k = 7 then tNum ((m + n).tmod 1000) else truthM (decide (m < n))) = (if k = 7 then tNum ((m + n).tmod 1000) else truthM (decide (m < n))) := by
   split
   ·exact era_num _
   ·cases decide (m < n)
    ·exact era_fls
    ·exact era_tru
  refine .took ?_ (.inr ?_)
  ·rcases hk with ⟨rfl, rfl⟩ | ⟨rfl, rfl⟩
   ·rw [if_pos rfl]; exact .num
   ·rw [if_neg (by omega)]
    cases decide (m < n)
    ·exact .fls
    ·exact .tru
  ·rw [era_n2 _ _ (by omega) (by omega) (by omega), era_num, era_num, hera]
   exact ⟨val_n2 (by omega) _ _, by rw [stepB_n2v (by omega) (val_num _) (val_num _), hr]⟩
 | @ite G a b c t ha hb hc iha ihb ihc =>
  intro hG d ht hv
  subst hG
  obtain ⟨d', _, hta, htb, htc⟩ := ht.inv_if
  by_cases va : valM a = true
  rotate_left
  ·have va' : valM a = false := by simpa using va
   rw [stepC_if va']
   refine (iha rfl hta va').ctx (fun z => tIf z b c) (fun a' h => .ite h hb hc) rfl (fun a' h => ?_) (fun a' h1 h2 => ?_)
   ·simp only [era_if, h]
   ·simp only [era_if]
    exact ⟨val_if _ _ _, by rw [stepB_if h1, h2]⟩
  rw [stepC_ifv va]
  rcases canon_bool ha va with rfl | rfl
  ·rw [show ruleM (tIf tTrue b c) = some b by simp [ruleM]]
   refine .took hb (.inr ?_)
   rw [era_if, era_tru]
   exact ⟨val_if _ _ _, by rw [stepB_ifv val_tru, show ruleM (tIf tTrue (era b) (era c)) = some (era b) by simp [ruleM]]⟩
  ·rw [show ruleM (tIf tFalse b c) = some c by simp [ruleM]]
   refine .took hc (.inr ?_)
   rw [era_if, era_fls]
   exact ⟨val_if _ _ _, by rw [stepB_ifv val_fls, show ruleM (tIf tFalse (era b) (era c)) = some (era c) by simp [ruleM]]⟩
 | @pair G a b x y ha hb iha ihb =>
  intro hG d ht hv
  subst hG
  obtain ⟨d', _, _, hta, htb⟩ := ht.inv_n2
  rw [val_pair] at hv
  by_cases va : valM a = true
  rotate_left
  ·have va' : valM a = false := by simpa using va
   rw [stepC_n2l (by omega) va']
   refine (iha rfl hta va').ctx (fun z => tN2 10 z b) (fun a' h => .pair h hb) rfl (fun a' h => ?_) (fun a' h1 h2 => ?_)
   ·simp only [era_n2 _ _ (show (10 : Int) ≠ 5 by omega) (by omega) (by omega), h]
   ·simp only [era_n2 _ _ (show (10 : Int) ≠ 5 by omega) (by omega) (by omega)]
    exact ⟨by rw [val_pair, h1]; rfl, by rw [stepB_n2l (by omega) h1, h2]⟩
  have vb' : valM b = false := by rw [va] at hv; simpa using hv
  rw [stepC_n2r (by omega) va vb']
  refine (ihb rfl htb vb').ctx (fun z => tN2 10 a z) (fun a' h => .pair ha h) rfl (fun a' h => ?_) (fun a' h1 h2 => ?_)
  ·simp only [era_n2 _ _ (show (10 : Int) ≠ 5 by omega) (by omega) (by omega), h]
  ·simp only [era_n2 _ _ (show (10 : Int) ≠ 5 by omega) (by omega) (by omega)]
   exact ⟨by rw [val_pair, h1, Bool.and_false], by rw [stepB_n2r (by omega) (ha.era_val va) h1, h2]⟩
 | @sel G k a x y t hk ha iha =>
  intro hG d ht hv
  subst hG
  have hk1 : k = 11 \/ k = 12 := by omega
  obtain ⟨d', _, _, hta⟩ := ht.inv_n1
  by_cases va : valM a = true
  rotate_left
  ·have va' : valM a = false := by simpa using va
   rw [stepC_n1 (by omega) va']
   refine (iha rfl hta va').ctx (fun z => tN1 k z) (fun a' h => .sel hk h) rfl (fun a' h => ?_) (fun a' h1 h2 => ?_)
   ·simp only [era_n1 _ (show k ≠ 5 by omega) (by omega) (by omega), h]
   ·simp only [era_n1 _ (show k ≠ 5 by omega) (by omega) (by omega)]
    exact ⟨val_n1 (by omega) _, by rw [stepB_n1 (by omega) h1, h2]⟩
  rw [stepC_n1v (by omega) va]
  rcases canon_pair ha va with ⟨u, v, rfl, hu, hv'⟩ | ⟨u, f, l, rfl, hf, hu, hcu⟩
  ·rw [show ruleM (tN1 k (tN2 10 u v)) = some (if k = 11 then u else v) by rcases hk1 with rfl | rfl <;> simp [ruleM]]
   refine .took ?_ (.inr ?_)
   ·rcases hk with ⟨rfl, rfl⟩ | ⟨rfl, rfl⟩
    ·rw [if_pos rfl]; exact hu
    ·rw [if_neg (by omega)]; exact hv'
   ·have hva := ha.era_val va
    rw [era_n1 _ (by omega) (by omega) (by omega)]
    rw [era_n2 _ _ (by omega) (by omega) (by omega)] at hva ⊢
    refine ⟨val_n1 (by omega) _, ?_⟩
    rw [stepB_n1v (by omega) hva, show ruleM (tN1 k (tN2 10 (era u) (era v))) = some (if k = 11 then era u else era v) by rcases hk1 with rfl | rfl <;> simp [ruleM]]
    rcases hk1 with rfl | rfl <;> simp
  ·obtain ⟨d2, _, hsf, hst, _, _, _⟩ := hta.inv_cast
   obtain ⟨p, q, rfl⟩ := vty5 hsf hf
   rw [show ruleM (tN1 k (tCast u (.mk 5 [p, q]) (.mk 5 [x, y]) l)) = none by rcases hk1 with rfl | rfl <;> simp [ruleM]]
   rcases hk with ⟨rfl, rfl⟩ | ⟨rfl, rfl⟩
   ·rw [show castRuleM (tN1 11 (tCast u (.mk 5 [p, q]) (.mk 5 [t, y]) l)) = (tCast (tN1 11 u) p t l, 1, 0) by simp [castRuleM, proxyM]]
    refine .took (.cast (.sel (.inl ⟨rfl, rfl⟩) hcu)) (.inl ?_)
    rw [era_cast, era_n1 _ (by omega) (by omega) (by omega), era_n1 _ (by omega) (by omega) (by omega), era_cast]
   ·rw [show castRuleM (tN1 12 (tCast u (.mk 5 [p, q]) (.mk 5 [x, t]) l)) = (tCast (tN1 12 u) q t l, 1, 0) by simp [castRuleM, proxyM]]
    refine .took (.cast (.sel (.inr ⟨rfl, rfl⟩) hcu)) (.inl ?_)
    rw [era_cast, era_n1 _ (by omega) (by omega) (by omega), era_n1 _ (by omega) (by omega) (by omega), era_cast]
 | @cast G a f t l ha iha =>
  intro hG d ht hv
  subst hG
  obtain ⟨d', _, hsf, hst, hcons, hl, hta⟩ := ht.inv_cast
  by_cases va : valM a = true
  rotate_left
  ·have va' : valM a = false := by simpa using va
   rw [stepC_cast va']
   refine (iha rfl hta va').ctx (fun z => tCast z f t l) (fun a' h => .cast h) rfl (fun a' h => ?_) (fun a' h1 h2 => ?_)
   ·simp only [era_cast, h]
   ·simp only [era_cast]
    exact ⟨h1, h2⟩
  rw [stepC_castv va]
  rw [vals_cast, va, Bool.and_true] at hv
  simp only [Bool.or_eq_false_iff, Bool.and_eq_false_iff, decide_eq_false_iff_not] at hv
  obtain ⟨hv1, hv2⟩ := hv
  unfold castCast
  split
  ·rename_i hkk
   have hft : f = t := by
    have hn : ¬ t.kind = 4 /\ ¬ t.kind = 5 := by
     rcases hv1 with h | h
     ·exact absurd hkk h
     ·exact h
    cases VTy.of hsf <;> cases VTy.of hst <;> simp at hkk hn ⊢
   subst hft
   exact .took ha (.inl (era_cast _ _ _ _))
  split
  ·exact .took (.cast (.cast ha)) (.inl (by rw [era_cast, era_cast, era_cast]))
  split
  ·exact .took (.cast (.cast ha)) (.inl (by rw [era_cast, era_cast, era_cast]))
  rename_i hkk ht1 hgr
  have hf1 : f = anyT := by
   have h1 : f.kind = 1 := Classical.byContradiction fun h => hkk (consTy_kind hcons h ht1).1
   cases VTy.of hsf <;> simp at h1 ⊢
  subst hf1
  obtain ⟨u, g, l', rfl, hg, hu, hcu⟩ := canon_any ha va
  rw [show injM (tCast u g anyT l') = true by simp [injM, hg]]
  simp only [Bool.true_eq_false, if_false]
  split
  ·rename_i hs
   have : g = t := sameTy_iff.1 hs
   subst this
   exact .took hcu (.inl (by rw [era_cast, era_cast]; rfl))
  ·exact .blame
end Go.Av

namespace Go.Av
open Go

theorem CT.inv_cast {G : List UInt8 -> Option MTy} {a : MTm} {f t T : MTy} {l : Int} (h : CT G (tCast a f t l) T) : CT G a f /\ T = t := by
 cases h with
 | cast h => exact ⟨h, rfl⟩
 | sel hk _ => omega
inductive Path : MTm -> MTm -> Prop
 | refl (b : MTm) : Path b b
 | step {b b' w : MTm} : valM b = false -> stepB b = (b', 1, 0) -> Path b' w -> Path b w
theorem Path.trans {a b c : MTm} (h : Path a b) (h2 : Path b c) : Path a c := by
 induction h with
 | refl => exact h2
 | step h1 h3 _ ih => exact .step h1 h3 (ih h2)
theorem Path.det {b w u : MTm} (h : Path b w) (h2 : Path b u) (hw : valM w = true) : Path u w := by
 induction h2 with
 | refl => exact h
 | @step b b' u h3 h4 _ ih =>
  refine ih ?_
  cases h with
  | refl => rw [hw] at h3; cases h3
  | step h5 h6 h7 => rw [h4] at h6; cases h6; exact h7
theorem Path.val {b w : MTm} (h : Path b w) (hb : valM b = true) : w = b := by
 cases h with
 | refl => rfl
 | step h1 => rw [hb] at h1; cases h1
inductive Bad : MTm -> Prop
 | app {a b : MTm} : valM a = true -> a.kind ≠ 5 -> Bad (tN2 6 a b)
 | opl {k : Int} {a b : MTm} : k = 7 \/ k = 8 -> valM a = true -> a.kind ≠ 2 -> Bad (tN2 k a b)
 | opr {k : Int} {a b : MTm} : k = 7 \/ k = 8 -> valM b = true -> b.kind ≠ 2 -> Bad (tN2 k a b)
 | ite {a b c : MTm} : valM a = true -> a.kind ≠ 3 -> a.kind ≠ 4 -> Bad (tIf a b c)
 | sel {k : Int} {a : MTm} : k = 11 \/ k = 12 -> valM a = true -> a.kind ≠ 10 -> Bad (tN1 k a)
 | n2l {k : Int} {a b : MTm} : k = 6 \/ k = 7 \/ k = 8 \/ k = 10 -> Bad a -> Bad (tN2 k a b)
 | n2r {k : Int} {a b : MTm} : k = 6 \/ k = 7 \/ k = 8 \/ k = 10 -> Bad b -> Bad (tN2 k a b)
 | ifc {a b c : MTm} : Bad a -> Bad (tIf a b c)
 | n1 {k : Int} {a : MTm} : k = 11 \/ k = 12 -> Bad a -> Bad (tN1 k a)
theorem Bad.noval {b : MTm} (h : Bad b) : valM b = false := by
 induction h with
 | app _ _ => exact val_n2 (by omega) _ _
 | opl hk _ _ => exact val_n2 (by omega) _ _
 | opr hk _ _ => exact val_n2 (by omega) _ _
 | ite _ _ _ => exact val_if _ _ _
 | sel hk _ _ => exact val_n1 hk _
 | n2l hk _ ih =>
  rcases hk with rfl | rfl | rfl | rfl
  ·exact val_n2 (by omega) _ _
  ·exact val_n2 (by omega) _ _
  ·exact val_n2 (by omega) _ _
  ·rw [val_pair, ih]; rfl
 | n2r hk _ ih =>
  rcases hk with rfl | rfl | rfl | rfl
  ·exact val_n2 (by omega) _ _
  ·exact val_n2 (by omega) _ _
  ·exact val_n2 (by omega) _ _
  ·rw [val_pair, ih, Bool.and_false]
 | ifc _ _ => exact val_if _ _ _
 | n1 hk _ _ => exact val_n1 hk _
theorem rule_app_none {a b : MTm} (h : a.kind ≠ 5) : ruleM (tN2 6 a b) = none := by simp [ruleM, h]
theorem rule_op_none {k : Int} (hk : k = 7 \/ k = 8) {a b : MTm} (h : a.kind ≠ 2 \/ b.kind ≠ 2) : ruleM (tN2 k a b) = none := by
 have : ¬ (a.kind = 2 /\ b.kind = 2) := fun q => h.elim (fun h => h q.1) (fun h => h q.2)
 rcases hk with rfl | rfl <;> simp [ruleM] <;> intro h1 <;> exact fun h2 => this ⟨h1, h2⟩
theorem rule_if_none {a b c : MTm} (h3 : a.kind ≠ 3) (h4 : a.kind ≠ 4) : ruleM (tIf a b c) = none := by simp [ruleM, h3, h4]
theorem rule_sel_none {k : Int} (hk : k = 11 \/ k = 12) {a : MTm} (h : a.kind ≠ 10) : ruleM (tN1 k a) = none := by rcases hk with rfl | rfl <;> simp [ruleM, h]
theorem Bad.step {b : MTm} (h : Bad b) : (stepB b).2.1 = 1 -> Bad (stepB b).1 := by
 induction h with
 | @app a b ha hk =>
  intro h
  by_cases vb : valM b = true
  ·rw [stepB_n2v (by omega) ha vb, rule_app_none hk] at h; simp at h
  ·rw [stepB_n2r (by omega) ha (by simpa using vb)] at h ⊢
   exact .app ha hk
 | @opl k a b hk ha hne =>
  intro h
  by_cases vb : valM b = true
  ·rw [stepB_n2v (by omega) ha vb, rule_op_none hk (.inl hne)] at h; simp at h
  ·rw [stepB_n2r (by omega) ha (by simpa using vb)] at h ⊢
   exact .opl hk ha hne
 | @opr k a b hk hb hne =>
  intro h
  by_cases va : valM a = true
  ·rw [stepB_n2v (by omega) va hb, rule_op_none hk (.inr hne)] at h; simp at h
  ·rw [stepB_n2l (by omega) (by simpa using va)] at h ⊢
   exact .opr hk hb hne
 | @ite a b c ha h3 h4 =>
  intro h
  rw [stepB_ifv ha, rule_if_none h3 h4] at h; simp at h
 | @sel k a hk ha hne =>
  intro h
  rw [stepB_n1v (by omega) ha, rule_sel_none hk hne] at h; simp at h
 | @n2l k a b hk ha ih =>
  intro h
  rw [stepB_n2l (by omega) ha.noval] at h ⊢
  exact .n2l hk (ih h)
 | @n2r k a b hk hb ih =>
  intro h
  by_cases va : valM a = true
  ·rw [stepB_n2r (by omega) va hb.noval] at h ⊢
   exact .n2r hk (ih h)
  ·rw [stepB_n2l (by omega) (by simpa using va)] at h ⊢
   exact .n2r hk hb
 | ifc ha ih =>
  intro h
  rw [stepB_if ha.noval] at h ⊢
  exact .ifc (ih h)
 | @n1 k a hk ha ih =>
  intro h
  rw [stepB_n1 (by omega) ha.noval] at h ⊢
  exact .n1 hk (ih h)
theorem Bad.path {b w : MTm} (h : Bad b) (hp : Path b w) : valM w = false := by
 induction hp with
 | refl => exact h.noval
 | step h1 h2 _ ih =>
  have := h.step (by rw [h2])
  rw [h2] at this
  exact ih this

inductive DY : Nat -> Int -> MTm -> Prop
 | var (s : List UInt8) : DY 0 1 (tVar s)
 | inj {k l : Int} {g : MTm} : k = 2 \/ k = 3 \/ k = 4 \/ k = 5 -> DY 1 k g -> DY 0 1 (tCast g (groundT k) anyT l)
 | app {a b : MTm} : DY 2 4 a -> DY 0 1 b -> DY 0 1 (tN2 6 a b)
 | ite {a b c : MTm} : DY 2 3 a -> DY 0 1 b -> DY 0 1 c -> DY 0 1 (tIf a b c)
 | sel {k : Int} {a : MTm} : k = 11 \/ k = 12 -> DY 2 5 a -> DY 0 1 (tN1 k a)
 | num (n : Int) : DY 1 2 (tNum n)
 | tru : DY 1 3 tTrue
 | fls : DY 1 3 tFalse
 | lam {s : List UInt8} {b : MTm} : DY 0 1 b -> DY 1 4 (tLam s anyT b)
 | pair {a b : MTm} : DY 0 1 a -> DY 0 1 b -> DY 1 5 (tN2 10 a b)
 | add {a b : MTm} : DY 2 2 a -> DY 2 2 b -> DY 1 2 (tN2 7 a b)
 | less {a b : MTm} : DY 2 2 a -> DY 2 2 b -> DY 1 3 (tN2 8 a b)
 | pg {k : Int} {g : MTm} : DY 1 k g -> DY 2 k g
 | pp {k l : Int} {d : MTm} : k = 2 \/ k = 3 \/ k = 4 \/ k = 5 -> DY 0 1 d -> DY 2 k (tCast d anyT (groundT k) l)
theorem ground_kind {k : Int} (hk : k = 2 \/ k = 3 \/ k = 4 \/ k = 5) : (groundT k).kind = k /\ isGroundM (groundT k) = true := by
 rcases hk with rfl | rfl | rfl | rfl <;> exact ⟨rfl, by decide +kernel⟩
theorem ground_same {k k' : Int} (hk : k = 2 \/ k = 3 \/ k = 4 \/ k = 5) (hk' : k' = 2 \/ k' = 3 \/ k' = 4 \/ k' = 5) : sameTy (groundT k') (groundT k) = true ↔ k' = k := by
 rw [sameTy_iff]
 refine ⟨fun h => ?_, fun h => by rw [h]⟩
 have := congrArg MTy.kind h
 rw [(ground_kind hk).1, (ground_kind hk').1] at this
 exact this
def okKind (k : Int) (b : MTm) : Prop := (k = 2 /\ b.kind = 2) \/ (k = 3 /\ (b.kind = 3 \/ b.kind = 4)) \/ (k = 4 /\ b.kind = 5) \/ (k = 5 /\ b.kind = 10)
def WB (m : Nat) (k : Int) (b : MTm) : Prop := if m = 2 then Bad b \/ (valM b = true /\ ∃ k', k' ≠ k /\ okKind k' b) else Bad b
def tB (u : MTm) : List UInt8 := if u.kind = 10 then pairB else if u.kind = 5 then funB else if u.kind = 2 then Lib.itoa u.num else if u.kind = 3 then [84] else [70]
theorem era_fun {e : MTm} {T : MTy} {G : List UInt8 -> Option MTy} (h : CT G e T) : G = noG -> ∀ {d : Nat}, TmV 13 d e -> valM e = true -> (T.kind = 4 -> (era e).kind = 5) /\ (T.kind = 5 -> (era e).kind = 10) := by
 induction h with
 | var h => intro hG; subst hG; cases h
 | num => intro _ d _ _; simp
 | tru => intro _ d _ _; simp
 | fls => intro _ d _ _; simp
 | lam _ _ => intro _ d _ _; rw [era_lam]; simp
 | app _ _ _ _ => intro _ d _ hv; rw [val_n2 (by omega)] at hv; cases hv
 | op hk _ _ _ _ => intro _ d _ hv; rw [val_n2 (by omega)] at hv; cases hv
 | ite _ _ _ _ _ _ => intro _ d _ hv; rw [val_if] at hv; cases hv
 | pair _ _ _ _ => intro _ d _ _; rw [era_n2 _ _ (by omega) (by omega) (by omega)]; simp
 | sel hk _ _ => intro _ d _ hv; rw [val_n1 (by omega)] at hv; cases hv
 | @cast G a f t l ha ih =>
  intro hG d ht hv
  obtain ⟨d', _, _, _, _, _, hta⟩ := ht.inv_cast
  rw [vals_cast, Bool.and_eq_true, Bool.or_eq_true, Bool.and_eq_true, Bool.and_eq_true, decide_eq_true_eq, decide_eq_true_eq] at hv
  obtain ⟨hv1, hv2⟩ := hv
  obtain ⟨i1, i2⟩ := ih hG hta hv2
  rw [era_cast]
  refine ⟨fun h4 => i1 ?_, fun h5 => i2 ?_⟩
  ·rcases hv1 with ⟨q, _⟩ | ⟨q, _⟩
   ·rw [q]; exact h4
   ·omega
  ·rcases hv1 with ⟨q, _⟩ | ⟨q, _⟩
   ·rw [q]; exact h5
   ·omega
theorem text_era {e : MTm} {T : MTy} {G : List UInt8 -> Option MTy} (h : CT G e T) : G = noG -> ∀ {d : Nat}, TmV 13 d e -> valM e = true -> valTextF d e = tB (era e) := by
 induction h with
 | var h => intro hG; subst hG; cases h
 | num => intro _ d ht _; cases ht; rw [valTextF_num, era_num]; simp [tB]
 | tru => intro _ d ht _; cases ht; rw [valTextF_true, era_tru]; simp [tB]
 | fls => intro _ d ht _; cases ht; rw [valTextF_false, era_fls]; simp [tB]
 | lam _ _ => intro _ d ht _; obtain ⟨d', rfl, _⟩ := ht.inv_lam; rw [valTextF_lam, era_lam]; simp [tB]
 | app _ _ _ _ => intro _ d _ hv; rw [val_n2 (by omega)] at hv; cases hv
 | op hk _ _ _ _ => intro _ d _ hv; rw [val_n2 (by omega)] at hv; cases hv
 | ite _ _ _ _ _ _ => intro _ d _ hv; rw [val_if] at hv; cases hv
 | pair _ _ _ _ => intro _ d ht _; obtain ⟨d', rfl, _⟩ := ht.inv_n2; rw [valTextF_pair, era_n2 _ _ (by omega) (by omega) (by omega)]; simp [tB]
 | sel hk _ _ => intro _ d _ hv; rw [val_n1 (by omega)] at hv; cases hv
 | @cast G a f t l ha ih =>
  intro hG d ht hv
  have ht0 := ht
  have hv0 := hv
  obtain ⟨d', rfl, _, _, _, _, hta⟩ := ht.inv_cast
  rw [vals_cast, Bool.and_eq_true] at hv
  obtain ⟨hv1, hv2⟩ := hv
  obtain ⟨k4, k5⟩ := era_fun (CT.cast (l := l) (t := t) ha) hG ht0 hv0
  rw [era_cast] at k4 k5 ⊢
  have hpx : proxyM (.mk 14 [] 0 t f l [a]) = (decide (f.kind = t.kind) && (decide (t.kind = 4) || decide (t.kind = 5))) := by simp [proxyM]; rfl
  rw [show valTextF (d' + 1) (tCast a f t l) = if (decide ((14 : Int) = 10) || (proxyM (.mk 14 [] 0 t f l [a]) && decide (t.kind = 5))) = true then pairB else if (decide ((14 : Int) = 5) || proxyM (.mk 14 [] 0 t f l [a])) = true then funB else valTextF d' a from rfl, hpx]
  obtain ⟨q, hq⟩ : ∃ q, (decide (f.kind = t.kind) && (decide (t.kind = 4) || decide (t.kind = 5))) = q := ⟨_, rfl⟩
  rw [hq]
  cases q with
  | false =>
   rw [if_neg (by simp), if_neg (by simp)]
   exact ih hG hta hv2
  | true =>
   simp only [Bool.and_eq_true, Bool.or_eq_true, decide_eq_true_eq] at hq
   by_cases h5 : t.kind = 5
   ·have e1 := k5 h5
    rw [if_pos (by simp [h5])]
    simp [tB, e1]
   ·have h4 : t.kind = 4 := by omega
    have e1 := k4 h4
    rw [if_neg (by simp [h5]), if_pos (by simp)]
    simp [tB, e1]
end Go.Av

namespace Go.Av
open Go

def stepCastM (e : MTm) : MTm × Int × Int :=
 if castValidM e = true then (if valM e = true then (e, 0, 0) else if (stepC e).2.1 = 1 then (if castValidM (stepC e).1 = true then ((stepC e).1, 1, 0) else (zeroE, 4, 0)) else (zeroE, (stepC e).2.1, (stepC e).2.2)) else (zeroE, 3, 0)
def evalC : Nat -> MTm -> MTm × Int × Int
 | 0, e => stepCastM e
 | n + 1, e => if (stepCastM e).2.1 = 1 then evalC n (stepCastM e).1 else stepCastM e
def evalCastM (e : MTm) (n : Int) : MTm × Int × Int := if 0 <= n /\ n <= 300 then (if (evalC n.toNat e).2.1 = 1 then (zeroE, 5, 0) else evalC n.toNat e) else (zeroE, 3, 0)

theorem castV {e : MTm} (h : castValidM e = true) : TmV 13 40 e := (castValidM_iff.1 h).1
theorem first_ok {c : MTm} {T : MTy} (hc : CT noG c T) (hv : castValidM c = true) :
  (stepCastM c = (c, 0, 0) /\ valM c = true) \/ (∃ c', valM c = false /\ stepC c = (c', 1, (stepC c).2.2) /\ stepCastM c = (c', 1, 0) /\ CT noG c' T /\ castValidM c' = true /\ Path (era c) (era c')) \/ (stepCastM c).2.1 = 4 \/ ((stepCastM c).2.1 = 2 /\ valM c = false /\ (stepC c).2.1 = 2) := by
 simp only [stepCastM, if_pos hv]
 by_cases hval : valM c = true
 ·rw [if_pos hval]; exact .inl ⟨rfl, hval⟩
 ·have hval' : valM c = false := by simpa using hval
  rw [if_neg hval]
  have h := step_ok hc rfl (castV hv) hval'
  generalize stepC c = p at *
  cases h with
  | @took c' lb h1 h2 =>
   simp only [if_true]
   by_cases hv' : castValidM c' = true
   ·rw [if_pos hv']
    refine .inr (.inl ⟨c', hval', rfl, rfl, h1, hv', ?_⟩)
    rcases h2 with h2 | ⟨h2, h3⟩
    ·rw [h2]; exact .refl _
    ·exact .step h2 h3 (.refl _)
   ·rw [if_neg hv']; exact .inr (.inr (.inl rfl))
  | @blame c' lb =>
   rw [if_neg (by simp)]
   exact .inr (.inr (.inr ⟨rfl, hval', rfl⟩))
theorem run_ok : ∀ (n : Nat) {c : MTm} {T : MTy}, CT noG c T -> castValidM c = true ->
  ((evalC n c).2.1 = 0 /\ CT noG (evalC n c).1 T /\ castValidM (evalC n c).1 = true /\ valM (evalC n c).1 = true /\ Path (era c) (era (evalC n c).1)) \/ (evalC n c).2.1 = 1 \/ (evalC n c).2.1 = 2 \/ (evalC n c).2.1 = 4
 | 0, c, T, hc, hv => by
  rw [evalC]
  rcases first_ok hc hv with ⟨h, hval⟩ | ⟨c', _, _, h, _⟩ | h | h
  ·rw [h]; exact .inl ⟨rfl, hc, hv, hval, .refl _⟩
  ·rw [h]; exact .inr (.inl rfl)
  ·exact .inr (.inr (.inr h))
  ·exact .inr (.inr (.inl h.1))
 | n + 1, c, T, hc, hv => by
  rw [evalC]
  rcases first_ok hc hv with ⟨h, hval⟩ | ⟨c', _, _, h, h1, h2, h3⟩ | h | h
  ·rw [h]; exact .inl ⟨rfl, hc, hv, hval, .refl _⟩
  ·rw [h]
   simp only [if_true]
   rcases run_ok n h1 h2 with ⟨g1, g2, g3, g4, g5⟩ | g
   ·exact .inl ⟨g1, g2, g3, g4, h3.trans g5⟩
   ·exact .inr g
  ·rw [if_neg (by omega)]; exact .inr (.inr (.inr h))
  ·rw [if_neg (by omega)]; exact .inr (.inr (.inl h.1))
theorem evalC_more : ∀ {n k : Nat} {c : MTm}, (evalC n c).2.1 ≠ 1 -> evalC (n + k) c = evalC n c
 | 0, 0, c, h => rfl
 | 0, k + 1, c, h => by
  rw [evalC] at h
  rw [Nat.zero_add, evalC, evalC, if_neg h]
 | n + 1, k, c, h => by
  rw [Nat.add_right_comm, evalC, evalC]
  rw [evalC] at h
  by_cases h1 : (stepCastM c).2.1 = 1
  ·rw [if_pos h1] at h ⊢
   rw [if_pos h1]
   exact evalC_more h
  ·rw [if_neg h1, if_neg h1]
theorem wrap_run {T : MTy} {l : Int} (hT : shapeTy 4 T = true) (hne : T.kind ≠ 1) : ∀ (n : Nat) {c : MTm}, CT noG c T -> castValidM c = true -> castValidM (tCast c T anyT l) = true -> (evalC n c).2.1 = 0 ->
  ((evalC (n + 1) (tCast c T anyT l)).2.1 = 0 /\ valTextF 40 (evalC (n + 1) (tCast c T anyT l)).1 = valTextF 40 (evalC n c).1) \/ (evalC (n + 1) (tCast c T anyT l)).2.1 = 4 := by
 have value : ∀ {c : MTm}, CT noG c T -> castValidM c = true -> castValidM (tCast c T anyT l) = true -> valM c = true -> ∀ n, ((evalC (n + 1) (tCast c T anyT l)).2.1 = 0 /\ valTextF 40 (evalC (n + 1) (tCast c T anyT l)).1 = valTextF 40 c) \/ (evalC (n + 1) (tCast c T anyT l)).2.1 = 4 := by
  intro c hc hv hv2 hval n
  have htx : ∀ {w : MTm} {U : MTy}, CT noG w U -> castValidM w = true -> valM w = true -> era w = era c -> valTextF 40 w = valTextF 40 c := fun h1 h2 h3 h4 => by
   rw [text_era h1 rfl (castV h2) h3, text_era hc rfl (castV hv) hval, h4]
  by_cases hg : isGroundM T = true
  ·have hvw : valM (tCast c T anyT l) = true := by rw [vals_cast, hg, hval]; simp
   have : stepCastM (tCast c T anyT l) = (tCast c T anyT l, 0, 0) := by simp only [stepCastM, if_pos hv2, if_pos hvw]
   rw [evalC, this, if_neg (by simp)]
   exact .inl ⟨rfl, htx (.cast hc) hv2 hvw (era_cast _ _ _ _)⟩
  ·have hg' : isGroundM T = false := by simpa using hg
   have hk : T.kind = 4 \/ T.kind = 5 := by
    cases VTy.of hT with
    | any => exact absurd rfl hne
    | int => exact absurd (by decide +kernel) hg
    | bool => exact absurd (by decide +kernel) hg
    | fn _ _ => exact .inl rfl
    | pair _ _ => exact .inr rfl
   obtain ⟨g1, g2⟩ := ground_kind (k := T.kind) (by omega)
   have hnv : valM (tCast c T anyT l) = false := by
    rw [vals_cast, hg']
    have : ¬ T.kind = 1 := hne
    simp [this]
   have hst : stepC (tCast c T anyT l) = (tCast (tCast c T (groundT T.kind) l) (groundT T.kind) anyT l, 1, 0) := by
    rw [stepC_castv hval]
    unfold castCast
    rw [if_neg (show ¬ T.kind = anyT.kind from hne), if_pos (show anyT.kind = 1 from rfl)]
   have hinn : valM (tCast c T (groundT T.kind) l) = true := by
    rw [vals_cast, hval, g1]
    rcases hk with h | h <;> simp [h]
   have hout : valM (tCast (tCast c T (groundT T.kind) l) (groundT T.kind) anyT l) = true := by
    rw [vals_cast, hinn, g2]; simp
   rw [evalC]
   simp only [stepCastM, if_pos hv2, hnv, Bool.false_eq_true, if_false, hst, if_true]
   by_cases hv3 : castValidM (tCast (tCast c T (groundT T.kind) l) (groundT T.kind) anyT l) = true
   ·rw [if_pos hv3]
    simp only [if_true]
    have h2 : stepCastM (tCast (tCast c T (groundT T.kind) l) (groundT T.kind) anyT l) = (tCast (tCast c T (groundT T.kind) l) (groundT T.kind) anyT l, 0, 0) := by simp only [stepCastM, if_pos hv3, if_pos hout]
    have h3 : evalC n (tCast (tCast c T (groundT T.kind) l) (groundT T.kind) anyT l) = (tCast (tCast c T (groundT T.kind) l) (groundT T.kind) anyT l, 0, 0) := by
     cases n with
     | zero => rw [evalC, h2]
     | succ n => rw [evalC, h2, if_neg (by simp)]
    rw [h3]
    exact .inl ⟨rfl, htx (.cast (.cast hc)) hv3 hout (by rw [era_cast, era_cast])⟩
   ·rw [if_neg hv3]
    exact .inr (by simp)
 intro n
 induction n with
 | zero =>
  intro c hc hv hv2 hr
  rw [evalC] at hr ⊢
  rcases first_ok hc hv with ⟨h, hval⟩ | ⟨c', _, _, h, _⟩ | h | h
  ·have := value hc hv hv2 hval 0
   rw [h]; exact this
  ·rw [h] at hr; simp at hr
  ·omega
  ·omega
 | succ n ih =>
  intro c hc hv hv2 hr
  rcases first_ok hc hv with ⟨h, hval⟩ | ⟨c', h0, hs, h, h1, h2, h3⟩ | h | h
  ·have := value hc hv hv2 hval (n + 1)
   have e : evalC (n + 1) c = (c, 0, 0) := by rw [evalC, h, if_neg (by simp)]
   rw [e]; exact this
  ·have e : evalC (n + 1) c = evalC n c' := by rw [evalC, h, if_pos rfl]
   rw [e] at hr ⊢
   have hnv : valM (tCast c T anyT l) = false := by rw [vals_cast, h0, Bool.and_false]
   have hst : stepC (tCast c T anyT l) = (tCast c' T anyT l, 1, (stepC c).2.2) := by rw [stepC_cast h0, hs]
   rw [evalC]
   simp only [stepCastM, if_pos hv2, hnv, Bool.false_eq_true, if_false, hst, if_true]
   by_cases hv3 : castValidM (tCast c' T anyT l) = true
   ·rw [if_pos hv3]
    simp only [if_true]
    exact ih h1 h2 hv3 hr
   ·rw [if_neg hv3]
    exact .inr (by simp)
  ·rw [evalC, if_neg (by omega)] at hr; omega
  ·rw [evalC, if_neg (by omega)] at hr; omega
end Go.Av

namespace Go.Av
open Go

def lastUp (s : List UInt8) (c : UInt8) : Nat -> Int
 | 0 => -1
 | p + 1 => if s[p]? = some c then (p : Int) else lastUp s c p
def lastIx (s : List UInt8) (c : UInt8) : Int := lastUp s c s.length
def lastOp (k : Int) : Int := if k = 6 then 6 else if k = 7 then 7 else if k = 8 then 8 else if k = 10 then 11 else if k = 11 then 12 else 13
def opNode (k : Int) (x n : Int) (cs : List (List MOp)) : List MOp :=
 if k = 1 then [⟨3, x⟩] else if k = 2 then [⟨1, n⟩] else if k = 3 then [⟨2, 1⟩] else if k = 4 then [⟨2, 0⟩]
 else if k = 5 then (match cs with | [b] => [⟨4, b.length + 1⟩] ++ b ++ [⟨5, 0⟩] | _ => [])
 else if k = 9 then (match cs with | [c, y, z] => c ++ [⟨9, y.length + 1⟩] ++ y ++ [⟨10, z.length⟩] ++ z | _ => [])
 else cs.flatten ++ [⟨lastOp k, 0⟩]
mutual
def compM (names : List UInt8) : MTm -> List MOp
 | .mk k s n _ _ _ l => opNode k (names.length - 1 - lastIx names (s.headD 0)) n (compS (if k = 5 then names ++ s else names) l)
def compS (names : List UInt8) : List MTm -> List (List MOp)
 | [] => []
 | e :: r => compM names e :: compS names r
end
inductive BaV : List UInt8 -> MTm -> Prop
 | var {ns : List UInt8} {c : UInt8} : c ∈ ns -> BaV ns (tVar [c])
 | num {ns : List UInt8} (n : Int) : BaV ns (tNum n)
 | tru {ns : List UInt8} : BaV ns tTrue
 | fls {ns : List UInt8} : BaV ns tFalse
 | lam {ns : List UInt8} {c : UInt8} {t : MTy} {b : MTm} : BaV (ns ++ [c]) b -> BaV ns (tLam [c] t b)
 | n2 {ns : List UInt8} {k : Int} {a b : MTm} : k = 6 \/ k = 7 \/ k = 8 \/ k = 10 -> BaV ns a -> BaV ns b -> BaV ns (tN2 k a b)
 | ite {ns : List UInt8} {a b c : MTm} : BaV ns a -> BaV ns b -> BaV ns c -> BaV ns (tIf a b c)
 | n1 {ns : List UInt8} {k : Int} {a : MTm} : k = 11 \/ k = 12 -> BaV ns a -> BaV ns (tN1 k a)
theorem BaV.of {nt : Int} {d : Nat} {e : MTm} (h : TmV nt d e) : ∀ ns, (∀ z, freeIn z ns e = false) -> BaV ns (mapM bareG e) := by
 induction h with
 | @var d s _ hs =>
  intro ns hf
  obtain ⟨c, rfl, _⟩ := nameM_one hs
  have := hf c
  simp [freeIn, freeInS] at this
  rw [show mapM bareG (tVar [c]) = tVar [c] by simp [mapM, mapS, bareG]]
  exact .var this
 | @num d n _ _ _ => intro ns hf; rw [show mapM bareG (tNum n) = tNum n by simp [mapM, mapS, bareG]]; exact .num n
 | tru _ => intro ns hf; rw [show mapM bareG tTrue = tTrue by simp [mapM, mapS, bareG]]; exact .tru
 | fls _ => intro ns hf; rw [show mapM bareG tFalse = tFalse by simp [mapM, mapS, bareG]]; exact .fls
 | @lam d s t b _ hs _ _ ih =>
  intro ns hf
  obtain ⟨c, rfl, _⟩ := nameM_one hs
  rw [show mapM bareG (tLam [c] t b) = tLam [c] anyT (mapM bareG b) by simp [mapM, mapS, bareG]]
  exact .lam (ih _ fun z => by have := hf z; simpa [freeIn, freeInS] using this)
 | @n2 d k a b _ hk _ _ iha ihb =>
  intro ns hf
  have h1 : ¬ (k = 13 \/ k = 14) := by omega
  have h2 : ¬ k = 5 := by omega
  have h3 : ¬ k = 1 := by omega
  rw [show mapM bareG (tN2 k a b) = tN2 k (mapM bareG a) (mapM bareG b) by simp [mapM, mapS, bareG, h1, h2]]
  have := fun z => hf z
  simp [freeIn, freeInS, h2, h3] at this
  exact .n2 hk (iha _ fun z => (this z).1) (ihb _ fun z => (this z).2)
 | @ite d a b c _ _ _ _ ihp iha ihb =>
  intro ns hf
  rw [show mapM bareG (tIf a b c) = tIf (mapM bareG a) (mapM bareG b) (mapM bareG c) by simp [mapM, mapS, bareG]]
  have := fun z => hf z
  simp [freeIn, freeInS] at this
  exact .ite (ihp _ fun z => (this z).1) (iha _ fun z => (this z).2.1) (ihb _ fun z => (this z).2.2)
 | @n1 d k a _ hk _ ih =>
  intro ns hf
  have h1 : ¬ (k = 13 \/ k = 14) := by omega
  have h2 : ¬ k = 5 := by omega
  have h3 : ¬ k = 1 := by omega
  rw [show mapM bareG (tN1 k a) = tN1 k (mapM bareG a) by simp [mapM, mapS, bareG, h1, h2]]
  have := fun z => hf z
  simp [freeIn, freeInS, h2, h3] at this
  exact .n1 hk (ih _ this)
 | asc _ _ _ ih =>
  intro ns hf
  have := fun z => hf z
  simp [freeIn, freeInS] at this
  have h := ih _ this
  simpa [mapM, mapS, bareG] using h
 | cast _ _ _ _ _ _ ih =>
  intro ns hf
  have := fun z => hf z
  simp [freeIn, freeInS] at this
  have h := ih _ this
  simpa [mapM, mapS, bareG] using h
structure BaHead (ns : List UInt8) (e : MTm) : Prop where
 var : e.kind = 1 -> ∃ c, e.name = [c] /\ c ∈ ns /\ e.kids = []
 lam : e.kind = 5 -> ∃ c b, e.name = [c] /\ e.kids = [b]
 ite : e.kind = 9 -> ∃ a b c, e.kids = [a, b, c]
 kind : 1 <= e.kind /\ e.kind <= 12
 leaf : e.kind <= 4 -> e.kids = []
 len : e.kids.length <= 3
 nlen : e.name.length <= 1
 kids : ∀ u ∈ e.kids, BaV (if e.kind = 5 then ns ++ e.name else ns) u
def compileM (e : MTm) : Option (List MOp) := if termValidM e = true /\ namesM e = [] then (if opsValidM (compM [] (mapM bareG e)) = true then some (compM [] (mapM bareG e)) else none) else none
def ops0 (o : Option (List MOp)) : List MOp := o.getD []
mutual
theorem free_erase (z : UInt8) : ∀ (e : MTm) (bd : List UInt8), freeIn z bd (mapM eraseG e) = freeIn z bd e
 | .mk k s n t f b l, bd => by
  rw [mapM, eraseG]
  split <;> (simp only [freeIn, MTm.kind_mk, MTm.name_mk, MTm.kids_mk, free_eraseS z l]; try rfl)
theorem free_eraseS (z : UInt8) : ∀ (l : List MTm) (bd : List UInt8), freeInS z bd (mapS eraseG l) = freeInS z bd l
 | [], bd => rfl
 | e :: r, bd => by rw [mapS, freeInS, freeInS, free_erase z e, free_eraseS z r]
end
theorem free_bare {nt : Int} {d : Nat} {e : MTm} (h : TmV nt d e) : ∀ z bd, freeIn z bd (mapM bareG e) = freeIn z bd e := by
 induction h with
 | var _ _ => intro z bd; simp [mapM, mapS, bareG]
 | num _ _ _ => intro z bd; simp [mapM, mapS, bareG]
 | tru _ => intro z bd; simp [mapM, mapS, bareG]
 | fls _ => intro z bd; simp [mapM, mapS, bareG]
 | lam _ _ _ _ ih => intro z bd; simp [mapM, mapS, bareG, freeIn, freeInS, ih]
 | @n2 d k a b _ hk _ _ iha ihb =>
  intro z bd
  have h1 : ¬ (k = 13 \/ k = 14) := by omega
  have h2 : ¬ k = 5 := by omega
  have h3 : ¬ k = 1 := by omega
  simp [mapM, mapS, bareG, freeIn, freeInS, iha, ihb, h1, h2, h3]
 | ite _ _ _ _ ihp iha ihb => intro z bd; simp [mapM, mapS, bareG, freeIn, freeInS, ihp, iha, ihb]
 | @n1 d k a _ hk _ ih =>
  intro z bd
  have h1 : ¬ (k = 13 \/ k = 14) := by omega
  have h2 : ¬ k = 5 := by omega
  have h3 : ¬ k = 1 := by omega
  simp [mapM, mapS, bareG, freeIn, freeInS, ih, h1, h2, h3]
 | asc _ _ _ ih => intro z bd; simp [mapM, mapS, bareG, freeIn, freeInS, ih]
 | cast _ _ _ _ _ _ ih => intro z bd; simp [mapM, mapS, bareG, freeIn, freeInS, ih]

mutual
def sfree (bd : List UInt8) : MTm -> List UInt8 -> List UInt8
 | .mk k s _ _ _ _ l, out => sfreeS (if k = 5 then addM (s.headD 0) bd else bd) l (if k = 1 /\ ¬ s.headD 0 ∈ bd then addM (s.headD 0) out else out)
def sfreeS (bd : List UInt8) : List MTm -> List UInt8 -> List UInt8
 | [], out => out
 | e :: r, out => sfreeS bd r (sfree bd e out)
end
mutual
theorem sfree_len : ∀ (e : MTm) (bd out : List UInt8), (sfree bd e out).length <= out.length + nodesM e
 | .mk k s n t f b l, bd, out => by
  rw [sfree, nodesM]
  have h1 := sfree_lenS l (if k = 5 then addM (s.headD 0) bd else bd) (if k = 1 /\ ¬ s.headD 0 ∈ bd then addM (s.headD 0) out else out)
  have h2 : (if k = 1 /\ ¬ s.headD 0 ∈ bd then addM (s.headD 0) out else out).length <= out.length + 1 := by
   split
   ·exact addM_len _ _
   ·omega
  omega
theorem sfree_lenS : ∀ (l : List MTm) (bd out : List UInt8), (sfreeS bd l out).length <= out.length + nodesS l
 | [], bd, out => by simp [sfreeS]
 | e :: r, bd, out => by
  rw [sfreeS, nodesS]
  have h1 := sfree_len e bd out
  have h2 := sfree_lenS r bd (sfree bd e out)
  omega
end
theorem TmV.one {nt : Int} {d : Nat} {e : MTm} (h : TmV nt d e) (hk : e.kind = 1 \/ e.kind = 5) : ∃ c, e.name = [c] := by
 cases h with
 | @var _ s _ hs => obtain ⟨c, rfl, _⟩ := nameM_one hs; exact ⟨c, rfl⟩
 | @lam _ s t b _ hs _ _ => obtain ⟨c, rfl, _⟩ := nameM_one hs; exact ⟨c, rfl⟩
 | num _ _ _ => simp at hk
 | tru _ => simp at hk
 | fls _ => simp at hk
 | n2 _ hk' _ _ => simp at hk; omega
 | ite _ _ _ _ => simp at hk
 | n1 _ hk' _ => simp at hk; omega
 | asc _ _ _ => simp at hk
 | cast _ _ _ _ _ _ => simp at hk
end Go.Av

namespace Go.Av
open Go

theorem nTm_headD (l : List MTm) : nTm (l.headD zeroE) <= nTmS l := by
 cases l with
 | nil => simp [nTm_mk, nTmS, nTy_mk, nTyS]
 | cons a r => simp [nTmS]; omega
theorem nTy_headD (l : List MTy) : nTy (l.headD zeroT) <= nTyS l := by
 cases l with
 | nil => simp [nTy_mk, nTyS]
 | cons a r => simp [nTyS]; omega
theorem nTyS_drop1 (l : List MTy) : nTyS (l.drop 1) <= nTyS l := by
 cases l with
 | nil => simp
 | cons a r => simp [nTyS]
theorem nTm_cast (a : MTm) (f t : MTy) (l : Int) : nTm (tCast a f t l) = nTy t + nTy f + nTm a + 1 := by simp [nTm_mk, nTmS]; omega
theorem nTm_n2 (k : Int) (a b : MTm) : nTm (tN2 k a b) = nTm a + nTm b + 2 := by simp [nTm_mk, nTmS, nTy_mk, nTyS]; omega
theorem nTm_n1 (k : Int) (a : MTm) : nTm (tN1 k a) = nTm a + 1 := by simp [nTm_mk, nTmS, nTy_mk, nTyS]; omega
theorem nTy_ground (k : Int) : nTy (groundT k) <= 2 := by
 simp only [groundT]
 split <;> simp [nTy_mk, nTyS]
theorem castRule_size (e : MTm) : nTm (castRuleM e).1 <= 4 * nTm e + 100 := by
 have hz : nTm zeroE = 0 := by simp [nTm_mk, nTmS, nTy_mk, nTyS]
 have he := nTm_def e
 unfold castRuleM
 split
 ·simp only [hz]; omega
 ·rename_i a r hk
  rw [hk, nTmS] at he
  have ha := nTm_def a
  have h1 := nTm_headD a.kids
  have h2 := nTm_headD r
  have h3 := nTy_headD a.ty.kids
  have h4 := nTy_headD a.fr.kids
  have h5 := nTy_headD (a.ty.kids.drop 1)
  have h6 := nTy_headD (a.fr.kids.drop 1)
  have h7 := nTyS_drop1 a.ty.kids
  have h8 := nTyS_drop1 a.fr.kids
  have h9 := nTy_def a.ty
  have h10 := nTy_def a.fr
  split
  ·simp only [nTm_cast, nTm_n2]; omega
  split
  ·split
   ·simp only [nTm_cast, nTm_n1]; omega
   ·simp only [nTm_cast, nTm_n1]; omega
  split
  ·simp only [hz]; omega
  ·unfold castCast
   split
   ·simp only; omega
   split
   ·have := nTy_ground e.fr.kind; simp only [nTm_cast]; omega
   split
   ·have := nTy_ground e.ty.kind; simp only [nTm_cast]; omega
   split
   ·simp only [hz]; omega
   split
   ·simp only; omega
   ·simp only [hz]; omega
theorem stepCS_first : ∀ (n : Nat) (l : List MTm), stepCS n l = match firstNV (l.take n) with
  | none => none
  | some i => some (l.set i (stepC (l.getD i zeroE)).1, (stepC (l.getD i zeroE)).2.1, (stepC (l.getD i zeroE)).2.2)
 | 0, l => by simp [stepCS, firstNV]
 | n + 1, [] => by simp [stepCS, firstNV]
 | n + 1, e :: r => by
  simp only [stepCS, List.take_succ_cons, firstNV]
  by_cases hv : valM e = true
  ·simp only [hv, if_true]
   rw [stepCS_first n r]
   cases firstNV (r.take n) with
   | none => rfl
   | some i => simp
  ·simp only [hv, if_false]
   simp
theorem stepC_at {e : MTm} {i : Nat} {u : MTm} (h : firstNV (e.kids.take (countsM e)) = some i) (hu : e.kids[i]? = some u) :
  stepC e = (.mk e.kind e.name e.num e.ty e.fr e.label (e.kids.set i (stepC u).1), (stepC u).2.1, (stepC u).2.2) := by
 have : e.kids.getD i zeroE = u := by rw [List.getD_eq_getElem?_getD, hu]; rfl
 rw [stepC_def, stepCS_first, h]
 simp only [this]
theorem stepC_none {e : MTm} (h : firstNV (e.kids.take (countsM e)) = none) : stepC e = match ruleM e with
  | some x => (x, 1, 0)
  | none => castRuleM e := by
 rw [stepC_def, stepCS_first, h] <;> (cases ruleM e <;> rfl)
theorem stepC_size : ∀ (e : MTm), nTm (stepC e).1 <= 4 * nTm e + 100 + nodesM e * nTm e := by
 intro e
 induction e using MTm.ind with
 | h e ih =>
  rw [stepC_def, stepCS_first]
  cases hf : firstNV (e.kids.take (countsM e)) with
  | some i =>
   obtain ⟨u, h1, h2, h3, h4, _⟩ := firstNV_get hf
   simp only [h2]
   have g1 := ih u h4
   have g2 := nTmS_set (v := (stepC u).1) h1
   have g3 : nTm u <= nTm e := by have := nTmS_mem h4; rw [nTm_def e]; omega
   have g4 := nodesM_kid h4
   have g5 : nodesM u * nTm u <= nodesM e * nTm e := Nat.mul_le_mul (by omega) g3
   rw [nTm_mk]
   have g6 := nTm_def e
   omega
  | none =>
   simp only
   cases hr : ruleM e with
   | some x => have := rule_size hr; simp only; omega
   | none => have := castRule_size e; simp only; omega
def cntC : Nat -> MTm -> Nat
 | 0, _ => 0
 | n + 1, e => if (stepCastM e).2.1 = 1 then cntC n (stepCastM e).1 + 1 else 0
theorem castRule_code (e : MTm) : (castRuleM e).2.1 = 1 \/ (castRuleM e).2.1 = 2 \/ (castRuleM e).2.1 = 3 := by
 unfold castRuleM castCast
 (repeat' split) <;> simp
theorem stepC_code : ∀ (e : MTm), (stepC e).2.1 = 1 \/ (stepC e).2.1 = 2 \/ (stepC e).2.1 = 3 := by
 intro e
 induction e using MTm.ind with
 | h e ih =>
  rw [stepC_def, stepCS_first]
  cases hf : firstNV (e.kids.take (countsM e)) with
  | some i =>
   obtain ⟨u, h1, h2, h3, h4, _⟩ := firstNV_get hf
   simp only [h2]
   exact ih u h4
  | none =>
   simp only
   cases hr : ruleM e with
   | some x => exact .inl rfl
   | none => exact castRule_code e
theorem stepCast_zero {e : MTm} (h : (stepCastM e).2.1 = 0) : castValidM (stepCastM e).1 = true /\ valM (stepCastM e).1 = true /\ (stepCastM e).2.2 = 0 := by
 rw [stepCastM] at h ⊢
 split at h
 ·rename_i hv
  rw [if_pos hv]
  split at h
  ·rename_i hval; rw [if_pos hval]; exact ⟨hv, hval, rfl⟩
  ·rename_i hval
   have := stepC_code e
   split at h
   ·split at h <;> simp at h
   ·simp only at h; omega
 ·simp at h
theorem evalC_zero : ∀ (n : Nat) {e : MTm}, (evalC n e).2.1 = 0 -> castValidM (evalC n e).1 = true /\ valM (evalC n e).1 = true /\ (evalC n e).2.2 = 0
 | 0, e, h => stepCast_zero h
 | n + 1, e, h => by
  rw [evalC] at h ⊢
  by_cases h1 : (stepCastM e).2.1 = 1
  ·rw [if_pos h1] at h ⊢; exact evalC_zero n h
  ·rw [if_neg h1] at h ⊢; exact stepCast_zero h
theorem CT.closed {G : List UInt8 -> Option MTy} {e : MTm} {T : MTy} (h : CT G e T) : ∀ {d : Nat}, TmV 13 d e -> ∀ (bd : List UInt8), (∀ c : UInt8, G [c] ≠ none -> c ∈ bd) -> ∀ z, freeIn z bd e = false := by
 induction h with
 | @var G s t h =>
  intro d ht bd hb z
  cases ht with
  | var _ hs =>
   obtain ⟨c, rfl, _⟩ := nameM_one hs
   have := hb c (by rw [h]; simp)
   simp only [freeIn, freeInS]
   by_cases hz : c = z
   ·subst hz; simp [this]
   ·simp [hz]
 | num => intro d ht bd hb z; simp [freeIn, freeInS]
 | tru => intro d ht bd hb z; simp [freeIn, freeInS]
 | fls => intro d ht bd hb z; simp [freeIn, freeInS]
 | @lam G s t u b _ ih =>
  intro d ht bd hb z
  obtain ⟨d', _, hs, _, htb⟩ := ht.inv_lam
  obtain ⟨c, rfl, _⟩ := nameM_one hs
  have := ih htb (bd ++ [c]) (fun c' hc' => by
   by_cases e : c' = c
   ·simp [e]
   ·have e2 : ¬ ([c'] : List UInt8) = [c] := by simpa using e
    simp only [if_neg e2] at hc'
    simp [hb c' hc']) z
  simp [freeIn, freeInS, this]
 | app _ _ h1 h2 =>
  intro d ht bd hb z
  obtain ⟨d', _, _, hta, htb⟩ := ht.inv_n2
  simp [freeIn, freeInS, h1 hta bd hb z, h2 htb bd hb z]
 | op hk _ _ h1 h2 =>
  intro d ht bd hb z
  obtain ⟨d', _, _, hta, htb⟩ := ht.inv_n2
  have e1 : ∀ k : Int, k = 7 \/ k = 8 -> ¬ k = 1 /\ ¬ k = 5 := fun k h => by omega
  obtain ⟨q1, q2⟩ := e1 _ (hk.imp And.left And.left)
  simp [freeIn, freeInS, h1 hta bd hb z, h2 htb bd hb z, q1, q2]
 | ite _ _ _ h1 h2 h3 =>
  intro d ht bd hb z
  obtain ⟨d', _, hta, htb, htc⟩ := ht.inv_if
  simp [freeIn, freeInS, h1 hta bd hb z, h2 htb bd hb z, h3 htc bd hb z]
 | pair _ _ h1 h2 =>
  intro d ht bd hb z
  obtain ⟨d', _, _, hta, htb⟩ := ht.inv_n2
  simp [freeIn, freeInS, h1 hta bd hb z, h2 htb bd hb z]
 | sel hk _ h1 =>
  intro d ht bd hb z
  obtain ⟨d', _, _, hta⟩ := ht.inv_n1
  have e1 : ∀ k : Int, k = 11 \/ k = 12 -> ¬ k = 1 /\ ¬ k = 5 := fun k h => by omega
  obtain ⟨q1, q2⟩ := e1 _ (hk.imp And.left And.left)
  simp [freeIn, freeInS, h1 hta bd hb z, q1, q2]
 | cast _ h1 =>
  intro d ht bd hb z
  obtain ⟨d', _, _, _, _, _, hta⟩ := ht.inv_cast
  simp [freeIn, freeInS, h1 hta bd hb z]
theorem proxy_kids {d : Nat} {a : MTm} (h : TmV 13 d a) (hp : proxyM a = true) : ∃ u f t l, a = tCast u f t l /\ (t.kind = 4 -> ∃ x y p q, t = .mk 4 [x, y] /\ f = .mk 4 [p, q]) /\ (t.kind = 5 -> ∃ x y p q, t = .mk 5 [x, y] /\ f = .mk 5 [p, q]) := by
 simp only [proxyM, Bool.and_eq_true, decide_eq_true_eq] at hp
 cases h <;> simp at hp
 rename_i d' f t l u h0 h1 h2 h3 h4 h5
 refine ⟨u, f, t, l, rfl, fun h6 => ?_, fun h6 => ?_⟩
 ·obtain ⟨x, y, rfl⟩ := vty4 h2 h6
  obtain ⟨p, q, rfl⟩ := vty4 h1 (by rw [hp.1, h6])
  exact ⟨x, y, p, q, rfl, rfl⟩
 ·obtain ⟨x, y, rfl⟩ := vty5 h2 h6
  obtain ⟨p, q, rfl⟩ := vty5 h1 (by rw [hp.1, h6])
  exact ⟨x, y, p, q, rfl, rfl⟩
theorem inj_kids {d : Nat} {a : MTm} (h : TmV 13 d a) (hp : injM a = true) : ∃ u f t l, a = tCast u f t l := by
 simp only [injM, Bool.and_eq_true, decide_eq_true_eq] at hp
 cases h <;> simp at hp
 exact ⟨_, _, _, _, rfl⟩
end Go.Av
