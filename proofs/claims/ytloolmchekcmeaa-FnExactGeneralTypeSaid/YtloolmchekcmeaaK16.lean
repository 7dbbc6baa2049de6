/- A part of the library of this seat. -/
import Derived.Test.YtloolmchekcmeaaK15
set_option linter.unusedVariables false
set_option linter.unusedSimpArgs false
namespace Go.Av
attribute [-simp] Go.Av.astepJ Go.Av.relC Go.Av.relL Go.Av.relV Go.Av.relVs Go.Av.callJ
open Go

def lastUp (s : List UInt8) (c : UInt8) : Nat -> Int
 | 0 => -1
 | p + 1 => if s[p]? = some c then (p : Int) else lastUp s c p
def lastIx (s : List UInt8) (c : UInt8) : Int := lastUp s c s.length
theorem lastUp_bound (s : List UInt8) (c : UInt8) : ∀ p, -1 <= lastUp s c p /\ lastUp s c p < p
 | 0 => by simp [lastUp]
 | p + 1 => by
  have := lastUp_bound s c p
  simp only [lastUp]
  split <;> push_cast <;> omega
def lastOp (k : Int) : Int := if k = 6 then 6 else if k = 7 then 7 else if k = 8 then 8 else if k = 10 then 11 else if k = 11 then 12 else 13
def opNode (k : Int) (x n : Int) (cs : List (List MOp)) : List MOp :=
 if k = 1 then [⟨3, x⟩] else if k = 2 then [⟨1, n⟩] else if k = 3 then [⟨2, 1⟩] else if k = 4 then [⟨2, 0⟩]
 else if k = 5 then (match cs with | [b] => [⟨4, b.length + 1⟩] ++ b ++ [⟨5, 0⟩] | _ => [])
 else if k = 9 then (match cs with | [c, y, z] => c ++ [⟨9, y.length + 1⟩] ++ y ++ [⟨10, z.length⟩] ++ z | _ => [])
 else cs.flatten ++ [⟨lastOp k, 0⟩]
mutual
def compM (names : List UInt8) : MTm -> List MOp
 | .mk k s n _ _ _ l => opNode k (names.length - 1 - lastIx names (s.headD 0)) n (compS (if k = 5 then names ++ s else names) l)
def compS (names : List UInt8) : List MTm -> List (List MOp)
 | [] => []
 | e :: r => compM names e :: compS names r
end
inductive BaV : List UInt8 -> MTm -> Prop
 | var {ns : List UInt8} {c : UInt8} : c ∈ ns -> BaV ns (tVar [c])
 | num {ns : List UInt8} (n : Int) : BaV ns (tNum n)
 | tru {ns : List UInt8} : BaV ns tTrue
 | fls {ns : List UInt8} : BaV ns tFalse
 | lam {ns : List UInt8} {c : UInt8} {t : MTy} {b : MTm} : BaV (ns ++ [c]) b -> BaV ns (tLam [c] t b)
 | n2 {ns : List UInt8} {k : Int} {a b : MTm} : k = 6 \/ k = 7 \/ k = 8 \/ k = 10 -> BaV ns a -> BaV ns b -> BaV ns (tN2 k a b)
 | ite {ns : List UInt8} {a b c : MTm} : BaV ns a -> BaV ns b -> BaV ns c -> BaV ns (tIf a b c)
 | n1 {ns : List UInt8} {k : Int} {a : MTm} : k = 11 \/ k = 12 -> BaV ns a -> BaV ns (tN1 k a)
theorem BaV.of {nt : Int} {d : Nat} {e : MTm} (h : TmV nt d e) : ∀ ns, (∀ z, freeIn z ns e = false) -> BaV ns (mapM bareG e) := by
 induction h with
 | @var d s _ hs =>
  intro ns hf
  obtain ⟨c, rfl, _⟩ := nameM_one hs
  have := hf c
  simp [freeIn, freeInS] at this
  rw [show mapM bareG (tVar [c]) = tVar [c] by simp [mapM, mapS, bareG]]
  exact .var this
 | @num d n _ _ _ => intro ns hf; rw [show mapM bareG (tNum n) = tNum n by simp [mapM, mapS, bareG]]; exact .num n
 | tru _ => intro ns hf; rw [show mapM bareG tTrue = tTrue by simp [mapM, mapS, bareG]]; exact .tru
 | fls _ => intro ns hf; rw [show mapM bareG tFalse = tFalse by simp [mapM, mapS, bareG]]; exact .fls
 | @lam d s t b _ hs _ _ ih =>
  intro ns hf
  obtain ⟨c, rfl, _⟩ := nameM_one hs
  rw [show mapM bareG (tLam [c] t b) = tLam [c] anyT (mapM bareG b) by simp [mapM, mapS, bareG]]
  exact .lam (ih _ fun z => by have := hf z; simpa [freeIn, freeInS] using this)
 | @n2 d k a b _ hk _ _ iha ihb =>
  intro ns hf
  have h1 : ¬ (k = 13 \/ k = 14) := by omega
  have h2 : ¬ k = 5 := by omega
  have h3 : ¬ k = 1 := by omega
  rw [show mapM bareG (tN2 k a b) = tN2 k (mapM bareG a) (mapM bareG b) by simp [mapM, mapS, bareG, h1, h2]]
  have := fun z => hf z
  simp [freeIn, freeInS, h2, h3] at this
  exact .n2 hk (iha _ fun z => (this z).1) (ihb _ fun z => (this z).2)
 | @ite d a b c _ _ _ _ ihp iha ihb =>
  intro ns hf
  rw [show mapM bareG (tIf a b c) = tIf (mapM bareG a) (mapM bareG b) (mapM bareG c) by simp [mapM, mapS, bareG]]
  have := fun z => hf z
  simp [freeIn, freeInS] at this
  exact .ite (ihp _ fun z => (this z).1) (iha _ fun z => (this z).2.1) (ihb _ fun z => (this z).2.2)
 | @n1 d k a _ hk _ ih =>
  intro ns hf
  have h1 : ¬ (k = 13 \/ k = 14) := by omega
  have h2 : ¬ k = 5 := by omega
  have h3 : ¬ k = 1 := by omega
  rw [show mapM bareG (tN1 k a) = tN1 k (mapM bareG a) by simp [mapM, mapS, bareG, h1, h2]]
  have := fun z => hf z
  simp [freeIn, freeInS, h2, h3] at this
  exact .n1 hk (ih _ this)
 | asc _ _ _ ih =>
  intro ns hf
  have := fun z => hf z
  simp [freeIn, freeInS] at this
  have h := ih _ this
  simpa [mapM, mapS, bareG] using h
 | cast _ _ _ _ _ _ ih =>
  intro ns hf
  have := fun z => hf z
  simp [freeIn, freeInS] at this
  have h := ih _ this
  simpa [mapM, mapS, bareG] using h
structure BaHead (ns : List UInt8) (e : MTm) : Prop where
 var : e.kind = 1 -> ∃ c, e.name = [c] /\ c ∈ ns /\ e.kids = []
 lam : e.kind = 5 -> ∃ c b, e.name = [c] /\ e.kids = [b]
 ite : e.kind = 9 -> ∃ a b c, e.kids = [a, b, c]
 kind : 1 <= e.kind /\ e.kind <= 12
 leaf : e.kind <= 4 -> e.kids = []
 len : e.kids.length <= 3
 nlen : e.name.length <= 1
 kids : ∀ u ∈ e.kids, BaV (if e.kind = 5 then ns ++ e.name else ns) u
theorem BaV.head {ns : List UInt8} {e : MTm} (h : BaV ns e) : BaHead ns e := by
 cases h with
 | @var _ c hc => exact ⟨fun _ => ⟨c, rfl, hc, rfl⟩, by simp, by simp, by simp, fun _ => rfl, by simp, by simp, by simp⟩
 | num n => exact ⟨by simp, by simp, by simp, by simp, fun _ => rfl, by simp, by simp, by simp⟩
 | tru => exact ⟨by simp, by simp, by simp, by simp, fun _ => rfl, by simp, by simp, by simp⟩
 | fls => exact ⟨by simp, by simp, by simp, by simp, fun _ => rfl, by simp, by simp, by simp⟩
 | @lam _ c t b h => exact ⟨by simp, fun _ => ⟨c, b, rfl, rfl⟩, by simp, by simp, by simp, by simp, by simp, by simpa using h⟩
 | @n2 _ k a b hk ha hb => exact ⟨by simp; omega, by simp; omega, by simp; omega, by simp; omega, by simp; omega, by simp, by simp, by simp [show ¬ k = 5 by omega, ha, hb]⟩
 | @ite _ a b c ha hb hc => exact ⟨by simp, by simp, fun _ => ⟨a, b, c, rfl⟩, by simp, by simp, by simp, by simp, by simp [ha, hb, hc]⟩
 | @n1 _ k a hk ha => exact ⟨by simp; omega, by simp; omega, by simp; omega, by simp; omega, by simp; omega, by simp, by simp, by simp [show ¬ k = 5 by omega, ha]⟩

def compileM (e : MTm) : Option (List MOp) := if termValidM e = true /\ namesM e = [] then (if opsValidM (compM [] (mapM bareG e)) = true then some (compM [] (mapM bareG e)) else none) else none
def ops0 (o : Option (List MOp)) : List MOp := o.getD []
mutual
theorem free_erase (z : UInt8) : ∀ (e : MTm) (bd : List UInt8), freeIn z bd (mapM eraseG e) = freeIn z bd e
 | .mk k s n t f b l, bd => by
  rw [mapM, eraseG]
  split <;> (simp only [freeIn, MTm.kind_mk, MTm.name_mk, MTm.kids_mk, free_eraseS z l]; try rfl)
theorem free_eraseS (z : UInt8) : ∀ (l : List MTm) (bd : List UInt8), freeInS z bd (mapS eraseG l) = freeInS z bd l
 | [], bd => rfl
 | e :: r, bd => by rw [mapS, freeInS, freeInS, free_erase z e, free_eraseS z r]
end
mutual
def sfree (bd : List UInt8) : MTm -> List UInt8 -> List UInt8
 | .mk k s _ _ _ _ l, out => sfreeS (if k = 5 then addM (s.headD 0) bd else bd) l (if k = 1 /\ ¬ s.headD 0 ∈ bd then addM (s.headD 0) out else out)
def sfreeS (bd : List UInt8) : List MTm -> List UInt8 -> List UInt8
 | [], out => out
 | e :: r, out => sfreeS bd r (sfree bd e out)
end
mutual
theorem sfree_len : ∀ (e : MTm) (bd out : List UInt8), (sfree bd e out).length <= out.length + nodesM e
 | .mk k s n t f b l, bd, out => by
  rw [sfree, nodesM]
  have h1 := sfree_lenS l (if k = 5 then addM (s.headD 0) bd else bd) (if k = 1 /\ ¬ s.headD 0 ∈ bd then addM (s.headD 0) out else out)
  have h2 : (if k = 1 /\ ¬ s.headD 0 ∈ bd then addM (s.headD 0) out else out).length <= out.length + 1 := by
   split
   ·exact addM_len _ _
   ·omega
  omega
theorem sfree_lenS : ∀ (l : List MTm) (bd out : List UInt8), (sfreeS bd l out).length <= out.length + nodesS l
 | [], bd, out => by simp [sfreeS]
 | e :: r, bd, out => by
  rw [sfreeS, nodesS]
  have h1 := sfree_len e bd out
  have h2 := sfree_lenS r bd (sfree bd e out)
  omega
end
theorem TmV.len3 {nt : Int} {d : Nat} {e : MTm} (h : TmV nt d e) : e.kids.length <= 3 := by
 cases h <;> simp
theorem TmV.one {nt : Int} {d : Nat} {e : MTm} (h : TmV nt d e) (hk : e.kind = 1 \/ e.kind = 5) : ∃ c, e.name = [c] := by
 cases h with
 | @var _ s _ hs => obtain ⟨c, rfl, _⟩ := nameM_one hs; exact ⟨c, rfl⟩
 | @lam _ s t b _ hs _ _ => obtain ⟨c, rfl, _⟩ := nameM_one hs; exact ⟨c, rfl⟩
 | num _ _ _ => simp at hk
 | tru _ => simp at hk
 | fls _ => simp at hk
 | n2 _ hk' _ _ => simp at hk; omega
 | ite _ _ _ _ => simp at hk
 | n1 _ hk' _ => simp at hk; omega
 | asc _ _ _ => simp at hk
 | cast _ _ _ _ _ _ => simp at hk
end Go.Av

namespace Go.Av
attribute [-simp] Go.Av.astepJ Go.Av.relC Go.Av.relL Go.Av.relV Go.Av.relVs Go.Av.callJ
open Go

inductive IT where
 | v (n : Nat)
 | b (k : Int)
 | p (k : Int) (x y : IT)
deriving DecidableEq

def bd (B : List IT) (n : Nat) : Option IT := match B[n]? with
 | some t => if t = .v n then none else some t
 | none => none
def ex (B : List IT) : Nat -> IT -> Bool
 | 0, _ => false
 | k + 1, .v n => match bd B n with
  | none => true
  | some t => ex B k t
 | _ + 1, .b _ => true
 | k + 1, .p _ x y => ex B k x && ex B k y
def hd (B : List IT) : Nat -> IT -> IT
 | k + 1, .v n => match bd B n with
  | none => .v n
  | some t => hd B k t
 | _, t => t
def occ (B : List IT) (n : Nat) : Nat -> IT -> Bool
 | k + 1, .v m => match bd B m with
  | none => decide (m = n)
  | some t => occ B n k t
 | k + 1, .p _ x y => occ B n k x || occ B n k y
 | _, _ => false
def uni : Nat -> List IT -> IT -> IT -> Option (List IT × Bool)
 | 0, _, _, _ => none
 | k + 1, B, a, b => if ex B k a && ex B k b then
   match hd B k a, hd B k b with
   | .v n, b' => if b' = .v n then some (B, true) else if occ B n k b' then some (B, false) else some (B.set n b', true)
   | a', .v n => if occ B n k a' then some (B, false) else some (B.set n a', true)
   | .b i, .b j => some (B, decide (i = j))
   | .p i x y, .p j x' y' => if i = j then (match uni k B x x' with
     | some (B1, true) => uni k B1 y y'
     | r => r) else some (B, false)
   | _, _ => some (B, false)
  else none

section
variable {B : List IT}
theorem ex_succ : ∀ {k : Nat} {t : IT}, ex B k t = true -> ex B (k + 1) t = true
 | 0, t, h => by simp [ex] at h
 | k + 1, .v n, h => by
  simp only [ex] at h ⊢
  split <;> rename_i hb
  ·rfl
  ·rw [hb] at h; exact ex_succ h
 | k + 1, .b _, _ => by simp [ex]
 | k + 1, .p _ x y, h => by
  rw [ex, Bool.and_eq_true] at h
  rw [ex, Bool.and_eq_true]
  exact ⟨ex_succ h.1, ex_succ h.2⟩
theorem ex_le {k j : Nat} {t : IT} (hk : k <= j) (h : ex B k t = true) : ex B j t = true := by
 induction hk with
 | refl => exact h
 | step _ ih => exact ex_succ ih
def isHd (B : List IT) (t : IT) : Prop := ∀ n, t = .v n -> bd B n = none
theorem hd_isHd : ∀ {k : Nat} {t : IT}, ex B k t = true -> isHd B (hd B k t)
 | 0, t, h => by simp [ex] at h
 | k + 1, .v n, h => by
  simp only [ex] at h
  simp only [hd]
  split <;> rename_i hb
  ·intro m e; cases e; exact hb
  ·rw [hb] at h; exact hd_isHd h
 | k + 1, .b _, _ => by intro n e; simp [hd] at e
 | k + 1, .p _ x y, _ => by intro n e; simp [hd] at e
theorem hd_of_isHd {t : IT} (h : isHd B t) : ∀ k, hd B k t = t
 | 0 => by cases t <;> rfl
 | k + 1 => by
  cases t with
  | v n => simp only [hd, h n rfl]
  | b _ => rfl
  | p _ _ _ => rfl
theorem hd_ex : ∀ {k : Nat} {t : IT}, ex B k t = true -> ex B k (hd B k t) = true
 | 0, t, h => by simp [ex] at h
 | k + 1, .v n, h => by
  have h' := h
  simp only [ex] at h
  simp only [hd]
  split <;> rename_i hb
  ·exact h'
  ·rw [hb] at h; exact ex_succ (hd_ex h)
 | k + 1, .b _, h => h
 | k + 1, .p _ x y, h => h
theorem hd_stable : ∀ {k j : Nat} {t : IT}, ex B k t = true -> k <= j -> hd B j t = hd B k t
 | 0, j, t, h, _ => by simp [ex] at h
 | k + 1, j + 1, .v n, h, hj => by
  simp only [ex] at h
  simp only [hd]
  split <;> rename_i hb
  ·rfl
  ·rw [hb] at h; exact hd_stable h (by omega)
 | k + 1, j + 1, .b _, _, _ => rfl
 | k + 1, j + 1, .p _ _ _, _, _ => rfl
theorem occ_stable {n : Nat} : ∀ {k j : Nat} {t : IT}, ex B k t = true -> k <= j -> occ B n j t = occ B n k t
 | 0, j, t, h, _ => by simp [ex] at h
 | k + 1, j + 1, .v m, h, hj => by
  simp only [ex] at h
  simp only [occ]
  split <;> rename_i hb
  ·rfl
  ·rw [hb] at h; exact occ_stable h (by omega)
 | k + 1, j + 1, .b _, _, _ => rfl
 | k + 1, j + 1, .p _ x y, h, hj => by
  rw [ex, Bool.and_eq_true] at h
  simp only [occ, occ_stable h.1 (show k <= j by omega), occ_stable h.2 (show k <= j by omega)]
theorem occ_hd {n : Nat} : ∀ {k : Nat} {t : IT}, ex B k t = true -> occ B n k (hd B k t) = occ B n k t
 | 0, t, h => by simp [ex] at h
 | k + 1, .v m, h => by
  have h' := h
  simp only [ex] at h
  simp only [hd]
  cases hb : bd B m with
  | none => simp
  | some t =>
   rw [hb] at h
   simp only at h ⊢
   rw [occ_stable (hd_ex h) (Nat.le_succ k), occ_hd h]
   simp only [occ, hb]
 | k + 1, .b _, h => rfl
 | k + 1, .p _ x y, h => rfl
theorem hd_kids : ∀ {k : Nat} {t : IT} {c : Int} {x y : IT}, ex B k t = true -> hd B k t = .p c x y -> ∃ j, j < k /\ ex B j x = true /\ ex B j y = true
 | 0, t, _, _, _, h, _ => by simp [ex] at h
 | k + 1, .v n, c, x, y, h, e => by
  simp only [ex] at h
  simp only [hd] at e
  cases hb : bd B n with
  | none => rw [hb] at e; cases e
  | some t =>
   rw [hb] at h e
   obtain ⟨j, h1, h2⟩ := hd_kids h e
   exact ⟨j, by omega, h2⟩
 | k + 1, .b _, _, _, _, h, e => by simp [hd] at e
 | k + 1, .p _ x y, _, _, _, h, e => by
  simp only [hd] at e
  cases e
  rw [ex, Bool.and_eq_true] at h
  exact ⟨k, by omega, h⟩
end

theorem uni_succ : ∀ {k : Nat} {B : List IT} {a b : IT} {r : List IT × Bool}, uni k B a b = some r -> uni (k + 1) B a b = some r
 | 0, B, a, b, r, h => by simp [uni] at h
 | k + 1, B, a, b, r, h => by
  have ih := fun {B a b r} => uni_succ (k := k) (B := B) (a := a) (b := b) (r := r)
  rw [uni] at h ⊢
  split at h
  ·rename_i hx
   rw [Bool.and_eq_true] at hx
   have ha := hd_stable hx.1 (Nat.le_succ k)
   have hb := hd_stable hx.2 (Nat.le_succ k)
   have oa := fun n => (occ_stable (n := n) (hd_ex hx.1) (Nat.le_succ k))
   have ob := fun n => (occ_stable (n := n) (hd_ex hx.2) (Nat.le_succ k))
   rw [if_pos (by rw [Bool.and_eq_true]; exact ⟨ex_succ hx.1, ex_succ hx.2⟩), ha, hb]
   generalize hd B k a = a' at *
   generalize hd B k b = b' at *
   match a', b', h with
   | .v n, b', h => simp only [ob] at h ⊢; exact h
   | .b _, .v n, h => simp only [oa] at h ⊢; exact h
   | .p _ _ _, .v n, h => simp only [oa] at h ⊢; exact h
   | .b _, .b _, h => exact h
   | .b _, .p _ _ _, h => exact h
   | .p _ _ _, .b _, h => exact h
   | .p i x y, .p j x' y', h =>
    simp only at h ⊢
    split at h
    ·rename_i hij
     rw [if_pos hij]
     cases hu : uni k B x x' with
     | none => rw [hu] at h; simp at h
     | some q =>
      obtain ⟨B1, q⟩ := q
      rw [ih hu]
      rw [hu] at h
      cases q
      ·exact h
      ·exact ih h
    ·rename_i hij
     rw [if_neg hij]; exact h
  ·simp at h
theorem uni_le {k j : Nat} {B : List IT} {a b : IT} {r : List IT × Bool} (hk : k <= j) (h : uni k B a b = some r) : uni j B a b = some r := by
 induction hk with
 | refl => exact h
 | step _ ih => exact uni_succ ih

def sc (N : Nat) : IT -> Bool
 | .v n => decide (n < N)
 | .b _ => true
 | .p _ x y => sc N x && sc N y
def ScB (B : List IT) : Prop := ∀ t ∈ B, sc B.length t = true
theorem sc_le {N M : Nat} (h : N <= M) : ∀ {t : IT}, sc N t = true -> sc M t = true
 | .v n, ht => by simp [sc] at ht ⊢; omega
 | .b _, _ => rfl
 | .p _ x y, ht => by
  rw [sc, Bool.and_eq_true] at ht ⊢
  exact ⟨sc_le h ht.1, sc_le h ht.2⟩
theorem bd_some {B : List IT} {n : Nat} {t : IT} (h : bd B n = some t) : B[n]? = some t /\ t ≠ .v n := by
 simp only [bd] at h
 split at h
 ·rename_i u hu
  split at h
  ·simp at h
  ·rename_i hn; simp at h; subst h; exact ⟨hu, hn⟩
 ·simp at h
theorem bd_none {B : List IT} {n : Nat} (hn : n < B.length) (h : bd B n = none) : B[n]? = some (.v n) := by
 simp only [bd, List.getElem?_eq_getElem hn] at h ⊢
 split at h
 ·rename_i e; rw [e]
 ·simp at h
theorem bd_sc {B : List IT} {n : Nat} {t : IT} (hB : ScB B) (h : bd B n = some t) : sc B.length t = true := hB t (List.mem_of_getElem? (bd_some h).1)
theorem hd_sc {B : List IT} (hB : ScB B) : ∀ {k : Nat} {t : IT}, sc B.length t = true -> sc B.length (hd B k t) = true
 | 0, t, h => by cases t <;> exact h
 | k + 1, .v n, h => by
  simp only [hd]
  split <;> rename_i hb
  ·exact h
  ·exact hd_sc hB (bd_sc hB hb)
 | k + 1, .b _, h => h
 | k + 1, .p _ x y, h => h
theorem bd_set {B : List IT} {n m : Nat} {t : IT} (hn : n < B.length) (ht : t ≠ .v n) : bd (B.set n t) m = if m = n then some t else bd B m := by
 simp only [bd]
 by_cases h : m = n
 ·subst h; simp [hn, ht]
 ·rw [List.getElem?_set_ne (by omega), if_neg h]
theorem ScB.set {B : List IT} (h : ScB B) {n : Nat} {t : IT} (ht : sc B.length t = true) : ScB (B.set n t) := by
 intro u hu
 rw [List.length_set]
 rcases List.mem_or_eq_of_mem_set hu with h1 | rfl
 ·exact h u h1
 ·exact ht
theorem uni_sc : ∀ {k : Nat} {B B' : List IT} {a b : IT} {q : Bool}, ScB B -> sc B.length a = true -> sc B.length b = true -> uni k B a b = some (B', q) -> ScB B' /\ B'.length = B.length
 | 0, B, B', a, b, q, _, _, _, h => by simp [uni] at h
 | k + 1, B, B', a, b, q, hB, ha, hb, h => by
  rw [uni] at h
  split at h
  ·have ha' := hd_sc hB (k := k) ha
   have hb' := hd_sc hB (k := k) hb
   generalize hd B k a = a' at *
   generalize hd B k b = b' at *
   match a', b', h with
   | .v n, b', h =>
    simp only at h
    split at h
    ·simp at h; obtain ⟨rfl, _⟩ := h; exact ⟨hB, rfl⟩
    ·split at h
     ·simp at h; obtain ⟨rfl, _⟩ := h; exact ⟨hB, rfl⟩
     ·simp at h; obtain ⟨rfl, _⟩ := h; exact ⟨hB.set hb', by simp⟩
   | .b _, .v n, h =>
    simp only at h
    split at h
    ·simp at h; obtain ⟨rfl, _⟩ := h; exact ⟨hB, rfl⟩
    ·simp at h; obtain ⟨rfl, _⟩ := h; exact ⟨hB.set ha', by simp⟩
   | .p _ _ _, .v n, h =>
    simp only at h
    split at h
    ·simp at h; obtain ⟨rfl, _⟩ := h; exact ⟨hB, rfl⟩
    ·simp at h; obtain ⟨rfl, _⟩ := h; exact ⟨hB.set ha', by simp⟩
   | .b _, .b _, h => simp at h; obtain ⟨rfl, _⟩ := h; exact ⟨hB, rfl⟩
   | .b _, .p _ _ _, h => simp at h; obtain ⟨rfl, _⟩ := h; exact ⟨hB, rfl⟩
   | .p _ _ _, .b _, h => simp at h; obtain ⟨rfl, _⟩ := h; exact ⟨hB, rfl⟩
   | .p i x y, .p j x' y', h =>
    rw [sc, Bool.and_eq_true] at ha' hb'
    simp only at h
    split at h
    ·cases hu : uni k B x x' with
     | none => rw [hu] at h; simp at h
     | some r =>
      obtain ⟨B1, q1⟩ := r
      rw [hu] at h
      obtain ⟨h1, h2⟩ := uni_sc hB ha'.1 hb'.1 hu
      cases q1
      ·simp at h; obtain ⟨rfl, _⟩ := h; exact ⟨h1, h2⟩
      ·obtain ⟨h3, h4⟩ := uni_sc h1 (by rw [h2]; exact ha'.2) (by rw [h2]; exact hb'.2) h
       exact ⟨h3, h4.trans h2⟩
    ·simp at h; obtain ⟨rfl, _⟩ := h; exact ⟨hB, rfl⟩
  ·simp at h
theorem uni_refl : ∀ {k : Nat} {B B' : List IT} {a : IT} {q : Bool}, uni k B a a = some (B', q) -> B' = B /\ q = true
 | 0, B, B', a, q, h => by simp [uni] at h
 | k + 1, B, B', a, q, h => by
  rw [uni] at h
  split at h
  ·generalize hd B k a = a' at h
   match a', h with
   | .v n, h => simp at h; exact ⟨h.1.symm, h.2⟩
   | .b _, h => simp at h; exact ⟨h.1.symm, h.2⟩
   | .p i x y, h =>
    simp only [if_true] at h
    cases hu : uni k B x x with
    | none => rw [hu] at h; simp at h
    | some r =>
     obtain ⟨B1, q1⟩ := r
     obtain ⟨rfl, rfl⟩ := uni_refl hu
     rw [hu] at h
     exact uni_refl h
  ·simp at h

def nfree (B : List IT) : Nat := (List.range B.length).countP fun n => (bd B n).isNone
def Acy (B : List IT) : Prop := ∀ n, n < B.length -> ∃ k, ex B k (.v n) = true
theorem Acy.all {B : List IT} (h : Acy B) : ∀ {t : IT}, sc B.length t = true -> ∃ k, ex B k t = true
 | .v n, ht => h n (by simpa [sc] using ht)
 | .b _, _ => ⟨1, rfl⟩
 | .p c x y, ht => by
  rw [sc, Bool.and_eq_true] at ht
  obtain ⟨k1, h1⟩ := h.all ht.1
  obtain ⟨k2, h2⟩ := h.all ht.2
  exact ⟨max k1 k2 + 1, by rw [ex, Bool.and_eq_true]; exact ⟨ex_le (Nat.le_max_left _ _) h1, ex_le (Nat.le_max_right _ _) h2⟩⟩
theorem ex_set_no {B : List IT} {n : Nat} {t : IT} (hn : n < B.length) (ht : t ≠ .v n) (hf : bd B n = none) : ∀ {k : Nat} {u : IT}, ex B k u = true -> occ B n k u = false -> ex (B.set n t) k u = true
 | 0, u, h, _ => by simp [ex] at h
 | k + 1, .v m, h, ho => by
  simp only [ex, occ] at h ho ⊢
  rw [bd_set hn ht]
  by_cases hm : m = n
  ·subst hm; rw [hf] at ho; simp at ho
  ·rw [if_neg hm]
   cases hb : bd B m with
   | none => rfl
   | some w => rw [hb] at h ho; exact ex_set_no hn ht hf h ho
 | k + 1, .b _, _, _ => rfl
 | k + 1, .p _ x y, h, ho => by
  rw [ex, Bool.and_eq_true] at h
  rw [occ, Bool.or_eq_false_iff] at ho
  rw [ex, Bool.and_eq_true]
  exact ⟨ex_set_no hn ht hf h.1 ho.1, ex_set_no hn ht hf h.2 ho.2⟩
theorem ex_set {B : List IT} {n j : Nat} {t : IT} (hn : n < B.length) (ht : t ≠ .v n) (hj : ex (B.set n t) j t = true) : ∀ {k : Nat} {u : IT}, ex B k u = true -> ex (B.set n t) (k + j) u = true
 | 0, u, h => by simp [ex] at h
 | k + 1, .v m, h => by
  rw [Nat.add_right_comm]
  simp only [ex] at h ⊢
  rw [bd_set hn ht]
  by_cases hm : m = n
  ·subst hm; rw [if_pos rfl]; exact ex_le (by omega) hj
  ·rw [if_neg hm]
   cases hb : bd B m with
   | none => rfl
   | some w => rw [hb] at h; exact ex_set hn ht hj h
 | k + 1, .b _, _ => by rw [Nat.add_right_comm]; rfl
 | k + 1, .p _ x y, h => by
  rw [ex, Bool.and_eq_true] at h
  rw [Nat.add_right_comm, ex, Bool.and_eq_true]
  exact ⟨ex_set hn ht hj h.1, ex_set hn ht hj h.2⟩
theorem Acy.set {B : List IT} (h : Acy B) {n k : Nat} {t : IT} (hn : n < B.length) (ht : t ≠ .v n) (hf : bd B n = none) (hx : ex B k t = true) (ho : occ B n k t = false) : Acy (B.set n t) := by
 have hj := ex_set_no hn ht hf hx ho
 intro m hm
 rw [List.length_set] at hm
 obtain ⟨i, hi⟩ := h m hm
 exact ⟨i + k, ex_set hn ht hj hi⟩
theorem nfree_set {B : List IT} {n : Nat} {t : IT} (hn : n < B.length) (ht : t ≠ .v n) (hf : bd B n = none) : nfree (B.set n t) < nfree B := by
 simp only [nfree, List.length_set]
 have key : ∀ l : List Nat, (l.countP fun m => (bd (B.set n t) m).isNone) <= l.countP fun m => (bd B m).isNone := fun l => by
  apply List.countP_mono_left
  intro m _ hm
  rw [bd_set hn ht] at hm
  split at hm
  ·simp at hm
  ·exact hm
 obtain ⟨l1, l2, hl⟩ := List.append_of_mem (List.mem_range.2 hn)
 rw [hl, List.countP_append, List.countP_append, List.countP_cons, List.countP_cons]
 have h1 := key l1
 have h2 := key l2
 rw [bd_set hn ht, if_pos rfl, hf]
 simp
 omega
theorem uni_total : ∀ (u k : Nat) (B : List IT) (a b : IT), nfree B <= u -> ScB B -> Acy B -> sc B.length a = true -> sc B.length b = true -> ex B k a = true -> ∃ j B' q, uni j B a b = some (B', q) /\ Acy B' /\ (B' = B \/ nfree B' < nfree B) := by
 intro u
 induction u using Nat.strongRecOn with
 | _ u ihu =>
  intro k
  induction k using Nat.strongRecOn with
  | _ k ihk =>
   intro B a b hu hB hA ha hb hxa
   obtain ⟨kb, hxb⟩ := hA.all hb
   have hxa' : ex B (max k kb) a = true := ex_le (Nat.le_max_left _ _) hxa
   have hxb' : ex B (max k kb) b = true := ex_le (Nat.le_max_right _ _) hxb
   have hha := hd_isHd hxa'
   have hhb := hd_isHd hxb'
   have hea := hd_ex hxa'
   have heb := hd_ex hxb'
   have hsa := hd_sc hB (k := max k kb) ha
   have hsb := hd_sc hB (k := max k kb) hb
   have hka := fun {c x y} (e : hd B (max k kb) a = .p c x y) => hd_kids hxa (by rw [<- hd_stable hxa (Nat.le_max_left k kb)]; exact e)
   have hif : (ex B (max k kb) a && ex B (max k kb) b) = true := by rw [hxa', hxb']; rfl
   have hu1 : ∀ {r}, uni (max k kb + 1) B a b = r -> ∀ j, max k kb + 1 <= j -> r.isSome = true -> uni j B a b = r := fun {r} e j hj hs => by
    cases r with
    | none => simp at hs
    | some r => exact uni_le hj e
   match ha' : hd B (max k kb) a, hb' : hd B (max k kb) b with
   | .v n, b' =>
    rw [ha'] at hha hsa
    rw [hb'] at heb hsb
    by_cases e : b' = .v n
    ·exact ⟨max k kb + 1, B, true, by rw [uni, if_pos hif, ha', hb']; simp [e], hA, .inl rfl⟩
    ·by_cases o : occ B n (max k kb) b' = true
     ·exact ⟨max k kb + 1, B, false, by rw [uni, if_pos hif, ha', hb']; simp [e, o], hA, .inl rfl⟩
     ·have hn : n < B.length := by simpa [sc] using hsa
      have o' : occ B n (max k kb) b' = false := by simpa using o
      exact ⟨max k kb + 1, B.set n b', true, by rw [uni, if_pos hif, ha', hb']; simp [e, o'], hA.set hn e (hha n rfl) heb o', .inr (nfree_set hn e (hha n rfl))⟩
   | .b i, .v n =>
    rw [hb'] at hhb hsb
    rw [ha'] at hea
    have hn : n < B.length := by simpa [sc] using hsb
    have o' : occ B n (max k kb) (.b i) = false := by cases max k kb <;> rfl
    exact ⟨max k kb + 1, B.set n (.b i), true, by rw [uni, if_pos hif, ha', hb']; simp [o'], hA.set hn (by simp) (hhb n rfl) hea o', .inr (nfree_set hn (by simp) (hhb n rfl))⟩
   | .p c x y, .v n =>
    rw [hb'] at hhb hsb
    rw [ha'] at hea
    have hn : n < B.length := by simpa [sc] using hsb
    by_cases o : occ B n (max k kb) (.p c x y) = true
    ·exact ⟨max k kb + 1, B, false, by rw [uni, if_pos hif, ha', hb']; simp [o], hA, .inl rfl⟩
    ·have o' : occ B n (max k kb) (.p c x y) = false := by simpa using o
     exact ⟨max k kb + 1, B.set n (.p c x y), true, by rw [uni, if_pos hif, ha', hb']; simp [o'], hA.set hn (by simp) (hhb n rfl) hea o', .inr (nfree_set hn (by simp) (hhb n rfl))⟩
   | .b i, .b j => exact ⟨max k kb + 1, B, _, by rw [uni, if_pos hif, ha', hb'], hA, .inl rfl⟩
   | .b i, .p _ _ _ => exact ⟨max k kb + 1, B, false, by rw [uni, if_pos hif, ha', hb'], hA, .inl rfl⟩
   | .p _ _ _, .b i => exact ⟨max k kb + 1, B, false, by rw [uni, if_pos hif, ha', hb'], hA, .inl rfl⟩
   | .p c x y, .p c' x' y' =>
    rw [ha'] at hsa
    rw [hb'] at hsb
    rw [sc, Bool.and_eq_true] at hsa hsb
    by_cases e : c = c'
    rotate_left
    ·exact ⟨max k kb + 1, B, false, by rw [uni, if_pos hif, ha', hb']; simp [e], hA, .inl rfl⟩
    subst e
    obtain ⟨m, hm, hx, hy⟩ := hka ha'
    obtain ⟨j1, B1, q1, h1, hA1, hd1⟩ := ihk m hm B x x' hu hB hA hsa.1 hsb.1 hx
    obtain ⟨hB1, hl1⟩ := uni_sc hB hsa.1 hsb.1 h1
    have hw : ∀ j, max k kb <= j -> uni (j + 1) B a b = (match uni j B x x' with
      | some (B1, true) => uni j B1 y y'
      | r => r) := fun j hj => by
     rw [uni, if_pos (by rw [ex_le hj hxa', ex_le hj hxb']; rfl), hd_stable hxa' hj, hd_stable hxb' hj, ha', hb']
     simp
    cases q1 with
    | false => exact ⟨max (max k kb) j1 + 1, B1, false, by rw [hw _ (Nat.le_max_left _ _), uni_le (Nat.le_max_right _ _) h1], hA1, hd1⟩
    | true =>
     have h2 : ∃ j2 B2 q2, uni j2 B1 y y' = some (B2, q2) /\ Acy B2 /\ (B2 = B1 \/ nfree B2 < nfree B1) := by
      rcases hd1 with rfl | hlt
      ·exact ihk m hm B1 y y' hu hB1 hA1 hsa.2 hsb.2 hy
      ·obtain ⟨ky, hky⟩ := hA1.all (t := y) (by rw [hl1]; exact hsa.2)
       exact ihu (nfree B1) (by omega) ky B1 y y' (Nat.le_refl _) hB1 hA1 (by rw [hl1]; exact hsa.2) (by rw [hl1]; exact hsb.2) hky
     obtain ⟨j2, B2, q2, h2, hA2, hd2⟩ := h2
     refine ⟨max (max k kb) (max j1 j2) + 1, B2, q2, ?_, hA2, ?_⟩
     ·rw [hw _ (Nat.le_max_left _ _), uni_le (show j1 <= _ by omega) h1]
      exact uni_le (by omega) h2
     ·rcases hd1 with rfl | h3 <;> rcases hd2 with rfl | h4
      ·exact .inl rfl
      ·exact .inr h4
      ·exact .inr h3
      ·exact .inr (by omega)

section
variable {G : Type} (mk : Int -> Option (G × G) -> G)
def rd_ (θ : Nat -> G) : IT -> G
 | .v n => θ n
 | .b k => mk k none
 | .p k x y => mk k (some (rd_ θ x, rd_ θ y))
def Sat (θ : Nat -> G) (B : List IT) : Prop := ∀ n t, bd B n = some t -> θ n = rd_ mk θ t
variable {mk}
theorem rd_hd {θ : Nat -> G} {B : List IT} (h : Sat mk θ B) : ∀ {k : Nat} {t : IT}, rd_ mk θ (hd B k t) = rd_ mk θ t
 | 0, t => by cases t <;> rfl
 | k + 1, .v n => by
  simp only [hd]
  split <;> rename_i hb
  ·rfl
  ·rw [rd_hd h, <- h n _ hb]; rfl
 | k + 1, .b _ => rfl
 | k + 1, .p _ _ _ => rfl
theorem sat_set {θ : Nat -> G} {B : List IT} {n : Nat} {t : IT} (hn : n < B.length) (ht : t ≠ .v n) (hf : bd B n = none) : Sat mk θ (B.set n t) ↔ Sat mk θ B /\ θ n = rd_ mk θ t := by
 constructor
 ·intro h
  refine ⟨fun m u hm => h m u ?_, h n t (by rw [bd_set hn ht, if_pos rfl])⟩
  rw [bd_set hn ht, if_neg (fun e => by subst e; rw [hf] at hm; cases hm)]; exact hm
 ·rintro ⟨h1, h2⟩ m u hm
  rw [bd_set hn ht] at hm
  split at hm
  ·rename_i e; subst e; cases hm; exact h2
  ·exact h1 m u hm
structure GOk (mk : Int -> Option (G × G) -> G) : Prop where
 inj : ∀ k k' o o', mk k o = mk k' o' -> k = k' /\ o = o'
 size : ∃ sz : G -> Nat, ∀ k x y, sz x < sz (mk k (some (x, y))) /\ sz y < sz (mk k (some (x, y)))
theorem occ_size {θ : Nat -> G} {B : List IT} {n : Nat} {sz : G -> Nat} (hsz : ∀ k x y, sz x < sz (mk k (some (x, y))) /\ sz y < sz (mk k (some (x, y)))) (hs : Sat mk θ B) : ∀ {k : Nat} {t : IT}, occ B n k t = true -> sz (θ n) <= sz (rd_ mk θ t) /\ ((∀ m, t ≠ .v m) -> sz (θ n) < sz (rd_ mk θ t))
 | 0, t, h => by cases t <;> simp [occ] at h
 | k + 1, .v m, h => by
  simp only [occ] at h
  cases hb : bd B m with
  | none => rw [hb] at h; simp at h; subst h; exact ⟨Nat.le_refl _, fun q => absurd rfl (q m)⟩
  | some t =>
   rw [hb] at h
   have := (occ_size hsz hs h).1
   exact ⟨by rw [show rd_ mk θ (.v m) = rd_ mk θ t from hs m t hb]; exact this, fun q => absurd rfl (q m)⟩
 | k + 1, .b _, h => by simp [occ] at h
 | k + 1, .p c x y, h => by
  rw [occ, Bool.or_eq_true] at h
  have hk := hsz c (rd_ mk θ x) (rd_ mk θ y)
  have : sz (θ n) < sz (rd_ mk θ (.p c x y)) := by
   rcases h with h | h
   ·have := (occ_size hsz hs h).1; simp only [rd_]; omega
   ·have := (occ_size hsz hs h).1; simp only [rd_]; omega
  exact ⟨by omega, fun _ => this⟩
theorem uni_sat (hG : GOk mk) {θ : Nat -> G} : ∀ {k : Nat} {B B' : List IT} {a b : IT} {q : Bool}, ScB B -> sc B.length a = true -> sc B.length b = true -> uni k B a b = some (B', q) ->
  (q = true -> (Sat mk θ B' ↔ Sat mk θ B /\ rd_ mk θ a = rd_ mk θ b)) /\ (q = false -> ¬ (Sat mk θ B /\ rd_ mk θ a = rd_ mk θ b))
 | 0, B, B', a, b, q, _, _, _, h => by simp [uni] at h
 | k + 1, B, B', a, b, q, hB, ha, hb, h => by
  obtain ⟨sz, hsz⟩ := hG.size
  rw [uni] at h
  split at h
  ·rename_i hx
   rw [Bool.and_eq_true] at hx
   have hha := hd_isHd hx.1
   have hhb := hd_isHd hx.2
   have hsa := hd_sc hB (k := k) ha
   have hsb := hd_sc hB (k := k) hb
   have hra : Sat mk θ B -> rd_ mk θ (hd B k a) = rd_ mk θ a := fun hs => rd_hd hs
   have hrb : Sat mk θ B -> rd_ mk θ (hd B k b) = rd_ mk θ b := fun hs => rd_hd hs
   generalize hd B k a = a' at *
   generalize hd B k b = b' at *
   have hred : (Sat mk θ B /\ rd_ mk θ a = rd_ mk θ b) ↔ (Sat mk θ B /\ rd_ mk θ a' = rd_ mk θ b') := by
    constructor
    ·rintro ⟨h1, h2⟩; exact ⟨h1, by rw [hra h1, hrb h1]; exact h2⟩
    ·rintro ⟨h1, h2⟩; exact ⟨h1, by rw [<- hra h1, <- hrb h1]; exact h2⟩
   rw [hred]
   have bind : ∀ (n : Nat) (t : IT), sc B.length (.v n) = true -> bd B n = none -> t ≠ .v n -> (Sat mk θ (B.set n t) ↔ Sat mk θ B /\ θ n = rd_ mk θ t) := fun n t hn hf ht => sat_set (by simpa [sc] using hn) ht hf
   have nocc : ∀ (n : Nat) (t : IT), isHd B t -> t ≠ .v n -> occ B n k t = true -> Sat mk θ B -> θ n ≠ rd_ mk θ t := by
    intro n t ht hne ho hs e
    have := occ_size hsz hs ho
    by_cases hv : ∃ m, t = .v m
    ·obtain ⟨m, rfl⟩ := hv
     cases k with
     | zero => simp [occ] at ho
     | succ k =>
      simp only [occ, ht m rfl, decide_eq_true_eq] at ho
      exact hne (by rw [ho])
    ·have := this.2 (fun m e => hv ⟨m, e⟩)
     rw [e] at this; omega
   match a', b', h with
   | .v n, b', h =>
    simp only at h
    split at h
    ·rename_i e
     simp at h; obtain ⟨rfl, rfl⟩ := h
     exact ⟨fun _ => by simp [e], by simp⟩
    ·rename_i e
     split at h
     ·rename_i o
      simp at h; obtain ⟨rfl, rfl⟩ := h
      exact ⟨by simp, fun _ => by rintro ⟨h1, h2⟩; exact nocc n b' hhb e o h1 h2⟩
     ·simp at h; obtain ⟨rfl, rfl⟩ := h
      exact ⟨fun _ => bind n b' hsa (hha n rfl) e, by simp⟩
   | .b i, .v n, h =>
    simp only at h
    split at h
    ·rename_i o; cases k <;> simp [occ] at o
    ·simp at h; obtain ⟨rfl, rfl⟩ := h
     exact ⟨fun _ => by rw [bind n _ hsb (hhb n rfl) (by simp)]; exact ⟨fun h => ⟨h.1, h.2.symm⟩, fun h => ⟨h.1, h.2.symm⟩⟩, by simp⟩
   | .p c x y, .v n, h =>
    simp only at h
    split at h
    ·rename_i o
     simp at h; obtain ⟨rfl, rfl⟩ := h
     exact ⟨by simp, fun _ => by rintro ⟨h1, h2⟩; exact nocc n _ hha (by simp) o h1 h2.symm⟩
    ·simp at h; obtain ⟨rfl, rfl⟩ := h
     exact ⟨fun _ => by rw [bind n _ hsb (hhb n rfl) (by simp)]; exact ⟨fun h => ⟨h.1, h.2.symm⟩, fun h => ⟨h.1, h.2.symm⟩⟩, by simp⟩
   | .b i, .b j, h =>
    simp at h; obtain ⟨rfl, rfl⟩ := h
    refine ⟨fun e => ?_, fun e => ?_⟩
    ·simp at e; subst e; simp
    ·simp at e
     rintro ⟨_, h2⟩
     exact e (hG.inj _ _ _ _ h2).1
   | .b i, .p _ _ _, h =>
    simp at h; obtain ⟨rfl, rfl⟩ := h
    exact ⟨by simp, fun _ => by rintro ⟨_, h2⟩; have := (hG.inj _ _ _ _ h2).2; cases this⟩
   | .p _ _ _, .b i, h =>
    simp at h; obtain ⟨rfl, rfl⟩ := h
    exact ⟨by simp, fun _ => by rintro ⟨_, h2⟩; have := (hG.inj _ _ _ _ h2).2; cases this⟩
   | .p i x y, .p j x' y', h =>
    rw [sc, Bool.and_eq_true] at hsa hsb
    have hsplit : (Sat mk θ B /\ rd_ mk θ (.p i x y) = rd_ mk θ (.p j x' y')) ↔ i = j /\ (Sat mk θ B /\ rd_ mk θ x = rd_ mk θ x') /\ rd_ mk θ y = rd_ mk θ y' := by
     constructor
     ·rintro ⟨h1, h2⟩
      obtain ⟨h3, h4⟩ := hG.inj _ _ _ _ h2
      simp at h4
      exact ⟨h3, ⟨h1, h4.1⟩, h4.2⟩
     ·rintro ⟨rfl, ⟨h1, h2⟩, h3⟩
      exact ⟨h1, by simp only [rd_, h2, h3]⟩
    rw [hsplit]
    simp only at h
    split at h
    ·rename_i hij
     cases hu : uni k B x x' with
     | none => rw [hu] at h; simp at h
     | some r =>
      obtain ⟨B1, q1⟩ := r
      rw [hu] at h
      obtain ⟨h1, h2⟩ := uni_sat hG (θ := θ) hB hsa.1 hsb.1 hu
      obtain ⟨hB1, hl1⟩ := uni_sc hB hsa.1 hsb.1 hu
      cases q1
      ·simp at h; obtain ⟨rfl, rfl⟩ := h
       exact ⟨by simp, fun _ => by rintro ⟨_, h3, _⟩; exact h2 rfl h3⟩
      ·obtain ⟨h3, h4⟩ := uni_sat hG (θ := θ) hB1 (by rw [hl1]; exact hsa.2) (by rw [hl1]; exact hsb.2) h
       have h5 := h1 rfl
       refine ⟨fun e => ?_, fun e => ?_⟩
       ·rw [h3 e, h5]
        exact ⟨fun h => ⟨hij, h.1, h.2⟩, fun h => ⟨h.2.1, h.2.2⟩⟩
       ·rintro ⟨_, h6, h7⟩
        exact h4 e ⟨h5.2 h6, h7⟩
    ·rename_i hij
     simp at h; obtain ⟨rfl, rfl⟩ := h
     exact ⟨by simp, fun _ => by rintro ⟨h1, _⟩; exact hij h1⟩
  ·simp at h
end
end Go.Av

namespace Go.Av
attribute [-simp] Go.Av.astepJ Go.Av.relC Go.Av.relL Go.Av.relV Go.Av.relVs Go.Av.callJ
open Go

def uniQ (k : Nat) (B : List IT) (a b : IT) : Option (Option (List IT)) := match uni k B a b with
 | none => none
 | some (B', true) => some (some B')
 | some (_, false) => some none
def infN (k : Nat) (kd : Int) (B : List IT) (ts : List IT) : Option (Option (List IT × IT)) :=
 if kd = 2 then some (some (B, .b 2)) else if kd = 3 \/ kd = 4 then some (some (B, .b 3)) else match ts with
  | [x] => if kd = 11 \/ kd = 12 then (uniQ k (B ++ [.v B.length, .v (B.length + 1)]) x (.p 5 (.v B.length) (.v (B.length + 1)))).map (·.map fun B' => (B', .v (if kd = 12 then B.length + 1 else B.length))) else some none
  | [x, y] => if kd = 10 then some (some (B, .p 5 x y))
   else if kd = 6 then (uniQ k (B ++ [.v B.length, .v (B.length + 1)]) x (.p 4 y (.v B.length))).map (·.map fun B' => (B', .v B.length))
   else if kd = 7 \/ kd = 8 then (match uniQ k B x (.b 2) with
    | some (some B1) => (uniQ k B1 y (.b 2)).map (·.map fun B' => (B', .b (if kd = 8 then 3 else 2)))
    | none => none
    | some none => some none) else some none
  | [x, y, z] => if kd = 9 then (match uniQ k B x (.b 3) with
    | some (some B1) => (uniQ k B1 y z).map (·.map fun B' => (B', y))
    | none => none
    | some none => some none) else some none
  | _ => some none
mutual
def inf (k : Nat) : MTm -> List IT -> List IT -> List UInt8 -> List IT -> Option (Option (List IT × List IT × IT))
 | .mk kd s _ _ _ _ l, B, ls, ns, ts =>
  if kd = 1 then some (if 0 <= lastIx ns (s.headD 0) then (ts[(lastIx ns (s.headD 0)).toNat]?).map fun t => (B, ls, t) else none)
  else match infS k l (if kd = 5 then B ++ [.v B.length] else B) (if kd = 5 then ls ++ [.v B.length] else ls) (if kd = 5 then ns ++ s else ns) (if kd = 5 then ts ++ [.v B.length] else ts) with
   | some (some (B1, ls1, us)) => if kd = 5 then (match us with | [u] => some (some (B1, ls1, .p 4 (.v B.length) u)) | _ => some none) else (infN k kd B1 us).map (·.map fun r => (r.1, ls1, r.2))
   | none => none
   | some none => some none
def infS (k : Nat) : List MTm -> List IT -> List IT -> List UInt8 -> List IT -> Option (Option (List IT × List IT × List IT))
 | [], B, ls, _, _ => some (some (B, ls, []))
 | e :: r, B, ls, ns, ts => match inf k e B ls ns ts with
  | some (some (B1, ls1, t)) => (match infS k r B1 ls1 ns ts with
   | some (some (B2, ls2, us)) => some (some (B2, ls2, t :: us))
   | none => none
   | some none => some none)
  | none => none
  | some none => some none
end

inductive Ba : MTm -> Prop
 | var (c : UInt8) : Ba (tVar [c])
 | num (n : Int) : Ba (tNum n)
 | tru : Ba tTrue
 | fls : Ba tFalse
 | lam {c : UInt8} {t : MTy} {b : MTm} : Ba b -> Ba (tLam [c] t b)
 | n2 {k : Int} {a b : MTm} : k = 6 \/ k = 7 \/ k = 8 \/ k = 10 -> Ba a -> Ba b -> Ba (tN2 k a b)
 | ite {a b c : MTm} : Ba a -> Ba b -> Ba c -> Ba (tIf a b c)
 | n1 {k : Int} {a : MTm} : k = 11 \/ k = 12 -> Ba a -> Ba (tN1 k a)
theorem Ba.of {nt : Int} {d : Nat} {e : MTm} (h : TmV nt d e) : Ba (mapM bareG e) := by
 induction h with
 | @var d s _ hs =>
  obtain ⟨c, rfl, _⟩ := nameM_one hs
  simpa [mapM, mapS, bareG] using Ba.var c
 | num _ _ _ => simpa [mapM, mapS, bareG] using Ba.num _
 | tru _ => simpa [mapM, mapS, bareG] using Ba.tru
 | fls _ => simpa [mapM, mapS, bareG] using Ba.fls
 | @lam d s t b _ hs _ _ ih =>
  obtain ⟨c, rfl, _⟩ := nameM_one hs
  simpa [mapM, mapS, bareG] using Ba.lam ih
 | @n2 d k a b _ hk _ _ iha ihb =>
  have h1 : ¬ (k = 13 \/ k = 14) := by omega
  have h2 : ¬ k = 5 := by omega
  simpa [mapM, mapS, bareG, h1, h2] using Ba.n2 hk iha ihb
 | ite _ _ _ _ ihp iha ihb => simpa [mapM, mapS, bareG] using Ba.ite ihp iha ihb
 | @n1 d k a _ hk _ ih =>
  have h1 : ¬ (k = 13 \/ k = 14) := by omega
  have h2 : ¬ k = 5 := by omega
  simpa [mapM, mapS, bareG, h1, h2] using Ba.n1 hk ih
 | asc _ _ _ ih => simpa [mapM, mapS, bareG] using ih
 | cast _ _ _ _ _ _ ih => simpa [mapM, mapS, bareG] using ih

section
variable (k : Nat) (B ls : List IT) (ns : List UInt8) (ts : List IT)
theorem inf_var (c : UInt8) : inf k (tVar [c]) B ls ns ts = some (if 0 <= lastIx ns c then (ts[(lastIx ns c).toNat]?).map fun t => (B, ls, t) else none) := by simp [inf]
theorem inf_num (n : Int) : inf k (tNum n) B ls ns ts = some (some (B, ls, .b 2)) := by simp [inf, infS, infN]
theorem inf_tru : inf k tTrue B ls ns ts = some (some (B, ls, .b 3)) := by simp [inf, infS, infN]
theorem inf_fls : inf k tFalse B ls ns ts = some (some (B, ls, .b 3)) := by simp [inf, infS, infN]
theorem inf_lam (c : UInt8) (t : MTy) (b : MTm) : inf k (tLam [c] t b) B ls ns ts = (inf k b (B ++ [.v B.length]) (ls ++ [.v B.length]) (ns ++ [c]) (ts ++ [.v B.length])).map (·.map fun r => (r.1, r.2.1, .p 4 (.v B.length) r.2.2)) := by
 simp only [inf, infS, show ¬ (5 : Int) = 1 by omega, if_false, if_true]
 cases inf k b (B ++ [.v B.length]) (ls ++ [.v B.length]) (ns ++ [c]) (ts ++ [.v B.length]) with
 | none => rfl
 | some o => cases o <;> rfl
theorem inf_n1 {kd : Int} (hk : kd = 11 \/ kd = 12) (a : MTm) : inf k (tN1 kd a) B ls ns ts = match inf k a B ls ns ts with
  | some (some (B1, ls1, t)) => (infN k kd B1 [t]).map (·.map fun r => (r.1, ls1, r.2))
  | none => none
  | some none => some none := by
 simp only [inf, infS, show ¬ kd = 1 by omega, show ¬ kd = 5 by omega, if_false]
 cases inf k a B ls ns ts with
 | none => rfl
 | some o => cases o <;> rfl
theorem inf_n2 {kd : Int} (hk : kd = 6 \/ kd = 7 \/ kd = 8 \/ kd = 10) (a b : MTm) : inf k (tN2 kd a b) B ls ns ts = match inf k a B ls ns ts with
  | some (some (B1, ls1, t)) => (match inf k b B1 ls1 ns ts with
   | some (some (B2, ls2, u)) => (infN k kd B2 [t, u]).map (·.map fun r => (r.1, ls2, r.2))
   | none => none
   | some none => some none)
  | none => none
  | some none => some none := by
 simp only [inf, infS, show ¬ kd = 1 by omega, show ¬ kd = 5 by omega, if_false]
 cases inf k a B ls ns ts with
 | none => rfl
 | some o =>
  cases o with
  | none => rfl
  | some r =>
   obtain ⟨B1, ls1, t⟩ := r
   simp only
   cases inf k b B1 ls1 ns ts with
   | none => rfl
   | some o => cases o <;> rfl
theorem inf_if (a b c : MTm) : inf k (tIf a b c) B ls ns ts = match inf k a B ls ns ts with
  | some (some (B1, ls1, t)) => (match inf k b B1 ls1 ns ts with
   | some (some (B2, ls2, u)) => (match inf k c B2 ls2 ns ts with
    | some (some (B3, ls3, v)) => (infN k 9 B3 [t, u, v]).map (·.map fun r => (r.1, ls3, r.2))
    | none => none
    | some none => some none)
   | none => none
   | some none => some none)
  | none => none
  | some none => some none := by
 simp only [inf, infS, show ¬ (9 : Int) = 1 by omega, show ¬ (9 : Int) = 5 by omega, if_false]
 cases inf k a B ls ns ts with
 | none => rfl
 | some o =>
  cases o with
  | none => rfl
  | some r =>
   obtain ⟨B1, ls1, t⟩ := r
   simp only
   cases inf k b B1 ls1 ns ts with
   | none => rfl
   | some o =>
    cases o with
    | none => rfl
    | some r =>
     obtain ⟨B2, ls2, u⟩ := r
     simp only
     cases inf k c B2 ls2 ns ts with
     | none => rfl
     | some o => cases o <;> rfl
end

theorem bd_app {B : List IT} (new : List IT) {n : Nat} (hn : n < B.length) : bd (B ++ new) n = bd B n := by
 simp only [bd, List.getElem?_append_left hn]
theorem bd_one {B : List IT} : bd (B ++ [.v B.length]) B.length = none := by simp [bd]
theorem bd_two {B : List IT} {n : Nat} (h1 : B.length <= n) (h2 : n < B.length + 2) : bd (B ++ [.v B.length, .v (B.length + 1)]) n = none := by
 simp only [bd]
 rw [List.getElem?_append_right h1]
 have : n = B.length \/ n = B.length + 1 := by omega
 rcases this with rfl | rfl
 ·simp
 ·simp
theorem ex_app {B : List IT} (new : List IT) (hB : ScB B) : ∀ {k : Nat} {t : IT}, sc B.length t = true -> ex B k t = true -> ex (B ++ new) k t = true
 | 0, t, _, h => by simp [ex] at h
 | k + 1, .v n, hs, h => by
  simp only [ex] at h ⊢
  rw [bd_app new (by simpa [sc] using hs)]
  cases hb : bd B n with
  | none => rfl
  | some t => rw [hb] at h; exact ex_app new hB (bd_sc hB hb) h
 | k + 1, .b _, _, _ => rfl
 | k + 1, .p _ x y, hs, h => by
  rw [sc, Bool.and_eq_true] at hs
  rw [ex, Bool.and_eq_true] at h ⊢
  exact ⟨ex_app new hB hs.1 h.1, ex_app new hB hs.2 h.2⟩
structure NewV (B C : List IT) : Prop where
 le : B.length <= C.length
 old : ∀ n, n < B.length -> bd C n = bd B n
 new : ∀ n, B.length <= n -> n < C.length -> bd C n = none
 sc : ScB B -> ScB C
 acy : ScB B -> Acy B -> Acy C
theorem NewV.one (B : List IT) : NewV B (B ++ [.v B.length]) := by
 refine ⟨by simp, fun n hn => bd_app _ hn, fun n h1 h2 => ?_, fun h t ht => ?_, fun hs h n hn => ?_⟩
 ·have : n = B.length := by simp at h2; omega
  subst this; exact bd_one
 ·rw [List.length_append]
  rcases List.mem_append.1 ht with h1 | h1
  ·exact sc_le (by omega) (h t h1)
  ·simp at h1; subst h1; simp [Av.sc]
 ·by_cases h1 : n < B.length
  ·obtain ⟨k, hk⟩ := h n h1
   exact ⟨k, ex_app _ hs (by simpa [Av.sc] using h1) hk⟩
  ·have : n = B.length := by simp at hn; omega
   subst this
   exact ⟨1, by simp only [ex, bd_one]⟩
theorem NewV.two (B : List IT) : NewV B (B ++ [.v B.length, .v (B.length + 1)]) := by
 refine ⟨by simp, fun n hn => bd_app _ hn, fun n h1 h2 => bd_two h1 (by simpa using h2), fun h t ht => ?_, fun hs h n hn => ?_⟩
 ·rw [List.length_append]
  rcases List.mem_append.1 ht with h1 | h1
  ·exact sc_le (by omega) (h t h1)
  ·simp at h1; rcases h1 with rfl | rfl <;> simp [Av.sc]
 ·by_cases h1 : n < B.length
  ·obtain ⟨k, hk⟩ := h n h1
   exact ⟨k, ex_app _ hs (by simpa [Av.sc] using h1) hk⟩
  ·have h2 : n < B.length + 2 := by simpa using hn
   exact ⟨1, by simp only [ex, bd_two (show B.length <= n by omega) h2]⟩
theorem NewV.sat {G : Type} {mk : Int -> Option (G × G) -> G} {θ : Nat -> G} {B C : List IT} (h : NewV B C) (hs : Sat mk θ C) : Sat mk θ B := by
 intro n t hb
 refine hs n t ?_
 by_cases hn : n < B.length
 ·rw [h.old n hn]; exact hb
 ·have := (bd_some hb).1
  rw [List.getElem?_eq_none (by omega)] at this; cases this
structure OkB (B : List IT) : Prop where
 sc : ScB B
 acy : Acy B
theorem uni_acy {k : Nat} {B B' : List IT} {a b : IT} {q : Bool} (hB : OkB B) (ha : sc B.length a = true) (hb : sc B.length b = true) (h : uni k B a b = some (B', q)) : Acy B' := by
 obtain ⟨ka, hka⟩ := hB.acy.all ha
 obtain ⟨j, B2, q2, h2, h3, _⟩ := uni_total (nfree B) ka B a b (Nat.le_refl _) hB.sc hB.acy ha hb hka
 have h4 := uni_le (Nat.le_max_left k j) h
 rw [uni_le (Nat.le_max_right k j) h2] at h4
 cases h4; exact h3
theorem uniQ_ok {k : Nat} {B B' : List IT} {a b : IT} (hB : OkB B) (ha : sc B.length a = true) (hb : sc B.length b = true) (h : uniQ k B a b = some (some B')) : OkB B' /\ B'.length = B.length := by
 simp only [uniQ] at h
 split at h
 ·simp at h
 ·rename_i hu; simp at h; subst h
  obtain ⟨h1, h2⟩ := uni_sc hB.sc ha hb hu
  exact ⟨⟨h1, uni_acy hB ha hb hu⟩, h2⟩
 ·simp at h
theorem uniQ_le {k j : Nat} {B : List IT} {a b : IT} {r : Option (List IT)} (hk : k <= j) (h : uniQ k B a b = some r) : uniQ j B a b = some r := by
 simp only [uniQ] at h ⊢
 split at h
 ·simp at h
 ·rename_i hu; rw [uni_le hk hu]; exact h
 ·rename_i hu; rw [uni_le hk hu]; exact h
theorem uniQ_total {B : List IT} {a b : IT} (hB : OkB B) (ha : sc B.length a = true) (hb : sc B.length b = true) : ∃ k r, uniQ k B a b = some r := by
 obtain ⟨ka, hka⟩ := hB.acy.all ha
 obtain ⟨j, B2, q2, h2, _, _⟩ := uni_total (nfree B) ka B a b (Nat.le_refl _) hB.sc hB.acy ha hb hka
 refine ⟨j, ?_⟩
 simp only [uniQ, h2]
 cases q2 <;> exact ⟨_, rfl⟩
structure NOk (B B' : List IT) (t : IT) : Prop where
 ok : OkB B'
 le : B.length <= B'.length
 len : B'.length <= B.length + 2
 sct : Av.sc B'.length t = true
theorem infN_ok {k : Nat} {kd : Int} {B B' : List IT} {ts : List IT} {t : IT} (hB : OkB B) (hts : ∀ u ∈ ts, sc B.length u = true) (h : infN k kd B ts = some (some (B', t))) : NOk B B' t := by
 have hB2 : OkB (B ++ [.v B.length, .v (B.length + 1)]) := ⟨(NewV.two B).sc hB.sc, (NewV.two B).acy hB.sc hB.acy⟩
 have hl2 : (B ++ [IT.v B.length, IT.v (B.length + 1)]).length = B.length + 2 := by simp
 have up : ∀ {u : IT}, sc B.length u = true -> sc (B ++ [IT.v B.length, IT.v (B.length + 1)]).length u = true := fun h => sc_le (by omega) h
 simp only [infN] at h
 split at h
 ·simp at h; obtain ⟨rfl, rfl⟩ := h; exact ⟨hB, Nat.le_refl _, by omega, rfl⟩
 split at h
 ·simp at h; obtain ⟨rfl, rfl⟩ := h; exact ⟨hB, Nat.le_refl _, by omega, rfl⟩
 split at h
 ·rename_i x
  have hx := hts x (by simp)
  split at h
  ·simp only [Option.map_eq_some_iff] at h
   obtain ⟨r, h1, B2, rfl, h2⟩ := h
   cases h2
   obtain ⟨h3, h4⟩ := uniQ_ok hB2 (up hx) (by simp [sc]) h1
   exact ⟨h3, by omega, by omega, by simp [sc]; split <;> omega⟩
  ·simp at h
 ·rename_i x y
  have hx := hts x (by simp)
  have hy := hts y (by simp)
  split at h
  ·simp at h; obtain ⟨rfl, rfl⟩ := h; exact ⟨hB, Nat.le_refl _, by omega, by simp [sc, hx, hy]⟩
  split at h
  ·simp only [Option.map_eq_some_iff] at h
   obtain ⟨r, h1, B2, rfl, h2⟩ := h
   cases h2
   obtain ⟨h3, h4⟩ := uniQ_ok hB2 (up hx) (by have := up hy; simp [sc] at this ⊢; exact this) h1
   exact ⟨h3, by omega, by omega, by simp [sc]; omega⟩
  split at h
  ·split at h
   ·rename_i B1 h1
    obtain ⟨h2, h3⟩ := uniQ_ok hB hx rfl h1
    simp only [Option.map_eq_some_iff] at h
    obtain ⟨r, h4, B2, rfl, h5⟩ := h
    cases h5
    obtain ⟨h6, h7⟩ := uniQ_ok h2 (by rw [h3]; exact hy) rfl h4
    exact ⟨h6, by omega, by omega, rfl⟩
   ·simp at h
   ·simp at h
  ·simp at h
 ·rename_i x y z
  have hx := hts x (by simp)
  have hy := hts y (by simp)
  have hz := hts z (by simp)
  split at h
  ·split at h
   ·rename_i B1 h1
    obtain ⟨h2, h3⟩ := uniQ_ok hB hx rfl h1
    simp only [Option.map_eq_some_iff] at h
    obtain ⟨r, h4, B2, rfl, h5⟩ := h
    cases h5
    obtain ⟨h6, h7⟩ := uniQ_ok h2 (by rw [h3]; exact hy) (by rw [h3]; exact hz) h4
    exact ⟨h6, by omega, by omega, by rw [h7, h3]; exact hy⟩
   ·simp at h
   ·simp at h
  ·simp at h
 ·simp at h
theorem infN_total {kd : Int} {B : List IT} {ts : List IT} (hB : OkB B) (hts : ∀ u ∈ ts, sc B.length u = true) : ∃ k r, infN k kd B ts = some r := by
 have hB2 : OkB (B ++ [.v B.length, .v (B.length + 1)]) := ⟨(NewV.two B).sc hB.sc, (NewV.two B).acy hB.sc hB.acy⟩
 have hl2 : (B ++ [IT.v B.length, IT.v (B.length + 1)]).length = B.length + 2 := by simp
 have up : ∀ {u : IT}, sc B.length u = true -> sc (B ++ [IT.v B.length, IT.v (B.length + 1)]).length u = true := fun h => sc_le (by omega) h
 simp only [infN]
 split
 ·exact ⟨0, _, rfl⟩
 split
 ·exact ⟨0, _, rfl⟩
 split
 ·rename_i x
  have hx := hts x (by simp)
  split
  ·obtain ⟨k, r, h⟩ := uniQ_total hB2 (up hx) (b := .p 5 (.v B.length) (.v (B.length + 1))) (by simp [sc])
   exact ⟨k, _, by rw [h]; rfl⟩
  ·exact ⟨0, _, rfl⟩
 ·rename_i x y
  have hx := hts x (by simp)
  have hy := hts y (by simp)
  split
  ·exact ⟨0, _, rfl⟩
  split
  ·obtain ⟨k, r, h⟩ := uniQ_total hB2 (up hx) (b := .p 4 y (.v B.length)) (by have := up hy; simp [sc] at this ⊢; exact this)
   exact ⟨k, _, by rw [h]; rfl⟩
  split
  ·obtain ⟨k, r, h⟩ := uniQ_total hB hx (b := .b 2) rfl
   cases r with
   | none => exact ⟨k, none, by rw [h]⟩
   | some B1 =>
    obtain ⟨h2, h3⟩ := uniQ_ok hB hx rfl h
    obtain ⟨j, r, h4⟩ := uniQ_total h2 (a := y) (b := .b 2) (by rw [h3]; exact hy) rfl
    exact ⟨max k j, _, by rw [uniQ_le (Nat.le_max_left k j) h]; simp only; rw [uniQ_le (Nat.le_max_right k j) h4]; rfl⟩
  ·exact ⟨0, _, rfl⟩
 ·rename_i x y z
  have hx := hts x (by simp)
  have hy := hts y (by simp)
  have hz := hts z (by simp)
  split
  ·obtain ⟨k, r, h⟩ := uniQ_total hB hx (b := .b 3) rfl
   cases r with
   | none => exact ⟨k, none, by rw [h]⟩
   | some B1 =>
    obtain ⟨h2, h3⟩ := uniQ_ok hB hx rfl h
    obtain ⟨j, r, h4⟩ := uniQ_total h2 (a := y) (b := z) (by rw [h3]; exact hy) (by rw [h3]; exact hz)
    exact ⟨max k j, _, by rw [uniQ_le (Nat.le_max_left k j) h]; simp only; rw [uniQ_le (Nat.le_max_right k j) h4]; rfl⟩
  ·exact ⟨0, _, rfl⟩
 ·exact ⟨0, _, rfl⟩
theorem infN_le {k j : Nat} {kd : Int} {B : List IT} {ts : List IT} {r : Option (List IT × IT)} (hk : k <= j) (h : infN k kd B ts = some r) : infN j kd B ts = some r := by
 simp only [infN] at h ⊢
 split
 ·rename_i h1; rw [if_pos h1] at h; exact h
 rename_i h1; rw [if_neg h1] at h
 split
 ·rename_i h2; rw [if_pos h2] at h; exact h
 rename_i h2; rw [if_neg h2] at h
 split
 ·simp only at h
  split
  ·rename_i h3; rw [if_pos h3] at h
   simp only [Option.map_eq_some_iff] at h
   obtain ⟨q, h4, rfl⟩ := h
   rw [uniQ_le hk h4]; rfl
  ·rename_i h3; rw [if_neg h3] at h; exact h
 ·simp only at h
  split
  ·rename_i h3; rw [if_pos h3] at h; exact h
  rename_i h3; rw [if_neg h3] at h
  split
  ·rename_i h4; rw [if_pos h4] at h
   simp only [Option.map_eq_some_iff] at h
   obtain ⟨q, h5, rfl⟩ := h
   rw [uniQ_le hk h5]; rfl
  rename_i h4; rw [if_neg h4] at h
  split
  ·rename_i h5; rw [if_pos h5] at h
   split at h
   ·rename_i B1 h6
    rw [uniQ_le hk h6]
    simp only [Option.map_eq_some_iff] at h ⊢
    obtain ⟨q, h7, h8⟩ := h
    exact ⟨q, uniQ_le hk h7, h8⟩
   ·simp at h
   ·rename_i h6; rw [uniQ_le hk h6]; exact h
  ·rename_i h5; rw [if_neg h5] at h; exact h
 ·simp only at h
  split
  ·rename_i h5; rw [if_pos h5] at h
   split at h
   ·rename_i B1 h6
    rw [uniQ_le hk h6]
    simp only [Option.map_eq_some_iff] at h ⊢
    obtain ⟨q, h7, h8⟩ := h
    exact ⟨q, uniQ_le hk h7, h8⟩
   ·simp at h
   ·rename_i h6; rw [uniQ_le hk h6]; exact h
  ·rename_i h5; rw [if_neg h5] at h; exact h
 ·rename_i h3 h4 h5
  match ts, h3, h4, h5, h with
  | [], _, _, _, h => exact h
  | [_], h3, _, _, _ => exact absurd rfl (h3 _)
  | [_, _], _, h4, _, _ => exact absurd rfl (h4 _ _)
  | [_, _, _], _, _, h5, _ => exact absurd rfl (h5 _ _ _)
  | _ :: _ :: _ :: _ :: _, _, _, _, h => exact h
theorem inf_le {k j : Nat} (hk : k <= j) {e : MTm} (he : Ba e) : ∀ {B ls : List IT} {ns : List UInt8} {ts : List IT} {r : Option (List IT × List IT × IT)}, inf k e B ls ns ts = some r -> inf j e B ls ns ts = some r := by
 induction he with
 | var c => intro B ls ns ts r h; rw [inf_var] at h ⊢; exact h
 | num n => intro B ls ns ts r h; rw [inf_num] at h ⊢; exact h
 | tru => intro B ls ns ts r h; rw [inf_tru] at h ⊢; exact h
 | fls => intro B ls ns ts r h; rw [inf_fls] at h ⊢; exact h
 | lam _ ih =>
  intro B ls ns ts r h
  rw [inf_lam] at h ⊢
  simp only [Option.map_eq_some_iff] at h
  obtain ⟨q, h1, rfl⟩ := h
  rw [ih h1]; rfl
 | n1 hkd _ ih =>
  intro B ls ns ts r h
  rw [inf_n1 _ _ _ _ _ hkd] at h ⊢
  split at h
  ·rename_i B1 ls1 t h1
   rw [ih h1]
   simp only [Option.map_eq_some_iff] at h ⊢
   obtain ⟨q, h2, h3⟩ := h
   exact ⟨q, infN_le hk h2, h3⟩
  ·simp at h
  ·rename_i h1; rw [ih h1]; exact h
 | n2 hkd _ _ iha ihb =>
  intro B ls ns ts r h
  rw [inf_n2 _ _ _ _ _ hkd] at h ⊢
  split at h
  ·rename_i B1 ls1 t h1
   rw [iha h1]
   simp only
   split at h
   ·rename_i B2 ls2 u h2
    rw [ihb h2]
    simp only [Option.map_eq_some_iff] at h ⊢
    obtain ⟨q, h3, h4⟩ := h
    exact ⟨q, infN_le hk h3, h4⟩
   ·simp at h
   ·rename_i h2; rw [ihb h2]; exact h
  ·simp at h
  ·rename_i h1; rw [iha h1]; exact h
 | ite _ _ _ iha ihb ihc =>
  intro B ls ns ts r h
  rw [inf_if] at h ⊢
  split at h
  ·rename_i B1 ls1 t h1
   rw [iha h1]
   simp only
   split at h
   ·rename_i B2 ls2 u h2
    rw [ihb h2]
    simp only
    split at h
    ·rename_i B3 ls3 v h3
     rw [ihc h3]
     simp only [Option.map_eq_some_iff] at h ⊢
     obtain ⟨q, h4, h5⟩ := h
     exact ⟨q, infN_le hk h4, h5⟩
    ·simp at h
    ·rename_i h3; rw [ihc h3]; exact h
   ·simp at h
   ·rename_i h2; rw [ihb h2]; exact h
  ·simp at h
  ·rename_i h1; rw [iha h1]; exact h

structure IOk (e : MTm) (B ls : List IT) (B' ls' : List IT) (t : IT) : Prop where
 ok : OkB B'
 le : B.length <= B'.length
 len : B'.length <= B.length + 2 * nodesM e
 sct : Av.sc B'.length t = true
 lams : ∃ new, ls' = ls ++ new /\ new.length = (typesM e).length /\ ∀ u ∈ new, Av.sc B'.length u = true
structure CtxI (B : List IT) (ns : List UInt8) (ts : List IT) : Prop where
 len : ts.length = ns.length
 scs : ∀ u ∈ ts, Av.sc B.length u = true
theorem CtxI.le {B C : List IT} {ns : List UInt8} {ts : List IT} (h : CtxI B ns ts) (hl : B.length <= C.length) : CtxI C ns ts := ⟨h.len, fun u hu => sc_le hl (h.scs u hu)⟩
theorem inf_ok {k : Nat} {e : MTm} (he : Ba e) : ∀ {B ls B' ls' : List IT} {ns : List UInt8} {ts : List IT} {t : IT}, OkB B -> CtxI B ns ts -> inf k e B ls ns ts = some (some (B', ls', t)) -> IOk e B ls B' ls' t := by
 induction he with
 | var c =>
  intro B ls B' ls' ns ts t hB hc h
  rw [inf_var] at h
  simp only [Option.some.injEq] at h
  split at h
  ·simp only [Option.map_eq_some_iff] at h
   obtain ⟨u, h1, h2⟩ := h
   cases h2
   exact ⟨hB, Nat.le_refl _, by omega, hc.scs _ (List.mem_of_getElem? h1), [], by simp, by simp [typesM, typesS, hasTyM], by simp⟩
  ·simp at h
 | num n => intro B ls B' ls' ns ts t hB hc h; rw [inf_num] at h; cases h; exact ⟨hB, Nat.le_refl _, by omega, rfl, [], by simp, by simp [typesM, typesS, hasTyM], by simp⟩
 | tru => intro B ls B' ls' ns ts t hB hc h; rw [inf_tru] at h; cases h; exact ⟨hB, Nat.le_refl _, by omega, rfl, [], by simp, by simp [typesM, typesS, hasTyM], by simp⟩
 | fls => intro B ls B' ls' ns ts t hB hc h; rw [inf_fls] at h; cases h; exact ⟨hB, Nat.le_refl _, by omega, rfl, [], by simp, by simp [typesM, typesS, hasTyM], by simp⟩
 | @lam c ty b _ ih =>
  intro B ls B' ls' ns ts t hB hc h
  rw [inf_lam] at h
  simp only [Option.map_eq_some_iff] at h
  obtain ⟨q, h1, r, rfl, h2⟩ := h
  obtain ⟨B1, ls1, u⟩ := r
  cases h2
  dsimp only
  have hN := NewV.one B
  have hl : (B ++ [IT.v B.length]).length = B.length + 1 := by simp
  obtain ⟨g1, g2, g3, g4, new, rfl, g5, g6⟩ := ih ⟨hN.sc hB.sc, hN.acy hB.sc hB.acy⟩ ⟨by simp [hc.len], fun u hu => by
   rcases List.mem_append.1 hu with q | q
   ·exact sc_le hN.le (hc.scs u q)
   ·simp at q; subst q; simp [sc]⟩ h1
  refine ⟨g1, by omega, by simp [nodesM, nodesS]; omega, by simp [sc, g4]; omega, .v B.length :: new, by simp, by simp [typesM, typesS, hasTyM, g5], fun u hu => ?_⟩
  rcases List.mem_cons.1 hu with rfl | q
  ·simp [sc]; omega
  ·exact g6 u q
 | @n1 kd a hkd _ ih =>
  intro B ls B' ls' ns ts t hB hc h
  rw [inf_n1 _ _ _ _ _ hkd] at h
  split at h
  ·rename_i B1 ls1 u h1
   obtain ⟨g1, g2, g3, g4, new, rfl, g5, g6⟩ := ih hB hc h1
   simp only [Option.map_eq_some_iff] at h
   obtain ⟨q, h2, r, rfl, h3⟩ := h
   obtain ⟨B2, w⟩ := r
   cases h3
   dsimp only
   obtain ⟨k1, k2, k3, k4⟩ := infN_ok g1 (by simpa using g4) h2
   have h5 : hasTyM kd = false := by rcases hkd with rfl | rfl <;> rfl
   exact ⟨k1, by omega, by simp [nodesM, nodesS]; omega, k4, new, rfl, by simp [typesM, typesS, h5, g5], fun u hu => sc_le k2 (g6 u hu)⟩
  ·simp at h
  ·simp at h
 | @n2 kd a b hkd _ _ iha ihb =>
  intro B ls B' ls' ns ts t hB hc h
  rw [inf_n2 _ _ _ _ _ hkd] at h
  split at h
  ·rename_i B1 ls1 u h1
   obtain ⟨g1, g2, g3, g4, new, rfl, g5, g6⟩ := iha hB hc h1
   split at h
   ·rename_i B2 ls2 v h2
    obtain ⟨p1, p2, p3, p4, new2, rfl, p5, p6⟩ := ihb g1 (hc.le g2) h2
    simp only [Option.map_eq_some_iff] at h
    obtain ⟨q, h2, r, rfl, h3⟩ := h
    obtain ⟨B3, w⟩ := r
    cases h3
    dsimp only
    obtain ⟨k1, k2, k3, k4⟩ := infN_ok p1 (by simp; exact ⟨sc_le p2 g4, p4⟩) h2
    have h5 : hasTyM kd = false := by rcases hkd with rfl | rfl | rfl | rfl <;> rfl
    refine ⟨k1, by omega, by simp [nodesM, nodesS]; omega, k4, new ++ new2, by simp, by simp [typesM, typesS, h5, g5, p5], fun u hu => ?_⟩
    rcases List.mem_append.1 hu with q | q
    ·exact sc_le (by omega) (g6 u q)
    ·exact sc_le k2 (p6 u q)
   ·simp at h
   ·simp at h
  ·simp at h
  ·simp at h
 | @ite a b c _ _ _ iha ihb ihc =>
  intro B ls B' ls' ns ts t hB hc h
  rw [inf_if] at h
  split at h
  ·rename_i B1 ls1 u h1
   obtain ⟨g1, g2, g3, g4, new, rfl, g5, g6⟩ := iha hB hc h1
   split at h
   ·rename_i B2 ls2 v h2
    obtain ⟨p1, p2, p3, p4, new2, rfl, p5, p6⟩ := ihb g1 (hc.le g2) h2
    split at h
    ·rename_i B3 ls3 w h3
     obtain ⟨r1, r2, r3, r4, new3, rfl, r5, r6⟩ := ihc p1 (hc.le (by omega)) h3
     simp only [Option.map_eq_some_iff] at h
     obtain ⟨q, h2, r, rfl, h3⟩ := h
     obtain ⟨B4, w⟩ := r
     cases h3
     dsimp only
     obtain ⟨k1, k2, k3, k4⟩ := infN_ok r1 (by simp; exact ⟨sc_le (by omega) g4, sc_le r2 p4, r4⟩) h2
     refine ⟨k1, by omega, by simp [nodesM, nodesS]; omega, k4, new ++ new2 ++ new3, by simp, by simp [typesM, typesS, hasTyM, g5, p5, r5], fun u hu => ?_⟩
     rcases List.mem_append.1 hu with q | q
     ·rcases List.mem_append.1 q with q | q
      ·exact sc_le (by omega) (g6 u q)
      ·exact sc_le (by omega) (p6 u q)
     ·exact sc_le k2 (r6 u q)
    ·simp at h
    ·simp at h
   ·simp at h
   ·simp at h
  ·simp at h
  ·simp at h
theorem inf_total {e : MTm} (he : Ba e) : ∀ {B ls : List IT} {ns : List UInt8} {ts : List IT}, OkB B -> CtxI B ns ts -> ∃ k r, inf k e B ls ns ts = some r := by
 induction he with
 | var c => intro B ls ns ts hB hc; exact ⟨0, _, inf_var _ _ _ _ _ _⟩
 | num n => intro B ls ns ts hB hc; exact ⟨0, _, inf_num _ _ _ _ _ _⟩
 | tru => intro B ls ns ts hB hc; exact ⟨0, _, inf_tru _ _ _ _ _⟩
 | fls => intro B ls ns ts hB hc; exact ⟨0, _, inf_fls _ _ _ _ _⟩
 | @lam c ty b _ ih =>
  intro B ls ns ts hB hc
  have hN := NewV.one B
  obtain ⟨k, r, h⟩ := ih (B := B ++ [.v B.length]) (ls := ls ++ [.v B.length]) (ns := ns ++ [c]) (ts := ts ++ [.v B.length]) ⟨hN.sc hB.sc, hN.acy hB.sc hB.acy⟩ ⟨by simp [hc.len], fun u hu => by
   rcases List.mem_append.1 hu with q | q
   ·exact sc_le hN.le (hc.scs u q)
   ·simp at q; subst q; simp [sc]⟩
  exact ⟨k, _, by rw [inf_lam, h]; rfl⟩
 | @n1 kd a hkd ha ih =>
  intro B ls ns ts hB hc
  obtain ⟨k, r, h⟩ := ih hB hc (ls := ls)
  cases r with
  | none => exact ⟨k, none, by rw [inf_n1 _ _ _ _ _ hkd, h]⟩
  | some r =>
   obtain ⟨B1, ls1, u⟩ := r
   have g := inf_ok ha hB hc h
   obtain ⟨j, r, h2⟩ := infN_total (kd := kd) g.ok (ts := [u]) (by simpa using g.sct)
   exact ⟨max k j, _, by rw [inf_n1 _ _ _ _ _ hkd, inf_le (Nat.le_max_left k j) ha h]; simp only; rw [infN_le (Nat.le_max_right k j) h2]; rfl⟩
 | @n2 kd a b hkd ha hb iha ihb =>
  intro B ls ns ts hB hc
  obtain ⟨k, r, h⟩ := iha hB hc (ls := ls)
  cases r with
  | none => exact ⟨k, none, by rw [inf_n2 _ _ _ _ _ hkd, h]⟩
  | some r =>
   obtain ⟨B1, ls1, u⟩ := r
   have g := inf_ok ha hB hc h
   obtain ⟨j, r, h2⟩ := ihb g.ok (hc.le g.le) (ls := ls1)
   cases r with
   | none => exact ⟨max k j, none, by rw [inf_n2 _ _ _ _ _ hkd, inf_le (Nat.le_max_left k j) ha h]; simp only; rw [inf_le (Nat.le_max_right k j) hb h2]⟩
   | some r =>
    obtain ⟨B2, ls2, v⟩ := r
    have g2 := inf_ok hb g.ok (hc.le g.le) h2
    obtain ⟨i, r, h3⟩ := infN_total (kd := kd) g2.ok (ts := [u, v]) (by simp; exact ⟨sc_le g2.le g.sct, g2.sct⟩)
    exact ⟨max (max k j) i, _, by rw [inf_n2 _ _ _ _ _ hkd, inf_le (by omega) ha h]; simp only; rw [inf_le (by omega) hb h2]; simp only; rw [infN_le (Nat.le_max_right _ _) h3]; rfl⟩
 | @ite a b c ha hb hcc iha ihb ihc =>
  intro B ls ns ts hB hc
  obtain ⟨k, r, h⟩ := iha hB hc (ls := ls)
  cases r with
  | none => exact ⟨k, none, by rw [inf_if, h]⟩
  | some r =>
   obtain ⟨B1, ls1, u⟩ := r
   have g := inf_ok ha hB hc h
   obtain ⟨j, r, h2⟩ := ihb g.ok (hc.le g.le) (ls := ls1)
   cases r with
   | none => exact ⟨max k j, none, by rw [inf_if, inf_le (Nat.le_max_left k j) ha h]; simp only; rw [inf_le (Nat.le_max_right k j) hb h2]⟩
   | some r =>
    obtain ⟨B2, ls2, v⟩ := r
    have g2 := inf_ok hb g.ok (hc.le g.le) h2
    obtain ⟨i, r, h3⟩ := ihc g2.ok ((hc.le g.le).le g2.le) (ls := ls2)
    cases r with
    | none => exact ⟨max (max k j) i, none, by rw [inf_if, inf_le (by omega) ha h]; simp only; rw [inf_le (by omega) hb h2]; simp only; rw [inf_le (by omega) hcc h3]⟩
    | some r =>
     obtain ⟨B3, ls3, w⟩ := r
     have g3 := inf_ok hcc g2.ok ((hc.le g.le).le g2.le) h3
     obtain ⟨m, r, h4⟩ := infN_total (kd := 9) g3.ok (ts := [u, v, w]) (by simp; exact ⟨sc_le (Nat.le_trans g2.le g3.le) g.sct, sc_le g3.le g2.sct, g3.sct⟩)
     exact ⟨max (max (max k j) i) m, _, by rw [inf_if, inf_le (by omega) ha h]; simp only; rw [inf_le (by omega) hb h2]; simp only; rw [inf_le (by omega) hcc h3]; simp only; rw [infN_le (Nat.le_max_right _ _) h4]; rfl⟩
end Go.Av

namespace Go.Av
attribute [-simp] Go.Av.astepJ Go.Av.relC Go.Av.relL Go.Av.relV Go.Av.relVs Go.Av.callJ
open Go

theorem len2 {α : Type} {l : List α} (h : l.length = 2) : ∃ x y, l = [x, y] := by
 match l, h with
 | [x, y], _ => exact ⟨x, y, rfl⟩
theorem len3 {α : Type} {l : List α} (h : l.length = 3) : ∃ x y z, l = [x, y, z] := by
 match l, h with
 | [x, y, z], _ => exact ⟨x, y, z, rfl⟩

def gmk (k : Int) : Option (MTy × MTy) -> MTy
 | none => .mk k []
 | some (x, y) => .mk k [x, y]
theorem gok : GOk gmk := by
 refine ⟨fun k k' o o' h => ?_, nTy, fun k x y => ?_⟩
 ·cases o with
  | none => cases o' with
   | none => simp [gmk] at h; exact ⟨h, rfl⟩
   | some p => simp [gmk] at h
  | some p => cases o' with
   | none => simp [gmk] at h
   | some p' => obtain ⟨x, y⟩ := p; obtain ⟨x', y'⟩ := p'; simp [gmk] at h; exact ⟨h.1, by rw [h.2.1, h.2.2]⟩
 ·simp [gmk, nTy, nTyS]; omega
abbrev rdT := rd_ gmk
abbrev SatT := Sat gmk

def ctxI (θ : Nat -> MTy) (ns : List UInt8) (ts : List IT) : List MBd := List.zipWith (fun c t => ⟨[c], rdT θ t⟩) ns ts
theorem ctxI_app (θ : Nat -> MTy) {ns : List UInt8} {ts : List IT} (c : UInt8) (t : IT) (h : ts.length = ns.length) : ctxI θ (ns ++ [c]) (ts ++ [t]) = ctxI θ ns ts ++ [⟨[c], rdT θ t⟩] := by
 simp only [ctxI]
 rw [List.zipWith_append (by omega)]
 rfl
theorem lookI_up (θ : Nat -> MTy) {ns : List UInt8} {ts : List IT} (c : UInt8) (h : ts.length = ns.length) : ∀ p, p <= ns.length -> lookM (ctxI θ (ns.take p) (ts.take p)) [c] = if 0 <= lastUp ns c p then (ts[(lastUp ns c p).toNat]?).map (rdT θ) else none
 | 0, _ => by simp [ctxI, lookM, lastUp]
 | p + 1, hp => by
  have hlt : p < ns.length := by omega
  have hlt2 : p < ts.length := by omega
  have e : ctxI θ (ns.take (p + 1)) (ts.take (p + 1)) = ctxI θ (ns.take p) (ts.take p) ++ [⟨[ns[p]], rdT θ ts[p]⟩] := by
   rw [List.take_add_one, List.take_add_one, List.getElem?_eq_getElem hlt, List.getElem?_eq_getElem hlt2]
   exact ctxI_app θ _ _ (by simp; omega)
  rw [e, lookM_app]
  simp only [lookM, lastUp, List.getElem?_eq_getElem hlt]
  by_cases hc : ns[p] = c
  ·subst hc
   simp [List.getElem?_eq_getElem hlt2]
  ·have hc' : ¬ [ns[p]] = [c] := by simpa using hc
   have hc2 : ¬ (some ns[p] = some c) := by simpa using hc
   rw [if_neg hc', if_neg hc2]
   exact lookI_up θ c h p (by omega)
theorem lookI (θ : Nat -> MTy) {ns : List UInt8} {ts : List IT} (c : UInt8) (h : ts.length = ns.length) : lookM (ctxI θ ns ts) [c] = if 0 <= lastIx ns c then (ts[(lastIx ns c).toNat]?).map (rdT θ) else none := by
 have := lookI_up θ c h ns.length (Nat.le_refl _)
 rw [List.take_of_length_le (Nat.le_refl _), List.take_of_length_le (by omega)] at this
 exact this

theorem withM_lam (s : List UInt8) (t u : MTy) (b : MTm) (us : List MTy) : withM (tLam s t b) (u :: us) = tLam s u (withM b us) := by simp [withM, withS, hasTyM]
theorem withM_n1 {k : Int} (hk : k = 11 \/ k = 12) (a : MTm) (us : List MTy) : withM (tN1 k a) us = tN1 k (withM a us) := by rcases hk with rfl | rfl <;> simp [withM, withS, hasTyM]
theorem withM_n2 {k : Int} (hk : k = 6 \/ k = 7 \/ k = 8 \/ k = 10) (a b : MTm) (us : List MTy) : withM (tN2 k a b) us = tN2 k (withM a us) (withM b (us.drop (typesM a).length)) := by rcases hk with rfl | rfl | rfl | rfl <;> simp [withM, withS, hasTyM]
theorem withM_if (a b c : MTm) (us : List MTy) : withM (tIf a b c) us = tIf (withM a us) (withM b (us.drop (typesM a).length)) (withM c (us.drop ((typesM a).length + (typesM b).length))) := by simp [withM, withS, hasTyM, List.drop_drop]
theorem withM_var (s : List UInt8) (us : List MTy) : withM (tVar s) us = tVar s := by simp [withM, withS, hasTyM]
theorem withM_num (n : Int) (us : List MTy) : withM (tNum n) us = tNum n := by simp [withM, withS, hasTyM]
theorem withM_tru (us : List MTy) : withM tTrue us = tTrue := by simp [withM, withS, hasTyM]
theorem withM_fls (us : List MTy) : withM tFalse us = tFalse := by simp [withM, withS, hasTyM]
theorem typesM_lam (s : List UInt8) (t : MTy) (b : MTm) : typesM (tLam s t b) = t :: typesM b := by simp [typesM, typesS, hasTyM]
theorem typesM_n1 {k : Int} (hk : k = 11 \/ k = 12) (a : MTm) : typesM (tN1 k a) = typesM a := by rcases hk with rfl | rfl <;> simp [typesM, typesS, hasTyM]
theorem typesM_n2 {k : Int} (hk : k = 6 \/ k = 7 \/ k = 8 \/ k = 10) (a b : MTm) : typesM (tN2 k a b) = typesM a ++ typesM b := by rcases hk with rfl | rfl | rfl | rfl <;> simp [typesM, typesS, hasTyM]
theorem typesM_if (a b c : MTm) : typesM (tIf a b c) = typesM a ++ (typesM b ++ typesM c) := by simp [typesM, typesS, hasTyM]
theorem withM_app {e : MTm} (he : Ba e) : ∀ {us : List MTy} (vs : List MTy), us.length = (typesM e).length -> withM e (us ++ vs) = withM e us := by
 induction he with
 | var c => intro us vs _; rw [withM_var, withM_var]
 | num n => intro us vs _; rw [withM_num, withM_num]
 | tru => intro us vs _; rw [withM_tru, withM_tru]
 | fls => intro us vs _; rw [withM_fls, withM_fls]
 | lam _ ih =>
  intro us vs h
  rw [typesM_lam] at h
  match us, h with
  | u :: us, h => rw [List.cons_append, withM_lam, withM_lam, ih vs (by simpa using h)]
 | n1 hk _ ih =>
  intro us vs h
  rw [typesM_n1 hk] at h
  rw [withM_n1 hk, withM_n1 hk, ih vs h]
 | @n2 k a b hk _ _ iha ihb =>
  intro us vs h
  rw [typesM_n2 hk, List.length_append] at h
  have e1 : us = us.take (typesM a).length ++ us.drop (typesM a).length := (List.take_append_drop _ _).symm
  have h1 : (us.take (typesM a).length).length = (typesM a).length := by rw [List.length_take]; omega
  have ha : ∀ ws, withM a (us ++ ws) = withM a us := fun ws => by
   rw [e1, List.append_assoc, iha _ h1, iha _ h1]
  rw [withM_n2 hk, withM_n2 hk, ha, List.drop_append_of_le_length (by omega), ihb vs (by rw [List.length_drop]; omega)]
 | @ite a b c _ _ _ iha ihb ihc =>
  intro us vs h
  rw [typesM_if, List.length_append, List.length_append] at h
  have e1 : us = us.take (typesM a).length ++ us.drop (typesM a).length := (List.take_append_drop _ _).symm
  have h1 : (us.take (typesM a).length).length = (typesM a).length := by rw [List.length_take]; omega
  have ha : ∀ ws, withM a (us ++ ws) = withM a us := fun ws => by
   rw [e1, List.append_assoc, iha _ h1, iha _ h1]
  have e2 : us.drop (typesM a).length = (us.drop (typesM a).length).take (typesM b).length ++ (us.drop (typesM a).length).drop (typesM b).length := (List.take_append_drop _ _).symm
  have h2 : ((us.drop (typesM a).length).take (typesM b).length).length = (typesM b).length := by rw [List.length_take, List.length_drop]; omega
  have hb : ∀ ws, withM b (us.drop (typesM a).length ++ ws) = withM b (us.drop (typesM a).length) := fun ws => by
   rw [e2, List.append_assoc, ihb _ h2, ihb _ h2]
  rw [withM_if, withM_if, ha, List.drop_append_of_le_length (by omega), hb, List.drop_append_of_le_length (by omega), ihc vs (by rw [List.length_drop]; omega)]

theorem uniQ_sat {θ : Nat -> MTy} {k : Nat} {B B' : List IT} {a b : IT} (hB : OkB B) (ha : sc B.length a = true) (hb : sc B.length b = true) (h : uniQ k B a b = some (some B')) : SatT θ B' ↔ SatT θ B /\ rdT θ a = rdT θ b := by
 simp only [uniQ] at h
 split at h
 ·simp at h
 ·rename_i hu; simp at h; subst h
  exact (uni_sat gok hB.sc ha hb hu).1 rfl
 ·simp at h
def nodeEq (kd : Int) (ts : List MTy) (t : MTy) : Prop :=
 (kd = 2 /\ t = intT) \/ ((kd = 3 \/ kd = 4) /\ t = boolT) \/ (∃ x, ts = [.mk 5 [t, x]] /\ kd = 11) \/ (∃ x, ts = [.mk 5 [x, t]] /\ kd = 12) \/ (∃ x y, ts = [x, y] /\ kd = 10 /\ t = .mk 5 [x, y]) \/ (∃ y, ts = [.mk 4 [y, t], y] /\ kd = 6) \/
  (ts = [intT, intT] /\ kd = 7 /\ t = intT) \/ (ts = [intT, intT] /\ kd = 8 /\ t = boolT) \/ (ts = [boolT, t, t] /\ kd = 9)
theorem infN_sound {θ : Nat -> MTy} {k : Nat} {kd : Int} {B B' : List IT} {ts : List IT} {t : IT} (hB : OkB B) (hts : ∀ u ∈ ts, sc B.length u = true) (h : infN k kd B ts = some (some (B', t))) (hs : SatT θ B') : SatT θ B /\ nodeEq kd (ts.map (rdT θ)) (rdT θ t) := by
 have hN := NewV.two B
 have hB2 : OkB (B ++ [.v B.length, .v (B.length + 1)]) := ⟨hN.sc hB.sc, hN.acy hB.sc hB.acy⟩
 have hl2 : (B ++ [IT.v B.length, IT.v (B.length + 1)]).length = B.length + 2 := by simp
 have up : ∀ {u : IT}, sc B.length u = true -> sc (B ++ [IT.v B.length, IT.v (B.length + 1)]).length u = true := fun h => sc_le (by omega) h
 simp only [infN] at h
 split at h
 ·rename_i hk; simp at h; obtain ⟨rfl, rfl⟩ := h; exact ⟨hs, .inl ⟨hk, rfl⟩⟩
 split at h
 ·rename_i hk; simp at h; obtain ⟨rfl, rfl⟩ := h; exact ⟨hs, .inr (.inl ⟨hk, rfl⟩)⟩
 split at h
 ·rename_i x
  have hx := hts x (by simp)
  split at h
  ·rename_i hk
   simp only [Option.map_eq_some_iff] at h
   obtain ⟨r, h1, B2, rfl, h2⟩ := h
   cases h2
   obtain ⟨h3, h4⟩ := (uniQ_sat hB2 (up hx) (by simp [sc]) h1).1 hs
   refine ⟨hN.sat h3, ?_⟩
   rcases hk with rfl | rfl
   ·exact .inr (.inr (.inl ⟨_, by simp only [List.map_cons, List.map_nil, h4]; rfl, rfl⟩))
   ·exact .inr (.inr (.inr (.inl ⟨_, by simp only [List.map_cons, List.map_nil, h4]; rfl, rfl⟩)))
  ·simp at h
 ·rename_i x y
  have hx := hts x (by simp)
  have hy := hts y (by simp)
  split at h
  ·rename_i hk; simp at h; obtain ⟨rfl, rfl⟩ := h
   exact ⟨hs, .inr (.inr (.inr (.inr (.inl ⟨_, _, rfl, hk, rfl⟩))))⟩
  split at h
  ·rename_i hk
   simp only [Option.map_eq_some_iff] at h
   obtain ⟨r, h1, B2, rfl, h2⟩ := h
   cases h2
   obtain ⟨h3, h4⟩ := (uniQ_sat hB2 (up hx) (by have := up hy; simp [sc] at this ⊢; exact this) h1).1 hs
   exact ⟨hN.sat h3, .inr (.inr (.inr (.inr (.inr (.inl ⟨_, by simp only [List.map_cons, List.map_nil, h4]; rfl, hk⟩)))))⟩
  split at h
  ·rename_i hk
   split at h
   ·rename_i B1 h1
    obtain ⟨h2, h3⟩ := uniQ_ok hB hx rfl h1
    simp only [Option.map_eq_some_iff] at h
    obtain ⟨r, h4, B2, rfl, h5⟩ := h
    cases h5
    obtain ⟨h6, h7⟩ := (uniQ_sat h2 (by rw [h3]; exact hy) rfl h4).1 hs
    obtain ⟨h8, h9⟩ := (uniQ_sat hB hx rfl h1).1 h6
    refine ⟨h8, ?_⟩
    rcases hk with rfl | rfl
    ·exact .inr (.inr (.inr (.inr (.inr (.inr (.inl ⟨by simp only [List.map_cons, List.map_nil, h7, h9]; rfl, rfl, rfl⟩))))))
    ·exact .inr (.inr (.inr (.inr (.inr (.inr (.inr (.inl ⟨by simp only [List.map_cons, List.map_nil, h7, h9]; rfl, rfl, rfl⟩)))))))
   ·simp at h
   ·simp at h
  ·simp at h
 ·rename_i x y z
  have hx := hts x (by simp)
  have hy := hts y (by simp)
  have hz := hts z (by simp)
  split at h
  ·rename_i hk
   split at h
   ·rename_i B1 h1
    obtain ⟨h2, h3⟩ := uniQ_ok hB hx rfl h1
    simp only [Option.map_eq_some_iff] at h
    obtain ⟨r, h4, B2, rfl, h5⟩ := h
    cases h5
    obtain ⟨h6, h7⟩ := (uniQ_sat h2 (by rw [h3]; exact hy) (by rw [h3]; exact hz) h4).1 hs
    obtain ⟨h8, h9⟩ := (uniQ_sat hB hx rfl h1).1 h6
    exact ⟨h8, .inr (.inr (.inr (.inr (.inr (.inr (.inr (.inr ⟨by simp only [List.map_cons, List.map_nil, h7, h9]; rfl, hk⟩)))))))⟩
   ·simp at h
   ·simp at h
  ·simp at h
 ·simp at h
end Go.Av

namespace Go.Av
attribute [-simp] Go.Av.astepJ Go.Av.relC Go.Av.relL Go.Av.relV Go.Av.relVs Go.Av.callJ
open Go

mutual
theorem meet_same : ∀ t : MTy, meetTy t t = t
 | .mk k l => by
  simp only [meetTy]
  split
  ·rfl
  ·first
   | rw [meet_sameS l]
   | (split; rfl; rw [meet_sameS l])
theorem meet_sameS : ∀ l : List MTy, meetTyS l l = l
 | [] => rfl
 | t :: r => by rw [meetTyS, meet_same t, meet_sameS r]
end
mutual
theorem cons_same : ∀ t : MTy, consTy t t = true
 | .mk k l => by
  simp only [consTy]
  simp [cons_sameS l]
theorem cons_sameS : ∀ l : List MTy, consTyS l l = true
 | [] => rfl
 | t :: r => by simp [consTyS, cons_same t, cons_sameS r]
end

theorem node_of_eq {ctx : List MBd} {kd : Int} {s : List UInt8} {ty : MTy} {ts : List MTy} {t : MTy} (h : nodeEq kd ts t) : (∀ T, nodeTy ctx kd s ty ts = some T -> T = t) /\ (shapeTy 4 t = true -> nodeTy ctx kd s ty ts = some t) := by
 rcases h with ⟨rfl, rfl⟩ | ⟨hk, rfl⟩ | ⟨X, rfl, rfl⟩ | ⟨X, rfl, rfl⟩ | ⟨X, Y, rfl, rfl, rfl⟩ | ⟨Y, rfl, rfl⟩ | ⟨rfl, rfl, rfl⟩ | ⟨rfl, rfl, rfl⟩ | ⟨rfl, rfl⟩
 ·simp [nodeTy] <;> try exact fun T h => h.symm
 ·rcases hk with rfl | rfl <;> simp [nodeTy] <;> try exact fun T h => h.symm
 ·simp [nodeTy, matchM] <;> try exact fun T h => h.symm
 ·simp [nodeTy, matchM] <;> try exact fun T h => h.symm
 ·simp only [nodeTy, twoM]
  refine ⟨fun T h => ?_, fun hs => ?_⟩
  ·simp at h; exact h.2.symm
  ·simp [hs]
 ·simp [nodeTy, matchM, cons_same] <;> try exact fun T h => h.symm
 ·simp [nodeTy, cons_same] <;> try exact fun T h => h.symm
 ·simp [nodeTy, cons_same] <;> try exact fun T h => h.symm
 ·simp [nodeTy, cons_same, meet_same] <;> try exact fun T h => h.symm
theorem inf_sat {θ : Nat -> MTy} {k : Nat} {e : MTm} (he : Ba e) : ∀ {B ls B' ls' : List IT} {ns : List UInt8} {ts : List IT} {t : IT}, OkB B -> CtxI B ns ts -> inf k e B ls ns ts = some (some (B', ls', t)) -> SatT θ B' -> SatT θ B := by
 induction he with
 | var c =>
  intro B ls B' ls' ns ts t hB hc h hs
  rw [inf_var] at h
  simp only [Option.some.injEq] at h
  split at h
  ·simp only [Option.map_eq_some_iff] at h
   obtain ⟨u, _, h2⟩ := h
   cases h2; exact hs
  ·simp at h
 | num n => intro B ls B' ls' ns ts t hB hc h hs; rw [inf_num] at h; cases h; exact hs
 | tru => intro B ls B' ls' ns ts t hB hc h hs; rw [inf_tru] at h; cases h; exact hs
 | fls => intro B ls B' ls' ns ts t hB hc h hs; rw [inf_fls] at h; cases h; exact hs
 | @lam c ty b _ ih =>
  intro B ls B' ls' ns ts t hB hc h hs
  rw [inf_lam] at h
  simp only [Option.map_eq_some_iff] at h
  obtain ⟨q, h1, r, rfl, h2⟩ := h
  cases h2
  have hN := NewV.one B
  exact hN.sat (ih ⟨hN.sc hB.sc, hN.acy hB.sc hB.acy⟩ ⟨by simp [hc.len], fun u hu => by
   rcases List.mem_append.1 hu with q | q
   ·exact sc_le hN.le (hc.scs u q)
   ·simp at q; subst q; simp [sc]⟩ h1 hs)
 | @n1 kd a hkd ha ih =>
  intro B ls B' ls' ns ts t hB hc h hs
  rw [inf_n1 _ _ _ _ _ hkd] at h
  split at h
  ·rename_i B1 ls1 u h1
   have g := inf_ok ha hB hc h1
   simp only [Option.map_eq_some_iff] at h
   obtain ⟨q, h2, r, rfl, h3⟩ := h
   obtain ⟨B2, w⟩ := r
   cases h3
   exact ih hB hc h1 (infN_sound g.ok (by simpa using g.sct) h2 hs).1
  ·simp at h
  ·simp at h
 | @n2 kd a b hkd ha hb iha ihb =>
  intro B ls B' ls' ns ts t hB hc h hs
  rw [inf_n2 _ _ _ _ _ hkd] at h
  split at h
  ·rename_i B1 ls1 u h1
   have g := inf_ok ha hB hc h1
   split at h
   ·rename_i B2 ls2 v h2
    have g2 := inf_ok hb g.ok (hc.le g.le) h2
    simp only [Option.map_eq_some_iff] at h
    obtain ⟨q, h3, r, rfl, h4⟩ := h
    obtain ⟨B3, w⟩ := r
    cases h4
    exact iha hB hc h1 (ihb g.ok (hc.le g.le) h2 (infN_sound g2.ok (by simp; exact ⟨sc_le g2.le g.sct, g2.sct⟩) h3 hs).1)
   ·simp at h
   ·simp at h
  ·simp at h
  ·simp at h
 | @ite a b c ha hb hcc iha ihb ihc =>
  intro B ls B' ls' ns ts t hB hc h hs
  rw [inf_if] at h
  split at h
  ·rename_i B1 ls1 u h1
   have g := inf_ok ha hB hc h1
   split at h
   ·rename_i B2 ls2 v h2
    have g2 := inf_ok hb g.ok (hc.le g.le) h2
    split at h
    ·rename_i B3 ls3 w h3
     have g3 := inf_ok hcc g2.ok ((hc.le g.le).le g2.le) h3
     simp only [Option.map_eq_some_iff] at h
     obtain ⟨q, h4, r, rfl, h5⟩ := h
     obtain ⟨B4, w⟩ := r
     cases h5
     exact iha hB hc h1 (ihb g.ok (hc.le g.le) h2 (ihc g2.ok ((hc.le g.le).le g2.le) h3 (infN_sound g3.ok (by simp; exact ⟨sc_le (Nat.le_trans g2.le g3.le) g.sct, sc_le g3.le g2.sct, g3.sct⟩) h4 hs).1))
    ·simp at h
    ·simp at h
   ·simp at h
   ·simp at h
  ·simp at h
  ·simp at h

theorem inf_sound {θ : Nat -> MTy} {k : Nat} {e : MTm} (he : Ba e) : ∀ {B ls B' new : List IT} {ns : List UInt8} {ts : List IT} {t : IT}, OkB B -> CtxI B ns ts -> inf k e B ls ns ts = some (some (B', ls ++ new, t)) -> SatT θ B' ->
  ∀ T, typeM (ctxI θ ns ts) (withM e (new.map (rdT θ))) = some T -> T = rdT θ t := by
 induction he with
 | var c =>
  intro B ls B' new ns ts t hB hc h hs T hT
  rw [inf_var] at h
  rw [withM_var, typeM_var, lookI θ c hc.len] at hT
  simp only [Option.some.injEq] at h
  split at h
  ·rename_i hge
   rw [if_pos hge] at hT
   simp only [Option.map_eq_some_iff] at h hT
   obtain ⟨u, h1, h2⟩ := h
   obtain ⟨u', h1', rfl⟩ := hT
   rw [h1] at h1'
   cases h1'
   simp only [Prod.mk.injEq] at h2
   rw [h2.2.2]
  ·simp at h
 | num n => intro B ls B' new ns ts t hB hc h hs T hT; rw [inf_num] at h; rw [withM_num, typeM_num] at hT; simp at h hT; rw [<- h.2.2, <- hT]; rfl
 | tru => intro B ls B' new ns ts t hB hc h hs T hT; rw [inf_tru] at h; rw [withM_tru, typeM_true] at hT; simp at h hT; rw [<- h.2.2, <- hT]; rfl
 | fls => intro B ls B' new ns ts t hB hc h hs T hT; rw [inf_fls] at h; rw [withM_fls, typeM_false] at hT; simp at h hT; rw [<- h.2.2, <- hT]; rfl
 | @lam c ty b hb ih =>
  intro B ls B' new ns ts t hB hc h hs T hT
  rw [inf_lam] at h
  simp only [Option.map_eq_some_iff] at h
  obtain ⟨q, h1, r, rfl, h2⟩ := h
  obtain ⟨B1, ls1, u⟩ := r
  simp only [Prod.mk.injEq] at h2
  obtain ⟨rfl, h3, rfl⟩ := h2
  have hN := NewV.one B
  have hB1 : OkB (B ++ [.v B.length]) := ⟨hN.sc hB.sc, hN.acy hB.sc hB.acy⟩
  have hc1 : CtxI (B ++ [.v B.length]) (ns ++ [c]) (ts ++ [.v B.length]) := ⟨by simp [hc.len], fun u hu => by
   rcases List.mem_append.1 hu with q | q
   ·exact sc_le hN.le (hc.scs u q)
   ·simp at q; subst q; simp [sc]⟩
  obtain ⟨g1, g2, g3, g4, new1, h4, g5, g6⟩ := inf_ok hb hB1 hc1 h1
  subst h4
  rw [List.append_assoc, List.append_cancel_left_eq] at h3
  subst h3
  simp only [List.cons_append, List.nil_append, List.map_cons] at hT
  rw [withM_lam, typeM_lam] at hT
  rw [<- ctxI_app θ c (.v B.length) hc.len] at hT
  simp only [Option.bind_eq_some_iff] at hT
  obtain ⟨U, hU, hT⟩ := hT
  have := ih hB1 hc1 h1 hs U hU
  subst this
  simp only [twoM] at hT
  split at hT
  ·simp at hT; rw [<- hT]; rfl
  ·simp at hT
 | @n1 kd a hkd ha ih =>
  intro B ls B' new ns ts t hB hc h hs T hT
  rw [inf_n1 _ _ _ _ _ hkd] at h
  split at h
  ·rename_i B1 ls1 u h1
   have g := inf_ok ha hB hc h1
   simp only [Option.map_eq_some_iff] at h
   obtain ⟨q, h2, r, rfl, h3⟩ := h
   obtain ⟨B2, w⟩ := r
   simp only [Prod.mk.injEq] at h3
   obtain ⟨rfl, rfl, rfl⟩ := h3
   obtain ⟨k1, k2⟩ := infN_sound g.ok (by simpa using g.sct) h2 hs
   rw [withM_n1 hkd, typeM_n1 _ _ hkd] at hT
   simp only [Option.bind_eq_some_iff] at hT
   obtain ⟨U, hU, hT⟩ := hT
   have := ih hB hc h1 k1 U hU
   subst this
   exact (node_of_eq k2).1 T hT
  ·simp at h
  ·simp at h
 | @n2 kd a b hkd ha hb iha ihb =>
  intro B ls B' new ns ts t hB hc h hs T hT
  rw [inf_n2 _ _ _ _ _ hkd] at h
  split at h
  ·rename_i B1 ls1 u h1
   have g := inf_ok ha hB hc h1
   split at h
   ·rename_i B2 ls2 v h2
    have g2 := inf_ok hb g.ok (hc.le g.le) h2
    simp only [Option.map_eq_some_iff] at h
    obtain ⟨q, h3, r, rfl, h4⟩ := h
    obtain ⟨B3, w⟩ := r
    simp only [Prod.mk.injEq] at h4
    obtain ⟨rfl, h4, rfl⟩ := h4
    obtain ⟨k1, k2⟩ := infN_sound g2.ok (by simp; exact ⟨sc_le g2.le g.sct, g2.sct⟩) h3 hs
    have k3 := inf_sat hb g.ok (hc.le g.le) h2 k1
    obtain ⟨new1, rfl, l1, _⟩ := g.lams
    obtain ⟨new2, h5, l2, _⟩ := g2.lams
    subst h5
    rw [List.append_assoc, List.append_cancel_left_eq] at h4
    subst h4
    have hkn : kd ≠ 5 := by omega
    have e1 : (new1.map (rdT θ)).length = (typesM a).length := by rw [List.length_map, l1]
    rw [List.map_append, withM_n2 hkd, withM_app ha _ e1, List.drop_left' e1, typeM_n2 _ _ _ hkn] at hT
    simp only [Option.bind_eq_some_iff] at hT
    obtain ⟨U, hU, V, hV, hT⟩ := hT
    have e2 := iha hB hc h1 k3 U hU
    have e3 := ihb g.ok (hc.le g.le) h2 k1 V hV
    subst e2; subst e3
    exact (node_of_eq k2).1 T hT
   ·simp at h
   ·simp at h
  ·simp at h
  ·simp at h
 | @ite a b c ha hb hcc iha ihb ihc =>
  intro B ls B' new ns ts t hB hc h hs T hT
  rw [inf_if] at h
  split at h
  ·rename_i B1 ls1 u h1
   have g := inf_ok ha hB hc h1
   split at h
   ·rename_i B2 ls2 v h2
    have g2 := inf_ok hb g.ok (hc.le g.le) h2
    split at h
    ·rename_i B3 ls3 w h3
     have g3 := inf_ok hcc g2.ok ((hc.le g.le).le g2.le) h3
     simp only [Option.map_eq_some_iff] at h
     obtain ⟨q, h4, r, rfl, h5⟩ := h
     obtain ⟨B4, z⟩ := r
     simp only [Prod.mk.injEq] at h5
     obtain ⟨rfl, h5, rfl⟩ := h5
     obtain ⟨k1, k2⟩ := infN_sound g3.ok (by simp; exact ⟨sc_le (Nat.le_trans g2.le g3.le) g.sct, sc_le g3.le g2.sct, g3.sct⟩) h4 hs
     have k3 := inf_sat hcc g2.ok ((hc.le g.le).le g2.le) h3 k1
     have k4 := inf_sat hb g.ok (hc.le g.le) h2 k3
     obtain ⟨new1, rfl, l1, _⟩ := g.lams
     obtain ⟨new2, h6, l2, _⟩ := g2.lams
     subst h6
     obtain ⟨new3, h7, l3, _⟩ := g3.lams
     subst h7
     rw [List.append_assoc, List.append_assoc, List.append_cancel_left_eq] at h5
     subst h5
     have e1 : (new1.map (rdT θ)).length = (typesM a).length := by rw [List.length_map, l1]
     have e2 : (new2.map (rdT θ)).length = (typesM b).length := by rw [List.length_map, l2]
     rw [List.map_append, List.map_append, withM_if, withM_app ha _ e1, List.drop_left' e1, withM_app hb _ e2, <- List.drop_drop, List.drop_left' e1, List.drop_left' e2, typeM_if] at hT
     simp only [Option.bind_eq_some_iff] at hT
     obtain ⟨U, hU, V, hV, W, hW, hT⟩ := hT
     have e4 := iha hB hc h1 k4 U hU
     have e5 := ihb g.ok (hc.le g.le) h2 k3 V hV
     have e6 := ihc g2.ok ((hc.le g.le).le g2.le) h3 k1 W hW
     subst e4; subst e5; subst e6
     exact (node_of_eq (ctx := []) (s := []) (ty := zeroT) k2).1 T (by simpa [nodeTy] using hT)
    ·simp at h
    ·simp at h
   ·simp at h
   ·simp at h
  ·simp at h
  ·simp at h
end Go.Av

namespace Go.Av
attribute [-simp] Go.Av.astepJ Go.Av.relC Go.Av.relL Go.Av.relV Go.Av.relVs Go.Av.callJ
open Go

inductive DL : MTy -> MTy -> Prop
 | int (b : MTy) : DL intT b
 | base (k : Int) : DL (.mk k []) (.mk k [])
 | two {k : Int} {a b a' b' : MTy} : DL a a' -> DL b b' -> DL (.mk k [a, b]) (.mk k [a', b'])
theorem DL.refl : ∀ {d : Nat} {t : MTy}, VTy d t -> DL t t := by
 intro d t h
 induction h with
 | any d => exact .base 1
 | int d => exact .base 2
 | bool d => exact .base 3
 | fn _ _ h1 h2 => exact .two h1 h2
 | pair _ _ h1 h2 => exact .two h1 h2
theorem DL.shape {a b : MTy} (h : DL a b) : ∀ {d : Nat}, shapeTy d b = true -> shapeTy d a = true := by
 induction h with
 | int b =>
  intro d hb
  cases d with
  | zero => simp [shapeTy] at hb
  | succ d => exact (VTy.int d).shape
 | base k => intro d hb; exact hb
 | two _ _ h1 h2 =>
  intro d hb
  cases d with
  | zero => simp [shapeTy] at hb
  | succ d =>
   simp only [shapeTy, Bool.and_eq_true, decide_eq_true_eq, List.all_eq_true] at hb ⊢
   simp only [MTy.kind_mk, MTy.kids_mk, List.mem_cons, List.not_mem_nil, or_false] at hb ⊢
   refine ⟨hb.1, fun u hu => ?_⟩
   rcases hu with rfl | rfl
   ·exact h1 (hb.2 _ (.inl rfl))
   ·exact h2 (hb.2 _ (.inr rfl))
def kdI : IT -> Prop
 | .v _ => True
 | .b k => k = 2 \/ k = 3
 | .p k x y => (k = 4 \/ k = 5) /\ kdI x /\ kdI y
structure Got (θ : Nat -> MTy) (B ls : List IT) (ns : List UInt8) (ts : List IT) (e : MTm) (T : MTy) : Prop where
 sta : cntM T = 0
 ex : ∃ k B' new t θ', inf k e B ls ns ts = some (some (B', ls ++ new, t)) /\ SatT θ' B' /\ (∀ n, n < B.length -> θ' n = θ n) /\ rdT θ' t = T /\ (∀ u ∈ new, shapeTy 4 (rdT θ' u) = true) /\
  ∀ θ0, SatT θ0 B' -> (∀ n, n < B'.length -> DL (θ0 n) (θ' n)) -> typeM (ctxI θ0 ns ts) (withM e (new.map (rdT θ0))) = some (rdT θ0 t)
def staC (c : List MBd) : Prop := ∀ b ∈ c, shapeTy 4 b.ty = true /\ cntM b.ty = 0
end Go.Av

namespace Go.Av
attribute [-simp] Go.Av.astepJ Go.Av.relC Go.Av.relL Go.Av.relV Go.Av.relVs Go.Av.callJ
open Go

def staD (B : List IT) (K : Nat) : Nat -> IT -> Option MTy
 | 0, _ => none
 | d + 1, t => match hd B K t with
  | .v _ => some intT
  | .b k => some (.mk k [])
  | .p k x y => match staD B K d x with
   | none => none
   | some X => match staD B K d y with
    | none => none
    | some Y => some (.mk k [X, Y])
def staL (B : List IT) (K : Nat) : List IT -> Option (List MTy)
 | [] => some []
 | t :: r => match staD B K 4 t with
  | none => none
  | some T => match staL B K r with
   | none => none
   | some Ts => some (T :: Ts)
def KdB (B : List IT) : Prop := ∀ t ∈ B, kdI t
theorem bd_kd {B : List IT} (h : KdB B) {n : Nat} {t : IT} (hb : bd B n = some t) : kdI t := h t (List.mem_of_getElem? (bd_some hb).1)
theorem hd_kd {B : List IT} (h : KdB B) : ∀ {k : Nat} {t : IT}, kdI t -> kdI (hd B k t)
 | 0, t, ht => by cases t <;> exact ht
 | k + 1, .v n, ht => by
  simp only [hd]
  split <;> rename_i hb
  ·exact ht
  ·exact hd_kd h (bd_kd h hb)
 | k + 1, .b _, ht => ht
 | k + 1, .p _ _ _, ht => ht
theorem KdB.set {B : List IT} (h : KdB B) {n : Nat} {t : IT} (ht : kdI t) : KdB (B.set n t) := by
 intro u hu
 rcases List.mem_or_eq_of_mem_set hu with h1 | rfl
 ·exact h u h1
 ·exact ht
theorem uni_kd : ∀ {k : Nat} {B B' : List IT} {a b : IT} {q : Bool}, KdB B -> kdI a -> kdI b -> uni k B a b = some (B', q) -> KdB B'
 | 0, B, B', a, b, q, _, _, _, h => by simp [uni] at h
 | k + 1, B, B', a, b, q, hB, ha, hb, h => by
  rw [uni] at h
  split at h
  ·have ha' := hd_kd hB (k := k) ha
   have hb' := hd_kd hB (k := k) hb
   generalize hd B k a = a' at *
   generalize hd B k b = b' at *
   match a', b', h with
   | .v n, b', h =>
    simp only at h
    split at h
    ·simp at h; obtain ⟨rfl, _⟩ := h; exact hB
    ·split at h
     ·simp at h; obtain ⟨rfl, _⟩ := h; exact hB
     ·simp at h; obtain ⟨rfl, _⟩ := h; exact hB.set hb'
   | .b _, .v n, h =>
    simp only at h
    split at h
    ·simp at h; obtain ⟨rfl, _⟩ := h; exact hB
    ·simp at h; obtain ⟨rfl, _⟩ := h; exact hB.set ha'
   | .p _ _ _, .v n, h =>
    simp only at h
    split at h
    ·simp at h; obtain ⟨rfl, _⟩ := h; exact hB
    ·simp at h; obtain ⟨rfl, _⟩ := h; exact hB.set ha'
   | .b _, .b _, h => simp at h; obtain ⟨rfl, _⟩ := h; exact hB
   | .b _, .p _ _ _, h => simp at h; obtain ⟨rfl, _⟩ := h; exact hB
   | .p _ _ _, .b _, h => simp at h; obtain ⟨rfl, _⟩ := h; exact hB
   | .p i x y, .p j x' y', h =>
    simp only at h
    split at h
    ·cases hu : uni k B x x' with
     | none => rw [hu] at h; simp at h
     | some r =>
      obtain ⟨B1, q1⟩ := r
      rw [hu] at h
      have h1 := uni_kd hB ha'.2.1 hb'.2.1 hu
      cases q1
      ·simp at h; obtain ⟨rfl, _⟩ := h; exact h1
      ·exact uni_kd h1 ha'.2.2 hb'.2.2 h
    ·simp at h; obtain ⟨rfl, _⟩ := h; exact hB
  ·simp at h
theorem uniQ_kd {k : Nat} {B B' : List IT} {a b : IT} (hB : KdB B) (ha : kdI a) (hb : kdI b) (h : uniQ k B a b = some (some B')) : KdB B' := by
 simp only [uniQ] at h
 split at h
 ·simp at h
 ·rename_i hu; simp at h; subst h; exact uni_kd hB ha hb hu
 ·simp at h
theorem KdB.app {B C : List IT} (h : KdB B) (hC : KdB C) : KdB (B ++ C) := by
 intro t ht
 rcases List.mem_append.1 ht with q | q
 ·exact h t q
 ·exact hC t q
theorem kd_v (l : List Nat) : KdB (l.map IT.v) := by
 intro t ht
 obtain ⟨n, _, rfl⟩ := List.mem_map.1 ht
 trivial
theorem infN_kd {k : Nat} {kd : Int} {B B' : List IT} {ts : List IT} {t : IT} (hB : KdB B) (hts : ∀ u ∈ ts, kdI u) (h : infN k kd B ts = some (some (B', t))) : KdB B' /\ kdI t := by
 have hB2 : KdB (B ++ [.v B.length, .v (B.length + 1)]) := hB.app (kd_v [_, _])
 simp only [infN] at h
 split at h
 ·simp at h; obtain ⟨rfl, rfl⟩ := h; exact ⟨hB, .inl rfl⟩
 split at h
 ·simp at h; obtain ⟨rfl, rfl⟩ := h; exact ⟨hB, .inr rfl⟩
 split at h
 ·rename_i x
  have hx := hts x (by simp)
  split at h
  ·simp only [Option.map_eq_some_iff] at h
   obtain ⟨r, h1, B2, rfl, h2⟩ := h
   cases h2
   exact ⟨uniQ_kd hB2 hx (show kdI (.p 5 (.v _) (.v _)) from ⟨.inr rfl, trivial, trivial⟩) h1, trivial⟩
  ·simp at h
 ·rename_i x y
  have hx := hts x (by simp)
  have hy := hts y (by simp)
  split at h
  ·simp at h; obtain ⟨rfl, rfl⟩ := h; exact ⟨hB, .inr rfl, hx, hy⟩
  split at h
  ·simp only [Option.map_eq_some_iff] at h
   obtain ⟨r, h1, B2, rfl, h2⟩ := h
   cases h2
   exact ⟨uniQ_kd hB2 hx (show kdI (.p 4 y (.v _)) from ⟨.inl rfl, hy, trivial⟩) h1, trivial⟩
  split at h
  ·split at h
   ·rename_i B1 h1
    simp only [Option.map_eq_some_iff] at h
    obtain ⟨r, h4, B2, rfl, h5⟩ := h
    cases h5
    refine ⟨uniQ_kd (uniQ_kd hB hx (show kdI (.b 2) from .inl rfl) h1) hy (show kdI (.b 2) from .inl rfl) h4, ?_⟩
    simp only [kdI]; split <;> omega
   ·simp at h
   ·simp at h
  ·simp at h
 ·rename_i x y z
  have hx := hts x (by simp)
  have hy := hts y (by simp)
  have hz := hts z (by simp)
  split at h
  ·split at h
   ·rename_i B1 h1
    simp only [Option.map_eq_some_iff] at h
    obtain ⟨r, h4, B2, rfl, h5⟩ := h
    cases h5
    exact ⟨uniQ_kd (uniQ_kd hB hx (show kdI (.b 3) from .inr rfl) h1) hy hz h4, hy⟩
   ·simp at h
   ·simp at h
  ·simp at h
 ·simp at h
theorem inf_kd {k : Nat} {e : MTm} (he : Ba e) : ∀ {B ls B' ls' : List IT} {ns : List UInt8} {ts : List IT} {t : IT}, KdB B -> KdB ls -> KdB ts -> inf k e B ls ns ts = some (some (B', ls', t)) -> KdB B' /\ KdB ls' /\ kdI t := by
 induction he with
 | var c =>
  intro B ls B' ls' ns ts t hB hl hc h
  rw [inf_var] at h
  simp only [Option.some.injEq] at h
  split at h
  ·simp only [Option.map_eq_some_iff] at h
   obtain ⟨u, h1, h2⟩ := h
   cases h2
   exact ⟨hB, hl, hc _ (List.mem_of_getElem? h1)⟩
  ·simp at h
 | num n => intro B ls B' ls' ns ts t hB hl hc h; rw [inf_num] at h; cases h; exact ⟨hB, hl, .inl rfl⟩
 | tru => intro B ls B' ls' ns ts t hB hl hc h; rw [inf_tru] at h; cases h; exact ⟨hB, hl, .inr rfl⟩
 | fls => intro B ls B' ls' ns ts t hB hl hc h; rw [inf_fls] at h; cases h; exact ⟨hB, hl, .inr rfl⟩
 | @lam c ty b _ ih =>
  intro B ls B' ls' ns ts t hB hl hc h
  rw [inf_lam] at h
  simp only [Option.map_eq_some_iff] at h
  obtain ⟨q, h1, r, rfl, h2⟩ := h
  cases h2
  obtain ⟨g1, g2, g3⟩ := ih (hB.app (kd_v [_])) (hl.app (kd_v [_])) (hc.app (kd_v [_])) h1
  exact ⟨g1, g2, .inl rfl, trivial, g3⟩
 | @n1 kd a hkd ha ih =>
  intro B ls B' ls' ns ts t hB hl hc h
  rw [inf_n1 _ _ _ _ _ hkd] at h
  split at h
  ·rename_i B1 ls1 u h1
   obtain ⟨g1, g2, g3⟩ := ih hB hl hc h1
   simp only [Option.map_eq_some_iff] at h
   obtain ⟨q, h2, r, rfl, h3⟩ := h
   obtain ⟨B2, w⟩ := r
   cases h3
   obtain ⟨k1, k2⟩ := infN_kd g1 (by simpa using g3) h2
   exact ⟨k1, g2, k2⟩
  ·simp at h
  ·simp at h
 | @n2 kd a b hkd ha hb iha ihb =>
  intro B ls B' ls' ns ts t hB hl hc h
  rw [inf_n2 _ _ _ _ _ hkd] at h
  split at h
  ·rename_i B1 ls1 u h1
   obtain ⟨g1, g2, g3⟩ := iha hB hl hc h1
   split at h
   ·rename_i B2 ls2 v h2
    obtain ⟨p1, p2, p3⟩ := ihb g1 g2 hc h2
    simp only [Option.map_eq_some_iff] at h
    obtain ⟨q, h3, r, rfl, h4⟩ := h
    obtain ⟨B3, w⟩ := r
    cases h4
    obtain ⟨k1, k2⟩ := infN_kd p1 (by simp; exact ⟨g3, p3⟩) h3
    exact ⟨k1, p2, k2⟩
   ·simp at h
   ·simp at h
  ·simp at h
  ·simp at h
 | @ite a b c ha hb hcc iha ihb ihc =>
  intro B ls B' ls' ns ts t hB hl hc h
  rw [inf_if] at h
  split at h
  ·rename_i B1 ls1 u h1
   obtain ⟨g1, g2, g3⟩ := iha hB hl hc h1
   split at h
   ·rename_i B2 ls2 v h2
    obtain ⟨p1, p2, p3⟩ := ihb g1 g2 hc h2
    split at h
    ·rename_i B3 ls3 w h3
     obtain ⟨r1, r2, r3⟩ := ihc p1 p2 hc h3
     simp only [Option.map_eq_some_iff] at h
     obtain ⟨q, h4, r, rfl, h5⟩ := h
     obtain ⟨B4, w⟩ := r
     cases h5
     obtain ⟨k1, k2⟩ := infN_kd r1 (by simp; exact ⟨g3, p3, r3⟩) h4
     exact ⟨k1, r2, k2⟩
    ·simp at h
    ·simp at h
   ·simp at h
   ·simp at h
  ·simp at h
  ·simp at h

def stI (B : List IT) : Nat -> IT -> MTy
 | k + 1, .v n => match bd B n with
  | none => intT
  | some t => stI B k t
 | 0, .v _ => intT
 | _, .b k => .mk k []
 | 0, .p _ _ _ => intT
 | j + 1, .p k x y => .mk k [stI B j x, stI B j y]
theorem stI_stable {B : List IT} : ∀ {k j : Nat} {t : IT}, ex B k t = true -> k <= j -> stI B j t = stI B k t
 | 0, j, t, h, _ => by simp [ex] at h
 | k + 1, j + 1, .v m, h, hj => by
  simp only [ex] at h
  simp only [stI]
  split <;> rename_i hb
  ·rfl
  ·rw [hb] at h; exact stI_stable h (by omega)
 | k + 1, j + 1, .b _, _, _ => rfl
 | k + 1, j + 1, .p _ x y, h, hj => by
  rw [ex, Bool.and_eq_true] at h
  simp only [stI, stI_stable h.1 (show k <= j by omega), stI_stable h.2 (show k <= j by omega)]
theorem acy_fuel {B : List IT} (h : Acy B) : ∃ K, ∀ n, n < B.length -> ex B K (.v n) = true := by
 have : ∀ m, m <= B.length -> ∃ K, ∀ n, n < m -> ex B K (.v n) = true := by
  intro m
  induction m with
  | zero => intro _; exact ⟨0, fun n hn => by omega⟩
  | succ m ih =>
   intro hm
   obtain ⟨K1, h1⟩ := ih (by omega)
   obtain ⟨K2, h2⟩ := h m (by omega)
   refine ⟨max K1 K2, fun n hn => ?_⟩
   by_cases e : n = m
   ·subst e; exact ex_le (Nat.le_max_right _ _) h2
   ·exact ex_le (Nat.le_max_left _ _) (h1 n (by omega))
 exact this B.length (Nat.le_refl _)
def Fuel (B : List IT) (K : Nat) : Prop := ∀ n, n < B.length -> ex B K (.v n) = true
theorem Fuel.le {B : List IT} {K J : Nat} (h : Fuel B K) (hj : K <= J) : Fuel B J := fun n hn => ex_le hj (h n hn)
def th0 (B : List IT) (K : Nat) (n : Nat) : MTy := stI B K (.v n)
theorem rd_th0 {B : List IT} {K : Nat} (hB : ScB B) (hK : Fuel B K) : ∀ {t : IT} {j : Nat}, sc B.length t = true -> ex B j t = true -> rdT (th0 B K) t = stI B j t
 | .v n, j, hs, hx => by
  have hn : n < B.length := by simpa [sc] using hs
  show stI B K (.v n) = _
  rw [<- stI_stable (hK n hn) (Nat.le_max_left K j), <- stI_stable hx (Nat.le_max_right K j)]
 | .b k, j + 1, _, _ => rfl
 | .b k, 0, _, hx => by simp [ex] at hx
 | .p k x y, j + 1, hs, hx => by
  rw [sc, Bool.and_eq_true] at hs
  rw [ex, Bool.and_eq_true] at hx
  simp only [rd_, gmk, stI]
  rw [show rd_ gmk (th0 B K) x = _ from rd_th0 hB hK hs.1 hx.1, show rd_ gmk (th0 B K) y = _ from rd_th0 hB hK hs.2 hx.2]
 | .p k x y, 0, _, hx => by simp [ex] at hx
theorem th0_sat {B : List IT} {K : Nat} (hB : ScB B) (hK : Fuel B K) : SatT (th0 B K) B := by
 intro n t hb
 have hn : n < B.length := (List.getElem?_eq_some_iff.1 (bd_some hb).1).1
 have hx := hK n hn
 cases K with
 | zero => simp [ex] at hx
 | succ K =>
  simp only [ex, hb] at hx
  rw [show rd_ gmk (th0 B (K + 1)) t = _ from rd_th0 hB hK (bd_sc hB hb) hx]
  show stI B (K + 1) (.v n) = _
  simp only [stI, hb]
theorem th0_free {B : List IT} {K n : Nat} (hf : bd B n = none) : th0 B K n = intT := by
 show stI B K (.v n) = _
 cases K with
 | zero => rfl
 | succ K => simp only [stI, hf]
theorem ex_of_fuel {B : List IT} {K : Nat} (hK : Fuel B K) : ∀ {t : IT}, sc B.length t = true -> ∃ j, ex B j t = true
 | .v n, hs => ⟨K, hK n (by simpa [sc] using hs)⟩
 | .b _, _ => ⟨1, rfl⟩
 | .p c x y, ht => by
  rw [sc, Bool.and_eq_true] at ht
  obtain ⟨k1, h1⟩ := ex_of_fuel hK ht.1
  obtain ⟨k2, h2⟩ := ex_of_fuel hK ht.2
  exact ⟨max k1 k2 + 1, by rw [ex, Bool.and_eq_true]; exact ⟨ex_le (Nat.le_max_left _ _) h1, ex_le (Nat.le_max_right _ _) h2⟩⟩
theorem hd_fuel {B : List IT} {K : Nat} (hK : Fuel B K) : ∀ {t : IT}, sc B.length t = true -> isHd B (hd B K t)
 | .v n, hs => hd_isHd (hK n (by simpa [sc] using hs))
 | .b _, _ => by intro n e; cases K <;> simp [hd] at e
 | .p _ _ _, _ => by intro n e; cases K <;> simp [hd] at e
theorem staD_some {B : List IT} {K : Nat} (hB : ScB B) (hKd : KdB B) (hK : Fuel B K) : ∀ {d : Nat} {t : IT} {T : MTy}, sc B.length t = true -> kdI t -> staD B K d t = some T -> T = rdT (th0 B K) t /\ shapeTy d T = true /\ cntM T = 0
 | 0, t, T, _, _, h => by simp [staD] at h
 | d + 1, t, T, hs, hk, h => by
  have h1 : rdT (th0 B K) (hd B K t) = rdT (th0 B K) t := rd_hd (th0_sat hB hK)
  have h2 := hd_fuel hK hs
  have h3 := hd_sc hB (k := K) hs
  have h4 := hd_kd hKd (k := K) hk
  simp only [staD] at h
  generalize hd B K t = u at *
  cases u with
  | v n =>
   simp at h; subst h
   exact ⟨by rw [<- h1]; exact (th0_free (h2 n rfl)).symm, (VTy.int d).shape, rfl⟩
  | b k =>
   simp at h; subst h
   refine ⟨by rw [<- h1]; rfl, ?_⟩
   rcases h4 with rfl | rfl
   ·exact ⟨(VTy.int d).shape, rfl⟩
   ·exact ⟨(VTy.bool d).shape, rfl⟩
  | p k x y =>
   rw [sc, Bool.and_eq_true] at h3
   simp only at h
   split at h
   ·simp at h
   ·rename_i X hX
    split at h
    ·simp at h
    ·rename_i Y hY
     simp at h; subst h
     obtain ⟨a1, a2, a3⟩ := staD_some hB hKd hK h3.1 h4.2.1 hX
     obtain ⟨b1, b2, b3⟩ := staD_some hB hKd hK h3.2 h4.2.2 hY
     refine ⟨by rw [<- h1]; simp only [rd_, gmk]; rw [show rd_ gmk (th0 B K) x = X from a1.symm, show rd_ gmk (th0 B K) y = Y from b1.symm], ?_⟩
     rcases h4.1 with rfl | rfl
     ·exact ⟨(VTy.fn (VTy.of a2) (VTy.of b2)).shape, by rw [cnt_two (by omega)]; omega⟩
     ·exact ⟨(VTy.pair (VTy.of a2) (VTy.of b2)).shape, by rw [cnt_two (by omega)]; omega⟩
theorem staL_some {B : List IT} {K : Nat} (hB : ScB B) (hKd : KdB B) (hK : Fuel B K) : ∀ {l : List IT} {Ts : List MTy}, (∀ t ∈ l, sc B.length t = true) -> KdB l -> staL B K l = some Ts -> Ts = l.map (rdT (th0 B K)) /\ ∀ T ∈ Ts, shapeTy 4 T = true /\ cntM T = 0
 | [], Ts, _, _, h => by simp [staL] at h; subst h; simp
 | t :: r, Ts, hs, hk, h => by
  simp only [staL] at h
  split at h
  ·simp at h
  ·rename_i T hT
   split at h
   ·simp at h
   ·rename_i R hR
    simp at h; subst h
    obtain ⟨a1, a2⟩ := staD_some hB hKd hK (hs t (by simp)) (hk t (by simp)) hT
    obtain ⟨b1, b2⟩ := staL_some hB hKd hK (fun u hu => hs u (by simp [hu])) (fun u hu => hk u (by simp [hu])) hR
    refine ⟨by rw [List.map_cons, <- a1, <- b1], fun U hU => ?_⟩
    rcases List.mem_cons.1 hU with rfl | q
    ·exact a2
    ·exact b2 U q
structure Whole (e : MTm) (k : Nat) (B ls : List IT) (t : IT) : Prop where
 ba : Ba e
 inf : Av.inf k e [] [] [] [] = some (some (B, ls, t))
theorem okB_nil : OkB [] := ⟨fun t h => (by cases h), fun n h => (by simp at h)⟩
theorem ctxI_nil : CtxI [] [] [] := ⟨rfl, fun u h => (by cases h)⟩
theorem Whole.ok {e : MTm} {k : Nat} {B ls : List IT} {t : IT} (h : Whole e k B ls t) : IOk e [] [] B ls t /\ KdB B /\ KdB ls /\ kdI t /\ ls.length = (typesM e).length /\ (∀ u ∈ ls, sc B.length u = true) /\ B.length <= 2 * nodesM e := by
 have h1 := inf_ok h.ba okB_nil ctxI_nil h.inf
 obtain ⟨h2, h3, h4⟩ := inf_kd h.ba (B := []) (ls := []) (ts := []) (fun t h => (by cases h)) (fun t h => (by cases h)) (fun t h => (by cases h)) h.inf
 obtain ⟨new, h5, h6, h7⟩ := h1.lams
 rw [List.nil_append] at h5
 subst h5
 exact ⟨h1, h2, h3, h4, h6, h7, by have := h1.len; simpa using this⟩
theorem Whole.typed {e : MTm} {k : Nat} {B ls : List IT} {t : IT} (h : Whole e k B ls t) {K : Nat} (hK : Fuel B K) {Ts : List MTy} (hs : staL B K ls = some Ts) {T : MTy} (hT : typeM [] (withM e Ts) = some T) : T = rdT (th0 B K) t := by
 obtain ⟨h1, h2, h3, h4, h5, h6, _⟩ := h.ok
 obtain ⟨a1, a2⟩ := staL_some h1.ok.sc h2 hK h6 h3 hs
 rw [a1] at hT
 exact inf_sound (new := ls) h.ba okB_nil ctxI_nil (by rw [List.nil_append]; exact h.inf) (th0_sat h1.ok.sc hK) T hT
end Go.Av

namespace Go.Av
attribute [-simp] Go.Av.astepJ Go.Av.relC Go.Av.relL Go.Av.relV Go.Av.relVs Go.Av.callJ
open Go

def szI (B : List IT) : Nat -> IT -> Nat
 | k + 1, .v n => match bd B n with
  | none => 1
  | some t => szI B k t
 | k + 1, .p _ x y => 1 + szI B k x + szI B k y
 | _, _ => 1
theorem szI_pos {B : List IT} : ∀ {k : Nat} {t : IT}, 1 <= szI B k t
 | 0, t => by cases t <;> simp [szI]
 | k + 1, .v n => by
  simp only [szI]
  split
  ·omega
  ·exact szI_pos
 | k + 1, .b _ => by simp [szI]
 | k + 1, .p _ x y => by simp only [szI]; omega
theorem szI_stable {B : List IT} : ∀ {k j : Nat} {t : IT}, ex B k t = true -> k <= j -> szI B j t = szI B k t
 | 0, j, t, h, _ => by simp [ex] at h
 | k + 1, j + 1, .v m, h, hj => by
  simp only [ex] at h
  simp only [szI]
  split <;> rename_i hb
  ·rfl
  ·rw [hb] at h; exact szI_stable h (by omega)
 | k + 1, j + 1, .b _, _, _ => rfl
 | k + 1, j + 1, .p _ x y, h, hj => by
  rw [ex, Bool.and_eq_true] at h
  simp only [szI, szI_stable h.1 (show k <= j by omega), szI_stable h.2 (show k <= j by omega)]
theorem szI_hd {B : List IT} : ∀ {k : Nat} {t : IT}, ex B k t = true -> szI B k (hd B k t) = szI B k t
 | 0, t, h => by simp [ex] at h
 | k + 1, .v m, h => by
  simp only [ex] at h
  simp only [hd]
  cases hb : bd B m with
  | none => simp
  | some t =>
   rw [hb] at h
   simp only at h ⊢
   rw [szI_stable (hd_ex h) (Nat.le_succ k), szI_hd h]
   simp only [szI, hb]
 | k + 1, .b _, h => rfl
 | k + 1, .p _ x y, h => rfl
def ixOf (n : Nat) : List Nat -> Nat
 | [] => 0
 | x :: r => if x = n then 0 else ixOf n r + 1
theorem ixOf_mem {n : Nat} : ∀ {l : List Nat}, n ∈ l -> ixOf n l < l.length /\ l[ixOf n l]? = some n /\ ∀ j, j < ixOf n l -> l[j]? ≠ some n
 | x :: r, h => by
  simp only [ixOf]
  by_cases e : x = n
  ·rw [if_pos e]; subst e; exact ⟨by simp, rfl, fun j hj => by omega⟩
  ·rw [if_neg e]
   have hr : n ∈ r := by
    rcases List.mem_cons.1 h with q | q
    ·exact absurd q.symm e
    ·exact q
   obtain ⟨h1, h2, h3⟩ := ixOf_mem hr
   refine ⟨by simp; omega, by simpa using h2, fun j hj => ?_⟩
   cases j with
   | zero => simpa using e
   | succ j => simpa using h3 j (by omega)
theorem ixOf_no {n : Nat} : ∀ {l : List Nat}, n ∉ l -> ixOf n l = l.length
 | [], _ => rfl
 | x :: r, h => by
  simp only [List.mem_cons, not_or] at h
  simp only [ixOf]
  rw [if_neg (fun e => h.1 e.symm), ixOf_no h.2]; rfl
def letB (i : Nat) : UInt8 := UInt8.ofNat (97 + i)
def txI (B : List IT) : Nat -> IT -> List Nat -> List UInt8 × List Nat
 | k + 1, .v n, seen => match bd B n with
  | none => ([letB (ixOf n seen)], if n ∈ seen then seen else seen ++ [n])
  | some t => txI B k t seen
 | k + 1, .p c x y, seen => (40 :: ((txI B k x seen).1 ++ signB c :: ((txI B k y (txI B k x seen).2).1 ++ [41])), (txI B k y (txI B k x seen).2).2)
 | _, .b c, seen => ([signB c], seen)
 | 0, _, seen => ([], seen)
theorem txI_stable {B : List IT} : ∀ {k j : Nat} {t : IT} {seen : List Nat}, ex B k t = true -> k <= j -> txI B j t seen = txI B k t seen
 | 0, j, t, _, h, _ => by simp [ex] at h
 | k + 1, j + 1, .v m, seen, h, hj => by
  simp only [ex] at h
  simp only [txI]
  split <;> rename_i hb
  ·rfl
  ·rw [hb] at h; exact txI_stable h (by omega)
 | k + 1, j + 1, .b _, _, _, _ => rfl
 | k + 1, j + 1, .p _ x y, seen, h, hj => by
  rw [ex, Bool.and_eq_true] at h
  simp only [txI, txI_stable h.1 (show k <= j by omega), txI_stable h.2 (show k <= j by omega)]
theorem txI_hd {B : List IT} {seen : List Nat} : ∀ {k : Nat} {t : IT}, ex B k t = true -> txI B k (hd B k t) seen = txI B k t seen
 | 0, t, h => by simp [ex] at h
 | k + 1, .v m, h => by
  simp only [ex] at h
  simp only [hd]
  cases hb : bd B m with
  | none => simp
  | some t =>
   rw [hb] at h
   simp only at h ⊢
   rw [txI_stable (hd_ex h) (Nat.le_succ k), txI_hd h]
   simp only [txI, hb]
 | k + 1, .b _, h => rfl
 | k + 1, .p _ x y, h => rfl
theorem txI_len {B : List IT} : ∀ {k : Nat} {t : IT} {seen : List Nat}, ex B k t = true -> (txI B k t seen).1.length <= 3 * szI B k t /\ 2 * (txI B k t seen).2.length <= 2 * seen.length + szI B k t + 1 /\ seen.length <= (txI B k t seen).2.length
 | 0, t, _, h => by simp [ex] at h
 | k + 1, .v m, seen, h => by
  simp only [ex] at h
  simp only [txI, szI]
  cases hb : bd B m with
  | none =>
   refine ⟨by simp, ?_, ?_⟩
   ·dsimp only; split <;> (try simp) <;> omega
   ·dsimp only; split <;> simp
  | some t => rw [hb] at h; exact txI_len h
 | k + 1, .b _, _, _ => by simp [txI, szI]; omega
 | k + 1, .p _ x y, seen, h => by
  rw [ex, Bool.and_eq_true] at h
  obtain ⟨h1, h2, h3⟩ := txI_len (seen := seen) h.1
  obtain ⟨h4, h5, h6⟩ := txI_len (seen := (txI B k x seen).2) h.2
  simp only [txI, szI, List.length_cons, List.length_append, List.length_nil]
  omega
def unlet (c : UInt8) : UInt8 := if 97 <= c.toNat /\ c.toNat <= 122 then 73 else c
theorem lastIx_mem {s : List UInt8} {c : UInt8} : ∀ {p : Nat}, 0 <= lastUp s c p -> c ∈ s
 | 0, h => by simp [lastUp] at h
 | p + 1, h => by
  simp only [lastUp] at h
  split at h
  ·rename_i hs; exact List.mem_of_getElem? hs
  ·exact lastIx_mem h
theorem inf_closed {k : Nat} {e : MTm} (he : Ba e) (z : UInt8) : ∀ {B ls : List IT} {ns : List UInt8} {ts : List IT} {r : List IT × List IT × IT}, inf k e B ls ns ts = some (some r) -> freeIn z ns e = false := by
 induction he with
 | var c =>
  intro B ls ns ts r h
  rw [inf_var] at h
  simp only [Option.some.injEq] at h
  split at h
  ·rename_i hge
   have := lastIx_mem (s := ns) (c := c) (p := ns.length) hge
   simp only [freeIn, freeInS]
   by_cases hz : c = z
   ·subst hz; simp [this]
   ·simp [hz]
  ·simp at h
 | num n => intro B ls ns ts r h; simp [freeIn, freeInS]
 | tru => intro B ls ns ts r h; simp [freeIn, freeInS]
 | fls => intro B ls ns ts r h; simp [freeIn, freeInS]
 | @lam c ty b _ ih =>
  intro B ls ns ts r h
  rw [inf_lam] at h
  simp only [Option.map_eq_some_iff] at h
  obtain ⟨q, h1, r', rfl, _⟩ := h
  simp [freeIn, freeInS, ih h1]
 | @n1 kd a hkd ha ih =>
  intro B ls ns ts r h
  rw [inf_n1 _ _ _ _ _ hkd] at h
  split at h
  ·rename_i B1 ls1 u h1
   simp [freeIn, freeInS, ih h1, show ¬ kd = 1 by omega, show ¬ kd = 5 by omega]
  ·simp at h
  ·simp at h
 | @n2 kd a b hkd ha hb iha ihb =>
  intro B ls ns ts r h
  rw [inf_n2 _ _ _ _ _ hkd] at h
  split at h
  ·rename_i B1 ls1 u h1
   split at h
   ·rename_i B2 ls2 v h2
    simp [freeIn, freeInS, iha h1, ihb h2, show ¬ kd = 1 by omega, show ¬ kd = 5 by omega]
   ·simp at h
   ·simp at h
  ·simp at h
  ·simp at h
 | @ite a b c ha hb hcc iha ihb ihc =>
  intro B ls ns ts r h
  rw [inf_if] at h
  split at h
  ·rename_i B1 ls1 u h1
   split at h
   ·rename_i B2 ls2 v h2
    split at h
    ·rename_i B3 ls3 w h3
     simp [freeIn, freeInS, iha h1, ihb h2, ihc h3]
    ·simp at h
    ·simp at h
   ·simp at h
   ·simp at h
  ·simp at h
  ·simp at h
theorem Whole.closed {e : MTm} {k : Nat} {B ls : List IT} {t : IT} (h : Whole e k B ls t) : ∀ z, freeIn z [] e = false := fun z => inf_closed h.ba z h.inf
end Go.Av

namespace Go.Av
attribute [-simp] Go.Av.astepJ Go.Av.relC Go.Av.relL Go.Av.relV Go.Av.relVs Go.Av.callJ
open Go

def IT.kind : IT -> Int
 | .v _ => 0
 | .b k => k
 | .p k _ _ => k
def IT.name : IT -> Nat
 | .v n => n
 | _ => 0
def IT.kids : IT -> List IT
 | .p _ x y => [x, y]
 | _ => []
section
variable (n : Nat) (k : Int) (x y : IT)
@[simp] theorem IT.kind_v : (IT.v n).kind = 0 := rfl
@[simp] theorem IT.kind_b : (IT.b k).kind = k := rfl
@[simp] theorem IT.kind_p : (IT.p k x y).kind = k := rfl
@[simp] theorem IT.name_v : (IT.v n).name = n := rfl
@[simp] theorem IT.name_b : (IT.b k).name = 0 := rfl
@[simp] theorem IT.name_p : (IT.p k x y).name = 0 := rfl
@[simp] theorem IT.kids_v : (IT.v n).kids = [] := rfl
@[simp] theorem IT.kids_b : (IT.b k).kids = [] := rfl
@[simp] theorem IT.kids_p : (IT.p k x y).kids = [x, y] := rfl
end
def eIT : IT -> List DV
 | .v n => [.i 0, .i n, .sl []]
 | .b k => [.i k, .i 0, .sl []]
 | .p k x y => [.i k, .i 0, .sl [eIT x, eIT y]]
theorem eIT_def (t : IT) : eIT t = [.i t.kind, .i t.name, .sl (t.kids.map eIT)] := by cases t <;> rfl
@[simp] theorem eIT_len (t : IT) : (eIT t).length = 3 := by cases t <;> rfl
theorem eIT_v (n : Nat) : eIT (.v n) = [.i 0, .i n, .sl []] := rfl
theorem eIT_b (k : Int) : eIT (.b k) = [.i k, .i 0, .sl []] := rfl
theorem eIT_p (k : Int) (x y : IT) : eIT (.p k x y) = [.i k, .i 0, .sl [eIT x, eIT y]] := rfl
theorem eIT_drop (t : IT) : List.drop 3 (eIT t) = [] := by cases t <;> rfl
abbrev aIT (t : IT) : AV := .agg [.d (.i t.kind), .d (.i t.name), .d (.sl (t.kids.map eIT))]
abbrev aSt (B ls : List IT) : AV := .agg [.d (.sl (B.map eIT)), .d (.sl (ls.map eIT))]

theorem hd_step {B : List IT} {k n : Nat} {t : IT} (hb : bd B n = some t) : hd B (k + 1) (.v n) = hd B k t := by simp [hd, hb]
theorem hd_free {B : List IT} {k n : Nat} (hb : bd B n = none) : hd B k (.v n) = .v n := by cases k <;> simp [hd, hb]
theorem kdI_ne {t : IT} (h : kdI t) (hv : ∀ n, t ≠ .v n) : t.kind ≠ 0 := by
 cases t with
 | v n => exact absurd rfl (hv n)
 | b k => simp only [kdI] at h; simp only [IT.kind_b]; omega
 | p k x y => simp only [kdI] at h; simp only [IT.kind_p]; omega
theorem kdI_kids {t : IT} (h : kdI t) : ∀ u ∈ t.kids, kdI u := by
 intro u hu
 cases t with
 | v n => cases hu
 | b k => cases hu
 | p k x y => simp only [kdI] at h; simp only [IT.kids_p, List.mem_cons, List.not_mem_nil, or_false] at hu; rcases hu with rfl | rfl <;> simp [h]
theorem sc_kids {N : Nat} {t : IT} (h : sc N t = true) : ∀ u ∈ t.kids, sc N u = true := by
 intro u hu
 cases t with
 | v n => cases hu
 | b k => cases hu
 | p k x y => simp only [sc, Bool.and_eq_true] at h; simp only [IT.kids_p, List.mem_cons, List.not_mem_nil, or_false] at hu; rcases hu with rfl | rfl <;> simp [h]
theorem occ_kids {B : List IT} {n k : Nat} {t : IT} (hx : ex B k t = true) (hv : ∀ n, t ≠ .v n) : occ B n k t = t.kids.any fun u => occ B n k u := by
 cases k with
 | zero => simp [ex] at hx
 | succ k =>
  cases t with
  | v m => exact absurd rfl (hv m)
  | b c => simp [occ]
  | p c x y =>
   simp only [ex, Bool.and_eq_true] at hx
   simp only [occ, IT.kids_p, List.any_cons, List.any_nil, Bool.or_false]
   rw [occ_stable hx.1 (Nat.le_succ k), occ_stable hx.2 (Nat.le_succ k)]
def bindI (k : Nat) (B : List IT) (n : Nat) (t : IT) : List IT × Bool := if t = .v n then (B, true) else if occ B n k t = true then (B, false) else (B.set n t, true)
end Go.Av

namespace Go.Av
attribute [-simp] Go.Av.astepJ Go.Av.relC Go.Av.relL Go.Av.relV Go.Av.relVs Go.Av.callJ
open Go

theorem Whole.uniq {e : MTm} {k k' : Nat} {B B' ls ls' : List IT} {t t' : IT} (h : Whole e k B ls t) (h' : Whole e k' B' ls' t') : B = B' /\ ls = ls' /\ t = t' := by
 have h1 := inf_le (Nat.le_add_right k k') h.ba h.inf
 have h2 := inf_le (Nat.le_add_left k' k) h.ba h'.inf
 rw [h1] at h2
 simp only [Option.some.injEq, Prod.mk.injEq] at h2
 exact h2
theorem Whole.not {e : MTm} {k k' : Nat} {B ls : List IT} {t : IT} (h : Whole e k B ls t) (h' : Av.inf k' e [] [] [] [] = some none) : False := by
 have h1 := inf_le (Nat.le_add_right k k') h.ba h.inf
 have h2 := inf_le (Nat.le_add_left k' k) h.ba h'
 rw [h1] at h2
 cases h2
theorem whole_or {e : MTm} (he : Ba e) : (∃ k B ls t, Whole e k B ls t) \/ ∃ k, inf k e [] [] [] [] = some none := by
 obtain ⟨k, r, hr⟩ := inf_total he (B := []) (ls := []) (ns := []) (ts := []) okB_nil ctxI_nil
 cases r with
 | none => exact .inr ⟨k, hr⟩
 | some r => obtain ⟨B, ls, t⟩ := r; exact .inl ⟨k, B, ls, t, he, hr⟩
theorem Whole.fuel {e : MTm} {k : Nat} {B ls : List IT} {t : IT} (h : Whole e k B ls t) : ∃ K, Fuel B K := by
 obtain ⟨h1, _⟩ := h.ok
 exact acy_fuel h1.ok.acy

open Classical in
noncomputable def genB (e : MTm) : Option (List UInt8) := if h : ∃ x : Nat × List IT × List IT × IT × Nat, Whole e x.1 x.2.1 x.2.2.1 x.2.2.2.1 /\ ex x.2.1 x.2.2.2.2 x.2.2.2.1 = true /\ szI x.2.1 x.2.2.2.2 x.2.2.2.1 <= 30
 then some (txI h.choose.2.1 h.choose.2.2.2.2 h.choose.2.2.2.1 []).1 else none
theorem genB_some {e : MTm} {k j : Nat} {B ls : List IT} {t : IT} (h : Whole e k B ls t) (hx : ex B j t = true) (hz : szI B j t <= 30) : genB e = some (txI B j t []).1 := by
 have hex : ∃ x : Nat × List IT × List IT × IT × Nat, Whole e x.1 x.2.1 x.2.2.1 x.2.2.2.1 /\ ex x.2.1 x.2.2.2.2 x.2.2.2.1 = true /\ szI x.2.1 x.2.2.2.2 x.2.2.2.1 <= 30 := ⟨(k, B, ls, t, j), h, hx, hz⟩
 rw [genB, dif_pos hex]
 obtain ⟨h1, h2, h3⟩ := hex.choose_spec
 obtain ⟨e1, _, e3⟩ := h.uniq h1
 rw [<- e1, <- e3] at h2 ⊢
 rw [<- txI_stable (seen := []) h2 (Nat.le_add_right _ j), <- txI_stable (seen := []) hx (Nat.le_add_left j _)]
theorem genB_large {e : MTm} {k j : Nat} {B ls : List IT} {t : IT} (h : Whole e k B ls t) (hx : ex B j t = true) (hz : ¬ szI B j t <= 30) : genB e = none := by
 rw [genB, dif_neg]
 rintro ⟨x, h1, h2, h3⟩
 obtain ⟨e1, _, e3⟩ := h.uniq h1
 rw [<- e1, <- e3] at h2 h3
 rw [<- szI_stable h2 (Nat.le_add_right _ j), szI_stable hx (Nat.le_add_left j _)] at h3
 exact hz h3
theorem genB_none {e : MTm} {k : Nat} (h : inf k e [] [] [] [] = some none) : genB e = none := by
 rw [genB, dif_neg]
 rintro ⟨x, h1, _⟩
 exact h1.not h
noncomputable def genM (e : MTm) : Option (List UInt8) := if termValidM e = true then genB (mapM bareG e) else none
end Go.Av
