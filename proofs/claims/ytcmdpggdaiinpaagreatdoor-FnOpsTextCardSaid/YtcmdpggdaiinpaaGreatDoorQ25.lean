/- A part of the library of this seat. -/
import Derived.Test.YtcmdpggdaiinpaaGreatDoorQ24
set_option linter.unusedVariables false
set_option linter.unusedSimpArgs false
namespace Go.Av
attribute [-simp] Go.Av.MCo.kind_mk Go.Av.MCo.tag_mk Go.Av.MCo.label_mk Go.Av.MCo.kids_mk Go.Av.astepJ Go.Av.relC Go.Av.relL Go.Av.relV Go.Av.relVs Go.Av.callJ
open Go

def lastUp (s : List UInt8) (c : UInt8) : Nat -> Int
 | 0 => -1
 | p + 1 => if s[p]? = some c then (p : Int) else lastUp s c p
def lastIx (s : List UInt8) (c : UInt8) : Int := lastUp s c s.length
theorem lastUp_pos {s : List UInt8} {c : UInt8} : ∀ {p i : Nat}, i < p -> s[i]? = some c -> 0 <= lastUp s c p
 | p + 1, i, h, hs => by
  simp only [lastUp]
  split
  ·omega
  ·rename_i hn
   have : i ≠ p := by rintro rfl; exact hn hs
   exact lastUp_pos (show i < p by omega) hs
theorem lastIx_pos {s : List UInt8} {c : UInt8} (h : c ∈ s) : 0 <= lastIx s c := by
 obtain ⟨i, hi⟩ := List.getElem?_of_mem h
 exact lastUp_pos (List.getElem?_eq_some_iff.1 hi).1 hi

def lastOp (k : Int) : Int := if k = 6 then 6 else if k = 7 then 7 else if k = 8 then 8 else if k = 10 then 11 else if k = 11 then 12 else 13
def opNode (k : Int) (x n : Int) (cs : List (List MOp)) : List MOp :=
 if k = 1 then [⟨3, x⟩] else if k = 2 then [⟨1, n⟩] else if k = 3 then [⟨2, 1⟩] else if k = 4 then [⟨2, 0⟩]
 else if k = 5 then (match cs with | [b] => [⟨4, b.length + 1⟩] ++ b ++ [⟨5, 0⟩] | _ => [])
 else if k = 9 then (match cs with | [c, y, z] => c ++ [⟨9, y.length + 1⟩] ++ y ++ [⟨10, z.length⟩] ++ z | _ => [])
 else cs.flatten ++ [⟨lastOp k, 0⟩]
mutual
def compM (names : List UInt8) : MTm -> List MOp
 | .mk k s n _ _ _ l => opNode k (names.length - 1 - lastIx names (s.headD 0)) n (compS (if k = 5 then names ++ s else names) l)
def compS (names : List UInt8) : List MTm -> List (List MOp)
 | [] => []
 | e :: r => compM names e :: compS names r
end
theorem compS_map (names : List UInt8) : ∀ l : List MTm, compS names l = l.map (compM names)
 | [] => rfl
 | e :: r => by rw [compS, compS_map names r]; rfl
theorem compM_def (names : List UInt8) (e : MTm) : compM names e = opNode e.kind (names.length - 1 - lastIx names (e.name.headD 0)) e.num (e.kids.map (compM (if e.kind = 5 then names ++ e.name else names))) := by
 cases e with
 | mk k s n t f b l => rw [compM, compS_map]; rfl
theorem opNode_len (k x n : Int) (cs : List (List MOp)) : (opNode k x n cs).length <= (cs.map List.length).sum + 2 := by
 have hf : (cs.flatten).length = (cs.map List.length).sum := by rw [List.length_flatten]
 simp only [opNode]
 (repeat' split) <;> simp <;> omega
theorem comp_len : ∀ (e : MTm) (names : List UInt8), (compM names e).length <= 2 * nodesM e
 | .mk k s n t f b l, names => by
  rw [compM]
  have h1 := opNode_len k (names.length - 1 - lastIx names (s.headD 0)) n (compS (if k = 5 then names ++ s else names) l)
  have h2 := comp_lenS l (if k = 5 then names ++ s else names)
  rw [nodesM]
  omega
where comp_lenS : ∀ (l : List MTm) (names : List UInt8), ((compS names l).map List.length).sum <= 2 * nodesS l
 | [], names => by simp [compS]
 | e :: r, names => by
  have h1 := comp_len e names
  have h2 := comp_lenS r names
  rw [compS, nodesS, List.map_cons, List.sum_cons]
  omega

inductive BaV : List UInt8 -> MTm -> Prop
 | var {ns : List UInt8} {c : UInt8} : c ∈ ns -> BaV ns (tVar [c])
 | num {ns : List UInt8} (n : Int) : BaV ns (tNum n)
 | tru {ns : List UInt8} : BaV ns tTrue
 | fls {ns : List UInt8} : BaV ns tFalse
 | lam {ns : List UInt8} {c : UInt8} {t : MTy} {b : MTm} : BaV (ns ++ [c]) b -> BaV ns (tLam [c] t b)
 | n2 {ns : List UInt8} {k : Int} {a b : MTm} : k = 6 \/ k = 7 \/ k = 8 \/ k = 10 -> BaV ns a -> BaV ns b -> BaV ns (tN2 k a b)
 | ite {ns : List UInt8} {a b c : MTm} : BaV ns a -> BaV ns b -> BaV ns c -> BaV ns (tIf a b c)
 | n1 {ns : List UInt8} {k : Int} {a : MTm} : k = 11 \/ k = 12 -> BaV ns a -> BaV ns (tN1 k a)
theorem BaV.of {nt : Int} {d : Nat} {e : MTm} (h : TmV nt d e) : ∀ ns, (∀ z, freeIn z ns e = false) -> BaV ns (mapM bareG e) := by
 induction h with
 | @var d s _ hs =>
  intro ns hf
  obtain ⟨c, rfl, _⟩ := nameM_one hs
  have := hf c
  simp [freeIn, freeInS] at this
  rw [show mapM bareG (tVar [c]) = tVar [c] by simp [mapM, mapS, bareG]]
  exact .var this
 | @num d n _ _ _ => intro ns hf; rw [show mapM bareG (tNum n) = tNum n by simp [mapM, mapS, bareG]]; exact .num n
 | tru _ => intro ns hf; rw [show mapM bareG tTrue = tTrue by simp [mapM, mapS, bareG]]; exact .tru
 | fls _ => intro ns hf; rw [show mapM bareG tFalse = tFalse by simp [mapM, mapS, bareG]]; exact .fls
 | @lam d s t b _ hs _ _ ih =>
  intro ns hf
  obtain ⟨c, rfl, _⟩ := nameM_one hs
  rw [show mapM bareG (tLam [c] t b) = tLam [c] anyT (mapM bareG b) by simp [mapM, mapS, bareG]]
  exact .lam (ih _ fun z => by have := hf z; simpa [freeIn, freeInS] using this)
 | @n2 d k a b _ hk _ _ iha ihb =>
  intro ns hf
  have h1 : ¬ (k = 13 \/ k = 14) := by omega
  have h2 : ¬ k = 5 := by omega
  have h3 : ¬ k = 1 := by omega
  rw [show mapM bareG (tN2 k a b) = tN2 k (mapM bareG a) (mapM bareG b) by simp [mapM, mapS, bareG, h1, h2]]
  have := fun z => hf z
  simp [freeIn, freeInS, h2, h3] at this
  exact .n2 hk (iha _ fun z => (this z).1) (ihb _ fun z => (this z).2)
 | @ite d a b c _ _ _ _ ihp iha ihb =>
  intro ns hf
  rw [show mapM bareG (tIf a b c) = tIf (mapM bareG a) (mapM bareG b) (mapM bareG c) by simp [mapM, mapS, bareG]]
  have := fun z => hf z
  simp [freeIn, freeInS] at this
  exact .ite (ihp _ fun z => (this z).1) (iha _ fun z => (this z).2.1) (ihb _ fun z => (this z).2.2)
 | @n1 d k a _ hk _ ih =>
  intro ns hf
  have h1 : ¬ (k = 13 \/ k = 14) := by omega
  have h2 : ¬ k = 5 := by omega
  have h3 : ¬ k = 1 := by omega
  rw [show mapM bareG (tN1 k a) = tN1 k (mapM bareG a) by simp [mapM, mapS, bareG, h1, h2]]
  have := fun z => hf z
  simp [freeIn, freeInS, h2, h3] at this
  exact .n1 hk (ih _ this)
 | asc _ _ _ ih =>
  intro ns hf
  have := fun z => hf z
  simp [freeIn, freeInS] at this
  have h := ih _ this
  simpa [mapM, mapS, bareG] using h
 | cast _ _ _ _ _ _ ih =>
  intro ns hf
  have := fun z => hf z
  simp [freeIn, freeInS] at this
  have h := ih _ this
  simpa [mapM, mapS, bareG] using h
structure BaHead (ns : List UInt8) (e : MTm) : Prop where
 var : e.kind = 1 -> ∃ c, e.name = [c] /\ c ∈ ns /\ e.kids = []
 lam : e.kind = 5 -> ∃ c b, e.name = [c] /\ e.kids = [b]
 ite : e.kind = 9 -> ∃ a b c, e.kids = [a, b, c]
 kind : 1 <= e.kind /\ e.kind <= 12
 leaf : e.kind <= 4 -> e.kids = []
 len : e.kids.length <= 3
 nlen : e.name.length <= 1
 kids : ∀ u ∈ e.kids, BaV (if e.kind = 5 then ns ++ e.name else ns) u
theorem BaV.head {ns : List UInt8} {e : MTm} (h : BaV ns e) : BaHead ns e := by
 cases h with
 | @var _ c hc => exact ⟨fun _ => ⟨c, rfl, hc, rfl⟩, by simp, by simp, by simp, fun _ => rfl, by simp, by simp, by simp⟩
 | num n => exact ⟨by simp, by simp, by simp, by simp, fun _ => rfl, by simp, by simp, by simp⟩
 | tru => exact ⟨by simp, by simp, by simp, by simp, fun _ => rfl, by simp, by simp, by simp⟩
 | fls => exact ⟨by simp, by simp, by simp, by simp, fun _ => rfl, by simp, by simp, by simp⟩
 | @lam _ c t b h => exact ⟨by simp, fun _ => ⟨c, b, rfl, rfl⟩, by simp, by simp, by simp, by simp, by simp, by simpa using h⟩
 | @n2 _ k a b hk ha hb => exact ⟨by simp; omega, by simp; omega, by simp; omega, by simp; omega, by simp; omega, by simp, by simp, by simp [show ¬ k = 5 by omega, ha, hb]⟩
 | @ite _ a b c ha hb hc => exact ⟨by simp, by simp, fun _ => ⟨a, b, c, rfl⟩, by simp, by simp, by simp, by simp, by simp [ha, hb, hc]⟩
 | @n1 _ k a hk ha => exact ⟨by simp; omega, by simp; omega, by simp; omega, by simp; omega, by simp; omega, by simp, by simp, by simp [show ¬ k = 5 by omega, ha]⟩

def compileM (e : MTm) : Option (List MOp) := if termValidM e = true /\ namesM e = [] then (if opsValidM (compM [] (mapM bareG e)) = true then some (compM [] (mapM bareG e)) else none) else none
def ops0 (o : Option (List MOp)) : List MOp := o.getD []
theorem compile_small (e : MTm) : (ops0 (compileM e)).length <= 120 := by
 rw [compileM]
 split
 ·split
  ·rename_i h; exact (opsValid_iff.1 h).2.2
  ·simp [ops0]
 ·simp [ops0]
mutual
theorem free_erase (z : UInt8) : ∀ (e : MTm) (bd : List UInt8), freeIn z bd (mapM eraseG e) = freeIn z bd e
 | .mk k s n t f b l, bd => by
  rw [mapM, eraseG]
  split <;> (simp only [freeIn, MTm.kind_mk, MTm.name_mk, MTm.kids_mk, free_eraseS z l]; try rfl)
theorem free_eraseS (z : UInt8) : ∀ (l : List MTm) (bd : List UInt8), freeInS z bd (mapS eraseG l) = freeInS z bd l
 | [], bd => rfl
 | e :: r, bd => by rw [mapS, freeInS, freeInS, free_erase z e, free_eraseS z r]
end
mutual
def sfree (bd : List UInt8) : MTm -> List UInt8 -> List UInt8
 | .mk k s _ _ _ _ l, out => sfreeS (if k = 5 then addM (s.headD 0) bd else bd) l (if k = 1 /\ ¬ s.headD 0 ∈ bd then addM (s.headD 0) out else out)
def sfreeS (bd : List UInt8) : List MTm -> List UInt8 -> List UInt8
 | [], out => out
 | e :: r, out => sfreeS bd r (sfree bd e out)
end
theorem sfree_def (bd : List UInt8) (e : MTm) (out : List UInt8) : sfree bd e out = sfreeS (if e.kind = 5 then addM (e.name.headD 0) bd else bd) e.kids (if e.kind = 1 /\ ¬ e.name.headD 0 ∈ bd then addM (e.name.headD 0) out else out) := by
 cases e; rw [sfree]; rfl
theorem sfreeS_foldl (bd : List UInt8) : ∀ (l : List MTm) (out : List UInt8), sfreeS bd l out = l.foldl (fun o e => sfree bd e o) out
 | [], out => rfl
 | e :: r, out => by rw [sfreeS, sfreeS_foldl bd r]; rfl
theorem mem_addM (c x : UInt8) : ∀ s : List UInt8, x ∈ addM c s ↔ x = c \/ x ∈ s
 | [] => by simp [addM]
 | y :: r => by
  have ih := mem_addM c x r
  simp only [addM]
  split
  ·simp only [List.mem_cons, ih]
   constructor
   ·rintro (h | h | h) <;> simp [h]
   ·rintro (h | h | h) <;> simp [h]
  ·split
   ·rename_i h; subst h; simp
   ·simp
theorem sfree_nil {nt : Int} {d : Nat} {e : MTm} (h : TmV nt d e) : ∀ (bd bd' out : List UInt8), (∀ x, x ∈ bd ↔ x ∈ bd') -> (sfree bd e out = [] ↔ out = [] /\ ∀ z, freeIn z bd' e = false) := by
 induction h with
 | @var d s _ hs =>
  intro bd bd' out hb
  obtain ⟨c, rfl, _⟩ := nameM_one hs
  by_cases hc : c ∈ bd
  ·have hc' := (hb c).1 hc
   simp only [sfree, sfreeS, freeIn, freeInS, List.headD_cons, hc, not_true, and_false, if_false]
   refine ⟨fun h => ⟨h, fun z => ?_⟩, fun h => h.1⟩
   by_cases hz : c = z
   ·subst hz; simp [hc']
   ·simp [hz]
  ·have hc' : ¬ c ∈ bd' := fun h => hc ((hb c).2 h)
   simp only [sfree, sfreeS, freeIn, freeInS, List.headD_cons, hc, not_false_eq_true, and_self, if_true]
   constructor
   ·intro h
    have := (mem_addM c c out).2 (.inl rfl)
    rw [h] at this; simp at this
   ·rintro ⟨_, h⟩
    have := h c
    simp [hc'] at this
 | num _ _ _ => intro bd bd' out hb; simp [sfree, sfreeS, freeIn, freeInS]
 | tru _ => intro bd bd' out hb; simp [sfree, sfreeS, freeIn, freeInS]
 | fls _ => intro bd bd' out hb; simp [sfree, sfreeS, freeIn, freeInS]
 | @lam d s t b _ hs _ _ ih =>
  intro bd bd' out hb
  obtain ⟨c, rfl, _⟩ := nameM_one hs
  have := ih (addM c bd) (bd' ++ [c]) out (fun x => by rw [mem_addM, hb x]; simp [or_comm])
  simp [sfree, sfreeS, freeIn, freeInS, this]
 | @n2 d k a b _ hk _ _ iha ihb =>
  intro bd bd' out hb
  have h2 : ¬ k = 5 := by omega
  have h3 : ¬ k = 1 := by omega
  have e1 := ihb bd bd' (sfree bd a out) hb
  have e2 := iha bd bd' out hb
  simp [sfree, sfreeS, freeIn, freeInS, h2, h3, e1, e2, forall_and, and_assoc]
 | ite _ _ _ _ ihp iha ihb =>
  rename_i d a b c _ _ _ _
  intro bd bd' out hb
  have e1 := ihb bd bd' (sfree bd b (sfree bd a out)) hb
  have e2 := iha bd bd' (sfree bd a out) hb
  have e3 := ihp bd bd' out hb
  simp [sfree, sfreeS, freeIn, freeInS, e1, e2, e3, forall_and, and_assoc]
 | @n1 d k a _ hk _ ih =>
  intro bd bd' out hb
  have h2 : ¬ k = 5 := by omega
  have h3 : ¬ k = 1 := by omega
  simp [sfree, sfreeS, freeIn, freeInS, h2, h3, ih bd bd' out hb]
 | asc _ _ _ ih => intro bd bd' out hb; simp [sfree, sfreeS, freeIn, freeInS, ih bd bd' out hb]
 | cast _ _ _ _ _ _ ih => intro bd bd' out hb; simp [sfree, sfreeS, freeIn, freeInS, ih bd bd' out hb]
mutual
theorem sfree_len : ∀ (e : MTm) (bd out : List UInt8), (sfree bd e out).length <= out.length + nodesM e
 | .mk k s n t f b l, bd, out => by
  rw [sfree, nodesM]
  have h1 := sfree_lenS l (if k = 5 then addM (s.headD 0) bd else bd) (if k = 1 /\ ¬ s.headD 0 ∈ bd then addM (s.headD 0) out else out)
  have h2 : (if k = 1 /\ ¬ s.headD 0 ∈ bd then addM (s.headD 0) out else out).length <= out.length + 1 := by
   split
   ·exact addM_len _ _
   ·omega
  omega
theorem sfree_lenS : ∀ (l : List MTm) (bd out : List UInt8), (sfreeS bd l out).length <= out.length + nodesS l
 | [], bd, out => by simp [sfreeS]
 | e :: r, bd, out => by
  rw [sfreeS, nodesS]
  have h1 := sfree_len e bd out
  have h2 := sfree_lenS r bd (sfree bd e out)
  omega
end
theorem sfreeS_take {bd out : List UInt8} {l : List MTm} {p : Nat} {u : MTm} (h : l[p]? = some u) : sfreeS bd (l.take (p + 1)) out = sfree bd u (sfreeS bd (l.take p) out) := by
 rw [sfreeS_foldl, sfreeS_foldl, List.take_add_one, h]
 simp
theorem nodesS_mem {u : MTm} : ∀ {l : List MTm}, u ∈ l -> nodesM u <= nodesS l
 | e :: r, h => by
  rw [nodesS]
  rcases List.mem_cons.1 h with rfl | h
  ·omega
  ·have := nodesS_mem h; omega
theorem nodesS_take (l : List MTm) (p : Nat) : nodesS (l.take p) <= nodesS l := by
 induction l generalizing p with
 | nil => simp [nodesS]
 | cons e r ih =>
  cases p with
  | zero => simp [nodesS]
  | succ p => rw [List.take_succ_cons, nodesS, nodesS]; have := ih p; omega
theorem nodesS_take_succ {l : List MTm} {p : Nat} {u : MTm} (h : l[p]? = some u) : nodesS (l.take (p + 1)) = nodesS (l.take p) + nodesM u := by
 rw [nodesS_sum, nodesS_sum, List.take_add_one, h]; simp
theorem TmV.len3 {nt : Int} {d : Nat} {e : MTm} (h : TmV nt d e) : e.kids.length <= 3 := by
 cases h <;> simp
theorem TmV.one {nt : Int} {d : Nat} {e : MTm} (h : TmV nt d e) (hk : e.kind = 1 \/ e.kind = 5) : ∃ c, e.name = [c] := by
 cases h with
 | @var _ s _ hs => obtain ⟨c, rfl, _⟩ := nameM_one hs; exact ⟨c, rfl⟩
 | @lam _ s t b _ hs _ _ => obtain ⟨c, rfl, _⟩ := nameM_one hs; exact ⟨c, rfl⟩
 | num _ _ _ => simp at hk
 | tru _ => simp at hk
 | fls _ => simp at hk
 | n2 _ hk' _ _ => simp at hk; omega
 | ite _ _ _ _ => simp at hk
 | n1 _ hk' _ => simp at hk; omega
 | asc _ _ _ => simp at hk
 | cast _ _ _ _ _ _ => simp at hk
theorem TmV.kidsV {nt : Int} {d : Nat} {e : MTm} (h : TmV nt d e) : ∀ u ∈ e.kids, ∃ d', TmV nt d' u := by
 cases h with
 | var _ _ => simp
 | num _ _ _ => simp
 | tru _ => simp
 | fls _ => simp
 | @lam d s t b _ _ _ h => intro u hu; simp at hu; subst hu; exact ⟨d, h⟩
 | @n2 d k a b _ _ ha hb => intro u hu; simp at hu; rcases hu with rfl | rfl <;> first | exact ⟨d, ha⟩ | exact ⟨d, hb⟩
 | @ite d a b c _ ha hb hc => intro u hu; simp at hu; rcases hu with rfl | rfl | rfl <;> first | exact ⟨d, ha⟩ | exact ⟨d, hb⟩ | exact ⟨d, hc⟩
 | @n1 d k a _ _ ha => intro u hu; simp at hu; subst hu; exact ⟨d, ha⟩
 | @asc d t a _ _ ha => intro u hu; simp at hu; subst hu; exact ⟨d, ha⟩
 | @cast d f t l a _ _ _ _ _ ha => intro u hu; simp at hu; subst hu; exact ⟨d, ha⟩
theorem sfree_names {e : MTm} (hv : termValidM e = true) : sfree [] e [] = [] ↔ namesM e = [] := by
 have h := (termValidM_iff.1 hv).1
 rw [sfree_nil h [] [] [] (fun x => Iff.rfl), names_nil h]
 simp
end Go.Av
