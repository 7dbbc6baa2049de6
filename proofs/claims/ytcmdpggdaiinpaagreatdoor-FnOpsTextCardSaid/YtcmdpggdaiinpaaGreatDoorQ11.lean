/- A part of the library of this seat. -/
import Derived.Test.YtcmdpggdaiinpaaGreatDoorQ10
import Derived.Shelf.Strconv.Itoa3
set_option linter.unusedVariables false
set_option linter.unusedSimpArgs false
namespace Go.Av
attribute [-simp] Go.Av.MCo.kind_mk Go.Av.MCo.tag_mk Go.Av.MCo.label_mk Go.Av.MCo.kids_mk Go.Av.astepJ Go.Av.relC Go.Av.relL Go.Av.relV Go.Av.relVs Go.Av.callJ
open Go
section
variable {P : Program}
theorem tabCells_eq : tabCells = (Lib.pow10Tab.map fun z => Value.int .u64 z).toArray := by kernel_rfl

theorem grown_end {g : Gh} {w : World} (hg : g.ar = []) (hI : Inv g w [] []) (hT : Tab w g) (k : Nat) (os : Array Obj) : Inv g (Go.Sort.grow (w.drewN k) os) [] [] /\ Fr w g (Go.Sort.grow (w.drewN k) os) g := by
 have hob : g.ob = [] := List.eq_nil_of_length_eq_zero hI.obl
 have hsz : w.heap.size <= (Go.Sort.grow (w.drewN k) os).heap.size := by simp [Go.Sort.grow]
 refine ⟨⟨hI.obl, hI.arl, fun l row b h => by simp at h, fun k r v h => by simp at h, hI.obob, hI.arar, hI.obar, fun b hb => hI.fresh b (Nat.le_trans hsz hb)⟩, ?_⟩
 exact ⟨rfl, rfl, rfl, hsz, fun b hb _ _ => Go.Sort.heap_grow_old _ _ hb, fun _ _ _ => rfl, ⟨[], by simp, by simp⟩, fun k v b h1 h2 => .inr (Gh.arb_mem h1 h2), fun k v h => ⟨v, h, Nat.le_refl _, fun _ => rfl⟩, hT⟩

theorem itoa_contract {ρ : Go.Shelf.Ren} (L : Go.Proofs.LaysM.n171 P ρ) (hent : ∀ args w, (callFunc (ρ.f 171) args).run P w = .ok (.enter (ρ.f 171) args) w) {k : Nat} (hk : tab0 = some k) (hgl : P.globalNamed "internal/strconv.uint64pow10" = some k) (n : Int) (h0 : -9223372036854775808 <= n) (h1 : n <= 9223372036854775807) :
  ACalls P (ρ.f 171) [.i n] [] (.s (Lib.itoa n)) [] [] := by
 refine ⟨hent, Nat.le_refl _, fun g w vs hg hI hT hvl hvr => ?_⟩
 obtain ⟨v, rfl⟩ : ∃ v, vs = #[v] := by
  have : vs.size = 1 := hvl
  exact ⟨vs[0], by apply Array.ext; · simpa using this
                   ·intro i h1 h2; simp at h2; subst h2; rfl⟩
 have hv := hvr 0 _ v rfl rfl
 simp only [RepV, RepE, RepC, RepD] at hv
 subst hv
 obtain ⟨_, _, _, hc, _⟩ := hT k (.inl hk)
 obtain ⟨ty, mk, hb⟩ := hc hk
 have htab : Lib.TabIs P w "internal/strconv.uint64pow10" .u64 Lib.pow10Tab := by
  rw [Lib.TabIs, World.var?, hgl, <- tabCells_eq]
  simp [hb]
 refine (Go.Proofs.Any.strconv_Itoa L n h0 h1 w htab).mono ?_
 rintro e w' ⟨rfl, k, os, rfl⟩
 obtain ⟨q1, q2⟩ := grown_end hg hI hT k os
 exact ⟨_, g, rfl, by simp [RepV, RepE, RepC, RepD, bs], q1, q2⟩
end
end Go.Av

namespace Go.Av
attribute [-simp] Go.Av.MCo.kind_mk Go.Av.MCo.tag_mk Go.Av.MCo.label_mk Go.Av.MCo.kids_mk Go.Av.astepJ Go.Av.relC Go.Av.relL Go.Av.relV Go.Av.relVs Go.Av.callJ
open Go

def signB (k : Int) : UInt8 := if k = 1 then 63 else if k = 2 then 73 else if k = 3 then 66 else if k = 4 then 62 else 42
def tyTextF : Nat -> MTy -> List UInt8
 | 0, _ => []
 | d + 1, .mk k [a, b] => 40 :: (tyTextF d a ++ signB k :: (tyTextF d b ++ [41]))
 | _ + 1, .mk k _ => [signB k]
def tyText (t : MTy) : List UInt8 := tyTextF 4 t

def opB (k : Int) : UInt8 := if k = 6 then 32 else if k = 7 then 43 else 60
def tmTextF : Nat -> MTm -> List UInt8
 | 0, _ => []
 | _ + 1, .mk k s n _ _ _ [] => if k = 1 then s else if k = 2 then Lib.itoa n else if k = 3 then [84] else [70]
 | d + 1, .mk k s _ t f l [a] => if k = 5 then 33 :: (s ++ 58 :: (tyText t ++ 46 :: tmTextF d a)) else if k = 11 then 36 :: tmTextF d a else if k = 12 then 37 :: tmTextF d a
   else if k = 13 then 40 :: (tmTextF d a ++ 58 :: (tyText t ++ [41])) else 40 :: (tmTextF d a ++ 58 :: (tyText f ++ 126 :: (tyText t ++ 35 :: (Lib.itoa l ++ [41]))))
 | d + 1, .mk k _ _ _ _ _ [a, b] => if k = 10 then 91 :: (tmTextF d a ++ 44 :: (tmTextF d b ++ [93])) else 40 :: (tmTextF d a ++ opB k :: (tmTextF d b ++ [41]))
 | d + 1, .mk _ _ _ _ _ _ [a, b, c] => 123 :: (tmTextF d a ++ 63 :: (tmTextF d b ++ 58 :: (tmTextF d c ++ [125])))
 | _ + 1, _ => []
section
variable (d : Nat)
end

theorem decDigits_step {n : Nat} (h : 9 < n) : Lib.decDigits n = Lib.decDigits (n / 10) ++ [UInt8.ofNat (48 + n % 10)] := by
 conv => lhs; rw [Lib.decDigits, dif_neg (by omega)]
theorem decDigits_small {n : Nat} (h : n <= 9) : Lib.decDigits n = [UInt8.ofNat (48 + n)] := Lib.decDigits_one (by omega)
theorem itoa_nonneg (n : Nat) : Lib.itoa n = Lib.decDigits n := by simp [Lib.itoa]
end Go.Av

namespace Go.Av
attribute [-simp] Go.Av.MCo.kind_mk Go.Av.MCo.tag_mk Go.Av.MCo.label_mk Go.Av.MCo.kids_mk Go.Av.astepJ Go.Av.relC Go.Av.relL Go.Av.relV Go.Av.relVs Go.Av.callJ
open Go

structure MOp where
 kind : Int
 a : Int
deriving DecidableEq
abbrev eOp (o : MOp) : List DV := [.i o.kind, .i o.a]
abbrev aOp (o : MOp) : AV := .agg [.d (.i o.kind), .d (.i o.a)]

def mostA (k r : Int) : Int := if k = 1 then 999 else if k = 2 then 1 else if k = 3 then 11 else if k = 4 \/ k = 9 \/ k = 10 then r else 0
def hasAM (k : Int) : Bool := decide (k = 1) || decide (k = 2) || decide (k = 3) || decide (k = 4) || decide (k = 9) || decide (k = 10)
def opOk (o : MOp) (r : Int) : Bool := inM o.kind 1 13 && inM o.a 0 (mostA o.kind r)
def opsOk : List MOp -> Bool
 | [] => true
 | o :: r => opOk o r.length && opsOk r
def opsValidM (l : List MOp) : Bool := opsOk l && inM l.length 1 120

def opWord (k : Int) : List UInt8 :=
 if k = 1 then [110, 117, 109] else if k = 2 then [116, 114, 117, 116, 104] else if k = 3 then [118, 97, 114] else if k = 4 then [102, 117, 110] else if k = 5 then [114, 101, 116] else
 if k = 6 then [97, 112, 112, 108, 121] else if k = 7 then [97, 100, 100] else if k = 8 then [108, 101, 115, 115] else if k = 9 then [98, 114, 97, 110, 99, 104] else if k = 10 then [106, 117, 109, 112] else
 if k = 11 then [112, 97, 105, 114] else if k = 12 then [102, 115, 116] else [115, 110, 100]
def opText (o : MOp) : List UInt8 := opWord o.kind ++ ((if hasAM o.kind = true then 32 :: Lib.itoa o.a else []) ++ [10])
def opsTextM (l : List MOp) : List UInt8 := l.flatMap opText
def formatOpsM (l : List MOp) : List UInt8 := if opsValidM l = true then opsTextM l else []

theorem mostA_le (k r : Int) (h : 0 <= r) (h2 : r <= 1000) : mostA k r <= 1000 := by
 simp only [mostA]; repeat' split
 all_goals omega
theorem opsOk_mem : ∀ {l : List MOp}, opsOk l = true -> l.length <= 1000 -> ∀ o ∈ l, 1 <= o.kind /\ o.kind <= 13 /\ 0 <= o.a /\ o.a <= 1000
 | x :: r, h, hl, o, ho => by
  simp only [opsOk, Bool.and_eq_true] at h
  simp only [List.length_cons] at hl
  rcases List.mem_cons.1 ho with rfl | ho
  ·have h1 := h.1
   simp only [opOk, inM, Bool.and_eq_true, decide_eq_true_eq] at h1
   have := mostA_le o.kind r.length (by omega) (by omega)
   omega
  ·exact opsOk_mem h.2 (by omega) o ho
theorem opsValid_iff {l : List MOp} : opsValidM l = true ↔ opsOk l = true /\ 1 <= l.length /\ l.length <= 120 := by
 simp only [opsValidM, inM, Bool.and_eq_true, decide_eq_true_eq]
 constructor <;> rintro ⟨h1, h2, h3⟩ <;> exact ⟨h1, by omega, by omega⟩
theorem opWord_len (k : Int) : (opWord k).length <= 6 := by
 by_cases h1 : k = 1
 ·subst h1; decide
 by_cases h2 : k = 2
 ·subst h2; decide
 by_cases h3 : k = 3
 ·subst h3; decide
 by_cases h4 : k = 4
 ·subst h4; decide
 by_cases h5 : k = 5
 ·subst h5; decide
 by_cases h6 : k = 6
 ·subst h6; decide
 by_cases h7 : k = 7
 ·subst h7; decide
 by_cases h8 : k = 8
 ·subst h8; decide
 by_cases h9 : k = 9
 ·subst h9; decide
 by_cases h10 : k = 10
 ·subst h10; decide
 by_cases h11 : k = 11
 ·subst h11; decide
 by_cases h12 : k = 12
 ·subst h12; decide
 rw [opWord, if_neg h1, if_neg h2, if_neg h3, if_neg h4, if_neg h5, if_neg h6, if_neg h7, if_neg h8, if_neg h9, if_neg h10, if_neg h11, if_neg h12]; decide
end Go.Av
