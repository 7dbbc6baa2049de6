/- A part of the library of this seat. -/
import Derived.Test.YtcgmmknfpfdghaaGreatDoorC9
import Derived.Shelf.Strconv.Itoa3
set_option linter.unusedVariables false
set_option linter.unusedSimpArgs false
namespace Go.Av
attribute [-simp] Go.Av.MCo.kind_mk Go.Av.MCo.tag_mk Go.Av.MCo.label_mk Go.Av.MCo.kids_mk Go.Av.astepJ Go.Av.relC Go.Av.relL Go.Av.relV Go.Av.relVs Go.Av.callJ
open Go
section
variable {P : Program}
theorem tabCells_eq : tabCells = (Lib.pow10Tab.map fun z => Value.int .u64 z).toArray := by kernel_rfl

theorem grown_end {g : Gh} {w : World} (hg : g.ar = []) (hI : Inv g w [] []) (hT : Tab w g) (k : Nat) (os : Array Obj) : Inv g (Go.Sort.grow (w.drewN k) os) [] [] /\ Fr w g (Go.Sort.grow (w.drewN k) os) g := by
 have hob : g.ob = [] := List.eq_nil_of_length_eq_zero hI.obl
 have hsz : w.heap.size <= (Go.Sort.grow (w.drewN k) os).heap.size := by simp [Go.Sort.grow]
 refine ⟨⟨hI.obl, hI.arl, fun l row b h => by simp at h, fun k r v h => by simp at h, hI.obob, hI.arar, hI.obar, fun b hb => hI.fresh b (Nat.le_trans hsz hb)⟩, ?_⟩
 exact ⟨rfl, rfl, rfl, hsz, fun b hb _ _ => Go.Sort.heap_grow_old _ _ hb, fun _ _ _ => rfl, ⟨[], by simp, by simp⟩, fun k v b h1 h2 => .inr (Gh.arb_mem h1 h2), fun k v h => ⟨v, h, Nat.le_refl _, fun _ => rfl⟩, hT⟩

theorem itoa_contract {ρ : Go.Shelf.Ren} (L : Go.Proofs.LaysM.n171 P ρ) (hent : ∀ args w, (callFunc (ρ.f 171) args).run P w = .ok (.enter (ρ.f 171) args) w) {k : Nat} (hk : tab0 = some k) (hgl : P.globalNamed "internal/strconv.uint64pow10" = some k) (n : Int) (h0 : -9223372036854775808 <= n) (h1 : n <= 9223372036854775807) :
  ACalls P (ρ.f 171) [.i n] [] (.s (Lib.itoa n)) [] [] := by
 refine ⟨hent, Nat.le_refl _, fun g w vs hg hI hT hvl hvr => ?_⟩
 obtain ⟨v, rfl⟩ : ∃ v, vs = #[v] := by
  have : vs.size = 1 := hvl
  exact ⟨vs[0], by apply Array.ext; · simpa using this
                   ·intro i h1 h2; simp at h2; subst h2; rfl⟩
 have hv := hvr 0 _ v rfl rfl
 simp only [RepV, RepE, RepC, RepD] at hv
 subst hv
 obtain ⟨_, _, _, hc, _⟩ := hT k (.inl hk)
 obtain ⟨ty, mk, hb⟩ := hc hk
 have htab : Lib.TabIs P w "internal/strconv.uint64pow10" .u64 Lib.pow10Tab := by
  rw [Lib.TabIs, World.var?, hgl, <- tabCells_eq]
  simp [hb]
 refine (Go.Proofs.Any.strconv_Itoa L n h0 h1 w htab).mono ?_
 rintro e w' ⟨rfl, k, os, rfl⟩
 obtain ⟨q1, q2⟩ := grown_end hg hI hT k os
 exact ⟨_, g, rfl, by simp [RepV, RepE, RepC, RepD, bs], q1, q2⟩
end
end Go.Av

namespace Go.Av
attribute [-simp] Go.Av.MCo.kind_mk Go.Av.MCo.tag_mk Go.Av.MCo.label_mk Go.Av.MCo.kids_mk Go.Av.astepJ Go.Av.relC Go.Av.relL Go.Av.relV Go.Av.relVs Go.Av.callJ
open Go

def signB (k : Int) : UInt8 := if k = 1 then 63 else if k = 2 then 73 else if k = 3 then 66 else if k = 4 then 62 else 42
def tyTextF : Nat -> MTy -> List UInt8
 | 0, _ => []
 | d + 1, .mk k [a, b] => 40 :: (tyTextF d a ++ signB k :: (tyTextF d b ++ [41]))
 | _ + 1, .mk k _ => [signB k]
def tyText (t : MTy) : List UInt8 := tyTextF 4 t

def opB (k : Int) : UInt8 := if k = 6 then 32 else if k = 7 then 43 else 60
def tmTextF : Nat -> MTm -> List UInt8
 | 0, _ => []
 | _ + 1, .mk k s n _ _ _ [] => if k = 1 then s else if k = 2 then Lib.itoa n else if k = 3 then [84] else [70]
 | d + 1, .mk k s _ t f l [a] => if k = 5 then 33 :: (s ++ 58 :: (tyText t ++ 46 :: tmTextF d a)) else if k = 11 then 36 :: tmTextF d a else if k = 12 then 37 :: tmTextF d a
   else if k = 13 then 40 :: (tmTextF d a ++ 58 :: (tyText t ++ [41])) else 40 :: (tmTextF d a ++ 58 :: (tyText f ++ 126 :: (tyText t ++ 35 :: (Lib.itoa l ++ [41]))))
 | d + 1, .mk k _ _ _ _ _ [a, b] => if k = 10 then 91 :: (tmTextF d a ++ 44 :: (tmTextF d b ++ [93])) else 40 :: (tmTextF d a ++ opB k :: (tmTextF d b ++ [41]))
 | d + 1, .mk _ _ _ _ _ _ [a, b, c] => 123 :: (tmTextF d a ++ 63 :: (tmTextF d b ++ 58 :: (tmTextF d c ++ [125])))
 | _ + 1, _ => []
section
variable (d : Nat)
end

theorem decDigits_step {n : Nat} (h : 9 < n) : Lib.decDigits n = Lib.decDigits (n / 10) ++ [UInt8.ofNat (48 + n % 10)] := by
 conv => lhs; rw [Lib.decDigits, dif_neg (by omega)]
theorem decDigits_small {n : Nat} (h : n <= 9) : Lib.decDigits n = [UInt8.ofNat (48 + n)] := Lib.decDigits_one (by omega)
theorem itoa_nonneg (n : Nat) : Lib.itoa n = Lib.decDigits n := by simp [Lib.itoa]
theorem itoa_neg {n : Int} (h : n < 0) : Lib.itoa n = 45 :: Lib.itoa (-n) := by
 rw [Lib.itoa, if_pos h, Lib.itoa, if_neg (by omega)]
 congr 2
 omega
end Go.Av

namespace Go.Av
attribute [-simp] Go.Av.MCo.kind_mk Go.Av.MCo.tag_mk Go.Av.MCo.label_mk Go.Av.MCo.kids_mk Go.Av.astepJ Go.Av.relC Go.Av.relL Go.Av.relV Go.Av.relVs Go.Av.callJ
open Go

structure MOp where
 kind : Int
 a : Int
deriving DecidableEq
abbrev eOp (o : MOp) : List DV := [.i o.kind, .i o.a]
abbrev aOp (o : MOp) : AV := .agg [.d (.i o.kind), .d (.i o.a)]

def mostA (k r : Int) : Int := if k = 1 then 999 else if k = 2 then 1 else if k = 3 then 11 else if k = 4 \/ k = 9 \/ k = 10 then r else 0
def hasAM (k : Int) : Bool := decide (k = 1) || decide (k = 2) || decide (k = 3) || decide (k = 4) || decide (k = 9) || decide (k = 10)
def opOk (o : MOp) (r : Int) : Bool := inM o.kind 1 13 && inM o.a 0 (mostA o.kind r)
def opsOk : List MOp -> Bool
 | [] => true
 | o :: r => opOk o r.length && opsOk r
def opsValidM (l : List MOp) : Bool := opsOk l && inM l.length 1 120

def opWord (k : Int) : List UInt8 :=
 if k = 1 then [110, 117, 109] else if k = 2 then [116, 114, 117, 116, 104] else if k = 3 then [118, 97, 114] else if k = 4 then [102, 117, 110] else if k = 5 then [114, 101, 116] else
 if k = 6 then [97, 112, 112, 108, 121] else if k = 7 then [97, 100, 100] else if k = 8 then [108, 101, 115, 115] else if k = 9 then [98, 114, 97, 110, 99, 104] else if k = 10 then [106, 117, 109, 112] else
 if k = 11 then [112, 97, 105, 114] else if k = 12 then [102, 115, 116] else [115, 110, 100]
def opText (o : MOp) : List UInt8 := opWord o.kind ++ ((if hasAM o.kind = true then 32 :: Lib.itoa o.a else []) ++ [10])
def opsTextM (l : List MOp) : List UInt8 := l.flatMap opText
def formatOpsM (l : List MOp) : List UInt8 := if opsValidM l = true then opsTextM l else []

end Go.Av

namespace Go.Av
attribute [-simp] Go.Av.MCo.kind_mk Go.Av.MCo.tag_mk Go.Av.MCo.label_mk Go.Av.MCo.kids_mk Go.Av.astepJ Go.Av.relC Go.Av.relL Go.Av.relV Go.Av.relVs Go.Av.callJ
open Go

def isDig (c : UInt8) : Bool := decide (48 <= c.toNat) && decide (c.toNat <= 57)
def NoDig (r : List UInt8) : Prop := ∀ c r', r = c :: r' -> isDig c = false
theorem NoDig.cons {c : UInt8} {r : List UInt8} (h : isDig c = false) : NoDig (c :: r) := fun c' r' e => by cases e; exact h

def valL (l : List UInt8) : Nat := l.foldl (fun a c => 10 * a + (c.toNat - 48)) 0
theorem dig_ofNat {k : Nat} (h : k <= 9) : (UInt8.ofNat (48 + k)).toNat = 48 + k := by
 simp [UInt8.toNat_ofNat']; omega
theorem isDig_ofNat {k : Nat} (h : k <= 9) : isDig (UInt8.ofNat (48 + k)) = true := by
 simp only [isDig, dig_ofNat h, Bool.and_eq_true, decide_eq_true_eq]; omega
theorem decDigits_dig (n : Nat) : (∀ c ∈ Lib.decDigits n, isDig c = true) /\ valL (Lib.decDigits n) = n := by
 induction n using Nat.strongRecOn with
 | ind n ih =>
  by_cases h : 9 < n
  ·obtain ⟨h1, h2⟩ := ih (n / 10) (by omega)
   rw [decDigits_step h]
   have hm : n % 10 <= 9 := by omega
   refine ⟨fun c hc => ?_, ?_⟩
   ·rcases List.mem_append.1 hc with q | q
    ·exact h1 c q
    ·rw [List.mem_singleton] at q; subst q; exact isDig_ofNat hm
   ·have hd := dig_ofNat hm
    rw [valL, List.foldl_append]
    rw [valL] at h2
    rw [h2]
    simp only [List.foldl_cons, List.foldl_nil, hd]
    omega
  ·rw [decDigits_small (by omega)]
   have hd := dig_ofNat (k := n) (by omega)
   refine ⟨fun c hc => ?_, ?_⟩
   ·rw [List.mem_singleton] at hc; subst hc; exact isDig_ofNat (by omega)
   ·simp only [valL, List.foldl_cons, List.foldl_nil, hd]; omega
theorem decDigits_ne (n : Nat) : Lib.decDigits n ≠ [] := by
 by_cases h : 9 < n
 ·rw [decDigits_step h]; simp
 ·rw [decDigits_small (by omega)]; simp

theorem span_dig : ∀ {l r : List UInt8}, (∀ c ∈ l, isDig c = true) -> NoDig r -> (l ++ r).takeWhile isDig = l /\ (l ++ r).dropWhile isDig = r
 | [], [], _, _ => ⟨rfl, rfl⟩
 | [], c :: r, _, h => by simp [h c r rfl]
 | c :: l, r, h1, h2 => by
  obtain ⟨q1, q2⟩ := span_dig (l := l) (fun x hx => h1 x (by simp [hx])) h2
  simp [h1 c (by simp), q1, q2]

def readI (l : List UInt8) : Int × List UInt8 := match l with
 | c :: r => if c = 45 then (-(valL (r.takeWhile isDig) : Int), r.dropWhile isDig) else ((valL (l.takeWhile isDig) : Int), l.dropWhile isDig)
 | [] => (0, [])
def readTy : Nat -> List UInt8 -> Option (MTy × List UInt8)
 | 0, _ => none
 | _ + 1, [] => none
 | d + 1, c :: r =>
  if c = 63 then some (anyT, r) else if c = 73 then some (intT, r) else if c = 66 then some (boolT, r)
  else match readTy d r with
   | some (a, k :: r1) => match readTy d r1 with
    | some (b, _ :: r2) => some (.mk (if k = 62 then 4 else 5) [a, b], r2)
    | _ => none
   | _ => none
def readTm : Nat -> List UInt8 -> Option (MTm × List UInt8)
 | 0, _ => none
 | _ + 1, [] => none
 | d + 1, c :: r =>
  if c = 84 then some (tTrue, r) else if c = 70 then some (tFalse, r)
  else if c = 33 then match r with
   | s :: _ :: r1 => match readTy 4 r1 with
    | some (t, _ :: r2) => match readTm d r2 with
     | some (b, r3) => some (tLam [s] t b, r3)
     | none => none
    | _ => none
   | _ => none
  else if c = 36 then match readTm d r with
   | some (a, r1) => some (tN1 11 a, r1)
   | none => none
  else if c = 37 then match readTm d r with
   | some (a, r1) => some (tN1 12 a, r1)
   | none => none
  else if c = 91 then match readTm d r with
   | some (a, _ :: r1) => match readTm d r1 with
    | some (b, _ :: r2) => some (tN2 10 a b, r2)
    | _ => none
   | _ => none
  else if c = 123 then match readTm d r with
   | some (a, _ :: r1) => match readTm d r1 with
    | some (b, _ :: r2) => match readTm d r2 with
     | some (e, _ :: r3) => some (tIf a b e, r3)
     | _ => none
    | _ => none
   | _ => none
  else if c = 40 then match readTm d r with
   | some (a, k :: r1) =>
    if k = 58 then match readTy 4 r1 with
     | some (t, q :: r2) => if q = 41 then some (tAs a t, r2) else match readTy 4 r2 with
      | some (u, _ :: r3) => some (tCast a t u (readI r3).1, (readI r3).2.tail)
      | _ => none
     | _ => none
    else match readTm d r1 with
     | some (b, _ :: r2) => some (tN2 (if k = 32 then 6 else if k = 43 then 7 else 8) a b, r2)
     | _ => none
   | _ => none
  else if isDig c then some (tNum (readI (c :: r)).1, (readI (c :: r)).2)
  else some (tVar [c], r)

end Go.Av

namespace Go.Av
attribute [-simp] Go.Av.astepJ Go.Av.relC Go.Av.relL Go.Av.relV Go.Av.relVs Go.Av.callJ
open Go

def groundCo (c : MCo) : Bool := decide (c.kind = 2) || decide (c.kind = 3) || (decide (c.kind = 1) && !decide (c.tag = 1))
def projCo (c : MCo) : Bool := !decide (c.kind = 5) && !(decide (c.kind = 1) && decide (c.tag = 1))
def coNode : MCo -> Bool
 | .mk k t b [] => (decide (k = 1) && decide (b = 0) && inM t 1 3) || (decide (k = 6) && labM b && inM t 2 5)
 | .mk k t b [x] => (decide (k = 4) && decide (b = 0) && decide (t = 0) && groundCo x) || (decide (k = 5) && labM b && decide (t = 0) && projCo x)
 | .mk k t b [_, _] => (decide (k = 2) || decide (k = 3)) && decide (b = 0) && decide (t = 0)
 | _ => false
def shapeCo : Nat -> MCo -> Bool
 | 0, _ => false
 | d + 1, .mk k t b l => l.all (shapeCo d) && coNode (.mk k t b l)

abbrev cId (t : Int) : MCo := .mk 1 t 0 []
abbrev cFail (b t : Int) : MCo := .mk 6 t b []
abbrev cInj (x : MCo) : MCo := .mk 4 0 0 [x]
abbrev cProj (b : Int) (x : MCo) : MCo := .mk 5 0 b [x]
abbrev cTwo (k : Int) (x y : MCo) : MCo := .mk k 0 0 [x, y]
inductive CoV : Nat -> MCo -> Prop
 | id {d : Nat} {t : Int} : 1 <= t -> t <= 3 -> CoV (d + 1) (cId t)
 | fail {d : Nat} {b t : Int} : labM b = true -> 2 <= t -> t <= 5 -> CoV (d + 1) (cFail b t)
 | inj {d : Nat} {x : MCo} : CoV d x -> groundCo x = true -> CoV (d + 1) (cInj x)
 | proj {d : Nat} {b : Int} {x : MCo} : labM b = true -> CoV d x -> projCo x = true -> CoV (d + 1) (cProj b x)
 | two {d : Nat} {k : Int} {x y : MCo} : k = 2 \/ k = 3 -> CoV d x -> CoV d y -> CoV (d + 1) (cTwo k x y)
theorem CoV.of : ∀ {d : Nat} {c : MCo}, shapeCo d c = true -> CoV d c
 | 0, c, h => by simp [shapeCo] at h
 | d + 1, .mk k t b l, h => by
  simp only [shapeCo, Bool.and_eq_true, List.all_eq_true] at h
  obtain ⟨h1, h2⟩ := h
  match l, h1, h2 with
  | [], _, h2 =>
   simp only [coNode, Bool.or_eq_true, Bool.and_eq_true, decide_eq_true_eq, inM] at h2
   rcases h2 with ⟨⟨rfl, rfl⟩, q1, q2⟩ | ⟨⟨rfl, q⟩, q1, q2⟩
   ·exact .id q1 q2
   ·exact .fail q q1 q2
  | [x], h1, h2 =>
   simp only [coNode, Bool.or_eq_true, Bool.and_eq_true, decide_eq_true_eq] at h2
   rcases h2 with ⟨⟨⟨rfl, rfl⟩, rfl⟩, q⟩ | ⟨⟨⟨rfl, q⟩, rfl⟩, q1⟩
   ·exact .inj (CoV.of (h1 x (by simp))) q
   ·exact .proj q (CoV.of (h1 x (by simp))) q1
  | [x, y], h1, h2 =>
   simp only [coNode, Bool.or_eq_true, Bool.and_eq_true, decide_eq_true_eq] at h2
   obtain ⟨⟨hk, rfl⟩, rfl⟩ := h2
   exact .two hk (CoV.of (h1 x (by simp))) (CoV.of (h1 y (by simp)))
  | _ :: _ :: _ :: _, _, h2 => simp [coNode] at h2

def coTextF : Nat -> MCo -> List UInt8
 | 0, _ => []
 | _ + 1, .mk k t b [] => if k = 1 then [signB t] else 88 :: (Lib.itoa b ++ [signB t])
 | d + 1, .mk k _ b [x] => if k = 4 then 33 :: coTextF d x else 35 :: (Lib.itoa b ++ 46 :: coTextF d x)
 | d + 1, .mk k _ _ [x, y] => 40 :: (coTextF d x ++ (if k = 2 then 62 else 42) :: (coTextF d y ++ [41]))
 | _ + 1, _ => []
section
variable (d : Nat)
theorem coTextF_id (t : Int) : coTextF (d + 1) (cId t) = [signB t] := by simp [coTextF]
theorem coTextF_fail (b t : Int) : coTextF (d + 1) (cFail b t) = 88 :: (Lib.itoa b ++ [signB t]) := by simp [coTextF]
theorem coTextF_inj (x : MCo) : coTextF (d + 1) (cInj x) = 33 :: coTextF d x := by simp [coTextF]
theorem coTextF_proj (b : Int) (x : MCo) : coTextF (d + 1) (cProj b x) = 35 :: (Lib.itoa b ++ 46 :: coTextF d x) := by simp [coTextF]
theorem coTextF_two (k : Int) (x y : MCo) : coTextF (d + 1) (cTwo k x y) = 40 :: (coTextF d x ++ (if k = 2 then 62 else 42) :: (coTextF d y ++ [41])) := rfl
end
end Go.Av
