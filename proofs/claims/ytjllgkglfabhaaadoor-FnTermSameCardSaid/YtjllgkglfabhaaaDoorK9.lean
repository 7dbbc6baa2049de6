/- A part of the library of this seat: a value-semantic program logic over the model, plain models, and walks of functions. -/
import Derived.Test.YtjllgkglfabhaaaDoorK8
import Derived.Shelf.Strconv.Itoa3
set_option linter.unusedVariables false
set_option linter.unusedSimpArgs false
namespace Go.Av
open Go
section
variable {P : Program}
theorem tabCells_eq : tabCells = (Lib.pow10Tab.map fun z => Value.int .u64 z).toArray := by kernel_rfl

/-- A callee that holds nothing, in a world that has only grown. -/
theorem grown_end {g : Gh} {w : World} (hg : g.ar = []) (hI : Inv g w [] []) (hT : Tab w g) (k : Nat) (os : Array Obj) : Inv g (Go.Sort.grow (w.drewN k) os) [] [] ∧ Fr w g (Go.Sort.grow (w.drewN k) os) g := by
  have hob : g.ob = [] := List.eq_nil_of_length_eq_zero hI.obl
  have hsz : w.heap.size ≤ (Go.Sort.grow (w.drewN k) os).heap.size := by simp [Go.Sort.grow]
  refine ⟨⟨hI.obl, hI.arl, fun l row b h => by simp at h, fun k r v h => by simp at h, hI.obob, hI.arar, hI.obar, fun b hb => hI.fresh b (Nat.le_trans hsz hb)⟩, ?_⟩
  exact ⟨rfl, rfl, rfl, hsz, fun b hb _ _ => Go.Sort.heap_grow_old _ _ hb, fun _ _ _ => rfl, ⟨[], by simp, by simp⟩, fun k v b h1 h2 => .inr (Gh.arb_mem h1 h2), fun k v h => ⟨v, h, Nat.le_refl _, fun _ => rfl⟩, hT⟩

theorem itoa_contract {ρ : Go.Shelf.Ren} (L : Go.Proofs.LaysM.n171 P ρ) (hent : ∀ args w, (callFunc (ρ.f 171) args).run P w = .ok (.enter (ρ.f 171) args) w) {k : Nat} (hk : tabAt = some k) (hgl : P.globalNamed "internal/strconv.uint64pow10" = some k) (n : Int) (h0 : -9223372036854775808 ≤ n) (h1 : n ≤ 9223372036854775807) :
    ACalls P (ρ.f 171) [.i n] [] (.s (Lib.itoa n)) [] [] := by
  refine ⟨hent, Nat.le_refl _, fun g w vs hg hI hT hvl hvr => ?_⟩
  obtain ⟨v, rfl⟩ : ∃ v, vs = #[v] := by
    have : vs.size = 1 := hvl
    exact ⟨vs[0], by apply Array.ext; · simpa using this
                     · intro i h1 h2; simp at h2; subst h2; rfl⟩
  have hv := hvr 0 _ v rfl rfl
  simp only [RepV, RepE, RepC, RepD] at hv
  subst hv
  obtain ⟨_, _, _, ty, mk, hb⟩ := hT k hk
  have htab : Lib.TabIs P w "internal/strconv.uint64pow10" .u64 Lib.pow10Tab := by
    rw [Lib.TabIs, World.var?, hgl, ← tabCells_eq]
    simp [hb]
  refine (Go.Proofs.Any.strconv_Itoa L n h0 h1 w htab).mono ?_
  rintro e w' ⟨rfl, k, os, rfl⟩
  obtain ⟨q1, q2⟩ := grown_end hg hI hT k os
  exact ⟨_, g, rfl, by simp [RepV, RepE, RepC, RepD, bs], q1, q2⟩
end
end Go.Av

namespace Go.Av
open Go

def signB (k : Int) : UInt8 := if k = 1 then 63 else if k = 2 then 73 else if k = 3 then 66 else if k = 4 then 62 else 42
def tyTextF : Nat → MTy → List UInt8
  | 0, _ => []
  | d + 1, .mk k [a, b] => 40 :: (tyTextF d a ++ signB k :: (tyTextF d b ++ [41]))
  | _ + 1, .mk k _ => [signB k]
theorem tyTextF_any (d : Nat) : tyTextF (d + 1) anyT = [63] := rfl
theorem tyTextF_int (d : Nat) : tyTextF (d + 1) intT = [73] := rfl
theorem tyTextF_bool (d : Nat) : tyTextF (d + 1) boolT = [66] := rfl
theorem tyTextF_fn (d : Nat) (a b : MTy) : tyTextF (d + 1) (.mk 4 [a, b]) = 40 :: (tyTextF d a ++ 62 :: (tyTextF d b ++ [41])) := rfl
theorem tyTextF_pair (d : Nat) (a b : MTy) : tyTextF (d + 1) (.mk 5 [a, b]) = 40 :: (tyTextF d a ++ 42 :: (tyTextF d b ++ [41])) := rfl

/-- The text of a type (types are no deeper than 4). -/
def tyText (t : MTy) : List UInt8 := tyTextF 4 t

def opB (k : Int) : UInt8 := if k = 6 then 32 else if k = 7 then 43 else 60
def tmTextF : Nat → MTm → List UInt8
  | 0, _ => []
  | _ + 1, .mk k s n _ _ _ [] => if k = 1 then s else if k = 2 then Lib.itoa n else if k = 3 then [84] else [70]
  | d + 1, .mk k s _ t f l [a] => if k = 5 then 33 :: (s ++ 58 :: (tyText t ++ 46 :: tmTextF d a)) else if k = 11 then 36 :: tmTextF d a else if k = 12 then 37 :: tmTextF d a
      else if k = 13 then 40 :: (tmTextF d a ++ 58 :: (tyText t ++ [41])) else 40 :: (tmTextF d a ++ 58 :: (tyText f ++ 126 :: (tyText t ++ 35 :: (Lib.itoa l ++ [41]))))
  | d + 1, .mk k _ _ _ _ _ [a, b] => if k = 10 then 91 :: (tmTextF d a ++ 44 :: (tmTextF d b ++ [93])) else 40 :: (tmTextF d a ++ opB k :: (tmTextF d b ++ [41]))
  | d + 1, .mk _ _ _ _ _ _ [a, b, c] => 123 :: (tmTextF d a ++ 63 :: (tmTextF d b ++ 58 :: (tmTextF d c ++ [125])))
  | _ + 1, _ => []
section
variable (d : Nat)
theorem tmTextF_var (s : List UInt8) : tmTextF (d + 1) (tVar s) = s := by simp [tmTextF, tVar]
theorem tmTextF_num (n : Int) : tmTextF (d + 1) (tNum n) = Lib.itoa n := by simp [tmTextF, tNum]
theorem tmTextF_true : tmTextF (d + 1) tTrue = [84] := by simp [tmTextF, tTrue]
theorem tmTextF_false : tmTextF (d + 1) tFalse = [70] := by simp [tmTextF, tFalse]
theorem tmTextF_lam (s : List UInt8) (t : MTy) (a : MTm) : tmTextF (d + 1) (tLam s t a) = 33 :: (s ++ 58 :: (tyText t ++ 46 :: tmTextF d a)) := by simp [tmTextF, tLam]
theorem tmTextF_n1 {k : Int} (hk : k = 11 ∨ k = 12) (a : MTm) : tmTextF (d + 1) (tN1 k a) = (if k = 11 then 36 else 37) :: tmTextF d a := by rcases hk with rfl | rfl <;> simp [tmTextF, tN1]
theorem tmTextF_as (a : MTm) (t : MTy) : tmTextF (d + 1) (tAs a t) = 40 :: (tmTextF d a ++ 58 :: (tyText t ++ [41])) := by simp [tmTextF, tAs]
theorem tmTextF_cast (a : MTm) (f t : MTy) (l : Int) : tmTextF (d + 1) (tCast a f t l) = 40 :: (tmTextF d a ++ 58 :: (tyText f ++ 126 :: (tyText t ++ 35 :: (Lib.itoa l ++ [41])))) := by simp [tmTextF, tCast]
theorem tmTextF_pair (a b : MTm) : tmTextF (d + 1) (tN2 10 a b) = 91 :: (tmTextF d a ++ 44 :: (tmTextF d b ++ [93])) := by simp [tmTextF, tN2]
theorem tmTextF_n2 {k : Int} (hk : k = 6 ∨ k = 7 ∨ k = 8) (a b : MTm) : tmTextF (d + 1) (tN2 k a b) = 40 :: (tmTextF d a ++ opB k :: (tmTextF d b ++ [41])) := by rcases hk with rfl | rfl | rfl <;> simp [tmTextF, tN2]
theorem tmTextF_ite (a b c : MTm) : tmTextF (d + 1) (tIf a b c) = 123 :: (tmTextF d a ++ 63 :: (tmTextF d b ++ 58 :: (tmTextF d c ++ [125]))) := by simp [tmTextF, tIf]
end

/-! ### Numerals -/
theorem decDigits_step {n : Nat} (h : 9 < n) : Lib.decDigits n = Lib.decDigits (n / 10) ++ [UInt8.ofNat (48 + n % 10)] := by
  conv => lhs; rw [Lib.decDigits, dif_neg (by omega)]
theorem decDigits_small {n : Nat} (h : n ≤ 9) : Lib.decDigits n = [UInt8.ofNat (48 + n)] := Lib.decDigits_one (by omega)
theorem itoa_nonneg (n : Nat) : Lib.itoa n = Lib.decDigits n := by simp [Lib.itoa]
theorem itoa_neg {n : Int} (h : n < 0) : Lib.itoa n = 45 :: Lib.itoa (-n) := by
  rw [Lib.itoa, if_pos h, Lib.itoa, if_neg (by omega)]
  congr 2
  omega
end Go.Av
