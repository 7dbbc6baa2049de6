/- A part of the library of this seat. -/
import Derived.Test.YtcmdpggdaiinpaaGreatDoorQ25
set_option linter.unusedVariables false
set_option linter.unusedSimpArgs false
namespace Go.Av
attribute [-simp] Go.Av.MCo.kind_mk Go.Av.MCo.tag_mk Go.Av.MCo.label_mk Go.Av.MCo.kids_mk Go.Av.astepJ Go.Av.relC Go.Av.relL Go.Av.relV Go.Av.relVs Go.Av.callJ
open Go

def opRows : List MOp -> List GC
 | [] => []
 | o :: r => .d (.i o.kind) :: .d (.i o.a) :: opRows r
def opK (e : TypeId) (l : List MOp) : GC := .t e 2 l.length (opRows l)
theorem opK_unf (e : TypeId) (l : List MOp) : opK e l = .t e 2 l.length (opRows l) := rfl
theorem opRows_dv : ∀ (l : List MOp), chunks 2 l.length (dvL (opRows l)) = l.map eOp
 | [] => rfl
 | o :: r => by
  have h := opRows_dv r
  rw [opRows, List.length_cons, show dvL (GC.d (DV.i o.kind) :: GC.d (DV.i o.a) :: opRows r) = [DV.i o.kind, DV.i o.a] ++ dvL (opRows r) by simp only [dvL, GC.dv, List.cons_append, List.nil_append], chunks_cons (sz := 2) _ rfl, h]
  rfl
theorem opRows_pl : ∀ (l : List MOp), plL (opRows l) = true
 | [] => rfl
 | o :: r => by rw [opRows]; simp only [plL, GC.pl, opRows_pl r, Bool.and_self]
theorem opK_dp (e : TypeId) (l : List MOp) : (opK e l).dv = .sl (l.map eOp) /\ (opK e l).pl = true := ⟨by simp only [opK, GC.dv, opRows_dv], by simp only [opK, GC.pl, opRows_pl]⟩
theorem mk_op : ∀ (l : List MOp), Mk (opRows l) (l.map eOp).flatten []
 | [] => .nil
 | o :: r => by
  rw [opRows, List.map_cons, List.flatten_cons]
  exact .d rfl (.d rfl (mk_op r))
theorem mk_op_inv : ∀ {l : List MOp} {ds : List DV} {L : Ts}, Mk (opRows l) ds L -> chunks 2 l.length ds = l.map eOp /\ L = []
 | [], ds, L, h => by
  rw [opRows] at h
  cases h
  exact ⟨rfl, rfl⟩
 | o :: r, ds, L, h => by
  rw [opRows] at h
  cases h with
  | @d _ _ ds1 _ _ h =>
   cases h with
   | @d _ _ ds2 _ _ h =>
    obtain ⟨h1, h2⟩ := mk_op_inv h
    refine ⟨?_, h2⟩
    rw [List.length_cons, show DV.i o.kind :: DV.i o.a :: ds2 = [DV.i o.kind, DV.i o.a] ++ ds2 from rfl, chunks_cons (sz := 2) _ rfl, h1]
    rfl
theorem opRows_scal : ∀ (l : List MOp), ∀ x, GC.d x ∈ opRows l -> x.scal = true
 | [], x, h => by simp [opRows] at h
 | o :: r, x, h => by
  rw [opRows] at h
  simp only [List.mem_cons] at h
  rcases h with h | h | h
  ·cases h; rfl
  ·cases h; rfl
  ·exact opRows_scal r x h

def seqO (k : Nat) : Nat -> List MOp
 | 0 => []
 | n + 1 => seqO k n ++ [⟨((k + 2 * n : Nat) : Int), ((k + 2 * n + 1 : Nat) : Int)⟩]
def mO (l : List MOp) (k j : Nat) : List MOp := seqO k j ++ l.drop j
end Go.Av
