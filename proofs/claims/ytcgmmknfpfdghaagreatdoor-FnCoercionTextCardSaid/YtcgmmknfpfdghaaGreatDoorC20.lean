/- A part of the library of this seat. -/
import Derived.Test.YtcgmmknfpfdghaaGreatDoorC19
set_option linter.unusedVariables false
set_option linter.unusedSimpArgs false
namespace Go.Av
attribute [-simp] Go.Av.astepJ Go.Av.relC Go.Av.relL Go.Av.relV Go.Av.relVs Go.Av.callJ Go.Av.IT.kind_v Go.Av.IT.kind_b Go.Av.IT.kind_p Go.Av.IT.name_v Go.Av.IT.name_b Go.Av.IT.name_p Go.Av.IT.kids_v Go.Av.IT.kids_b Go.Av.IT.kids_p Go.Av.eIT_len
open Go

mutual
def coRow (e : TypeId) : MCo -> List GC
 | .mk k t b l => [.d (.i k), .d (.i t), .d (.i b), .t e 4 l.length (coRows e l)]
def coRows (e : TypeId) : List MCo -> List GC
 | [] => []
 | t :: r => coRow e t ++ coRows e r
end
def coK (e : TypeId) (l : List MCo) : GC := .t e 4 l.length (coRows e l)
theorem coK_unf (e : TypeId) (l : List MCo) : coK e l = .t e 4 l.length (coRows e l) := rfl
theorem coRow_def (e : TypeId) (t : MCo) : coRow e t = [.d (.i t.kind), .d (.i t.tag), .d (.i t.label), coK e t.kids] := by cases t; simp [coRow, coK]
mutual
theorem coRow_dv (e : TypeId) : ∀ (t : MCo), dvL (coRow e t) = eCo t
 | .mk k _ _ l => by
  have := coRows_dv e l
  rw [coRow_def, eCo_def]
  simp only [dvL, GC.dv, coK, MCo.kind_mk, MCo.tag_mk, MCo.label_mk, MCo.kids_mk, this]
theorem coRows_dv (e : TypeId) : ∀ (l : List MCo), chunks 4 l.length (dvL (coRows e l)) = l.map eCo
 | [] => rfl
 | t :: r => by
  have h1 := coRow_dv e t
  have h2 := coRows_dv e r
  rw [coRows, dvL_append, h1, List.length_cons, chunks_cons _ (by rw [eCo_def]; rfl), h2, List.map_cons]
end
theorem coK_dv (e : TypeId) (l : List MCo) : (coK e l).dv = .sl (l.map eCo) := by
 simp only [coK, GC.dv, coRows_dv]
mutual
theorem coRow_pl (e : TypeId) : ∀ (t : MCo), plL (coRow e t) = true
 | .mk k _ _ l => by
  have := coRows_pl e l
  rw [coRow_def]
  simp only [plL, GC.pl, coK, MCo.kids_mk, this, Bool.and_self]
theorem coRows_pl (e : TypeId) : ∀ (l : List MCo), plL (coRows e l) = true
 | [] => rfl
 | t :: r => by rw [coRows, plL_append, coRow_pl e t, coRows_pl e r]; rfl
end
theorem coK_dp (e : TypeId) (l : List MCo) : (coK e l).dv = .sl (l.map eCo) /\ (coK e l).pl = true := ⟨coK_dv e l, by simp only [coK, GC.pl, coRows_pl]⟩

abbrev rCo (t : MCo) (v : Value) : List DV := [.i t.kind, .i t.tag, .i t.label, .raw v]
theorem mk_coRows (e : TypeId) : ∀ {l : List MCo} {vs : List Value}, vs.length = l.length -> Mk (coRows e l) (List.zipWith rCo l vs).flatten ((l.map fun t => coK e t.kids).zip vs)
 | [], [], _ => .nil
 | t :: r, v :: vs, h => by
  rw [coRows, coRow_def]
  exact .d rfl (.d rfl (.d rfl (.t (mk_coRows e (by simpa using h)))))
mutual
def markC : MCo -> Nat -> MCo
 | .mk _ _ _ l, k => .mk k ((k + 1 : Nat) : Int) ((k + 2 : Nat) : Int) (markCS l (k + 3))
def markCS : List MCo -> Nat -> List MCo
 | [], _ => []
 | t :: r, k => markC t k :: markCS r (k + 3 + 3 * nCoS t.kids)
end
def mC (l : List MCo) (k j : Nat) : List MCo := markCS (l.take j) k ++ l.drop j
end Go.Av
