/- A part of the library of this seat. -/
import Derived.Test.YtcgmmknfpfdghaaDoorA21
set_option linter.unusedVariables false
set_option linter.unusedSimpArgs false
namespace Go.Av
attribute [-simp] Go.Av.astepJ Go.Av.relC Go.Av.relL Go.Av.relV Go.Av.relVs Go.Av.callJ Go.Av.IT.kind_v Go.Av.IT.kind_b Go.Av.IT.kind_p Go.Av.IT.name_v Go.Av.IT.name_b Go.Av.IT.name_p Go.Av.IT.kids_v Go.Av.IT.kids_b Go.Av.IT.kids_p Go.Av.eIT_len
open Go

mutual
def coRow (e : TypeId) : MCo -> List GC
 | .mk k t b l => [.d (.i k), .d (.i t), .d (.i b), .t e 4 l.length (coRows e l)]
def coRows (e : TypeId) : List MCo -> List GC
 | [] => []
 | t :: r => coRow e t ++ coRows e r
end
def coK (e : TypeId) (l : List MCo) : GC := .t e 4 l.length (coRows e l)
theorem coK_unf (e : TypeId) (l : List MCo) : coK e l = .t e 4 l.length (coRows e l) := rfl
theorem coRow_def (e : TypeId) (t : MCo) : coRow e t = [.d (.i t.kind), .d (.i t.tag), .d (.i t.label), coK e t.kids] := by cases t; simp [coRow, coK]
mutual
theorem coRow_dv (e : TypeId) : ∀ (t : MCo), dvL (coRow e t) = eCo t
 | .mk k _ _ l => by
  have := coRows_dv e l
  rw [coRow_def, eCo_def]
  simp only [dvL, GC.dv, coK, MCo.kind_mk, MCo.tag_mk, MCo.label_mk, MCo.kids_mk, this]
theorem coRows_dv (e : TypeId) : ∀ (l : List MCo), chunks 4 l.length (dvL (coRows e l)) = l.map eCo
 | [] => rfl
 | t :: r => by
  have h1 := coRow_dv e t
  have h2 := coRows_dv e r
  rw [coRows, dvL_append, h1, List.length_cons, chunks_cons _ (by rw [eCo_def]; rfl), h2, List.map_cons]
end
theorem coK_dv (e : TypeId) (l : List MCo) : (coK e l).dv = .sl (l.map eCo) := by
 simp only [coK, GC.dv, coRows_dv]
mutual
theorem coRow_pl (e : TypeId) : ∀ (t : MCo), plL (coRow e t) = true
 | .mk k _ _ l => by
  have := coRows_pl e l
  rw [coRow_def]
  simp only [plL, GC.pl, coK, MCo.kids_mk, this, Bool.and_self]
theorem coRows_pl (e : TypeId) : ∀ (l : List MCo), plL (coRows e l) = true
 | [] => rfl
 | t :: r => by rw [coRows, plL_append, coRow_pl e t, coRows_pl e r]; rfl
end
theorem coK_dp (e : TypeId) (l : List MCo) : (coK e l).dv = .sl (l.map eCo) /\ (coK e l).pl = true := ⟨coK_dv e l, by simp only [coK, GC.pl, coRows_pl]⟩

abbrev rCo (t : MCo) (v : Value) : List DV := [.i t.kind, .i t.tag, .i t.label, .raw v]
theorem mk_coRows (e : TypeId) : ∀ {l : List MCo} {vs : List Value}, vs.length = l.length -> Mk (coRows e l) (List.zipWith rCo l vs).flatten ((l.map fun t => coK e t.kids).zip vs)
 | [], [], _ => .nil
 | t :: r, v :: vs, h => by
  rw [coRows, coRow_def]
  exact .d rfl (.d rfl (.d rfl (.t (mk_coRows e (by simpa using h)))))
theorem mk_coRows_inv (e : TypeId) : ∀ {l : List MCo} {ds : List DV} {L : Ts}, Mk (coRows e l) ds L -> ∃ vs : List Value, vs.length = l.length /\ chunks 4 l.length ds = List.zipWith rCo l vs /\ L = (l.map fun t => coK e t.kids).zip vs
 | [], ds, L, h => by
  rw [coRows] at h
  cases h
  exact ⟨[], rfl, rfl, rfl⟩
 | t :: r, ds, L, h => by
  rw [coRows, coRow_def] at h
  cases h with
  | d _ h =>
   cases h with
   | d _ h =>
    cases h with
    | d _ h =>
     cases h with
     | @t _ _ _ _ _ ds' L' v h =>
      obtain ⟨vs, h1, h2, h3⟩ := mk_coRows_inv e h
      refine ⟨v :: vs, by simp [h1], ?_, by rw [h3]; rfl⟩
      rw [List.length_cons, show DV.i t.kind :: DV.i t.tag :: DV.i t.label :: DV.raw v :: ds' = [DV.i t.kind, DV.i t.tag, DV.i t.label, DV.raw v] ++ ds' from rfl, chunks_cons (sz := 4) _ (r := [DV.i t.kind, DV.i t.tag, DV.i t.label, DV.raw v]) rfl, h2]
      rfl
theorem coRows_scal (e : TypeId) : ∀ (l : List MCo), ∀ x, GC.d x ∈ coRows e l -> x.scal = true
 | [], x, h => by simp [coRows] at h
 | t :: r, x, h => by
  rw [coRows, coRow_def] at h
  simp only [List.cons_append, List.nil_append, List.mem_cons, coK] at h
  rcases h with h | h | h | h | h
  ·cases h; rfl
  ·cases h; rfl
  ·cases h; rfl
  ·cases h
  ·exact coRows_scal e r x h

mutual
def markC : MCo -> Nat -> MCo
 | .mk _ _ _ l, k => .mk k ((k + 1 : Nat) : Int) ((k + 2 : Nat) : Int) (markCS l (k + 3))
def markCS : List MCo -> Nat -> List MCo
 | [], _ => []
 | t :: r, k => markC t k :: markCS r (k + 3 + 3 * nCoS t.kids)
end
theorem markC_def (t : MCo) (k : Nat) : markC t k = .mk k ((k + 1 : Nat) : Int) ((k + 2 : Nat) : Int) (markCS t.kids (k + 3)) := by cases t; simp [markC]
theorem markCS_len : ∀ (l : List MCo) (k : Nat), (markCS l k).length = l.length
 | [], _ => by simp [markCS]
 | t :: r, k => by simp [markCS, markCS_len r]
theorem nCoS_cons (t : MCo) (r : List MCo) : nCoS (t :: r) = 1 + nCoS t.kids + nCoS r := by rw [nCoS, nCo_def]
theorem markCS_append : ∀ (a b : List MCo) (k : Nat), markCS (a ++ b) k = markCS a k ++ markCS b (k + 3 * nCoS a)
 | [], b, k => by simp [markCS, nCoS]
 | t :: r, b, k => by
  rw [List.cons_append, markCS, markCS, markCS_append r b, List.cons_append, nCoS_cons]
  congr 3
  omega
theorem nCoS_append : ∀ (a b : List MCo), nCoS (a ++ b) = nCoS a + nCoS b
 | [], b => by simp [nCoS]
 | t :: r, b => by rw [List.cons_append, nCoS_cons, nCoS_cons, nCoS_append r b]; omega
def mC (l : List MCo) (k j : Nat) : List MCo := markCS (l.take j) k ++ l.drop j
theorem mC_zero (l : List MCo) (k : Nat) : mC l k 0 = l := by simp [mC, markCS]
theorem mC_all (l : List MCo) (k : Nat) : mC l k l.length = markCS l k := by simp [mC]
theorem mC_len (l : List MCo) (k j : Nat) : (mC l k j).length = l.length := by simp only [mC, List.length_append, markCS_len, List.length_take, List.length_drop]; omega
theorem mC_at {l : List MCo} {k j : Nat} {u : MCo} (h : l[j]? = some u) : (mC l k j)[j]? = some u := by
 have hj := (List.getElem?_eq_some_iff.1 h).1
 have e : (markCS (l.take j) k).length = j := by rw [markCS_len, List.length_take]; omega
 rw [mC, List.getElem?_append_right (by omega), e, Nat.sub_self, drop_of h]; rfl
theorem mC_succ {l : List MCo} {k j : Nat} {u : MCo} (h : l[j]? = some u) : mC l k (j + 1) = (mC l k j).set j (markC u (k + 3 * nCoS (l.take j))) := by
 have hj := (List.getElem?_eq_some_iff.1 h).1
 have e : (markCS (l.take j) k).length = j := by rw [markCS_len, List.length_take]; omega
 rw [mC, mC, take_succ_of h, markCS_append, drop_of h, List.set_append_right _ _ (by omega), e, Nat.sub_self, List.set_cons_zero, List.append_assoc]
 simp [markCS]
theorem nCoS_take_succ {l : List MCo} {j : Nat} {u : MCo} (h : l[j]? = some u) : nCoS (l.take (j + 1)) = nCoS (l.take j) + 1 + nCoS u.kids := by
 rw [take_succ_of h, nCoS_append, nCoS_cons]; simp [nCoS]; omega
theorem nCoS_take_le (l : List MCo) (j : Nat) : nCoS (l.take j) <= nCoS l := by
 conv => rhs; rw [<- List.take_append_drop j l, nCoS_append]
 omega
theorem markCS_at {l : List MCo} {k j : Nat} {u : MCo} (h : l[j]? = some u) : (markCS l k)[j]? = some (markC u (k + 3 * nCoS (l.take j))) := by
 have hj := (List.getElem?_eq_some_iff.1 h).1
 have e : l = l.take j ++ u :: l.drop (j + 1) := by rw [<- drop_of h, List.take_append_drop]
 have e2 : (markCS (l.take j) k).length = j := by rw [markCS_len, List.length_take]; omega
 have e3 : markCS l k = markCS (l.take j) k ++ markCS (u :: l.drop (j + 1)) (k + 3 * nCoS (l.take j)) := by rw [<- markCS_append, <- e]
 rw [e3, List.getElem?_append_right (by omega), e2, Nat.sub_self]
 simp [markCS]
end Go.Av
