/- A part of the library of this seat: a value-semantic program logic over the model, plain models, and walks of functions. -/
import Derived.Test.YtjllgkglfabhaaaDoorF4
set_option linter.unusedVariables false
set_option linter.unusedSimpArgs false
namespace Go.Av
attribute [-simp] Go.Av.MCo.kind_mk Go.Av.MCo.tag_mk Go.Av.MCo.label_mk Go.Av.MCo.kids_mk Go.Av.freeStepG Go.Av.exA Go.Av.innAsH Go.Av.AV.innH Go.Av.CV.innH Go.Av.innHs Go.Av.AV.outnH Go.Av.CV.outnH
open Go
mutual
def typesM : MTm → List MTy
  | .mk k _ _ t _ _ l => (if hasTyM k = true then [t] else []) ++ typesS l
def typesS : List MTm → List MTy
  | [] => []
  | e :: r => typesM e ++ typesS r
end
mutual
/-- A term with other types: the first of a list, in the order of 'typesM'. -/
def withM : MTm → List MTy → MTm
  | .mk k s n t f lb l, ts => .mk k s n (if hasTyM k = true then ts.headD t else t) f lb (withS l (if hasTyM k = true then ts.drop 1 else ts))
def withS : List MTm → List MTy → List MTm
  | [], _ => []
  | e :: r, ts => withM e ts :: withS r (ts.drop (typesM e).length)
end
/-- A valid term: its types are valid, and no more than its nodes. -/
theorem TmV.types {nt : Int} {d : Nat} {e : MTm} (h : TmV nt d e) : (∀ t ∈ typesM e, shapeTy 4 t = true) ∧ (typesM e).length ≤ nodesM e := by
  induction h with
  | var => simp [typesM, typesS, hasTyM]
  | num => simp [typesM, typesS, hasTyM]
  | tru => simp [typesM, typesS, hasTyM]
  | fls => simp [typesM, typesS, hasTyM]
  | lam _ _ h3 _ ih =>
    obtain ⟨h1, h2⟩ := ih
    simp only [typesM, typesS, hasTyM, nodesM, nodesS]
    refine ⟨fun t ht => ?_, by simp; omega⟩
    simp at ht
    rcases ht with rfl | ht
    · exact h3
    · exact h1 t ht
  | asc _ h3 _ ih =>
    obtain ⟨h1, h2⟩ := ih
    simp only [typesM, typesS, hasTyM, nodesM, nodesS]
    refine ⟨fun t ht => ?_, by simp; omega⟩
    simp at ht
    rcases ht with rfl | ht
    · exact h3
    · exact h1 t ht
  | n2 _ hk _ _ ih1 ih2 =>
    have h5 : ∀ k : Int, k = 6 ∨ k = 7 ∨ k = 8 ∨ k = 10 → hasTyM k = false := fun k h => by rcases h with rfl | rfl | rfl | rfl <;> rfl
    simp only [typesM, typesS, h5 _ hk, nodesM, nodesS]
    refine ⟨fun t ht => ?_, by simp; omega⟩
    simp at ht
    rcases ht with ht | ht
    · exact ih1.1 t ht
    · exact ih2.1 t ht
  | ite _ _ _ _ ih1 ih2 ih3 =>
    simp only [typesM, typesS, hasTyM, nodesM, nodesS]
    refine ⟨fun t ht => ?_, by simp; omega⟩
    simp at ht
    rcases ht with ht | ht | ht
    · exact ih1.1 t ht
    · exact ih2.1 t ht
    · exact ih3.1 t ht
  | n1 _ hk _ ih =>
    have h5 : ∀ k : Int, k = 11 ∨ k = 12 → hasTyM k = false := fun k h => by rcases h with rfl | rfl <;> rfl
    simp only [typesM, typesS, h5 _ hk, nodesM, nodesS]
    refine ⟨fun t ht => ?_, by simp; omega⟩
    simp at ht
    exact ih.1 t ht
  | cast _ _ _ _ _ _ ih =>
    simp only [typesM, typesS, hasTyM, nodesM, nodesS]
    refine ⟨fun t ht => ?_, by simp; omega⟩
    simp at ht
    exact ih.1 t ht
theorem headD_mem {ts : List MTy} {t : MTy} (h : shapeTy 4 t = true) (hs : ∀ u ∈ ts, shapeTy 4 u = true) : shapeTy 4 (ts.headD t) = true := by
  cases ts with
  | nil => exact h
  | cons u r => exact hs u (by simp)
/-- A valid term with other valid types is valid, and has as_ many nodes. -/
theorem TmV.withM {nt : Int} {d : Nat} {e : MTm} (h : TmV nt d e) : ∀ {ts : List MTy}, (∀ u ∈ ts, shapeTy 4 u = true) → TmV nt d (Av.withM e ts) ∧ nodesM (Av.withM e ts) = nodesM e := by
  induction h with
  | var h1 h2 => intro ts _; exact ⟨.var h1 h2, rfl⟩
  | num h1 h2 h3 => intro ts _; exact ⟨.num h1 h2 h3, rfl⟩
  | tru h1 => intro ts _; exact ⟨.tru h1, rfl⟩
  | fls h1 => intro ts _; exact ⟨.fls h1, rfl⟩
  | lam h1 h2 h3 _ ih =>
    intro ts hs
    have hd : ∀ u ∈ ts.drop 1, shapeTy 4 u = true := fun u hu => hs u (List.mem_of_mem_drop hu)
    simp only [Av.withM, withS, hasTyM, nodesM, nodesS]
    exact ⟨.lam h1 h2 (headD_mem h3 hs) (ih hd).1, by have h := (ih hd).2; simp at h ⊢; exact h⟩
  | asc h1 h3 _ ih =>
    intro ts hs
    have hd : ∀ u ∈ ts.drop 1, shapeTy 4 u = true := fun u hu => hs u (List.mem_of_mem_drop hu)
    simp only [Av.withM, withS, hasTyM, nodesM, nodesS]
    exact ⟨.asc h1 (headD_mem h3 hs) (ih hd).1, by have h := (ih hd).2; simp at h ⊢; exact h⟩
  | n2 h1 hk _ _ ih1 ih2 =>
    intro ts hs
    have h5 : ∀ k : Int, k = 6 ∨ k = 7 ∨ k = 8 ∨ k = 10 → hasTyM k = false := fun k h => by rcases h with rfl | rfl | rfl | rfl <;> rfl
    have hd : ∀ n, ∀ u ∈ ts.drop n, shapeTy 4 u = true := fun n u hu => hs u (List.mem_of_mem_drop hu)
    simp only [Av.withM, withS, h5 _ hk, nodesM, nodesS]
    exact ⟨.n2 h1 hk (ih1 hs).1 (ih2 (hd _)).1, by simp [(ih1 hs).2, (ih2 (hd _)).2]⟩
  | ite h1 _ _ _ ih1 ih2 ih3 =>
    intro ts hs
    have hd : ∀ n, ∀ u ∈ ts.drop n, shapeTy 4 u = true := fun n u hu => hs u (List.mem_of_mem_drop hu)
    have hd2 : ∀ n m, ∀ u ∈ (ts.drop n).drop m, shapeTy 4 u = true := fun n m u hu => hd n u (List.mem_of_mem_drop hu)
    simp only [Av.withM, withS, hasTyM, nodesM, nodesS]
    exact ⟨.ite h1 (ih1 hs).1 (ih2 (hd _)).1 (ih3 (hd2 _ _)).1, by have h1 := (ih1 hs).2; have h2 := fun n => (ih2 (hd n)).2; have h3 := fun n => (ih3 (hd n)).2; simp [h1, h2, h3]⟩
  | n1 h1 hk _ ih =>
    intro ts hs
    have h5 : ∀ k : Int, k = 11 ∨ k = 12 → hasTyM k = false := fun k h => by rcases h with rfl | rfl <;> rfl
    simp only [Av.withM, withS, h5 _ hk, nodesM, nodesS]
    exact ⟨.n1 h1 hk (ih hs).1, by simp [(ih hs).2]⟩
  | cast h1 h2 h3 h4 h6 _ ih =>
    intro ts hs
    simp only [Av.withM, withS, hasTyM, nodesM, nodesS]
    exact ⟨.cast h1 h2 h3 h4 h6 (ih hs).1, by simp [(ih hs).2]⟩

/-- WithTypes. -/
def withTypesM (e : MTm) (ts : List MTy) : Option MTm := if (termValidM e && decide (ts.length = (typesM e).length) && ts.all (shapeTy 4)) = true then some (withM e ts) else none
def tmRes : Option MTm → List AV
  | some e => [aTm e, .b true]
  | none => [aTm zeroE, .b false]
def tm0 (o : Option MTm) : MTm := o.getD zeroE
end Go.Av
