/- A part of the library of this seat. -/
import Derived.Test.YtflmjilnecanhaaC8
set_option linter.unusedVariables false
set_option linter.unusedSimpArgs false
namespace Go.Av
attribute [-simp] Go.Av.freeStepG Go.Av.exA Go.Av.innAsH Go.Av.AV.innH Go.Av.CV.innH Go.Av.innHs Go.Av.AV.outnH Go.Av.CV.outnH Go.Av.astepJ Go.Av.relC Go.Av.relL Go.Av.relV Go.Av.relVs
open Go
mutual
def typesM : MTm -> List MTy
 | .mk k _ _ t _ _ l => (if hasTyM k = true then [t] else []) ++ typesS l
def typesS : List MTm -> List MTy
 | [] => []
 | e :: r => typesM e ++ typesS r
end
mutual
def withM : MTm -> List MTy -> MTm
 | .mk k s n t f lb l, ts => .mk k s n (if hasTyM k = true then ts.headD t else t) f lb (withS l (if hasTyM k = true then ts.drop 1 else ts))
def withS : List MTm -> List MTy -> List MTm
 | [], _ => []
 | e :: r, ts => withM e ts :: withS r (ts.drop (typesM e).length)
end
theorem TmV.types {nt : Int} {d : Nat} {e : MTm} (h : TmV nt d e) : (∀ t ∈ typesM e, shapeTy 4 t = true) /\ (typesM e).length <= nodesM e := by
 induction h with
 | var => simp [typesM, typesS, hasTyM]
 | num => simp [typesM, typesS, hasTyM]
 | tru => simp [typesM, typesS, hasTyM]
 | fls => simp [typesM, typesS, hasTyM]
 | lam _ _ h3 _ ih =>
  obtain ⟨h1, h2⟩ := ih
  simp only [typesM, typesS, hasTyM, nodesM, nodesS]
  refine ⟨fun t ht => ?_, by simp; omega⟩
  simp at ht
  rcases ht with rfl | ht
  ·exact h3
  ·exact h1 t ht
 | asc _ h3 _ ih =>
  obtain ⟨h1, h2⟩ := ih
  simp only [typesM, typesS, hasTyM, nodesM, nodesS]
  refine ⟨fun t ht => ?_, by simp; omega⟩
  simp at ht
  rcases ht with rfl | ht
  ·exact h3
  ·exact h1 t ht
 | n2 _ hk _ _ ih1 ih2 =>
  have h5 : ∀ k : Int, k = 6 \/ k = 7 \/ k = 8 \/ k = 10 -> hasTyM k = false := fun k h => by rcases h with rfl | rfl | rfl | rfl <;> rfl
  simp only [typesM, typesS, h5 _ hk, nodesM, nodesS]
  refine ⟨fun t ht => ?_, by simp; omega⟩
  simp at ht
  rcases ht with ht | ht
  ·exact ih1.1 t ht
  ·exact ih2.1 t ht
 | ite _ _ _ _ ih1 ih2 ih3 =>
  simp only [typesM, typesS, hasTyM, nodesM, nodesS]
  refine ⟨fun t ht => ?_, by simp; omega⟩
  simp at ht
  rcases ht with ht | ht | ht
  ·exact ih1.1 t ht
  ·exact ih2.1 t ht
  ·exact ih3.1 t ht
 | n1 _ hk _ ih =>
  have h5 : ∀ k : Int, k = 11 \/ k = 12 -> hasTyM k = false := fun k h => by rcases h with rfl | rfl <;> rfl
  simp only [typesM, typesS, h5 _ hk, nodesM, nodesS]
  refine ⟨fun t ht => ?_, by simp; omega⟩
  simp at ht
  exact ih.1 t ht
 | cast _ _ _ _ _ _ ih =>
  simp only [typesM, typesS, hasTyM, nodesM, nodesS]
  refine ⟨fun t ht => ?_, by simp; omega⟩
  simp at ht
  exact ih.1 t ht
theorem headD_mem {ts : List MTy} {t : MTy} (h : shapeTy 4 t = true) (hs : ∀ u ∈ ts, shapeTy 4 u = true) : shapeTy 4 (ts.headD t) = true := by
 cases ts with
 | nil => exact h
 | cons u r => exact hs u (by simp)
theorem TmV.withM {nt : Int} {d : Nat} {e : MTm} (h : TmV nt d e) : ∀ {ts : List MTy}, (∀ u ∈ ts, shapeTy 4 u = true) -> TmV nt d (Av.withM e ts) /\ nodesM (Av.withM e ts) = nodesM e := by
 induction h with
 | var h1 h2 => intro ts _; exact ⟨.var h1 h2, rfl⟩
 | num h1 h2 h3 => intro ts _; exact ⟨.num h1 h2 h3, rfl⟩
 | tru h1 => intro ts _; exact ⟨.tru h1, rfl⟩
 | fls h1 => intro ts _; exact ⟨.fls h1, rfl⟩
 | lam h1 h2 h3 _ ih =>
  intro ts hs
  have hd : ∀ u ∈ ts.drop 1, shapeTy 4 u = true := fun u hu => hs u (List.mem_of_mem_drop hu)
  simp only [Av.withM, withS, hasTyM, nodesM, nodesS]
  exact ⟨.lam h1 h2 (headD_mem h3 hs) (ih hd).1, by have h := (ih hd).2; simp at h ⊢; exact h⟩
 | asc h1 h3 _ ih =>
  intro ts hs
  have hd : ∀ u ∈ ts.drop 1, shapeTy 4 u = true := fun u hu => hs u (List.mem_of_mem_drop hu)
  simp only [Av.withM, withS, hasTyM, nodesM, nodesS]
  exact ⟨.asc h1 (headD_mem h3 hs) (ih hd).1, by have h := (ih hd).2; simp at h ⊢; exact h⟩
 | n2 h1 hk _ _ ih1 ih2 =>
  intro ts hs
  have h5 : ∀ k : Int, k = 6 \/ k = 7 \/ k = 8 \/ k = 10 -> hasTyM k = false := fun k h => by rcases h with rfl | rfl | rfl | rfl <;> rfl
  have hd : ∀ n, ∀ u ∈ ts.drop n, shapeTy 4 u = true := fun n u hu => hs u (List.mem_of_mem_drop hu)
  simp only [Av.withM, withS, h5 _ hk, nodesM, nodesS]
  exact ⟨.n2 h1 hk (ih1 hs).1 (ih2 (hd _)).1, by simp [(ih1 hs).2, (ih2 (hd _)).2]⟩
 | ite h1 _ _ _ ih1 ih2 ih3 =>
  intro ts hs
  have hd : ∀ n, ∀ u ∈ ts.drop n, shapeTy 4 u = true := fun n u hu => hs u (List.mem_of_mem_drop hu)
  have hd2 : ∀ n m, ∀ u ∈ (ts.drop n).drop m, shapeTy 4 u = true := fun n m u hu => hd n u (List.mem_of_mem_drop hu)
  simp only [Av.withM, withS, hasTyM, nodesM, nodesS]
  exact ⟨.ite h1 (ih1 hs).1 (ih2 (hd _)).1 (ih3 (hd2 _ _)).1, by have h1 := (ih1 hs).2; have h2 := fun n => (ih2 (hd n)).2; have h3 := fun n => (ih3 (hd n)).2; simp [h1, h2, h3]⟩
 | n1 h1 hk _ ih =>
  intro ts hs
  have h5 : ∀ k : Int, k = 11 \/ k = 12 -> hasTyM k = false := fun k h => by rcases h with rfl | rfl <;> rfl
  simp only [Av.withM, withS, h5 _ hk, nodesM, nodesS]
  exact ⟨.n1 h1 hk (ih hs).1, by simp [(ih hs).2]⟩
 | cast h1 h2 h3 h4 h6 _ ih =>
  intro ts hs
  simp only [Av.withM, withS, hasTyM, nodesM, nodesS]
  exact ⟨.cast h1 h2 h3 h4 h6 (ih hs).1, by simp [(ih hs).2]⟩

def withTypesM (e : MTm) (ts : List MTy) : Option MTm := if (termValidM e && decide (ts.length = (typesM e).length) && ts.all (shapeTy 4)) = true then some (withM e ts) else none
def tmRes : Option MTm -> List AV
 | some e => [aTm e, .b true]
 | none => [aTm zeroE, .b false]
def tm0 (o : Option MTm) : MTm := o.getD zeroE
end Go.Av

namespace Go.Av
attribute [-simp] Go.Av.astepJ Go.Av.relC Go.Av.relL Go.Av.relV Go.Av.relVs
open Go

mutual
def tmRow (et em : TypeId) : MTm -> List GC
 | .mk k s n t f b l => [.d (.i k), .d (.str s), .d (.i n), .d (.i t.kind), tyK et t.kids, .d (.i f.kind), tyK et f.kids, .d (.i b), .t em 9 l.length (tmRows et em l)]
def tmRows (et em : TypeId) : List MTm -> List GC
 | [] => []
 | t :: r => tmRow et em t ++ tmRows et em r
end
def tmK (et em : TypeId) (l : List MTm) : GC := .t em 9 l.length (tmRows et em l)
theorem tmRow_def (et em : TypeId) (e : MTm) : tmRow et em e = [.d (.i e.kind), .d (.str e.name), .d (.i e.num), .d (.i e.ty.kind), tyK et e.ty.kids, .d (.i e.fr.kind), tyK et e.fr.kids, .d (.i e.label), tmK et em e.kids] := by cases e; simp [tmRow, tmK]
mutual
theorem tmRow_dv (et em : TypeId) : ∀ (t : MTm), dvL (tmRow et em t) = eTm t
 | .mk k s n t f b l => by
  have := tmRows_dv et em l
  rw [tmRow_def, eTm_def]
  simp only [dvL, GC.dv, tyK_dv, tmK, MTm.kind_mk, MTm.name_mk, MTm.num_mk, MTm.ty_mk, MTm.fr_mk, MTm.label_mk, MTm.kids_mk, this]
theorem tmRows_dv (et em : TypeId) : ∀ (l : List MTm), chunks 9 l.length (dvL (tmRows et em l)) = l.map eTm
 | [] => rfl
 | t :: r => by
  have h1 := tmRow_dv et em t
  have h2 := tmRows_dv et em r
  rw [tmRows, dvL_append, h1, List.length_cons, chunks_cons _ (by rw [eTm_def]; rfl), h2, List.map_cons]
end
theorem tmK_dv (et em : TypeId) (l : List MTm) : (tmK et em l).dv = .sl (l.map eTm) := by
 simp only [tmK, GC.dv, tmRows_dv]

mutual
theorem tmRow_pl (et em : TypeId) : ∀ (t : MTm), plL (tmRow et em t) = true
 | .mk k s n t f b l => by
  have := tmRows_pl et em l
  rw [tmRow_def]
  simp only [plL, GC.pl, (tyK_dp et _).2, tmK, MTm.kids_mk, MTm.ty_mk, MTm.fr_mk, this, Bool.and_self]
theorem tmRows_pl (et em : TypeId) : ∀ (l : List MTm), plL (tmRows et em l) = true
 | [] => rfl
 | t :: r => by rw [tmRows, plL_append, tmRow_pl et em t, tmRows_pl et em r]; rfl
end
theorem tmK_dp (et em : TypeId) (l : List MTm) : (tmK et em l).dv = .sl (l.map eTm) /\ (tmK et em l).pl = true := ⟨tmK_dv et em l, by simp only [tmK, GC.pl, tmRows_pl]⟩

abbrev V3 := Value × Value × Value
abbrev rTm (e : MTm) (v : V3) : List DV := [.i e.kind, .str e.name, .i e.num, .i e.ty.kind, .raw v.1, .i e.fr.kind, .raw v.2.1, .i e.label, .raw v.2.2]
abbrev tTm (et em : TypeId) (e : MTm) (v : V3) : Ts := [(tyK et e.ty.kids, v.1), (tyK et e.fr.kids, v.2.1), (tmK et em e.kids, v.2.2)]
def tsTm (et em : TypeId) (l : List MTm) (vs : List V3) : Ts := (List.zipWith (tTm et em) l vs).flatten
theorem tsTm_nil (et em : TypeId) (l : List MTm) : tsTm et em l [] = [] := by simp [tsTm]
theorem tsTm_cons (et em : TypeId) (e : MTm) (l : List MTm) (v : V3) (vs : List V3) : tsTm et em (e :: l) (v :: vs) = tTm et em e v ++ tsTm et em l vs := rfl
theorem mk_tmRows (et em : TypeId) : ∀ {l : List MTm} {vs : List V3}, vs.length = l.length -> Mk (tmRows et em l) (List.zipWith rTm l vs).flatten (tsTm et em l vs)
 | [], [], _ => .nil
 | t :: r, v :: vs, h => by
  rw [tmRows, tmRow_def, tsTm_cons]
  exact .d rfl (.d rfl (.d rfl (.d rfl (.t (.d rfl (.t (.d rfl (.t (mk_tmRows et em (by simpa using h))))))))))
theorem mk_tmRows_inv (et em : TypeId) : ∀ {l : List MTm} {ds : List DV} {L : Ts}, Mk (tmRows et em l) ds L -> ∃ vs : List V3, vs.length = l.length /\ chunks 9 l.length ds = List.zipWith rTm l vs /\ L = tsTm et em l vs
 | [], ds, L, h => by
  rw [tmRows] at h
  cases h
  exact ⟨[], rfl, rfl, rfl⟩
 | t :: r, ds, L, h => by
  rw [tmRows, tmRow_def] at h
  cases h with
  | d _ h => cases h with
  | d _ h => cases h with
  | d _ h => cases h with
  | d _ h => cases h with
  | @t _ _ _ _ _ _ _ v1 h => cases h with
  | d _ h => cases h with
  | @t _ _ _ _ _ _ _ v2 h => cases h with
  | d _ h => cases h with
  | @t _ _ _ _ _ ds' L' v3 h =>
   obtain ⟨vs, h1, h2, h3⟩ := mk_tmRows_inv et em h
   refine ⟨(v1, v2, v3) :: vs, by simp [h1], ?_, by rw [h3]; rfl⟩
   rw [List.length_cons, show DV.i t.kind :: DV.str t.name :: DV.i t.num :: DV.i t.ty.kind :: DV.raw v1 :: DV.i t.fr.kind :: DV.raw v2 :: DV.i t.label :: DV.raw v3 :: ds' = [DV.i t.kind, DV.str t.name, DV.i t.num, DV.i t.ty.kind, DV.raw v1, DV.i t.fr.kind, DV.raw v2, DV.i t.label, DV.raw v3] ++ ds' from rfl,
    chunks_cons (sz := 9) _ (r := [DV.i t.kind, DV.str t.name, DV.i t.num, DV.i t.ty.kind, DV.raw v1, DV.i t.fr.kind, DV.raw v2, DV.i t.label, DV.raw v3]) rfl, h2]
   rfl
theorem tmRows_scal (et em : TypeId) : ∀ (l : List MTm), ∀ x, GC.d x ∈ tmRows et em l -> x.scal = true
 | [], x, h => by simp [tmRows] at h
 | t :: r, x, h => by
  rw [tmRows, tmRow_def] at h
  simp only [List.cons_append, List.nil_append, List.mem_cons, tyK, tmK] at h
  rcases h with h | h | h | h | h | h | h | h | h | h
  ·cases h; rfl
  ·cases h; rfl
  ·cases h; rfl
  ·cases h; rfl
  ·cases h
  ·cases h; rfl
  ·cases h
  ·cases h; rfl
  ·cases h
  ·exact tmRows_scal et em r x h
theorem tsTm_snoc (et em : TypeId) {l : List MTm} {vs : List V3} {a : MTm} (h : l[vs.length]? = some a) (v : V3) : tsTm et em l (vs ++ [v]) = tsTm et em l vs ++ tTm et em a v := by
 obtain ⟨h1, h2⟩ := List.getElem?_eq_some_iff.1 h
 have hl : l = l.take vs.length ++ a :: l.drop (vs.length + 1) := by rw [<- h2, <- List.drop_eq_getElem_cons h1, List.take_append_drop]
 have ht : (l.take vs.length).length = vs.length := by rw [List.length_take]; omega
 generalize l.take vs.length = A at hl ht
 generalize l.drop (vs.length + 1) = B at hl
 subst hl
 have e : List.zipWith (tTm et em) (A ++ a :: B) (vs ++ []) = List.zipWith (tTm et em) A vs := by rw [List.zipWith_append ht]; simp
 rw [List.append_nil] at e
 rw [tsTm, tsTm, e, List.zipWith_append ht]
 simp
end Go.Av

namespace Go.Av
open Go

def triv (o : Oper) : Oper := { o with dst := none, op := .assign (.const (.bool true)), guard := none }
def lastL (l : List Oper) : List Oper := match l.getLast? with
 | some o => l.dropLast ++ [triv o]
 | none => []
def lastOk (l : List Oper) : Bool := match l.getLast? with
 | some o => o.guard.isNone && (l.zipIdx.all fun (x, j) => x.after.all fun e => !Region.binds .any e || decide (e.on < j)) && (l.dropLast.all fun x => match x.guard with | some (q, _) => decide (q < l.length - 1) | none => true)
   && ((List.range (l.length - 1)).all fun k => ((masks l []).getD (l.length - 1) 0).testBit k)
 | none => false

section
variable {P : Program}
def lastOf (l : List Oper) : List Oper := match l.getLast? with
 | some o => [o]
 | none => []
end
end Go.Av

namespace Go.Av
open Go

section
variable {P : Program} {n : Nat} {w0 w w' : World} {g0 g g' : Gh} {X S S' : List Nat} {s s' : St} {L L' : Ts} {a a' : Act} {x y : Code} {all : Array Oper} {ws : List Nat}

def wpcallP (P : Program) (L : Ts) (f : FuncId) (xs : List AV) (K : AV -> Ts -> Prop) : Prop := ∃ (as_ : List AV) (L1 L2 : Ts) (R : AV -> Ts -> Prop), L.Perm (L1 ++ L2) /\ FzVs L2 xs as_ /\ FCalls P f as_ L1 R /\ ∀ r L1', R r L1' -> K r (L1' ++ L2)
def callJ (P : Program) (s : St) (L : Ts) (o : Oper) (K : AV -> Ts -> Prop) : Prop :=
 match o.op with
 | .call { callee := .value f, args, .. } => onv (aval s f) fun fv => match fv with
  | .c (.fn fid []) => onv (avals s args.toList) fun xs => wpcallP P L fid xs K
  | _ => False
 | _ => False
theorem callJ_map {o : Oper} {K K' : AV -> Ts -> Prop} (hk : ∀ x L, K x L -> K' x L) (h : callJ P s L o K) : callJ P s L o K' := by
 unfold callJ at h ⊢
 split at h
 ·refine onv_map (fun fv h1 => ?_) h
  split at h1
  ·exact onv_map (fun xs ⟨as_, L1, L2, R, h2, h3, h4, h5⟩ => ⟨as_, L1, L2, R, h2, h3, h4, fun r L1' hr => hk _ _ (h5 r L1' hr)⟩) h1
  ·exact h1
 ·exact h
theorem callJ_astep {fr' : List (Nat × AV)} {V : List (List CV)} {A : List Arr} {ow : Bool} {o : Oper} {K : AV -> Ts -> Prop} (he : ∀ x ∈ o.op.operands.toList, aval ⟨fr', V, A⟩ x = aval s x) (h : callJ P s L o K) : astepJ P ⟨fr', V, A⟩ L ow o fun x V' A' L' => V' = V /\ A' = A /\ K x L' := by
 unfold callJ at h
 unfold astepJ
 split at h
 ·rename_i f args tys heq
  simp only [heq] at he ⊢
  have e1 : aval ⟨fr', V, A⟩ f = aval s f := he f (by simp [Op.operands, Call.operands])
  have e2 : avals ⟨fr', V, A⟩ args.toList = avals s args.toList := avals_congr fun p hp => he p (by simp [Op.operands, Call.operands]; exact .inr (by simpa using hp))
  rw [e1]
  refine onv_map (fun fv h1 => ?_) h
  split at h1
  ·simp only [e2, List.map_nil, List.append_nil]
   refine onv_map (fun xs h2 => ?_) h1
   obtain ⟨as_, L1, L2, R, h2, h3, h4, h5⟩ := h2
   exact .inr ⟨as_, L1, L2, R, h2, h3, h4, fun r L1' hr => ⟨rfl, rfl, h5 r L1' hr⟩⟩
  ·exact h1.elim
 ·exact h.elim

def aopsP (P : Program) (ow : Nat -> Bool) (ws cs : List Nat) (K : St -> Ts -> Prop) : Nat -> List Oper -> St -> Ts -> Prop
 | _, [], s, L => K s L
 | i, o :: rest, s, L => (i ∈ cs /\ callJ P s L o fun x L' => aopsP P ow ws cs K (i + 1) rest (s.put o.dst x s.V s.A) L') \/
   (i ∉ cs /\ astep P s (ow i) o fun x V A => (i ∈ ws \/ (V = s.V /\ A = s.A)) /\ aopsP P ow ws cs K (i + 1) rest (s.put o.dst x V A) L)

def DetS (P : Program) (ow : Bool) (o : Oper) (s s' : St) : Prop := ∃ x V A, s' = s.put o.dst x V A /\ ∀ K : AV -> List (List CV) -> List Arr -> Prop, K x V A -> astep P s ow o K
def Frs (ws : List Nat) (j : Nat) (o : Oper) (s s' : St) : Prop := ∃ x V A, s' = s.put o.dst x V A /\ (j ∈ ws \/ (V = s.V /\ A = s.A))

theorem aopsP_trace {ow : Nat -> Bool} {cs : List Nat} {K : St -> Ts -> Prop} : ∀ (ops : List Oper) (i : Nat) (s : St) (L : Ts), aopsP P ow ws cs K i ops s L ->
  ∃ (τ : Nat -> St) (m : Nat), m <= ops.length /\ τ 0 = s /\ (∀ (j : Nat) o, j < m -> ops[j]? = some o -> DetS P (ow (i + j)) o (τ j) (τ (j + 1)) /\ Frs ws (i + j) o (τ j) (τ (j + 1))) /\
   ((m = ops.length /\ K (τ m) L) \/ (i + m ∈ cs /\ ∃ o, ops[m]? = some o /\ callJ P (τ m) L o fun x L' => aopsP P ow ws cs K (i + m + 1) (ops.drop (m + 1)) ((τ m).put o.dst x (τ m).V (τ m).A) L'))
 | [], i, s, L, h => ⟨fun _ => s, 0, Nat.le_refl _, rfl, fun j o hj => by omega, .inl ⟨rfl, h⟩⟩
 | o :: rest, i, s, L, h => by
  rcases h with ⟨h1, h2⟩ | ⟨h1, h2⟩
  ·exact ⟨fun _ => s, 0, by simp, rfl, fun j o hj => by omega, .inr ⟨h1, o, rfl, h2⟩⟩
  ·obtain ⟨x, V, A, ⟨h3, h4⟩, h5⟩ := astep_det h2
   obtain ⟨τ, m, k1, k2, k3, k4⟩ := aopsP_trace rest (i + 1) _ L h4
   refine ⟨fun j => match j with | 0 => s | j + 1 => τ j, m + 1, by simp; omega, rfl, fun j o' hj ho => ?_, ?_⟩
   ·cases j with
    | zero =>
     simp at ho; subst ho
     exact ⟨⟨x, V, A, k2, h5⟩, x, V, A, k2, h3⟩
    | succ j =>
     simp at ho
     have := k3 j o' (by omega) ho
     rwa [show i + 1 + j = i + (j + 1) by omega] at this
   ·rcases k4 with ⟨k5, k6⟩ | ⟨k5, o', k6, k7⟩
    ·exact .inl ⟨by simp [k5], k6⟩
    ·refine .inr ⟨by rw [show i + (m + 1) = i + 1 + m by omega]; exact k5, o', by simpa using k6, ?_⟩
     rw [show i + (m + 1) + 1 = i + 1 + m + 1 by omega]
     exact k7

structure Trc (all : Array Oper) (ws : List Nat) (σ : Nat -> St) (c : Nat) : Prop where
 le : c <= all.size
 tr : ∀ (j : Nat) o, j < c -> all[j]? = some o -> Frs ws j o (σ j) (σ (j + 1))

section
variable {σ : Nat -> St} {c : Nat} (hT : Trc all ws σ c) (hdu : ∀ (i j : Nat) oi oj d, all[i]? = some oi -> all[j]? = some oj -> oi.dst = some d -> oj.dst = some d -> i = j)
include hT
theorem Trc.step {j : Nat} {o : Oper} {t : Nat} (hj : j < c) (h1 : all[j]? = some o) (h2 : o.dst ≠ some t) : look (σ (j + 1)).fr t = look (σ j).fr t := by
 obtain ⟨x, V, A, h3, _⟩ := hT.tr j o hj h1
 rw [h3]
 simp only [St.put]
 cases hdd : o.dst with
 | none => rfl
 | some d => simp only [look]; rw [if_neg (fun e => h2 (by rw [hdd, e]))]
theorem Trc.frB : ∀ (j t : Nat), j <= c -> (∀ (i : Nat) o, i < j -> all[i]? = some o -> o.dst ≠ some t) -> look (σ j).fr t = look (σ 0).fr t := by
 have hc := hT.le
 intro j
 induction j with
 | zero => intro t _ _; rfl
 | succ j ih =>
  intro t hj hno
  have ho : all[j]? = some all[j] := Array.getElem?_eq_getElem (by omega)
  rw [hT.step (by omega) ho (hno j _ (by omega) ho)]
  exact ih t (by omega) (fun i o hi => hno i o (by omega))
theorem Trc.VA : ∀ (b a : Nat), a <= b -> b <= c -> (∀ i, a <= i -> i < b -> i ∉ ws) -> (σ b).V = (σ a).V /\ (σ b).A = (σ a).A := by
 have hc := hT.le
 intro b
 induction b with
 | zero =>
  intro a h _ _
  obtain rfl : a = 0 := by omega
  exact ⟨rfl, rfl⟩
 | succ b ih =>
  intro a hab hb hno
  by_cases e : a = b + 1
  ·subst e; exact ⟨rfl, rfl⟩
  ·have ho : all[b]? = some all[b] := Array.getElem?_eq_getElem (by omega)
   obtain ⟨h1, h2⟩ := ih a (by omega) (by omega) (fun i hi hi' => hno i hi (by omega))
   obtain ⟨x, V, A, h3, h4⟩ := hT.tr b _ (by omega) ho
   rcases h4 with h4 | ⟨h4, h5⟩
   ·exact absurd h4 (hno b (by omega) (by omega))
   ·rw [h3]; exact ⟨h4.trans h1, h5.trans h2⟩
include hdu
theorem Trc.frA : ∀ (j i : Nat) oi t, j <= c -> i < j -> all[i]? = some oi -> oi.dst = some t -> look (σ j).fr t = look (σ (i + 1)).fr t := by
 have hc := hT.le
 intro j
 induction j with
 | zero => intro i oi t _ h; omega
 | succ j ih =>
  intro i oi t hj hij hoi hdt
  by_cases e : i = j
  ·subst e; rfl
  ·have ho : all[j]? = some all[j] := Array.getElem?_eq_getElem (by omega)
   rw [hT.step (by omega) ho (fun h => e (hdu i j oi _ t hoi ho hdt h))]
   exact ih i oi t (by omega) (by omega) hoi hdt
end

structure Jb (w0 : World) (g0 : Gh) (X : List Nat) (L : Ts) (S : List Nat) (g : Gh) (w : World) : Prop where
 fr : FrX w0 g0 X w g
 trs : Trs w L S
 nd : S.Nodup
 out : ∀ b ∈ S, g.im b = 0 /\ b ∉ g.ob /\ b ∉ g.arb /\ ¬ tabAt b /\ (w0.heap.size <= b \/ b ∈ X)
theorem Jb.fr' (h : Jb w0 g0 X L S g w) (k : Fr w g w' g') : Jb w0 g0 X L S g' w' := by
 have hlt := h.trs.lt
 refine ⟨h.fr.fr k, h.trs.keep fun b hb => k.blk b (hlt b hb) (h.out b hb).2.1 (h.out b hb).2.2.1, h.nd, fun b hb => ?_⟩
 obtain ⟨h1, h2, h3, h4, h5⟩ := h.out b hb
 have hbl := hlt b hb
 refine ⟨(k.imeq b hbl h3).trans h1, fun hm => ?_, fun hm => ?_, h4, h5⟩
 ·obtain ⟨new, e, hn⟩ := k.ob
  rw [e] at hm
  rcases List.mem_append.1 hm with q | q
  ·exact h2 q
  ·exact absurd (hn b q) (by omega)
 ·obtain ⟨i, v, q1, q2⟩ := Gh.mem_arb hm
  rcases k.ar i v b q1 q2 with q | q
  ·omega
  ·exact h3 q

set_option maxHeartbeats 2000000 in
theorem drawP_one {cs : List Nat} {ow : Nat -> Bool} (hd : drawOk all ws = true) (hgn : ∀ (j : Nat) o, all[j]? = some o -> o.guard = none) (hdst : dstsOk n all.toList = true) {σ : Nat -> St} {c : Nat} (hT : Trc all ws σ c) {listed : Array Bool} {k0 : Nat} (hD : DS all ws σ n w g listed k0 g a w) (hk0 : k0 <= c) (hlc : ∀ i, listed[i]? = some true -> i < c)
  {j : Nat} (hj : j ∈ Region.ready .any all listed) (hjc : j <= c) {o : Oper} (ho : all[j]? = some o) {next : Act -> World -> Prop} {Q : Exit -> Act -> World -> Prop} :
  (j < c -> DetS P (ow j) o (σ j) (σ (j + 1)) -> (∀ k1 v g' w', k1 <= c -> DS all ws σ n w' g' (listed.setIfInBounds j true) k1 g' (a.put o.dst v) w' -> Fr w g w' g' -> next (a.put o.dst v) w') -> wpOp P all Q j next a w) /\
  (j = c -> isS o.op = false -> j ∉ ws -> Jb w0 g0 X L S g w -> (∀ K : AV -> Ts -> Prop, callJ P (σ j) L o K -> (∀ x L' S' v g' w', K x L' -> (∀ σ' : Nat -> St, (∀ i, i <= c -> σ' i = σ i) -> σ' (c + 1) = (σ c).put o.dst x (σ c).V (σ c).A -> DS all ws σ' n w' g' (listed.setIfInBounds j true) k0 g' (a.put o.dst v) w') -> Jb w0 g0 X L' S' g' w' -> next (a.put o.dst v) w') -> wpOp P all Q j next a w)) := by
 simp only [drawOk, Bool.and_eq_true, List.all_eq_true] at hd
 obtain ⟨⟨hd1, hd2⟩, hd3⟩ := hd
 -- the checks, read
 have hmem : ∀ (j : Nat) o, all[j]? = some o -> (o, j) ∈ all.toList.zipIdx := fun j o h => by
  rw [List.mem_iff_getElem?]
  exact ⟨j, by simp [List.getElem?_zipIdx, h]⟩
 have hedge : ∀ (j : Nat) o, all[j]? = some o -> ∀ e ∈ o.after, Region.binds .any e = true -> e.on < j := fun j o h e he hb => by
  have := hd1 _ (hmem j o h) e (Array.mem_toList_iff.2 he)
  simpa [hb] using this
 have hpair : ∀ (i j : Nat) oi oj, all[i]? = some oi -> all[j]? = some oj -> i < j -> pairOk all ws (masks all.toList []) oi oj i j = true := fun i j oi oj h1 h2 hlt => by
  have := hd2 _ (hmem j oj h2) _ (hmem i oi h1)
  simpa [hlt] using this
 have hws : ∀ (j : Nat) o, all[j]? = some o -> j ∈ ws -> isS o.op = false := fun j o h hj => by
  have := hd3 _ (hmem j o h)
  simpa [hj] using this
 have hdne : ∀ (i j : Nat) oi oj d, all[i]? = some oi -> all[j]? = some oj -> i < j -> oi.dst = some d -> oj.dst ≠ some d := fun i j oi oj d h1 h2 hlt h3 h4 => by
  have := hpair i j oi oj h1 h2 hlt
  simp [pairOk, h3, h4] at this
 have hdu : ∀ (i j : Nat) oi oj d, all[i]? = some oi -> all[j]? = some oj -> oi.dst = some d -> oj.dst = some d -> i = j := fun i j oi oj d h1 h2 h3 h4 => by
  rcases Nat.lt_trichotomy i j with h | h | h
  ·exact absurd h4 (hdne i j oi oj d h1 h2 h h3)
  ·exact h
  ·exact absurd h3 (hdne j i oj oi d h2 h1 h h4)
 have hdn : ∀ (j : Nat) o d, all[j]? = some o -> o.dst = some d -> d < n := fun j o d h1 h2 => by
  have := List.all_eq_true.1 hdst o (by rw [Array.mem_toList_iff]; exact Array.mem_of_getElem? h1)
  simpa [h2] using this
 obtain ⟨hml, _, hms⟩ := masks_spec all.toList []
 -- the order that the edges force
 have hbit : ∀ {listed : Array Bool}, (∀ (i : Nat) o, all[i]? = some o -> listed[i]? = some true -> ∀ e ∈ o.after, Region.binds .any e = true -> listed[e.on]? = some true) ->
   ∀ (i : Nat) o, all[i]? = some o -> (∀ e ∈ o.after, Region.binds .any e = true -> listed[e.on]? = some true) -> ∀ k, ((masks all.toList []).getD i 0).testBit k = true -> listed[k]? = some true := by
  intro listed hcl i
  induction i using Nat.strongRecOn with
  | _ i ih =>
   intro o ho hafter k hk
   obtain ⟨pre, h1, h2, h3⟩ := hms i o (by simpa using ho)
   simp only [List.length_nil, Nat.zero_add] at h1 h3
   have h4 : (masks all.toList []).getD i 0 = mask1 pre o := by simp [List.getD, h3]
   rw [h4] at hk
   obtain ⟨e, he, hb, h5⟩ := mask1_spec hk
   have he1 := hafter e he hb
   rcases h5 with rfl | h5
   ·exact he1
   ·have hlt := hedge i o ho e he hb
    have h6 : pre.getD e.on 0 = (masks all.toList []).getD e.on 0 := by simp only [List.getD, h2 e.on (by omega)]
    rw [h6] at h5
    have hsz : e.on < all.size := by have := (Array.getElem?_eq_some_iff.1 ho).1; omega
    have hoe : all[e.on]? = some all[e.on] := Array.getElem?_eq_getElem hsz
    exact ih e.on hlt _ hoe (hcl e.on _ hoe he1) k h5
 have hT0 := hT.le
 have hfrB := hT.frB
 have hfrA := hT.frA hdu
 have hVA := hT.VA
 obtain ⟨hun, o2, ho2, hafter⟩ := mem_ready.1 hj
 obtain rfl : o = o2 := by rw [ho] at ho2; exact Option.some.inj ho2
 have hju := unlisted_of hun
 have hjn : j < all.size := (Array.getElem?_eq_some_iff.1 ho).1
 have hjl : j < listed.size := by rw [hD.lsize]; exact hjn
 have hafter' : ∀ e ∈ o.after, Region.binds .any e = true -> listed[e.on]? = some true := fun e he hb => listed_iff.1 (hafter e he hb)
 have hbefore : ∀ k, ((masks all.toList []).getD j 0).testBit k = true -> listed[k]? = some true := hbit hD.closed j o ho hafter'
 have hbehind : ∀ (i : Nat) oi, all[i]? = some oi -> listed[i]? = some true -> ((masks all.toList []).getD i 0).testBit j = false := fun i oi hoi hli => by
  cases hb : ((masks all.toList []).getD i 0).testBit j with
  | false => rfl
  | true => have := hbit hD.closed i oi hoi (hD.closed i oi hoi hli) j hb; rw [hju] at this; simp at this
 -- what the operation looks at
 have hlooks : ∀ t ∈ o.looksAt all, ∀ x, look (σ j).fr t = some x -> ∃ u, a.tmps[t]? = some u /\ RepV g w (σ k0).A x u := by
  intro t ht x hx
  by_cases hex : ∃ (i : Nat) (oi : Oper), i < j /\ all[i]? = some oi /\ oi.dst = some t
  ·obtain ⟨i, oi, hij, hoi, hdt⟩ := hex
   rw [hfrA j i oi t (by omega) hij hoi hdt] at hx
   have hp := hpair i j oi o hoi ho hij
   have htc : touch all oi o = true := by simp only [touch, hdt]; simpa using ht
   simp only [pairOk, htc, Bool.and_eq_true, Bool.or_eq_true] at hp
   have hb : ((masks all.toList []).getD j 0).testBit i = true := by simpa using hp.2
   exact hD.slot1 i oi t x hoi (hbefore i hb) hdt hx
  ·rw [hfrB j t (by omega) (fun i oi hij hoi hdt => hex ⟨i, oi, hij, hoi, hdt⟩)] at hx
   refine hD.slot0 t x (fun i oi hoi hli hdt => ?_) hx
   rcases Nat.lt_trichotomy i j with h | h | h
   ·exact hex ⟨i, oi, h, hoi, hdt⟩
   ·subst h; rw [hju] at hli; simp at hli
   ·have hp := hpair j i o oi ho hoi h
    have htc : touch all oi o = true := by simp only [touch, hdt]; simpa using ht
    have hb := hbehind i oi hoi hli
    simp only [pairOk, htc, hb, Bool.and_eq_true, Bool.or_eq_true] at hp
    simp at hp
 let fr' := (σ j).fr.filter fun p => (o.looksAt all).contains p.1
 have hlk : ∀ t, look fr' t = if (o.looksAt all).contains t then look (σ j).fr t else none := fun t => look_filter (fun t => (o.looksAt all).contains t) (σ j).fr t
 have hS : ∀ (V : List (List CV)), Slots g w ⟨fr', V, (σ k0).A⟩ a := fun V t x hx => by
  simp only [hlk] at hx
  split at hx
  ·rename_i hc; exact hlooks t (by simpa using hc) x hx
  ·cases hx
 have hop : ∀ (V V' : List (List CV)) (A A' : List Arr), ∀ x ∈ o.op.operands.toList, aval ⟨fr', V, A⟩ x = aval ⟨(σ j).fr, V', A'⟩ x := fun V V' A A' x hx => by
  cases x with
  | tmp t =>
   simp only [aval, hlk]
   rw [if_pos]
   simp only [Oper.looksAt, List.contains_eq_mem, decide_eq_true_eq, List.mem_append, List.mem_filterMap]
   exact .inl ⟨.tmp t, hx, rfl⟩
  | _ => rfl
 have hRr : Rp n w g ⟨fr', (σ k0).V, (σ k0).A⟩ g a w := ⟨hD.inv, hD.fr, hD.size, hD.defers, hS _⟩
 have hwant : Region.wanted o (yielded all a.tmps) = true := by simp [Region.wanted, hgn j o ho]
 -- the state behind it
 have hset : ∀ i, (listed.setIfInBounds j true)[i]? = if i = j then some true else listed[i]? := fun i => by
  by_cases e : i = j
  ·subst e; simp [hjl]
  ·rw [if_neg e, Array.getElem?_setIfInBounds_ne (fun h => e h.symm)]
 have hnext : ∀ (σ' : Nat -> St) (k1 : Nat) (x : AV) (v : Value) (w' : World) (g' : Gh), (∀ i, i <= c -> σ' i = σ i) -> look (σ' (j + 1)).fr = look ((σ j).put o.dst x [] []).fr -> RepV g' w' (σ k1).A x v -> Inv g' w' (σ k1).V (σ k1).A -> Ext g w (σ k0).A g' w' (σ k1).A -> Tab w' g' -> k1 <= c ->
   (∀ i ∈ ws, i < all.size -> ((listed.setIfInBounds j true)[i]? = some true ↔ i < k1)) -> DS all ws σ' n w' g' (listed.setIfInBounds j true) k1 g' (a.put o.dst v) w' := by
  intro σ' k1 x v w' g' hσ hfr hrv hI hx hF hk hwp
  have hputs : ∀ t u, o.dst ≠ some t -> a.tmps[t]? = some u -> (a.put o.dst v).tmps[t]? = some u := fun t u hne hu => by
   cases hdd : o.dst with
   | none => exact hu
   | some d =>
    simp only [Act.put]
    rw [Array.getElem?_setIfInBounds_ne (fun e => hne (by rw [hdd, e]))]; exact hu
  refine ⟨by rw [hσ k1 hk]; exact hI, .refl hF, ?_, ?_, by simp [hD.lsize], fun i oi t y hoi hli hdt hy => ?_, fun t y hno hy => ?_, hwp, by omega, fun i oi hoi hli e he hb => ?_⟩
  ·cases o.dst <;> simp [Act.put, hD.size]
  ·cases o.dst <;> simp [Act.put, hD.defers]
  ·rw [hσ k1 hk]
   rw [hset] at hli
   by_cases e : i = j
   ·subst e
    obtain rfl : o = oi := by rw [ho] at hoi; exact Option.some.inj hoi
    rw [hfr] at hy
    simp only [St.put, hdt, look, if_true] at hy
    cases hy
    refine ⟨v, ?_, hrv⟩
    have : t < a.tmps.size := by rw [hD.size]; exact hdn i o t ho hdt
    simp [Act.put, hdt, this]
   ·rw [if_neg e] at hli
    rw [hσ (i + 1) (hlc i hli)] at hy
    obtain ⟨u, h1, h2⟩ := hD.slot1 i oi t y hoi hli hdt hy
    exact ⟨u, hputs t u (fun h => e (hdu i j oi o t hoi ho hdt h)) h1, RepV.ext hx h2⟩
  ·rw [hσ k1 hk]
   rw [hσ 0 (Nat.zero_le _)] at hy
   have hne : o.dst ≠ some t := hno j o ho (by rw [hset, if_pos rfl])
   obtain ⟨u, h1, h2⟩ := hD.slot0 t y (fun i oi hoi hli => hno i oi hoi (by
    rw [hset]
    by_cases e : i = j
    ·rw [if_pos e]
    ·rw [if_neg e]; exact hli)) hy
   exact ⟨u, hputs t u hne h1, RepV.ext hx h2⟩
  ·rw [hset] at hli ⊢
   have : listed[e.on]? = some true := by
    by_cases e' : i = j
    ·subst e'
     obtain rfl : o = oi := by rw [ho] at hoi; exact Option.some.inj hoi
     exact hafter' e he hb
    ·rw [if_neg e'] at hli
     exact hD.closed i oi hoi hli e he hb
   by_cases e' : e.on = j
   ·rw [if_pos e']
   ·rw [if_neg e']; exact this
 have hwp0 : j ∉ ws -> ∀ i ∈ ws, i < all.size -> ((listed.setIfInBounds j true)[i]? = some true ↔ i < k0) := fun hjw i hi hin => by
  rw [hset, if_neg (fun e => hjw (by rw [<- e]; exact hi))]
  exact hD.wprog i hi hin
 have hva : isS o.op = false -> (σ j).V = (σ k0).V /\ (σ j).A = (σ k0).A := by
  intro hns
  rcases Nat.le_total j k0 with h | h
  ·have := hVA k0 j h hk0 (fun i h1 h2 h3 => by
    have hin : i < all.size := by omega
    have hli := (hD.wprog i h3 hin).2 h2
    have hoi : all[i]? = some all[i] := Array.getElem?_eq_getElem hin
    rcases Nat.lt_or_ge j i with h4 | h4
    ·have hp := hpair j i o _ ho hoi h4
     have hb := hbehind i _ hoi hli
     simp only [pairOk, hb, Bool.and_eq_true, Bool.or_eq_true] at hp
     simp [h3, hns, -isS] at hp
    ·obtain rfl : i = j := by omega
     rw [hju] at hli; simp at hli)
   exact ⟨this.1.symm, this.2.symm⟩
  ·exact hVA j k0 h hjc (fun i h1 h2 h3 => by
    have hin : i < all.size := by omega
    have hoi : all[i]? = some all[i] := Array.getElem?_eq_getElem hin
    have hp := hpair i j _ o hoi ho h2
    simp only [pairOk, Bool.and_eq_true, Bool.or_eq_true] at hp
    have hb : ((masks all.toList []).getD j 0).testBit i = true := by
     rcases hp.2 with h4 | h4
     ·simp [h3, hns, -isS] at h4
     ·exact h4
    have := (hD.wprog i h3 hin).1 (hbefore i hb)
    omega)
 unfold wpOp
 simp only [ho]
 rw [if_pos hwant]
 refine ⟨fun hjc' hst ih => .inl ?_, fun hjc' hns hjw hJ K hcall ih => .inl ?_⟩
 ·obtain ⟨x, V, A, h2, h3⟩ := hst
  have hfrj : look (σ (j + 1)).fr = look ((σ j).put o.dst x [] []).fr := by rw [h2]; rfl
  by_cases hs : isS o.op = true
  ·-- slots alone
   have hjw : j ∉ ws := fun h => by have := hws j o ho h; rw [hs] at this; simp at this
   have h4 : astep P ⟨fr', (σ k0).V, (σ k0).A⟩ (ow j) o (fun y V' A' => y = x /\ V' = (σ k0).V /\ A' = (σ k0).A) := astep_S (s := σ j) (s' := ⟨fr', (σ k0).V, (σ k0).A⟩) hs (hop _ _ _ _) h3 ⟨rfl, rfl, rfl⟩
   obtain ⟨y, V', A', ⟨rfl, rfl, rfl⟩, h5⟩ := astep_wp hRr.inv hRr.fr hRr.slot h4
   exact h5 _ _ fun v w' g' h6 h7 h8 h9 => ih k0 v g' w' hk0 (hnext σ k0 y v w' g' (fun _ _ => rfl) hfrj h6 h7 h8 h9.now hk0 (hwp0 hjw)) h9
  ·have hns : isS o.op = false := by simpa [-isS] using hs
   obtain ⟨hv1, hv2⟩ := hva hns
   have h4 : astep P ⟨fr', (σ k0).V, (σ k0).A⟩ (ow j) o (fun y V' A' => y = x /\ V' = V /\ A' = A) := by
    rw [<- hv1, <- hv2]
    exact astep_congr (fr := (σ j).fr) (hop _ _ _ _) (h3 _ ⟨rfl, rfl, rfl⟩)
   obtain ⟨y, V', A', ⟨rfl, rfl, rfl⟩, h5⟩ := astep_wp hRr.inv hRr.fr hRr.slot h4
   have hVj : (σ (j + 1)).V = V' := by rw [h2]; rfl
   have hAj : (σ (j + 1)).A = A' := by rw [h2]; rfl
   by_cases hjw : j ∈ ws
   ·refine h5 _ _ fun v w' g' h6 h7 h8 h9 => ih (j + 1) v g' w' hjc' (hnext σ (j + 1) y v w' g' (fun _ _ => rfl) hfrj (by rw [hAj]; exact h6) (by rw [hVj, hAj]; exact h7) (by rw [hAj]; exact h8) h9.now hjc' (fun i hi hin => ?_)) h9
    have hoi : all[i]? = some all[i] := Array.getElem?_eq_getElem hin
    rw [hset]
    by_cases e : i = j
    ·subst e; simp
    ·rw [if_neg e]
     constructor
     ·intro hli
      rcases Nat.lt_or_ge j i with h | h
      ·have hp := hpair j i o _ ho hoi h
       have hb := hbehind i _ hoi hli
       simp only [pairOk, hb, Bool.and_eq_true, Bool.or_eq_true] at hp
       simp [hi, hns, -isS] at hp
      ·omega
     ·intro hlt
      have hp := hpair i j _ o hoi ho (by omega)
      simp only [pairOk, Bool.and_eq_true, Bool.or_eq_true] at hp
      rcases hp.2 with h | h
      ·simp [hi, hns, -isS] at h
      ·exact hbefore i h
   ·obtain ⟨x2, V2, A2, q1, q2⟩ := hT.tr j o hjc' ho
    rcases q2 with q2 | ⟨q2, q3⟩
    ·exact absurd q2 hjw
    have ho1 : (σ (j + 1)).V = (σ j).V := by rw [q1]; exact q2
    have ho2 : (σ (j + 1)).A = (σ j).A := by rw [q1]; exact q3
    refine h5 _ _ fun v w' g' h6 h7 h8 h9 => ih k0 v g' w' hk0 (hnext σ k0 y v w' g' (fun _ _ => rfl) hfrj ?_ ?_ ?_ h9.now hk0 (hwp0 hjw)) h9
    ·rw [<- hv2, <- ho2, hAj]; exact h6
    ·rw [<- hv1, <- hv2, <- ho1, <- ho2, hVj, hAj]; exact h7
    ·have e1 : (σ k0).A = A' := by rw [<- hv2, <- ho2, hAj]
     rw [e1] at h8 ⊢; exact h8
 ·-- the call
  subst hjc'
  have hRJ : RpJ n w0 g0 X ⟨fr', (σ k0).V, (σ k0).A⟩ L S g a w := ⟨hD.inv, hJ.fr, hD.size, hD.defers, hS _, hJ.trs, hJ.nd, hJ.out⟩
  obtain ⟨hv1, hv2⟩ := hva hns
  refine astepJ_wp hRJ (callJ_astep (s := σ j) (ow := ow j) (hop _ _ _ _) hcall) _ _ ?_
  rintro x V' A' L' S' v w' g' ⟨rfl, rfl, hk⟩ h6 h7 h8 h9 h10 h11 h12
  refine ih x L' S' v g' w' hk (fun σ' hσ hn => hnext σ' k0 x v w' g' hσ (by rw [hn]; rfl) h6 h7 h8 h9.now hk0 (hwp0 hjw)) ⟨h9, h10, h11, h12⟩

theorem drawP_end (hd : drawOk all ws = true) {σ : Nat -> St} (hT : Trc all ws σ all.size) {listed : Array Bool} {k0 : Nat} (hD : DS all ws σ n w g listed k0 g a w) (hall : ∀ i, i < all.size -> listed[i]? = some true) (hJ : Jb w0 g0 X L S g w) : RpJ n w0 g0 X (σ all.size) L S g a w := by
 simp only [drawOk, Bool.and_eq_true, List.all_eq_true] at hd
 obtain ⟨⟨hd1, hd2⟩, hd3⟩ := hd
 -- the checks, read
 have hmem : ∀ (j : Nat) o, all[j]? = some o -> (o, j) ∈ all.toList.zipIdx := fun j o h => by
  rw [List.mem_iff_getElem?]
  exact ⟨j, by simp [List.getElem?_zipIdx, h]⟩
 have hedge : ∀ (j : Nat) o, all[j]? = some o -> ∀ e ∈ o.after, Region.binds .any e = true -> e.on < j := fun j o h e he hb => by
  have := hd1 _ (hmem j o h) e (Array.mem_toList_iff.2 he)
  simpa [hb] using this
 have hpair : ∀ (i j : Nat) oi oj, all[i]? = some oi -> all[j]? = some oj -> i < j -> pairOk all ws (masks all.toList []) oi oj i j = true := fun i j oi oj h1 h2 hlt => by
  have := hd2 _ (hmem j oj h2) _ (hmem i oi h1)
  simpa [hlt] using this
 have hws : ∀ (j : Nat) o, all[j]? = some o -> j ∈ ws -> isS o.op = false := fun j o h hj => by
  have := hd3 _ (hmem j o h)
  simpa [hj] using this
 have hdne : ∀ (i j : Nat) oi oj d, all[i]? = some oi -> all[j]? = some oj -> i < j -> oi.dst = some d -> oj.dst ≠ some d := fun i j oi oj d h1 h2 hlt h3 h4 => by
  have := hpair i j oi oj h1 h2 hlt
  simp [pairOk, h3, h4] at this
 have hdu : ∀ (i j : Nat) oi oj d, all[i]? = some oi -> all[j]? = some oj -> oi.dst = some d -> oj.dst = some d -> i = j := fun i j oi oj d h1 h2 h3 h4 => by
  rcases Nat.lt_trichotomy i j with h | h | h
  ·exact absurd h4 (hdne i j oi oj d h1 h2 h h3)
  ·exact h
  ·exact absurd h3 (hdne j i oj oi d h2 h1 h h4)
 have hva := hT.VA all.size k0 hD.kle (Nat.le_refl _) (fun i h1 h2 h3 => by have := (hD.wprog i h3 h2).1 (hall i h2); omega)
 refine ⟨by rw [hva.1, hva.2]; exact hD.inv, hJ.fr, hD.size, hD.defers, fun t x hx => ?_, hJ.trs, hJ.nd, hJ.out⟩
 rw [hva.2]
 by_cases hex : ∃ (i : Nat) (o : Oper), all[i]? = some o /\ o.dst = some t
 ·obtain ⟨i, o, ho, hdt⟩ := hex
  have hi := (Array.getElem?_eq_some_iff.1 ho).1
  rw [hT.frA hdu all.size i o t (Nat.le_refl _) hi ho hdt] at hx
  exact hD.slot1 i o t x ho (hall i hi) hdt hx
 ·rw [hT.frB all.size t (Nat.le_refl _) (fun i o _ ho hdt => hex ⟨i, o, ho, hdt⟩)] at hx
  exact hD.slot0 t x (fun i o ho _ hdt => hex ⟨i, o, ho, hdt⟩) hx

def callsOk (all : Array Oper) (ws cs : List Nat) : Bool :=
 let l := all.toList.zipIdx
 let ms := masks all.toList []
 (cs.all fun c => !ws.contains c && l.all fun (_, j) => !(decide (c < j)) || (ms.getD j 0).testBit c) && (l.all fun (o, _) => o.guard.isNone) && (l.all fun (o, j) => !cs.contains j || !isS o.op)

theorem drawP_sound {cs : List Nat} {ow : Nat -> Bool} {K : St -> Ts -> Prop} {Q : Exit -> Act -> World -> Prop} (hd : drawOk all ws = true) (hc : callsOk all ws cs = true) (hdst : dstsOk n all.toList = true)
  (hQ : ∀ s' L' S' g' a' w', K s' L' -> RpJ n w0 g0 X s' L' S' g' a' w' -> Q .normal a' w') :
  ∀ (fuel : Nat) (σ : Nat -> St) (c : Nat) (L : Ts) (S : List Nat) (listed : Array Bool) (k0 : Nat) (g : Gh) (a : Act) (w : World), ((List.range all.size).filter fun i => !listed.getD i true).length <= fuel -> Trc all ws σ c -> k0 <= c ->
   (∀ (j : Nat) o, j < c -> all[j]? = some o -> listed[j]? ≠ some true -> DetS P (ow j) o (σ j) (σ (j + 1))) -> (∀ i, listed[i]? = some true -> i < c) ->
   ((c = all.size /\ K (σ c) L) \/ (c ∈ cs /\ ∃ o, all[c]? = some o /\ callJ P (σ c) L o fun x L' => aopsP P ow ws cs K (c + 1) (all.toList.drop (c + 1)) ((σ c).put o.dst x (σ c).V (σ c).A) L')) ->
   DS all ws σ n w g listed k0 g a w -> Jb w0 g0 X L S g w -> wpAny P .any all Q fuel listed a w := by
 have hd0 := hd
 simp only [drawOk, Bool.and_eq_true, List.all_eq_true] at hd
 obtain ⟨⟨hd1, hd2⟩, hd3⟩ := hd
 -- the checks, read
 have hmem : ∀ (j : Nat) o, all[j]? = some o -> (o, j) ∈ all.toList.zipIdx := fun j o h => by
  rw [List.mem_iff_getElem?]
  exact ⟨j, by simp [List.getElem?_zipIdx, h]⟩
 have hedge : ∀ (j : Nat) o, all[j]? = some o -> ∀ e ∈ o.after, Region.binds .any e = true -> e.on < j := fun j o h e he hb => by
  have := hd1 _ (hmem j o h) e (Array.mem_toList_iff.2 he)
  simpa [hb] using this
 have hpair : ∀ (i j : Nat) oi oj, all[i]? = some oi -> all[j]? = some oj -> i < j -> pairOk all ws (masks all.toList []) oi oj i j = true := fun i j oi oj h1 h2 hlt => by
  have := hd2 _ (hmem j oj h2) _ (hmem i oi h1)
  simpa [hlt] using this
 have hws : ∀ (j : Nat) o, all[j]? = some o -> j ∈ ws -> isS o.op = false := fun j o h hj => by
  have := hd3 _ (hmem j o h)
  simpa [hj] using this
 have hdne : ∀ (i j : Nat) oi oj d, all[i]? = some oi -> all[j]? = some oj -> i < j -> oi.dst = some d -> oj.dst ≠ some d := fun i j oi oj d h1 h2 hlt h3 h4 => by
  have := hpair i j oi oj h1 h2 hlt
  simp [pairOk, h3, h4] at this
 have hdu : ∀ (i j : Nat) oi oj d, all[i]? = some oi -> all[j]? = some oj -> oi.dst = some d -> oj.dst = some d -> i = j := fun i j oi oj d h1 h2 h3 h4 => by
  rcases Nat.lt_trichotomy i j with h | h | h
  ·exact absurd h4 (hdne i j oi oj d h1 h2 h h3)
  ·exact h
  ·exact absurd h3 (hdne j i oj oi d h2 h1 h h4)
 simp only [callsOk, Bool.and_eq_true, List.all_eq_true] at hc
 obtain ⟨⟨hc1, hc2⟩, hc3⟩ := hc
 have hgn : ∀ (j : Nat) o, all[j]? = some o -> o.guard = none := fun j o h => by
  have := hc2 _ (hmem j o h)
  simpa using this
 have hcw : ∀ c ∈ cs, c ∉ ws := fun c h => by simpa using (hc1 c h).1
 have hcS : ∀ c ∈ cs, ∀ o, all[c]? = some o -> isS o.op = false := fun c h o ho => by
  have := hc3 _ (hmem c o ho)
  simpa [h, -isS] using this
 have hcb : ∀ c ∈ cs, ∀ (j : Nat) o, all[j]? = some o -> c < j -> ((masks all.toList []).getD j 0).testBit c = true := fun c h j o ho hlt => by
  have := (hc1 c h).2 _ (hmem j o ho)
  simpa [hlt] using this
 have hready : ∀ {listed : Array Bool}, Region.ready .any all listed = [] -> listed.size = all.size -> ∀ i, i < all.size -> listed[i]? = some true := by
  intro listed hr hls i
  induction i using Nat.strongRecOn with
  | _ i ih =>
   intro hi
   have ho : all[i]? = some all[i] := Array.getElem?_eq_getElem hi
   have hli : i < listed.size := by omega
   cases hl : listed[i] with
   | true => rw [Array.getElem?_eq_getElem hli, hl]
   | false =>
    exfalso
    have : i ∈ Region.ready .any all listed := mem_ready.2 ⟨by simp [hli, hl], _, ho, fun e he hb => listed_iff.2 (ih e.on (hedge i _ ho e he hb) (by have := hedge i _ ho e he hb; omega))⟩
    rw [hr] at this; simp at this
 have hend : ∀ {σ : Nat -> St} {c : Nat} {L : Ts} {S : List Nat} {listed : Array Bool} {k0 : Nat} {g : Gh} {a : Act} {w : World}, Trc all ws σ c -> (∀ i, listed[i]? = some true -> i < c) ->
   ((c = all.size /\ K (σ c) L) \/ (c ∈ cs /\ ∃ o, all[c]? = some o /\ callJ P (σ c) L o fun x L' => aopsP P ow ws cs K (c + 1) (all.toList.drop (c + 1)) ((σ c).put o.dst x (σ c).V (σ c).A) L')) ->
   DS all ws σ n w g listed k0 g a w -> Jb w0 g0 X L S g w -> Region.ready .any all listed = [] -> Q .normal a w := by
  intro σ c L S listed k0 g a w hT hlc hK hD hJ hr
  have hall := hready hr hD.lsize
  rcases hK with ⟨rfl, hK⟩ | ⟨hcc, o, ho, _⟩
  ·exact hQ _ _ _ _ _ _ hK (drawP_end hd0 hT hD hall hJ)
  ·have hin := (Array.getElem?_eq_some_iff.1 ho).1
   have := hlc c (hall c hin)
   omega
 intro fuel
 induction fuel with
 | zero =>
  intro σ c L S listed k0 g a w hf hT hk0 hdet hlc hK hD hJ
  have hnil : Region.ready .any all listed = [] := by
   have h0 : ((List.range all.size).filter fun i => !listed.getD i true) = [] := List.eq_nil_of_length_eq_zero (by omega)
   rcases hr : Region.ready .any all listed with _ | ⟨j, r⟩
   ·rfl
   ·have hj : j ∈ Region.ready .any all listed := by rw [hr]; simp
    obtain ⟨h1, o, h2, _⟩ := mem_ready.1 hj
    have : j ∈ ((List.range all.size).filter fun i => !listed.getD i true) := by
     rw [List.mem_filter, List.mem_range]
     exact ⟨(Array.getElem?_eq_some_iff.1 h2).1, by simp [h1]⟩
    rw [h0] at this; simp at this
  exact ⟨hnil, hend hT hlc hK hD hJ hnil⟩
 | succ fuel ih =>
  intro σ c L S listed k0 g a w hf hT hk0 hdet hlc hK hD hJ
  refine ⟨fun hr => hend hT hlc hK hD hJ hr, fun j hj => ?_⟩
  obtain ⟨hun, o, ho, hafter⟩ := mem_ready.1 hj
  have hju := unlisted_of hun
  have hjn : j < all.size := (Array.getElem?_eq_some_iff.1 ho).1
  have hjl : j < listed.size := by rw [hD.lsize]; exact hjn
  have hafter' : ∀ e ∈ o.after, Region.binds .any e = true -> listed[e.on]? = some true := fun e he hb => listed_iff.1 (hafter e he hb)
  have hset : ∀ i, (listed.setIfInBounds j true)[i]? = if i = j then some true else listed[i]? := fun i => by
   by_cases e : i = j
   ·subst e; simp [hjl]
   ·rw [if_neg e, Array.getElem?_setIfInBounds_ne (fun h => e h.symm)]
  have hcount : ((List.range all.size).filter fun i => !(listed.setIfInBounds j true).getD i true).length <= fuel := by
   have hlt : ((List.range all.size).filter fun i => !(listed.setIfInBounds j true).getD i true).length < ((List.range all.size).filter fun i => !listed.getD i true).length := by
    have hsub : ∀ i, (!(listed.setIfInBounds j true).getD i true) = true -> (!listed.getD i true) = true := fun i h => by
     by_cases e : i = j
     ·subst e; simp [hjl] at h
     ·have : (listed.setIfInBounds j true).getD i true = listed.getD i true := by
       simp only [Array.getD_eq_getD_getElem?, hset, if_neg e]
      rwa [this] at h
    exact filter_lt hsub (List.mem_range.2 hjn) (by simp [hun]) (by simp [hjl])
   omega
  have hjc : j <= c := by
   rcases hK with ⟨rfl, _⟩ | ⟨hcc, oc, hoc, _⟩
   ·omega
   ·rcases Nat.lt_or_ge c j with h | h
    ·have := hlc c (bit_listed hedge hD.closed j o ho hafter' c (hcb c hcc j o ho h))
     omega
    ·exact h
  obtain ⟨one1, one2⟩ := drawP_one (cs := cs) (w0 := w0) (g0 := g0) (X := X) (L := L) (S := S) (ow := ow) hd0 hgn hdst hT hD hk0 hlc hj hjc ho (next := wpAny P .any all Q fuel (listed.setIfInBounds j true)) (Q := Q)
  rcases Nat.lt_or_eq_of_le hjc with hlt | rfl
  ·refine one1 hlt (hdet j o hlt ho (by rw [hju]; simp)) fun k1 v g' w' hk1 hD' hF => ih σ c L S _ k1 g' _ w' hcount hT hk1 (fun i oi hi hoi hli => hdet i oi hi hoi fun h => hli ?_) (fun i hi => ?_) hK hD' (hJ.fr' hF)
   ·rw [hset]
    by_cases e : i = j
    ·rw [if_pos e]
    ·rw [if_neg e]; exact h
   ·rw [hset] at hi
    by_cases e : i = j
    ·subst e; exact hlt
    ·rw [if_neg e] at hi; exact hlc i hi
  ·rcases hK with ⟨h, _⟩ | ⟨hcc, oc, hoc, hcall⟩
   ·omega
   obtain rfl : o = oc := by rw [ho] at hoc; exact Option.some.inj hoc
   refine one2 rfl (hcS j hcc o ho) (hcw j hcc) hJ _ hcall fun x L' S' v g' w' hk hDS hJ' => ?_
   obtain ⟨τ, m, k1, k2, k3, k4⟩ := aopsP_trace _ _ _ _ hk
   have hlen : (all.toList.drop (j + 1)).length = all.size - (j + 1) := by simp
   let σ' : Nat -> St := fun i => if i <= j then σ i else τ (i - (j + 1))
   have e1 : ∀ i, i <= j -> σ' i = σ i := fun i hi => by simp only [σ', if_pos hi]
   have e2 : ∀ i, σ' (j + 1 + i) = τ i := fun i => by simp only [σ', if_neg (show ¬ j + 1 + i <= j by omega)]; congr 1; omega
   have e3 : ∀ i, (all.toList.drop (j + 1))[i]? = all[j + 1 + i]? := fun i => by simp
   have hput : σ' (j + 1) = (σ j).put o.dst x (σ j).V (σ j).A := by rw [<- k2]; exact e2 0
   refine ih σ' (j + 1 + m) L' S' _ k0 g' _ w' hcount ⟨by omega, fun i oi hi hoi => ?_⟩ (by omega) (fun i oi hi hoi hli => ?_) (fun i hi => ?_) ?_ (hDS σ' e1 hput) hJ'
   ·rcases Nat.lt_trichotomy i j with h | h | h
    ·rw [e1 i (by omega), e1 (i + 1) (by omega)]; exact hT.tr i oi h hoi
    ·subst h
     obtain rfl : o = oi := by rw [ho] at hoi; exact Option.some.inj hoi
     rw [e1 i (by omega), hput]
     exact ⟨x, _, _, rfl, .inr ⟨rfl, rfl⟩⟩
    ·obtain ⟨q, rfl⟩ : ∃ q, i = j + 1 + q := ⟨i - (j + 1), by omega⟩
     rw [e2 q, show j + 1 + q + 1 = j + 1 + (q + 1) by omega, e2 (q + 1)]
     exact (k3 q oi (by omega) (by rw [e3]; exact hoi)).2
   ·rw [hset] at hli
    by_cases e : i = j
    ·rw [if_pos e] at hli; simp at hli
    ·rw [if_neg e] at hli
     rcases Nat.lt_or_ge i j with h | h
     ·rw [e1 i (by omega), e1 (i + 1) (by omega)]; exact hdet i oi h hoi hli
     ·obtain ⟨q, rfl⟩ : ∃ q, i = j + 1 + q := ⟨i - (j + 1), by omega⟩
      rw [e2 q, show j + 1 + q + 1 = j + 1 + (q + 1) by omega, e2 (q + 1)]
      exact (k3 q oi (by omega) (by rw [e3]; exact hoi)).1
   ·rw [hset] at hi
    by_cases e : i = j
    ·omega
    ·rw [if_neg e] at hi
     have := hlc i hi
     omega
   ·rcases k4 with ⟨h1, h2⟩ | ⟨h1, oc, h2, h3⟩
    ·exact .inl ⟨by omega, by rw [e2]; exact h2⟩
    ·refine .inr ⟨h1, oc, by rw [<- e3]; exact h2, ?_⟩
     rw [e2]
     rw [List.drop_drop, show j + 1 + (m + 1) = j + 1 + m + 1 by omega] at h3
     exact h3
end
end Go.Av

namespace Go.Av
open Go

def pickOps (l : List Oper) (p : List Nat) : List Oper := p.map fun i => l.getD i default
def reEdge (p : List Nat) (o : Oper) : Oper := { o with after := o.after.map fun e => { e with on := p.idxOf e.on } }
def permOps (l : List Oper) (p : List Nat) : List Oper := (pickOps l p).map (reEdge p)
def permOk (l : List Oper) (p : List Nat) : Bool := p.length == l.length && p.all (fun i => decide (i < l.length)) && (List.range l.length).all (fun i => p.contains i) && l.all (fun o => o.guard.isNone) && (List.range p.length).all (fun j => p.idxOf (p.getD j 0) == j)

section
variable {P : Program} {l : List Oper} {p : List Nat} {md : Region.Mode} {Q : Exit -> Act -> World -> Prop}
theorem permOk_spec (h : permOk l p = true) : p.length = l.length /\ (∀ i ∈ p, i < l.length) /\ (∀ i, i < l.length -> i ∈ p) /\ (∀ o ∈ l, o.guard = none) /\ ∀ j, j < p.length -> p.idxOf (p.getD j 0) = j := by
 simp only [permOk, Bool.and_eq_true, List.all_eq_true] at h
 obtain ⟨⟨⟨⟨h1, h2⟩, h3⟩, h4⟩, h5⟩ := h
 refine ⟨by simpa using h1, fun i hi => by simpa using h2 i hi, fun i hi => by simpa using h3 i (List.mem_range.2 hi), fun o ho => by simpa using h4 o ho, fun j hj => by simpa using h5 j (List.mem_range.2 hj)⟩
theorem permOps_len : (permOps l p).length = p.length := by simp [permOps, pickOps]
theorem permOps_at (h : permOk l p = true) {i : Nat} {o : Oper} (ho : l[i]? = some o) : (permOps l p)[p.idxOf i]? = some (reEdge p o) := by
 obtain ⟨h1, h2, h3, h4, h5⟩ := permOk_spec h
 have hi := (List.getElem?_eq_some_iff.1 ho).1
 have hx : p[p.idxOf i]? = some i := by
  have hlt := List.idxOf_lt_length_of_mem (h3 i hi)
  rw [List.getElem?_eq_getElem hlt, List.getElem_idxOf hlt]
 simp only [permOps, pickOps, List.map_map, List.getElem?_map, hx, Option.map_some, Function.comp]
 rw [List.getD_eq_getElem?_getD, ho]; rfl
theorem permOps_back (h : permOk l p = true) {j : Nat} {o' : Oper} (ho : (permOps l p)[j]? = some o') : ∃ o, l[p.getD j 0]? = some o /\ o' = reEdge p o /\ p[j]? = some (p.getD j 0) := by
 obtain ⟨h1, h2, h3, h4, h5⟩ := permOk_spec h
 have hj : j < p.length := by have := (List.getElem?_eq_some_iff.1 ho).1; rwa [permOps_len] at this
 have e : p.getD j 0 = p[j] := by simp [List.getD, hj]
 have hlt := h2 p[j] (List.getElem_mem hj)
 simp only [permOps, pickOps, List.map_map, List.getElem?_map, List.getElem?_eq_getElem hj, Option.map_some, Function.comp, Option.some.injEq] at ho
 refine ⟨l[p[j]], by rw [e]; exact List.getElem?_eq_getElem hlt, ?_, by rw [e]; exact List.getElem?_eq_getElem hj⟩
 rw [<- ho, List.getD_eq_getElem?_getD, List.getElem?_eq_getElem hlt]; rfl

theorem getD_of {α : Type} {l : Array α} {i : Nat} {d : α} : l.getD i d = (l[i]?).getD d := Array.getD_eq_getD_getElem?
theorem wpAny_perm (h : permOk l p = true) : ∀ (fuel : Nat) (listed listed' : Array Bool) (a : Act) (w : World), listed.size = l.length -> listed'.size = l.length -> (∀ i, listed'[p.idxOf i]? = listed[i]?) -> wpAny P md (permOps l p).toArray Q fuel listed' a w -> wpAny P md l.toArray Q fuel listed a w := by
 obtain ⟨h1, h2, h3, h4, h5⟩ := permOk_spec h
 have hr : ∀ (listed listed' : Array Bool), (∀ i, listed'[p.idxOf i]? = listed[i]?) -> ∀ j, j ∈ Region.ready md l.toArray listed -> p.idxOf j ∈ Region.ready md (permOps l p).toArray listed' := fun listed listed' hrel j hj => by
  obtain ⟨q1, o, q2, q3⟩ := mem_ready.1 hj
  refine mem_ready.2 ⟨by rw [getD_of, hrel, <- getD_of]; exact q1, reEdge p o, ?_, fun e' he hb => ?_⟩
  ·have := permOps_at h (i := j) (o := o) (by simpa using q2)
   simpa using this
  ·simp only [reEdge, Array.mem_map] at he
   obtain ⟨e, he1, rfl⟩ := he
   have := q3 e he1 hb
   rw [getD_of, hrel, <- getD_of]; exact this
 have hr2 : ∀ (listed listed' : Array Bool), (∀ i, listed'[p.idxOf i]? = listed[i]?) -> listed'.size = l.length -> Region.ready md l.toArray listed = [] -> Region.ready md (permOps l p).toArray listed' = [] := fun listed listed' hrel hsz hn => by
  cases hx : Region.ready md (permOps l p).toArray listed' with
  | nil => rfl
  | cons j r =>
   exfalso
   have hj : j ∈ Region.ready md (permOps l p).toArray listed' := by rw [hx]; simp
   obtain ⟨q1, o', q2, q3⟩ := mem_ready.1 hj
   obtain ⟨o, q4, rfl, q5⟩ := permOps_back h (j := j) (o' := o') (by simpa using q2)
   have hjp : j < p.length := (List.getElem?_eq_some_iff.1 q5).1
   have hi := h5 j hjp
   have hrj : listed'[j]? = listed[p.getD j 0]? := by rw [<- hrel, hi]
   have hin : p.getD j 0 ∈ Region.ready md l.toArray listed := by
    refine mem_ready.2 ⟨by rw [getD_of, <- hrj, <- getD_of]; exact q1, o, by simpa using q4, fun e he hb => ?_⟩
    have := q3 { e with on := p.idxOf e.on } (by simp only [reEdge, Array.mem_map]; exact ⟨e, he, rfl⟩) hb
    rw [getD_of, <- hrel, <- getD_of]; exact this
   rw [hn] at hin
   simp at hin
 intro fuel
 induction fuel with
 | zero =>
  intro listed listed' a w s1 s2 hrel hh
  refine ⟨?_, hh.2⟩
  cases hx : Region.ready md l.toArray listed with
  | nil => rfl
  | cons j r =>
   have := hr listed listed' hrel j (by rw [hx]; simp)
   rw [hh.1] at this
   simp at this
 | succ fuel ih =>
  intro listed listed' a w s1 s2 hrel hh
  refine ⟨fun h0 => hh.1 (hr2 listed listed' hrel s2 h0), fun j hj => ?_⟩
  have hop := hh.2 _ (hr listed listed' hrel j hj)
  obtain ⟨q1, o, q2, q3⟩ := mem_ready.1 hj
  have q2' : l[j]? = some o := by simpa using q2
  have hjn := (List.getElem?_eq_some_iff.1 q2').1
  have q4 : (permOps l p).toArray[p.idxOf j]? = some (reEdge p o) := by simpa using permOps_at h q2'
  have hgo : o.guard = none := h4 o (List.mem_of_getElem? q2')
  have hK : ∀ a w, wpAny P md (permOps l p).toArray Q fuel (listed'.setIfInBounds (p.idxOf j) true) a w -> wpAny P md l.toArray Q fuel (listed.setIfInBounds j true) a w := fun a w => by
   refine ih _ _ a w (by simp [s1]) (by simp [s2]) fun i => ?_
   have hlt := List.idxOf_lt_length_of_mem (h3 j hjn)
   rw [Array.getElem?_setIfInBounds, Array.getElem?_setIfInBounds]
   by_cases e : j = i
   ·subst e
    rw [if_pos rfl, if_pos rfl, if_pos (by omega), if_pos (by omega)]
   ·rw [if_neg e, if_neg (fun e' => ?_), hrel]
    have hx : p[p.idxOf j]? = some j := by rw [List.getElem?_eq_getElem hlt, List.getElem_idxOf hlt]
    have hlt2 : p.idxOf i < p.length := by omega
    have hy : p[p.idxOf i]? = some i := by rw [List.getElem?_eq_getElem hlt2, List.getElem_idxOf hlt2]
    rw [<- e', hx] at hy
    exact e (Option.some.inj hy)
  unfold wpOp at hop ⊢
  simp only [q4] at hop
  simp only [q2]
  rw [if_pos (by simp [Region.wanted, reEdge, hgo])] at hop
  rw [if_pos (by simp [Region.wanted, hgo])]
  rcases hop with hop | ⟨hop, hl⟩
  ·exact .inl (Oper.wp_mono hK hop)
  ·exact .inr ⟨hop, hl⟩
end

section
variable {P : Program} {n : Nat} {s s' : St} {L L' : Ts} {x y : Code} {ws cs : List Nat} {ow : Nat -> Bool} {K : St -> Ts -> Prop}
theorem aopsP_re (p : List Nat) : ∀ (ops : List Oper) (i : Nat) (s : St) (L : Ts), aopsP P ow ws cs K i ops s L -> aopsP P ow ws cs K i (ops.map (reEdge p)) s L
 | [], _, _, _, h => h
 | o :: rest, i, s, L, h => by
  rcases h with ⟨h1, h2⟩ | ⟨h1, h2⟩
  ·exact .inl ⟨h1, callJ_map (o := o) (fun x L' h => aopsP_re p rest _ _ _ h) h2⟩
  ·exact .inr ⟨h1, astep_map (o := o) (fun x V A h => ⟨h.1, aopsP_re p rest _ _ _ h.2⟩) h2⟩

theorem TJ.region_drawP {Q : Exit -> St -> Ts -> Prop} {id : Nat} {l : List Oper} (hm : P.follows .mixedOrders = true) (p : List Nat) (ow : Nat -> Bool) (ws cs : List Nat) (hp : permOk l p = true) (hd : drawOk (permOps l p).toArray ws = true) (hc : callsOk (permOps l p).toArray ws cs = true)
  (h : aopsP P ow ws cs (fun s' L' => Q .normal s' L') 0 (pickOps l p) s L) : TJ P n (.region id l.toArray true) Q s L := by
 obtain ⟨p1, p2, p3, p4, p5⟩ := permOk_spec hp
 intro hok w0 g0 X S g a w hR
 have hok' : dstsOk n (permOps l p).toArray.toList = true := by
  have hx : dstsOk n l = true := by simpa [codeOk] using hok
  simp only [dstsOk, List.all_eq_true] at hx ⊢
  intro o' ho'
  obtain ⟨j, hj⟩ := List.getElem?_of_mem ho'
  obtain ⟨o, q1, rfl, _⟩ := permOps_back hp (j := j) (o' := o') (by simpa using hj)
  exact hx o (List.mem_of_getElem? q1)
 obtain ⟨τ, m, k1, k2, k3, k4⟩ := aopsP_trace (pickOps l p |>.map (reEdge p)) 0 s L (aopsP_re p _ _ _ _ h)
 obtain ⟨hI, hx⟩ := hR.inv.heap (w' := { w with drawn := w.drawn + 1 }) rfl
 have hF : Fr w g { w with drawn := w.drawn + 1 } g := (Fr.refl hR.fr.now).heap rfl rfl rfl rfl
 have hJ : Jb w0 g0 X L S g { w with drawn := w.drawn + 1 } := (Jb.mk hR.fr hR.trs hR.nd hR.out).fr' hF
 have hsz : (permOps l p).toArray.size = l.length := by simp [permOps_len, p1]
 have hat : ∀ (i : Nat), (permOps l p).toArray[i]? = (permOps l p)[i]? := fun i => by simp
 refine wp_region_any hm (wpAny_perm hp _ _ (Array.replicate l.length false) a _ (by simp) (by simp) (fun i => ?_) (drawP_sound (K := fun s' L' => Q .normal s' L') (ow := ow) hd hc hok' (fun s' L' S' g' a' w' h1 h2 => ⟨s', g', L', S', h1, h2⟩) _ τ m L S _ 0 g a _ ?_ ?_ (Nat.zero_le _) ?_ ?_ ?_ ?_ hJ))
 ·simp only [Array.getElem?_replicate]
  by_cases hi : i < l.length
  ·have := List.idxOf_lt_length_of_mem (p3 i hi)
   rw [if_pos (by omega), if_pos (by simpa using hi)]
  ·have hni : i ∉ p := fun h => hi (p2 i h)
   rw [if_neg (by rw [List.idxOf_eq_length hni]; omega), if_neg (by simpa using hi)]
 ·refine Nat.le_trans (List.length_filter_le _ _) (by simp [permOps_len, p1])
 ·refine ⟨by rw [hsz, <- p1, <- permOps_len (l := l)]; exact k1, fun j o hj ho => ?_⟩
  have := (k3 j o hj (by rw [hat] at ho; exact ho)).2
  simpa only [Nat.zero_add] using this
 ·intro j o hj ho _
  have := (k3 j o hj (by rw [hat] at ho; exact ho)).1
  simpa only [Nat.zero_add] using this
 ·intro i hi
  have hil := (Array.getElem?_eq_some_iff.1 hi).1
  simp at hil
  simp [hil] at hi
 ·rcases k4 with ⟨h1, h2⟩ | ⟨h1, oc, h2, h3⟩
  ·exact .inl ⟨by rw [h1]; simp [permOps], h2⟩
  ·refine .inr ⟨by simpa using h1, oc, by rw [hat]; exact h2, ?_⟩
   simp only [Nat.zero_add] at h3
   exact h3
 ·refine ⟨by rw [k2]; exact hI, .refl hF.now, hR.size, hR.defers, by simp [permOps_len, p1], fun i o t x ho hl => ?_, fun t x _ hx' => ?_, fun i _ hin => ?_, Nat.zero_le _, fun i o ho hl => ?_⟩
  ·have hi := (Array.getElem?_eq_some_iff.1 hl).1
   simp at hi
   simp [hi] at hl
  ·rw [k2] at hx' ⊢
   obtain ⟨u, h1, h2⟩ := hR.slot t x hx'
   exact ⟨u, h1, RepV.ext hx h2⟩
  ·rw [hsz] at hin
   simp [hin]
  ·have hi := (Array.getElem?_eq_some_iff.1 hl).1
   simp at hi
   simp [hi] at hl

structure OpsP (P : Program) (ow : Nat -> Bool) (ws cs : List Nat) (K : St -> Ts -> Prop) (i : Nat) (ops : List Oper) (s : St) (L : Ts) : Prop where
 mk ::
 run : aopsP P ow ws cs K i ops s L
variable {i : Nat} {o : Oper} {rest : List Oper}
theorem aopsP_go (hi : cs.contains i = false) (h : astep P s (ow i) o fun x V A => (i ∈ ws \/ (V = s.V /\ A = s.A)) /\ OpsP P ow ws cs K (i + 1) rest (s.put o.dst x V A) L) : OpsP P ow ws cs K i (o :: rest) s L :=
 ⟨.inr ⟨by simpa using hi, astep_map (fun x V A h => ⟨h.1, h.2.run⟩) h⟩⟩
theorem aopsP_call (hi : cs.contains i = true) (h : callJ P s L o fun x L' => OpsP P ow ws cs K (i + 1) rest (s.put o.dst x s.V s.A) L') : OpsP P ow ws cs K i (o :: rest) s L :=
 ⟨.inl ⟨by simpa using hi, callJ_map (fun x L' h => h.run) h⟩⟩
theorem aopsP_end (h : K s L) : OpsP P ow ws cs K i [] s L := ⟨h⟩
theorem OpsP.gen {ops : List Oper} {d : Nat} {b : Bool} {fr : List (Nat × AV)} {V : List (List CV)} {A : List Arr} (h : ∀ q : Bool, b = q -> OpsP P ow ws cs K i ops ⟨(d, .c (.d (.bool q))) :: fr, V, A⟩ L) : OpsP P ow ws cs K i ops ⟨(d, .c (.d (.bool b))) :: fr, V, A⟩ L := h b rfl
@[congr] theorem aopsP_cong {i i' : Nat} {ops : List Oper} (hi : i = i') (h : s = s') : OpsP P ow ws cs K i ops s L = OpsP P ow ws cs K i' ops s' L := by rw [h, hi]
@[congr] theorem wpcallP_cong {f : FuncId} {xs xs' : List AV} {K : AV -> Ts -> Prop} (hx : xs = xs') : wpcallP P L f xs K = wpcallP P L f xs' K := by subst hx; rfl
attribute [simp] callJ

theorem TJ.rdP {Q : Exit -> St -> Ts -> Prop} {id : Nat} {l : List Oper} (hm : P.follows .mixedOrders = true) (p : List Nat) (ow : Nat -> Bool) (ws cs : List Nat) (hp : permOk l p = true) (hd : drawOk (permOps l p).toArray ws = true) (hc : callsOk (permOps l p).toArray ws cs = true)
  (h : ∀ K : St -> Ts -> Prop, (∀ s' L', TJ P n y Q s' L' -> K s' L') -> OpsP P ow ws cs K 0 (pickOps l p) s L) : TJ P n (.seq (.region id l.toArray true) y) Q s L :=
 TJ.seq (TJ.region_drawP hm p ow ws cs hp hd hc (h _ fun _ _ h => h).run)
theorem TJ.rdP1 {Q : Exit -> St -> Ts -> Prop} {id : Nat} {l : List Oper} (hm : P.follows .mixedOrders = true) (p : List Nat) (ow : Nat -> Bool) (ws cs : List Nat) (hp : permOk l p = true) (hd : drawOk (permOps l p).toArray ws = true) (hc : callsOk (permOps l p).toArray ws cs = true)
  (h : ∀ K : St -> Ts -> Prop, (∀ s' L', Q .normal s' L' -> K s' L') -> OpsP P ow ws cs K 0 (pickOps l p) s L) : TJ P n (.region id l.toArray true) Q s L :=
 TJ.region_drawP hm p ow ws cs hp hd hc (h _ fun _ _ h => h).run

variable {f : FuncId} {xs as_ : List AV} {r : AV} {K' : AV -> Ts -> Prop}
theorem wpcallP_scal (hfz : FzVs L xs as_) (hc : ACalls P f as_ [] r [] []) (hs : r.scal = true) (hK : K' r L) : wpcallP P L f xs K' :=
 ⟨as_, [], L, _, by simp, hfz, FCalls.of_plain hc hs, by rintro r' L1 ⟨rfl, rfl⟩; exact hK⟩
end
end Go.Av

namespace Go.Av
open Go

section
variable {P : Program} {m : Nat} {c : Code} {Q : Exit -> St -> Ts -> Prop} {s : St} {L L2 : Ts} {g : Gh} {w : World} {V : List (List CV)} {A : List Arr}
theorem Inv.ownArr (h : Inv g w V A) (r : Arr) (v : Value) (xs : List Value) (h1 : ∀ row ∈ r.rows, row.length = r.sz) (ho : w.ownsRow 0 r.ety r.sz v r.rows.length xs)
  (hr : ∀ (j : Nat) x u, r.rows.flatten[j]? = some x -> xs[j]? = some u -> RepD g.im w x u)
  (hb : ∀ b, v.ownBlock = some b -> g.im b = 0 /\ (∀ l : Nat, g.ob[l]? ≠ some b) /\ ∀ (k : Nat) v', g.ar[k]? = some v' -> v'.ownBlock ≠ some b) :
  Inv { g with ar := g.ar ++ [v] } w V (A ++ [r]) /\ Ext g w A { g with ar := g.ar ++ [v] } w (A ++ [r]) := by
 have hx : Ext g w A { g with ar := g.ar ++ [v] } w (A ++ [r]) := by
  refine ⟨fun _ _ h => h, .refl _ _, fun k r' hk => ⟨r', ?_, rfl, Nat.le_refl _, fun _ => ?_⟩⟩
  ·rw [List.getElem?_append_left (List.getElem?_eq_some_iff.1 hk).1]; exact hk
  ·show (g.ar ++ [v])[k]? = _
   rw [List.getElem?_append_left (by rw [h.arl]; exact (List.getElem?_eq_some_iff.1 hk).1)]
 have hall : ∀ (k : Nat) (v' : Value), (g.ar ++ [v])[k]? = some v' -> g.ar[k]? = some v' \/ (k = A.length /\ v' = v) := fun k v' hk => by
  rcases Nat.lt_or_ge k g.ar.length with h1 | h1
  ·rw [List.getElem?_append_left h1] at hk; exact .inl hk
  ·rw [List.getElem?_append_right h1] at hk
   have h0 : k - g.ar.length = 0 := by
    have := (List.getElem?_eq_some_iff.1 hk).1
    simp at this; omega
   rw [h0] at hk; simp at hk
   exact .inr ⟨by rw [<- h.arl]; omega, hk.symm⟩
 refine ⟨⟨h.obl, by simp [h.arl], fun l row b h2 h3 => ?_, fun k r' v' h2 h3 => ?_, h.obob, fun k k' v1 v2 b h2 h3 h4 h5 => ?_, fun l k v' b h2 h3 => ?_, h.fresh⟩, hx⟩
 ·exact h.objKeep hx h2 h3 rfl (h.obj l row b h2 h3).1
 ·rcases hall k v' h3 with h4 | ⟨h4, h5⟩
  ·have h6 : A[k]? = some r' := by
    have : k < A.length := by rw [<- h.arl]; exact (List.getElem?_eq_some_iff.1 h4).1
    rwa [List.getElem?_append_left this] at h2
   exact h.arrKeep hx h6 h4 (fun _ _ => rfl) (fun _ _ => rfl)
  ·subst h4; subst h5
   simp at h2; subst h2
   exact ⟨h1, fun b hv => by show g.im b <= _; rw [(hb b hv).1]; exact Nat.zero_le _, xs, ho, hr⟩
 ·rcases hall k v1 h2 with h6 | ⟨h6, h7⟩ <;> rcases hall k' v2 h3 with h8 | ⟨h8, h9⟩
  ·exact h.arar k k' v1 v2 b h6 h8 h4 h5
  ·subst h9; exact absurd h4 ((hb b h5).2.2 k v1 h6)
  ·subst h7; exact absurd h5 ((hb b h4).2.2 k' v2 h8)
  ·omega
 ·rcases hall k v' h3 with h4 | ⟨h4, h5⟩
  ·exact h.obar l k v' b h2 h4
  ·subst h5; intro hv; exact (hb b hv).2.1 l h2

theorem TJ.openTree (t : Nat) {ety : TypeId} {sz n : Nat} {cs : List GC} {v : Value} (ht : look s.fr t = some (.c (.d (.raw v)))) (hL : L.Perm ((.t ety sz n cs, v) :: L2)) (hsc : ∀ x, GC.d x ∈ cs -> x.scal = true)
  (h : ∀ ds Lc, Mk cs ds Lc -> ds.length = n * sz -> TJ P m c Q ⟨(t, .c (.own s.A.length n)) :: s.fr, s.V, s.A ++ [⟨sz, ety, chunks sz n ds, true⟩]⟩ (Lc ++ L2)) : TJ P m c Q s L := by
 intro hok w0 g0 X S g a w hR
 obtain ⟨S1, hS1, hT⟩ := hR.trs.perm hL
 obtain ⟨St, S2, rfl, htr, hT2⟩ := hT
 simp only [Tr] at htr
 obtain ⟨cells, Sc, hown, htl, rfl⟩ := htr
 obtain ⟨ds, Lc, hmk, hTc, hcells⟩ := TrL.mk hsc htl
 have hdl : ds.length = n * sz := by rw [<- hmk.len, htl.len, hown.1]
 have hnd := hS1.nodup_iff.1 hR.nd
 have hout : ∀ b ∈ (v.ownBlock.toList ++ Sc) ++ S2, _ := fun b hb => hR.out b (hS1.mem_iff.2 hb)
 have hvb : ∀ b, v.ownBlock = some b -> b ∈ (v.ownBlock.toList ++ Sc) ++ S2 := fun b hb => by simp [hb]
 obtain ⟨hI, hx⟩ := hR.inv.ownArr ⟨sz, ety, chunks sz n ds, true⟩ v cells (chunks_row hdl) (by simpa [chunks_len] using hown) (fun j x u h3 h4 => by
  rw [flat_chunks hdl] at h3
  exact hcells g.im j x u h3 h4) (fun b hb => by
  obtain ⟨q1, q2, q3, _⟩ := hout b (hvb b hb)
  exact ⟨q1, fun l hl => q2 (List.mem_of_getElem? hl), fun k v' hk hv' => q3 (Gh.arb_mem hk hv')⟩)
 have hnS : ∀ b, v.ownBlock = some b -> b ∉ Sc ++ S2 := fun b hb hm => by
  rw [List.append_assoc] at hnd
  exact (List.nodup_append.1 hnd).2.2 b (by simp [hb]) b hm rfl
 have harb : ∀ b, b ∈ (g.ar ++ [v]).filterMap Value.ownBlock -> b ∈ g.arb \/ v.ownBlock = some b := fun b hb => by
  rw [List.filterMap_append, List.mem_append] at hb
  rcases hb with hb | hb
  ·exact .inl hb
  ·simp only [List.mem_filterMap, List.mem_singleton] at hb
   obtain ⟨x, rfl, h⟩ := hb
   exact .inr h
 refine h ds Lc hmk hdl hok w0 g0 X (Sc ++ S2) { g with ar := g.ar ++ [v] } a w ⟨hI, ?_, hR.size, hR.defers, fun t' x hx' => ?_, Trs.app.2 ⟨Sc, S2, rfl, hTc, hT2⟩, ?_, fun b hb => ?_⟩
 ·refine ⟨hR.fr.os, hR.fr.tape, hR.fr.output, hR.fr.size, hR.fr.blk, hR.fr.imeq, hR.fr.ob, fun k v' b h1 h2 => ?_, fun k v' h1 => ?_, hR.fr.tab, hR.fr.tabx⟩
  ·have h3 : b ∈ (g.ar ++ [v]).filterMap Value.ownBlock := List.mem_filterMap.2 ⟨v', List.mem_of_getElem? h1, h2⟩
   rcases harb b h3 with h4 | h4
   ·obtain ⟨k', v2, q1, q2⟩ := Gh.mem_arb h4
    exact hR.fr.ar k' v2 b q1 q2
   ·rcases (hout b (hvb b h4)).2.2.2.2 with q | q
    ·exact .inl q
    ·exact .inr (.inr q)
  ·obtain ⟨v2, q1, q2, q3⟩ := hR.fr.arx k v' h1
   exact ⟨v2, by show (g.ar ++ [v])[k]? = _; rw [List.getElem?_append_left (List.getElem?_eq_some_iff.1 q1).1]; exact q1, q2, q3⟩
 ·simp only [look] at hx'
  by_cases e : t' = t
  ·subst e
   simp at hx'; subst hx'
   obtain ⟨u, h1, h2⟩ := hR.slot t' _ ht
   simp only [RepV, RepE, RepC, RepD] at h2
   have hsl : ∃ a cap, v = .slice a n cap := by
    rcases hown.2 with ⟨rfl, rfl⟩ | ⟨b, cap, cur, rfl, _⟩
    ·exact ⟨_, _, rfl⟩
    ·exact ⟨_, _, rfl⟩
   obtain ⟨a', cap, hva⟩ := hsl
   refine ⟨u, h1, ?_⟩
   rw [h2.1]
   refine ⟨a', cap, hva, ⟨sz, ety, chunks sz n ds, true⟩, by simp, by simp [chunks_len], fun _ => ?_⟩
   show (g.ar ++ [v])[s.A.length]? = _
   rw [List.getElem?_append_right (by rw [hR.inv.arl]; exact Nat.le_refl _), hR.inv.arl]; simp
  ·rw [if_neg e] at hx'
   obtain ⟨u, h1, h2⟩ := hR.slot t' x hx'
   exact ⟨u, h1, RepV.ext hx h2⟩
 ·rw [List.append_assoc] at hnd
  exact (List.nodup_append.1 hnd).2.1
 ·obtain ⟨q1, q2, q3, q4, q5⟩ := hout b (by rw [List.append_assoc]; exact List.mem_append_right _ hb)
  refine ⟨q1, q2, fun hm => ?_, q4, q5⟩
  rcases harb b hm with h4 | h4
  ·exact q3 h4
  ·exact hnS b h4 hb
end
end Go.Av

namespace Go.Av
open Go
section
variable {P : Program} {f : FuncId} {as_ : List AV}
theorem FCalls.of_own {n : Nat} {a : Arr} {cs : List GC} (h : ACalls P f as_ [] (.c (.own 0 n)) [] [a]) (hn : n = a.rows.length) (hmk : Mk cs a.rows.flatten []) :
  FCalls P f as_ [] fun r L' => ∃ v, r = .c (.d (.raw v)) /\ L' = [(.t a.ety a.sz n cs, v)] := by
 refine ⟨h.1, fun g w vs S h1 h2 hI hT hl hr hS hnd hz => ?_⟩
 simp only [Trs] at hS
 subst hS
 refine (h.2.2 g w vs h2 hI hT hl hr).mono ?_
 rintro e w' ⟨v, g', rfl, h3, h4, h5⟩
 have h3' : RepC g' w' [a] (.own 0 n) v := h3
 obtain ⟨ad, cap, _, r', h6, _, h7⟩ := h3'
 obtain rfl : a = r' := by simpa using h6
 have hgv := h7 hn
 obtain ⟨hlen, him, cells, hown, hcells⟩ := h4.arr 0 a v (by simp) hgv
 have hfl : cells.length = a.rows.flatten.length := by
  have hx : ∀ (rows : List (List DV)), (∀ row ∈ rows, row.length = a.sz) -> rows.flatten.length = rows.length * a.sz := by
   intro rows
   induction rows with
   | nil => simp
   | cons x xs ih => intro hx; rw [List.flatten_cons, List.length_append, hx x (by simp), ih (fun y hy => hx y (by simp [hy])), List.length_cons, Nat.add_mul]; omega
  rw [hown.1, hx a.rows hlen]
 have htl := hmk.trl hfl hcells (S := []) (by simp [Trs])
 have htr : Tr w' (.t a.ety a.sz n cs) v (v.ownBlock.toList ++ []) := by
  subst hn
  simp only [Tr]
  exact ⟨cells, [], hown, htl, rfl⟩
 refine ⟨v, .c (.d (.raw v)), [(.t a.ety a.sz n cs, v)], v.ownBlock.toList ++ [] ++ [], rfl, ⟨v, rfl, rfl⟩, ?_, ⟨_, [], rfl, htr, by simp [Trs]⟩, by cases v.ownBlock <;> simp, fun b hb => ?_, h5.os, h5.tape, h5.output, h5.size, fun b hb _ => h5.blk b hb (by simp [h1]) (by simp [Gh.arb, h2])⟩
 ·intro g w A
  exact ⟨rfl, ownsRow_one hown⟩
 ·have hb' : v.ownBlock = some b := by cases hv : v.ownBlock <;> simp [hv] at hb ⊢; exact hb.symm
  rcases h5.ar 0 v b hgv hb' with q | q
  ·exact .inr q
  ·simp [Gh.arb, h2] at q
theorem ACalls.of_tree {ety : TypeId} {sz n : Nat} {cs : List GC} {rows : List (List DV)} (h : FCalls P f as_ [] fun r L' => ∃ v, r = .c (.d (.raw v)) /\ L' = [(.t ety sz n cs, v)]) (hsc : ∀ x, GC.d x ∈ cs -> x.scal = true)
  (hmk : ∀ ds Lc, Mk cs ds Lc -> chunks sz n ds = rows /\ Lc = []) : ACalls P f as_ [] (.c (.own 0 n)) [] [⟨sz, ety, rows, true⟩] := by
 refine ⟨h.1, Nat.le_refl _, fun g w vs h2 hI hT hl hr => ?_⟩
 have h1 : g.ob = [] := List.length_eq_zero_iff.1 (by simpa using hI.obl)
 refine (h.2 g w vs [] h1 h2 hI hT hl hr rfl List.nodup_nil (by simp)).mono ?_
 rintro e w' ⟨v, r', L', S', rfl, ⟨u, rfl, rfl⟩, h3, h4, h5, h6, o1, o2, o3, o4, o5⟩
 have hv : v = u := (h3 g w' []).1
 subst hv
 obtain ⟨St, S2, rfl, htr, hT2⟩ := h4
 simp only [Tr] at htr
 obtain ⟨cells, Sc, hown, htl, rfl⟩ := htr
 obtain ⟨ds, Lc, hmk', hTc, hcells⟩ := TrL.mk hsc htl
 have hdl : ds.length = n * sz := by rw [<- hmk'.len, htl.len, hown.1]
 obtain ⟨rfl, rfl⟩ := hmk ds Lc hmk'
 have hnew : ∀ b ∈ v.ownBlock.toList ++ Sc ++ S2, w.heap.size <= b := fun b hb => by rcases h6 b hb with q | q; simp at q; exact q
 have hvb : ∀ b, v.ownBlock = some b -> w.heap.size <= b := fun b hb => hnew b (by simp [hb])
 have hI' : Inv g w' [] [] := ⟨hI.obl, hI.arl, fun l row b h => by simp at h, fun k r v h => by simp at h, hI.obob, hI.arar, hI.obar, fun b hb => hI.fresh b (by omega)⟩
 obtain ⟨hI2, hx⟩ := hI'.ownArr ⟨sz, ety, chunks sz n ds, true⟩ v cells (chunks_row hdl) (by simpa [chunks_len] using hown) (fun j x u h3 h4 => by
  rw [flat_chunks hdl] at h3
  exact hcells g.im j x u h3 h4) (fun b hb => ⟨hI.fresh b (hvb b hb), fun l hl => by rw [h1] at hl; simp at hl, fun k v' hk => by rw [h2] at hk; simp at hk⟩)
 have hsl : ∃ a cap, v = .slice a n cap := by
  rcases hown.2 with ⟨rfl, rfl⟩ | ⟨b, cap, cur, rfl, _⟩
  ·exact ⟨_, _, rfl⟩
  ·exact ⟨_, _, rfl⟩
 obtain ⟨a', cap, hva⟩ := hsl
 refine ⟨v, { g with ar := g.ar ++ [v] }, rfl, ⟨a', cap, hva, ⟨sz, ety, chunks sz n ds, true⟩, by simp, by simp [chunks_len], fun _ => by simp [h2]⟩, hI2,
  ⟨o1, o2, o3, o4, fun b hb _ _ => o5 b hb (by simp), fun _ _ _ => rfl, ⟨[], by simp, by simp⟩, fun k v' b q1 q2 => ?_, fun k v h => by rw [h2] at h; simp at h, hT⟩⟩
 ·rw [h2, List.nil_append] at q1
  have : v' = v := by
   cases k with
   | zero => simpa using q1.symm
   | succ k => simp at q1
  subst this
  exact .inl (hvb b q2)
end
end Go.Av
