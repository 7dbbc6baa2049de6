/- A part of the library of this seat. -/
import Derived.Test.YtgpgcnahoieedaaR10
import Derived.Lib.Bytealg
set_option linter.unusedVariables false
set_option linter.unusedSimpArgs false
namespace Go.Av
attribute [-simp] Go.Av.freeStepG Go.Av.exA Go.Av.innAsH Go.Av.AV.innH Go.Av.CV.innH Go.Av.innHs Go.Av.AV.outnH Go.Av.CV.outnH Go.Av.astepJ Go.Av.relC Go.Av.relL Go.Av.relV Go.Av.relVs Go.Av.callJ
open Go
mutual
def freeIn (c : UInt8) : List UInt8 -> MTm -> Bool
 | bd, .mk k s _ _ _ _ l => (decide (k = 1) && (decide (s = [c]) && !(bd.contains c))) || freeInS c (if k = 5 then bd ++ s else bd) l
def freeInS (c : UInt8) : List UInt8 -> List MTm -> Bool
 | _, [] => false
 | bd, e :: r => freeIn c bd e || freeInS c bd r
end
@[irreducible] def letters : List UInt8 := (List.range 26).map fun i => UInt8.ofNat (97 + i)
def namesM (e : MTm) : List UInt8 := letters.filter fun c => freeIn c [] e
theorem wrap8 {n : Nat} (h : n <= 255) : IntKind.u8.wrap (n : Int) = n := by simp [IntKind.wrap, IntKind.signed, IntKind.bits]; omega
theorem nameM_one {s : List UInt8} (h : nameM s = true) : ∃ c, s = [c] /\ 97 <= c.toNat /\ c.toNat <= 122 := by
 match s with
 | [] => simp [nameM] at h
 | [c] => simp [nameM] at h; exact ⟨c, rfl, by omega, by omega⟩
 | _ :: _ :: _ => simp [nameM] at h
abbrev rowB (S : List Bool) : List CV := S.map fun b => CV.d (.bool b)
def orF (f : UInt8 -> Bool) (S : List Bool) : List Bool := List.zipWith (fun c b => b || f c) letters S
@[irreducible] def noB : List Bool := List.replicate 26 false
def substTermM (e : MTm) (x : List UInt8) (v : MTm) : Option MTm :=
 if (termValidM e && (termValidM v && (nameM x && (decide (namesM v = []) && termValidM (substM x v e))))) = true then some (substM x v e) else none
end Go.Av

namespace Go.Av
attribute [-simp] Go.Av.freeStepG Go.Av.exA Go.Av.innAsH Go.Av.AV.innH Go.Av.CV.innH Go.Av.innHs Go.Av.AV.outnH Go.Av.CV.outnH Go.Av.astepJ Go.Av.relC Go.Av.relL Go.Av.relV Go.Av.relVs Go.Av.callJ
open Go
mutual
def cntM : MTy -> Nat
 | .mk k l => if k = 1 then 1 else cntS l
def cntS : List MTy -> Nat
 | [] => 0
 | t :: r => cntM t + cntS r
end
theorem cnt_two {k : Int} (hk : k ≠ 1) (a b : MTy) : cntM (.mk k [a, b]) = cntM a + cntM b := by simp [cntM, cntS, hk]
theorem cons_static : ∀ {d : Nat} {a : MTy}, VTy d a -> ∀ {n : Nat} {b : MTy}, VTy n b -> cntM a = 0 -> cntM b = 0 -> consTy a b = true -> a = b := by
 intro d a ha
 induction ha with
 | any d => intro n b hb h; simp [cntM] at h
 | int d => intro n b hb h h2 hc; cases hb <;> simp [consTy, consTyS, cntM] at hc h2 ⊢
 | bool d => intro n b hb h h2 hc; cases hb <;> simp [consTy, consTyS, cntM] at hc h2 ⊢
 | @fn d x y _ _ ih1 ih2 =>
  intro n b hb h h2 hc
  cases hb with
  | any => simp [cntM] at h2
  | int => simp [consTy, consTyS] at hc
  | bool => simp [consTy, consTyS] at hc
  | fn g1 g2 =>
   rw [cnt_two (by omega)] at h h2
   rw [cons_two (by omega)] at hc
   simp at hc
   rw [ih1 g1 (by omega) (by omega) hc.1, ih2 g2 (by omega) (by omega) hc.2]
  | pair => simp [consTy, consTyS] at hc
 | @pair d x y _ _ ih1 ih2 =>
  intro n b hb h h2 hc
  cases hb with
  | any => simp [cntM] at h2
  | int => simp [consTy, consTyS] at hc
  | bool => simp [consTy, consTyS] at hc
  | fn => simp [consTy, consTyS] at hc
  | pair g1 g2 =>
   rw [cnt_two (by omega)] at h h2
   rw [cons_two (by omega)] at hc
   simp at hc
   rw [ih1 g1 (by omega) (by omega) hc.1, ih2 g2 (by omega) (by omega) hc.2]
theorem match_static {k : Int} (hk : k = 4 \/ k = 5) {a x y : MTy} (h : matchM k a = some (x, y)) (ha : shapeTy 4 a = true) (hs : cntM a = 0) : a = .mk k [x, y] /\ cntM x = 0 /\ cntM y = 0 := by
 have hk1 : k ≠ 1 := by omega
 cases VTy.of ha with
 | any d => simp [cntM] at hs
 | int d => exfalso; rcases hk with rfl | rfl <;> simp [matchM] at h
 | bool d => exfalso; rcases hk with rfl | rfl <;> simp [matchM] at h
 | @fn d p q _ _ =>
  rcases hk with rfl | rfl
  ·simp [matchM] at h; obtain ⟨rfl, rfl⟩ := h; rw [cnt_two (by omega)] at hs; exact ⟨rfl, by omega, by omega⟩
  ·simp [matchM] at h
 | @pair d p q _ _ =>
  rcases hk with rfl | rfl
  ·simp [matchM] at h
  ·simp [matchM] at h; obtain ⟨rfl, rfl⟩ := h; rw [cnt_two (by omega)] at hs; exact ⟨rfl, by omega, by omega⟩

def staCtx (c : List MBd) : Prop := ∀ b ∈ c, cntM b.ty = 0
theorem staCtx.app {c : List MBd} (h : staCtx c) {s : List UInt8} {t : MTy} (ht : cntM t = 0) : staCtx (c ++ [⟨s, t⟩]) := by
 intro b hb
 rcases List.mem_append.1 hb with h' | h'
 ·exact h b h'
 ·simp at h'; subst h'; exact ht

mutual
def castsM : MTm -> List MTm
 | .mk k s n t f b l => (if k = 14 then [.mk k s n t f b l] else []) ++ castsS l
def castsS : List MTm -> List MTm
 | [] => []
 | e :: r => castsM e ++ castsS r
end
theorem CaV.static {n m : Int} {e e2 : MTm} {f t : MTy} (h : CaV n e f t e2 m) (hft : f = t) : e2 = e /\ m = n := by
 cases h with
 | same _ => exact ⟨rfl, rfl⟩
 | cast h => exact absurd hft h

theorem EV.static {c : List MBd} {e e' : MTm} {n m : Int} {t : MTy} (h : EV c e n e' t m) : ∀ {d : Nat}, okCtx c -> TmV 14 d e -> staCtx c -> (∀ u ∈ typesM e, cntM u = 0) -> cntM t = 0 /\ castsM e' = [] /\ shapeTy 4 t = true := by
 induction h with
 | @var c s t n hl =>
  intro d hc hv hs ht
  obtain ⟨b, h1, h2, _⟩ := look_mem hl
  exact ⟨by rw [<- h2]; exact hs b h1, by simp [castsM, castsS], by rw [<- h2]; exact hc b h1⟩
 | num => intro d hc hv hs ht; exact ⟨rfl, by simp [castsM, castsS], rfl⟩
 | tru => intro d hc hv hs ht; exact ⟨rfl, by simp [castsM, castsS], rfl⟩
 | fls => intro d hc hv hs ht; exact ⟨rfl, by simp [castsM, castsS], rfl⟩
 | @lam c s u t b b' n m _ hsh ih =>
  intro d hc hv hs ht
  obtain ⟨d', rfl, hn, hu, hb⟩ := hv.inv_lam
  simp [typesM, typesS, hasTyM] at ht
  obtain ⟨i1, i2, i3⟩ := ih (hc.app hu) hb (hs.app ht.1) ht.2
  exact ⟨by rw [cnt_two (by omega)]; omega, by simp [castsM, castsS, i2], hsh⟩
 | @app c a b a' b' a2 b2 ta tb x y n n1 n2 n3 n4 _ _ hm hq h1 h2 iha ihb =>
  intro d hc hv hs ht
  obtain ⟨d', rfl, _, ha, hb⟩ := hv.inv_n2
  simp [typesM, typesS, hasTyM] at ht
  obtain ⟨i1, i2, i3⟩ := iha hc ha hs (fun u hu => ht u (.inl hu))
  obtain ⟨j1, j2, j3⟩ := ihb hc hb hs (fun u hu => ht u (.inr hu))
  obtain ⟨m1, m2, m3⟩ := match_static (.inl rfl) hm i3 i1
  obtain ⟨s1, s2⟩ := match_shape hm i3
  obtain ⟨rfl, _⟩ := h1.static m1
  obtain ⟨rfl, _⟩ := h2.static (cons_static (VTy.of j3) (VTy.of s1) j1 m2 hq)
  exact ⟨m3, by simp [castsM, castsS, i2, j2], s2⟩
 | @op c k a b a' b' a2 b2 ta tb t n n1 n2 n3 n4 hk _ _ q1 q2 h1 h2 iha ihb =>
  intro d hc hv hs ht
  obtain ⟨d', rfl, _, ha, hb⟩ := hv.inv_n2
  have hty : hasTyM k = false := by rcases hk with ⟨rfl, _⟩ | ⟨rfl, _⟩ <;> rfl
  simp [typesM, typesS, hty] at ht
  obtain ⟨i1, i2, i3⟩ := iha hc ha hs (fun u hu => ht u (.inl hu))
  obtain ⟨j1, j2, j3⟩ := ihb hc hb hs (fun u hu => ht u (.inr hu))
  obtain ⟨rfl, _⟩ := h1.static (cons_static (VTy.of i3) (VTy.int 0) i1 rfl q1)
  obtain ⟨rfl, _⟩ := h2.static (cons_static (VTy.of j3) (VTy.int 0) j1 rfl q2)
  rcases hk with ⟨rfl, rfl⟩ | ⟨rfl, rfl⟩
  ·exact ⟨rfl, by simp [castsM, castsS, i2, j2], rfl⟩
  ·exact ⟨rfl, by simp [castsM, castsS, i2, j2], rfl⟩
 | @ite c p a b p' a' b' p2 a2 b2 tp ta tb n n1 n2 n3 n4 n5 n6 _ _ _ q1 q2 h1 h2 h3 ihp iha ihb =>
  intro d hc hv hs ht
  obtain ⟨d', rfl, hp, ha, hb⟩ := hv.inv_if
  simp [typesM, typesS, hasTyM] at ht
  obtain ⟨o1, o2, o3⟩ := ihp hc hp hs (fun u hu => ht u (.inl hu))
  obtain ⟨i1, i2, i3⟩ := iha hc ha hs (fun u hu => ht u (.inr (.inl hu)))
  obtain ⟨j1, j2, j3⟩ := ihb hc hb hs (fun u hu => ht u (.inr (.inr hu)))
  have e1 := cons_static (VTy.of i3) (VTy.of j3) i1 j1 q2
  subst e1
  rw [meet_self (VTy.of i3)] at h2 h3 ⊢
  obtain ⟨rfl, _⟩ := h1.static (cons_static (VTy.of o3) (VTy.bool 0) o1 rfl q1)
  obtain ⟨rfl, _⟩ := h2.static rfl
  obtain ⟨rfl, _⟩ := h3.static rfl
  exact ⟨i1, by simp [castsM, castsS, o2, i2, j2], i3⟩
 | @pair c a b a' b' ta tb n n1 n2 _ _ hsh iha ihb =>
  intro d hc hv hs ht
  obtain ⟨d', rfl, _, ha, hb⟩ := hv.inv_n2
  simp [typesM, typesS, hasTyM] at ht
  obtain ⟨i1, i2, i3⟩ := iha hc ha hs (fun u hu => ht u (.inl hu))
  obtain ⟨j1, j2, j3⟩ := ihb hc hb hs (fun u hu => ht u (.inr hu))
  exact ⟨by rw [cnt_two (by omega)]; omega, by simp [castsM, castsS, i2, j2], hsh⟩
 | @sel c k a a' a2 ta x y t n n1 n2 hk _ hm h1 ih =>
  intro d hc hv hs ht
  obtain ⟨d', rfl, _, ha⟩ := hv.inv_n1
  have hty : hasTyM k = false := by rcases hk with ⟨rfl, _⟩ | ⟨rfl, _⟩ <;> rfl
  simp [typesM, typesS, hty] at ht
  obtain ⟨i1, i2, i3⟩ := ih hc ha hs ht
  obtain ⟨m1, m2, m3⟩ := match_static (.inr rfl) hm i3 i1
  obtain ⟨s1, s2⟩ := match_shape hm i3
  obtain ⟨rfl, _⟩ := h1.static m1
  rcases hk with ⟨rfl, rfl⟩ | ⟨rfl, rfl⟩
  ·exact ⟨m2, by simp [castsM, castsS, i2], s1⟩
  ·exact ⟨m3, by simp [castsM, castsS, i2], s2⟩
 | @asc c a a' a2 ta t n n1 n2 _ q h1 ih =>
  intro d hc hv hs ht
  obtain ⟨d', rfl, hty, ha⟩ := hv.inv_as
  simp [typesM, typesS, hasTyM] at ht
  obtain ⟨i1, i2, i3⟩ := ih hc ha hs ht.2
  obtain ⟨rfl, _⟩ := h1.static (cons_static (VTy.of i3) (VTy.of hty) i1 ht.1 q)
  exact ⟨ht.1, i2, hty⟩
def staticM (e : MTm) : Bool := termValidM e && !((typesM e).any fun t => decide (0 < cntM t))
end Go.Av

namespace Go.Av
attribute [-simp] Go.Av.freeStepG Go.Av.exA Go.Av.innAsH Go.Av.AV.innH Go.Av.CV.innH Go.Av.innHs Go.Av.AV.outnH Go.Av.CV.outnH Go.Av.astepJ Go.Av.relC Go.Av.relL Go.Av.relV Go.Av.relVs Go.Av.callJ
open Go
def eraseG (e : MTm) : MTm := if hasTyM e.kind = true then .mk e.kind e.name e.num anyT e.fr e.label e.kids else e
abbrev asAnyM (e : MTm) : MTm := tAs e anyT
def embG (e : MTm) : MTm :=
 if e.kind = 13 then match e.kids with
  | x :: _ => x
  | [] => e
 else if e.kind = 1 \/ e.kind = 6 \/ e.kind = 9 \/ e.kind = 11 \/ e.kind = 12 then e
 else if e.kind = 5 then asAnyM (.mk 5 e.name e.num anyT e.fr e.label e.kids) else asAnyM e
def embM (e : MTm) : MTm := mapM embG e
def anyCtx (c : List MBd) : Prop := ∀ b ∈ c, b.ty = anyT /\ ∃ z, b.name = [z]
def domM (c : List MBd) : List UInt8 := c.flatMap (·.name)
theorem anyCtx.app {c : List MBd} (h : anyCtx c) {s : List UInt8} (hs : nameM s = true) : anyCtx (c ++ [⟨s, anyT⟩]) := by
 intro b hb
 rcases List.mem_append.1 hb with h' | h'
 ·exact h b h'
 ·simp at h'; subst h'; obtain ⟨z, hz, _⟩ := nameM_one hs; exact ⟨rfl, z, hz⟩
theorem anyCtx.look {c : List MBd} (h : anyCtx c) (z : UInt8) : lookM c [z] = if (domM c).contains z = true then some anyT else none := by
 induction c with
 | nil => simp [lookM, domM]
 | cons b r ih =>
  obtain ⟨h1, y, h2⟩ := h b (by simp)
  have ih := ih fun b' hb' => h b' (by simp [hb'])
  rw [lookM, ih]
  have hd : domM (b :: r) = y :: domM r := by simp [domM, h2]
  rw [hd]
  by_cases hz : (domM r).contains z = true
  ·simp only [hz, if_true]; simp at hz; simp [hz]
  ·simp only [hz, if_false, h2, h1]
   simp at hz
   by_cases e : y = z
   ·subst e; simp
   ·simp [e, hz, Ne.symm e]

end Go.Av

namespace Go.Av
attribute [-simp] Go.Av.freeStepG Go.Av.exA Go.Av.innAsH Go.Av.AV.innH Go.Av.CV.innH Go.Av.innHs Go.Av.AV.outnH Go.Av.CV.outnH Go.Av.astepJ Go.Av.relC Go.Av.relL Go.Av.relV Go.Av.relVs Go.Av.callJ
open Go
def simpG (e : MTm) : MTm :=
 if e.kind = 14 then match e.kids with
  | a :: _ => if sameTy e.fr e.ty = true then a else if e.fr.kind = 1 /\ a.kind = 14 /\ a.ty.kind = 1 /\ sameTy e.ty a.fr = true then (match a.kids with
    | x :: _ => x
    | [] => e) else e
  | [] => e
 else e
def simpM (e : MTm) : MTm := mapM simpG e
abbrev trip (e : MTm) : MTy × MTy × Int := (e.fr, e.ty, e.label)
end Go.Av

namespace Go.Av
attribute [-simp] Go.Av.freeStepG Go.Av.exA Go.Av.innAsH Go.Av.AV.innH Go.Av.CV.innH Go.Av.innHs Go.Av.AV.outnH Go.Av.CV.outnH Go.Av.astepJ Go.Av.relC Go.Av.relL Go.Av.relV Go.Av.relVs Go.Av.callJ
open Go
abbrev gFun : MTy := .mk 4 [anyT, anyT]
abbrev gPair : MTy := .mk 5 [anyT, anyT]
def subsM {α : Type} (f : α -> List α) : List α -> List (List α)
 | [] => []
 | x :: r => (f x).map (· :: r) ++ (subsM f r).map (x :: ·)
mutual
def refinedM : MTy -> List MTy
 | .mk k l => if k = 1 then [intT, boolT, gFun, gPair] else (refinedS l).map (MTy.mk k)
def refinedS : List MTy -> List (List MTy)
 | [] => []
 | t :: r => (refinedM t).map (· :: r) ++ (refinedS r).map (t :: ·)
end
theorem refinedS_subs : ∀ l : List MTy, refinedS l = subsM refinedM l
 | [] => rfl
 | t :: r => by simp [refinedS, subsM, refinedS_subs r]
theorem refinedM_def (t : MTy) : refinedM t = if t.kind = 1 then [intT, boolT, gFun, gPair] else (subsM refinedM t.kids).map (MTy.mk t.kind) := by
 cases t; simp only [refinedM, refinedS_subs]; rfl
theorem refined_two {k : Int} (hk : k ≠ 1) (a b : MTy) : refinedM (.mk k [a, b]) = (refinedM a).map (fun x => MTy.mk k [x, b]) ++ (refinedM b).map (fun x => MTy.mk k [a, x]) := by
 rw [refinedM_def]
 simp only [MTy.kind_mk, MTy.kids_mk, if_neg hk, subsM, List.map_nil, List.append_nil, List.map_append, List.map_map]
 rfl
mutual
def stepsM : Nat -> MTy -> List MTy
 | d, .mk k l => if k = 1 then intT :: boolT :: (if 1 < d then [gFun, gPair] else []) else (stepsS (d - 1) l).map (MTy.mk k)
def stepsS : Nat -> List MTy -> List (List MTy)
 | _, [] => []
 | d, t :: r => (stepsM d t).map (· :: r) ++ (stepsS d r).map (t :: ·)
end
theorem stepsS_subs (d : Nat) : ∀ l : List MTy, stepsS d l = subsM (stepsM d) l
 | [] => rfl
 | t :: r => by simp [stepsS, subsM, stepsS_subs d r]
theorem stepsM_def (d : Nat) (t : MTy) : stepsM d t = if t.kind = 1 then intT :: boolT :: (if 1 < d then [gFun, gPair] else []) else (subsM (stepsM (d - 1)) t.kids).map (MTy.mk t.kind) := by
 cases t; simp only [stepsM, stepsS_subs]; rfl

theorem shape_mk2 {d : Nat} {k : Int} (hk : k = 4 \/ k = 5) (a b : MTy) : shapeTy (d + 1) (.mk k [a, b]) = (shapeTy d a && shapeTy d b) := by
 rcases hk with rfl | rfl <;> simp [shapeTy, tyKids]
theorem steps_filter : ∀ {d : Nat} {t : MTy}, VTy d t -> (refinedM t).filter (shapeTy d) = stepsM d t := by
 intro d t h
 have hz : ∀ d, shapeTy (d + 1) intT = true /\ shapeTy (d + 1) boolT = true /\ shapeTy (d + 1) anyT = true := fun d => by simp [shapeTy, tyKids]
 have hmap : ∀ {d : Nat} {k : Int} (hk : k = 4 \/ k = 5) {a b : MTy}, VTy d a -> VTy d b -> (refinedM a).filter (shapeTy d) = stepsM d a -> (refinedM b).filter (shapeTy d) = stepsM d b -> (refinedM (.mk k [a, b])).filter (shapeTy (d + 1)) = stepsM (d + 1) (.mk k [a, b]) := by
  intro d k hk a b ha hb h1 h2
  have hk1 : k ≠ 1 := by omega
  rw [refinedM_def, stepsM_def]
  simp only [MTy.kind_mk, MTy.kids_mk, if_neg hk1, Nat.add_sub_cancel, subsM, List.map_nil, List.append_nil, List.map_append, List.map_map, List.filter_append, List.filter_map]
  rw [<- h1, <- h2]
  congr 2
  ·refine List.filter_congr fun x _ => ?_
   simp only [Function.comp]
   rw [shape_mk2 hk, hb.shape, Bool.and_true]
  ·refine List.filter_congr fun x _ => ?_
   simp only [Function.comp]
   rw [shape_mk2 hk, ha.shape, Bool.true_and]
 induction h with
 | any d =>
  rw [refinedM_def, stepsM_def]
  cases d with
  | zero => simp [shapeTy, tyKids]
  | succ d => simp [shapeTy, tyKids]
 | int d => rfl
 | bool d => rfl
 | fn ha hb h1 h2 => exact hmap (.inl rfl) ha hb h1 h2
 | pair ha hb h1 h2 => exact hmap (.inr rfl) ha hb h1 h2

def refTyM (t : MTy) : List MTy := if shapeTy 4 t = true then (refinedM t).filter (shapeTy 4) else []
theorem refTy_steps {t : MTy} (h : shapeTy 4 t = true) : refTyM t = stepsM 4 t := by rw [refTyM, if_pos h, steps_filter (VTy.of h)]
theorem refTy_shape {t u : MTy} (h : u ∈ refTyM t) : shapeTy 4 t = true /\ shapeTy 4 u = true := by
 simp only [refTyM] at h
 split at h
 ·rename_i hs; exact ⟨hs, (List.mem_filter.1 h).2⟩
 ·simp at h

mutual
def sizeTy : MTy -> Nat
 | .mk _ l => 1 + sizeTyS l
def sizeTyS : List MTy -> Nat
 | [] => 0
 | t :: r => sizeTy t + sizeTyS r
end
mutual
def wgtM : MTy -> Nat
 | .mk k l => if k = 1 then 0 else 1 + wgtS l
def wgtS : List MTy -> Nat
 | [] => 0
 | t :: r => wgtM t + wgtS r
end
theorem wgt_size {d : Nat} {t : MTy} (h : VTy d t) : sizeTy t = wgtM t + cntM t /\ wgtM t + 1 <= 2 ^ d := by
 induction h with
 | any d => simp [sizeTy, sizeTyS, wgtM, cntM]; exact Nat.one_le_two_pow
 | int d => simp [sizeTy, sizeTyS, wgtM, wgtS, cntM, cntS]; have := Nat.one_le_two_pow (n := d); rw [Nat.pow_succ]; omega
 | bool d => simp [sizeTy, sizeTyS, wgtM, wgtS, cntM, cntS]; have := Nat.one_le_two_pow (n := d); rw [Nat.pow_succ]; omega
 | fn _ _ h1 h2 => simp [sizeTy, sizeTyS, wgtM, wgtS, cntM, cntS] at *; rw [Nat.pow_succ]; omega
 | pair _ _ h1 h2 => simp [sizeTy, sizeTyS, wgtM, wgtS, cntM, cntS] at *; rw [Nat.pow_succ]; omega
theorem refined_law {d : Nat} {t : MTy} (h : VTy d t) : ∀ u ∈ refinedM t, wgtM u = wgtM t + 1 /\ precTy u t = true := by
 have hk2 : ∀ {d : Nat} {k : Int} (hk : k = 4 \/ k = 5) {a b : MTy}, (∀ u ∈ refinedM a, wgtM u = wgtM a + 1 /\ precTy u a = true) -> (∀ u ∈ refinedM b, wgtM u = wgtM b + 1 /\ precTy u b = true) ->
   ∀ u ∈ refinedM (.mk k [a, b]), wgtM u = wgtM (.mk k [a, b]) + 1 /\ precTy u (.mk k [a, b]) = true := by
  intro d k hk a b h1 h2 u hu
  have hk1 : k ≠ 1 := by omega
  rw [refined_two hk1] at hu
  simp only [List.mem_append, List.mem_map] at hu
  rcases hu with ⟨x, hx, rfl⟩ | ⟨x, hx, rfl⟩
  ·obtain ⟨g1, g2⟩ := h1 x hx
   refine ⟨by simp [wgtM, wgtS, hk1]; omega, by rw [prec_two hk1, g2, prec_refl]; rfl⟩
  ·obtain ⟨g1, g2⟩ := h2 x hx
   refine ⟨by simp [wgtM, wgtS, hk1]; omega, by rw [prec_two hk1, g2, prec_refl]; rfl⟩
 induction h with
 | any d =>
  intro u hu
  simp [refinedM] at hu
  rcases hu with rfl | rfl | rfl | rfl <;> exact ⟨by simp [wgtM, wgtS], prec_any2 _⟩
 | int d => intro u hu; simp [refinedM, refinedS] at hu
 | bool d => intro u hu; simp [refinedM, refinedS] at hu
 | fn _ _ h1 h2 => exact hk2 (d := 0) (.inl rfl) h1 h2
 | pair _ _ h1 h2 => exact hk2 (d := 0) (.inr rfl) h1 h2
theorem refTy_law {t u : MTy} (h : u ∈ refTyM t) : wgtM u = wgtM t + 1 /\ precTy u t = true := by
 have hs := (refTy_shape h).1
 rw [refTyM, if_pos hs] at h
 exact refined_law (VTy.of hs) u (List.mem_filter.1 h).1
def candM (ts : List MTy) : List (List MTy) := subsM refTyM ts
theorem subs_mem {α : Type} {f : α -> List α} : ∀ {l m : List α}, m ∈ subsM f l -> ∃ (i : Nat) (x y : α), l[i]? = some x /\ y ∈ f x /\ m = l.set i y
 | [], m, h => by simp [subsM] at h
 | x :: r, m, h => by
  simp only [subsM, List.mem_append, List.mem_map] at h
  rcases h with ⟨y, hy, rfl⟩ | ⟨m', hm, rfl⟩
  ·exact ⟨0, x, y, rfl, hy, rfl⟩
  ·obtain ⟨i, a, b, h1, h2, rfl⟩ := subs_mem hm
   exact ⟨i + 1, a, b, h1, h2, rfl⟩
def typedB (e : MTm) : Bool := (typeM [] e).isSome
def refineM (e : MTm) : List MTm := ((candM (typesM e)).map (withM e)).filter typedB
def sumW (e : MTm) : Nat := ((typesM e).map wgtM).sum

theorem types_with : ∀ (e : MTm) (ts : List MTy), ts.length = (typesM e).length -> typesM (withM e ts) = ts := by
 intro e
 induction e using MTm.ind with
 | h e ih =>
  have hS : ∀ (l : List MTm), (∀ u ∈ l, ∀ ts, ts.length = (typesM u).length -> typesM (withM u ts) = ts) -> ∀ ts, ts.length = (typesS l).length -> typesS (withS l ts) = ts := by
   intro l
   induction l with
   | nil => intro _ ts h; simp [typesS] at h; subst h; rfl
   | cons u r ihr =>
    intro h ts hl
    simp only [typesS, List.length_append] at hl
    simp only [withS, typesS]
    have h1 := h u (by simp) (ts.take (typesM u).length) (by simp; omega)
    have h2 : withM u ts = withM u (ts.take (typesM u).length) := by
     clear h1 ihr h
     -- only the first types count
     have key : ∀ (u : MTm) (ts us : List MTy), ts.take (typesM u).length = us.take (typesM u).length -> withM u ts = withM u us := by
      intro u
      induction u using MTm.ind with
      | h u ihu =>
       intro ts us htu
       have hSS : ∀ (l : List MTm), (∀ v ∈ l, ∀ ts us : List MTy, ts.take (typesM v).length = us.take (typesM v).length -> withM v ts = withM v us) -> ∀ ts us : List MTy, ts.take (typesS l).length = us.take (typesS l).length -> withS l ts = withS l us := by
        intro l
        induction l with
        | nil => intro _ _ _ _; rfl
        | cons v r ihr =>
         intro h ts us he
         simp only [typesS, List.length_append] at he
         simp only [withS]
         have e1 : ts.take (typesM v).length = us.take (typesM v).length := by
          have := congrArg (List.take (typesM v).length) he
          rwa [List.take_take, List.take_take, Nat.min_eq_left (Nat.le_add_right _ _)] at this
         have e2 : (ts.drop (typesM v).length).take (typesS r).length = (us.drop (typesM v).length).take (typesS r).length := by
          have := congrArg (List.drop (typesM v).length) he
          rw [List.drop_take, List.drop_take, Nat.add_sub_cancel_left] at this
          exact this
         rw [h v (by simp) ts us e1, ihr (fun w hw => h w (by simp [hw])) _ _ e2]
       rw [withM_def, withM_def u us]
       rw [typesM_def] at htu
       by_cases hh : hasTyM u.kind = true
       ·rw [if_pos hh] at htu
        simp only [if_pos hh]
        simp only [List.length_append, List.length_singleton] at htu
        have e1 : ts.headD u.ty = us.headD u.ty := by
         cases ts with
         | nil => cases us with
          | nil => rfl
          | cons b us => rw [Nat.add_comm] at htu; simp at htu
         | cons a ts => cases us with
          | nil => rw [Nat.add_comm] at htu; simp at htu
          | cons b us => rw [Nat.add_comm] at htu; simp at htu; simp [htu.1]
        have e2 : (ts.drop 1).take (typesS u.kids).length = (us.drop 1).take (typesS u.kids).length := by
         have := congrArg (List.drop 1) htu
         rw [List.drop_take, List.drop_take] at this
         simpa using this
        rw [e1, hSS u.kids ihu _ _ e2]
       ·rw [if_neg hh] at htu
        simp only [if_neg hh]
        rw [List.nil_append] at htu
        rw [hSS u.kids ihu _ _ htu]
     exact key u ts _ (by rw [List.take_take, Nat.min_self])
    rw [h2, h1, ihr (fun v hv => h v (by simp [hv])) (ts.drop (typesM u).length) (by simp; omega), List.take_append_drop]
  intro ts hl
  rw [withM_def, typesM_def]
  rw [typesM_def] at hl
  by_cases hh : hasTyM e.kind = true
  ·simp only [MTm.kind_mk, MTm.ty_mk, MTm.kids_mk, if_pos hh] at hl ⊢
   cases ts with
   | nil => simp at hl
   | cons t r =>
    simp at hl
    rw [List.headD_cons, List.drop_one, List.tail_cons, hS e.kids ih r (by omega)]
    rfl
  ·simp only [MTm.kind_mk, MTm.ty_mk, MTm.kids_mk, if_neg hh] at hl ⊢
   rw [List.nil_append] at hl ⊢
   exact hS e.kids ih ts hl
end Go.Av

namespace Go.Av
attribute [-simp] Go.Av.freeStepG Go.Av.exA Go.Av.innAsH Go.Av.AV.innH Go.Av.CV.innH Go.Av.innHs Go.Av.AV.outnH Go.Av.CV.outnH Go.Av.astepJ Go.Av.relC Go.Av.relL Go.Av.relV Go.Av.relVs Go.Av.callJ
open Go
def precL (ts : List MTy) (us : List MTy) : Prop := ∀ (i : Nat) b, us[i]? = some b -> ∃ a, ts[i]? = some a /\ precTy a b = true
theorem precL.app {ts us vs : List MTy} (h : precL ts (us ++ vs)) : precL ts us /\ precL (ts.drop us.length) vs := by
 refine ⟨fun i b hb => h i b ?_, fun i b hb => ?_⟩
 ·rw [List.getElem?_append_left (List.getElem?_eq_some_iff.1 hb).1]; exact hb
 ·obtain ⟨a, h1, h2⟩ := h (us.length + i) b (by rw [List.getElem?_append_right (by omega)]; simpa using hb)
  exact ⟨a, by rw [List.getElem?_drop]; exact h1, h2⟩
theorem with_prec {d : Nat} {e : MTm} (h : TmV 14 d e) : ∀ {ts : List MTy}, precL ts (typesM e) -> AlV precTy (withM e ts) e := by
 have hcons : ∀ {ts : List MTy} {t : MTy} {us : List MTy}, precL ts (t :: us) -> precTy (ts.headD t) t = true /\ precL (ts.drop 1) us := by
  intro ts t us h
  have h1 := h 0 t rfl
  refine ⟨?_, fun i b hb => ?_⟩
  ·obtain ⟨a, h2, h3⟩ := h1
   cases ts with
   | nil => simp at h2
   | cons x r => simp at h2; subst h2; exact h3
  ·obtain ⟨a, h2, h3⟩ := h (i + 1) b (by simpa using hb)
   exact ⟨a, by rw [List.getElem?_drop, Nat.add_comm]; exact h2, h3⟩
 induction h with
 | var => intro ts _; exact .var _
 | num => intro ts _; exact .num _
 | tru => intro ts _; exact .tru
 | fls => intro ts _; exact .fls
 | @lam d s t b _ _ _ _ ih =>
  intro ts hp
  simp only [typesM, typesS, hasTyM] at hp
  simp at hp
  obtain ⟨h1, h2⟩ := hcons hp
  have e1 : withM (tLam s t b) ts = tLam s (ts.headD t) (withM b (ts.drop 1)) := by simp [withM, withS, hasTyM]
  rw [e1]; exact .lam h1 (ih h2)
 | @n2 d k a b _ hk _ _ iha ihb =>
  intro ts hp
  have hty : hasTyM k = false := by rcases hk with rfl | rfl | rfl | rfl <;> rfl
  simp only [typesM, typesS, hty] at hp
  simp at hp
  obtain ⟨h1, h2⟩ := hp.app
  have e1 : withM (tN2 k a b) ts = tN2 k (withM a ts) (withM b (ts.drop (typesM a).length)) := by simp [withM, withS, hty]
  rw [e1]; exact .n2 (iha h1) (ihb h2)
 | @ite d p a b _ _ _ _ ihp iha ihb =>
  intro ts hp
  simp only [typesM, typesS, hasTyM] at hp
  simp at hp
  obtain ⟨h1, h2⟩ := hp.app
  obtain ⟨h3, h4⟩ := h2.app
  have e1 : withM (tIf p a b) ts = tIf (withM p ts) (withM a (ts.drop (typesM p).length)) (withM b ((ts.drop (typesM p).length).drop (typesM a).length)) := by simp [withM, withS, hasTyM]
  rw [e1]; exact .ite (ihp h1) (iha h3) (ihb h4)
 | @n1 d k a _ hk _ ih =>
  intro ts hp
  have hty : hasTyM k = false := by rcases hk with rfl | rfl <;> rfl
  simp only [typesM, typesS, hty] at hp
  simp at hp
  have e1 : withM (tN1 k a) ts = tN1 k (withM a ts) := by simp [withM, withS, hty]
  rw [e1]; exact .n1 (ih hp)
 | @asc d t a _ _ _ ih =>
  intro ts hp
  simp only [typesM, typesS, hasTyM] at hp
  simp at hp
  obtain ⟨h1, h2⟩ := hcons hp
  have e1 : withM (tAs a t) ts = tAs (withM a (ts.drop 1)) (ts.headD t) := by simp [withM, withS, hasTyM]
  rw [e1]; exact .asc h1 (ih h2)
 | cast h => exact absurd rfl h
theorem AlV.alike {q : MTy -> MTy -> Bool} {a b : MTm} (h : AlV q a b) : ∀ {d : Nat}, TmV 14 d a -> alikeM q a b = true := by
 induction h with
 | var _ => intro d hv; simp [alikeM, alikeS, hasTyM]
 | num _ => intro d hv; simp [alikeM, alikeS, hasTyM]
 | tru => intro d hv; simp [alikeM, alikeS, hasTyM]
 | fls => intro d hv; simp [alikeM, alikeS, hasTyM]
 | lam h1 _ ih =>
  intro d hv
  obtain ⟨d', rfl, _, _, hb⟩ := hv.inv_lam
  simp [alikeM, alikeS, hasTyM, h1, ih hb]
 | @n2 k a b a' b' _ _ iha ihb =>
  intro d hv
  obtain ⟨d', rfl, hk, ha, hb⟩ := hv.inv_n2
  have hty : hasTyM k = false := by rcases hk with rfl | rfl | rfl | rfl <;> rfl
  simp [alikeM, alikeS, iha ha, ihb hb, hty]
 | ite _ _ _ ihp iha ihb =>
  intro d hv
  obtain ⟨d', rfl, hp, ha, hb⟩ := hv.inv_if
  simp [alikeM, alikeS, hasTyM, ihp hp, iha ha, ihb hb]
 | @n1 k a a' _ ih =>
  intro d hv
  obtain ⟨d', rfl, hk, ha⟩ := hv.inv_n1
  have hty : hasTyM k = false := by rcases hk with rfl | rfl <;> rfl
  simp [alikeM, alikeS, ih ha, hty]
 | asc h1 _ ih =>
  intro d hv
  obtain ⟨d', rfl, _, ha⟩ := hv.inv_as
  simp [alikeM, alikeS, hasTyM, h1, ih ha]
theorem sum_set {l : List MTy} : ∀ {i : Nat} {x y : MTy}, l[i]? = some x -> wgtM y = wgtM x + 1 -> ((l.set i y).map wgtM).sum = (l.map wgtM).sum + 1 := by
 induction l with
 | nil => intro i x y h; simp at h
 | cons a r ih =>
  intro i x y h hw
  cases i with
  | zero => simp at h; subst h; simp; omega
  | succ i =>
   simp at h
   have := ih h hw
   rw [List.map_set] at this
   simp
   omega

theorem refine_law {e x : MTm} (hv : termValidM e = true) (hx : x ∈ refineM e) : termValidM x = true /\ (∃ u, typeM [] x = some u) /\ alikeM precTy x e = true /\ sumW x = sumW e + 1 /\ (typesM x).length = (typesM e).length := by
 simp only [refineM, List.mem_filter, List.mem_map] at hx
 obtain ⟨⟨ts, hts, rfl⟩, hty⟩ := hx
 obtain ⟨i, t, y, h1, h2, rfl⟩ := subs_mem hts
 obtain ⟨hvt, hvn⟩ := termValidM_iff.1 hv
 obtain ⟨hsh, hln⟩ := hvt.types
 have hs2 : ∀ u ∈ (typesM e).set i y, shapeTy 4 u = true := fun u hu => by
  rcases List.mem_or_eq_of_mem_set hu with hu | rfl
  ·exact hsh u hu
  ·exact (refTy_shape h2).2
 obtain ⟨h6, h7⟩ := hvt.withM hs2
 obtain ⟨hw, hp⟩ := refTy_law h2
 have htw := types_with e ((typesM e).set i y) (by simp)
 refine ⟨termValidM_iff.2 ⟨h6, by omega⟩, Option.isSome_iff_exists.1 hty, ?_, ?_, by rw [htw]; simp⟩
 ·refine (with_prec hvt (fun j b hb => ?_)).alike h6
  rw [List.getElem?_set]
  by_cases e1 : i = j
  ·subst e1
   rw [h1] at hb; cases hb
   exact ⟨y, by simp [(List.getElem?_eq_some_iff.1 h1).1], hp⟩
  ·exact ⟨b, by simp [e1, hb], prec_refl b⟩
 ·rw [sumW, htw]; exact sum_set h1 hw
theorem sumW_le {e : MTm} (hv : termValidM e = true) : sumW e <= 15 * (typesM e).length /\ (typesM e).length <= 30 := by
 obtain ⟨hvt, hvn⟩ := termValidM_iff.1 hv
 obtain ⟨hsh, hln⟩ := hvt.types
 refine ⟨?_, by omega⟩
 have : ∀ l : List MTy, (∀ u ∈ l, shapeTy 4 u = true) -> (l.map wgtM).sum <= 15 * l.length := by
  intro l
  induction l with
  | nil => intro _; simp
  | cons u r ih =>
   intro h
   have h1 := (wgt_size (VTy.of (h u (by simp)))).2
   have h2 := ih fun v hv => h v (by simp [hv])
   simp; omega
 exact this _ hsh
def migM : Nat -> MTm -> MTm
 | 0, e => e
 | n + 1, e => match refineM e with
  | [] => e
  | x :: _ => migM n x
end Go.Av

namespace Go.Av
attribute [-simp] Go.Av.freeStepG Go.Av.exA Go.Av.innAsH Go.Av.AV.innH Go.Av.CV.innH Go.Av.innHs Go.Av.AV.outnH Go.Av.CV.outnH Go.Av.astepJ Go.Av.relC Go.Av.relL Go.Av.relV Go.Av.relVs Go.Av.callJ
open Go
def groundT (k : Int) : MTy := if k = 4 \/ k = 5 then .mk k [anyT, anyT] else .mk k []
def isGroundM (t : MTy) : Bool := decide (t.kind ≠ 1) && sameTy t (groundT t.kind)
def proxyM (e : MTm) : Bool := decide (e.kind = 14) && (decide (e.fr.kind = e.ty.kind) && (decide (e.ty.kind = 4) || decide (e.ty.kind = 5)))
def injM (e : MTm) : Bool := decide (e.kind = 14) && (decide (e.ty.kind = 1) && isGroundM e.fr)
def plainM (e : MTm) : Bool := decide (e.kind = 2) || (decide (e.kind = 3) || (decide (e.kind = 4) || decide (e.kind = 5)))
mutual
def valM : MTm -> Bool
 | .mk k s n t f b l => if decide (k = 10) || (proxyM (.mk k s n t f b []) || injM (.mk k s n t f b [])) then valS l else plainM (.mk k s n t f b [])
def valS : List MTm -> Bool
 | [] => true
 | e :: r => valM e && valS r
end
def truthM (b : Bool) : MTm := if b then tTrue else tFalse
def ruleM (e : MTm) : Option MTm :=
 if e.kind = 6 then match e.kids with
  | a :: b :: _ => if a.kind = 5 then match a.kids with
    | x :: _ => some (substM a.name b x)
    | [] => none
   else none
  | _ => none
 else if e.kind = 7 \/ e.kind = 8 then match e.kids with
  | a :: b :: _ => if a.kind = 2 /\ b.kind = 2 then some (if e.kind = 7 then tNum ((a.num + b.num).tmod 1000) else truthM (decide (a.num < b.num))) else none
  | _ => none
 else if e.kind = 9 then match e.kids with
  | a :: b :: c :: _ => if a.kind = 3 then some b else if a.kind = 4 then some c else none
  | _ => none
 else if e.kind = 11 \/ e.kind = 12 then match e.kids with
  | a :: _ => if a.kind = 10 then match a.kids with
    | x :: y :: _ => some (if e.kind = 11 then x else y)
    | _ => none
   else none
  | _ => none
 else none
def wrongM (k : Int) : Int := if k = 6 then 1 else if k = 7 \/ k = 8 then 2 else if k = 9 then 3 else if k = 11 \/ k = 12 then 4 else 5
def countsM (e : MTm) : Nat := if e.kind = 9 then 1 else e.kids.length
def firstNV : List MTm -> Option Nat
 | [] => none
 | e :: r => if valM e = true then (firstNV r).map (· + 1) else some 0
mutual
def stepB : MTm -> MTm × Int × Int
 | .mk k s n t f b l => match stepBS (if k = 9 then 1 else l.length) l with
  | some (l', c, err) => (.mk k s n t f b l', c, err)
  | none => match ruleM (.mk k s n t f b l) with
   | some x => (x, 1, 0)
   | none => (zeroE, 2, wrongM k)
def stepBS : Nat -> List MTm -> Option (List MTm × Int × Int)
 | 0, _ => none
 | _, [] => none
 | n + 1, e :: r => if valM e = true then (stepBS n r).map fun p => (e :: p.1, p.2.1, p.2.2) else
   let p := stepB e
   some (p.1 :: r, p.2.1, p.2.2)
end
def bareValidM (e : MTm) : Bool := castValidM e && bareM e
def stepBareM (e : MTm) : MTm × Int × Int :=
 if bareValidM e = true then
  if valM e = true then (e, 0, 0)
  else if (stepB e).2.1 = 1 then (if bareValidM (stepB e).1 = true then ((stepB e).1, 1, 0) else (zeroE, 4, 0)) else (zeroE, (stepB e).2.1, (stepB e).2.2)
 else (zeroE, 3, 0)
def runB : Nat -> MTm -> MTm × Int × Int × Int
 | 0, e => ((stepBareM e).1, (stepBareM e).2.1, (stepBareM e).2.2, 0)
 | n + 1, e => if (stepBareM e).2.1 = 1 then ((runB n (stepBareM e).1).1, (runB n (stepBareM e).1).2.1, (runB n (stepBareM e).1).2.2.1, (runB n (stepBareM e).1).2.2.2 + 1)
   else ((stepBareM e).1, (stepBareM e).2.1, (stepBareM e).2.2, 0)
def fuelM (n : Int) : Bool := decide (0 <= n) && decide (n <= 300)
def evalBareM (e : MTm) (fuel : Int) : MTm × Int × Int :=
 if fuelM fuel = true then (if (runB fuel.toNat e).2.1 = 1 then (zeroE, 5, 0) else ((runB fuel.toNat e).1, (runB fuel.toNat e).2.1, (runB fuel.toNat e).2.2.1)) else (zeroE, 3, 0)
def bareStepsM (e : MTm) (fuel : Int) : Int := if fuelM fuel = true then (runB fuel.toNat e).2.2.2 else 0
end Go.Av

namespace Go.Av
attribute [-simp] Go.Av.freeStepG Go.Av.exA Go.Av.innAsH Go.Av.AV.innH Go.Av.CV.innH Go.Av.innHs Go.Av.AV.outnH Go.Av.CV.outnH Go.Av.astepJ Go.Av.relC Go.Av.relL Go.Av.relV Go.Av.relVs Go.Av.callJ
open Go
def subsP {α : Type} (f : α -> List α) (l : List α) (p : Nat) : List (List α) := (subsM f (l.take p)).map (· ++ l.drop p)
theorem subsP_zero {α : Type} (f : α -> List α) (l : List α) : subsP f l 0 = [] := by simp [subsP, subsM]
theorem subsP_all {α : Type} (f : α -> List α) (l : List α) : subsP f l l.length = subsM f l := by simp [subsP]
theorem subsP_succ {α : Type} (f : α -> List α) : ∀ {l : List α} {p : Nat} {u : α}, l[p]? = some u -> subsP f l (p + 1) = subsP f l p ++ (f u).map (fun y => l.set p y)
 | [], p, u, h => by simp at h
 | x :: r, 0, u, h => by
  simp at h; subst h
  simp [subsP, subsM, Function.comp_def]
 | x :: r, p + 1, u, h => by
  simp only [List.getElem?_cons_succ] at h
  have ih := subsP_succ f h
  simp only [subsP, List.take_succ_cons, List.drop_succ_cons, subsM, List.map_append, List.map_map] at ih ⊢
  have e : ∀ m : List (List α), List.map ((fun y => y ++ List.drop (p + 1) r) ∘ fun y => x :: y) m = List.map (fun y => x :: y) (List.map (fun y => y ++ List.drop (p + 1) r) m) := fun m => by simp [Function.comp_def]
  have e0 : ∀ m : List (List α), List.map ((fun y => y ++ List.drop p r) ∘ fun y => x :: y) m = List.map (fun y => x :: y) (List.map (fun y => y ++ List.drop p r) m) := fun m => by simp [Function.comp_def]
  rw [e, e0, ih, List.map_append, List.append_assoc, List.map_map]
  congr 1
  ·simp [Function.comp_def]
  ·simp [Function.comp_def, List.set_cons_succ]
theorem subsP_le {α : Type} (f : α -> List α) (l : List α) (p : Nat) (hp : p <= l.length) : (subsP f l p).length <= (subsM f l).length := by
 have : ∀ (k : Nat), p + k <= l.length -> (subsP f l p).length <= (subsP f l (p + k)).length := by
  intro k
  induction k with
  | zero => intro _; exact Nat.le_refl _
  | succ k ih =>
   intro h
   have h1 := ih (by omega)
   obtain ⟨u, hu⟩ : ∃ u, l[p + k]? = some u := ⟨_, List.getElem?_eq_getElem (by omega)⟩
   rw [show p + (k + 1) = (p + k) + 1 by omega, subsP_succ f hu, List.length_append]
   omega
 have h := this (l.length - p) (by omega)
 rw [show p + (l.length - p) = l.length by omega, subsP_all] at h
 exact h
end Go.Av
