/- A part of the library of this seat. -/
import Derived.Test.YtloolmchekcmeaaK8
import Derived.Lib.Bytealg
set_option linter.unusedVariables false
set_option linter.unusedSimpArgs false
namespace Go.Av
attribute [-simp] Go.Av.freeStepG Go.Av.exA Go.Av.innAsH Go.Av.AV.innH Go.Av.CV.innH Go.Av.innHs Go.Av.AV.outnH Go.Av.CV.outnH Go.Av.astepJ Go.Av.relC Go.Av.relL Go.Av.relV Go.Av.relVs Go.Av.callJ
open Go
mutual
def freeIn (c : UInt8) : List UInt8 -> MTm -> Bool
 | bd, .mk k s _ _ _ _ l => (decide (k = 1) && (decide (s = [c]) && !(bd.contains c))) || freeInS c (if k = 5 then bd ++ s else bd) l
def freeInS (c : UInt8) : List UInt8 -> List MTm -> Bool
 | _, [] => false
 | bd, e :: r => freeIn c bd e || freeInS c bd r
end
@[irreducible] def letters : List UInt8 := (List.range 26).map fun i => UInt8.ofNat (97 + i)
def namesM (e : MTm) : List UInt8 := letters.filter fun c => freeIn c [] e
theorem nameM_one {s : List UInt8} (h : nameM s = true) : ∃ c, s = [c] /\ 97 <= c.toNat /\ c.toNat <= 122 := by
 match s with
 | [] => simp [nameM] at h
 | [c] => simp [nameM] at h; exact ⟨c, rfl, by omega, by omega⟩
 | _ :: _ :: _ => simp [nameM] at h
abbrev rowB (S : List Bool) : List CV := S.map fun b => CV.d (.bool b)
def orF (f : UInt8 -> Bool) (S : List Bool) : List Bool := List.zipWith (fun c b => b || f c) letters S
@[irreducible] def noB : List Bool := List.replicate 26 false
def substTermM (e : MTm) (x : List UInt8) (v : MTm) : Option MTm :=
 if (termValidM e && (termValidM v && (nameM x && (decide (namesM v = []) && termValidM (substM x v e))))) = true then some (substM x v e) else none
end Go.Av

namespace Go.Av
attribute [-simp] Go.Av.freeStepG Go.Av.exA Go.Av.innAsH Go.Av.AV.innH Go.Av.CV.innH Go.Av.innHs Go.Av.AV.outnH Go.Av.CV.outnH Go.Av.astepJ Go.Av.relC Go.Av.relL Go.Av.relV Go.Av.relVs Go.Av.callJ
open Go
mutual
def cntM : MTy -> Nat
 | .mk k l => if k = 1 then 1 else cntS l
def cntS : List MTy -> Nat
 | [] => 0
 | t :: r => cntM t + cntS r
end
theorem cnt_two {k : Int} (hk : k ≠ 1) (a b : MTy) : cntM (.mk k [a, b]) = cntM a + cntM b := by simp [cntM, cntS, hk]
theorem cons_static : ∀ {d : Nat} {a : MTy}, VTy d a -> ∀ {n : Nat} {b : MTy}, VTy n b -> cntM a = 0 -> cntM b = 0 -> consTy a b = true -> a = b := by
 intro d a ha
 induction ha with
 | any d => intro n b hb h; simp [cntM] at h
 | int d => intro n b hb h h2 hc; cases hb <;> simp [consTy, consTyS, cntM] at hc h2 ⊢
 | bool d => intro n b hb h h2 hc; cases hb <;> simp [consTy, consTyS, cntM] at hc h2 ⊢
 | @fn d x y _ _ ih1 ih2 =>
  intro n b hb h h2 hc
  cases hb with
  | any => simp [cntM] at h2
  | int => simp [consTy, consTyS] at hc
  | bool => simp [consTy, consTyS] at hc
  | fn g1 g2 =>
   rw [cnt_two (by omega)] at h h2
   rw [cons_two (by omega)] at hc
   simp at hc
   rw [ih1 g1 (by omega) (by omega) hc.1, ih2 g2 (by omega) (by omega) hc.2]
  | pair => simp [consTy, consTyS] at hc
 | @pair d x y _ _ ih1 ih2 =>
  intro n b hb h h2 hc
  cases hb with
  | any => simp [cntM] at h2
  | int => simp [consTy, consTyS] at hc
  | bool => simp [consTy, consTyS] at hc
  | fn => simp [consTy, consTyS] at hc
  | pair g1 g2 =>
   rw [cnt_two (by omega)] at h h2
   rw [cons_two (by omega)] at hc
   simp at hc
   rw [ih1 g1 (by omega) (by omega) hc.1, ih2 g2 (by omega) (by omega) hc.2]
theorem match_static {k : Int} (hk : k = 4 \/ k = 5) {a x y : MTy} (h : matchM k a = some (x, y)) (ha : shapeTy 4 a = true) (hs : cntM a = 0) : a = .mk k [x, y] /\ cntM x = 0 /\ cntM y = 0 := by
 have hk1 : k ≠ 1 := by omega
 cases VTy.of ha with
 | any d => simp [cntM] at hs
 | int d => exfalso; rcases hk with rfl | rfl <;> simp [matchM] at h
 | bool d => exfalso; rcases hk with rfl | rfl <;> simp [matchM] at h
 | @fn d p q _ _ =>
  rcases hk with rfl | rfl
  ·simp [matchM] at h; obtain ⟨rfl, rfl⟩ := h; rw [cnt_two (by omega)] at hs; exact ⟨rfl, by omega, by omega⟩
  ·simp [matchM] at h
 | @pair d p q _ _ =>
  rcases hk with rfl | rfl
  ·simp [matchM] at h
  ·simp [matchM] at h; obtain ⟨rfl, rfl⟩ := h; rw [cnt_two (by omega)] at hs; exact ⟨rfl, by omega, by omega⟩

def staCtx (c : List MBd) : Prop := ∀ b ∈ c, cntM b.ty = 0
theorem staCtx.app {c : List MBd} (h : staCtx c) {s : List UInt8} {t : MTy} (ht : cntM t = 0) : staCtx (c ++ [⟨s, t⟩]) := by
 intro b hb
 rcases List.mem_append.1 hb with h' | h'
 ·exact h b h'
 ·simp at h'; subst h'; exact ht

mutual
def castsM : MTm -> List MTm
 | .mk k s n t f b l => (if k = 14 then [.mk k s n t f b l] else []) ++ castsS l
def castsS : List MTm -> List MTm
 | [] => []
 | e :: r => castsM e ++ castsS r
end
theorem CaV.static {n m : Int} {e e2 : MTm} {f t : MTy} (h : CaV n e f t e2 m) (hft : f = t) : e2 = e /\ m = n := by
 cases h with
 | same _ => exact ⟨rfl, rfl⟩
 | cast h => exact absurd hft h

theorem EV.static {c : List MBd} {e e' : MTm} {n m : Int} {t : MTy} (h : EV c e n e' t m) : ∀ {d : Nat}, okCtx c -> TmV 14 d e -> staCtx c -> (∀ u ∈ typesM e, cntM u = 0) -> cntM t = 0 /\ castsM e' = [] /\ shapeTy 4 t = true := by
 induction h with
 | @var c s t n hl =>
  intro d hc hv hs ht
  obtain ⟨b, h1, h2, _⟩ := look_mem hl
  exact ⟨by rw [<- h2]; exact hs b h1, by simp [castsM, castsS], by rw [<- h2]; exact hc b h1⟩
 | num => intro d hc hv hs ht; exact ⟨rfl, by simp [castsM, castsS], rfl⟩
 | tru => intro d hc hv hs ht; exact ⟨rfl, by simp [castsM, castsS], rfl⟩
 | fls => intro d hc hv hs ht; exact ⟨rfl, by simp [castsM, castsS], rfl⟩
 | @lam c s u t b b' n m _ hsh ih =>
  intro d hc hv hs ht
  obtain ⟨d', rfl, hn, hu, hb⟩ := hv.inv_lam
  simp [typesM, typesS, hasTyM] at ht
  obtain ⟨i1, i2, i3⟩ := ih (hc.app hu) hb (hs.app ht.1) ht.2
  exact ⟨by rw [cnt_two (by omega)]; omega, by simp [castsM, castsS, i2], hsh⟩
 | @app c a b a' b' a2 b2 ta tb x y n n1 n2 n3 n4 _ _ hm hq h1 h2 iha ihb =>
  intro d hc hv hs ht
  obtain ⟨d', rfl, _, ha, hb⟩ := hv.inv_n2
  simp [typesM, typesS, hasTyM] at ht
  obtain ⟨i1, i2, i3⟩ := iha hc ha hs (fun u hu => ht u (.inl hu))
  obtain ⟨j1, j2, j3⟩ := ihb hc hb hs (fun u hu => ht u (.inr hu))
  obtain ⟨m1, m2, m3⟩ := match_static (.inl rfl) hm i3 i1
  obtain ⟨s1, s2⟩ := match_shape hm i3
  obtain ⟨rfl, _⟩ := h1.static m1
  obtain ⟨rfl, _⟩ := h2.static (cons_static (VTy.of j3) (VTy.of s1) j1 m2 hq)
  exact ⟨m3, by simp [castsM, castsS, i2, j2], s2⟩
 | @op c k a b a' b' a2 b2 ta tb t n n1 n2 n3 n4 hk _ _ q1 q2 h1 h2 iha ihb =>
  intro d hc hv hs ht
  obtain ⟨d', rfl, _, ha, hb⟩ := hv.inv_n2
  have hty : hasTyM k = false := by rcases hk with ⟨rfl, _⟩ | ⟨rfl, _⟩ <;> rfl
  simp [typesM, typesS, hty] at ht
  obtain ⟨i1, i2, i3⟩ := iha hc ha hs (fun u hu => ht u (.inl hu))
  obtain ⟨j1, j2, j3⟩ := ihb hc hb hs (fun u hu => ht u (.inr hu))
  obtain ⟨rfl, _⟩ := h1.static (cons_static (VTy.of i3) (VTy.int 0) i1 rfl q1)
  obtain ⟨rfl, _⟩ := h2.static (cons_static (VTy.of j3) (VTy.int 0) j1 rfl q2)
  rcases hk with ⟨rfl, rfl⟩ | ⟨rfl, rfl⟩
  ·exact ⟨rfl, by simp [castsM, castsS, i2, j2], rfl⟩
  ·exact ⟨rfl, by simp [castsM, castsS, i2, j2], rfl⟩
 | @ite c p a b p' a' b' p2 a2 b2 tp ta tb n n1 n2 n3 n4 n5 n6 _ _ _ q1 q2 h1 h2 h3 ihp iha ihb =>
  intro d hc hv hs ht
  obtain ⟨d', rfl, hp, ha, hb⟩ := hv.inv_if
  simp [typesM, typesS, hasTyM] at ht
  obtain ⟨o1, o2, o3⟩ := ihp hc hp hs (fun u hu => ht u (.inl hu))
  obtain ⟨i1, i2, i3⟩ := iha hc ha hs (fun u hu => ht u (.inr (.inl hu)))
  obtain ⟨j1, j2, j3⟩ := ihb hc hb hs (fun u hu => ht u (.inr (.inr hu)))
  have e1 := cons_static (VTy.of i3) (VTy.of j3) i1 j1 q2
  subst e1
  rw [meet_self (VTy.of i3)] at h2 h3 ⊢
  obtain ⟨rfl, _⟩ := h1.static (cons_static (VTy.of o3) (VTy.bool 0) o1 rfl q1)
  obtain ⟨rfl, _⟩ := h2.static rfl
  obtain ⟨rfl, _⟩ := h3.static rfl
  exact ⟨i1, by simp [castsM, castsS, o2, i2, j2], i3⟩
 | @pair c a b a' b' ta tb n n1 n2 _ _ hsh iha ihb =>
  intro d hc hv hs ht
  obtain ⟨d', rfl, _, ha, hb⟩ := hv.inv_n2
  simp [typesM, typesS, hasTyM] at ht
  obtain ⟨i1, i2, i3⟩ := iha hc ha hs (fun u hu => ht u (.inl hu))
  obtain ⟨j1, j2, j3⟩ := ihb hc hb hs (fun u hu => ht u (.inr hu))
  exact ⟨by rw [cnt_two (by omega)]; omega, by simp [castsM, castsS, i2, j2], hsh⟩
 | @sel c k a a' a2 ta x y t n n1 n2 hk _ hm h1 ih =>
  intro d hc hv hs ht
  obtain ⟨d', rfl, _, ha⟩ := hv.inv_n1
  have hty : hasTyM k = false := by rcases hk with ⟨rfl, _⟩ | ⟨rfl, _⟩ <;> rfl
  simp [typesM, typesS, hty] at ht
  obtain ⟨i1, i2, i3⟩ := ih hc ha hs ht
  obtain ⟨m1, m2, m3⟩ := match_static (.inr rfl) hm i3 i1
  obtain ⟨s1, s2⟩ := match_shape hm i3
  obtain ⟨rfl, _⟩ := h1.static m1
  rcases hk with ⟨rfl, rfl⟩ | ⟨rfl, rfl⟩
  ·exact ⟨m2, by simp [castsM, castsS, i2], s1⟩
  ·exact ⟨m3, by simp [castsM, castsS, i2], s2⟩
 | @asc c a a' a2 ta t n n1 n2 _ q h1 ih =>
  intro d hc hv hs ht
  obtain ⟨d', rfl, hty, ha⟩ := hv.inv_as
  simp [typesM, typesS, hasTyM] at ht
  obtain ⟨i1, i2, i3⟩ := ih hc ha hs ht.2
  obtain ⟨rfl, _⟩ := h1.static (cons_static (VTy.of i3) (VTy.of hty) i1 ht.1 q)
  exact ⟨ht.1, i2, hty⟩
def staticM (e : MTm) : Bool := termValidM e && !((typesM e).any fun t => decide (0 < cntM t))
end Go.Av

namespace Go.Av
attribute [-simp] Go.Av.freeStepG Go.Av.exA Go.Av.innAsH Go.Av.AV.innH Go.Av.CV.innH Go.Av.innHs Go.Av.AV.outnH Go.Av.CV.outnH Go.Av.astepJ Go.Av.relC Go.Av.relL Go.Av.relV Go.Av.relVs Go.Av.callJ
open Go
def eraseG (e : MTm) : MTm := if hasTyM e.kind = true then .mk e.kind e.name e.num anyT e.fr e.label e.kids else e
abbrev asAnyM (e : MTm) : MTm := tAs e anyT
def embG (e : MTm) : MTm :=
 if e.kind = 13 then match e.kids with
  | x :: _ => x
  | [] => e
 else if e.kind = 1 \/ e.kind = 6 \/ e.kind = 9 \/ e.kind = 11 \/ e.kind = 12 then e
 else if e.kind = 5 then asAnyM (.mk 5 e.name e.num anyT e.fr e.label e.kids) else asAnyM e
def embM (e : MTm) : MTm := mapM embG e
def anyCtx (c : List MBd) : Prop := ∀ b ∈ c, b.ty = anyT /\ ∃ z, b.name = [z]
def domM (c : List MBd) : List UInt8 := c.flatMap (·.name)
theorem anyCtx.app {c : List MBd} (h : anyCtx c) {s : List UInt8} (hs : nameM s = true) : anyCtx (c ++ [⟨s, anyT⟩]) := by
 intro b hb
 rcases List.mem_append.1 hb with h' | h'
 ·exact h b h'
 ·simp at h'; subst h'; obtain ⟨z, hz, _⟩ := nameM_one hs; exact ⟨rfl, z, hz⟩
theorem anyCtx.look {c : List MBd} (h : anyCtx c) (z : UInt8) : lookM c [z] = if (domM c).contains z = true then some anyT else none := by
 induction c with
 | nil => simp [lookM, domM]
 | cons b r ih =>
  obtain ⟨h1, y, h2⟩ := h b (by simp)
  have ih := ih fun b' hb' => h b' (by simp [hb'])
  rw [lookM, ih]
  have hd : domM (b :: r) = y :: domM r := by simp [domM, h2]
  rw [hd]
  by_cases hz : (domM r).contains z = true
  ·simp only [hz, if_true]; simp at hz; simp [hz]
  ·simp only [hz, if_false, h2, h1]
   simp at hz
   by_cases e : y = z
   ·subst e; simp
   ·simp [e, hz, Ne.symm e]

end Go.Av

namespace Go.Av
attribute [-simp] Go.Av.freeStepG Go.Av.exA Go.Av.innAsH Go.Av.AV.innH Go.Av.CV.innH Go.Av.innHs Go.Av.AV.outnH Go.Av.CV.outnH Go.Av.astepJ Go.Av.relC Go.Av.relL Go.Av.relV Go.Av.relVs Go.Av.callJ
open Go
def simpG (e : MTm) : MTm :=
 if e.kind = 14 then match e.kids with
  | a :: _ => if sameTy e.fr e.ty = true then a else if e.fr.kind = 1 /\ a.kind = 14 /\ a.ty.kind = 1 /\ sameTy e.ty a.fr = true then (match a.kids with
    | x :: _ => x
    | [] => e) else e
  | [] => e
 else e
def simpM (e : MTm) : MTm := mapM simpG e
abbrev trip (e : MTm) : MTy × MTy × Int := (e.fr, e.ty, e.label)
end Go.Av

namespace Go.Av
attribute [-simp] Go.Av.freeStepG Go.Av.exA Go.Av.innAsH Go.Av.AV.innH Go.Av.CV.innH Go.Av.innHs Go.Av.AV.outnH Go.Av.CV.outnH Go.Av.astepJ Go.Av.relC Go.Av.relL Go.Av.relV Go.Av.relVs Go.Av.callJ
open Go
abbrev gFun : MTy := .mk 4 [anyT, anyT]
abbrev gPair : MTy := .mk 5 [anyT, anyT]
def subsM {α : Type} (f : α -> List α) : List α -> List (List α)
 | [] => []
 | x :: r => (f x).map (· :: r) ++ (subsM f r).map (x :: ·)
mutual
def refinedM : MTy -> List MTy
 | .mk k l => if k = 1 then [intT, boolT, gFun, gPair] else (refinedS l).map (MTy.mk k)
def refinedS : List MTy -> List (List MTy)
 | [] => []
 | t :: r => (refinedM t).map (· :: r) ++ (refinedS r).map (t :: ·)
end
mutual
def stepsM : Nat -> MTy -> List MTy
 | d, .mk k l => if k = 1 then intT :: boolT :: (if 1 < d then [gFun, gPair] else []) else (stepsS (d - 1) l).map (MTy.mk k)
def stepsS : Nat -> List MTy -> List (List MTy)
 | _, [] => []
 | d, t :: r => (stepsM d t).map (· :: r) ++ (stepsS d r).map (t :: ·)
end
def refTyM (t : MTy) : List MTy := if shapeTy 4 t = true then (refinedM t).filter (shapeTy 4) else []
mutual
def sizeTy : MTy -> Nat
 | .mk _ l => 1 + sizeTyS l
def sizeTyS : List MTy -> Nat
 | [] => 0
 | t :: r => sizeTy t + sizeTyS r
end
mutual
def wgtM : MTy -> Nat
 | .mk k l => if k = 1 then 0 else 1 + wgtS l
def wgtS : List MTy -> Nat
 | [] => 0
 | t :: r => wgtM t + wgtS r
end
def candM (ts : List MTy) : List (List MTy) := subsM refTyM ts
def typedB (e : MTm) : Bool := (typeM [] e).isSome
def refineM (e : MTm) : List MTm := ((candM (typesM e)).map (withM e)).filter typedB
def sumW (e : MTm) : Nat := ((typesM e).map wgtM).sum

end Go.Av
