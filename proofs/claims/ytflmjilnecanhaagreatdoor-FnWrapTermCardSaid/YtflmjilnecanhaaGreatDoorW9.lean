/- A part of the library of this seat. -/
import Derived.Test.YtflmjilnecanhaaGreatDoorW8
import Derived.Lib.Bytealg
set_option linter.unusedVariables false
set_option linter.unusedSimpArgs false
namespace Go.Av
attribute [-simp] Go.Av.freeStepG Go.Av.exA Go.Av.innAsH Go.Av.AV.innH Go.Av.CV.innH Go.Av.innHs Go.Av.AV.outnH Go.Av.CV.outnH
open Go
mutual
def freeIn (c : UInt8) : List UInt8 -> MTm -> Bool
 | bd, .mk k s _ _ _ _ l => (decide (k = 1) && (decide (s = [c]) && !(bd.contains c))) || freeInS c (if k = 5 then bd ++ s else bd) l
def freeInS (c : UInt8) : List UInt8 -> List MTm -> Bool
 | _, [] => false
 | bd, e :: r => freeIn c bd e || freeInS c bd r
end
@[irreducible] def letters : List UInt8 := (List.range 26).map fun i => UInt8.ofNat (97 + i)
def namesM (e : MTm) : List UInt8 := letters.filter fun c => freeIn c [] e
theorem nameM_one {s : List UInt8} (h : nameM s = true) : ∃ c, s = [c] /\ 97 <= c.toNat /\ c.toNat <= 122 := by
 match s with
 | [] => simp [nameM] at h
 | [c] => simp [nameM] at h; exact ⟨c, rfl, by omega, by omega⟩
 | _ :: _ :: _ => simp [nameM] at h
abbrev rowB (S : List Bool) : List CV := S.map fun b => CV.d (.bool b)
def orF (f : UInt8 -> Bool) (S : List Bool) : List Bool := List.zipWith (fun c b => b || f c) letters S
theorem letters_get {i : Nat} (h : i < 26) : letters[i]? = some (UInt8.ofNat (97 + i)) := by unfold letters; simp [h]
@[irreducible] def noB : List Bool := List.replicate 26 false
theorem nodesS_cons (e : MTm) (r : List MTm) : nodesS (e :: r) = nodesM e + nodesS r := rfl
theorem substM_size (x : List UInt8) (v : MTm) : ∀ (e : MTm), nTm (substM x v e) <= nTm e + nodesM e * nTm v := by
 intro e
 induction e using MTm.ind with
 | h e ih =>
  have hs : ∀ l : List MTm, (∀ u ∈ l, nTm (substM x v u) <= nTm u + nodesM u * nTm v) -> nTmS (l.map (substM x v)) <= nTmS l + nodesS l * nTm v := by
   intro l
   induction l with
   | nil => intro _; simp [nTmS]
   | cons u r ihr =>
    intro h
    have h1 := h u (by simp)
    have h2 := ihr fun w hw => h w (by simp [hw])
    simp only [List.map_cons, nTmS, nodesS_cons, Nat.add_mul]
    omega
  have h1 := hs e.kids ih
  have h3 : nodesM e = 1 + nodesS e.kids := by cases e; rfl
  have h4 : nodesM e * nTm v = nTm v + nodesS e.kids * nTm v := by rw [h3, Nat.add_mul, Nat.one_mul]
  rw [substM_def]
  split
  ·omega
  ·split
   ·omega
   ·rw [nTm_def e, nTm_mk]; omega

theorem closed_names {e : MTm} (h : ∀ z, freeIn z [] e = false) : namesM e = [] := by
 simp only [namesM, List.filter_eq_nil_iff]
 intro z _; simp [h z]
def substTermM (e : MTm) (x : List UInt8) (v : MTm) : Option MTm :=
 if (termValidM e && (termValidM v && (nameM x && (decide (namesM v = []) && termValidM (substM x v e))))) = true then some (substM x v e) else none
end Go.Av

namespace Go.Av
attribute [-simp] Go.Av.freeStepG Go.Av.exA Go.Av.innAsH Go.Av.AV.innH Go.Av.CV.innH Go.Av.innHs Go.Av.AV.outnH Go.Av.CV.outnH
open Go
mutual
def cntM : MTy -> Nat
 | .mk k l => if k = 1 then 1 else cntS l
def cntS : List MTy -> Nat
 | [] => 0
 | t :: r => cntM t + cntS r
end
theorem cnt_two {k : Int} (hk : k ≠ 1) (a b : MTy) : cntM (.mk k [a, b]) = cntM a + cntM b := by simp [cntM, cntS, hk]
theorem cons_static : ∀ {d : Nat} {a : MTy}, VTy d a -> ∀ {n : Nat} {b : MTy}, VTy n b -> cntM a = 0 -> cntM b = 0 -> consTy a b = true -> a = b := by
 intro d a ha
 induction ha with
 | any d => intro n b hb h; simp [cntM] at h
 | int d => intro n b hb h h2 hc; cases hb <;> simp [consTy, consTyS, cntM] at hc h2 ⊢
 | bool d => intro n b hb h h2 hc; cases hb <;> simp [consTy, consTyS, cntM] at hc h2 ⊢
 | @fn d x y _ _ ih1 ih2 =>
  intro n b hb h h2 hc
  cases hb with
  | any => simp [cntM] at h2
  | int => simp [consTy, consTyS] at hc
  | bool => simp [consTy, consTyS] at hc
  | fn g1 g2 =>
   rw [cnt_two (by omega)] at h h2
   rw [cons_two (by omega)] at hc
   simp at hc
   rw [ih1 g1 (by omega) (by omega) hc.1, ih2 g2 (by omega) (by omega) hc.2]
  | pair => simp [consTy, consTyS] at hc
 | @pair d x y _ _ ih1 ih2 =>
  intro n b hb h h2 hc
  cases hb with
  | any => simp [cntM] at h2
  | int => simp [consTy, consTyS] at hc
  | bool => simp [consTy, consTyS] at hc
  | fn => simp [consTy, consTyS] at hc
  | pair g1 g2 =>
   rw [cnt_two (by omega)] at h h2
   rw [cons_two (by omega)] at hc
   simp at hc
   rw [ih1 g1 (by omega) (by omega) hc.1, ih2 g2 (by omega) (by omega) hc.2]
theorem match_static {k : Int} (hk : k = 4 \/ k = 5) {a x y : MTy} (h : matchM k a = some (x, y)) (ha : shapeTy 4 a = true) (hs : cntM a = 0) : a = .mk k [x, y] /\ cntM x = 0 /\ cntM y = 0 := by
 have hk1 : k ≠ 1 := by omega
 cases VTy.of ha with
 | any d => simp [cntM] at hs
 | int d => exfalso; rcases hk with rfl | rfl <;> simp [matchM] at h
 | bool d => exfalso; rcases hk with rfl | rfl <;> simp [matchM] at h
 | @fn d p q _ _ =>
  rcases hk with rfl | rfl
  ·simp [matchM] at h; obtain ⟨rfl, rfl⟩ := h; rw [cnt_two (by omega)] at hs; exact ⟨rfl, by omega, by omega⟩
  ·simp [matchM] at h
 | @pair d p q _ _ =>
  rcases hk with rfl | rfl
  ·simp [matchM] at h
  ·simp [matchM] at h; obtain ⟨rfl, rfl⟩ := h; rw [cnt_two (by omega)] at hs; exact ⟨rfl, by omega, by omega⟩

def staCtx (c : List MBd) : Prop := ∀ b ∈ c, cntM b.ty = 0
theorem staCtx.app {c : List MBd} (h : staCtx c) {s : List UInt8} {t : MTy} (ht : cntM t = 0) : staCtx (c ++ [⟨s, t⟩]) := by
 intro b hb
 rcases List.mem_append.1 hb with h' | h'
 ·exact h b h'
 ·simp at h'; subst h'; exact ht

mutual
def castsM : MTm -> List MTm
 | .mk k s n t f b l => (if k = 14 then [.mk k s n t f b l] else []) ++ castsS l
def castsS : List MTm -> List MTm
 | [] => []
 | e :: r => castsM e ++ castsS r
end
theorem CaV.static {n m : Int} {e e2 : MTm} {f t : MTy} (h : CaV n e f t e2 m) (hft : f = t) : e2 = e /\ m = n := by
 cases h with
 | same _ => exact ⟨rfl, rfl⟩
 | cast h => exact absurd hft h

theorem EV.static {c : List MBd} {e e' : MTm} {n m : Int} {t : MTy} (h : EV c e n e' t m) : ∀ {d : Nat}, okCtx c -> TmV 14 d e -> staCtx c -> (∀ u ∈ typesM e, cntM u = 0) -> cntM t = 0 /\ castsM e' = [] /\ shapeTy 4 t = true := by
 induction h with
 | @var c s t n hl =>
  intro d hc hv hs ht
  obtain ⟨b, h1, h2, _⟩ := look_mem hl
  exact ⟨by rw [<- h2]; exact hs b h1, by simp [castsM, castsS], by rw [<- h2]; exact hc b h1⟩
 | num => intro d hc hv hs ht; exact ⟨rfl, by simp [castsM, castsS], rfl⟩
 | tru => intro d hc hv hs ht; exact ⟨rfl, by simp [castsM, castsS], rfl⟩
 | fls => intro d hc hv hs ht; exact ⟨rfl, by simp [castsM, castsS], rfl⟩
 | @lam c s u t b b' n m _ hsh ih =>
  intro d hc hv hs ht
  obtain ⟨d', rfl, hn, hu, hb⟩ := hv.inv_lam
  simp [typesM, typesS, hasTyM] at ht
  obtain ⟨i1, i2, i3⟩ := ih (hc.app hu) hb (hs.app ht.1) ht.2
  exact ⟨by rw [cnt_two (by omega)]; omega, by simp [castsM, castsS, i2], hsh⟩
 | @app c a b a' b' a2 b2 ta tb x y n n1 n2 n3 n4 _ _ hm hq h1 h2 iha ihb =>
  intro d hc hv hs ht
  obtain ⟨d', rfl, _, ha, hb⟩ := hv.inv_n2
  simp [typesM, typesS, hasTyM] at ht
  obtain ⟨i1, i2, i3⟩ := iha hc ha hs (fun u hu => ht u (.inl hu))
  obtain ⟨j1, j2, j3⟩ := ihb hc hb hs (fun u hu => ht u (.inr hu))
  obtain ⟨m1, m2, m3⟩ := match_static (.inl rfl) hm i3 i1
  obtain ⟨s1, s2⟩ := match_shape hm i3
  obtain ⟨rfl, _⟩ := h1.static m1
  obtain ⟨rfl, _⟩ := h2.static (cons_static (VTy.of j3) (VTy.of s1) j1 m2 hq)
  exact ⟨m3, by simp [castsM, castsS, i2, j2], s2⟩
 | @op c k a b a' b' a2 b2 ta tb t n n1 n2 n3 n4 hk _ _ q1 q2 h1 h2 iha ihb =>
  intro d hc hv hs ht
  obtain ⟨d', rfl, _, ha, hb⟩ := hv.inv_n2
  have hty : hasTyM k = false := by rcases hk with ⟨rfl, _⟩ | ⟨rfl, _⟩ <;> rfl
  simp [typesM, typesS, hty] at ht
  obtain ⟨i1, i2, i3⟩ := iha hc ha hs (fun u hu => ht u (.inl hu))
  obtain ⟨j1, j2, j3⟩ := ihb hc hb hs (fun u hu => ht u (.inr hu))
  obtain ⟨rfl, _⟩ := h1.static (cons_static (VTy.of i3) (VTy.int 0) i1 rfl q1)
  obtain ⟨rfl, _⟩ := h2.static (cons_static (VTy.of j3) (VTy.int 0) j1 rfl q2)
  rcases hk with ⟨rfl, rfl⟩ | ⟨rfl, rfl⟩
  ·exact ⟨rfl, by simp [castsM, castsS, i2, j2], rfl⟩
  ·exact ⟨rfl, by simp [castsM, castsS, i2, j2], rfl⟩
 | @ite c p a b p' a' b' p2 a2 b2 tp ta tb n n1 n2 n3 n4 n5 n6 _ _ _ q1 q2 h1 h2 h3 ihp iha ihb =>
  intro d hc hv hs ht
  obtain ⟨d', rfl, hp, ha, hb⟩ := hv.inv_if
  simp [typesM, typesS, hasTyM] at ht
  obtain ⟨o1, o2, o3⟩ := ihp hc hp hs (fun u hu => ht u (.inl hu))
  obtain ⟨i1, i2, i3⟩ := iha hc ha hs (fun u hu => ht u (.inr (.inl hu)))
  obtain ⟨j1, j2, j3⟩ := ihb hc hb hs (fun u hu => ht u (.inr (.inr hu)))
  have e1 := cons_static (VTy.of i3) (VTy.of j3) i1 j1 q2
  subst e1
  rw [meet_self (VTy.of i3)] at h2 h3 ⊢
  obtain ⟨rfl, _⟩ := h1.static (cons_static (VTy.of o3) (VTy.bool 0) o1 rfl q1)
  obtain ⟨rfl, _⟩ := h2.static rfl
  obtain ⟨rfl, _⟩ := h3.static rfl
  exact ⟨i1, by simp [castsM, castsS, o2, i2, j2], i3⟩
 | @pair c a b a' b' ta tb n n1 n2 _ _ hsh iha ihb =>
  intro d hc hv hs ht
  obtain ⟨d', rfl, _, ha, hb⟩ := hv.inv_n2
  simp [typesM, typesS, hasTyM] at ht
  obtain ⟨i1, i2, i3⟩ := iha hc ha hs (fun u hu => ht u (.inl hu))
  obtain ⟨j1, j2, j3⟩ := ihb hc hb hs (fun u hu => ht u (.inr hu))
  exact ⟨by rw [cnt_two (by omega)]; omega, by simp [castsM, castsS, i2, j2], hsh⟩
 | @sel c k a a' a2 ta x y t n n1 n2 hk _ hm h1 ih =>
  intro d hc hv hs ht
  obtain ⟨d', rfl, _, ha⟩ := hv.inv_n1
  have hty : hasTyM k = false := by rcases hk with ⟨rfl, _⟩ | ⟨rfl, _⟩ <;> rfl
  simp [typesM, typesS, hty] at ht
  obtain ⟨i1, i2, i3⟩ := ih hc ha hs ht
  obtain ⟨m1, m2, m3⟩ := match_static (.inr rfl) hm i3 i1
  obtain ⟨s1, s2⟩ := match_shape hm i3
  obtain ⟨rfl, _⟩ := h1.static m1
  rcases hk with ⟨rfl, rfl⟩ | ⟨rfl, rfl⟩
  ·exact ⟨m2, by simp [castsM, castsS, i2], s1⟩
  ·exact ⟨m3, by simp [castsM, castsS, i2], s2⟩
 | @asc c a a' a2 ta t n n1 n2 _ q h1 ih =>
  intro d hc hv hs ht
  obtain ⟨d', rfl, hty, ha⟩ := hv.inv_as
  simp [typesM, typesS, hasTyM] at ht
  obtain ⟨i1, i2, i3⟩ := ih hc ha hs ht.2
  obtain ⟨rfl, _⟩ := h1.static (cons_static (VTy.of i3) (VTy.of hty) i1 ht.1 q)
  exact ⟨ht.1, i2, hty⟩
def staticM (e : MTm) : Bool := termValidM e && !((typesM e).any fun t => decide (0 < cntM t))
end Go.Av

namespace Go.Av
attribute [-simp] Go.Av.freeStepG Go.Av.exA Go.Av.innAsH Go.Av.AV.innH Go.Av.CV.innH Go.Av.innHs Go.Av.AV.outnH Go.Av.CV.outnH
open Go
def eraseG (e : MTm) : MTm := if hasTyM e.kind = true then .mk e.kind e.name e.num anyT e.fr e.label e.kids else e
abbrev asAnyM (e : MTm) : MTm := tAs e anyT
def embG (e : MTm) : MTm :=
 if e.kind = 13 then match e.kids with
  | x :: _ => x
  | [] => e
 else if e.kind = 1 \/ e.kind = 6 \/ e.kind = 9 \/ e.kind = 11 \/ e.kind = 12 then e
 else if e.kind = 5 then asAnyM (.mk 5 e.name e.num anyT e.fr e.label e.kids) else asAnyM e
def embM (e : MTm) : MTm := mapM embG e
theorem emb_var (s : List UInt8) : embM (tVar s) = tVar s := by simp [embM, mapM, mapS, embG]
theorem emb_num (n : Int) : embM (tNum n) = asAnyM (tNum n) := by simp [embM, mapM, mapS, embG]
theorem emb_tru : embM tTrue = asAnyM tTrue := by simp [embM, mapM, mapS, embG]
theorem emb_fls : embM tFalse = asAnyM tFalse := by simp [embM, mapM, mapS, embG]
theorem emb_lam (s : List UInt8) (t : MTy) (b : MTm) : embM (tLam s t b) = asAnyM (tLam s anyT (embM b)) := by simp [embM, mapM, mapS, embG]
theorem emb_app (a b : MTm) : embM (tN2 6 a b) = tN2 6 (embM a) (embM b) := by simp [embM, mapM, mapS, embG]
theorem emb_op {k : Int} (hk : k = 7 \/ k = 8 \/ k = 10) (a b : MTm) : embM (tN2 k a b) = asAnyM (tN2 k (embM a) (embM b)) := by rcases hk with rfl | rfl | rfl <;> simp [embM, mapM, mapS, embG]
theorem emb_if (p a b : MTm) : embM (tIf p a b) = tIf (embM p) (embM a) (embM b) := by simp [embM, mapM, mapS, embG]
theorem emb_n1 {k : Int} (hk : k = 11 \/ k = 12) (a : MTm) : embM (tN1 k a) = tN1 k (embM a) := by rcases hk with rfl | rfl <;> simp [embM, mapM, mapS, embG]
theorem emb_as (a : MTm) (t : MTy) : embM (tAs a t) = embM a := by simp [embM, mapM, mapS, embG]

theorem emb_bare {d : Nat} {e : MTm} (h : TmV 14 d e) : mapM bareG (embM e) = mapM bareG e /\ ∀ z bd, freeIn z bd (embM e) = freeIn z bd e := by
 induction h with
 | var _ _ => rw [emb_var]; exact ⟨rfl, fun _ _ => rfl⟩
 | num _ _ _ => rw [emb_num]; exact ⟨by simp [mapM, mapS, bareG], fun z bd => by simp [freeIn, freeInS]⟩
 | tru _ => rw [emb_tru]; exact ⟨by simp [mapM, mapS, bareG], fun z bd => by simp [freeIn, freeInS]⟩
 | fls _ => rw [emb_fls]; exact ⟨by simp [mapM, mapS, bareG], fun z bd => by simp [freeIn, freeInS]⟩
 | lam _ _ _ _ ih => rw [emb_lam]; exact ⟨by simp [mapM, mapS, bareG, ih.1], fun z bd => by simp [freeIn, freeInS, ih.2]⟩
 | @n2 d k a b _ hk _ _ iha ihb =>
  by_cases h6 : k = 6
  ·subst h6; rw [emb_app]; exact ⟨by simp [mapM, mapS, iha.1, ihb.1], fun z bd => by simp [freeIn, freeInS, iha.2, ihb.2]⟩
  ·rw [emb_op (by omega)]
   have h1 : ¬ (k = 13 \/ k = 14) := by omega
   have h2 : ¬ k = 5 := by omega
   have h3 : ¬ k = 1 := by omega
   exact ⟨by simp [mapM, mapS, bareG, iha.1, ihb.1, h1, h2], fun z bd => by simp [freeIn, freeInS, iha.2, ihb.2, h2, h3]⟩
 | ite _ _ _ _ ihp iha ihb => rw [emb_if]; exact ⟨by simp [mapM, mapS, ihp.1, iha.1, ihb.1], fun z bd => by simp [freeIn, freeInS, ihp.2, iha.2, ihb.2]⟩
 | @n1 d k a _ hk _ ih =>
  rw [emb_n1 hk]
  have h2 : ¬ k = 5 := by omega
  have h3 : ¬ k = 1 := by omega
  exact ⟨by simp [mapM, mapS, ih.1], fun z bd => by simp [freeIn, freeInS, ih.2, h2, h3]⟩
 | asc _ _ _ ih => rw [emb_as]; exact ⟨by rw [ih.1]; simp [mapM, mapS, bareG], fun z bd => by rw [ih.2]; simp [freeIn, freeInS]⟩
 | cast h => exact absurd rfl h
def anyCtx (c : List MBd) : Prop := ∀ b ∈ c, b.ty = anyT /\ ∃ z, b.name = [z]
def domM (c : List MBd) : List UInt8 := c.flatMap (·.name)
theorem anyCtx.app {c : List MBd} (h : anyCtx c) {s : List UInt8} (hs : nameM s = true) : anyCtx (c ++ [⟨s, anyT⟩]) := by
 intro b hb
 rcases List.mem_append.1 hb with h' | h'
 ·exact h b h'
 ·simp at h'; subst h'; obtain ⟨z, hz, _⟩ := nameM_one hs; exact ⟨rfl, z, hz⟩
theorem domM_app (c : List MBd) (s : List UInt8) (t : MTy) : domM (c ++ [⟨s, t⟩]) = domM c ++ s := by simp [domM]
theorem anyCtx.look {c : List MBd} (h : anyCtx c) (z : UInt8) : lookM c [z] = if (domM c).contains z = true then some anyT else none := by
 induction c with
 | nil => simp [lookM, domM]
 | cons b r ih =>
  obtain ⟨h1, y, h2⟩ := h b (by simp)
  have ih := ih fun b' hb' => h b' (by simp [hb'])
  rw [lookM, ih]
  have hd : domM (b :: r) = y :: domM r := by simp [domM, h2]
  rw [hd]
  by_cases hz : (domM r).contains z = true
  ·simp only [hz, if_true]; simp at hz; simp [hz]
  ·simp only [hz, if_false, h2, h1]
   simp at hz
   by_cases e : y = z
   ·subst e; simp
   ·simp [e, hz, Ne.symm e]

theorem emb_type {d : Nat} {e : MTm} (h : TmV 14 d e) : ∀ {c : List MBd}, anyCtx c ->
  ((∀ z, freeIn z (domM c) e = false) -> typeM c (embM e) = some anyT) /\ (∀ z, freeIn z (domM c) e = true -> typeM c (embM e) = none) := by
 have hI : consTy intT anyT = true := by rw [consTy_def]; simp
 induction h with
 | @var d s _ hs =>
  intro c hc
  obtain ⟨y, rfl, _⟩ := nameM_one hs
  rw [emb_var, typeM_var, hc.look]
  refine ⟨fun h => ?_, fun z h => ?_⟩
  ·have := h y
   simp [freeIn, freeInS] at this
   simp [this]
  ·simp [freeIn, freeInS] at h
   obtain ⟨rfl, h⟩ := h
   simp [h]
 | num _ _ _ => intro c hc; rw [emb_num, typeM_as, typeM_num]; exact ⟨fun _ => by simp [cons_any2], fun z h => by simp [freeIn, freeInS] at h⟩
 | tru _ => intro c hc; rw [emb_tru, typeM_as, typeM_true]; exact ⟨fun _ => by simp [cons_any2], fun z h => by simp [freeIn, freeInS] at h⟩
 | fls _ => intro c hc; rw [emb_fls, typeM_as, typeM_false]; exact ⟨fun _ => by simp [cons_any2], fun z h => by simp [freeIn, freeInS] at h⟩
 | @lam d s t b _ hs _ hb ih =>
  intro c hc
  obtain ⟨i1, i2⟩ := ih (hc.app hs)
  rw [domM_app] at i1 i2
  rw [emb_lam, typeM_as, typeM_lam]
  refine ⟨fun h => ?_, fun z h => ?_⟩
  ·rw [i1 (fun z => by have := h z; simp [freeIn, freeInS] at this; exact this)]
   have : twoM 4 anyT anyT = some (.mk 4 [anyT, anyT]) := rfl
   simp [this, cons_any2]
  ·simp [freeIn, freeInS] at h
   rw [i2 z h]; rfl
 | @n2 d k a b _ hk _ _ iha ihb =>
  intro c hc
  obtain ⟨i1, i2⟩ := iha hc
  obtain ⟨j1, j2⟩ := ihb hc
  have h2 : ¬ k = 5 := by omega
  have h3 : ¬ k = 1 := by omega
  have hfr : ∀ z, freeIn z (domM c) (tN2 k a b) = (freeIn z (domM c) a || freeIn z (domM c) b) := fun z => by simp [freeIn, freeInS, h2, h3]
  have key : ∀ (T : MTy), nodeTy c k [] zeroT [anyT, anyT] = some T -> ((∀ z, freeIn z (domM c) (tN2 k a b) = false) -> typeM c (tN2 k (embM a) (embM b)) = some T) /\ (∀ z, freeIn z (domM c) (tN2 k a b) = true -> typeM c (tN2 k (embM a) (embM b)) = none) := by
   intro T hT
   refine ⟨fun h => ?_, fun z h => ?_⟩
   ·rw [typeM_n2 _ _ _ h2, i1 (fun z => by have := h z; rw [hfr] at this; simp at this; exact this.1), j1 (fun z => by have := h z; rw [hfr] at this; simp at this; exact this.2)]
    exact hT
   ·rw [hfr] at h
    rw [typeM_n2 _ _ _ h2]
    simp only [Bool.or_eq_true] at h
    rcases h with h | h
    ·rw [i2 z h]; rfl
    ·rw [j2 z h]; cases typeM c (embM a) <;> rfl
  rcases hk with rfl | rfl | rfl | rfl
  ·rw [emb_app]; exact key anyT rfl
  ·obtain ⟨k1, k2⟩ := key intT rfl
   rw [emb_op (by omega), typeM_as]
   exact ⟨fun h => by rw [k1 h]; simp [cons_any2], fun z h => by rw [k2 z h]; rfl⟩
  ·obtain ⟨k1, k2⟩ := key boolT rfl
   rw [emb_op (by omega), typeM_as]
   exact ⟨fun h => by rw [k1 h]; simp [cons_any2], fun z h => by rw [k2 z h]; rfl⟩
  ·obtain ⟨k1, k2⟩ := key (.mk 5 [anyT, anyT]) rfl
   rw [emb_op (by omega), typeM_as]
   exact ⟨fun h => by rw [k1 h]; simp [cons_any2], fun z h => by rw [k2 z h]; rfl⟩
 | @ite d p a b _ _ _ _ ihp iha ihb =>
  intro c hc
  obtain ⟨o1, o2⟩ := ihp hc
  obtain ⟨i1, i2⟩ := iha hc
  obtain ⟨j1, j2⟩ := ihb hc
  have hfr : ∀ z, freeIn z (domM c) (tIf p a b) = (freeIn z (domM c) p || (freeIn z (domM c) a || freeIn z (domM c) b)) := fun z => by simp [freeIn, freeInS]
  rw [emb_if, typeM_if]
  refine ⟨fun h => ?_, fun z h => ?_⟩
  ·rw [o1 (fun z => by have := h z; rw [hfr] at this; simp at this; exact this.1), i1 (fun z => by have := h z; rw [hfr] at this; simp at this; exact this.2.1), j1 (fun z => by have := h z; rw [hfr] at this; simp at this; exact this.2.2)]
   simp only [Option.bind_some, cons_any1, and_self, if_true]
   rw [show meetTy anyT anyT = anyT from rfl]
  ·rw [hfr] at h
   simp only [Bool.or_eq_true] at h
   rcases h with h | h | h
   ·rw [o2 z h]; rfl
   ·rw [i2 z h]; cases typeM c (embM p) <;> rfl
   ·rw [j2 z h]; cases typeM c (embM p) <;> cases typeM c (embM a) <;> rfl
 | @n1 d k a _ hk _ ih =>
  intro c hc
  obtain ⟨i1, i2⟩ := ih hc
  have h2 : ¬ k = 5 := by omega
  have h3 : ¬ k = 1 := by omega
  have hfr : ∀ z, freeIn z (domM c) (tN1 k a) = freeIn z (domM c) a := fun z => by simp [freeIn, freeInS, h2, h3]
  rw [emb_n1 hk, typeM_n1 _ _ hk]
  refine ⟨fun h => ?_, fun z h => ?_⟩
  ·rw [i1 (fun z => by have := h z; rw [hfr] at this; exact this)]
   rcases hk with rfl | rfl <;> rfl
  ·rw [hfr] at h
   rw [i2 z h]; rfl
 | asc _ _ _ ih =>
  intro c hc
  obtain ⟨i1, i2⟩ := ih hc
  rw [emb_as]
  exact ⟨fun h => i1 fun z => by have := h z; simpa [freeIn, freeInS] using this, fun z h => i2 z (by simpa [freeIn, freeInS] using h)⟩
 | cast h => exact absurd rfl h
theorem names_nil {d : Nat} {e : MTm} (h : TmV 14 d e) : namesM e = [] ↔ ∀ z, freeIn z [] e = false := by
 constructor
 ·intro hn z
  -- a free name is a letter
  have hl : ∀ {d : Nat} {e : MTm}, TmV 14 d e -> ∀ bd, freeIn z bd e = true -> z ∈ letters := by
   intro d e h
   induction h with
   | var _ hs =>
    intro bd h
    simp [freeIn, freeInS] at h
    obtain ⟨c, hc, h1, h2⟩ := nameM_one hs
    rw [h.1] at hc
    simp at hc; subst hc
    rw [List.mem_iff_getElem?]
    exact ⟨z.toNat - 97, by rw [letters_get (by omega), show 97 + (z.toNat - 97) = z.toNat by omega]; simp⟩
   | num _ _ _ => intro bd h; simp [freeIn, freeInS] at h
   | tru _ => intro bd h; simp [freeIn, freeInS] at h
   | fls _ => intro bd h; simp [freeIn, freeInS] at h
   | lam _ _ _ _ ih => intro bd h; simp [freeIn, freeInS] at h; exact ih _ h
   | n2 _ hk _ _ iha ihb =>
    intro bd h
    simp only [freeIn, freeInS, Bool.or_false, Bool.or_eq_true] at h
    rcases h with h | h | h
    ·exfalso; rcases hk with rfl | rfl | rfl | rfl <;> simp at h
    ·exact iha _ (by rwa [if_neg (by omega)] at h)
    ·exact ihb _ (by rwa [if_neg (by omega)] at h)
   | ite _ _ _ _ ihp iha ihb =>
    intro bd h
    simp [freeIn, freeInS] at h
    rcases h with h | h | h
    ·exact ihp _ h
    ·exact iha _ h
    ·exact ihb _ h
   | n1 _ hk _ ih =>
    intro bd h
    simp only [freeIn, freeInS, Bool.or_false, Bool.or_eq_true] at h
    rcases h with h | h
    ·exfalso; rcases hk with rfl | rfl <;> simp at h
    ·exact ih _ (by rwa [if_neg (by omega)] at h)
   | asc _ _ _ ih => intro bd h; simp [freeIn, freeInS] at h; exact ih _ h
   | cast h => exact absurd rfl h
  cases hf : freeIn z [] e with
  | false => rfl
  | true =>
   have hm : z ∈ namesM e := List.mem_filter.2 ⟨hl h [] hf, hf⟩
   rw [hn] at hm; simp at hm
 ·exact closed_names
theorem emb_typeM {e : MTm} (h : termValidM e = true) : typeM [] (embM e) = if namesM e = [] then some anyT else none := by
 have hv := (termValidM_iff.1 h).1
 obtain ⟨h1, h2⟩ := emb_type hv (c := []) (by intro b hb; simp at hb)
 by_cases hn : namesM e = []
 ·rw [if_pos hn]; exact h1 ((names_nil hv).1 hn)
 ·rw [if_neg hn]
  have : ¬ ∀ z, freeIn z [] e = false := fun h => hn ((names_nil hv).2 h)
  obtain ⟨z, hz⟩ := Classical.not_forall.1 this
  exact h2 z (by simpa [domM] using hz)
end Go.Av

namespace Go.Av
attribute [-simp] Go.Av.freeStepG Go.Av.exA Go.Av.innAsH Go.Av.AV.innH Go.Av.CV.innH Go.Av.innHs Go.Av.AV.outnH Go.Av.CV.outnH
open Go
def simpG (e : MTm) : MTm :=
 if e.kind = 14 then match e.kids with
  | a :: _ => if sameTy e.fr e.ty = true then a else if e.fr.kind = 1 /\ a.kind = 14 /\ a.ty.kind = 1 /\ sameTy e.ty a.fr = true then (match a.kids with
    | x :: _ => x
    | [] => e) else e
  | [] => e
 else e
def simpM (e : MTm) : MTm := mapM simpG e
abbrev trip (e : MTm) : MTy × MTy × Int := (e.fr, e.ty, e.label)
end Go.Av

namespace Go.Av
attribute [-simp] Go.Av.freeStepG Go.Av.exA Go.Av.innAsH Go.Av.AV.innH Go.Av.CV.innH Go.Av.innHs Go.Av.AV.outnH Go.Av.CV.outnH
open Go
abbrev gFun : MTy := .mk 4 [anyT, anyT]
abbrev gPair : MTy := .mk 5 [anyT, anyT]
def subsM {α : Type} (f : α -> List α) : List α -> List (List α)
 | [] => []
 | x :: r => (f x).map (· :: r) ++ (subsM f r).map (x :: ·)
mutual
def refinedM : MTy -> List MTy
 | .mk k l => if k = 1 then [intT, boolT, gFun, gPair] else (refinedS l).map (MTy.mk k)
def refinedS : List MTy -> List (List MTy)
 | [] => []
 | t :: r => (refinedM t).map (· :: r) ++ (refinedS r).map (t :: ·)
end
mutual
def stepsM : Nat -> MTy -> List MTy
 | d, .mk k l => if k = 1 then intT :: boolT :: (if 1 < d then [gFun, gPair] else []) else (stepsS (d - 1) l).map (MTy.mk k)
def stepsS : Nat -> List MTy -> List (List MTy)
 | _, [] => []
 | d, t :: r => (stepsM d t).map (· :: r) ++ (stepsS d r).map (t :: ·)
end
def refTyM (t : MTy) : List MTy := if shapeTy 4 t = true then (refinedM t).filter (shapeTy 4) else []
mutual
def sizeTy : MTy -> Nat
 | .mk _ l => 1 + sizeTyS l
def sizeTyS : List MTy -> Nat
 | [] => 0
 | t :: r => sizeTy t + sizeTyS r
end
mutual
def wgtM : MTy -> Nat
 | .mk k l => if k = 1 then 0 else 1 + wgtS l
def wgtS : List MTy -> Nat
 | [] => 0
 | t :: r => wgtM t + wgtS r
end
def candM (ts : List MTy) : List (List MTy) := subsM refTyM ts
def typedB (e : MTm) : Bool := (typeM [] e).isSome
def refineM (e : MTm) : List MTm := ((candM (typesM e)).map (withM e)).filter typedB
def sumW (e : MTm) : Nat := ((typesM e).map wgtM).sum

end Go.Av

namespace Go.Av
attribute [-simp] Go.Av.freeStepG Go.Av.exA Go.Av.innAsH Go.Av.AV.innH Go.Av.CV.innH Go.Av.innHs Go.Av.AV.outnH Go.Av.CV.outnH
open Go
def precL (ts : List MTy) (us : List MTy) : Prop := ∀ (i : Nat) b, us[i]? = some b -> ∃ a, ts[i]? = some a /\ precTy a b = true
theorem precL.app {ts us vs : List MTy} (h : precL ts (us ++ vs)) : precL ts us /\ precL (ts.drop us.length) vs := by
 refine ⟨fun i b hb => h i b ?_, fun i b hb => ?_⟩
 ·rw [List.getElem?_append_left (List.getElem?_eq_some_iff.1 hb).1]; exact hb
 ·obtain ⟨a, h1, h2⟩ := h (us.length + i) b (by rw [List.getElem?_append_right (by omega)]; simpa using hb)
  exact ⟨a, by rw [List.getElem?_drop]; exact h1, h2⟩
def migM : Nat -> MTm -> MTm
 | 0, e => e
 | n + 1, e => match refineM e with
  | [] => e
  | x :: _ => migM n x
end Go.Av

namespace Go.Av
attribute [-simp] Go.Av.freeStepG Go.Av.exA Go.Av.innAsH Go.Av.AV.innH Go.Av.CV.innH Go.Av.innHs Go.Av.AV.outnH Go.Av.CV.outnH
open Go
def groundT (k : Int) : MTy := if k = 4 \/ k = 5 then .mk k [anyT, anyT] else .mk k []
def isGroundM (t : MTy) : Bool := decide (t.kind ≠ 1) && sameTy t (groundT t.kind)
def proxyM (e : MTm) : Bool := decide (e.kind = 14) && (decide (e.fr.kind = e.ty.kind) && (decide (e.ty.kind = 4) || decide (e.ty.kind = 5)))
def injM (e : MTm) : Bool := decide (e.kind = 14) && (decide (e.ty.kind = 1) && isGroundM e.fr)
def plainM (e : MTm) : Bool := decide (e.kind = 2) || (decide (e.kind = 3) || (decide (e.kind = 4) || decide (e.kind = 5)))
mutual
def valM : MTm -> Bool
 | .mk k s n t f b l => if decide (k = 10) || (proxyM (.mk k s n t f b []) || injM (.mk k s n t f b [])) then valS l else plainM (.mk k s n t f b [])
def valS : List MTm -> Bool
 | [] => true
 | e :: r => valM e && valS r
end
theorem valS_all : ∀ l : List MTm, valS l = l.all valM
 | [] => rfl
 | e :: r => by simp [valS, valS_all r]
theorem valM_def (e : MTm) : valM e = if decide (e.kind = 10) || (proxyM e || injM e) then e.kids.all valM else plainM e := by
 cases e; simp only [valM, valS_all]; rfl

def truthM (b : Bool) : MTm := if b then tTrue else tFalse
def ruleM (e : MTm) : Option MTm :=
 if e.kind = 6 then match e.kids with
  | a :: b :: _ => if a.kind = 5 then match a.kids with
    | x :: _ => some (substM a.name b x)
    | [] => none
   else none
  | _ => none
 else if e.kind = 7 \/ e.kind = 8 then match e.kids with
  | a :: b :: _ => if a.kind = 2 /\ b.kind = 2 then some (if e.kind = 7 then tNum ((a.num + b.num).tmod 1000) else truthM (decide (a.num < b.num))) else none
  | _ => none
 else if e.kind = 9 then match e.kids with
  | a :: b :: c :: _ => if a.kind = 3 then some b else if a.kind = 4 then some c else none
  | _ => none
 else if e.kind = 11 \/ e.kind = 12 then match e.kids with
  | a :: _ => if a.kind = 10 then match a.kids with
    | x :: y :: _ => some (if e.kind = 11 then x else y)
    | _ => none
   else none
  | _ => none
 else none
def wrongM (k : Int) : Int := if k = 6 then 1 else if k = 7 \/ k = 8 then 2 else if k = 9 then 3 else if k = 11 \/ k = 12 then 4 else 5
def countsM (e : MTm) : Nat := if e.kind = 9 then 1 else e.kids.length
def firstNV : List MTm -> Option Nat
 | [] => none
 | e :: r => if valM e = true then (firstNV r).map (· + 1) else some 0
theorem firstNV_some : ∀ {l : List MTm} {i : Nat}, firstNV l = some i -> ∃ u, l[i]? = some u /\ valM u = false /\ ∀ (j : Nat) v, j < i -> l[j]? = some v -> valM v = true
 | [], i, h => by simp [firstNV] at h
 | e :: r, i, h => by
  simp only [firstNV] at h
  split at h
  ·rename_i hv
   simp only [Option.map_eq_some_iff] at h
   obtain ⟨j, h1, rfl⟩ := h
   obtain ⟨u, h2, h3, h4⟩ := firstNV_some h1
   refine ⟨u, by simpa using h2, h3, fun k v hk hv' => ?_⟩
   cases k with
   | zero => simp at hv'; subst hv'; exact hv
   | succ k => exact h4 k v (by omega) (by simpa using hv')
  ·rename_i hv
   simp at h; subst h
   exact ⟨e, rfl, by simpa using hv, fun j v hj => by omega⟩
mutual
def stepB : MTm -> MTm × Int × Int
 | .mk k s n t f b l => match stepBS (if k = 9 then 1 else l.length) l with
  | some (l', c, err) => (.mk k s n t f b l', c, err)
  | none => match ruleM (.mk k s n t f b l) with
   | some x => (x, 1, 0)
   | none => (zeroE, 2, wrongM k)
def stepBS : Nat -> List MTm -> Option (List MTm × Int × Int)
 | 0, _ => none
 | _, [] => none
 | n + 1, e :: r => if valM e = true then (stepBS n r).map fun p => (e :: p.1, p.2.1, p.2.2) else
   let p := stepB e
   some (p.1 :: r, p.2.1, p.2.2)
end
theorem firstNV_get {l : List MTm} {n i : Nat} (h : firstNV (l.take n) = some i) : ∃ u, l[i]? = some u /\ l.getD i zeroE = u /\ valM u = false /\ u ∈ l /\ i < n := by
 obtain ⟨u, h1, h2, _⟩ := firstNV_some h
 have hi : i < n := by have := (List.getElem?_eq_some_iff.1 h1).1; simp at this; omega
 rw [List.getElem?_take_of_lt hi] at h1
 exact ⟨u, h1, by simp [List.getD, h1], h2, List.mem_of_getElem? h1, hi⟩
theorem rule_size {e x : MTm} (h : ruleM e = some x) : nTm x <= nTm e + nodesM e * nTm e := by
 have hk : ∀ u ∈ e.kids, nTm u <= nTm e /\ nodesM u <= nodesM e := fun u hu => ⟨by have := nTmS_mem hu; rw [nTm_def e]; omega, by have := nodesM_kid hu; omega⟩
 have hz : ∀ n : Int, nTm (tNum n) = 0 := fun n => by simp [nTm_mk, nTmS, nTy_mk, nTyS]
 have ht : ∀ b : Bool, nTm (truthM b) = 0 := fun b => by cases b <;> simp [truthM, nTm_mk, nTmS, nTy_mk, nTyS]
 simp only [ruleM] at h
 split at h
 ·split at h
  ·rename_i a b r hl
   split at h
   ·split at h
    ·rename_i y r' hl'
     cases h
     obtain ⟨a1, a2⟩ := hk a (by rw [hl]; simp)
     obtain ⟨b1, b2⟩ := hk b (by rw [hl]; simp)
     have hy : y ∈ a.kids := by rw [hl']; simp
     have y1 : nTm y <= nTm a := by have := nTmS_mem hy; rw [nTm_def a]; omega
     have y2 : nodesM y <= nodesM e := by have := nodesM_kid hy; omega
     have h1 := substM_size a.name b y
     have h2 : nodesM y * nTm b <= nodesM e * nTm e := Nat.mul_le_mul y2 b1
     omega
    ·cases h
   ·cases h
  ·cases h
 split at h
 ·split at h
  ·split at h
   ·cases h
    split
    ·rw [hz]; omega
    ·rw [ht]; omega
   ·cases h
  ·cases h
 split at h
 ·split at h
  ·rename_i a b c r hl
   split at h
   ·cases h; have := (hk x (by rw [hl]; simp)).1; omega
   ·split at h
    ·cases h; have := (hk x (by rw [hl]; simp)).1; omega
    ·cases h
  ·cases h
 split at h
 ·split at h
  ·rename_i a r hl
   split at h
   ·split at h
    ·rename_i x' y' r' hl'
     cases h
     have ha := (hk a (by rw [hl]; simp)).1
     have q : ∀ w ∈ a.kids, nTm w <= nTm a := fun w hw => by have := nTmS_mem hw; rw [nTm_def a]; omega
     split
     ·have := q x' (by rw [hl']; simp); omega
     ·have := q y' (by rw [hl']; simp); omega
    ·cases h
   ·cases h
  ·cases h
 ·cases h
theorem nTmS_set : ∀ {l : List MTm} {i : Nat} {u v : MTm}, l[i]? = some u -> nTmS (l.set i v) + nTm u = nTmS l + nTm v
 | [], i, u, v, h => by simp at h
 | a :: r, 0, u, v, h => by simp at h; subst h; simp [nTmS]; omega
 | a :: r, i + 1, u, v, h => by simp at h; have := nTmS_set (v := v) h; simp [nTmS]; omega
def bareValidM (e : MTm) : Bool := castValidM e && bareM e
def stepBareM (e : MTm) : MTm × Int × Int :=
 if bareValidM e = true then
  if valM e = true then (e, 0, 0)
  else if (stepB e).2.1 = 1 then (if bareValidM (stepB e).1 = true then ((stepB e).1, 1, 0) else (zeroE, 4, 0)) else (zeroE, (stepB e).2.1, (stepB e).2.2)
 else (zeroE, 3, 0)
def runB : Nat -> MTm -> MTm × Int × Int × Int
 | 0, e => ((stepBareM e).1, (stepBareM e).2.1, (stepBareM e).2.2, 0)
 | n + 1, e => if (stepBareM e).2.1 = 1 then ((runB n (stepBareM e).1).1, (runB n (stepBareM e).1).2.1, (runB n (stepBareM e).1).2.2.1, (runB n (stepBareM e).1).2.2.2 + 1)
   else ((stepBareM e).1, (stepBareM e).2.1, (stepBareM e).2.2, 0)
def fuelM (n : Int) : Bool := decide (0 <= n) && decide (n <= 300)
def evalBareM (e : MTm) (fuel : Int) : MTm × Int × Int :=
 if fuelM fuel = true then (if (runB fuel.toNat e).2.1 = 1 then (zeroE, 5, 0) else ((runB fuel.toNat e).1, (runB fuel.toNat e).2.1, (runB fuel.toNat e).2.2.1)) else (zeroE, 3, 0)
def bareStepsM (e : MTm) (fuel : Int) : Int := if fuelM fuel = true then (runB fuel.toNat e).2.2.2 else 0
theorem castValid_small {e : MTm} (h : castValidM e = true) : nTm e <= 60000 /\ nodesM e <= 200 := by
 obtain ⟨h1, h2⟩ := castValidM_iff.1 h
 have := h1.small
 omega
end Go.Av

namespace Go.Av
attribute [-simp] Go.Av.freeStepG Go.Av.exA Go.Av.innAsH Go.Av.AV.innH Go.Av.CV.innH Go.Av.innHs Go.Av.AV.outnH Go.Av.CV.outnH
open Go
def subsP {α : Type} (f : α -> List α) (l : List α) (p : Nat) : List (List α) := (subsM f (l.take p)).map (· ++ l.drop p)
theorem TmV.kind2 {d : Nat} {e : MTm} (h : TmV 13 d e) (hk : e.kind = 2) : ∃ n, e = tNum n /\ 0 <= n /\ n <= 999 := by
 cases h with
 | num _ h1 h2 => exact ⟨_, rfl, h1, h2⟩
 | asc h => exact absurd rfl h
 | n2 _ h => simp at hk; omega
 | n1 _ h => simp at hk; omega
 | _ => simp at hk
theorem TmV.kind5 {d : Nat} {e : MTm} (h : TmV 13 d e) (hk : e.kind = 5) : ∃ s t x, e = tLam s t x := by
 cases h with
 | lam => exact ⟨_, _, _, rfl⟩
 | asc h => exact absurd rfl h
 | n2 _ h => simp at hk; omega
 | n1 _ h => simp at hk; omega
 | _ => simp at hk
theorem TmV.kind10 {d : Nat} {e : MTm} (h : TmV 13 d e) (hk : e.kind = 10) : ∃ x y, e = tN2 10 x y := by
 cases h with
 | n2 _ h => simp at hk; subst hk; exact ⟨_, _, rfl⟩
 | asc h => exact absurd rfl h
 | n1 _ h => simp at hk; omega
 | _ => simp at hk
theorem TmV.cases13 {d : Nat} {e : MTm} (h : TmV 13 d e) : (∃ s, e = tVar s) \/ (∃ n, e = tNum n /\ 0 <= n /\ n <= 999) \/ e = tTrue \/ e = tFalse \/ (∃ s t b, e = tLam s t b) \/
  (∃ a f t l, e = tCast a f t l) \/ (∃ k a, e = tN1 k a /\ (k = 11 \/ k = 12) /\ ∃ d', TmV 13 d' a) \/ (∃ p a b, e = tIf p a b /\ ∃ d', TmV 13 d' p) \/ (∃ k a b, e = tN2 k a b /\ (k = 6 \/ k = 7 \/ k = 8 \/ k = 10) /\ (∃ d', TmV 13 d' a) /\ ∃ d', TmV 13 d' b) := by
 cases h with
 | var => exact .inl ⟨_, rfl⟩
 | num _ h1 h2 => exact .inr (.inl ⟨_, rfl, h1, h2⟩)
 | tru => exact .inr (.inr (.inl rfl))
 | fls => exact .inr (.inr (.inr (.inl rfl)))
 | lam => exact .inr (.inr (.inr (.inr (.inl ⟨_, _, _, rfl⟩))))
 | asc h => exact absurd rfl h
 | cast => exact .inr (.inr (.inr (.inr (.inr (.inl ⟨_, _, _, _, rfl⟩)))))
 | n1 _ h ha => exact .inr (.inr (.inr (.inr (.inr (.inr (.inl ⟨_, _, rfl, h, _, ha⟩))))))
 | ite _ hp => exact .inr (.inr (.inr (.inr (.inr (.inr (.inr (.inl ⟨_, _, _, rfl, _, hp⟩)))))))
 | n2 _ h ha hb => exact .inr (.inr (.inr (.inr (.inr (.inr (.inr (.inr ⟨_, _, _, rfl, h, ⟨_, ha⟩, _, hb⟩)))))))
end Go.Av

namespace Go.Av
attribute [-simp] Go.Av.freeStepG Go.Av.exA Go.Av.innAsH Go.Av.AV.innH Go.Av.CV.innH Go.Av.innHs Go.Av.AV.outnH Go.Av.CV.outnH
open Go
def castN (c : List MBd) (e : MTm) (ts : List MTy) : Option MTy :=
 if e.kind = 14 then match ts with
  | x :: _ => if sameTy x e.fr = true then some e.ty else none
  | [] => none
 else match wantM c e.kind e.name e.ty ts with
  | none => none
  | some (ws, u) => if shapeTy 4 u = true /\ exactS ws ts = true then some u else none
def castTypeM (e : MTm) : Option MTy := if castValidM e = true then castTyM [] e else none

end Go.Av

namespace Go.Av
attribute [-simp] Go.Av.freeStepG Go.Av.exA Go.Av.innAsH Go.Av.AV.innH Go.Av.CV.innH Go.Av.innHs Go.Av.AV.outnH Go.Av.CV.outnH
open Go
theorem TmV.plain {nt : Int} {d : Nat} {e : MTm} (h : TmV nt d e) : (e.kind = 13 \/ e.kind = 14 -> ∃ x, e.kids = [x]) /\ (¬ (e.kind = 13 \/ e.kind = 14) -> e.fr = zeroT /\ e.label = 0 /\ (e.kind ≠ 5 -> e.ty = zeroT)) := by
 cases h with
 | var => simp
 | num => simp
 | tru => simp
 | fls => simp
 | lam => simp
 | n2 _ hk => refine ⟨fun h => ?_, fun _ => by simp⟩; simp at h; omega
 | ite => simp
 | n1 _ hk => refine ⟨fun h => ?_, fun _ => by simp⟩; simp at h; omega
 | asc => simp
 | cast => simp
end Go.Av

namespace Go.Av
attribute [-simp] Go.Av.freeStepG Go.Av.exA Go.Av.innAsH Go.Av.AV.innH Go.Av.CV.innH Go.Av.innHs Go.Av.AV.outnH Go.Av.CV.outnH
open Go
theorem as_any {d : Nat} {e : MTm} (h : TmV 14 d e) : TmV 14 (d + 1) (asAnyM e) := .asc (by omega) rfl h
theorem emb_tm {d : Nat} {e : MTm} (h : TmV 14 d e) : TmV 14 (2 * d) (embM e) /\ nodesM (embM e) <= 2 * nodesM e := by
 induction h with
 | @var d s _ hs => rw [emb_var]; exact ⟨.var (by omega) hs, by simp [nodesM, nodesS]⟩
 | @num d k _ h1 h2 => rw [emb_num]; exact ⟨.asc (by omega) rfl (.num (d := 2 * d) (by omega) h1 h2), by simp [nodesM, nodesS]⟩
 | @tru d _ => rw [emb_tru]; exact ⟨.asc (by omega) rfl (.tru (d := 2 * d) (by omega)), by simp [nodesM, nodesS]⟩
 | @fls d _ => rw [emb_fls]; exact ⟨.asc (by omega) rfl (.fls (d := 2 * d) (by omega)), by simp [nodesM, nodesS]⟩
 | @lam d s t b _ hs ht _ ih =>
  rw [emb_lam]
  exact ⟨.asc (by omega) rfl (.lam (d := 2 * d) (by omega) hs rfl ih.1), by have := ih.2; simp [nodesM, nodesS]; omega⟩
 | @n2 d k a b _ hk _ _ iha ihb =>
  have h1 := iha.2
  have h2 := ihb.2
  by_cases h6 : k = 6
  ·subst h6
   rw [emb_app]
   exact ⟨(TmV.n2 (by omega) (.inl rfl) iha.1 ihb.1).mono (by omega), by simp [nodesM, nodesS]; omega⟩
  ·rw [emb_op (by omega)]
   exact ⟨.asc (by omega) rfl (.n2 (d := 2 * d) (by omega) hk iha.1 ihb.1), by simp [nodesM, nodesS]; omega⟩
 | @ite d p a b _ _ _ _ ihp iha ihb =>
  have h0 := ihp.2
  have h1 := iha.2
  have h2 := ihb.2
  rw [emb_if]
  exact ⟨(TmV.ite (by omega) ihp.1 iha.1 ihb.1).mono (by omega), by simp [nodesM, nodesS]; omega⟩
 | @n1 d k a _ hk _ ih =>
  have h1 := ih.2
  rw [emb_n1 hk]
  exact ⟨(TmV.n1 (by omega) hk ih.1).mono (by omega), by simp [nodesM, nodesS]; omega⟩
 | @asc d t a _ _ _ ih =>
  have h1 := ih.2
  rw [emb_as]
  exact ⟨ih.1.mono (by omega), by simp [nodesM, nodesS]; omega⟩
 | cast h => exact absurd rfl h
theorem emb_small {e : MTm} (h : termValidM e = true) : nTm (embM e) <= 20000 := by
 obtain ⟨h1, h2⟩ := termValidM_iff.1 h
 obtain ⟨h3, h4⟩ := emb_tm h1
 have := h3.small
 omega
def embedTermM (e : MTm) : Option MTm := if termValidM e = true then (if termValidM (embM e) = true then some (embM e) else none) else none
end Go.Av
