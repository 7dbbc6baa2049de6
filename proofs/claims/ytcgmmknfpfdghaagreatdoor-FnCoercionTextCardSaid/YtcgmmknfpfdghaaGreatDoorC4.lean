/- A part of the library of this seat. -/
import Derived.Test.YtcgmmknfpfdghaaGreatDoorC3
import Derived.Laws.Cover3
set_option linter.unusedVariables false
set_option linter.unusedSimpArgs false
namespace Go.Av
attribute [-simp] Go.Av.MCo.kind_mk Go.Av.MCo.tag_mk Go.Av.MCo.label_mk Go.Av.MCo.kids_mk
open Go
section
variable {P : Program} {n : Nat} {ι : Type} {Q : Exit -> St -> Prop} {QX : ι -> Exit -> St -> Prop} {s s' : St} {y : Code}
end
section
variable {P : Program} {s : St} {f : FuncId} {xs as : List AV} {K : AV -> List (List CV) -> List Arr -> Prop}
end
attribute [simp] innVs putBack objCells back resVs one
end Go.Av

namespace Go.Av
attribute [-simp] Go.Av.MCo.kind_mk Go.Av.MCo.tag_mk Go.Av.MCo.label_mk Go.Av.MCo.kids_mk
open Go

abbrev aBd (b : MBd) : AV := .agg [.d (.str b.name), .d (.i b.ty.kind), .d (.sl (b.ty.kids.map eTy))]
abbrev zeroE : MTm := .mk 0 [] 0 zeroT zeroT 0 []
abbrev elRes : Option (MTm × MTy) -> List AV
 | some (e, t) => [aTm e, aTy t, .b true]
 | none => [aTm zeroE, aTy zeroT, .b false]

mutual
def sameTm : MTm -> MTm -> Bool
 | .mk k s n t f b l, .mk k' s' n' t' f' b' l' => decide (k = k') && (decide (s = s') && (decide (n = n') && (sameTy t t' && (sameTy f f' && (decide (b = b') && sameTmS l l')))))
def sameTmS : List MTm -> List MTm -> Bool
 | [], [] => true
 | x :: xs, y :: ys => sameTm x y && sameTmS xs ys
 | _, _ => false
end
mutual
theorem sameTm_eq : ∀ (a b : MTm), sameTm a b = true -> a = b
 | .mk k s n t f b l, .mk k' s' n' t' f' b' l', h => by
  simp only [sameTm, Bool.and_eq_true, decide_eq_true_eq] at h
  obtain ⟨rfl, rfl, rfl, h1, h2, rfl, h3⟩ := h
  rw [sameTy_eq t t' h1, sameTy_eq f f' h2, sameTmS_eq l l' h3]
theorem sameTmS_eq : ∀ (l m : List MTm), sameTmS l m = true -> l = m
 | [], [], _ => rfl
 | x :: xs, y :: ys, h => by
  simp only [sameTmS, Bool.and_eq_true] at h
  rw [sameTm_eq x y h.1, sameTmS_eq xs ys h.2]
 | [], _ :: _, h => by simp [sameTmS] at h
 | _ :: _, [], h => by simp [sameTmS] at h
end
mutual
theorem sameTm_refl : ∀ (a : MTm), sameTm a a = true
 | .mk k s n t f b l => by simp [sameTm, sameTy_refl, sameTmS_refl l]
theorem sameTmS_refl : ∀ (l : List MTm), sameTmS l l = true
 | [] => rfl
 | x :: xs => by simp [sameTmS, sameTm_refl x, sameTmS_refl xs]
end
mutual
def mapM (g : MTm -> MTm) : MTm -> MTm
 | .mk k s n t f b l => g (.mk k s n t f b (mapS g l))
def mapS (g : MTm -> MTm) : List MTm -> List MTm
 | [] => []
 | e :: r => mapM g e :: mapS g r
end
end Go.Av

namespace Go.Av
attribute [-simp] Go.Av.MCo.kind_mk Go.Av.MCo.tag_mk Go.Av.MCo.label_mk Go.Av.MCo.kids_mk
open Go
section
variable {P : Program} {n : Nat} {Q : Exit -> St -> Prop} {s : St}
end
section
variable {P : Program} {s : St}
end
end Go.Av

namespace Go.Av
attribute [-simp] Go.Av.MCo.kind_mk Go.Av.MCo.tag_mk Go.Av.MCo.label_mk Go.Av.MCo.kids_mk
open Go
section
attribute [-simp] astep wpo gdo onv aval avals oval slow shigh alen rowsOf look cvOf St.put cellsAt mkV splice abin aun abinS abinB cEq AV.plain AV.cells CV.isUndef toD toDs toRows sealA sealAs innAs AV.inn CV.inn inns AV.outn CV.outn argCells aparts arows afill isS ares ares1 AV.res1 CV.res ress pos? poss Then InBlock Sub subL argFr
attribute [-simp] freeStep exV keepL ups innVs putBack objCells back resVs one

def exA (ex : List Nat) (rs : Nat -> Arr) (V : List Arr) : List Arr := ex.foldl (fun W i => W.set i (rs i)) V

def freeStepG (P : Program) (s : St) (ow : Bool) (o : Oper) (ex exa : List Nat) (V0 : List (List CV)) (A0 : List Arr) (x : AV) : Prop :=
 ∀ (rs : Nat -> List CV) (ra : Nat -> Arr) GV GA, astep P ⟨s.fr, exV ex rs V0 ++ GV, exA exa ra A0 ++ GA⟩ ow o fun y V' A' => y = x /\ V' = exV ex rs V0 ++ GV /\ A' = exA exa ra A0 ++ GA

def aopsG (P : Program) (all : Array Oper) (ow : Nat -> Bool) (ws fs : List Nat) (m : Nat) (ex exa : List Nat) (V0 : List (List CV)) (A0 : List Arr) (K : St -> Prop) : Nat -> List Oper -> St -> Prop
 | _, [], s => K s
 | i, o :: rest, s => gdo all s o (astep P s (ow i) o fun x V A => (i ∈ ws \/ (V = s.V /\ A = s.A)) /\ (i ∈ ws -> i < m -> V.take V0.length = exV ex (fun i => V.getD i []) V0 /\ A.take A0.length = exA exa (fun i => A.getD i arr0) A0) /\ (i ∈ fs -> freeStepG P s (ow i) o ex exa V0 A0 x) /\
   aopsG P all ow ws fs m ex exa V0 A0 K (i + 1) rest (s.put o.dst x V A)) (aopsG P all ow ws fs m ex exa V0 A0 K (i + 1) rest (s.put o.dst (.c .undef) s.V s.A))

section
variable {P : Program} {n : Nat} {Q Q' : Exit -> St -> Prop} {s s' : St} {w0 : World} {g0 g g' : Gh} {a : Act} {w w' : World} {V : List (List CV)} {A A' : List Arr}

def StpG (P : Program) (all : Array Oper) (ow : Bool) (fs : List Nat) (j : Nat) (ex exa : List Nat) (V0 : List (List CV)) (A0 : List Arr) (o : Oper) (s s' : St) : Prop :=
 gdo all s o True True /\ ((gw all s o = true /\ ∃ x V A, s' = s.put o.dst x V A /\ (∀ K : AV -> List (List CV) -> List Arr -> Prop, K x V A -> astep P s ow o K) /\ (j ∈ fs -> freeStepG P s ow o ex exa V0 A0 x)) \/ (gw all s o = false /\ s' = s.put o.dst (.c .undef) s.V s.A))

def PreG (ex exa : List Nat) (V0 : List (List CV)) (A0 : List Arr) (s : St) : Prop := s.V.take V0.length = exV ex (fun i => s.V.getD i []) V0 /\ s.A.take A0.length = exA exa (fun i => s.A.getD i arr0) A0

end
section
variable {P : Program} {n : Nat} {Q : Exit -> St -> Prop} {s s' : St} {y : Code}
structure OpsG (P : Program) (all : Array Oper) (ow : Nat -> Bool) (ws fs : List Nat) (m : Nat) (ex exa : List Nat) (V0 : List (List CV)) (A0 : List Arr) (K : St -> Prop) (i : Nat) (ops : List Oper) (s : St) : Prop where
 mk ::
 run : aopsG P all ow ws fs m ex exa V0 A0 K i ops s

@[congr] theorem aopsG_cong {all : Array Oper} {ow : Nat -> Bool} {ws fs : List Nat} {m : Nat} {ex exa : List Nat} {V0 : List (List CV)} {A0 : List Arr} {K : St -> Prop} {i i' : Nat} {ops : List Oper} (hi : i = i') (h : s = s') : OpsG P all ow ws fs m ex exa V0 A0 K i ops s = OpsG P all ow ws fs m ex exa V0 A0 K i' ops s' := by rw [h, hi]

end
end
attribute [simp] freeStepG exA
end Go.Av

namespace Go.Av
attribute [-simp] Go.Av.MCo.kind_mk Go.Av.MCo.tag_mk Go.Av.MCo.label_mk Go.Av.MCo.kids_mk
open Go
theorem Some_.elim {P : Program} {f : FuncId} {as : List AV} {α : Type} {enc : α -> AV} {arr : α -> List Arr} {good : α -> Prop} (h : Some_ P f as (RV enc arr good)) : ∃ x, good x /\ ACalls P f as [] (enc x) [] (arr x) := by
 obtain ⟨v, V, A, ⟨rfl, x, ⟨rfl, rfl⟩, hg⟩, hc⟩ := h
 exact ⟨x, hg, hc⟩

end Go.Av

namespace Go.Av
attribute [-simp] Go.Av.MCo.kind_mk Go.Av.MCo.tag_mk Go.Av.MCo.label_mk Go.Av.MCo.kids_mk
open Go
section
variable {P : Program} {s : St} {f : FuncId} {xs as : List AV} {K : AV -> List (List CV) -> List Arr -> Prop} {r : AV}
end
attribute [simp] innAsH AV.innH CV.innH innHs AV.outnH CV.outnH
end Go.Av

namespace Go.Av
attribute [-simp] Go.Av.MCo.kind_mk Go.Av.MCo.tag_mk Go.Av.MCo.label_mk Go.Av.MCo.kids_mk
open Go

section
variable {P : Program} {n : Nat} {Q : Exit -> St -> Prop} {s s' : St} {y : Code}

structure OpsH (P : Program) (all : Array Oper) (ow : Nat -> Bool) (wv wa fs : List Nat) (m : Nat) (ex : List Nat) (V0 : List (List CV)) (A0 : List Arr) (K : St -> Prop) (i : Nat) (ops : List Oper) (s : St) : Prop where
 mk ::
 run : aopsH P all ow wv wa fs m ex V0 A0 K i ops s

@[congr] theorem aopsH_cong {all : Array Oper} {ow : Nat -> Bool} {wv wa fs : List Nat} {m : Nat} {ex : List Nat} {V0 : List (List CV)} {A0 : List Arr} {K : St -> Prop} {i i' : Nat} {ops : List Oper} (hi : i = i') (h : s = s') : OpsH P all ow wv wa fs m ex V0 A0 K i ops s = OpsH P all ow wv wa fs m ex V0 A0 K i' ops s' := by rw [h, hi]

end
end Go.Av

namespace Go.Av
attribute [-simp] Go.Av.MCo.kind_mk Go.Av.MCo.tag_mk Go.Av.MCo.label_mk Go.Av.MCo.kids_mk
open Go
end Go.Av

namespace Go.Av
attribute [-simp] Go.Av.MCo.kind_mk Go.Av.MCo.tag_mk Go.Av.MCo.label_mk Go.Av.MCo.kids_mk
open Go
section
variable {P : Program} {g g' g0 : Gh} {w w' w0 : World} {V V' : List (List CV)} {A A' : List Arr}
end
end Go.Av

namespace Go.Av
attribute [-simp] Go.Av.MCo.kind_mk Go.Av.MCo.tag_mk Go.Av.MCo.label_mk Go.Av.MCo.kids_mk Go.Av.freeStepG Go.Av.exA Go.Av.innAsH Go.Av.AV.innH Go.Av.CV.innH Go.Av.innHs Go.Av.AV.outnH Go.Av.CV.outnH
open Go

mutual
def nodesM : MTm -> Nat
 | .mk _ _ _ _ _ _ l => 1 + nodesS l
def nodesS : List MTm -> Nat
 | [] => 0
 | e :: r => nodesM e + nodesS r
end
inductive CaV (n : Int) (e : MTm) (f t : MTy) : MTm -> Int -> Prop
 | same : f = t -> CaV n e f t e n
 | cast : f ≠ t -> CaV n e f t (tCast e f t (n + 1)) (n + 1)
inductive EV : List MBd -> MTm -> Int -> MTm -> MTy -> Int -> Prop
 | var {c : List MBd} {s : List UInt8} {t : MTy} {n : Int} : lookM c s = some t -> EV c (tVar s) n (tVar s) t n
 | num {c : List MBd} {k n : Int} : EV c (tNum k) n (tNum k) intT n
 | tru {c : List MBd} {n : Int} : EV c tTrue n tTrue boolT n
 | fls {c : List MBd} {n : Int} : EV c tFalse n tFalse boolT n
 | lam {c : List MBd} {s : List UInt8} {u t : MTy} {b b' : MTm} {n m : Int} : EV (c ++ [⟨s, u⟩]) b n b' t m -> shapeTy 4 (.mk 4 [u, t]) = true -> EV c (tLam s u b) n (tLam s u b') (.mk 4 [u, t]) m
 | app {c : List MBd} {a b a' b' a2 b2 : MTm} {ta tb x y : MTy} {n n1 n2 n3 n4 : Int} : EV c a n a' ta n1 -> EV c b n1 b' tb n2 -> matchM 4 ta = some (x, y) -> consTy tb x = true ->
   CaV n2 a' ta (.mk 4 [x, y]) a2 n3 -> CaV n3 b' tb x b2 n4 -> EV c (tN2 6 a b) n (tN2 6 a2 b2) y n4
 | op {c : List MBd} {k : Int} {a b a' b' a2 b2 : MTm} {ta tb t : MTy} {n n1 n2 n3 n4 : Int} : (k = 7 /\ t = intT \/ k = 8 /\ t = boolT) -> EV c a n a' ta n1 -> EV c b n1 b' tb n2 -> consTy ta intT = true -> consTy tb intT = true ->
   CaV n2 a' ta intT a2 n3 -> CaV n3 b' tb intT b2 n4 -> EV c (tN2 k a b) n (tN2 k a2 b2) t n4
 | ite {c : List MBd} {p a b p' a' b' p2 a2 b2 : MTm} {tp ta tb : MTy} {n n1 n2 n3 n4 n5 n6 : Int} : EV c p n p' tp n1 -> EV c a n1 a' ta n2 -> EV c b n2 b' tb n3 -> consTy tp boolT = true -> consTy ta tb = true ->
   CaV n3 p' tp boolT p2 n4 -> CaV n4 a' ta (meetTy ta tb) a2 n5 -> CaV n5 b' tb (meetTy ta tb) b2 n6 -> EV c (tIf p a b) n (tIf p2 a2 b2) (meetTy ta tb) n6
 | pair {c : List MBd} {a b a' b' : MTm} {ta tb : MTy} {n n1 n2 : Int} : EV c a n a' ta n1 -> EV c b n1 b' tb n2 -> shapeTy 4 (.mk 5 [ta, tb]) = true -> EV c (tN2 10 a b) n (tN2 10 a' b') (.mk 5 [ta, tb]) n2
 | sel {c : List MBd} {k : Int} {a a' a2 : MTm} {ta x y t : MTy} {n n1 n2 : Int} : (k = 11 /\ t = x \/ k = 12 /\ t = y) -> EV c a n a' ta n1 -> matchM 5 ta = some (x, y) -> CaV n1 a' ta (.mk 5 [x, y]) a2 n2 -> EV c (tN1 k a) n (tN1 k a2) t n2
 | asc {c : List MBd} {a a' a2 : MTm} {ta t : MTy} {n n1 n2 : Int} : EV c a n a' ta n1 -> consTy ta t = true -> CaV n1 a' ta t a2 n2 -> EV c (tAs a t) n a2 t n2

def bareG (e : MTm) : MTm := if e.kind = 13 \/ e.kind = 14 then match e.kids with
  | x :: _ => x
  | [] => e
 else if e.kind = 5 then .mk 5 e.name e.num anyT e.fr e.label e.kids else e
def exactS : List MTy -> List MTy -> Bool
 | [], _ => true
 | w :: ws, h :: hs => sameTy w h && exactS ws hs
 | _ :: _, [] => false
mutual
def castTyM : List MBd -> MTm -> Option MTy
 | c, .mk k s n t f b l => match castTyS (if k = 5 then c ++ [⟨s, t⟩] else c) l with
  | none => none
  | some ts => if k = 14 then match ts with
    | x :: _ => if sameTy x f = true then some t else none
    | [] => none
   else match wantM c k s t ts with
    | none => none
    | some (ws, u) => if shapeTy 4 u = true /\ exactS ws ts = true then some u else none
def castTyS : List MBd -> List MTm -> Option (List MTy)
 | _, [] => some []
 | c, e :: r => match castTyM c e with
  | none => none
  | some t => match castTyS c r with
   | none => none
   | some ts => some (t :: ts)
end
theorem cons_refl (a : MTy) : consTy a a = true := by
 induction a using MTy.ind with
 | h a ih =>
  rw [consTy_def]
  have : ∀ l : List MTy, (∀ u ∈ l, consTy u u = true) -> all2 consTy l l = true := by
   intro l
   induction l with
   | nil => intro _; rfl
   | cons x r ihr => intro h; simp [all2, h x (by simp), ihr fun u hu => h u (by simp [hu])]
  simp [this a.kids ih]
theorem VTy.small {d : Nat} {t : MTy} (h : VTy d t) : nTy t + 2 <= 2 ^ (d + 1) := by
 have key : ∀ d : Nat, 2 <= 2 ^ (d + 2) := fun d => by have : 0 < 2 ^ d := Nat.pow_pos (by omega); rw [Nat.pow_add]; omega
 induction h with
 | any d => have := key d; simpa [nTy_mk, nTyS] using this
 | int d => have := key d; simpa [nTy_mk, nTyS] using this
 | bool d => have := key d; simpa [nTy_mk, nTyS] using this
 | @fn d a b _ _ h1 h2 => rw [Nat.pow_succ]; simp [nTy_mk, nTyS]; omega
 | @pair d a b _ _ h1 h2 => rw [Nat.pow_succ]; simp [nTy_mk, nTyS]; omega
end Go.Av

namespace Go.Av
attribute [-simp] Go.Av.MCo.kind_mk Go.Av.MCo.tag_mk Go.Av.MCo.label_mk Go.Av.MCo.kids_mk
open Go

inductive GC where
 | d (x : DV)
 | t (e : TypeId) (sz n : Nat) (cs : List GC)
 | b (T e : TypeId) (bs : List Value)
 | n (T : TypeId) (row : List DV)

mutual
def Tr (w : World) : GC -> Value -> List Nat -> Prop
 | .d x, v, S => RepD (fun _ => 0) w x v /\ S = []
 | .t e sz n cs, v, S => ∃ xs S', w.ownsRow 0 e sz v n xs /\ TrL w cs xs S' /\ S = v.ownBlock.toList ++ S'
 | .b T e bs, v, S => ∃ b p u, v = .pointer (some ⟨b, 0, none⟩) /\ w.heap[b]? = some (.cells #[p, u] T (0, 0)) /\ (p = .pointer none \/ p = v) /\ w.ownsRow 0 e 1 u bs.length bs /\ S = b :: u.ownBlock.toList
 | .n T row, v, S => ∃ b xs, v = .pointer (some ⟨b, 0, none⟩) /\ w.heap[b]? = some (.cells xs T (0, 0)) /\ xs.size = row.length /\ (∀ (j : Nat) x u, row[j]? = some x -> xs[j]? = some u -> RepD (fun _ => 0) w x u) /\ S = [b]
def TrL (w : World) : List GC -> List Value -> List Nat -> Prop
 | [], xs, S => xs = [] /\ S = []
 | c :: cs, xs, S => ∃ x xs' S1 S2, xs = x :: xs' /\ S = S1 ++ S2 /\ Tr w c x S1 /\ TrL w cs xs' S2
end
def Trs (w : World) : List (GC × Value) -> List Nat -> Prop
 | [], S => S = []
 | (c, v) :: L, S => ∃ S1 S2, S = S1 ++ S2 /\ Tr w c v S1 /\ Trs w L S2

theorem RepD.zero {w w' : World} {x : DV} {v : Value} {im : Nat -> Nat} (h : RepD (fun _ => 0) w x v) : RepD im w' x v :=
 RepD.grows (im := fun _ => 0) (w := w) ⟨fun _ => Nat.zero_le _, fun _ _ ho => absurd ho (Nat.not_lt_zero _)⟩ x v h

mutual
theorem Tr.keep {w w' : World} : ∀ (c : GC) (v : Value) (S : List Nat), (∀ b ∈ S, w'.heap[b]? = w.heap[b]?) -> Tr w c v S -> Tr w' c v S
 | .d x, v, S, _, h => by simp only [Tr] at h ⊢; exact ⟨h.1.zero, h.2⟩
 | .t e sz n cs, v, S, hk, h => by
  simp only [Tr] at h ⊢
  obtain ⟨xs, S', h1, h2, rfl⟩ := h
  exact ⟨xs, S', ownsRow_heap h1 (fun b hb => hk b (by simp [hb])), TrL.keep cs xs S' (fun b hb => hk b (by simp [hb])) h2, rfl⟩
 | .b T e bs, v, S, hk, h => by
  simp only [Tr] at h ⊢
  obtain ⟨b, p, u, rfl, h1, h2, h3, rfl⟩ := h
  exact ⟨b, p, u, rfl, (hk b (by simp)).trans h1, h2, ownsRow_heap h3 (fun x hx => hk x (by simp [hx])), rfl⟩
 | .n T row, v, S, hk, h => by
  simp only [Tr] at h ⊢
  obtain ⟨b, xs, rfl, h1, h2, h3, rfl⟩ := h
  exact ⟨b, xs, rfl, (hk b (by simp)).trans h1, h2, fun j x u h4 h5 => (h3 j x u h4 h5).zero, rfl⟩
theorem TrL.keep {w w' : World} : ∀ (cs : List GC) (xs : List Value) (S : List Nat), (∀ b ∈ S, w'.heap[b]? = w.heap[b]?) -> TrL w cs xs S -> TrL w' cs xs S
 | [], xs, S, _, h => by simp only [TrL] at h ⊢; exact h
 | c :: cs, xs, S, hk, h => by
  simp only [TrL] at h ⊢
  obtain ⟨x, xs', S1, S2, rfl, rfl, h1, h2⟩ := h
  exact ⟨x, xs', S1, S2, rfl, rfl, Tr.keep c x S1 (fun b hb => hk b (by simp [hb])) h1, TrL.keep cs xs' S2 (fun b hb => hk b (by simp [hb])) h2⟩
end
theorem Trs.keep {w w' : World} : ∀ {L : List (GC × Value)} {S : List Nat}, (∀ b ∈ S, w'.heap[b]? = w.heap[b]?) -> Trs w L S -> Trs w' L S
 | [], S, _, h => h
 | (c, v) :: L, S, hk, h => by
  obtain ⟨S1, S2, rfl, h1, h2⟩ := h
  exact ⟨S1, S2, rfl, Tr.keep c v S1 (fun b hb => hk b (by simp [hb])) h1, Trs.keep (fun b hb => hk b (by simp [hb])) h2⟩

mutual
theorem Tr.lt {w : World} : ∀ (c : GC) (v : Value) (S : List Nat), Tr w c v S -> ∀ b ∈ S, b < w.heap.size
 | .d x, v, S, h, b, hb => by simp only [Tr] at h; rw [h.2] at hb; cases hb
 | .t e sz n cs, v, S, h, b, hb => by
  simp only [Tr] at h
  obtain ⟨xs, S', h1, h2, rfl⟩ := h
  rcases List.mem_append.1 hb with h3 | h3
  ·exact (h1.lt b (by simpa using h3)).2
  ·exact TrL.lt cs xs S' h2 b h3
 | .b T e bs, v, S, h, x, hx => by
  simp only [Tr] at h
  obtain ⟨b, p, u, rfl, h1, h2, h3, rfl⟩ := h
  rcases List.mem_cons.1 hx with rfl | hx
  ·exact (Array.getElem?_eq_some_iff.1 h1).1
  ·exact (h3.lt x (by simpa using hx)).2
 | .n T row, v, S, h, x, hx => by
  simp only [Tr] at h
  obtain ⟨b, xs, rfl, h1, h2, h3, rfl⟩ := h
  rw [List.mem_singleton] at hx
  subst hx
  exact (Array.getElem?_eq_some_iff.1 h1).1
theorem TrL.lt {w : World} : ∀ (cs : List GC) (xs : List Value) (S : List Nat), TrL w cs xs S -> ∀ b ∈ S, b < w.heap.size
 | [], xs, S, h, b, hb => by simp only [TrL] at h; rw [h.2] at hb; cases hb
 | c :: cs, xs, S, h, b, hb => by
  simp only [TrL] at h
  obtain ⟨x, xs', S1, S2, rfl, rfl, h1, h2⟩ := h
  rcases List.mem_append.1 hb with h3 | h3
  ·exact Tr.lt c x S1 h1 b h3
  ·exact TrL.lt cs xs' S2 h2 b h3
end
theorem Trs.lt {w : World} : ∀ {L : List (GC × Value)} {S : List Nat}, Trs w L S -> ∀ b ∈ S, b < w.heap.size
 | [], S, h, b, hb => by simp only [Trs] at h; rw [h] at hb; cases hb
 | (c, v) :: L, S, h, b, hb => by
  obtain ⟨S1, S2, rfl, h1, h2⟩ := h
  rcases List.mem_append.1 hb with h3 | h3
  ·exact Tr.lt c v S1 h1 b h3
  ·exact Trs.lt h2 b h3

theorem Trs.app {w : World} : ∀ {L M : List (GC × Value)} {S : List Nat}, Trs w (L ++ M) S ↔ ∃ S1 S2, S = S1 ++ S2 /\ Trs w L S1 /\ Trs w M S2
 | [], M, S => by
  simp only [List.nil_append, Trs]
  constructor
  ·intro h; exact ⟨[], S, rfl, rfl, h⟩
  ·rintro ⟨_, S2, rfl, rfl, h⟩; exact h
 | (c, v) :: L, M, S => by
  simp only [List.cons_append, Trs, Trs.app (L := L)]
  constructor
  ·rintro ⟨S1, S2, rfl, h1, S3, S4, rfl, h2, h3⟩
   exact ⟨S1 ++ S3, S4, by simp, ⟨S1, S3, rfl, h1, h2⟩, h3⟩
  ·rintro ⟨S1, S2, rfl, ⟨S3, S4, rfl, h1, h2⟩, h3⟩
   exact ⟨S3, S4 ++ S2, by simp, h1, S4, S2, rfl, h2, h3⟩
theorem Trs.perm {w : World} {L M : List (GC × Value)} (hp : L.Perm M) : ∀ {S : List Nat}, Trs w L S -> ∃ S', S.Perm S' /\ Trs w M S' := by
 induction hp with
 | nil => exact fun h => ⟨_, .refl _, h⟩
 | cons x _ ih =>
  obtain ⟨c, v⟩ := x
  rintro S ⟨S1, S2, rfl, h1, h2⟩
  obtain ⟨S', h3, h4⟩ := ih h2
  exact ⟨S1 ++ S', h3.append_left S1, S1, S', rfl, h1, h4⟩
 | swap x y l =>
  obtain ⟨c, v⟩ := x
  obtain ⟨c', v'⟩ := y
  rintro S ⟨S1, S2, rfl, h1, S3, S4, rfl, h2, h3⟩
  refine ⟨S3 ++ (S1 ++ S4), ?_, S3, S1 ++ S4, rfl, h2, S1, S4, rfl, h1, h3⟩
  rw [<- List.append_assoc, <- List.append_assoc]
  exact List.perm_append_comm.append_right S4
 | trans _ _ ih1 ih2 =>
  intro S h
  obtain ⟨S', h1, h2⟩ := ih1 h
  obtain ⟨S'', h3, h4⟩ := ih2 h2
  exact ⟨S'', h1.trans h3, h4⟩
theorem Trs.at_ {w : World} : ∀ {L : List (GC × Value)} {S : List Nat}, Trs w L S -> ∀ {c v}, (c, v) ∈ L -> ∃ S', Tr w c v S' /\ ∀ b ∈ S', b ∈ S
 | (c, v) :: L, S, h, c', v', hm => by
  obtain ⟨S1, S2, rfl, h1, h2⟩ := h
  rcases List.mem_cons.1 hm with e | h3
  ·cases e; exact ⟨S1, h1, fun b hb => by simp [hb]⟩
  ·obtain ⟨S', h4, h5⟩ := Trs.at_ h2 h3
   exact ⟨S', h4, fun b hb => by simp [h5 b hb]⟩

def chunks {α : Type} (sz : Nat) : Nat -> List α -> List (List α)
 | 0, _ => []
 | n + 1, l => l.take sz :: chunks sz n (l.drop sz)
theorem chunks_len {α : Type} (sz : Nat) : ∀ (n : Nat) (l : List α), (chunks sz n l).length = n
 | 0, _ => rfl
 | n + 1, l => by simp [chunks, chunks_len sz n]
mutual
def GC.dv : GC -> DV
 | .d x => x
 | .t _ sz n cs => .sl (chunks sz n (dvL cs))
 | .b _ _ _ => .bool false
 | .n _ _ => .bool false
def dvL : List GC -> List DV
 | [] => []
 | c :: cs => c.dv :: dvL cs
end
theorem dvL_map : ∀ (cs : List GC), dvL cs = cs.map GC.dv
 | [] => rfl
 | c :: cs => by simp [dvL, dvL_map cs]
theorem TrL.len {w : World} : ∀ {cs : List GC} {xs : List Value} {S : List Nat}, TrL w cs xs S -> cs.length = xs.length
 | [], xs, S, h => by simp only [TrL] at h; rw [h.1]; rfl
 | c :: cs, xs, S, h => by
  simp only [TrL] at h
  obtain ⟨x, xs', S1, S2, rfl, rfl, h1, h2⟩ := h
  simp [TrL.len h2]

mutual
def GC.pl : GC -> Bool
 | .d _ => true
 | .t _ _ _ cs => plL cs
 | .b _ _ _ => false
 | .n _ _ => false
def plL : List GC -> Bool
 | [] => true
 | c :: cs => c.pl && plL cs
end
def bsz (w : World) (b : Nat) : Nat := match w.heap[b]? with
 | some (.cells cs _ _) => cs.size
 | _ => 0

theorem repRows_chunks {im : Nat -> Nat} {w : World} {b sz : Nat} : ∀ {n : Nat} {l : List DV} {off : Nat}, l.length = n * sz -> (∀ j x, l[j]? = some x -> ∃ u, w.cell? ⟨b, off + j, none⟩ = some u /\ RepD im w x u) -> RepRows im w b sz off (chunks sz n l)
 | 0, l, off, _, _ => by simp [chunks, RepRows]
 | n + 1, l, off, hl, h => by
  rw [Nat.add_mul] at hl
  simp only [chunks, RepRows]
  refine ⟨by rw [List.length_take]; omega, RepRow.mk fun j x hx => ?_, repRows_chunks (by rw [List.length_drop]; omega) fun j x hx => ?_⟩
  ·refine h j x ?_
   rw [List.getElem?_take] at hx
   split at hx
   ·exact hx
   ·cases hx
  ·rw [List.getElem?_drop] at hx
   have := h (sz + j) x hx
   rwa [<- Nat.add_assoc] at this

mutual
theorem Tr.rep {w : World} {im : Nat -> Nat} : ∀ (c : GC) (v : Value) (S : List Nat), c.pl = true -> Tr w c v S -> (∀ b ∈ S, bsz w b <= im b) -> RepD im w c.dv v
 | .d x, v, S, _, h, _ => by simp only [Tr] at h; exact h.1.zero
 | .b _ _ _, v, S, hp, _, _ => by simp [GC.pl] at hp
 | .n _ _, v, S, hp, _, _ => by simp [GC.pl] at hp
 | .t e sz n cs, v, S, hp, h, hS => by
  simp only [Tr] at h
  simp only [GC.pl] at hp
  obtain ⟨xs, S', h1, h2, rfl⟩ := h
  have hcs := TrL.rep cs xs S' hp h2 (fun b hb => hS b (by simp [hb]))
  have hlen : (dvL cs).length = n * sz := by rw [dvL_map, List.length_map, h2.len, h1.1]
  obtain ⟨hxl, h3⟩ := h1
  rcases h3 with ⟨rfl, rfl⟩ | ⟨g, cap, cur, rfl, _, hh, hc, hm, hcur, htake⟩
  ·simp only [GC.dv, RepD, chunks]
   exact ⟨none, 0, rfl, Nat.le_refl _, .inl trivial⟩
  ·have hb := hS g (by simp [Value.ownBlock])
   have hbs : bsz w g = cap * sz := by simp [bsz, hh, hcur]
   have hmul : n * sz <= cap * sz := Nat.mul_le_mul_right sz hc
   simp only [GC.dv, RepD, chunks_len]
   refine ⟨_, cap, rfl, hc, .inr ⟨g, 0, sz, rfl, by omega, repRows_chunks hlen fun j x hx => ?_⟩⟩
   obtain ⟨u, hu, hd⟩ := hcs j x hx
   refine ⟨u, ?_, hd⟩
   rw [<- htake, List.getElem?_take] at hu
   split at hu
   ·have hu' : cur[0 + j]? = some u := by simpa using hu
    simp only [World.cell?, hh]
    exact hu'
   ·cases hu
theorem TrL.rep {w : World} {im : Nat -> Nat} : ∀ (cs : List GC) (xs : List Value) (S : List Nat), plL cs = true -> TrL w cs xs S -> (∀ b ∈ S, bsz w b <= im b) -> ∀ (j : Nat) x, (dvL cs)[j]? = some x -> ∃ u, xs[j]? = some u /\ RepD im w x u
 | [], xs, S, _, _, _, j, x, hx => by simp [dvL] at hx
 | c :: cs, xs, S, hp, h, hS, j, x, hx => by
  simp only [TrL] at h
  simp only [plL, Bool.and_eq_true] at hp
  obtain ⟨y, xs', S1, S2, rfl, rfl, h1, h2⟩ := h
  cases j with
  | zero =>
   simp [dvL] at hx; subst hx
   exact ⟨y, rfl, Tr.rep c y S1 hp.1 h1 (fun b hb => hS b (by simp [hb]))⟩
  | succ j =>
   simp [dvL] at hx
   obtain ⟨u, h3, h4⟩ := TrL.rep cs xs' S2 hp.2 h2 (fun b hb => hS b (by simp [hb])) j x hx
   exact ⟨u, by simpa using h3, h4⟩
end

def DV.scal : DV -> Bool
 | .sl rows => rows.isEmpty
 | _ => true
inductive Mk : List GC -> List DV -> List (GC × Value) -> Prop
 | nil : Mk [] [] []
 | d {x cs ds L} : x.scal = true -> Mk cs ds L -> Mk (.d x :: cs) (x :: ds) L
 | t {e sz n k cs ds L v} : Mk cs ds L -> Mk (.t e sz n k :: cs) (.raw v :: ds) ((.t e sz n k, v) :: L)
 | b {T e bs cs ds L v} : Mk cs ds L -> Mk (.b T e bs :: cs) (.raw v :: ds) ((.b T e bs, v) :: L)
 | n {T row cs ds L v} : Mk cs ds L -> Mk (.n T row :: cs) (.raw v :: ds) ((.n T row, v) :: L)
theorem DV.scal_rep {x : DV} {v : Value} {im im' : Nat -> Nat} {w w' : World} (hs : x.scal = true) (h : RepD im w x v) : RepD im' w' x v := by
 cases x with
 | sl rows =>
  have : rows = [] := by simpa [DV.scal] using hs
  subst this
  simp only [RepD] at h ⊢
  obtain ⟨a, cap, e, h1, _⟩ := h
  exact ⟨a, cap, e, h1, .inl trivial⟩
 | _ => exact h
theorem Mk.trl {w : World} {im : Nat -> Nat} {cs : List GC} {ds : List DV} {L : List (GC × Value)} (h : Mk cs ds L) : ∀ {xs : List Value} {S : List Nat}, xs.length = ds.length -> (∀ (j : Nat) x u, ds[j]? = some x -> xs[j]? = some u -> RepD im w x u) -> Trs w L S -> TrL w cs xs S := by
 induction h with
 | nil =>
  intro xs S hl _ hS
  simp only [Trs] at hS
  simp only [TrL]
  exact ⟨List.length_eq_zero_iff.1 (by simpa using hl), hS⟩
 | @d x cs ds L hs _ ih =>
  intro xs S hl hr hS
  match xs, hl with
  | u :: us, hl =>
   simp only [TrL]
   exact ⟨u, us, [], S, rfl, rfl, by simp only [Tr]; exact ⟨DV.scal_rep hs (hr 0 x u rfl rfl), trivial⟩, ih (by simpa using hl) (fun j x u h1 h2 => hr (j + 1) x u (by simpa using h1) (by simpa using h2)) hS⟩
 | @t e sz n k cs ds L v _ ih =>
  intro xs S hl hr hS
  match xs, hl with
  | u :: us, hl =>
   obtain ⟨S1, S2, rfl, h1, h2⟩ := hS
   have hu := hr 0 _ u rfl rfl
   simp only [RepD] at hu
   obtain ⟨rfl, _⟩ := hu
   simp only [TrL]
   exact ⟨u, us, S1, S2, rfl, rfl, h1, ih (by simpa using hl) (fun j x u h1 h2 => hr (j + 1) x u (by simpa using h1) (by simpa using h2)) h2⟩
 | @b T e bs cs ds L v _ ih =>
  intro xs S hl hr hS
  match xs, hl with
  | u :: us, hl =>
   obtain ⟨S1, S2, rfl, h1, h2⟩ := hS
   have hu := hr 0 _ u rfl rfl
   simp only [RepD] at hu
   obtain ⟨rfl, _⟩ := hu
   simp only [TrL]
   exact ⟨u, us, S1, S2, rfl, rfl, h1, ih (by simpa using hl) (fun j x u h1 h2 => hr (j + 1) x u (by simpa using h1) (by simpa using h2)) h2⟩
 | @n T row cs ds L v _ ih =>
  intro xs S hl hr hS
  match xs, hl with
  | u :: us, hl =>
   obtain ⟨S1, S2, rfl, h1, h2⟩ := hS
   have hu := hr 0 _ u rfl rfl
   simp only [RepD] at hu
   obtain ⟨rfl, _⟩ := hu
   simp only [TrL]
   exact ⟨u, us, S1, S2, rfl, rfl, h1, ih (by simpa using hl) (fun j x u h1 h2 => hr (j + 1) x u (by simpa using h1) (by simpa using h2)) h2⟩
end Go.Av

namespace Go.Av
attribute [-simp] Go.Av.MCo.kind_mk Go.Av.MCo.tag_mk Go.Av.MCo.label_mk Go.Av.MCo.kids_mk
open Go

abbrev Ts := List (GC × Value)

inductive FzC (L : Ts) : CV -> CV -> Prop
 | d {x} : FzC L (.d x) (.d x)
 | nil : FzC L .nil (.d (.sl []))
 | nilk : FzC L .nil .nil
 | np : FzC L .np .np
 | fn {f} : FzC L (.fn f []) (.fn f [])
 | thaw {c v} : (c, v) ∈ L -> c.pl = true -> FzC L (.d (.raw v)) (.d c.dv)
inductive FzL (L : Ts) : List CV -> List CV -> Prop
 | nil : FzL L [] []
 | cons {x y xs ys} : FzC L x y -> FzL L xs ys -> FzL L (x :: xs) (y :: ys)
inductive FzV (L : Ts) : AV -> AV -> Prop
 | c {x y} : FzC L x y -> FzV L (.c x) (.c y)
 | agg {xs ys} : FzL L xs ys -> FzV L (.agg xs) (.agg ys)
inductive FzVs (L : Ts) : List AV -> List AV -> Prop
 | nil : FzVs L [] []
 | cons {x y xs ys} : FzV L x y -> FzVs L xs ys -> FzVs L (x :: xs) (y :: ys)

structure FrX (w0 : World) (g0 : Gh) (X : List Nat) (w : World) (g : Gh) : Prop where
 os : w.os = w0.os
 tape : w.tape = w0.tape
 output : w.output = w0.output
 size : w0.heap.size <= w.heap.size
 blk : ∀ b, b < w0.heap.size -> b ∉ g0.ob -> b ∉ g0.arb -> b ∉ X -> w.heap[b]? = w0.heap[b]?
 imeq : ∀ b, b < w0.heap.size -> b ∉ g0.arb -> b ∉ X -> g.im b = g0.im b
 ob : ∃ new, g.ob = g0.ob ++ new /\ ∀ b ∈ new, w0.heap.size <= b
 ar : ∀ (k : Nat) v b, g.ar[k]? = some v -> v.ownBlock = some b -> w0.heap.size <= b \/ b ∈ g0.arb \/ b ∈ X
 arx : ∀ (k : Nat) v, g0.ar[k]? = some v -> ∃ v', g.ar[k]? = some v' /\ slen v <= slen v' /\ (slen v' = slen v -> v' = v)
 tab : Tab w0 g0
 tabx : ∀ b ∈ X, ¬ tabAt b

section
variable {P : Program} {n : Nat} {w0 w w' : World} {g0 g g' : Gh} {X S S' : List Nat} {s s' : St} {L L' : Ts} {a a' : Act}

theorem FrX.refl (ht : Tab w g) (hx : ∀ b ∈ X, ¬ tabAt b) : FrX w g X w g :=
 ⟨rfl, rfl, rfl, Nat.le_refl _, fun _ _ _ _ _ => rfl, fun _ _ _ _ => rfl, ⟨[], by simp, by simp⟩, fun k v b hk hb => .inr (.inl (Gh.arb_mem hk hb)), fun k v h => ⟨v, h, Nat.le_refl _, fun _ => rfl⟩, ht, hx⟩
theorem FrX.notOb (h : FrX w0 g0 X w g) {b : Nat} (hb : b < w0.heap.size) (h1 : b ∉ g0.ob) : b ∉ g.ob := fun hm => by
 obtain ⟨new, e, hn⟩ := h.ob
 rw [e] at hm
 rcases List.mem_append.1 hm with q | q
 ·exact h1 q
 ·exact absurd (hn b q) (by omega)
theorem FrX.notArb (h : FrX w0 g0 X w g) {b : Nat} (hb : b < w0.heap.size) (h1 : b ∉ g0.arb) (h2 : b ∉ X) : b ∉ g.arb := fun hm => by
 obtain ⟨k, v, q1, q2⟩ := Gh.mem_arb hm
 rcases h.ar k v b q1 q2 with q | q | q
 ·omega
 ·exact h1 q
 ·exact h2 q
theorem FrX.now (h : FrX w0 g0 X w g) : Tab w g := fun b hb => by
 obtain ⟨h1, h2, h3, h4⟩ := h.tab b hb
 refine ⟨Nat.lt_of_lt_of_le h1 h.size, h.notOb h1 h2, h.notArb h1 h3 (fun hx => h.tabx b hx hb), ?_⟩
 rw [h.blk b h1 h2 h3 (fun hx => h.tabx b hx hb)]; exact h4
theorem FrX.fr (h : FrX w0 g0 X w g) (k : Fr w g w' g') : FrX w0 g0 X w' g' := by
 refine ⟨k.os.trans h.os, k.tape.trans h.tape, k.output.trans h.output, Nat.le_trans h.size k.size, fun b h1 h2 h3 h4 => ?_, fun b h1 h2 h3 => ?_, ?_, fun i v b h1 h2 => ?_, fun i v h1 => ?_, h.tab, h.tabx⟩
 ·rw [k.blk b (Nat.lt_of_lt_of_le h1 h.size) (h.notOb h1 h2) (h.notArb h1 h3 h4)]; exact h.blk b h1 h2 h3 h4
 ·rw [k.imeq b (Nat.lt_of_lt_of_le h1 h.size) (h.notArb h1 h2 h3)]; exact h.imeq b h1 h2 h3
 ·obtain ⟨new, e, hn⟩ := h.ob
  obtain ⟨new', e', hn'⟩ := k.ob
  refine ⟨new ++ new', by rw [e', e, List.append_assoc], fun b hb => ?_⟩
  rcases List.mem_append.1 hb with q | q
  ·exact hn b q
  ·exact Nat.le_trans h.size (hn' b q)
 ·rcases k.ar i v b h1 h2 with q | q
  ·exact .inl (Nat.le_trans h.size q)
  ·obtain ⟨j, v', q1, q2⟩ := Gh.mem_arb q
   exact h.ar j v' b q1 q2
 ·obtain ⟨v1, q1, q2, q3⟩ := h.arx i v h1
  obtain ⟨v2, q4, q5, q6⟩ := k.arx i v1 q1
  exact ⟨v2, q4, Nat.le_trans q2 q5, fun e => (q6 (by omega)).trans (q3 (by omega))⟩
structure RpJ (n : Nat) (w0 : World) (g0 : Gh) (X : List Nat) (s : St) (L : Ts) (S : List Nat) (g : Gh) (a : Act) (w : World) : Prop where
 inv : Inv g w s.V s.A
 fr : FrX w0 g0 X w g
 size : a.tmps.size = n
 defers : a.defers = []
 slot : ∀ t x, look s.fr t = some x -> ∃ u, a.tmps[t]? = some u /\ RepV g w s.A x u
 trs : Trs w L S
 nd : S.Nodup
 out : ∀ b ∈ S, g.im b = 0 /\ b ∉ g.ob /\ b ∉ g.arb /\ ¬ tabAt b /\ (w0.heap.size <= b \/ b ∈ X)

theorem RpJ.rp (h : RpJ n w0 g0 X s L S g a w) : Rp n w g s g a w := ⟨h.inv, .refl h.fr.now, h.size, h.defers, h.slot⟩
theorem RpJ.keepS (h : RpJ n w0 g0 X s L S g a w) (k : Fr w g w' g') : Trs w' L S /\ ∀ b ∈ S, g'.im b = 0 /\ b ∉ g'.ob /\ b ∉ g'.arb /\ ¬ tabAt b /\ (w0.heap.size <= b \/ b ∈ X) := by
 have hlt := h.trs.lt
 refine ⟨h.trs.keep fun b hb => k.blk b (hlt b hb) (h.out b hb).2.1 (h.out b hb).2.2.1, fun b hb => ?_⟩
 obtain ⟨h1, h2, h3, h4, h5⟩ := h.out b hb
 have hbl := hlt b hb
 refine ⟨(k.imeq b hbl h3).trans h1, fun hm => ?_, fun hm => ?_, h4, h5⟩
 ·obtain ⟨new, e, hn⟩ := k.ob
  rw [e] at hm
  rcases List.mem_append.1 hm with q | q
  ·exact h2 q
  ·exact absurd (hn b q) (by omega)
 ·obtain ⟨i, v, q1, q2⟩ := Gh.mem_arb hm
  rcases k.ar i v b q1 q2 with q | q
  ·omega
  ·exact h3 q
theorem RpJ.back (h : RpJ n w0 g0 X s L S g a w) (k : Rp n w g s' g' a' w') : RpJ n w0 g0 X s' L S g' a' w' :=
 ⟨k.inv, h.fr.fr k.fr, k.size, k.defers, k.slot, (h.keepS k.fr).1, h.nd, (h.keepS k.fr).2⟩
theorem RpJ.less (h : RpJ n w0 g0 X s L S g a w) {M : Ts} (hp : L.Perm (L' ++ M)) : ∃ S', RpJ n w0 g0 X s L' S' g a w := by
 obtain ⟨S1, h1, h2⟩ := h.trs.perm hp
 obtain ⟨S2, S3, rfl, h3, _⟩ := Trs.app.1 h2
 exact ⟨S2, h.inv, h.fr, h.size, h.defers, h.slot, h3, (List.nodup_append.1 (h1.nodup_iff.1 h.nd)).1, fun b hb => h.out b (h1.mem_iff.2 (by simp [hb]))⟩

def TJ (P : Program) (n : Nat) (c : Code) (Q : Exit -> St -> Ts -> Prop) (s : St) (L : Ts) : Prop :=
 codeOk n c = true -> ∀ w0 g0 X S g a w, RpJ n w0 g0 X s L S g a w -> c.wp P (fun e a' w' => ∃ s' g' L' S', Q e s' L' /\ RpJ n w0 g0 X s' L' S' g' a' w') a w

variable {Q Q' : Exit -> St -> Ts -> Prop} {c x y : Code}
theorem TJ.of_T (h : T P n c (fun e s' => Q e s' L) s) : TJ P n c Q s L := by
 intro hok w0 g0 X S g a w hR
 refine Go.wp_mono (h hok w g g a w hR.rp) ?_
 rintro e a' w' ⟨s', g', h1, h2⟩
 exact ⟨s', g', L, S, h1, hR.back h2⟩
theorem TJ.mono (h : TJ P n c Q s L) (hq : ∀ e s' L', Q e s' L' -> Q' e s' L') : TJ P n c Q' s L :=
 fun hok w0 g0 X S g a w hR => Go.wp_mono (h hok w0 g0 X S g a w hR) fun _ _ _ ⟨s', g', L', S', h1, h2⟩ => ⟨s', g', L', S', hq _ _ _ h1, h2⟩
theorem TJ.less {M : Ts} (hp : L.Perm (L' ++ M)) (h : TJ P n c Q s L') : TJ P n c Q s L := by
 intro hok w0 g0 X S g a w hR
 obtain ⟨S', hR'⟩ := hR.less hp
 exact h hok w0 g0 X S' g a w hR'
def ThenJ (P : Program) (n : Nat) (c : Code) (Q : Exit -> St -> Ts -> Prop) : Exit -> St -> Ts -> Prop
 | .normal, s, L => TJ P n c Q s L
 | e, s, L => Q e s L
theorem TJ.seq (h : TJ P n x (ThenJ P n y Q) s L) : TJ P n (.seq x y) Q s L := by
 intro hok w0 g0 X S g a w hR
 simp only [codeOk, Bool.and_eq_true] at hok
 refine wp_seq (Go.wp_mono (h hok.1 w0 g0 X S g a w hR) ?_)
 rintro e a' w' ⟨s', g', L', S', h1, h2⟩
 cases e with
 | normal => exact h1 hok.2 w0 g0 X S' g' a' w' h2
 | _ => exact ⟨s', g', L', S', h1, h2⟩
theorem TJ.skip (h : Q .normal s L) : TJ P n .skip Q s L := fun _ _ _ _ S g _ _ hR => wp_skip ⟨s, g, L, S, h, hR⟩
theorem TJ.exit {id : Nat} (h : Q (.exit id) s L) : TJ P n (.exit id) Q s L := fun _ _ _ _ S g _ _ hR => wp_exit ⟨s, g, L, S, h, hR⟩
theorem TJ.ret (h : Q .ret s L) : TJ P n .ret Q s L := fun _ _ _ _ S g _ _ hR => wp_ret ⟨s, g, L, S, h, hR⟩
theorem TJ.cond {o : Operand} {b : Bool} (hc : aval s o = some (.c (.d (.bool b)))) (ht : b = true -> TJ P n x Q s L) (hf : b = false -> TJ P n y Q s L) : TJ P n (.cond o x y) Q s L := by
 intro hok w0 g0 X S g a w hR
 simp only [codeOk, Bool.and_eq_true] at hok
 have hv := aval_sound hR.slot hc
 simp only [RepV, RepE, RepC, RepD] at hv
 exact wp_cond_split hv (fun e => ht e hok.1 w0 g0 X S g a w hR) (fun e => hf e hok.2 w0 g0 X S g a w hR)
def InBlockJ (id : Nat) (Q : Exit -> St -> Ts -> Prop) : Exit -> St -> Ts -> Prop
 | .exit id', s, L => if id' = id then Q .normal s L else Q (.exit id') s L
 | e, s, L => Q e s L
theorem TJ.block {id : Nat} (h : TJ P n c (InBlockJ id Q) s L) : TJ P n (.block id c) Q s L := by
 intro hok w0 g0 X S g a w hR
 refine wp_block (Go.wp_mono (h hok w0 g0 X S g a w hR) ?_)
 rintro e a' w' ⟨s', g', L', S', h1, h2⟩
 cases e with
 | exit id' =>
  simp only [InBlockJ] at h1
  simp only [Exit.inBlock]
  split
  ·rename_i e; rw [if_pos e] at h1; exact ⟨s', g', L', S', h1, h2⟩
  ·rename_i e; rw [if_neg e] at h1; exact ⟨s', g', L', S', h1, h2⟩
 | _ => exact ⟨s', g', L', S', h1, h2⟩
def IterJ (P : Program) (n : Nat) (c : Code) (Q : Exit -> St -> Ts -> Prop) : Nat -> St -> Ts -> Prop
 | 0, _, _ => False
 | k + 1, s, L => TJ P n c (fun e s' L' => match e with | .normal => IterJ P n c Q k s' L' | e => Q e s' L') s L
theorem IterJ.succ : ∀ {k : Nat} {s : St} {L : Ts}, IterJ P n c Q k s L -> IterJ P n c Q (k + 1) s L
 | 0, _, _, h => h.elim
 | k + 1, s, L, h => TJ.mono h fun e s' L' h1 => by cases e <;> first | exact IterJ.succ h1 | exact h1
theorem IterJ.le {k k' : Nat} (hk : k <= k') {s : St} {L : Ts} (h : IterJ P n c Q k s L) : IterJ P n c Q k' s L := by
 induction hk with
 | refl => exact h
 | step _ ih => exact ih.succ
theorem TJ.loop_iter {k : Nat} (h : IterJ P n c Q k s L) : TJ P n (.loop c) Q s L := by
 intro hok w0 g0 X S g a w hR
 refine wp_loop_rounds k ?_
 have key : ∀ k s L S g a w, IterJ P n c Q k s L -> RpJ n w0 g0 X s L S g a w -> Code.rounds P c (fun e a' w' => ∃ s' g' L' S', Q e s' L' /\ RpJ n w0 g0 X s' L' S' g' a' w') k a w := by
  intro k
  induction k with
  | zero => intro s L S g a w h _; exact h.elim
  | succ k ih =>
   intro s L S g a w h hR
   rw [rounds_succ]
   refine Go.wp_mono (h hok w0 g0 X S g a w hR) ?_
   rintro e a' w' ⟨s', g', L', S', h1, h2⟩
   cases e with
   | normal => exact ih s' L' S' g' a' w' h1 h2
   | _ => exact ⟨s', g', L', S', h1, h2⟩
 exact key k s L S g a w h hR
theorem TJ.loop (I : Nat -> St -> Ts -> Prop) (h : ∀ k s L, I k s L -> TJ P n c (fun e s' L' => match e with | .normal => ∃ k', k' < k /\ I k' s' L' | e => Q e s' L') s L) {k : Nat} (h0 : I k s L) : TJ P n (.loop c) Q s L := by
 have key : ∀ k s L, I k s L -> IterJ P n c Q (k + 1) s L := by
  intro k
  induction k using Nat.strongRecOn with
  | _ k ih =>
   intro s L hs
   refine TJ.mono (h k s L hs) fun e s' L' h1 => ?_
   cases e with
   | normal => obtain ⟨k', hk, h2⟩ := h1; exact (ih k' hk s' L' h2).le hk
   | _ => exact h1
 exact TJ.loop_iter (key k s L h0)
theorem TJ.forget (fr' : List (Nat × AV)) (hsub : ∀ t x, look fr' t = some x -> look s.fr t = some x) (h : TJ P n c Q ⟨fr', s.V, s.A⟩ L) : TJ P n c Q s L :=
 fun hok w0 g0 X S g a w hR => h hok w0 g0 X S g a w ⟨hR.inv, hR.fr, hR.size, hR.defers, fun t x hx => hR.slot t x (hsub t x hx), hR.trs, hR.nd, hR.out⟩
def RoundJ {α : Type} (St_ : α -> St) (Tr_ : α -> Ts) (m : α -> Nat) (H : α -> Prop) (k : Nat) (Q : Exit -> St -> Ts -> Prop) : Exit -> St -> Ts -> Prop
 | .normal, s', L' => ∃ a' M, m a' < k /\ H a' /\ Sub (St_ a') s' /\ L'.Perm (Tr_ a' ++ M)
 | e, s', L' => Q e s' L'
theorem TJ.loopF {α : Type} (St_ : α -> St) (Tr_ : α -> Ts) (m : α -> Nat) (H : α -> Prop) (h : ∀ a, H a -> TJ P n c (RoundJ St_ Tr_ m H (m a) Q) (St_ a) (Tr_ a)) (a : α) (ha : H a) (hs : Sub (St_ a) s) {M : Ts} (hL : L.Perm (Tr_ a ++ M)) : TJ P n (.loop c) Q s L := by
 refine TJ.loop (fun k s L => ∃ a M, m a = k /\ H a /\ (St_ a).V = s.V /\ (St_ a).A = s.A /\ (∀ t x, look (St_ a).fr t = some x -> look s.fr t = some x) /\ L.Perm (Tr_ a ++ M)) ?_ (k := m a) ⟨a, M, rfl, ha, hs.1, hs.2.1, subL.look hs.2.2, hL⟩
 rintro k s1 L1 ⟨a', M', rfl, h2, h3, h4, h5, h6⟩
 refine TJ.less h6 (TJ.forget (St_ a').fr h5 ?_)
 rw [<- h3, <- h4]
 refine TJ.mono (h a' h2) fun e s2 L2 h7 => ?_
 cases e with
 | normal =>
  obtain ⟨a2, M2, h8, h9, h10, h11⟩ := h7
  exact ⟨_, h8, a2, M2, rfl, h9, h10.1, h10.2.1, subL.look h10.2.2, h11⟩
 | _ => exact h7

def RawV (r : AV) (v : Value) : Prop := ∀ g w A, RepV g w A r v
def FCalls (P : Program) (f : FuncId) (as : List AV) (L : Ts) (R : AV -> Ts -> Prop) : Prop :=
 (∀ args w, (callFunc f args).run P w = .ok (.enter f args) w) /\
 ∀ (g : Gh) (w : World) (vs : Array Value) (S : List Nat), g.ob = [] -> g.ar = [] -> Inv g w [] [] -> Tab w g -> vs.size = as.length -> (∀ (i : Nat) x u, as[i]? = some x -> vs[i]? = some u -> RepV g w [] x u) ->
  Trs w L S -> S.Nodup -> (∀ b ∈ S, g.im b = 0 /\ ¬ tabAt b) ->
  Calls P f vs w fun e w' => ∃ v r L' S', e = .returned v /\ R r L' /\ RawV r v /\ Trs w' L' S' /\ S'.Nodup /\ (∀ b ∈ S', b ∈ S \/ w.heap.size <= b) /\
   w'.os = w.os /\ w'.tape = w.tape /\ w'.output = w.output /\ w.heap.size <= w'.heap.size /\ ∀ b, b < w.heap.size -> b ∉ S -> w'.heap[b]? = w.heap[b]?

theorem FzVs.len {L : Ts} {xs as : List AV} (h : FzVs L xs as) : xs.length = as.length := by
 induction h with
 | nil => rfl
 | cons _ _ ih => simp [ih]
theorem FzVs.at_ {L : Ts} {xs as : List AV} (h : FzVs L xs as) : ∀ {i : Nat} {y : AV}, as[i]? = some y -> ∃ x, xs[i]? = some x /\ FzV L x y := by
 induction h with
 | nil => intro i y hy; simp at hy
 | cons h1 _ ih =>
  intro i y hy
  cases i with
  | zero => simp at hy; subst hy; exact ⟨_, rfl, h1⟩
  | succ i => simp at hy; simpa using ih hy
theorem FzL.len {L : Ts} {xs as : List CV} (h : FzL L xs as) : xs.length = as.length := by
 induction h with
 | nil => rfl
 | cons _ _ ih => simp [ih]
theorem FzL.at_ {L : Ts} {xs as : List CV} (h : FzL L xs as) : ∀ {i : Nat} {y : CV}, as[i]? = some y -> ∃ x, xs[i]? = some x /\ FzC L x y := by
 induction h with
 | nil => intro i y hy; simp at hy
 | cons h1 _ ih =>
  intro i y hy
  cases i with
  | zero => simp at hy; subst hy; exact ⟨_, rfl, h1⟩
  | succ i => simp at hy; simpa using ih hy

def frz (g : Gh) (w : World) (S : List Nat) : Gh := { ob := [], ar := [], im := fun b => if b ∈ S then bsz w b else g.im b }
theorem FzC.rep {A : List Arr} {x y : CV} (h : FzC L x y) (hS : ∀ b ∈ S, g.im b = 0) (hT : Trs w L S) {u : Value} (hr : RepC g w A x u) : RepC (frz g w S) w [] y u := by
 have hle : ∀ b, g.im b <= (frz g w S).im b := fun b => by
  simp only [frz]
  split
  ·rename_i h; rw [hS b h]; exact Nat.zero_le _
  ·exact Nat.le_refl _
 cases h with
 | @d x => exact RepD.grows ⟨hle, fun _ _ _ => rfl⟩ x u hr
 | nil =>
  simp only [RepC] at hr
  subst hr
  simp only [RepC, RepD]
  exact ⟨none, 0, rfl, Nat.le_refl _, .inl trivial⟩
 | nilk => exact hr
 | np => exact hr
 | fn =>
  obtain ⟨bks, h1, h2, _⟩ := hr
  exact ⟨bks, h1, h2, fun i l b h => by simp at h⟩
 | @thaw c v hm hpl =>
  simp only [RepC, RepD] at hr
  obtain ⟨rfl, _⟩ := hr
  obtain ⟨S', h1, h2⟩ := hT.at_ hm
  exact Tr.rep c _ S' hpl h1 fun b hb => by simp [frz, h2 b hb]
theorem FzV.rep {A : List Arr} {x y : AV} (h : FzV L x y) (hS : ∀ b ∈ S, g.im b = 0) (hT : Trs w L S) {u : Value} (hr : RepV g w A x u) : RepV (frz g w S) w [] y u := by
 cases h with
 | @c x y h => exact FzC.rep (A := A) h hS hT hr
 | @agg xs ys h =>
  obtain ⟨vs, e, hl, hc⟩ := hr
  refine ⟨vs, e, by rw [hl, h.len], fun i y u h1 h2 => ?_⟩
  obtain ⟨x, h3, h4⟩ := h.at_ h1
  exact h4.rep hS hT (hc i x u h3 h2)

def wpcallJ (P : Program) (s : St) (L : Ts) (f : FuncId) (xs : List AV) (K : AV -> List (List CV) -> List Arr -> Ts -> Prop) : Prop :=
 wpcall P s f xs (fun x V A => K x V A L) \/
 ∃ (as : List AV) (L1 L2 : Ts) (R : AV -> Ts -> Prop), L.Perm (L1 ++ L2) /\ FzVs L2 xs as /\ FCalls P f as L1 R /\ ∀ r L1', R r L1' -> K r s.V s.A (L1' ++ L2)

theorem Trs.mem_nodup {S1 S2 : List Nat} (h : (S1 ++ S2).Nodup) : ∀ b ∈ S1, b ∉ S2 := fun b h1 h2 => (List.nodup_append.1 h).2.2 b h1 b h2 rfl

theorem fcall_sound (hR : RpJ n w0 g0 X s L S g a w) {f : FuncId} {xs as : List AV} {L1 L2 : Ts} {R : AV -> Ts -> Prop} (hp : L.Perm (L1 ++ L2)) (hfz : FzVs L2 xs as) (hc : FCalls P f as L1 R) {vs : Array Value} (hl : vs.size = xs.length)
  (hr : ∀ (i : Nat) x u, xs[i]? = some x -> vs[i]? = some u -> RepV g w s.A x u) :
  Calls P f vs w fun e w' => ∃ v r L' S', e = .returned v /\ R r L' /\ RawV r v /\ Inv g w' s.V s.A /\ Ext g w s.A g w' s.A /\ FrX w0 g0 X w' g /\ Trs w' (L' ++ L2) S' /\ S'.Nodup /\ ∀ b ∈ S', g.im b = 0 /\ b ∉ g.ob /\ b ∉ g.arb /\ ¬ tabAt b /\ (w0.heap.size <= b \/ b ∈ X) := by
 obtain ⟨S0, hS0, hT⟩ := hR.trs.perm hp
 obtain ⟨S1, S2, rfl, hT1, hT2⟩ := Trs.app.1 hT
 have hnd : (S1 ++ S2).Nodup := hS0.nodup_iff.1 hR.nd
 have hout : ∀ b ∈ S1 ++ S2, _ := fun b hb => hR.out b (hS0.mem_iff.2 hb)
 have h12 := Trs.mem_nodup hnd
 have hz1 : ∀ b ∈ S1, g.im b = 0 := fun b hb => (hout b (by simp [hb])).1
 have hz2 : ∀ b ∈ S2, g.im b = 0 := fun b hb => (hout b (by simp [hb])).1
 have hTab := hR.fr.now
 have hInvF : Inv (frz g w S2) w [] [] := ⟨rfl, rfl, fun l row b h => by simp at h, fun k r v h => by simp at h, fun l l' b h => by simp [frz] at h, fun k k' v v' b h => by simp [frz] at h, fun l k v b h => by simp [frz] at h, fun b hb => by
  have : b ∉ S2 := fun h => absurd (hT2.lt b h) (by omega)
  simp only [frz, if_neg this]; exact hR.inv.fresh b hb⟩
 have hTabF : Tab w (frz g w S2) := hTab.less (by simp [frz]) (by simp [frz, Gh.arb])
 refine (hc.2 (frz g w S2) w vs S1 rfl rfl hInvF hTabF (by rw [hl, hfz.len]) (fun i y u h1 h2 => ?_) hT1 (List.nodup_append.1 hnd).1 (fun b hb => ⟨by simp only [frz, if_neg (h12 b hb)]; exact hz1 b hb, (hout b (by simp [hb])).2.2.2.1⟩)).mono ?_
 ·obtain ⟨x, h3, h4⟩ := hfz.at_ h1
  exact h4.rep hz2 hT2 (hr i x u h3 h2)
 rintro e w' ⟨v, r, L', S', rfl, hRr, hraw, hT', hnd', hin, ho, ht, hop, hsz, hblk⟩
 have hgood : ∀ b, b < w.heap.size -> b ∈ g.ob \/ b ∈ g.arb \/ 0 < g.im b -> w'.heap[b]? = w.heap[b]? := fun b hb hx => hblk b hb fun hm => by
  obtain ⟨q1, q2, q3, _⟩ := hout b (by simp [hm])
  rcases hx with h | h | h
  ·exact q2 h
  ·exact q3 h
  ·omega
 have hx : Ext g w s.A g w' s.A := ⟨fun _ _ h => h, ⟨fun _ => Nat.le_refl _, fun b o hlt => by
  have hb := hR.inv.imLt hlt
  exact World.cell?_of_block (a := ⟨b, o, none⟩) (hgood b hb (.inr (.inr (by omega))))⟩, fun _ r h => ⟨r, h, rfl, Nat.le_refl _, fun _ => rfl⟩⟩
 have hInv : Inv g w' s.V s.A := ⟨hR.inv.obl, hR.inv.arl, fun l row b h1 h2 => hR.inv.objKeep hx h1 h2 (hgood b (hR.inv.obLt h2) (.inl (List.mem_of_getElem? h2))) (hR.inv.obj l row b h1 h2).1,
  fun k r v h1 h2 => hR.inv.arrKeep hx h1 h2 (fun b hb => hgood b (hR.inv.arLt h2 hb) (.inr (.inl (Gh.arb_mem h2 hb)))) (fun _ _ => rfl), hR.inv.obob, hR.inv.arar, hR.inv.obar, fun b hb => hR.inv.fresh b (by omega)⟩
 have hX : ∀ b ∈ S1, w0.heap.size <= b \/ b ∈ X := fun b hb => (hout b (by simp [hb])).2.2.2.2
 have hF : FrX w0 g0 X w' g := ⟨ho.trans hR.fr.os, ht.trans hR.fr.tape, hop.trans hR.fr.output, Nat.le_trans hR.fr.size hsz, fun b h1 h2 h3 h4 => by
  rw [hblk b (Nat.lt_of_lt_of_le h1 hR.fr.size) (fun hm => by rcases hX b hm with q | q; omega; exact h4 q)]
  exact hR.fr.blk b h1 h2 h3 h4, hR.fr.imeq, hR.fr.ob, hR.fr.ar, hR.fr.arx, hR.fr.tab, hR.fr.tabx⟩
 have hT2' : Trs w' L2 S2 := hT2.keep fun b hb => hblk b (hT2.lt b hb) fun hm => h12 b hm hb
 have hoblt : ∀ b ∈ g.ob, b < w.heap.size := fun b hb => by
  obtain ⟨l, hl⟩ := List.getElem?_of_mem hb
  exact hR.inv.obLt hl
 have harlt : ∀ b ∈ g.arb, b < w.heap.size := fun b hb => by
  obtain ⟨k, v, q1, q2⟩ := Gh.mem_arb hb
  exact hR.inv.arLt q1 q2
 refine ⟨v, r, L', S' ++ S2, rfl, hRr, hraw, hInv, hx, hF, Trs.app.2 ⟨S', S2, rfl, hT', hT2'⟩, List.nodup_append.2 ⟨hnd', (List.nodup_append.1 hnd).2.1, fun b hb c hc => ?_⟩, fun b hb => ?_⟩
 ·rintro rfl
  rcases hin b hb with q | q
  ·exact h12 b q hc
  ·exact absurd (hT2.lt b hc) (by omega)
 ·rcases List.mem_append.1 hb with hb | hb
  ·rcases hin b hb with q | q
   ·exact hout b (by simp [q])
   ·refine ⟨hR.inv.fresh b q, fun hm => absurd (hoblt b hm) (by omega), fun hm => absurd (harlt b hm) (by omega), fun hm => ?_, .inl (Nat.le_trans hR.fr.size q)⟩
    have := (hTab b hm).1
    omega
  ·exact hout b (by simp [hb])
end
end Go.Av

namespace Go.Av
attribute [-simp] Go.Av.MCo.kind_mk Go.Av.MCo.tag_mk Go.Av.MCo.label_mk Go.Av.MCo.kids_mk
open Go

section
variable {P : Program} {n : Nat} {w0 w w' : World} {g0 g g' : Gh} {X S S' : List Nat} {s s' : St} {L L' : Ts} {a a' : Act} {Q : Exit -> St -> Ts -> Prop} {x y : Code}

def astepJ (P : Program) (s : St) (L : Ts) (ow : Bool) (o : Oper) (K : AV -> List (List CV) -> List Arr -> Ts -> Prop) : Prop :=
 match o.op with
 | .call { callee := .value f, args, .. } => onv (aval s f) fun fv => match fv with
  | .c (.fn fid cap) => onv (avals s args.toList) fun xs => wpcallJ P s L fid (xs ++ cap.map fun l => .c (.ptr l 0)) K
  | _ => False
 | op => wpo P s ow op fun x V A => K x V A L

theorem astepJ_wp (hR : RpJ n w0 g0 X s L S g a w) {ow : Bool} {o : Oper} {K : AV -> List (List CV) -> List Arr -> Ts -> Prop} (h : astepJ P s L ow o K) (next : Act -> World -> Prop) (Q : Exit -> Act -> World -> Prop)
  (hn : ∀ x V' A' L' S' v w' g', K x V' A' L' -> RepV g' w' A' x v -> Inv g' w' V' A' -> Ext g w s.A g' w' A' -> FrX w0 g0 X w' g' -> Trs w' L' S' -> S'.Nodup -> (∀ b ∈ S', g'.im b = 0 /\ b ∉ g'.ob /\ b ∉ g'.arb /\ ¬ tabAt b /\ (w0.heap.size <= b \/ b ∈ X)) -> next (a.put o.dst v) w') : o.wp P a w next Q := by
 have plain : astep P s ow o (fun x V A => K x V A L) -> o.wp P a w next Q := by
  intro h
  obtain ⟨x, V', A', h1, h2⟩ := astep_wp hR.inv (Fr.refl hR.fr.now) hR.slot h
  exact h2 next Q fun v w' g' h3 h4 h5 h6 => hn x V' A' L S v w' g' h1 h3 h4 h5 (hR.fr.fr h6) (hR.keepS h6).1 hR.nd (hR.keepS h6).2
 unfold astepJ at h
 split at h
 ·rename_i f args argTypes heq
  refine onv_elim h fun fv h1 h2 => ?_
  split at h2
  ·rename_i fid cap
   refine onv_elim h2 fun xs h3 h4 => ?_
   rcases h4 with h4 | ⟨as, L1, L2, R, hp, hfz, hc, hK⟩
   ·refine plain ?_
    unfold astep
    rw [heq]
    simp only [h1, h3, onv]
    exact h4
   ·have hfv := aval_sound hR.slot h1
    obtain ⟨h5, h6⟩ := avals_sound hR.slot h3
    have h5' : xs.length = args.size := by rw [h5, Array.length_toList]
    obtain ⟨bks, h7, h8, h9⟩ : RepC g w s.A (.fn fid cap) (a.eval f) := hfv
    have hargs : args.map a.eval ++ (bks.map fun b => Value.pointer (some ⟨b, 0, none⟩)).toArray = ((args.toList.map a.eval) ++ bks.map fun b => Value.pointer (some ⟨b, 0, none⟩)).toArray := by
     apply Array.ext'; simp
    have hcall := fcall_sound (vs := ((args.toList.map a.eval) ++ bks.map fun b => Value.pointer (some ⟨b, 0, none⟩)).toArray) hR hp hfz hc (by simp [h5, h8]) (fun i x u h10 h11 => by
     simp only [List.getElem?_toArray] at h11
     by_cases hi : i < xs.length
     ·rw [List.getElem?_append_left hi] at h10
      rw [List.getElem?_append_left (by simp; omega)] at h11
      exact h6 i x u h10 h11
     ·rw [List.getElem?_append_right (by omega)] at h10
      rw [List.getElem?_append_right (by simp; omega)] at h11
      simp only [List.getElem?_map, Option.map_eq_some_iff] at h10 h11
      obtain ⟨l, h12, rfl⟩ := h10
      obtain ⟨b, h13, rfl⟩ := h11
      exact ⟨b, h9 _ l b h12 (by rw [<- h13]; congr 1; simp [h5]), rfl⟩)
    have hrun : (execOp a.eval o).run P w = .ok (.enter fid ((args.toList.map a.eval) ++ bks.map fun b => Value.pointer (some ⟨b, 0, none⟩)).toArray) w := by
     simp only [execOp, heq, resolve, h7, Deferred.ofValue, Sem.run_bind, Sem.run_pure, Result.andThen_ok, invoke, Array.empty_append]
     rw [hc.1, hargs]
    unfold Oper.wp
    rw [hrun]
    show Calls P fid _ w _
    refine hcall.mono ?_
    rintro e w' ⟨v, r, L1', S', rfl, h14, h15, h16, h17, h18, h19, h20, h21⟩
    exact hn r s.V s.A _ S' v w' g (hK r L1' h14) (h15 g w' s.A) h16 h17 h18 h19 h20 h21
  ·exact h2.elim
 ·rename_i hne
  refine plain ?_
  unfold astep
  split
  ·rename_i heq; exact absurd heq (hne _ _ _)
  ·exact h

theorem RpJ.put (h : RpJ n w0 g0 X s L S g a w) {dst : Option Tmp} (hd : ∀ d, dst = some d -> d < n) {x : AV} {v : Value} {V' : List (List CV)} {A' : List Arr} (hr : RepV g' w' A' x v) (hI : Inv g' w' V' A') (hx : Ext g w s.A g' w' A') (hF : FrX w0 g0 X w' g')
  (hT : Trs w' L' S') (hnd : S'.Nodup) (ho : ∀ b ∈ S', g'.im b = 0 /\ b ∉ g'.ob /\ b ∉ g'.arb /\ ¬ tabAt b /\ (w0.heap.size <= b \/ b ∈ X)) : RpJ n w0 g0 X (s.put dst x V' A') L' S' g' (a.put dst v) w' := by
 refine ⟨hI, hF, ?_, ?_, fun t y hy => ?_, hT, hnd, ho⟩
 ·cases dst <;> simp [Act.put, h.size]
 ·cases dst <;> simp [Act.put, h.defers]
 ·cases dst with
  | none =>
   obtain ⟨u, h1, h2⟩ := h.slot t y hy
   exact ⟨u, h1, RepV.ext hx h2⟩
  | some d =>
   have hdn := hd d rfl
   simp only [St.put, look] at hy
   by_cases e : t = d
   ·subst e
    simp at hy; subst hy
    refine ⟨v, ?_, hr⟩
    have : t < a.tmps.size := by rw [h.size]; exact hdn
    simp [Act.put, this]
   ·rw [if_neg e] at hy
    obtain ⟨u, h1, h2⟩ := h.slot t y hy
    refine ⟨u, ?_, RepV.ext hx h2⟩
    simp only [Act.put]
    rw [Array.getElem?_setIfInBounds_ne (fun e' => e e'.symm)]; exact h1

structure OpsJ (P : Program) (n : Nat) (all : Array Oper) (ow : Nat -> Bool) (K : St -> Ts -> Prop) (i : Nat) (ops : List Oper) (s : St) (L : Ts) : Prop where
 mk ::
 run : dstsOk n ops = true -> ∀ (w0 : World) (g0 : Gh) (X S : List Nat) (g : Gh) (a : Act) (w : World) (Q : Exit -> Act -> World -> Prop), RpJ n w0 g0 X s L S g a w ->
  (∀ s' L' S' g' a' w', K s' L' -> RpJ n w0 g0 X s' L' S' g' a' w' -> Q .normal a' w') -> wpList P all Q ops a w
theorem aopsJ_go {all : Array Oper} {ow : Nat -> Bool} {K : St -> Ts -> Prop} {i : Nat} {o : Oper} {rest : List Oper} (h : gdo all s o (astepJ P s L (ow i) o fun x V A L' => OpsJ P n all ow K (i + 1) rest (s.put o.dst x V A) L') (OpsJ P n all ow K (i + 1) rest (s.put o.dst (.c .undef) s.V s.A) L)) : OpsJ P n all ow K i (o :: rest) s L := by
 refine ⟨fun hd w0 g0 X S g a w Q hR hQ => ?_⟩
 simp only [dstsOk, List.all_cons, Bool.and_eq_true] at hd
 have hdst : ∀ d, o.dst = some d -> d < n := fun d e => by have := hd.1; rw [e] at this; simpa using this
 unfold wpList
 rcases gdo_sound hR.rp h with ⟨h1, h2⟩ | ⟨h1, h2⟩
 ·rw [if_pos h1]
  exact .inl (astepJ_wp hR h2 _ _ fun x V' A' L' S' v w' g' h3 h4 h5 h6 h7 h8 h9 h10 => h3.run hd.2 w0 g0 X S' g' _ w' Q (hR.put hdst h4 h5 h6 h7 h8 h9 h10) hQ)
 ·rw [if_neg (by rw [h1]; simp)]
  exact h2.run hd.2 w0 g0 X S g _ w Q (hR.put hdst (x := .c .undef) (v := undef) rfl hR.inv (.refl _ _ _) hR.fr hR.trs hR.nd hR.out) hQ
theorem aopsJ_end {all : Array Oper} {ow : Nat -> Bool} {K : St -> Ts -> Prop} {i : Nat} (h : K s L) : OpsJ P n all ow K i [] s L := ⟨fun _ _ _ _ S g a w _ hR hQ => hQ s L S g a w h hR⟩
theorem OpsJ.gen {all : Array Oper} {ow : Nat -> Bool} {K : St -> Ts -> Prop} {i : Nat} {ops : List Oper} {d : Nat} {b : Bool} {fr : List (Nat × AV)} {V : List (List CV)} {A : List Arr} (h : ∀ q : Bool, b = q -> OpsJ P n all ow K i ops ⟨(d, .c (.d (.bool q))) :: fr, V, A⟩ L) : OpsJ P n all ow K i ops ⟨(d, .c (.d (.bool b))) :: fr, V, A⟩ L := h b rfl
@[congr] theorem aopsJ_cong {all : Array Oper} {ow : Nat -> Bool} {K : St -> Ts -> Prop} {i i' : Nat} {ops : List Oper} (hi : i = i') (h : s = s') : OpsJ P n all ow K i ops s L = OpsJ P n all ow K i' ops s' L := by rw [h, hi]
@[congr] theorem astepJ_cong {o : Oper} {ow : Bool} {K : AV -> List (List CV) -> List Arr -> Ts -> Prop} (h : s = s') : astepJ P s L ow o K = astepJ P s' L ow o K := by rw [h]
@[congr] theorem wpcallJ_cong {f : FuncId} {xs xs' : List AV} {K : AV -> List (List CV) -> List Arr -> Ts -> Prop} (hs : s = s') (hx : xs = xs') : wpcallJ P s L f xs K = wpcallJ P s' L f xs' K := by subst hs; subst hx; rfl

theorem TJ.region {id : Nat} {ops : Array Oper} (ow : Nat -> Bool) (h : OpsJ P n ops ow (fun s' L' => Q .normal s' L') 0 ops.toList s L) : TJ P n (.region id ops false) Q s L := by
 intro hok w0 g0 X S g a w hR
 exact wp_region_list (h.run hok w0 g0 X S g a w _ hR fun s' L' S' g' a' w' h1 h2 => ⟨s', g', L', S', h1, h2⟩)
theorem TJ.rs {id : Nat} {l : List Oper} (ow : Nat -> Bool) (h : ∀ K : St -> Ts -> Prop, (∀ s' L', TJ P n y Q s' L' -> K s' L') -> OpsJ P n l.toArray ow K 0 l s L) : TJ P n (.seq (.region id l.toArray false) y) Q s L :=
 TJ.seq (TJ.region ow (h _ fun _ _ h => h))
theorem TJ.rs1 {id : Nat} {l : List Oper} (ow : Nat -> Bool) (h : ∀ K : St -> Ts -> Prop, (∀ s' L', Q .normal s' L' -> K s' L') -> OpsJ P n l.toArray ow K 0 l s L) : TJ P n (.region id l.toArray false) Q s L :=
 TJ.region ow (h _ fun _ _ h => h)
def ThenT (P : Program) (n : Nat) (c : Code) (Q : Exit -> St -> Ts -> Prop) (L : Ts) : Exit -> St -> Prop
 | .normal, s => TJ P n c Q s L
 | e, s => Q e s L
theorem TJ.seqT (h : T P n x (ThenT P n y Q L) s) : TJ P n (.seq x y) Q s L :=
 TJ.seq (TJ.of_T (T.mono h fun e s' h1 => by cases e <;> exact h1))

variable {f : FuncId} {xs as : List AV} {r : AV} {K : AV -> List (List CV) -> List Arr -> Ts -> Prop}
theorem wpcallJ_pure (hin : innAs s.A [] xs = some as) (hc : ACalls P f as [] r [] []) (hK : K (r.outn [] s.V.length s.A.length) s.V (sealAs s.A (argCells xs)) L) : wpcallJ P s L f xs K := .inl (wpcall_pure hin hc hK)
theorem wpcallJ_new {R : AV -> Ts -> Prop} (hfz : FzVs L xs as) (hc : FCalls P f as [] R) (hK : ∀ r L1, R r L1 -> K r s.V s.A (L1 ++ L)) : wpcallJ P s L f xs K := .inr ⟨as, [], L, R, by simp, hfz, hc, hK⟩
theorem wpcallJ_mut {R : AV -> Ts -> Prop} {L1 L2 : Ts} (hp : L.Perm (L1 ++ L2)) (hfz : FzVs L2 xs as) (hc : FCalls P f as L1 R) (hK : ∀ r L1, R r L1 -> K r s.V s.A (L1 ++ L2)) : wpcallJ P s L f xs K := .inr ⟨as, L1, L2, R, hp, hfz, hc, hK⟩

def CV.scal : CV -> Bool
 | .d x => x.scal
 | .np => true
 | _ => false
def AV.scal1 : AV -> Bool
 | .c x => x.scal
 | .agg xs => xs.all CV.scal
 | .tup _ => false
def AV.scal : AV -> Bool
 | .tup xs => xs.all AV.scal1
 | x => x.scal1
theorem CV.scal_rep {c : CV} {v : Value} {A A' : List Arr} (hs : c.scal = true) (h : RepC g w A c v) : RepC g' w' A' c v := by
 cases c with
 | d x => exact DV.scal_rep hs h
 | np => exact h
 | _ => simp [CV.scal] at hs
theorem AV.scal1_rep {x : AV} {v : Value} {A A' : List Arr} (hs : x.scal1 = true) (h : RepE g w A x v) : RepE g' w' A' x v := by
 cases x with
 | c x => exact CV.scal_rep hs h
 | agg xs =>
  obtain ⟨vs, e, hl, hc⟩ := h
  simp only [AV.scal1, List.all_eq_true] at hs
  exact ⟨vs, e, hl, fun i x u h1 h2 => CV.scal_rep (hs x (List.mem_of_getElem? h1)) (hc i x u h1 h2)⟩
 | tup _ => exact h.elim
theorem AV.scal_rep {x : AV} {v : Value} {A A' : List Arr} (hs : x.scal = true) (h : RepV g w A x v) : RepV g' w' A' x v := by
 cases x with
 | tup xs =>
  obtain ⟨vs, e, hl, hc⟩ := h
  simp only [AV.scal, List.all_eq_true] at hs
  exact ⟨vs, e, hl, fun i x u h1 h2 => AV.scal1_rep (hs x (List.mem_of_getElem? h1)) (hc i x u h1 h2)⟩
 | c x => exact AV.scal1_rep (x := .c x) hs h
 | agg xs => exact AV.scal1_rep (x := .agg xs) hs h

theorem FCalls.of_plain (hc : ACalls P f as [] r [] []) (hs : r.scal = true) : FCalls P f as [] fun r' L' => r' = r /\ L' = [] := by
 refine ⟨hc.1, fun g w vs S h1 h2 hI hT hl hr hS hnd hz => ?_⟩
 simp only [Trs] at hS
 subst hS
 refine (hc.2.2 g w vs h2 hI hT hl hr).mono ?_
 rintro e w' ⟨v, g', rfl, h3, h4, h5⟩
 exact ⟨v, r, [], [], rfl, ⟨rfl, rfl⟩, fun g w A => AV.scal_rep hs h3, rfl, List.nodup_nil, by simp, h5.os, h5.tape, h5.output, h5.size, fun b hb _ => h5.blk b hb (by simp [h1]) (by simp [Gh.arb, h2])⟩
theorem wpcallJ_scal (hfz : FzVs L xs as) (hc : ACalls P f as [] r [] []) (hs : r.scal = true) (hK : K r s.V s.A L) : wpcallJ P s L f xs K :=
 wpcallJ_new hfz (FCalls.of_plain hc hs) (by rintro _ _ ⟨rfl, rfl⟩; exact hK)
end
end Go.Av

namespace Go.Av
attribute [-simp] Go.Av.MCo.kind_mk Go.Av.MCo.tag_mk Go.Av.MCo.label_mk Go.Av.MCo.kids_mk
open Go

def relC (k : Option (Nat × Nat × Value)) : CV -> Option CV
 | .d x => if x.scal = true then some (.d x) else none
 | .np => some .np
 | .nil => some (.d (.raw (.slice none 0 0)))
 | .own j m => match k with
  | some (i, m', v) => if j = i /\ m = m' then some (.d (.raw v)) else none
  | none => none
 | _ => none
def relL (k : Option (Nat × Nat × Value)) : List CV -> Option (List CV)
 | [] => some []
 | c :: r => match relC k c, relL k r with
  | some d, some ds => some (d :: ds)
  | _, _ => none
def relV (k : Option (Nat × Nat × Value)) : AV -> Option AV
 | .c x => (relC k x).map AV.c
 | .agg xs => (relL k xs).map AV.agg
 | .tup _ => none
def relVs (k : Option (Nat × Nat × Value)) : List AV -> Option (List AV)
 | [] => some []
 | c :: r => match relV k c, relVs k r with
  | some d, some ds => some (d :: ds)
  | _, _ => none

section
variable {g g' : Gh} {w w' : World} {A A' : List Arr} {k : Option (Nat × Nat × Value)}
def RelOk (g : Gh) (A : List Arr) (k : Option (Nat × Nat × Value)) : Prop := ∀ i m v, k = some (i, m, v) -> v.oneCell' = true /\ ∃ r, A[i]? = some r /\ m = r.rows.length /\ g.ar[i]? = some v
theorem relC_sound (hk : RelOk g A k) {c d : CV} {u : Value} (h : relC k c = some d) (hr : RepC g w A c u) : RepC g' w' A' d u := by
 cases c with
 | d x =>
  simp only [relC] at h
  split at h
  ·rename_i hs; simp at h; subst h; exact DV.scal_rep hs hr
  ·cases h
 | np => simp only [relC, Option.some.injEq] at h; subst h; exact hr
 | nil =>
  simp only [relC, Option.some.injEq] at h; subst h
  simp only [RepC] at hr
  subst hr
  exact ⟨rfl, rfl⟩
 | own j m =>
  simp only [relC] at h
  split at h
  ·rename_i i m' v
   split at h
   ·rename_i e
    obtain ⟨rfl, rfl⟩ := e
    simp at h; subst h
    obtain ⟨h1, r, h2, h3, h4⟩ := hk _ _ _ rfl
    obtain ⟨a, cap, _, r', h5, _, h6⟩ := hr
    rw [h2] at h5; cases h5
    have h7 := h6 h3
    rw [h4] at h7
    cases h7
    exact ⟨rfl, h1⟩
   ·cases h
  ·cases h
 | _ => simp [relC] at h
theorem relL_at : ∀ {cs ds : List CV}, relL k cs = some ds -> ds.length = cs.length /\ ∀ (j : Nat) c d, cs[j]? = some c -> ds[j]? = some d -> relC k c = some d
 | [], ds, h => by simp [relL] at h; subst h; exact ⟨rfl, fun j c d h => by simp at h⟩
 | c :: r, ds, h => by
  simp only [relL] at h
  split at h
  ·rename_i d ds' h1 h2
   simp at h; subst h
   obtain ⟨h3, h4⟩ := relL_at h2
   refine ⟨by simp [h3], fun j c' d' h5 h6 => ?_⟩
   cases j with
   | zero => simp at h5 h6; subst h5; subst h6; exact h1
   | succ j => simp at h5 h6; exact h4 j c' d' h5 h6
  ·simp at h
theorem relVs_at : ∀ {cs ds : List AV}, relVs k cs = some ds -> ds.length = cs.length /\ ∀ (j : Nat) c d, cs[j]? = some c -> ds[j]? = some d -> relV k c = some d
 | [], ds, h => by simp [relVs] at h; subst h; exact ⟨rfl, fun j c d h => by simp at h⟩
 | c :: r, ds, h => by
  simp only [relVs] at h
  split at h
  ·rename_i d ds' h1 h2
   simp at h; subst h
   obtain ⟨h3, h4⟩ := relVs_at h2
   refine ⟨by simp [h3], fun j c' d' h5 h6 => ?_⟩
   cases j with
   | zero => simp at h5 h6; subst h5; subst h6; exact h1
   | succ j => simp at h5 h6; exact h4 j c' d' h5 h6
  ·simp at h
theorem relV_sound (hk : RelOk g A k) {c d : AV} {u : Value} (h : relV k c = some d) (hr : RepV g w A c u) : RepE g' w' A' d u := by
 cases c with
 | c x =>
  simp only [relV, Option.map_eq_some_iff] at h
  obtain ⟨y, h1, rfl⟩ := h
  exact relC_sound (w := w) hk h1 hr
 | agg xs =>
  simp only [relV, Option.map_eq_some_iff] at h
  obtain ⟨ys, h1, rfl⟩ := h
  obtain ⟨h2, h3⟩ := relL_at h1
  obtain ⟨vs, e, hl, hc⟩ := hr
  refine ⟨vs, e, by omega, fun i y u h4 h5 => ?_⟩
  have hi : i < xs.length := by have := (List.getElem?_eq_some_iff.1 h4).1; omega
  exact relC_sound (w := w) hk (h3 i _ y (List.getElem?_eq_getElem hi) h4) (hc i _ u (List.getElem?_eq_getElem hi) h5)
 | tup _ => simp [relV] at h
theorem relVs_one (hk : RelOk g A k) {xs ys : List AV} {us : List Value} (h : relVs k xs = some ys) (hl : us.length = xs.length) (hr : ∀ (i : Nat) x u, xs[i]? = some x -> us[i]? = some u -> RepV g w A x u) :
  RawV (one ys) (if h : us.toArray.size = 1 then us.toArray[0] else .tuple us.toArray) := by
 obtain ⟨h1, h2⟩ := relVs_at h
 have hE : ∀ (i : Nat) y u, ys[i]? = some y -> us[i]? = some u -> ∀ g w A, RepE g w A y u := fun i y u h4 h5 g' w' A' => by
  have hi : i < xs.length := by have := (List.getElem?_eq_some_iff.1 h4).1; omega
  exact relV_sound (w := w) hk (h2 i _ y (List.getElem?_eq_getElem hi) h4) (hr i _ u (List.getElem?_eq_getElem hi) h5)
 have hne : ∀ y ∈ ys, ∀ zs, y ≠ .tup zs := fun y hy zs e => by
  subst e
  obtain ⟨i, hi⟩ := List.getElem?_of_mem hy
  have hi' : i < us.length := by have := (List.getElem?_eq_some_iff.1 hi).1; omega
  exact hE i _ us[i] hi (List.getElem?_eq_getElem hi') g w A
 intro g' w' A'
 match ys, us with
 | [y], [u] =>
  have := hE 0 y u rfl rfl g' w' A'
  simp only [one, List.size_toArray, List.length_cons, List.length_nil, Nat.zero_add, dite_true, List.getElem_toArray, List.getElem_cons_zero]
  cases y with
  | tup zs => exact absurd rfl (hne _ (by simp) zs)
  | c x => exact this
  | agg x => exact this
 | [], us =>
  have : us = [] := List.length_eq_zero_iff.1 (by simp at h1; omega)
  subst this
  exact ⟨[], rfl, rfl, fun i x u h => by simp at h⟩
 | y :: z :: r, us =>
  have hsz : ¬ us.toArray.size = 1 := by simp at h1 ⊢; omega
  rw [dif_neg hsz]
  exact ⟨us, rfl, by omega, fun i x u h3 h4 => hE i x u h3 h4 g' w' A'⟩
 | [y], [] => simp at h1 hl; omega
 | [y], _ :: _ :: _ => simp at h1 hl; omega
end

def Nils (L : Ts) : Prop := ∀ p ∈ L, ∃ e sz, p = (.t e sz 0 [], .slice none 0 0)
theorem Nils.trs {w : World} : ∀ {L : Ts}, Nils L -> Trs w L []
 | [], _ => rfl
 | p :: L, h => by
  obtain ⟨e, sz, rfl⟩ := h p (by simp)
  refine ⟨[], [], rfl, ?_, Nils.trs fun q hq => h q (by simp [hq])⟩
  simp only [Tr]
  exact ⟨[], [], ⟨by simp, .inl ⟨rfl, rfl⟩⟩, by simp [TrL], rfl⟩
theorem Nils.nil : Nils [] := fun p hp => by cases hp

def DoneJ (P : Program) (fn : Func) (R : AV -> Ts -> Prop) (e : Exit) (s : St) (L : Ts) : Prop :=
 (e = .normal \/ e = .ret) /\ ∃ xs, ares P s fn.results.toList = some xs /\
  ((∃ ys L' M Ln, relVs none xs = some ys /\ Nils Ln /\ (L ++ Ln).Perm (L' ++ M) /\ R (one ys) L') \/
  (∃ k r cs Lc L2 Ln, s.A[k]? = some r /\ r.wr = true /\ Mk cs r.rows.flatten Lc /\ L.Perm (Lc ++ L2) /\ Nils Ln /\
    ∀ v, ∃ ys L' M, relVs (some (k, r.rows.length, v)) xs = some ys /\ ((.t r.ety r.sz r.rows.length cs, v) :: L2 ++ Ln).Perm (L' ++ M) /\ R (one ys) L'))

section
variable {P : Program} {f : FuncId} {fn : Func} {c : Code} {as : List AV} {L : Ts} {R : AV -> Ts -> Prop}
theorem ownsRow_one {w : World} {e : TypeId} {sz n : Nat} {v : Value} {xs : List Value} (h : w.ownsRow 0 e sz v n xs) : v.oneCell' = true := by
 rcases h.2 with ⟨rfl, _⟩ | ⟨g, cap, cur, rfl, _⟩ <;> rfl
set_option maxHeartbeats 1000000 in
theorem FCalls.of_body (hf : P.funcs[f]? = some fn) (hname : (fn.name == "runtime.NumGoroutine") = false) (hb : fn.body = some c) (hok : codeOk fn.ntmps c = true) (hn : as.length <= fn.ntmps)
  (h : TJ P fn.ntmps c (DoneJ P fn R) ⟨argFr as, [], []⟩ L) : FCalls P f as L R := by
 refine ⟨enters hf hname hb, fun g w vs S hob har hI hT hl hr hS hnd hz => calls_of_wp hf hb ?_⟩
 have hR : RpJ fn.ntmps w g S ⟨argFr as, [], []⟩ L S g { tmps := vs ++ Array.replicate (fn.ntmps - vs.size) undef, defers := [] } w := by
  refine ⟨hI, FrX.refl hT fun b hb => (hz b hb).2, by simp; omega, rfl, fun t x hx => ?_, hS, hnd, fun b hb => ⟨(hz b hb).1, by simp [hob], by simp [Gh.arb, har], (hz b hb).2, .inr hb⟩⟩
  obtain ⟨_, hx⟩ := look_argFr as 0 t x hx
  rw [Nat.sub_zero] at hx
  have ht : t < vs.size := by have := (List.getElem?_eq_some_iff.1 hx).1; omega
  exact ⟨vs[t], by rw [Array.getElem?_append_left ht]; simp [ht], hr t x _ hx (by simp [ht])⟩
 refine Go.wp_mono (h hok w g S S g _ w hR) ?_
 rintro e a' w' ⟨s', g', L', S', ⟨hex, xs, hxs, hd⟩, hR'⟩
 obtain ⟨us, hul, hur, hrun⟩ := ares_sound hR'.inv hR'.slot hxs
 have hresults : (results fn a'.tmps).run P w' = .ok (if h : us.toArray.size = 1 then us.toArray[0] else .tuple us.toArray) w' := by
  rw [results_eq, Sem.run_bind, Array.mapM_eq_mapM_toList]
  have hm : (List.toArray <$> fn.results.toList.mapM (resRun a'.tmps)).run P w' = .ok us.toArray w' := by
   simp [hrun]
  rw [hm]
  rfl
 have hF := hR'.fr
 have hfin : ∀ (r : AV) (L'' : Ts) (S'' : List Nat), R r L'' -> RawV r (if h : us.toArray.size = 1 then us.toArray[0] else .tuple us.toArray) -> Trs w' L'' S'' -> S''.Nodup -> (∀ b ∈ S'', b ∈ S \/ w.heap.size <= b) ->
   a'.defers = [] /\ ∃ v, (results fn a'.tmps).run P w' = .ok v w' /\ ∃ v1 r L' S', Ending.returned v = .returned v1 /\ R r L' /\ RawV r v1 /\ Trs w' L' S' /\ S'.Nodup /\ (∀ b ∈ S', b ∈ S \/ w.heap.size <= b) /\
    w'.os = w.os /\ w'.tape = w.tape /\ w'.output = w.output /\ w.heap.size <= w'.heap.size /\ ∀ b, b < w.heap.size -> b ∉ S -> w'.heap[b]? = w.heap[b]? :=
  fun r L'' S'' h1 h2 h3 h4 h5 => ⟨hR'.defers, _, hresults, _, r, L'', S'', rfl, h1, h2, h3, h4, h5, hF.os, hF.tape, hF.output, hF.size, fun b hb hbs => hF.blk b hb (by simp [hob]) (by simp [Gh.arb, har]) hbs⟩
 have hinS : ∀ b ∈ S', b ∈ S \/ w.heap.size <= b := fun b hb => by rcases (hR'.out b hb).2.2.2.2 with q | q; exact .inr q; exact .inl q
 have hpost : a'.defers = [] /\ ∃ v, (results fn a'.tmps).run P w' = .ok v w' /\ ∃ v1 r L' S', Ending.returned v = .returned v1 /\ R r L' /\ RawV r v1 /\ Trs w' L' S' /\ S'.Nodup /\ (∀ b ∈ S', b ∈ S \/ w.heap.size <= b) /\
    w'.os = w.os /\ w'.tape = w.tape /\ w'.output = w.output /\ w.heap.size <= w'.heap.size /\ ∀ b, b < w.heap.size -> b ∉ S -> w'.heap[b]? = w.heap[b]? := by
  rcases hd with ⟨ys, L1, M, Ln, h1, h2, h3, h4⟩ | ⟨k, r, cs, Lc, L2, Ln, hk, hw, hmk, hp, hnil, hv⟩
  ·have hT' : Trs w' (L' ++ Ln) (S' ++ []) := Trs.app.2 ⟨S', [], rfl, hR'.trs, h2.trs⟩
   rw [List.append_nil] at hT'
   obtain ⟨S1, h5, h6⟩ := hT'.perm h3
   obtain ⟨S2, S3, rfl, h7, _⟩ := Trs.app.1 h6
   refine hfin (one ys) L1 S2 h4 (relVs_one (g := g') (A := s'.A) (w := w') (k := none) (fun i m v e => by cases e) h1 hul hur) h7 (List.nodup_append.1 (h5.nodup_iff.1 hR'.nd)).1 fun b hb => hinS b (h5.mem_iff.2 (by simp [hb]))
  ·obtain ⟨v, hgv⟩ : ∃ v, g'.ar[k]? = some v := by
    have : k < g'.ar.length := by rw [hR'.inv.arl]; exact (List.getElem?_eq_some_iff.1 hk).1
    exact ⟨_, List.getElem?_eq_getElem this⟩
   obtain ⟨hlen, him, cells, hown, hcells⟩ := hR'.inv.arr k r v hk hgv
   obtain ⟨ys, L1, M, h1, h3, h4⟩ := hv v
   obtain ⟨S0, h5, h6⟩ := hR'.trs.perm hp
   obtain ⟨Sc, S2, rfl, h7, h8⟩ := Trs.app.1 h6
   have hfl : cells.length = r.rows.flatten.length := by
    have hx : ∀ (rows : List (List DV)), (∀ row ∈ rows, row.length = r.sz) -> rows.flatten.length = rows.length * r.sz := by
     intro rows
     induction rows with
     | nil => simp
     | cons x xs ih => intro hx; rw [List.flatten_cons, List.length_append, hx x (by simp), ih (fun y hy => hx y (by simp [hy])), List.length_cons, Nat.add_mul]; omega
    rw [hown.1, hx r.rows hlen]
   have htl := hmk.trl hfl hcells h7
   have htr : Tr w' (.t r.ety r.sz r.rows.length cs) v (v.ownBlock.toList ++ Sc) := by
    simp only [Tr]
    exact ⟨cells, Sc, hown, htl, rfl⟩
   have hT' : Trs w' ((.t r.ety r.sz r.rows.length cs, v) :: L2 ++ Ln) ((v.ownBlock.toList ++ Sc) ++ S2) := by
    refine ⟨_, S2 ++ [], by simp, htr, Trs.app.2 ⟨S2, [], rfl, h8, hnil.trs⟩⟩
   obtain ⟨S1, h9, h10⟩ := hT'.perm h3
   obtain ⟨S4, S5, rfl, h11, _⟩ := Trs.app.1 h10
   have hnd' : (Sc ++ S2).Nodup := h5.nodup_iff.1 hR'.nd
   have hbk : ∀ b, v.ownBlock = some b -> b ∉ Sc ++ S2 /\ (b ∈ S \/ w.heap.size <= b) := fun b hb => by
    refine ⟨fun hm => (hR'.out b (h5.mem_iff.2 hm)).2.2.1 (Gh.arb_mem hgv hb), ?_⟩
    rcases hF.ar k v b hgv hb with q | q | q
    ·exact .inr q
    ·simp [Gh.arb, har] at q
    ·exact .inl q
   have hnd2 : ((v.ownBlock.toList ++ Sc) ++ S2).Nodup := by
    rw [List.append_assoc]
    cases hob' : v.ownBlock with
    | none => simpa using hnd'
    | some b => simpa using ⟨by simpa using (hbk b hob').1, by simpa using hnd'⟩
   refine hfin (one ys) L1 S4 h4 (relVs_one (g := g') (A := s'.A) (w := w') (k := some (k, r.rows.length, v)) (fun i m v' e => by cases e; exact ⟨ownsRow_one hown, r, hk, rfl, hgv⟩) h1 hul hur) h11 (List.nodup_append.1 (h9.nodup_iff.1 hnd2)).1 fun b hb => ?_
   have hm : b ∈ (v.ownBlock.toList ++ Sc) ++ S2 := h9.mem_iff.2 (by simp [hb])
   rw [List.append_assoc] at hm
   rcases List.mem_append.1 hm with q | q
   ·exact (hbk b (by simpa using q)).2
   ·exact hinS b (h5.mem_iff.2 q)
 rcases hex with rfl | rfl <;> exact hpost

def DoneA (P : Program) (fn : Func) (ety : TypeId) (sz n : Nat) (R : AV -> List GC -> Prop) (e : Exit) (s : St) (L : Ts) : Prop :=
 (e = .normal \/ e = .ret) /\ ∃ xs ys rows cs Lc M, ares P s fn.results.toList = some xs /\ relVs none xs = some ys /\ s.A[0]? = some ⟨sz, ety, rows, true⟩ /\ rows.length = n /\ Mk cs rows.flatten Lc /\ L.Perm (Lc ++ M) /\ R (one ys) cs

end
end Go.Av

namespace Go.Av
attribute [-simp] Go.Av.MCo.kind_mk Go.Av.MCo.tag_mk Go.Av.MCo.label_mk Go.Av.MCo.kids_mk
open Go

theorem FzC.thaw' {L : Ts} {c : GC} {v : Value} {x : DV} (h : (c, v) ∈ L) (e : c.dv = x /\ c.pl = true) : FzC L (.d (.raw v)) (.d x) := e.1 ▸ FzC.thaw h e.2

mutual
def tyRow (e : TypeId) : MTy -> List GC
 | .mk k l => [.d (.i k), .t e 2 l.length (tyRows e l)]
def tyRows (e : TypeId) : List MTy -> List GC
 | [] => []
 | t :: r => tyRow e t ++ tyRows e r
end
def tyK (e : TypeId) (l : List MTy) : GC := .t e 2 l.length (tyRows e l)
theorem tyRow_def (e : TypeId) (t : MTy) : tyRow e t = [.d (.i t.kind), tyK e t.kids] := by cases t; simp [tyRow, tyK]
theorem dvL_append : ∀ (l m : List GC), dvL (l ++ m) = dvL l ++ dvL m
 | [], _ => rfl
 | x :: l, m => by simp [dvL, dvL_append l m]
theorem chunks_cons {α : Type} {sz : Nat} (n : Nat) {r l : List α} (h : r.length = sz) : chunks sz (n + 1) (r ++ l) = r :: chunks sz n l := by
 simp only [chunks]; rw [List.take_left' h, List.drop_left' h]
mutual
theorem tyRow_dv (e : TypeId) : ∀ (t : MTy), dvL (tyRow e t) = eTy t
 | .mk k l => by
  have := tyRows_dv e l
  rw [tyRow_def, eTy_def]
  simp only [dvL, GC.dv, tyK, MTy.kind_mk, MTy.kids_mk, this]
theorem tyRows_dv (e : TypeId) : ∀ (l : List MTy), chunks 2 l.length (dvL (tyRows e l)) = l.map eTy
 | [] => rfl
 | t :: r => by
  have h1 := tyRow_dv e t
  have h2 := tyRows_dv e r
  rw [tyRows, dvL_append, h1, List.length_cons, chunks_cons _ (by rw [eTy_def]; rfl), h2, List.map_cons]
end
theorem tyK_dv (e : TypeId) (l : List MTy) : (tyK e l).dv = .sl (l.map eTy) := by
 simp only [tyK, GC.dv, tyRows_dv]

theorem plL_append : ∀ (l m : List GC), plL (l ++ m) = (plL l && plL m)
 | [], _ => by simp [plL]
 | x :: l, m => by simp [plL, plL_append l m, Bool.and_assoc]
mutual
theorem tyRow_pl (e : TypeId) : ∀ (t : MTy), plL (tyRow e t) = true
 | .mk k l => by
  have := tyRows_pl e l
  rw [tyRow_def]
  simp only [plL, GC.pl, tyK, MTy.kids_mk, this, Bool.and_self]
theorem tyRows_pl (e : TypeId) : ∀ (l : List MTy), plL (tyRows e l) = true
 | [] => rfl
 | t :: r => by rw [tyRows, plL_append, tyRow_pl e t, tyRows_pl e r]; rfl
end
theorem tyK_dp (e : TypeId) (l : List MTy) : (tyK e l).dv = .sl (l.map eTy) /\ (tyK e l).pl = true := ⟨tyK_dv e l, by simp only [tyK, GC.pl, tyRows_pl]⟩

abbrev rTy (t : MTy) (v : Value) : List DV := [.i t.kind, .raw v]
def fillV {α β : Type} (f : α -> β -> List DV) (z : List DV) (l : List α) (vs : List β) : List (List DV) := List.zipWith f l vs ++ List.replicate (l.length - vs.length) z
section
variable {α β : Type} {f : α -> β -> List DV} {z : List DV} {l : List α} {vs : List β}
end
end Go.Av

namespace Go.Av
attribute [-simp] Go.Av.MCo.kind_mk Go.Av.MCo.tag_mk Go.Av.MCo.label_mk Go.Av.MCo.kids_mk
open Go
attribute [simp] astepJ relC relL relV relVs

section
variable {P : Program} {fn : Func} {R : AV -> Ts -> Prop} {e : Exit} {s : St} {L L' M Lc : Ts} {r r' : AV}
theorem DoneJ.tup (he : e = .normal \/ e = .ret) {rs rs' : List AV} (hr : ares P s fn.results.toList = some rs) (hs : relVs none rs = some rs') (hp : L.Perm (L' ++ M)) (hR : R (one rs') L') : DoneJ P fn R e s L :=
 ⟨he, rs, hr, .inl ⟨rs', L', M, [], hs, .nil, by simpa using hp, hR⟩⟩
end

section
variable {P : Program} {n : Nat} {Q : Exit -> St -> Ts -> Prop} {s s' : St} {L L' : Ts} {c : Code}
theorem TJ.loopK {α : Type} (ks : List Nat) (ph : α -> List (Nat × AV)) (ob : α -> List (Nat × List CV)) (G : α -> List (List CV)) (ar : α -> List Arr -> List Arr) (tr : α -> Ts) (m : α -> Nat) (H : α -> Prop) {fr0 : List (Nat × AV)} (hk : keepL ks s.fr = fr0)
  (h : ∀ a, H a -> TJ P n c (RoundJ (fun a => ⟨ph a ++ fr0, ups (ob a) s.V ++ G a, ar a s.A⟩) tr m H (m a) Q) ⟨ph a ++ fr0, ups (ob a) s.V ++ G a, ar a s.A⟩ (tr a)) (a : α) (ha : H a) (hV : ups (ob a) s.V ++ G a = s.V) (hA : ar a s.A = s.A) (hp : subL (ph a) s.fr) {M : Ts} (hL : L.Perm (tr a ++ M)) : TJ P n (.loop c) Q s L := by
 subst hk
 exact TJ.loopF (fun a => ⟨ph a ++ keepL ks s.fr, ups (ob a) s.V ++ G a, ar a s.A⟩) tr m H h a ha ⟨hV, hA, hp.app (keepL_sub ks s.fr)⟩ hL
end
end Go.Av

namespace Go.Av
attribute [-simp] Go.Av.MCo.kind_mk Go.Av.MCo.tag_mk Go.Av.MCo.label_mk Go.Av.MCo.kids_mk
open Go

section
variable {P : Program} {f : FuncId} {as : List AV} {L : Ts} {R R' : AV -> Ts -> Prop}
theorem ThenJ.ret {n : Nat} {y : Code} {Q : Exit -> St -> Ts -> Prop} {s : St} (h : Q .ret s L) : ThenJ P n y Q .ret s L := h
theorem InBlockJ.ret {id : Nat} {Q : Exit -> St -> Ts -> Prop} {s : St} (h : Q .ret s L) : InBlockJ id Q .ret s L := h
theorem DoneJ.ownR {fn : Func} {R : AV -> Ts -> Prop} {e : Exit} {s : St} {L Lc L2 : Ts} {k n : Nat} {a : Arr} {cs : List GC} {rs : List AV} {rs' : Value -> List AV} (he : e = .normal \/ e = .ret) (hr : ares P s fn.results.toList = some rs) (hA : s.A[k]? = some a) (hw : a.wr = true) (hn : n = a.rows.length)
  (hmk : Mk cs a.rows.flatten Lc) (hp : L.Perm (Lc ++ L2)) (hs : ∀ v, relVs (some (k, n, v)) rs = some (rs' v)) (hR : ∀ v, ∃ L' M, ((.t a.ety a.sz n cs, v) :: L2).Perm (L' ++ M) /\ R (one (rs' v)) L') : DoneJ P fn R e s L := by
 subst hn
 exact ⟨he, rs, hr, .inr ⟨k, a, cs, Lc, L2, [], hA, hw, hmk, hp, .nil, fun v => by
  obtain ⟨L', M, h1, h2⟩ := hR v
  exact ⟨rs' v, L', M, hs v, by simpa using h1, h2⟩⟩⟩
end
end Go.Av

namespace Go.Av
attribute [-simp] Go.Av.MCo.kind_mk Go.Av.MCo.tag_mk Go.Av.MCo.label_mk Go.Av.MCo.kids_mk Go.Av.freeStepG Go.Av.exA Go.Av.innAsH Go.Av.AV.innH Go.Av.CV.innH Go.Av.innHs Go.Av.AV.outnH Go.Av.CV.outnH Go.Av.astepJ Go.Av.relC Go.Av.relL Go.Av.relV Go.Av.relVs
open Go
mutual
def typesM : MTm -> List MTy
 | .mk k _ _ t _ _ l => (if hasTyM k = true then [t] else []) ++ typesS l
def typesS : List MTm -> List MTy
 | [] => []
 | e :: r => typesM e ++ typesS r
end
mutual
def withM : MTm -> List MTy -> MTm
 | .mk k s n t f lb l, ts => .mk k s n (if hasTyM k = true then ts.headD t else t) f lb (withS l (if hasTyM k = true then ts.drop 1 else ts))
def withS : List MTm -> List MTy -> List MTm
 | [], _ => []
 | e :: r, ts => withM e ts :: withS r (ts.drop (typesM e).length)
end
def withTypesM (e : MTm) (ts : List MTy) : Option MTm := if (termValidM e && decide (ts.length = (typesM e).length) && ts.all (shapeTy 4)) = true then some (withM e ts) else none
def tmRes : Option MTm -> List AV
 | some e => [aTm e, .b true]
 | none => [aTm zeroE, .b false]
def tm0 (o : Option MTm) : MTm := o.getD zeroE
end Go.Av

namespace Go.Av
attribute [-simp] Go.Av.MCo.kind_mk Go.Av.MCo.tag_mk Go.Av.MCo.label_mk Go.Av.MCo.kids_mk Go.Av.astepJ Go.Av.relC Go.Av.relL Go.Av.relV Go.Av.relVs
open Go

mutual
def tmRow (et em : TypeId) : MTm -> List GC
 | .mk k s n t f b l => [.d (.i k), .d (.str s), .d (.i n), .d (.i t.kind), tyK et t.kids, .d (.i f.kind), tyK et f.kids, .d (.i b), .t em 9 l.length (tmRows et em l)]
def tmRows (et em : TypeId) : List MTm -> List GC
 | [] => []
 | t :: r => tmRow et em t ++ tmRows et em r
end
def tmK (et em : TypeId) (l : List MTm) : GC := .t em 9 l.length (tmRows et em l)
theorem tmRow_def (et em : TypeId) (e : MTm) : tmRow et em e = [.d (.i e.kind), .d (.str e.name), .d (.i e.num), .d (.i e.ty.kind), tyK et e.ty.kids, .d (.i e.fr.kind), tyK et e.fr.kids, .d (.i e.label), tmK et em e.kids] := by cases e; simp [tmRow, tmK]
mutual
theorem tmRow_dv (et em : TypeId) : ∀ (t : MTm), dvL (tmRow et em t) = eTm t
 | .mk k s n t f b l => by
  have := tmRows_dv et em l
  rw [tmRow_def, eTm_def]
  simp only [dvL, GC.dv, tyK_dv, tmK, MTm.kind_mk, MTm.name_mk, MTm.num_mk, MTm.ty_mk, MTm.fr_mk, MTm.label_mk, MTm.kids_mk, this]
theorem tmRows_dv (et em : TypeId) : ∀ (l : List MTm), chunks 9 l.length (dvL (tmRows et em l)) = l.map eTm
 | [] => rfl
 | t :: r => by
  have h1 := tmRow_dv et em t
  have h2 := tmRows_dv et em r
  rw [tmRows, dvL_append, h1, List.length_cons, chunks_cons _ (by rw [eTm_def]; rfl), h2, List.map_cons]
end
mutual
theorem tmRow_pl (et em : TypeId) : ∀ (t : MTm), plL (tmRow et em t) = true
 | .mk k s n t f b l => by
  have := tmRows_pl et em l
  rw [tmRow_def]
  simp only [plL, GC.pl, (tyK_dp et _).2, tmK, MTm.kids_mk, MTm.ty_mk, MTm.fr_mk, this, Bool.and_self]
theorem tmRows_pl (et em : TypeId) : ∀ (l : List MTm), plL (tmRows et em l) = true
 | [] => rfl
 | t :: r => by rw [tmRows, plL_append, tmRow_pl et em t, tmRows_pl et em r]; rfl
end
abbrev V3 := Value × Value × Value
abbrev rTm (e : MTm) (v : V3) : List DV := [.i e.kind, .str e.name, .i e.num, .i e.ty.kind, .raw v.1, .i e.fr.kind, .raw v.2.1, .i e.label, .raw v.2.2]
abbrev tTm (et em : TypeId) (e : MTm) (v : V3) : Ts := [(tyK et e.ty.kids, v.1), (tyK et e.fr.kids, v.2.1), (tmK et em e.kids, v.2.2)]
def tsTm (et em : TypeId) (l : List MTm) (vs : List V3) : Ts := (List.zipWith (tTm et em) l vs).flatten
end Go.Av

namespace Go.Av
attribute [-simp] Go.Av.MCo.kind_mk Go.Av.MCo.tag_mk Go.Av.MCo.label_mk Go.Av.MCo.kids_mk
open Go

def triv (o : Oper) : Oper := { o with dst := none, op := .assign (.const (.bool true)), guard := none }
def lastL (l : List Oper) : List Oper := match l.getLast? with
 | some o => l.dropLast ++ [triv o]
 | none => []
def lastOk (l : List Oper) : Bool := match l.getLast? with
 | some o => o.guard.isNone && (l.zipIdx.all fun (x, j) => x.after.all fun e => !Region.binds .any e || decide (e.on < j)) && (l.dropLast.all fun x => match x.guard with | some (q, _) => decide (q < l.length - 1) | none => true)
   && ((List.range (l.length - 1)).all fun k => ((masks l []).getD (l.length - 1) 0).testBit k)
 | none => false

section
variable {P : Program}
def lastOf (l : List Oper) : List Oper := match l.getLast? with
 | some o => [o]
 | none => []
end
end Go.Av

namespace Go.Av
attribute [-simp] Go.Av.MCo.kind_mk Go.Av.MCo.tag_mk Go.Av.MCo.label_mk Go.Av.MCo.kids_mk
open Go

section
variable {P : Program} {n : Nat} {w0 w w' : World} {g0 g g' : Gh} {X S S' : List Nat} {s s' : St} {L L' : Ts} {a a' : Act} {x y : Code} {all : Array Oper} {ws : List Nat}

def wpcallP (P : Program) (L : Ts) (f : FuncId) (xs : List AV) (K : AV -> Ts -> Prop) : Prop := ∃ (as : List AV) (L1 L2 : Ts) (R : AV -> Ts -> Prop), L.Perm (L1 ++ L2) /\ FzVs L2 xs as /\ FCalls P f as L1 R /\ ∀ r L1', R r L1' -> K r (L1' ++ L2)
def callJ (P : Program) (s : St) (L : Ts) (o : Oper) (K : AV -> Ts -> Prop) : Prop :=
 match o.op with
 | .call { callee := .value f, args, .. } => onv (aval s f) fun fv => match fv with
  | .c (.fn fid []) => onv (avals s args.toList) fun xs => wpcallP P L fid xs K
  | _ => False
 | _ => False
def aopsP (P : Program) (ow : Nat -> Bool) (ws cs : List Nat) (K : St -> Ts -> Prop) : Nat -> List Oper -> St -> Ts -> Prop
 | _, [], s, L => K s L
 | i, o :: rest, s, L => (i ∈ cs /\ callJ P s L o fun x L' => aopsP P ow ws cs K (i + 1) rest (s.put o.dst x s.V s.A) L') \/
   (i ∉ cs /\ astep P s (ow i) o fun x V A => (i ∈ ws \/ (V = s.V /\ A = s.A)) /\ aopsP P ow ws cs K (i + 1) rest (s.put o.dst x V A) L)

def DetS (P : Program) (ow : Bool) (o : Oper) (s s' : St) : Prop := ∃ x V A, s' = s.put o.dst x V A /\ ∀ K : AV -> List (List CV) -> List Arr -> Prop, K x V A -> astep P s ow o K
def Frs (ws : List Nat) (j : Nat) (o : Oper) (s s' : St) : Prop := ∃ x V A, s' = s.put o.dst x V A /\ (j ∈ ws \/ (V = s.V /\ A = s.A))

structure Trc (all : Array Oper) (ws : List Nat) (σ : Nat -> St) (c : Nat) : Prop where
 le : c <= all.size
 tr : ∀ (j : Nat) o, j < c -> all[j]? = some o -> Frs ws j o (σ j) (σ (j + 1))

section
variable {σ : Nat -> St} {c : Nat} (hT : Trc all ws σ c) (hdu : ∀ (i j : Nat) oi oj d, all[i]? = some oi -> all[j]? = some oj -> oi.dst = some d -> oj.dst = some d -> i = j)
include hT
theorem Trc.step {j : Nat} {o : Oper} {t : Nat} (hj : j < c) (h1 : all[j]? = some o) (h2 : o.dst ≠ some t) : look (σ (j + 1)).fr t = look (σ j).fr t := by
 obtain ⟨x, V, A, h3, _⟩ := hT.tr j o hj h1
 rw [h3]
 simp only [St.put]
 cases hdd : o.dst with
 | none => rfl
 | some d => simp only [look]; rw [if_neg (fun e => h2 (by rw [hdd, e]))]
theorem Trc.frB : ∀ (j t : Nat), j <= c -> (∀ (i : Nat) o, i < j -> all[i]? = some o -> o.dst ≠ some t) -> look (σ j).fr t = look (σ 0).fr t := by
 have hc := hT.le
 intro j
 induction j with
 | zero => intro t _ _; rfl
 | succ j ih =>
  intro t hj hno
  have ho : all[j]? = some all[j] := Array.getElem?_eq_getElem (by omega)
  rw [hT.step (by omega) ho (hno j _ (by omega) ho)]
  exact ih t (by omega) (fun i o hi => hno i o (by omega))
theorem Trc.VA : ∀ (b a : Nat), a <= b -> b <= c -> (∀ i, a <= i -> i < b -> i ∉ ws) -> (σ b).V = (σ a).V /\ (σ b).A = (σ a).A := by
 have hc := hT.le
 intro b
 induction b with
 | zero =>
  intro a h _ _
  obtain rfl : a = 0 := by omega
  exact ⟨rfl, rfl⟩
 | succ b ih =>
  intro a hab hb hno
  by_cases e : a = b + 1
  ·subst e; exact ⟨rfl, rfl⟩
  ·have ho : all[b]? = some all[b] := Array.getElem?_eq_getElem (by omega)
   obtain ⟨h1, h2⟩ := ih a (by omega) (by omega) (fun i hi hi' => hno i hi (by omega))
   obtain ⟨x, V, A, h3, h4⟩ := hT.tr b _ (by omega) ho
   rcases h4 with h4 | ⟨h4, h5⟩
   ·exact absurd h4 (hno b (by omega) (by omega))
   ·rw [h3]; exact ⟨h4.trans h1, h5.trans h2⟩
include hdu
theorem Trc.frA : ∀ (j i : Nat) oi t, j <= c -> i < j -> all[i]? = some oi -> oi.dst = some t -> look (σ j).fr t = look (σ (i + 1)).fr t := by
 have hc := hT.le
 intro j
 induction j with
 | zero => intro i oi t _ h; omega
 | succ j ih =>
  intro i oi t hj hij hoi hdt
  by_cases e : i = j
  ·subst e; rfl
  ·have ho : all[j]? = some all[j] := Array.getElem?_eq_getElem (by omega)
   rw [hT.step (by omega) ho (fun h => e (hdu i j oi _ t hoi ho hdt h))]
   exact ih i oi t (by omega) (by omega) hoi hdt
end

structure Jb (w0 : World) (g0 : Gh) (X : List Nat) (L : Ts) (S : List Nat) (g : Gh) (w : World) : Prop where
 fr : FrX w0 g0 X w g
 trs : Trs w L S
 nd : S.Nodup
 out : ∀ b ∈ S, g.im b = 0 /\ b ∉ g.ob /\ b ∉ g.arb /\ ¬ tabAt b /\ (w0.heap.size <= b \/ b ∈ X)
theorem Jb.fr' (h : Jb w0 g0 X L S g w) (k : Fr w g w' g') : Jb w0 g0 X L S g' w' := by
 have hlt := h.trs.lt
 refine ⟨h.fr.fr k, h.trs.keep fun b hb => k.blk b (hlt b hb) (h.out b hb).2.1 (h.out b hb).2.2.1, h.nd, fun b hb => ?_⟩
 obtain ⟨h1, h2, h3, h4, h5⟩ := h.out b hb
 have hbl := hlt b hb
 refine ⟨(k.imeq b hbl h3).trans h1, fun hm => ?_, fun hm => ?_, h4, h5⟩
 ·obtain ⟨new, e, hn⟩ := k.ob
  rw [e] at hm
  rcases List.mem_append.1 hm with q | q
  ·exact h2 q
  ·exact absurd (hn b q) (by omega)
 ·obtain ⟨i, v, q1, q2⟩ := Gh.mem_arb hm
  rcases k.ar i v b q1 q2 with q | q
  ·omega
  ·exact h3 q

theorem drawP_end (hd : drawOk all ws = true) {σ : Nat -> St} (hT : Trc all ws σ all.size) {listed : Array Bool} {k0 : Nat} (hD : DS all ws σ n w g listed k0 g a w) (hall : ∀ i, i < all.size -> listed[i]? = some true) (hJ : Jb w0 g0 X L S g w) : RpJ n w0 g0 X (σ all.size) L S g a w := by
 simp only [drawOk, Bool.and_eq_true, List.all_eq_true] at hd
 obtain ⟨⟨hd1, hd2⟩, hd3⟩ := hd
 -- the checks, read
 have hmem : ∀ (j : Nat) o, all[j]? = some o -> (o, j) ∈ all.toList.zipIdx := fun j o h => by
  rw [List.mem_iff_getElem?]
  exact ⟨j, by simp [List.getElem?_zipIdx, h]⟩
 have hedge : ∀ (j : Nat) o, all[j]? = some o -> ∀ e ∈ o.after, Region.binds .any e = true -> e.on < j := fun j o h e he hb => by
  have := hd1 _ (hmem j o h) e (Array.mem_toList_iff.2 he)
  simpa [hb] using this
 have hpair : ∀ (i j : Nat) oi oj, all[i]? = some oi -> all[j]? = some oj -> i < j -> pairOk all ws (masks all.toList []) oi oj i j = true := fun i j oi oj h1 h2 hlt => by
  have := hd2 _ (hmem j oj h2) _ (hmem i oi h1)
  simpa [hlt] using this
 have hws : ∀ (j : Nat) o, all[j]? = some o -> j ∈ ws -> isS o.op = false := fun j o h hj => by
  have := hd3 _ (hmem j o h)
  simpa [hj] using this
 have hdne : ∀ (i j : Nat) oi oj d, all[i]? = some oi -> all[j]? = some oj -> i < j -> oi.dst = some d -> oj.dst ≠ some d := fun i j oi oj d h1 h2 hlt h3 h4 => by
  have := hpair i j oi oj h1 h2 hlt
  simp [pairOk, h3, h4] at this
 have hdu : ∀ (i j : Nat) oi oj d, all[i]? = some oi -> all[j]? = some oj -> oi.dst = some d -> oj.dst = some d -> i = j := fun i j oi oj d h1 h2 h3 h4 => by
  rcases Nat.lt_trichotomy i j with h | h | h
  ·exact absurd h4 (hdne i j oi oj d h1 h2 h h3)
  ·exact h
  ·exact absurd h3 (hdne j i oj oi d h2 h1 h h4)
 have hva := hT.VA all.size k0 hD.kle (Nat.le_refl _) (fun i h1 h2 h3 => by have := (hD.wprog i h3 h2).1 (hall i h2); omega)
 refine ⟨by rw [hva.1, hva.2]; exact hD.inv, hJ.fr, hD.size, hD.defers, fun t x hx => ?_, hJ.trs, hJ.nd, hJ.out⟩
 rw [hva.2]
 by_cases hex : ∃ (i : Nat) (o : Oper), all[i]? = some o /\ o.dst = some t
 ·obtain ⟨i, o, ho, hdt⟩ := hex
  have hi := (Array.getElem?_eq_some_iff.1 ho).1
  rw [hT.frA hdu all.size i o t (Nat.le_refl _) hi ho hdt] at hx
  exact hD.slot1 i o t x ho (hall i hi) hdt hx
 ·rw [hT.frB all.size t (Nat.le_refl _) (fun i o _ ho hdt => hex ⟨i, o, ho, hdt⟩)] at hx
  exact hD.slot0 t x (fun i o ho _ hdt => hex ⟨i, o, ho, hdt⟩) hx

def callsOk (all : Array Oper) (ws cs : List Nat) : Bool :=
 let l := all.toList.zipIdx
 let ms := masks all.toList []
 (cs.all fun c => !ws.contains c && l.all fun (_, j) => !(decide (c < j)) || (ms.getD j 0).testBit c) && (l.all fun (o, _) => o.guard.isNone) && (l.all fun (o, j) => !cs.contains j || !isS o.op)

end
end Go.Av

namespace Go.Av
attribute [-simp] Go.Av.MCo.kind_mk Go.Av.MCo.tag_mk Go.Av.MCo.label_mk Go.Av.MCo.kids_mk
open Go

def pickOps (l : List Oper) (p : List Nat) : List Oper := p.map fun i => l.getD i default
def reEdge (p : List Nat) (o : Oper) : Oper := { o with after := o.after.map fun e => { e with on := p.idxOf e.on } }
def permOps (l : List Oper) (p : List Nat) : List Oper := (pickOps l p).map (reEdge p)
def permOk (l : List Oper) (p : List Nat) : Bool := p.length == l.length && p.all (fun i => decide (i < l.length)) && (List.range l.length).all (fun i => p.contains i) && l.all (fun o => o.guard.isNone) && (List.range p.length).all (fun j => p.idxOf (p.getD j 0) == j)

section
variable {P : Program} {l : List Oper} {p : List Nat} {md : Region.Mode} {Q : Exit -> Act -> World -> Prop}
end

section
variable {P : Program} {n : Nat} {s s' : St} {L L' : Ts} {x y : Code} {ws cs : List Nat} {ow : Nat -> Bool} {K : St -> Ts -> Prop}
structure OpsP (P : Program) (ow : Nat -> Bool) (ws cs : List Nat) (K : St -> Ts -> Prop) (i : Nat) (ops : List Oper) (s : St) (L : Ts) : Prop where
 mk ::
 run : aopsP P ow ws cs K i ops s L
variable {i : Nat} {o : Oper} {rest : List Oper}
@[congr] theorem aopsP_cong {i i' : Nat} {ops : List Oper} (hi : i = i') (h : s = s') : OpsP P ow ws cs K i ops s L = OpsP P ow ws cs K i' ops s' L := by rw [h, hi]
@[congr] theorem wpcallP_cong {f : FuncId} {xs xs' : List AV} {K : AV -> Ts -> Prop} (hx : xs = xs') : wpcallP P L f xs K = wpcallP P L f xs' K := by subst hx; rfl
attribute [simp] callJ

variable {f : FuncId} {xs as : List AV} {r : AV} {K' : AV -> Ts -> Prop}
end
end Go.Av

namespace Go.Av
attribute [-simp] Go.Av.MCo.kind_mk Go.Av.MCo.tag_mk Go.Av.MCo.label_mk Go.Av.MCo.kids_mk
open Go

section
variable {P : Program} {m : Nat} {c : Code} {Q : Exit -> St -> Ts -> Prop} {s : St} {L L2 : Ts} {g : Gh} {w : World} {V : List (List CV)} {A : List Arr}
end
end Go.Av

namespace Go.Av
attribute [-simp] Go.Av.MCo.kind_mk Go.Av.MCo.tag_mk Go.Av.MCo.label_mk Go.Av.MCo.kids_mk
open Go
section
variable {P : Program} {f : FuncId} {as : List AV}
end
end Go.Av

namespace Go.Av
attribute [-simp] Go.Av.MCo.kind_mk Go.Av.MCo.tag_mk Go.Av.MCo.label_mk Go.Av.MCo.kids_mk
open Go
section
variable {P : Program} {f : FuncId} {as : List AV}
end
end Go.Av
