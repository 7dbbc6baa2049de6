/- A part of the library of this seat. -/
import Derived.Test.YtcgmmknfpfdghaaDoorA2
import Derived.Laws.Cover3
set_option linter.unusedVariables false
set_option linter.unusedSimpArgs false
namespace Go.Av
attribute [-simp] Go.Av.MCo.kind_mk Go.Av.MCo.tag_mk Go.Av.MCo.label_mk Go.Av.MCo.kids_mk
open Go
section
variable {P : Program} {n : Nat} {ι : Type} {Q : Exit -> St -> Prop} {QX : ι -> Exit -> St -> Prop} {s s' : St} {y : Code}
end
section
variable {P : Program} {s : St} {f : FuncId} {xs as : List AV} {K : AV -> List (List CV) -> List Arr -> Prop}
end
attribute [simp] innVs putBack objCells back resVs one
end Go.Av

namespace Go.Av
attribute [-simp] Go.Av.MCo.kind_mk Go.Av.MCo.tag_mk Go.Av.MCo.label_mk Go.Av.MCo.kids_mk
open Go

abbrev aBd (b : MBd) : AV := .agg [.d (.str b.name), .d (.i b.ty.kind), .d (.sl (b.ty.kids.map eTy))]
abbrev zeroE : MTm := .mk 0 [] 0 zeroT zeroT 0 []
abbrev elRes : Option (MTm × MTy) -> List AV
 | some (e, t) => [aTm e, aTy t, .b true]
 | none => [aTm zeroE, aTy zeroT, .b false]

mutual
def sameTm : MTm -> MTm -> Bool
 | .mk k s n t f b l, .mk k' s' n' t' f' b' l' => decide (k = k') && (decide (s = s') && (decide (n = n') && (sameTy t t' && (sameTy f f' && (decide (b = b') && sameTmS l l')))))
def sameTmS : List MTm -> List MTm -> Bool
 | [], [] => true
 | x :: xs, y :: ys => sameTm x y && sameTmS xs ys
 | _, _ => false
end
mutual
theorem sameTm_eq : ∀ (a b : MTm), sameTm a b = true -> a = b
 | .mk k s n t f b l, .mk k' s' n' t' f' b' l', h => by
  simp only [sameTm, Bool.and_eq_true, decide_eq_true_eq] at h
  obtain ⟨rfl, rfl, rfl, h1, h2, rfl, h3⟩ := h
  rw [sameTy_eq t t' h1, sameTy_eq f f' h2, sameTmS_eq l l' h3]
theorem sameTmS_eq : ∀ (l m : List MTm), sameTmS l m = true -> l = m
 | [], [], _ => rfl
 | x :: xs, y :: ys, h => by
  simp only [sameTmS, Bool.and_eq_true] at h
  rw [sameTm_eq x y h.1, sameTmS_eq xs ys h.2]
 | [], _ :: _, h => by simp [sameTmS] at h
 | _ :: _, [], h => by simp [sameTmS] at h
end
mutual
theorem sameTm_refl : ∀ (a : MTm), sameTm a a = true
 | .mk k s n t f b l => by simp [sameTm, sameTy_refl, sameTmS_refl l]
theorem sameTmS_refl : ∀ (l : List MTm), sameTmS l l = true
 | [] => rfl
 | x :: xs => by simp [sameTmS, sameTm_refl x, sameTmS_refl xs]
end
mutual
def mapM (g : MTm -> MTm) : MTm -> MTm
 | .mk k s n t f b l => g (.mk k s n t f b (mapS g l))
def mapS (g : MTm -> MTm) : List MTm -> List MTm
 | [] => []
 | e :: r => mapM g e :: mapS g r
end
end Go.Av

namespace Go.Av
attribute [-simp] Go.Av.MCo.kind_mk Go.Av.MCo.tag_mk Go.Av.MCo.label_mk Go.Av.MCo.kids_mk
open Go
section
variable {P : Program} {n : Nat} {Q : Exit -> St -> Prop} {s : St}
end
section
variable {P : Program} {s : St}
end
end Go.Av

namespace Go.Av
attribute [-simp] Go.Av.MCo.kind_mk Go.Av.MCo.tag_mk Go.Av.MCo.label_mk Go.Av.MCo.kids_mk
open Go
section
attribute [-simp] astep wpo gdo onv aval avals oval slow shigh alen rowsOf look cvOf St.put cellsAt mkV splice abin aun abinS abinB cEq AV.plain AV.cells CV.isUndef toD toDs toRows sealA sealAs innAs AV.inn CV.inn inns AV.outn CV.outn argCells aparts arows afill isS ares ares1 AV.res1 CV.res ress pos? poss Then InBlock Sub subL argFr
attribute [-simp] freeStep exV keepL ups innVs putBack objCells back resVs one

def exA (ex : List Nat) (rs : Nat -> Arr) (V : List Arr) : List Arr := ex.foldl (fun W i => W.set i (rs i)) V

def freeStepG (P : Program) (s : St) (ow : Bool) (o : Oper) (ex exa : List Nat) (V0 : List (List CV)) (A0 : List Arr) (x : AV) : Prop :=
 ∀ (rs : Nat -> List CV) (ra : Nat -> Arr) GV GA, astep P ⟨s.fr, exV ex rs V0 ++ GV, exA exa ra A0 ++ GA⟩ ow o fun y V' A' => y = x /\ V' = exV ex rs V0 ++ GV /\ A' = exA exa ra A0 ++ GA

def aopsG (P : Program) (all : Array Oper) (ow : Nat -> Bool) (ws fs : List Nat) (m : Nat) (ex exa : List Nat) (V0 : List (List CV)) (A0 : List Arr) (K : St -> Prop) : Nat -> List Oper -> St -> Prop
 | _, [], s => K s
 | i, o :: rest, s => gdo all s o (astep P s (ow i) o fun x V A => (i ∈ ws \/ (V = s.V /\ A = s.A)) /\ (i ∈ ws -> i < m -> V.take V0.length = exV ex (fun i => V.getD i []) V0 /\ A.take A0.length = exA exa (fun i => A.getD i arr0) A0) /\ (i ∈ fs -> freeStepG P s (ow i) o ex exa V0 A0 x) /\
   aopsG P all ow ws fs m ex exa V0 A0 K (i + 1) rest (s.put o.dst x V A)) (aopsG P all ow ws fs m ex exa V0 A0 K (i + 1) rest (s.put o.dst (.c .undef) s.V s.A))

section
variable {P : Program} {n : Nat} {Q Q' : Exit -> St -> Prop} {s s' : St} {w0 : World} {g0 g g' : Gh} {a : Act} {w w' : World} {V : List (List CV)} {A A' : List Arr}

def StpG (P : Program) (all : Array Oper) (ow : Bool) (fs : List Nat) (j : Nat) (ex exa : List Nat) (V0 : List (List CV)) (A0 : List Arr) (o : Oper) (s s' : St) : Prop :=
 gdo all s o True True /\ ((gw all s o = true /\ ∃ x V A, s' = s.put o.dst x V A /\ (∀ K : AV -> List (List CV) -> List Arr -> Prop, K x V A -> astep P s ow o K) /\ (j ∈ fs -> freeStepG P s ow o ex exa V0 A0 x)) \/ (gw all s o = false /\ s' = s.put o.dst (.c .undef) s.V s.A))

def PreG (ex exa : List Nat) (V0 : List (List CV)) (A0 : List Arr) (s : St) : Prop := s.V.take V0.length = exV ex (fun i => s.V.getD i []) V0 /\ s.A.take A0.length = exA exa (fun i => s.A.getD i arr0) A0

end
section
variable {P : Program} {n : Nat} {Q : Exit -> St -> Prop} {s s' : St} {y : Code}
structure OpsG (P : Program) (all : Array Oper) (ow : Nat -> Bool) (ws fs : List Nat) (m : Nat) (ex exa : List Nat) (V0 : List (List CV)) (A0 : List Arr) (K : St -> Prop) (i : Nat) (ops : List Oper) (s : St) : Prop where
 mk ::
 run : aopsG P all ow ws fs m ex exa V0 A0 K i ops s

@[congr] theorem aopsG_cong {all : Array Oper} {ow : Nat -> Bool} {ws fs : List Nat} {m : Nat} {ex exa : List Nat} {V0 : List (List CV)} {A0 : List Arr} {K : St -> Prop} {i i' : Nat} {ops : List Oper} (hi : i = i') (h : s = s') : OpsG P all ow ws fs m ex exa V0 A0 K i ops s = OpsG P all ow ws fs m ex exa V0 A0 K i' ops s' := by rw [h, hi]

end
end
attribute [simp] freeStepG exA
end Go.Av

namespace Go.Av
attribute [-simp] Go.Av.MCo.kind_mk Go.Av.MCo.tag_mk Go.Av.MCo.label_mk Go.Av.MCo.kids_mk
open Go
end Go.Av

namespace Go.Av
attribute [-simp] Go.Av.MCo.kind_mk Go.Av.MCo.tag_mk Go.Av.MCo.label_mk Go.Av.MCo.kids_mk
open Go
section
variable {P : Program} {s : St} {f : FuncId} {xs as : List AV} {K : AV -> List (List CV) -> List Arr -> Prop} {r : AV}
end
attribute [simp] innAsH AV.innH CV.innH innHs AV.outnH CV.outnH
end Go.Av

namespace Go.Av
attribute [-simp] Go.Av.MCo.kind_mk Go.Av.MCo.tag_mk Go.Av.MCo.label_mk Go.Av.MCo.kids_mk
open Go

section
variable {P : Program} {n : Nat} {Q : Exit -> St -> Prop} {s s' : St} {y : Code}

structure OpsH (P : Program) (all : Array Oper) (ow : Nat -> Bool) (wv wa fs : List Nat) (m : Nat) (ex : List Nat) (V0 : List (List CV)) (A0 : List Arr) (K : St -> Prop) (i : Nat) (ops : List Oper) (s : St) : Prop where
 mk ::
 run : aopsH P all ow wv wa fs m ex V0 A0 K i ops s

@[congr] theorem aopsH_cong {all : Array Oper} {ow : Nat -> Bool} {wv wa fs : List Nat} {m : Nat} {ex : List Nat} {V0 : List (List CV)} {A0 : List Arr} {K : St -> Prop} {i i' : Nat} {ops : List Oper} (hi : i = i') (h : s = s') : OpsH P all ow wv wa fs m ex V0 A0 K i ops s = OpsH P all ow wv wa fs m ex V0 A0 K i' ops s' := by rw [h, hi]

end
end Go.Av

namespace Go.Av
attribute [-simp] Go.Av.MCo.kind_mk Go.Av.MCo.tag_mk Go.Av.MCo.label_mk Go.Av.MCo.kids_mk
open Go
end Go.Av

namespace Go.Av
attribute [-simp] Go.Av.MCo.kind_mk Go.Av.MCo.tag_mk Go.Av.MCo.label_mk Go.Av.MCo.kids_mk
open Go
section
variable {P : Program} {g g' g0 : Gh} {w w' w0 : World} {V V' : List (List CV)} {A A' : List Arr}
end
end Go.Av
