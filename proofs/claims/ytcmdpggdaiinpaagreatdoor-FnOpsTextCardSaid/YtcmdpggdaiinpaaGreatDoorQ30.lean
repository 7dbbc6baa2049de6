/- A part of the library of this seat. -/
import Derived.Test.YtcmdpggdaiinpaaGreatDoorQ29
import Derived.LaidEql
set_option linter.unusedVariables false
set_option linter.unusedSimpArgs false
namespace Go.Av
attribute [-simp] Go.Av.MCo.kind_mk Go.Av.MCo.tag_mk Go.Av.MCo.label_mk Go.Av.MCo.kids_mk Go.Av.astepJ Go.Av.relC Go.Av.relL Go.Av.relV Go.Av.relVs Go.Av.callJ
open Go

def fp : Value -> Nat -> Value
 | .pointer (some ⟨b, o, k⟩), off => .pointer (some ⟨b, o + off, k⟩)
 | v, _ => v
def cvD : CV -> Option DV
 | .d x => if x.scal = true then some x else none
 | .np => some (.raw (.pointer none))
 | .nil => some (.raw (.slice none 0 0))
 | _ => none
def cvDs : List CV -> Option (List DV)
 | [] => some []
 | c :: r => match cvD c, cvDs r with
  | some x, some l => some (x :: l)
  | _, _ => none
section
variable {P : Program} {n : Nat} {s : St} {L L2 : Ts} {all : Array Oper} {ow : Nat -> Bool} {K : St -> Ts -> Prop} {i : Nat} {o : Oper} {rest : List Oper}

def ptrOf : AV -> Option Value
 | .c (.d (.raw v)) => some v
 | .c .np => some (.pointer none)
 | _ => none
def Held (L : Ts) (T : TypeId) (v : Value) : Prop := v = .pointer none \/ ∃ row, (.n T row, v) ∈ L
end
end Go.Av

namespace Go.Av
attribute [-simp] Go.Av.MCo.kind_mk Go.Av.MCo.tag_mk Go.Av.MCo.label_mk Go.Av.MCo.kids_mk Go.Av.astepJ Go.Av.relC Go.Av.relL Go.Av.relV Go.Av.relVs Go.Av.callJ
open Go

section
variable {P : Program} {n : Nat} {s : St} {L L2 : Ts} {all : Array Oper} {ow : Nat -> Bool} {K : St -> Ts -> Prop} {i : Nat} {o : Oper} {rest : List Oper}

end
end Go.Av

namespace Go.Av
attribute [-simp] Go.Av.MCo.kind_mk Go.Av.MCo.tag_mk Go.Av.MCo.label_mk Go.Av.MCo.kids_mk
open Go

section
variable {P : Program} {n : Nat} {w0 w w' : World} {g0 g g' : Gh} {X S S' : List Nat} {s s' : St} {L L' : Ts} {a a' : Act} {x y : Code} {all : Array Oper} {ws : List Nat}

def Agr (o : Oper) (fr' : List (Nat × AV)) (V : List (List CV)) (A : List Arr) (s : St) : Prop := ∀ x ∈ o.op.operands.toList, aval ⟨fr', V, A⟩ x = aval s x
def TreS (P : Program) (s : St) (L : Ts) (o : Oper) (K : AV -> Ts -> Prop) : Prop :=
 ∀ (fr' : List (Nat × AV)) (V : List (List CV)) (A : List Arr), Agr o fr' V A s -> ∀ (n : Nat) (w0 : World) (g0 : Gh) (X S : List Nat) (g : Gh) (a : Act) (w : World), RpJ n w0 g0 X ⟨fr', V, A⟩ L S g a w -> ∀ (next : Act -> World -> Prop) (Q : Exit -> Act -> World -> Prop),
  (∀ x L' S' v w' g', K x L' -> RepV g' w' A x v -> Inv g' w' V A -> Ext g w A g' w' A -> FrX w0 g0 X w' g' -> Trs w' L' S' -> S'.Nodup -> (∀ b ∈ S', g'.im b = 0 /\ b ∉ g'.ob /\ b ∉ g'.arb /\ ¬ tabAt b /\ (w0.heap.size <= b \/ b ∈ X)) -> next (a.put o.dst v) w') -> o.wp P a w next Q
def LkS (P : Program) (s : St) (L : Ts) (o : Oper) (x : AV) : Prop :=
 ∀ (fr' : List (Nat × AV)) (V : List (List CV)) (A : List Arr), Agr o fr' V A s -> ∀ (g : Gh) (a : Act) (w : World) (S : List Nat), Slots g w ⟨fr', V, A⟩ a -> Trs w L S -> S.Nodup -> ∃ v, RepV g w A x v /\ (execOp a.eval o).run P w = .ok (.value v) w
def aopsR (P : Program) (all : Array Oper) (ow : Nat -> Bool) (ws cs ns : List Nat) (K : St -> Ts -> Prop) : Nat -> List Oper -> St -> Ts -> Prop
 | _, [], s, L => K s L
 | i, o :: rest, s, L => gdo all s o
   ((i ∈ cs /\ TreS P s L o fun x L' => aopsR P all ow ws cs ns K (i + 1) rest (s.put o.dst x s.V s.A) L') \/
   (i ∉ cs /\ i ∈ ns /\ ∃ x, LkS P s L o x /\ aopsR P all ow ws cs ns K (i + 1) rest (s.put o.dst x s.V s.A) L) \/
   (i ∉ cs /\ i ∉ ns /\ astep P s (ow i) o fun x V A => (i ∈ ws \/ (V = s.V /\ A = s.A)) /\ aopsR P all ow ws cs ns K (i + 1) rest (s.put o.dst x V A) L))
   (aopsR P all ow ws cs ns K (i + 1) rest (s.put o.dst (.c .undef) s.V s.A) L)

def DetR (P : Program) (all : Array Oper) (ow : Bool) (ns : List Nat) (L : Ts) (j : Nat) (o : Oper) (s s' : St) : Prop :=
 gdo all s o True True /\ ((gw all s o = true /\ ((j ∈ ns /\ ∃ x, s' = s.put o.dst x s.V s.A /\ LkS P s L o x) \/ (j ∉ ns /\ DetS P ow o s s'))) \/ (gw all s o = false /\ s' = s.put o.dst (.c .undef) s.V s.A))

def callsOkR (all : Array Oper) (ws cs ns : List Nat) : Bool :=
 let l := all.toList.zipIdx
 let ms := masks all.toList []
 (cs.all fun c => !ws.contains c && (l.all fun (_, j) => !(decide (c < j)) || (ms.getD j 0).testBit c) && (ns.all fun j => !(decide (j < c)) || (ms.getD c 0).testBit j)) && (l.all fun (o, j) => !cs.contains j || !isS o.op)

structure OpsR (P : Program) (all : Array Oper) (ow : Nat -> Bool) (ws cs ns : List Nat) (K : St -> Ts -> Prop) (i : Nat) (ops : List Oper) (s : St) (L : Ts) : Prop where
 mk ::
 run : aopsR P all ow ws cs ns K i ops s L
variable {ow : Nat -> Bool} {cs ns : List Nat} {K : St -> Ts -> Prop} {i : Nat} {o : Oper} {rest : List Oper}
@[congr] theorem aopsR_cong {i i' : Nat} {ops : List Oper} (hi : i = i') (h : s = s') : OpsR P all ow ws cs ns K i ops s L = OpsR P all ow ws cs ns K i' ops s' L := by rw [h, hi]

end
end Go.Av

namespace Go.Av
attribute [-simp] Go.Av.MCo.kind_mk Go.Av.MCo.tag_mk Go.Av.MCo.label_mk Go.Av.MCo.kids_mk
open Go
section
variable {P : Program} {n : Nat} {s : St} {L L2 : Ts} {all : Array Oper} {ow : Nat -> Bool} {K : St -> Ts -> Prop} {i : Nat} {o : Oper} {rest : List Oper}
end
end Go.Av
