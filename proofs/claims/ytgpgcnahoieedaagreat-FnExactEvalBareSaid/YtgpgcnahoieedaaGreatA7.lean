/- A part of the library of this seat: a value-semantic program logic over the model, plain models, and walks of functions. -/
import Derived.Test.YtgpgcnahoieedaaGreatA6
set_option linter.unusedVariables false
set_option linter.unusedSimpArgs false
namespace Go.Av
open Go
section
variable {P : Program} {n : Nat} {Q : Exit → St → Prop} {s : St}
/-- An own array in a slot is sealed: plain data from here on. -/
theorem T.seal {c : Code} (t k n' : Nat) {r : Arr} (ht : look s.fr t = some (.c (.own k n'))) (hk : s.A[k]? = some r) (hn : n' = r.rows.length) (h : T P n c Q ⟨(t, .c (.d (.sl r.rows))) :: s.fr, s.V, s.A.set k { r with wr := false }⟩) : T P n c Q s := by
  intro hok w0 g0 g a w hR
  obtain ⟨u, hu, hru⟩ := hR.slot t _ ht
  have hd : toD s.A (.own k n') = some (.sl r.rows) := by simp [toD, hk, hn]
  obtain ⟨g', hI, hx, hF, _, _, hrd⟩ := seal_one hR.inv hR.fr (show RepC g w s.A (.own k n') u from hru) hd
  have hs : sealA s.A (.own k n') = s.A.set k { r with wr := false } := by simp [sealA, hk]
  rw [hs] at hI hx
  refine h hok w0 g0 g' a w ⟨hI, hF, hR.size, hR.defers, fun t' x hx' => ?_⟩
  simp only [look] at hx'
  by_cases e : t' = t
  · subst e
    simp at hx'; subst hx'
    exact ⟨u, hu, hrd⟩
  · rw [if_neg e] at hx'
    obtain ⟨u', h1, h2⟩ := hR.slot t' x hx'
    exact ⟨u', h1, RepV.ext hx h2⟩
end
section
variable {P : Program} {s : St}
theorem Done.g1 {fn : Func} {e : Exit} {m : Nat} {r : AV} {V' : List (List CV)} (he : e = .normal ∨ e = .ret) (hr : (ares P s fn.results.toList).bind (resAs s.A (List.range m) []) = some [r])
    (hV : resVs s.A s.V (List.range m) [] (List.range m) = some V') : Done P fn m r V' [] e s := Done.g he hr rfl hV
end
end Go.Av

namespace Go.Av
open Go
section
attribute [-simp] astep wpo gdo onv aval avals oval slow shigh alen rowsOf look cvOf St.put cellsAt mkV splice abin aun abinS abinB cEq AV.plain AV.cells CV.isUndef toD toDs toRows sealA sealAs innAs AV.inn CV.inn inns AV.outn CV.outn argCells aparts arows afill isS ares ares1 AV.res1 CV.res ress pos? poss Then InBlock Sub subL argFr
attribute [-simp] freeStep exV keepL ups innVs putBack objCells back resVs one

/-- Own arrays, those of some numbers changed. -/
def exA (ex : List Nat) (rs : Nat → Arr) (V : List Arr) : List Arr := ex.foldl (fun W i => W.set i (rs i)) V

/-- What a reader asks: the same result whatever lies behind the memory of the region's start, and in the objects of some numbers. -/
def freeStepG (P : Program) (s : St) (ow : Bool) (o : Oper) (ex exa : List Nat) (V0 : List (List CV)) (A0 : List Arr) (x : AV) : Prop :=
  ∀ (rs : Nat → List CV) (ra : Nat → Arr) GV GA, astep P ⟨s.fr, exV ex rs V0 ++ GV, exA exa ra A0 ++ GA⟩ ow o fun y V' A' => y = x ∧ V' = exV ex rs V0 ++ GV ∧ A' = exA exa ra A0 ++ GA

def aopsG (P : Program) (all : Array Oper) (ow : Nat → Bool) (ws fs : List Nat) (m : Nat) (ex exa : List Nat) (V0 : List (List CV)) (A0 : List Arr) (K : St → Prop) : Nat → List Oper → St → Prop
  | _, [], s => K s
  | i, o :: rest, s => gdo all s o (astep P s (ow i) o fun x V A => (i ∈ ws ∨ (V = s.V ∧ A = s.A)) ∧ (i ∈ ws → i < m → V.take V0.length = exV ex (fun i => V.getD i []) V0 ∧ A.take A0.length = exA exa (fun i => A.getD i arr0) A0) ∧ (i ∈ fs → freeStepG P s (ow i) o ex exa V0 A0 x) ∧
      aopsG P all ow ws fs m ex exa V0 A0 K (i + 1) rest (s.put o.dst x V A)) (aopsG P all ow ws fs m ex exa V0 A0 K (i + 1) rest (s.put o.dst (.c .undef) s.V s.A))

section
variable {P : Program} {n : Nat} {Q Q' : Exit → St → Prop} {s s' : St} {w0 : World} {g0 g g' : Gh} {a : Act} {w w' : World} {V : List (List CV)} {A A' : List Arr}

/-- One step of the text's order; a free reader's result is the same in other memories. -/
def StpG (P : Program) (all : Array Oper) (ow : Bool) (fs : List Nat) (j : Nat) (ex exa : List Nat) (V0 : List (List CV)) (A0 : List Arr) (o : Oper) (s s' : St) : Prop :=
  gdo all s o True True ∧ ((gw all s o = true ∧ ∃ x V A, s' = s.put o.dst x V A ∧ (∀ K : AV → List (List CV) → List Arr → Prop, K x V A → astep P s ow o K) ∧ (j ∈ fs → freeStepG P s ow o ex exa V0 A0 x)) ∨ (gw all s o = false ∧ s' = s.put o.dst (.c .undef) s.V s.A))

def PreG (ex exa : List Nat) (V0 : List (List CV)) (A0 : List Arr) (s : St) : Prop := s.V.take V0.length = exV ex (fun i => s.V.getD i []) V0 ∧ s.A.take A0.length = exA exa (fun i => s.A.getD i arr0) A0

end
section
variable {P : Program} {n : Nat} {Q : Exit → St → Prop} {s s' : St} {y : Code}
structure OpsG (P : Program) (all : Array Oper) (ow : Nat → Bool) (ws fs : List Nat) (m : Nat) (ex exa : List Nat) (V0 : List (List CV)) (A0 : List Arr) (K : St → Prop) (i : Nat) (ops : List Oper) (s : St) : Prop where
  mk ::
  run : aopsG P all ow ws fs m ex exa V0 A0 K i ops s

@[congr] theorem aopsG_cong {all : Array Oper} {ow : Nat → Bool} {ws fs : List Nat} {m : Nat} {ex exa : List Nat} {V0 : List (List CV)} {A0 : List Arr} {K : St → Prop} {i i' : Nat} {ops : List Oper} (hi : i = i') (h : s = s') : OpsG P all ow ws fs m ex exa V0 A0 K i ops s = OpsG P all ow ws fs m ex exa V0 A0 K i' ops s' := by rw [h, hi]

theorem OpsG.gen {all : Array Oper} {ow : Nat → Bool} {ws fs : List Nat} {m : Nat} {ex exa : List Nat} {V0 : List (List CV)} {A0 : List Arr} {K : St → Prop} {i : Nat} {ops : List Oper} {d : Nat} {b : Bool} {fr : List (Nat × AV)} {V : List (List CV)} {A : List Arr}
    (h : ∀ q : Bool, b = q → OpsG P all ow ws fs m ex exa V0 A0 K i ops ⟨(d, .c (.d (.bool q))) :: fr, V, A⟩) : OpsG P all ow ws fs m ex exa V0 A0 K i ops ⟨(d, .c (.d (.bool b))) :: fr, V, A⟩ := h b rfl
end
end
attribute [simp] freeStepG exA
end Go.Av
