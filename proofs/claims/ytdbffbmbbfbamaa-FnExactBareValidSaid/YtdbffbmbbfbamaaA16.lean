/- Convenience, more: booleans named where they are made; a body that is done with plain data. -/
import Derived.Test.YtdbffbmbbfbamaaA15
namespace Go.Av
open Go

section
variable {P : Program} {all : Array Oper} {ow : Nat → Bool} {K : St → Prop} {i : Nat} {ops : List Oper} {ws : List Nat} {d : Nat} {b : Bool} {fr : List (Nat × AV)} {V : List (List CV)} {A : List Arr}
theorem Ops.gen (h : ∀ q : Bool, b = q → Ops P all ow K i ops ⟨(d, .c (.d (.bool q))) :: fr, V, A⟩) : Ops P all ow K i ops ⟨(d, .c (.d (.bool b))) :: fr, V, A⟩ := h b rfl
theorem OpsD.gen (h : ∀ q : Bool, b = q → OpsD P all ow ws K i ops ⟨(d, .c (.d (.bool q))) :: fr, V, A⟩) : OpsD P all ow ws K i ops ⟨(d, .c (.d (.bool b))) :: fr, V, A⟩ := h b rfl
end

theorem Done.data {P : Program} {s : St} {fn : Func} {r : AV} {e : Exit} (he : e = .normal ∨ e = .ret) (hr : ares P s fn.results.toList = some [r]) (hx : r.res1 s.A [] [] = some r) : Done P fn 0 r [] [] e s := Done.pure he hr hx

theorem set_end {α : Type} (V : List α) (z x : α) : (V ++ [z]).set V.length x = V ++ [x] := by simp
theorem beq_f {a b : Int} (h : ¬ a = b) : (a == b) = false := by simpa using h
end Go.Av
