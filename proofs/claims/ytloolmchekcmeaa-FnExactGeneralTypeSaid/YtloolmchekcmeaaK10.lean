/- A part of the library of this seat. -/
import Derived.Test.YtloolmchekcmeaaK9
import Derived.Shelf.Strings.Builder1
set_option linter.unusedVariables false
set_option linter.unusedSimpArgs false
namespace Go.Av
attribute [-simp] Go.Av.astepJ Go.Av.relC Go.Av.relL Go.Av.relV Go.Av.relVs Go.Av.callJ
open Go Go.Shelf Go.Proofs
section
variable {P : Program} {ρ : Ren}

structure Save (w w' : World) (ks : List Nat) : Prop where
 os : w'.os = w.os
 tape : w'.tape = w.tape
 output : w'.output = w.output
 size : w.heap.size <= w'.heap.size
 blk : ∀ k, k < w.heap.size -> k ∉ ks -> w'.heap[k]? = w.heap[k]?
theorem Save.trans {w w' w'' : World} {ks : List Nat} (h : Save w w' ks) (k : Save w' w'' ks) : Save w w'' ks :=
 ⟨k.os.trans h.os, k.tape.trans h.tape, k.output.trans h.output, Nat.le_trans h.size k.size, fun b h1 h2 => (k.blk b (Nat.lt_of_lt_of_le h1 h.size) h2).trans (h.blk b h1 h2)⟩
theorem Save.cell (w : World) (a : Addr) (v : Value) (ks : List Nat) (h : a.block ∈ ks) : Save w (w.setCell a v) ks :=
 ⟨rfl, rfl, rfl, by simp, fun k _ hk => RowKit.Below.heap_setCell w a v k (fun e => hk (e ▸ h))⟩

open Go.Lib in
open Go.Lib in
theorem Save.drew (w : World) (ks : List Nat) : Save w w.drew ks := ⟨rfl, rfl, rfl, Nat.le_refl _, fun _ _ _ => rfl⟩

end
end Go.Av

namespace Go.Av
attribute [-simp] Go.Av.astepJ Go.Av.relC Go.Av.relL Go.Av.relV Go.Av.relVs Go.Av.callJ
open Go Go.Shelf Go.Proofs
section
variable {P : Program} {ρ : Ren}
end
end Go.Av
