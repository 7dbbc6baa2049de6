/- A part. -/
import Derived.Test.YtloolmchekcmeaaGreatXB14
import Derived.Shelf.Strings.Builder1
set_option linter.unusedVariables false
set_option linter.unusedSimpArgs false
namespace Go.Av
attribute [-simp] Go.Av.cj Go.Av.e0 Go.Av.fH Go.Av.fy Go.Av.cW Go.Av.cg
open Go Go.Shelf Go.Proofs
section
variable {P:Program} {ρ:Ren}
structure Ve (w w':World) (ks:List Nat):Prop where
 os:w'.os=w.os
 tape:w'.tape=w.tape
 output:w'.output=w.output
 size:w.heap.size<=w'.heap.size
 qI:∀k,k<w.heap.size->k∉ks->w'.heap[k]? =w.heap[k]?
open Go.Lib in
open Go.Lib in
end
end Go.Av
namespace Go.Av
attribute [-simp] Go.Av.cj Go.Av.e0 Go.Av.fH Go.Av.fy Go.Av.cW Go.Av.cg
open Go Go.Shelf Go.Proofs
section
variable {P:Program} {ρ:Ren}
end
end Go.Av
