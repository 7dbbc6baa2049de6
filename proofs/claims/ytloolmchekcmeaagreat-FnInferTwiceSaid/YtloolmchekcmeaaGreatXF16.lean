/- A part. -/
import Derived.Test.YtloolmchekcmeaaGreatXF15
import Derived.Shelf.Strings.Builder1
set_option linter.unusedVariables false
set_option linter.unusedSimpArgs false
namespace Go.Av
attribute [-simp] Go.Av.ch Go.Av.eY Go.Av.fw Go.Av.fi Go.Av.cY Go.Av.cb
open Go Go.Shelf Go.Proofs
section
variable {P:Program} {ρ:Ren}
structure U6 (w w':World) (ks:List Nat):Prop where
 os:w'.os=w.os
 tape:w'.tape=w.tape
 output:w'.output=w.output
 size:w.heap.size<=w'.heap.size
 qE:∀k,k<w.heap.size->k∉ks->w'.heap[k]? =w.heap[k]?
open Go.Lib in
open Go.Lib in
end
end Go.Av
namespace Go.Av
attribute [-simp] Go.Av.ch Go.Av.eY Go.Av.fw Go.Av.fi Go.Av.cY Go.Av.cb
open Go Go.Shelf Go.Proofs
section
variable {P:Program} {ρ:Ren}
end
end Go.Av
