/- A part. -/
import Derived.Test.YtloolmchekcmeaaGreatXE15
import Derived.Shelf.Strings.Builder1
set_option linter.unusedVariables false
set_option linter.unusedSimpArgs false
namespace Go.Av
attribute [-simp] Go.Av.cb Go.Av.eL Go.Av.fj Go.Av.fa Go.Av.cT Go.Av.b9
open Go Go.Shelf Go.Proofs
section
variable {P:Program} {ρ:Ren}
structure UQ (w w':World) (ks:List Nat):Prop where
 os:w'.os=w.os
 tape:w'.tape=w.tape
 output:w'.output=w.output
 size:w.heap.size<=w'.heap.size
 qF:∀k,k<w.heap.size->k∉ks->w'.heap[k]? =w.heap[k]?
open Go.Lib in
open Go.Lib in
end
end Go.Av
namespace Go.Av
attribute [-simp] Go.Av.cb Go.Av.eL Go.Av.fj Go.Av.fa Go.Av.cT Go.Av.b9
open Go Go.Shelf Go.Proofs
section
variable {P:Program} {ρ:Ren}
end
end Go.Av
