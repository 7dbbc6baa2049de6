/- A part. -/
import Derived.Test.YtloolmchekcmeaaGreatXH28
set_option linter.unusedVariables false
set_option linter.unusedSimpArgs false
namespace Go.Proofs.YtloolmchekcmeaaGreat
attribute [-simp] Go.Av.IT.ly Go.Av.IT.fq Go.Av.IT.ft Go.Av.IT.j5 Go.Av.IT.lz Go.Av.IT.lA Go.Av.IT.lB Go.Av.IT.lC Go.Av.IT.gU Go.Av.iS
open Go Go.Av
attribute [local irreducible] T ah TX EX LX bo cE bF cD fZ aH.kind aH.kids an.kind an.name an.num an.ty an.fr an.label an.kids
attribute [local simp] aX ax
set_option maxHeartbeats 16000000
set_option maxRecDepth 8000
attribute [local irreducible] TJ br sD gu AW jm
abbrev R2:Value:=.slice none 0 0
end Go.Proofs.YtloolmchekcmeaaGreat
