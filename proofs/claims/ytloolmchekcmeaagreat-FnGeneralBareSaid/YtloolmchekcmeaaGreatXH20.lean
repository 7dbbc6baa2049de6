/- A part. -/
import Derived.Test.YtloolmchekcmeaaGreatXH19
set_option linter.unusedVariables false
set_option linter.unusedSimpArgs false
namespace Go.Proofs.YtloolmchekcmeaaGreat
attribute [-simp] Go.Av.cj
open Go Go.Av
attribute [local irreducible] T ah TX EX LX bo cE bF cD fZ aH.kind aH.kids an.kind an.name an.num an.ty an.fr an.label an.kids
attribute [local simp] aX ax
set_option maxHeartbeats 16000000
set_option maxRecDepth 8000
attribute [local irreducible] TJ br sD gu
end Go.Proofs.YtloolmchekcmeaaGreat
namespace Go.Proofs.YtloolmchekcmeaaGreat
attribute [-simp] Go.Av.cj
open Go Go.Av
attribute [local irreducible] T ah TX EX LX bo cE bF cD fZ aH.kind aH.kids an.kind an.name an.num an.ty an.fr an.label an.kids
attribute [local simp] aX ax
set_option maxHeartbeats 16000000
set_option maxRecDepth 8000
attribute [local irreducible] TJ br sD gu AW jm
end Go.Proofs.YtloolmchekcmeaaGreat
