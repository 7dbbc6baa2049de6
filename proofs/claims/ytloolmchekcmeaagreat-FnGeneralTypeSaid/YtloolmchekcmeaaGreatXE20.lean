/- A part. -/
import Derived.Test.YtloolmchekcmeaaGreatXE19
set_option linter.unusedVariables false
set_option linter.unusedSimpArgs false
namespace Go.Proofs.YtloolmchekcmeaaGreat
attribute [-simp] Go.Av.b9
open Go Go.Av
attribute [local irreducible] T ah TX EX LX bw dh bR cA gA aE.kind aE.kids ao.kind ao.name ao.num ao.ty ao.fr ao.label ao.kids
attribute [local simp] aQ ax
set_option maxHeartbeats 16000000
set_option maxRecDepth 8000
attribute [local irreducible] TJ aR iP c8
end Go.Proofs.YtloolmchekcmeaaGreat
namespace Go.Proofs.YtloolmchekcmeaaGreat
attribute [-simp] Go.Av.b9
open Go Go.Av
attribute [local irreducible] T ah TX EX LX bw dh bR cA gA aE.kind aE.kids ao.kind ao.name ao.num ao.ty ao.fr ao.label ao.kids
attribute [local simp] aQ ax
set_option maxHeartbeats 16000000
set_option maxRecDepth 8000
attribute [local irreducible] TJ aR iP c8 Dz iC
end Go.Proofs.YtloolmchekcmeaaGreat
