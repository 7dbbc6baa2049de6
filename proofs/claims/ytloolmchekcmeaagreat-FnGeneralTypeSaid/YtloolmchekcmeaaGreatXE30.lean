/- A part. -/
import Derived.Test.YtloolmchekcmeaaGreatXE29
set_option linter.unusedVariables false
set_option linter.unusedSimpArgs false
namespace Go.Proofs.YtloolmchekcmeaaGreat
attribute [-simp] Go.Av.cb Go.Av.eL Go.Av.fj Go.Av.fa Go.Av.cT Go.Av.b9
open Go Go.Av
attribute [local irreducible] T ah TX EX LX bw dh bR cA gA aE.kind aE.kids ao.kind ao.name ao.num ao.ty ao.fr ao.label ao.kids
attribute [local simp] aQ ax
set_option maxHeartbeats 16000000
set_option maxRecDepth 8000
attribute [local simp] Option.bind
def Tq (B:List IT) (K:Nat) (Ts:List aE) (l:List IT):Option (List aE):=(oW B K l).map (Ts++·)
end Go.Proofs.YtloolmchekcmeaaGreat
