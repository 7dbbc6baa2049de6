/- A part. -/
import Derived.Test.YtloolmchekcmeaaGreatXH29
set_option linter.unusedVariables false
set_option linter.unusedSimpArgs false
namespace Go.Proofs.YtloolmchekcmeaaGreat
attribute [-simp] Go.Av.bO Go.Av.dO Go.Av.ed Go.Av.ec Go.Av.cl Go.Av.cj
open Go Go.Av
attribute [local irreducible] T ah TX EX LX bo cE bF cD fZ aH.kind aH.kids an.kind an.name an.num an.ty an.fr an.label an.kids
attribute [local simp] aX ax
set_option maxHeartbeats 16000000
set_option maxRecDepth 8000
attribute [local simp] Option.bind
def Pw (B:List IT) (K:Nat) (Ts:List aH) (l:List IT):Option (List aH):=(FR B K l).map (Ts++·)
end Go.Proofs.YtloolmchekcmeaaGreat
