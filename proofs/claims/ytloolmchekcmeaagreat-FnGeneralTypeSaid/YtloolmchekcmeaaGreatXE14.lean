/- A part. -/
import Derived.Test.YtloolmchekcmeaaGreatXE13
set_option linter.unusedVariables false
set_option linter.unusedSimpArgs false
namespace Go.Proofs.YtloolmchekcmeaaGreat
attribute [-simp] Go.Av.eS Go.Av.AV.ew Go.Av.CV.ew Go.Av.iG Go.Av.AV.dF Go.Av.CV.dF Go.Av.cb Go.Av.eL Go.Av.fj Go.Av.fa Go.Av.cT Go.Av.b9
open Go Go.Av
attribute [local irreducible] T ah TX EX LX bw dh bR cA gA aE.kind aE.kids ao.kind ao.name ao.num ao.ty ao.fr ao.label ao.kids
attribute [local simp] aQ ax
set_option maxHeartbeats 16000000
set_option maxRecDepth 8000
abbrev RA (u:ea):Prop:=u.name∈([[120],[122],[121],[88],[]]:List (List UInt8))/\gl u.ty<=1000
end Go.Proofs.YtloolmchekcmeaaGreat
