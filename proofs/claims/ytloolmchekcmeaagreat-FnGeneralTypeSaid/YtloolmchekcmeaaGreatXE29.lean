/- A part. -/
import Derived.Test.YtloolmchekcmeaaGreatXE28
set_option linter.unusedVariables false
set_option linter.unusedSimpArgs false
namespace Go.Proofs.YtloolmchekcmeaaGreat
attribute [-simp] Go.Av.IT.og Go.Av.IT.gU Go.Av.IT.gV Go.Av.IT.mA Go.Av.IT.oh Go.Av.IT.om Go.Av.IT.oo Go.Av.IT.ot Go.Av.IT.jF Go.Av.kY
open Go Go.Av
attribute [local irreducible] T ah TX EX LX bw dh bR cA gA aE.kind aE.kids ao.kind ao.name ao.num ao.ty ao.fr ao.label ao.kids
attribute [local simp] aQ ax
set_option maxHeartbeats 16000000
set_option maxRecDepth 8000
attribute [local irreducible] TJ aR iP c8 Dz iC
theorem AN:ri (vS 25 28 e0 (.slice none 0 0,.slice none 0 0,.slice none 0 0)):=fun p hp=>by
 simp only[vS,ao.sd,ao.se,ao.bQ,gz,List.mem_cons,List.not_mem_nil,or_false]at hp;rcases hp with rfl|rfl|rfl
 ·exact⟨25,2,by rw[jV];simp[c8]⟩
 ·exact⟨25,2,by rw[jV];simp[c8]⟩
 ·exact⟨28,9,by rw[ER];simp[iC]⟩
theorem wo {L M:Ts} (h:ri L) (k:ri M):ri (L++M):=fun p hp=>by
 rcases List.mem_append.1 hp with q|q
 ·exact h p q
 ·exact k p q
abbrev lg:Value:=.slice none 0 0
end Go.Proofs.YtloolmchekcmeaaGreat
