/- A part. -/
import Derived.Test.YtloolmchekcmeaaGreatXD28
set_option linter.unusedVariables false
set_option linter.unusedSimpArgs false
namespace Go.Proofs.YtloolmchekcmeaaGreat
attribute [-simp] Go.Av.IT.gK Go.Av.IT.eH Go.Av.IT.ey Go.Av.IT.gj Go.Av.IT.gL Go.Av.IT.gM Go.Av.IT.gN Go.Av.IT.gO Go.Av.IT.e8 Go.Av.fh
open Go Go.Av
attribute [local irreducible] T ah TX EX LX dA dB bL b5 eK aF.kind aF.kids ak.kind ak.name ak.num ak.ty ak.fr ak.label ak.kids
attribute [local simp] aN au
set_option maxHeartbeats 16000000
set_option maxRecDepth 8000
attribute [local irreducible] TJ aH dt bZ nE ei
theorem An:q0 (mz 25 28 c5 (.slice none 0 0,.slice none 0 0,.slice none 0 0)):=fun p hp=>by
 simp only[mz,ak.jI,ak.jJ,ak.bD,gk,List.mem_cons,List.not_mem_nil,or_false]at hp;rcases hp with rfl|rfl|rfl
 ·exact⟨25,2,by rw[hH];simp[bZ]⟩
 ·exact⟨25,2,by rw[hH];simp[bZ]⟩
 ·exact⟨28,9,by rw[vC];simp[ei]⟩
theorem vJ {L M:Ts} (h:q0 L) (k:q0 M):q0 (L++M):=fun p hp=>by
 rcases List.mem_append.1 hp with q|q
 ·exact h p q
 ·exact k p q
abbrev kP:Value:=.slice none 0 0
end Go.Proofs.YtloolmchekcmeaaGreat
