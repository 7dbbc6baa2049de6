/- A part. -/
import Derived.Test.YtloolmchekcmeaaGreatXF29
set_option linter.unusedVariables false
set_option linter.unusedSimpArgs false
namespace Go.Proofs.YtloolmchekcmeaaGreat
attribute [-simp] Go.Av.IT.mE Go.Av.IT.gO Go.Av.IT.gl Go.Av.IT.lM Go.Av.IT.mF Go.Av.IT.mG Go.Av.IT.mH Go.Av.IT.mI Go.Av.IT.iS Go.Av.j6
open Go Go.Av
attribute [local irreducible] T ah TX EX LX bC dk bV ck gp aI.kind aI.kids ao.kind ao.name ao.num ao.ty ao.fr ao.label ao.kids
attribute [local simp] aJ al
set_option maxHeartbeats 16000000
set_option maxRecDepth 8000
attribute [local irreducible] TJ aT jf df Dg iR
theorem Ax:rm (vz 25 28 ee (.slice none 0 0,.slice none 0 0,.slice none 0 0)):=fun p hp=>by
 simp only[vz,ao.oH,ao.qJ,ao.bQ,gQ,List.mem_cons,List.not_mem_nil,or_false]at hp;rcases hp with rfl|rfl|rfl
 ·exact⟨25,2,by rw[j5];simp[df]⟩
 ·exact⟨25,2,by rw[j5];simp[df]⟩
 ·exact⟨28,9,by rw[Ey];simp[iR]⟩
theorem vN {L M:Ts} (h:rm L) (k:rm M):rm (L++M):=fun p hp=>by
 rcases List.mem_append.1 hp with q|q
 ·exact h p q
 ·exact k p q
abbrev lz:Value:=.slice none 0 0
end Go.Proofs.YtloolmchekcmeaaGreat
