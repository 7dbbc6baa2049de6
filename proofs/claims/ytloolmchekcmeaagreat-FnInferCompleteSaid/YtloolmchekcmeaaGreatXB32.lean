/- A part. -/
import Derived.Test.YtloolmchekcmeaaGreatXB31
set_option linter.unusedVariables false
set_option linter.unusedSimpArgs false
namespace Go.Proofs.YtloolmchekcmeaaGreat
attribute [-simp] Go.Av.IT.jQ Go.Av.IT.fJ Go.Av.IT.fi Go.Av.IT.jv Go.Av.IT.jR Go.Av.IT.jS Go.Av.IT.jT Go.Av.IT.jU Go.Av.IT.gv Go.Av.hM
open Go Go.Av
attribute [local irreducible] T ah TX EX LX bB dn bW cx ie aG.kind aG.kids al.kind al.name al.num al.ty al.fr al.label al.kids
attribute [local simp] aL au
set_option maxHeartbeats 16000000
set_option maxRecDepth 8000
attribute [local irreducible] TJ aU jh db DY iS
theorem A6:rz (xu 25 28 ee (.slice none 0 0,.slice none 0 0,.slice none 0 0)):=fun p hp=>by
 simp only[xu,al.sj,al.sk,al.bP,gO,List.mem_cons,List.not_mem_nil,or_false]at hp;rcases hp with rfl|rfl|rfl
 ·exact⟨25,2,by rw[kg];simp[db]⟩
 ·exact⟨25,2,by rw[kg];simp[db]⟩
 ·exact⟨28,9,by rw[E8];simp[iS]⟩
theorem wi {L M:Ts} (h:rz L) (k:rz M):rz (L++M):=fun p hp=>by
 rcases List.mem_append.1 hp with q|q
 ·exact h p q
 ·exact k p q
abbrev ly:Value:=.slice none 0 0
end Go.Proofs.YtloolmchekcmeaaGreat
