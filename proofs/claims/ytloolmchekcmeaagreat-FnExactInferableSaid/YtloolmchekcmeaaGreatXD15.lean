/- A part. -/
import Derived.Test.YtloolmchekcmeaaGreatXD14
set_option linter.unusedVariables false
set_option linter.unusedSimpArgs false
namespace Go.Av
attribute [-simp] Go.Av.c9 Go.Av.xO Go.Av.ef Go.Av.AV.dw Go.Av.CV.dw Go.Av.fR Go.Av.AV.cJ Go.Av.CV.cJ Go.Av.bP Go.Av.eu Go.Av.eN Go.Av.eG Go.Av.b8 Go.Av.bN
open Go
def SY {α:Type} (f:α->List α) (l:List α) (p:Nat):List (List α):=(HE f (l.take p)).map (·++l.drop p)
def SZ (c:List dI) (e:ak) (ts:List aF):Option aF:=
 if e.kind=14 then match ts with
  |x::_=>if ew x e.fr=true then some e.ty else none
  |[]=>none
 else match ck c e.kind e.name e.ty ts with
  |none=>none
  |some (ws,u)=>if al 4 u=true/\CU ws ts=true then some u else none
def MO (e:ak):Option aF:=if kY e=true then D2 [] e else none
theorem jY.plain {nt:Int} {d:Nat} {e:ak} (h:jY nt d e):(e.kind=13\/e.kind=14->∃x,e.kids=[x])/\(¬(e.kind=13\/e.kind=14)->e.fr=aX/\e.label=0/\(e.kind≠5->e.ty=aX)):=by
 cases h with
 |var=>simp
 |num=>simp
 |vt=>simp
 |vu=>simp
 |lam=>simp
 |n2 _ hk=>refine⟨fun h=>?_,fun _=>by simp⟩;simp at h;omega
 |ite=>simp
 |n1 _ hk=>refine⟨fun h=>?_,fun _=>by simp⟩;simp at h;omega
 |asc=>simp
 |cast=>simp
end Go.Av
