/- A part. -/
import Derived.Test.YtloolmchekcmeaaGreatXB16
set_option linter.unusedVariables false
set_option linter.unusedSimpArgs false
namespace Go.Av
attribute [-simp] Go.Av.dJ Go.Av.yH Go.Av.fb Go.Av.AV.eH Go.Av.CV.eH Go.Av.iX Go.Av.AV.dO Go.Av.CV.dO Go.Av.cj Go.Av.e0 Go.Av.fH Go.Av.fy Go.Av.cW Go.Av.cg
open Go
def Tw {α:Type} (f:α->List α) (l:List α) (p:Nat):List (List α):=(Ig f (l.take p)).map (·++l.drop p)
def Tx (c:List dt) (e:al) (ts:List aG):Option aG:=
 if e.kind=14 then match ts with
  |x::_=>if eL x e.fr=true then some e.ty else none
  |[]=>none
 else match cD c e.kind e.name e.ty ts with
  |none=>none
  |some (ws,u)=>if ak 4 u=true/\DI ws ts=true then some u else none
def Nc (e:al):Option aG:=if lF e=true then EP [] e else none
theorem jF.plain {nt:Int} {d:Nat} {e:al} (h:jF nt d e):(e.kind=13\/e.kind=14->∃x,e.kids=[x])/\(¬(e.kind=13\/e.kind=14)->e.fr=aW/\e.label=0/\(e.kind≠5->e.ty=aW)):=by
 cases h with
 |var=>simp
 |num=>simp
 |tQ=>simp
 |tR=>simp
 |lam=>simp
 |n2 _ hk=>refine⟨fun h=>?_,fun _=>by simp⟩;simp at h;omega
 |ite=>simp
 |n1 _ hk=>refine⟨fun h=>?_,fun _=>by simp⟩;simp at h;omega
 |asc=>simp
 |cast=>simp
end Go.Av
