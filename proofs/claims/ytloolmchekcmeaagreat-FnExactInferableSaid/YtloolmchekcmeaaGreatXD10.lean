/- A part. -/
import Derived.Test.YtloolmchekcmeaaGreatXD9
import Derived.Lib.Bytealg
set_option linter.unusedVariables false
set_option linter.unusedSimpArgs false
namespace Go.Av
attribute [-simp] Go.Av.c9 Go.Av.xO Go.Av.ef Go.Av.AV.dw Go.Av.CV.dw Go.Av.fR Go.Av.AV.cJ Go.Av.CV.cJ Go.Av.bP Go.Av.eu Go.Av.eN Go.Av.eG Go.Av.b8 Go.Av.bN
open Go
mutual
def wX (c:UInt8):List UInt8->ak->Bool
 |bd,.mk k s _ _ _ _ l=>(decide (k=1)&&(decide (s=[c])&& !(bd.contains c)))||pW c (if k=5 then bd++s else bd) l
def pW (c:UInt8):List UInt8->List ak->Bool
 |_,[]=>false
 |bd,e::r=>wX c bd e||pW c bd r
end
@[irreducible] def Ec:List UInt8:=(List.range 26).map fun i=>UInt8.ofNat (97+i)
def HB (e:ak):List UInt8:=Ec.filter fun c=>wX c [] e
theorem Oj {n:Nat} (h:n<=255):IntKind.u8.wrap (n:Int)=n:=by simp[IntKind.wrap,IntKind.signed,IntKind.bits];omega
theorem yW {s:List UInt8} (h:dG s=true):∃c,s=[c]/\97<=c.toNat/\c.toNat<=122:=by
 match s with
 |[]=>simp[dG]at h
 |[c]=>simp[dG]at h;exact⟨c,rfl,by omega,by omega⟩
 |_::_::_=>simp[dG]at h
abbrev Rg (S:List Bool):List CV:=S.map fun b=>CV.d (.bool b)
def VJ (f:UInt8->Bool) (S:List Bool):List Bool:=List.zipWith (fun c b=>b||f c) Ec S
@[irreducible] def UF:List Bool:=List.replicate 26 false
def LL (e:ak) (x:List UInt8) (v:ak):Option ak:=
 if(aV e &&(aV v &&(dG x &&(decide (HB v=[])&& aV (zC x v e)))))=true then some (zC x v e)else none
mutual
def vg:aF->Nat
 |.mk k l=>if k=1 then 1 else LM l
def LM:List aF->Nat
 |[]=>0
 |t::r=>vg t+LM r
end
theorem Ed {k:Int} (hk:k≠1) (a b:aF):vg (.mk k [a,b])=vg a+vg b:=by simp[vg,LM,hk]
def Rh (c:List dI):Prop:=∀b∈c,vg b.ty=0
mutual
def C9:ak->List ak
 |.mk k s n t f b l=>(if k=14 then [.mk k s n t f b l]else [])++HC l
def HC:List ak->List ak
 |[]=>[]
 |e::r=>C9 e++HC r
end
def Pz (e:ak):Bool:=aV e && !((aK e).any fun t=>decide (0<vg t))
def Da (e:ak):ak:=if bI e.kind=true then .mk e.kind e.name e.num km e.fr e.label e.kids else e
abbrev HD (e:ak):ak:=MG e km
def Ri (e:ak):ak:=
 if e.kind=13 then match e.kids with
  |x::_=>x
  |[]=>e
 else if e.kind=1\/e.kind=6\/e.kind=9\/e.kind=11\/e.kind=12 then e
 else if e.kind=5 then HD (.mk 5 e.name e.num km e.fr e.label e.kids)else HD e
def UG (e:ak):ak:=mapM Ri e
def Rj (c:List dI):Prop:=∀b∈c,b.ty=km/\∃z,b.name=[z]
def UH (c:List dI):List UInt8:=c.flatMap (·.name)
def Ok (e:ak):ak:=
 if e.kind=14 then match e.kids with
  |a::_=>if ew e.fr e.ty=true then a else if e.fr.kind=1/\a.kind=14/\a.ty.kind=1/\ew e.ty a.fr=true then(match a.kids with
    |x::_=>x
    |[]=>e)else e
  |[]=>e
 else e
def KB (e:ak):ak:=mapM Ok e
abbrev UI (e:ak):aF×aF×Int:=(e.fr,e.ty,e.label)
abbrev Ol:aF:=.mk 4 [km,km]
abbrev KC:aF:=.mk 5 [km,km]
def HE {α:Type} (f:α->List α):List α->List (List α)
 |[]=>[]
 |x::r=>(f x).map (·::r)++(HE f r).map (x::·)
mutual
def BQ:aF->List aF
 |.mk k l=>if k=1 then [bp,cx,Ol,KC]else(BR l).map (aF.mk k)
def BR:List aF->List (List aF)
 |[]=>[]
 |t::r=>(BQ t).map (·::r)++(BR r).map (t::·)
end
mutual
def LN:Nat->aF->List aF
 |d,.mk k l=>if k=1 then bp::cx::(if 1<d then [Ol,KC]else [])else(HF (d-1) l).map (aF.mk k)
def HF:Nat->List aF->List (List aF)
 |_,[]=>[]
 |d,t::r=>(LN d t).map (·::r)++(HF d r).map (t::·)
end
def LO (t:aF):List aF:=if al 4 t=true then(BQ t).filter (al 4)else []
mutual
def LP:aF->Nat
 |.mk _ l=>1+Ee l
def Ee:List aF->Nat
 |[]=>0
 |t::r=>LP t+Ee r
end
mutual
def Om:aF->Nat
 |.mk k l=>if k=1 then 0 else 1+On l
def On:List aF->Nat
 |[]=>0
 |t::r=>Om t+On r
end
def Oo (ts:List aF):List (List aF):=HE LO ts
def Db (e:ak):Bool:=(eQ [] e).isSome
def Ef (e:ak):List ak:=((Oo (aK e)).map (cq e)).filter Db
def Rk (e:ak):Nat:=((aK e).map Om).sum
end Go.Av
