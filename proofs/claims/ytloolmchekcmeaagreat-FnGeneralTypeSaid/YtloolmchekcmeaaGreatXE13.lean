/- A part. -/
import Derived.Test.YtloolmchekcmeaaGreatXE12
import Derived.Lib.Bytealg
set_option linter.unusedVariables false
set_option linter.unusedSimpArgs false
namespace Go.Av
attribute [-simp] Go.Av.di Go.Av.yl Go.Av.eS Go.Av.AV.ew Go.Av.CV.ew Go.Av.iG Go.Av.AV.dF Go.Av.CV.dF Go.Av.cb Go.Av.eL Go.Av.fj Go.Av.fa Go.Av.cT Go.Av.b9
open Go
mutual
def xF (c:UInt8):List UInt8->ao->Bool
 |bd,.mk k s _ _ _ _ l=>(decide (k=1)&&(decide (s=[c])&& !(bd.contains c)))||qj c (if k=5 then bd++s else bd) l
def qj (c:UInt8):List UInt8->List ao->Bool
 |_,[]=>false
 |bd,e::r=>xF c bd e||qj c bd r
end
@[irreducible] def EL:List UInt8:=(List.range 26).map fun i=>UInt8.ofNat (97+i)
def Ig (e:ao):List UInt8:=EL.filter fun c=>xF c [] e
theorem zE {s:List UInt8} (h:eh s=true):∃c,s=[c]/\97<=c.toNat/\c.toNat<=122:=by
 match s with
 |[]=>simp[eh]at h
 |[c]=>simp[eh]at h;exact⟨c,rfl,by omega,by omega⟩
 |_::_::_=>simp[eh]at h
abbrev Ru (S:List Bool):List CV:=S.map fun b=>CV.d (.bool b)
def VN (f:UInt8->Bool) (S:List Bool):List Bool:=List.zipWith (fun c b=>b||f c) EL S
@[irreducible] def UL:List Bool:=List.replicate 26 false
def L4 (e:ao) (x:List UInt8) (v:ao):Option ao:=
 if(a6 e &&(a6 v &&(eh x &&(decide (Ig v=[])&& a6 (Ah x v e)))))=true then some (Ah x v e)else none
mutual
def vV:aE->Nat
 |.mk k l=>if k=1 then 1 else L5 l
def L5:List aE->Nat
 |[]=>0
 |t::r=>vV t+L5 r
end
theorem EM {k:Int} (hk:k≠1) (a b:aE):vV (.mk k [a,b])=vV a+vV b:=by simp[vV,L5,hk]
def Rv (c:List ea):Prop:=∀b∈c,vV b.ty=0
mutual
def DI:ao->List ao
 |.mk k s n t f b l=>(if k=14 then [.mk k s n t f b l]else [])++Ih l
def Ih:List ao->List ao
 |[]=>[]
 |e::r=>DI e++Ih r
end
def PS (e:ao):Bool:=a6 e && !((aH e).any fun t=>decide (0<vV t))
def DJ (e:ao):ao:=if bD e.kind=true then .mk e.kind e.name e.num kD e.fr e.label e.kids else e
abbrev Ii (e:ao):ao:=MW e kD
def Rw (e:ao):ao:=
 if e.kind=13 then match e.kids with
  |x::_=>x
  |[]=>e
 else if e.kind=1\/e.kind=6\/e.kind=9\/e.kind=11\/e.kind=12 then e
 else if e.kind=5 then Ii (.mk 5 e.name e.num kD e.fr e.label e.kids)else Ii e
def UM (e:ao):ao:=mapM Rw e
def Rx (c:List ea):Prop:=∀b∈c,b.ty=kD/\∃z,b.name=[z]
def UN (c:List ea):List UInt8:=c.flatMap (·.name)
def OA (e:ao):ao:=
 if e.kind=14 then match e.kids with
  |a::_=>if ez e.fr e.ty=true then a else if e.fr.kind=1/\a.kind=14/\a.ty.kind=1/\ez e.ty a.fr=true then(match a.kids with
    |x::_=>x
    |[]=>e)else e
  |[]=>e
 else e
def KY (e:ao):ao:=mapM OA e
abbrev UO (e:ao):aE×aE×Int:=(e.fr,e.ty,e.label)
abbrev OB:aE:=.mk 4 [kD,kD]
abbrev KZ:aE:=.mk 5 [kD,kD]
def Ij {α:Type} (f:α->List α):List α->List (List α)
 |[]=>[]
 |x::r=>(f x).map (·::r)++(Ij f r).map (x::·)
mutual
def Cd:aE->List aE
 |.mk k l=>if k=1 then [bP,c3,OB,KZ]else(Ce l).map (aE.mk k)
def Ce:List aE->List (List aE)
 |[]=>[]
 |t::r=>(Cd t).map (·::r)++(Ce r).map (t::·)
end
mutual
def L6:Nat->aE->List aE
 |d,.mk k l=>if k=1 then bP::c3::(if 1<d then [OB,KZ]else [])else(Ik (d-1) l).map (aE.mk k)
def Ik:Nat->List aE->List (List aE)
 |_,[]=>[]
 |d,t::r=>(L6 d t).map (·::r)++(Ik d r).map (t::·)
end
def L7 (t:aE):List aE:=if ak 4 t=true then(Cd t).filter (ak 4)else []
mutual
def L8:aE->Nat
 |.mk _ l=>1+EN l
def EN:List aE->Nat
 |[]=>0
 |t::r=>L8 t+EN r
end
mutual
def OC:aE->Nat
 |.mk k l=>if k=1 then 0 else 1+OD l
def OD:List aE->Nat
 |[]=>0
 |t::r=>OC t+OD r
end
def OE (ts:List aE):List (List aE):=Ij L7 ts
def DK (e:ao):Bool:=(cO [] e).isSome
def EO (e:ao):List ao:=((OE (aH e)).map (bF e)).filter DK
def Ry (e:ao):Nat:=((aH e).map OC).sum
def S8 (ts:List aE) (us:List aE):Prop:=∀(i:Nat) b,us[i]? =some b->∃a,ts[i]? =some a/\Dk a b=true
def OF:Nat->ao->ao
 |0,e=>e
 |n+1,e=>match EO e with
  |[]=>e
  |x::_=>OF n x
def Kb (k:Int):aE:=if k=4\/k=5 then .mk k [kD,kD]else .mk k []
def Ga (t:aE):Bool:=decide (t.kind≠1)&& ez t (Kb t.kind)
def DM (e:ao):Bool:=decide (e.kind=14)&&(decide (e.fr.kind=e.ty.kind)&&(decide (e.ty.kind=4)||decide (e.ty.kind=5)))
def Rz (e:ao):Bool:=decide (e.kind=14)&&(decide (e.ty.kind=1)&& Ga e.fr)
def L9 (e:ao):Bool:=decide (e.kind=2)||(decide (e.kind=3)||(decide (e.kind=4)||decide (e.kind=5)))
mutual
def Il:ao->Bool
 |.mk k s n t f b l=>if decide (k=10)||(DM (.mk k s n t f b [])||Rz (.mk k s n t f b []))then OG l else L9 (.mk k s n t f b [])
def OG:List ao->Bool
 |[]=>true
 |e::r=>Il e && OG r
end
def Ma (b:Bool):ao:=if b then mR else ju
def K0 (e:ao):Option ao:=
 if e.kind=6 then match e.kids with
  |a::b::_=>if a.kind=5 then match a.kids with
    |x::_=>some (Ah a.name b x)
    |[]=>none
   else none
  |_=>none
 else if e.kind=7\/e.kind=8 then match e.kids with
  |a::b::_=>if a.kind=2/\b.kind=2 then some (if e.kind=7 then tO ((a.num+b.num).tmod 1000)else Ma (decide (a.num<b.num)))else none
  |_=>none
 else if e.kind=9 then match e.kids with
  |a::b::c::_=>if a.kind=3 then some b else if a.kind=4 then some c else none
  |_=>none
 else if e.kind=11\/e.kind=12 then match e.kids with
  |a::_=>if a.kind=10 then match a.kids with
    |x::y::_=>some (if e.kind=11 then x else y)
    |_=>none
   else none
  |_=>none
 else none
def Im (k:Int):Int:=if k=6 then 1 else if k=7\/k=8 then 2 else if k=9 then 3 else if k=11\/k=12 then 4 else 5
def PT (e:ao):Nat:=if e.kind=9 then 1 else e.kids.length
def Kc:List ao->Option Nat
 |[]=>none
 |e::r=>if Il e=true then(Kc r).map (·+1)else some 0
mutual
def zF:ao->ao×Int×Int
 |.mk k s n t f b l=>match Io (if k=9 then 1 else l.length) l with
  |some (l',c,err)=>(.mk k s n t f b l',c,err)
  |none=>match K0 (.mk k s n t f b l)with
   |some x=>(x,1,0)
   |none=>(e0,2,Im k)
def Io:Nat->List ao->Option (List ao×Int×Int)
 |0,_=>none
 |_,[]=>none
 |n+1,e::r=>if Il e=true then(Io n r).map fun p=>(e::p.1,p.2.1,p.2.2)else
   let p:=zF e
   some (p.1::r,p.2.1,p.2.2)
end
def xG (e:ao):Bool:=lr e && KL e
def fm (e:ao):ao×Int×Int:=
 if xG e=true then
  if Il e=true then(e,0,0)
  else if(zF e).2.1=1 then(if xG (zF e).1=true then((zF e).1,1,0)else(e0,4,0))else(e0,(zF e).2.1,(zF e).2.2)
 else(e0,3,0)
def At:Nat->ao->ao×Int×Int×Int
 |0,e=>((fm e).1,(fm e).2.1,(fm e).2.2,0)
 |n+1,e=>if(fm e).2.1=1 then((At n (fm e).1).1,(At n (fm e).1).2.1,(At n (fm e).1).2.2.1,(At n (fm e).1).2.2.2+1)
   else((fm e).1,(fm e).2.1,(fm e).2.2,0)
def K3 (n:Int):Bool:=decide (0<=n)&& decide (n<=300)
def M6 (e:ao) (fuel:Int):ao×Int×Int:=
 if K3 fuel=true then(if(At fuel.toNat e).2.1=1 then(e0,5,0)else((At fuel.toNat e).1,(At fuel.toNat e).2.1,(At fuel.toNat e).2.2.1))else(e0,3,0)
def Mb (e:ao) (fuel:Int):Int:=if K3 fuel=true then(At fuel.toNat e).2.2.2 else 0
def S9 {α:Type} (f:α->List α) (l:List α) (p:Nat):List (List α):=(Ij f (l.take p)).map (·++l.drop p)
def Ta (c:List ea) (e:ao) (ts:List aE):Option aE:=
 if e.kind=14 then match ts with
  |x::_=>if ez x e.fr=true then some e.ty else none
  |[]=>none
 else match cw c e.kind e.name e.ty ts with
  |none=>none
  |some (ws,u)=>if ak 4 u=true/\Dt ws ts=true then some u else none
def M7 (e:ao):Option aE:=if lr e=true then EC [] e else none
theorem kP.plain {nt:Int} {d:Nat} {e:ao} (h:kP nt d e):(e.kind=13\/e.kind=14->∃x,e.kids=[x])/\(¬(e.kind=13\/e.kind=14)->e.fr=bx/\e.label=0/\(e.kind≠5->e.ty=bx)):=by
 cases h with
 |var=>simp
 |num=>simp
 |tP=>simp
 |tQ=>simp
 |lam=>simp
 |n2 _ hk=>refine⟨fun h=>?_,fun _=>by simp⟩;simp at h;omega
 |ite=>simp
 |n1 _ hk=>refine⟨fun h=>?_,fun _=>by simp⟩;simp at h;omega
 |asc=>simp
 |cast=>simp
end Go.Av
