/- A part. -/
import Derived.Test.YtloolmchekcmeaaGreatXD12
set_option linter.unusedVariables false
set_option linter.unusedSimpArgs false
namespace Go.Av
attribute [-simp] Go.Av.c9 Go.Av.xO Go.Av.ef Go.Av.AV.dw Go.Av.CV.dw Go.Av.fR Go.Av.AV.cJ Go.Av.CV.cJ Go.Av.bP Go.Av.eu Go.Av.eN Go.Av.eG Go.Av.b8 Go.Av.bN
open Go
def SW (ts:List aF) (us:List aF):Prop:=∀(i:Nat) b,us[i]? =some b->∃a,ts[i]? =some a/\CN a b=true
def Ot:Nat->ak->ak
 |0,e=>e
 |n+1,e=>match Ef e with
  |[]=>e
  |x::_=>Ot n x
def Ju (k:Int):aF:=if k=4\/k=5 then .mk k [km,km]else .mk k []
def Fz (t:aF):Bool:=decide (t.kind≠1)&& ew t (Ju t.kind)
def Dc (e:ak):Bool:=decide (e.kind=14)&&(decide (e.fr.kind=e.ty.kind)&&(decide (e.ty.kind=4)||decide (e.ty.kind=5)))
def Rl (e:ak):Bool:=decide (e.kind=14)&&(decide (e.ty.kind=1)&& Fz e.fr)
def LQ (e:ak):Bool:=decide (e.kind=2)||(decide (e.kind=3)||(decide (e.kind=4)||decide (e.kind=5)))
mutual
def HG:ak->Bool
 |.mk k s n t f b l=>if decide (k=10)||(Dc (.mk k s n t f b [])||Rl (.mk k s n t f b []))then Ou l else LQ (.mk k s n t f b [])
def Ou:List ak->Bool
 |[]=>true
 |e::r=>HG e && Ou r
end
def LR (b:Bool):ak:=if b then qz else lW
def KD (e:ak):Option ak:=
 if e.kind=6 then match e.kids with
  |a::b::_=>if a.kind=5 then match a.kids with
    |x::_=>some (zC a.name b x)
    |[]=>none
   else none
  |_=>none
 else if e.kind=7\/e.kind=8 then match e.kids with
  |a::b::_=>if a.kind=2/\b.kind=2 then some (if e.kind=7 then yf ((a.num+b.num).tmod 1000)else LR (decide (a.num<b.num)))else none
  |_=>none
 else if e.kind=9 then match e.kids with
  |a::b::c::_=>if a.kind=3 then some b else if a.kind=4 then some c else none
  |_=>none
 else if e.kind=11\/e.kind=12 then match e.kids with
  |a::_=>if a.kind=10 then match a.kids with
    |x::y::_=>some (if e.kind=11 then x else y)
    |_=>none
   else none
  |_=>none
 else none
def HH (k:Int):Int:=if k=6 then 1 else if k=7\/k=8 then 2 else if k=9 then 3 else if k=11\/k=12 then 4 else 5
def PA (e:ak):Nat:=if e.kind=9 then 1 else e.kids.length
def Jv:List ak->Option Nat
 |[]=>none
 |e::r=>if HG e=true then(Jv r).map (·+1)else some 0
mutual
def yY:ak->ak×Int×Int
 |.mk k s n t f b l=>match HI (if k=9 then 1 else l.length) l with
  |some (l',c,err)=>(.mk k s n t f b l',c,err)
  |none=>match KD (.mk k s n t f b l)with
   |some x=>(x,1,0)
   |none=>(c5,2,HH k)
def HI:Nat->List ak->Option (List ak×Int×Int)
 |0,_=>none
 |_,[]=>none
 |n+1,e::r=>if HG e=true then(HI n r).map fun p=>(e::p.1,p.2.1,p.2.2)else
   let p:=yY e
   some (p.1::r,p.2.1,p.2.2)
end
def wZ (e:ak):Bool:=kY e && Ko e
def fm (e:ak):ak×Int×Int:=
 if wZ e=true then
  if HG e=true then(e,0,0)
  else if(yY e).2.1=1 then(if wZ (yY e).1=true then((yY e).1,1,0)else(c5,4,0))else(c5,(yY e).2.1,(yY e).2.2)
 else(c5,3,0)
def zV:Nat->ak->ak×Int×Int×Int
 |0,e=>((fm e).1,(fm e).2.1,(fm e).2.2,0)
 |n+1,e=>if(fm e).2.1=1 then((zV n (fm e).1).1,(zV n (fm e).1).2.1,(zV n (fm e).1).2.2.1,(zV n (fm e).1).2.2.2+1)
   else((fm e).1,(fm e).2.1,(fm e).2.2,0)
def KE (n:Int):Bool:=decide (0<=n)&& decide (n<=300)
def MM (e:ak) (fuel:Int):ak×Int×Int:=
 if KE fuel=true then(if(zV fuel.toNat e).2.1=1 then(c5,5,0)else((zV fuel.toNat e).1,(zV fuel.toNat e).2.1,(zV fuel.toNat e).2.2.1))else(c5,3,0)
def LS (e:ak) (fuel:Int):Int:=if KE fuel=true then(zV fuel.toNat e).2.2.2 else 0
end Go.Av
