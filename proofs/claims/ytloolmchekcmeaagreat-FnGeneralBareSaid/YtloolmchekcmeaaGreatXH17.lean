/- A part. -/
import Derived.Test.YtloolmchekcmeaaGreatXH16
set_option linter.unusedVariables false
set_option linter.unusedSimpArgs false
namespace Go.Av
attribute [-simp] Go.Av.bO Go.Av.dO Go.Av.ed Go.Av.ec Go.Av.cl Go.Av.cj
open Go
def vU (c:UInt8):Bool:=decide (48<=c.toNat)&& decide (c.toNat<=57)
def Pb (r:List UInt8):Prop:=∀c r',r=c::r'->vU c=false
def KB (l:List UInt8):Nat:=l.foldl (fun a c=>10*a+(c.toNat-48)) 0
def A5 (l:List UInt8):Int×List UInt8:=match l with
 |c::r=>if c=45 then(-(KB (r.takeWhile vU):Int),r.dropWhile vU)else((KB (l.takeWhile vU):Int),l.dropWhile vU)
 |[]=>(0,[])
def tU:Nat->List UInt8->Option (aH×List UInt8)
 |0,_=>none
 |_+1,[]=>none
 |d+1,c::r=>
  if c=63 then some (iN,r)else if c=73 then some (dD,r)else if c=66 then some (eT,r)
  else match tU d r with
   |some (a,k::r1)=>match tU d r1 with
    |some (b,_::r2)=>some (.mk (if k=62 then 4 else 5) [a,b],r2)
    |_=>none
   |_=>none
def jZ:Nat->List UInt8->Option (an×List UInt8)
 |0,_=>none
 |_+1,[]=>none
 |d+1,c::r=>
  if c=84 then some (nT,r)else if c=70 then some (jY,r)
  else if c=33 then match r with
   |s::_::r1=>match tU 4 r1 with
    |some (t,_::r2)=>match jZ d r2 with
     |some (b,r3)=>some (nJ [s] t b,r3)
     |none=>none
    |_=>none
   |_=>none
  else if c=36 then match jZ d r with
   |some (a,r1)=>some (AO 11 a,r1)
   |none=>none
  else if c=37 then match jZ d r with
   |some (a,r1)=>some (AO 12 a,r1)
   |none=>none
  else if c=91 then match jZ d r with
   |some (a,_::r1)=>match jZ d r1 with
    |some (b,_::r2)=>some (xt 10 a b,r2)
    |_=>none
   |_=>none
  else if c=123 then match jZ d r with
   |some (a,_::r1)=>match jZ d r1 with
    |some (b,_::r2)=>match jZ d r2 with
     |some (e,_::r3)=>some (BP a b e,r3)
     |_=>none
    |_=>none
   |_=>none
  else if c=40 then match jZ d r with
   |some (a,k::r1)=>
    if k=58 then match tU 4 r1 with
     |some (t,q::r2)=>if q=41 then some (Gz a t,r2)else match tU 4 r2 with
      |some (u,_::r3)=>some (AP a t u (A5 r3).1,(A5 r3).2.tail)
      |_=>none
     |_=>none
    else match jZ d r1 with
     |some (b,_::r2)=>some (xt (if k=32 then 6 else if k=43 then 7 else 8) a b,r2)
     |_=>none
   |_=>none
  else if vU c then some (uW (A5 (c::r)).1,(A5 (c::r)).2)
  else some (rW [c],r)
end Go.Av
