/- A part. -/
import Derived.Test.YtloolmchekcmeaaGreatXD11
set_option linter.unusedVariables false
set_option linter.unusedSimpArgs false
namespace Go.Av
attribute [-simp] Go.Av.bP Go.Av.eu Go.Av.eN Go.Av.eG Go.Av.b8 Go.Av.bN
open Go
def yX (c:UInt8):Bool:=decide (48<=c.toNat)&& decide (c.toNat<=57)
def SV (r:List UInt8):Prop:=∀c r',r=c::r'->yX c=false
def Oq (l:List UInt8):Nat:=l.foldl (fun a c=>10*a+(c.toNat-48)) 0
def Eg (l:List UInt8):Int×List UInt8:=match l with
 |c::r=>if c=45 then(-(Oq (r.takeWhile yX):Int),r.dropWhile yX)else((Oq (l.takeWhile yX):Int),l.dropWhile yX)
 |[]=>(0,[])
def wY:Nat->List UInt8->Option (aF×List UInt8)
 |0,_=>none
 |_+1,[]=>none
 |d+1,c::r=>
  if c=63 then some (km,r)else if c=73 then some (bp,r)else if c=66 then some (cx,r)
  else match wY d r with
   |some (a,k::r1)=>match wY d r1 with
    |some (b,_::r2)=>some (.mk (if k=62 then 4 else 5) [a,b],r2)
    |_=>none
   |_=>none
def lX:Nat->List UInt8->Option (ak×List UInt8)
 |0,_=>none
 |_+1,[]=>none
 |d+1,c::r=>
  if c=84 then some (qz,r)else if c=70 then some (lW,r)
  else if c=33 then match r with
   |s::_::r1=>match wY 4 r1 with
    |some (t,_::r2)=>match lX d r2 with
     |some (b,r3)=>some (rY [s] t b,r3)
     |none=>none
    |_=>none
   |_=>none
  else if c=36 then match lX d r with
   |some (a,r1)=>some (Gc 11 a,r1)
   |none=>none
  else if c=37 then match lX d r with
   |some (a,r1)=>some (Gc 12 a,r1)
   |none=>none
  else if c=91 then match lX d r with
   |some (a,_::r1)=>match lX d r1 with
    |some (b,_::r2)=>some (Cn 10 a b,r2)
    |_=>none
   |_=>none
  else if c=123 then match lX d r with
   |some (a,_::r1)=>match lX d r1 with
    |some (b,_::r2)=>match lX d r2 with
     |some (e,_::r3)=>some (G9 a b e,r3)
     |_=>none
    |_=>none
   |_=>none
  else if c=40 then match lX d r with
   |some (a,k::r1)=>
    if k=58 then match wY 4 r1 with
     |some (t,q::r2)=>if q=41 then some (MG a t,r2)else match wY 4 r2 with
      |some (u,_::r3)=>some (DX a t u (Eg r3).1,(Eg r3).2.tail)
      |_=>none
     |_=>none
    else match lX d r1 with
     |some (b,_::r2)=>some (Cn (if k=32 then 6 else if k=43 then 7 else 8) a b,r2)
     |_=>none
   |_=>none
  else if yX c then some (yf (Eg (c::r)).1,(Eg (c::r)).2)
  else some (u6 [c],r)
end Go.Av
