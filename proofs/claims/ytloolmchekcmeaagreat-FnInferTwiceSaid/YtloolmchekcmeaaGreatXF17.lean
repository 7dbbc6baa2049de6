/- A part. -/
import Derived.Test.YtloolmchekcmeaaGreatXF16
set_option linter.unusedVariables false
set_option linter.unusedSimpArgs false
namespace Go.Av
attribute [-simp] Go.Av.ch Go.Av.eY Go.Av.fw Go.Av.fi Go.Av.cY Go.Av.cb
open Go
def ze (c:UInt8):Bool:=decide (48<=c.toNat)&& decide (c.toNat<=57)
def Tt (r:List UInt8):Prop:=∀c r',r=c::r'->ze c=false
def OS (l:List UInt8):Nat:=l.foldl (fun a c=>10*a+(c.toNat-48)) 0
def Ex (l:List UInt8):Int×List UInt8:=match l with
 |c::r=>if c=45 then(-(OS (r.takeWhile ze):Int),r.dropWhile ze)else((OS (l.takeWhile ze):Int),l.dropWhile ze)
 |[]=>(0,[])
def xg:Nat->List UInt8->Option (aI×List UInt8)
 |0,_=>none
 |_+1,[]=>none
 |d+1,c::r=>
  if c=63 then some (lg,r)else if c=73 then some (bw,r)else if c=66 then some (cF,r)
  else match xg d r with
   |some (a,k::r1)=>match xg d r1 with
    |some (b,_::r2)=>some (.mk (if k=62 then 4 else 5) [a,b],r2)
    |_=>none
   |_=>none
def mB:Nat->List UInt8->Option (ao×List UInt8)
 |0,_=>none
 |_+1,[]=>none
 |d+1,c::r=>
  if c=84 then some (qL,r)else if c=70 then some (my,r)
  else if c=33 then match r with
   |s::_::r1=>match xg 4 r1 with
    |some (t,_::r2)=>match mB d r2 with
     |some (b,r3)=>some (so [s] t b,r3)
     |none=>none
    |_=>none
   |_=>none
  else if c=36 then match mB d r with
   |some (a,r1)=>some (Ed 11 a,r1)
   |none=>none
  else if c=37 then match mB d r with
   |some (a,r1)=>some (Ed 12 a,r1)
   |none=>none
  else if c=91 then match mB d r with
   |some (a,_::r1)=>match mB d r1 with
    |some (b,_::r2)=>some (AG 10 a b,r2)
    |_=>none
   |_=>none
  else if c=123 then match mB d r with
   |some (a,_::r1)=>match mB d r1 with
    |some (b,_::r2)=>match mB d r2 with
     |some (e,_::r3)=>some (Fk a b e,r3)
     |_=>none
    |_=>none
   |_=>none
  else if c=40 then match mB d r with
   |some (a,k::r1)=>
    if k=58 then match xg 4 r1 with
     |some (t,q::r2)=>if q=41 then some (MZ a t,r2)else match xg 4 r2 with
      |some (u,_::r3)=>some (Ee a t u (Ex r3).1,(Ex r3).2.tail)
      |_=>none
     |_=>none
    else match mB d r1 with
     |some (b,_::r2)=>some (AG (if k=32 then 6 else if k=43 then 7 else 8) a b,r2)
     |_=>none
   |_=>none
  else if ze c then some (yf (Ex (c::r)).1,(Ex (c::r)).2)
  else some (vq [c],r)
end Go.Av
