/- A part. -/
import Derived.Test.YtloolmchekcmeaaGreatXE16
set_option linter.unusedVariables false
set_option linter.unusedSimpArgs false
namespace Go.Av
attribute [-simp] Go.Av.cb Go.Av.eL Go.Av.fj Go.Av.fa Go.Av.cT Go.Av.b9
open Go
def zH (c:UInt8):Bool:=decide (48<=c.toNat)&& decide (c.toNat<=57)
def Tb (r:List UInt8):Prop:=∀c r',r=c::r'->zH c=false
def OJ (l:List UInt8):Nat:=l.foldl (fun a c=>10*a+(c.toNat-48)) 0
def EP (l:List UInt8):Int×List UInt8:=match l with
 |c::r=>if c=45 then(-(OJ (r.takeWhile zH):Int),r.dropWhile zH)else((OJ (l.takeWhile zH):Int),l.dropWhile zH)
 |[]=>(0,[])
def xI:Nat->List UInt8->Option (aE×List UInt8)
 |0,_=>none
 |_+1,[]=>none
 |d+1,c::r=>
  if c=63 then some (kD,r)else if c=73 then some (bP,r)else if c=66 then some (c3,r)
  else match xI d r with
   |some (a,k::r1)=>match xI d r1 with
    |some (b,_::r2)=>some (.mk (if k=62 then 4 else 5) [a,b],r2)
    |_=>none
   |_=>none
def my:Nat->List UInt8->Option (ao×List UInt8)
 |0,_=>none
 |_+1,[]=>none
 |d+1,c::r=>
  if c=84 then some (mR,r)else if c=70 then some (ju,r)
  else if c=33 then match r with
   |s::_::r1=>match xI 4 r1 with
    |some (t,_::r2)=>match my d r2 with
     |some (b,r3)=>some (pD [s] t b,r3)
     |none=>none
    |_=>none
   |_=>none
  else if c=36 then match my d r with
   |some (a,r1)=>some (Di 11 a,r1)
   |none=>none
  else if c=37 then match my d r with
   |some (a,r1)=>some (Di 12 a,r1)
   |none=>none
  else if c=91 then match my d r with
   |some (a,_::r1)=>match my d r1 with
    |some (b,_::r2)=>some (Ag 10 a b,r2)
    |_=>none
   |_=>none
  else if c=123 then match my d r with
   |some (a,_::r1)=>match my d r1 with
    |some (b,_::r2)=>match my d r2 with
     |some (e,_::r3)=>some (Ex a b e,r3)
     |_=>none
    |_=>none
   |_=>none
  else if c=40 then match my d r with
   |some (a,k::r1)=>
    if k=58 then match xI 4 r1 with
     |some (t,q::r2)=>if q=41 then some (MW a t,r2)else match xI 4 r2 with
      |some (u,_::r3)=>some (Ey a t u (EP r3).1,(EP r3).2.tail)
      |_=>none
     |_=>none
    else match my d r1 with
     |some (b,_::r2)=>some (Ag (if k=32 then 6 else if k=43 then 7 else 8) a b,r2)
     |_=>none
   |_=>none
  else if zH c then some (tO (EP (c::r)).1,(EP (c::r)).2)
  else some (q8 [c],r)
end Go.Av
