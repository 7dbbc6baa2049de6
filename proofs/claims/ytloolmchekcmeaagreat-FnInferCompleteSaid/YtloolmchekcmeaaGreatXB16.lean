/- A part. -/
import Derived.Test.YtloolmchekcmeaaGreatXB15
set_option linter.unusedVariables false
set_option linter.unusedSimpArgs false
namespace Go.Av
attribute [-simp] Go.Av.cj Go.Av.e0 Go.Av.fH Go.Av.fy Go.Av.cW Go.Av.cg
open Go
def zL (c:UInt8):Bool:=decide (48<=c.toNat)&& decide (c.toNat<=57)
def Tv (r:List UInt8):Prop:=∀c r',r=c::r'->zL c=false
def OV (l:List UInt8):Nat:=l.foldl (fun a c=>10*a+(c.toNat-48)) 0
def E7 (l:List UInt8):Int×List UInt8:=match l with
 |c::r=>if c=45 then(-(OV (r.takeWhile zL):Int),r.dropWhile zL)else((OV (l.takeWhile zL):Int),l.dropWhile zL)
 |[]=>(0,[])
def xF:Nat->List UInt8->Option (aG×List UInt8)
 |0,_=>none
 |_+1,[]=>none
 |d+1,c::r=>
  if c=63 then some (kM,r)else if c=73 then some (bt,r)else if c=66 then some (cm,r)
  else match xF d r with
   |some (a,k::r1)=>match xF d r1 with
    |some (b,_::r2)=>some (.mk (if k=62 then 4 else 5) [a,b],r2)
    |_=>none
   |_=>none
def mF:Nat->List UInt8->Option (al×List UInt8)
 |0,_=>none
 |_+1,[]=>none
 |d+1,c::r=>
  if c=84 then some (lH,r)else if c=70 then some (iO,r)
  else if c=33 then match r with
   |s::_::r1=>match xF 4 r1 with
    |some (t,_::r2)=>match mF d r2 with
     |some (b,r3)=>some (nY [s] t b,r3)
     |none=>none
    |_=>none
   |_=>none
  else if c=36 then match mF d r with
   |some (a,r1)=>some (Bf 11 a,r1)
   |none=>none
  else if c=37 then match mF d r with
   |some (a,r1)=>some (Bf 12 a,r1)
   |none=>none
  else if c=91 then match mF d r with
   |some (a,_::r1)=>match mF d r1 with
    |some (b,_::r2)=>some (yg 10 a b,r2)
    |_=>none
   |_=>none
  else if c=123 then match mF d r with
   |some (a,_::r1)=>match mF d r1 with
    |some (b,_::r2)=>match mF d r2 with
     |some (e,_::r3)=>some (BM a b e,r3)
     |_=>none
    |_=>none
   |_=>none
  else if c=40 then match mF d r with
   |some (a,k::r1)=>
    if k=58 then match xF 4 r1 with
     |some (t,q::r2)=>if q=41 then some (KQ a t,r2)else match xF 4 r2 with
      |some (u,_::r3)=>some (BN a t u (E7 r3).1,(E7 r3).2.tail)
      |_=>none
     |_=>none
    else match mF d r1 with
     |some (b,_::r2)=>some (yg (if k=32 then 6 else if k=43 then 7 else 8) a b,r2)
     |_=>none
   |_=>none
  else if zL c then some (rm (E7 (c::r)).1,(E7 (c::r)).2)
  else some (pG [c],r)
end Go.Av
