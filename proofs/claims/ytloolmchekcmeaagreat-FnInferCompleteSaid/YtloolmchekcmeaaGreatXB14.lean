/- A part. -/
import Derived.Test.YtloolmchekcmeaaGreatXB13
import Derived.Shelf.Strconv.Itoa3
set_option linter.unusedVariables false
set_option linter.unusedSimpArgs false
namespace Go.Av
attribute [-simp] Go.Av.cj Go.Av.e0 Go.Av.fH Go.Av.fy Go.Av.cW Go.Av.cg
open Go
section
variable {P:Program}
end
def E6 (k:Int):UInt8:=if k=1 then 63 else if k=2 then 73 else if k=3 then 66 else if k=4 then 62 else 42
def AD:Nat->aG->List UInt8
 |0,_=>[]
 |d+1,.mk k [a,b]=>40::(AD d a++E6 k::(AD d b++[41]))
 |_+1,.mk k _=>[E6 k]
def AE (t:aG):List UInt8:=AD 4 t
def Vd (k:Int):UInt8:=if k=6 then 32 else if k=7 then 43 else 60
def gD:Nat->al->List UInt8
 |0,_=>[]
 |_+1,.mk k s n _ _ _ []=>if k=1 then s else if k=2 then Lib.itoa n else if k=3 then [84]else [70]
 |d+1,.mk k s _ t f l [a]=>if k=5 then 33::(s++58::(AE t++46::gD d a))else if k=11 then 36::gD d a else if k=12 then 37::gD d a
   else if k=13 then 40::(gD d a++58::(AE t++[41]))else 40::(gD d a++58::(AE f++126::(AE t++35::(Lib.itoa l++[41]))))
 |d+1,.mk k _ _ _ _ _ [a,b]=>if k=10 then 91::(gD d a++44::(gD d b++[93]))else 40::(gD d a++Vd k::(gD d b++[41]))
 |d+1,.mk _ _ _ _ _ _ [a,b,c]=>123::(gD d a++63::(gD d b++58::(gD d c++[125])))
 |_+1,_=>[]
section
variable (d:Nat)
end
structure Eb where
 kind:Int
 a:Int
deriving DecidableEq
abbrev V5 (o:Eb):List DV:=[.i o.kind,.i o.a]
abbrev V6 (o:Eb):AV:=.agg [.d (.i o.kind),.d (.i o.a)]
def OT (k r:Int):Int:=if k=1 then 999 else if k=2 then 1 else if k=3 then 11 else if k=4\/k=9\/k=10 then r else 0
def OU (k:Int):Bool:=decide (k=1)||decide (k=2)||decide (k=3)||decide (k=4)||decide (k=9)||decide (k=10)
def RQ (o:Eb) (r:Int):Bool:=nB o.kind 1 13 && nB o.a 0 (OT o.kind r)
def K8:List Eb->Bool
 |[]=>true
 |o::r=>RQ o r.length && K8 r
def zK (l:List Eb):Bool:=K8 l && nB l.length 1 120
def Ml (k:Int):List UInt8:=
 if k=1 then [110,117,109]else if k=2 then [116,114,117,116,104]else if k=3 then [118,97,114]else if k=4 then [102,117,110]else if k=5 then [114,101,116]else
 if k=6 then [97,112,112,108,121]else if k=7 then [97,100,100]else if k=8 then [108,101,115,115]else if k=9 then [98,114,97,110,99,104]else if k=10 then [106,117,109,112]else
 if k=11 then [112,97,105,114]else if k=12 then [102,115,116]else [115,110,100]
def Mm (o:Eb):List UInt8:=Ml o.kind++((if OU o.kind=true then 32::Lib.itoa o.a else [])++[10])
def Iv (l:List Eb):List UInt8:=l.flatMap Mm
def Mn (l:List Eb):List UInt8:=if zK l=true then Iv l else []
end Go.Av
