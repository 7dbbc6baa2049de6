/- A part. -/
import Derived.Test.YtloolmchekcmeaaGreatXD8
import Derived.Shelf.Strconv.Itoa3
set_option linter.unusedVariables false
set_option linter.unusedSimpArgs false
namespace Go.Av
attribute [-simp] Go.Av.bP Go.Av.eu Go.Av.eN Go.Av.eG Go.Av.b8 Go.Av.bN
open Go
section
variable {P:Program}
end
def Eb (k:Int):UInt8:=if k=1 then 63 else if k=2 then 73 else if k=3 then 66 else if k=4 then 62 else 42
def zT:Nat->aF->List UInt8
 |0,_=>[]
 |d+1,.mk k [a,b]=>40::(zT d a++Eb k::(zT d b++[41]))
 |_+1,.mk k _=>[Eb k]
def zU (t:aF):List UInt8:=zT 4 t
def UE (k:Int):UInt8:=if k=6 then 32 else if k=7 then 43 else 60
def fV:Nat->ak->List UInt8
 |0,_=>[]
 |_+1,.mk k s n _ _ _ []=>if k=1 then s else if k=2 then Lib.itoa n else if k=3 then [84]else [70]
 |d+1,.mk k s _ t f l [a]=>if k=5 then 33::(s++58::(zU t++46::fV d a))else if k=11 then 36::fV d a else if k=12 then 37::fV d a
   else if k=13 then 40::(fV d a++58::(zU t++[41]))else 40::(fV d a++58::(zU f++126::(zU t++35::(Lib.itoa l++[41]))))
 |d+1,.mk k _ _ _ _ _ [a,b]=>if k=10 then 91::(fV d a++44::(fV d b++[93]))else 40::(fV d a++UE k::(fV d b++[41]))
 |d+1,.mk _ _ _ _ _ _ [a,b,c]=>123::(fV d a++63::(fV d b++58::(fV d c++[125])))
 |_+1,_=>[]
section
variable (d:Nat)
end
structure C8 where
 kind:Int
 a:Int
deriving DecidableEq
abbrev VH (o:C8):List DV:=[.i o.kind,.i o.a]
abbrev VI (o:C8):AV:=.agg [.d (.i o.kind),.d (.i o.a)]
def Oh (k r:Int):Int:=if k=1 then 999 else if k=2 then 1 else if k=3 then 11 else if k=4\/k=9\/k=10 then r else 0
def Oi (k:Int):Bool:=decide (k=1)||decide (k=2)||decide (k=3)||decide (k=4)||decide (k=9)||decide (k=10)
def Rf (o:C8) (r:Int):Bool:=mK o.kind 1 13 && mK o.a 0 (Oh o.kind r)
def KA:List C8->Bool
 |[]=>true
 |o::r=>Rf o r.length && KA r
def yV (l:List C8):Bool:=KA l && mK l.length 1 120
def LI (k:Int):List UInt8:=
 if k=1 then [110,117,109]else if k=2 then [116,114,117,116,104]else if k=3 then [118,97,114]else if k=4 then [102,117,110]else if k=5 then [114,101,116]else
 if k=6 then [97,112,112,108,121]else if k=7 then [97,100,100]else if k=8 then [108,101,115,115]else if k=9 then [98,114,97,110,99,104]else if k=10 then [106,117,109,112]else
 if k=11 then [112,97,105,114]else if k=12 then [102,115,116]else [115,110,100]
def LJ (o:C8):List UInt8:=LI o.kind++((if Oi o.kind=true then 32::Lib.itoa o.a else [])++[10])
def HA (l:List C8):List UInt8:=l.flatMap LJ
def LK (l:List C8):List UInt8:=if yV l=true then HA l else []
end Go.Av
