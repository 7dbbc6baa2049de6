/- A part. -/
import Derived.Test.YtloolmchekcmeaaGreatXF14
import Derived.Shelf.Strconv.Itoa3
set_option linter.unusedVariables false
set_option linter.unusedSimpArgs false
namespace Go.Av
attribute [-simp] Go.Av.ch Go.Av.eY Go.Av.fw Go.Av.fi Go.Av.cY Go.Av.cb
open Go
section
variable {P:Program}
end
def oM (k:Int):UInt8:=if k=1 then 63 else if k=2 then 73 else if k=3 then 66 else if k=4 then 62 else 42
def Ac:Nat->aI->List UInt8
 |0,_=>[]
 |d+1,.mk k [a,b]=>40::(Ac d a++oM k::(Ac d b++[41]))
 |_+1,.mk k _=>[oM k]
def Ad (t:aI):List UInt8:=Ac 4 t
def U5 (k:Int):UInt8:=if k=6 then 32 else if k=7 then 43 else 60
def gx:Nat->ao->List UInt8
 |0,_=>[]
 |_+1,.mk k s n _ _ _ []=>if k=1 then s else if k=2 then Lib.itoa n else if k=3 then [84]else [70]
 |d+1,.mk k s _ t f l [a]=>if k=5 then 33::(s++58::(Ad t++46::gx d a))else if k=11 then 36::gx d a else if k=12 then 37::gx d a
   else if k=13 then 40::(gx d a++58::(Ad t++[41]))else 40::(gx d a++58::(Ad f++126::(Ad t++35::(Lib.itoa l++[41]))))
 |d+1,.mk k _ _ _ _ _ [a,b]=>if k=10 then 91::(gx d a++44::(gx d b++[93]))else 40::(gx d a++U5 k::(gx d b++[41]))
 |d+1,.mk _ _ _ _ _ _ [a,b,c]=>123::(gx d a++63::(gx d b++58::(gx d c++[125])))
 |_+1,_=>[]
section
variable (d:Nat)
end
structure Dv where
 kind:Int
 a:Int
deriving DecidableEq
abbrev VV (o:Dv):List DV:=[.i o.kind,.i o.a]
abbrev VW (o:Dv):AV:=.agg [.d (.i o.kind),.d (.i o.a)]
def OQ (k r:Int):Int:=if k=1 then 999 else if k=2 then 1 else if k=3 then 11 else if k=4\/k=9\/k=10 then r else 0
def OR (k:Int):Bool:=decide (k=1)||decide (k=2)||decide (k=3)||decide (k=4)||decide (k=9)||decide (k=10)
def RO (o:Dv) (r:Int):Bool:=nD o.kind 1 13 && nD o.a 0 (OQ o.kind r)
def K7:List Dv->Bool
 |[]=>true
 |o::r=>RO o r.length && K7 r
def zd (l:List Dv):Bool:=K7 l && nD l.length 1 120
def Mh (k:Int):List UInt8:=
 if k=1 then [110,117,109]else if k=2 then [116,114,117,116,104]else if k=3 then [118,97,114]else if k=4 then [102,117,110]else if k=5 then [114,101,116]else
 if k=6 then [97,112,112,108,121]else if k=7 then [97,100,100]else if k=8 then [108,101,115,115]else if k=9 then [98,114,97,110,99,104]else if k=10 then [106,117,109,112]else
 if k=11 then [112,97,105,114]else if k=12 then [102,115,116]else [115,110,100]
def Mi (o:Dv):List UInt8:=Mh o.kind++((if OR o.kind=true then 32::Lib.itoa o.a else [])++[10])
def H9 (l:List Dv):List UInt8:=l.flatMap Mi
def Mj (l:List Dv):List UInt8:=if zd l=true then H9 l else []
end Go.Av
