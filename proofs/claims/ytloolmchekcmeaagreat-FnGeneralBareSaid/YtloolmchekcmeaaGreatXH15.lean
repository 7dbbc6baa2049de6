/- A part. -/
import Derived.Test.YtloolmchekcmeaaGreatXH14
import Derived.Shelf.Strconv.Itoa3
set_option linter.unusedVariables false
set_option linter.unusedSimpArgs false
namespace Go.Av
attribute [-simp] Go.Av.bO Go.Av.dO Go.Av.ed Go.Av.ec Go.Av.cl Go.Av.cj
open Go
section
variable {P:Program}
end
def gv (k:Int):UInt8:=if k=1 then 63 else if k=2 then 73 else if k=3 then 66 else if k=4 then 62 else 42
def wO:Nat->aH->List UInt8
 |0,_=>[]
 |d+1,.mk k [a,b]=>40::(wO d a++gv k::(wO d b++[41]))
 |_+1,.mk k _=>[gv k]
def wP (t:aH):List UInt8:=wO 4 t
def QN (k:Int):UInt8:=if k=6 then 32 else if k=7 then 43 else 60
def eM:Nat->an->List UInt8
 |0,_=>[]
 |_+1,.mk k s n _ _ _ []=>if k=1 then s else if k=2 then Lib.itoa n else if k=3 then [84]else [70]
 |d+1,.mk k s _ t f l [a]=>if k=5 then 33::(s++58::(wP t++46::eM d a))else if k=11 then 36::eM d a else if k=12 then 37::eM d a
   else if k=13 then 40::(eM d a++58::(wP t++[41]))else 40::(eM d a++58::(wP f++126::(wP t++35::(Lib.itoa l++[41]))))
 |d+1,.mk k _ _ _ _ _ [a,b]=>if k=10 then 91::(eM d a++44::(eM d b++[93]))else 40::(eM d a++QN k::(eM d b++[41]))
 |d+1,.mk _ _ _ _ _ _ [a,b,c]=>123::(eM d a++63::(eM d b++58::(eM d c++[125])))
 |_+1,_=>[]
section
variable (d:Nat)
end
structure zZ where
 kind:Int
 a:Int
deriving DecidableEq
abbrev RR (o:zZ):List DV:=[.i o.kind,.i o.a]
abbrev RS (o:zZ):AV:=.agg [.d (.i o.kind),.d (.i o.a)]
def Kz (k r:Int):Int:=if k=1 then 999 else if k=2 then 1 else if k=3 then 11 else if k=4\/k=9\/k=10 then r else 0
def KA (k:Int):Bool:=decide (k=1)||decide (k=2)||decide (k=3)||decide (k=4)||decide (k=9)||decide (k=10)
def ND (o:zZ) (r:Int):Bool:=kK o.kind 1 13 && kK o.a 0 (Kz o.kind r)
def G5:List zZ->Bool
 |[]=>true
 |o::r=>ND o r.length && G5 r
def vS (l:List zZ):Bool:=G5 l && kK l.length 1 120
def H8 (k:Int):List UInt8:=
 if k=1 then [110,117,109]else if k=2 then [116,114,117,116,104]else if k=3 then [118,97,114]else if k=4 then [102,117,110]else if k=5 then [114,101,116]else
 if k=6 then [97,112,112,108,121]else if k=7 then [97,100,100]else if k=8 then [108,101,115,115]else if k=9 then [98,114,97,110,99,104]else if k=10 then [106,117,109,112]else
 if k=11 then [112,97,105,114]else if k=12 then [102,115,116]else [115,110,100]
def H9 (o:zZ):List UInt8:=H8 o.kind++((if KA o.kind=true then 32::Lib.itoa o.a else [])++[10])
def D8 (l:List zZ):List UInt8:=l.flatMap H9
def Ia (l:List zZ):List UInt8:=if vS l=true then D8 l else []
end Go.Av
