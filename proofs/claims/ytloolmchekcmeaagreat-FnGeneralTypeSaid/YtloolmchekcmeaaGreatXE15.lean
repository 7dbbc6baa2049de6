/- A part. -/
import Derived.Test.YtloolmchekcmeaaGreatXE14
import Derived.Shelf.Strconv.Itoa3
set_option linter.unusedVariables false
set_option linter.unusedSimpArgs false
namespace Go.Av
attribute [-simp] Go.Av.cb Go.Av.eL Go.Av.fj Go.Av.fa Go.Av.cT Go.Av.b9
open Go
section
variable {P:Program}
end
def fq (k:Int):UInt8:=if k=1 then 63 else if k=2 then 73 else if k=3 then 66 else if k=4 then 62 else 42
def ei:Nat->aE->List UInt8
 |0,_=>[]
 |d+1,.mk k [a,b]=>40::(ei d a++fq k::(ei d b++[41]))
 |_+1,.mk k _=>[fq k]
theorem vq (d:Nat):ei (d+1) kD=[63]:=rfl
theorem pP (d:Nat):ei (d+1) bP=[73]:=rfl
theorem sK (d:Nat):ei (d+1) c3=[66]:=rfl
theorem xH (d:Nat) (a b:aE):ei (d+1) (.mk 4 [a,b])=40::(ei d a++62::(ei d b++[41])):=rfl
theorem sL (d:Nat) (a b:aE):ei (d+1) (.mk 5 [a,b])=40::(ei d a++42::(ei d b++[41])):=rfl
def ru (t:aE):List UInt8:=ei 4 t
def UP (k:Int):UInt8:=if k=6 then 32 else if k=7 then 43 else 60
def gh:Nat->ao->List UInt8
 |0,_=>[]
 |_+1,.mk k s n _ _ _ []=>if k=1 then s else if k=2 then Lib.itoa n else if k=3 then [84]else [70]
 |d+1,.mk k s _ t f l [a]=>if k=5 then 33::(s++58::(ru t++46::gh d a))else if k=11 then 36::gh d a else if k=12 then 37::gh d a
   else if k=13 then 40::(gh d a++58::(ru t++[41]))else 40::(gh d a++58::(ru f++126::(ru t++35::(Lib.itoa l++[41]))))
 |d+1,.mk k _ _ _ _ _ [a,b]=>if k=10 then 91::(gh d a++44::(gh d b++[93]))else 40::(gh d a++UP k::(gh d b++[41]))
 |d+1,.mk _ _ _ _ _ _ [a,b,c]=>123::(gh d a++63::(gh d b++58::(gh d c++[125])))
 |_+1,_=>[]
section
variable (d:Nat)
end
structure DN where
 kind:Int
 a:Int
deriving DecidableEq
abbrev VO (o:DN):List DV:=[.i o.kind,.i o.a]
abbrev VP (o:DN):AV:=.agg [.d (.i o.kind),.d (.i o.a)]
def OH (k r:Int):Int:=if k=1 then 999 else if k=2 then 1 else if k=3 then 11 else if k=4\/k=9\/k=10 then r else 0
def OI (k:Int):Bool:=decide (k=1)||decide (k=2)||decide (k=3)||decide (k=4)||decide (k=9)||decide (k=10)
def RB (o:DN) (r:Int):Bool:=nk o.kind 1 13 && nk o.a 0 (OH o.kind r)
def K4:List DN->Bool
 |[]=>true
 |o::r=>RB o r.length && K4 r
def zG (l:List DN):Bool:=K4 l && nk l.length 1 120
def Mc (k:Int):List UInt8:=
 if k=1 then [110,117,109]else if k=2 then [116,114,117,116,104]else if k=3 then [118,97,114]else if k=4 then [102,117,110]else if k=5 then [114,101,116]else
 if k=6 then [97,112,112,108,121]else if k=7 then [97,100,100]else if k=8 then [108,101,115,115]else if k=9 then [98,114,97,110,99,104]else if k=10 then [106,117,109,112]else
 if k=11 then [112,97,105,114]else if k=12 then [102,115,116]else [115,110,100]
def Md (o:DN):List UInt8:=Mc o.kind++((if OI o.kind=true then 32::Lib.itoa o.a else [])++[10])
def Ip (l:List DN):List UInt8:=l.flatMap Md
def Me (l:List DN):List UInt8:=if zG l=true then Ip l else []
end Go.Av
