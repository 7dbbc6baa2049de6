/- A part of the library of this seat. -/
import Derived.Test.YtcgmmknfpfdghaaDoorA10
set_option linter.unusedVariables false
set_option linter.unusedSimpArgs false
namespace Go.Av
attribute [-simp] Go.Av.MCo.kind_mk Go.Av.MCo.tag_mk Go.Av.MCo.label_mk Go.Av.MCo.kids_mk Go.Av.astepJ Go.Av.relC Go.Av.relL Go.Av.relV Go.Av.relVs Go.Av.callJ
open Go

structure MOp where
 kind : Int
 a : Int
deriving DecidableEq
abbrev eOp (o : MOp) : List DV := [.i o.kind, .i o.a]
abbrev aOp (o : MOp) : AV := .agg [.d (.i o.kind), .d (.i o.a)]

def mostA (k r : Int) : Int := if k = 1 then 999 else if k = 2 then 1 else if k = 3 then 11 else if k = 4 \/ k = 9 \/ k = 10 then r else 0
def hasAM (k : Int) : Bool := decide (k = 1) || decide (k = 2) || decide (k = 3) || decide (k = 4) || decide (k = 9) || decide (k = 10)
def opOk (o : MOp) (r : Int) : Bool := inM o.kind 1 13 && inM o.a 0 (mostA o.kind r)
def opsOk : List MOp -> Bool
 | [] => true
 | o :: r => opOk o r.length && opsOk r
def opsValidM (l : List MOp) : Bool := opsOk l && inM l.length 1 120

def opWord (k : Int) : List UInt8 :=
 if k = 1 then [110, 117, 109] else if k = 2 then [116, 114, 117, 116, 104] else if k = 3 then [118, 97, 114] else if k = 4 then [102, 117, 110] else if k = 5 then [114, 101, 116] else
 if k = 6 then [97, 112, 112, 108, 121] else if k = 7 then [97, 100, 100] else if k = 8 then [108, 101, 115, 115] else if k = 9 then [98, 114, 97, 110, 99, 104] else if k = 10 then [106, 117, 109, 112] else
 if k = 11 then [112, 97, 105, 114] else if k = 12 then [102, 115, 116] else [115, 110, 100]
def opText (o : MOp) : List UInt8 := opWord o.kind ++ ((if hasAM o.kind = true then 32 :: Lib.itoa o.a else []) ++ [10])
def opsTextM (l : List MOp) : List UInt8 := l.flatMap opText
def formatOpsM (l : List MOp) : List UInt8 := if opsValidM l = true then opsTextM l else []

end Go.Av
