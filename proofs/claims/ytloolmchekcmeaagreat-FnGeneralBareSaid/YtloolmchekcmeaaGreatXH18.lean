/- A part. -/
import Derived.Test.YtloolmchekcmeaaGreatXH17
import Derived.Lib.ItoaNum
set_option linter.unusedVariables false
set_option linter.unusedSimpArgs false
namespace Go.Av
attribute [-simp] Go.Av.bO Go.Av.dO Go.Av.ed Go.Av.ec Go.Av.cl Go.Av.cj
open Go
mutual
def KC:aH->Nat->aH
 |.mk _ l,k=>.mk k (yE l (k+1))
def yE:List aH->Nat->List aH
 |[],_=>[]
 |t::r,k=>KC t k::yE r (k+1+cF t.kids)
end
def KD (k:Nat):List UInt8:=109::Lib.decDigits k
mutual
def Pc:an->Nat
 |.mk _ _ _ t f _ l=>6+cF t.kids+cF f.kids+KE l
def KE:List an->Nat
 |[]=>0
 |t::r=>Pc t+KE r
end
mutual
def Ib:an->Nat->an
 |.mk _ _ _ t f _ l,k=>.mk k (KD (k+1)) ((k+2:Nat):Int) (.mk ((k+3:Nat):Int) (yE t.kids (k+4))) (.mk ((k+4+cF t.kids:Nat):Int) (yE f.kids (k+5+cF t.kids)))
   ((k+5+cF t.kids+cF f.kids:Nat):Int) (z6 l (k+6+cF t.kids+cF f.kids))
def z6:List an->Nat->List an
 |[],_=>[]
 |t::r,k=>Ib t k::z6 r (k+Pc t)
end
section
variable {α β γ:Type}
end
def mT (l:List aH) (k j:Nat):List aH:=yE (l.take j) k++l.drop j
def mM (l:List an) (k j:Nat):List an:=z6 (l.take j) k++l.drop j
end Go.Av
