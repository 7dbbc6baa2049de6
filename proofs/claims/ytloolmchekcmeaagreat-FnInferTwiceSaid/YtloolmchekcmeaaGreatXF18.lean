/- A part. -/
import Derived.Test.YtloolmchekcmeaaGreatXF17
import Derived.Lib.ItoaNum
set_option linter.unusedVariables false
set_option linter.unusedSimpArgs false
open List renaming zipWith->aby,zipWith_append->abz
namespace Go.Av
attribute [-simp] Go.Av.ch Go.Av.eY Go.Av.fw Go.Av.fi Go.Av.cY Go.Av.cb
open Go
mutual
def OT:aI->Nat->aI
 |.mk _ l,k=>.mk k (B0 l (k+1))
def B0:List aI->Nat->List aI
 |[],_=>[]
 |t::r,k=>OT t k::B0 r (k+1+cP t.kids)
end
def OU (k:Nat):List UInt8:=109::Lib.decDigits k
mutual
def Tu:ao->Nat
 |.mk _ _ _ t f _ l=>6+cP t.kids+cP f.kids+OV l
def OV:List ao->Nat
 |[]=>0
 |t::r=>Tu t+OV r
end
mutual
def Ml:ao->Nat->ao
 |.mk _ _ _ t f _ l,k=>.mk k (OU (k+1)) ((k+2:Nat):Int) (.mk ((k+3:Nat):Int) (B0 t.kids (k+4))) (.mk ((k+4+cP t.kids:Nat):Int) (B0 f.kids (k+5+cP t.kids)))
   ((k+5+cP t.kids+cP f.kids:Nat):Int) (Dw l (k+6+cP t.kids+cP f.kids))
def Dw:List ao->Nat->List ao
 |[],_=>[]
 |t::r,k=>Ml t k::Dw r (k+Tu t)
end
section
variable {α β γ:Type}
theorem sM {f:α->β->γ} {l:List α} {vs:List β} {u:α} (h:l[vs.length]? =some u) (v:β):aby f l (vs++[v])=aby f l vs++[f u v]:=by
 obtain⟨h1,h2⟩:=List.getElem?_eq_some_iff.1 h;have hl:l=l.take vs.length++u::l.drop (vs.length+1):=by rw[<-h2,<-List.drop_eq_getElem_cons h1,List.take_append_drop]
 have ht:(l.take vs.length).length=vs.length:=by rw[List.length_take];omega
 generalize l.take vs.length=A at hl ht;generalize l.drop (vs.length+1)=B at hl;subst hl;have e:aby f (A++u::B) (vs++[])=aby f A vs:=by rw[abz ht];simp
 rw[List.append_nil]at e;rw[e,abz ht];simp
end
theorem j5 (e:TypeId) (l:List aI):jf e l=.t e 2 l.length (df e l):=rfl
theorem Ey (et em:TypeId) (l:List ao):Dg et em l=.t em 9 l.length (iR et em l):=rfl
def mT (l:List aI) (k j:Nat):List aI:=B0 (l.take j) k++l.drop j
def mM (l:List ao) (k j:Nat):List ao:=Dw (l.take j) k++l.drop j
end Go.Av
