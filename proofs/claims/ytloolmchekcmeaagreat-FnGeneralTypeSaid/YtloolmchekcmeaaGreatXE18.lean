/- A part. -/
import Derived.Test.YtloolmchekcmeaaGreatXE17
import Derived.Lib.ItoaNum
set_option linter.unusedVariables false
set_option linter.unusedSimpArgs false
open List renaming zipWith->abe,zipWith_append->abf
namespace Go.Av
attribute [-simp] Go.Av.cb Go.Av.eL Go.Av.fj Go.Av.fa Go.Av.cT Go.Av.b9
open Go
mutual
def OK:aE->Nat->aE
 |.mk _ l,k=>.mk k (Cf l (k+1))
def Cf:List aE->Nat->List aE
 |[],_=>[]
 |t::r,k=>OK t k::Cf r (k+1+cY t.kids)
end
def OL (k:Nat):List UInt8:=109::Lib.decDigits k
mutual
def Tc:ao->Nat
 |.mk _ _ _ t f _ l=>6+cY t.kids+cY f.kids+OM l
def OM:List ao->Nat
 |[]=>0
 |t::r=>Tc t+OM r
end
mutual
def Mf:ao->Nat->ao
 |.mk _ _ _ t f _ l,k=>.mk k (OL (k+1)) ((k+2:Nat):Int) (.mk ((k+3:Nat):Int) (Cf t.kids (k+4))) (.mk ((k+4+cY t.kids:Nat):Int) (Cf f.kids (k+5+cY t.kids)))
   ((k+5+cY t.kids+cY f.kids:Nat):Int) (DO l (k+6+cY t.kids+cY f.kids))
def DO:List ao->Nat->List ao
 |[],_=>[]
 |t::r,k=>Mf t k::DO r (k+Tc t)
end
section
variable {α β γ:Type}
theorem sM {f:α->β->γ} {l:List α} {vs:List β} {u:α} (h:l[vs.length]? =some u) (v:β):abe f l (vs++[v])=abe f l vs++[f u v]:=by
 obtain⟨h1,h2⟩:=List.getElem?_eq_some_iff.1 h;have hl:l=l.take vs.length++u::l.drop (vs.length+1):=by rw[<-h2,<-List.drop_eq_getElem_cons h1,List.take_append_drop]
 have ht:(l.take vs.length).length=vs.length:=by rw[List.length_take];omega
 generalize l.take vs.length=A at hl ht;generalize l.drop (vs.length+1)=B at hl;subst hl;have e:abe f (A++u::B) (vs++[])=abe f A vs:=by rw[abf ht];simp
 rw[List.append_nil]at e;rw[e,abf ht];simp
end
theorem jV (e:TypeId) (l:List aE):iP e l=.t e 2 l.length (c8 e l):=rfl
theorem ER (et em:TypeId) (l:List ao):Dz et em l=.t em 9 l.length (iC et em l):=rfl
def mT (l:List aE) (k j:Nat):List aE:=Cf (l.take j) k++l.drop j
def mM (l:List ao) (k j:Nat):List ao:=DO (l.take j) k++l.drop j
end Go.Av
