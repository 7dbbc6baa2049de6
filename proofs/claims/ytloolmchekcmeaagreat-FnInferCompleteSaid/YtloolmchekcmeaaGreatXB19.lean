/- A part. -/
import Derived.Test.YtloolmchekcmeaaGreatXB18
import Derived.Lib.ItoaNum
set_option linter.unusedVariables false
set_option linter.unusedSimpArgs false
open List renaming zipWith->abu,zipWith_append->abv
namespace Go.Av
attribute [-simp] Go.Av.cj Go.Av.e0 Go.Av.fH Go.Av.fy Go.Av.cW Go.Av.cg
open Go
mutual
def OW:aG->Nat->aG
 |.mk _ l,k=>.mk k (CE l (k+1))
def CE:List aG->Nat->List aG
 |[],_=>[]
 |t::r,k=>OW t k::CE r (k+1+cS t.kids)
end
def OX (k:Nat):List UInt8:=109::Lib.decDigits k
mutual
def Ty:al->Nat
 |.mk _ _ _ t f _ l=>6+cS t.kids+cS f.kids+OY l
def OY:List al->Nat
 |[]=>0
 |t::r=>Ty t+OY r
end
mutual
def Mo:al->Nat->al
 |.mk _ _ _ t f _ l,k=>.mk k (OX (k+1)) ((k+2:Nat):Int) (.mk ((k+3:Nat):Int) (CE t.kids (k+4))) (.mk ((k+4+cS t.kids:Nat):Int) (CE f.kids (k+5+cS t.kids)))
   ((k+5+cS t.kids+cS f.kids:Nat):Int) (Ec l (k+6+cS t.kids+cS f.kids))
def Ec:List al->Nat->List al
 |[],_=>[]
 |t::r,k=>Mo t k::Ec r (k+Ty t)
end
section
variable {α β γ:Type}
theorem sR {f:α->β->γ} {l:List α} {vs:List β} {u:α} (h:l[vs.length]? =some u) (v:β):abu f l (vs++[v])=abu f l vs++[f u v]:=by
 obtain⟨h1,h2⟩:=List.getElem?_eq_some_iff.1 h;have hl:l=l.take vs.length++u::l.drop (vs.length+1):=by rw[<-h2,<-List.drop_eq_getElem_cons h1,List.take_append_drop]
 have ht:(l.take vs.length).length=vs.length:=by rw[List.length_take];omega
 generalize l.take vs.length=A at hl ht;generalize l.drop (vs.length+1)=B at hl;subst hl;have e:abu f (A++u::B) (vs++[])=abu f A vs:=by rw[abv ht];simp
 rw[List.append_nil]at e;rw[e,abv ht];simp
end
theorem kg (e:TypeId) (l:List aG):jh e l=.t e 2 l.length (db e l):=rfl
theorem E8 (et em:TypeId) (l:List al):DY et em l=.t em 9 l.length (iS et em l):=rfl
def mT (l:List aG) (k j:Nat):List aG:=CE (l.take j) k++l.drop j
def mM (l:List al) (k j:Nat):List al:=Ec (l.take j) k++l.drop j
end Go.Av
