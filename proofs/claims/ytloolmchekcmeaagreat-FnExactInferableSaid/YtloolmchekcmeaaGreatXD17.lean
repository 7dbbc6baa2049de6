/- A part. -/
import Derived.Test.YtloolmchekcmeaaGreatXD16
import Derived.Lib.ItoaNum
set_option linter.unusedVariables false
set_option linter.unusedSimpArgs false
open List renaming length_take->abw,getElem?_eq_some_iff->abx,zipWith->aby,cons_append->abz,take_append_drop->abA,getElem?_append_right->abB,zipWith_append->abC,set_cons_zero->abD,set_append_right->abE,length_drop->abF,length_append->abG,getElem?_zipWith->abH,getElem?_set->abI,drop_eq_getElem_cons->abJ,append_assoc->abK
open Nat renaming sub_self->abL
namespace Go.Av
attribute [-simp] Go.Av.bP Go.Av.eu Go.Av.eN Go.Av.eG Go.Av.b8 Go.Av.bN
open Go
mutual
def sj:aF->Nat->aF
 |.mk _ l,k=>.mk k (bE l (k+1))
def bE:List aF->Nat->List aF
 |[],_=>[]
 |t::r,k=>sj t k::bE r (k+1+aL t.kids)
end
theorem pX (t:aF) (k:Nat):sj t k=.mk k (bE t.kids (k+1)):=by cases t;simp[sj]
theorem gz:∀(l:List aF) (k:Nat),(bE l k).length=l.length
 |[],_=>by simp[bE]
 |t::r,k=>by simp[bE,gz r]
theorem pY (t:aF) (r:List aF):aL (t::r)=1+aL t.kids+aL r:=by rw[aL,ed]
theorem nG:∀(a b:List aF) (k:Nat),bE (a++b) k=bE a k++bE b (k+aL a)
 |[],b,k=>by simp[bE,aL]
 |t::r,b,k=>by
  rw[abz,bE,bE,nG r b,abz,pY]
  congr 3
  omega
theorem pc:∀(a b:List aF),aL (a++b)=aL a+aL b
 |[],b=>by simp[aL]
 |t::r,b=>by rw[abz,pY,pY,pc r b];omega
def BY (k:Nat):List UInt8:=109::Lib.decDigits k
mutual
def JK:ak->Nat
 |.mk _ _ _ t f _ l=>6+aL t.kids+aL f.kids+dm l
def dm:List ak->Nat
 |[]=>0
 |t::r=>JK t+dm r
end
theorem nH (e:ak):JK e=6+aL e.ty.kids+aL e.fr.kids+dm e.kids:=by cases e;simp[JK]
mutual
def ri:ak->Nat->ak
 |.mk _ _ _ t f _ l,k=>.mk k (BY (k+1)) ((k+2:Nat):Int) (.mk ((k+3:Nat):Int) (bE t.kids (k+4))) (.mk ((k+4+aL t.kids:Nat):Int) (bE f.kids (k+5+aL t.kids)))
   ((k+5+aL t.kids+aL f.kids:Nat):Int) (bW l (k+6+aL t.kids+aL f.kids))
def bW:List ak->Nat->List ak
 |[],_=>[]
 |t::r,k=>ri t k::bW r (k+JK t)
end
theorem xc (e:ak) (k:Nat):ri e k=.mk k (BY (k+1)) ((k+2:Nat):Int) (.mk ((k+3:Nat):Int) (bE e.ty.kids (k+4))) (.mk ((k+4+aL e.ty.kids:Nat):Int) (bE e.fr.kids (k+5+aL e.ty.kids)))
  ((k+5+aL e.ty.kids+aL e.fr.kids:Nat):Int) (bW e.kids (k+6+aL e.ty.kids+aL e.fr.kids)):=by cases e;simp[ri]
theorem fF:∀(l:List ak) (k:Nat),(bW l k).length=l.length
 |[],_=>by simp[bW]
 |t::r,k=>by simp[bW,fF r]
theorem pd:∀(a b:List ak),dm (a++b)=dm a+dm b
 |[],b=>by simp[dm]
 |t::r,b=>by rw[abz,dm,dm,pd r b];omega
theorem lZ:∀(a b:List ak) (k:Nat),bW (a++b) k=bW a k++bW b (k+dm a)
 |[],b,k=>by simp[bW,dm]
 |t::r,b,k=>by
  rw[abz,bW,bW,lZ r b,abz,dm]
  congr 3
  omega
theorem HU (e:ak):JK e<=6+6*fa e:=by
 induction e using ak.ind with
 |h e ih=>
  have hl:∀l:List ak,(∀u∈l,u∈e.kids)->dm l<=6*dW l:=by
   intro l;induction l with
   |nil=>intro _;simp[dm]
   |cons x r ihl=>
    intro hm;have h1:=ih x (hm x (by simp));have h2:=ihl fun u hu=>hm u (by simp[hu])
    simp only[dm,dW];omega
  have h3:=hl e.kids fun _ h=>h
  rw[nH,fS];have e1:=ed e.ty;have e2:=ed e.fr;omega
section
variable {α β γ:Type}
theorem xd {l:List α} {j:Nat} {x:α} (h:l[j]? =some x):l.Perm ([x]++l.eraseIdx j):=by
 induction l generalizing j with
 |nil=>simp at h
 |cons a r ih=>
  cases j with
  |zero=>simp at h;subst h;exact .refl _
  |succ j=>
   simp at h;exact(List.Perm.cons a (ih h)).trans (List.Perm.swap x a _)
theorem Ej {l:List α} {j:Nat} (y:α) (h:j<l.length):([y]++l.eraseIdx j).Perm (l.set j y):=by
 have h1:(l.set j y)[j]? =some y:=by simp[h]
 have h2:=xd h1;have e:(l.set j y).eraseIdx j=l.eraseIdx j:=List.eraseIdx_set_eq;rw[e]at h2;exact h2.symm
theorem HV {l:List (List α)} {j:Nat} {x:List α} (h:l[j]? =some x):l.flatten.Perm (x++(l.eraseIdx j).flatten):=by
 have h1:=(xd h).flatten;simpa using h1
theorem JL {l:List (List α)} {j:Nat} (y:List α) (h:j<l.length):(y++(l.eraseIdx j).flatten).Perm (l.set j y).flatten:=by
 have h1:=(Ej y h).flatten;simpa using h1
theorem kB {f:α->β->γ} {l:List α} {vs:List β} {j:Nat} {v:β} (hv:vs[j]? =some v) (u:α):(aby f l vs).set j (f u v)=aby f (l.set j u) vs:=by
 apply List.ext_getElem?;intro i;rw[abI];simp only[abH,abI,List.length_zipWith];by_cases e:j=i
 ·subst e;have hj:=(abx.1 hv).1;simp only[if_true,hv];by_cases h:j<l.length
  ·rw[if_pos (by omega),if_pos h]
  ·rw[if_neg (by omega),if_neg h]
 ·rw[if_neg e,if_neg e]
theorem nI {f:α->β->γ} {l:List α} {vs:List β} {j:Nat} {u:α} {v:β} (hu:l[j]? =some u) (hv:vs[j]? =some v):(aby f l vs)[j]? =some (f u v):=by
 simp[abH,hu,hv]
theorem sk {f:α->β->γ} {l:List α} {vs:List β} {u:α} (h:l[vs.length]? =some u) (v:β):aby f l (vs++[v])=aby f l vs++[f u v]:=by
 obtain⟨h1,h2⟩:=abx.1 h;have hl:l=l.take vs.length++u::l.drop (vs.length+1):=by rw[<-h2,<-abJ h1,abA]
 have ht:(l.take vs.length).length=vs.length:=by rw[abw];omega
 generalize l.take vs.length=A at hl ht;generalize l.drop (vs.length+1)=B at hl;subst hl;have e:aby f (A++u::B) (vs++[])=aby f A vs:=by rw[abC ht];simp
 rw[List.append_nil]at e;rw[e,abC ht];simp
theorem kC {l:List α} {j:Nat} {u:α} (h:l[j]? =some u):l.take (j+1)=l.take j++[u]:=by rw[List.take_add_one,h];rfl
theorem pZ {l:List α} {j:Nat} {u:α} (h:l[j]? =some u):l.drop j=u::l.drop (j+1):=by
 obtain⟨h1,h2⟩:=abx.1 h;rw[abJ h1,h2]
end
theorem hH (e:TypeId) (l:List aF):dt e l=.t e 2 l.length (bZ e l):=rfl
theorem vC (et em:TypeId) (l:List ak):nE et em l=.t em 9 l.length (ei et em l):=rfl
def mT (l:List aF) (k j:Nat):List aF:=bE (l.take j) k++l.drop j
theorem Ek (l:List aF) (k:Nat):mT l k 0=l:=by simp[mT,bE]
theorem LZ (l:List aF) (k:Nat):mT l k l.length=bE l k:=by simp[mT]
theorem L0 (l:List aF) (k j:Nat):(mT l k j).length=l.length:=by simp only[mT,abG,gz,abw,abF];omega
theorem KG {l:List aF} {k j:Nat} {u:aF} (h:l[j]? =some u):(mT l k j)[j]? =some u:=by
 have hj:=(abx.1 h).1;have e:(bE (l.take j) k).length=j:=by rw[gz,abw];omega
 rw[mT,abB (by omega),e,abL,pZ h];rfl
theorem El {l:List aF} {k j:Nat} {u:aF} (h:l[j]? =some u):mT l k (j+1)=(mT l k j).set j (sj u (k+aL (l.take j))):=by
 have hj:=(abx.1 h).1;have e:(bE (l.take j) k).length=j:=by rw[gz,abw];omega
 rw[mT,mT,kC h,nG,pZ h,abE _ _ (by omega),e,abL,abD,abK];simp[bE]
theorem pg {l:List aF} {j:Nat} {u:aF} (h:l[j]? =some u):aL (l.take (j+1))=aL (l.take j)+1+aL u.kids:=by
 rw[kC h,pc,pY];simp[aL];omega
theorem sn (l:List aF) (j:Nat):aL (l.take j)<=aL l:=by
 conv=>rhs;rw[<-abA j l,pc]
 omega
def mM (l:List ak) (k j:Nat):List ak:=bW (l.take j) k++l.drop j
theorem Em (l:List ak) (k:Nat):mM l k 0=l:=by simp[mM,bW]
theorem L3 (l:List ak) (k:Nat):mM l k l.length=bW l k:=by simp[mM]
theorem L4 (l:List ak) (k j:Nat):(mM l k j).length=l.length:=by simp only[mM,abG,fF,abw,abF];omega
theorem KH {l:List ak} {k j:Nat} {u:ak} (h:l[j]? =some u):(mM l k j)[j]? =some u:=by
 have hj:=(abx.1 h).1;have e:(bW (l.take j) k).length=j:=by rw[fF,abw];omega
 rw[mM,abB (by omega),e,abL,pZ h];rfl
theorem JM {l:List ak} {k j:Nat} {u:ak} (h:l[j]? =some u):mM l k (j+1)=(mM l k j).set j (ri u (k+dm (l.take j))):=by
 have hj:=(abx.1 h).1;have e:(bW (l.take j) k).length=j:=by rw[fF,abw];omega
 rw[mM,mM,kC h,lZ,pZ h,abE _ _ (by omega),e,abL,abD,abK];simp[bW]
theorem pj {l:List ak} {j:Nat} {u:ak} (h:l[j]? =some u):dm (l.take (j+1))=dm (l.take j)+JK u:=by
 rw[kC h,pd];simp[dm]
theorem so (l:List ak) (j:Nat):dm (l.take j)<=dm l:=by
 conv=>rhs;rw[<-abA j l,pd]
 omega
theorem xe:∀(l:List ak),l.length<=dm l
 |[]=>by simp
 |t::r=>by have:=xe r;rw[dm,nH,List.length_cons];omega
theorem HW {l:List aF} {k j:Nat} {u:aF} (h:l[j]? =some u):(bE l k)[j]? =some (sj u (k+aL (l.take j))):=by
 have hj:=(abx.1 h).1;have e:l=l.take j++u::l.drop (j+1):=by rw[<-pZ h,abA]
 have e2:(bE (l.take j) k).length=j:=by rw[gz,abw];omega
 have e3:bE l k=bE (l.take j) k++bE (u::l.drop (j+1)) (k+aL (l.take j)):=by rw[<-nG,<-e]
 rw[e3,abB (by omega),e2,abL];simp[bE]
theorem FE {l:List ak} {k j:Nat} {u:ak} (h:l[j]? =some u):(bW l k)[j]? =some (ri u (k+dm (l.take j))):=by
 have hj:=(abx.1 h).1;have e:l=l.take j++u::l.drop (j+1):=by rw[<-pZ h,abA]
 have e2:(bW (l.take j) k).length=j:=by rw[fF,abw];omega
 have e3:bW l k=bW (l.take j) k++bW (u::l.drop (j+1)) (k+dm (l.take j)):=by rw[<-lZ,<-e]
 rw[e3,abB (by omega),e2,abL];simp[bW]
end Go.Av
