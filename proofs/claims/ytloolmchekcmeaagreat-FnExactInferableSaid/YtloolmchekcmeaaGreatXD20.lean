/- A part. -/
import Derived.Test.YtloolmchekcmeaaGreatXD19
set_option linter.unusedVariables false
set_option linter.unusedSimpArgs false
open Bool renaming and_eq_true->abS
open Nat renaming le_max_right->abT,le_max_left->abU,le_refl->abV,le_succ->abW,add_right_comm->abX,strongRecOn->abY,le_add_right->abZ,le_add_left->ab0
open List renaming mem_append->ab1,mem_of_getElem?->ab2,mem_cons->ab3,length_set->ab4,not_mem_nil->ab5,mem_or_eq_of_mem_set->ab6,length_append->ab7,countP_cons->ab8,countP_append->ab9
open Option renaming map_eq_some_iff->aca
namespace Go.Av
attribute [-simp] Go.Av.bP Go.Av.eu Go.Av.eN Go.Av.eG Go.Av.b8 Go.Av.bN
open Go
def eT (s:List UInt8) (c:UInt8):Nat->Int
 |0=>-1
 |p+1=>if s[p]? =some c then(p:Int)else eT s c p
def dC (s:List UInt8) (c:UInt8):Int:=eT s c s.length
theorem nJ (s:List UInt8) (c:UInt8):∀p,-1<=eT s c p/\eT s c p<p
 |0=>by simp[eT]
 |p+1=>by
  have:=nJ s c p;simp only[eT];split<;>push_cast<;>omega
def L5 (k:Int):Int:=if k=6 then 6 else if k=7 then 7 else if k=8 then 8 else if k=10 then 11 else if k=11 then 12 else 13
def L6 (k:Int) (x n:Int) (cs:List (List C8)):List C8:=
 if k=1 then [⟨3,x⟩]else if k=2 then [⟨1,n⟩]else if k=3 then [⟨2,1⟩]else if k=4 then [⟨2,0⟩]
 else if k=5 then(match cs with|[b]=>[⟨4,b.length+1⟩]++b++[⟨5,0⟩]|_=>[])
 else if k=9 then(match cs with|[c,y,z]=>c++[⟨9,y.length+1⟩]++y++[⟨10,z.length⟩]++z|_=>[])
 else cs.flatten++[⟨L5 k,0⟩]
mutual
def HX (names:List UInt8):ak->List C8
 |.mk k s n _ _ _ l=>L6 k (names.length-1-dC names (s.headD 0)) n (KI (if k=5 then names++s else names) l)
def KI (names:List UInt8):List ak->List (List C8)
 |[]=>[]
 |e::r=>HX names e::KI names r
end
inductive Co:List UInt8->ak->Prop
 |var {ns:List UInt8} {c:UInt8}:c∈ns->Co ns (u6 [c])
 |num {ns:List UInt8} (n:Int):Co ns (yf n)
 |vt {ns:List UInt8}:Co ns qz
 |vu {ns:List UInt8}:Co ns lW
 |lam {ns:List UInt8} {c:UInt8} {t:aF} {b:ak}:Co (ns++[c]) b->Co ns (rY [c] t b)
 |n2 {ns:List UInt8} {k:Int} {a b:ak}:k=6\/k=7\/k=8\/k=10->Co ns a->Co ns b->Co ns (Cn k a b)
 |ite {ns:List UInt8} {a b c:ak}:Co ns a->Co ns b->Co ns c->Co ns (G9 a b c)
 |n1 {ns:List UInt8} {k:Int} {a:ak}:k=11\/k=12->Co ns a->Co ns (Gc k a)
structure Ru (ns:List UInt8) (e:ak):Prop where
 var:e.kind=1->∃c,e.name=[c]/\c∈ns/\e.kids=[]
 lam:e.kind=5->∃c b,e.name=[c]/\e.kids=[b]
 ite:e.kind=9->∃a b c,e.kids=[a,b,c]
 kind:1<=e.kind/\e.kind<=12
 leaf:e.kind<=4->e.kids=[]
 len:e.kids.length<=3
 UM:e.name.length<=1
 kids:∀u∈e.kids,Co (if e.kind=5 then ns++e.name else ns) u
def OA (e:ak):Option (List C8):=if aV e=true/\HB e=[]then(if yV (HX [] (mapM aO e))=true then some (HX [] (mapM aO e))else none)else none
def UN (o:Option (List C8)):List C8:=o.getD []
mutual
theorem Dj (z:UInt8):∀(e:ak) (bd:List UInt8),wX z bd (mapM Da e)=wX z bd e
 |.mk k s n t f b l,bd=>by
  rw[mapM,Da];split<;>(simp only[wX,ak.cb,ak.gu,ak.bD,uH z l];try rfl)
theorem uH (z:UInt8):∀(l:List ak) (bd:List UInt8),pW z bd (eL Da l)=pW z bd l
 |[],bd=>rfl
 |e::r,bd=>by rw[eL,pW,pW,Dj z e,uH z r]
end
mutual
def En (bd:List UInt8):ak->List UInt8->List UInt8
 |.mk k s _ _ _ _ l,out=>xf (if k=5 then zB (s.headD 0) bd else bd) l (if k=1/\¬s.headD 0∈bd then zB (s.headD 0) out else out)
def xf (bd:List UInt8):List ak->List UInt8->List UInt8
 |[],out=>out
 |e::r,out=>xf bd r (En bd e out)
end
mutual
theorem FF:∀(e:ak) (bd out:List UInt8),(En bd e out).length<=out.length+aQ e
 |.mk k s n t f b l,bd,out=>by
  rw[En,aQ];have h1:=xg l (if k=5 then zB (s.headD 0) bd else bd) (if k=1/\¬s.headD 0∈bd then zB (s.headD 0) out else out);have h2:(if k=1/\¬s.headD 0∈bd then zB (s.headD 0) out else out).length<=out.length+1:=by
   split
   ·exact A6 _ _
   ·omega
  omega
theorem xg:∀(l:List ak) (bd out:List UInt8),(xf bd l out).length<=out.length+bf l
 |[],bd,out=>by simp[xf]
 |e::r,bd,out=>by
  rw[xf,bf];have h1:=FF e bd out;have h2:=xg r bd (En bd e out);omega
end
inductive IT where
 |v (n:Nat)
 |b (k:Int)
 |p (k:Int) (x y:IT)
deriving DecidableEq
def bd (B:List IT) (n:Nat):Option IT:=match B[n]? with
 |some t=>if t=.v n then none else some t
 |none=>none
def ex (B:List IT):Nat->IT->Bool
 |0,_=>false
 |k+1,.v n=>match bd B n with
  |none=>true
  |some t=>ex B k t
 |_+1,.b _=>true
 |k+1,.p _ x y=>ex B k x && ex B k y
def hd (B:List IT):Nat->IT->IT
 |k+1,.v n=>match bd B n with
  |none=>.v n
  |some t=>hd B k t
 |_,t=>t
def kO (B:List IT) (n:Nat):Nat->IT->Bool
 |k+1,.v m=>match bd B m with
  |none=>decide (m=n)
  |some t=>kO B n k t
 |k+1,.p _ x y=>kO B n k x||kO B n k y
 |_,_=>false
def iU:Nat->List IT->IT->IT->Option (List IT×Bool)
 |0,_,_,_=>none
 |k+1,B,a,b=>if ex B k a && ex B k b then
   match hd B k a,hd B k b with
   |.v n,b'=>if b'=.v n then some (B,true)else if kO B n k b' then some (B,false)else some (B.set n b',true)
   |a',.v n=>if kO B n k a' then some (B,false)else some (B.set n a',true)
   |.b i,.b j=>some (B,decide (i=j))
   |.p i x y,.p j x' y'=>if i=j then(match iU k B x x' with
     |some (B1,true)=>iU k B1 y y'
     |r=>r)else some (B,false)
   |_,_=>some (B,false)
  else none
section
variable {B:List IT}
theorem nK:∀{k:Nat} {t:IT},ex B k t=true->ex B (k+1) t=true
 |0,t,h=>by simp[ex]at h
 |k+1,.v n,h=>by
  simp only[ex]at h⊢;split<;>rename_i hb
  ·rfl
  ·rw[hb]at h;exact nK h
 |k+1,.b _,_=>by simp[ex]
 |k+1,.p _ x y,h=>by
  rw[ex,abS]at h;rw[ex,abS];exact⟨nK h.1,nK h.2⟩
theorem nW {k j:Nat} {t:IT} (hk:k<=j) (h:ex B k t=true):ex B j t=true:=by
 induction hk with
 |refl=>exact h
 |step _ ih=>exact nK ih
def JN (B:List IT) (t:IT):Prop:=∀n,t=.v n->bd B n=none
theorem jD:∀{k:Nat} {t:IT},ex B k t=true->JN B (hd B k t)
 |0,t,h=>by simp[ex]at h
 |k+1,.v n,h=>by
  simp only[ex]at h;simp only[hd];split<;>rename_i hb
  ·intro m e;cases e;exact hb
  ·rw[hb]at h;exact jD h
 |k+1,.b _,_=>by intro n e;simp[hd]at e
 |k+1,.p _ x y,_=>by intro n e;simp[hd]at e
theorem xh {t:IT} (h:JN B t):∀k,hd B k t=t
 |0=>by cases t<;>rfl
 |k+1=>by
  cases t with
  |v n=>simp only[hd,h n rfl]
  |b _=>rfl
  |p _ _ _=>rfl
theorem mA:∀{k:Nat} {t:IT},ex B k t=true->ex B k (hd B k t)=true
 |0,t,h=>by simp[ex]at h
 |k+1,.v n,h=>by
  have h':=h;simp only[ex]at h;simp only[hd];split<;>rename_i hb
  ·exact h'
  ·rw[hb]at h;exact nK (mA h)
 |k+1,.b _,h=>h
 |k+1,.p _ x y,h=>h
theorem gB:∀{k j:Nat} {t:IT},ex B k t=true->k<=j->hd B j t=hd B k t
 |0,j,t,h,_=>by simp[ex]at h
 |k+1,j+1,.v n,h,hj=>by
  simp only[ex]at h;simp only[hd];split<;>rename_i hb
  ·rfl
  ·rw[hb]at h;exact gB h (by omega)
 |k+1,j+1,.b _,_,_=>rfl
 |k+1,j+1,.p _ _ _,_,_=>rfl
theorem ej {n:Nat}:∀{k j:Nat} {t:IT},ex B k t=true->k<=j->kO B n j t=kO B n k t
 |0,j,t,h,_=>by simp[ex]at h
 |k+1,j+1,.v m,h,hj=>by
  simp only[ex]at h;simp only[kO];split<;>rename_i hb
  ·rfl
  ·rw[hb]at h;exact ej h (by omega)
 |k+1,j+1,.b _,_,_=>rfl
 |k+1,j+1,.p _ x y,h,hj=>by
  rw[ex,abS]at h;simp only[kO,ej h.1 (show k<=j by omega),ej h.2 (show k<=j by omega)]
theorem Dk {n:Nat}:∀{k:Nat} {t:IT},ex B k t=true->kO B n k (hd B k t)=kO B n k t
 |0,t,h=>by simp[ex]at h
 |k+1,.v m,h=>by
  have h':=h;simp only[ex]at h;simp only[hd];cases hb:bd B m with
  |none=>simp
  |some t=>
   rw[hb]at h;simp only at h⊢;rw[ej (mA h) (abW k),Dk h];simp only[kO,hb]
 |k+1,.b _,h=>rfl
 |k+1,.p _ x y,h=>rfl
theorem vD:∀{k:Nat} {t:IT} {c:Int} {x y:IT},ex B k t=true->hd B k t=.p c x y->∃j,j<k/\ex B j x=true/\ex B j y=true
 |0,t,_,_,_,h,_=>by simp[ex]at h
 |k+1,.v n,c,x,y,h,e=>by
  simp only[ex]at h;simp only[hd]at e;cases hb:bd B n with
  |none=>rw[hb]at e;cases e
  |some t=>
   rw[hb]at h e;obtain⟨j,h1,h2⟩:=vD h e;exact⟨j,by omega,h2⟩
 |k+1,.b _,_,_,_,h,e=>by simp[hd]at e
 |k+1,.p _ x y,_,_,_,h,e=>by
  simp only[hd]at e;cases e
  rw[ex,abS]at h;exact⟨k,by omega,h⟩
end
theorem BZ:∀{k:Nat} {B:List IT} {a b:IT} {r:List IT×Bool},iU k B a b=some r->iU (k+1) B a b=some r
 |0,B,a,b,r,h=>by simp[iU]at h
 |k+1,B,a,b,r,h=>by
  have ih:=fun{B a b r}=>BZ (k:=k) (B:=B) (a:=a) (b:=b) (r:=r)
  rw[iU]at h⊢;split at h
  ·rename_i hx;rw[abS]at hx;have ha:=gB hx.1 (abW k);have hb:=gB hx.2 (abW k);have oa:=fun n=>(ej (n:=n) (mA hx.1) (abW k))
   have ob:=fun n=>(ej (n:=n) (mA hx.2) (abW k))
   rw[if_pos (by rw[abS];exact⟨nK hx.1,nK hx.2⟩),ha,hb];generalize hd B k a=a' at*;generalize hd B k b=b' at*
   match a',b',h with
   |.v n,b',h=>simp only[ob]at h⊢;exact h
   |.b _,.v n,h=>simp only[oa]at h⊢;exact h
   |.p _ _ _,.v n,h=>simp only[oa]at h⊢;exact h
   |.b _,.b _,h=>exact h
   |.b _,.p _ _ _,h=>exact h
   |.p _ _ _,.b _,h=>exact h
   |.p i x y,.p j x' y',h=>
    simp only at h⊢;split at h
    ·rename_i kK;rw[if_pos kK];cases hu:iU k B x x' with
     |none=>rw[hu]at h;simp at h
     |some q=>
      obtain⟨B1,q⟩:=q;rw[ih hu];rw[hu]at h;cases q
      ·exact h
      ·exact ih h
    ·rename_i kK;rw[if_neg kK];exact h
  ·simp at h
theorem pq {k j:Nat} {B:List IT} {a b:IT} {r:List IT×Bool} (hk:k<=j) (h:iU k B a b=some r):iU j B a b=some r:=by
 induction hk with
 |refl=>exact h
 |step _ ih=>exact BZ ih
def sc (N:Nat):IT->Bool
 |.v n=>decide (n<N)
 |.b _=>true
 |.p _ x y=>sc N x && sc N y
def sM (B:List IT):Prop:=∀t∈B,sc B.length t=true
theorem fc {N M:Nat} (h:N<=M):∀{t:IT},sc N t=true->sc M t=true
 |.v n,ht=>by simp[sc]at ht⊢;omega
 |.b _,_=>rfl
 |.p _ x y,ht=>by
  rw[sc,abS]at ht⊢;exact⟨fc h ht.1,fc h ht.2⟩
theorem vE {B:List IT} {n:Nat} {t:IT} (h:bd B n=some t):B[n]? =some t/\t≠.v n:=by
 simp only[bd]at h;split at h
 ·rename_i u hu;split at h
  ·simp at h
  ·rename_i hn;simp at h;subst h;exact⟨hu,hn⟩
 ·simp at h
theorem JO {B:List IT} {n:Nat} (hn:n<B.length) (h:bd B n=none):B[n]? =some (.v n):=by
 simp only[bd,List.getElem?_eq_getElem hn]at h⊢;split at h
 ·rename_i e;rw[e]
 ·simp at h
theorem Eo {B:List IT} {n:Nat} {t:IT} (hB:sM B) (h:bd B n=some t):sc B.length t=true:=hB t (ab2 (vE h).1)
theorem nX {B:List IT} (hB:sM B):∀{k:Nat} {t:IT},sc B.length t=true->sc B.length (hd B k t)=true
 |0,t,h=>by cases t<;>exact h
 |k+1,.v n,h=>by
  simp only[hd];split<;>rename_i hb
  ·exact h
  ·exact nX hB (Eo hB hb)
 |k+1,.b _,h=>h
 |k+1,.p _ x y,h=>h
theorem xi {B:List IT} {n m:Nat} {t:IT} (hn:n<B.length) (ht:t≠.v n):bd (B.set n t) m=if m=n then some t else bd B m:=by
 simp only[bd];by_cases h:m=n
 ·subst h;simp[hn,ht]
 ·rw[List.getElem?_set_ne (by omega),if_neg h]
theorem sM.set {B:List IT} (h:sM B) {n:Nat} {t:IT} (ht:sc B.length t=true):sM (B.set n t):=by
 intro u hu;rw[ab4];rcases ab6 hu with h1|rfl
 ·exact h u h1
 ·exact ht
theorem xj:∀{k:Nat} {B B':List IT} {a b:IT} {q:Bool},sM B->sc B.length a=true->sc B.length b=true->iU k B a b=some (B',q)->sM B'/\B'.length=B.length
 |0,B,B',a,b,q,_,_,_,h=>by simp[iU]at h
 |k+1,B,B',a,b,q,hB,ha,hb,h=>by
  rw[iU]at h;split at h
  ·have tM:=nX hB (k:=k) ha;have eI:=nX hB (k:=k) hb;generalize hd B k a=a' at*;generalize hd B k b=b' at*
   match a',b',h with
   |.v n,b',h=>
    simp only at h;split at h
    ·simp at h;obtain⟨rfl,_⟩:=h;exact⟨hB,rfl⟩
    ·split at h
     ·simp at h;obtain⟨rfl,_⟩:=h;exact⟨hB,rfl⟩
     ·simp at h;obtain⟨rfl,_⟩:=h;exact⟨hB.set eI,by simp⟩
   |.b _,.v n,h=>
    simp only at h;split at h
    ·simp at h;obtain⟨rfl,_⟩:=h;exact⟨hB,rfl⟩
    ·simp at h;obtain⟨rfl,_⟩:=h;exact⟨hB.set tM,by simp⟩
   |.p _ _ _,.v n,h=>
    simp only at h;split at h
    ·simp at h;obtain⟨rfl,_⟩:=h;exact⟨hB,rfl⟩
    ·simp at h;obtain⟨rfl,_⟩:=h;exact⟨hB.set tM,by simp⟩
   |.b _,.b _,h=>simp at h;obtain⟨rfl,_⟩:=h;exact⟨hB,rfl⟩
   |.b _,.p _ _ _,h=>simp at h;obtain⟨rfl,_⟩:=h;exact⟨hB,rfl⟩
   |.p _ _ _,.b _,h=>simp at h;obtain⟨rfl,_⟩:=h;exact⟨hB,rfl⟩
   |.p i x y,.p j x' y',h=>
    rw[sc,abS]at tM eI;simp only at h;split at h
    ·cases hu:iU k B x x' with
     |none=>rw[hu]at h;simp at h
     |some r=>
      obtain⟨B1,q1⟩:=r;rw[hu]at h;obtain⟨h1,h2⟩:=xj hB tM.1 eI.1 hu;cases q1
      ·simp at h;obtain⟨rfl,_⟩:=h;exact⟨h1,h2⟩
      ·obtain⟨h3,h4⟩:=xj h1 (by rw[h2];exact tM.2) (by rw[h2];exact eI.2) h;exact⟨h3,h4.trans h2⟩
    ·simp at h;obtain⟨rfl,_⟩:=h;exact⟨hB,rfl⟩
  ·simp at h
theorem sw:∀{k:Nat} {B B':List IT} {a:IT} {q:Bool},iU k B a a=some (B',q)->B'=B/\q=true
 |0,B,B',a,q,h=>by simp[iU]at h
 |k+1,B,B',a,q,h=>by
  rw[iU]at h;split at h
  ·generalize hd B k a=a' at h
   match a',h with
   |.v n,h=>simp at h;exact⟨h.1.symm,h.2⟩
   |.b _,h=>simp at h;exact⟨h.1.symm,h.2⟩
   |.p i x y,h=>
    simp only[if_true]at h;cases hu:iU k B x x with
    |none=>rw[hu]at h;simp at h
    |some r=>
     obtain⟨B1,q1⟩:=r;obtain⟨rfl,rfl⟩:=sw hu;rw[hu]at h;exact sw h
  ·simp at h
def nfree (B:List IT):Nat:=(List.range B.length).countP fun n=>(bd B n).isNone
def FG (B:List IT):Prop:=∀n,n<B.length->∃k,ex B k (.v n)=true
theorem FG.all {B:List IT} (h:FG B):∀{t:IT},sc B.length t=true->∃k,ex B k t=true
 |.v n,ht=>h n (by simpa[sc]using ht)
 |.b _,_=>⟨1,rfl⟩
 |.p c x y,ht=>by
  rw[sc,abS]at ht;obtain⟨k1,h1⟩:=h.all ht.1;obtain⟨k2,h2⟩:=h.all ht.2;exact⟨max k1 k2+1,by rw[ex,abS];exact⟨nW (abU _ _) h1,nW (abT _ _) h2⟩⟩
theorem p7 {B:List IT} {n:Nat} {t:IT} (hn:n<B.length) (ht:t≠.v n) (hf:bd B n=none):∀{k:Nat} {u:IT},ex B k u=true->kO B n k u=false->ex (B.set n t) k u=true
 |0,u,h,_=>by simp[ex]at h
 |k+1,.v m,h,ho=>by
  simp only[ex,kO]at h ho⊢;rw[xi hn ht];by_cases hm:m=n
  ·subst hm;rw[hf]at ho;simp at ho
  ·rw[if_neg hm];cases hb:bd B m with
   |none=>rfl
   |some w=>rw[hb]at h ho;exact p7 hn ht hf h ho
 |k+1,.b _,_,_=>rfl
 |k+1,.p _ x y,h,ho=>by
  rw[ex,abS]at h;rw[kO,Bool.or_eq_false_iff]at ho;rw[ex,abS];exact⟨p7 hn ht hf h.1 ho.1,p7 hn ht hf h.2 ho.2⟩
theorem zY {B:List IT} {n j:Nat} {t:IT} (hn:n<B.length) (ht:t≠.v n) (hj:ex (B.set n t) j t=true):∀{k:Nat} {u:IT},ex B k u=true->ex (B.set n t) (k+j) u=true
 |0,u,h=>by simp[ex]at h
 |k+1,.v m,h=>by
  rw[abX];simp only[ex]at h⊢;rw[xi hn ht];by_cases hm:m=n
  ·subst hm;rw[if_pos rfl];exact nW (by omega) hj
  ·rw[if_neg hm];cases hb:bd B m with
   |none=>rfl
   |some w=>rw[hb]at h;exact zY hn ht hj h
 |k+1,.b _,_=>by rw[abX];rfl
 |k+1,.p _ x y,h=>by
  rw[ex,abS]at h;rw[abX,ex,abS];exact⟨zY hn ht hj h.1,zY hn ht hj h.2⟩
theorem FG.set {B:List IT} (h:FG B) {n k:Nat} {t:IT} (hn:n<B.length) (ht:t≠.v n) (hf:bd B n=none) (hx:ex B k t=true) (ho:kO B n k t=false):FG (B.set n t):=by
 have hj:=p7 hn ht hf hx ho;intro m hm;rw[ab4]at hm;obtain⟨i,hi⟩:=h m hm;exact⟨i+k,zY hn ht hj hi⟩
theorem tN {B:List IT} {n:Nat} {t:IT} (hn:n<B.length) (ht:t≠.v n) (hf:bd B n=none):nfree (B.set n t)<nfree B:=by
 simp only[nfree,ab4];have key:∀l:List Nat,(l.countP fun m=>(bd (B.set n t) m).isNone)<=l.countP fun m=>(bd B m).isNone:=fun l=>by
  apply List.countP_mono_left;intro m _ hm;rw[xi hn ht]at hm;split at hm
  ·simp at hm
  ·exact hm
 obtain⟨l1,l2,hl⟩:=List.append_of_mem (List.mem_range.2 hn);rw[hl,ab9,ab9,ab8,ab8];have h1:=key l1;have h2:=key l2;rw[xi hn ht,if_pos rfl,hf];simp;omega
theorem y3:∀(u k:Nat) (B:List IT) (a b:IT),nfree B<=u->sM B->FG B->sc B.length a=true->sc B.length b=true->ex B k a=true->∃j B' q,iU j B a b=some (B',q)/\FG B'/\(B'=B\/nfree B'<nfree B):=by
 intro u;induction u using abY with
 |_ u ihu=>
  intro k;induction k using abY with
  |_ k ihk=>
   intro B a b hu hB hA ha hb Gi;obtain⟨kb,HY⟩:=hA.all hb;have HZ:ex B (max k kb) a=true:=nW (abU _ _) Gi;have H0:ex B (max k kb) b=true:=nW (abT _ _) HY;have JP:=jD HZ;have Gj:=jD H0;have PE:=mA HZ;have S7:=mA H0;have Hh:=nX hB (k:=max k kb) ha;have Bc:=nX hB (k:=max k kb) hb;have Fc:=fun{c x y} (e:hd B (max k kb) a=.p c x y)=>vD Gi (by rw[<-gB Gi (abU k kb)];exact e)
   have Gf:(ex B (max k kb) a && ex B (max k kb) b)=true:=by rw[HZ,H0];rfl
   have Iy:∀{r},iU (max k kb+1) B a b=r->∀j,max k kb+1<=j->r.isSome=true->iU j B a b=r:=fun{r} e j hj hs=>by
    cases r with
    |none=>simp at hs
    |some r=>exact pq hj e
   match tM:hd B (max k kb) a,eI:hd B (max k kb) b with
   |.v n,b'=>
    rw[tM]at JP Hh;rw[eI]at S7 Bc;by_cases e:b'=.v n
    ·exact⟨max k kb+1,B,true,by rw[iU,if_pos Gf,tM,eI];simp[e],hA,.inl rfl⟩
    ·by_cases o:kO B n (max k kb) b'=true
     ·exact⟨max k kb+1,B,false,by rw[iU,if_pos Gf,tM,eI];simp[e,o],hA,.inl rfl⟩
     ·have hn:n<B.length:=by simpa[sc]using Hh
      have o':kO B n (max k kb) b'=false:=by simpa using o
      exact⟨max k kb+1,B.set n b',true,by rw[iU,if_pos Gf,tM,eI];simp[e,o'],hA.set hn e (JP n rfl) S7 o',.inr (tN hn e (JP n rfl))⟩
   |.b i,.v n=>
    rw[eI]at Gj Bc;rw[tM]at PE;have hn:n<B.length:=by simpa[sc]using Bc
    have o':kO B n (max k kb) (.b i)=false:=by cases max k kb<;>rfl
    exact⟨max k kb+1,B.set n (.b i),true,by rw[iU,if_pos Gf,tM,eI];simp[o'],hA.set hn (by simp) (Gj n rfl) PE o',.inr (tN hn (by simp) (Gj n rfl))⟩
   |.p c x y,.v n=>
    rw[eI]at Gj Bc;rw[tM]at PE;have hn:n<B.length:=by simpa[sc]using Bc
    by_cases o:kO B n (max k kb) (.p c x y)=true
    ·exact⟨max k kb+1,B,false,by rw[iU,if_pos Gf,tM,eI];simp[o],hA,.inl rfl⟩
    ·have o':kO B n (max k kb) (.p c x y)=false:=by simpa using o
     exact⟨max k kb+1,B.set n (.p c x y),true,by rw[iU,if_pos Gf,tM,eI];simp[o'],hA.set hn (by simp) (Gj n rfl) PE o',.inr (tN hn (by simp) (Gj n rfl))⟩
   |.b i,.b j=>exact⟨max k kb+1,B,_,by rw[iU,if_pos Gf,tM,eI],hA,.inl rfl⟩
   |.b i,.p _ _ _=>exact⟨max k kb+1,B,false,by rw[iU,if_pos Gf,tM,eI],hA,.inl rfl⟩
   |.p _ _ _,.b i=>exact⟨max k kb+1,B,false,by rw[iU,if_pos Gf,tM,eI],hA,.inl rfl⟩
   |.p c x y,.p c' x' y'=>
    rw[tM]at Hh;rw[eI]at Bc;rw[sc,abS]at Hh Bc;by_cases e:c=c'
    rotate_left
    ·exact⟨max k kb+1,B,false,by rw[iU,if_pos Gf,tM,eI];simp[e],hA,.inl rfl⟩
    subst e;obtain⟨m,hm,hx,hy⟩:=Fc tM;obtain⟨j1,B1,q1,h1,PF,gE⟩:=ihk m hm B x x' hu hB hA Hh.1 Bc.1 hx;obtain⟨S8,yS⟩:=xj hB Hh.1 Bc.1 h1
    have hw:∀j,max k kb<=j->iU (j+1) B a b=(match iU j B x x' with
      |some (B1,true)=>iU j B1 y y'
      |r=>r):=fun j hj=>by
     rw[iU,if_pos (by rw[nW hj HZ,nW hj H0];rfl),gB HZ hj,gB H0 hj,tM,eI];simp
    cases q1 with
    |false=>exact⟨max (max k kb) j1+1,B1,false,by rw[hw _ (abU _ _),pq (abT _ _) h1],PF,gE⟩
    |true=>
     have h2:∃j2 B2 q2,iU j2 B1 y y'=some (B2,q2)/\FG B2/\(B2=B1\/nfree B2<nfree B1):=by
      rcases gE with rfl|ax
      ·exact ihk m hm B1 y y' hu S8 PF Hh.2 Bc.2 hy
      ·obtain⟨ky,UO⟩:=PF.all (t:=y) (by rw[yS];exact Hh.2);exact ihu (nfree B1) (by omega) ky B1 y y' (abV _) S8 PF (by rw[yS];exact Hh.2) (by rw[yS];exact Bc.2) UO
     obtain⟨j2,B2,q2,h2,Ql,oG⟩:=h2;refine⟨max (max k kb) (max j1 j2)+1,B2,q2,?_,Ql,?_⟩
     ·rw[hw _ (abU _ _),pq (show j1<=_ by omega) h1];exact pq (by omega) h2
     ·rcases gE with rfl|h3<;>rcases oG with rfl|h4
      ·exact .inl rfl
      ·exact .inr h4
      ·exact .inr h3
      ·exact .inr (by omega)
section
variable {G:Type} (mk:Int->Option (G×G)->G)
def FH (θ:Nat->G):IT->G
 |.v n=>θ n
 |.b k=>mk k none
 |.p k x y=>mk k (some (FH θ x,FH θ y))
def Sat (θ:Nat->G) (B:List IT):Prop:=∀n t,bd B n=some t->θ n=FH mk θ t
variable {mk}
theorem KJ {θ:Nat->G} {B:List IT} (h:Sat mk θ B):∀{k:Nat} {t:IT},FH mk θ (hd B k t)=FH mk θ t
 |0,t=>by cases t<;>rfl
 |k+1,.v n=>by
  simp only[hd];split<;>rename_i hb
  ·rfl
  ·rw[KJ h,<-h n _ hb];rfl
 |k+1,.b _=>rfl
 |k+1,.p _ _ _=>rfl
structure VK (mk:Int->Option (G×G)->G):Prop where
 inj:∀k k' o o',mk k o=mk k' o'->k=k'/\o=o'
 size:∃sz:G->Nat,∀k x y,sz x<sz (mk k (some (x,y)))/\sz y<sz (mk k (some (x,y)))
end
def j0 (k:Nat) (B:List IT) (a b:IT):Option (Option (List IT)):=match iU k B a b with
 |none=>none
 |some (B',true)=>some (some B')
 |some (_,false)=>some none
def iI (k:Nat) (kd:Int) (B:List IT) (ts:List IT):Option (Option (List IT×IT)):=
 if kd=2 then some (some (B,.b 2))else if kd=3\/kd=4 then some (some (B,.b 3))else match ts with
  |[x]=>if kd=11\/kd=12 then(j0 k (B++[.v B.length,.v (B.length+1)]) x (.p 5 (.v B.length) (.v (B.length+1)))).map (·.map fun B'=>(B',.v (if kd=12 then B.length+1 else B.length)))else some none
  |[x,y]=>if kd=10 then some (some (B,.p 5 x y))
   else if kd=6 then(j0 k (B++[.v B.length,.v (B.length+1)]) x (.p 4 y (.v B.length))).map (·.map fun B'=>(B',.v B.length))
   else if kd=7\/kd=8 then(match j0 k B x (.b 2)with
    |some (some B1)=>(j0 k B1 y (.b 2)).map (·.map fun B'=>(B',.b (if kd=8 then 3 else 2)))
    |none=>none
    |some none=>some none)else some none
  |[x,y,z]=>if kd=9 then(match j0 k B x (.b 3)with
    |some (some B1)=>(j0 k B1 y z).map (·.map fun B'=>(B',y))
    |none=>none
    |some none=>some none)else some none
  |_=>some none
mutual
def inf (k:Nat):ak->List IT->List IT->List UInt8->List IT->Option (Option (List IT×List IT×IT))
 |.mk kd s _ _ _ _ l,B,ls,ns,ts=>
  if kd=1 then some (if 0<=dC ns (s.headD 0)then(ts[(dC ns (s.headD 0)).toNat]?).map fun t=>(B,ls,t)else none)
  else match mB k l (if kd=5 then B++[.v B.length]else B) (if kd=5 then ls++[.v B.length]else ls) (if kd=5 then ns++s else ns) (if kd=5 then ts++[.v B.length]else ts)with
   |some (some (B1,ls1,us))=>if kd=5 then(match us with|[u]=>some (some (B1,ls1,.p 4 (.v B.length) u))|_=>some none)else(iI k kd B1 us).map (·.map fun r=>(r.1,ls1,r.2))
   |none=>none
   |some none=>some none
def mB (k:Nat):List ak->List IT->List IT->List UInt8->List IT->Option (Option (List IT×List IT×List IT))
 |[],B,ls,_,_=>some (some (B,ls,[]))
 |e::r,B,ls,ns,ts=>match inf k e B ls ns ts with
  |some (some (B1,ls1,t))=>(match mB k r B1 ls1 ns ts with
   |some (some (B2,ls2,us))=>some (some (B2,ls2,t::us))
   |none=>none
   |some none=>some none)
  |none=>none
  |some none=>some none
end
inductive Ba:ak->Prop
 |var (c:UInt8):Ba (u6 [c])
 |num (n:Int):Ba (yf n)
 |vt:Ba qz
 |vu:Ba lW
 |lam {c:UInt8} {t:aF} {b:ak}:Ba b->Ba (rY [c] t b)
 |n2 {k:Int} {a b:ak}:k=6\/k=7\/k=8\/k=10->Ba a->Ba b->Ba (Cn k a b)
 |ite {a b c:ak}:Ba a->Ba b->Ba c->Ba (G9 a b c)
 |n1 {k:Int} {a:ak}:k=11\/k=12->Ba a->Ba (Gc k a)
theorem Ba.of {nt:Int} {d:Nat} {e:ak} (h:jY nt d e):Ba (mapM aO e):=by
 induction h with
 | @var d s _ hs=>
  obtain⟨c,rfl,_⟩:=yW hs;simpa[mapM,eL,aO]using Ba.var c
 |num _ _ _=>simpa[mapM,eL,aO]using Ba.num _
 |vt _=>simpa[mapM,eL,aO]using Ba.vt
 |vu _=>simpa[mapM,eL,aO]using Ba.vu
 | @lam d s t b _ hs _ _ ih=>
  obtain⟨c,rfl,_⟩:=yW hs;simpa[mapM,eL,aO]using Ba.lam ih
 | @n2 d k a b _ hk _ _ iha ihb=>
  have h1:¬(k=13\/k=14):=by omega
  have h2:¬k=5:=by omega
  simpa[mapM,eL,aO,h1,h2]using Ba.n2 hk iha ihb
 |ite _ _ _ _ ihp iha ihb=>simpa[mapM,eL,aO]using Ba.ite ihp iha ihb
 | @n1 d k a _ hk _ ih=>
  have h1:¬(k=13\/k=14):=by omega
  have h2:¬k=5:=by omega
  simpa[mapM,eL,aO,h1,h2]using Ba.n1 hk ih
 |asc _ _ _ ih=>simpa[mapM,eL,aO]using ih
 |cast _ _ _ _ _ _ ih=>simpa[mapM,eL,aO]using ih
section
variable (k:Nat) (B ls:List IT) (ns:List UInt8) (ts:List IT)
theorem lR (c:UInt8):inf k (u6 [c]) B ls ns ts=some (if 0<=dC ns c then(ts[(dC ns c).toNat]?).map fun t=>(B,ls,t)else none):=by simp[inf]
theorem vF (n:Int):inf k (yf n) B ls ns ts=some (some (B,ls,.b 2)):=by simp[inf,mB,iI]
theorem vG:inf k qz B ls ns ts=some (some (B,ls,.b 3)):=by simp[inf,mB,iI]
theorem vH:inf k lW B ls ns ts=some (some (B,ls,.b 3)):=by simp[inf,mB,iI]
theorem nL (c:UInt8) (t:aF) (b:ak):inf k (rY [c] t b) B ls ns ts=(inf k b (B++[.v B.length]) (ls++[.v B.length]) (ns++[c]) (ts++[.v B.length])).map (·.map fun r=>(r.1,r.2.1,.p 4 (.v B.length) r.2.2)):=by
 simp only[inf,mB,show¬(5:Int)=1 by omega,if_false,if_true];cases inf k b (B++[.v B.length]) (ls++[.v B.length]) (ns++[c]) (ts++[.v B.length])with
 |none=>rfl
 |some o=>cases o<;>rfl
theorem xk {kd:Int} (hk:kd=11\/kd=12) (a:ak):inf k (Gc kd a) B ls ns ts=match inf k a B ls ns ts with
  |some (some (B1,ls1,t))=>(iI k kd B1 [t]).map (·.map fun r=>(r.1,ls1,r.2))
  |none=>none
  |some none=>some none:=by
 simp only[inf,mB,show¬kd=1 by omega,show¬kd=5 by omega,if_false];cases inf k a B ls ns ts with
 |none=>rfl
 |some o=>cases o<;>rfl
theorem tO {kd:Int} (hk:kd=6\/kd=7\/kd=8\/kd=10) (a b:ak):inf k (Cn kd a b) B ls ns ts=match inf k a B ls ns ts with
  |some (some (B1,ls1,t))=>(match inf k b B1 ls1 ns ts with
   |some (some (B2,ls2,u))=>(iI k kd B2 [t,u]).map (·.map fun r=>(r.1,ls2,r.2))
   |none=>none
   |some none=>some none)
  |none=>none
  |some none=>some none:=by
 simp only[inf,mB,show¬kd=1 by omega,show¬kd=5 by omega,if_false];cases inf k a B ls ns ts with
 |none=>rfl
 |some o=>
  cases o with
  |none=>rfl
  |some r=>
   obtain⟨B1,ls1,t⟩:=r;simp only;cases inf k b B1 ls1 ns ts with
   |none=>rfl
   |some o=>cases o<;>rfl
theorem rj (a b c:ak):inf k (G9 a b c) B ls ns ts=match inf k a B ls ns ts with
  |some (some (B1,ls1,t))=>(match inf k b B1 ls1 ns ts with
   |some (some (B2,ls2,u))=>(match inf k c B2 ls2 ns ts with
    |some (some (B3,ls3,v))=>(iI k 9 B3 [t,u,v]).map (·.map fun r=>(r.1,ls3,r.2))
    |none=>none
    |some none=>some none)
   |none=>none
   |some none=>some none)
  |none=>none
  |some none=>some none:=by
 simp only[inf,mB,show¬(9:Int)=1 by omega,show¬(9:Int)=5 by omega,if_false];cases inf k a B ls ns ts with
 |none=>rfl
 |some o=>
  cases o with
  |none=>rfl
  |some r=>
   obtain⟨B1,ls1,t⟩:=r;simp only;cases inf k b B1 ls1 ns ts with
   |none=>rfl
   |some o=>
    cases o with
    |none=>rfl
    |some r=>
     obtain⟨B2,ls2,u⟩:=r;simp only;cases inf k c B2 ls2 ns ts with
     |none=>rfl
     |some o=>cases o<;>rfl
end
theorem xl {B:List IT} (new:List IT) {n:Nat} (hn:n<B.length):bd (B++new) n=bd B n:=by
 simp only[bd,List.getElem?_append_left hn]
theorem Dl {B:List IT}:bd (B++[.v B.length]) B.length=none:=by simp[bd]
theorem H2 {B:List IT} {n:Nat} (h1:B.length<=n) (h2:n<B.length+2):bd (B++[.v B.length,.v (B.length+1)]) n=none:=by
 simp only[bd];rw[List.getElem?_append_right h1];have:n=B.length\/n=B.length+1:=by omega
 rcases this with rfl|rfl
 ·simp
 ·simp
theorem xm {B:List IT} (new:List IT) (hB:sM B):∀{k:Nat} {t:IT},sc B.length t=true->ex B k t=true->ex (B++new) k t=true
 |0,t,_,h=>by simp[ex]at h
 |k+1,.v n,hs,h=>by
  simp only[ex]at h⊢;rw[xl new (by simpa[sc]using hs)];cases hb:bd B n with
  |none=>rfl
  |some t=>rw[hb]at h;exact xm new hB (Eo hB hb) h
 |k+1,.b _,_,_=>rfl
 |k+1,.p _ x y,hs,h=>by
  rw[sc,abS]at hs;rw[ex,abS]at h⊢;exact⟨xm new hB hs.1 h.1,xm new hB hs.2 h.2⟩
structure pr (B C:List IT):Prop where
 le:B.length<=C.length
 Kb:∀n,n<B.length->bd C n=bd B n
 new:∀n,B.length<=n->n<C.length->bd C n=none
 sc:sM B->sM C
 y4:sM B->FG B->FG C
theorem pr.one (B:List IT):pr B (B++[.v B.length]):=by
 refine⟨by simp,fun n hn=>xl _ hn,fun n h1 h2=>?_,fun h t ht=>?_,fun hs h n hn=>?_⟩
 ·have:n=B.length:=by simp at h2;omega
  subst this;exact Dl
 ·rw[ab7];rcases ab1.1 ht with h1|h1
  ·exact fc (by omega) (h t h1)
  ·simp at h1;subst h1;simp[Av.sc]
 ·by_cases h1:n<B.length
  ·obtain⟨k,hk⟩:=h n h1;exact⟨k,xm _ hs (by simpa[Av.sc]using h1) hk⟩
  ·have:n=B.length:=by simp at hn;omega
   subst this;exact⟨1,by simp only[ex,Dl]⟩
theorem pr.two (B:List IT):pr B (B++[.v B.length,.v (B.length+1)]):=by
 refine⟨by simp,fun n hn=>xl _ hn,fun n h1 h2=>H2 h1 (by simpa using h2),fun h t ht=>?_,fun hs h n hn=>?_⟩
 ·rw[ab7];rcases ab1.1 ht with h1|h1
  ·exact fc (by omega) (h t h1)
  ·simp at h1;rcases h1 with rfl|rfl<;>simp[Av.sc]
 ·by_cases h1:n<B.length
  ·obtain⟨k,hk⟩:=h n h1;exact⟨k,xm _ hs (by simpa[Av.sc]using h1) hk⟩
  ·have h2:n<B.length+2:=by simpa using hn
   exact⟨1,by simp only[ex,H2 (show B.length<=n by omega) h2]⟩
structure zZ (B:List IT):Prop where
 sc:sM B
 y4:FG B
theorem JQ {k:Nat} {B B':List IT} {a b:IT} {q:Bool} (hB:zZ B) (ha:sc B.length a=true) (hb:sc B.length b=true) (h:iU k B a b=some (B',q)):FG B':=by
 obtain⟨ka,Fc⟩:=hB.y4.all ha;obtain⟨j,B2,q2,h2,h3,_⟩:=y3 (nfree B) ka B a b (abV _) hB.sc hB.y4 ha hb Fc;have h4:=pq (abU k j) h;rw[pq (abT k j) h2]at h4;cases h4;exact h3
theorem kD {k:Nat} {B B':List IT} {a b:IT} (hB:zZ B) (ha:sc B.length a=true) (hb:sc B.length b=true) (h:j0 k B a b=some (some B')):zZ B'/\B'.length=B.length:=by
 simp only[j0]at h;split at h
 ·simp at h
 ·rename_i hu;simp at h;subst h;obtain⟨h1,h2⟩:=xj hB.sc ha hb hu;exact⟨⟨h1,JQ hB ha hb hu⟩,h2⟩
 ·simp at h
theorem hM {k j:Nat} {B:List IT} {a b:IT} {r:Option (List IT)} (hk:k<=j) (h:j0 k B a b=some r):j0 j B a b=some r:=by
 simp only[j0]at h⊢;split at h
 ·simp at h
 ·rename_i hu;rw[pq hk hu];exact h
 ·rename_i hu;rw[pq hk hu];exact h
theorem jj {B:List IT} {a b:IT} (hB:zZ B) (ha:sc B.length a=true) (hb:sc B.length b=true):∃k r,j0 k B a b=some r:=by
 obtain⟨ka,Fc⟩:=hB.y4.all ha;obtain⟨j,B2,q2,h2,_,_⟩:=y3 (nfree B) ka B a b (abV _) hB.sc hB.y4 ha hb Fc;refine⟨j,?_⟩;simp only[j0,h2];cases q2<;>exact⟨_,rfl⟩
structure UP (B B':List IT) (t:IT):Prop where
 ok:zZ B'
 le:B.length<=B'.length
 len:B'.length<=B.length+2
 KK:Av.sc B'.length t=true
theorem z6 {k:Nat} {kd:Int} {B B':List IT} {ts:List IT} {t:IT} (hB:zZ B) (b6:∀u∈ts,sc B.length u=true) (h:iI k kd B ts=some (some (B',t))):UP B B' t:=by
 have KL:zZ (B++[.v B.length,.v (B.length+1)]):=⟨(pr.two B).sc hB.sc,(pr.two B).y4 hB.sc hB.y4⟩;have rA:(B++[IT.v B.length,IT.v (B.length+1)]).length=B.length+2:=by simp
 have up:∀{u:IT},sc B.length u=true->sc (B++[IT.v B.length,IT.v (B.length+1)]).length u=true:=fun h=>fc (by omega) h
 simp only[iI]at h;split at h
 ·simp at h;obtain⟨rfl,rfl⟩:=h;exact⟨hB,abV _,by omega,rfl⟩
 split at h
 ·simp at h;obtain⟨rfl,rfl⟩:=h;exact⟨hB,abV _,by omega,rfl⟩
 split at h
 ·rename_i x;have hx:=b6 x (by simp);split at h
  ·simp only[aca]at h;obtain⟨r,h1,B2,rfl,h2⟩:=h;cases h2
   obtain⟨h3,h4⟩:=kD KL (up hx) (by simp[sc]) h1;exact⟨h3,by omega,by omega,by simp[sc];split<;>omega⟩
  ·simp at h
 ·rename_i x y;have hx:=b6 x (by simp);have hy:=b6 y (by simp);split at h
  ·simp at h;obtain⟨rfl,rfl⟩:=h;exact⟨hB,abV _,by omega,by simp[sc,hx,hy]⟩
  split at h
  ·simp only[aca]at h;obtain⟨r,h1,B2,rfl,h2⟩:=h;cases h2
   obtain⟨h3,h4⟩:=kD KL (up hx) (by have:=up hy;simp[sc]at this⊢;exact this) h1;exact⟨h3,by omega,by omega,by simp[sc];omega⟩
  split at h
  ·split at h
   ·rename_i B1 h1;obtain⟨h2,h3⟩:=kD hB hx rfl h1;simp only[aca]at h;obtain⟨r,h4,B2,rfl,h5⟩:=h;cases h5
    obtain⟨h6,h7⟩:=kD h2 (by rw[h3];exact hy) rfl h4;exact⟨h6,by omega,by omega,rfl⟩
   ·simp at h
   ·simp at h
  ·simp at h
 ·rename_i x y z;have hx:=b6 x (by simp);have hy:=b6 y (by simp);have hz:=b6 z (by simp);split at h
  ·split at h
   ·rename_i B1 h1;obtain⟨h2,h3⟩:=kD hB hx rfl h1;simp only[aca]at h;obtain⟨r,h4,B2,rfl,h5⟩:=h;cases h5
    obtain⟨h6,h7⟩:=kD h2 (by rw[h3];exact hy) (by rw[h3];exact hz) h4;exact⟨h6,by omega,by omega,by rw[h7,h3];exact hy⟩
   ·simp at h
   ·simp at h
  ·simp at h
 ·simp at h
theorem rk {kd:Int} {B:List IT} {ts:List IT} (hB:zZ B) (b6:∀u∈ts,sc B.length u=true):∃k r,iI k kd B ts=some r:=by
 have KL:zZ (B++[.v B.length,.v (B.length+1)]):=⟨(pr.two B).sc hB.sc,(pr.two B).y4 hB.sc hB.y4⟩;have rA:(B++[IT.v B.length,IT.v (B.length+1)]).length=B.length+2:=by simp
 have up:∀{u:IT},sc B.length u=true->sc (B++[IT.v B.length,IT.v (B.length+1)]).length u=true:=fun h=>fc (by omega) h
 simp only[iI];split
 ·exact⟨0,_,rfl⟩
 split
 ·exact⟨0,_,rfl⟩
 split
 ·rename_i x;have hx:=b6 x (by simp);split
  ·obtain⟨k,r,h⟩:=jj KL (up hx) (b:=.p 5 (.v B.length) (.v (B.length+1))) (by simp[sc]);exact⟨k,_,by rw[h];rfl⟩
  ·exact⟨0,_,rfl⟩
 ·rename_i x y;have hx:=b6 x (by simp);have hy:=b6 y (by simp);split
  ·exact⟨0,_,rfl⟩
  split
  ·obtain⟨k,r,h⟩:=jj KL (up hx) (b:=.p 4 y (.v B.length)) (by have:=up hy;simp[sc]at this⊢;exact this);exact⟨k,_,by rw[h];rfl⟩
  split
  ·obtain⟨k,r,h⟩:=jj hB hx (b:=.b 2) rfl;cases r with
   |none=>exact⟨k,none,by rw[h]⟩
   |some B1=>
    obtain⟨h2,h3⟩:=kD hB hx rfl h;obtain⟨j,r,h4⟩:=jj h2 (a:=y) (b:=.b 2) (by rw[h3];exact hy) rfl;exact⟨max k j,_,by rw[hM (abU k j) h];simp only;rw[hM (abT k j) h4];rfl⟩
  ·exact⟨0,_,rfl⟩
 ·rename_i x y z;have hx:=b6 x (by simp);have hy:=b6 y (by simp);have hz:=b6 z (by simp);split
  ·obtain⟨k,r,h⟩:=jj hB hx (b:=.b 3) rfl;cases r with
   |none=>exact⟨k,none,by rw[h]⟩
   |some B1=>
    obtain⟨h2,h3⟩:=kD hB hx rfl h;obtain⟨j,r,h4⟩:=jj h2 (a:=y) (b:=z) (by rw[h3];exact hy) (by rw[h3];exact hz);exact⟨max k j,_,by rw[hM (abU k j) h];simp only;rw[hM (abT k j) h4];rfl⟩
  ·exact⟨0,_,rfl⟩
 ·exact⟨0,_,rfl⟩
theorem p8 {k j:Nat} {kd:Int} {B:List IT} {ts:List IT} {r:Option (List IT×IT)} (hk:k<=j) (h:iI k kd B ts=some r):iI j kd B ts=some r:=by
 simp only[iI]at h⊢;split
 ·rename_i h1;rw[if_pos h1]at h;exact h
 rename_i h1;rw[if_neg h1]at h;split
 ·rename_i h2;rw[if_pos h2]at h;exact h
 rename_i h2;rw[if_neg h2]at h;split
 ·simp only at h;split
  ·rename_i h3;rw[if_pos h3]at h;simp only[aca]at h;obtain⟨q,h4,rfl⟩:=h;rw[hM hk h4];rfl
  ·rename_i h3;rw[if_neg h3]at h;exact h
 ·simp only at h;split
  ·rename_i h3;rw[if_pos h3]at h;exact h
  rename_i h3;rw[if_neg h3]at h;split
  ·rename_i h4;rw[if_pos h4]at h;simp only[aca]at h;obtain⟨q,h5,rfl⟩:=h;rw[hM hk h5];rfl
  rename_i h4;rw[if_neg h4]at h;split
  ·rename_i h5;rw[if_pos h5]at h;split at h
   ·rename_i B1 h6;rw[hM hk h6];simp only[aca]at h⊢;obtain⟨q,h7,h8⟩:=h;exact⟨q,hM hk h7,h8⟩
   ·simp at h
   ·rename_i h6;rw[hM hk h6];exact h
  ·rename_i h5;rw[if_neg h5]at h;exact h
 ·simp only at h;split
  ·rename_i h5;rw[if_pos h5]at h;split at h
   ·rename_i B1 h6;rw[hM hk h6];simp only[aca]at h⊢;obtain⟨q,h7,h8⟩:=h;exact⟨q,hM hk h7,h8⟩
   ·simp at h
   ·rename_i h6;rw[hM hk h6];exact h
  ·rename_i h5;rw[if_neg h5]at h;exact h
 ·rename_i h3 h4 h5
  match ts,h3,h4,h5,h with
  |[],_,_,_,h=>exact h
  |[_],h3,_,_,_=>exact absurd rfl (h3 _)
  |[_,_],_,h4,_,_=>exact absurd rfl (h4 _ _)
  |[_,_,_],_,_,h5,_=>exact absurd rfl (h5 _ _ _)
  |_::_::_::_::_,_,_,_,h=>exact h
theorem inf_le {k j:Nat} (hk:k<=j) {e:ak} (he:Ba e):∀{B ls:List IT} {ns:List UInt8} {ts:List IT} {r:Option (List IT×List IT×IT)},inf k e B ls ns ts=some r->inf j e B ls ns ts=some r:=by
 induction he with
 |var c=>intro B ls ns ts r h;rw[lR]at h⊢;exact h
 |num n=>intro B ls ns ts r h;rw[vF]at h⊢;exact h
 |vt=>intro B ls ns ts r h;rw[vG]at h⊢;exact h
 |vu=>intro B ls ns ts r h;rw[vH]at h⊢;exact h
 |lam _ ih=>
  intro B ls ns ts r h;rw[nL]at h⊢;simp only[aca]at h;obtain⟨q,h1,rfl⟩:=h;rw[ih h1];rfl
 |n1 kp _ ih=>
  intro B ls ns ts r h;rw[xk _ _ _ _ _ kp]at h⊢;split at h
  ·rename_i B1 ls1 t h1;rw[ih h1];simp only[aca]at h⊢;obtain⟨q,h2,h3⟩:=h;exact⟨q,p8 hk h2,h3⟩
  ·simp at h
  ·rename_i h1;rw[ih h1];exact h
 |n2 kp _ _ iha ihb=>
  intro B ls ns ts r h;rw[tO _ _ _ _ _ kp]at h⊢;split at h
  ·rename_i B1 ls1 t h1;rw[iha h1];simp only;split at h
   ·rename_i B2 ls2 u h2;rw[ihb h2];simp only[aca]at h⊢;obtain⟨q,h3,h4⟩:=h;exact⟨q,p8 hk h3,h4⟩
   ·simp at h
   ·rename_i h2;rw[ihb h2];exact h
  ·simp at h
  ·rename_i h1;rw[iha h1];exact h
 |ite _ _ _ iha ihb ihc=>
  intro B ls ns ts r h;rw[rj]at h⊢;split at h
  ·rename_i B1 ls1 t h1;rw[iha h1];simp only;split at h
   ·rename_i B2 ls2 u h2;rw[ihb h2];simp only;split at h
    ·rename_i B3 ls3 v h3;rw[ihc h3];simp only[aca]at h⊢;obtain⟨q,h4,h5⟩:=h;exact⟨q,p8 hk h4,h5⟩
    ·simp at h
    ·rename_i h3;rw[ihc h3];exact h
   ·simp at h
   ·rename_i h2;rw[ihb h2];exact h
  ·simp at h
  ·rename_i h1;rw[iha h1];exact h
structure S9 (e:ak) (B ls:List IT) (B' ls':List IT) (t:IT):Prop where
 ok:zZ B'
 le:B.length<=B'.length
 len:B'.length<=B.length+2*aQ e
 KK:Av.sc B'.length t=true
 OB:∃new,ls'=ls++new/\new.length=(aK e).length/\∀u∈new,Av.sc B'.length u=true
structure Dm (B:List IT) (ns:List UInt8) (ts:List IT):Prop where
 len:ts.length=ns.length
 IJ:∀u∈ts,Av.sc B.length u=true
theorem Dm.le {B C:List IT} {ns:List UInt8} {ts:List IT} (h:Dm B ns ts) (hl:B.length<=C.length):Dm C ns ts:=⟨h.len,fun u hu=>fc hl (h.IJ u hu)⟩
theorem pw {k:Nat} {e:ak} (he:Ba e):∀{B ls B' ls':List IT} {ns:List UInt8} {ts:List IT} {t:IT},zZ B->Dm B ns ts->inf k e B ls ns ts=some (some (B',ls',t))->S9 e B ls B' ls' t:=by
 induction he with
 |var c=>
  intro B ls B' ls' ns ts t hB hc h;rw[lR]at h;simp only[Option.some.injEq]at h;split at h
  ·simp only[aca]at h;obtain⟨u,h1,h2⟩:=h;cases h2
   exact⟨hB,abV _,by omega,hc.IJ _ (ab2 h1),[],by simp,by simp[aK,aC,bI],by simp⟩
  ·simp at h
 |num n=>intro B ls B' ls' ns ts t hB hc h;rw[vF]at h;cases h;exact⟨hB,abV _,by omega,rfl,[],by simp,by simp[aK,aC,bI],by simp⟩
 |vt=>intro B ls B' ls' ns ts t hB hc h;rw[vG]at h;cases h;exact⟨hB,abV _,by omega,rfl,[],by simp,by simp[aK,aC,bI],by simp⟩
 |vu=>intro B ls B' ls' ns ts t hB hc h;rw[vH]at h;cases h;exact⟨hB,abV _,by omega,rfl,[],by simp,by simp[aK,aC,bI],by simp⟩
 | @lam c ty b _ ih=>
  intro B ls B' ls' ns ts t hB hc h;rw[nL]at h;simp only[aca]at h;obtain⟨q,h1,r,rfl,h2⟩:=h;obtain⟨B1,ls1,u⟩:=r;cases h2
  dsimp only;have hN:=pr.one B;have hl:(B++[IT.v B.length]).length=B.length+1:=by simp
  obtain⟨g1,g2,g3,g4,new,rfl,g5,g6⟩:=ih ⟨hN.sc hB.sc,hN.y4 hB.sc hB.y4⟩ ⟨by simp[hc.len],fun u hu=>by
   rcases ab1.1 hu with q|q
   ·exact fc hN.le (hc.IJ u q)
   ·simp at q;subst q;simp[sc]⟩ h1
  refine⟨g1,by omega,by simp[aQ,bf];omega,by simp[sc,g4];omega,.v B.length::new,by simp,by simp[aK,aC,bI,g5],fun u hu=>?_⟩;rcases ab3.1 hu with rfl|q
  ·simp[sc];omega
  ·exact g6 u q
 | @n1 kd a kp _ ih=>
  intro B ls B' ls' ns ts t hB hc h;rw[xk _ _ _ _ _ kp]at h;split at h
  ·rename_i B1 ls1 u h1;obtain⟨g1,g2,g3,g4,new,rfl,g5,g6⟩:=ih hB hc h1;simp only[aca]at h;obtain⟨q,h2,r,rfl,h3⟩:=h;obtain⟨B2,w⟩:=r;cases h3
   dsimp only;obtain⟨k1,k2,k3,k4⟩:=z6 g1 (by simpa using g4) h2;have h5:bI kd=false:=by rcases kp with rfl|rfl<;>rfl
   exact⟨k1,by omega,by simp[aQ,bf];omega,k4,new,rfl,by simp[aK,aC,h5,g5],fun u hu=>fc k2 (g6 u hu)⟩
  ·simp at h
  ·simp at h
 | @n2 kd a b kp _ _ iha ihb=>
  intro B ls B' ls' ns ts t hB hc h;rw[tO _ _ _ _ _ kp]at h;split at h
  ·rename_i B1 ls1 u h1;obtain⟨g1,g2,g3,g4,new,rfl,g5,g6⟩:=iha hB hc h1;split at h
   ·rename_i B2 ls2 v h2;obtain⟨p1,p2,p3,p4,FI,rfl,p5,p6⟩:=ihb g1 (hc.le g2) h2;simp only[aca]at h;obtain⟨q,h2,r,rfl,h3⟩:=h;obtain⟨B3,w⟩:=r;cases h3
    dsimp only;obtain⟨k1,k2,k3,k4⟩:=z6 p1 (by simp;exact⟨fc p2 g4,p4⟩) h2;have h5:bI kd=false:=by rcases kp with rfl|rfl|rfl|rfl<;>rfl
    refine⟨k1,by omega,by simp[aQ,bf];omega,k4,new++FI,by simp,by simp[aK,aC,h5,g5,p5],fun u hu=>?_⟩;rcases ab1.1 hu with q|q
    ·exact fc (by omega) (g6 u q)
    ·exact fc k2 (p6 u q)
   ·simp at h
   ·simp at h
  ·simp at h
  ·simp at h
 | @ite a b c _ _ _ iha ihb ihc=>
  intro B ls B' ls' ns ts t hB hc h;rw[rj]at h;split at h
  ·rename_i B1 ls1 u h1;obtain⟨g1,g2,g3,g4,new,rfl,g5,g6⟩:=iha hB hc h1;split at h
   ·rename_i B2 ls2 v h2;obtain⟨p1,p2,p3,p4,FI,rfl,p5,p6⟩:=ihb g1 (hc.le g2) h2;split at h
    ·rename_i B3 ls3 w h3;obtain⟨r1,r2,r3,r4,new3,rfl,r5,r6⟩:=ihc p1 (hc.le (by omega)) h3;simp only[aca]at h;obtain⟨q,h2,r,rfl,h3⟩:=h;obtain⟨B4,w⟩:=r;cases h3
     dsimp only;obtain⟨k1,k2,k3,k4⟩:=z6 r1 (by simp;exact⟨fc (by omega) g4,fc r2 p4,r4⟩) h2;refine⟨k1,by omega,by simp[aQ,bf];omega,k4,new++FI++new3,by simp,by simp[aK,aC,bI,g5,p5,r5],fun u hu=>?_⟩;rcases ab1.1 hu with q|q
     ·rcases ab1.1 q with q|q
      ·exact fc (by omega) (g6 u q)
      ·exact fc (by omega) (p6 u q)
     ·exact fc k2 (r6 u q)
    ·simp at h
    ·simp at h
   ·simp at h
   ·simp at h
  ·simp at h
  ·simp at h
theorem FJ {e:ak} (he:Ba e):∀{B ls:List IT} {ns:List UInt8} {ts:List IT},zZ B->Dm B ns ts->∃k r,inf k e B ls ns ts=some r:=by
 induction he with
 |var c=>intro B ls ns ts hB hc;exact⟨0,_,lR _ _ _ _ _ _⟩
 |num n=>intro B ls ns ts hB hc;exact⟨0,_,vF _ _ _ _ _ _⟩
 |vt=>intro B ls ns ts hB hc;exact⟨0,_,vG _ _ _ _ _⟩
 |vu=>intro B ls ns ts hB hc;exact⟨0,_,vH _ _ _ _ _⟩
 | @lam c ty b _ ih=>
  intro B ls ns ts hB hc;have hN:=pr.one B;obtain⟨k,r,h⟩:=ih (B:=B++[.v B.length]) (ls:=ls++[.v B.length]) (ns:=ns++[c]) (ts:=ts++[.v B.length]) ⟨hN.sc hB.sc,hN.y4 hB.sc hB.y4⟩ ⟨by simp[hc.len],fun u hu=>by
   rcases ab1.1 hu with q|q
   ·exact fc hN.le (hc.IJ u q)
   ·simp at q;subst q;simp[sc]⟩
  exact⟨k,_,by rw[nL,h];rfl⟩
 | @n1 kd a kp ha ih=>
  intro B ls ns ts hB hc;obtain⟨k,r,h⟩:=ih hB hc (ls:=ls);cases r with
  |none=>exact⟨k,none,by rw[xk _ _ _ _ _ kp,h]⟩
  |some r=>
   obtain⟨B1,ls1,u⟩:=r;have g:=pw ha hB hc h;obtain⟨j,r,h2⟩:=rk (kd:=kd) g.ok (ts:=[u]) (by simpa using g.KK);exact⟨max k j,_,by rw[xk _ _ _ _ _ kp,inf_le (abU k j) ha h];simp only;rw[p8 (abT k j) h2];rfl⟩
 | @n2 kd a b kp ha hb iha ihb=>
  intro B ls ns ts hB hc;obtain⟨k,r,h⟩:=iha hB hc (ls:=ls);cases r with
  |none=>exact⟨k,none,by rw[tO _ _ _ _ _ kp,h]⟩
  |some r=>
   obtain⟨B1,ls1,u⟩:=r;have g:=pw ha hB hc h;obtain⟨j,r,h2⟩:=ihb g.ok (hc.le g.le) (ls:=ls1);cases r with
   |none=>exact⟨max k j,none,by rw[tO _ _ _ _ _ kp,inf_le (abU k j) ha h];simp only;rw[inf_le (abT k j) hb h2]⟩
   |some r=>
    obtain⟨B2,ls2,v⟩:=r;have g2:=pw hb g.ok (hc.le g.le) h2;obtain⟨i,r,h3⟩:=rk (kd:=kd) g2.ok (ts:=[u,v]) (by simp;exact⟨fc g2.le g.KK,g2.KK⟩);exact⟨max (max k j) i,_,by rw[tO _ _ _ _ _ kp,inf_le (by omega) ha h];simp only;rw[inf_le (by omega) hb h2];simp only;rw[p8 (abT _ _) h3];rfl⟩
 | @ite a b c ha hb vd iha ihb ihc=>
  intro B ls ns ts hB hc;obtain⟨k,r,h⟩:=iha hB hc (ls:=ls);cases r with
  |none=>exact⟨k,none,by rw[rj,h]⟩
  |some r=>
   obtain⟨B1,ls1,u⟩:=r;have g:=pw ha hB hc h;obtain⟨j,r,h2⟩:=ihb g.ok (hc.le g.le) (ls:=ls1);cases r with
   |none=>exact⟨max k j,none,by rw[rj,inf_le (abU k j) ha h];simp only;rw[inf_le (abT k j) hb h2]⟩
   |some r=>
    obtain⟨B2,ls2,v⟩:=r;have g2:=pw hb g.ok (hc.le g.le) h2;obtain⟨i,r,h3⟩:=ihc g2.ok ((hc.le g.le).le g2.le) (ls:=ls2);cases r with
    |none=>exact⟨max (max k j) i,none,by rw[rj,inf_le (by omega) ha h];simp only;rw[inf_le (by omega) hb h2];simp only;rw[inf_le (by omega) vd h3]⟩
    |some r=>
     obtain⟨B3,ls3,w⟩:=r;have g3:=pw vd g2.ok ((hc.le g.le).le g2.le) h3;obtain⟨m,r,h4⟩:=rk (kd:=9) g3.ok (ts:=[u,v,w]) (by simp;exact⟨fc (Nat.le_trans g2.le g3.le) g.KK,fc g3.le g2.KK,g3.KK⟩);exact⟨max (max (max k j) i) m,_,by rw[rj,inf_le (by omega) ha h];simp only;rw[inf_le (by omega) hb h2];simp only;rw[inf_le (by omega) vd h3];simp only;rw[p8 (abT _ _) h4];rfl⟩
theorem Rv {α:Type} {l:List α} (h:l.length=2):∃x y,l=[x,y]:=by
 match l,h with
 |[x,y],_=>exact⟨x,y,rfl⟩
theorem Rw {α:Type} {l:List α} (h:l.length=3):∃x y z,l=[x,y,z]:=by
 match l,h with
 |[x,y,z],_=>exact⟨x,y,z,rfl⟩
def JR (k:Int):Option (aF×aF)->aF
 |none=>.mk k []
 |some (x,y)=>.mk k [x,y]
abbrev IK:=FH JR
abbrev L7:=Sat JR
def Rx (θ:Nat->aF) (ns:List UInt8) (ts:List IT):List dI:=List.zipWith (fun c t=>⟨[c],IK θ t⟩) ns ts
theorem xn (s:List UInt8) (t:aF) (b:ak):aK (rY s t b)=t::aK b:=by simp[aK,aC,bI]
theorem y5 {k:Int} (hk:k=11\/k=12) (a:ak):aK (Gc k a)=aK a:=by rcases hk with rfl|rfl<;>simp[aK,aC,bI]
theorem y6 {k:Int} (hk:k=6\/k=7\/k=8\/k=10) (a b:ak):aK (Cn k a b)=aK a++aK b:=by rcases hk with rfl|rfl|rfl|rfl<;>simp[aK,aC,bI]
theorem y7 (a b c:ak):aK (G9 a b c)=aK a++(aK b++aK c):=by simp[aK,aC,bI]
def Ry (kd:Int) (ts:List aF) (t:aF):Prop:=
 (kd=2/\t=bp)\/((kd=3\/kd=4)/\t=cx)\/(∃x,ts=[.mk 5 [t,x]]/\kd=11)\/(∃x,ts=[.mk 5 [x,t]]/\kd=12)\/(∃x y,ts=[x,y]/\kd=10/\t=.mk 5 [x,y])\/(∃y,ts=[.mk 4 [y,t],y]/\kd=6)\/
  (ts=[bp,bp]/\kd=7/\t=bp)\/(ts=[bp,bp]/\kd=8/\t=cx)\/(ts=[cx,t,t]/\kd=9)
mutual
theorem FK:∀t:aF,bC t t=t
 |.mk k l=>by
  simp only[bC];split
  ·rfl
  ·first
   |rw[rl l]
   |(split;rfl;rw[rl l])
theorem rl:∀l:List aF,jx l l=l
 |[]=>rfl
 |t::r=>by rw[jx,FK t,rl r]
end
mutual
theorem FL:∀t:aF,aD t t=true
 |.mk k l=>by
  simp only[aD];simp[xo l]
theorem xo:∀l:List aF,pM l l=true
 |[]=>rfl
 |t::r=>by simp[pM,FL t,xo r]
end
inductive DL:aF->aF->Prop
 |int (b:aF):DL bp b
 |base (k:Int):DL (.mk k []) (.mk k [])
 |two {k:Int} {a b a' b':aF}:DL a a'->DL b b'->DL (.mk k [a,b]) (.mk k [a',b'])
def gJ:IT->Prop
 |.v _=>True
 |.b k=>k=2\/k=3
 |.p k x y=>(k=4\/k=5)/\gJ x/\gJ y
structure VL (θ:Nat->aF) (B ls:List IT) (ns:List UInt8) (ts:List IT) (e:ak) (T:aF):Prop where
 VM:vg T=0
 ex:∃k B' new t θ',inf k e B ls ns ts=some (some (B',ls++new,t))/\L7 θ' B'/\(∀n,n<B.length->θ' n=θ n)/\IK θ' t=T/\(∀u∈new,al 4 (IK θ' u)=true)/\
  ∀θ0,L7 θ0 B'->(∀n,n<B'.length->DL (θ0 n) (θ' n))->eQ (Rx θ0 ns ts) (cq e (new.map (IK θ0)))=some (IK θ0 t)
def UQ (c:List dI):Prop:=∀b∈c,al 4 b.ty=true/\vg b.ty=0
def eO (B:List IT) (K:Nat):Nat->IT->Option aF
 |0,_=>none
 |d+1,t=>match hd B K t with
  |.v _=>some bp
  |.b k=>some (.mk k [])
  |.p k x y=>match eO B K d x with
   |none=>none
   |some X=>match eO B K d y with
    |none=>none
    |some Y=>some (.mk k [X,Y])
def l3 (B:List IT) (K:Nat):List IT->Option (List aF)
 |[]=>some []
 |t::r=>match eO B K 4 t with
  |none=>none
  |some T=>match l3 B K r with
   |none=>none
   |some Ts=>some (T::Ts)
def kE (B:List IT):Prop:=∀t∈B,gJ t
theorem KM {B:List IT} (h:kE B) {n:Nat} {t:IT} (hb:bd B n=some t):gJ t:=h t (ab2 (vE hb).1)
theorem px {B:List IT} (h:kE B):∀{k:Nat} {t:IT},gJ t->gJ (hd B k t)
 |0,t,ht=>by cases t<;>exact ht
 |k+1,.v n,ht=>by
  simp only[hd];split<;>rename_i hb
  ·exact ht
  ·exact px h (KM h hb)
 |k+1,.b _,ht=>ht
 |k+1,.p _ _ _,ht=>ht
theorem kE.set {B:List IT} (h:kE B) {n:Nat} {t:IT} (ht:gJ t):kE (B.set n t):=by
 intro u hu;rcases ab6 hu with h1|rfl
 ·exact h u h1
 ·exact ht
theorem l4:∀{k:Nat} {B B':List IT} {a b:IT} {q:Bool},kE B->gJ a->gJ b->iU k B a b=some (B',q)->kE B'
 |0,B,B',a,b,q,_,_,_,h=>by simp[iU]at h
 |k+1,B,B',a,b,q,hB,ha,hb,h=>by
  rw[iU]at h;split at h
  ·have tM:=px hB (k:=k) ha;have eI:=px hB (k:=k) hb;generalize hd B k a=a' at*;generalize hd B k b=b' at*
   match a',b',h with
   |.v n,b',h=>
    simp only at h;split at h
    ·simp at h;obtain⟨rfl,_⟩:=h;exact hB
    ·split at h
     ·simp at h;obtain⟨rfl,_⟩:=h;exact hB
     ·simp at h;obtain⟨rfl,_⟩:=h;exact hB.set eI
   |.b _,.v n,h=>
    simp only at h;split at h
    ·simp at h;obtain⟨rfl,_⟩:=h;exact hB
    ·simp at h;obtain⟨rfl,_⟩:=h;exact hB.set tM
   |.p _ _ _,.v n,h=>
    simp only at h;split at h
    ·simp at h;obtain⟨rfl,_⟩:=h;exact hB
    ·simp at h;obtain⟨rfl,_⟩:=h;exact hB.set tM
   |.b _,.b _,h=>simp at h;obtain⟨rfl,_⟩:=h;exact hB
   |.b _,.p _ _ _,h=>simp at h;obtain⟨rfl,_⟩:=h;exact hB
   |.p _ _ _,.b _,h=>simp at h;obtain⟨rfl,_⟩:=h;exact hB
   |.p i x y,.p j x' y',h=>
    simp only at h;split at h
    ·cases hu:iU k B x x' with
     |none=>rw[hu]at h;simp at h
     |some r=>
      obtain⟨B1,q1⟩:=r;rw[hu]at h;have h1:=l4 hB tM.2.1 eI.2.1 hu;cases q1
      ·simp at h;obtain⟨rfl,_⟩:=h;exact h1
      ·exact l4 h1 tM.2.2 eI.2.2 h
    ·simp at h;obtain⟨rfl,_⟩:=h;exact hB
  ·simp at h
theorem p9 {k:Nat} {B B':List IT} {a b:IT} (hB:kE B) (ha:gJ a) (hb:gJ b) (h:j0 k B a b=some (some B')):kE B':=by
 simp only[j0]at h;split at h
 ·simp at h
 ·rename_i hu;simp at h;subst h;exact l4 hB ha hb hu
 ·simp at h
theorem kE.app {B C:List IT} (h:kE B) (hC:kE C):kE (B++C):=by
 intro t ht;rcases ab1.1 ht with q|q
 ·exact h t q
 ·exact hC t q
theorem JS (l:List Nat):kE (l.map IT.v):=by
 intro t ht;obtain⟨n,_,rfl⟩:=List.mem_map.1 ht;trivial
theorem z7 {k:Nat} {kd:Int} {B B':List IT} {ts:List IT} {t:IT} (hB:kE B) (b6:∀u∈ts,gJ u) (h:iI k kd B ts=some (some (B',t))):kE B'/\gJ t:=by
 have KL:kE (B++[.v B.length,.v (B.length+1)]):=hB.app (JS [_,_]);simp only[iI]at h;split at h
 ·simp at h;obtain⟨rfl,rfl⟩:=h;exact⟨hB,.inl rfl⟩
 split at h
 ·simp at h;obtain⟨rfl,rfl⟩:=h;exact⟨hB,.inr rfl⟩
 split at h
 ·rename_i x;have hx:=b6 x (by simp);split at h
  ·simp only[aca]at h;obtain⟨r,h1,B2,rfl,h2⟩:=h;cases h2
   exact⟨p9 KL hx (show gJ (.p 5 (.v _) (.v _))from⟨.inr rfl,trivial,trivial⟩) h1,trivial⟩
  ·simp at h
 ·rename_i x y;have hx:=b6 x (by simp);have hy:=b6 y (by simp);split at h
  ·simp at h;obtain⟨rfl,rfl⟩:=h;exact⟨hB,.inr rfl,hx,hy⟩
  split at h
  ·simp only[aca]at h;obtain⟨r,h1,B2,rfl,h2⟩:=h;cases h2
   exact⟨p9 KL hx (show gJ (.p 4 y (.v _))from⟨.inl rfl,hy,trivial⟩) h1,trivial⟩
  split at h
  ·split at h
   ·rename_i B1 h1;simp only[aca]at h;obtain⟨r,h4,B2,rfl,h5⟩:=h;cases h5
    refine⟨p9 (p9 hB hx (show gJ (.b 2)from .inl rfl) h1) hy (show gJ (.b 2)from .inl rfl) h4,?_⟩;simp only[gJ];split<;>omega
   ·simp at h
   ·simp at h
  ·simp at h
 ·rename_i x y z;have hx:=b6 x (by simp);have hy:=b6 y (by simp);have hz:=b6 z (by simp);split at h
  ·split at h
   ·rename_i B1 h1;simp only[aca]at h;obtain⟨r,h4,B2,rfl,h5⟩:=h;cases h5
    exact⟨p9 (p9 hB hx (show gJ (.b 3)from .inr rfl) h1) hy hz h4,hy⟩
   ·simp at h
   ·simp at h
  ·simp at h
 ·simp at h
theorem H3 {k:Nat} {e:ak} (he:Ba e):∀{B ls B' ls':List IT} {ns:List UInt8} {ts:List IT} {t:IT},kE B->kE ls->kE ts->inf k e B ls ns ts=some (some (B',ls',t))->kE B'/\kE ls'/\gJ t:=by
 induction he with
 |var c=>
  intro B ls B' ls' ns ts t hB hl hc h;rw[lR]at h;simp only[Option.some.injEq]at h;split at h
  ·simp only[aca]at h;obtain⟨u,h1,h2⟩:=h;cases h2
   exact⟨hB,hl,hc _ (ab2 h1)⟩
  ·simp at h
 |num n=>intro B ls B' ls' ns ts t hB hl hc h;rw[vF]at h;cases h;exact⟨hB,hl,.inl rfl⟩
 |vt=>intro B ls B' ls' ns ts t hB hl hc h;rw[vG]at h;cases h;exact⟨hB,hl,.inr rfl⟩
 |vu=>intro B ls B' ls' ns ts t hB hl hc h;rw[vH]at h;cases h;exact⟨hB,hl,.inr rfl⟩
 | @lam c ty b _ ih=>
  intro B ls B' ls' ns ts t hB hl hc h;rw[nL]at h;simp only[aca]at h;obtain⟨q,h1,r,rfl,h2⟩:=h;cases h2
  obtain⟨g1,g2,g3⟩:=ih (hB.app (JS [_])) (hl.app (JS [_])) (hc.app (JS [_])) h1;exact⟨g1,g2,.inl rfl,trivial,g3⟩
 | @n1 kd a kp ha ih=>
  intro B ls B' ls' ns ts t hB hl hc h;rw[xk _ _ _ _ _ kp]at h;split at h
  ·rename_i B1 ls1 u h1;obtain⟨g1,g2,g3⟩:=ih hB hl hc h1;simp only[aca]at h;obtain⟨q,h2,r,rfl,h3⟩:=h;obtain⟨B2,w⟩:=r;cases h3
   obtain⟨k1,k2⟩:=z7 g1 (by simpa using g3) h2;exact⟨k1,g2,k2⟩
  ·simp at h
  ·simp at h
 | @n2 kd a b kp ha hb iha ihb=>
  intro B ls B' ls' ns ts t hB hl hc h;rw[tO _ _ _ _ _ kp]at h;split at h
  ·rename_i B1 ls1 u h1;obtain⟨g1,g2,g3⟩:=iha hB hl hc h1;split at h
   ·rename_i B2 ls2 v h2;obtain⟨p1,p2,p3⟩:=ihb g1 g2 hc h2;simp only[aca]at h;obtain⟨q,h3,r,rfl,h4⟩:=h;obtain⟨B3,w⟩:=r;cases h4
    obtain⟨k1,k2⟩:=z7 p1 (by simp;exact⟨g3,p3⟩) h3;exact⟨k1,p2,k2⟩
   ·simp at h
   ·simp at h
  ·simp at h
  ·simp at h
 | @ite a b c ha hb vd iha ihb ihc=>
  intro B ls B' ls' ns ts t hB hl hc h;rw[rj]at h;split at h
  ·rename_i B1 ls1 u h1;obtain⟨g1,g2,g3⟩:=iha hB hl hc h1;split at h
   ·rename_i B2 ls2 v h2;obtain⟨p1,p2,p3⟩:=ihb g1 g2 hc h2;split at h
    ·rename_i B3 ls3 w h3;obtain⟨r1,r2,r3⟩:=ihc p1 p2 hc h3;simp only[aca]at h;obtain⟨q,h4,r,rfl,h5⟩:=h;obtain⟨B4,w⟩:=r;cases h5
     obtain⟨k1,k2⟩:=z7 r1 (by simp;exact⟨g3,p3,r3⟩) h4;exact⟨k1,r2,k2⟩
    ·simp at h
    ·simp at h
   ·simp at h
   ·simp at h
  ·simp at h
  ·simp at h
def Dn (B:List IT):Nat->IT->aF
 |k+1,.v n=>match bd B n with
  |none=>bp
  |some t=>Dn B k t
 |0,.v _=>bp
 |_,.b k=>.mk k []
 |0,.p _ _ _=>bp
 |j+1,.p k x y=>.mk k [Dn B j x,Dn B j y]
theorem lg {B:List IT}:∀{k j:Nat} {t:IT},ex B k t=true->k<=j->Dn B j t=Dn B k t
 |0,j,t,h,_=>by simp[ex]at h
 |k+1,j+1,.v m,h,hj=>by
  simp only[ex]at h;simp only[Dn];split<;>rename_i hb
  ·rfl
  ·rw[hb]at h;exact lg h (by omega)
 |k+1,j+1,.b _,_,_=>rfl
 |k+1,j+1,.p _ x y,h,hj=>by
  rw[ex,abS]at h;simp only[Dn,lg h.1 (show k<=j by omega),lg h.2 (show k<=j by omega)]
theorem H4 {B:List IT} (h:FG B):∃K,∀n,n<B.length->ex B K (.v n)=true:=by
 have:∀m,m<=B.length->∃K,∀n,n<m->ex B K (.v n)=true:=by
  intro m;induction m with
  |zero=>intro _;exact⟨0,fun n hn=>by omega⟩
  |succ m ih=>
   intro hm;obtain⟨K1,h1⟩:=ih (by omega);obtain⟨K2,h2⟩:=h m (by omega);refine⟨max K1 K2,fun n hn=>?_⟩;by_cases e:n=m
   ·subst e;exact nW (abT _ _) h2
   ·exact nW (abU _ _) (h1 n (by omega))
 exact this B.length (abV _)
def Fuel (B:List IT) (K:Nat):Prop:=∀n,n<B.length->ex B K (.v n)=true
def Gk (B:List IT) (K:Nat) (n:Nat):aF:=Dn B K (.v n)
theorem Dp {B:List IT} {K:Nat} (hB:sM B) (hK:Fuel B K):∀{t:IT} {j:Nat},sc B.length t=true->ex B j t=true->IK (Gk B K) t=Dn B j t
 |.v n,j,hs,hx=>by
  have hn:n<B.length:=by simpa[sc]using hs
  show Dn B K (.v n)=_;rw[<-lg (hK n hn) (abU K j),<-lg hx (abT K j)]
 |.b k,j+1,_,_=>rfl
 |.b k,0,_,hx=>by simp[ex]at hx
 |.p k x y,j+1,hs,hx=>by
  rw[sc,abS]at hs;rw[ex,abS]at hx;simp only[FH,JR,Dn];rw[show FH JR (Gk B K) x=_ from Dp hB hK hs.1 hx.1,show FH JR (Gk B K) y=_ from Dp hB hK hs.2 hx.2]
 |.p k x y,0,_,hx=>by simp[ex]at hx
theorem JT {B:List IT} {K:Nat} (hB:sM B) (hK:Fuel B K):L7 (Gk B K) B:=by
 intro n t hb;have hn:n<B.length:=(List.getElem?_eq_some_iff.1 (vE hb).1).1;have hx:=hK n hn;cases K with
 |zero=>simp[ex]at hx
 |succ K=>
  simp only[ex,hb]at hx;rw[show FH JR (Gk B (K+1)) t=_ from Dp hB hK (Eo hB hb) hx];show Dn B (K+1) (.v n)=_;simp only[Dn,hb]
theorem H5 {B:List IT} {K n:Nat} (hf:bd B n=none):Gk B K n=bp:=by
 show Dn B K (.v n)=_;cases K with
 |zero=>rfl
 |succ K=>simp only[Dn,hf]
theorem rm {B:List IT} {K:Nat} (hK:Fuel B K):∀{t:IT},sc B.length t=true->∃j,ex B j t=true
 |.v n,hs=>⟨K,hK n (by simpa[sc]using hs)⟩
 |.b _,_=>⟨1,rfl⟩
 |.p c x y,ht=>by
  rw[sc,abS]at ht;obtain⟨k1,h1⟩:=rm hK ht.1;obtain⟨k2,h2⟩:=rm hK ht.2;exact⟨max k1 k2+1,by rw[ex,abS];exact⟨nW (abU _ _) h1,nW (abT _ _) h2⟩⟩
theorem z8 {B:List IT} {K:Nat} (hK:Fuel B K):∀{t:IT},sc B.length t=true->JN B (hd B K t)
 |.v n,hs=>jD (hK n (by simpa[sc]using hs))
 |.b _,_=>by intro n e;cases K<;>simp[hd]at e
 |.p _ _ _,_=>by intro n e;cases K<;>simp[hd]at e
theorem tP {B:List IT} {K:Nat} (hB:sM B) (nY:kE B) (hK:Fuel B K):∀{d:Nat} {t:IT} {T:aF},sc B.length t=true->gJ t->eO B K d t=some T->T=IK (Gk B K) t/\al d T=true/\vg T=0
 |0,t,T,_,_,h=>by simp[eO]at h
 |d+1,t,T,hs,hk,h=>by
  have h1:IK (Gk B K) (hd B K t)=IK (Gk B K) t:=KJ (JT hB hK);have h2:=z8 hK hs;have h3:=nX hB (k:=K) hs;have h4:=px nY (k:=K) hk;simp only[eO]at h;generalize hd B K t=u at*;cases u with
  |v n=>
   simp at h;subst h;exact⟨by rw[<-h1];exact(H5 (h2 n rfl)).symm,(nw.int d).shape,rfl⟩
  |b k=>
   simp at h;subst h;refine⟨by rw[<-h1];rfl,?_⟩;rcases h4 with rfl|rfl
   ·exact⟨(nw.int d).shape,rfl⟩
   ·exact⟨(nw.bool d).shape,rfl⟩
  |p k x y=>
   rw[sc,abS]at h3;simp only at h;split at h
   ·simp at h
   ·rename_i X hX;split at h
    ·simp at h
    ·rename_i Y hY;simp at h;subst h;obtain⟨a1,a2,a3⟩:=tP hB nY hK h3.1 h4.2.1 hX;obtain⟨b1,b2,b3⟩:=tP hB nY hK h3.2 h4.2.2 hY;refine⟨by rw[<-h1];simp only[FH,JR];rw[show FH JR (Gk B K) x=X from a1.symm,show FH JR (Gk B K) y=Y from b1.symm],?_⟩;rcases h4.1 with rfl|rfl
     ·exact⟨(nw.fn (nw.of a2) (nw.of b2)).shape,by rw[Ed (by omega)];omega⟩
     ·exact⟨(nw.pair (nw.of a2) (nw.of b2)).shape,by rw[Ed (by omega)];omega⟩
theorem tQ {B:List IT} {K:Nat} (hB:sM B) (nY:kE B) (hK:Fuel B K):∀{l:List IT} {Ts:List aF},(∀t∈l,sc B.length t=true)->kE l->l3 B K l=some Ts->Ts=l.map (IK (Gk B K))/\∀T∈Ts,al 4 T=true/\vg T=0
 |[],Ts,_,_,h=>by simp[l3]at h;subst h;simp
 |t::r,Ts,hs,hk,h=>by
  simp only[l3]at h;split at h
  ·simp at h
  ·rename_i T hT;split at h
   ·simp at h
   ·rename_i R hR;simp at h;subst h;obtain⟨a1,a2⟩:=tP hB nY hK (hs t (by simp)) (hk t (by simp)) hT;obtain⟨b1,b2⟩:=tQ hB nY hK (fun u hu=>hs u (by simp[hu])) (fun u hu=>hk u (by simp[hu])) hR;refine⟨by rw[List.map_cons,<-a1,<-b1],fun U hU=>?_⟩;rcases ab3.1 hU with rfl|q
    ·exact a2
    ·exact b2 U q
structure Whole (e:ak) (k:Nat) (B ls:List IT) (t:IT):Prop where
 ba:Ba e
 inf:Av.inf k e [] [] [] []=some (some (B,ls,t))
theorem Aa:zZ []:=⟨fun t h=>(by cases h),fun n h=>(by simp at h)⟩
theorem xq:Dm [] [] []:=⟨rfl,fun u h=>(by cases h)⟩
theorem Whole.ok {e:ak} {k:Nat} {B ls:List IT} {t:IT} (h:Whole e k B ls t):S9 e [] [] B ls t/\kE B/\kE ls/\gJ t/\ls.length=(aK e).length/\(∀u∈ls,sc B.length u=true)/\B.length<=2*aQ e:=by
 have h1:=pw h.ba Aa xq h.inf;obtain⟨h2,h3,h4⟩:=H3 h.ba (B:=[]) (ls:=[]) (ts:=[]) (fun t h=>(by cases h)) (fun t h=>(by cases h)) (fun t h=>(by cases h)) h.inf;obtain⟨new,h5,h6,h7⟩:=h1.OB;rw[List.nil_append]at h5;subst h5;exact⟨h1,h2,h3,h4,h6,h7,by have:=h1.len;simpa using this⟩
def L8 (B:List IT):Nat->IT->Nat
 |k+1,.v n=>match bd B n with
  |none=>1
  |some t=>L8 B k t
 |k+1,.p _ x y=>1+L8 B k x+L8 B k y
 |_,_=>1
def OC (n:Nat):List Nat->Nat
 |[]=>0
 |x::r=>if x=n then 0 else OC n r+1
def Rz (i:Nat):UInt8:=UInt8.ofNat (97+i)
def JU (B:List IT):Nat->IT->List Nat->List UInt8×List Nat
 |k+1,.v n,seen=>match bd B n with
  |none=>([Rz (OC n seen)],if n∈seen then seen else seen++[n])
  |some t=>JU B k t seen
 |k+1,.p c x y,seen=>(40::((JU B k x seen).1++Eb c::((JU B k y (JU B k x seen).2).1++[41])),(JU B k y (JU B k x seen).2).2)
 |_,.b c,seen=>([Eb c],seen)
 |0,_,seen=>([],seen)
def Ta (c:UInt8):UInt8:=if 97<=c.toNat/\c.toNat<=122 then 73 else c
def IT.kind:IT->Int
 |.v _=>0
 |.b k=>k
 |.p k _ _=>k
def IT.name:IT->Nat
 |.v n=>n
 |_=>0
def IT.kids:IT->List IT
 |.p _ x y=>[x,y]
 |_=>[]
section
variable (n:Nat) (k:Int) (x y:IT)
@[simp] theorem IT.gK:(IT.v n).kind=0:=rfl
@[simp] theorem IT.eH:(IT.b k).kind=k:=rfl
@[simp] theorem IT.ey:(IT.p k x y).kind=k:=rfl
@[simp] theorem IT.gj:(IT.v n).name=n:=rfl
@[simp] theorem IT.gL:(IT.b k).name=0:=rfl
@[simp] theorem IT.gM:(IT.p k x y).name=0:=rfl
@[simp] theorem IT.gN:(IT.v n).kids=[]:=rfl
@[simp] theorem IT.gO:(IT.b k).kids=[]:=rfl
@[simp] theorem IT.e8:(IT.p k x y).kids=[x,y]:=rfl
end
def nZ:IT->List DV
 |.v n=>[.i 0,.i n,.sl []]
 |.b k=>[.i k,.i 0,.sl []]
 |.p k x y=>[.i k,.i 0,.sl [nZ x,nZ y]]
theorem an (t:IT):nZ t=[.i t.kind,.i t.name,.sl (t.kids.map nZ)]:=by cases t<;>rfl
@[simp] theorem fh (t:IT):(nZ t).length=3:=by cases t<;>rfl
theorem jR (n:Nat):nZ (.v n)=[.i 0,.i n,.sl []]:=rfl
theorem Ep (k:Int):nZ (.b k)=[.i k,.i 0,.sl []]:=rfl
theorem Er (k:Int) (x y:IT):nZ (.p k x y)=[.i k,.i 0,.sl [nZ x,nZ y]]:=rfl
theorem mC (t:IT):List.drop 3 (nZ t)=[]:=by cases t<;>rfl
abbrev jk (t:IT):AV:=.agg [.d (.i t.kind),.d (.i t.name),.d (.sl (t.kids.map nZ))]
abbrev gC (B ls:List IT):AV:=.agg [.d (.sl (B.map nZ)),.d (.sl (ls.map nZ))]
theorem Es {B:List IT} {k n:Nat} {t:IT} (hb:bd B n=some t):hd B (k+1) (.v n)=hd B k t:=by simp[hd,hb]
theorem Et {B:List IT} {k n:Nat} (hb:bd B n=none):hd B k (.v n)=.v n:=by cases k<;>simp[hd,hb]
theorem jl {t:IT} (h:gJ t) (hv:∀n,t≠.v n):t.kind≠0:=by
 cases t with
 |v n=>exact absurd rfl (hv n)
 |b k=>simp only[gJ]at h;simp only[IT.eH];omega
 |p k x y=>simp only[gJ]at h;simp only[IT.ey];omega
theorem xr {t:IT} (h:gJ t):∀u∈t.kids,gJ u:=by
 intro u hu;cases t with
 |v n=>cases hu
 |b k=>cases hu
 |p k x y=>simp only[gJ]at h;simp only[IT.e8,ab3,ab5,or_false]at hu;rcases hu with rfl|rfl<;>simp[h]
theorem Ab {N:Nat} {t:IT} (h:sc N t=true):∀u∈t.kids,sc N u=true:=by
 intro u hu;cases t with
 |v n=>cases hu
 |b k=>cases hu
 |p k x y=>simp only[sc,abS]at h;simp only[IT.e8,ab3,ab5,or_false]at hu;rcases hu with rfl|rfl<;>simp[h]
theorem H6 {B:List IT} {n k:Nat} {t:IT} (hx:ex B k t=true) (hv:∀n,t≠.v n):kO B n k t=t.kids.any fun u=>kO B n k u:=by
 cases k with
 |zero=>simp[ex]at hx
 |succ k=>
  cases t with
  |v m=>exact absurd rfl (hv m)
  |b c=>simp[kO]
  |p c x y=>
   simp only[ex,abS]at hx;simp only[kO,IT.e8,List.any_cons,List.any_nil,Bool.or_false];rw[ej hx.1 (abW k),ej hx.2 (abW k)]
def y8 (k:Nat) (B:List IT) (n:Nat) (t:IT):List IT×Bool:=if t=.v n then(B,true)else if kO B n k t=true then(B,false)else(B.set n t,true)
theorem Whole.uniq {e:ak} {k k':Nat} {B B' ls ls':List IT} {t t':IT} (h:Whole e k B ls t) (h':Whole e k' B' ls' t'):B=B'/\ls=ls'/\t=t':=by
 have h1:=inf_le (abZ k k') h.ba h.inf;have h2:=inf_le (ab0 k' k) h.ba h'.inf;rw[h1]at h2;simp only[Option.some.injEq,Prod.mk.injEq]at h2;exact h2
theorem Whole.not {e:ak} {k k':Nat} {B ls:List IT} {t:IT} (h:Whole e k B ls t) (h':Av.inf k' e [] [] [] []=some none):False:=by
 have h1:=inf_le (abZ k k') h.ba h.inf;have h2:=inf_le (ab0 k' k) h.ba h';rw[h1]at h2;cases h2
theorem xt {e:ak} (he:Ba e):(∃k B ls t,Whole e k B ls t)\/∃k,inf k e [] [] [] []=some none:=by
 obtain⟨k,r,hr⟩:=FJ he (B:=[]) (ls:=[]) (ns:=[]) (ts:=[]) Aa xq;cases r with
 |none=>exact .inr ⟨k,hr⟩
 |some r=>obtain⟨B,ls,t⟩:=r;exact .inl ⟨k,B,ls,t,he,hr⟩
theorem Whole.fuel {e:ak} {k:Nat} {B ls:List IT} {t:IT} (h:Whole e k B ls t):∃K,Fuel B K:=by
 obtain⟨h1,_⟩:=h.ok;exact H4 h1.ok.y4
open Classical in
noncomputable def RA (e:ak):Option (List UInt8):=if h:∃x:Nat×List IT×List IT×IT×Nat,Whole e x.1 x.2.1 x.2.2.1 x.2.2.2.1/\ex x.2.1 x.2.2.2.2 x.2.2.2.1=true/\L8 x.2.1 x.2.2.2.2 x.2.2.2.1<=30
 then some (JU h.choose.2.1 h.choose.2.2.2.2 h.choose.2.2.2.1 []).1 else none
noncomputable def UR (e:ak):Option (List UInt8):=if aV e=true then RA (mapM aO e)else none
end Go.Av
