/- A part. -/
import Derived.Test.YtloolmchekcmeaaGreatXF21
set_option linter.unusedVariables false
set_option linter.unusedSimpArgs false
open Bool renaming and_eq_true->abS
open Nat renaming le_max_right->abT,le_max_left->abU,le_refl->abV,le_succ->abW,le_add_right->abX,le_add_left->abY,add_right_comm->abZ,strongRecOn->ab0
open List renaming mem_append->ab1,mem_cons->ab2,mem_of_getElem?->ab3,length_set->ab4,not_mem_nil->ab5,mem_or_eq_of_mem_set->ab6,length_append->ab7,countP_cons->ab8,countP_append->ab9
open Option renaming map_eq_some_iff->aca
namespace Go.Av
attribute [-simp] Go.Av.ch Go.Av.eY Go.Av.fw Go.Av.fi Go.Av.cY Go.Av.cb
open Go
def e6 (s:List UInt8) (c:UInt8):Nat->Int
 |0=>-1
 |p+1=>if s[p]? =some c then(p:Int)else e6 s c p
def dT (s:List UInt8) (c:UInt8):Int:=e6 s c s.length
theorem ou (s:List UInt8) (c:UInt8):∀p,-1<=e6 s c p/\e6 s c p<p
 |0=>by simp[e6]
 |p+1=>by
  have:=ou s c p;simp only[e6];split<;>push_cast<;>omega
def Mm (k:Int):Int:=if k=6 then 6 else if k=7 then 7 else if k=8 then 8 else if k=10 then 11 else if k=11 then 12 else 13
def Mn (k:Int) (x n:Int) (cs:List (List Dv)):List Dv:=
 if k=1 then [⟨3,x⟩]else if k=2 then [⟨1,n⟩]else if k=3 then [⟨2,1⟩]else if k=4 then [⟨2,0⟩]
 else if k=5 then(match cs with|[b]=>[⟨4,b.length+1⟩]++b++[⟨5,0⟩]|_=>[])
 else if k=9 then(match cs with|[c,y,z]=>c++[⟨9,y.length+1⟩]++y++[⟨10,z.length⟩]++z|_=>[])
 else cs.flatten++[⟨Mm k,0⟩]
mutual
def Ie (names:List UInt8):ao->List Dv
 |.mk k s n _ _ _ l=>Mn k (names.length-1-dT names (s.headD 0)) n (K8 (if k=5 then names++s else names) l)
def K8 (names:List UInt8):List ao->List (List Dv)
 |[]=>[]
 |e::r=>Ie names e::K8 names r
end
inductive Cx:List UInt8->ao->Prop
 |var {ns:List UInt8} {c:UInt8}:c∈ns->Cx ns (vq [c])
 |num {ns:List UInt8} (n:Int):Cx ns (yf n)
 |uK {ns:List UInt8}:Cx ns qL
 |uL {ns:List UInt8}:Cx ns my
 |lam {ns:List UInt8} {c:UInt8} {t:aI} {b:ao}:Cx (ns++[c]) b->Cx ns (so [c] t b)
 |n2 {ns:List UInt8} {k:Int} {a b:ao}:k=6\/k=7\/k=8\/k=10->Cx ns a->Cx ns b->Cx ns (AG k a b)
 |ite {ns:List UInt8} {a b c:ao}:Cx ns a->Cx ns b->Cx ns c->Cx ns (Fk a b c)
 |n1 {ns:List UInt8} {k:Int} {a:ao}:k=11\/k=12->Cx ns a->Cx ns (Ed k a)
structure RQ (ns:List UInt8) (e:ao):Prop where
 var:e.kind=1->∃c,e.name=[c]/\c∈ns/\e.kids=[]
 lam:e.kind=5->∃c b,e.name=[c]/\e.kids=[b]
 ite:e.kind=9->∃a b c,e.kids=[a,b,c]
 kind:1<=e.kind/\e.kind<=12
 leaf:e.kind<=4->e.kids=[]
 len:e.kids.length<=3
 Ve:e.name.length<=1
 kids:∀u∈e.kids,Cx (if e.kind=5 then ns++e.name else ns) u
def O6 (e:ao):Option (List Dv):=if aQ e=true/\HZ e=[]then(if zd (Ie [] (mapM aM e))=true then some (Ie [] (mapM aM e))else none)else none
def Vf (o:Option (List Dv)):List Dv:=o.getD []
mutual
theorem DD (z:UInt8):∀(e:ao) (bd:List UInt8),xe z bd (mapM Dr e)=xe z bd e
 |.mk k s n t f b l,bd=>by
  rw[mapM,Dr];split<;>(simp only[xe,ao.bX,ao.lf,ao.bQ,u6 z l];try rfl)
theorem u6 (z:UInt8):∀(l:List ao) (bd:List UInt8),qk z bd (dn Dr l)=qk z bd l
 |[],bd=>rfl
 |e::r,bd=>by rw[dn,qk,qk,DD z e,u6 z r]
end
mutual
def Ez (bd:List UInt8):ao->List UInt8->List UInt8
 |.mk k s _ _ _ _ l,out=>xj (if k=5 then lW (s.headD 0) bd else bd) l (if k=1/\¬s.headD 0∈bd then lW (s.headD 0) out else out)
def xj (bd:List UInt8):List ao->List UInt8->List UInt8
 |[],out=>out
 |e::r,out=>xj bd r (Ez bd e out)
end
mutual
theorem FV:∀(e:ao) (bd out:List UInt8),(Ez bd e out).length<=out.length+aU e
 |.mk k s n t f b l,bd,out=>by
  rw[Ez,aU];have h1:=xk l (if k=5 then lW (s.headD 0) bd else bd) (if k=1/\¬s.headD 0∈bd then lW (s.headD 0) out else out);have h2:(if k=1/\¬s.headD 0∈bd then lW (s.headD 0) out else out).length<=out.length+1:=by
   split
   ·exact wA _ _
   ·omega
  omega
theorem xk:∀(l:List ao) (bd out:List UInt8),(xj bd l out).length<=out.length+bq l
 |[],bd,out=>by simp[xj]
 |e::r,bd,out=>by
  rw[xj,bq];have h1:=FV e bd out;have h2:=xk r bd (Ez bd e out);omega
end
inductive IT where
 |v (n:Nat)
 |b (k:Int)
 |p (k:Int) (x y:IT)
deriving DecidableEq
def bd (B:List IT) (n:Nat):Option IT:=match B[n]? with
 |some t=>if t=.v n then none else some t
 |none=>none
def ex (B:List IT):Nat->IT->Bool
 |0,_=>false
 |k+1,.v n=>match bd B n with
  |none=>true
  |some t=>ex B k t
 |_+1,.b _=>true
 |k+1,.p _ x y=>ex B k x && ex B k y
def hd (B:List IT):Nat->IT->IT
 |k+1,.v n=>match bd B n with
  |none=>.v n
  |some t=>hd B k t
 |_,t=>t
def ly (B:List IT) (n:Nat):Nat->IT->Bool
 |k+1,.v m=>match bd B m with
  |none=>decide (m=n)
  |some t=>ly B n k t
 |k+1,.p _ x y=>ly B n k x||ly B n k y
 |_,_=>false
def jx:Nat->List IT->IT->IT->Option (List IT×Bool)
 |0,_,_,_=>none
 |k+1,B,a,b=>if ex B k a && ex B k b then
   match hd B k a,hd B k b with
   |.v n,b'=>if b'=.v n then some (B,true)else if ly B n k b' then some (B,false)else some (B.set n b',true)
   |a',.v n=>if ly B n k a' then some (B,false)else some (B.set n a',true)
   |.b i,.b j=>some (B,decide (i=j))
   |.p i x y,.p j x' y'=>if i=j then(match jx k B x x' with
     |some (B1,true)=>jx k B1 y y'
     |r=>r)else some (B,false)
   |_,_=>some (B,false)
  else none
section
variable {B:List IT}
theorem ov:∀{k:Nat} {t:IT},ex B k t=true->ex B (k+1) t=true
 |0,t,h=>by simp[ex]at h
 |k+1,.v n,h=>by
  simp only[ex]at h⊢;split<;>rename_i hb
  ·rfl
  ·rw[hb]at h;exact ov h
 |k+1,.b _,_=>by simp[ex]
 |k+1,.p _ x y,h=>by
  rw[ex,abS]at h;rw[ex,abS];exact⟨ov h.1,ov h.2⟩
theorem oN {k j:Nat} {t:IT} (hk:k<=j) (h:ex B k t=true):ex B j t=true:=by
 induction hk with
 |refl=>exact h
 |step _ ih=>exact ov ih
def Kc (B:List IT) (t:IT):Prop:=∀n,t=.v n->bd B n=none
theorem jy:∀{k:Nat} {t:IT},ex B k t=true->Kc B (hd B k t)
 |0,t,h=>by simp[ex]at h
 |k+1,.v n,h=>by
  simp only[ex]at h;simp only[hd];split<;>rename_i hb
  ·intro m e;cases e;exact hb
  ·rw[hb]at h;exact jy h
 |k+1,.b _,_=>by intro n e;simp[hd]at e
 |k+1,.p _ x y,_=>by intro n e;simp[hd]at e
theorem xl {t:IT} (h:Kc B t):∀k,hd B k t=t
 |0=>by cases t<;>rfl
 |k+1=>by
  cases t with
  |v n=>simp only[hd,h n rfl]
  |b _=>rfl
  |p _ _ _=>rfl
theorem kX:∀{k:Nat} {t:IT},ex B k t=true->ex B k (hd B k t)=true
 |0,t,h=>by simp[ex]at h
 |k+1,.v n,h=>by
  have h':=h;simp only[ex]at h;simp only[hd];split<;>rename_i hb
  ·exact h'
  ·rw[hb]at h;exact ov (kX h)
 |k+1,.b _,h=>h
 |k+1,.p _ x y,h=>h
theorem ic:∀{k j:Nat} {t:IT},ex B k t=true->k<=j->hd B j t=hd B k t
 |0,j,t,h,_=>by simp[ex]at h
 |k+1,j+1,.v n,h,hj=>by
  simp only[ex]at h;simp only[hd];split<;>rename_i hb
  ·rfl
  ·rw[hb]at h;exact ic h (by omega)
 |k+1,j+1,.b _,_,_=>rfl
 |k+1,j+1,.p _ _ _,_,_=>rfl
theorem eC {n:Nat}:∀{k j:Nat} {t:IT},ex B k t=true->k<=j->ly B n j t=ly B n k t
 |0,j,t,h,_=>by simp[ex]at h
 |k+1,j+1,.v m,h,hj=>by
  simp only[ex]at h;simp only[ly];split<;>rename_i hb
  ·rfl
  ·rw[hb]at h;exact eC h (by omega)
 |k+1,j+1,.b _,_,_=>rfl
 |k+1,j+1,.p _ x y,h,hj=>by
  rw[ex,abS]at h;simp only[ly,eC h.1 (show k<=j by omega),eC h.2 (show k<=j by omega)]
theorem DE {n:Nat}:∀{k:Nat} {t:IT},ex B k t=true->ly B n k (hd B k t)=ly B n k t
 |0,t,h=>by simp[ex]at h
 |k+1,.v m,h=>by
  have h':=h;simp only[ex]at h;simp only[hd];cases hb:bd B m with
  |none=>simp
  |some t=>
   rw[hb]at h;simp only at h⊢;rw[eC (kX h) (abW k),DE h];simp only[ly,hb]
 |k+1,.b _,h=>rfl
 |k+1,.p _ x y,h=>rfl
theorem sO:∀{k:Nat} {t:IT} {c:Int} {x y:IT},ex B k t=true->hd B k t=.p c x y->∃j,j<k/\ex B j x=true/\ex B j y=true
 |0,t,_,_,_,h,_=>by simp[ex]at h
 |k+1,.v n,c,x,y,h,e=>by
  simp only[ex]at h;simp only[hd]at e;cases hb:bd B n with
  |none=>rw[hb]at e;cases e
  |some t=>
   rw[hb]at h e;obtain⟨j,h1,h2⟩:=sO h e;exact⟨j,by omega,h2⟩
 |k+1,.b _,_,_,_,h,e=>by simp[hd]at e
 |k+1,.p _ x y,_,_,_,h,e=>by
  simp only[hd]at e;cases e
  rw[ex,abS]at h;exact⟨k,by omega,h⟩
end
theorem B6:∀{k:Nat} {B:List IT} {a b:IT} {r:List IT×Bool},jx k B a b=some r->jx (k+1) B a b=some r
 |0,B,a,b,r,h=>by simp[jx]at h
 |k+1,B,a,b,r,h=>by
  have ih:=fun{B a b r}=>B6 (k:=k) (B:=B) (a:=a) (b:=b) (r:=r)
  rw[jx]at h⊢;split at h
  ·rename_i hx;rw[abS]at hx;have ha:=ic hx.1 (abW k);have hb:=ic hx.2 (abW k);have oa:=fun n=>(eC (n:=n) (kX hx.1) (abW k))
   have ob:=fun n=>(eC (n:=n) (kX hx.2) (abW k))
   rw[if_pos (by rw[abS];exact⟨ov hx.1,ov hx.2⟩),ha,hb];generalize hd B k a=a' at*;generalize hd B k b=b' at*
   match a',b',h with
   |.v n,b',h=>simp only[ob]at h⊢;exact h
   |.b _,.v n,h=>simp only[oa]at h⊢;exact h
   |.p _ _ _,.v n,h=>simp only[oa]at h⊢;exact h
   |.b _,.b _,h=>exact h
   |.b _,.p _ _ _,h=>exact h
   |.p _ _ _,.b _,h=>exact h
   |.p i x y,.p j x' y',h=>
    simp only at h⊢;split at h
    ·rename_i lr;rw[if_pos lr];cases hu:jx k B x x' with
     |none=>rw[hu]at h;simp at h
     |some q=>
      obtain⟨B1,q⟩:=q;rw[ih hu];rw[hu]at h;cases q
      ·exact h
      ·exact ih h
    ·rename_i lr;rw[if_neg lr];exact h
  ·simp at h
theorem pT {k j:Nat} {B:List IT} {a b:IT} {r:List IT×Bool} (hk:k<=j) (h:jx k B a b=some r):jx j B a b=some r:=by
 induction hk with
 |refl=>exact h
 |step _ ih=>exact B6 ih
def sc (N:Nat):IT->Bool
 |.v n=>decide (n<N)
 |.b _=>true
 |.p _ x y=>sc N x && sc N y
def s8 (B:List IT):Prop:=∀t∈B,sc B.length t=true
theorem fq {N M:Nat} (h:N<=M):∀{t:IT},sc N t=true->sc M t=true
 |.v n,ht=>by simp[sc]at ht⊢;omega
 |.b _,_=>rfl
 |.p _ x y,ht=>by
  rw[sc,abS]at ht⊢;exact⟨fq h ht.1,fq h ht.2⟩
theorem vI {B:List IT} {n:Nat} {t:IT} (h:bd B n=some t):B[n]? =some t/\t≠.v n:=by
 simp only[bd]at h;split at h
 ·rename_i u hu;split at h
  ·simp at h
  ·rename_i hn;simp at h;subst h;exact⟨hu,hn⟩
 ·simp at h
theorem Kd {B:List IT} {n:Nat} (hn:n<B.length) (h:bd B n=none):B[n]? =some (.v n):=by
 simp only[bd,List.getElem?_eq_getElem hn]at h⊢;split at h
 ·rename_i e;rw[e]
 ·simp at h
theorem EA {B:List IT} {n:Nat} {t:IT} (hB:s8 B) (h:bd B n=some t):sc B.length t=true:=hB t (ab3 (vI h).1)
theorem oO {B:List IT} (hB:s8 B):∀{k:Nat} {t:IT},sc B.length t=true->sc B.length (hd B k t)=true
 |0,t,h=>by cases t<;>exact h
 |k+1,.v n,h=>by
  simp only[hd];split<;>rename_i hb
  ·exact h
  ·exact oO hB (EA hB hb)
 |k+1,.b _,h=>h
 |k+1,.p _ x y,h=>h
theorem xm {B:List IT} {n m:Nat} {t:IT} (hn:n<B.length) (ht:t≠.v n):bd (B.set n t) m=if m=n then some t else bd B m:=by
 simp only[bd];by_cases h:m=n
 ·subst h;simp[hn,ht]
 ·rw[List.getElem?_set_ne (by omega),if_neg h]
theorem s8.set {B:List IT} (h:s8 B) {n:Nat} {t:IT} (ht:sc B.length t=true):s8 (B.set n t):=by
 intro u hu;rw[ab4];rcases ab6 hu with h1|rfl
 ·exact h u h1
 ·exact ht
theorem xn:∀{k:Nat} {B B':List IT} {a b:IT} {q:Bool},s8 B->sc B.length a=true->sc B.length b=true->jx k B a b=some (B',q)->s8 B'/\B'.length=B.length
 |0,B,B',a,b,q,_,_,_,h=>by simp[jx]at h
 |k+1,B,B',a,b,q,hB,ha,hb,h=>by
  rw[jx]at h;split at h
  ·have ub:=oO hB (k:=k) ha;have eV:=oO hB (k:=k) hb;generalize hd B k a=a' at*;generalize hd B k b=b' at*
   match a',b',h with
   |.v n,b',h=>
    simp only at h;split at h
    ·simp at h;obtain⟨rfl,_⟩:=h;exact⟨hB,rfl⟩
    ·split at h
     ·simp at h;obtain⟨rfl,_⟩:=h;exact⟨hB,rfl⟩
     ·simp at h;obtain⟨rfl,_⟩:=h;exact⟨hB.set eV,by simp⟩
   |.b _,.v n,h=>
    simp only at h;split at h
    ·simp at h;obtain⟨rfl,_⟩:=h;exact⟨hB,rfl⟩
    ·simp at h;obtain⟨rfl,_⟩:=h;exact⟨hB.set ub,by simp⟩
   |.p _ _ _,.v n,h=>
    simp only at h;split at h
    ·simp at h;obtain⟨rfl,_⟩:=h;exact⟨hB,rfl⟩
    ·simp at h;obtain⟨rfl,_⟩:=h;exact⟨hB.set ub,by simp⟩
   |.b _,.b _,h=>simp at h;obtain⟨rfl,_⟩:=h;exact⟨hB,rfl⟩
   |.b _,.p _ _ _,h=>simp at h;obtain⟨rfl,_⟩:=h;exact⟨hB,rfl⟩
   |.p _ _ _,.b _,h=>simp at h;obtain⟨rfl,_⟩:=h;exact⟨hB,rfl⟩
   |.p i x y,.p j x' y',h=>
    rw[sc,abS]at ub eV;simp only at h;split at h
    ·cases hu:jx k B x x' with
     |none=>rw[hu]at h;simp at h
     |some r=>
      obtain⟨B1,q1⟩:=r;rw[hu]at h;obtain⟨h1,h2⟩:=xn hB ub.1 eV.1 hu;cases q1
      ·simp at h;obtain⟨rfl,_⟩:=h;exact⟨h1,h2⟩
      ·obtain⟨h3,h4⟩:=xn h1 (by rw[h2];exact ub.2) (by rw[h2];exact eV.2) h;exact⟨h3,h4.trans h2⟩
    ·simp at h;obtain⟨rfl,_⟩:=h;exact⟨hB,rfl⟩
  ·simp at h
theorem sP:∀{k:Nat} {B B':List IT} {a:IT} {q:Bool},jx k B a a=some (B',q)->B'=B/\q=true
 |0,B,B',a,q,h=>by simp[jx]at h
 |k+1,B,B',a,q,h=>by
  rw[jx]at h;split at h
  ·generalize hd B k a=a' at h
   match a',h with
   |.v n,h=>simp at h;exact⟨h.1.symm,h.2⟩
   |.b _,h=>simp at h;exact⟨h.1.symm,h.2⟩
   |.p i x y,h=>
    simp only[if_true]at h;cases hu:jx k B x x with
    |none=>rw[hu]at h;simp at h
    |some r=>
     obtain⟨B1,q1⟩:=r;obtain⟨rfl,rfl⟩:=sP hu;rw[hu]at h;exact sP h
  ·simp at h
def nfree (B:List IT):Nat:=(List.range B.length).countP fun n=>(bd B n).isNone
def FW (B:List IT):Prop:=∀n,n<B.length->∃k,ex B k (.v n)=true
theorem FW.all {B:List IT} (h:FW B):∀{t:IT},sc B.length t=true->∃k,ex B k t=true
 |.v n,ht=>h n (by simpa[sc]using ht)
 |.b _,_=>⟨1,rfl⟩
 |.p c x y,ht=>by
  rw[sc,abS]at ht;obtain⟨k1,h1⟩:=h.all ht.1;obtain⟨k2,h2⟩:=h.all ht.2;exact⟨max k1 k2+1,by rw[ex,abS];exact⟨oN (abU _ _) h1,oN (abT _ _) h2⟩⟩
theorem ql {B:List IT} {n:Nat} {t:IT} (hn:n<B.length) (ht:t≠.v n) (hf:bd B n=none):∀{k:Nat} {u:IT},ex B k u=true->ly B n k u=false->ex (B.set n t) k u=true
 |0,u,h,_=>by simp[ex]at h
 |k+1,.v m,h,ho=>by
  simp only[ex,ly]at h ho⊢;rw[xm hn ht];by_cases hm:m=n
  ·subst hm;rw[hf]at ho;simp at ho
  ·rw[if_neg hm];cases hb:bd B m with
   |none=>rfl
   |some w=>rw[hb]at h ho;exact ql hn ht hf h ho
 |k+1,.b _,_,_=>rfl
 |k+1,.p _ x y,h,ho=>by
  rw[ex,abS]at h;rw[ly,Bool.or_eq_false_iff]at ho;rw[ex,abS];exact⟨ql hn ht hf h.1 ho.1,ql hn ht hf h.2 ho.2⟩
theorem Af {B:List IT} {n j:Nat} {t:IT} (hn:n<B.length) (ht:t≠.v n) (hj:ex (B.set n t) j t=true):∀{k:Nat} {u:IT},ex B k u=true->ex (B.set n t) (k+j) u=true
 |0,u,h=>by simp[ex]at h
 |k+1,.v m,h=>by
  rw[abZ];simp only[ex]at h⊢;rw[xm hn ht];by_cases hm:m=n
  ·subst hm;rw[if_pos rfl];exact oN (by omega) hj
  ·rw[if_neg hm];cases hb:bd B m with
   |none=>rfl
   |some w=>rw[hb]at h;exact Af hn ht hj h
 |k+1,.b _,_=>by rw[abZ];rfl
 |k+1,.p _ x y,h=>by
  rw[ex,abS]at h;rw[abZ,ex,abS];exact⟨Af hn ht hj h.1,Af hn ht hj h.2⟩
theorem FW.set {B:List IT} (h:FW B) {n k:Nat} {t:IT} (hn:n<B.length) (ht:t≠.v n) (hf:bd B n=none) (hx:ex B k t=true) (ho:ly B n k t=false):FW (B.set n t):=by
 have hj:=ql hn ht hf hx ho;intro m hm;rw[ab4]at hm;obtain⟨i,hi⟩:=h m hm;exact⟨i+k,Af hn ht hj hi⟩
theorem ud {B:List IT} {n:Nat} {t:IT} (hn:n<B.length) (ht:t≠.v n) (hf:bd B n=none):nfree (B.set n t)<nfree B:=by
 simp only[nfree,ab4];have key:∀l:List Nat,(l.countP fun m=>(bd (B.set n t) m).isNone)<=l.countP fun m=>(bd B m).isNone:=fun l=>by
  apply List.countP_mono_left;intro m _ hm;rw[xm hn ht]at hm;split at hm
  ·simp at hm
  ·exact hm
 obtain⟨l1,l2,hl⟩:=List.append_of_mem (List.mem_range.2 hn);rw[hl,ab9,ab9,ab8,ab8];have h1:=key l1;have h2:=key l2;rw[xm hn ht,if_pos rfl,hf];simp;omega
theorem zg:∀(u k:Nat) (B:List IT) (a b:IT),nfree B<=u->s8 B->FW B->sc B.length a=true->sc B.length b=true->ex B k a=true->∃j B' q,jx j B a b=some (B',q)/\FW B'/\(B'=B\/nfree B'<nfree B):=by
 intro u;induction u using ab0 with
 |_ u ihu=>
  intro k;induction k using ab0 with
  |_ k ihk=>
   intro B a b hu hB hA ha hb Gw;obtain⟨kb,Ig⟩:=hA.all hb;have Ih:ex B (max k kb) a=true:=oN (abU _ _) Gw;have Ii:ex B (max k kb) b=true:=oN (abT _ _) Ig;have Ke:=jy Ih;have Gx:=jy Ii;have P6:=kX Ih;have TB:=kX Ii;have Hp:=oO hB (k:=max k kb) ha;have Bk:=oO hB (k:=max k kb) hb;have Fm:=fun{c x y} (e:hd B (max k kb) a=.p c x y)=>sO Gw (by rw[<-ic Gw (abU k kb)];exact e)
   have Gv:(ex B (max k kb) a && ex B (max k kb) b)=true:=by rw[Ih,Ii];rfl
   have IP:∀{r},jx (max k kb+1) B a b=r->∀j,max k kb+1<=j->r.isSome=true->jx j B a b=r:=fun{r} e j hj hs=>by
    cases r with
    |none=>simp at hs
    |some r=>exact pT hj e
   match ub:hd B (max k kb) a,eV:hd B (max k kb) b with
   |.v n,b'=>
    rw[ub]at Ke Hp;rw[eV]at TB Bk;by_cases e:b'=.v n
    ·exact⟨max k kb+1,B,true,by rw[jx,if_pos Gv,ub,eV];simp[e],hA,.inl rfl⟩
    ·by_cases o:ly B n (max k kb) b'=true
     ·exact⟨max k kb+1,B,false,by rw[jx,if_pos Gv,ub,eV];simp[e,o],hA,.inl rfl⟩
     ·have hn:n<B.length:=by simpa[sc]using Hp
      have o':ly B n (max k kb) b'=false:=by simpa using o
      exact⟨max k kb+1,B.set n b',true,by rw[jx,if_pos Gv,ub,eV];simp[e,o'],hA.set hn e (Ke n rfl) TB o',.inr (ud hn e (Ke n rfl))⟩
   |.b i,.v n=>
    rw[eV]at Gx Bk;rw[ub]at P6;have hn:n<B.length:=by simpa[sc]using Bk
    have o':ly B n (max k kb) (.b i)=false:=by cases max k kb<;>rfl
    exact⟨max k kb+1,B.set n (.b i),true,by rw[jx,if_pos Gv,ub,eV];simp[o'],hA.set hn (by simp) (Gx n rfl) P6 o',.inr (ud hn (by simp) (Gx n rfl))⟩
   |.p c x y,.v n=>
    rw[eV]at Gx Bk;rw[ub]at P6;have hn:n<B.length:=by simpa[sc]using Bk
    by_cases o:ly B n (max k kb) (.p c x y)=true
    ·exact⟨max k kb+1,B,false,by rw[jx,if_pos Gv,ub,eV];simp[o],hA,.inl rfl⟩
    ·have o':ly B n (max k kb) (.p c x y)=false:=by simpa using o
     exact⟨max k kb+1,B.set n (.p c x y),true,by rw[jx,if_pos Gv,ub,eV];simp[o'],hA.set hn (by simp) (Gx n rfl) P6 o',.inr (ud hn (by simp) (Gx n rfl))⟩
   |.b i,.b j=>exact⟨max k kb+1,B,_,by rw[jx,if_pos Gv,ub,eV],hA,.inl rfl⟩
   |.b i,.p _ _ _=>exact⟨max k kb+1,B,false,by rw[jx,if_pos Gv,ub,eV],hA,.inl rfl⟩
   |.p _ _ _,.b i=>exact⟨max k kb+1,B,false,by rw[jx,if_pos Gv,ub,eV],hA,.inl rfl⟩
   |.p c x y,.p c' x' y'=>
    rw[ub]at Hp;rw[eV]at Bk;rw[sc,abS]at Hp Bk;by_cases e:c=c'
    rotate_left
    ·exact⟨max k kb+1,B,false,by rw[jx,if_pos Gv,ub,eV];simp[e],hA,.inl rfl⟩
    subst e;obtain⟨m,hm,hx,hy⟩:=Fm ub;obtain⟨j1,B1,q1,h1,P7,gR⟩:=ihk m hm B x x' hu hB hA Hp.1 Bk.1 hx;obtain⟨TC,Hv⟩:=xn hB Hp.1 Bk.1 h1
    have hw:∀j,max k kb<=j->jx (j+1) B a b=(match jx j B x x' with
      |some (B1,true)=>jx j B1 y y'
      |r=>r):=fun j hj=>by
     rw[jx,if_pos (by rw[oN hj Ih,oN hj Ii];rfl),ic Ih hj,ic Ii hj,ub,eV];simp
    cases q1 with
    |false=>exact⟨max (max k kb) j1+1,B1,false,by rw[hw _ (abU _ _),pT (abT _ _) h1],P7,gR⟩
    |true=>
     have h2:∃j2 B2 q2,jx j2 B1 y y'=some (B2,q2)/\FW B2/\(B2=B1\/nfree B2<nfree B1):=by
      rcases gR with rfl|ay
      ·exact ihk m hm B1 y y' hu TC P7 Hp.2 Bk.2 hy
      ·obtain⟨ky,Vg⟩:=P7.all (t:=y) (by rw[Hv];exact Hp.2);exact ihu (nfree B1) (by omega) ky B1 y y' (abV _) TC P7 (by rw[Hv];exact Hp.2) (by rw[Hv];exact Bk.2) Vg
     obtain⟨j2,B2,q2,h2,QH,jE⟩:=h2;refine⟨max (max k kb) (max j1 j2)+1,B2,q2,?_,QH,?_⟩
     ·rw[hw _ (abU _ _),pT (show j1<=_ by omega) h1];exact pT (by omega) h2
     ·rcases gR with rfl|h3<;>rcases jE with rfl|h4
      ·exact .inl rfl
      ·exact .inr h4
      ·exact .inr h3
      ·exact .inr (by omega)
section
variable {G:Type} (mk:Int->Option (G×G)->G)
def FX (θ:Nat->G):IT->G
 |.v n=>θ n
 |.b k=>mk k none
 |.p k x y=>mk k (some (FX θ x,FX θ y))
def Sat (θ:Nat->G) (B:List IT):Prop:=∀n t,bd B n=some t->θ n=FX mk θ t
variable {mk}
theorem K9 {θ:Nat->G} {B:List IT} (h:Sat mk θ B):∀{k:Nat} {t:IT},FX mk θ (hd B k t)=FX mk θ t
 |0,t=>by cases t<;>rfl
 |k+1,.v n=>by
  simp only[hd];split<;>rename_i hb
  ·rfl
  ·rw[K9 h,<-h n _ hb];rfl
 |k+1,.b _=>rfl
 |k+1,.p _ _ _=>rfl
structure VY (mk:Int->Option (G×G)->G):Prop where
 inj:∀k k' o o',mk k o=mk k' o'->k=k'/\o=o'
 size:∃sz:G->Nat,∀k x y,sz x<sz (mk k (some (x,y)))/\sz y<sz (mk k (some (x,y)))
end
def kQ (k:Nat) (B:List IT) (a b:IT):Option (Option (List IT)):=match jx k B a b with
 |none=>none
 |some (B',true)=>some (some B')
 |some (_,false)=>some none
def jl (k:Nat) (kd:Int) (B:List IT) (ts:List IT):Option (Option (List IT×IT)):=
 if kd=2 then some (some (B,.b 2))else if kd=3\/kd=4 then some (some (B,.b 3))else match ts with
  |[x]=>if kd=11\/kd=12 then(kQ k (B++[.v B.length,.v (B.length+1)]) x (.p 5 (.v B.length) (.v (B.length+1)))).map (·.map fun B'=>(B',.v (if kd=12 then B.length+1 else B.length)))else some none
  |[x,y]=>if kd=10 then some (some (B,.p 5 x y))
   else if kd=6 then(kQ k (B++[.v B.length,.v (B.length+1)]) x (.p 4 y (.v B.length))).map (·.map fun B'=>(B',.v B.length))
   else if kd=7\/kd=8 then(match kQ k B x (.b 2)with
    |some (some B1)=>(kQ k B1 y (.b 2)).map (·.map fun B'=>(B',.b (if kd=8 then 3 else 2)))
    |none=>none
    |some none=>some none)else some none
  |[x,y,z]=>if kd=9 then(match kQ k B x (.b 3)with
    |some (some B1)=>(kQ k B1 y z).map (·.map fun B'=>(B',y))
    |none=>none
    |some none=>some none)else some none
  |_=>some none
mutual
def inf (k:Nat):ao->List IT->List IT->List UInt8->List IT->Option (Option (List IT×List IT×IT))
 |.mk kd s _ _ _ _ l,B,ls,ns,ts=>
  if kd=1 then some (if 0<=dT ns (s.headD 0)then(ts[(dT ns (s.headD 0)).toNat]?).map fun t=>(B,ls,t)else none)
  else match nj k l (if kd=5 then B++[.v B.length]else B) (if kd=5 then ls++[.v B.length]else ls) (if kd=5 then ns++s else ns) (if kd=5 then ts++[.v B.length]else ts)with
   |some (some (B1,ls1,us))=>if kd=5 then(match us with|[u]=>some (some (B1,ls1,.p 4 (.v B.length) u))|_=>some none)else(jl k kd B1 us).map (·.map fun r=>(r.1,ls1,r.2))
   |none=>none
   |some none=>some none
def nj (k:Nat):List ao->List IT->List IT->List UInt8->List IT->Option (Option (List IT×List IT×List IT))
 |[],B,ls,_,_=>some (some (B,ls,[]))
 |e::r,B,ls,ns,ts=>match inf k e B ls ns ts with
  |some (some (B1,ls1,t))=>(match nj k r B1 ls1 ns ts with
   |some (some (B2,ls2,us))=>some (some (B2,ls2,t::us))
   |none=>none
   |some none=>some none)
  |none=>none
  |some none=>some none
end
inductive Ba:ao->Prop
 |var (c:UInt8):Ba (vq [c])
 |num (n:Int):Ba (yf n)
 |uK:Ba qL
 |uL:Ba my
 |lam {c:UInt8} {t:aI} {b:ao}:Ba b->Ba (so [c] t b)
 |n2 {k:Int} {a b:ao}:k=6\/k=7\/k=8\/k=10->Ba a->Ba b->Ba (AG k a b)
 |ite {a b c:ao}:Ba a->Ba b->Ba c->Ba (Fk a b c)
 |n1 {k:Int} {a:ao}:k=11\/k=12->Ba a->Ba (Ed k a)
theorem Ba.of {nt:Int} {d:Nat} {e:ao} (h:kG nt d e):Ba (mapM aM e):=by
 induction h with
 | @var d s _ hs=>
  obtain⟨c,rfl,_⟩:=y9 hs;simpa[mapM,dn,aM]using Ba.var c
 |num _ _ _=>simpa[mapM,dn,aM]using Ba.num _
 |uK _=>simpa[mapM,dn,aM]using Ba.uK
 |uL _=>simpa[mapM,dn,aM]using Ba.uL
 | @lam d s t b _ hs _ _ ih=>
  obtain⟨c,rfl,_⟩:=y9 hs;simpa[mapM,dn,aM]using Ba.lam ih
 | @n2 d k a b _ hk _ _ iha ihb=>
  have h1:¬(k=13\/k=14):=by omega
  have h2:¬k=5:=by omega
  simpa[mapM,dn,aM,h1,h2]using Ba.n2 hk iha ihb
 |ite _ _ _ _ ihp iha ihb=>simpa[mapM,dn,aM]using Ba.ite ihp iha ihb
 | @n1 d k a _ hk _ ih=>
  have h1:¬(k=13\/k=14):=by omega
  have h2:¬k=5:=by omega
  simpa[mapM,dn,aM,h1,h2]using Ba.n1 hk ih
 |asc _ _ _ ih=>simpa[mapM,dn,aM]using ih
 |cast _ _ _ _ _ _ ih=>simpa[mapM,dn,aM]using ih
section
variable (k:Nat) (B ls:List IT) (ns:List UInt8) (ts:List IT)
theorem mi (c:UInt8):inf k (vq [c]) B ls ns ts=some (if 0<=dT ns c then(ts[(dT ns c).toNat]?).map fun t=>(B,ls,t)else none):=by simp[inf]
theorem vJ (n:Int):inf k (yf n) B ls ns ts=some (some (B,ls,.b 2)):=by simp[inf,nj,jl]
theorem vK:inf k qL B ls ns ts=some (some (B,ls,.b 3)):=by simp[inf,nj,jl]
theorem vL:inf k my B ls ns ts=some (some (B,ls,.b 3)):=by simp[inf,nj,jl]
theorem oz (c:UInt8) (t:aI) (b:ao):inf k (so [c] t b) B ls ns ts=(inf k b (B++[.v B.length]) (ls++[.v B.length]) (ns++[c]) (ts++[.v B.length])).map (·.map fun r=>(r.1,r.2.1,.p 4 (.v B.length) r.2.2)):=by
 simp only[inf,nj,show¬(5:Int)=1 by omega,if_false,if_true];cases inf k b (B++[.v B.length]) (ls++[.v B.length]) (ns++[c]) (ts++[.v B.length])with
 |none=>rfl
 |some o=>cases o<;>rfl
theorem xo {kd:Int} (hk:kd=11\/kd=12) (a:ao):inf k (Ed kd a) B ls ns ts=match inf k a B ls ns ts with
  |some (some (B1,ls1,t))=>(jl k kd B1 [t]).map (·.map fun r=>(r.1,ls1,r.2))
  |none=>none
  |some none=>some none:=by
 simp only[inf,nj,show¬kd=1 by omega,show¬kd=5 by omega,if_false];cases inf k a B ls ns ts with
 |none=>rfl
 |some o=>cases o<;>rfl
theorem ue {kd:Int} (hk:kd=6\/kd=7\/kd=8\/kd=10) (a b:ao):inf k (AG kd a b) B ls ns ts=match inf k a B ls ns ts with
  |some (some (B1,ls1,t))=>(match inf k b B1 ls1 ns ts with
   |some (some (B2,ls2,u))=>(jl k kd B2 [t,u]).map (·.map fun r=>(r.1,ls2,r.2))
   |none=>none
   |some none=>some none)
  |none=>none
  |some none=>some none:=by
 simp only[inf,nj,show¬kd=1 by omega,show¬kd=5 by omega,if_false];cases inf k a B ls ns ts with
 |none=>rfl
 |some o=>
  cases o with
  |none=>rfl
  |some r=>
   obtain⟨B1,ls1,t⟩:=r;simp only;cases inf k b B1 ls1 ns ts with
   |none=>rfl
   |some o=>cases o<;>rfl
theorem rA (a b c:ao):inf k (Fk a b c) B ls ns ts=match inf k a B ls ns ts with
  |some (some (B1,ls1,t))=>(match inf k b B1 ls1 ns ts with
   |some (some (B2,ls2,u))=>(match inf k c B2 ls2 ns ts with
    |some (some (B3,ls3,v))=>(jl k 9 B3 [t,u,v]).map (·.map fun r=>(r.1,ls3,r.2))
    |none=>none
    |some none=>some none)
   |none=>none
   |some none=>some none)
  |none=>none
  |some none=>some none:=by
 simp only[inf,nj,show¬(9:Int)=1 by omega,show¬(9:Int)=5 by omega,if_false];cases inf k a B ls ns ts with
 |none=>rfl
 |some o=>
  cases o with
  |none=>rfl
  |some r=>
   obtain⟨B1,ls1,t⟩:=r;simp only;cases inf k b B1 ls1 ns ts with
   |none=>rfl
   |some o=>
    cases o with
    |none=>rfl
    |some r=>
     obtain⟨B2,ls2,u⟩:=r;simp only;cases inf k c B2 ls2 ns ts with
     |none=>rfl
     |some o=>cases o<;>rfl
end
theorem xq {B:List IT} (new:List IT) {n:Nat} (hn:n<B.length):bd (B++new) n=bd B n:=by
 simp only[bd,List.getElem?_append_left hn]
theorem DF {B:List IT}:bd (B++[.v B.length]) B.length=none:=by simp[bd]
theorem Ij {B:List IT} {n:Nat} (h1:B.length<=n) (h2:n<B.length+2):bd (B++[.v B.length,.v (B.length+1)]) n=none:=by
 simp only[bd];rw[List.getElem?_append_right h1];have:n=B.length\/n=B.length+1:=by omega
 rcases this with rfl|rfl
 ·simp
 ·simp
theorem xr {B:List IT} (new:List IT) (hB:s8 B):∀{k:Nat} {t:IT},sc B.length t=true->ex B k t=true->ex (B++new) k t=true
 |0,t,_,h=>by simp[ex]at h
 |k+1,.v n,hs,h=>by
  simp only[ex]at h⊢;rw[xq new (by simpa[sc]using hs)];cases hb:bd B n with
  |none=>rfl
  |some t=>rw[hb]at h;exact xr new hB (EA hB hb) h
 |k+1,.b _,_,_=>rfl
 |k+1,.p _ x y,hs,h=>by
  rw[sc,abS]at hs;rw[ex,abS]at h⊢;exact⟨xr new hB hs.1 h.1,xr new hB hs.2 h.2⟩
structure pU (B C:List IT):Prop where
 le:B.length<=C.length
 KB:∀n,n<B.length->bd C n=bd B n
 new:∀n,B.length<=n->n<C.length->bd C n=none
 sc:s8 B->s8 C
 zh:s8 B->FW B->FW C
theorem pU.one (B:List IT):pU B (B++[.v B.length]):=by
 refine⟨by simp,fun n hn=>xq _ hn,fun n h1 h2=>?_,fun h t ht=>?_,fun hs h n hn=>?_⟩
 ·have:n=B.length:=by simp at h2;omega
  subst this;exact DF
 ·rw[ab7];rcases ab1.1 ht with h1|h1
  ·exact fq (by omega) (h t h1)
  ·simp at h1;subst h1;simp[Av.sc]
 ·by_cases h1:n<B.length
  ·obtain⟨k,hk⟩:=h n h1;exact⟨k,xr _ hs (by simpa[Av.sc]using h1) hk⟩
  ·have:n=B.length:=by simp at hn;omega
   subst this;exact⟨1,by simp only[ex,DF]⟩
theorem pU.two (B:List IT):pU B (B++[.v B.length,.v (B.length+1)]):=by
 refine⟨by simp,fun n hn=>xq _ hn,fun n h1 h2=>Ij h1 (by simpa using h2),fun h t ht=>?_,fun hs h n hn=>?_⟩
 ·rw[ab7];rcases ab1.1 ht with h1|h1
  ·exact fq (by omega) (h t h1)
  ·simp at h1;rcases h1 with rfl|rfl<;>simp[Av.sc]
 ·by_cases h1:n<B.length
  ·obtain⟨k,hk⟩:=h n h1;exact⟨k,xr _ hs (by simpa[Av.sc]using h1) hk⟩
  ·have h2:n<B.length+2:=by simpa using hn
   exact⟨1,by simp only[ex,Ij (show B.length<=n by omega) h2]⟩
structure Ag (B:List IT):Prop where
 sc:s8 B
 zh:FW B
theorem Kf {k:Nat} {B B':List IT} {a b:IT} {q:Bool} (hB:Ag B) (ha:sc B.length a=true) (hb:sc B.length b=true) (h:jx k B a b=some (B',q)):FW B':=by
 obtain⟨ka,Fm⟩:=hB.zh.all ha;obtain⟨j,B2,q2,h2,h3,_⟩:=zg (nfree B) ka B a b (abV _) hB.sc hB.zh ha hb Fm;have h4:=pT (abU k j) h;rw[pT (abT k j) h2]at h4;cases h4;exact h3
theorem ll {k:Nat} {B B':List IT} {a b:IT} (hB:Ag B) (ha:sc B.length a=true) (hb:sc B.length b=true) (h:kQ k B a b=some (some B')):Ag B'/\B'.length=B.length:=by
 simp only[kQ]at h;split at h
 ·simp at h
 ·rename_i hu;simp at h;subst h;obtain⟨h1,h2⟩:=xn hB.sc ha hb hu;exact⟨⟨h1,Kf hB ha hb hu⟩,h2⟩
 ·simp at h
theorem iM {k j:Nat} {B:List IT} {a b:IT} {r:Option (List IT)} (hk:k<=j) (h:kQ k B a b=some r):kQ j B a b=some r:=by
 simp only[kQ]at h⊢;split at h
 ·simp at h
 ·rename_i hu;rw[pT hk hu];exact h
 ·rename_i hu;rw[pT hk hu];exact h
theorem jO {B:List IT} {a b:IT} (hB:Ag B) (ha:sc B.length a=true) (hb:sc B.length b=true):∃k r,kQ k B a b=some r:=by
 obtain⟨ka,Fm⟩:=hB.zh.all ha;obtain⟨j,B2,q2,h2,_,_⟩:=zg (nfree B) ka B a b (abV _) hB.sc hB.zh ha hb Fm;refine⟨j,?_⟩;simp only[kQ,h2];cases q2<;>exact⟨_,rfl⟩
structure Vh (B B':List IT) (t:IT):Prop where
 ok:Ag B'
 le:B.length<=B'.length
 len:B'.length<=B.length+2
 Kg:Av.sc B'.length t=true
theorem Ah {k:Nat} {kd:Int} {B B':List IT} {ts:List IT} {t:IT} (hB:Ag B) (bZ:∀u∈ts,sc B.length u=true) (h:jl k kd B ts=some (some (B',t))):Vh B B' t:=by
 have La:Ag (B++[.v B.length,.v (B.length+1)]):=⟨(pU.two B).sc hB.sc,(pU.two B).zh hB.sc hB.zh⟩;have uQ:(B++[IT.v B.length,IT.v (B.length+1)]).length=B.length+2:=by simp
 have up:∀{u:IT},sc B.length u=true->sc (B++[IT.v B.length,IT.v (B.length+1)]).length u=true:=fun h=>fq (by omega) h
 simp only[jl]at h;split at h
 ·simp at h;obtain⟨rfl,rfl⟩:=h;exact⟨hB,abV _,by omega,rfl⟩
 split at h
 ·simp at h;obtain⟨rfl,rfl⟩:=h;exact⟨hB,abV _,by omega,rfl⟩
 split at h
 ·rename_i x;have hx:=bZ x (by simp);split at h
  ·simp only[aca]at h;obtain⟨r,h1,B2,rfl,h2⟩:=h;cases h2
   obtain⟨h3,h4⟩:=ll La (up hx) (by simp[sc]) h1;exact⟨h3,by omega,by omega,by simp[sc];split<;>omega⟩
  ·simp at h
 ·rename_i x y;have hx:=bZ x (by simp);have hy:=bZ y (by simp);split at h
  ·simp at h;obtain⟨rfl,rfl⟩:=h;exact⟨hB,abV _,by omega,by simp[sc,hx,hy]⟩
  split at h
  ·simp only[aca]at h;obtain⟨r,h1,B2,rfl,h2⟩:=h;cases h2
   obtain⟨h3,h4⟩:=ll La (up hx) (by have:=up hy;simp[sc]at this⊢;exact this) h1;exact⟨h3,by omega,by omega,by simp[sc];omega⟩
  split at h
  ·split at h
   ·rename_i B1 h1;obtain⟨h2,h3⟩:=ll hB hx rfl h1;simp only[aca]at h;obtain⟨r,h4,B2,rfl,h5⟩:=h;cases h5
    obtain⟨h6,h7⟩:=ll h2 (by rw[h3];exact hy) rfl h4;exact⟨h6,by omega,by omega,rfl⟩
   ·simp at h
   ·simp at h
  ·simp at h
 ·rename_i x y z;have hx:=bZ x (by simp);have hy:=bZ y (by simp);have hz:=bZ z (by simp);split at h
  ·split at h
   ·rename_i B1 h1;obtain⟨h2,h3⟩:=ll hB hx rfl h1;simp only[aca]at h;obtain⟨r,h4,B2,rfl,h5⟩:=h;cases h5
    obtain⟨h6,h7⟩:=ll h2 (by rw[h3];exact hy) (by rw[h3];exact hz) h4;exact⟨h6,by omega,by omega,by rw[h7,h3];exact hy⟩
   ·simp at h
   ·simp at h
  ·simp at h
 ·simp at h
theorem rC {kd:Int} {B:List IT} {ts:List IT} (hB:Ag B) (bZ:∀u∈ts,sc B.length u=true):∃k r,jl k kd B ts=some r:=by
 have La:Ag (B++[.v B.length,.v (B.length+1)]):=⟨(pU.two B).sc hB.sc,(pU.two B).zh hB.sc hB.zh⟩;have uQ:(B++[IT.v B.length,IT.v (B.length+1)]).length=B.length+2:=by simp
 have up:∀{u:IT},sc B.length u=true->sc (B++[IT.v B.length,IT.v (B.length+1)]).length u=true:=fun h=>fq (by omega) h
 simp only[jl];split
 ·exact⟨0,_,rfl⟩
 split
 ·exact⟨0,_,rfl⟩
 split
 ·rename_i x;have hx:=bZ x (by simp);split
  ·obtain⟨k,r,h⟩:=jO La (up hx) (b:=.p 5 (.v B.length) (.v (B.length+1))) (by simp[sc]);exact⟨k,_,by rw[h];rfl⟩
  ·exact⟨0,_,rfl⟩
 ·rename_i x y;have hx:=bZ x (by simp);have hy:=bZ y (by simp);split
  ·exact⟨0,_,rfl⟩
  split
  ·obtain⟨k,r,h⟩:=jO La (up hx) (b:=.p 4 y (.v B.length)) (by have:=up hy;simp[sc]at this⊢;exact this);exact⟨k,_,by rw[h];rfl⟩
  split
  ·obtain⟨k,r,h⟩:=jO hB hx (b:=.b 2) rfl;cases r with
   |none=>exact⟨k,none,by rw[h]⟩
   |some B1=>
    obtain⟨h2,h3⟩:=ll hB hx rfl h;obtain⟨j,r,h4⟩:=jO h2 (a:=y) (b:=.b 2) (by rw[h3];exact hy) rfl;exact⟨max k j,_,by rw[iM (abU k j) h];simp only;rw[iM (abT k j) h4];rfl⟩
  ·exact⟨0,_,rfl⟩
 ·rename_i x y z;have hx:=bZ x (by simp);have hy:=bZ y (by simp);have hz:=bZ z (by simp);split
  ·obtain⟨k,r,h⟩:=jO hB hx (b:=.b 3) rfl;cases r with
   |none=>exact⟨k,none,by rw[h]⟩
   |some B1=>
    obtain⟨h2,h3⟩:=ll hB hx rfl h;obtain⟨j,r,h4⟩:=jO h2 (a:=y) (b:=z) (by rw[h3];exact hy) (by rw[h3];exact hz);exact⟨max k j,_,by rw[iM (abU k j) h];simp only;rw[iM (abT k j) h4];rfl⟩
  ·exact⟨0,_,rfl⟩
 ·exact⟨0,_,rfl⟩
theorem qm {k j:Nat} {kd:Int} {B:List IT} {ts:List IT} {r:Option (List IT×IT)} (hk:k<=j) (h:jl k kd B ts=some r):jl j kd B ts=some r:=by
 simp only[jl]at h⊢;split
 ·rename_i h1;rw[if_pos h1]at h;exact h
 rename_i h1;rw[if_neg h1]at h;split
 ·rename_i h2;rw[if_pos h2]at h;exact h
 rename_i h2;rw[if_neg h2]at h;split
 ·simp only at h;split
  ·rename_i h3;rw[if_pos h3]at h;simp only[aca]at h;obtain⟨q,h4,rfl⟩:=h;rw[iM hk h4];rfl
  ·rename_i h3;rw[if_neg h3]at h;exact h
 ·simp only at h;split
  ·rename_i h3;rw[if_pos h3]at h;exact h
  rename_i h3;rw[if_neg h3]at h;split
  ·rename_i h4;rw[if_pos h4]at h;simp only[aca]at h;obtain⟨q,h5,rfl⟩:=h;rw[iM hk h5];rfl
  rename_i h4;rw[if_neg h4]at h;split
  ·rename_i h5;rw[if_pos h5]at h;split at h
   ·rename_i B1 h6;rw[iM hk h6];simp only[aca]at h⊢;obtain⟨q,h7,h8⟩:=h;exact⟨q,iM hk h7,h8⟩
   ·simp at h
   ·rename_i h6;rw[iM hk h6];exact h
  ·rename_i h5;rw[if_neg h5]at h;exact h
 ·simp only at h;split
  ·rename_i h5;rw[if_pos h5]at h;split at h
   ·rename_i B1 h6;rw[iM hk h6];simp only[aca]at h⊢;obtain⟨q,h7,h8⟩:=h;exact⟨q,iM hk h7,h8⟩
   ·simp at h
   ·rename_i h6;rw[iM hk h6];exact h
  ·rename_i h5;rw[if_neg h5]at h;exact h
 ·rename_i h3 h4 h5
  match ts,h3,h4,h5,h with
  |[],_,_,_,h=>exact h
  |[_],h3,_,_,_=>exact absurd rfl (h3 _)
  |[_,_],_,h4,_,_=>exact absurd rfl (h4 _ _)
  |[_,_,_],_,_,h5,_=>exact absurd rfl (h5 _ _ _)
  |_::_::_::_::_,_,_,_,h=>exact h
theorem inf_le {k j:Nat} (hk:k<=j) {e:ao} (he:Ba e):∀{B ls:List IT} {ns:List UInt8} {ts:List IT} {r:Option (List IT×List IT×IT)},inf k e B ls ns ts=some r->inf j e B ls ns ts=some r:=by
 induction he with
 |var c=>intro B ls ns ts r h;rw[mi]at h⊢;exact h
 |num n=>intro B ls ns ts r h;rw[vJ]at h⊢;exact h
 |uK=>intro B ls ns ts r h;rw[vK]at h⊢;exact h
 |uL=>intro B ls ns ts r h;rw[vL]at h⊢;exact h
 |lam _ ih=>
  intro B ls ns ts r h;rw[oz]at h⊢;simp only[aca]at h;obtain⟨q,h1,rfl⟩:=h;rw[ih h1];rfl
 |n1 ia _ ih=>
  intro B ls ns ts r h;rw[xo _ _ _ _ _ ia]at h⊢;split at h
  ·rename_i B1 ls1 t h1;rw[ih h1];simp only[aca]at h⊢;obtain⟨q,h2,h3⟩:=h;exact⟨q,qm hk h2,h3⟩
  ·simp at h
  ·rename_i h1;rw[ih h1];exact h
 |n2 ia _ _ iha ihb=>
  intro B ls ns ts r h;rw[ue _ _ _ _ _ ia]at h⊢;split at h
  ·rename_i B1 ls1 t h1;rw[iha h1];simp only;split at h
   ·rename_i B2 ls2 u h2;rw[ihb h2];simp only[aca]at h⊢;obtain⟨q,h3,h4⟩:=h;exact⟨q,qm hk h3,h4⟩
   ·simp at h
   ·rename_i h2;rw[ihb h2];exact h
  ·simp at h
  ·rename_i h1;rw[iha h1];exact h
 |ite _ _ _ iha ihb ihc=>
  intro B ls ns ts r h;rw[rA]at h⊢;split at h
  ·rename_i B1 ls1 t h1;rw[iha h1];simp only;split at h
   ·rename_i B2 ls2 u h2;rw[ihb h2];simp only;split at h
    ·rename_i B3 ls3 v h3;rw[ihc h3];simp only[aca]at h⊢;obtain⟨q,h4,h5⟩:=h;exact⟨q,qm hk h4,h5⟩
    ·simp at h
    ·rename_i h3;rw[ihc h3];exact h
   ·simp at h
   ·rename_i h2;rw[ihb h2];exact h
  ·simp at h
  ·rename_i h1;rw[iha h1];exact h
structure TE (e:ao) (B ls:List IT) (B' ls':List IT) (t:IT):Prop where
 ok:Ag B'
 le:B.length<=B'.length
 len:B'.length<=B.length+2*aU e
 Kg:Av.sc B'.length t=true
 O7:∃new,ls'=ls++new/\new.length=(aF e).length/\∀u∈new,Av.sc B'.length u=true
structure DG (B:List IT) (ns:List UInt8) (ts:List IT):Prop where
 len:ts.length=ns.length
 I6:∀u∈ts,Av.sc B.length u=true
theorem DG.le {B C:List IT} {ns:List UInt8} {ts:List IT} (h:DG B ns ts) (hl:B.length<=C.length):DG C ns ts:=⟨h.len,fun u hu=>fq hl (h.I6 u hu)⟩
theorem pV {k:Nat} {e:ao} (he:Ba e):∀{B ls B' ls':List IT} {ns:List UInt8} {ts:List IT} {t:IT},Ag B->DG B ns ts->inf k e B ls ns ts=some (some (B',ls',t))->TE e B ls B' ls' t:=by
 induction he with
 |var c=>
  intro B ls B' ls' ns ts t hB hc h;rw[mi]at h;simp only[Option.some.injEq]at h;split at h
  ·simp only[aca]at h;obtain⟨u,h1,h2⟩:=h;cases h2
   exact⟨hB,abV _,by omega,hc.I6 _ (ab3 h1),[],by simp,by simp[aF,az,bx],by simp⟩
  ·simp at h
 |num n=>intro B ls B' ls' ns ts t hB hc h;rw[vJ]at h;cases h;exact⟨hB,abV _,by omega,rfl,[],by simp,by simp[aF,az,bx],by simp⟩
 |uK=>intro B ls B' ls' ns ts t hB hc h;rw[vK]at h;cases h;exact⟨hB,abV _,by omega,rfl,[],by simp,by simp[aF,az,bx],by simp⟩
 |uL=>intro B ls B' ls' ns ts t hB hc h;rw[vL]at h;cases h;exact⟨hB,abV _,by omega,rfl,[],by simp,by simp[aF,az,bx],by simp⟩
 | @lam c ty b _ ih=>
  intro B ls B' ls' ns ts t hB hc h;rw[oz]at h;simp only[aca]at h;obtain⟨q,h1,r,rfl,h2⟩:=h;obtain⟨B1,ls1,u⟩:=r;cases h2
  dsimp only;have hN:=pU.one B;have hl:(B++[IT.v B.length]).length=B.length+1:=by simp
  obtain⟨g1,g2,g3,g4,new,rfl,g5,g6⟩:=ih ⟨hN.sc hB.sc,hN.zh hB.sc hB.zh⟩ ⟨by simp[hc.len],fun u hu=>by
   rcases ab1.1 hu with q|q
   ·exact fq hN.le (hc.I6 u q)
   ·simp at q;subst q;simp[sc]⟩ h1
  refine⟨g1,by omega,by simp[aU,bq];omega,by simp[sc,g4];omega,.v B.length::new,by simp,by simp[aF,az,bx,g5],fun u hu=>?_⟩;rcases ab2.1 hu with rfl|q
  ·simp[sc];omega
  ·exact g6 u q
 | @n1 kd a ia _ ih=>
  intro B ls B' ls' ns ts t hB hc h;rw[xo _ _ _ _ _ ia]at h;split at h
  ·rename_i B1 ls1 u h1;obtain⟨g1,g2,g3,g4,new,rfl,g5,g6⟩:=ih hB hc h1;simp only[aca]at h;obtain⟨q,h2,r,rfl,h3⟩:=h;obtain⟨B2,w⟩:=r;cases h3
   dsimp only;obtain⟨k1,k2,k3,k4⟩:=Ah g1 (by simpa using g4) h2;have h5:bx kd=false:=by rcases ia with rfl|rfl<;>rfl
   exact⟨k1,by omega,by simp[aU,bq];omega,k4,new,rfl,by simp[aF,az,h5,g5],fun u hu=>fq k2 (g6 u hu)⟩
  ·simp at h
  ·simp at h
 | @n2 kd a b ia _ _ iha ihb=>
  intro B ls B' ls' ns ts t hB hc h;rw[ue _ _ _ _ _ ia]at h;split at h
  ·rename_i B1 ls1 u h1;obtain⟨g1,g2,g3,g4,new,rfl,g5,g6⟩:=iha hB hc h1;split at h
   ·rename_i B2 ls2 v h2;obtain⟨p1,p2,p3,p4,FY,rfl,p5,p6⟩:=ihb g1 (hc.le g2) h2;simp only[aca]at h;obtain⟨q,h2,r,rfl,h3⟩:=h;obtain⟨B3,w⟩:=r;cases h3
    dsimp only;obtain⟨k1,k2,k3,k4⟩:=Ah p1 (by simp;exact⟨fq p2 g4,p4⟩) h2;have h5:bx kd=false:=by rcases ia with rfl|rfl|rfl|rfl<;>rfl
    refine⟨k1,by omega,by simp[aU,bq];omega,k4,new++FY,by simp,by simp[aF,az,h5,g5,p5],fun u hu=>?_⟩;rcases ab1.1 hu with q|q
    ·exact fq (by omega) (g6 u q)
    ·exact fq k2 (p6 u q)
   ·simp at h
   ·simp at h
  ·simp at h
  ·simp at h
 | @ite a b c _ _ _ iha ihb ihc=>
  intro B ls B' ls' ns ts t hB hc h;rw[rA]at h;split at h
  ·rename_i B1 ls1 u h1;obtain⟨g1,g2,g3,g4,new,rfl,g5,g6⟩:=iha hB hc h1;split at h
   ·rename_i B2 ls2 v h2;obtain⟨p1,p2,p3,p4,FY,rfl,p5,p6⟩:=ihb g1 (hc.le g2) h2;split at h
    ·rename_i B3 ls3 w h3;obtain⟨r1,r2,r3,r4,new3,rfl,r5,r6⟩:=ihc p1 (hc.le (by omega)) h3;simp only[aca]at h;obtain⟨q,h2,r,rfl,h3⟩:=h;obtain⟨B4,w⟩:=r;cases h3
     dsimp only;obtain⟨k1,k2,k3,k4⟩:=Ah r1 (by simp;exact⟨fq (by omega) g4,fq r2 p4,r4⟩) h2;refine⟨k1,by omega,by simp[aU,bq];omega,k4,new++FY++new3,by simp,by simp[aF,az,bx,g5,p5,r5],fun u hu=>?_⟩;rcases ab1.1 hu with q|q
     ·rcases ab1.1 q with q|q
      ·exact fq (by omega) (g6 u q)
      ·exact fq (by omega) (p6 u q)
     ·exact fq k2 (r6 u q)
    ·simp at h
    ·simp at h
   ·simp at h
   ·simp at h
  ·simp at h
  ·simp at h
theorem FZ {e:ao} (he:Ba e):∀{B ls:List IT} {ns:List UInt8} {ts:List IT},Ag B->DG B ns ts->∃k r,inf k e B ls ns ts=some r:=by
 induction he with
 |var c=>intro B ls ns ts hB hc;exact⟨0,_,mi _ _ _ _ _ _⟩
 |num n=>intro B ls ns ts hB hc;exact⟨0,_,vJ _ _ _ _ _ _⟩
 |uK=>intro B ls ns ts hB hc;exact⟨0,_,vK _ _ _ _ _⟩
 |uL=>intro B ls ns ts hB hc;exact⟨0,_,vL _ _ _ _ _⟩
 | @lam c ty b _ ih=>
  intro B ls ns ts hB hc;have hN:=pU.one B;obtain⟨k,r,h⟩:=ih (B:=B++[.v B.length]) (ls:=ls++[.v B.length]) (ns:=ns++[c]) (ts:=ts++[.v B.length]) ⟨hN.sc hB.sc,hN.zh hB.sc hB.zh⟩ ⟨by simp[hc.len],fun u hu=>by
   rcases ab1.1 hu with q|q
   ·exact fq hN.le (hc.I6 u q)
   ·simp at q;subst q;simp[sc]⟩
  exact⟨k,_,by rw[oz,h];rfl⟩
 | @n1 kd a ia ha ih=>
  intro B ls ns ts hB hc;obtain⟨k,r,h⟩:=ih hB hc (ls:=ls);cases r with
  |none=>exact⟨k,none,by rw[xo _ _ _ _ _ ia,h]⟩
  |some r=>
   obtain⟨B1,ls1,u⟩:=r;have g:=pV ha hB hc h;obtain⟨j,r,h2⟩:=rC (kd:=kd) g.ok (ts:=[u]) (by simpa using g.Kg);exact⟨max k j,_,by rw[xo _ _ _ _ _ ia,inf_le (abU k j) ha h];simp only;rw[qm (abT k j) h2];rfl⟩
 | @n2 kd a b ia ha hb iha ihb=>
  intro B ls ns ts hB hc;obtain⟨k,r,h⟩:=iha hB hc (ls:=ls);cases r with
  |none=>exact⟨k,none,by rw[ue _ _ _ _ _ ia,h]⟩
  |some r=>
   obtain⟨B1,ls1,u⟩:=r;have g:=pV ha hB hc h;obtain⟨j,r,h2⟩:=ihb g.ok (hc.le g.le) (ls:=ls1);cases r with
   |none=>exact⟨max k j,none,by rw[ue _ _ _ _ _ ia,inf_le (abU k j) ha h];simp only;rw[inf_le (abT k j) hb h2]⟩
   |some r=>
    obtain⟨B2,ls2,v⟩:=r;have g2:=pV hb g.ok (hc.le g.le) h2;obtain⟨i,r,h3⟩:=rC (kd:=kd) g2.ok (ts:=[u,v]) (by simp;exact⟨fq g2.le g.Kg,g2.Kg⟩);exact⟨max (max k j) i,_,by rw[ue _ _ _ _ _ ia,inf_le (by omega) ha h];simp only;rw[inf_le (by omega) hb h2];simp only;rw[qm (abT _ _) h3];rfl⟩
 | @ite a b c ha hb rK iha ihb ihc=>
  intro B ls ns ts hB hc;obtain⟨k,r,h⟩:=iha hB hc (ls:=ls);cases r with
  |none=>exact⟨k,none,by rw[rA,h]⟩
  |some r=>
   obtain⟨B1,ls1,u⟩:=r;have g:=pV ha hB hc h;obtain⟨j,r,h2⟩:=ihb g.ok (hc.le g.le) (ls:=ls1);cases r with
   |none=>exact⟨max k j,none,by rw[rA,inf_le (abU k j) ha h];simp only;rw[inf_le (abT k j) hb h2]⟩
   |some r=>
    obtain⟨B2,ls2,v⟩:=r;have g2:=pV hb g.ok (hc.le g.le) h2;obtain⟨i,r,h3⟩:=ihc g2.ok ((hc.le g.le).le g2.le) (ls:=ls2);cases r with
    |none=>exact⟨max (max k j) i,none,by rw[rA,inf_le (by omega) ha h];simp only;rw[inf_le (by omega) hb h2];simp only;rw[inf_le (by omega) rK h3]⟩
    |some r=>
     obtain⟨B3,ls3,w⟩:=r;have g3:=pV rK g2.ok ((hc.le g.le).le g2.le) h3;obtain⟨m,r,h4⟩:=rC (kd:=9) g3.ok (ts:=[u,v,w]) (by simp;exact⟨fq (Nat.le_trans g2.le g3.le) g.Kg,fq g3.le g2.Kg,g3.Kg⟩);exact⟨max (max (max k j) i) m,_,by rw[rA,inf_le (by omega) ha h];simp only;rw[inf_le (by omega) hb h2];simp only;rw[inf_le (by omega) rK h3];simp only;rw[qm (abT _ _) h4];rfl⟩
theorem RR {α:Type} {l:List α} (h:l.length=2):∃x y,l=[x,y]:=by
 match l,h with
 |[x,y],_=>exact⟨x,y,rfl⟩
theorem RS {α:Type} {l:List α} (h:l.length=3):∃x y z,l=[x,y,z]:=by
 match l,h with
 |[x,y,z],_=>exact⟨x,y,z,rfl⟩
def Kh (k:Int):Option (aI×aI)->aI
 |none=>.mk k []
 |some (x,y)=>.mk k [x,y]
abbrev I7:=FX Kh
abbrev Mo:=Sat Kh
def RT (θ:Nat->aI) (ns:List UInt8) (ts:List IT):List dF:=List.zipWith (fun c t=>⟨[c],I7 θ t⟩) ns ts
theorem Ik {k:Int} (hk:k=11\/k=12) (a:ao) (us:List aI):bG (Ed k a) us=Ed k (bG a us):=by rcases hk with rfl|rfl<;>simp[bG,cX,bx]
theorem Il {k:Int} (hk:k=6\/k=7\/k=8\/k=10) (a b:ao) (us:List aI):bG (AG k a b) us=AG k (bG a us) (bG b (us.drop (aF a).length)):=by rcases hk with rfl|rfl|rfl|rfl<;>simp[bG,cX,bx]
theorem Im (a b c:ao) (us:List aI):bG (Fk a b c) us=Fk (bG a us) (bG b (us.drop (aF a).length)) (bG c (us.drop ((aF a).length+(aF b).length))):=by simp[bG,cX,bx,List.drop_drop]
theorem xt (s:List UInt8) (t:aI) (b:ao):aF (so s t b)=t::aF b:=by simp[aF,az,bx]
theorem zi {k:Int} (hk:k=11\/k=12) (a:ao):aF (Ed k a)=aF a:=by rcases hk with rfl|rfl<;>simp[aF,az,bx]
theorem zj {k:Int} (hk:k=6\/k=7\/k=8\/k=10) (a b:ao):aF (AG k a b)=aF a++aF b:=by rcases hk with rfl|rfl|rfl|rfl<;>simp[aF,az,bx]
theorem zk (a b c:ao):aF (Fk a b c)=aF a++(aF b++aF c):=by simp[aF,az,bx]
def RX (kd:Int) (ts:List aI) (t:aI):Prop:=
 (kd=2/\t=bw)\/((kd=3\/kd=4)/\t=cF)\/(∃x,ts=[.mk 5 [t,x]]/\kd=11)\/(∃x,ts=[.mk 5 [x,t]]/\kd=12)\/(∃x y,ts=[x,y]/\kd=10/\t=.mk 5 [x,y])\/(∃y,ts=[.mk 4 [y,t],y]/\kd=6)\/
  (ts=[bw,bw]/\kd=7/\t=bw)\/(ts=[bw,bw]/\kd=8/\t=cF)\/(ts=[cF,t,t]/\kd=9)
mutual
theorem F0:∀t:aI,bN t t=t
 |.mk k l=>by
  simp only[bN];split
  ·rfl
  ·first
   |rw[rD l]
   |(split;rfl;rw[rD l])
theorem rD:∀l:List aI,jZ l l=l
 |[]=>rfl
 |t::r=>by rw[jZ,F0 t,rD r]
end
mutual
theorem F1:∀t:aI,aG t t=true
 |.mk k l=>by
  simp only[aG];simp[xu l]
theorem xu:∀l:List aI,qd l l=true
 |[]=>rfl
 |t::r=>by simp[qd,F1 t,xu r]
end
inductive DL:aI->aI->Prop
 |int (b:aI):DL bw b
 |base (k:Int):DL (.mk k []) (.mk k [])
 |two {k:Int} {a b a' b':aI}:DL a a'->DL b b'->DL (.mk k [a,b]) (.mk k [a',b'])
def gU:IT->Prop
 |.v _=>True
 |.b k=>k=2\/k=3
 |.p k x y=>(k=4\/k=5)/\gU x/\gU y
structure VZ (θ:Nat->aI) (B ls:List IT) (ns:List UInt8) (ts:List IT) (e:ao) (T:aI):Prop where
 V1:iy T=0
 ex:∃k B' new t θ',inf k e B ls ns ts=some (some (B',ls++new,t))/\Mo θ' B'/\(∀n,n<B.length->θ' n=θ n)/\I7 θ' t=T/\(∀u∈new,ak 4 (I7 θ' u)=true)/\
  ∀θ0,Mo θ0 B'->(∀n,n<B'.length->DL (θ0 n) (θ' n))->eM (RT θ0 ns ts) (bG e (new.map (I7 θ0)))=some (I7 θ0 t)
def Vi (c:List dF):Prop:=∀b∈c,ak 4 b.ty=true/\iy b.ty=0
def eZ (B:List IT) (K:Nat):Nat->IT->Option aI
 |0,_=>none
 |d+1,t=>match hd B K t with
  |.v _=>some bw
  |.b k=>some (.mk k [])
  |.p k x y=>match eZ B K d x with
   |none=>none
   |some X=>match eZ B K d y with
    |none=>none
    |some Y=>some (.mk k [X,Y])
def mC (B:List IT) (K:Nat):List IT->Option (List aI)
 |[]=>some []
 |t::r=>match eZ B K 4 t with
  |none=>none
  |some T=>match mC B K r with
   |none=>none
   |some Ts=>some (T::Ts)
def kY (B:List IT):Prop:=∀t∈B,gU t
theorem Lb {B:List IT} (h:kY B) {n:Nat} {t:IT} (hb:bd B n=some t):gU t:=h t (ab3 (vI hb).1)
theorem oP {B:List IT} (h:kY B):∀{k:Nat} {t:IT},gU t->gU (hd B k t)
 |0,t,ht=>by cases t<;>exact ht
 |k+1,.v n,ht=>by
  simp only[hd];split<;>rename_i hb
  ·exact ht
  ·exact oP h (Lb h hb)
 |k+1,.b _,ht=>ht
 |k+1,.p _ _ _,ht=>ht
theorem kY.set {B:List IT} (h:kY B) {n:Nat} {t:IT} (ht:gU t):kY (B.set n t):=by
 intro u hu;rcases ab6 hu with h1|rfl
 ·exact h u h1
 ·exact ht
theorem mD:∀{k:Nat} {B B':List IT} {a b:IT} {q:Bool},kY B->gU a->gU b->jx k B a b=some (B',q)->kY B'
 |0,B,B',a,b,q,_,_,_,h=>by simp[jx]at h
 |k+1,B,B',a,b,q,hB,ha,hb,h=>by
  rw[jx]at h;split at h
  ·have ub:=oP hB (k:=k) ha;have eV:=oP hB (k:=k) hb;generalize hd B k a=a' at*;generalize hd B k b=b' at*
   match a',b',h with
   |.v n,b',h=>
    simp only at h;split at h
    ·simp at h;obtain⟨rfl,_⟩:=h;exact hB
    ·split at h
     ·simp at h;obtain⟨rfl,_⟩:=h;exact hB
     ·simp at h;obtain⟨rfl,_⟩:=h;exact hB.set eV
   |.b _,.v n,h=>
    simp only at h;split at h
    ·simp at h;obtain⟨rfl,_⟩:=h;exact hB
    ·simp at h;obtain⟨rfl,_⟩:=h;exact hB.set ub
   |.p _ _ _,.v n,h=>
    simp only at h;split at h
    ·simp at h;obtain⟨rfl,_⟩:=h;exact hB
    ·simp at h;obtain⟨rfl,_⟩:=h;exact hB.set ub
   |.b _,.b _,h=>simp at h;obtain⟨rfl,_⟩:=h;exact hB
   |.b _,.p _ _ _,h=>simp at h;obtain⟨rfl,_⟩:=h;exact hB
   |.p _ _ _,.b _,h=>simp at h;obtain⟨rfl,_⟩:=h;exact hB
   |.p i x y,.p j x' y',h=>
    simp only at h;split at h
    ·cases hu:jx k B x x' with
     |none=>rw[hu]at h;simp at h
     |some r=>
      obtain⟨B1,q1⟩:=r;rw[hu]at h;have h1:=mD hB ub.2.1 eV.2.1 hu;cases q1
      ·simp at h;obtain⟨rfl,_⟩:=h;exact h1
      ·exact mD h1 ub.2.2 eV.2.2 h
    ·simp at h;obtain⟨rfl,_⟩:=h;exact hB
  ·simp at h
theorem qn {k:Nat} {B B':List IT} {a b:IT} (hB:kY B) (ha:gU a) (hb:gU b) (h:kQ k B a b=some (some B')):kY B':=by
 simp only[kQ]at h;split at h
 ·simp at h
 ·rename_i hu;simp at h;subst h;exact mD hB ha hb hu
 ·simp at h
theorem kY.app {B C:List IT} (h:kY B) (hC:kY C):kY (B++C):=by
 intro t ht;rcases ab1.1 ht with q|q
 ·exact h t q
 ·exact hC t q
theorem Ki (l:List Nat):kY (l.map IT.v):=by
 intro t ht;obtain⟨n,_,rfl⟩:=List.mem_map.1 ht;trivial
theorem Ai {k:Nat} {kd:Int} {B B':List IT} {ts:List IT} {t:IT} (hB:kY B) (bZ:∀u∈ts,gU u) (h:jl k kd B ts=some (some (B',t))):kY B'/\gU t:=by
 have La:kY (B++[.v B.length,.v (B.length+1)]):=hB.app (Ki [_,_]);simp only[jl]at h;split at h
 ·simp at h;obtain⟨rfl,rfl⟩:=h;exact⟨hB,.inl rfl⟩
 split at h
 ·simp at h;obtain⟨rfl,rfl⟩:=h;exact⟨hB,.inr rfl⟩
 split at h
 ·rename_i x;have hx:=bZ x (by simp);split at h
  ·simp only[aca]at h;obtain⟨r,h1,B2,rfl,h2⟩:=h;cases h2
   exact⟨qn La hx (show gU (.p 5 (.v _) (.v _))from⟨.inr rfl,trivial,trivial⟩) h1,trivial⟩
  ·simp at h
 ·rename_i x y;have hx:=bZ x (by simp);have hy:=bZ y (by simp);split at h
  ·simp at h;obtain⟨rfl,rfl⟩:=h;exact⟨hB,.inr rfl,hx,hy⟩
  split at h
  ·simp only[aca]at h;obtain⟨r,h1,B2,rfl,h2⟩:=h;cases h2
   exact⟨qn La hx (show gU (.p 4 y (.v _))from⟨.inl rfl,hy,trivial⟩) h1,trivial⟩
  split at h
  ·split at h
   ·rename_i B1 h1;simp only[aca]at h;obtain⟨r,h4,B2,rfl,h5⟩:=h;cases h5
    refine⟨qn (qn hB hx (show gU (.b 2)from .inl rfl) h1) hy (show gU (.b 2)from .inl rfl) h4,?_⟩;simp only[gU];split<;>omega
   ·simp at h
   ·simp at h
  ·simp at h
 ·rename_i x y z;have hx:=bZ x (by simp);have hy:=bZ y (by simp);have hz:=bZ z (by simp);split at h
  ·split at h
   ·rename_i B1 h1;simp only[aca]at h;obtain⟨r,h4,B2,rfl,h5⟩:=h;cases h5
    exact⟨qn (qn hB hx (show gU (.b 3)from .inr rfl) h1) hy hz h4,hy⟩
   ·simp at h
   ·simp at h
  ·simp at h
 ·simp at h
theorem Io {k:Nat} {e:ao} (he:Ba e):∀{B ls B' ls':List IT} {ns:List UInt8} {ts:List IT} {t:IT},kY B->kY ls->kY ts->inf k e B ls ns ts=some (some (B',ls',t))->kY B'/\kY ls'/\gU t:=by
 induction he with
 |var c=>
  intro B ls B' ls' ns ts t hB hl hc h;rw[mi]at h;simp only[Option.some.injEq]at h;split at h
  ·simp only[aca]at h;obtain⟨u,h1,h2⟩:=h;cases h2
   exact⟨hB,hl,hc _ (ab3 h1)⟩
  ·simp at h
 |num n=>intro B ls B' ls' ns ts t hB hl hc h;rw[vJ]at h;cases h;exact⟨hB,hl,.inl rfl⟩
 |uK=>intro B ls B' ls' ns ts t hB hl hc h;rw[vK]at h;cases h;exact⟨hB,hl,.inr rfl⟩
 |uL=>intro B ls B' ls' ns ts t hB hl hc h;rw[vL]at h;cases h;exact⟨hB,hl,.inr rfl⟩
 | @lam c ty b _ ih=>
  intro B ls B' ls' ns ts t hB hl hc h;rw[oz]at h;simp only[aca]at h;obtain⟨q,h1,r,rfl,h2⟩:=h;cases h2
  obtain⟨g1,g2,g3⟩:=ih (hB.app (Ki [_])) (hl.app (Ki [_])) (hc.app (Ki [_])) h1;exact⟨g1,g2,.inl rfl,trivial,g3⟩
 | @n1 kd a ia ha ih=>
  intro B ls B' ls' ns ts t hB hl hc h;rw[xo _ _ _ _ _ ia]at h;split at h
  ·rename_i B1 ls1 u h1;obtain⟨g1,g2,g3⟩:=ih hB hl hc h1;simp only[aca]at h;obtain⟨q,h2,r,rfl,h3⟩:=h;obtain⟨B2,w⟩:=r;cases h3
   obtain⟨k1,k2⟩:=Ai g1 (by simpa using g3) h2;exact⟨k1,g2,k2⟩
  ·simp at h
  ·simp at h
 | @n2 kd a b ia ha hb iha ihb=>
  intro B ls B' ls' ns ts t hB hl hc h;rw[ue _ _ _ _ _ ia]at h;split at h
  ·rename_i B1 ls1 u h1;obtain⟨g1,g2,g3⟩:=iha hB hl hc h1;split at h
   ·rename_i B2 ls2 v h2;obtain⟨p1,p2,p3⟩:=ihb g1 g2 hc h2;simp only[aca]at h;obtain⟨q,h3,r,rfl,h4⟩:=h;obtain⟨B3,w⟩:=r;cases h4
    obtain⟨k1,k2⟩:=Ai p1 (by simp;exact⟨g3,p3⟩) h3;exact⟨k1,p2,k2⟩
   ·simp at h
   ·simp at h
  ·simp at h
  ·simp at h
 | @ite a b c ha hb rK iha ihb ihc=>
  intro B ls B' ls' ns ts t hB hl hc h;rw[rA]at h;split at h
  ·rename_i B1 ls1 u h1;obtain⟨g1,g2,g3⟩:=iha hB hl hc h1;split at h
   ·rename_i B2 ls2 v h2;obtain⟨p1,p2,p3⟩:=ihb g1 g2 hc h2;split at h
    ·rename_i B3 ls3 w h3;obtain⟨r1,r2,r3⟩:=ihc p1 p2 hc h3;simp only[aca]at h;obtain⟨q,h4,r,rfl,h5⟩:=h;obtain⟨B4,w⟩:=r;cases h5
     obtain⟨k1,k2⟩:=Ai r1 (by simp;exact⟨g3,p3,r3⟩) h4;exact⟨k1,r2,k2⟩
    ·simp at h
    ·simp at h
   ·simp at h
   ·simp at h
  ·simp at h
  ·simp at h
def DH (B:List IT):Nat->IT->aI
 |k+1,.v n=>match bd B n with
  |none=>bw
  |some t=>DH B k t
 |0,.v _=>bw
 |_,.b k=>.mk k []
 |0,.p _ _ _=>bw
 |j+1,.p k x y=>.mk k [DH B j x,DH B j y]
theorem lL {B:List IT}:∀{k j:Nat} {t:IT},ex B k t=true->k<=j->DH B j t=DH B k t
 |0,j,t,h,_=>by simp[ex]at h
 |k+1,j+1,.v m,h,hj=>by
  simp only[ex]at h;simp only[DH];split<;>rename_i hb
  ·rfl
  ·rw[hb]at h;exact lL h (by omega)
 |k+1,j+1,.b _,_,_=>rfl
 |k+1,j+1,.p _ x y,h,hj=>by
  rw[ex,abS]at h;simp only[DH,lL h.1 (show k<=j by omega),lL h.2 (show k<=j by omega)]
theorem Ip {B:List IT} (h:FW B):∃K,∀n,n<B.length->ex B K (.v n)=true:=by
 have:∀m,m<=B.length->∃K,∀n,n<m->ex B K (.v n)=true:=by
  intro m;induction m with
  |zero=>intro _;exact⟨0,fun n hn=>by omega⟩
  |succ m ih=>
   intro hm;obtain⟨K1,h1⟩:=ih (by omega);obtain⟨K2,h2⟩:=h m (by omega);refine⟨max K1 K2,fun n hn=>?_⟩;by_cases e:n=m
   ·subst e;exact oN (abT _ _) h2
   ·exact oN (abU _ _) (h1 n (by omega))
 exact this B.length (abV _)
def Fuel (B:List IT) (K:Nat):Prop:=∀n,n<B.length->ex B K (.v n)=true
def Gy (B:List IT) (K:Nat) (n:Nat):aI:=DH B K (.v n)
theorem DI {B:List IT} {K:Nat} (hB:s8 B) (hK:Fuel B K):∀{t:IT} {j:Nat},sc B.length t=true->ex B j t=true->I7 (Gy B K) t=DH B j t
 |.v n,j,hs,hx=>by
  have hn:n<B.length:=by simpa[sc]using hs
  show DH B K (.v n)=_;rw[<-lL (hK n hn) (abU K j),<-lL hx (abT K j)]
 |.b k,j+1,_,_=>rfl
 |.b k,0,_,hx=>by simp[ex]at hx
 |.p k x y,j+1,hs,hx=>by
  rw[sc,abS]at hs;rw[ex,abS]at hx;simp only[FX,Kh,DH];rw[show FX Kh (Gy B K) x=_ from DI hB hK hs.1 hx.1,show FX Kh (Gy B K) y=_ from DI hB hK hs.2 hx.2]
 |.p k x y,0,_,hx=>by simp[ex]at hx
theorem Kj {B:List IT} {K:Nat} (hB:s8 B) (hK:Fuel B K):Mo (Gy B K) B:=by
 intro n t hb;have hn:n<B.length:=(List.getElem?_eq_some_iff.1 (vI hb).1).1;have hx:=hK n hn;cases K with
 |zero=>simp[ex]at hx
 |succ K=>
  simp only[ex,hb]at hx;rw[show FX Kh (Gy B (K+1)) t=_ from DI hB hK (EA hB hb) hx];show DH B (K+1) (.v n)=_;simp only[DH,hb]
theorem Iq {B:List IT} {K n:Nat} (hf:bd B n=none):Gy B K n=bw:=by
 show DH B K (.v n)=_;cases K with
 |zero=>rfl
 |succ K=>simp only[DH,hf]
theorem oA {B:List IT} {K:Nat} (hK:Fuel B K):∀{t:IT},sc B.length t=true->∃j,ex B j t=true
 |.v n,hs=>⟨K,hK n (by simpa[sc]using hs)⟩
 |.b _,_=>⟨1,rfl⟩
 |.p c x y,ht=>by
  rw[sc,abS]at ht;obtain⟨k1,h1⟩:=oA hK ht.1;obtain⟨k2,h2⟩:=oA hK ht.2;exact⟨max k1 k2+1,by rw[ex,abS];exact⟨oN (abU _ _) h1,oN (abT _ _) h2⟩⟩
theorem Aj {B:List IT} {K:Nat} (hK:Fuel B K):∀{t:IT},sc B.length t=true->Kc B (hd B K t)
 |.v n,hs=>jy (hK n (by simpa[sc]using hs))
 |.b _,_=>by intro n e;cases K<;>simp[hd]at e
 |.p _ _ _,_=>by intro n e;cases K<;>simp[hd]at e
theorem uf {B:List IT} {K:Nat} (hB:s8 B) (nG:kY B) (hK:Fuel B K):∀{d:Nat} {t:IT} {T:aI},sc B.length t=true->gU t->eZ B K d t=some T->T=I7 (Gy B K) t/\ak d T=true/\iy T=0
 |0,t,T,_,_,h=>by simp[eZ]at h
 |d+1,t,T,hs,hk,h=>by
  have h1:I7 (Gy B K) (hd B K t)=I7 (Gy B K) t:=K9 (Kj hB hK);have h2:=Aj hK hs;have h3:=oO hB (k:=K) hs;have h4:=oP nG (k:=K) hk;simp only[eZ]at h;generalize hd B K t=u at*;cases u with
  |v n=>
   simp at h;subst h;exact⟨by rw[<-h1];exact(Iq (h2 n rfl)).symm,(n0.int d).shape,rfl⟩
  |b k=>
   simp at h;subst h;refine⟨by rw[<-h1];rfl,?_⟩;rcases h4 with rfl|rfl
   ·exact⟨(n0.int d).shape,rfl⟩
   ·exact⟨(n0.bool d).shape,rfl⟩
  |p k x y=>
   rw[sc,abS]at h3;simp only at h;split at h
   ·simp at h
   ·rename_i X hX;split at h
    ·simp at h
    ·rename_i Y hY;simp at h;subst h;obtain⟨a1,a2,a3⟩:=uf hB nG hK h3.1 h4.2.1 hX;obtain⟨b1,b2,b3⟩:=uf hB nG hK h3.2 h4.2.2 hY;refine⟨by rw[<-h1];simp only[FX,Kh];rw[show FX Kh (Gy B K) x=X from a1.symm,show FX Kh (Gy B K) y=Y from b1.symm],?_⟩;rcases h4.1 with rfl|rfl
     ·exact⟨(n0.fn (n0.of a2) (n0.of b2)).shape,by rw[Et (by omega)];omega⟩
     ·exact⟨(n0.pair (n0.of a2) (n0.of b2)).shape,by rw[Et (by omega)];omega⟩
theorem qo {B:List IT} {K:Nat} (hB:s8 B) (nG:kY B) (hK:Fuel B K):∀{l:List IT} {Ts:List aI},(∀t∈l,sc B.length t=true)->kY l->mC B K l=some Ts->Ts=l.map (I7 (Gy B K))/\∀T∈Ts,ak 4 T=true/\iy T=0
 |[],Ts,_,_,h=>by simp[mC]at h;subst h;simp
 |t::r,Ts,hs,hk,h=>by
  simp only[mC]at h;split at h
  ·simp at h
  ·rename_i T hT;split at h
   ·simp at h
   ·rename_i R hR;simp at h;subst h;obtain⟨a1,a2⟩:=uf hB nG hK (hs t (by simp)) (hk t (by simp)) hT;obtain⟨b1,b2⟩:=qo hB nG hK (fun u hu=>hs u (by simp[hu])) (fun u hu=>hk u (by simp[hu])) hR;refine⟨by rw[List.map_cons,<-a1,<-b1],fun U hU=>?_⟩;rcases ab2.1 hU with rfl|q
    ·exact a2
    ·exact b2 U q
structure Whole (e:ao) (k:Nat) (B ls:List IT) (t:IT):Prop where
 ba:Ba e
 inf:Av.inf k e [] [] [] []=some (some (B,ls,t))
theorem Ak:Ag []:=⟨fun t h=>(by cases h),fun n h=>(by simp at h)⟩
theorem xv:DG [] [] []:=⟨rfl,fun u h=>(by cases h)⟩
theorem Whole.ok {e:ao} {k:Nat} {B ls:List IT} {t:IT} (h:Whole e k B ls t):TE e [] [] B ls t/\kY B/\kY ls/\gU t/\ls.length=(aF e).length/\(∀u∈ls,sc B.length u=true)/\B.length<=2*aU e:=by
 have h1:=pV h.ba Ak xv h.inf;obtain⟨h2,h3,h4⟩:=Io h.ba (B:=[]) (ls:=[]) (ts:=[]) (fun t h=>(by cases h)) (fun t h=>(by cases h)) (fun t h=>(by cases h)) h.inf;obtain⟨new,h5,h6,h7⟩:=h1.O7;rw[List.nil_append]at h5;subst h5;exact⟨h1,h2,h3,h4,h6,h7,by have:=h1.len;simpa using this⟩
def qB (B:List IT):Nat->IT->Nat
 |k+1,.v n=>match bd B n with
  |none=>1
  |some t=>qB B k t
 |k+1,.p _ x y=>1+qB B k x+qB B k y
 |_,_=>1
theorem EB {B:List IT}:∀{k:Nat} {t:IT},1<=qB B k t
 |0,t=>by cases t<;>simp[qB]
 |k+1,.v n=>by
  simp only[qB];split
  ·omega
  ·exact EB
 |k+1,.b _=>by simp[qB]
 |k+1,.p _ x y=>by simp only[qB];omega
theorem gM {B:List IT}:∀{k j:Nat} {t:IT},ex B k t=true->k<=j->qB B j t=qB B k t
 |0,j,t,h,_=>by simp[ex]at h
 |k+1,j+1,.v m,h,hj=>by
  simp only[ex]at h;simp only[qB];split<;>rename_i hb
  ·rfl
  ·rw[hb]at h;exact gM h (by omega)
 |k+1,j+1,.b _,_,_=>rfl
 |k+1,j+1,.p _ x y,h,hj=>by
  rw[ex,abS]at h;simp only[qB,gM h.1 (show k<=j by omega),gM h.2 (show k<=j by omega)]
theorem Ir {B:List IT}:∀{k:Nat} {t:IT},ex B k t=true->qB B k (hd B k t)=qB B k t
 |0,t,h=>by simp[ex]at h
 |k+1,.v m,h=>by
  simp only[ex]at h;simp only[hd];cases hb:bd B m with
  |none=>simp
  |some t=>
   rw[hb]at h;simp only at h⊢;rw[gM (kX h) (abW k),Ir h];simp only[qB,hb]
 |k+1,.b _,h=>rfl
 |k+1,.p _ x y,h=>rfl
def qC (n:Nat):List Nat->Nat
 |[]=>0
 |x::r=>if x=n then 0 else qC n r+1
theorem B7 {n:Nat}:∀{l:List Nat},n∈l->qC n l<l.length/\l[qC n l]? =some n/\∀j,j<qC n l->l[j]? ≠some n
 |x::r,h=>by
  simp only[qC];by_cases e:x=n
  ·rw[if_pos e];subst e;exact⟨by simp,rfl,fun j hj=>by omega⟩
  ·rw[if_neg e];have hr:n∈r:=by
    rcases ab2.1 h with q|q
    ·exact absurd q.symm e
    ·exact q
   obtain⟨h1,h2,h3⟩:=B7 hr;refine⟨by simp;omega,by simpa using h2,fun j hj=>?_⟩;cases j with
   |zero=>simpa using e
   |succ j=>simpa using h3 j (by omega)
theorem EC {n:Nat}:∀{l:List Nat},n∉l->qC n l=l.length
 |[],_=>rfl
 |x::r,h=>by
  simp only[ab2,not_or]at h;simp only[qC];rw[if_neg (fun e=>h.1 e.symm),EC h.2];rfl
def Kk (i:Nat):UInt8:=UInt8.ofNat (97+i)
def vB (B:List IT):Nat->IT->List Nat->List UInt8×List Nat
 |k+1,.v n,seen=>match bd B n with
  |none=>([Kk (qC n seen)],if n∈seen then seen else seen++[n])
  |some t=>vB B k t seen
 |k+1,.p c x y,seen=>(40::((vB B k x seen).1++oM c::((vB B k y (vB B k x seen).2).1++[41])),(vB B k y (vB B k x seen).2).2)
 |_,.b c,seen=>([oM c],seen)
 |0,_,seen=>([],seen)
theorem gN {B:List IT}:∀{k j:Nat} {t:IT} {seen:List Nat},ex B k t=true->k<=j->vB B j t seen=vB B k t seen
 |0,j,t,_,h,_=>by simp[ex]at h
 |k+1,j+1,.v m,seen,h,hj=>by
  simp only[ex]at h;simp only[vB];split<;>rename_i hb
  ·rfl
  ·rw[hb]at h;exact gN h (by omega)
 |k+1,j+1,.b _,_,_,_=>rfl
 |k+1,j+1,.p _ x y,seen,h,hj=>by
  rw[ex,abS]at h;simp only[vB,gN h.1 (show k<=j by omega),gN h.2 (show k<=j by omega)]
theorem Is {B:List IT} {seen:List Nat}:∀{k:Nat} {t:IT},ex B k t=true->vB B k (hd B k t) seen=vB B k t seen
 |0,t,h=>by simp[ex]at h
 |k+1,.v m,h=>by
  simp only[ex]at h;simp only[hd];cases hb:bd B m with
  |none=>simp
  |some t=>
   rw[hb]at h;simp only at h⊢;rw[gN (kX h) (abW k),Is h];simp only[vB,hb]
 |k+1,.b _,h=>rfl
 |k+1,.p _ x y,h=>rfl
def TF (c:UInt8):UInt8:=if 97<=c.toNat/\c.toNat<=122 then 73 else c
def IT.kind:IT->Int
 |.v _=>0
 |.b k=>k
 |.p k _ _=>k
def IT.name:IT->Nat
 |.v n=>n
 |_=>0
def IT.kids:IT->List IT
 |.p _ x y=>[x,y]
 |_=>[]
section
variable (n:Nat) (k:Int) (x y:IT)
@[simp] theorem IT.mE:(IT.v n).kind=0:=rfl
@[simp] theorem IT.gO:(IT.b k).kind=k:=rfl
@[simp] theorem IT.gl:(IT.p k x y).kind=k:=rfl
@[simp] theorem IT.lM:(IT.v n).name=n:=rfl
@[simp] theorem IT.mF:(IT.b k).name=0:=rfl
@[simp] theorem IT.mG:(IT.p k x y).name=0:=rfl
@[simp] theorem IT.mH:(IT.v n).kids=[]:=rfl
@[simp] theorem IT.mI:(IT.b k).kids=[]:=rfl
@[simp] theorem IT.iS:(IT.p k x y).kids=[x,y]:=rfl
end
def oQ:IT->List DV
 |.v n=>[.i 0,.i n,.sl []]
 |.b k=>[.i k,.i 0,.sl []]
 |.p k x y=>[.i k,.i 0,.sl [oQ x,oQ y]]
theorem aq (t:IT):oQ t=[.i t.kind,.i t.name,.sl (t.kids.map oQ)]:=by cases t<;>rfl
@[simp] theorem j6 (t:IT):(oQ t).length=3:=by cases t<;>rfl
theorem kD (n:Nat):oQ (.v n)=[.i 0,.i n,.sl []]:=rfl
theorem ED (k:Int):oQ (.b k)=[.i k,.i 0,.sl []]:=rfl
theorem EE (k:Int) (x y:IT):oQ (.p k x y)=[.i k,.i 0,.sl [oQ x,oQ y]]:=rfl
theorem nk (t:IT):List.drop 3 (oQ t)=[]:=by cases t<;>rfl
abbrev jP (t:IT):AV:=.agg [.d (.i t.kind),.d (.i t.name),.d (.sl (t.kids.map oQ))]
abbrev ie (B ls:List IT):AV:=.agg [.d (.sl (B.map oQ)),.d (.sl (ls.map oQ))]
theorem EF {B:List IT} {k n:Nat} {t:IT} (hb:bd B n=some t):hd B (k+1) (.v n)=hd B k t:=by simp[hd,hb]
theorem EG {B:List IT} {k n:Nat} (hb:bd B n=none):hd B k (.v n)=.v n:=by cases k<;>simp[hd,hb]
theorem jQ {t:IT} (h:gU t) (hv:∀n,t≠.v n):t.kind≠0:=by
 cases t with
 |v n=>exact absurd rfl (hv n)
 |b k=>simp only[gU]at h;simp only[IT.gO];omega
 |p k x y=>simp only[gU]at h;simp only[IT.gl];omega
theorem xw {t:IT} (h:gU t):∀u∈t.kids,gU u:=by
 intro u hu;cases t with
 |v n=>cases hu
 |b k=>cases hu
 |p k x y=>simp only[gU]at h;simp only[IT.iS,ab2,ab5,or_false]at hu;rcases hu with rfl|rfl<;>simp[h]
theorem Al {N:Nat} {t:IT} (h:sc N t=true):∀u∈t.kids,sc N u=true:=by
 intro u hu;cases t with
 |v n=>cases hu
 |b k=>cases hu
 |p k x y=>simp only[sc,abS]at h;simp only[IT.iS,ab2,ab5,or_false]at hu;rcases hu with rfl|rfl<;>simp[h]
theorem It {B:List IT} {n k:Nat} {t:IT} (hx:ex B k t=true) (hv:∀n,t≠.v n):ly B n k t=t.kids.any fun u=>ly B n k u:=by
 cases k with
 |zero=>simp[ex]at hx
 |succ k=>
  cases t with
  |v m=>exact absurd rfl (hv m)
  |b c=>simp[ly]
  |p c x y=>
   simp only[ex,abS]at hx;simp only[ly,IT.iS,List.any_cons,List.any_nil,Bool.or_false];rw[eC hx.1 (abW k),eC hx.2 (abW k)]
def zl (k:Nat) (B:List IT) (n:Nat) (t:IT):List IT×Bool:=if t=.v n then(B,true)else if ly B n k t=true then(B,false)else(B.set n t,true)
theorem Whole.uniq {e:ao} {k k':Nat} {B B' ls ls':List IT} {t t':IT} (h:Whole e k B ls t) (h':Whole e k' B' ls' t'):B=B'/\ls=ls'/\t=t':=by
 have h1:=inf_le (abX k k') h.ba h.inf;have h2:=inf_le (abY k' k) h.ba h'.inf;rw[h1]at h2;simp only[Option.some.injEq,Prod.mk.injEq]at h2;exact h2
theorem Whole.not {e:ao} {k k':Nat} {B ls:List IT} {t:IT} (h:Whole e k B ls t) (h':Av.inf k' e [] [] [] []=some none):False:=by
 have h1:=inf_le (abX k k') h.ba h.inf;have h2:=inf_le (abY k' k) h.ba h';rw[h1]at h2;cases h2
theorem sQ {e:ao} (he:Ba e):(∃k B ls t,Whole e k B ls t)\/∃k,inf k e [] [] [] []=some none:=by
 obtain⟨k,r,hr⟩:=FZ he (B:=[]) (ls:=[]) (ns:=[]) (ts:=[]) Ak xv;cases r with
 |none=>exact .inr ⟨k,hr⟩
 |some r=>obtain⟨B,ls,t⟩:=r;exact .inl ⟨k,B,ls,t,he,hr⟩
theorem Whole.fuel {e:ao} {k:Nat} {B ls:List IT} {t:IT} (h:Whole e k B ls t):∃K,Fuel B K:=by
 obtain⟨h1,_⟩:=h.ok;exact Ip h1.ok.zh
open Classical in
noncomputable def B8 (e:ao):Option (List UInt8):=if h:∃x:Nat×List IT×List IT×IT×Nat,Whole e x.1 x.2.1 x.2.2.1 x.2.2.2.1/\ex x.2.1 x.2.2.2.2 x.2.2.2.1=true/\qB x.2.1 x.2.2.2.2 x.2.2.2.1<=30
 then some (vB h.choose.2.1 h.choose.2.2.2.2 h.choose.2.2.2.1 []).1 else none
theorem F2 {e:ao} {k j:Nat} {B ls:List IT} {t:IT} (h:Whole e k B ls t) (hx:ex B j t=true) (hz:qB B j t<=30):B8 e=some (vB B j t []).1:=by
 have hex:∃x:Nat×List IT×List IT×IT×Nat,Whole e x.1 x.2.1 x.2.2.1 x.2.2.2.1/\ex x.2.1 x.2.2.2.2 x.2.2.2.1=true/\qB x.2.1 x.2.2.2.2 x.2.2.2.1<=30:=⟨(k,B,ls,t,j),h,hx,hz⟩;rw[B8,dif_pos hex];obtain⟨h1,h2,h3⟩:=hex.choose_spec;obtain⟨e1,_,e3⟩:=h.uniq h1;rw[<-e1,<-e3]at h2⊢;rw[<-gN (seen:=[]) h2 (abX _ j),<-gN (seen:=[]) hx (abY j _)]
theorem DJ {e:ao} {k j:Nat} {B ls:List IT} {t:IT} (h:Whole e k B ls t) (hx:ex B j t=true) (hz:¬qB B j t<=30):B8 e=none:=by
 rw[B8,dif_neg];rintro⟨x,h1,h2,h3⟩;obtain⟨e1,_,e3⟩:=h.uniq h1;rw[<-e1,<-e3]at h2 h3;rw[<-gM h2 (abX _ j),gM hx (abY j _)]at h3;exact hz h3
theorem F3 {e:ao} {k:Nat} (h:inf k e [] [] [] []=some none):B8 e=none:=by
 rw[B8,dif_neg];rintro⟨x,h1,_⟩;exact h1.not h
noncomputable def B9 (e:ao):Option (List UInt8):=if aQ e=true then B8 (mapM aM e)else none
end Go.Av
