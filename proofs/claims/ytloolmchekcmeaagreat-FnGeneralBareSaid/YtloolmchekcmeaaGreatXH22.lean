/- A part. -/
import Derived.Test.YtloolmchekcmeaaGreatXH21
set_option linter.unusedVariables false
set_option linter.unusedSimpArgs false
open Bool renaming and_eq_true->WN
open Nat renaming le_max_right->WO,le_max_left->WQ,le_refl->WR,le_succ->WS,le_add_right->WU,le_add_left->WV,add_right_comm->WW,strongRecOn->WX
open List renaming mem_append->WY,mem_of_getElem?->WZ,mem_cons->W0,length_set->W1,length_append->W2,not_mem_nil->W3,mem_or_eq_of_mem_set->W4,countP_cons->W5,countP_append->W6
open Option renaming map_eq_some_iff->W7
namespace Go.Av
attribute [-simp] Go.Av.bO Go.Av.dO Go.Av.ed Go.Av.ec Go.Av.cl Go.Av.cj
open Go
def dj (s:List UInt8) (c:UInt8):Nat->Int
 |0=>-1
 |p+1=>if s[p]? =some c then(p:Int)else dj s c p
def cQ (s:List UInt8) (c:UInt8):Int:=dj s c s.length
theorem lq (s:List UInt8) (c:UInt8):∀p,-1<=dj s c p/\dj s c p<p
 |0=>by simp[dj]
 |p+1=>by
  have:=lq s c p;simp only[dj];split<;>push_cast<;>omega
def Ih (k:Int):Int:=if k=6 then 6 else if k=7 then 7 else if k=8 then 8 else if k=10 then 11 else if k=11 then 12 else 13
def Ii (k:Int) (x n:Int) (cs:List (List zZ)):List zZ:=
 if k=1 then [⟨3,x⟩]else if k=2 then [⟨1,n⟩]else if k=3 then [⟨2,1⟩]else if k=4 then [⟨2,0⟩]
 else if k=5 then(match cs with|[b]=>[⟨4,b.length+1⟩]++b++[⟨5,0⟩]|_=>[])
 else if k=9 then(match cs with|[c,y,z]=>c++[⟨9,y.length+1⟩]++y++[⟨10,z.length⟩]++z|_=>[])
 else cs.flatten++[⟨Ih k,0⟩]
mutual
def Ed (names:List UInt8):an->List zZ
 |.mk k s n _ _ _ l=>Ii k (names.length-1-cQ names (s.headD 0)) n (G7 (if k=5 then names++s else names) l)
def G7 (names:List UInt8):List an->List (List zZ)
 |[]=>[]
 |e::r=>Ed names e::G7 names r
end
inductive zd:List UInt8->an->Prop
 |var {ns:List UInt8} {c:UInt8}:c∈ns->zd ns (rW [c])
 |num {ns:List UInt8} (n:Int):zd ns (uW n)
 |pz {ns:List UInt8}:zd ns nT
 |pA {ns:List UInt8}:zd ns jY
 |lam {ns:List UInt8} {c:UInt8} {t:aH} {b:an}:zd (ns++[c]) b->zd ns (nJ [c] t b)
 |n2 {ns:List UInt8} {k:Int} {a b:an}:k=6\/k=7\/k=8\/k=10->zd ns a->zd ns b->zd ns (xt k a b)
 |ite {ns:List UInt8} {a b c:an}:zd ns a->zd ns b->zd ns c->zd ns (BP a b c)
 |n1 {ns:List UInt8} {k:Int} {a:an}:k=11\/k=12->zd ns a->zd ns (AO k a)
structure NH (ns:List UInt8) (e:an):Prop where
 var:e.kind=1->∃c,e.name=[c]/\c∈ns/\e.kids=[]
 lam:e.kind=5->∃c b,e.name=[c]/\e.kids=[b]
 ite:e.kind=9->∃a b c,e.kids=[a,b,c]
 kind:1<=e.kind/\e.kind<=12
 leaf:e.kind<=4->e.kids=[]
 len:e.kids.length<=3
 QW:e.name.length<=1
 kids:∀u∈e.kids,zd (if e.kind=5 then ns++e.name else ns) u
def KK (e:an):Option (List zZ):=if aR e=true/\lp e=[]then(if vS (Ed [] (mapM aM e))=true then some (Ed [] (mapM aM e))else none)else none
def QY (o:Option (List zZ)):List zZ:=o.getD []
mutual
theorem Ae (z:UInt8):∀(e:an) (bd:List UInt8),aW z bd (mapM bP e)=aW z bd e
 |.mk k s n t f b l,bd=>by
  rw[mapM,bP];split<;>(simp only[aW,an.bT,an.jG,an.bU,rH z l];try rfl)
theorem rH (z:UInt8):∀(l:List an) (bd:List UInt8),cU z bd (ch bP l)=cU z bd l
 |[],bd=>rfl
 |e::r,bd=>by rw[ch,cU,cU,Ae z e,rH z r]
end
theorem Cn {nt:Int} {d:Nat} {e:an} (h:gN nt d e):∀z bd,aW z bd (mapM aM e)=aW z bd e:=by
 induction h with
 |var _ _=>intro z bd;simp[mapM,ch,aM]
 |num _ _ _=>intro z bd;simp[mapM,ch,aM]
 |pz _=>intro z bd;simp[mapM,ch,aM]
 |pA _=>intro z bd;simp[mapM,ch,aM]
 |lam _ _ _ _ ih=>intro z bd;simp[mapM,ch,aM,aW,cU,ih]
 | @n2 d k a b _ hk _ _ iha ihb=>
  intro z bd;have h1:¬(k=13\/k=14):=by omega
  have h2:¬k=5:=by omega
  have h3:¬k=1:=by omega
  simp[mapM,ch,aM,aW,cU,iha,ihb,h1,h2,h3]
 |ite _ _ _ _ ihp iha ihb=>intro z bd;simp[mapM,ch,aM,aW,cU,ihp,iha,ihb]
 | @n1 d k a _ hk _ ih=>
  intro z bd;have h1:¬(k=13\/k=14):=by omega
  have h2:¬k=5:=by omega
  have h3:¬k=1:=by omega
  simp[mapM,ch,aM,aW,cU,ih,h1,h2,h3]
 |asc _ _ _ ih=>intro z bd;simp[mapM,ch,aM,aW,cU,ih]
 |cast _ _ _ _ _ _ ih=>intro z bd;simp[mapM,ch,aM,aW,cU,ih]
mutual
def A7 (bd:List UInt8):an->List UInt8->List UInt8
 |.mk k s _ _ _ _ l,out=>tY (if k=5 then jz (s.headD 0) bd else bd) l (if k=1/\¬s.headD 0∈bd then jz (s.headD 0) out else out)
def tY (bd:List UInt8):List an->List UInt8->List UInt8
 |[],out=>out
 |e::r,out=>tY bd r (A7 bd e out)
end
mutual
theorem Co:∀(e:an) (bd out:List UInt8),(A7 bd e out).length<=out.length+aK e
 |.mk k s n t f b l,bd,out=>by
  rw[A7,aK];have h1:=tZ l (if k=5 then jz (s.headD 0) bd else bd) (if k=1/\¬s.headD 0∈bd then jz (s.headD 0) out else out);have h2:(if k=1/\¬s.headD 0∈bd then jz (s.headD 0) out else out).length<=out.length+1:=by
   split
   ·exact tq _ _
   ·omega
  omega
theorem tZ:∀(l:List an) (bd out:List UInt8),(tY bd l out).length<=out.length+a7 l
 |[],bd,out=>by simp[tY]
 |e::r,bd,out=>by
  rw[tY,a7];have h1:=Co e bd out;have h2:=tZ r bd (A7 bd e out);omega
end
inductive IT where
 |v (n:Nat)
 |b (k:Int)
 |p (k:Int) (x y:IT)
deriving DecidableEq
def bd (B:List IT) (n:Nat):Option IT:=match B[n]? with
 |some t=>if t=.v n then none else some t
 |none=>none
def ex (B:List IT):Nat->IT->Bool
 |0,_=>false
 |k+1,.v n=>match bd B n with
  |none=>true
  |some t=>ex B k t
 |_+1,.b _=>true
 |k+1,.p _ x y=>ex B k x && ex B k y
def hd (B:List IT):Nat->IT->IT
 |k+1,.v n=>match bd B n with
  |none=>.v n
  |some t=>hd B k t
 |_,t=>t
def iX (B:List IT) (n:Nat):Nat->IT->Bool
 |k+1,.v m=>match bd B m with
  |none=>decide (m=n)
  |some t=>iX B n k t
 |k+1,.p _ x y=>iX B n k x||iX B n k y
 |_,_=>false
def gx:Nat->List IT->IT->IT->Option (List IT×Bool)
 |0,_,_,_=>none
 |k+1,B,a,b=>if ex B k a && ex B k b then
   match hd B k a,hd B k b with
   |.v n,b'=>if b'=.v n then some (B,true)else if iX B n k b' then some (B,false)else some (B.set n b',true)
   |a',.v n=>if iX B n k a' then some (B,false)else some (B.set n a',true)
   |.b i,.b j=>some (B,decide (i=j))
   |.p i x y,.p j x' y'=>if i=j then(match gx k B x x' with
     |some (B1,true)=>gx k B1 y y'
     |r=>r)else some (B,false)
   |_,_=>some (B,false)
  else none
section
variable {B:List IT}
theorem lr:∀{k:Nat} {t:IT},ex B k t=true->ex B (k+1) t=true
 |0,t,h=>by simp[ex]at h
 |k+1,.v n,h=>by
  simp only[ex]at h⊢;split<;>rename_i hb
  ·rfl
  ·rw[hb]at h;exact lr h
 |k+1,.b _,_=>by simp[ex]
 |k+1,.p _ x y,h=>by
  rw[ex,WN]at h;rw[ex,WN];exact⟨lr h.1,lr h.2⟩
theorem mD {k j:Nat} {t:IT} (hk:k<=j) (h:ex B k t=true):ex B j t=true:=by
 induction hk with
 |refl=>exact h
 |step _ ih=>exact lr ih
def Ij (B:List IT) (t:IT):Prop:=∀n,t=.v n->bd B n=none
theorem fI:∀{k:Nat} {t:IT},ex B k t=true->Ij B (hd B k t)
 |0,t,h=>by simp[ex]at h
 |k+1,.v n,h=>by
  simp only[ex]at h;simp only[hd];split<;>rename_i hb
  ·intro m e;cases e;exact hb
  ·rw[hb]at h;exact fI h
 |k+1,.b _,_=>by intro n e;simp[hd]at e
 |k+1,.p _ x y,_=>by intro n e;simp[hd]at e
theorem ua {t:IT} (h:Ij B t):∀k,hd B k t=t
 |0=>by cases t<;>rfl
 |k+1=>by
  cases t with
  |v n=>simp only[hd,h n rfl]
  |b _=>rfl
  |p _ _ _=>rfl
theorem gE:∀{k:Nat} {t:IT},ex B k t=true->ex B k (hd B k t)=true
 |0,t,h=>by simp[ex]at h
 |k+1,.v n,h=>by
  have h':=h;simp only[ex]at h;simp only[hd];split<;>rename_i hb
  ·exact h'
  ·rw[hb]at h;exact lr (gE h)
 |k+1,.b _,h=>h
 |k+1,.p _ x y,h=>h
theorem iY:∀{k j:Nat} {t:IT},ex B k t=true->k<=j->hd B j t=hd B k t
 |0,j,t,h,_=>by simp[ex]at h
 |k+1,j+1,.v n,h,hj=>by
  simp only[ex]at h;simp only[hd];split<;>rename_i hb
  ·rfl
  ·rw[hb]at h;exact iY h (by omega)
 |k+1,j+1,.b _,_,_=>rfl
 |k+1,j+1,.p _ _ _,_,_=>rfl
theorem dk {n:Nat}:∀{k j:Nat} {t:IT},ex B k t=true->k<=j->iX B n j t=iX B n k t
 |0,j,t,h,_=>by simp[ex]at h
 |k+1,j+1,.v m,h,hj=>by
  simp only[ex]at h;simp only[iX];split<;>rename_i hb
  ·rfl
  ·rw[hb]at h;exact dk h (by omega)
 |k+1,j+1,.b _,_,_=>rfl
 |k+1,j+1,.p _ x y,h,hj=>by
  rw[ex,WN]at h;simp only[iX,dk h.1 (show k<=j by omega),dk h.2 (show k<=j by omega)]
theorem Af {n:Nat}:∀{k:Nat} {t:IT},ex B k t=true->iX B n k (hd B k t)=iX B n k t
 |0,t,h=>by simp[ex]at h
 |k+1,.v m,h=>by
  have h':=h;simp only[ex]at h;simp only[hd];cases hb:bd B m with
  |none=>simp
  |some t=>
   rw[hb]at h;simp only at h⊢;rw[dk (gE h) (WS k),Af h];simp only[iX,hb]
 |k+1,.b _,h=>rfl
 |k+1,.p _ x y,h=>rfl
theorem lu:∀{k:Nat} {t:IT} {c:Int} {x y:IT},ex B k t=true->hd B k t=.p c x y->∃j,j<k/\ex B j x=true/\ex B j y=true
 |0,t,_,_,_,h,_=>by simp[ex]at h
 |k+1,.v n,c,x,y,h,e=>by
  simp only[ex]at h;simp only[hd]at e;cases hb:bd B n with
  |none=>rw[hb]at e;cases e
  |some t=>
   rw[hb]at h e;obtain⟨j,h1,h2⟩:=lu h e;exact⟨j,by omega,h2⟩
 |k+1,.b _,_,_,_,h,e=>by simp[hd]at e
 |k+1,.p _ x y,_,_,_,h,e=>by
  simp only[hd]at e;cases e
  rw[ex,WN]at h;exact⟨k,by omega,h⟩
end
theorem yH:∀{k:Nat} {B:List IT} {a b:IT} {r:List IT×Bool},gx k B a b=some r->gx (k+1) B a b=some r
 |0,B,a,b,r,h=>by simp[gx]at h
 |k+1,B,a,b,r,h=>by
  have ih:=fun{B a b r}=>yH (k:=k) (B:=B) (a:=a) (b:=b) (r:=r)
  rw[gx]at h⊢;split at h
  ·rename_i hx;rw[WN]at hx;have ha:=iY hx.1 (WS k);have hb:=iY hx.2 (WS k);have oa:=fun n=>(dk (n:=n) (gE hx.1) (WS k))
   have ob:=fun n=>(dk (n:=n) (gE hx.2) (WS k))
   rw[if_pos (by rw[WN];exact⟨lr hx.1,lr hx.2⟩),ha,hb];generalize hd B k a=a' at*;generalize hd B k b=b' at*
   match a',b',h with
   |.v n,b',h=>simp only[ob]at h⊢;exact h
   |.b _,.v n,h=>simp only[oa]at h⊢;exact h
   |.p _ _ _,.v n,h=>simp only[oa]at h⊢;exact h
   |.b _,.b _,h=>exact h
   |.b _,.p _ _ _,h=>exact h
   |.p _ _ _,.b _,h=>exact h
   |.p i x y,.p j x' y',h=>
    simp only at h⊢;split at h
    ·rename_i nS;rw[if_pos nS];cases hu:gx k B x x' with
     |none=>rw[hu]at h;simp at h
     |some q=>
      obtain⟨B1,q⟩:=q;rw[ih hu];rw[hu]at h;cases q
      ·exact h
      ·exact ih h
    ·rename_i nS;rw[if_neg nS];exact h
  ·simp at h
theorem mE {k j:Nat} {B:List IT} {a b:IT} {r:List IT×Bool} (hk:k<=j) (h:gx k B a b=some r):gx j B a b=some r:=by
 induction hk with
 |refl=>exact h
 |step _ ih=>exact yH ih
def sc (N:Nat):IT->Bool
 |.v n=>decide (n<N)
 |.b _=>true
 |.p _ x y=>sc N x && sc N y
def uD (B:List IT):Prop:=∀t∈B,sc B.length t=true
theorem ea {N M:Nat} (h:N<=M):∀{t:IT},sc N t=true->sc M t=true
 |.v n,ht=>by simp[sc]at ht⊢;omega
 |.b _,_=>rfl
 |.p _ x y,ht=>by
  rw[sc,WN]at ht⊢;exact⟨ea h ht.1,ea h ht.2⟩
theorem wW {B:List IT} {n:Nat} {t:IT} (h:bd B n=some t):B[n]? =some t/\t≠.v n:=by
 simp only[bd]at h;split at h
 ·rename_i u hu;split at h
  ·simp at h
  ·rename_i hn;simp at h;subst h;exact⟨hu,hn⟩
 ·simp at h
theorem FO {B:List IT} {n:Nat} (hn:n<B.length) (h:bd B n=none):B[n]? =some (.v n):=by
 simp only[bd,List.getElem?_eq_getElem hn]at h⊢;split at h
 ·rename_i e;rw[e]
 ·simp at h
theorem Ee {B:List IT} {n:Nat} {t:IT} (hB:uD B) (h:bd B n=some t):sc B.length t=true:=hB t (WZ (wW h).1)
theorem nZ {B:List IT} (hB:uD B):∀{k:Nat} {t:IT},sc B.length t=true->sc B.length (hd B k t)=true
 |0,t,h=>by cases t<;>exact h
 |k+1,.v n,h=>by
  simp only[hd];split<;>rename_i hb
  ·exact h
  ·exact nZ hB (Ee hB hb)
 |k+1,.b _,h=>h
 |k+1,.p _ x y,h=>h
theorem ub {B:List IT} {n m:Nat} {t:IT} (hn:n<B.length) (ht:t≠.v n):bd (B.set n t) m=if m=n then some t else bd B m:=by
 simp only[bd];by_cases h:m=n
 ·subst h;simp[hn,ht]
 ·rw[List.getElem?_set_ne (by omega),if_neg h]
theorem uD.set {B:List IT} (h:uD B) {n:Nat} {t:IT} (ht:sc B.length t=true):uD (B.set n t):=by
 intro u hu;rw[W1];rcases W4 hu with h1|rfl
 ·exact h u h1
 ·exact ht
theorem ud:∀{k:Nat} {B B':List IT} {a b:IT} {q:Bool},uD B->sc B.length a=true->sc B.length b=true->gx k B a b=some (B',q)->uD B'/\B'.length=B.length
 |0,B,B',a,b,q,_,_,_,h=>by simp[gx]at h
 |k+1,B,B',a,b,q,hB,ha,hb,h=>by
  rw[gx]at h;split at h
  ·have qI:=nZ hB (k:=k) ha;have eJ:=nZ hB (k:=k) hb;generalize hd B k a=a' at*;generalize hd B k b=b' at*
   match a',b',h with
   |.v n,b',h=>
    simp only at h;split at h
    ·simp at h;obtain⟨rfl,_⟩:=h;exact⟨hB,rfl⟩
    ·split at h
     ·simp at h;obtain⟨rfl,_⟩:=h;exact⟨hB,rfl⟩
     ·simp at h;obtain⟨rfl,_⟩:=h;exact⟨hB.set eJ,by simp⟩
   |.b _,.v n,h=>
    simp only at h;split at h
    ·simp at h;obtain⟨rfl,_⟩:=h;exact⟨hB,rfl⟩
    ·simp at h;obtain⟨rfl,_⟩:=h;exact⟨hB.set qI,by simp⟩
   |.p _ _ _,.v n,h=>
    simp only at h;split at h
    ·simp at h;obtain⟨rfl,_⟩:=h;exact⟨hB,rfl⟩
    ·simp at h;obtain⟨rfl,_⟩:=h;exact⟨hB.set qI,by simp⟩
   |.b _,.b _,h=>simp at h;obtain⟨rfl,_⟩:=h;exact⟨hB,rfl⟩
   |.b _,.p _ _ _,h=>simp at h;obtain⟨rfl,_⟩:=h;exact⟨hB,rfl⟩
   |.p _ _ _,.b _,h=>simp at h;obtain⟨rfl,_⟩:=h;exact⟨hB,rfl⟩
   |.p i x y,.p j x' y',h=>
    rw[sc,WN]at qI eJ;simp only at h;split at h
    ·cases hu:gx k B x x' with
     |none=>rw[hu]at h;simp at h
     |some r=>
      obtain⟨B1,q1⟩:=r;rw[hu]at h;obtain⟨h1,h2⟩:=ud hB qI.1 eJ.1 hu;cases q1
      ·simp at h;obtain⟨rfl,_⟩:=h;exact⟨h1,h2⟩
      ·obtain⟨h3,h4⟩:=ud h1 (by rw[h2];exact qI.2) (by rw[h2];exact eJ.2) h;exact⟨h3,h4.trans h2⟩
    ·simp at h;obtain⟨rfl,_⟩:=h;exact⟨hB,rfl⟩
  ·simp at h
theorem pN:∀{k:Nat} {B B':List IT} {a:IT} {q:Bool},gx k B a a=some (B',q)->B'=B/\q=true
 |0,B,B',a,q,h=>by simp[gx]at h
 |k+1,B,B',a,q,h=>by
  rw[gx]at h;split at h
  ·generalize hd B k a=a' at h
   match a',h with
   |.v n,h=>simp at h;exact⟨h.1.symm,h.2⟩
   |.b _,h=>simp at h;exact⟨h.1.symm,h.2⟩
   |.p i x y,h=>
    simp only[if_true]at h;cases hu:gx k B x x with
    |none=>rw[hu]at h;simp at h
    |some r=>
     obtain⟨B1,q1⟩:=r;obtain⟨rfl,rfl⟩:=pN hu;rw[hu]at h;exact pN h
  ·simp at h
def nfree (B:List IT):Nat:=(List.range B.length).countP fun n=>(bd B n).isNone
def Cp (B:List IT):Prop:=∀n,n<B.length->∃k,ex B k (.v n)=true
theorem Cp.all {B:List IT} (h:Cp B):∀{t:IT},sc B.length t=true->∃k,ex B k t=true
 |.v n,ht=>h n (by simpa[sc]using ht)
 |.b _,_=>⟨1,rfl⟩
 |.p c x y,ht=>by
  rw[sc,WN]at ht;obtain⟨k1,h1⟩:=h.all ht.1;obtain⟨k2,h2⟩:=h.all ht.2;exact⟨max k1 k2+1,by rw[ex,WN];exact⟨mD (WQ _ _) h1,mD (WO _ _) h2⟩⟩
theorem nk {B:List IT} {n:Nat} {t:IT} (hn:n<B.length) (ht:t≠.v n) (hf:bd B n=none):∀{k:Nat} {u:IT},ex B k u=true->iX B n k u=false->ex (B.set n t) k u=true
 |0,u,h,_=>by simp[ex]at h
 |k+1,.v m,h,ho=>by
  simp only[ex,iX]at h ho⊢;rw[ub hn ht];by_cases hm:m=n
  ·subst hm;rw[hf]at ho;simp at ho
  ·rw[if_neg hm];cases hb:bd B m with
   |none=>rfl
   |some w=>rw[hb]at h ho;exact nk hn ht hf h ho
 |k+1,.b _,_,_=>rfl
 |k+1,.p _ x y,h,ho=>by
  rw[ex,WN]at h;rw[iX,Bool.or_eq_false_iff]at ho;rw[ex,WN];exact⟨nk hn ht hf h.1 ho.1,nk hn ht hf h.2 ho.2⟩
theorem wX {B:List IT} {n j:Nat} {t:IT} (hn:n<B.length) (ht:t≠.v n) (hj:ex (B.set n t) j t=true):∀{k:Nat} {u:IT},ex B k u=true->ex (B.set n t) (k+j) u=true
 |0,u,h=>by simp[ex]at h
 |k+1,.v m,h=>by
  rw[WW];simp only[ex]at h⊢;rw[ub hn ht];by_cases hm:m=n
  ·subst hm;rw[if_pos rfl];exact mD (by omega) hj
  ·rw[if_neg hm];cases hb:bd B m with
   |none=>rfl
   |some w=>rw[hb]at h;exact wX hn ht hj h
 |k+1,.b _,_=>by rw[WW];rfl
 |k+1,.p _ x y,h=>by
  rw[ex,WN]at h;rw[WW,ex,WN];exact⟨wX hn ht hj h.1,wX hn ht hj h.2⟩
theorem Cp.set {B:List IT} (h:Cp B) {n k:Nat} {t:IT} (hn:n<B.length) (ht:t≠.v n) (hf:bd B n=none) (hx:ex B k t=true) (ho:iX B n k t=false):Cp (B.set n t):=by
 have hj:=nk hn ht hf hx ho;intro m hm;rw[W1]at hm;obtain⟨i,hi⟩:=h m hm;exact⟨i+k,wX hn ht hj hi⟩
theorem qJ {B:List IT} {n:Nat} {t:IT} (hn:n<B.length) (ht:t≠.v n) (hf:bd B n=none):nfree (B.set n t)<nfree B:=by
 simp only[nfree,W1];have key:∀l:List Nat,(l.countP fun m=>(bd (B.set n t) m).isNone)<=l.countP fun m=>(bd B m).isNone:=fun l=>by
  apply List.countP_mono_left;intro m _ hm;rw[ub hn ht]at hm;split at hm
  ·simp at hm
  ·exact hm
 obtain⟨l1,l2,hl⟩:=List.append_of_mem (List.mem_range.2 hn);rw[hl,W6,W6,W5,W5];have h1:=key l1;have h2:=key l2;rw[ub hn ht,if_pos rfl,hf];simp;omega
theorem vV:∀(u k:Nat) (B:List IT) (a b:IT),nfree B<=u->uD B->Cp B->sc B.length a=true->sc B.length b=true->ex B k a=true->∃j B' q,gx j B a b=some (B',q)/\Cp B'/\(B'=B\/nfree B'<nfree B):=by
 intro u;induction u using WX with
 |_ u ihu=>
  intro k;induction k using WX with
  |_ k ihk=>
   intro B a b hu hB hA ha hb CN;obtain⟨kb,Ef⟩:=hA.all hb;have Eg:ex B (max k kb) a=true:=mD (WQ _ _) CN;have Eh:ex B (max k kb) b=true:=mD (WO _ _) Ef;have FP:=fI Eg;have CO:=fI Eh;have LN:=gE Eg;have Pk:=gE Eh;have DC:=nZ hB (k:=max k kb) ha;have yf:=nZ hB (k:=max k kb) hb;have BT:=fun{c x y} (e:hd B (max k kb) a=.p c x y)=>lu CN (by rw[<-iY CN (WQ k kb)];exact e)
   have ER:(ex B (max k kb) a && ex B (max k kb) b)=true:=by rw[Eg,Eh];rfl
   have EC:∀{r},gx (max k kb+1) B a b=r->∀j,max k kb+1<=j->r.isSome=true->gx j B a b=r:=fun{r} e j hj hs=>by
    cases r with
    |none=>simp at hs
    |some r=>exact mE hj e
   match qI:hd B (max k kb) a,eJ:hd B (max k kb) b with
   |.v n,b'=>
    rw[qI]at FP DC;rw[eJ]at Pk yf;by_cases e:b'=.v n
    ·exact⟨max k kb+1,B,true,by rw[gx,if_pos ER,qI,eJ];simp[e],hA,.inl rfl⟩
    ·by_cases o:iX B n (max k kb) b'=true
     ·exact⟨max k kb+1,B,false,by rw[gx,if_pos ER,qI,eJ];simp[e,o],hA,.inl rfl⟩
     ·have hn:n<B.length:=by simpa[sc]using DC
      have o':iX B n (max k kb) b'=false:=by simpa using o
      exact⟨max k kb+1,B.set n b',true,by rw[gx,if_pos ER,qI,eJ];simp[e,o'],hA.set hn e (FP n rfl) Pk o',.inr (qJ hn e (FP n rfl))⟩
   |.b i,.v n=>
    rw[eJ]at CO yf;rw[qI]at LN;have hn:n<B.length:=by simpa[sc]using yf
    have o':iX B n (max k kb) (.b i)=false:=by cases max k kb<;>rfl
    exact⟨max k kb+1,B.set n (.b i),true,by rw[gx,if_pos ER,qI,eJ];simp[o'],hA.set hn (by simp) (CO n rfl) LN o',.inr (qJ hn (by simp) (CO n rfl))⟩
   |.p c x y,.v n=>
    rw[eJ]at CO yf;rw[qI]at LN;have hn:n<B.length:=by simpa[sc]using yf
    by_cases o:iX B n (max k kb) (.p c x y)=true
    ·exact⟨max k kb+1,B,false,by rw[gx,if_pos ER,qI,eJ];simp[o],hA,.inl rfl⟩
    ·have o':iX B n (max k kb) (.p c x y)=false:=by simpa using o
     exact⟨max k kb+1,B.set n (.p c x y),true,by rw[gx,if_pos ER,qI,eJ];simp[o'],hA.set hn (by simp) (CO n rfl) LN o',.inr (qJ hn (by simp) (CO n rfl))⟩
   |.b i,.b j=>exact⟨max k kb+1,B,_,by rw[gx,if_pos ER,qI,eJ],hA,.inl rfl⟩
   |.b i,.p _ _ _=>exact⟨max k kb+1,B,false,by rw[gx,if_pos ER,qI,eJ],hA,.inl rfl⟩
   |.p _ _ _,.b i=>exact⟨max k kb+1,B,false,by rw[gx,if_pos ER,qI,eJ],hA,.inl rfl⟩
   |.p c x y,.p c' x' y'=>
    rw[qI]at DC;rw[eJ]at yf;rw[sc,WN]at DC yf;by_cases e:c=c'
    rotate_left
    ·exact⟨max k kb+1,B,false,by rw[gx,if_pos ER,qI,eJ];simp[e],hA,.inl rfl⟩
    subst e;obtain⟨m,hm,hx,hy⟩:=BT qI;obtain⟨j1,B1,q1,h1,LO,ij⟩:=ihk m hm B x x' hu hB hA DC.1 yf.1 hx;obtain⟨Pl,uC⟩:=ud hB DC.1 yf.1 h1
    have hw:∀j,max k kb<=j->gx (j+1) B a b=(match gx j B x x' with
      |some (B1,true)=>gx j B1 y y'
      |r=>r):=fun j hj=>by
     rw[gx,if_pos (by rw[mD hj Eg,mD hj Eh];rfl),iY Eg hj,iY Eh hj,qI,eJ];simp
    cases q1 with
    |false=>exact⟨max (max k kb) j1+1,B1,false,by rw[hw _ (WQ _ _),mE (WO _ _) h1],LO,ij⟩
    |true=>
     have h2:∃j2 B2 q2,gx j2 B1 y y'=some (B2,q2)/\Cp B2/\(B2=B1\/nfree B2<nfree B1):=by
      rcases ij with rfl|aC
      ·exact ihk m hm B1 y y' hu Pl LO DC.2 yf.2 hy
      ·obtain⟨ky,QZ⟩:=LO.all (t:=y) (by rw[uC];exact DC.2);exact ihu (nfree B1) (by omega) ky B1 y y' (WR _) Pl LO (by rw[uC];exact DC.2) (by rw[uC];exact yf.2) QZ
     obtain⟨j2,B2,q2,h2,MB,jR⟩:=h2;refine⟨max (max k kb) (max j1 j2)+1,B2,q2,?_,MB,?_⟩
     ·rw[hw _ (WQ _ _),mE (show j1<=_ by omega) h1];exact mE (by omega) h2
     ·rcases ij with rfl|h3<;>rcases jR with rfl|h4
      ·exact .inl rfl
      ·exact .inr h4
      ·exact .inr h3
      ·exact .inr (by omega)
section
variable {G:Type} (mk:Int->Option (G×G)->G)
def LP (θ:Nat->G):IT->G
 |.v n=>θ n
 |.b k=>mk k none
 |.p k x y=>mk k (some (LP θ x,LP θ y))
def Sat (θ:Nat->G) (B:List IT):Prop:=∀n t,bd B n=some t->θ n=LP mk θ t
variable {mk}
structure RX (mk:Int->Option (G×G)->G):Prop where
 inj:∀k k' o o',mk k o=mk k' o'->k=k'/\o=o'
 size:∃sz:G->Nat,∀k x y,sz x<sz (mk k (some (x,y)))/\sz y<sz (mk k (some (x,y)))
end
def iF (k:Nat) (B:List IT) (a b:IT):Option (Option (List IT)):=match gx k B a b with
 |none=>none
 |some (B',true)=>some (some B')
 |some (_,false)=>some none
def gk (k:Nat) (kd:Int) (B:List IT) (ts:List IT):Option (Option (List IT×IT)):=
 if kd=2 then some (some (B,.b 2))else if kd=3\/kd=4 then some (some (B,.b 3))else match ts with
  |[x]=>if kd=11\/kd=12 then(iF k (B++[.v B.length,.v (B.length+1)]) x (.p 5 (.v B.length) (.v (B.length+1)))).map (·.map fun B'=>(B',.v (if kd=12 then B.length+1 else B.length)))else some none
  |[x,y]=>if kd=10 then some (some (B,.p 5 x y))
   else if kd=6 then(iF k (B++[.v B.length,.v (B.length+1)]) x (.p 4 y (.v B.length))).map (·.map fun B'=>(B',.v B.length))
   else if kd=7\/kd=8 then(match iF k B x (.b 2)with
    |some (some B1)=>(iF k B1 y (.b 2)).map (·.map fun B'=>(B',.b (if kd=8 then 3 else 2)))
    |none=>none
    |some none=>some none)else some none
  |[x,y,z]=>if kd=9 then(match iF k B x (.b 3)with
    |some (some B1)=>(iF k B1 y z).map (·.map fun B'=>(B',y))
    |none=>none
    |some none=>some none)else some none
  |_=>some none
mutual
def inf (k:Nat):an->List IT->List IT->List UInt8->List IT->Option (Option (List IT×List IT×IT))
 |.mk kd s _ _ _ _ l,B,ls,ns,ts=>
  if kd=1 then some (if 0<=cQ ns (s.headD 0)then(ts[(cQ ns (s.headD 0)).toNat]?).map fun t=>(B,ls,t)else none)
  else match kA k l (if kd=5 then B++[.v B.length]else B) (if kd=5 then ls++[.v B.length]else ls) (if kd=5 then ns++s else ns) (if kd=5 then ts++[.v B.length]else ts)with
   |some (some (B1,ls1,us))=>if kd=5 then(match us with|[u]=>some (some (B1,ls1,.p 4 (.v B.length) u))|_=>some none)else(gk k kd B1 us).map (·.map fun r=>(r.1,ls1,r.2))
   |none=>none
   |some none=>some none
def kA (k:Nat):List an->List IT->List IT->List UInt8->List IT->Option (Option (List IT×List IT×List IT))
 |[],B,ls,_,_=>some (some (B,ls,[]))
 |e::r,B,ls,ns,ts=>match inf k e B ls ns ts with
  |some (some (B1,ls1,t))=>(match kA k r B1 ls1 ns ts with
   |some (some (B2,ls2,us))=>some (some (B2,ls2,t::us))
   |none=>none
   |some none=>some none)
  |none=>none
  |some none=>some none
end
inductive Ba:an->Prop
 |var (c:UInt8):Ba (rW [c])
 |num (n:Int):Ba (uW n)
 |pz:Ba nT
 |pA:Ba jY
 |lam {c:UInt8} {t:aH} {b:an}:Ba b->Ba (nJ [c] t b)
 |n2 {k:Int} {a b:an}:k=6\/k=7\/k=8\/k=10->Ba a->Ba b->Ba (xt k a b)
 |ite {a b c:an}:Ba a->Ba b->Ba c->Ba (BP a b c)
 |n1 {k:Int} {a:an}:k=11\/k=12->Ba a->Ba (AO k a)
theorem Ba.of {nt:Int} {d:Nat} {e:an} (h:gN nt d e):Ba (mapM aM e):=by
 induction h with
 | @var d s _ hs=>
  obtain⟨c,rfl,_⟩:=ni hs;simpa[mapM,ch,aM]using Ba.var c
 |num _ _ _=>simpa[mapM,ch,aM]using Ba.num _
 |pz _=>simpa[mapM,ch,aM]using Ba.pz
 |pA _=>simpa[mapM,ch,aM]using Ba.pA
 | @lam d s t b _ hs _ _ ih=>
  obtain⟨c,rfl,_⟩:=ni hs;simpa[mapM,ch,aM]using Ba.lam ih
 | @n2 d k a b _ hk _ _ iha ihb=>
  have h1:¬(k=13\/k=14):=by omega
  have h2:¬k=5:=by omega
  simpa[mapM,ch,aM,h1,h2]using Ba.n2 hk iha ihb
 |ite _ _ _ _ ihp iha ihb=>simpa[mapM,ch,aM]using Ba.ite ihp iha ihb
 | @n1 d k a _ hk _ ih=>
  have h1:¬(k=13\/k=14):=by omega
  have h2:¬k=5:=by omega
  simpa[mapM,ch,aM,h1,h2]using Ba.n1 hk ih
 |asc _ _ _ ih=>simpa[mapM,ch,aM]using ih
 |cast _ _ _ _ _ _ ih=>simpa[mapM,ch,aM]using ih
section
variable (k:Nat) (B ls:List IT) (ns:List UInt8) (ts:List IT)
theorem iQ (c:UInt8):inf k (rW [c]) B ls ns ts=some (if 0<=cQ ns c then(ts[(cQ ns c).toNat]?).map fun t=>(B,ls,t)else none):=by simp[inf]
theorem sF (n:Int):inf k (uW n) B ls ns ts=some (some (B,ls,.b 2)):=by simp[inf,kA,gk]
theorem sG:inf k nT B ls ns ts=some (some (B,ls,.b 3)):=by simp[inf,kA,gk]
theorem sH:inf k jY B ls ns ts=some (some (B,ls,.b 3)):=by simp[inf,kA,gk]
theorem jN (c:UInt8) (t:aH) (b:an):inf k (nJ [c] t b) B ls ns ts=(inf k b (B++[.v B.length]) (ls++[.v B.length]) (ns++[c]) (ts++[.v B.length])).map (·.map fun r=>(r.1,r.2.1,.p 4 (.v B.length) r.2.2)):=by
 simp only[inf,kA,show¬(5:Int)=1 by omega,if_false,if_true];cases inf k b (B++[.v B.length]) (ls++[.v B.length]) (ns++[c]) (ts++[.v B.length])with
 |none=>rfl
 |some o=>cases o<;>rfl
theorem qK {kd:Int} (hk:kd=11\/kd=12) (a:an):inf k (AO kd a) B ls ns ts=match inf k a B ls ns ts with
  |some (some (B1,ls1,t))=>(gk k kd B1 [t]).map (·.map fun r=>(r.1,ls1,r.2))
  |none=>none
  |some none=>some none:=by
 simp only[inf,kA,show¬kd=1 by omega,show¬kd=5 by omega,if_false];cases inf k a B ls ns ts with
 |none=>rfl
 |some o=>cases o<;>rfl
theorem oI {kd:Int} (hk:kd=6\/kd=7\/kd=8\/kd=10) (a b:an):inf k (xt kd a b) B ls ns ts=match inf k a B ls ns ts with
  |some (some (B1,ls1,t))=>(match inf k b B1 ls1 ns ts with
   |some (some (B2,ls2,u))=>(gk k kd B2 [t,u]).map (·.map fun r=>(r.1,ls2,r.2))
   |none=>none
   |some none=>some none)
  |none=>none
  |some none=>some none:=by
 simp only[inf,kA,show¬kd=1 by omega,show¬kd=5 by omega,if_false];cases inf k a B ls ns ts with
 |none=>rfl
 |some o=>
  cases o with
  |none=>rfl
  |some r=>
   obtain⟨B1,ls1,t⟩:=r;simp only;cases inf k b B1 ls1 ns ts with
   |none=>rfl
   |some o=>cases o<;>rfl
theorem mF (a b c:an):inf k (BP a b c) B ls ns ts=match inf k a B ls ns ts with
  |some (some (B1,ls1,t))=>(match inf k b B1 ls1 ns ts with
   |some (some (B2,ls2,u))=>(match inf k c B2 ls2 ns ts with
    |some (some (B3,ls3,v))=>(gk k 9 B3 [t,u,v]).map (·.map fun r=>(r.1,ls3,r.2))
    |none=>none
    |some none=>some none)
   |none=>none
   |some none=>some none)
  |none=>none
  |some none=>some none:=by
 simp only[inf,kA,show¬(9:Int)=1 by omega,show¬(9:Int)=5 by omega,if_false];cases inf k a B ls ns ts with
 |none=>rfl
 |some o=>
  cases o with
  |none=>rfl
  |some r=>
   obtain⟨B1,ls1,t⟩:=r;simp only;cases inf k b B1 ls1 ns ts with
   |none=>rfl
   |some o=>
    cases o with
    |none=>rfl
    |some r=>
     obtain⟨B2,ls2,u⟩:=r;simp only;cases inf k c B2 ls2 ns ts with
     |none=>rfl
     |some o=>cases o<;>rfl
end
theorem ue {B:List IT} (new:List IT) {n:Nat} (hn:n<B.length):bd (B++new) n=bd B n:=by
 simp only[bd,List.getElem?_append_left hn]
theorem Ag {B:List IT}:bd (B++[.v B.length]) B.length=none:=by simp[bd]
theorem Ei {B:List IT} {n:Nat} (h1:B.length<=n) (h2:n<B.length+2):bd (B++[.v B.length,.v (B.length+1)]) n=none:=by
 simp only[bd];rw[List.getElem?_append_right h1];have:n=B.length\/n=B.length+1:=by omega
 rcases this with rfl|rfl
 ·simp
 ·simp
theorem uf {B:List IT} (new:List IT) (hB:uD B):∀{k:Nat} {t:IT},sc B.length t=true->ex B k t=true->ex (B++new) k t=true
 |0,t,_,h=>by simp[ex]at h
 |k+1,.v n,hs,h=>by
  simp only[ex]at h⊢;rw[ue new (by simpa[sc]using hs)];cases hb:bd B n with
  |none=>rfl
  |some t=>rw[hb]at h;exact uf new hB (Ee hB hb) h
 |k+1,.b _,_,_=>rfl
 |k+1,.p _ x y,hs,h=>by
  rw[sc,WN]at hs;rw[ex,WN]at h⊢;exact⟨uf new hB hs.1 h.1,uf new hB hs.2 h.2⟩
structure mG (B C:List IT):Prop where
 le:B.length<=C.length
 Gf:∀n,n<B.length->bd C n=bd B n
 new:∀n,B.length<=n->n<C.length->bd C n=none
 sc:uD B->uD C
 vW:uD B->Cp B->Cp C
theorem mG.one (B:List IT):mG B (B++[.v B.length]):=by
 refine⟨by simp,fun n hn=>ue _ hn,fun n h1 h2=>?_,fun h t ht=>?_,fun hs h n hn=>?_⟩
 ·have:n=B.length:=by simp at h2;omega
  subst this;exact Ag
 ·rw[W2];rcases WY.1 ht with h1|h1
  ·exact ea (by omega) (h t h1)
  ·simp at h1;subst h1;simp[Av.sc]
 ·by_cases h1:n<B.length
  ·obtain⟨k,hk⟩:=h n h1;exact⟨k,uf _ hs (by simpa[Av.sc]using h1) hk⟩
  ·have:n=B.length:=by simp at hn;omega
   subst this;exact⟨1,by simp only[ex,Ag]⟩
theorem mG.two (B:List IT):mG B (B++[.v B.length,.v (B.length+1)]):=by
 refine⟨by simp,fun n hn=>ue _ hn,fun n h1 h2=>Ei h1 (by simpa using h2),fun h t ht=>?_,fun hs h n hn=>?_⟩
 ·rw[W2];rcases WY.1 ht with h1|h1
  ·exact ea (by omega) (h t h1)
  ·simp at h1;rcases h1 with rfl|rfl<;>simp[Av.sc]
 ·by_cases h1:n<B.length
  ·obtain⟨k,hk⟩:=h n h1;exact⟨k,uf _ hs (by simpa[Av.sc]using h1) hk⟩
  ·have h2:n<B.length+2:=by simpa using hn
   exact⟨1,by simp only[ex,Ei (show B.length<=n by omega) h2]⟩
structure wY (B:List IT):Prop where
 sc:uD B
 vW:Cp B
theorem FQ {k:Nat} {B B':List IT} {a b:IT} {q:Bool} (hB:wY B) (ha:sc B.length a=true) (hb:sc B.length b=true) (h:gx k B a b=some (B',q)):Cp B':=by
 obtain⟨ka,BT⟩:=hB.vW.all ha;obtain⟨j,B2,q2,h2,h3,_⟩:=vV (nfree B) ka B a b (WR _) hB.sc hB.vW ha hb BT;have h4:=mE (WQ k j) h;rw[mE (WO k j) h2]at h4;cases h4;exact h3
theorem iR {k:Nat} {B B':List IT} {a b:IT} (hB:wY B) (ha:sc B.length a=true) (hb:sc B.length b=true) (h:iF k B a b=some (some B')):wY B'/\B'.length=B.length:=by
 simp only[iF]at h;split at h
 ·simp at h
 ·rename_i hu;simp at h;subst h;obtain⟨h1,h2⟩:=ud hB.sc ha hb hu;exact⟨⟨h1,FQ hB ha hb hu⟩,h2⟩
 ·simp at h
theorem fJ {k j:Nat} {B:List IT} {a b:IT} {r:Option (List IT)} (hk:k<=j) (h:iF k B a b=some r):iF j B a b=some r:=by
 simp only[iF]at h⊢;split at h
 ·simp at h
 ·rename_i hu;rw[mE hk hu];exact h
 ·rename_i hu;rw[mE hk hu];exact h
theorem gR {B:List IT} {a b:IT} (hB:wY B) (ha:sc B.length a=true) (hb:sc B.length b=true):∃k r,iF k B a b=some r:=by
 obtain⟨ka,BT⟩:=hB.vW.all ha;obtain⟨j,B2,q2,h2,_,_⟩:=vV (nfree B) ka B a b (WR _) hB.sc hB.vW ha hb BT;refine⟨j,?_⟩;simp only[iF,h2];cases q2<;>exact⟨_,rfl⟩
structure Q0 (B B':List IT) (t:IT):Prop where
 ok:wY B'
 le:B.length<=B'.length
 len:B'.length<=B.length+2
 CP:Av.sc B'.length t=true
theorem wZ {k:Nat} {kd:Int} {B B':List IT} {ts:List IT} {t:IT} (hB:wY B) (dY:∀u∈ts,sc B.length u=true) (h:gk k kd B ts=some (some (B',t))):Q0 B B' t:=by
 have G8:wY (B++[.v B.length,.v (B.length+1)]):=⟨(mG.two B).sc hB.sc,(mG.two B).vW hB.sc hB.vW⟩;have Cd:(B++[IT.v B.length,IT.v (B.length+1)]).length=B.length+2:=by simp
 have up:∀{u:IT},sc B.length u=true->sc (B++[IT.v B.length,IT.v (B.length+1)]).length u=true:=fun h=>ea (by omega) h
 simp only[gk]at h;split at h
 ·simp at h;obtain⟨rfl,rfl⟩:=h;exact⟨hB,WR _,by omega,rfl⟩
 split at h
 ·simp at h;obtain⟨rfl,rfl⟩:=h;exact⟨hB,WR _,by omega,rfl⟩
 split at h
 ·rename_i x;have hx:=dY x (by simp);split at h
  ·simp only[W7]at h;obtain⟨r,h1,B2,rfl,h2⟩:=h;cases h2
   obtain⟨h3,h4⟩:=iR G8 (up hx) (by simp[sc]) h1;exact⟨h3,by omega,by omega,by simp[sc];split<;>omega⟩
  ·simp at h
 ·rename_i x y;have hx:=dY x (by simp);have hy:=dY y (by simp);split at h
  ·simp at h;obtain⟨rfl,rfl⟩:=h;exact⟨hB,WR _,by omega,by simp[sc,hx,hy]⟩
  split at h
  ·simp only[W7]at h;obtain⟨r,h1,B2,rfl,h2⟩:=h;cases h2
   obtain⟨h3,h4⟩:=iR G8 (up hx) (by have:=up hy;simp[sc]at this⊢;exact this) h1;exact⟨h3,by omega,by omega,by simp[sc];omega⟩
  split at h
  ·split at h
   ·rename_i B1 h1;obtain⟨h2,h3⟩:=iR hB hx rfl h1;simp only[W7]at h;obtain⟨r,h4,B2,rfl,h5⟩:=h;cases h5
    obtain⟨h6,h7⟩:=iR h2 (by rw[h3];exact hy) rfl h4;exact⟨h6,by omega,by omega,rfl⟩
   ·simp at h
   ·simp at h
  ·simp at h
 ·rename_i x y z;have hx:=dY x (by simp);have hy:=dY y (by simp);have hz:=dY z (by simp);split at h
  ·split at h
   ·rename_i B1 h1;obtain⟨h2,h3⟩:=iR hB hx rfl h1;simp only[W7]at h;obtain⟨r,h4,B2,rfl,h5⟩:=h;cases h5
    obtain⟨h6,h7⟩:=iR h2 (by rw[h3];exact hy) (by rw[h3];exact hz) h4;exact⟨h6,by omega,by omega,by rw[h7,h3];exact hy⟩
   ·simp at h
   ·simp at h
  ·simp at h
 ·simp at h
theorem oJ {kd:Int} {B:List IT} {ts:List IT} (hB:wY B) (dY:∀u∈ts,sc B.length u=true):∃k r,gk k kd B ts=some r:=by
 have G8:wY (B++[.v B.length,.v (B.length+1)]):=⟨(mG.two B).sc hB.sc,(mG.two B).vW hB.sc hB.vW⟩;have Cd:(B++[IT.v B.length,IT.v (B.length+1)]).length=B.length+2:=by simp
 have up:∀{u:IT},sc B.length u=true->sc (B++[IT.v B.length,IT.v (B.length+1)]).length u=true:=fun h=>ea (by omega) h
 simp only[gk];split
 ·exact⟨0,_,rfl⟩
 split
 ·exact⟨0,_,rfl⟩
 split
 ·rename_i x;have hx:=dY x (by simp);split
  ·obtain⟨k,r,h⟩:=gR G8 (up hx) (b:=.p 5 (.v B.length) (.v (B.length+1))) (by simp[sc]);exact⟨k,_,by rw[h];rfl⟩
  ·exact⟨0,_,rfl⟩
 ·rename_i x y;have hx:=dY x (by simp);have hy:=dY y (by simp);split
  ·exact⟨0,_,rfl⟩
  split
  ·obtain⟨k,r,h⟩:=gR G8 (up hx) (b:=.p 4 y (.v B.length)) (by have:=up hy;simp[sc]at this⊢;exact this);exact⟨k,_,by rw[h];rfl⟩
  split
  ·obtain⟨k,r,h⟩:=gR hB hx (b:=.b 2) rfl;cases r with
   |none=>exact⟨k,none,by rw[h]⟩
   |some B1=>
    obtain⟨h2,h3⟩:=iR hB hx rfl h;obtain⟨j,r,h4⟩:=gR h2 (a:=y) (b:=.b 2) (by rw[h3];exact hy) rfl;exact⟨max k j,_,by rw[fJ (WQ k j) h];simp only;rw[fJ (WO k j) h4];rfl⟩
  ·exact⟨0,_,rfl⟩
 ·rename_i x y z;have hx:=dY x (by simp);have hy:=dY y (by simp);have hz:=dY z (by simp);split
  ·obtain⟨k,r,h⟩:=gR hB hx (b:=.b 3) rfl;cases r with
   |none=>exact⟨k,none,by rw[h]⟩
   |some B1=>
    obtain⟨h2,h3⟩:=iR hB hx rfl h;obtain⟨j,r,h4⟩:=gR h2 (a:=y) (b:=z) (by rw[h3];exact hy) (by rw[h3];exact hz);exact⟨max k j,_,by rw[fJ (WQ k j) h];simp only;rw[fJ (WO k j) h4];rfl⟩
  ·exact⟨0,_,rfl⟩
 ·exact⟨0,_,rfl⟩
theorem nq {k j:Nat} {kd:Int} {B:List IT} {ts:List IT} {r:Option (List IT×IT)} (hk:k<=j) (h:gk k kd B ts=some r):gk j kd B ts=some r:=by
 simp only[gk]at h⊢;split
 ·rename_i h1;rw[if_pos h1]at h;exact h
 rename_i h1;rw[if_neg h1]at h;split
 ·rename_i h2;rw[if_pos h2]at h;exact h
 rename_i h2;rw[if_neg h2]at h;split
 ·simp only at h;split
  ·rename_i h3;rw[if_pos h3]at h;simp only[W7]at h;obtain⟨q,h4,rfl⟩:=h;rw[fJ hk h4];rfl
  ·rename_i h3;rw[if_neg h3]at h;exact h
 ·simp only at h;split
  ·rename_i h3;rw[if_pos h3]at h;exact h
  rename_i h3;rw[if_neg h3]at h;split
  ·rename_i h4;rw[if_pos h4]at h;simp only[W7]at h;obtain⟨q,h5,rfl⟩:=h;rw[fJ hk h5];rfl
  rename_i h4;rw[if_neg h4]at h;split
  ·rename_i h5;rw[if_pos h5]at h;split at h
   ·rename_i B1 h6;rw[fJ hk h6];simp only[W7]at h⊢;obtain⟨q,h7,h8⟩:=h;exact⟨q,fJ hk h7,h8⟩
   ·simp at h
   ·rename_i h6;rw[fJ hk h6];exact h
  ·rename_i h5;rw[if_neg h5]at h;exact h
 ·simp only at h;split
  ·rename_i h5;rw[if_pos h5]at h;split at h
   ·rename_i B1 h6;rw[fJ hk h6];simp only[W7]at h⊢;obtain⟨q,h7,h8⟩:=h;exact⟨q,fJ hk h7,h8⟩
   ·simp at h
   ·rename_i h6;rw[fJ hk h6];exact h
  ·rename_i h5;rw[if_neg h5]at h;exact h
 ·rename_i h3 h4 h5
  match ts,h3,h4,h5,h with
  |[],_,_,_,h=>exact h
  |[_],h3,_,_,_=>exact absurd rfl (h3 _)
  |[_,_],_,h4,_,_=>exact absurd rfl (h4 _ _)
  |[_,_,_],_,_,h5,_=>exact absurd rfl (h5 _ _ _)
  |_::_::_::_::_,_,_,_,h=>exact h
theorem inf_le {k j:Nat} (hk:k<=j) {e:an} (he:Ba e):∀{B ls:List IT} {ns:List UInt8} {ts:List IT} {r:Option (List IT×List IT×IT)},inf k e B ls ns ts=some r->inf j e B ls ns ts=some r:=by
 induction he with
 |var c=>intro B ls ns ts r h;rw[iQ]at h⊢;exact h
 |num n=>intro B ls ns ts r h;rw[sF]at h⊢;exact h
 |pz=>intro B ls ns ts r h;rw[sG]at h⊢;exact h
 |pA=>intro B ls ns ts r h;rw[sH]at h⊢;exact h
 |lam _ ih=>
  intro B ls ns ts r h;rw[jN]at h⊢;simp only[W7]at h;obtain⟨q,h1,rfl⟩:=h;rw[ih h1];rfl
 |n1 gd _ ih=>
  intro B ls ns ts r h;rw[qK _ _ _ _ _ gd]at h⊢;split at h
  ·rename_i B1 ls1 t h1;rw[ih h1];simp only[W7]at h⊢;obtain⟨q,h2,h3⟩:=h;exact⟨q,nq hk h2,h3⟩
  ·simp at h
  ·rename_i h1;rw[ih h1];exact h
 |n2 gd _ _ iha ihb=>
  intro B ls ns ts r h;rw[oI _ _ _ _ _ gd]at h⊢;split at h
  ·rename_i B1 ls1 t h1;rw[iha h1];simp only;split at h
   ·rename_i B2 ls2 u h2;rw[ihb h2];simp only[W7]at h⊢;obtain⟨q,h3,h4⟩:=h;exact⟨q,nq hk h3,h4⟩
   ·simp at h
   ·rename_i h2;rw[ihb h2];exact h
  ·simp at h
  ·rename_i h1;rw[iha h1];exact h
 |ite _ _ _ iha ihb ihc=>
  intro B ls ns ts r h;rw[mF]at h⊢;split at h
  ·rename_i B1 ls1 t h1;rw[iha h1];simp only;split at h
   ·rename_i B2 ls2 u h2;rw[ihb h2];simp only;split at h
    ·rename_i B3 ls3 v h3;rw[ihc h3];simp only[W7]at h⊢;obtain⟨q,h4,h5⟩:=h;exact⟨q,nq hk h4,h5⟩
    ·simp at h
    ·rename_i h3;rw[ihc h3];exact h
   ·simp at h
   ·rename_i h2;rw[ihb h2];exact h
  ·simp at h
  ·rename_i h1;rw[iha h1];exact h
structure Pm (e:an) (B ls:List IT) (B' ls':List IT) (t:IT):Prop where
 ok:wY B'
 le:B.length<=B'.length
 len:B'.length<=B.length+2*aK e
 CP:Av.sc B'.length t=true
 KL:∃new,ls'=ls++new/\new.length=(aL e).length/\∀u∈new,Av.sc B'.length u=true
structure Ah (B:List IT) (ns:List UInt8) (ts:List IT):Prop where
 len:ts.length=ns.length
 ES:∀u∈ts,Av.sc B.length u=true
theorem Ah.le {B C:List IT} {ns:List UInt8} {ts:List IT} (h:Ah B ns ts) (hl:B.length<=C.length):Ah C ns ts:=⟨h.len,fun u hu=>ea hl (h.ES u hu)⟩
theorem mH {k:Nat} {e:an} (he:Ba e):∀{B ls B' ls':List IT} {ns:List UInt8} {ts:List IT} {t:IT},wY B->Ah B ns ts->inf k e B ls ns ts=some (some (B',ls',t))->Pm e B ls B' ls' t:=by
 induction he with
 |var c=>
  intro B ls B' ls' ns ts t hB hc h;rw[iQ]at h;simp only[Option.some.injEq]at h;split at h
  ·simp only[W7]at h;obtain⟨u,h1,h2⟩:=h;cases h2
   exact⟨hB,WR _,by omega,hc.ES _ (WZ h1),[],by simp,by simp[aL,aB,bt],by simp⟩
  ·simp at h
 |num n=>intro B ls B' ls' ns ts t hB hc h;rw[sF]at h;cases h;exact⟨hB,WR _,by omega,rfl,[],by simp,by simp[aL,aB,bt],by simp⟩
 |pz=>intro B ls B' ls' ns ts t hB hc h;rw[sG]at h;cases h;exact⟨hB,WR _,by omega,rfl,[],by simp,by simp[aL,aB,bt],by simp⟩
 |pA=>intro B ls B' ls' ns ts t hB hc h;rw[sH]at h;cases h;exact⟨hB,WR _,by omega,rfl,[],by simp,by simp[aL,aB,bt],by simp⟩
 | @lam c ty b _ ih=>
  intro B ls B' ls' ns ts t hB hc h;rw[jN]at h;simp only[W7]at h;obtain⟨q,h1,r,rfl,h2⟩:=h;obtain⟨B1,ls1,u⟩:=r;cases h2
  dsimp only;have hN:=mG.one B;have hl:(B++[IT.v B.length]).length=B.length+1:=by simp
  obtain⟨g1,g2,g3,g4,new,rfl,g5,g6⟩:=ih ⟨hN.sc hB.sc,hN.vW hB.sc hB.vW⟩ ⟨by simp[hc.len],fun u hu=>by
   rcases WY.1 hu with q|q
   ·exact ea hN.le (hc.ES u q)
   ·simp at q;subst q;simp[sc]⟩ h1
  refine⟨g1,by omega,by simp[aK,a7];omega,by simp[sc,g4];omega,.v B.length::new,by simp,by simp[aL,aB,bt,g5],fun u hu=>?_⟩;rcases W0.1 hu with rfl|q
  ·simp[sc];omega
  ·exact g6 u q
 | @n1 kd a gd _ ih=>
  intro B ls B' ls' ns ts t hB hc h;rw[qK _ _ _ _ _ gd]at h;split at h
  ·rename_i B1 ls1 u h1;obtain⟨g1,g2,g3,g4,new,rfl,g5,g6⟩:=ih hB hc h1;simp only[W7]at h;obtain⟨q,h2,r,rfl,h3⟩:=h;obtain⟨B2,w⟩:=r;cases h3
   dsimp only;obtain⟨k1,k2,k3,k4⟩:=wZ g1 (by simpa using g4) h2;have h5:bt kd=false:=by rcases gd with rfl|rfl<;>rfl
   exact⟨k1,by omega,by simp[aK,a7];omega,k4,new,rfl,by simp[aL,aB,h5,g5],fun u hu=>ea k2 (g6 u hu)⟩
  ·simp at h
  ·simp at h
 | @n2 kd a b gd _ _ iha ihb=>
  intro B ls B' ls' ns ts t hB hc h;rw[oI _ _ _ _ _ gd]at h;split at h
  ·rename_i B1 ls1 u h1;obtain⟨g1,g2,g3,g4,new,rfl,g5,g6⟩:=iha hB hc h1;split at h
   ·rename_i B2 ls2 v h2;obtain⟨p1,p2,p3,p4,Cq,rfl,p5,p6⟩:=ihb g1 (hc.le g2) h2;simp only[W7]at h;obtain⟨q,h2,r,rfl,h3⟩:=h;obtain⟨B3,w⟩:=r;cases h3
    dsimp only;obtain⟨k1,k2,k3,k4⟩:=wZ p1 (by simp;exact⟨ea p2 g4,p4⟩) h2;have h5:bt kd=false:=by rcases gd with rfl|rfl|rfl|rfl<;>rfl
    refine⟨k1,by omega,by simp[aK,a7];omega,k4,new++Cq,by simp,by simp[aL,aB,h5,g5,p5],fun u hu=>?_⟩;rcases WY.1 hu with q|q
    ·exact ea (by omega) (g6 u q)
    ·exact ea k2 (p6 u q)
   ·simp at h
   ·simp at h
  ·simp at h
  ·simp at h
 | @ite a b c _ _ _ iha ihb ihc=>
  intro B ls B' ls' ns ts t hB hc h;rw[mF]at h;split at h
  ·rename_i B1 ls1 u h1;obtain⟨g1,g2,g3,g4,new,rfl,g5,g6⟩:=iha hB hc h1;split at h
   ·rename_i B2 ls2 v h2;obtain⟨p1,p2,p3,p4,Cq,rfl,p5,p6⟩:=ihb g1 (hc.le g2) h2;split at h
    ·rename_i B3 ls3 w h3;obtain⟨r1,r2,r3,r4,new3,rfl,r5,r6⟩:=ihc p1 (hc.le (by omega)) h3;simp only[W7]at h;obtain⟨q,h2,r,rfl,h3⟩:=h;obtain⟨B4,w⟩:=r;cases h3
     dsimp only;obtain⟨k1,k2,k3,k4⟩:=wZ r1 (by simp;exact⟨ea (by omega) g4,ea r2 p4,r4⟩) h2;refine⟨k1,by omega,by simp[aK,a7];omega,k4,new++Cq++new3,by simp,by simp[aL,aB,bt,g5,p5,r5],fun u hu=>?_⟩;rcases WY.1 hu with q|q
     ·rcases WY.1 q with q|q
      ·exact ea (by omega) (g6 u q)
      ·exact ea (by omega) (p6 u q)
     ·exact ea k2 (r6 u q)
    ·simp at h
    ·simp at h
   ·simp at h
   ·simp at h
  ·simp at h
  ·simp at h
theorem Cr {e:an} (he:Ba e):∀{B ls:List IT} {ns:List UInt8} {ts:List IT},wY B->Ah B ns ts->∃k r,inf k e B ls ns ts=some r:=by
 induction he with
 |var c=>intro B ls ns ts hB hc;exact⟨0,_,iQ _ _ _ _ _ _⟩
 |num n=>intro B ls ns ts hB hc;exact⟨0,_,sF _ _ _ _ _ _⟩
 |pz=>intro B ls ns ts hB hc;exact⟨0,_,sG _ _ _ _ _⟩
 |pA=>intro B ls ns ts hB hc;exact⟨0,_,sH _ _ _ _ _⟩
 | @lam c ty b _ ih=>
  intro B ls ns ts hB hc;have hN:=mG.one B;obtain⟨k,r,h⟩:=ih (B:=B++[.v B.length]) (ls:=ls++[.v B.length]) (ns:=ns++[c]) (ts:=ts++[.v B.length]) ⟨hN.sc hB.sc,hN.vW hB.sc hB.vW⟩ ⟨by simp[hc.len],fun u hu=>by
   rcases WY.1 hu with q|q
   ·exact ea hN.le (hc.ES u q)
   ·simp at q;subst q;simp[sc]⟩
  exact⟨k,_,by rw[jN,h];rfl⟩
 | @n1 kd a gd ha ih=>
  intro B ls ns ts hB hc;obtain⟨k,r,h⟩:=ih hB hc (ls:=ls);cases r with
  |none=>exact⟨k,none,by rw[qK _ _ _ _ _ gd,h]⟩
  |some r=>
   obtain⟨B1,ls1,u⟩:=r;have g:=mH ha hB hc h;obtain⟨j,r,h2⟩:=oJ (kd:=kd) g.ok (ts:=[u]) (by simpa using g.CP);exact⟨max k j,_,by rw[qK _ _ _ _ _ gd,inf_le (WQ k j) ha h];simp only;rw[nq (WO k j) h2];rfl⟩
 | @n2 kd a b gd ha hb iha ihb=>
  intro B ls ns ts hB hc;obtain⟨k,r,h⟩:=iha hB hc (ls:=ls);cases r with
  |none=>exact⟨k,none,by rw[oI _ _ _ _ _ gd,h]⟩
  |some r=>
   obtain⟨B1,ls1,u⟩:=r;have g:=mH ha hB hc h;obtain⟨j,r,h2⟩:=ihb g.ok (hc.le g.le) (ls:=ls1);cases r with
   |none=>exact⟨max k j,none,by rw[oI _ _ _ _ _ gd,inf_le (WQ k j) ha h];simp only;rw[inf_le (WO k j) hb h2]⟩
   |some r=>
    obtain⟨B2,ls2,v⟩:=r;have g2:=mH hb g.ok (hc.le g.le) h2;obtain⟨i,r,h3⟩:=oJ (kd:=kd) g2.ok (ts:=[u,v]) (by simp;exact⟨ea g2.le g.CP,g2.CP⟩);exact⟨max (max k j) i,_,by rw[oI _ _ _ _ _ gd,inf_le (by omega) ha h];simp only;rw[inf_le (by omega) hb h2];simp only;rw[nq (WO _ _) h3];rfl⟩
 | @ite a b c ha hb xw iha ihb ihc=>
  intro B ls ns ts hB hc;obtain⟨k,r,h⟩:=iha hB hc (ls:=ls);cases r with
  |none=>exact⟨k,none,by rw[mF,h]⟩
  |some r=>
   obtain⟨B1,ls1,u⟩:=r;have g:=mH ha hB hc h;obtain⟨j,r,h2⟩:=ihb g.ok (hc.le g.le) (ls:=ls1);cases r with
   |none=>exact⟨max k j,none,by rw[mF,inf_le (WQ k j) ha h];simp only;rw[inf_le (WO k j) hb h2]⟩
   |some r=>
    obtain⟨B2,ls2,v⟩:=r;have g2:=mH hb g.ok (hc.le g.le) h2;obtain⟨i,r,h3⟩:=ihc g2.ok ((hc.le g.le).le g2.le) (ls:=ls2);cases r with
    |none=>exact⟨max (max k j) i,none,by rw[mF,inf_le (by omega) ha h];simp only;rw[inf_le (by omega) hb h2];simp only;rw[inf_le (by omega) xw h3]⟩
    |some r=>
     obtain⟨B3,ls3,w⟩:=r;have g3:=mH xw g2.ok ((hc.le g.le).le g2.le) h3;obtain⟨m,r,h4⟩:=oJ (kd:=9) g3.ok (ts:=[u,v,w]) (by simp;exact⟨ea (Nat.le_trans g2.le g3.le) g.CP,ea g3.le g2.CP,g3.CP⟩);exact⟨max (max (max k j) i) m,_,by rw[mF,inf_le (by omega) ha h];simp only;rw[inf_le (by omega) hb h2];simp only;rw[inf_le (by omega) xw h3];simp only;rw[nq (WO _ _) h4];rfl⟩
theorem NI {α:Type} {l:List α} (h:l.length=2):∃x y,l=[x,y]:=by
 match l,h with
 |[x,y],_=>exact⟨x,y,rfl⟩
theorem NJ {α:Type} {l:List α} (h:l.length=3):∃x y z,l=[x,y,z]:=by
 match l,h with
 |[x,y,z],_=>exact⟨x,y,z,rfl⟩
def Pn (k:Int):Option (aH×aH)->aH
 |none=>.mk k []
 |some (x,y)=>.mk k [x,y]
abbrev KM:=LP Pn
abbrev KN:=Sat Pn
def NK (θ:Nat->aH) (ns:List UInt8) (ts:List IT):List gj:=List.zipWith (fun c t=>⟨[c],KM θ t⟩) ns ts
theorem ug (s:List UInt8) (t:aH) (b:an):aL (nJ s t b)=t::aL b:=by simp[aL,aB,bt]
theorem vX {k:Int} (hk:k=11\/k=12) (a:an):aL (AO k a)=aL a:=by rcases hk with rfl|rfl<;>simp[aL,aB,bt]
theorem vY {k:Int} (hk:k=6\/k=7\/k=8\/k=10) (a b:an):aL (xt k a b)=aL a++aL b:=by rcases hk with rfl|rfl|rfl|rfl<;>simp[aL,aB,bt]
theorem vZ (a b c:an):aL (BP a b c)=aL a++(aL b++aL c):=by simp[aL,aB,bt]
def NL (kd:Int) (ts:List aH) (t:aH):Prop:=
 (kd=2/\t=dD)\/((kd=3\/kd=4)/\t=eT)\/(∃x,ts=[.mk 5 [t,x]]/\kd=11)\/(∃x,ts=[.mk 5 [x,t]]/\kd=12)\/(∃x y,ts=[x,y]/\kd=10/\t=.mk 5 [x,y])\/(∃y,ts=[.mk 4 [y,t],y]/\kd=6)\/
  (ts=[dD,dD]/\kd=7/\t=dD)\/(ts=[dD,dD]/\kd=8/\t=eT)\/(ts=[eT,t,t]/\kd=9)
mutual
theorem Cs:∀t:aH,jU t t=t
 |.mk k l=>by
  simp only[jU];split
  ·rfl
  ·first
   |rw[oK l]
   |(split;rfl;rw[oK l])
theorem oK:∀l:List aH,sr l l=l
 |[]=>rfl
 |t::r=>by rw[sr,Cs t,oK r]
end
mutual
theorem Ct:∀t:aH,bN t t=true
 |.mk k l=>by
  simp only[bN];simp[uh l]
theorem uh:∀l:List aH,mX l l=true
 |[]=>rfl
 |t::r=>by simp[mX,Ct t,uh r]
end
inductive DL:aH->aH->Prop
 |int (b:aH):DL dD b
 |base (k:Int):DL (.mk k []) (.mk k [])
 |two {k:Int} {a b a' b':aH}:DL a a'->DL b b'->DL (.mk k [a,b]) (.mk k [a',b'])
def eW:IT->Prop
 |.v _=>True
 |.b k=>k=2\/k=3
 |.p k x y=>(k=4\/k=5)/\eW x/\eW y
structure RY (θ:Nat->aH) (B ls:List IT) (ns:List UInt8) (ts:List IT) (e:an) (T:aH):Prop where
 RZ:Cg T=0
 ex:∃k B' new t θ',inf k e B ls ns ts=some (some (B',ls++new,t))/\KN θ' B'/\(∀n,n<B.length->θ' n=θ n)/\KM θ' t=T/\(∀u∈new,ay 4 (KM θ' u)=true)/\
  ∀θ0,KN θ0 B'->(∀n,n<B'.length->DL (θ0 n) (θ' n))->ti (NK θ0 ns ts) (dJ e (new.map (KM θ0)))=some (KM θ0 t)
def Q1 (c:List gj):Prop:=∀b∈c,ay 4 b.ty=true/\Cg b.ty=0
def Ik (B:List IT) (K:Nat):Nat->IT->Option aH
 |0,_=>none
 |d+1,t=>match hd B K t with
  |.v _=>some dD
  |.b k=>some (.mk k [])
  |.p k x y=>match Ik B K d x with
   |none=>none
   |some X=>match Ik B K d y with
    |none=>none
    |some Y=>some (.mk k [X,Y])
def FR (B:List IT) (K:Nat):List IT->Option (List aH)
 |[]=>some []
 |t::r=>match Ik B K 4 t with
  |none=>none
  |some T=>match FR B K r with
   |none=>none
   |some Ts=>some (T::Ts)
def jo (B:List IT):Prop:=∀t∈B,eW t
theorem G9 {B:List IT} (h:jo B) {n:Nat} {t:IT} (hb:bd B n=some t):eW t:=h t (WZ (wW hb).1)
theorem mI {B:List IT} (h:jo B):∀{k:Nat} {t:IT},eW t->eW (hd B k t)
 |0,t,ht=>by cases t<;>exact ht
 |k+1,.v n,ht=>by
  simp only[hd];split<;>rename_i hb
  ·exact ht
  ·exact mI h (G9 h hb)
 |k+1,.b _,ht=>ht
 |k+1,.p _ _ _,ht=>ht
theorem jo.set {B:List IT} (h:jo B) {n:Nat} {t:IT} (ht:eW t):jo (B.set n t):=by
 intro u hu;rcases W4 hu with h1|rfl
 ·exact h u h1
 ·exact ht
theorem j0:∀{k:Nat} {B B':List IT} {a b:IT} {q:Bool},jo B->eW a->eW b->gx k B a b=some (B',q)->jo B'
 |0,B,B',a,b,q,_,_,_,h=>by simp[gx]at h
 |k+1,B,B',a,b,q,hB,ha,hb,h=>by
  rw[gx]at h;split at h
  ·have qI:=mI hB (k:=k) ha;have eJ:=mI hB (k:=k) hb;generalize hd B k a=a' at*;generalize hd B k b=b' at*
   match a',b',h with
   |.v n,b',h=>
    simp only at h;split at h
    ·simp at h;obtain⟨rfl,_⟩:=h;exact hB
    ·split at h
     ·simp at h;obtain⟨rfl,_⟩:=h;exact hB
     ·simp at h;obtain⟨rfl,_⟩:=h;exact hB.set eJ
   |.b _,.v n,h=>
    simp only at h;split at h
    ·simp at h;obtain⟨rfl,_⟩:=h;exact hB
    ·simp at h;obtain⟨rfl,_⟩:=h;exact hB.set qI
   |.p _ _ _,.v n,h=>
    simp only at h;split at h
    ·simp at h;obtain⟨rfl,_⟩:=h;exact hB
    ·simp at h;obtain⟨rfl,_⟩:=h;exact hB.set qI
   |.b _,.b _,h=>simp at h;obtain⟨rfl,_⟩:=h;exact hB
   |.b _,.p _ _ _,h=>simp at h;obtain⟨rfl,_⟩:=h;exact hB
   |.p _ _ _,.b _,h=>simp at h;obtain⟨rfl,_⟩:=h;exact hB
   |.p i x y,.p j x' y',h=>
    simp only at h;split at h
    ·cases hu:gx k B x x' with
     |none=>rw[hu]at h;simp at h
     |some r=>
      obtain⟨B1,q1⟩:=r;rw[hu]at h;have h1:=j0 hB qI.2.1 eJ.2.1 hu;cases q1
      ·simp at h;obtain⟨rfl,_⟩:=h;exact h1
      ·exact j0 h1 qI.2.2 eJ.2.2 h
    ·simp at h;obtain⟨rfl,_⟩:=h;exact hB
  ·simp at h
theorem nv {k:Nat} {B B':List IT} {a b:IT} (hB:jo B) (ha:eW a) (hb:eW b) (h:iF k B a b=some (some B')):jo B':=by
 simp only[iF]at h;split at h
 ·simp at h
 ·rename_i hu;simp at h;subst h;exact j0 hB ha hb hu
 ·simp at h
theorem jo.app {B C:List IT} (h:jo B) (hC:jo C):jo (B++C):=by
 intro t ht;rcases WY.1 ht with q|q
 ·exact h t q
 ·exact hC t q
theorem FT (l:List Nat):jo (l.map IT.v):=by
 intro t ht;obtain⟨n,_,rfl⟩:=List.mem_map.1 ht;trivial
theorem w6 {k:Nat} {kd:Int} {B B':List IT} {ts:List IT} {t:IT} (hB:jo B) (dY:∀u∈ts,eW u) (h:gk k kd B ts=some (some (B',t))):jo B'/\eW t:=by
 have G8:jo (B++[.v B.length,.v (B.length+1)]):=hB.app (FT [_,_]);simp only[gk]at h;split at h
 ·simp at h;obtain⟨rfl,rfl⟩:=h;exact⟨hB,.inl rfl⟩
 split at h
 ·simp at h;obtain⟨rfl,rfl⟩:=h;exact⟨hB,.inr rfl⟩
 split at h
 ·rename_i x;have hx:=dY x (by simp);split at h
  ·simp only[W7]at h;obtain⟨r,h1,B2,rfl,h2⟩:=h;cases h2
   exact⟨nv G8 hx (show eW (.p 5 (.v _) (.v _))from⟨.inr rfl,trivial,trivial⟩) h1,trivial⟩
  ·simp at h
 ·rename_i x y;have hx:=dY x (by simp);have hy:=dY y (by simp);split at h
  ·simp at h;obtain⟨rfl,rfl⟩:=h;exact⟨hB,.inr rfl,hx,hy⟩
  split at h
  ·simp only[W7]at h;obtain⟨r,h1,B2,rfl,h2⟩:=h;cases h2
   exact⟨nv G8 hx (show eW (.p 4 y (.v _))from⟨.inl rfl,hy,trivial⟩) h1,trivial⟩
  split at h
  ·split at h
   ·rename_i B1 h1;simp only[W7]at h;obtain⟨r,h4,B2,rfl,h5⟩:=h;cases h5
    refine⟨nv (nv hB hx (show eW (.b 2)from .inl rfl) h1) hy (show eW (.b 2)from .inl rfl) h4,?_⟩;simp only[eW];split<;>omega
   ·simp at h
   ·simp at h
  ·simp at h
 ·rename_i x y z;have hx:=dY x (by simp);have hy:=dY y (by simp);have hz:=dY z (by simp);split at h
  ·split at h
   ·rename_i B1 h1;simp only[W7]at h;obtain⟨r,h4,B2,rfl,h5⟩:=h;cases h5
    exact⟨nv (nv hB hx (show eW (.b 3)from .inr rfl) h1) hy hz h4,hy⟩
   ·simp at h
   ·simp at h
  ·simp at h
 ·simp at h
theorem Ej {k:Nat} {e:an} (he:Ba e):∀{B ls B' ls':List IT} {ns:List UInt8} {ts:List IT} {t:IT},jo B->jo ls->jo ts->inf k e B ls ns ts=some (some (B',ls',t))->jo B'/\jo ls'/\eW t:=by
 induction he with
 |var c=>
  intro B ls B' ls' ns ts t hB hl hc h;rw[iQ]at h;simp only[Option.some.injEq]at h;split at h
  ·simp only[W7]at h;obtain⟨u,h1,h2⟩:=h;cases h2
   exact⟨hB,hl,hc _ (WZ h1)⟩
  ·simp at h
 |num n=>intro B ls B' ls' ns ts t hB hl hc h;rw[sF]at h;cases h;exact⟨hB,hl,.inl rfl⟩
 |pz=>intro B ls B' ls' ns ts t hB hl hc h;rw[sG]at h;cases h;exact⟨hB,hl,.inr rfl⟩
 |pA=>intro B ls B' ls' ns ts t hB hl hc h;rw[sH]at h;cases h;exact⟨hB,hl,.inr rfl⟩
 | @lam c ty b _ ih=>
  intro B ls B' ls' ns ts t hB hl hc h;rw[jN]at h;simp only[W7]at h;obtain⟨q,h1,r,rfl,h2⟩:=h;cases h2
  obtain⟨g1,g2,g3⟩:=ih (hB.app (FT [_])) (hl.app (FT [_])) (hc.app (FT [_])) h1;exact⟨g1,g2,.inl rfl,trivial,g3⟩
 | @n1 kd a gd ha ih=>
  intro B ls B' ls' ns ts t hB hl hc h;rw[qK _ _ _ _ _ gd]at h;split at h
  ·rename_i B1 ls1 u h1;obtain⟨g1,g2,g3⟩:=ih hB hl hc h1;simp only[W7]at h;obtain⟨q,h2,r,rfl,h3⟩:=h;obtain⟨B2,w⟩:=r;cases h3
   obtain⟨k1,k2⟩:=w6 g1 (by simpa using g3) h2;exact⟨k1,g2,k2⟩
  ·simp at h
  ·simp at h
 | @n2 kd a b gd ha hb iha ihb=>
  intro B ls B' ls' ns ts t hB hl hc h;rw[oI _ _ _ _ _ gd]at h;split at h
  ·rename_i B1 ls1 u h1;obtain⟨g1,g2,g3⟩:=iha hB hl hc h1;split at h
   ·rename_i B2 ls2 v h2;obtain⟨p1,p2,p3⟩:=ihb g1 g2 hc h2;simp only[W7]at h;obtain⟨q,h3,r,rfl,h4⟩:=h;obtain⟨B3,w⟩:=r;cases h4
    obtain⟨k1,k2⟩:=w6 p1 (by simp;exact⟨g3,p3⟩) h3;exact⟨k1,p2,k2⟩
   ·simp at h
   ·simp at h
  ·simp at h
  ·simp at h
 | @ite a b c ha hb xw iha ihb ihc=>
  intro B ls B' ls' ns ts t hB hl hc h;rw[mF]at h;split at h
  ·rename_i B1 ls1 u h1;obtain⟨g1,g2,g3⟩:=iha hB hl hc h1;split at h
   ·rename_i B2 ls2 v h2;obtain⟨p1,p2,p3⟩:=ihb g1 g2 hc h2;split at h
    ·rename_i B3 ls3 w h3;obtain⟨r1,r2,r3⟩:=ihc p1 p2 hc h3;simp only[W7]at h;obtain⟨q,h4,r,rfl,h5⟩:=h;obtain⟨B4,w⟩:=r;cases h5
     obtain⟨k1,k2⟩:=w6 r1 (by simp;exact⟨g3,p3,r3⟩) h4;exact⟨k1,r2,k2⟩
    ·simp at h
    ·simp at h
   ·simp at h
   ·simp at h
  ·simp at h
  ·simp at h
def LQ (B:List IT):Nat->IT->aH
 |k+1,.v n=>match bd B n with
  |none=>dD
  |some t=>LQ B k t
 |0,.v _=>dD
 |_,.b k=>.mk k []
 |0,.p _ _ _=>dD
 |j+1,.p k x y=>.mk k [LQ B j x,LQ B j y]
theorem Ek {B:List IT} (h:Cp B):∃K,∀n,n<B.length->ex B K (.v n)=true:=by
 have:∀m,m<=B.length->∃K,∀n,n<m->ex B K (.v n)=true:=by
  intro m;induction m with
  |zero=>intro _;exact⟨0,fun n hn=>by omega⟩
  |succ m ih=>
   intro hm;obtain⟨K1,h1⟩:=ih (by omega);obtain⟨K2,h2⟩:=h m (by omega);refine⟨max K1 K2,fun n hn=>?_⟩;by_cases e:n=m
   ·subst e;exact mD (WO _ _) h2
   ·exact mD (WQ _ _) (h1 n (by omega))
 exact this B.length (WR _)
def Fuel (B:List IT) (K:Nat):Prop:=∀n,n<B.length->ex B K (.v n)=true
def R0 (B:List IT) (K:Nat) (n:Nat):aH:=LQ B K (.v n)
theorem lx {B:List IT} {K:Nat} (hK:Fuel B K):∀{t:IT},sc B.length t=true->∃j,ex B j t=true
 |.v n,hs=>⟨K,hK n (by simpa[sc]using hs)⟩
 |.b _,_=>⟨1,rfl⟩
 |.p c x y,ht=>by
  rw[sc,WN]at ht;obtain⟨k1,h1⟩:=lx hK ht.1;obtain⟨k2,h2⟩:=lx hK ht.2;exact⟨max k1 k2+1,by rw[ex,WN];exact⟨mD (WQ _ _) h1,mD (WO _ _) h2⟩⟩
structure Whole (e:an) (k:Nat) (B ls:List IT) (t:IT):Prop where
 ba:Ba e
 inf:Av.inf k e [] [] [] []=some (some (B,ls,t))
theorem w7:wY []:=⟨fun t h=>(by cases h),fun n h=>(by simp at h)⟩
theorem ui:Ah [] [] []:=⟨rfl,fun u h=>(by cases h)⟩
theorem Whole.ok {e:an} {k:Nat} {B ls:List IT} {t:IT} (h:Whole e k B ls t):Pm e [] [] B ls t/\jo B/\jo ls/\eW t/\ls.length=(aL e).length/\(∀u∈ls,sc B.length u=true)/\B.length<=2*aK e:=by
 have h1:=mH h.ba w7 ui h.inf;obtain⟨h2,h3,h4⟩:=Ej h.ba (B:=[]) (ls:=[]) (ts:=[]) (fun t h=>(by cases h)) (fun t h=>(by cases h)) (fun t h=>(by cases h)) h.inf;obtain⟨new,h5,h6,h7⟩:=h1.KL;rw[List.nil_append]at h5;subst h5;exact⟨h1,h2,h3,h4,h6,h7,by have:=h1.len;simpa using this⟩
def gB (B:List IT):Nat->IT->Nat
 |k+1,.v n=>match bd B n with
  |none=>1
  |some t=>gB B k t
 |k+1,.p _ x y=>1+gB B k x+gB B k y
 |_,_=>1
theorem pO {B:List IT}:∀{k:Nat} {t:IT},1<=gB B k t
 |0,t=>by cases t<;>simp[gB]
 |k+1,.v n=>by
  simp only[gB];split
  ·omega
  ·exact pO
 |k+1,.b _=>by simp[gB]
 |k+1,.p _ x y=>by simp only[gB];omega
theorem dm {B:List IT}:∀{k j:Nat} {t:IT},ex B k t=true->k<=j->gB B j t=gB B k t
 |0,j,t,h,_=>by simp[ex]at h
 |k+1,j+1,.v m,h,hj=>by
  simp only[ex]at h;simp only[gB];split<;>rename_i hb
  ·rfl
  ·rw[hb]at h;exact dm h (by omega)
 |k+1,j+1,.b _,_,_=>rfl
 |k+1,j+1,.p _ x y,h,hj=>by
  rw[ex,WN]at h;simp only[gB,dm h.1 (show k<=j by omega),dm h.2 (show k<=j by omega)]
theorem w8 {B:List IT}:∀{k:Nat} {t:IT},ex B k t=true->gB B k (hd B k t)=gB B k t
 |0,t,h=>by simp[ex]at h
 |k+1,.v m,h=>by
  simp only[ex]at h;simp only[hd];cases hb:bd B m with
  |none=>simp
  |some t=>
   rw[hb]at h;simp only at h⊢;rw[dm (gE h) (WS k),w8 h];simp only[gB,hb]
 |k+1,.b _,h=>rfl
 |k+1,.p _ x y,h=>rfl
def jq (n:Nat):List Nat->Nat
 |[]=>0
 |x::r=>if x=n then 0 else jq n r+1
theorem yI {n:Nat}:∀{l:List Nat},n∈l->jq n l<l.length/\l[jq n l]? =some n/\∀j,j<jq n l->l[j]? ≠some n
 |x::r,h=>by
  simp only[jq];by_cases e:x=n
  ·rw[if_pos e];subst e;exact⟨by simp,rfl,fun j hj=>by omega⟩
  ·rw[if_neg e];have hr:n∈r:=by
    rcases W0.1 h with q|q
    ·exact absurd q.symm e
    ·exact q
   obtain⟨h1,h2,h3⟩:=yI hr;refine⟨by simp;omega,by simpa using h2,fun j hj=>?_⟩;cases j with
   |zero=>simpa using e
   |succ j=>simpa using h3 j (by omega)
theorem A8 {n:Nat}:∀{l:List Nat},n∉l->jq n l=l.length
 |[],_=>rfl
 |x::r,h=>by
  simp only[W0,not_or]at h;simp only[jq];rw[if_neg (fun e=>h.1 e.symm),A8 h.2];rfl
def yJ (i:Nat):UInt8:=UInt8.ofNat (97+i)
def kL (B:List IT):Nat->IT->List Nat->List UInt8×List Nat
 |k+1,.v n,seen=>match bd B n with
  |none=>([yJ (jq n seen)],if n∈seen then seen else seen++[n])
  |some t=>kL B k t seen
 |k+1,.p c x y,seen=>(40::((kL B k x seen).1++gv c::((kL B k y (kL B k x seen).2).1++[41])),(kL B k y (kL B k x seen).2).2)
 |_,.b c,seen=>([gv c],seen)
 |0,_,seen=>([],seen)
theorem dW {B:List IT}:∀{k j:Nat} {t:IT} {seen:List Nat},ex B k t=true->k<=j->kL B j t seen=kL B k t seen
 |0,j,t,_,h,_=>by simp[ex]at h
 |k+1,j+1,.v m,seen,h,hj=>by
  simp only[ex]at h;simp only[kL];split<;>rename_i hb
  ·rfl
  ·rw[hb]at h;exact dW h (by omega)
 |k+1,j+1,.b _,_,_,_=>rfl
 |k+1,j+1,.p _ x y,seen,h,hj=>by
  rw[ex,WN]at h;simp only[kL,dW h.1 (show k<=j by omega),dW h.2 (show k<=j by omega)]
theorem Ai {B:List IT} {seen:List Nat}:∀{k:Nat} {t:IT},ex B k t=true->kL B k (hd B k t) seen=kL B k t seen
 |0,t,h=>by simp[ex]at h
 |k+1,.v m,h=>by
  simp only[ex]at h;simp only[hd];cases hb:bd B m with
  |none=>simp
  |some t=>
   rw[hb]at h;simp only at h⊢;rw[dW (gE h) (WS k),Ai h];simp only[kL,hb]
 |k+1,.b _,h=>rfl
 |k+1,.p _ x y,h=>rfl
theorem pP {B:List IT}:∀{k:Nat} {t:IT} {seen:List Nat},ex B k t=true->(kL B k t seen).1.length<=3*gB B k t/\2*(kL B k t seen).2.length<=2*seen.length+gB B k t+1/\seen.length<=(kL B k t seen).2.length
 |0,t,_,h=>by simp[ex]at h
 |k+1,.v m,seen,h=>by
  simp only[ex]at h;simp only[kL,gB];cases hb:bd B m with
  |none=>
   refine⟨by simp,?_,?_⟩
   ·dsimp only;split<;>(try simp)<;>omega
   ·dsimp only;split<;>simp
  |some t=>rw[hb]at h;exact pP h
 |k+1,.b _,_,_=>by simp[kL,gB];omega
 |k+1,.p _ x y,seen,h=>by
  rw[ex,WN]at h;obtain⟨h1,h2,h3⟩:=pP (seen:=seen) h.1;obtain⟨h4,h5,h6⟩:=pP (seen:=(kL B k x seen).2) h.2;simp only[kL,gB,List.length_cons,W2,List.length_nil];omega
def Po (c:UInt8):UInt8:=if 97<=c.toNat/\c.toNat<=122 then 73 else c
theorem uj {s:List UInt8} {c:UInt8}:∀{p:Nat},0<=dj s c p->c∈s
 |0,h=>by simp[dj]at h
 |p+1,h=>by
  simp only[dj]at h;split at h
  ·rename_i hs;exact WZ hs
  ·exact uj h
theorem Aj {k:Nat} {e:an} (he:Ba e) (z:UInt8):∀{B ls:List IT} {ns:List UInt8} {ts:List IT} {r:List IT×List IT×IT},inf k e B ls ns ts=some (some r)->aW z ns e=false:=by
 induction he with
 |var c=>
  intro B ls ns ts r h;rw[iQ]at h;simp only[Option.some.injEq]at h;split at h
  ·rename_i lR;have:=uj (s:=ns) (c:=c) (p:=ns.length) lR;simp only[aW,cU];by_cases hz:c=z
   ·subst hz;simp[this]
   ·simp[hz]
  ·simp at h
 |num n=>intro B ls ns ts r h;simp[aW,cU]
 |pz=>intro B ls ns ts r h;simp[aW,cU]
 |pA=>intro B ls ns ts r h;simp[aW,cU]
 | @lam c ty b _ ih=>
  intro B ls ns ts r h;rw[jN]at h;simp only[W7]at h;obtain⟨q,h1,r',rfl,_⟩:=h;simp[aW,cU,ih h1]
 | @n1 kd a gd ha ih=>
  intro B ls ns ts r h;rw[qK _ _ _ _ _ gd]at h;split at h
  ·rename_i B1 ls1 u h1;simp[aW,cU,ih h1,show¬kd=1 by omega,show¬kd=5 by omega]
  ·simp at h
  ·simp at h
 | @n2 kd a b gd ha hb iha ihb=>
  intro B ls ns ts r h;rw[oI _ _ _ _ _ gd]at h;split at h
  ·rename_i B1 ls1 u h1;split at h
   ·rename_i B2 ls2 v h2;simp[aW,cU,iha h1,ihb h2,show¬kd=1 by omega,show¬kd=5 by omega]
   ·simp at h
   ·simp at h
  ·simp at h
  ·simp at h
 | @ite a b c ha hb xw iha ihb ihc=>
  intro B ls ns ts r h;rw[mF]at h;split at h
  ·rename_i B1 ls1 u h1;split at h
   ·rename_i B2 ls2 v h2;split at h
    ·rename_i B3 ls3 w h3;simp[aW,cU,iha h1,ihb h2,ihc h3]
    ·simp at h
    ·simp at h
   ·simp at h
   ·simp at h
  ·simp at h
  ·simp at h
theorem Whole.closed {e:an} {k:Nat} {B ls:List IT} {t:IT} (h:Whole e k B ls t):∀z,aW z [] e=false:=fun z=>Aj h.ba z h.inf
def IT.kind:IT->Int
 |.v _=>0
 |.b k=>k
 |.p k _ _=>k
def IT.name:IT->Nat
 |.v n=>n
 |_=>0
def IT.kids:IT->List IT
 |.p _ x y=>[x,y]
 |_=>[]
section
variable (n:Nat) (k:Int) (x y:IT)
@[simp] theorem IT.ly:(IT.v n).kind=0:=rfl
@[simp] theorem IT.fq:(IT.b k).kind=k:=rfl
@[simp] theorem IT.ft:(IT.p k x y).kind=k:=rfl
@[simp] theorem IT.j5:(IT.v n).name=n:=rfl
@[simp] theorem IT.lz:(IT.b k).name=0:=rfl
@[simp] theorem IT.lA:(IT.p k x y).name=0:=rfl
@[simp] theorem IT.lB:(IT.v n).kids=[]:=rfl
@[simp] theorem IT.lC:(IT.b k).kids=[]:=rfl
@[simp] theorem IT.gU:(IT.p k x y).kids=[x,y]:=rfl
end
def lP:IT->List DV
 |.v n=>[.i 0,.i n,.sl []]
 |.b k=>[.i k,.i 0,.sl []]
 |.p k x y=>[.i k,.i 0,.sl [lP x,lP y]]
theorem ak (t:IT):lP t=[.i t.kind,.i t.name,.sl (t.kids.map lP)]:=by cases t<;>rfl
@[simp] theorem iS (t:IT):(lP t).length=3:=by cases t<;>rfl
theorem iB (n:Nat):lP (.v n)=[.i 0,.i n,.sl []]:=rfl
theorem A9 (k:Int):lP (.b k)=[.i k,.i 0,.sl []]:=rfl
theorem Bb (k:Int) (x y:IT):lP (.p k x y)=[.i k,.i 0,.sl [lP x,lP y]]:=rfl
theorem kB (t:IT):List.drop 3 (lP t)=[]:=by cases t<;>rfl
abbrev fy (t:IT):AV:=.agg [.d (.i t.kind),.d (.i t.name),.d (.sl (t.kids.map lP))]
abbrev ew (B ls:List IT):AV:=.agg [.d (.sl (B.map lP)),.d (.sl (ls.map lP))]
theorem Bc {B:List IT} {k n:Nat} {t:IT} (hb:bd B n=some t):hd B (k+1) (.v n)=hd B k t:=by simp[hd,hb]
theorem Bd {B:List IT} {k n:Nat} (hb:bd B n=none):hd B k (.v n)=.v n:=by cases k<;>simp[hd,hb]
theorem iG {t:IT} (h:eW t) (hv:∀n,t≠.v n):t.kind≠0:=by
 cases t with
 |v n=>exact absurd rfl (hv n)
 |b k=>simp only[eW]at h;simp only[IT.fq];omega
 |p k x y=>simp only[eW]at h;simp only[IT.ft];omega
theorem kC {t:IT} (h:eW t):∀u∈t.kids,eW u:=by
 intro u hu;cases t with
 |v n=>cases hu
 |b k=>cases hu
 |p k x y=>simp only[eW]at h;simp only[IT.gU,W0,W3,or_false]at hu;rcases hu with rfl|rfl<;>simp[h]
theorem nw {N:Nat} {t:IT} (h:sc N t=true):∀u∈t.kids,sc N u=true:=by
 intro u hu;cases t with
 |v n=>cases hu
 |b k=>cases hu
 |p k x y=>simp only[sc,WN]at h;simp only[IT.gU,W0,W3,or_false]at hu;rcases hu with rfl|rfl<;>simp[h]
theorem El {B:List IT} {n k:Nat} {t:IT} (hx:ex B k t=true) (hv:∀n,t≠.v n):iX B n k t=t.kids.any fun u=>iX B n k u:=by
 cases k with
 |zero=>simp[ex]at hx
 |succ k=>
  cases t with
  |v m=>exact absurd rfl (hv m)
  |b c=>simp[iX]
  |p c x y=>
   simp only[ex,WN]at hx;simp only[iX,IT.gU,List.any_cons,List.any_nil,Bool.or_false];rw[dk hx.1 (WS k),dk hx.2 (WS k)]
def v7 (k:Nat) (B:List IT) (n:Nat) (t:IT):List IT×Bool:=if t=.v n then(B,true)else if iX B n k t=true then(B,false)else(B.set n t,true)
theorem Whole.uniq {e:an} {k k':Nat} {B B' ls ls':List IT} {t t':IT} (h:Whole e k B ls t) (h':Whole e k' B' ls' t'):B=B'/\ls=ls'/\t=t':=by
 have h1:=inf_le (WU k k') h.ba h.inf;have h2:=inf_le (WV k' k) h.ba h'.inf;rw[h1]at h2;simp only[Option.some.injEq,Prod.mk.injEq]at h2;exact h2
theorem Whole.not {e:an} {k k':Nat} {B ls:List IT} {t:IT} (h:Whole e k B ls t) (h':Av.inf k' e [] [] [] []=some none):False:=by
 have h1:=inf_le (WU k k') h.ba h.inf;have h2:=inf_le (WV k' k) h.ba h';rw[h1]at h2;cases h2
theorem uk {e:an} (he:Ba e):(∃k B ls t,Whole e k B ls t)\/∃k,inf k e [] [] [] []=some none:=by
 obtain⟨k,r,hr⟩:=Cr he (B:=[]) (ls:=[]) (ns:=[]) (ts:=[]) w7 ui;cases r with
 |none=>exact .inr ⟨k,hr⟩
 |some r=>obtain⟨B,ls,t⟩:=r;exact .inl ⟨k,B,ls,t,he,hr⟩
theorem Whole.fuel {e:an} {k:Nat} {B ls:List IT} {t:IT} (h:Whole e k B ls t):∃K,Fuel B K:=by
 obtain⟨h1,_⟩:=h.ok;exact Ek h1.ok.vW
open Classical in
noncomputable def yK (e:an):Option (List UInt8):=if h:∃x:Nat×List IT×List IT×IT×Nat,Whole e x.1 x.2.1 x.2.2.1 x.2.2.2.1/\ex x.2.1 x.2.2.2.2 x.2.2.2.1=true/\gB x.2.1 x.2.2.2.2 x.2.2.2.1<=30
 then some (kL h.choose.2.1 h.choose.2.2.2.2 h.choose.2.2.2.1 []).1 else none
theorem v8 {e:an} {k j:Nat} {B ls:List IT} {t:IT} (h:Whole e k B ls t) (hx:ex B j t=true) (hz:gB B j t<=30):yK e=some (kL B j t []).1:=by
 have hex:∃x:Nat×List IT×List IT×IT×Nat,Whole e x.1 x.2.1 x.2.2.1 x.2.2.2.1/\ex x.2.1 x.2.2.2.2 x.2.2.2.1=true/\gB x.2.1 x.2.2.2.2 x.2.2.2.1<=30:=⟨(k,B,ls,t,j),h,hx,hz⟩;rw[yK,dif_pos hex];obtain⟨h1,h2,h3⟩:=hex.choose_spec;obtain⟨e1,_,e3⟩:=h.uniq h1;rw[<-e1,<-e3]at h2⊢;rw[<-dW (seen:=[]) h2 (WU _ j),<-dW (seen:=[]) hx (WV j _)]
theorem um {e:an} {k j:Nat} {B ls:List IT} {t:IT} (h:Whole e k B ls t) (hx:ex B j t=true) (hz:¬gB B j t<=30):yK e=none:=by
 rw[yK,dif_neg];rintro⟨x,h1,h2,h3⟩;obtain⟨e1,_,e3⟩:=h.uniq h1;rw[<-e1,<-e3]at h2 h3;rw[<-dm h2 (WU _ j),dm hx (WV j _)]at h3;exact hz h3
theorem qL {e:an} {k:Nat} (h:inf k e [] [] [] []=some none):yK e=none:=by
 rw[yK,dif_neg];rintro⟨x,h1,_⟩;exact h1.not h
noncomputable def oL (e:an):Option (List UInt8):=if aR e=true then yK (mapM aM e)else none
end Go.Av
