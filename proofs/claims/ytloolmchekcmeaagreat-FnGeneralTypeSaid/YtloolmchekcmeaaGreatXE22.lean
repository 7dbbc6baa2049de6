/- A part. -/
import Derived.Test.YtloolmchekcmeaaGreatXE21
set_option linter.unusedVariables false
set_option linter.unusedSimpArgs false
open Bool renaming and_eq_true->abw
open Nat renaming le_refl->abx,le_max_right->aby,le_max_left->abz,le_succ->abA,le_add_right->abB,le_add_left->abC,le_trans->abD,add_right_comm->abE,strongRecOn->abF
open List renaming mem_append->abG,map_cons->abH,map_nil->abI,mem_cons->abJ,append_assoc->abK,length_append->abL,getElem?_eq_getElem->abM,mem_of_getElem?->abN,map_append->abO,drop_left'->abP,take_append_drop->abQ,not_mem_nil->abR,nil_append->abS,length_take->abT,length_set->abU,length_map->abV,length_drop->abW,drop_append_of_le_length->abX,append_cancel_left_eq->abY,take_of_length_le->abZ,take_add_one->ab0,mem_or_eq_of_mem_set->ab1,drop_drop->ab2,countP_cons->ab3,countP_append->ab4,cons_append->ab5
open Option renaming map_eq_some_iff->ab6,bind_eq_some_iff->ab7
namespace Go.Av
attribute [-simp] Go.Av.cb Go.Av.eL Go.Av.fj Go.Av.fa Go.Av.cT Go.Av.b9
open Go
def ee (s:List UInt8) (c:UInt8):Nat->Int
 |0=>-1
 |p+1=>if s[p]? =some c then(p:Int)else ee s c p
def dp (s:List UInt8) (c:UInt8):Int:=ee s c s.length
theorem nY (s:List UInt8) (c:UInt8):∀p,-1<=ee s c p/\ee s c p<p
 |0=>by simp[ee]
 |p+1=>by
  have:=nY s c p;simp only[ee];split<;>push_cast<;>omega
def Mg (k:Int):Int:=if k=6 then 6 else if k=7 then 7 else if k=8 then 8 else if k=10 then 11 else if k=11 then 12 else 13
def Mh (k:Int) (x n:Int) (cs:List (List DN)):List DN:=
 if k=1 then [⟨3,x⟩]else if k=2 then [⟨1,n⟩]else if k=3 then [⟨2,1⟩]else if k=4 then [⟨2,0⟩]
 else if k=5 then(match cs with|[b]=>[⟨4,b.length+1⟩]++b++[⟨5,0⟩]|_=>[])
 else if k=9 then(match cs with|[c,y,z]=>c++[⟨9,y.length+1⟩]++y++[⟨10,z.length⟩]++z|_=>[])
 else cs.flatten++[⟨Mg k,0⟩]
mutual
def Iq (names:List UInt8):ao->List DN
 |.mk k s n _ _ _ l=>Mh k (names.length-1-dp names (s.headD 0)) n (K5 (if k=5 then names++s else names) l)
def K5 (names:List UInt8):List ao->List (List DN)
 |[]=>[]
 |e::r=>Iq names e::K5 names r
end
inductive CS:List UInt8->ao->Prop
 |var {ns:List UInt8} {c:UInt8}:c∈ns->CS ns (q8 [c])
 |num {ns:List UInt8} (n:Int):CS ns (tO n)
 |tP {ns:List UInt8}:CS ns mR
 |tQ {ns:List UInt8}:CS ns ju
 |lam {ns:List UInt8} {c:UInt8} {t:aE} {b:ao}:CS (ns++[c]) b->CS ns (pD [c] t b)
 |n2 {ns:List UInt8} {k:Int} {a b:ao}:k=6\/k=7\/k=8\/k=10->CS ns a->CS ns b->CS ns (Ag k a b)
 |ite {ns:List UInt8} {a b c:ao}:CS ns a->CS ns b->CS ns c->CS ns (Ex a b c)
 |n1 {ns:List UInt8} {k:Int} {a:ao}:k=11\/k=12->CS ns a->CS ns (Di k a)
structure RD (ns:List UInt8) (e:ao):Prop where
 var:e.kind=1->∃c,e.name=[c]/\c∈ns/\e.kids=[]
 lam:e.kind=5->∃c b,e.name=[c]/\e.kids=[b]
 ite:e.kind=9->∃a b c,e.kids=[a,b,c]
 kind:1<=e.kind/\e.kind<=12
 leaf:e.kind<=4->e.kids=[]
 len:e.kids.length<=3
 UZ:e.name.length<=1
 kids:∀u∈e.kids,CS (if e.kind=5 then ns++e.name else ns) u
def OS (e:ao):Option (List DN):=if a6 e=true/\Ig e=[]then(if zG (Iq [] (mapM aS e))=true then some (Iq [] (mapM aS e))else none)else none
def U0 (o:Option (List DN)):List DN:=o.getD []
mutual
theorem DW (z:UInt8):∀(e:ao) (bd:List UInt8),xF z bd (mapM DJ e)=xF z bd e
 |.mk k s n t f b l,bd=>by
  rw[mapM,DJ];split<;>(simp only[xF,ao.b4,ao.lX,ao.bQ,vt z l];try rfl)
theorem vt (z:UInt8):∀(l:List ao) (bd:List UInt8),qj z bd (eI DJ l)=qj z bd l
 |[],bd=>rfl
 |e::r,bd=>by rw[eI,qj,qj,DW z e,vt z r]
end
mutual
def ES (bd:List UInt8):ao->List UInt8->List UInt8
 |.mk k s _ _ _ _ l,out=>xL (if k=5 then lM (s.headD 0) bd else bd) l (if k=1/\¬s.headD 0∈bd then lM (s.headD 0) out else out)
def xL (bd:List UInt8):List ao->List UInt8->List UInt8
 |[],out=>out
 |e::r,out=>xL bd r (ES bd e out)
end
mutual
theorem Gg:∀(e:ao) (bd out:List UInt8),(ES bd e out).length<=out.length+aT e
 |.mk k s n t f b l,bd,out=>by
  rw[ES,aT];have h1:=xM l (if k=5 then lM (s.headD 0) bd else bd) (if k=1/\¬s.headD 0∈bd then lM (s.headD 0) out else out);have h2:(if k=1/\¬s.headD 0∈bd then lM (s.headD 0) out else out).length<=out.length+1:=by
   split
   ·exact wW _ _
   ·omega
  omega
theorem xM:∀(l:List ao) (bd out:List UInt8),(xL bd l out).length<=out.length+bk l
 |[],bd,out=>by simp[xL]
 |e::r,bd,out=>by
  rw[xL,bk];have h1:=Gg e bd out;have h2:=xM r bd (ES bd e out);omega
end
inductive IT where
 |v (n:Nat)
 |b (k:Int)
 |p (k:Int) (x y:IT)
deriving DecidableEq
def bd (B:List IT) (n:Nat):Option IT:=match B[n]? with
 |some t=>if t=.v n then none else some t
 |none=>none
def ex (B:List IT):Nat->IT->Bool
 |0,_=>false
 |k+1,.v n=>match bd B n with
  |none=>true
  |some t=>ex B k t
 |_+1,.b _=>true
 |k+1,.p _ x y=>ex B k x && ex B k y
def hd (B:List IT):Nat->IT->IT
 |k+1,.v n=>match bd B n with
  |none=>.v n
  |some t=>hd B k t
 |_,t=>t
def jk (B:List IT) (n:Nat):Nat->IT->Bool
 |k+1,.v m=>match bd B m with
  |none=>decide (m=n)
  |some t=>jk B n k t
 |k+1,.p _ x y=>jk B n k x||jk B n k y
 |_,_=>false
def iD:Nat->List IT->IT->IT->Option (List IT×Bool)
 |0,_,_,_=>none
 |k+1,B,a,b=>if ex B k a && ex B k b then
   match hd B k a,hd B k b with
   |.v n,b'=>if b'=.v n then some (B,true)else if jk B n k b' then some (B,false)else some (B.set n b',true)
   |a',.v n=>if jk B n k a' then some (B,false)else some (B.set n a',true)
   |.b i,.b j=>some (B,decide (i=j))
   |.p i x y,.p j x' y'=>if i=j then(match iD k B x x' with
     |some (B1,true)=>iD k B1 y y'
     |r=>r)else some (B,false)
   |_,_=>some (B,false)
  else none
section
variable {B:List IT}
theorem nZ:∀{k:Nat} {t:IT},ex B k t=true->ex B (k+1) t=true
 |0,t,h=>by simp[ex]at h
 |k+1,.v n,h=>by
  simp only[ex]at h⊢;split<;>rename_i hb
  ·rfl
  ·rw[hb]at h;exact nZ h
 |k+1,.b _,_=>by simp[ex]
 |k+1,.p _ x y,h=>by
  rw[ex,abw]at h;rw[ex,abw];exact⟨nZ h.1,nZ h.2⟩
theorem oM {k j:Nat} {t:IT} (hk:k<=j) (h:ex B k t=true):ex B j t=true:=by
 induction hk with
 |refl=>exact h
 |step _ ih=>exact nZ ih
def Ir (B:List IT) (t:IT):Prop:=∀n,t=.v n->bd B n=none
theorem fL:∀{k:Nat} {t:IT},ex B k t=true->Ir B (hd B k t)
 |0,t,h=>by simp[ex]at h
 |k+1,.v n,h=>by
  simp only[ex]at h;simp only[hd];split<;>rename_i hb
  ·intro m e;cases e;exact hb
  ·rw[hb]at h;exact fL h
 |k+1,.b _,_=>by intro n e;simp[hd]at e
 |k+1,.p _ x y,_=>by intro n e;simp[hd]at e
theorem xN {t:IT} (h:Ir B t):∀k,hd B k t=t
 |0=>by cases t<;>rfl
 |k+1=>by
  cases t with
  |v n=>simp only[hd,h n rfl]
  |b _=>rfl
  |p _ _ _=>rfl
theorem jl:∀{k:Nat} {t:IT},ex B k t=true->ex B k (hd B k t)=true
 |0,t,h=>by simp[ex]at h
 |k+1,.v n,h=>by
  have h':=h;simp only[ex]at h;simp only[hd];split<;>rename_i hb
  ·exact h'
  ·rw[hb]at h;exact nZ (jl h)
 |k+1,.b _,h=>h
 |k+1,.p _ x y,h=>h
theorem gI:∀{k j:Nat} {t:IT},ex B k t=true->k<=j->hd B j t=hd B k t
 |0,j,t,h,_=>by simp[ex]at h
 |k+1,j+1,.v n,h,hj=>by
  simp only[ex]at h;simp only[hd];split<;>rename_i hb
  ·rfl
  ·rw[hb]at h;exact gI h (by omega)
 |k+1,j+1,.b _,_,_=>rfl
 |k+1,j+1,.p _ _ _,_,_=>rfl
theorem eo {n:Nat}:∀{k j:Nat} {t:IT},ex B k t=true->k<=j->jk B n j t=jk B n k t
 |0,j,t,h,_=>by simp[ex]at h
 |k+1,j+1,.v m,h,hj=>by
  simp only[ex]at h;simp only[jk];split<;>rename_i hb
  ·rfl
  ·rw[hb]at h;exact eo h (by omega)
 |k+1,j+1,.b _,_,_=>rfl
 |k+1,j+1,.p _ x y,h,hj=>by
  rw[ex,abw]at h;simp only[jk,eo h.1 (show k<=j by omega),eo h.2 (show k<=j by omega)]
theorem DX {n:Nat}:∀{k:Nat} {t:IT},ex B k t=true->jk B n k (hd B k t)=jk B n k t
 |0,t,h=>by simp[ex]at h
 |k+1,.v m,h=>by
  have h':=h;simp only[ex]at h;simp only[hd];cases hb:bd B m with
  |none=>simp
  |some t=>
   rw[hb]at h;simp only at h⊢;rw[eo (jl h) (abA k),DX h];simp only[jk,hb]
 |k+1,.b _,h=>rfl
 |k+1,.p _ x y,h=>rfl
theorem n0:∀{k:Nat} {t:IT} {c:Int} {x y:IT},ex B k t=true->hd B k t=.p c x y->∃j,j<k/\ex B j x=true/\ex B j y=true
 |0,t,_,_,_,h,_=>by simp[ex]at h
 |k+1,.v n,c,x,y,h,e=>by
  simp only[ex]at h;simp only[hd]at e;cases hb:bd B n with
  |none=>rw[hb]at e;cases e
  |some t=>
   rw[hb]at h e;obtain⟨j,h1,h2⟩:=n0 h e;exact⟨j,by omega,h2⟩
 |k+1,.b _,_,_,_,h,e=>by simp[hd]at e
 |k+1,.p _ x y,_,_,_,h,e=>by
  simp only[hd]at e;cases e
  rw[ex,abw]at h;exact⟨k,by omega,h⟩
end
theorem Ch:∀{k:Nat} {B:List IT} {a b:IT} {r:List IT×Bool},iD k B a b=some r->iD (k+1) B a b=some r
 |0,B,a,b,r,h=>by simp[iD]at h
 |k+1,B,a,b,r,h=>by
  have ih:=fun{B a b r}=>Ch (k:=k) (B:=B) (a:=a) (b:=b) (r:=r)
  rw[iD]at h⊢;split at h
  ·rename_i hx;rw[abw]at hx;have ha:=gI hx.1 (abA k);have hb:=gI hx.2 (abA k);have oa:=fun n=>(eo (n:=n) (jl hx.1) (abA k))
   have ob:=fun n=>(eo (n:=n) (jl hx.2) (abA k))
   rw[if_pos (by rw[abw];exact⟨nZ hx.1,nZ hx.2⟩),ha,hb];generalize hd B k a=a' at*;generalize hd B k b=b' at*
   match a',b',h with
   |.v n,b',h=>simp only[ob]at h⊢;exact h
   |.b _,.v n,h=>simp only[oa]at h⊢;exact h
   |.p _ _ _,.v n,h=>simp only[oa]at h⊢;exact h
   |.b _,.b _,h=>exact h
   |.b _,.p _ _ _,h=>exact h
   |.p _ _ _,.b _,h=>exact h
   |.p i x y,.p j x' y',h=>
    simp only at h⊢;split at h
    ·rename_i kq;rw[if_pos kq];cases hu:iD k B x x' with
     |none=>rw[hu]at h;simp at h
     |some q=>
      obtain⟨B1,q⟩:=q;rw[ih hu];rw[hu]at h;cases q
      ·exact h
      ·exact ih h
    ·rename_i kq;rw[if_neg kq];exact h
  ·simp at h
theorem pQ {k j:Nat} {B:List IT} {a b:IT} {r:List IT×Bool} (hk:k<=j) (h:iD k B a b=some r):iD j B a b=some r:=by
 induction hk with
 |refl=>exact h
 |step _ ih=>exact Ch ih
def sc (N:Nat):IT->Bool
 |.v n=>decide (n<N)
 |.b _=>true
 |.p _ x y=>sc N x && sc N y
def ry (B:List IT):Prop:=∀t∈B,sc B.length t=true
theorem dL {N M:Nat} (h:N<=M):∀{t:IT},sc N t=true->sc M t=true
 |.v n,ht=>by simp[sc]at ht⊢;omega
 |.b _,_=>rfl
 |.p _ x y,ht=>by
  rw[sc,abw]at ht⊢;exact⟨dL h ht.1,dL h ht.2⟩
theorem sO {B:List IT} {n:Nat} {t:IT} (h:bd B n=some t):B[n]? =some t/\t≠.v n:=by
 simp only[bd]at h;split at h
 ·rename_i u hu;split at h
  ·simp at h
  ·rename_i hn;simp at h;subst h;exact⟨hu,hn⟩
 ·simp at h
theorem Kd {B:List IT} {n:Nat} (hn:n<B.length) (h:bd B n=none):B[n]? =some (.v n):=by
 simp only[bd,abM hn]at h⊢;split at h
 ·rename_i e;rw[e]
 ·simp at h
theorem Ci {B:List IT} {n:Nat} {t:IT} (hB:ry B) (h:bd B n=some t):sc B.length t=true:=hB t (abN (sO h).1)
theorem lA {B:List IT} (hB:ry B):∀{k:Nat} {t:IT},sc B.length t=true->sc B.length (hd B k t)=true
 |0,t,h=>by cases t<;>exact h
 |k+1,.v n,h=>by
  simp only[hd];split<;>rename_i hb
  ·exact h
  ·exact lA hB (Ci hB hb)
 |k+1,.b _,h=>h
 |k+1,.p _ x y,h=>h
theorem pR {B:List IT} {n m:Nat} {t:IT} (hn:n<B.length) (ht:t≠.v n):bd (B.set n t) m=if m=n then some t else bd B m:=by
 simp only[bd];by_cases h:m=n
 ·subst h;simp[hn,ht]
 ·rw[List.getElem?_set_ne (by omega),if_neg h]
theorem ry.set {B:List IT} (h:ry B) {n:Nat} {t:IT} (ht:sc B.length t=true):ry (B.set n t):=by
 intro u hu;rw[abU];rcases ab1 hu with h1|rfl
 ·exact h u h1
 ·exact ht
theorem ui:∀{k:Nat} {B B':List IT} {a b:IT} {q:Bool},ry B->sc B.length a=true->sc B.length b=true->iD k B a b=some (B',q)->ry B'/\B'.length=B.length
 |0,B,B',a,b,q,_,_,_,h=>by simp[iD]at h
 |k+1,B,B',a,b,q,hB,ha,hb,h=>by
  rw[iD]at h;split at h
  ·have uj:=lA hB (k:=k) ha;have eG:=lA hB (k:=k) hb;generalize hd B k a=a' at*;generalize hd B k b=b' at*
   match a',b',h with
   |.v n,b',h=>
    simp only at h;split at h
    ·simp at h;obtain⟨rfl,_⟩:=h;exact⟨hB,rfl⟩
    ·split at h
     ·simp at h;obtain⟨rfl,_⟩:=h;exact⟨hB,rfl⟩
     ·simp at h;obtain⟨rfl,_⟩:=h;exact⟨hB.set eG,by simp⟩
   |.b _,.v n,h=>
    simp only at h;split at h
    ·simp at h;obtain⟨rfl,_⟩:=h;exact⟨hB,rfl⟩
    ·simp at h;obtain⟨rfl,_⟩:=h;exact⟨hB.set uj,by simp⟩
   |.p _ _ _,.v n,h=>
    simp only at h;split at h
    ·simp at h;obtain⟨rfl,_⟩:=h;exact⟨hB,rfl⟩
    ·simp at h;obtain⟨rfl,_⟩:=h;exact⟨hB.set uj,by simp⟩
   |.b _,.b _,h=>simp at h;obtain⟨rfl,_⟩:=h;exact⟨hB,rfl⟩
   |.b _,.p _ _ _,h=>simp at h;obtain⟨rfl,_⟩:=h;exact⟨hB,rfl⟩
   |.p _ _ _,.b _,h=>simp at h;obtain⟨rfl,_⟩:=h;exact⟨hB,rfl⟩
   |.p i x y,.p j x' y',h=>
    rw[sc,abw]at uj eG;simp only at h;split at h
    ·cases hu:iD k B x x' with
     |none=>rw[hu]at h;simp at h
     |some r=>
      obtain⟨B1,q1⟩:=r;rw[hu]at h;obtain⟨h1,h2⟩:=ui hB uj.1 eG.1 hu;cases q1
      ·simp at h;obtain⟨rfl,_⟩:=h;exact⟨h1,h2⟩
      ·obtain⟨h3,h4⟩:=ui h1 (by rw[h2];exact uj.2) (by rw[h2];exact eG.2) h;exact⟨h3,h4.trans h2⟩
    ·simp at h;obtain⟨rfl,_⟩:=h;exact⟨hB,rfl⟩
  ·simp at h
theorem sP:∀{k:Nat} {B B':List IT} {a:IT} {q:Bool},iD k B a a=some (B',q)->B'=B/\q=true
 |0,B,B',a,q,h=>by simp[iD]at h
 |k+1,B,B',a,q,h=>by
  rw[iD]at h;split at h
  ·generalize hd B k a=a' at h
   match a',h with
   |.v n,h=>simp at h;exact⟨h.1.symm,h.2⟩
   |.b _,h=>simp at h;exact⟨h.1.symm,h.2⟩
   |.p i x y,h=>
    simp only[if_true]at h;cases hu:iD k B x x with
    |none=>rw[hu]at h;simp at h
    |some r=>
     obtain⟨B1,q1⟩:=r;obtain⟨rfl,rfl⟩:=sP hu;rw[hu]at h;exact sP h
  ·simp at h
def nfree (B:List IT):Nat:=(List.range B.length).countP fun n=>(bd B n).isNone
def Gi (B:List IT):Prop:=∀n,n<B.length->∃k,ex B k (.v n)=true
theorem Gi.all {B:List IT} (h:Gi B):∀{t:IT},sc B.length t=true->∃k,ex B k t=true
 |.v n,ht=>h n (by simpa[sc]using ht)
 |.b _,_=>⟨1,rfl⟩
 |.p c x y,ht=>by
  rw[sc,abw]at ht;obtain⟨k1,h1⟩:=h.all ht.1;obtain⟨k2,h2⟩:=h.all ht.2;exact⟨max k1 k2+1,by rw[ex,abw];exact⟨oM (abz _ _) h1,oM (aby _ _) h2⟩⟩
theorem qk {B:List IT} {n:Nat} {t:IT} (hn:n<B.length) (ht:t≠.v n) (hf:bd B n=none):∀{k:Nat} {u:IT},ex B k u=true->jk B n k u=false->ex (B.set n t) k u=true
 |0,u,h,_=>by simp[ex]at h
 |k+1,.v m,h,ho=>by
  simp only[ex,jk]at h ho⊢;rw[pR hn ht];by_cases hm:m=n
  ·subst hm;rw[hf]at ho;simp at ho
  ·rw[if_neg hm];cases hb:bd B m with
   |none=>rfl
   |some w=>rw[hb]at h ho;exact qk hn ht hf h ho
 |k+1,.b _,_,_=>rfl
 |k+1,.p _ x y,h,ho=>by
  rw[ex,abw]at h;rw[jk,Bool.or_eq_false_iff]at ho;rw[ex,abw];exact⟨qk hn ht hf h.1 ho.1,qk hn ht hf h.2 ho.2⟩
theorem Au {B:List IT} {n j:Nat} {t:IT} (hn:n<B.length) (ht:t≠.v n) (hj:ex (B.set n t) j t=true):∀{k:Nat} {u:IT},ex B k u=true->ex (B.set n t) (k+j) u=true
 |0,u,h=>by simp[ex]at h
 |k+1,.v m,h=>by
  rw[abE];simp only[ex]at h⊢;rw[pR hn ht];by_cases hm:m=n
  ·subst hm;rw[if_pos rfl];exact oM (by omega) hj
  ·rw[if_neg hm];cases hb:bd B m with
   |none=>rfl
   |some w=>rw[hb]at h;exact Au hn ht hj h
 |k+1,.b _,_=>by rw[abE];rfl
 |k+1,.p _ x y,h=>by
  rw[ex,abw]at h;rw[abE,ex,abw];exact⟨Au hn ht hj h.1,Au hn ht hj h.2⟩
theorem Gi.set {B:List IT} (h:Gi B) {n k:Nat} {t:IT} (hn:n<B.length) (ht:t≠.v n) (hf:bd B n=none) (hx:ex B k t=true) (ho:jk B n k t=false):Gi (B.set n t):=by
 have hj:=qk hn ht hf hx ho;intro m hm;rw[abU]at hm;obtain⟨i,hi⟩:=h m hm;exact⟨i+k,Au hn ht hj hi⟩
theorem uk {B:List IT} {n:Nat} {t:IT} (hn:n<B.length) (ht:t≠.v n) (hf:bd B n=none):nfree (B.set n t)<nfree B:=by
 simp only[nfree,abU];have key:∀l:List Nat,(l.countP fun m=>(bd (B.set n t) m).isNone)<=l.countP fun m=>(bd B m).isNone:=fun l=>by
  apply List.countP_mono_left;intro m _ hm;rw[pR hn ht]at hm;split at hm
  ·simp at hm
  ·exact hm
 obtain⟨l1,l2,hl⟩:=List.append_of_mem (List.mem_range.2 hn);rw[hl,ab4,ab4,ab3,ab3];have h1:=key l1;have h2:=key l2;rw[pR hn ht,if_pos rfl,hf];simp;omega
theorem zI:∀(u k:Nat) (B:List IT) (a b:IT),nfree B<=u->ry B->Gi B->sc B.length a=true->sc B.length b=true->ex B k a=true->∃j B' q,iD j B a b=some (B',q)/\Gi B'/\(B'=B\/nfree B'<nfree B):=by
 intro u;induction u using abF with
 |_ u ihu=>
  intro k;induction k using abF with
  |_ k ihk=>
   intro B a b hu hB hA ha hb GO;obtain⟨kb,Is⟩:=hA.all hb;have It:ex B (max k kb) a=true:=oM (abz _ _) GO;have Iu:ex B (max k kb) b=true:=oM (aby _ _) Is;have GP:=fL It;have CT:=fL Iu;have PV:=jl It;have Tj:=jl Iu;have BH:=lA hB (k:=max k kb) ha;have we:=lA hB (k:=max k kb) hb;have FK:=fun{c x y} (e:hd B (max k kb) a=.p c x y)=>n0 GO (by rw[<-gI GO (abz k kb)];exact e)
   have GM:(ex B (max k kb) a && ex B (max k kb) b)=true:=by rw[It,Iu];rfl
   have IZ:∀{r},iD (max k kb+1) B a b=r->∀j,max k kb+1<=j->r.isSome=true->iD j B a b=r:=fun{r} e j hj hs=>by
    cases r with
    |none=>simp at hs
    |some r=>exact pQ hj e
   match uj:hd B (max k kb) a,eG:hd B (max k kb) b with
   |.v n,b'=>
    rw[uj]at GP BH;rw[eG]at Tj we;by_cases e:b'=.v n
    ·exact⟨max k kb+1,B,true,by rw[iD,if_pos GM,uj,eG];simp[e],hA,.inl rfl⟩
    ·by_cases o:jk B n (max k kb) b'=true
     ·exact⟨max k kb+1,B,false,by rw[iD,if_pos GM,uj,eG];simp[e,o],hA,.inl rfl⟩
     ·have hn:n<B.length:=by simpa[sc]using BH
      have o':jk B n (max k kb) b'=false:=by simpa using o
      exact⟨max k kb+1,B.set n b',true,by rw[iD,if_pos GM,uj,eG];simp[e,o'],hA.set hn e (GP n rfl) Tj o',.inr (uk hn e (GP n rfl))⟩
   |.b i,.v n=>
    rw[eG]at CT we;rw[uj]at PV;have hn:n<B.length:=by simpa[sc]using we
    have o':jk B n (max k kb) (.b i)=false:=by cases max k kb<;>rfl
    exact⟨max k kb+1,B.set n (.b i),true,by rw[iD,if_pos GM,uj,eG];simp[o'],hA.set hn (by simp) (CT n rfl) PV o',.inr (uk hn (by simp) (CT n rfl))⟩
   |.p c x y,.v n=>
    rw[eG]at CT we;rw[uj]at PV;have hn:n<B.length:=by simpa[sc]using we
    by_cases o:jk B n (max k kb) (.p c x y)=true
    ·exact⟨max k kb+1,B,false,by rw[iD,if_pos GM,uj,eG];simp[o],hA,.inl rfl⟩
    ·have o':jk B n (max k kb) (.p c x y)=false:=by simpa using o
     exact⟨max k kb+1,B.set n (.p c x y),true,by rw[iD,if_pos GM,uj,eG];simp[o'],hA.set hn (by simp) (CT n rfl) PV o',.inr (uk hn (by simp) (CT n rfl))⟩
   |.b i,.b j=>exact⟨max k kb+1,B,_,by rw[iD,if_pos GM,uj,eG],hA,.inl rfl⟩
   |.b i,.p _ _ _=>exact⟨max k kb+1,B,false,by rw[iD,if_pos GM,uj,eG],hA,.inl rfl⟩
   |.p _ _ _,.b i=>exact⟨max k kb+1,B,false,by rw[iD,if_pos GM,uj,eG],hA,.inl rfl⟩
   |.p c x y,.p c' x' y'=>
    rw[uj]at BH;rw[eG]at we;rw[sc,abw]at BH we;by_cases e:c=c'
    rotate_left
    ·exact⟨max k kb+1,B,false,by rw[iD,if_pos GM,uj,eG];simp[e],hA,.inl rfl⟩
    subst e;obtain⟨m,hm,hx,hy⟩:=FK uj;obtain⟨j1,B1,q1,h1,PW,hP⟩:=ihk m hm B x x' hu hB hA BH.1 we.1 hx;obtain⟨Mi,Jd⟩:=ui hB BH.1 we.1 h1
    have hw:∀j,max k kb<=j->iD (j+1) B a b=(match iD j B x x' with
      |some (B1,true)=>iD j B1 y y'
      |r=>r):=fun j hj=>by
     rw[iD,if_pos (by rw[oM hj It,oM hj Iu];rfl),gI It hj,gI Iu hj,uj,eG];simp
    cases q1 with
    |false=>exact⟨max (max k kb) j1+1,B1,false,by rw[hw _ (abz _ _),pQ (aby _ _) h1],PW,hP⟩
    |true=>
     have h2:∃j2 B2 q2,iD j2 B1 y y'=some (B2,q2)/\Gi B2/\(B2=B1\/nfree B2<nfree B1):=by
      rcases hP with rfl|az
      ·exact ihk m hm B1 y y' hu Mi PW BH.2 we.2 hy
      ·obtain⟨ky,RE⟩:=PW.all (t:=y) (by rw[Jd];exact BH.2);exact ihu (nfree B1) (by omega) ky B1 y y' (abx _) Mi PW (by rw[Jd];exact BH.2) (by rw[Jd];exact we.2) RE
     obtain⟨j2,B2,q2,h2,QB,jm⟩:=h2;refine⟨max (max k kb) (max j1 j2)+1,B2,q2,?_,QB,?_⟩
     ·rw[hw _ (abz _ _),pQ (show j1<=_ by omega) h1];exact pQ (by omega) h2
     ·rcases hP with rfl|h3<;>rcases jm with rfl|h4
      ·exact .inl rfl
      ·exact .inr h4
      ·exact .inr h3
      ·exact .inr (by omega)
section
variable {G:Type} (mk:Int->Option (G×G)->G)
def lI (θ:Nat->G):IT->G
 |.v n=>θ n
 |.b k=>mk k none
 |.p k x y=>mk k (some (lI θ x,lI θ y))
def Sat (θ:Nat->G) (B:List IT):Prop:=∀n t,bd B n=some t->θ n=lI mk θ t
variable {mk}
theorem ET {θ:Nat->G} {B:List IT} (h:Sat mk θ B):∀{k:Nat} {t:IT},lI mk θ (hd B k t)=lI mk θ t
 |0,t=>by cases t<;>rfl
 |k+1,.v n=>by
  simp only[hd];split<;>rename_i hb
  ·rfl
  ·rw[ET h,<-h n _ hb];rfl
 |k+1,.b _=>rfl
 |k+1,.p _ _ _=>rfl
theorem Ke {θ:Nat->G} {B:List IT} {n:Nat} {t:IT} (hn:n<B.length) (ht:t≠.v n) (hf:bd B n=none):Sat mk θ (B.set n t)↔Sat mk θ B/\θ n=lI mk θ t:=by
 constructor
 ·intro h;refine⟨fun m u hm=>h m u ?_,h n t (by rw[pR hn ht,if_pos rfl])⟩;rw[pR hn ht,if_neg (fun e=>by subst e;rw[hf]at hm;cases hm)];exact hm
 ·rintro⟨h1,h2⟩ m u hm;rw[pR hn ht]at hm;split at hm
  ·rename_i e;subst e;cases hm;exact h2
  ·exact h1 m u hm
structure Tk (mk:Int->Option (G×G)->G):Prop where
 inj:∀k k' o o',mk k o=mk k' o'->k=k'/\o=o'
 size:∃sz:G->Nat,∀k x y,sz x<sz (mk k (some (x,y)))/\sz y<sz (mk k (some (x,y)))
theorem sQ {θ:Nat->G} {B:List IT} {n:Nat} {sz:G->Nat} (eM:∀k x y,sz x<sz (mk k (some (x,y)))/\sz y<sz (mk k (some (x,y)))) (hs:Sat mk θ B):∀{k:Nat} {t:IT},jk B n k t=true->sz (θ n)<=sz (lI mk θ t)/\((∀m,t≠.v m)->sz (θ n)<sz (lI mk θ t))
 |0,t,h=>by cases t<;>simp[jk]at h
 |k+1,.v m,h=>by
  simp only[jk]at h;cases hb:bd B m with
  |none=>rw[hb]at h;simp at h;subst h;exact⟨abx _,fun q=>absurd rfl (q m)⟩
  |some t=>
   rw[hb]at h;have:=(sQ eM hs h).1;exact⟨by rw[show lI mk θ (.v m)=lI mk θ t from hs m t hb];exact this,fun q=>absurd rfl (q m)⟩
 |k+1,.b _,h=>by simp[jk]at h
 |k+1,.p c x y,h=>by
  rw[jk,Bool.or_eq_true]at h;have hk:=eM c (lI mk θ x) (lI mk θ y);have:sz (θ n)<sz (lI mk θ (.p c x y)):=by
   rcases h with h|h
   ·have:=(sQ eM hs h).1;simp only[lI];omega
   ·have:=(sQ eM hs h).1;simp only[lI];omega
  exact⟨by omega,fun _=>this⟩
theorem Aw (hG:Tk mk) {θ:Nat->G}:∀{k:Nat} {B B':List IT} {a b:IT} {q:Bool},ry B->sc B.length a=true->sc B.length b=true->iD k B a b=some (B',q)->
  (q=true->(Sat mk θ B'↔Sat mk θ B/\lI mk θ a=lI mk θ b))/\(q=false->¬(Sat mk θ B/\lI mk θ a=lI mk θ b))
 |0,B,B',a,b,q,_,_,_,h=>by simp[iD]at h
 |k+1,B,B',a,b,q,hB,ha,hb,h=>by
  obtain⟨sz,eM⟩:=hG.size;rw[iD]at h;split at h
  ·rename_i hx;rw[abw]at hx;have GP:=fL hx.1;have CT:=fL hx.2;have BH:=lA hB (k:=k) ha;have we:=lA hB (k:=k) hb;have Fs:Sat mk θ B->lI mk θ (hd B k a)=lI mk θ a:=fun hs=>ET hs
   have Kf:Sat mk θ B->lI mk θ (hd B k b)=lI mk θ b:=fun hs=>ET hs
   generalize hd B k a=a' at*;generalize hd B k b=b' at*;have RF:(Sat mk θ B/\lI mk θ a=lI mk θ b)↔(Sat mk θ B/\lI mk θ a'=lI mk θ b'):=by
    constructor
    ·rintro⟨h1,h2⟩;exact⟨h1,by rw[Fs h1,Kf h1];exact h2⟩
    ·rintro⟨h1,h2⟩;exact⟨h1,by rw[<-Fs h1,<-Kf h1];exact h2⟩
   rw[RF];have bind:∀(n:Nat) (t:IT),sc B.length (.v n)=true->bd B n=none->t≠.v n->(Sat mk θ (B.set n t)↔Sat mk θ B/\θ n=lI mk θ t):=fun n t hn hf ht=>Ke (by simpa[sc]using hn) ht hf
   have nocc:∀(n:Nat) (t:IT),Ir B t->t≠.v n->jk B n k t=true->Sat mk θ B->θ n≠lI mk θ t:=by
    intro n t ht dc ho hs e;have:=sQ eM hs ho;by_cases hv:∃m,t=.v m
    ·obtain⟨m,rfl⟩:=hv;cases k with
     |zero=>simp[jk]at ho
     |succ k=>
      simp only[jk,ht m rfl,decide_eq_true_eq]at ho;exact dc (by rw[ho])
    ·have:=this.2 (fun m e=>hv ⟨m,e⟩);rw[e]at this;omega
   match a',b',h with
   |.v n,b',h=>
    simp only at h;split at h
    ·rename_i e;simp at h;obtain⟨rfl,rfl⟩:=h;exact⟨fun _=>by simp[e],by simp⟩
    ·rename_i e;split at h
     ·rename_i o;simp at h;obtain⟨rfl,rfl⟩:=h;exact⟨by simp,fun _=>by rintro⟨h1,h2⟩;exact nocc n b' CT e o h1 h2⟩
     ·simp at h;obtain⟨rfl,rfl⟩:=h;exact⟨fun _=>bind n b' BH (GP n rfl) e,by simp⟩
   |.b i,.v n,h=>
    simp only at h;split at h
    ·rename_i o;cases k<;>simp[jk]at o
    ·simp at h;obtain⟨rfl,rfl⟩:=h;exact⟨fun _=>by rw[bind n _ we (CT n rfl) (by simp)];exact⟨fun h=>⟨h.1,h.2.symm⟩,fun h=>⟨h.1,h.2.symm⟩⟩,by simp⟩
   |.p c x y,.v n,h=>
    simp only at h;split at h
    ·rename_i o;simp at h;obtain⟨rfl,rfl⟩:=h;exact⟨by simp,fun _=>by rintro⟨h1,h2⟩;exact nocc n _ GP (by simp) o h1 h2.symm⟩
    ·simp at h;obtain⟨rfl,rfl⟩:=h;exact⟨fun _=>by rw[bind n _ we (CT n rfl) (by simp)];exact⟨fun h=>⟨h.1,h.2.symm⟩,fun h=>⟨h.1,h.2.symm⟩⟩,by simp⟩
   |.b i,.b j,h=>
    simp at h;obtain⟨rfl,rfl⟩:=h;refine⟨fun e=>?_,fun e=>?_⟩
    ·simp at e;subst e;simp
    ·simp at e;rintro⟨_,h2⟩;exact e (hG.inj _ _ _ _ h2).1
   |.b i,.p _ _ _,h=>
    simp at h;obtain⟨rfl,rfl⟩:=h;exact⟨by simp,fun _=>by rintro⟨_,h2⟩;have:=(hG.inj _ _ _ _ h2).2;cases this⟩
   |.p _ _ _,.b i,h=>
    simp at h;obtain⟨rfl,rfl⟩:=h;exact⟨by simp,fun _=>by rintro⟨_,h2⟩;have:=(hG.inj _ _ _ _ h2).2;cases this⟩
   |.p i x y,.p j x' y',h=>
    rw[sc,abw]at BH we;have Mj:(Sat mk θ B/\lI mk θ (.p i x y)=lI mk θ (.p j x' y'))↔i=j/\(Sat mk θ B/\lI mk θ x=lI mk θ x')/\lI mk θ y=lI mk θ y':=by
     constructor
     ·rintro⟨h1,h2⟩;obtain⟨h3,h4⟩:=hG.inj _ _ _ _ h2;simp at h4;exact⟨h3,⟨h1,h4.1⟩,h4.2⟩
     ·rintro⟨rfl,⟨h1,h2⟩,h3⟩;exact⟨h1,by simp only[lI,h2,h3]⟩
    rw[Mj];simp only at h;split at h
    ·rename_i kq;cases hu:iD k B x x' with
     |none=>rw[hu]at h;simp at h
     |some r=>
      obtain⟨B1,q1⟩:=r;rw[hu]at h;obtain⟨h1,h2⟩:=Aw hG (θ:=θ) hB BH.1 we.1 hu;obtain⟨Mi,Jd⟩:=ui hB BH.1 we.1 hu;cases q1
      ·simp at h;obtain⟨rfl,rfl⟩:=h;exact⟨by simp,fun _=>by rintro⟨_,h3,_⟩;exact h2 rfl h3⟩
      ·obtain⟨h3,h4⟩:=Aw hG (θ:=θ) Mi (by rw[Jd];exact BH.2) (by rw[Jd];exact we.2) h;have h5:=h1 rfl;refine⟨fun e=>?_,fun e=>?_⟩
       ·rw[h3 e,h5];exact⟨fun h=>⟨kq,h.1,h.2⟩,fun h=>⟨h.2.1,h.2.2⟩⟩
       ·rintro⟨_,h6,h7⟩;exact h4 e ⟨h5.2 h6,h7⟩
    ·rename_i kq;simp at h;obtain⟨rfl,rfl⟩:=h;exact⟨by simp,fun _=>by rintro⟨h1,_⟩;exact kq h1⟩
  ·simp at h
end
def jB (k:Nat) (B:List IT) (a b:IT):Option (Option (List IT)):=match iD k B a b with
 |none=>none
 |some (B',true)=>some (some B')
 |some (_,false)=>some none
def ir (k:Nat) (kd:Int) (B:List IT) (ts:List IT):Option (Option (List IT×IT)):=
 if kd=2 then some (some (B,.b 2))else if kd=3\/kd=4 then some (some (B,.b 3))else match ts with
  |[x]=>if kd=11\/kd=12 then(jB k (B++[.v B.length,.v (B.length+1)]) x (.p 5 (.v B.length) (.v (B.length+1)))).map (·.map fun B'=>(B',.v (if kd=12 then B.length+1 else B.length)))else some none
  |[x,y]=>if kd=10 then some (some (B,.p 5 x y))
   else if kd=6 then(jB k (B++[.v B.length,.v (B.length+1)]) x (.p 4 y (.v B.length))).map (·.map fun B'=>(B',.v B.length))
   else if kd=7\/kd=8 then(match jB k B x (.b 2)with
    |some (some B1)=>(jB k B1 y (.b 2)).map (·.map fun B'=>(B',.b (if kd=8 then 3 else 2)))
    |none=>none
    |some none=>some none)else some none
  |[x,y,z]=>if kd=9 then(match jB k B x (.b 3)with
    |some (some B1)=>(jB k B1 y z).map (·.map fun B'=>(B',y))
    |none=>none
    |some none=>some none)else some none
  |_=>some none
mutual
def inf (k:Nat):ao->List IT->List IT->List UInt8->List IT->Option (Option (List IT×List IT×IT))
 |.mk kd s _ _ _ _ l,B,ls,ns,ts=>
  if kd=1 then some (if 0<=dp ns (s.headD 0)then(ts[(dp ns (s.headD 0)).toNat]?).map fun t=>(B,ls,t)else none)
  else match mV k l (if kd=5 then B++[.v B.length]else B) (if kd=5 then ls++[.v B.length]else ls) (if kd=5 then ns++s else ns) (if kd=5 then ts++[.v B.length]else ts)with
   |some (some (B1,ls1,us))=>if kd=5 then(match us with|[u]=>some (some (B1,ls1,.p 4 (.v B.length) u))|_=>some none)else(ir k kd B1 us).map (·.map fun r=>(r.1,ls1,r.2))
   |none=>none
   |some none=>some none
def mV (k:Nat):List ao->List IT->List IT->List UInt8->List IT->Option (Option (List IT×List IT×List IT))
 |[],B,ls,_,_=>some (some (B,ls,[]))
 |e::r,B,ls,ns,ts=>match inf k e B ls ns ts with
  |some (some (B1,ls1,t))=>(match mV k r B1 ls1 ns ts with
   |some (some (B2,ls2,us))=>some (some (B2,ls2,t::us))
   |none=>none
   |some none=>some none)
  |none=>none
  |some none=>some none
end
inductive Ba:ao->Prop
 |var (c:UInt8):Ba (q8 [c])
 |num (n:Int):Ba (tO n)
 |tP:Ba mR
 |tQ:Ba ju
 |lam {c:UInt8} {t:aE} {b:ao}:Ba b->Ba (pD [c] t b)
 |n2 {k:Int} {a b:ao}:k=6\/k=7\/k=8\/k=10->Ba a->Ba b->Ba (Ag k a b)
 |ite {a b c:ao}:Ba a->Ba b->Ba c->Ba (Ex a b c)
 |n1 {k:Int} {a:ao}:k=11\/k=12->Ba a->Ba (Di k a)
theorem Ba.of {nt:Int} {d:Nat} {e:ao} (h:kP nt d e):Ba (mapM aS e):=by
 induction h with
 | @var d s _ hs=>
  obtain⟨c,rfl,_⟩:=zE hs;simpa[mapM,eI,aS]using Ba.var c
 |num _ _ _=>simpa[mapM,eI,aS]using Ba.num _
 |tP _=>simpa[mapM,eI,aS]using Ba.tP
 |tQ _=>simpa[mapM,eI,aS]using Ba.tQ
 | @lam d s t b _ hs _ _ ih=>
  obtain⟨c,rfl,_⟩:=zE hs;simpa[mapM,eI,aS]using Ba.lam ih
 | @n2 d k a b _ hk _ _ iha ihb=>
  have h1:¬(k=13\/k=14):=by omega
  have h2:¬k=5:=by omega
  simpa[mapM,eI,aS,h1,h2]using Ba.n2 hk iha ihb
 |ite _ _ _ _ ihp iha ihb=>simpa[mapM,eI,aS]using Ba.ite ihp iha ihb
 | @n1 d k a _ hk _ ih=>
  have h1:¬(k=13\/k=14):=by omega
  have h2:¬k=5:=by omega
  simpa[mapM,eI,aS,h1,h2]using Ba.n1 hk ih
 |asc _ _ _ ih=>simpa[mapM,eI,aS]using ih
 |cast _ _ _ _ _ _ ih=>simpa[mapM,eI,aS]using ih
section
variable (k:Nat) (B ls:List IT) (ns:List UInt8) (ts:List IT)
theorem jW (c:UInt8):inf k (q8 [c]) B ls ns ts=some (if 0<=dp ns c then(ts[(dp ns c).toNat]?).map fun t=>(B,ls,t)else none):=by simp[inf]
theorem ql (n:Int):inf k (tO n) B ls ns ts=some (some (B,ls,.b 2)):=by simp[inf,mV,ir]
theorem qm:inf k mR B ls ns ts=some (some (B,ls,.b 3)):=by simp[inf,mV,ir]
theorem qn:inf k ju B ls ns ts=some (some (B,ls,.b 3)):=by simp[inf,mV,ir]
theorem kX (c:UInt8) (t:aE) (b:ao):inf k (pD [c] t b) B ls ns ts=(inf k b (B++[.v B.length]) (ls++[.v B.length]) (ns++[c]) (ts++[.v B.length])).map (·.map fun r=>(r.1,r.2.1,.p 4 (.v B.length) r.2.2)):=by
 simp only[inf,mV,show¬(5:Int)=1 by omega,if_false,if_true];cases inf k b (B++[.v B.length]) (ls++[.v B.length]) (ns++[c]) (ts++[.v B.length])with
 |none=>rfl
 |some o=>cases o<;>rfl
theorem rz {kd:Int} (hk:kd=11\/kd=12) (a:ao):inf k (Di kd a) B ls ns ts=match inf k a B ls ns ts with
  |some (some (B1,ls1,t))=>(ir k kd B1 [t]).map (·.map fun r=>(r.1,ls1,r.2))
  |none=>none
  |some none=>some none:=by
 simp only[inf,mV,show¬kd=1 by omega,show¬kd=5 by omega,if_false];cases inf k a B ls ns ts with
 |none=>rfl
 |some o=>cases o<;>rfl
theorem pS {kd:Int} (hk:kd=6\/kd=7\/kd=8\/kd=10) (a b:ao):inf k (Ag kd a b) B ls ns ts=match inf k a B ls ns ts with
  |some (some (B1,ls1,t))=>(match inf k b B1 ls1 ns ts with
   |some (some (B2,ls2,u))=>(ir k kd B2 [t,u]).map (·.map fun r=>(r.1,ls2,r.2))
   |none=>none
   |some none=>some none)
  |none=>none
  |some none=>some none:=by
 simp only[inf,mV,show¬kd=1 by omega,show¬kd=5 by omega,if_false];cases inf k a B ls ns ts with
 |none=>rfl
 |some o=>
  cases o with
  |none=>rfl
  |some r=>
   obtain⟨B1,ls1,t⟩:=r;simp only;cases inf k b B1 ls1 ns ts with
   |none=>rfl
   |some o=>cases o<;>rfl
theorem od (a b c:ao):inf k (Ex a b c) B ls ns ts=match inf k a B ls ns ts with
  |some (some (B1,ls1,t))=>(match inf k b B1 ls1 ns ts with
   |some (some (B2,ls2,u))=>(match inf k c B2 ls2 ns ts with
    |some (some (B3,ls3,v))=>(ir k 9 B3 [t,u,v]).map (·.map fun r=>(r.1,ls3,r.2))
    |none=>none
    |some none=>some none)
   |none=>none
   |some none=>some none)
  |none=>none
  |some none=>some none:=by
 simp only[inf,mV,show¬(9:Int)=1 by omega,show¬(9:Int)=5 by omega,if_false];cases inf k a B ls ns ts with
 |none=>rfl
 |some o=>
  cases o with
  |none=>rfl
  |some r=>
   obtain⟨B1,ls1,t⟩:=r;simp only;cases inf k b B1 ls1 ns ts with
   |none=>rfl
   |some o=>
    cases o with
    |none=>rfl
    |some r=>
     obtain⟨B2,ls2,u⟩:=r;simp only;cases inf k c B2 ls2 ns ts with
     |none=>rfl
     |some o=>cases o<;>rfl
end
theorem xO {B:List IT} (new:List IT) {n:Nat} (hn:n<B.length):bd (B++new) n=bd B n:=by
 simp only[bd,List.getElem?_append_left hn]
theorem DY {B:List IT}:bd (B++[.v B.length]) B.length=none:=by simp[bd]
theorem Iv {B:List IT} {n:Nat} (h1:B.length<=n) (h2:n<B.length+2):bd (B++[.v B.length,.v (B.length+1)]) n=none:=by
 simp only[bd];rw[List.getElem?_append_right h1];have:n=B.length\/n=B.length+1:=by omega
 rcases this with rfl|rfl
 ·simp
 ·simp
theorem xP {B:List IT} (new:List IT) (hB:ry B):∀{k:Nat} {t:IT},sc B.length t=true->ex B k t=true->ex (B++new) k t=true
 |0,t,_,h=>by simp[ex]at h
 |k+1,.v n,hs,h=>by
  simp only[ex]at h⊢;rw[xO new (by simpa[sc]using hs)];cases hb:bd B n with
  |none=>rfl
  |some t=>rw[hb]at h;exact xP new hB (Ci hB hb) h
 |k+1,.b _,_,_=>rfl
 |k+1,.p _ x y,hs,h=>by
  rw[sc,abw]at hs;rw[ex,abw]at h⊢;exact⟨xP new hB hs.1 h.1,xP new hB hs.2 h.2⟩
structure lO (B C:List IT):Prop where
 le:B.length<=C.length
 Ji:∀n,n<B.length->bd C n=bd B n
 new:∀n,B.length<=n->n<C.length->bd C n=none
 sc:ry B->ry C
 vu:ry B->Gi B->Gi C
theorem lO.one (B:List IT):lO B (B++[.v B.length]):=by
 refine⟨by simp,fun n hn=>xO _ hn,fun n h1 h2=>?_,fun h t ht=>?_,fun hs h n hn=>?_⟩
 ·have:n=B.length:=by simp at h2;omega
  subst this;exact DY
 ·rw[abL];rcases abG.1 ht with h1|h1
  ·exact dL (by omega) (h t h1)
  ·simp at h1;subst h1;simp[Av.sc]
 ·by_cases h1:n<B.length
  ·obtain⟨k,hk⟩:=h n h1;exact⟨k,xP _ hs (by simpa[Av.sc]using h1) hk⟩
  ·have:n=B.length:=by simp at hn;omega
   subst this;exact⟨1,by simp only[ex,DY]⟩
theorem lO.two (B:List IT):lO B (B++[.v B.length,.v (B.length+1)]):=by
 refine⟨by simp,fun n hn=>xO _ hn,fun n h1 h2=>Iv h1 (by simpa using h2),fun h t ht=>?_,fun hs h n hn=>?_⟩
 ·rw[abL];rcases abG.1 ht with h1|h1
  ·exact dL (by omega) (h t h1)
  ·simp at h1;rcases h1 with rfl|rfl<;>simp[Av.sc]
 ·by_cases h1:n<B.length
  ·obtain⟨k,hk⟩:=h n h1;exact⟨k,xP _ hs (by simpa[Av.sc]using h1) hk⟩
  ·have h2:n<B.length+2:=by simpa using hn
   exact⟨1,by simp only[ex,Iv (show B.length<=n by omega) h2]⟩
theorem lO.sat {G:Type} {mk:Int->Option (G×G)->G} {θ:Nat->G} {B C:List IT} (h:lO B C) (hs:Sat mk θ C):Sat mk θ B:=by
 intro n t hb;refine hs n t ?_;by_cases hn:n<B.length
 ·rw[h.Ji n hn];exact hb
 ·have:=(sO hb).1;rw[List.getElem?_eq_none (by omega)]at this;cases this
structure vW (B:List IT):Prop where
 sc:ry B
 vu:Gi B
theorem Kg {k:Nat} {B B':List IT} {a b:IT} {q:Bool} (hB:vW B) (ha:sc B.length a=true) (hb:sc B.length b=true) (h:iD k B a b=some (B',q)):Gi B':=by
 obtain⟨ka,FK⟩:=hB.vu.all ha;obtain⟨j,B2,q2,h2,h3,_⟩:=zI (nfree B) ka B a b (abx _) hB.sc hB.vu ha hb FK;have h4:=pQ (abz k j) h;rw[pQ (aby k j) h2]at h4;cases h4;exact h3
theorem je {k:Nat} {B B':List IT} {a b:IT} (hB:vW B) (ha:sc B.length a=true) (hb:sc B.length b=true) (h:jB k B a b=some (some B')):vW B'/\B'.length=B.length:=by
 simp only[jB]at h;split at h
 ·simp at h
 ·rename_i hu;simp at h;subst h;obtain⟨h1,h2⟩:=ui hB.sc ha hb hu;exact⟨⟨h1,Kg hB ha hb hu⟩,h2⟩
 ·simp at h
theorem iw {k j:Nat} {B:List IT} {a b:IT} {r:Option (List IT)} (hk:k<=j) (h:jB k B a b=some r):jB j B a b=some r:=by
 simp only[jB]at h⊢;split at h
 ·simp at h
 ·rename_i hu;rw[pQ hk hu];exact h
 ·rename_i hu;rw[pQ hk hu];exact h
theorem jC {B:List IT} {a b:IT} (hB:vW B) (ha:sc B.length a=true) (hb:sc B.length b=true):∃k r,jB k B a b=some r:=by
 obtain⟨ka,FK⟩:=hB.vu.all ha;obtain⟨j,B2,q2,h2,_,_⟩:=zI (nfree B) ka B a b (abx _) hB.sc hB.vu ha hb FK;refine⟨j,?_⟩;simp only[jB,h2];cases q2<;>exact⟨_,rfl⟩
structure U1 (B B':List IT) (t:IT):Prop where
 ok:vW B'
 le:B.length<=B'.length
 len:B'.length<=B.length+2
 vv:Av.sc B'.length t=true
theorem Ax {k:Nat} {kd:Int} {B B':List IT} {ts:List IT} {t:IT} (hB:vW B) (b7:∀u∈ts,sc B.length u=true) (h:ir k kd B ts=some (some (B',t))):U1 B B' t:=by
 have Iw:vW (B++[.v B.length,.v (B.length+1)]):=⟨(lO.two B).sc hB.sc,(lO.two B).vu hB.sc hB.vu⟩;have xB:(B++[IT.v B.length,IT.v (B.length+1)]).length=B.length+2:=by simp
 have up:∀{u:IT},sc B.length u=true->sc (B++[IT.v B.length,IT.v (B.length+1)]).length u=true:=fun h=>dL (by omega) h
 simp only[ir]at h;split at h
 ·simp at h;obtain⟨rfl,rfl⟩:=h;exact⟨hB,abx _,by omega,rfl⟩
 split at h
 ·simp at h;obtain⟨rfl,rfl⟩:=h;exact⟨hB,abx _,by omega,rfl⟩
 split at h
 ·rename_i x;have hx:=b7 x (by simp);split at h
  ·simp only[ab6]at h;obtain⟨r,h1,B2,rfl,h2⟩:=h;cases h2
   obtain⟨h3,h4⟩:=je Iw (up hx) (by simp[sc]) h1;exact⟨h3,by omega,by omega,by simp[sc];split<;>omega⟩
  ·simp at h
 ·rename_i x y;have hx:=b7 x (by simp);have hy:=b7 y (by simp);split at h
  ·simp at h;obtain⟨rfl,rfl⟩:=h;exact⟨hB,abx _,by omega,by simp[sc,hx,hy]⟩
  split at h
  ·simp only[ab6]at h;obtain⟨r,h1,B2,rfl,h2⟩:=h;cases h2
   obtain⟨h3,h4⟩:=je Iw (up hx) (by have:=up hy;simp[sc]at this⊢;exact this) h1;exact⟨h3,by omega,by omega,by simp[sc];omega⟩
  split at h
  ·split at h
   ·rename_i B1 h1;obtain⟨h2,h3⟩:=je hB hx rfl h1;simp only[ab6]at h;obtain⟨r,h4,B2,rfl,h5⟩:=h;cases h5
    obtain⟨h6,h7⟩:=je h2 (by rw[h3];exact hy) rfl h4;exact⟨h6,by omega,by omega,rfl⟩
   ·simp at h
   ·simp at h
  ·simp at h
 ·rename_i x y z;have hx:=b7 x (by simp);have hy:=b7 y (by simp);have hz:=b7 z (by simp);split at h
  ·split at h
   ·rename_i B1 h1;obtain⟨h2,h3⟩:=je hB hx rfl h1;simp only[ab6]at h;obtain⟨r,h4,B2,rfl,h5⟩:=h;cases h5
    obtain⟨h6,h7⟩:=je h2 (by rw[h3];exact hy) (by rw[h3];exact hz) h4;exact⟨h6,by omega,by omega,by rw[h7,h3];exact hy⟩
   ·simp at h
   ·simp at h
  ·simp at h
 ·simp at h
theorem rA {kd:Int} {B:List IT} {ts:List IT} (hB:vW B) (b7:∀u∈ts,sc B.length u=true):∃k r,ir k kd B ts=some r:=by
 have Iw:vW (B++[.v B.length,.v (B.length+1)]):=⟨(lO.two B).sc hB.sc,(lO.two B).vu hB.sc hB.vu⟩;have xB:(B++[IT.v B.length,IT.v (B.length+1)]).length=B.length+2:=by simp
 have up:∀{u:IT},sc B.length u=true->sc (B++[IT.v B.length,IT.v (B.length+1)]).length u=true:=fun h=>dL (by omega) h
 simp only[ir];split
 ·exact⟨0,_,rfl⟩
 split
 ·exact⟨0,_,rfl⟩
 split
 ·rename_i x;have hx:=b7 x (by simp);split
  ·obtain⟨k,r,h⟩:=jC Iw (up hx) (b:=.p 5 (.v B.length) (.v (B.length+1))) (by simp[sc]);exact⟨k,_,by rw[h];rfl⟩
  ·exact⟨0,_,rfl⟩
 ·rename_i x y;have hx:=b7 x (by simp);have hy:=b7 y (by simp);split
  ·exact⟨0,_,rfl⟩
  split
  ·obtain⟨k,r,h⟩:=jC Iw (up hx) (b:=.p 4 y (.v B.length)) (by have:=up hy;simp[sc]at this⊢;exact this);exact⟨k,_,by rw[h];rfl⟩
  split
  ·obtain⟨k,r,h⟩:=jC hB hx (b:=.b 2) rfl;cases r with
   |none=>exact⟨k,none,by rw[h]⟩
   |some B1=>
    obtain⟨h2,h3⟩:=je hB hx rfl h;obtain⟨j,r,h4⟩:=jC h2 (a:=y) (b:=.b 2) (by rw[h3];exact hy) rfl;exact⟨max k j,_,by rw[iw (abz k j) h];simp only;rw[iw (aby k j) h4];rfl⟩
  ·exact⟨0,_,rfl⟩
 ·rename_i x y z;have hx:=b7 x (by simp);have hy:=b7 y (by simp);have hz:=b7 z (by simp);split
  ·obtain⟨k,r,h⟩:=jC hB hx (b:=.b 3) rfl;cases r with
   |none=>exact⟨k,none,by rw[h]⟩
   |some B1=>
    obtain⟨h2,h3⟩:=je hB hx rfl h;obtain⟨j,r,h4⟩:=jC h2 (a:=y) (b:=z) (by rw[h3];exact hy) (by rw[h3];exact hz);exact⟨max k j,_,by rw[iw (abz k j) h];simp only;rw[iw (aby k j) h4];rfl⟩
  ·exact⟨0,_,rfl⟩
 ·exact⟨0,_,rfl⟩
theorem qo {k j:Nat} {kd:Int} {B:List IT} {ts:List IT} {r:Option (List IT×IT)} (hk:k<=j) (h:ir k kd B ts=some r):ir j kd B ts=some r:=by
 simp only[ir]at h⊢;split
 ·rename_i h1;rw[if_pos h1]at h;exact h
 rename_i h1;rw[if_neg h1]at h;split
 ·rename_i h2;rw[if_pos h2]at h;exact h
 rename_i h2;rw[if_neg h2]at h;split
 ·simp only at h;split
  ·rename_i h3;rw[if_pos h3]at h;simp only[ab6]at h;obtain⟨q,h4,rfl⟩:=h;rw[iw hk h4];rfl
  ·rename_i h3;rw[if_neg h3]at h;exact h
 ·simp only at h;split
  ·rename_i h3;rw[if_pos h3]at h;exact h
  rename_i h3;rw[if_neg h3]at h;split
  ·rename_i h4;rw[if_pos h4]at h;simp only[ab6]at h;obtain⟨q,h5,rfl⟩:=h;rw[iw hk h5];rfl
  rename_i h4;rw[if_neg h4]at h;split
  ·rename_i h5;rw[if_pos h5]at h;split at h
   ·rename_i B1 h6;rw[iw hk h6];simp only[ab6]at h⊢;obtain⟨q,h7,h8⟩:=h;exact⟨q,iw hk h7,h8⟩
   ·simp at h
   ·rename_i h6;rw[iw hk h6];exact h
  ·rename_i h5;rw[if_neg h5]at h;exact h
 ·simp only at h;split
  ·rename_i h5;rw[if_pos h5]at h;split at h
   ·rename_i B1 h6;rw[iw hk h6];simp only[ab6]at h⊢;obtain⟨q,h7,h8⟩:=h;exact⟨q,iw hk h7,h8⟩
   ·simp at h
   ·rename_i h6;rw[iw hk h6];exact h
  ·rename_i h5;rw[if_neg h5]at h;exact h
 ·rename_i h3 h4 h5
  match ts,h3,h4,h5,h with
  |[],_,_,_,h=>exact h
  |[_],h3,_,_,_=>exact absurd rfl (h3 _)
  |[_,_],_,h4,_,_=>exact absurd rfl (h4 _ _)
  |[_,_,_],_,_,h5,_=>exact absurd rfl (h5 _ _ _)
  |_::_::_::_::_,_,_,_,h=>exact h
theorem inf_le {k j:Nat} (hk:k<=j) {e:ao} (he:Ba e):∀{B ls:List IT} {ns:List UInt8} {ts:List IT} {r:Option (List IT×List IT×IT)},inf k e B ls ns ts=some r->inf j e B ls ns ts=some r:=by
 induction he with
 |var c=>intro B ls ns ts r h;rw[jW]at h⊢;exact h
 |num n=>intro B ls ns ts r h;rw[ql]at h⊢;exact h
 |tP=>intro B ls ns ts r h;rw[qm]at h⊢;exact h
 |tQ=>intro B ls ns ts r h;rw[qn]at h⊢;exact h
 |lam _ ih=>
  intro B ls ns ts r h;rw[kX]at h⊢;simp only[ab6]at h;obtain⟨q,h1,rfl⟩:=h;rw[ih h1];rfl
 |n1 fu _ ih=>
  intro B ls ns ts r h;rw[rz _ _ _ _ _ fu]at h⊢;split at h
  ·rename_i B1 ls1 t h1;rw[ih h1];simp only[ab6]at h⊢;obtain⟨q,h2,h3⟩:=h;exact⟨q,qo hk h2,h3⟩
  ·simp at h
  ·rename_i h1;rw[ih h1];exact h
 |n2 fu _ _ iha ihb=>
  intro B ls ns ts r h;rw[pS _ _ _ _ _ fu]at h⊢;split at h
  ·rename_i B1 ls1 t h1;rw[iha h1];simp only;split at h
   ·rename_i B2 ls2 u h2;rw[ihb h2];simp only[ab6]at h⊢;obtain⟨q,h3,h4⟩:=h;exact⟨q,qo hk h3,h4⟩
   ·simp at h
   ·rename_i h2;rw[ihb h2];exact h
  ·simp at h
  ·rename_i h1;rw[iha h1];exact h
 |ite _ _ _ iha ihb ihc=>
  intro B ls ns ts r h;rw[od]at h⊢;split at h
  ·rename_i B1 ls1 t h1;rw[iha h1];simp only;split at h
   ·rename_i B2 ls2 u h2;rw[ihb h2];simp only;split at h
    ·rename_i B3 ls3 v h3;rw[ihc h3];simp only[ab6]at h⊢;obtain⟨q,h4,h5⟩:=h;exact⟨q,qo hk h4,h5⟩
    ·simp at h
    ·rename_i h3;rw[ihc h3];exact h
   ·simp at h
   ·rename_i h2;rw[ihb h2];exact h
  ·simp at h
  ·rename_i h1;rw[iha h1];exact h
structure Tl (e:ao) (B ls:List IT) (B' ls':List IT) (t:IT):Prop where
 ok:vW B'
 le:B.length<=B'.length
 len:B'.length<=B.length+2*aT e
 vv:Av.sc B'.length t=true
 DZ:∃new,ls'=ls++new/\new.length=(aH e).length/\∀u∈new,Av.sc B'.length u=true
structure yS (B:List IT) (ns:List UInt8) (ts:List IT):Prop where
 len:ts.length=ns.length
 GQ:∀u∈ts,Av.sc B.length u=true
theorem yS.le {B C:List IT} {ns:List UInt8} {ts:List IT} (h:yS B ns ts) (hl:B.length<=C.length):yS C ns ts:=⟨h.len,fun u hu=>dL hl (h.GQ u hu)⟩
theorem eX {k:Nat} {e:ao} (he:Ba e):∀{B ls B' ls':List IT} {ns:List UInt8} {ts:List IT} {t:IT},vW B->yS B ns ts->inf k e B ls ns ts=some (some (B',ls',t))->Tl e B ls B' ls' t:=by
 induction he with
 |var c=>
  intro B ls B' ls' ns ts t hB hc h;rw[jW]at h;simp only[Option.some.injEq]at h;split at h
  ·simp only[ab6]at h;obtain⟨u,h1,h2⟩:=h;cases h2
   exact⟨hB,abx _,by omega,hc.GQ _ (abN h1),[],by simp,by simp[aH,aC,bD],by simp⟩
  ·simp at h
 |num n=>intro B ls B' ls' ns ts t hB hc h;rw[ql]at h;cases h;exact⟨hB,abx _,by omega,rfl,[],by simp,by simp[aH,aC,bD],by simp⟩
 |tP=>intro B ls B' ls' ns ts t hB hc h;rw[qm]at h;cases h;exact⟨hB,abx _,by omega,rfl,[],by simp,by simp[aH,aC,bD],by simp⟩
 |tQ=>intro B ls B' ls' ns ts t hB hc h;rw[qn]at h;cases h;exact⟨hB,abx _,by omega,rfl,[],by simp,by simp[aH,aC,bD],by simp⟩
 | @lam c ty b _ ih=>
  intro B ls B' ls' ns ts t hB hc h;rw[kX]at h;simp only[ab6]at h;obtain⟨q,h1,r,rfl,h2⟩:=h;obtain⟨B1,ls1,u⟩:=r;cases h2
  dsimp only;have hN:=lO.one B;have hl:(B++[IT.v B.length]).length=B.length+1:=by simp
  obtain⟨g1,g2,g3,g4,new,rfl,g5,g6⟩:=ih ⟨hN.sc hB.sc,hN.vu hB.sc hB.vu⟩ ⟨by simp[hc.len],fun u hu=>by
   rcases abG.1 hu with q|q
   ·exact dL hN.le (hc.GQ u q)
   ·simp at q;subst q;simp[sc]⟩ h1
  refine⟨g1,by omega,by simp[aT,bk];omega,by simp[sc,g4];omega,.v B.length::new,by simp,by simp[aH,aC,bD,g5],fun u hu=>?_⟩;rcases abJ.1 hu with rfl|q
  ·simp[sc];omega
  ·exact g6 u q
 | @n1 kd a fu _ ih=>
  intro B ls B' ls' ns ts t hB hc h;rw[rz _ _ _ _ _ fu]at h;split at h
  ·rename_i B1 ls1 u h1;obtain⟨g1,g2,g3,g4,new,rfl,g5,g6⟩:=ih hB hc h1;simp only[ab6]at h;obtain⟨q,h2,r,rfl,h3⟩:=h;obtain⟨B2,w⟩:=r;cases h3
   dsimp only;obtain⟨k1,k2,k3,k4⟩:=Ax g1 (by simpa using g4) h2;have h5:bD kd=false:=by rcases fu with rfl|rfl<;>rfl
   exact⟨k1,by omega,by simp[aT,bk];omega,k4,new,rfl,by simp[aH,aC,h5,g5],fun u hu=>dL k2 (g6 u hu)⟩
  ·simp at h
  ·simp at h
 | @n2 kd a b fu _ _ iha ihb=>
  intro B ls B' ls' ns ts t hB hc h;rw[pS _ _ _ _ _ fu]at h;split at h
  ·rename_i B1 ls1 u h1;obtain⟨g1,g2,g3,g4,new,rfl,g5,g6⟩:=iha hB hc h1;split at h
   ·rename_i B2 ls2 v h2;obtain⟨p1,p2,p3,p4,Ay,rfl,p5,p6⟩:=ihb g1 (hc.le g2) h2;simp only[ab6]at h;obtain⟨q,h2,r,rfl,h3⟩:=h;obtain⟨B3,w⟩:=r;cases h3
    dsimp only;obtain⟨k1,k2,k3,k4⟩:=Ax p1 (by simp;exact⟨dL p2 g4,p4⟩) h2;have h5:bD kd=false:=by rcases fu with rfl|rfl|rfl|rfl<;>rfl
    refine⟨k1,by omega,by simp[aT,bk];omega,k4,new++Ay,by simp,by simp[aH,aC,h5,g5,p5],fun u hu=>?_⟩;rcases abG.1 hu with q|q
    ·exact dL (by omega) (g6 u q)
    ·exact dL k2 (p6 u q)
   ·simp at h
   ·simp at h
  ·simp at h
  ·simp at h
 | @ite a b c _ _ _ iha ihb ihc=>
  intro B ls B' ls' ns ts t hB hc h;rw[od]at h;split at h
  ·rename_i B1 ls1 u h1;obtain⟨g1,g2,g3,g4,new,rfl,g5,g6⟩:=iha hB hc h1;split at h
   ·rename_i B2 ls2 v h2;obtain⟨p1,p2,p3,p4,Ay,rfl,p5,p6⟩:=ihb g1 (hc.le g2) h2;split at h
    ·rename_i B3 ls3 w h3;obtain⟨r1,r2,r3,r4,new3,rfl,r5,r6⟩:=ihc p1 (hc.le (by omega)) h3;simp only[ab6]at h;obtain⟨q,h2,r,rfl,h3⟩:=h;obtain⟨B4,w⟩:=r;cases h3
     dsimp only;obtain⟨k1,k2,k3,k4⟩:=Ax r1 (by simp;exact⟨dL (by omega) g4,dL r2 p4,r4⟩) h2;refine⟨k1,by omega,by simp[aT,bk];omega,k4,new++Ay++new3,by simp,by simp[aH,aC,bD,g5,p5,r5],fun u hu=>?_⟩;rcases abG.1 hu with q|q
     ·rcases abG.1 q with q|q
      ·exact dL (by omega) (g6 u q)
      ·exact dL (by omega) (p6 u q)
     ·exact dL k2 (r6 u q)
    ·simp at h
    ·simp at h
   ·simp at h
   ·simp at h
  ·simp at h
  ·simp at h
theorem Gj {e:ao} (he:Ba e):∀{B ls:List IT} {ns:List UInt8} {ts:List IT},vW B->yS B ns ts->∃k r,inf k e B ls ns ts=some r:=by
 induction he with
 |var c=>intro B ls ns ts hB hc;exact⟨0,_,jW _ _ _ _ _ _⟩
 |num n=>intro B ls ns ts hB hc;exact⟨0,_,ql _ _ _ _ _ _⟩
 |tP=>intro B ls ns ts hB hc;exact⟨0,_,qm _ _ _ _ _⟩
 |tQ=>intro B ls ns ts hB hc;exact⟨0,_,qn _ _ _ _ _⟩
 | @lam c ty b _ ih=>
  intro B ls ns ts hB hc;have hN:=lO.one B;obtain⟨k,r,h⟩:=ih (B:=B++[.v B.length]) (ls:=ls++[.v B.length]) (ns:=ns++[c]) (ts:=ts++[.v B.length]) ⟨hN.sc hB.sc,hN.vu hB.sc hB.vu⟩ ⟨by simp[hc.len],fun u hu=>by
   rcases abG.1 hu with q|q
   ·exact dL hN.le (hc.GQ u q)
   ·simp at q;subst q;simp[sc]⟩
  exact⟨k,_,by rw[kX,h];rfl⟩
 | @n1 kd a fu ha ih=>
  intro B ls ns ts hB hc;obtain⟨k,r,h⟩:=ih hB hc (ls:=ls);cases r with
  |none=>exact⟨k,none,by rw[rz _ _ _ _ _ fu,h]⟩
  |some r=>
   obtain⟨B1,ls1,u⟩:=r;have g:=eX ha hB hc h;obtain⟨j,r,h2⟩:=rA (kd:=kd) g.ok (ts:=[u]) (by simpa using g.vv);exact⟨max k j,_,by rw[rz _ _ _ _ _ fu,inf_le (abz k j) ha h];simp only;rw[qo (aby k j) h2];rfl⟩
 | @n2 kd a b fu ha hb iha ihb=>
  intro B ls ns ts hB hc;obtain⟨k,r,h⟩:=iha hB hc (ls:=ls);cases r with
  |none=>exact⟨k,none,by rw[pS _ _ _ _ _ fu,h]⟩
  |some r=>
   obtain⟨B1,ls1,u⟩:=r;have g:=eX ha hB hc h;obtain⟨j,r,h2⟩:=ihb g.ok (hc.le g.le) (ls:=ls1);cases r with
   |none=>exact⟨max k j,none,by rw[pS _ _ _ _ _ fu,inf_le (abz k j) ha h];simp only;rw[inf_le (aby k j) hb h2]⟩
   |some r=>
    obtain⟨B2,ls2,v⟩:=r;have g2:=eX hb g.ok (hc.le g.le) h2;obtain⟨i,r,h3⟩:=rA (kd:=kd) g2.ok (ts:=[u,v]) (by simp;exact⟨dL g2.le g.vv,g2.vv⟩);exact⟨max (max k j) i,_,by rw[pS _ _ _ _ _ fu,inf_le (by omega) ha h];simp only;rw[inf_le (by omega) hb h2];simp only;rw[qo (aby _ _) h3];rfl⟩
 | @ite a b c ha hb pH iha ihb ihc=>
  intro B ls ns ts hB hc;obtain⟨k,r,h⟩:=iha hB hc (ls:=ls);cases r with
  |none=>exact⟨k,none,by rw[od,h]⟩
  |some r=>
   obtain⟨B1,ls1,u⟩:=r;have g:=eX ha hB hc h;obtain⟨j,r,h2⟩:=ihb g.ok (hc.le g.le) (ls:=ls1);cases r with
   |none=>exact⟨max k j,none,by rw[od,inf_le (abz k j) ha h];simp only;rw[inf_le (aby k j) hb h2]⟩
   |some r=>
    obtain⟨B2,ls2,v⟩:=r;have g2:=eX hb g.ok (hc.le g.le) h2;obtain⟨i,r,h3⟩:=ihc g2.ok ((hc.le g.le).le g2.le) (ls:=ls2);cases r with
    |none=>exact⟨max (max k j) i,none,by rw[od,inf_le (by omega) ha h];simp only;rw[inf_le (by omega) hb h2];simp only;rw[inf_le (by omega) pH h3]⟩
    |some r=>
     obtain⟨B3,ls3,w⟩:=r;have g3:=eX pH g2.ok ((hc.le g.le).le g2.le) h3;obtain⟨m,r,h4⟩:=rA (kd:=9) g3.ok (ts:=[u,v,w]) (by simp;exact⟨dL (abD g2.le g3.le) g.vv,dL g3.le g2.vv,g3.vv⟩);exact⟨max (max (max k j) i) m,_,by rw[od,inf_le (by omega) ha h];simp only;rw[inf_le (by omega) hb h2];simp only;rw[inf_le (by omega) pH h3];simp only;rw[qo (aby _ _) h4];rfl⟩
theorem RG {α:Type} {l:List α} (h:l.length=2):∃x y,l=[x,y]:=by
 match l,h with
 |[x,y],_=>exact⟨x,y,rfl⟩
theorem RH {α:Type} {l:List α} (h:l.length=3):∃x y z,l=[x,y,z]:=by
 match l,h with
 |[x,y,z],_=>exact⟨x,y,z,rfl⟩
def Cj (k:Int):Option (aE×aE)->aE
 |none=>.mk k []
 |some (x,y)=>.mk k [x,y]
theorem U2:Tk Cj:=by
 refine⟨fun k k' o o' h=>?_,gl,fun k x y=>?_⟩
 ·cases o with
  |none=>cases o' with
   |none=>simp[Cj]at h;exact⟨h,rfl⟩
   |some p=>simp[Cj]at h
  |some p=>cases o' with
   |none=>simp[Cj]at h
   |some p'=>obtain⟨x,y⟩:=p;obtain⟨x',y'⟩:=p';simp[Cj]at h;exact⟨h.1,by rw[h.2.1,h.2.2]⟩
 ·simp[Cj,gl,cY];omega
abbrev sR:=lI Cj
abbrev yT:=Sat Cj
def yU (θ:Nat->aE) (ns:List UInt8) (ts:List IT):List ea:=List.zipWith (fun c t=>⟨[c],sR θ t⟩) ns ts
theorem Ck (θ:Nat->aE) {ns:List UInt8} {ts:List IT} (c:UInt8) (t:IT) (h:ts.length=ns.length):yU θ (ns++[c]) (ts++[t])=yU θ ns ts++[⟨[c],sR θ t⟩]:=by
 simp only[yU];rw[List.zipWith_append (by omega)]
 rfl
theorem Cl (θ:Nat->aE) {ns:List UInt8} {ts:List IT} (c:UInt8) (h:ts.length=ns.length):∀p,p<=ns.length->cX (yU θ (ns.take p) (ts.take p)) [c]=if 0<=ee ns c p then(ts[(ee ns c p).toNat]?).map (sR θ)else none
 |0,_=>by simp[yU,cX,ee]
 |p+1,hp=>by
  have az:p<ns.length:=by omega
  have jc:p<ts.length:=by omega
  have e:yU θ (ns.take (p+1)) (ts.take (p+1))=yU θ (ns.take p) (ts.take p)++[⟨[ns[p]],sR θ ts[p]⟩]:=by
   rw[ab0,ab0,abM az,abM jc];exact Ck θ _ _ (by simp;omega)
  rw[e,zh];simp only[cX,ee,abM az];by_cases hc:ns[p]=c
  ·subst hc;simp[abM jc]
  ·have CJ:¬[ns[p]]=[c]:=by simpa using hc
   have Fp:¬(some ns[p]=some c):=by simpa using hc
   rw[if_neg CJ,if_neg Fp];exact Cl θ c h p (by omega)
theorem OT (θ:Nat->aE) {ns:List UInt8} {ts:List IT} (c:UInt8) (h:ts.length=ns.length):cX (yU θ ns ts) [c]=if 0<=dp ns c then(ts[(dp ns c).toNat]?).map (sR θ)else none:=by
 have:=Cl θ c h ns.length (abx _);rw[abZ (abx _),abZ (by omega)]at this;exact this
theorem um (s:List UInt8) (t u:aE) (b:ao) (us:List aE):bF (pD s t b) (u::us)=pD s u (bF b us):=by simp[bF,c9,bD]
theorem xQ {k:Int} (hk:k=11\/k=12) (a:ao) (us:List aE):bF (Di k a) us=Di k (bF a us):=by rcases hk with rfl|rfl<;>simp[bF,c9,bD]
theorem xR {k:Int} (hk:k=6\/k=7\/k=8\/k=10) (a b:ao) (us:List aE):bF (Ag k a b) us=Ag k (bF a us) (bF b (us.drop (aH a).length)):=by rcases hk with rfl|rfl|rfl|rfl<;>simp[bF,c9,bD]
theorem xS (a b c:ao) (us:List aE):bF (Ex a b c) us=Ex (bF a us) (bF b (us.drop (aH a).length)) (bF c (us.drop ((aH a).length+(aH b).length))):=by simp[bF,c9,bD,ab2]
theorem uo (s:List UInt8) (us:List aE):bF (q8 s) us=q8 s:=by simp[bF,c9,bD]
theorem uq (n:Int) (us:List aE):bF (tO n) us=tO n:=by simp[bF,c9,bD]
theorem ur (us:List aE):bF mR us=mR:=by simp[bF,c9,bD]
theorem uu (us:List aE):bF ju us=ju:=by simp[bF,c9,bD]
theorem rC (s:List UInt8) (t:aE) (b:ao):aH (pD s t b)=t::aH b:=by simp[aH,aC,bD]
theorem uv {k:Int} (hk:k=11\/k=12) (a:ao):aH (Di k a)=aH a:=by rcases hk with rfl|rfl<;>simp[aH,aC,bD]
theorem uw {k:Int} (hk:k=6\/k=7\/k=8\/k=10) (a b:ao):aH (Ag k a b)=aH a++aH b:=by rcases hk with rfl|rfl|rfl|rfl<;>simp[aH,aC,bD]
theorem ux (a b c:ao):aH (Ex a b c)=aH a++(aH b++aH c):=by simp[aH,aC,bD]
theorem uy {e:ao} (he:Ba e):∀{us:List aE} (vs:List aE),us.length=(aH e).length->bF e (us++vs)=bF e us:=by
 induction he with
 |var c=>intro us vs _;rw[uo,uo]
 |num n=>intro us vs _;rw[uq,uq]
 |tP=>intro us vs _;rw[ur,ur]
 |tQ=>intro us vs _;rw[uu,uu]
 |lam _ ih=>
  intro us vs h;rw[rC]at h
  match us,h with
  |u::us,h=>rw[ab5,um,um,ih vs (by simpa using h)]
 |n1 hk _ ih=>
  intro us vs h;rw[uv hk]at h;rw[xQ hk,xQ hk,ih vs h]
 | @n2 k a b hk _ _ iha ihb=>
  intro us vs h;rw[uw hk,abL]at h;have e1:us=us.take (aH a).length++us.drop (aH a).length:=(abQ _ _).symm;have h1:(us.take (aH a).length).length=(aH a).length:=by rw[abT];omega
  have ha:∀ws,bF a (us++ws)=bF a us:=fun ws=>by
   rw[e1,abK,iha _ h1,iha _ h1]
  rw[xR hk,xR hk,ha,abX (by omega),ihb vs (by rw[abW];omega)]
 | @ite a b c _ _ _ iha ihb ihc=>
  intro us vs h;rw[ux,abL,abL]at h;have e1:us=us.take (aH a).length++us.drop (aH a).length:=(abQ _ _).symm;have h1:(us.take (aH a).length).length=(aH a).length:=by rw[abT];omega
  have ha:∀ws,bF a (us++ws)=bF a us:=fun ws=>by
   rw[e1,abK,iha _ h1,iha _ h1]
  have e2:us.drop (aH a).length=(us.drop (aH a).length).take (aH b).length++(us.drop (aH a).length).drop (aH b).length:=(abQ _ _).symm;have h2:((us.drop (aH a).length).take (aH b).length).length=(aH b).length:=by rw[abT,abW];omega
  have hb:∀ws,bF b (us.drop (aH a).length++ws)=bF b (us.drop (aH a).length):=fun ws=>by
   rw[e2,abK,ihb _ h2,ihb _ h2]
  rw[xS,xS,ha,abX (by omega),hb,abX (by omega),ihc vs (by rw[abW];omega)]
theorem mW {θ:Nat->aE} {k:Nat} {B B':List IT} {a b:IT} (hB:vW B) (ha:sc B.length a=true) (hb:sc B.length b=true) (h:jB k B a b=some (some B')):yT θ B'↔yT θ B/\sR θ a=sR θ b:=by
 simp only[jB]at h;split at h
 ·simp at h
 ·rename_i hu;simp at h;subst h;exact(Aw U2 hB.sc ha hb hu).1 rfl
 ·simp at h
def Ix (kd:Int) (ts:List aE) (t:aE):Prop:=
 (kd=2/\t=bP)\/((kd=3\/kd=4)/\t=c3)\/(∃x,ts=[.mk 5 [t,x]]/\kd=11)\/(∃x,ts=[.mk 5 [x,t]]/\kd=12)\/(∃x y,ts=[x,y]/\kd=10/\t=.mk 5 [x,y])\/(∃y,ts=[.mk 4 [y,t],y]/\kd=6)\/
  (ts=[bP,bP]/\kd=7/\t=bP)\/(ts=[bP,bP]/\kd=8/\t=c3)\/(ts=[c3,t,t]/\kd=9)
theorem jD {θ:Nat->aE} {k:Nat} {kd:Int} {B B':List IT} {ts:List IT} {t:IT} (hB:vW B) (b7:∀u∈ts,sc B.length u=true) (h:ir k kd B ts=some (some (B',t))) (hs:yT θ B'):yT θ B/\Ix kd (ts.map (sR θ)) (sR θ t):=by
 have hN:=lO.two B;have Iw:vW (B++[.v B.length,.v (B.length+1)]):=⟨hN.sc hB.sc,hN.vu hB.sc hB.vu⟩;have xB:(B++[IT.v B.length,IT.v (B.length+1)]).length=B.length+2:=by simp
 have up:∀{u:IT},sc B.length u=true->sc (B++[IT.v B.length,IT.v (B.length+1)]).length u=true:=fun h=>dL (by omega) h
 simp only[ir]at h;split at h
 ·rename_i hk;simp at h;obtain⟨rfl,rfl⟩:=h;exact⟨hs,.inl ⟨hk,rfl⟩⟩
 split at h
 ·rename_i hk;simp at h;obtain⟨rfl,rfl⟩:=h;exact⟨hs,.inr (.inl ⟨hk,rfl⟩)⟩
 split at h
 ·rename_i x;have hx:=b7 x (by simp);split at h
  ·rename_i hk;simp only[ab6]at h;obtain⟨r,h1,B2,rfl,h2⟩:=h;cases h2
   obtain⟨h3,h4⟩:=(mW Iw (up hx) (by simp[sc]) h1).1 hs;refine⟨hN.sat h3,?_⟩;rcases hk with rfl|rfl
   ·exact .inr (.inr (.inl ⟨_,by simp only[abH,abI,h4];rfl,rfl⟩))
   ·exact .inr (.inr (.inr (.inl ⟨_,by simp only[abH,abI,h4];rfl,rfl⟩)))
  ·simp at h
 ·rename_i x y;have hx:=b7 x (by simp);have hy:=b7 y (by simp);split at h
  ·rename_i hk;simp at h;obtain⟨rfl,rfl⟩:=h;exact⟨hs,.inr (.inr (.inr (.inr (.inl ⟨_,_,rfl,hk,rfl⟩))))⟩
  split at h
  ·rename_i hk;simp only[ab6]at h;obtain⟨r,h1,B2,rfl,h2⟩:=h;cases h2
   obtain⟨h3,h4⟩:=(mW Iw (up hx) (by have:=up hy;simp[sc]at this⊢;exact this) h1).1 hs;exact⟨hN.sat h3,.inr (.inr (.inr (.inr (.inr (.inl ⟨_,by simp only[abH,abI,h4];rfl,hk⟩)))))⟩
  split at h
  ·rename_i hk;split at h
   ·rename_i B1 h1;obtain⟨h2,h3⟩:=je hB hx rfl h1;simp only[ab6]at h;obtain⟨r,h4,B2,rfl,h5⟩:=h;cases h5
    obtain⟨h6,h7⟩:=(mW h2 (by rw[h3];exact hy) rfl h4).1 hs;obtain⟨h8,h9⟩:=(mW hB hx rfl h1).1 h6;refine⟨h8,?_⟩;rcases hk with rfl|rfl
    ·exact .inr (.inr (.inr (.inr (.inr (.inr (.inl ⟨by simp only[abH,abI,h7,h9];rfl,rfl,rfl⟩))))))
    ·exact .inr (.inr (.inr (.inr (.inr (.inr (.inr (.inl ⟨by simp only[abH,abI,h7,h9];rfl,rfl,rfl⟩)))))))
   ·simp at h
   ·simp at h
  ·simp at h
 ·rename_i x y z;have hx:=b7 x (by simp);have hy:=b7 y (by simp);have hz:=b7 z (by simp);split at h
  ·rename_i hk;split at h
   ·rename_i B1 h1;obtain⟨h2,h3⟩:=je hB hx rfl h1;simp only[ab6]at h;obtain⟨r,h4,B2,rfl,h5⟩:=h;cases h5
    obtain⟨h6,h7⟩:=(mW h2 (by rw[h3];exact hy) (by rw[h3];exact hz) h4).1 hs;obtain⟨h8,h9⟩:=(mW hB hx rfl h1).1 h6;exact⟨h8,.inr (.inr (.inr (.inr (.inr (.inr (.inr (.inr ⟨by simp only[abH,abI,h7,h9];rfl,hk⟩)))))))⟩
   ·simp at h
   ·simp at h
  ·simp at h
 ·simp at h
mutual
theorem zJ:∀t:aE,cG t t=t
 |.mk k l=>by
  simp only[cG];split
  ·rfl
  ·first
   |rw[rD l]
   |(split;rfl;rw[rD l])
theorem rD:∀l:List aE,jQ l l=l
 |[]=>rfl
 |t::r=>by rw[jQ,zJ t,rD r]
end
mutual
theorem mX:∀t:aE,aM t t=true
 |.mk k l=>by
  simp only[aM];simp[xU l]
theorem xU:∀l:List aE,p9 l l=true
 |[]=>rfl
 |t::r=>by simp[p9,mX t,xU r]
end
theorem rE {ctx:List ea} {kd:Int} {s:List UInt8} {ty:aE} {ts:List aE} {t:aE} (h:Ix kd ts t):(∀T,eb ctx kd s ty ts=some T->T=t)/\(ak 4 t=true->eb ctx kd s ty ts=some t):=by
 rcases h with⟨rfl,rfl⟩|⟨hk,rfl⟩|⟨X,rfl,rfl⟩|⟨X,rfl,rfl⟩|⟨X,Y,rfl,rfl,rfl⟩|⟨Y,rfl,rfl⟩|⟨rfl,rfl,rfl⟩|⟨rfl,rfl,rfl⟩|⟨rfl,rfl⟩
 ·simp[eb]<;>try exact fun T h=>h.symm
 ·rcases hk with rfl|rfl<;>simp[eb]<;>try exact fun T h=>h.symm
 ·simp[eb,dO]<;>try exact fun T h=>h.symm
 ·simp[eb,dO]<;>try exact fun T h=>h.symm
 ·simp only[eb,Ab];refine⟨fun T h=>?_,fun hs=>?_⟩
  ·simp at h;exact h.2.symm
  ·simp[hs]
 ·simp[eb,dO,mX]<;>try exact fun T h=>h.symm
 ·simp[eb,mX]<;>try exact fun T h=>h.symm
 ·simp[eb,mX]<;>try exact fun T h=>h.symm
 ·simp[eb,mX,zJ]<;>try exact fun T h=>h.symm
theorem Az {θ:Nat->aE} {k:Nat} {e:ao} (he:Ba e):∀{B ls B' ls':List IT} {ns:List UInt8} {ts:List IT} {t:IT},vW B->yS B ns ts->inf k e B ls ns ts=some (some (B',ls',t))->yT θ B'->yT θ B:=by
 induction he with
 |var c=>
  intro B ls B' ls' ns ts t hB hc h hs;rw[jW]at h;simp only[Option.some.injEq]at h;split at h
  ·simp only[ab6]at h;obtain⟨u,_,h2⟩:=h;cases h2;exact hs
  ·simp at h
 |num n=>intro B ls B' ls' ns ts t hB hc h hs;rw[ql]at h;cases h;exact hs
 |tP=>intro B ls B' ls' ns ts t hB hc h hs;rw[qm]at h;cases h;exact hs
 |tQ=>intro B ls B' ls' ns ts t hB hc h hs;rw[qn]at h;cases h;exact hs
 | @lam c ty b _ ih=>
  intro B ls B' ls' ns ts t hB hc h hs;rw[kX]at h;simp only[ab6]at h;obtain⟨q,h1,r,rfl,h2⟩:=h;cases h2
  have hN:=lO.one B;exact hN.sat (ih ⟨hN.sc hB.sc,hN.vu hB.sc hB.vu⟩ ⟨by simp[hc.len],fun u hu=>by
   rcases abG.1 hu with q|q
   ·exact dL hN.le (hc.GQ u q)
   ·simp at q;subst q;simp[sc]⟩ h1 hs)
 | @n1 kd a fu ha ih=>
  intro B ls B' ls' ns ts t hB hc h hs;rw[rz _ _ _ _ _ fu]at h;split at h
  ·rename_i B1 ls1 u h1;have g:=eX ha hB hc h1;simp only[ab6]at h;obtain⟨q,h2,r,rfl,h3⟩:=h;obtain⟨B2,w⟩:=r;cases h3
   exact ih hB hc h1 (jD g.ok (by simpa using g.vv) h2 hs).1
  ·simp at h
  ·simp at h
 | @n2 kd a b fu ha hb iha ihb=>
  intro B ls B' ls' ns ts t hB hc h hs;rw[pS _ _ _ _ _ fu]at h;split at h
  ·rename_i B1 ls1 u h1;have g:=eX ha hB hc h1;split at h
   ·rename_i B2 ls2 v h2;have g2:=eX hb g.ok (hc.le g.le) h2;simp only[ab6]at h;obtain⟨q,h3,r,rfl,h4⟩:=h;obtain⟨B3,w⟩:=r;cases h4
    exact iha hB hc h1 (ihb g.ok (hc.le g.le) h2 (jD g2.ok (by simp;exact⟨dL g2.le g.vv,g2.vv⟩) h3 hs).1)
   ·simp at h
   ·simp at h
  ·simp at h
  ·simp at h
 | @ite a b c ha hb pH iha ihb ihc=>
  intro B ls B' ls' ns ts t hB hc h hs;rw[od]at h;split at h
  ·rename_i B1 ls1 u h1;have g:=eX ha hB hc h1;split at h
   ·rename_i B2 ls2 v h2;have g2:=eX hb g.ok (hc.le g.le) h2;split at h
    ·rename_i B3 ls3 w h3;have g3:=eX pH g2.ok ((hc.le g.le).le g2.le) h3;simp only[ab6]at h;obtain⟨q,h4,r,rfl,h5⟩:=h;obtain⟨B4,w⟩:=r;cases h5
     exact iha hB hc h1 (ihb g.ok (hc.le g.le) h2 (ihc g2.ok ((hc.le g.le).le g2.le) h3 (jD g3.ok (by simp;exact⟨dL (abD g2.le g3.le) g.vv,dL g3.le g2.vv,g3.vv⟩) h4 hs).1))
    ·simp at h
    ·simp at h
   ·simp at h
   ·simp at h
  ·simp at h
  ·simp at h
theorem Gk {θ:Nat->aE} {k:Nat} {e:ao} (he:Ba e):∀{B ls B' new:List IT} {ns:List UInt8} {ts:List IT} {t:IT},vW B->yS B ns ts->inf k e B ls ns ts=some (some (B',ls++new,t))->yT θ B'->
  ∀T,cO (yU θ ns ts) (bF e (new.map (sR θ)))=some T->T=sR θ t:=by
 induction he with
 |var c=>
  intro B ls B' new ns ts t hB hc h hs T hT;rw[jW]at h;rw[uo,FF,OT θ c hc.len]at hT;simp only[Option.some.injEq]at h;split at h
  ·rename_i mB;rw[if_pos mB]at hT;simp only[ab6]at h hT;obtain⟨u,h1,h2⟩:=h;obtain⟨u',lH,rfl⟩:=hT;rw[h1]at lH;cases lH
   simp only[Prod.mk.injEq]at h2;rw[h2.2.2]
  ·simp at h
 |num n=>intro B ls B' new ns ts t hB hc h hs T hT;rw[ql]at h;rw[uq,FG]at hT;simp at h hT;rw[<-h.2.2,<-hT];rfl
 |tP=>intro B ls B' new ns ts t hB hc h hs T hT;rw[qm]at h;rw[ur,Dj]at hT;simp at h hT;rw[<-h.2.2,<-hT];rfl
 |tQ=>intro B ls B' new ns ts t hB hc h hs T hT;rw[qn]at h;rw[uu,Bw]at hT;simp at h hT;rw[<-h.2.2,<-hT];rfl
 | @lam c ty b hb ih=>
  intro B ls B' new ns ts t hB hc h hs T hT;rw[kX]at h;simp only[ab6]at h;obtain⟨q,h1,r,rfl,h2⟩:=h;obtain⟨B1,ls1,u⟩:=r;simp only[Prod.mk.injEq]at h2;obtain⟨rfl,h3,rfl⟩:=h2;have hN:=lO.one B;have Mi:vW (B++[.v B.length]):=⟨hN.sc hB.sc,hN.vu hB.sc hB.vu⟩;have uO:yS (B++[.v B.length]) (ns++[c]) (ts++[.v B.length]):=⟨by simp[hc.len],fun u hu=>by
   rcases abG.1 hu with q|q
   ·exact dL hN.le (hc.GQ u q)
   ·simp at q;subst q;simp[sc]⟩
  obtain⟨g1,g2,g3,g4,wK,h4,g5,g6⟩:=eX hb Mi uO h1;subst h4;rw[abK,abY]at h3;subst h3;simp only[ab5,abS,abH]at hT;rw[um,FH]at hT;rw[<-Ck θ c (.v B.length) hc.len]at hT;simp only[ab7]at hT;obtain⟨U,hU,hT⟩:=hT;have:=ih Mi uO h1 hs U hU;subst this;simp only[Ab]at hT;split at hT
  ·simp at hT;rw[<-hT];rfl
  ·simp at hT
 | @n1 kd a fu ha ih=>
  intro B ls B' new ns ts t hB hc h hs T hT;rw[rz _ _ _ _ _ fu]at h;split at h
  ·rename_i B1 ls1 u h1;have g:=eX ha hB hc h1;simp only[ab6]at h;obtain⟨q,h2,r,rfl,h3⟩:=h;obtain⟨B2,w⟩:=r;simp only[Prod.mk.injEq]at h3;obtain⟨rfl,rfl,rfl⟩:=h3;obtain⟨k1,k2⟩:=jD g.ok (by simpa using g.vv) h2 hs;rw[xQ fu,Hw _ _ fu]at hT;simp only[ab7]at hT;obtain⟨U,hU,hT⟩:=hT;have:=ih hB hc h1 k1 U hU;subst this;exact(rE k2).1 T hT
  ·simp at h
  ·simp at h
 | @n2 kd a b fu ha hb iha ihb=>
  intro B ls B' new ns ts t hB hc h hs T hT;rw[pS _ _ _ _ _ fu]at h;split at h
  ·rename_i B1 ls1 u h1;have g:=eX ha hB hc h1;split at h
   ·rename_i B2 ls2 v h2;have g2:=eX hb g.ok (hc.le g.le) h2;simp only[ab6]at h;obtain⟨q,h3,r,rfl,h4⟩:=h;obtain⟨B3,w⟩:=r;simp only[Prod.mk.injEq]at h4;obtain⟨rfl,h4,rfl⟩:=h4;obtain⟨k1,k2⟩:=jD g2.ok (by simp;exact⟨dL g2.le g.vv,g2.vv⟩) h3 hs;have k3:=Az hb g.ok (hc.le g.le) h2 k1;obtain⟨wK,rfl,l1,_⟩:=g.DZ;obtain⟨Ay,h5,l2,_⟩:=g2.DZ;subst h5;rw[abK,abY]at h4;subst h4;have U3:kd≠5:=by omega
    have e1:(wK.map (sR θ)).length=(aH a).length:=by rw[abV,l1]
    rw[abO,xR fu,uy ha _ e1,abP e1,Hx _ _ _ U3]at hT;simp only[ab7]at hT;obtain⟨U,hU,V,hV,hT⟩:=hT;have e2:=iha hB hc h1 k3 U hU;have e3:=ihb g.ok (hc.le g.le) h2 k1 V hV;subst e2;subst e3;exact(rE k2).1 T hT
   ·simp at h
   ·simp at h
  ·simp at h
  ·simp at h
 | @ite a b c ha hb pH iha ihb ihc=>
  intro B ls B' new ns ts t hB hc h hs T hT;rw[od]at h;split at h
  ·rename_i B1 ls1 u h1;have g:=eX ha hB hc h1;split at h
   ·rename_i B2 ls2 v h2;have g2:=eX hb g.ok (hc.le g.le) h2;split at h
    ·rename_i B3 ls3 w h3;have g3:=eX pH g2.ok ((hc.le g.le).le g2.le) h3;simp only[ab6]at h;obtain⟨q,h4,r,rfl,h5⟩:=h;obtain⟨B4,z⟩:=r;simp only[Prod.mk.injEq]at h5;obtain⟨rfl,h5,rfl⟩:=h5;obtain⟨k1,k2⟩:=jD g3.ok (by simp;exact⟨dL (abD g2.le g3.le) g.vv,dL g3.le g2.vv,g3.vv⟩) h4 hs;have k3:=Az pH g2.ok ((hc.le g.le).le g2.le) h3 k1;have k4:=Az hb g.ok (hc.le g.le) h2 k3;obtain⟨wK,rfl,l1,_⟩:=g.DZ;obtain⟨Ay,h6,l2,_⟩:=g2.DZ;subst h6;obtain⟨new3,h7,l3,_⟩:=g3.DZ;subst h7;rw[abK,abK,abY]at h5;subst h5;have e1:(wK.map (sR θ)).length=(aH a).length:=by rw[abV,l1]
     have e2:(Ay.map (sR θ)).length=(aH b).length:=by rw[abV,l2]
     rw[abO,abO,xS,uy ha _ e1,abP e1,uy hb _ e2,<-ab2,abP e1,abP e2,Hy]at hT;simp only[ab7]at hT;obtain⟨U,hU,V,hV,W,hW,hT⟩:=hT;have e4:=iha hB hc h1 k4 U hU;have e5:=ihb g.ok (hc.le g.le) h2 k3 V hV;have e6:=ihc g2.ok ((hc.le g.le).le g2.le) h3 k1 W hW;subst e4;subst e5;subst e6;exact(rE (ctx:=[]) (s:=[]) (ty:=bx) k2).1 T (by simpa[eb]using hT)
    ·simp at h
    ·simp at h
   ·simp at h
   ·simp at h
  ·simp at h
  ·simp at h
inductive DL:aE->aE->Prop
 |int (b:aE):DL bP b
 |base (k:Int):DL (.mk k []) (.mk k [])
 |two {k:Int} {a b a' b':aE}:DL a a'->DL b b'->DL (.mk k [a,b]) (.mk k [a',b'])
def gj:IT->Prop
 |.v _=>True
 |.b k=>k=2\/k=3
 |.p k x y=>(k=4\/k=5)/\gj x/\gj y
structure VR (θ:Nat->aE) (B ls:List IT) (ns:List UInt8) (ts:List IT) (e:ao) (T:aE):Prop where
 VS:vV T=0
 ex:∃k B' new t θ',inf k e B ls ns ts=some (some (B',ls++new,t))/\yT θ' B'/\(∀n,n<B.length->θ' n=θ n)/\sR θ' t=T/\(∀u∈new,ak 4 (sR θ' u)=true)/\
  ∀θ0,yT θ0 B'->(∀n,n<B'.length->DL (θ0 n) (θ' n))->cO (yU θ0 ns ts) (bF e (new.map (sR θ0)))=some (sR θ0 t)
def U4 (c:List ea):Prop:=∀b∈c,ak 4 b.ty=true/\vV b.ty=0
def kf (B:List IT) (K:Nat):Nat->IT->Option aE
 |0,_=>none
 |d+1,t=>match hd B K t with
  |.v _=>some bP
  |.b k=>some (.mk k [])
  |.p k x y=>match kf B K d x with
   |none=>none
   |some X=>match kf B K d y with
    |none=>none
    |some Y=>some (.mk k [X,Y])
def oW (B:List IT) (K:Nat):List IT->Option (List aE)
 |[]=>some []
 |t::r=>match kf B K 4 t with
  |none=>none
  |some T=>match oW B K r with
   |none=>none
   |some Ts=>some (T::Ts)
def ku (B:List IT):Prop:=∀t∈B,gj t
theorem Iy {B:List IT} (h:ku B) {n:Nat} {t:IT} (hb:bd B n=some t):gj t:=h t (abN (sO hb).1)
theorem mY {B:List IT} (h:ku B):∀{k:Nat} {t:IT},gj t->gj (hd B k t)
 |0,t,ht=>by cases t<;>exact ht
 |k+1,.v n,ht=>by
  simp only[hd];split<;>rename_i hb
  ·exact ht
  ·exact mY h (Iy h hb)
 |k+1,.b _,ht=>ht
 |k+1,.p _ _ _,ht=>ht
theorem ku.set {B:List IT} (h:ku B) {n:Nat} {t:IT} (ht:gj t):ku (B.set n t):=by
 intro u hu;rcases ab1 hu with h1|rfl
 ·exact h u h1
 ·exact ht
theorem mz:∀{k:Nat} {B B':List IT} {a b:IT} {q:Bool},ku B->gj a->gj b->iD k B a b=some (B',q)->ku B'
 |0,B,B',a,b,q,_,_,_,h=>by simp[iD]at h
 |k+1,B,B',a,b,q,hB,ha,hb,h=>by
  rw[iD]at h;split at h
  ·have uj:=mY hB (k:=k) ha;have eG:=mY hB (k:=k) hb;generalize hd B k a=a' at*;generalize hd B k b=b' at*
   match a',b',h with
   |.v n,b',h=>
    simp only at h;split at h
    ·simp at h;obtain⟨rfl,_⟩:=h;exact hB
    ·split at h
     ·simp at h;obtain⟨rfl,_⟩:=h;exact hB
     ·simp at h;obtain⟨rfl,_⟩:=h;exact hB.set eG
   |.b _,.v n,h=>
    simp only at h;split at h
    ·simp at h;obtain⟨rfl,_⟩:=h;exact hB
    ·simp at h;obtain⟨rfl,_⟩:=h;exact hB.set uj
   |.p _ _ _,.v n,h=>
    simp only at h;split at h
    ·simp at h;obtain⟨rfl,_⟩:=h;exact hB
    ·simp at h;obtain⟨rfl,_⟩:=h;exact hB.set uj
   |.b _,.b _,h=>simp at h;obtain⟨rfl,_⟩:=h;exact hB
   |.b _,.p _ _ _,h=>simp at h;obtain⟨rfl,_⟩:=h;exact hB
   |.p _ _ _,.b _,h=>simp at h;obtain⟨rfl,_⟩:=h;exact hB
   |.p i x y,.p j x' y',h=>
    simp only at h;split at h
    ·cases hu:iD k B x x' with
     |none=>rw[hu]at h;simp at h
     |some r=>
      obtain⟨B1,q1⟩:=r;rw[hu]at h;have h1:=mz hB uj.2.1 eG.2.1 hu;cases q1
      ·simp at h;obtain⟨rfl,_⟩:=h;exact h1
      ·exact mz h1 uj.2.2 eG.2.2 h
    ·simp at h;obtain⟨rfl,_⟩:=h;exact hB
  ·simp at h
theorem qp {k:Nat} {B B':List IT} {a b:IT} (hB:ku B) (ha:gj a) (hb:gj b) (h:jB k B a b=some (some B')):ku B':=by
 simp only[jB]at h;split at h
 ·simp at h
 ·rename_i hu;simp at h;subst h;exact mz hB ha hb hu
 ·simp at h
theorem ku.app {B C:List IT} (h:ku B) (hC:ku C):ku (B++C):=by
 intro t ht;rcases abG.1 ht with q|q
 ·exact h t q
 ·exact hC t q
theorem Kh (l:List Nat):ku (l.map IT.v):=by
 intro t ht;obtain⟨n,_,rfl⟩:=List.mem_map.1 ht;trivial
theorem AA {k:Nat} {kd:Int} {B B':List IT} {ts:List IT} {t:IT} (hB:ku B) (b7:∀u∈ts,gj u) (h:ir k kd B ts=some (some (B',t))):ku B'/\gj t:=by
 have Iw:ku (B++[.v B.length,.v (B.length+1)]):=hB.app (Kh [_,_]);simp only[ir]at h;split at h
 ·simp at h;obtain⟨rfl,rfl⟩:=h;exact⟨hB,.inl rfl⟩
 split at h
 ·simp at h;obtain⟨rfl,rfl⟩:=h;exact⟨hB,.inr rfl⟩
 split at h
 ·rename_i x;have hx:=b7 x (by simp);split at h
  ·simp only[ab6]at h;obtain⟨r,h1,B2,rfl,h2⟩:=h;cases h2
   exact⟨qp Iw hx (show gj (.p 5 (.v _) (.v _))from⟨.inr rfl,trivial,trivial⟩) h1,trivial⟩
  ·simp at h
 ·rename_i x y;have hx:=b7 x (by simp);have hy:=b7 y (by simp);split at h
  ·simp at h;obtain⟨rfl,rfl⟩:=h;exact⟨hB,.inr rfl,hx,hy⟩
  split at h
  ·simp only[ab6]at h;obtain⟨r,h1,B2,rfl,h2⟩:=h;cases h2
   exact⟨qp Iw hx (show gj (.p 4 y (.v _))from⟨.inl rfl,hy,trivial⟩) h1,trivial⟩
  split at h
  ·split at h
   ·rename_i B1 h1;simp only[ab6]at h;obtain⟨r,h4,B2,rfl,h5⟩:=h;cases h5
    refine⟨qp (qp hB hx (show gj (.b 2)from .inl rfl) h1) hy (show gj (.b 2)from .inl rfl) h4,?_⟩;simp only[gj];split<;>omega
   ·simp at h
   ·simp at h
  ·simp at h
 ·rename_i x y z;have hx:=b7 x (by simp);have hy:=b7 y (by simp);have hz:=b7 z (by simp);split at h
  ·split at h
   ·rename_i B1 h1;simp only[ab6]at h;obtain⟨r,h4,B2,rfl,h5⟩:=h;cases h5
    exact⟨qp (qp hB hx (show gj (.b 3)from .inr rfl) h1) hy hz h4,hy⟩
   ·simp at h
   ·simp at h
  ·simp at h
 ·simp at h
theorem Iz {k:Nat} {e:ao} (he:Ba e):∀{B ls B' ls':List IT} {ns:List UInt8} {ts:List IT} {t:IT},ku B->ku ls->ku ts->inf k e B ls ns ts=some (some (B',ls',t))->ku B'/\ku ls'/\gj t:=by
 induction he with
 |var c=>
  intro B ls B' ls' ns ts t hB hl hc h;rw[jW]at h;simp only[Option.some.injEq]at h;split at h
  ·simp only[ab6]at h;obtain⟨u,h1,h2⟩:=h;cases h2
   exact⟨hB,hl,hc _ (abN h1)⟩
  ·simp at h
 |num n=>intro B ls B' ls' ns ts t hB hl hc h;rw[ql]at h;cases h;exact⟨hB,hl,.inl rfl⟩
 |tP=>intro B ls B' ls' ns ts t hB hl hc h;rw[qm]at h;cases h;exact⟨hB,hl,.inr rfl⟩
 |tQ=>intro B ls B' ls' ns ts t hB hl hc h;rw[qn]at h;cases h;exact⟨hB,hl,.inr rfl⟩
 | @lam c ty b _ ih=>
  intro B ls B' ls' ns ts t hB hl hc h;rw[kX]at h;simp only[ab6]at h;obtain⟨q,h1,r,rfl,h2⟩:=h;cases h2
  obtain⟨g1,g2,g3⟩:=ih (hB.app (Kh [_])) (hl.app (Kh [_])) (hc.app (Kh [_])) h1;exact⟨g1,g2,.inl rfl,trivial,g3⟩
 | @n1 kd a fu ha ih=>
  intro B ls B' ls' ns ts t hB hl hc h;rw[rz _ _ _ _ _ fu]at h;split at h
  ·rename_i B1 ls1 u h1;obtain⟨g1,g2,g3⟩:=ih hB hl hc h1;simp only[ab6]at h;obtain⟨q,h2,r,rfl,h3⟩:=h;obtain⟨B2,w⟩:=r;cases h3
   obtain⟨k1,k2⟩:=AA g1 (by simpa using g3) h2;exact⟨k1,g2,k2⟩
  ·simp at h
  ·simp at h
 | @n2 kd a b fu ha hb iha ihb=>
  intro B ls B' ls' ns ts t hB hl hc h;rw[pS _ _ _ _ _ fu]at h;split at h
  ·rename_i B1 ls1 u h1;obtain⟨g1,g2,g3⟩:=iha hB hl hc h1;split at h
   ·rename_i B2 ls2 v h2;obtain⟨p1,p2,p3⟩:=ihb g1 g2 hc h2;simp only[ab6]at h;obtain⟨q,h3,r,rfl,h4⟩:=h;obtain⟨B3,w⟩:=r;cases h4
    obtain⟨k1,k2⟩:=AA p1 (by simp;exact⟨g3,p3⟩) h3;exact⟨k1,p2,k2⟩
   ·simp at h
   ·simp at h
  ·simp at h
  ·simp at h
 | @ite a b c ha hb pH iha ihb ihc=>
  intro B ls B' ls' ns ts t hB hl hc h;rw[od]at h;split at h
  ·rename_i B1 ls1 u h1;obtain⟨g1,g2,g3⟩:=iha hB hl hc h1;split at h
   ·rename_i B2 ls2 v h2;obtain⟨p1,p2,p3⟩:=ihb g1 g2 hc h2;split at h
    ·rename_i B3 ls3 w h3;obtain⟨r1,r2,r3⟩:=ihc p1 p2 hc h3;simp only[ab6]at h;obtain⟨q,h4,r,rfl,h5⟩:=h;obtain⟨B4,w⟩:=r;cases h5
     obtain⟨k1,k2⟩:=AA r1 (by simp;exact⟨g3,p3,r3⟩) h4;exact⟨k1,r2,k2⟩
    ·simp at h
    ·simp at h
   ·simp at h
   ·simp at h
  ·simp at h
  ·simp at h
def D0 (B:List IT):Nat->IT->aE
 |k+1,.v n=>match bd B n with
  |none=>bP
  |some t=>D0 B k t
 |0,.v _=>bP
 |_,.b k=>.mk k []
 |0,.p _ _ _=>bP
 |j+1,.p k x y=>.mk k [D0 B j x,D0 B j y]
theorem lB {B:List IT}:∀{k j:Nat} {t:IT},ex B k t=true->k<=j->D0 B j t=D0 B k t
 |0,j,t,h,_=>by simp[ex]at h
 |k+1,j+1,.v m,h,hj=>by
  simp only[ex]at h;simp only[D0];split<;>rename_i hb
  ·rfl
  ·rw[hb]at h;exact lB h (by omega)
 |k+1,j+1,.b _,_,_=>rfl
 |k+1,j+1,.p _ x y,h,hj=>by
  rw[ex,abw]at h;simp only[D0,lB h.1 (show k<=j by omega),lB h.2 (show k<=j by omega)]
theorem IA {B:List IT} (h:Gi B):∃K,∀n,n<B.length->ex B K (.v n)=true:=by
 have:∀m,m<=B.length->∃K,∀n,n<m->ex B K (.v n)=true:=by
  intro m;induction m with
  |zero=>intro _;exact⟨0,fun n hn=>by omega⟩
  |succ m ih=>
   intro hm;obtain⟨K1,h1⟩:=ih (by omega);obtain⟨K2,h2⟩:=h m (by omega);refine⟨max K1 K2,fun n hn=>?_⟩;by_cases e:n=m
   ·subst e;exact oM (aby _ _) h2
   ·exact oM (abz _ _) (h1 n (by omega))
 exact this B.length (abx _)
def Fuel (B:List IT) (K:Nat):Prop:=∀n,n<B.length->ex B K (.v n)=true
def AW (B:List IT) (K:Nat) (n:Nat):aE:=D0 B K (.v n)
theorem D1 {B:List IT} {K:Nat} (hB:ry B) (hK:Fuel B K):∀{t:IT} {j:Nat},sc B.length t=true->ex B j t=true->sR (AW B K) t=D0 B j t
 |.v n,j,hs,hx=>by
  have hn:n<B.length:=by simpa[sc]using hs
  show D0 B K (.v n)=_;rw[<-lB (hK n hn) (abz K j),<-lB hx (aby K j)]
 |.b k,j+1,_,_=>rfl
 |.b k,0,_,hx=>by simp[ex]at hx
 |.p k x y,j+1,hs,hx=>by
  rw[sc,abw]at hs;rw[ex,abw]at hx;simp only[lI,Cj,D0];rw[show lI Cj (AW B K) x=_ from D1 hB hK hs.1 hx.1,show lI Cj (AW B K) y=_ from D1 hB hK hs.2 hx.2]
 |.p k x y,0,_,hx=>by simp[ex]at hx
theorem AB {B:List IT} {K:Nat} (hB:ry B) (hK:Fuel B K):yT (AW B K) B:=by
 intro n t hb;have hn:n<B.length:=(List.getElem?_eq_some_iff.1 (sO hb).1).1;have hx:=hK n hn;cases K with
 |zero=>simp[ex]at hx
 |succ K=>
  simp only[ex,hb]at hx;rw[show lI Cj (AW B (K+1)) t=_ from D1 hB hK (Ci hB hb) hx];show D0 B (K+1) (.v n)=_;simp only[D0,hb]
theorem Cm {B:List IT} {K n:Nat} (hf:bd B n=none):AW B K n=bP:=by
 show D0 B K (.v n)=_;cases K with
 |zero=>rfl
 |succ K=>simp only[D0,hf]
theorem jE {B:List IT} {K:Nat} (hK:Fuel B K):∀{t:IT},sc B.length t=true->∃j,ex B j t=true
 |.v n,hs=>⟨K,hK n (by simpa[sc]using hs)⟩
 |.b _,_=>⟨1,rfl⟩
 |.p c x y,ht=>by
  rw[sc,abw]at ht;obtain⟨k1,h1⟩:=jE hK ht.1;obtain⟨k2,h2⟩:=jE hK ht.2;exact⟨max k1 k2+1,by rw[ex,abw];exact⟨oM (abz _ _) h1,oM (aby _ _) h2⟩⟩
theorem EU {B:List IT} {K:Nat} (hK:Fuel B K):∀{t:IT},sc B.length t=true->Ir B (hd B K t)
 |.v n,hs=>fL (hK n (by simpa[sc]using hs))
 |.b _,_=>by intro n e;cases K<;>simp[hd]at e
 |.p _ _ _,_=>by intro n e;cases K<;>simp[hd]at e
theorem uz {B:List IT} {K:Nat} (hB:ry B) (lC:ku B) (hK:Fuel B K):∀{d:Nat} {t:IT} {T:aE},sc B.length t=true->gj t->kf B K d t=some T->T=sR (AW B K) t/\ak d T=true/\vV T=0
 |0,t,T,_,_,h=>by simp[kf]at h
 |d+1,t,T,hs,hk,h=>by
  have h1:sR (AW B K) (hd B K t)=sR (AW B K) t:=ET (AB hB hK);have h2:=EU hK hs;have h3:=lA hB (k:=K) hs;have h4:=mY lC (k:=K) hk;simp only[kf]at h;generalize hd B K t=u at*;cases u with
  |v n=>
   simp at h;subst h;exact⟨by rw[<-h1];exact(Cm (h2 n rfl)).symm,(mu.int d).shape,rfl⟩
  |b k=>
   simp at h;subst h;refine⟨by rw[<-h1];rfl,?_⟩;rcases h4 with rfl|rfl
   ·exact⟨(mu.int d).shape,rfl⟩
   ·exact⟨(mu.bool d).shape,rfl⟩
  |p k x y=>
   rw[sc,abw]at h3;simp only at h;split at h
   ·simp at h
   ·rename_i X hX;split at h
    ·simp at h
    ·rename_i Y hY;simp at h;subst h;obtain⟨a1,a2,a3⟩:=uz hB lC hK h3.1 h4.2.1 hX;obtain⟨b1,b2,b3⟩:=uz hB lC hK h3.2 h4.2.2 hY;refine⟨by rw[<-h1];simp only[lI,Cj];rw[show lI Cj (AW B K) x=X from a1.symm,show lI Cj (AW B K) y=Y from b1.symm],?_⟩;rcases h4.1 with rfl|rfl
     ·exact⟨(mu.fn (mu.of a2) (mu.of b2)).shape,by rw[EM (by omega)];omega⟩
     ·exact⟨(mu.pair (mu.of a2) (mu.of b2)).shape,by rw[EM (by omega)];omega⟩
theorem uA {B:List IT} {K:Nat} (hB:ry B) (lC:ku B) (hK:Fuel B K):∀{l:List IT} {Ts:List aE},(∀t∈l,sc B.length t=true)->ku l->oW B K l=some Ts->Ts=l.map (sR (AW B K))/\∀T∈Ts,ak 4 T=true/\vV T=0
 |[],Ts,_,_,h=>by simp[oW]at h;subst h;simp
 |t::r,Ts,hs,hk,h=>by
  simp only[oW]at h;split at h
  ·simp at h
  ·rename_i T hT;split at h
   ·simp at h
   ·rename_i R hR;simp at h;subst h;obtain⟨a1,a2⟩:=uz hB lC hK (hs t (by simp)) (hk t (by simp)) hT;obtain⟨b1,b2⟩:=uA hB lC hK (fun u hu=>hs u (by simp[hu])) (fun u hu=>hk u (by simp[hu])) hR;refine⟨by rw[abH,<-a1,<-b1],fun U hU=>?_⟩;rcases abJ.1 hU with rfl|q
    ·exact a2
    ·exact b2 U q
structure Whole (e:ao) (k:Nat) (B ls:List IT) (t:IT):Prop where
 ba:Ba e
 inf:Av.inf k e [] [] [] []=some (some (B,ls,t))
theorem wj:vW []:=⟨fun t h=>(by cases h),fun n h=>(by simp at h)⟩
theorem sS:yS [] [] []:=⟨rfl,fun u h=>(by cases h)⟩
theorem Whole.ok {e:ao} {k:Nat} {B ls:List IT} {t:IT} (h:Whole e k B ls t):Tl e [] [] B ls t/\ku B/\ku ls/\gj t/\ls.length=(aH e).length/\(∀u∈ls,sc B.length u=true)/\B.length<=2*aT e:=by
 have h1:=eX h.ba wj sS h.inf;obtain⟨h2,h3,h4⟩:=Iz h.ba (B:=[]) (ls:=[]) (ts:=[]) (fun t h=>(by cases h)) (fun t h=>(by cases h)) (fun t h=>(by cases h)) h.inf;obtain⟨new,h5,h6,h7⟩:=h1.DZ;rw[abS]at h5;subst h5;exact⟨h1,h2,h3,h4,h6,h7,by have:=h1.len;simpa using this⟩
theorem Whole.typed {e:ao} {k:Nat} {B ls:List IT} {t:IT} (h:Whole e k B ls t) {K:Nat} (hK:Fuel B K) {Ts:List aE} (hs:oW B K ls=some Ts) {T:aE} (hT:cO [] (bF e Ts)=some T):T=sR (AW B K) t:=by
 obtain⟨h1,h2,h3,h4,h5,h6,_⟩:=h.ok;obtain⟨a1,a2⟩:=uA h1.ok.sc h2 hK h6 h3 hs;rw[a1]at hT;exact Gk (new:=ls) h.ba wj sS (by rw[abS];exact h.inf) (AB h1.ok.sc hK) T hT
def iU (B:List IT):Nat->IT->Nat
 |k+1,.v n=>match bd B n with
  |none=>1
  |some t=>iU B k t
 |k+1,.p _ x y=>1+iU B k x+iU B k y
 |_,_=>1
theorem sU {B:List IT}:∀{k:Nat} {t:IT},1<=iU B k t
 |0,t=>by cases t<;>simp[iU]
 |k+1,.v n=>by
  simp only[iU];split
  ·omega
  ·exact sU
 |k+1,.b _=>by simp[iU]
 |k+1,.p _ x y=>by simp only[iU];omega
theorem ep {B:List IT}:∀{k j:Nat} {t:IT},ex B k t=true->k<=j->iU B j t=iU B k t
 |0,j,t,h,_=>by simp[ex]at h
 |k+1,j+1,.v m,h,hj=>by
  simp only[ex]at h;simp only[iU];split<;>rename_i hb
  ·rfl
  ·rw[hb]at h;exact ep h (by omega)
 |k+1,j+1,.b _,_,_=>rfl
 |k+1,j+1,.p _ x y,h,hj=>by
  rw[ex,abw]at h;simp only[iU,ep h.1 (show k<=j by omega),ep h.2 (show k<=j by omega)]
theorem AD {B:List IT}:∀{k:Nat} {t:IT},ex B k t=true->iU B k (hd B k t)=iU B k t
 |0,t,h=>by simp[ex]at h
 |k+1,.v m,h=>by
  simp only[ex]at h;simp only[hd];cases hb:bd B m with
  |none=>simp
  |some t=>
   rw[hb]at h;simp only at h⊢;rw[ep (jl h) (abA k),AD h];simp only[iU,hb]
 |k+1,.b _,h=>rfl
 |k+1,.p _ x y,h=>rfl
def kg (n:Nat):List Nat->Nat
 |[]=>0
 |x::r=>if x=n then 0 else kg n r+1
theorem EW (n:Nat):∀l:List Nat,kg n l<=l.length
 |[]=>abx _
 |x::r=>by
  have:=EW n r;simp only[kg];split
  ·omega
  ·simp;omega
theorem Cn {n:Nat}:∀{l:List Nat},n∈l->kg n l<l.length/\l[kg n l]? =some n/\∀j,j<kg n l->l[j]? ≠some n
 |x::r,h=>by
  simp only[kg];by_cases e:x=n
  ·rw[if_pos e];subst e;exact⟨by simp,rfl,fun j hj=>by omega⟩
  ·rw[if_neg e];have hr:n∈r:=by
    rcases abJ.1 h with q|q
    ·exact absurd q.symm e
    ·exact q
   obtain⟨h1,h2,h3⟩:=Cn hr;refine⟨by simp;omega,by simpa using h2,fun j hj=>?_⟩;cases j with
   |zero=>simpa using e
   |succ j=>simpa using h3 j (by omega)
theorem EY {n:Nat}:∀{l:List Nat},n∉l->kg n l=l.length
 |[],_=>rfl
 |x::r,h=>by
  simp only[abJ,not_or]at h;simp only[kg];rw[if_neg (fun e=>h.1 e.symm),EY h.2];rfl
def xV (i:Nat):UInt8:=UInt8.ofNat (97+i)
def lP (B:List IT):Nat->IT->List Nat->List UInt8×List Nat
 |k+1,.v n,seen=>match bd B n with
  |none=>([xV (kg n seen)],if n∈seen then seen else seen++[n])
  |some t=>lP B k t seen
 |k+1,.p c x y,seen=>(40::((lP B k x seen).1++fq c::((lP B k y (lP B k x seen).2).1++[41])),(lP B k y (lP B k x seen).2).2)
 |_,.b c,seen=>([fq c],seen)
 |0,_,seen=>([],seen)
theorem eY {B:List IT}:∀{k j:Nat} {t:IT} {seen:List Nat},ex B k t=true->k<=j->lP B j t seen=lP B k t seen
 |0,j,t,_,h,_=>by simp[ex]at h
 |k+1,j+1,.v m,seen,h,hj=>by
  simp only[ex]at h;simp only[lP];split<;>rename_i hb
  ·rfl
  ·rw[hb]at h;exact eY h (by omega)
 |k+1,j+1,.b _,_,_,_=>rfl
 |k+1,j+1,.p _ x y,seen,h,hj=>by
  rw[ex,abw]at h;simp only[lP,eY h.1 (show k<=j by omega),eY h.2 (show k<=j by omega)]
theorem D2 {B:List IT} {seen:List Nat}:∀{k:Nat} {t:IT},ex B k t=true->lP B k (hd B k t) seen=lP B k t seen
 |0,t,h=>by simp[ex]at h
 |k+1,.v m,h=>by
  simp only[ex]at h;simp only[hd];cases hb:bd B m with
  |none=>simp
  |some t=>
   rw[hb]at h;simp only at h⊢;rw[eY (jl h) (abA k),D2 h];simp only[lP,hb]
 |k+1,.b _,h=>rfl
 |k+1,.p _ x y,h=>rfl
theorem oe {B:List IT}:∀{k:Nat} {t:IT} {seen:List Nat},ex B k t=true->(lP B k t seen).1.length<=3*iU B k t/\2*(lP B k t seen).2.length<=2*seen.length+iU B k t+1/\seen.length<=(lP B k t seen).2.length
 |0,t,_,h=>by simp[ex]at h
 |k+1,.v m,seen,h=>by
  simp only[ex]at h;simp only[lP,iU];cases hb:bd B m with
  |none=>
   refine⟨by simp,?_,?_⟩
   ·dsimp only;split<;>(try simp)<;>omega
   ·dsimp only;split<;>simp
  |some t=>rw[hb]at h;exact oe h
 |k+1,.b _,_,_=>by simp[lP,iU];omega
 |k+1,.p _ x y,seen,h=>by
  rw[ex,abw]at h;obtain⟨h1,h2,h3⟩:=oe (seen:=seen) h.1;obtain⟨h4,h5,h6⟩:=oe (seen:=(lP B k x seen).2) h.2;simp only[lP,iU,List.length_cons,abL,List.length_nil];omega
def pT (c:UInt8):UInt8:=if 97<=c.toNat/\c.toNat<=122 then 73 else c
theorem Gl {i:Nat} (h:i<=25):pT (xV i)=73:=by
 have:(xV i).toNat=97+i:=by simp[xV];omega
 simp only[pT,this];rw[if_pos (by omega)]
theorem xW (k:Int):pT (fq k)=fq k:=by
 simp only[fq]
 (repeat' split)<;>decide
theorem wk {B:List IT} {K:Nat} (hB:ry B) (lC:ku B) (hK:Fuel B K):∀{k:Nat} {t:IT} {seen:List Nat} {d:Nat},ex B k t=true->sc B.length t=true->gj t->ak d (sR (AW B K) t)=true->2*seen.length+iU B k t<=50->
  (lP B k t seen).1.map pT=ei d (sR (AW B K) t)
 |0,t,_,_,h,_,_,_,_=>by simp[ex]at h
 |k+1,.v m,seen,d,h,hs,fu,jh,hn=>by
  simp only[ex]at h;simp only[lP,iU]at hn⊢;cases hb:bd B m with
  |none=>
   rw[hb]at hn;simp only at hn⊢;have hi:=EW m seen;rw[show sR (AW B K) (.v m)=bP from Cm hb]at jh⊢;cases d with
   |zero=>simp[ak]at jh
   |succ d=>rw[pP];simp[Gl (show kg m seen<=25 by omega)]
  |some t=>
   rw[hb]at h hn;simp only at hn⊢;have e:sR (AW B K) (.v m)=sR (AW B K) t:=AB hB hK m t hb;rw[e]at jh⊢;exact wk hB lC hK h (Ci hB hb) (Iy lC hb) jh hn
 |k+1,.b c,seen,d,_,_,fu,jh,_=>by
  cases d with
  |zero=>simp[ak]at jh
  |succ d=>
   simp only[lP,lI,Cj,abH,abI,xW];rcases fu with rfl|rfl
   ·rfl
   ·rfl
 |k+1,.p c x y,seen,d,h,hs,fu,jh,hn=>by
  rw[ex,abw]at h;rw[sc,abw]at hs;obtain⟨hc,U5,RE⟩:=fu;cases d with
  |zero=>simp[ak]at jh
  |succ d=>
   simp only[lI,Cj]at jh⊢;simp only[ak,abw,decide_eq_true_eq,List.all_eq_true]at jh;simp only[aE.bQ,abJ,abR,or_false]at jh;simp only[iU]at hn;obtain⟨_,l2,_⟩:=oe (seen:=seen) h.1;have h1:=wk hB lC hK (seen:=seen) h.1 hs.1 U5 (jh.2 _ (.inl rfl)) (by omega);have h2:=wk hB lC hK (seen:=(lP B k x seen).2) h.2 hs.2 RE (jh.2 _ (.inr rfl)) (by omega);simp only[lP,abH,abO,abI,h1,h2,xW];rcases hc with rfl|rfl
   ·rfl
   ·rfl
def IT.kind:IT->Int
 |.v _=>0
 |.b k=>k
 |.p k _ _=>k
def IT.name:IT->Nat
 |.v n=>n
 |_=>0
def IT.kids:IT->List IT
 |.p _ x y=>[x,y]
 |_=>[]
section
variable (n:Nat) (k:Int) (x y:IT)
@[simp] theorem IT.og:(IT.v n).kind=0:=rfl
@[simp] theorem IT.gU:(IT.b k).kind=k:=rfl
@[simp] theorem IT.gV:(IT.p k x y).kind=k:=rfl
@[simp] theorem IT.mA:(IT.v n).name=n:=rfl
@[simp] theorem IT.oh:(IT.b k).name=0:=rfl
@[simp] theorem IT.om:(IT.p k x y).name=0:=rfl
@[simp] theorem IT.oo:(IT.v n).kids=[]:=rfl
@[simp] theorem IT.ot:(IT.b k).kids=[]:=rfl
@[simp] theorem IT.jF:(IT.p k x y).kids=[x,y]:=rfl
end
def oN:IT->List DV
 |.v n=>[.i 0,.i n,.sl []]
 |.b k=>[.i k,.i 0,.sl []]
 |.p k x y=>[.i k,.i 0,.sl [oN x,oN y]]
theorem an (t:IT):oN t=[.i t.kind,.i t.name,.sl (t.kids.map oN)]:=by cases t<;>rfl
@[simp] theorem kY (t:IT):(oN t).length=3:=by cases t<;>rfl
theorem kh (n:Nat):oN (.v n)=[.i 0,.i n,.sl []]:=rfl
theorem EZ (k:Int):oN (.b k)=[.i k,.i 0,.sl []]:=rfl
theorem E0 (k:Int) (x y:IT):oN (.p k x y)=[.i k,.i 0,.sl [oN x,oN y]]:=rfl
theorem mZ (t:IT):List.drop 3 (oN t)=[]:=by cases t<;>rfl
abbrev gZ (t:IT):AV:=.agg [.d (.i t.kind),.d (.i t.name),.d (.sl (t.kids.map oN))]
abbrev fR (B ls:List IT):AV:=.agg [.d (.sl (B.map oN)),.d (.sl (ls.map oN))]
theorem E1 {B:List IT} {k n:Nat} {t:IT} (hb:bd B n=some t):hd B (k+1) (.v n)=hd B k t:=by simp[hd,hb]
theorem E2 {B:List IT} {k n:Nat} (hb:bd B n=none):hd B k (.v n)=.v n:=by cases k<;>simp[hd,hb]
theorem kI {t:IT} (h:gj t) (hv:∀n,t≠.v n):t.kind≠0:=by
 cases t with
 |v n=>exact absurd rfl (hv n)
 |b k=>simp only[gj]at h;simp only[IT.gU];omega
 |p k x y=>simp only[gj]at h;simp only[IT.gV];omega
theorem na {t:IT} (h:gj t):∀u∈t.kids,gj u:=by
 intro u hu;cases t with
 |v n=>cases hu
 |b k=>cases hu
 |p k x y=>simp only[gj]at h;simp only[IT.jF,abJ,abR,or_false]at hu;rcases hu with rfl|rfl<;>simp[h]
theorem qt {N:Nat} {t:IT} (h:sc N t=true):∀u∈t.kids,sc N u=true:=by
 intro u hu;cases t with
 |v n=>cases hu
 |b k=>cases hu
 |p k x y=>simp only[sc,abw]at h;simp only[IT.jF,abJ,abR,or_false]at hu;rcases hu with rfl|rfl<;>simp[h]
theorem IB {B:List IT} {n k:Nat} {t:IT} (hx:ex B k t=true) (hv:∀n,t≠.v n):jk B n k t=t.kids.any fun u=>jk B n k u:=by
 cases k with
 |zero=>simp[ex]at hx
 |succ k=>
  cases t with
  |v m=>exact absurd rfl (hv m)
  |b c=>simp[jk]
  |p c x y=>
   simp only[ex,abw]at hx;simp only[jk,IT.jF,List.any_cons,List.any_nil,Bool.or_false];rw[eo hx.1 (abA k),eo hx.2 (abA k)]
def zK (k:Nat) (B:List IT) (n:Nat) (t:IT):List IT×Bool:=if t=.v n then(B,true)else if jk B n k t=true then(B,false)else(B.set n t,true)
theorem Whole.uniq {e:ao} {k k':Nat} {B B' ls ls':List IT} {t t':IT} (h:Whole e k B ls t) (h':Whole e k' B' ls' t'):B=B'/\ls=ls'/\t=t':=by
 have h1:=inf_le (abB k k') h.ba h.inf;have h2:=inf_le (abC k' k) h.ba h'.inf;rw[h1]at h2;simp only[Option.some.injEq,Prod.mk.injEq]at h2;exact h2
theorem Whole.not {e:ao} {k k':Nat} {B ls:List IT} {t:IT} (h:Whole e k B ls t) (h':Av.inf k' e [] [] [] []=some none):False:=by
 have h1:=inf_le (abB k k') h.ba h.inf;have h2:=inf_le (abC k' k) h.ba h';rw[h1]at h2;cases h2
theorem sV {e:ao} (he:Ba e):(∃k B ls t,Whole e k B ls t)\/∃k,inf k e [] [] [] []=some none:=by
 obtain⟨k,r,hr⟩:=Gj he (B:=[]) (ls:=[]) (ns:=[]) (ts:=[]) wj sS;cases r with
 |none=>exact .inr ⟨k,hr⟩
 |some r=>obtain⟨B,ls,t⟩:=r;exact .inl ⟨k,B,ls,t,he,hr⟩
theorem Whole.fuel {e:ao} {k:Nat} {B ls:List IT} {t:IT} (h:Whole e k B ls t):∃K,Fuel B K:=by
 obtain⟨h1,_⟩:=h.ok;exact IA h1.ok.vu
open Classical in
noncomputable def Co (e:ao):Option (List UInt8):=if h:∃x:Nat×List IT×List IT×IT×Nat,Whole e x.1 x.2.1 x.2.2.1 x.2.2.2.1/\ex x.2.1 x.2.2.2.2 x.2.2.2.1=true/\iU x.2.1 x.2.2.2.2 x.2.2.2.1<=30
 then some (lP h.choose.2.1 h.choose.2.2.2.2 h.choose.2.2.2.1 []).1 else none
theorem uB {e:ao} {k j:Nat} {B ls:List IT} {t:IT} (h:Whole e k B ls t) (hx:ex B j t=true) (hz:iU B j t<=30):Co e=some (lP B j t []).1:=by
 have hex:∃x:Nat×List IT×List IT×IT×Nat,Whole e x.1 x.2.1 x.2.2.1 x.2.2.2.1/\ex x.2.1 x.2.2.2.2 x.2.2.2.1=true/\iU x.2.1 x.2.2.2.2 x.2.2.2.1<=30:=⟨(k,B,ls,t,j),h,hx,hz⟩;rw[Co,dif_pos hex];obtain⟨h1,h2,h3⟩:=hex.choose_spec;obtain⟨e1,_,e3⟩:=h.uniq h1;rw[<-e1,<-e3]at h2⊢;rw[<-eY (seen:=[]) h2 (abB _ j),<-eY (seen:=[]) hx (abC j _)]
theorem rF {e:ao} {k j:Nat} {B ls:List IT} {t:IT} (h:Whole e k B ls t) (hx:ex B j t=true) (hz:¬iU B j t<=30):Co e=none:=by
 rw[Co,dif_neg];rintro⟨x,h1,h2,h3⟩;obtain⟨e1,_,e3⟩:=h.uniq h1;rw[<-e1,<-e3]at h2 h3;rw[<-ep h2 (abB _ j),ep hx (abC j _)]at h3;exact hz h3
theorem zL {e:ao} {k:Nat} (h:inf k e [] [] [] []=some none):Co e=none:=by
 rw[Co,dif_neg];rintro⟨x,h1,_⟩;exact h1.not h
noncomputable def AE (e:ao):Option (List UInt8):=if a6 e=true then Co (mapM aS e)else none
end Go.Av
