/- A part. -/
import Derived.Test.YtloolmchekcmeaaGreatXB22
set_option linter.unusedVariables false
set_option linter.unusedSimpArgs false
open Bool renaming and_eq_true->abG
open Nat renaming le_max_right->abH,le_max_left->abI,le_refl->abJ,le_succ->abK,lt_of_lt_of_le->abL,le_trans->abM,add_right_comm->abN,strongRecOn->abO,le_add_right->abP,le_add_left->abQ
open List renaming mem_append->abR,map_cons->abS,map_nil->abT,append_cancel_left_eq->abU,mem_cons->abV,length->abW,mem_of_getElem?->abX,length_append->abY,getElem?_eq_getElem->abZ,not_mem_nil->ab0,drop_left'->ab1,append_assoc->ab2,take_append_drop->ab3,map_append->ab4,length_take->ab5,length_set->ab6,length_map->ab7,length_drop->ab8,drop_append_of_le_length->ab9,take_of_length_le->aca,take_add_one->acb,nil_append->acd,mem_or_eq_of_mem_set->ace,length_eq_one_iff->acf,getElem?_eq_none->acg,drop_drop->ach,countP_cons->aci,countP_append->acj,all_eq_true->ack
open Option renaming map_eq_some_iff->acm,bind_some->acn,bind_eq_some_iff->aco
namespace Go.Av
attribute [-simp] Go.Av.cj Go.Av.e0 Go.Av.fH Go.Av.fy Go.Av.cW Go.Av.cg
open Go
def ey (s:List UInt8) (c:UInt8):Nat->Int
 |0=>-1
 |p+1=>if s[p]? =some c then(p:Int)else ey s c p
def dD (s:List UInt8) (c:UInt8):Int:=ey s c s.length
theorem ot (s:List UInt8) (c:UInt8):∀p,-1<=ey s c p/\ey s c p<p
 |0=>by simp[ey]
 |p+1=>by
  have:=ot s c p;simp only[ey];split<;>push_cast<;>omega
def Mp (k:Int):Int:=if k=6 then 6 else if k=7 then 7 else if k=8 then 8 else if k=10 then 11 else if k=11 then 12 else 13
def Mq (k:Int) (x n:Int) (cs:List (List Eb)):List Eb:=
 if k=1 then [⟨3,x⟩]else if k=2 then [⟨1,n⟩]else if k=3 then [⟨2,1⟩]else if k=4 then [⟨2,0⟩]
 else if k=5 then(match cs with|[b]=>[⟨4,b.length+1⟩]++b++[⟨5,0⟩]|_=>[])
 else if k=9 then(match cs with|[c,y,z]=>c++[⟨9,y.length+1⟩]++y++[⟨10,z.length⟩]++z|_=>[])
 else cs.flatten++[⟨Mp k,0⟩]
mutual
def Iz (names:List UInt8):al->List Eb
 |.mk k s n _ _ _ l=>Mq k (names.length-1-dD names (s.headD 0)) n (K9 (if k=5 then names++s else names) l)
def K9 (names:List UInt8):List al->List (List Eb)
 |[]=>[]
 |e::r=>Iz names e::K9 names r
end
inductive C9:List UInt8->al->Prop
 |var {ns:List UInt8} {c:UInt8}:c∈ns->C9 ns (pG [c])
 |num {ns:List UInt8} (n:Int):C9 ns (rm n)
 |tQ {ns:List UInt8}:C9 ns lH
 |tR {ns:List UInt8}:C9 ns iO
 |lam {ns:List UInt8} {c:UInt8} {t:aG} {b:al}:C9 (ns++[c]) b->C9 ns (nY [c] t b)
 |n2 {ns:List UInt8} {k:Int} {a b:al}:k=6\/k=7\/k=8\/k=10->C9 ns a->C9 ns b->C9 ns (yg k a b)
 |ite {ns:List UInt8} {a b c:al}:C9 ns a->C9 ns b->C9 ns c->C9 ns (BM a b c)
 |n1 {ns:List UInt8} {k:Int} {a:al}:k=11\/k=12->C9 ns a->C9 ns (Bf k a)
structure RS (ns:List UInt8) (e:al):Prop where
 var:e.kind=1->∃c,e.name=[c]/\c∈ns/\e.kids=[]
 lam:e.kind=5->∃c b,e.name=[c]/\e.kids=[b]
 ite:e.kind=9->∃a b c,e.kids=[a,b,c]
 kind:1<=e.kind/\e.kind<=12
 leaf:e.kind<=4->e.kids=[]
 len:e.kids.length<=3
 Vh:e.name.length<=1
 kids:∀u∈e.kids,C9 (if e.kind=5 then ns++e.name else ns) u
def O7 (e:al):Option (List Eb):=if aS e=true/\Ia e=[]then(if zK (Iz [] (mapM aK e))=true then some (Iz [] (mapM aK e))else none)else none
def Vi (o:Option (List Eb)):List Eb:=o.getD []
mutual
theorem Ee (z:UInt8):∀(e:al) (bd:List UInt8),xz z bd (mapM D3 e)=xz z bd e
 |.mk k s n t f b l,bd=>by
  rw[mapM,D3];split<;>(simp only[xz,al.b4,al.mf,al.bP,vo z l];try rfl)
theorem vo (z:UInt8):∀(l:List al) (bd:List UInt8),qi z bd (eb D3 l)=qi z bd l
 |[],bd=>rfl
 |e::r,bd=>by rw[eb,qi,qi,Ee z e,vo z r]
end
mutual
def E9 (bd:List UInt8):al->List UInt8->List UInt8
 |.mk k s _ _ _ _ l,out=>xG (if k=5 then lY (s.headD 0) bd else bd) l (if k=1/\¬s.headD 0∈bd then lY (s.headD 0) out else out)
def xG (bd:List UInt8):List al->List UInt8->List UInt8
 |[],out=>out
 |e::r,out=>xG bd r (E9 bd e out)
end
mutual
theorem Gn:∀(e:al) (bd out:List UInt8),(E9 bd e out).length<=out.length+aN e
 |.mk k s n t f b l,bd,out=>by
  rw[E9,aN];have h1:=xH l (if k=5 then lY (s.headD 0) bd else bd) (if k=1/\¬s.headD 0∈bd then lY (s.headD 0) out else out);have h2:(if k=1/\¬s.headD 0∈bd then lY (s.headD 0) out else out).length<=out.length+1:=by
   split
   ·exact wQ _ _
   ·omega
  omega
theorem xH:∀(l:List al) (bd out:List UInt8),(xG bd l out).length<=out.length+bm l
 |[],bd,out=>by simp[xG]
 |e::r,bd,out=>by
  rw[xG,bm];have h1:=Gn e bd out;have h2:=xH r bd (E9 bd e out);omega
end
inductive IT where
 |v (n:Nat)
 |b (k:Int)
 |p (k:Int) (x y:IT)
deriving DecidableEq
def bd (B:List IT) (n:Nat):Option IT:=match B[n]? with
 |some t=>if t=.v n then none else some t
 |none=>none
def ex (B:List IT):Nat->IT->Bool
 |0,_=>false
 |k+1,.v n=>match bd B n with
  |none=>true
  |some t=>ex B k t
 |_+1,.b _=>true
 |k+1,.p _ x y=>ex B k x && ex B k y
def hd (B:List IT):Nat->IT->IT
 |k+1,.v n=>match bd B n with
  |none=>.v n
  |some t=>hd B k t
 |_,t=>t
def jC (B:List IT) (n:Nat):Nat->IT->Bool
 |k+1,.v m=>match bd B m with
  |none=>decide (m=n)
  |some t=>jC B n k t
 |k+1,.p _ x y=>jC B n k x||jC B n k y
 |_,_=>false
def iT:Nat->List IT->IT->IT->Option (List IT×Bool)
 |0,_,_,_=>none
 |k+1,B,a,b=>if ex B k a && ex B k b then
   match hd B k a,hd B k b with
   |.v n,b'=>if b'=.v n then some (B,true)else if jC B n k b' then some (B,false)else some (B.set n b',true)
   |a',.v n=>if jC B n k a' then some (B,false)else some (B.set n a',true)
   |.b i,.b j=>some (B,decide (i=j))
   |.p i x y,.p j x' y'=>if i=j then(match iT k B x x' with
     |some (B1,true)=>iT k B1 y y'
     |r=>r)else some (B,false)
   |_,_=>some (B,false)
  else none
section
variable {B:List IT}
theorem ou:∀{k:Nat} {t:IT},ex B k t=true->ex B (k+1) t=true
 |0,t,h=>by simp[ex]at h
 |k+1,.v n,h=>by
  simp only[ex]at h⊢;split<;>rename_i hb
  ·rfl
  ·rw[hb]at h;exact ou h
 |k+1,.b _,_=>by simp[ex]
 |k+1,.p _ x y,h=>by
  rw[ex,abG]at h;rw[ex,abG];exact⟨ou h.1,ou h.2⟩
theorem oK {k j:Nat} {t:IT} (hk:k<=j) (h:ex B k t=true):ex B j t=true:=by
 induction hk with
 |refl=>exact h
 |step _ ih=>exact ou ih
def IA (B:List IT) (t:IT):Prop:=∀n,t=.v n->bd B n=none
theorem iJ:∀{k:Nat} {t:IT},ex B k t=true->IA B (hd B k t)
 |0,t,h=>by simp[ex]at h
 |k+1,.v n,h=>by
  simp only[ex]at h;simp only[hd];split<;>rename_i hb
  ·intro m e;cases e;exact hb
  ·rw[hb]at h;exact iJ h
 |k+1,.b _,_=>by intro n e;simp[hd]at e
 |k+1,.p _ x y,_=>by intro n e;simp[hd]at e
theorem xI {t:IT} (h:IA B t):∀k,hd B k t=t
 |0=>by cases t<;>rfl
 |k+1=>by
  cases t with
  |v n=>simp only[hd,h n rfl]
  |b _=>rfl
  |p _ _ _=>rfl
theorem ng:∀{k:Nat} {t:IT},ex B k t=true->ex B k (hd B k t)=true
 |0,t,h=>by simp[ex]at h
 |k+1,.v n,h=>by
  have h':=h;simp only[ex]at h;simp only[hd];split<;>rename_i hb
  ·exact h'
  ·rw[hb]at h;exact ou (ng h)
 |k+1,.b _,h=>h
 |k+1,.p _ x y,h=>h
theorem gZ:∀{k j:Nat} {t:IT},ex B k t=true->k<=j->hd B j t=hd B k t
 |0,j,t,h,_=>by simp[ex]at h
 |k+1,j+1,.v n,h,hj=>by
  simp only[ex]at h;simp only[hd];split<;>rename_i hb
  ·rfl
  ·rw[hb]at h;exact gZ h (by omega)
 |k+1,j+1,.b _,_,_=>rfl
 |k+1,j+1,.p _ _ _,_,_=>rfl
theorem eE {n:Nat}:∀{k j:Nat} {t:IT},ex B k t=true->k<=j->jC B n j t=jC B n k t
 |0,j,t,h,_=>by simp[ex]at h
 |k+1,j+1,.v m,h,hj=>by
  simp only[ex]at h;simp only[jC];split<;>rename_i hb
  ·rfl
  ·rw[hb]at h;exact eE h (by omega)
 |k+1,j+1,.b _,_,_=>rfl
 |k+1,j+1,.p _ x y,h,hj=>by
  rw[ex,abG]at h;simp only[jC,eE h.1 (show k<=j by omega),eE h.2 (show k<=j by omega)]
theorem Ef {n:Nat}:∀{k:Nat} {t:IT},ex B k t=true->jC B n k (hd B k t)=jC B n k t
 |0,t,h=>by simp[ex]at h
 |k+1,.v m,h=>by
  have h':=h;simp only[ex]at h;simp only[hd];cases hb:bd B m with
  |none=>simp
  |some t=>
   rw[hb]at h;simp only at h⊢;rw[eE (ng h) (abK k),Ef h];simp only[jC,hb]
 |k+1,.b _,h=>rfl
 |k+1,.p _ x y,h=>rfl
theorem wc:∀{k:Nat} {t:IT} {c:Int} {x y:IT},ex B k t=true->hd B k t=.p c x y->∃j,j<k/\ex B j x=true/\ex B j y=true
 |0,t,_,_,_,h,_=>by simp[ex]at h
 |k+1,.v n,c,x,y,h,e=>by
  simp only[ex]at h;simp only[hd]at e;cases hb:bd B n with
  |none=>rw[hb]at e;cases e
  |some t=>
   rw[hb]at h e;obtain⟨j,h1,h2⟩:=wc h e;exact⟨j,by omega,h2⟩
 |k+1,.b _,_,_,_,h,e=>by simp[hd]at e
 |k+1,.p _ x y,_,_,_,h,e=>by
  simp only[hd]at e;cases e
  rw[ex,abG]at h;exact⟨k,by omega,h⟩
end
theorem CF:∀{k:Nat} {B:List IT} {a b:IT} {r:List IT×Bool},iT k B a b=some r->iT (k+1) B a b=some r
 |0,B,a,b,r,h=>by simp[iT]at h
 |k+1,B,a,b,r,h=>by
  have ih:=fun{B a b r}=>CF (k:=k) (B:=B) (a:=a) (b:=b) (r:=r)
  rw[iT]at h⊢;split at h
  ·rename_i hx;rw[abG]at hx;have ha:=gZ hx.1 (abK k);have hb:=gZ hx.2 (abK k);have oa:=fun n=>(eE (n:=n) (ng hx.1) (abK k))
   have ob:=fun n=>(eE (n:=n) (ng hx.2) (abK k))
   rw[if_pos (by rw[abG];exact⟨ou hx.1,ou hx.2⟩),ha,hb];generalize hd B k a=a' at*;generalize hd B k b=b' at*
   match a',b',h with
   |.v n,b',h=>simp only[ob]at h⊢;exact h
   |.b _,.v n,h=>simp only[oa]at h⊢;exact h
   |.p _ _ _,.v n,h=>simp only[oa]at h⊢;exact h
   |.b _,.b _,h=>exact h
   |.b _,.p _ _ _,h=>exact h
   |.p _ _ _,.b _,h=>exact h
   |.p i x y,.p j x' y',h=>
    simp only at h⊢;split at h
    ·rename_i kI;rw[if_pos kI];cases hu:iT k B x x' with
     |none=>rw[hu]at h;simp at h
     |some q=>
      obtain⟨B1,q⟩:=q;rw[ih hu];rw[hu]at h;cases q
      ·exact h
      ·exact ih h
    ·rename_i kI;rw[if_neg kI];exact h
  ·simp at h
theorem pS {k j:Nat} {B:List IT} {a b:IT} {r:List IT×Bool} (hk:k<=j) (h:iT k B a b=some r):iT j B a b=some r:=by
 induction hk with
 |refl=>exact h
 |step _ ih=>exact CF ih
def sc (N:Nat):IT->Bool
 |.v n=>decide (n<N)
 |.b _=>true
 |.p _ x y=>sc N x && sc N y
def qU (B:List IT):Prop:=∀t∈B,sc B.length t=true
theorem dm {N M:Nat} (h:N<=M):∀{t:IT},sc N t=true->sc M t=true
 |.v n,ht=>by simp[sc]at ht⊢;omega
 |.b _,_=>rfl
 |.p _ x y,ht=>by
  rw[sc,abG]at ht⊢;exact⟨dm h ht.1,dm h ht.2⟩
theorem ql {B:List IT} {n:Nat} {t:IT} (h:bd B n=some t):B[n]? =some t/\t≠.v n:=by
 simp only[bd]at h;split at h
 ·rename_i u hu;split at h
  ·simp at h
  ·rename_i hn;simp at h;subst h;exact⟨hu,hn⟩
 ·simp at h
theorem Kg {B:List IT} {n:Nat} (hn:n<B.length) (h:bd B n=none):B[n]? =some (.v n):=by
 simp only[bd,abZ hn]at h⊢;split at h
 ·rename_i e;rw[e]
 ·simp at h
theorem CG {B:List IT} {n:Nat} {t:IT} (hB:qU B) (h:bd B n=some t):sc B.length t=true:=hB t (abX (ql h).1)
theorem lM {B:List IT} (hB:qU B):∀{k:Nat} {t:IT},sc B.length t=true->sc B.length (hd B k t)=true
 |0,t,h=>by cases t<;>exact h
 |k+1,.v n,h=>by
  simp only[hd];split<;>rename_i hb
  ·exact h
  ·exact lM hB (CG hB hb)
 |k+1,.b _,h=>h
 |k+1,.p _ x y,h=>h
theorem pT {B:List IT} {n m:Nat} {t:IT} (hn:n<B.length) (ht:t≠.v n):bd (B.set n t) m=if m=n then some t else bd B m:=by
 simp only[bd];by_cases h:m=n
 ·subst h;simp[hn,ht]
 ·rw[List.getElem?_set_ne (by omega),if_neg h]
theorem qU.set {B:List IT} (h:qU B) {n:Nat} {t:IT} (ht:sc B.length t=true):qU (B.set n t):=by
 intro u hu;rw[ab6];rcases ace hu with h1|rfl
 ·exact h u h1
 ·exact ht
theorem ui:∀{k:Nat} {B B':List IT} {a b:IT} {q:Bool},qU B->sc B.length a=true->sc B.length b=true->iT k B a b=some (B',q)->qU B'/\B'.length=B.length
 |0,B,B',a,b,q,_,_,_,h=>by simp[iT]at h
 |k+1,B,B',a,b,q,hB,ha,hb,h=>by
  rw[iT]at h;split at h
  ·have uj:=lM hB (k:=k) ha;have dN:=lM hB (k:=k) hb;generalize hd B k a=a' at*;generalize hd B k b=b' at*
   match a',b',h with
   |.v n,b',h=>
    simp only at h;split at h
    ·simp at h;obtain⟨rfl,_⟩:=h;exact⟨hB,rfl⟩
    ·split at h
     ·simp at h;obtain⟨rfl,_⟩:=h;exact⟨hB,rfl⟩
     ·simp at h;obtain⟨rfl,_⟩:=h;exact⟨hB.set dN,by simp⟩
   |.b _,.v n,h=>
    simp only at h;split at h
    ·simp at h;obtain⟨rfl,_⟩:=h;exact⟨hB,rfl⟩
    ·simp at h;obtain⟨rfl,_⟩:=h;exact⟨hB.set uj,by simp⟩
   |.p _ _ _,.v n,h=>
    simp only at h;split at h
    ·simp at h;obtain⟨rfl,_⟩:=h;exact⟨hB,rfl⟩
    ·simp at h;obtain⟨rfl,_⟩:=h;exact⟨hB.set uj,by simp⟩
   |.b _,.b _,h=>simp at h;obtain⟨rfl,_⟩:=h;exact⟨hB,rfl⟩
   |.b _,.p _ _ _,h=>simp at h;obtain⟨rfl,_⟩:=h;exact⟨hB,rfl⟩
   |.p _ _ _,.b _,h=>simp at h;obtain⟨rfl,_⟩:=h;exact⟨hB,rfl⟩
   |.p i x y,.p j x' y',h=>
    rw[sc,abG]at uj dN;simp only at h;split at h
    ·cases hu:iT k B x x' with
     |none=>rw[hu]at h;simp at h
     |some r=>
      obtain⟨B1,q1⟩:=r;rw[hu]at h;obtain⟨h1,h2⟩:=ui hB uj.1 dN.1 hu;cases q1
      ·simp at h;obtain⟨rfl,_⟩:=h;exact⟨h1,h2⟩
      ·obtain⟨h3,h4⟩:=ui h1 (by rw[h2];exact uj.2) (by rw[h2];exact dN.2) h;exact⟨h3,h4.trans h2⟩
    ·simp at h;obtain⟨rfl,_⟩:=h;exact⟨hB,rfl⟩
  ·simp at h
theorem sS:∀{k:Nat} {B B':List IT} {a:IT} {q:Bool},iT k B a a=some (B',q)->B'=B/\q=true
 |0,B,B',a,q,h=>by simp[iT]at h
 |k+1,B,B',a,q,h=>by
  rw[iT]at h;split at h
  ·generalize hd B k a=a' at h
   match a',h with
   |.v n,h=>simp at h;exact⟨h.1.symm,h.2⟩
   |.b _,h=>simp at h;exact⟨h.1.symm,h.2⟩
   |.p i x y,h=>
    simp only[if_true]at h;cases hu:iT k B x x with
    |none=>rw[hu]at h;simp at h
    |some r=>
     obtain⟨B1,q1⟩:=r;obtain⟨rfl,rfl⟩:=sS hu;rw[hu]at h;exact sS h
  ·simp at h
def nfree (B:List IT):Nat:=(List.range B.length).countP fun n=>(bd B n).isNone
def Gp (B:List IT):Prop:=∀n,n<B.length->∃k,ex B k (.v n)=true
theorem Gp.all {B:List IT} (h:Gp B):∀{t:IT},sc B.length t=true->∃k,ex B k t=true
 |.v n,ht=>h n (by simpa[sc]using ht)
 |.b _,_=>⟨1,rfl⟩
 |.p c x y,ht=>by
  rw[sc,abG]at ht;obtain⟨k1,h1⟩:=h.all ht.1;obtain⟨k2,h2⟩:=h.all ht.2;exact⟨max k1 k2+1,by rw[ex,abG];exact⟨oK (abI _ _) h1,oK (abH _ _) h2⟩⟩
theorem qm {B:List IT} {n:Nat} {t:IT} (hn:n<B.length) (ht:t≠.v n) (hf:bd B n=none):∀{k:Nat} {u:IT},ex B k u=true->jC B n k u=false->ex (B.set n t) k u=true
 |0,u,h,_=>by simp[ex]at h
 |k+1,.v m,h,ho=>by
  simp only[ex,jC]at h ho⊢;rw[pT hn ht];by_cases hm:m=n
  ·subst hm;rw[hf]at ho;simp at ho
  ·rw[if_neg hm];cases hb:bd B m with
   |none=>rfl
   |some w=>rw[hb]at h ho;exact qm hn ht hf h ho
 |k+1,.b _,_,_=>rfl
 |k+1,.p _ x y,h,ho=>by
  rw[ex,abG]at h;rw[jC,Bool.or_eq_false_iff]at ho;rw[ex,abG];exact⟨qm hn ht hf h.1 ho.1,qm hn ht hf h.2 ho.2⟩
theorem AG {B:List IT} {n j:Nat} {t:IT} (hn:n<B.length) (ht:t≠.v n) (hj:ex (B.set n t) j t=true):∀{k:Nat} {u:IT},ex B k u=true->ex (B.set n t) (k+j) u=true
 |0,u,h=>by simp[ex]at h
 |k+1,.v m,h=>by
  rw[abN];simp only[ex]at h⊢;rw[pT hn ht];by_cases hm:m=n
  ·subst hm;rw[if_pos rfl];exact oK (by omega) hj
  ·rw[if_neg hm];cases hb:bd B m with
   |none=>rfl
   |some w=>rw[hb]at h;exact AG hn ht hj h
 |k+1,.b _,_=>by rw[abN];rfl
 |k+1,.p _ x y,h=>by
  rw[ex,abG]at h;rw[abN,ex,abG];exact⟨AG hn ht hj h.1,AG hn ht hj h.2⟩
theorem Gp.set {B:List IT} (h:Gp B) {n k:Nat} {t:IT} (hn:n<B.length) (ht:t≠.v n) (hf:bd B n=none) (hx:ex B k t=true) (ho:jC B n k t=false):Gp (B.set n t):=by
 have hj:=qm hn ht hf hx ho;intro m hm;rw[ab6]at hm;obtain⟨i,hi⟩:=h m hm;exact⟨i+k,AG hn ht hj hi⟩
theorem uk {B:List IT} {n:Nat} {t:IT} (hn:n<B.length) (ht:t≠.v n) (hf:bd B n=none):nfree (B.set n t)<nfree B:=by
 simp only[nfree,ab6];have key:∀l:List Nat,(l.countP fun m=>(bd (B.set n t) m).isNone)<=l.countP fun m=>(bd B m).isNone:=fun l=>by
  apply List.countP_mono_left;intro m _ hm;rw[pT hn ht]at hm;split at hm
  ·simp at hm
  ·exact hm
 obtain⟨l1,l2,hl⟩:=List.append_of_mem (List.mem_range.2 hn);rw[hl,acj,acj,aci,aci];have h1:=key l1;have h2:=key l2;rw[pT hn ht,if_pos rfl,hf];simp;omega
theorem zN:∀(u k:Nat) (B:List IT) (a b:IT),nfree B<=u->qU B->Gp B->sc B.length a=true->sc B.length b=true->ex B k a=true->∃j B' q,iT j B a b=some (B',q)/\Gp B'/\(B'=B\/nfree B'<nfree B):=by
 intro u;induction u using abO with
 |_ u ihu=>
  intro k;induction k using abO with
  |_ k ihk=>
   intro B a b hu hB hA ha hb GW;obtain⟨kb,IB⟩:=hA.all hb;have IC:ex B (max k kb) a=true:=oK (abI _ _) GW;have ID:ex B (max k kb) b=true:=oK (abH _ _) IB;have GX:=iJ IC;have Da:=iJ ID;have P6:=ng IC;have TA:=ng ID;have BZ:=lM hB (k:=max k kb) ha;have vZ:=lM hB (k:=max k kb) hb;have FQ:=fun{c x y} (e:hd B (max k kb) a=.p c x y)=>wc GW (by rw[<-gZ GW (abI k kb)];exact e)
   have GS:(ex B (max k kb) a && ex B (max k kb) b)=true:=by rw[IC,ID];rfl
   have I4:∀{r},iT (max k kb+1) B a b=r->∀j,max k kb+1<=j->r.isSome=true->iT j B a b=r:=fun{r} e j hj hs=>by
    cases r with
    |none=>simp at hs
    |some r=>exact pS hj e
   match uj:hd B (max k kb) a,dN:hd B (max k kb) b with
   |.v n,b'=>
    rw[uj]at GX BZ;rw[dN]at TA vZ;by_cases e:b'=.v n
    ·exact⟨max k kb+1,B,true,by rw[iT,if_pos GS,uj,dN];simp[e],hA,.inl rfl⟩
    ·by_cases o:jC B n (max k kb) b'=true
     ·exact⟨max k kb+1,B,false,by rw[iT,if_pos GS,uj,dN];simp[e,o],hA,.inl rfl⟩
     ·have hn:n<B.length:=by simpa[sc]using BZ
      have o':jC B n (max k kb) b'=false:=by simpa using o
      exact⟨max k kb+1,B.set n b',true,by rw[iT,if_pos GS,uj,dN];simp[e,o'],hA.set hn e (GX n rfl) TA o',.inr (uk hn e (GX n rfl))⟩
   |.b i,.v n=>
    rw[dN]at Da vZ;rw[uj]at P6;have hn:n<B.length:=by simpa[sc]using vZ
    have o':jC B n (max k kb) (.b i)=false:=by cases max k kb<;>rfl
    exact⟨max k kb+1,B.set n (.b i),true,by rw[iT,if_pos GS,uj,dN];simp[o'],hA.set hn (by simp) (Da n rfl) P6 o',.inr (uk hn (by simp) (Da n rfl))⟩
   |.p c x y,.v n=>
    rw[dN]at Da vZ;rw[uj]at P6;have hn:n<B.length:=by simpa[sc]using vZ
    by_cases o:jC B n (max k kb) (.p c x y)=true
    ·exact⟨max k kb+1,B,false,by rw[iT,if_pos GS,uj,dN];simp[o],hA,.inl rfl⟩
    ·have o':jC B n (max k kb) (.p c x y)=false:=by simpa using o
     exact⟨max k kb+1,B.set n (.p c x y),true,by rw[iT,if_pos GS,uj,dN];simp[o'],hA.set hn (by simp) (Da n rfl) P6 o',.inr (uk hn (by simp) (Da n rfl))⟩
   |.b i,.b j=>exact⟨max k kb+1,B,_,by rw[iT,if_pos GS,uj,dN],hA,.inl rfl⟩
   |.b i,.p _ _ _=>exact⟨max k kb+1,B,false,by rw[iT,if_pos GS,uj,dN],hA,.inl rfl⟩
   |.p _ _ _,.b i=>exact⟨max k kb+1,B,false,by rw[iT,if_pos GS,uj,dN],hA,.inl rfl⟩
   |.p c x y,.p c' x' y'=>
    rw[uj]at BZ;rw[dN]at vZ;rw[sc,abG]at BZ vZ;by_cases e:c=c'
    rotate_left
    ·exact⟨max k kb+1,B,false,by rw[iT,if_pos GS,uj,dN];simp[e],hA,.inl rfl⟩
    subst e;obtain⟨m,hm,hx,hy⟩:=FQ uj;obtain⟨j1,B1,q1,h1,P7,gk⟩:=ihk m hm B x x' hu hB hA BZ.1 vZ.1 hx;obtain⟨Mr,ES⟩:=ui hB BZ.1 vZ.1 h1
    have hw:∀j,max k kb<=j->iT (j+1) B a b=(match iT j B x x' with
      |some (B1,true)=>iT j B1 y y'
      |r=>r):=fun j hj=>by
     rw[iT,if_pos (by rw[oK hj IC,oK hj ID];rfl),gZ IC hj,gZ ID hj,uj,dN];simp
    cases q1 with
    |false=>exact⟨max (max k kb) j1+1,B1,false,by rw[hw _ (abI _ _),pS (abH _ _) h1],P7,gk⟩
    |true=>
     have h2:∃j2 B2 q2,iT j2 B1 y y'=some (B2,q2)/\Gp B2/\(B2=B1\/nfree B2<nfree B1):=by
      rcases gk with rfl|ax
      ·exact ihk m hm B1 y y' hu Mr P7 BZ.2 vZ.2 hy
      ·obtain⟨ky,Vj⟩:=P7.all (t:=y) (by rw[ES];exact BZ.2);exact ihu (nfree B1) (by omega) ky B1 y y' (abJ _) Mr P7 (by rw[ES];exact BZ.2) (by rw[ES];exact vZ.2) Vj
     obtain⟨j2,B2,q2,h2,QK,jk⟩:=h2;refine⟨max (max k kb) (max j1 j2)+1,B2,q2,?_,QK,?_⟩
     ·rw[hw _ (abI _ _),pS (show j1<=_ by omega) h1];exact pS (by omega) h2
     ·rcases gk with rfl|h3<;>rcases jk with rfl|h4
      ·exact .inl rfl
      ·exact .inr h4
      ·exact .inr h3
      ·exact .inr (by omega)
section
variable {G:Type} (mk:Int->Option (G×G)->G)
def iK (θ:Nat->G):IT->G
 |.v n=>θ n
 |.b k=>mk k none
 |.p k x y=>mk k (some (iK θ x,iK θ y))
def Sat (θ:Nat->G) (B:List IT):Prop:=∀n t,bd B n=some t->θ n=iK mk θ t
variable {mk}
theorem CH {θ:Nat->G} {B:List IT} (h:Sat mk θ B):∀{k:Nat} {t:IT},iK mk θ (hd B k t)=iK mk θ t
 |0,t=>by cases t<;>rfl
 |k+1,.v n=>by
  simp only[hd];split<;>rename_i hb
  ·rfl
  ·rw[CH h,<-h n _ hb];rfl
 |k+1,.b _=>rfl
 |k+1,.p _ _ _=>rfl
theorem Kh {θ:Nat->G} {B:List IT} {n:Nat} {t:IT} (hn:n<B.length) (ht:t≠.v n) (hf:bd B n=none):Sat mk θ (B.set n t)↔Sat mk θ B/\θ n=iK mk θ t:=by
 constructor
 ·intro h;refine⟨fun m u hm=>h m u ?_,h n t (by rw[pT hn ht,if_pos rfl])⟩;rw[pT hn ht,if_neg (fun e=>by subst e;rw[hf]at hm;cases hm)];exact hm
 ·rintro⟨h1,h2⟩ m u hm;rw[pT hn ht]at hm;split at hm
  ·rename_i e;subst e;cases hm;exact h2
  ·exact h1 m u hm
structure TB (mk:Int->Option (G×G)->G):Prop where
 inj:∀k k' o o',mk k o=mk k' o'->k=k'/\o=o'
 size:∃sz:G->Nat,∀k x y,sz x<sz (mk k (some (x,y)))/\sz y<sz (mk k (some (x,y)))
theorem sU {θ:Nat->G} {B:List IT} {n:Nat} {sz:G->Nat} (e5:∀k x y,sz x<sz (mk k (some (x,y)))/\sz y<sz (mk k (some (x,y)))) (hs:Sat mk θ B):∀{k:Nat} {t:IT},jC B n k t=true->sz (θ n)<=sz (iK mk θ t)/\((∀m,t≠.v m)->sz (θ n)<sz (iK mk θ t))
 |0,t,h=>by cases t<;>simp[jC]at h
 |k+1,.v m,h=>by
  simp only[jC]at h;cases hb:bd B m with
  |none=>rw[hb]at h;simp at h;subst h;exact⟨abJ _,fun q=>absurd rfl (q m)⟩
  |some t=>
   rw[hb]at h;have:=(sU e5 hs h).1;exact⟨by rw[show iK mk θ (.v m)=iK mk θ t from hs m t hb];exact this,fun q=>absurd rfl (q m)⟩
 |k+1,.b _,h=>by simp[jC]at h
 |k+1,.p c x y,h=>by
  rw[jC,Bool.or_eq_true]at h;have hk:=e5 c (iK mk θ x) (iK mk θ y);have:sz (θ n)<sz (iK mk θ (.p c x y)):=by
   rcases h with h|h
   ·have:=(sU e5 hs h).1;simp only[iK];omega
   ·have:=(sU e5 hs h).1;simp only[iK];omega
  exact⟨by omega,fun _=>this⟩
theorem we (hG:TB mk) {θ:Nat->G}:∀{k:Nat} {B B':List IT} {a b:IT} {q:Bool},qU B->sc B.length a=true->sc B.length b=true->iT k B a b=some (B',q)->
  (q=true->(Sat mk θ B'↔Sat mk θ B/\iK mk θ a=iK mk θ b))/\(q=false->¬(Sat mk θ B/\iK mk θ a=iK mk θ b))
 |0,B,B',a,b,q,_,_,_,h=>by simp[iT]at h
 |k+1,B,B',a,b,q,hB,ha,hb,h=>by
  obtain⟨sz,e5⟩:=hG.size;rw[iT]at h;split at h
  ·rename_i hx;rw[abG]at hx;have GX:=iJ hx.1;have Da:=iJ hx.2;have BZ:=lM hB (k:=k) ha;have vZ:=lM hB (k:=k) hb;have FD:Sat mk θ B->iK mk θ (hd B k a)=iK mk θ a:=fun hs=>CH hs
   have Ki:Sat mk θ B->iK mk θ (hd B k b)=iK mk θ b:=fun hs=>CH hs
   generalize hd B k a=a' at*;generalize hd B k b=b' at*;have RT:(Sat mk θ B/\iK mk θ a=iK mk θ b)↔(Sat mk θ B/\iK mk θ a'=iK mk θ b'):=by
    constructor
    ·rintro⟨h1,h2⟩;exact⟨h1,by rw[FD h1,Ki h1];exact h2⟩
    ·rintro⟨h1,h2⟩;exact⟨h1,by rw[<-FD h1,<-Ki h1];exact h2⟩
   rw[RT];have bind:∀(n:Nat) (t:IT),sc B.length (.v n)=true->bd B n=none->t≠.v n->(Sat mk θ (B.set n t)↔Sat mk θ B/\θ n=iK mk θ t):=fun n t hn hf ht=>Kh (by simpa[sc]using hn) ht hf
   have nocc:∀(n:Nat) (t:IT),IA B t->t≠.v n->jC B n k t=true->Sat mk θ B->θ n≠iK mk θ t:=by
    intro n t ht dj ho hs e;have:=sU e5 hs ho;by_cases hv:∃m,t=.v m
    ·obtain⟨m,rfl⟩:=hv;cases k with
     |zero=>simp[jC]at ho
     |succ k=>
      simp only[jC,ht m rfl,decide_eq_true_eq]at ho;exact dj (by rw[ho])
    ·have:=this.2 (fun m e=>hv ⟨m,e⟩);rw[e]at this;omega
   match a',b',h with
   |.v n,b',h=>
    simp only at h;split at h
    ·rename_i e;simp at h;obtain⟨rfl,rfl⟩:=h;exact⟨fun _=>by simp[e],by simp⟩
    ·rename_i e;split at h
     ·rename_i o;simp at h;obtain⟨rfl,rfl⟩:=h;exact⟨by simp,fun _=>by rintro⟨h1,h2⟩;exact nocc n b' Da e o h1 h2⟩
     ·simp at h;obtain⟨rfl,rfl⟩:=h;exact⟨fun _=>bind n b' BZ (GX n rfl) e,by simp⟩
   |.b i,.v n,h=>
    simp only at h;split at h
    ·rename_i o;cases k<;>simp[jC]at o
    ·simp at h;obtain⟨rfl,rfl⟩:=h;exact⟨fun _=>by rw[bind n _ vZ (Da n rfl) (by simp)];exact⟨fun h=>⟨h.1,h.2.symm⟩,fun h=>⟨h.1,h.2.symm⟩⟩,by simp⟩
   |.p c x y,.v n,h=>
    simp only at h;split at h
    ·rename_i o;simp at h;obtain⟨rfl,rfl⟩:=h;exact⟨by simp,fun _=>by rintro⟨h1,h2⟩;exact nocc n _ GX (by simp) o h1 h2.symm⟩
    ·simp at h;obtain⟨rfl,rfl⟩:=h;exact⟨fun _=>by rw[bind n _ vZ (Da n rfl) (by simp)];exact⟨fun h=>⟨h.1,h.2.symm⟩,fun h=>⟨h.1,h.2.symm⟩⟩,by simp⟩
   |.b i,.b j,h=>
    simp at h;obtain⟨rfl,rfl⟩:=h;refine⟨fun e=>?_,fun e=>?_⟩
    ·simp at e;subst e;simp
    ·simp at e;rintro⟨_,h2⟩;exact e (hG.inj _ _ _ _ h2).1
   |.b i,.p _ _ _,h=>
    simp at h;obtain⟨rfl,rfl⟩:=h;exact⟨by simp,fun _=>by rintro⟨_,h2⟩;have:=(hG.inj _ _ _ _ h2).2;cases this⟩
   |.p _ _ _,.b i,h=>
    simp at h;obtain⟨rfl,rfl⟩:=h;exact⟨by simp,fun _=>by rintro⟨_,h2⟩;have:=(hG.inj _ _ _ _ h2).2;cases this⟩
   |.p i x y,.p j x' y',h=>
    rw[sc,abG]at BZ vZ;have Ms:(Sat mk θ B/\iK mk θ (.p i x y)=iK mk θ (.p j x' y'))↔i=j/\(Sat mk θ B/\iK mk θ x=iK mk θ x')/\iK mk θ y=iK mk θ y':=by
     constructor
     ·rintro⟨h1,h2⟩;obtain⟨h3,h4⟩:=hG.inj _ _ _ _ h2;simp at h4;exact⟨h3,⟨h1,h4.1⟩,h4.2⟩
     ·rintro⟨rfl,⟨h1,h2⟩,h3⟩;exact⟨h1,by simp only[iK,h2,h3]⟩
    rw[Ms];simp only at h;split at h
    ·rename_i kI;cases hu:iT k B x x' with
     |none=>rw[hu]at h;simp at h
     |some r=>
      obtain⟨B1,q1⟩:=r;rw[hu]at h;obtain⟨h1,h2⟩:=we hG (θ:=θ) hB BZ.1 vZ.1 hu;obtain⟨Mr,ES⟩:=ui hB BZ.1 vZ.1 hu;cases q1
      ·simp at h;obtain⟨rfl,rfl⟩:=h;exact⟨by simp,fun _=>by rintro⟨_,h3,_⟩;exact h2 rfl h3⟩
      ·obtain⟨h3,h4⟩:=we hG (θ:=θ) Mr (by rw[ES];exact BZ.2) (by rw[ES];exact vZ.2) h;have h5:=h1 rfl;refine⟨fun e=>?_,fun e=>?_⟩
       ·rw[h3 e,h5];exact⟨fun h=>⟨kI,h.1,h.2⟩,fun h=>⟨h.2.1,h.2.2⟩⟩
       ·rintro⟨_,h6,h7⟩;exact h4 e ⟨h5.2 h6,h7⟩
    ·rename_i kI;simp at h;obtain⟨rfl,rfl⟩:=h;exact⟨by simp,fun _=>by rintro⟨h1,_⟩;exact kI h1⟩
  ·simp at h
end
def iU (k:Nat) (B:List IT) (a b:IT):Option (Option (List IT)):=match iT k B a b with
 |none=>none
 |some (B',true)=>some (some B')
 |some (_,false)=>some none
def fz (k:Nat) (kd:Int) (B:List IT) (ts:List IT):Option (Option (List IT×IT)):=
 if kd=2 then some (some (B,.b 2))else if kd=3\/kd=4 then some (some (B,.b 3))else match ts with
  |[x]=>if kd=11\/kd=12 then(iU k (B++[.v B.length,.v (B.length+1)]) x (.p 5 (.v B.length) (.v (B.length+1)))).map (·.map fun B'=>(B',.v (if kd=12 then B.length+1 else B.length)))else some none
  |[x,y]=>if kd=10 then some (some (B,.p 5 x y))
   else if kd=6 then(iU k (B++[.v B.length,.v (B.length+1)]) x (.p 4 y (.v B.length))).map (·.map fun B'=>(B',.v B.length))
   else if kd=7\/kd=8 then(match iU k B x (.b 2)with
    |some (some B1)=>(iU k B1 y (.b 2)).map (·.map fun B'=>(B',.b (if kd=8 then 3 else 2)))
    |none=>none
    |some none=>some none)else some none
  |[x,y,z]=>if kd=9 then(match iU k B x (.b 3)with
    |some (some B1)=>(iU k B1 y z).map (·.map fun B'=>(B',y))
    |none=>none
    |some none=>some none)else some none
  |_=>some none
mutual
def inf (k:Nat):al->List IT->List IT->List UInt8->List IT->Option (Option (List IT×List IT×IT))
 |.mk kd s _ _ _ _ l,B,ls,ns,ts=>
  if kd=1 then some (if 0<=dD ns (s.headD 0)then(ts[(dD ns (s.headD 0)).toNat]?).map fun t=>(B,ls,t)else none)
  else match nh k l (if kd=5 then B++[.v B.length]else B) (if kd=5 then ls++[.v B.length]else ls) (if kd=5 then ns++s else ns) (if kd=5 then ts++[.v B.length]else ts)with
   |some (some (B1,ls1,us))=>if kd=5 then(match us with|[u]=>some (some (B1,ls1,.p 4 (.v B.length) u))|_=>some none)else(fz k kd B1 us).map (·.map fun r=>(r.1,ls1,r.2))
   |none=>none
   |some none=>some none
def nh (k:Nat):List al->List IT->List IT->List UInt8->List IT->Option (Option (List IT×List IT×List IT))
 |[],B,ls,_,_=>some (some (B,ls,[]))
 |e::r,B,ls,ns,ts=>match inf k e B ls ns ts with
  |some (some (B1,ls1,t))=>(match nh k r B1 ls1 ns ts with
   |some (some (B2,ls2,us))=>some (some (B2,ls2,t::us))
   |none=>none
   |some none=>some none)
  |none=>none
  |some none=>some none
end
inductive Ba:al->Prop
 |var (c:UInt8):Ba (pG [c])
 |num (n:Int):Ba (rm n)
 |tQ:Ba lH
 |tR:Ba iO
 |lam {c:UInt8} {t:aG} {b:al}:Ba b->Ba (nY [c] t b)
 |n2 {k:Int} {a b:al}:k=6\/k=7\/k=8\/k=10->Ba a->Ba b->Ba (yg k a b)
 |ite {a b c:al}:Ba a->Ba b->Ba c->Ba (BM a b c)
 |n1 {k:Int} {a:al}:k=11\/k=12->Ba a->Ba (Bf k a)
theorem Ba.of {nt:Int} {d:Nat} {e:al} (h:jF nt d e):Ba (mapM aK e):=by
 induction h with
 | @var d s _ hs=>
  obtain⟨c,rfl,_⟩:=qj hs;simpa[mapM,eb,aK]using Ba.var c
 |num _ _ _=>simpa[mapM,eb,aK]using Ba.num _
 |tQ _=>simpa[mapM,eb,aK]using Ba.tQ
 |tR _=>simpa[mapM,eb,aK]using Ba.tR
 | @lam d s t b _ hs _ _ ih=>
  obtain⟨c,rfl,_⟩:=qj hs;simpa[mapM,eb,aK]using Ba.lam ih
 | @n2 d k a b _ hk _ _ iha ihb=>
  have h1:¬(k=13\/k=14):=by omega
  have h2:¬k=5:=by omega
  simpa[mapM,eb,aK,h1,h2]using Ba.n2 hk iha ihb
 |ite _ _ _ _ ihp iha ihb=>simpa[mapM,eb,aK]using Ba.ite ihp iha ihb
 | @n1 d k a _ hk _ ih=>
  have h1:¬(k=13\/k=14):=by omega
  have h2:¬k=5:=by omega
  simpa[mapM,eb,aK,h1,h2]using Ba.n1 hk ih
 |asc _ _ _ ih=>simpa[mapM,eb,aK]using ih
 |cast _ _ _ _ _ _ ih=>simpa[mapM,eb,aK]using ih
section
variable (k:Nat) (B ls:List IT) (ns:List UInt8) (ts:List IT)
theorem kh (c:UInt8):inf k (pG [c]) B ls ns ts=some (if 0<=dD ns c then(ts[(dD ns c).toNat]?).map fun t=>(B,ls,t)else none):=by simp[inf]
theorem qn (n:Int):inf k (rm n) B ls ns ts=some (some (B,ls,.b 2)):=by simp[inf,nh,fz]
theorem qo:inf k lH B ls ns ts=some (some (B,ls,.b 3)):=by simp[inf,nh,fz]
theorem qp:inf k iO B ls ns ts=some (some (B,ls,.b 3)):=by simp[inf,nh,fz]
theorem lk (c:UInt8) (t:aG) (b:al):inf k (nY [c] t b) B ls ns ts=(inf k b (B++[.v B.length]) (ls++[.v B.length]) (ns++[c]) (ts++[.v B.length])).map (·.map fun r=>(r.1,r.2.1,.p 4 (.v B.length) r.2.2)):=by
 simp only[inf,nh,show¬(5:Int)=1 by omega,if_false,if_true];cases inf k b (B++[.v B.length]) (ls++[.v B.length]) (ns++[c]) (ts++[.v B.length])with
 |none=>rfl
 |some o=>cases o<;>rfl
theorem rH {kd:Int} (hk:kd=11\/kd=12) (a:al):inf k (Bf kd a) B ls ns ts=match inf k a B ls ns ts with
  |some (some (B1,ls1,t))=>(fz k kd B1 [t]).map (·.map fun r=>(r.1,ls1,r.2))
  |none=>none
  |some none=>some none:=by
 simp only[inf,nh,show¬kd=1 by omega,show¬kd=5 by omega,if_false];cases inf k a B ls ns ts with
 |none=>rfl
 |some o=>cases o<;>rfl
theorem pU {kd:Int} (hk:kd=6\/kd=7\/kd=8\/kd=10) (a b:al):inf k (yg kd a b) B ls ns ts=match inf k a B ls ns ts with
  |some (some (B1,ls1,t))=>(match inf k b B1 ls1 ns ts with
   |some (some (B2,ls2,u))=>(fz k kd B2 [t,u]).map (·.map fun r=>(r.1,ls2,r.2))
   |none=>none
   |some none=>some none)
  |none=>none
  |some none=>some none:=by
 simp only[inf,nh,show¬kd=1 by omega,show¬kd=5 by omega,if_false];cases inf k a B ls ns ts with
 |none=>rfl
 |some o=>
  cases o with
  |none=>rfl
  |some r=>
   obtain⟨B1,ls1,t⟩:=r;simp only;cases inf k b B1 ls1 ns ts with
   |none=>rfl
   |some o=>cases o<;>rfl
theorem ov (a b c:al):inf k (BM a b c) B ls ns ts=match inf k a B ls ns ts with
  |some (some (B1,ls1,t))=>(match inf k b B1 ls1 ns ts with
   |some (some (B2,ls2,u))=>(match inf k c B2 ls2 ns ts with
    |some (some (B3,ls3,v))=>(fz k 9 B3 [t,u,v]).map (·.map fun r=>(r.1,ls3,r.2))
    |none=>none
    |some none=>some none)
   |none=>none
   |some none=>some none)
  |none=>none
  |some none=>some none:=by
 simp only[inf,nh,show¬(9:Int)=1 by omega,show¬(9:Int)=5 by omega,if_false];cases inf k a B ls ns ts with
 |none=>rfl
 |some o=>
  cases o with
  |none=>rfl
  |some r=>
   obtain⟨B1,ls1,t⟩:=r;simp only;cases inf k b B1 ls1 ns ts with
   |none=>rfl
   |some o=>
    cases o with
    |none=>rfl
    |some r=>
     obtain⟨B2,ls2,u⟩:=r;simp only;cases inf k c B2 ls2 ns ts with
     |none=>rfl
     |some o=>cases o<;>rfl
end
theorem xJ {B:List IT} (new:List IT) {n:Nat} (hn:n<B.length):bd (B++new) n=bd B n:=by
 simp only[bd,List.getElem?_append_left hn]
theorem Eg {B:List IT}:bd (B++[.v B.length]) B.length=none:=by simp[bd]
theorem IE {B:List IT} {n:Nat} (h1:B.length<=n) (h2:n<B.length+2):bd (B++[.v B.length,.v (B.length+1)]) n=none:=by
 simp only[bd];rw[List.getElem?_append_right h1];have:n=B.length\/n=B.length+1:=by omega
 rcases this with rfl|rfl
 ·simp
 ·simp
theorem xK {B:List IT} (new:List IT) (hB:qU B):∀{k:Nat} {t:IT},sc B.length t=true->ex B k t=true->ex (B++new) k t=true
 |0,t,_,h=>by simp[ex]at h
 |k+1,.v n,hs,h=>by
  simp only[ex]at h⊢;rw[xJ new (by simpa[sc]using hs)];cases hb:bd B n with
  |none=>rfl
  |some t=>rw[hb]at h;exact xK new hB (CG hB hb) h
 |k+1,.b _,_,_=>rfl
 |k+1,.p _ x y,hs,h=>by
  rw[sc,abG]at hs;rw[ex,abG]at h⊢;exact⟨xK new hB hs.1 h.1,xK new hB hs.2 h.2⟩
structure kQ (B C:List IT):Prop where
 le:B.length<=C.length
 Dg:∀n,n<B.length->bd C n=bd B n
 new:∀n,B.length<=n->n<C.length->bd C n=none
 sc:qU B->qU C
 ti:qU B->Gp B->Gp C
theorem kQ.one (B:List IT):kQ B (B++[.v B.length]):=by
 refine⟨by simp,fun n hn=>xJ _ hn,fun n h1 h2=>?_,fun h t ht=>?_,fun hs h n hn=>?_⟩
 ·have:n=B.length:=by simp at h2;omega
  subst this;exact Eg
 ·rw[abY];rcases abR.1 ht with h1|h1
  ·exact dm (by omega) (h t h1)
  ·simp at h1;subst h1;simp[Av.sc]
 ·by_cases h1:n<B.length
  ·obtain⟨k,hk⟩:=h n h1;exact⟨k,xK _ hs (by simpa[Av.sc]using h1) hk⟩
  ·have:n=B.length:=by simp at hn;omega
   subst this;exact⟨1,by simp only[ex,Eg]⟩
theorem kQ.two (B:List IT):kQ B (B++[.v B.length,.v (B.length+1)]):=by
 refine⟨by simp,fun n hn=>xJ _ hn,fun n h1 h2=>IE h1 (by simpa using h2),fun h t ht=>?_,fun hs h n hn=>?_⟩
 ·rw[abY];rcases abR.1 ht with h1|h1
  ·exact dm (by omega) (h t h1)
  ·simp at h1;rcases h1 with rfl|rfl<;>simp[Av.sc]
 ·by_cases h1:n<B.length
  ·obtain⟨k,hk⟩:=h n h1;exact⟨k,xK _ hs (by simpa[Av.sc]using h1) hk⟩
  ·have h2:n<B.length+2:=by simpa using hn
   exact⟨1,by simp only[ex,IE (show B.length<=n by omega) h2]⟩
theorem kQ.sat {G:Type} {mk:Int->Option (G×G)->G} {θ:Nat->G} {B C:List IT} (h:kQ B C) (hs:Sat mk θ C):Sat mk θ B:=by
 intro n t hb;refine hs n t ?_;by_cases hn:n<B.length
 ·rw[h.Dg n hn];exact hb
 ·have:=(ql hb).1;rw[acg (by omega)]at this;cases this
theorem dW {G:Type} {mk:Int->Option (G×G)->G} {θ θ':Nat->G} {N:Nat} (h:∀n,n<N->θ' n=θ n):∀{t:IT},sc N t=true->iK mk θ' t=iK mk θ t
 |.v n,hs=>h n (by simpa[sc]using hs)
 |.b _,_=>rfl
 |.p _ x y,hs=>by
  rw[sc,abG]at hs;simp only[iK,dW h hs.1,dW h hs.2]
theorem kQ.O8 {G:Type} {mk:Int->Option (G×G)->G} {θ θ':Nat->G} {B C:List IT} (h:kQ B C) (hB:qU B) (hs:Sat mk θ B) (he:∀n,n<B.length->θ' n=θ n):Sat mk θ' C:=by
 intro n t hb;by_cases hn:n<B.length
 ·rw[h.Dg n hn]at hb;rw[he n hn,hs n t hb,dW he (CG hB hb)]
 ·by_cases hc:n<C.length
  ·rw[h.new n (by omega) hc]at hb;cases hb
  ·have:=(ql hb).1;rw[acg (by omega)]at this;cases this
structure sV (B:List IT):Prop where
 sc:qU B
 ti:Gp B
theorem Kj {k:Nat} {B B':List IT} {a b:IT} {q:Bool} (hB:sV B) (ha:sc B.length a=true) (hb:sc B.length b=true) (h:iT k B a b=some (B',q)):Gp B':=by
 obtain⟨ka,FQ⟩:=hB.ti.all ha;obtain⟨j,B2,q2,h2,h3,_⟩:=zN (nfree B) ka B a b (abJ _) hB.sc hB.ti ha hb FQ;have h4:=pS (abI k j) h;rw[pS (abH k j) h2]at h4;cases h4;exact h3
theorem gE {k:Nat} {B B':List IT} {a b:IT} (hB:sV B) (ha:sc B.length a=true) (hb:sc B.length b=true) (h:iU k B a b=some (some B')):sV B'/\B'.length=B.length:=by
 simp only[iU]at h;split at h
 ·simp at h
 ·rename_i hu;simp at h;subst h;obtain⟨h1,h2⟩:=ui hB.sc ha hb hu;exact⟨⟨h1,Kj hB ha hb hu⟩,h2⟩
 ·simp at h
theorem eY {k j:Nat} {B:List IT} {a b:IT} {r:Option (List IT)} (hk:k<=j) (h:iU k B a b=some r):iU j B a b=some r:=by
 simp only[iU]at h⊢;split at h
 ·simp at h
 ·rename_i hu;rw[pS hk hu];exact h
 ·rename_i hu;rw[pS hk hu];exact h
theorem gN {B:List IT} {a b:IT} (hB:sV B) (ha:sc B.length a=true) (hb:sc B.length b=true):∃k r,iU k B a b=some r:=by
 obtain⟨ka,FQ⟩:=hB.ti.all ha;obtain⟨j,B2,q2,h2,_,_⟩:=zN (nfree B) ka B a b (abJ _) hB.sc hB.ti ha hb FQ;refine⟨j,?_⟩;simp only[iU,h2];cases q2<;>exact⟨_,rfl⟩
structure Vk (B B':List IT) (t:IT):Prop where
 ok:sV B'
 le:B.length<=B'.length
 len:B'.length<=B.length+2
 tj:Av.sc B'.length t=true
theorem qt {k:Nat} {kd:Int} {B B':List IT} {ts:List IT} {t:IT} (hB:sV B) (bM:∀u∈ts,sc B.length u=true) (h:fz k kd B ts=some (some (B',t))):Vk B B' t:=by
 have Eh:sV (B++[.v B.length,.v (B.length+1)]):=⟨(kQ.two B).sc hB.sc,(kQ.two B).ti hB.sc hB.ti⟩;have tg:(B++[IT.v B.length,IT.v (B.length+1)]).length=B.length+2:=by simp
 have up:∀{u:IT},sc B.length u=true->sc (B++[IT.v B.length,IT.v (B.length+1)]).length u=true:=fun h=>dm (by omega) h
 simp only[fz]at h;split at h
 ·simp at h;obtain⟨rfl,rfl⟩:=h;exact⟨hB,abJ _,by omega,rfl⟩
 split at h
 ·simp at h;obtain⟨rfl,rfl⟩:=h;exact⟨hB,abJ _,by omega,rfl⟩
 split at h
 ·rename_i x;have hx:=bM x (by simp);split at h
  ·simp only[acm]at h;obtain⟨r,h1,B2,rfl,h2⟩:=h;cases h2
   obtain⟨h3,h4⟩:=gE Eh (up hx) (by simp[sc]) h1;exact⟨h3,by omega,by omega,by simp[sc];split<;>omega⟩
  ·simp at h
 ·rename_i x y;have hx:=bM x (by simp);have hy:=bM y (by simp);split at h
  ·simp at h;obtain⟨rfl,rfl⟩:=h;exact⟨hB,abJ _,by omega,by simp[sc,hx,hy]⟩
  split at h
  ·simp only[acm]at h;obtain⟨r,h1,B2,rfl,h2⟩:=h;cases h2
   obtain⟨h3,h4⟩:=gE Eh (up hx) (by have:=up hy;simp[sc]at this⊢;exact this) h1;exact⟨h3,by omega,by omega,by simp[sc];omega⟩
  split at h
  ·split at h
   ·rename_i B1 h1;obtain⟨h2,h3⟩:=gE hB hx rfl h1;simp only[acm]at h;obtain⟨r,h4,B2,rfl,h5⟩:=h;cases h5
    obtain⟨h6,h7⟩:=gE h2 (by rw[h3];exact hy) rfl h4;exact⟨h6,by omega,by omega,rfl⟩
   ·simp at h
   ·simp at h
  ·simp at h
 ·rename_i x y z;have hx:=bM x (by simp);have hy:=bM y (by simp);have hz:=bM z (by simp);split at h
  ·split at h
   ·rename_i B1 h1;obtain⟨h2,h3⟩:=gE hB hx rfl h1;simp only[acm]at h;obtain⟨r,h4,B2,rfl,h5⟩:=h;cases h5
    obtain⟨h6,h7⟩:=gE h2 (by rw[h3];exact hy) (by rw[h3];exact hz) h4;exact⟨h6,by omega,by omega,by rw[h7,h3];exact hy⟩
   ·simp at h
   ·simp at h
  ·simp at h
 ·simp at h
theorem rI {kd:Int} {B:List IT} {ts:List IT} (hB:sV B) (bM:∀u∈ts,sc B.length u=true):∃k r,fz k kd B ts=some r:=by
 have Eh:sV (B++[.v B.length,.v (B.length+1)]):=⟨(kQ.two B).sc hB.sc,(kQ.two B).ti hB.sc hB.ti⟩;have tg:(B++[IT.v B.length,IT.v (B.length+1)]).length=B.length+2:=by simp
 have up:∀{u:IT},sc B.length u=true->sc (B++[IT.v B.length,IT.v (B.length+1)]).length u=true:=fun h=>dm (by omega) h
 simp only[fz];split
 ·exact⟨0,_,rfl⟩
 split
 ·exact⟨0,_,rfl⟩
 split
 ·rename_i x;have hx:=bM x (by simp);split
  ·obtain⟨k,r,h⟩:=gN Eh (up hx) (b:=.p 5 (.v B.length) (.v (B.length+1))) (by simp[sc]);exact⟨k,_,by rw[h];rfl⟩
  ·exact⟨0,_,rfl⟩
 ·rename_i x y;have hx:=bM x (by simp);have hy:=bM y (by simp);split
  ·exact⟨0,_,rfl⟩
  split
  ·obtain⟨k,r,h⟩:=gN Eh (up hx) (b:=.p 4 y (.v B.length)) (by have:=up hy;simp[sc]at this⊢;exact this);exact⟨k,_,by rw[h];rfl⟩
  split
  ·obtain⟨k,r,h⟩:=gN hB hx (b:=.b 2) rfl;cases r with
   |none=>exact⟨k,none,by rw[h]⟩
   |some B1=>
    obtain⟨h2,h3⟩:=gE hB hx rfl h;obtain⟨j,r,h4⟩:=gN h2 (a:=y) (b:=.b 2) (by rw[h3];exact hy) rfl;exact⟨max k j,_,by rw[eY (abI k j) h];simp only;rw[eY (abH k j) h4];rfl⟩
  ·exact⟨0,_,rfl⟩
 ·rename_i x y z;have hx:=bM x (by simp);have hy:=bM y (by simp);have hz:=bM z (by simp);split
  ·obtain⟨k,r,h⟩:=gN hB hx (b:=.b 3) rfl;cases r with
   |none=>exact⟨k,none,by rw[h]⟩
   |some B1=>
    obtain⟨h2,h3⟩:=gE hB hx rfl h;obtain⟨j,r,h4⟩:=gN h2 (a:=y) (b:=z) (by rw[h3];exact hy) (by rw[h3];exact hz);exact⟨max k j,_,by rw[eY (abI k j) h];simp only;rw[eY (abH k j) h4];rfl⟩
  ·exact⟨0,_,rfl⟩
 ·exact⟨0,_,rfl⟩
theorem ll {k j:Nat} {kd:Int} {B:List IT} {ts:List IT} {r:Option (List IT×IT)} (hk:k<=j) (h:fz k kd B ts=some r):fz j kd B ts=some r:=by
 simp only[fz]at h⊢;split
 ·rename_i h1;rw[if_pos h1]at h;exact h
 rename_i h1;rw[if_neg h1]at h;split
 ·rename_i h2;rw[if_pos h2]at h;exact h
 rename_i h2;rw[if_neg h2]at h;split
 ·simp only at h;split
  ·rename_i h3;rw[if_pos h3]at h;simp only[acm]at h;obtain⟨q,h4,rfl⟩:=h;rw[eY hk h4];rfl
  ·rename_i h3;rw[if_neg h3]at h;exact h
 ·simp only at h;split
  ·rename_i h3;rw[if_pos h3]at h;exact h
  rename_i h3;rw[if_neg h3]at h;split
  ·rename_i h4;rw[if_pos h4]at h;simp only[acm]at h;obtain⟨q,h5,rfl⟩:=h;rw[eY hk h5];rfl
  rename_i h4;rw[if_neg h4]at h;split
  ·rename_i h5;rw[if_pos h5]at h;split at h
   ·rename_i B1 h6;rw[eY hk h6];simp only[acm]at h⊢;obtain⟨q,h7,h8⟩:=h;exact⟨q,eY hk h7,h8⟩
   ·simp at h
   ·rename_i h6;rw[eY hk h6];exact h
  ·rename_i h5;rw[if_neg h5]at h;exact h
 ·simp only at h;split
  ·rename_i h5;rw[if_pos h5]at h;split at h
   ·rename_i B1 h6;rw[eY hk h6];simp only[acm]at h⊢;obtain⟨q,h7,h8⟩:=h;exact⟨q,eY hk h7,h8⟩
   ·simp at h
   ·rename_i h6;rw[eY hk h6];exact h
  ·rename_i h5;rw[if_neg h5]at h;exact h
 ·rename_i h3 h4 h5
  match ts,h3,h4,h5,h with
  |[],_,_,_,h=>exact h
  |[_],h3,_,_,_=>exact absurd rfl (h3 _)
  |[_,_],_,h4,_,_=>exact absurd rfl (h4 _ _)
  |[_,_,_],_,_,h5,_=>exact absurd rfl (h5 _ _ _)
  |_::_::_::_::_,_,_,_,h=>exact h
theorem inf_le {k j:Nat} (hk:k<=j) {e:al} (he:Ba e):∀{B ls:List IT} {ns:List UInt8} {ts:List IT} {r:Option (List IT×List IT×IT)},inf k e B ls ns ts=some r->inf j e B ls ns ts=some r:=by
 induction he with
 |var c=>intro B ls ns ts r h;rw[kh]at h⊢;exact h
 |num n=>intro B ls ns ts r h;rw[qn]at h⊢;exact h
 |tQ=>intro B ls ns ts r h;rw[qo]at h⊢;exact h
 |tR=>intro B ls ns ts r h;rw[qp]at h⊢;exact h
 |lam _ ih=>
  intro B ls ns ts r h;rw[lk]at h⊢;simp only[acm]at h;obtain⟨q,h1,rfl⟩:=h;rw[ih h1];rfl
 |n1 fx _ ih=>
  intro B ls ns ts r h;rw[rH _ _ _ _ _ fx]at h⊢;split at h
  ·rename_i B1 ls1 t h1;rw[ih h1];simp only[acm]at h⊢;obtain⟨q,h2,h3⟩:=h;exact⟨q,ll hk h2,h3⟩
  ·simp at h
  ·rename_i h1;rw[ih h1];exact h
 |n2 fx _ _ iha ihb=>
  intro B ls ns ts r h;rw[pU _ _ _ _ _ fx]at h⊢;split at h
  ·rename_i B1 ls1 t h1;rw[iha h1];simp only;split at h
   ·rename_i B2 ls2 u h2;rw[ihb h2];simp only[acm]at h⊢;obtain⟨q,h3,h4⟩:=h;exact⟨q,ll hk h3,h4⟩
   ·simp at h
   ·rename_i h2;rw[ihb h2];exact h
  ·simp at h
  ·rename_i h1;rw[iha h1];exact h
 |ite _ _ _ iha ihb ihc=>
  intro B ls ns ts r h;rw[ov]at h⊢;split at h
  ·rename_i B1 ls1 t h1;rw[iha h1];simp only;split at h
   ·rename_i B2 ls2 u h2;rw[ihb h2];simp only;split at h
    ·rename_i B3 ls3 v h3;rw[ihc h3];simp only[acm]at h⊢;obtain⟨q,h4,h5⟩:=h;exact⟨q,ll hk h4,h5⟩
    ·simp at h
    ·rename_i h3;rw[ihc h3];exact h
   ·simp at h
   ·rename_i h2;rw[ihb h2];exact h
  ·simp at h
  ·rename_i h1;rw[iha h1];exact h
structure TC (e:al) (B ls:List IT) (B' ls':List IT) (t:IT):Prop where
 ok:sV B'
 le:B.length<=B'.length
 len:B'.length<=B.length+2*aN e
 tj:Av.sc B'.length t=true
 yQ:∃new,ls'=ls++new/\new.length=(aF e).length/\∀u∈new,Av.sc B'.length u=true
structure xL (B:List IT) (ns:List UInt8) (ts:List IT):Prop where
 len:ts.length=ns.length
 Gq:∀u∈ts,Av.sc B.length u=true
theorem xL.le {B C:List IT} {ns:List UInt8} {ts:List IT} (h:xL B ns ts) (hl:B.length<=C.length):xL C ns ts:=⟨h.len,fun u hu=>dm hl (h.Gq u hu)⟩
theorem fh {k:Nat} {e:al} (he:Ba e):∀{B ls B' ls':List IT} {ns:List UInt8} {ts:List IT} {t:IT},sV B->xL B ns ts->inf k e B ls ns ts=some (some (B',ls',t))->TC e B ls B' ls' t:=by
 induction he with
 |var c=>
  intro B ls B' ls' ns ts t hB hc h;rw[kh]at h;simp only[Option.some.injEq]at h;split at h
  ·simp only[acm]at h;obtain⟨u,h1,h2⟩:=h;cases h2
   exact⟨hB,abJ _,by omega,hc.Gq _ (abX h1),[],by simp,by simp[aF,az,br],by simp⟩
  ·simp at h
 |num n=>intro B ls B' ls' ns ts t hB hc h;rw[qn]at h;cases h;exact⟨hB,abJ _,by omega,rfl,[],by simp,by simp[aF,az,br],by simp⟩
 |tQ=>intro B ls B' ls' ns ts t hB hc h;rw[qo]at h;cases h;exact⟨hB,abJ _,by omega,rfl,[],by simp,by simp[aF,az,br],by simp⟩
 |tR=>intro B ls B' ls' ns ts t hB hc h;rw[qp]at h;cases h;exact⟨hB,abJ _,by omega,rfl,[],by simp,by simp[aF,az,br],by simp⟩
 | @lam c ty b _ ih=>
  intro B ls B' ls' ns ts t hB hc h;rw[lk]at h;simp only[acm]at h;obtain⟨q,h1,r,rfl,h2⟩:=h;obtain⟨B1,ls1,u⟩:=r;cases h2
  dsimp only;have hN:=kQ.one B;have hl:(B++[IT.v B.length]).length=B.length+1:=by simp
  obtain⟨g1,g2,g3,g4,new,rfl,g5,g6⟩:=ih ⟨hN.sc hB.sc,hN.ti hB.sc hB.ti⟩ ⟨by simp[hc.len],fun u hu=>by
   rcases abR.1 hu with q|q
   ·exact dm hN.le (hc.Gq u q)
   ·simp at q;subst q;simp[sc]⟩ h1
  refine⟨g1,by omega,by simp[aN,bm];omega,by simp[sc,g4];omega,.v B.length::new,by simp,by simp[aF,az,br,g5],fun u hu=>?_⟩;rcases abV.1 hu with rfl|q
  ·simp[sc];omega
  ·exact g6 u q
 | @n1 kd a fx _ ih=>
  intro B ls B' ls' ns ts t hB hc h;rw[rH _ _ _ _ _ fx]at h;split at h
  ·rename_i B1 ls1 u h1;obtain⟨g1,g2,g3,g4,new,rfl,g5,g6⟩:=ih hB hc h1;simp only[acm]at h;obtain⟨q,h2,r,rfl,h3⟩:=h;obtain⟨B2,w⟩:=r;cases h3
   dsimp only;obtain⟨k1,k2,k3,k4⟩:=qt g1 (by simpa using g4) h2;have h5:br kd=false:=by rcases fx with rfl|rfl<;>rfl
   exact⟨k1,by omega,by simp[aN,bm];omega,k4,new,rfl,by simp[aF,az,h5,g5],fun u hu=>dm k2 (g6 u hu)⟩
  ·simp at h
  ·simp at h
 | @n2 kd a b fx _ _ iha ihb=>
  intro B ls B' ls' ns ts t hB hc h;rw[pU _ _ _ _ _ fx]at h;split at h
  ·rename_i B1 ls1 u h1;obtain⟨g1,g2,g3,g4,new,rfl,g5,g6⟩:=iha hB hc h1;split at h
   ·rename_i B2 ls2 v h2;obtain⟨p1,p2,p3,p4,vP,rfl,p5,p6⟩:=ihb g1 (hc.le g2) h2;simp only[acm]at h;obtain⟨q,h2,r,rfl,h3⟩:=h;obtain⟨B3,w⟩:=r;cases h3
    dsimp only;obtain⟨k1,k2,k3,k4⟩:=qt p1 (by simp;exact⟨dm p2 g4,p4⟩) h2;have h5:br kd=false:=by rcases fx with rfl|rfl|rfl|rfl<;>rfl
    refine⟨k1,by omega,by simp[aN,bm];omega,k4,new++vP,by simp,by simp[aF,az,h5,g5,p5],fun u hu=>?_⟩;rcases abR.1 hu with q|q
    ·exact dm (by omega) (g6 u q)
    ·exact dm k2 (p6 u q)
   ·simp at h
   ·simp at h
  ·simp at h
  ·simp at h
 | @ite a b c _ _ _ iha ihb ihc=>
  intro B ls B' ls' ns ts t hB hc h;rw[ov]at h;split at h
  ·rename_i B1 ls1 u h1;obtain⟨g1,g2,g3,g4,new,rfl,g5,g6⟩:=iha hB hc h1;split at h
   ·rename_i B2 ls2 v h2;obtain⟨p1,p2,p3,p4,vP,rfl,p5,p6⟩:=ihb g1 (hc.le g2) h2;split at h
    ·rename_i B3 ls3 w h3;obtain⟨r1,r2,r3,r4,new3,rfl,r5,r6⟩:=ihc p1 (hc.le (by omega)) h3;simp only[acm]at h;obtain⟨q,h2,r,rfl,h3⟩:=h;obtain⟨B4,w⟩:=r;cases h3
     dsimp only;obtain⟨k1,k2,k3,k4⟩:=qt r1 (by simp;exact⟨dm (by omega) g4,dm r2 p4,r4⟩) h2;refine⟨k1,by omega,by simp[aN,bm];omega,k4,new++vP++new3,by simp,by simp[aF,az,br,g5,p5,r5],fun u hu=>?_⟩;rcases abR.1 hu with q|q
     ·rcases abR.1 q with q|q
      ·exact dm (by omega) (g6 u q)
      ·exact dm (by omega) (p6 u q)
     ·exact dm k2 (r6 u q)
    ·simp at h
    ·simp at h
   ·simp at h
   ·simp at h
  ·simp at h
  ·simp at h
theorem Gr {e:al} (he:Ba e):∀{B ls:List IT} {ns:List UInt8} {ts:List IT},sV B->xL B ns ts->∃k r,inf k e B ls ns ts=some r:=by
 induction he with
 |var c=>intro B ls ns ts hB hc;exact⟨0,_,kh _ _ _ _ _ _⟩
 |num n=>intro B ls ns ts hB hc;exact⟨0,_,qn _ _ _ _ _ _⟩
 |tQ=>intro B ls ns ts hB hc;exact⟨0,_,qo _ _ _ _ _⟩
 |tR=>intro B ls ns ts hB hc;exact⟨0,_,qp _ _ _ _ _⟩
 | @lam c ty b _ ih=>
  intro B ls ns ts hB hc;have hN:=kQ.one B;obtain⟨k,r,h⟩:=ih (B:=B++[.v B.length]) (ls:=ls++[.v B.length]) (ns:=ns++[c]) (ts:=ts++[.v B.length]) ⟨hN.sc hB.sc,hN.ti hB.sc hB.ti⟩ ⟨by simp[hc.len],fun u hu=>by
   rcases abR.1 hu with q|q
   ·exact dm hN.le (hc.Gq u q)
   ·simp at q;subst q;simp[sc]⟩
  exact⟨k,_,by rw[lk,h];rfl⟩
 | @n1 kd a fx ha ih=>
  intro B ls ns ts hB hc;obtain⟨k,r,h⟩:=ih hB hc (ls:=ls);cases r with
  |none=>exact⟨k,none,by rw[rH _ _ _ _ _ fx,h]⟩
  |some r=>
   obtain⟨B1,ls1,u⟩:=r;have g:=fh ha hB hc h;obtain⟨j,r,h2⟩:=rI (kd:=kd) g.ok (ts:=[u]) (by simpa using g.tj);exact⟨max k j,_,by rw[rH _ _ _ _ _ fx,inf_le (abI k j) ha h];simp only;rw[ll (abH k j) h2];rfl⟩
 | @n2 kd a b fx ha hb iha ihb=>
  intro B ls ns ts hB hc;obtain⟨k,r,h⟩:=iha hB hc (ls:=ls);cases r with
  |none=>exact⟨k,none,by rw[pU _ _ _ _ _ fx,h]⟩
  |some r=>
   obtain⟨B1,ls1,u⟩:=r;have g:=fh ha hB hc h;obtain⟨j,r,h2⟩:=ihb g.ok (hc.le g.le) (ls:=ls1);cases r with
   |none=>exact⟨max k j,none,by rw[pU _ _ _ _ _ fx,inf_le (abI k j) ha h];simp only;rw[inf_le (abH k j) hb h2]⟩
   |some r=>
    obtain⟨B2,ls2,v⟩:=r;have g2:=fh hb g.ok (hc.le g.le) h2;obtain⟨i,r,h3⟩:=rI (kd:=kd) g2.ok (ts:=[u,v]) (by simp;exact⟨dm g2.le g.tj,g2.tj⟩);exact⟨max (max k j) i,_,by rw[pU _ _ _ _ _ fx,inf_le (by omega) ha h];simp only;rw[inf_le (by omega) hb h2];simp only;rw[ll (abH _ _) h3];rfl⟩
 | @ite a b c ha hb oZ iha ihb ihc=>
  intro B ls ns ts hB hc;obtain⟨k,r,h⟩:=iha hB hc (ls:=ls);cases r with
  |none=>exact⟨k,none,by rw[ov,h]⟩
  |some r=>
   obtain⟨B1,ls1,u⟩:=r;have g:=fh ha hB hc h;obtain⟨j,r,h2⟩:=ihb g.ok (hc.le g.le) (ls:=ls1);cases r with
   |none=>exact⟨max k j,none,by rw[ov,inf_le (abI k j) ha h];simp only;rw[inf_le (abH k j) hb h2]⟩
   |some r=>
    obtain⟨B2,ls2,v⟩:=r;have g2:=fh hb g.ok (hc.le g.le) h2;obtain⟨i,r,h3⟩:=ihc g2.ok ((hc.le g.le).le g2.le) (ls:=ls2);cases r with
    |none=>exact⟨max (max k j) i,none,by rw[ov,inf_le (by omega) ha h];simp only;rw[inf_le (by omega) hb h2];simp only;rw[inf_le (by omega) oZ h3]⟩
    |some r=>
     obtain⟨B3,ls3,w⟩:=r;have g3:=fh oZ g2.ok ((hc.le g.le).le g2.le) h3;obtain⟨m,r,h4⟩:=rI (kd:=9) g3.ok (ts:=[u,v,w]) (by simp;exact⟨dm (abM g2.le g3.le) g.tj,dm g3.le g2.tj,g3.tj⟩);exact⟨max (max (max k j) i) m,_,by rw[ov,inf_le (by omega) ha h];simp only;rw[inf_le (by omega) hb h2];simp only;rw[inf_le (by omega) oZ h3];simp only;rw[ll (abH _ _) h4];rfl⟩
theorem IF {α:Type} {l:List α} (h:l.length=2):∃x y,l=[x,y]:=by
 match l,h with
 |[x,y],_=>exact⟨x,y,rfl⟩
theorem O9 {α:Type} {l:List α} (h:l.length=3):∃x y z,l=[x,y,z]:=by
 match l,h with
 |[x,y,z],_=>exact⟨x,y,z,rfl⟩
def um (k:Int):Option (aG×aG)->aG
 |none=>.mk k []
 |some (x,y)=>.mk k [x,y]
theorem TE:TB um:=by
 refine⟨fun k k' o o' h=>?_,fE,fun k x y=>?_⟩
 ·cases o with
  |none=>cases o' with
   |none=>simp[um]at h;exact⟨h,rfl⟩
   |some p=>simp[um]at h
  |some p=>cases o' with
   |none=>simp[um]at h
   |some p'=>obtain⟨x,y⟩:=p;obtain⟨x',y'⟩:=p';simp[um]at h;exact⟨h.1,by rw[h.2.1,h.2.2]⟩
 ·simp[um,fE,cS];omega
abbrev fP:=iK um
abbrev oz:=Sat um
def pV (θ:Nat->aG) (ns:List UInt8) (ts:List IT):List dt:=List.zipWith (fun c t=>⟨[c],fP θ t⟩) ns ts
theorem xM (θ:Nat->aG) {ns:List UInt8} {ts:List IT} (c:UInt8) (t:IT) (h:ts.length=ns.length):pV θ (ns++[c]) (ts++[t])=pV θ ns ts++[⟨[c],fP θ t⟩]:=by
 simp only[pV];rw[List.zipWith_append (by omega)]
 rfl
theorem CI (θ:Nat->aG) {ns:List UInt8} {ts:List IT} (c:UInt8) (h:ts.length=ns.length):∀p,p<=ns.length->cK (pV θ (ns.take p) (ts.take p)) [c]=if 0<=ey ns c p then(ts[(ey ns c p).toNat]?).map (fP θ)else none
 |0,_=>by simp[pV,cK,ey]
 |p+1,hp=>by
  have ax:p<ns.length:=by omega
  have gu:p<ts.length:=by omega
  have e:pV θ (ns.take (p+1)) (ts.take (p+1))=pV θ (ns.take p) (ts.take p)++[⟨[ns[p]],fP θ ts[p]⟩]:=by
   rw[acb,acb,abZ ax,abZ gu];exact xM θ _ _ (by simp;omega)
  rw[e,zi];simp only[cK,ey,abZ ax];by_cases hc:ns[p]=c
  ·subst hc;simp[abZ gu]
  ·have z7:¬[ns[p]]=[c]:=by simpa using hc
   have FB:¬(some ns[p]=some c):=by simpa using hc
   rw[if_neg z7,if_neg FB];exact CI θ c h p (by omega)
theorem La (θ:Nat->aG) {ns:List UInt8} {ts:List IT} (c:UInt8) (h:ts.length=ns.length):cK (pV θ ns ts) [c]=if 0<=dD ns c then(ts[(dD ns c).toNat]?).map (fP θ)else none:=by
 have:=CI θ c h ns.length (abJ _);rw[aca (abJ _),aca (by omega)]at this;exact this
theorem uo (s:List UInt8) (t u:aG) (b:al) (us:List aG):bx (nY s t b) (u::us)=nY s u (bx b us):=by simp[bx,dc,br]
theorem xN {k:Int} (hk:k=11\/k=12) (a:al) (us:List aG):bx (Bf k a) us=Bf k (bx a us):=by rcases hk with rfl|rfl<;>simp[bx,dc,br]
theorem xO {k:Int} (hk:k=6\/k=7\/k=8\/k=10) (a b:al) (us:List aG):bx (yg k a b) us=yg k (bx a us) (bx b (us.drop (aF a).length)):=by rcases hk with rfl|rfl|rfl|rfl<;>simp[bx,dc,br]
theorem xP (a b c:al) (us:List aG):bx (BM a b c) us=BM (bx a us) (bx b (us.drop (aF a).length)) (bx c (us.drop ((aF a).length+(aF b).length))):=by simp[bx,dc,br,ach]
theorem uq (s:List UInt8) (us:List aG):bx (pG s) us=pG s:=by simp[bx,dc,br]
theorem ur (n:Int) (us:List aG):bx (rm n) us=rm n:=by simp[bx,dc,br]
theorem uu (us:List aG):bx lH us=lH:=by simp[bx,dc,br]
theorem uv (us:List aG):bx iO us=iO:=by simp[bx,dc,br]
theorem rJ (s:List UInt8) (t:aG) (b:al):aF (nY s t b)=t::aF b:=by simp[aF,az,br]
theorem qu {k:Int} (hk:k=11\/k=12) (a:al):aF (Bf k a)=aF a:=by rcases hk with rfl|rfl<;>simp[aF,az,br]
theorem qv {k:Int} (hk:k=6\/k=7\/k=8\/k=10) (a b:al):aF (yg k a b)=aF a++aF b:=by rcases hk with rfl|rfl|rfl|rfl<;>simp[aF,az,br]
theorem qw (a b c:al):aF (BM a b c)=aF a++(aF b++aF c):=by simp[aF,az,br]
theorem uw {e:al} (he:Ba e):∀{us:List aG} (vs:List aG),us.length=(aF e).length->bx e (us++vs)=bx e us:=by
 induction he with
 |var c=>intro us vs _;rw[uq,uq]
 |num n=>intro us vs _;rw[ur,ur]
 |tQ=>intro us vs _;rw[uu,uu]
 |tR=>intro us vs _;rw[uv,uv]
 |lam _ ih=>
  intro us vs h;rw[rJ]at h
  match us,h with
  |u::us,h=>rw[List.cons_append,uo,uo,ih vs (by simpa using h)]
 |n1 hk _ ih=>
  intro us vs h;rw[qu hk]at h;rw[xN hk,xN hk,ih vs h]
 | @n2 k a b hk _ _ iha ihb=>
  intro us vs h;rw[qv hk,abY]at h;have e1:us=us.take (aF a).length++us.drop (aF a).length:=(ab3 _ _).symm;have h1:(us.take (aF a).length).length=(aF a).length:=by rw[ab5];omega
  have ha:∀ws,bx a (us++ws)=bx a us:=fun ws=>by
   rw[e1,ab2,iha _ h1,iha _ h1]
  rw[xO hk,xO hk,ha,ab9 (by omega),ihb vs (by rw[ab8];omega)]
 | @ite a b c _ _ _ iha ihb ihc=>
  intro us vs h;rw[qw,abY,abY]at h;have e1:us=us.take (aF a).length++us.drop (aF a).length:=(ab3 _ _).symm;have h1:(us.take (aF a).length).length=(aF a).length:=by rw[ab5];omega
  have ha:∀ws,bx a (us++ws)=bx a us:=fun ws=>by
   rw[e1,ab2,iha _ h1,iha _ h1]
  have e2:us.drop (aF a).length=(us.drop (aF a).length).take (aF b).length++(us.drop (aF a).length).drop (aF b).length:=(ab3 _ _).symm;have h2:((us.drop (aF a).length).take (aF b).length).length=(aF b).length:=by rw[ab5,ab8];omega
  have hb:∀ws,bx b (us.drop (aF a).length++ws)=bx b (us.drop (aF a).length):=fun ws=>by
   rw[e2,ab2,ihb _ h2,ihb _ h2]
  rw[xP,xP,ha,ab9 (by omega),hb,ab9 (by omega),ihc vs (by rw[ab8];omega)]
theorem kF {θ:Nat->aG} {k:Nat} {B B':List IT} {a b:IT} (hB:sV B) (ha:sc B.length a=true) (hb:sc B.length b=true) (h:iU k B a b=some (some B')):oz θ B'↔oz θ B/\fP θ a=fP θ b:=by
 simp only[iU]at h;split at h
 ·simp at h
 ·rename_i hu;simp at h;subst h;exact(we TE hB.sc ha hb hu).1 rfl
 ·simp at h
theorem zO {θ:Nat->aG} {k:Nat} {B:List IT} {a b:IT} (hB:sV B) (ha:sc B.length a=true) (hb:sc B.length b=true) (h:iU k B a b=some none):¬(oz θ B/\fP θ a=fP θ b):=by
 simp only[iU]at h;split at h
 ·simp at h
 ·simp at h
 ·rename_i hu;exact(we TE hB.sc ha hb hu).2 rfl
def AH (kd:Int) (ts:List aG) (t:aG):Prop:=
 (kd=2/\t=bt)\/((kd=3\/kd=4)/\t=cm)\/(∃x,ts=[.mk 5 [t,x]]/\kd=11)\/(∃x,ts=[.mk 5 [x,t]]/\kd=12)\/(∃x y,ts=[x,y]/\kd=10/\t=.mk 5 [x,y])\/(∃y,ts=[.mk 4 [y,t],y]/\kd=6)\/
  (ts=[bt,bt]/\kd=7/\t=bt)\/(ts=[bt,bt]/\kd=8/\t=cm)\/(ts=[cm,t,t]/\kd=9)
theorem jO {θ:Nat->aG} {k:Nat} {kd:Int} {B B':List IT} {ts:List IT} {t:IT} (hB:sV B) (bM:∀u∈ts,sc B.length u=true) (h:fz k kd B ts=some (some (B',t))) (hs:oz θ B'):oz θ B/\AH kd (ts.map (fP θ)) (fP θ t):=by
 have hN:=kQ.two B;have Eh:sV (B++[.v B.length,.v (B.length+1)]):=⟨hN.sc hB.sc,hN.ti hB.sc hB.ti⟩;have tg:(B++[IT.v B.length,IT.v (B.length+1)]).length=B.length+2:=by simp
 have up:∀{u:IT},sc B.length u=true->sc (B++[IT.v B.length,IT.v (B.length+1)]).length u=true:=fun h=>dm (by omega) h
 simp only[fz]at h;split at h
 ·rename_i hk;simp at h;obtain⟨rfl,rfl⟩:=h;exact⟨hs,.inl ⟨hk,rfl⟩⟩
 split at h
 ·rename_i hk;simp at h;obtain⟨rfl,rfl⟩:=h;exact⟨hs,.inr (.inl ⟨hk,rfl⟩)⟩
 split at h
 ·rename_i x;have hx:=bM x (by simp);split at h
  ·rename_i hk;simp only[acm]at h;obtain⟨r,h1,B2,rfl,h2⟩:=h;cases h2
   obtain⟨h3,h4⟩:=(kF Eh (up hx) (by simp[sc]) h1).1 hs;refine⟨hN.sat h3,?_⟩;rcases hk with rfl|rfl
   ·exact .inr (.inr (.inl ⟨_,by simp only[abS,abT,h4];rfl,rfl⟩))
   ·exact .inr (.inr (.inr (.inl ⟨_,by simp only[abS,abT,h4];rfl,rfl⟩)))
  ·simp at h
 ·rename_i x y;have hx:=bM x (by simp);have hy:=bM y (by simp);split at h
  ·rename_i hk;simp at h;obtain⟨rfl,rfl⟩:=h;exact⟨hs,.inr (.inr (.inr (.inr (.inl ⟨_,_,rfl,hk,rfl⟩))))⟩
  split at h
  ·rename_i hk;simp only[acm]at h;obtain⟨r,h1,B2,rfl,h2⟩:=h;cases h2
   obtain⟨h3,h4⟩:=(kF Eh (up hx) (by have:=up hy;simp[sc]at this⊢;exact this) h1).1 hs;exact⟨hN.sat h3,.inr (.inr (.inr (.inr (.inr (.inl ⟨_,by simp only[abS,abT,h4];rfl,hk⟩)))))⟩
  split at h
  ·rename_i hk;split at h
   ·rename_i B1 h1;obtain⟨h2,h3⟩:=gE hB hx rfl h1;simp only[acm]at h;obtain⟨r,h4,B2,rfl,h5⟩:=h;cases h5
    obtain⟨h6,h7⟩:=(kF h2 (by rw[h3];exact hy) rfl h4).1 hs;obtain⟨h8,h9⟩:=(kF hB hx rfl h1).1 h6;refine⟨h8,?_⟩;rcases hk with rfl|rfl
    ·exact .inr (.inr (.inr (.inr (.inr (.inr (.inl ⟨by simp only[abS,abT,h7,h9];rfl,rfl,rfl⟩))))))
    ·exact .inr (.inr (.inr (.inr (.inr (.inr (.inr (.inl ⟨by simp only[abS,abT,h7,h9];rfl,rfl,rfl⟩)))))))
   ·simp at h
   ·simp at h
  ·simp at h
 ·rename_i x y z;have hx:=bM x (by simp);have hy:=bM y (by simp);have hz:=bM z (by simp);split at h
  ·rename_i hk;split at h
   ·rename_i B1 h1;obtain⟨h2,h3⟩:=gE hB hx rfl h1;simp only[acm]at h;obtain⟨r,h4,B2,rfl,h5⟩:=h;cases h5
    obtain⟨h6,h7⟩:=(kF h2 (by rw[h3];exact hy) (by rw[h3];exact hz) h4).1 hs;obtain⟨h8,h9⟩:=(kF hB hx rfl h1).1 h6;exact⟨h8,.inr (.inr (.inr (.inr (.inr (.inr (.inr (.inr ⟨by simp only[abS,abT,h7,h9];rfl,hk⟩)))))))⟩
   ·simp at h
   ·simp at h
  ·simp at h
 ·simp at h
theorem mG {θ:Nat->aG} {kd:Int} {B:List IT} {ts:List IT} {T:aG} (hB:sV B) (bM:∀u∈ts,sc B.length u=true) (hs:oz θ B) (hn:AH kd (ts.map (fP θ)) T):
  ∃k B' t θ',fz k kd B ts=some (some (B',t))/\oz θ' B'/\(∀n,n<B.length->θ' n=θ n)/\fP θ' t=T:=by
 have hN:=kQ.two B;have Eh:sV (B++[.v B.length,.v (B.length+1)]):=⟨hN.sc hB.sc,hN.ti hB.sc hB.ti⟩;have tg:(B++[IT.v B.length,IT.v (B.length+1)]).length=B.length+2:=by simp
 have up:∀{u:IT},sc B.length u=true->sc (B++[IT.v B.length,IT.v (B.length+1)]).length u=true:=fun h=>dm (by omega) h
 have two:∀(a b:IT) (p q:aG),sc (B++[IT.v B.length,IT.v (B.length+1)]).length a=true->sc (B++[IT.v B.length,IT.v (B.length+1)]).length b=true->
   fP (fun n=>if n=B.length then p else if n=B.length+1 then q else θ n) a=fP (fun n=>if n=B.length then p else if n=B.length+1 then q else θ n) b->
   ∃k B',iU k (B++[.v B.length,.v (B.length+1)]) a b=some (some B')/\oz (fun n=>if n=B.length then p else if n=B.length+1 then q else θ n) B':=by
  intro a b p q ha hb he;have CJ:oz (fun n=>if n=B.length then p else if n=B.length+1 then q else θ n) (B++[.v B.length,.v (B.length+1)]):=hN.O8 hB.sc hs fun n hn=>by
   show(if n=B.length then p else if n=B.length+1 then q else θ n)=θ n;rw[if_neg (by omega),if_neg (by omega)]
  obtain⟨k,r,h⟩:=gN Eh ha hb;cases r with
  |none=>exact absurd ⟨CJ,he⟩ (zO Eh ha hb h)
  |some B'=>exact⟨k,B',h,(kF Eh ha hb h).2 ⟨CJ,he⟩⟩
 have one:∀{C:List IT} (a b:IT),sV C->oz θ C->sc C.length a=true->sc C.length b=true->fP θ a=fP θ b->∃k C',iU k C a b=some (some C')/\oz θ C':=by
  intro C a b hC TF ha hb he;obtain⟨k,r,h⟩:=gN hC ha hb;cases r with
  |none=>exact absurd ⟨TF,he⟩ (zO hC ha hb h)
  |some C'=>exact⟨k,C',h,(kF hC ha hb h).2 ⟨TF,he⟩⟩
 have Dg:∀{p q:aG} {u:IT},sc B.length u=true->fP (fun n=>if n=B.length then p else if n=B.length+1 then q else θ n) u=fP θ u:=fun{p q u} hu=>dW (N:=B.length) (fun n hn=>by
  show(if n=B.length then p else if n=B.length+1 then q else θ n)=θ n;rw[if_neg (by omega),if_neg (by omega)]) hu
 have hold:∀{p q:aG} (n:Nat),n<B.length->(fun n=>if n=B.length then p else if n=B.length+1 then q else θ n) n=θ n:=fun{p q} n hn=>by
  show(if n=B.length then p else if n=B.length+1 then q else θ n)=θ n;rw[if_neg (by omega),if_neg (by omega)]
 rcases hn with⟨rfl,rfl⟩|⟨hk,rfl⟩|⟨X,he,rfl⟩|⟨X,he,rfl⟩|⟨X,Y,he,rfl,rfl⟩|⟨Y,he,rfl⟩|⟨he,rfl,rfl⟩|⟨he,rfl,rfl⟩|⟨he,rfl⟩
 ·exact⟨0,B,.b 2,θ,by simp[fz],hs,fun _ _=>rfl,rfl⟩
 ·exact⟨0,B,.b 3,θ,by simp only[fz];rw[if_neg (by omega),if_pos hk],hs,fun _ _=>rfl,rfl⟩
 ·obtain⟨x,rfl⟩:=acf.1 (show ts.length=_ by simpa using congrArg abW he);have hx:=bM x (by simp);simp at he;obtain⟨k,B',h1,h2⟩:=two x (.p 5 (.v B.length) (.v (B.length+1))) T X (up hx) (by simp[sc]) (by rw[Dg hx,he];simp[iK,um]);exact⟨k,B',.v B.length,_,by simp[fz,h1],h2,hold,by simp[iK]⟩
 ·obtain⟨x,rfl⟩:=acf.1 (show ts.length=_ by simpa using congrArg abW he);have hx:=bM x (by simp);simp at he;obtain⟨k,B',h1,h2⟩:=two x (.p 5 (.v B.length) (.v (B.length+1))) X T (up hx) (by simp[sc]) (by rw[Dg hx,he];simp[iK,um]);exact⟨k,B',.v (B.length+1),_,by simp[fz,h1],h2,hold,by simp[iK]⟩
 ·obtain⟨x,y,rfl⟩:=IF (show ts.length=_ by simpa using congrArg abW he);simp at he;exact⟨0,B,.p 5 x y,θ,by simp[fz],hs,fun _ _=>rfl,by simp[iK,um,he]⟩
 ·obtain⟨x,y,rfl⟩:=IF (show ts.length=_ by simpa using congrArg abW he);have hx:=bM x (by simp);have hy:=bM y (by simp);simp at he;obtain⟨k,B',h1,h2⟩:=two x (.p 4 y (.v B.length)) T T (up hx) (by have:=up hy;simp[sc]at this⊢;exact this) (by rw[Dg hx,he.1];simp only[iK,um];rw[show iK um _ y=fP θ y from Dg hy,he.2];simp);exact⟨k,B',.v B.length,_,by simp[fz,h1],h2,hold,by simp[iK]⟩
 ·obtain⟨x,y,rfl⟩:=IF (show ts.length=_ by simpa using congrArg abW he);have hx:=bM x (by simp);have hy:=bM y (by simp);simp at he;obtain⟨k,B1,h1,h2⟩:=one x (.b 2) hB hs hx rfl he.1;obtain⟨h3,h4⟩:=gE hB hx rfl h1;obtain⟨j,B2,h5,h6⟩:=one y (.b 2) h3 h2 (by rw[h4];exact hy) rfl he.2;exact⟨max k j,B2,.b 2,θ,by simp[fz,eY (abI k j) h1,eY (abH k j) h5],h6,fun _ _=>rfl,rfl⟩
 ·obtain⟨x,y,rfl⟩:=IF (show ts.length=_ by simpa using congrArg abW he);have hx:=bM x (by simp);have hy:=bM y (by simp);simp at he;obtain⟨k,B1,h1,h2⟩:=one x (.b 2) hB hs hx rfl he.1;obtain⟨h3,h4⟩:=gE hB hx rfl h1;obtain⟨j,B2,h5,h6⟩:=one y (.b 2) h3 h2 (by rw[h4];exact hy) rfl he.2;exact⟨max k j,B2,.b 3,θ,by simp[fz,eY (abI k j) h1,eY (abH k j) h5],h6,fun _ _=>rfl,rfl⟩
 ·obtain⟨x,y,z,rfl⟩:=O9 (show ts.length=_ by simpa using congrArg abW he);have hx:=bM x (by simp);have hy:=bM y (by simp);have hz:=bM z (by simp);simp at he;obtain⟨k,B1,h1,h2⟩:=one x (.b 3) hB hs hx rfl he.1;obtain⟨h3,h4⟩:=gE hB hx rfl h1;obtain⟨j,B2,h5,h6⟩:=one y z h3 h2 (by rw[h4];exact hy) (by rw[h4];exact hz) (by rw[he.2.1,he.2.2]);exact⟨max k j,B2,y,θ,by simp[fz,eY (abI k j) h1,eY (abH k j) h5],h6,fun _ _=>rfl,he.2.1⟩
mutual
theorem ux:∀t:aG,bG t t=t
 |.mk k l=>by
  simp only[bG];split
  ·rfl
  ·first
   |rw[rK l]
   |(split;rfl;rw[rK l])
theorem rK:∀l:List aG,j8 l l=l
 |[]=>rfl
 |t::r=>by rw[j8,ux t,rK r]
end
mutual
theorem ni:∀t:aG,aE t t=true
 |.mk k l=>by
  simp only[aE];simp[xQ l]
theorem xQ:∀l:List aG,gz l l=true
 |[]=>rfl
 |t::r=>by simp[gz,ni t,xQ r]
end
theorem rL {ctx:List dt} {kd:Int} {s:List UInt8} {ty:aG} {ts:List aG} {t:aG} (h:AH kd ts t):(∀T,bH ctx kd s ty ts=some T->T=t)/\(ak 4 t=true->bH ctx kd s ty ts=some t):=by
 rcases h with⟨rfl,rfl⟩|⟨hk,rfl⟩|⟨X,rfl,rfl⟩|⟨X,rfl,rfl⟩|⟨X,Y,rfl,rfl,rfl⟩|⟨Y,rfl,rfl⟩|⟨rfl,rfl,rfl⟩|⟨rfl,rfl,rfl⟩|⟨rfl,rfl⟩
 ·simp[bH]<;>try exact fun T h=>h.symm
 ·rcases hk with rfl|rfl<;>simp[bH]<;>try exact fun T h=>h.symm
 ·simp[bH,ch]<;>try exact fun T h=>h.symm
 ·simp[bH,ch]<;>try exact fun T h=>h.symm
 ·simp only[bH,nS];refine⟨fun T h=>?_,fun hs=>?_⟩
  ·simp at h;exact h.2.symm
  ·simp[hs]
 ·simp[bH,ch,ni]<;>try exact fun T h=>h.symm
 ·simp[bH,ni]<;>try exact fun T h=>h.symm
 ·simp[bH,ni]<;>try exact fun T h=>h.symm
 ·simp[bH,ni,ux]<;>try exact fun T h=>h.symm
theorem pW {ctx:List dt} {kd:Int} {s:List UInt8} {ty:aG} {ts:List aG} {T:aG} (fx:kd≠1/\kd≠5/\kd≠13) (bM:∀u∈ts,ak 4 u=true/\eN u=0) (h:bH ctx kd s ty ts=some T):AH kd ts T/\eN T=0:=by
 simp only[bH,if_neg fx.1]at h;split at h
 ·rename_i hk;simp at h;subst h;exact⟨.inl ⟨hk,rfl⟩,rfl⟩
 split at h
 ·rename_i hk;simp at h;subst h;exact⟨.inr (.inl ⟨hk,rfl⟩),rfl⟩
 split at h
 ·rename_i a;obtain⟨h1,h2⟩:=bM a (by simp);rw[if_neg fx.2.1]at h;split at h
  ·rename_i hk;simp only[acm]at h;obtain⟨⟨x,y⟩,h3,rfl⟩:=h;obtain⟨rfl,h4,h5⟩:=om (.inr rfl) h3 h1 h2;exact⟨.inr (.inr (.inl ⟨y,rfl,hk⟩)),h4⟩
  split at h
  ·rename_i hk;simp only[acm]at h;obtain⟨⟨x,y⟩,h3,rfl⟩:=h;obtain⟨rfl,h4,h5⟩:=om (.inr rfl) h3 h1 h2;exact⟨.inr (.inr (.inr (.inl ⟨x,rfl,hk⟩))),h5⟩
  ·rw[if_neg fx.2.2]at h;simp at h
 ·rename_i a b;obtain⟨h1,h2⟩:=bM a (by simp);obtain⟨h3,h4⟩:=bM b (by simp);split at h
  ·rename_i hk;split at h
   ·rename_i x y hm;obtain⟨rfl,h5,h6⟩:=om (.inl rfl) hm h1 h2;split at h
    ·rename_i hc;simp at h;subst h;have hx:ak 4 x=true:=by
      have:=(jq.of h1);cases this with
      |fn g1 g2=>exact cc g1.shape
     have:=fO (jq.of h3) (jq.of hx) h4 h5 hc;subst this;exact⟨.inr (.inr (.inr (.inr (.inr (.inl ⟨_,rfl,hk⟩))))),h6⟩
    ·simp at h
   ·simp at h
  split at h
  ·rename_i hk;split at h
   ·rename_i hc;simp at h;subst h;have e1:=fO (jq.of h1) (jq.int 0) h2 rfl hc.1;have e2:=fO (jq.of h3) (jq.int 0) h4 rfl hc.2;subst e1;subst e2;exact⟨.inr (.inr (.inr (.inr (.inr (.inr (.inl ⟨rfl,hk,rfl⟩)))))),rfl⟩
   ·simp at h
  split at h
  ·rename_i hk;split at h
   ·rename_i hc;simp at h;subst h;have e1:=fO (jq.of h1) (jq.int 0) h2 rfl hc.1;have e2:=fO (jq.of h3) (jq.int 0) h4 rfl hc.2;subst e1;subst e2;exact⟨.inr (.inr (.inr (.inr (.inr (.inr (.inr (.inl ⟨rfl,hk,rfl⟩))))))),rfl⟩
   ·simp at h
  split at h
  ·rename_i hk;simp only[nS]at h;split at h
   ·simp at h;subst h;exact⟨.inr (.inr (.inr (.inr (.inl ⟨_,_,rfl,hk,rfl⟩)))),by rw[mu (by omega)];omega⟩
   ·simp at h
  ·simp at h
 ·rename_i a b c;obtain⟨h1,h2⟩:=bM a (by simp);obtain⟨h3,h4⟩:=bM b (by simp);obtain⟨h5,h6⟩:=bM c (by simp);split at h
  ·rename_i hk;split at h
   ·rename_i hc;simp at h;subst h;have e1:=fO (jq.of h1) (jq.bool 0) h2 rfl hc.2;have e2:=fO (jq.of h3) (jq.of h5) h4 h6 hc.1;subst e1;subst e2;rw[ux];exact⟨.inr (.inr (.inr (.inr (.inr (.inr (.inr (.inr ⟨rfl,hk⟩))))))),h4⟩
   ·simp at h
  ·simp at h
 ·simp at h
theorem AI {θ:Nat->aG} {k:Nat} {e:al} (he:Ba e):∀{B ls B' ls':List IT} {ns:List UInt8} {ts:List IT} {t:IT},sV B->xL B ns ts->inf k e B ls ns ts=some (some (B',ls',t))->oz θ B'->oz θ B:=by
 induction he with
 |var c=>
  intro B ls B' ls' ns ts t hB hc h hs;rw[kh]at h;simp only[Option.some.injEq]at h;split at h
  ·simp only[acm]at h;obtain⟨u,_,h2⟩:=h;cases h2;exact hs
  ·simp at h
 |num n=>intro B ls B' ls' ns ts t hB hc h hs;rw[qn]at h;cases h;exact hs
 |tQ=>intro B ls B' ls' ns ts t hB hc h hs;rw[qo]at h;cases h;exact hs
 |tR=>intro B ls B' ls' ns ts t hB hc h hs;rw[qp]at h;cases h;exact hs
 | @lam c ty b _ ih=>
  intro B ls B' ls' ns ts t hB hc h hs;rw[lk]at h;simp only[acm]at h;obtain⟨q,h1,r,rfl,h2⟩:=h;cases h2
  have hN:=kQ.one B;exact hN.sat (ih ⟨hN.sc hB.sc,hN.ti hB.sc hB.ti⟩ ⟨by simp[hc.len],fun u hu=>by
   rcases abR.1 hu with q|q
   ·exact dm hN.le (hc.Gq u q)
   ·simp at q;subst q;simp[sc]⟩ h1 hs)
 | @n1 kd a fx ha ih=>
  intro B ls B' ls' ns ts t hB hc h hs;rw[rH _ _ _ _ _ fx]at h;split at h
  ·rename_i B1 ls1 u h1;have g:=fh ha hB hc h1;simp only[acm]at h;obtain⟨q,h2,r,rfl,h3⟩:=h;obtain⟨B2,w⟩:=r;cases h3
   exact ih hB hc h1 (jO g.ok (by simpa using g.tj) h2 hs).1
  ·simp at h
  ·simp at h
 | @n2 kd a b fx ha hb iha ihb=>
  intro B ls B' ls' ns ts t hB hc h hs;rw[pU _ _ _ _ _ fx]at h;split at h
  ·rename_i B1 ls1 u h1;have g:=fh ha hB hc h1;split at h
   ·rename_i B2 ls2 v h2;have g2:=fh hb g.ok (hc.le g.le) h2;simp only[acm]at h;obtain⟨q,h3,r,rfl,h4⟩:=h;obtain⟨B3,w⟩:=r;cases h4
    exact iha hB hc h1 (ihb g.ok (hc.le g.le) h2 (jO g2.ok (by simp;exact⟨dm g2.le g.tj,g2.tj⟩) h3 hs).1)
   ·simp at h
   ·simp at h
  ·simp at h
  ·simp at h
 | @ite a b c ha hb oZ iha ihb ihc=>
  intro B ls B' ls' ns ts t hB hc h hs;rw[ov]at h;split at h
  ·rename_i B1 ls1 u h1;have g:=fh ha hB hc h1;split at h
   ·rename_i B2 ls2 v h2;have g2:=fh hb g.ok (hc.le g.le) h2;split at h
    ·rename_i B3 ls3 w h3;have g3:=fh oZ g2.ok ((hc.le g.le).le g2.le) h3;simp only[acm]at h;obtain⟨q,h4,r,rfl,h5⟩:=h;obtain⟨B4,w⟩:=r;cases h5
     exact iha hB hc h1 (ihb g.ok (hc.le g.le) h2 (ihc g2.ok ((hc.le g.le).le g2.le) h3 (jO g3.ok (by simp;exact⟨dm (abM g2.le g3.le) g.tj,dm g3.le g2.tj,g3.tj⟩) h4 hs).1))
    ·simp at h
    ·simp at h
   ·simp at h
   ·simp at h
  ·simp at h
  ·simp at h
inductive DL:aG->aG->Prop
 |int (b:aG):DL bt b
 |base (k:Int):DL (.mk k []) (.mk k [])
 |two {k:Int} {a b a' b':aG}:DL a a'->DL b b'->DL (.mk k [a,b]) (.mk k [a',b'])
theorem DL.shape {a b:aG} (h:DL a b):∀{d:Nat},ak d b=true->ak d a=true:=by
 induction h with
 |int b=>
  intro d hb;cases d with
  |zero=>simp[ak]at hb
  |succ d=>exact(jq.int d).shape
 |base k=>intro d hb;exact hb
 |two _ _ h1 h2=>
  intro d hb;cases d with
  |zero=>simp[ak]at hb
  |succ d=>
   simp only[ak,abG,decide_eq_true_eq,ack]at hb⊢;simp only[aG.b4,aG.bP,abV,ab0,or_false]at hb⊢;refine⟨hb.1,fun u hu=>?_⟩;rcases hu with rfl|rfl
   ·exact h1 (hb.2 _ (.inl rfl))
   ·exact h2 (hb.2 _ (.inr rfl))
def ir:IT->Prop
 |.v _=>True
 |.b k=>k=2\/k=3
 |.p k x y=>(k=4\/k=5)/\ir x/\ir y
theorem xR {θ0 θ:Nat->aG} {N:Nat} (h:∀n,n<N->DL (θ0 n) (θ n)):∀{t:IT},sc N t=true->DL (fP θ0 t) (fP θ t)
 |.v n,hs=>h n (by simpa[sc]using hs)
 |.b k,_=>.base k
 |.p k x y,hs=>by
  rw[sc,abG]at hs;exact .two (xR h hs.1) (xR h hs.2)
structure Vl (θ:Nat->aG) (B ls:List IT) (ns:List UInt8) (ts:List IT) (e:al) (T:aG):Prop where
 Vm:eN T=0
 ex:∃k B' new t θ',inf k e B ls ns ts=some (some (B',ls++new,t))/\oz θ' B'/\(∀n,n<B.length->θ' n=θ n)/\fP θ' t=T/\(∀u∈new,ak 4 (fP θ' u)=true)/\
  ∀θ0,oz θ0 B'->(∀n,n<B'.length->DL (θ0 n) (θ' n))->bO (pV θ0 ns ts) (bx e (new.map (fP θ0)))=some (fP θ0 t)
theorem jP {θ θ':Nat->aG} {B:List IT} {ns:List UInt8} {ts:List IT} (hc:xL B ns ts) (h:∀n,n<B.length->θ' n=θ n):pV θ' ns ts=pV θ ns ts:=by
 simp only[pV];apply List.ext_getElem?;intro i;simp only[List.getElem?_zipWith];cases hn:ns[i]? with
 |none=>rfl
 |some c=>
  cases ht:ts[i]? with
  |none=>rfl
  |some t=>simp only[fP,dW h (hc.Gq t (abX ht))]
def RX (c:List dt):Prop:=∀b∈c,ak 4 b.ty=true/\eN b.ty=0
theorem zP:∀{c:List dt} {s:List UInt8} {t:aG},cK c s=some t->∃b∈c,b.ty=t
 |b::r,s,t,h=>by
  simp only[cK]at h;split at h
  ·rename_i u hu;cases h;obtain⟨x,h1,h2⟩:=zP hu;exact⟨x,by simp[h1],h2⟩
  ·split at h
   ·cases h;exact⟨b,by simp,rfl⟩
   ·cases h
theorem AJ {d:Nat} {e:al} (he:jF 14 d e):(∀u∈aF e,eN u=0)->∀{θ:Nat->aG} {B ls:List IT} {ns:List UInt8} {ts:List IT} {T:aG},sV B->xL B ns ts->oz θ B->RX (pV θ ns ts)->bO (pV θ ns ts) e=some T->
  Vl θ B ls ns ts (mapM aK e) T:=by
 induction he with
 | @var d s _ hs=>
  intro _ θ B ls ns ts T hB hc oW ft hT;obtain⟨c,rfl,_⟩:=qj hs;rw[show mapM aK (pG [c])=pG [c] by simp[mapM,eb,aK]];rw[zf]at hT;obtain⟨b,th,HO⟩:=zP hT;refine⟨by rw[<-HO];exact(ft b th).2,?_⟩;rw[La θ c hc.len]at hT;split at hT
  ·rename_i oC;simp only[acm]at hT;obtain⟨t,h1,rfl⟩:=hT;refine⟨0,B,[],t,θ,?_,oW,fun _ _=>rfl,rfl,by simp,fun θ0 _ _=>?_⟩
   ·rw[kh,if_pos oC,h1];simp
   ·rw[uq,zf,La θ0 c hc.len,if_pos oC,h1];rfl
  ·cases hT
 | @num d n _ _ _=>
  intro _ θ B ls ns ts T hB hc oW ft hT;rw[zg]at hT;cases hT;rw[show mapM aK (rm n)=rm n by simp[mapM,eb,aK]];exact⟨rfl,0,B,[],.b 2,θ,by rw[qn];simp,oW,fun _ _=>rfl,rfl,by simp,fun θ0 _ _=>by rw[ur,zg];rfl⟩
 |tQ _=>
  intro _ θ B ls ns ts T hB hc oW ft hT;rw[wU]at hT;cases hT;rw[show mapM aK lH=lH by simp[mapM,eb,aK]];exact⟨rfl,0,B,[],.b 3,θ,by rw[qo];simp,oW,fun _ _=>rfl,rfl,by simp,fun θ0 _ _=>by rw[uu,wU];rfl⟩
 |tR _=>
  intro _ θ B ls ns ts T hB hc oW ft hT;rw[u5]at hT;cases hT;rw[show mapM aK iO=iO by simp[mapM,eb,aK]];exact⟨rfl,0,B,[],.b 3,θ,by rw[qp];simp,oW,fun _ _=>rfl,rfl,by simp,fun θ0 _ _=>by rw[uv,u5];rfl⟩
 | @lam d s ty b _ hs yh hb ih=>
  intro pX θ B ls ns ts T hB hc oW ft hT;obtain⟨c,rfl,_⟩:=qj hs;rw[show mapM aK (nY [c] ty b)=nY [c] kM (mapM aK b) by simp[mapM,eb,aK]];rw[zh]at hT;simp only[aco]at hT;obtain⟨U,hU,hT⟩:=hT;have hN:=kQ.one B;have Mr:sV (B++[.v B.length]):=⟨hN.sc hB.sc,hN.ti hB.sc hB.ti⟩;have uK:xL (B++[.v B.length]) (ns++[c]) (ts++[.v B.length]):=⟨by simp[hc.len],fun u hu=>by
   rcases abR.1 hu with q|q
   ·exact dm hN.le (hc.Gq u q)
   ·simp at q;subst q;simp[sc]⟩
  have Dk:∀n,n<B.length->(fun n=>if n=B.length then ty else θ n) n=θ n:=fun n hn=>by
   show(if n=B.length then ty else θ n)=θ n;rw[if_neg (by omega)]
  have Pa:pV (fun n=>if n=B.length then ty else θ n) (ns++[c]) (ts++[.v B.length])=pV θ ns ts++[⟨[c],ty⟩]:=by
   rw[xM _ c _ hc.len,jP hc Dk];simp[iK]
  have RY:eN ty=0:=pX ty (by simp[aF,az,br]);obtain⟨q1,k,B',new,t,θ',q2,q3,q4,q5,q6,q7⟩:=ih (fun u hu=>pX u (by simp[aF,az,br];exact .inr (by simpa[aF]using hu))) (θ:=fun n=>if n=B.length then ty else θ n) (ls:=ls++[.v B.length]) (T:=U) Mr uK (hN.O8 hB.sc oW Dk) (by
   rw[Pa];intro b' dN;rcases abR.1 dN with q|q
   ·exact ft b' q
   ·simp at q;subst q;exact⟨yh,RY⟩) (by rw[Pa];exact hU)
  have GY:=Ba.of hb;have g:=fh GY Mr uK q2;have ax:B.length<B'.length:=by have:=g.le;simp at this;omega
  have hv:θ' B.length=ty:=by rw[q4 _ (by simp)];simp
  simp only[nS]at hT;split at hT
  ·rename_i h2;cases hT
   refine⟨by rw[mu (by omega)];omega,k,B',.v B.length::new,.p 4 (.v B.length) t,θ',?_,q3,fun n hn=>by rw[q4 n (by simp;omega)];exact Dk n hn,?_,fun u hu=>?_,fun θ0 Be yj=>?_⟩
   ·rw[lk,q2];simp
   ·simp only[iK,um,hv];rw[show iK um θ' t=U from q5]
   ·rcases abV.1 hu with rfl|q
    ·simp only[iK,hv];exact yh
    ·exact q6 u q
   ·rw[abS,uo,zh];have h3:=q7 θ0 Be yj;rw[xM θ0 c _ hc.len]at h3;rw[h3];have C3:DL (fP θ0 (.p 4 (.v B.length) t)) (fP θ' (.p 4 (.v B.length) t)):=xR yj (by simp[sc,g.tj];exact ax);have jK:=C3.shape (d:=4) (by simp only[iK,um,hv];rw[show iK um θ' t=U from q5];exact h2);simp only[iK,um]at jK;simp[nS,iK,um,jK]
  ·cases hT
 | @n2 d kd a b _ fx ha hb iha ihb=>
  intro pX θ B ls ns ts T hB hc oW ft hT;have xf:kd≠5:=by omega
  rw[show mapM aK (yg kd a b)=yg kd (mapM aK a) (mapM aK b) by simp[mapM,eb,aK,show¬(kd=13\/kd=14) by omega,xf]];rw[wV _ _ _ xf]at hT;simp only[aco]at hT;obtain⟨X,hX,Y,hY,hT⟩:=hT;rw[qv fx]at pX;obtain⟨c1,k1,B1,pj,t1,θ1,p1,p2,p3,p4,p5,p6⟩:=iha (fun u hu=>pX u (by simp[hu])) (ls:=ls) hB hc oW ft hX;have GY:=Ba.of ha;have Gd:=Ba.of hb;have g1:=fh GY hB hc p1;obtain⟨c2,k2,B2,vP,t2,θ2,r1,r2,r3,r4,r5,r6⟩:=ihb (fun u hu=>pX u (by simp[hu])) (θ:=θ1) (ls:=ls++pj) g1.ok (hc.le g1.le) p2 (by rw[jP hc p3];exact ft) (by rw[jP hc p3];exact hY);have g2:=fh Gd g1.ok (hc.le g1.le) r1;have e1:fP θ2 t1=X:=by rw[<-p4];exact dW r3 g1.tj
  have Jg:ak 4 X=true:=cN a d 14 _ X ha.shape (fun b' dN=>(ft b' dN).1) hX;have RZ:ak 4 Y=true:=cN b d 14 _ Y hb.shape (fun b' dN=>(ft b' dN).1) hY;obtain⟨n1,n2⟩:=pW (by omega) (by simp;exact⟨⟨Jg,c1⟩,RZ,c2⟩) hT;have Pb:ak 4 T=true:=by
   refine cN (yg kd a b) (d+1) 14 _ T (jF.n2 (by omega) fx ha hb).shape (fun b' dN=>(ft b' dN).1) ?_;rw[wV _ _ _ xf,hX,acn,hY,acn];exact hT
  have xS:∀u∈[t1,t2],sc B2.length u=true:=by simp;exact⟨dm g2.le g1.tj,g2.tj⟩
  obtain⟨k3,B3,t3,θ3,s1,s2,s3,s4⟩:=mG (kd:=kd) (T:=T) g2.ok xS r2 (by simp only[abS,abT,e1,show fP θ2 t2=Y from r4];exact n1);have g3:=qt g2.ok xS s1;refine⟨n2,max (max k1 k2) k3,B3,pj++vP,t3,θ3,?_,s2,fun n hn=>?_,s4,fun u hu=>?_,fun θ0 Be yj=>?_⟩
  ·rw[pU _ _ _ _ _ fx,inf_le (by omega) GY p1];simp only;rw[inf_le (by omega) Gd r1];simp only;rw[ll (abH _ _) s1];simp
  ·have h1:=g1.le;have h2:=g2.le;rw[s3 n (by omega),r3 n (by omega),p3 n hn]
  ·have h3:fP θ3 u=fP θ2 u:=by
    refine dW s3 ?_;rcases abR.1 hu with q|q
    ·obtain⟨n',q1,_,q3⟩:=g1.yQ;rw[abU]at q1;subst q1;exact dm g2.le (q3 u q)
    ·obtain⟨n',q1,_,q3⟩:=g2.yQ;rw[abU]at q1;subst q1;exact q3 u q
   rw[h3];rcases abR.1 hu with q|q
   ·obtain⟨n',q1,_,q3⟩:=g1.yQ;rw[abU]at q1;subst q1;rw[show fP θ2 u=fP θ1 u from dW r3 (q3 u q)];exact p5 u q
   ·exact r5 u q
  ·obtain⟨v1,v2⟩:=jO g2.ok xS s1 Be;have v3:=AI Gd g1.ok (hc.le g1.le) r1 v1;have jk:∀n,n<B2.length->DL (θ0 n) (θ2 n):=fun n hn=>by rw[<-s3 n hn];exact yj n (abL hn g3.le)
   have gk:∀n,n<B1.length->DL (θ0 n) (θ1 n):=fun n hn=>by rw[<-r3 n hn];exact jk n (abL hn g2.le)
   obtain⟨m1,q1,l1,_⟩:=g1.yQ;rw[abU]at q1;subst q1;have e2:(pj.map (fP θ0)).length=(aF (mapM aK a)).length:=by rw[ab7,l1]
   rw[ab4,xO fx,uw GY _ e2,ab1 e2,wV _ _ _ xf,p6 θ0 v3 gk,acn,r6 θ0 v1 jk,acn];have C3:DL (fP θ0 t3) (fP θ3 t3):=xR yj g3.tj;rw[show fP θ3 t3=T from s4]at C3;exact(rL v2).2 (C3.shape Pb)
 | @ite d a b c _ ha hb oZ iha ihb ihc=>
  intro pX θ B ls ns ts T hB hc oW ft hT;rw[show mapM aK (BM a b c)=BM (mapM aK a) (mapM aK b) (mapM aK c) by simp[mapM,eb,aK]];have EY:=hT;rw[BP]at hT;simp only[aco]at hT;obtain⟨X,hX,Y,hY,Z,hZ,hT⟩:=hT;rw[qw]at pX;obtain⟨c1,k1,B1,pj,t1,θ1,p1,p2,p3,p4,p5,p6⟩:=iha (fun u hu=>pX u (by simp[hu])) (ls:=ls) hB hc oW ft hX;have GY:=Ba.of ha;have Gd:=Ba.of hb;have KX:=Ba.of oZ;have g1:=fh GY hB hc p1;obtain⟨c2,k2,B2,vP,t2,θ2,r1,r2,r3,r4,r5,r6⟩:=ihb (fun u hu=>pX u (by simp[hu])) (θ:=θ1) (ls:=ls++pj) g1.ok (hc.le g1.le) p2 (by rw[jP hc p3];exact ft) (by rw[jP hc p3];exact hY);have g2:=fh Gd g1.ok (hc.le g1.le) r1;have r3':∀n,n<B.length->θ2 n=θ n:=fun n hn=>by rw[r3 n (by have:=g1.le;omega),p3 n hn]
  obtain⟨c3,k3,B3,new3,t3,θ3,w1,w2,w3,w4,w5,w6⟩:=ihc (fun u hu=>pX u (by simp[hu])) (θ:=θ2) (ls:=ls++pj++vP) g2.ok ((hc.le g1.le).le g2.le) r2 (by rw[jP hc r3'];exact ft) (by rw[jP hc r3'];exact hZ);have g3:=fh KX g2.ok ((hc.le g1.le).le g2.le) w1;have e1:fP θ3 t1=X:=by
   rw[<-p4,show fP θ3 t1=fP θ2 t1 from dW w3 (dm g2.le g1.tj)];exact dW r3 g1.tj
  have e2:fP θ3 t2=Y:=by rw[<-r4];exact dW w3 g2.tj
  have Jg:ak 4 X=true:=cN a d 14 _ X ha.shape (fun b' dN=>(ft b' dN).1) hX;have RZ:ak 4 Y=true:=cN b d 14 _ Y hb.shape (fun b' dN=>(ft b' dN).1) hY;have e5:ak 4 Z=true:=cN c d 14 _ Z oZ.shape (fun b' dN=>(ft b' dN).1) hZ;have HV:bH [] 9 [] aW [X,Y,Z]=some T:=by simpa[bH]using hT
  obtain⟨n1,n2⟩:=pW (by omega) (by simp;exact⟨⟨Jg,c1⟩,⟨RZ,c2⟩,e5,c3⟩) HV;have Pb:ak 4 T=true:=cN (BM a b c) (d+1) 14 _ T (jF.ite (by omega) ha hb oZ).shape (fun b' dN=>(ft b' dN).1) EY;have xS:∀u∈[t1,t2,t3],sc B3.length u=true:=by simp;exact⟨dm (abM g2.le g3.le) g1.tj,dm g3.le g2.tj,g3.tj⟩
  obtain⟨k4,B4,t4,θ4,s1,s2,s3,s4⟩:=mG (kd:=9) (T:=T) g3.ok xS w2 (by simp only[abS,abT,e1,e2,show fP θ3 t3=Z from w4];exact n1);have g4:=qt g3.ok xS s1;obtain⟨m1,q1,l1,j1⟩:=g1.yQ;rw[abU]at q1;subst q1;obtain⟨m2,q2,l2,j2⟩:=g2.yQ;rw[abU]at q2;subst q2;obtain⟨m3,q3,l3,j3⟩:=g3.yQ;rw[abU]at q3;subst q3;refine⟨n2,max (max (max k1 k2) k3) k4,B4,pj++vP++new3,t4,θ4,?_,s2,fun n hn=>?_,s4,fun u hu=>?_,fun θ0 Be yj=>?_⟩
  ·rw[ov,inf_le (by omega) GY p1];simp only;rw[inf_le (by omega) Gd r1];simp only;rw[inf_le (by omega) KX w1];simp only;rw[ll (abH _ _) s1];simp
  ·have h1:=g1.le;have h2:=g2.le;have h3:=g3.le;rw[s3 n (by omega),w3 n (by omega),r3' n hn]
  ·rcases abR.1 hu with q|q
   ·rcases abR.1 q with q|q
    ·rw[show fP θ4 u=fP θ3 u from dW s3 (dm (abM g2.le g3.le) (j1 u q)),show fP θ3 u=fP θ2 u from dW w3 (dm g2.le (j1 u q)),show fP θ2 u=fP θ1 u from dW r3 (j1 u q)];exact p5 u q
    ·rw[show fP θ4 u=fP θ3 u from dW s3 (dm g3.le (j2 u q)),show fP θ3 u=fP θ2 u from dW w3 (j2 u q)];exact r5 u q
   ·rw[show fP θ4 u=fP θ3 u from dW s3 (j3 u q)];exact w5 u q
  ·obtain⟨v1,v2⟩:=jO g3.ok xS s1 Be;have v3:=AI KX g2.ok ((hc.le g1.le).le g2.le) w1 v1;have v4:=AI Gd g1.ok (hc.le g1.le) r1 v3;have nM:∀n,n<B3.length->DL (θ0 n) (θ3 n):=fun n hn=>by rw[<-s3 n hn];exact yj n (abL hn g4.le)
   have jk:∀n,n<B2.length->DL (θ0 n) (θ2 n):=fun n hn=>by rw[<-w3 n hn];exact nM n (abL hn g3.le)
   have gk:∀n,n<B1.length->DL (θ0 n) (θ1 n):=fun n hn=>by rw[<-r3 n hn];exact jk n (abL hn g2.le)
   have f1:(pj.map (fP θ0)).length=(aF (mapM aK a)).length:=by rw[ab7,l1]
   have f2:(vP.map (fP θ0)).length=(aF (mapM aK b)).length:=by rw[ab7,l2]
   rw[ab4,ab4,xP,ab2,uw GY _ f1,ab1 f1,uw Gd _ f2,<-ach,ab1 f1,ab1 f2,BP,p6 θ0 v4 gk,acn,r6 θ0 v3 jk,acn,w6 θ0 v1 nM,acn];have C3:DL (fP θ0 t4) (fP θ4 t4):=xR yj g4.tj;rw[show fP θ4 t4=T from s4]at C3;have:=(rL (ctx:=[]) (s:=[]) (ty:=aW) v2).2 (C3.shape Pb);simpa[bH]using this
 | @n1 d kd a _ fx ha ih=>
  intro pX θ B ls ns ts T hB hc oW ft hT;have EY:=hT;rw[show mapM aK (Bf kd a)=Bf kd (mapM aK a) by simp[mapM,eb,aK,show¬(kd=13\/kd=14) by omega,show¬kd=5 by omega]];rw[BO _ _ fx]at hT;simp only[aco]at hT;obtain⟨X,hX,hT⟩:=hT;rw[qu fx]at pX;obtain⟨c1,k1,B1,pj,t1,θ1,p1,p2,p3,p4,p5,p6⟩:=ih pX (ls:=ls) hB hc oW ft hX;have GY:=Ba.of ha;have g1:=fh GY hB hc p1;have Jg:ak 4 X=true:=cN a d 14 _ X ha.shape (fun b' dN=>(ft b' dN).1) hX;obtain⟨n1,n2⟩:=pW (by omega) (by simp;exact⟨Jg,c1⟩) hT;have Pb:ak 4 T=true:=cN (Bf kd a) (d+1) 14 _ T (jF.n1 (by omega) fx ha).shape (fun b' dN=>(ft b' dN).1) EY;have xS:∀u∈[t1],sc B1.length u=true:=by simpa using g1.tj
  obtain⟨k3,B3,t3,θ3,s1,s2,s3,s4⟩:=mG (kd:=kd) (T:=T) g1.ok xS p2 (by simp only[abS,abT,show fP θ1 t1=X from p4];exact n1);have g3:=qt g1.ok xS s1;refine⟨n2,max k1 k3,B3,pj,t3,θ3,?_,s2,fun n hn=>?_,s4,fun u hu=>?_,fun θ0 Be yj=>?_⟩
  ·rw[rH _ _ _ _ _ fx,inf_le (abI _ _) GY p1];simp only;rw[ll (abH _ _) s1];simp
  ·have h1:=g1.le;rw[s3 n (by omega),p3 n hn]
  ·obtain⟨n',q1,_,q3⟩:=g1.yQ;rw[abU]at q1;subst q1;rw[show fP θ3 u=fP θ1 u from dW s3 (q3 u hu)];exact p5 u hu
  ·obtain⟨v1,v2⟩:=jO g1.ok xS s1 Be;have gk:∀n,n<B1.length->DL (θ0 n) (θ1 n):=fun n hn=>by rw[<-s3 n hn];exact yj n (abL hn g3.le)
   rw[xN fx,BO _ _ fx,p6 θ0 v1 gk,acn];have C3:DL (fP θ0 t3) (fP θ3 t3):=xR yj g3.tj;rw[show fP θ3 t3=T from s4]at C3;exact(rL v2).2 (C3.shape Pb)
 | @asc d ty a _ yh ha ih=>
  intro pX θ B ls ns ts T hB hc oW ft hT;rw[show mapM aK (KQ a ty)=mapM aK a by simp[mapM,eb,aK]];rw[HB]at hT;simp only[aco]at hT;obtain⟨X,hX,hT⟩:=hT;have Jg:ak 4 X=true:=cN a d 14 _ X ha.shape (fun b' dN=>(ft b' dN).1) hX;have h1:=ih (fun u hu=>pX u (by simp[aF,az,br];exact .inr (by simpa[aF]using hu))) (ls:=ls) hB hc oW ft hX;split at hT
  ·rename_i vS;cases hT
   have:=fO (jq.of Jg) (jq.of yh) h1.Vm (pX ty (by simp[aF,az,br])) vS;subst this;exact h1
  ·cases hT
 |cast _ _ _ _ _ _ _=>
  intro _ θ B ls ns ts T hB hc oW ft hT;rw[DC]at hT;cases hT
def eU (B:List IT) (K:Nat):Nat->IT->Option aG
 |0,_=>none
 |d+1,t=>match hd B K t with
  |.v _=>some bt
  |.b k=>some (.mk k [])
  |.p k x y=>match eU B K d x with
   |none=>none
   |some X=>match eU B K d y with
    |none=>none
    |some Y=>some (.mk k [X,Y])
def l4 (B:List IT) (K:Nat):List IT->Option (List aG)
 |[]=>some []
 |t::r=>match eU B K 4 t with
  |none=>none
  |some T=>match l4 B K r with
   |none=>none
   |some Ts=>some (T::Ts)
def lp (B:List IT):Prop:=∀t∈B,ir t
theorem Lb {B:List IT} (h:lp B) {n:Nat} {t:IT} (hb:bd B n=some t):ir t:=h t (abX (ql hb).1)
theorem pY {B:List IT} (h:lp B):∀{k:Nat} {t:IT},ir t->ir (hd B k t)
 |0,t,ht=>by cases t<;>exact ht
 |k+1,.v n,ht=>by
  simp only[hd];split<;>rename_i hb
  ·exact ht
  ·exact pY h (Lb h hb)
 |k+1,.b _,ht=>ht
 |k+1,.p _ _ _,ht=>ht
theorem lp.set {B:List IT} (h:lp B) {n:Nat} {t:IT} (ht:ir t):lp (B.set n t):=by
 intro u hu;rcases ace hu with h1|rfl
 ·exact h u h1
 ·exact ht
theorem mH:∀{k:Nat} {B B':List IT} {a b:IT} {q:Bool},lp B->ir a->ir b->iT k B a b=some (B',q)->lp B'
 |0,B,B',a,b,q,_,_,_,h=>by simp[iT]at h
 |k+1,B,B',a,b,q,hB,ha,hb,h=>by
  rw[iT]at h;split at h
  ·have uj:=pY hB (k:=k) ha;have dN:=pY hB (k:=k) hb;generalize hd B k a=a' at*;generalize hd B k b=b' at*
   match a',b',h with
   |.v n,b',h=>
    simp only at h;split at h
    ·simp at h;obtain⟨rfl,_⟩:=h;exact hB
    ·split at h
     ·simp at h;obtain⟨rfl,_⟩:=h;exact hB
     ·simp at h;obtain⟨rfl,_⟩:=h;exact hB.set dN
   |.b _,.v n,h=>
    simp only at h;split at h
    ·simp at h;obtain⟨rfl,_⟩:=h;exact hB
    ·simp at h;obtain⟨rfl,_⟩:=h;exact hB.set uj
   |.p _ _ _,.v n,h=>
    simp only at h;split at h
    ·simp at h;obtain⟨rfl,_⟩:=h;exact hB
    ·simp at h;obtain⟨rfl,_⟩:=h;exact hB.set uj
   |.b _,.b _,h=>simp at h;obtain⟨rfl,_⟩:=h;exact hB
   |.b _,.p _ _ _,h=>simp at h;obtain⟨rfl,_⟩:=h;exact hB
   |.p _ _ _,.b _,h=>simp at h;obtain⟨rfl,_⟩:=h;exact hB
   |.p i x y,.p j x' y',h=>
    simp only at h;split at h
    ·cases hu:iT k B x x' with
     |none=>rw[hu]at h;simp at h
     |some r=>
      obtain⟨B1,q1⟩:=r;rw[hu]at h;have h1:=mH hB uj.2.1 dN.2.1 hu;cases q1
      ·simp at h;obtain⟨rfl,_⟩:=h;exact h1
      ·exact mH h1 uj.2.2 dN.2.2 h
    ·simp at h;obtain⟨rfl,_⟩:=h;exact hB
  ·simp at h
theorem qx {k:Nat} {B B':List IT} {a b:IT} (hB:lp B) (ha:ir a) (hb:ir b) (h:iU k B a b=some (some B')):lp B':=by
 simp only[iU]at h;split at h
 ·simp at h
 ·rename_i hu;simp at h;subst h;exact mH hB ha hb hu
 ·simp at h
theorem lp.app {B C:List IT} (h:lp B) (hC:lp C):lp (B++C):=by
 intro t ht;rcases abR.1 ht with q|q
 ·exact h t q
 ·exact hC t q
theorem Kk (l:List Nat):lp (l.map IT.v):=by
 intro t ht;obtain⟨n,_,rfl⟩:=List.mem_map.1 ht;trivial
theorem AK {k:Nat} {kd:Int} {B B':List IT} {ts:List IT} {t:IT} (hB:lp B) (bM:∀u∈ts,ir u) (h:fz k kd B ts=some (some (B',t))):lp B'/\ir t:=by
 have Eh:lp (B++[.v B.length,.v (B.length+1)]):=hB.app (Kk [_,_]);simp only[fz]at h;split at h
 ·simp at h;obtain⟨rfl,rfl⟩:=h;exact⟨hB,.inl rfl⟩
 split at h
 ·simp at h;obtain⟨rfl,rfl⟩:=h;exact⟨hB,.inr rfl⟩
 split at h
 ·rename_i x;have hx:=bM x (by simp);split at h
  ·simp only[acm]at h;obtain⟨r,h1,B2,rfl,h2⟩:=h;cases h2
   exact⟨qx Eh hx (show ir (.p 5 (.v _) (.v _))from⟨.inr rfl,trivial,trivial⟩) h1,trivial⟩
  ·simp at h
 ·rename_i x y;have hx:=bM x (by simp);have hy:=bM y (by simp);split at h
  ·simp at h;obtain⟨rfl,rfl⟩:=h;exact⟨hB,.inr rfl,hx,hy⟩
  split at h
  ·simp only[acm]at h;obtain⟨r,h1,B2,rfl,h2⟩:=h;cases h2
   exact⟨qx Eh hx (show ir (.p 4 y (.v _))from⟨.inl rfl,hy,trivial⟩) h1,trivial⟩
  split at h
  ·split at h
   ·rename_i B1 h1;simp only[acm]at h;obtain⟨r,h4,B2,rfl,h5⟩:=h;cases h5
    refine⟨qx (qx hB hx (show ir (.b 2)from .inl rfl) h1) hy (show ir (.b 2)from .inl rfl) h4,?_⟩;simp only[ir];split<;>omega
   ·simp at h
   ·simp at h
  ·simp at h
 ·rename_i x y z;have hx:=bM x (by simp);have hy:=bM y (by simp);have hz:=bM z (by simp);split at h
  ·split at h
   ·rename_i B1 h1;simp only[acm]at h;obtain⟨r,h4,B2,rfl,h5⟩:=h;cases h5
    exact⟨qx (qx hB hx (show ir (.b 3)from .inr rfl) h1) hy hz h4,hy⟩
   ·simp at h
   ·simp at h
  ·simp at h
 ·simp at h
theorem IG {k:Nat} {e:al} (he:Ba e):∀{B ls B' ls':List IT} {ns:List UInt8} {ts:List IT} {t:IT},lp B->lp ls->lp ts->inf k e B ls ns ts=some (some (B',ls',t))->lp B'/\lp ls'/\ir t:=by
 induction he with
 |var c=>
  intro B ls B' ls' ns ts t hB hl hc h;rw[kh]at h;simp only[Option.some.injEq]at h;split at h
  ·simp only[acm]at h;obtain⟨u,h1,h2⟩:=h;cases h2
   exact⟨hB,hl,hc _ (abX h1)⟩
  ·simp at h
 |num n=>intro B ls B' ls' ns ts t hB hl hc h;rw[qn]at h;cases h;exact⟨hB,hl,.inl rfl⟩
 |tQ=>intro B ls B' ls' ns ts t hB hl hc h;rw[qo]at h;cases h;exact⟨hB,hl,.inr rfl⟩
 |tR=>intro B ls B' ls' ns ts t hB hl hc h;rw[qp]at h;cases h;exact⟨hB,hl,.inr rfl⟩
 | @lam c ty b _ ih=>
  intro B ls B' ls' ns ts t hB hl hc h;rw[lk]at h;simp only[acm]at h;obtain⟨q,h1,r,rfl,h2⟩:=h;cases h2
  obtain⟨g1,g2,g3⟩:=ih (hB.app (Kk [_])) (hl.app (Kk [_])) (hc.app (Kk [_])) h1;exact⟨g1,g2,.inl rfl,trivial,g3⟩
 | @n1 kd a fx ha ih=>
  intro B ls B' ls' ns ts t hB hl hc h;rw[rH _ _ _ _ _ fx]at h;split at h
  ·rename_i B1 ls1 u h1;obtain⟨g1,g2,g3⟩:=ih hB hl hc h1;simp only[acm]at h;obtain⟨q,h2,r,rfl,h3⟩:=h;obtain⟨B2,w⟩:=r;cases h3
   obtain⟨k1,k2⟩:=AK g1 (by simpa using g3) h2;exact⟨k1,g2,k2⟩
  ·simp at h
  ·simp at h
 | @n2 kd a b fx ha hb iha ihb=>
  intro B ls B' ls' ns ts t hB hl hc h;rw[pU _ _ _ _ _ fx]at h;split at h
  ·rename_i B1 ls1 u h1;obtain⟨g1,g2,g3⟩:=iha hB hl hc h1;split at h
   ·rename_i B2 ls2 v h2;obtain⟨p1,p2,p3⟩:=ihb g1 g2 hc h2;simp only[acm]at h;obtain⟨q,h3,r,rfl,h4⟩:=h;obtain⟨B3,w⟩:=r;cases h4
    obtain⟨k1,k2⟩:=AK p1 (by simp;exact⟨g3,p3⟩) h3;exact⟨k1,p2,k2⟩
   ·simp at h
   ·simp at h
  ·simp at h
  ·simp at h
 | @ite a b c ha hb oZ iha ihb ihc=>
  intro B ls B' ls' ns ts t hB hl hc h;rw[ov]at h;split at h
  ·rename_i B1 ls1 u h1;obtain⟨g1,g2,g3⟩:=iha hB hl hc h1;split at h
   ·rename_i B2 ls2 v h2;obtain⟨p1,p2,p3⟩:=ihb g1 g2 hc h2;split at h
    ·rename_i B3 ls3 w h3;obtain⟨r1,r2,r3⟩:=ihc p1 p2 hc h3;simp only[acm]at h;obtain⟨q,h4,r,rfl,h5⟩:=h;obtain⟨B4,w⟩:=r;cases h5
     obtain⟨k1,k2⟩:=AK r1 (by simp;exact⟨g3,p3,r3⟩) h4;exact⟨k1,r2,k2⟩
    ·simp at h
    ·simp at h
   ·simp at h
   ·simp at h
  ·simp at h
  ·simp at h
def CK (B:List IT):Nat->IT->aG
 |k+1,.v n=>match bd B n with
  |none=>bt
  |some t=>CK B k t
 |0,.v _=>bt
 |_,.b k=>.mk k []
 |0,.p _ _ _=>bt
 |j+1,.p k x y=>.mk k [CK B j x,CK B j y]
theorem lN {B:List IT}:∀{k j:Nat} {t:IT},ex B k t=true->k<=j->CK B j t=CK B k t
 |0,j,t,h,_=>by simp[ex]at h
 |k+1,j+1,.v m,h,hj=>by
  simp only[ex]at h;simp only[CK];split<;>rename_i hb
  ·rfl
  ·rw[hb]at h;exact lN h (by omega)
 |k+1,j+1,.b _,_,_=>rfl
 |k+1,j+1,.p _ x y,h,hj=>by
  rw[ex,abG]at h;simp only[CK,lN h.1 (show k<=j by omega),lN h.2 (show k<=j by omega)]
theorem IH {B:List IT} (h:Gp B):∃K,∀n,n<B.length->ex B K (.v n)=true:=by
 have:∀m,m<=B.length->∃K,∀n,n<m->ex B K (.v n)=true:=by
  intro m;induction m with
  |zero=>intro _;exact⟨0,fun n hn=>by omega⟩
  |succ m ih=>
   intro hm;obtain⟨K1,h1⟩:=ih (by omega);obtain⟨K2,h2⟩:=h m (by omega);refine⟨max K1 K2,fun n hn=>?_⟩;by_cases e:n=m
   ·subst e;exact oK (abH _ _) h2
   ·exact oK (abI _ _) (h1 n (by omega))
 exact this B.length (abJ _)
def Fuel (B:List IT) (K:Nat):Prop:=∀n,n<B.length->ex B K (.v n)=true
def AL (B:List IT) (K:Nat) (n:Nat):aG:=CK B K (.v n)
theorem Ei {B:List IT} {K:Nat} (hB:qU B) (hK:Fuel B K):∀{t:IT} {j:Nat},sc B.length t=true->ex B j t=true->fP (AL B K) t=CK B j t
 |.v n,j,hs,hx=>by
  have hn:n<B.length:=by simpa[sc]using hs
  show CK B K (.v n)=_;rw[<-lN (hK n hn) (abI K j),<-lN hx (abH K j)]
 |.b k,j+1,_,_=>rfl
 |.b k,0,_,hx=>by simp[ex]at hx
 |.p k x y,j+1,hs,hx=>by
  rw[sc,abG]at hs;rw[ex,abG]at hx;simp only[iK,um,CK];rw[show iK um (AL B K) x=_ from Ei hB hK hs.1 hx.1,show iK um (AL B K) y=_ from Ei hB hK hs.2 hx.2]
 |.p k x y,0,_,hx=>by simp[ex]at hx
theorem AM {B:List IT} {K:Nat} (hB:qU B) (hK:Fuel B K):oz (AL B K) B:=by
 intro n t hb;have hn:n<B.length:=(List.getElem?_eq_some_iff.1 (ql hb).1).1;have hx:=hK n hn;cases K with
 |zero=>simp[ex]at hx
 |succ K=>
  simp only[ex,hb]at hx;rw[show iK um (AL B (K+1)) t=_ from Ei hB hK (CG hB hb) hx];show CK B (K+1) (.v n)=_;simp only[CK,hb]
theorem II {B:List IT} {K n:Nat} (hf:bd B n=none):AL B K n=bt:=by
 show CK B K (.v n)=_;cases K with
 |zero=>rfl
 |succ K=>simp only[CK,hf]
theorem AN {B:List IT} {θ:Nat->aG} (hs:oz θ B):∀{k:Nat} {t:IT},ex B k t=true->DL (CK B k t) (fP θ t)
 |0,t,h=>by simp[ex]at h
 |k+1,.v n,h=>by
  simp only[ex]at h;simp only[CK];cases hb:bd B n with
  |none=>exact .int _
  |some t=>
   rw[hb]at h;rw[show fP θ (.v n)=fP θ t from hs n t hb];exact AN hs h
 |k+1,.b _,_=>.base _
 |k+1,.p _ x y,h=>by
  rw[ex,abG]at h;exact .two (AN hs h.1) (AN hs h.2)
theorem Mt {B:List IT} {K:Nat} {θ:Nat->aG} (hK:Fuel B K) (hs:oz θ B):∀n,n<B.length->DL (AL B K n) (θ n):=fun n hn=>AN hs (hK n hn)
theorem rM {B:List IT} {K:Nat} (hK:Fuel B K):∀{t:IT},sc B.length t=true->∃j,ex B j t=true
 |.v n,hs=>⟨K,hK n (by simpa[sc]using hs)⟩
 |.b _,_=>⟨1,rfl⟩
 |.p c x y,ht=>by
  rw[sc,abG]at ht;obtain⟨k1,h1⟩:=rM hK ht.1;obtain⟨k2,h2⟩:=rM hK ht.2;exact⟨max k1 k2+1,by rw[ex,abG];exact⟨oK (abI _ _) h1,oK (abH _ _) h2⟩⟩
theorem AO {B:List IT} {K:Nat} (hK:Fuel B K):∀{t:IT},sc B.length t=true->IA B (hd B K t)
 |.v n,hs=>iJ (hK n (by simpa[sc]using hs))
 |.b _,_=>by intro n e;cases K<;>simp[hd]at e
 |.p _ _ _,_=>by intro n e;cases K<;>simp[hd]at e
theorem uy {B:List IT} {K:Nat} (hB:qU B) (oL:lp B) (hK:Fuel B K):∀{d:Nat} {t:IT} {T:aG},sc B.length t=true->ir t->eU B K d t=some T->T=fP (AL B K) t/\ak d T=true/\eN T=0
 |0,t,T,_,_,h=>by simp[eU]at h
 |d+1,t,T,hs,hk,h=>by
  have h1:fP (AL B K) (hd B K t)=fP (AL B K) t:=CH (AM hB hK);have h2:=AO hK hs;have h3:=lM hB (k:=K) hs;have h4:=pY oL (k:=K) hk;simp only[eU]at h;generalize hd B K t=u at*;cases u with
  |v n=>
   simp at h;subst h;exact⟨by rw[<-h1];exact(II (h2 n rfl)).symm,(jq.int d).shape,rfl⟩
  |b k=>
   simp at h;subst h;refine⟨by rw[<-h1];rfl,?_⟩;rcases h4 with rfl|rfl
   ·exact⟨(jq.int d).shape,rfl⟩
   ·exact⟨(jq.bool d).shape,rfl⟩
  |p k x y=>
   rw[sc,abG]at h3;simp only at h;split at h
   ·simp at h
   ·rename_i X hX;split at h
    ·simp at h
    ·rename_i Y hY;simp at h;subst h;obtain⟨a1,a2,a3⟩:=uy hB oL hK h3.1 h4.2.1 hX;obtain⟨b1,b2,b3⟩:=uy hB oL hK h3.2 h4.2.2 hY;refine⟨by rw[<-h1];simp only[iK,um];rw[show iK um (AL B K) x=X from a1.symm,show iK um (AL B K) y=Y from b1.symm],?_⟩;rcases h4.1 with rfl|rfl
     ·exact⟨(jq.fn (jq.of a2) (jq.of b2)).shape,by rw[mu (by omega)];omega⟩
     ·exact⟨(jq.pair (jq.of a2) (jq.of b2)).shape,by rw[mu (by omega)];omega⟩
theorem AP {B:List IT} {K:Nat} (hB:qU B) (hK:Fuel B K):∀{d:Nat} {t:IT},sc B.length t=true->ak d (fP (AL B K) t)=true->∃T,eU B K d t=some T
 |0,t,_,h=>by simp[ak]at h
 |d+1,t,hs,h=>by
  have h1:fP (AL B K) (hd B K t)=fP (AL B K) t:=CH (AM hB hK);have h3:=lM hB (k:=K) hs;rw[<-h1]at h;simp only[eU];generalize hd B K t=u at*;cases u with
  |v n=>exact⟨_,rfl⟩
  |b k=>exact⟨_,rfl⟩
  |p k x y=>
   rw[sc,abG]at h3;simp only[iK,um,ak,abG,decide_eq_true_eq,ack]at h;simp only[aG.bP,abV,ab0,or_false]at h;obtain⟨X,hX⟩:=AP hB hK (d:=d) h3.1 (h.2 _ (.inl rfl));obtain⟨Y,hY⟩:=AP hB hK (d:=d) h3.2 (h.2 _ (.inr rfl));exact⟨.mk k [X,Y],by simp only[hX,hY]⟩
theorem nj {B:List IT} {K:Nat} (hB:qU B) (oL:lp B) (hK:Fuel B K):∀{l:List IT} {Ts:List aG},(∀t∈l,sc B.length t=true)->lp l->l4 B K l=some Ts->Ts=l.map (fP (AL B K))/\∀T∈Ts,ak 4 T=true/\eN T=0
 |[],Ts,_,_,h=>by simp[l4]at h;subst h;simp
 |t::r,Ts,hs,hk,h=>by
  simp only[l4]at h;split at h
  ·simp at h
  ·rename_i T hT;split at h
   ·simp at h
   ·rename_i R hR;simp at h;subst h;obtain⟨a1,a2⟩:=uy hB oL hK (hs t (by simp)) (hk t (by simp)) hT;obtain⟨b1,b2⟩:=nj hB oL hK (fun u hu=>hs u (by simp[hu])) (fun u hu=>hk u (by simp[hu])) hR;refine⟨by rw[abS,<-a1,<-b1],fun U hU=>?_⟩;rcases abV.1 hU with rfl|q
    ·exact a2
    ·exact b2 U q
theorem Fa {B:List IT} {K:Nat} (hB:qU B) (hK:Fuel B K):∀{l:List IT},(∀t∈l,sc B.length t=true/\ak 4 (fP (AL B K) t)=true)->∃Ts,l4 B K l=some Ts
 |[],_=>⟨[],rfl⟩
 |t::r,h=>by
  obtain⟨T,hT⟩:=AP hB hK (h t (by simp)).1 (h t (by simp)).2;obtain⟨Ts,P8⟩:=Fa hB hK (l:=r) fun u hu=>h u (by simp[hu])
  exact⟨T::Ts,by simp only[l4,hT,P8]⟩
structure Whole (e:al) (k:Nat) (B ls:List IT) (t:IT):Prop where
 ba:Ba e
 inf:Av.inf k e [] [] [] []=some (some (B,ls,t))
theorem wg:sV []:=⟨fun t h=>(by cases h),fun n h=>(by simp at h)⟩
theorem sW:xL [] [] []:=⟨rfl,fun u h=>(by cases h)⟩
theorem Whole.ok {e:al} {k:Nat} {B ls:List IT} {t:IT} (h:Whole e k B ls t):TC e [] [] B ls t/\lp B/\lp ls/\ir t/\ls.length=(aF e).length/\(∀u∈ls,sc B.length u=true)/\B.length<=2*aN e:=by
 have h1:=fh h.ba wg sW h.inf;obtain⟨h2,h3,h4⟩:=IG h.ba (B:=[]) (ls:=[]) (ts:=[]) (fun t h=>(by cases h)) (fun t h=>(by cases h)) (fun t h=>(by cases h)) h.inf;obtain⟨new,h5,h6,h7⟩:=h1.yQ;rw[acd]at h5;subst h5;exact⟨h1,h2,h3,h4,h6,h7,by have:=h1.len;simpa using this⟩
theorem Ej {e:al} {d:Nat} (he:jF 14 d e) (ft:∀u∈aF e,eN u=0) {T:aG} (hT:bO [] e=some T):∃k B ls t,Whole (mapM aK e) k B ls t/\∀K,Fuel B K->∃Ts U,l4 B K ls=some Ts/\bO [] (bx (mapM aK e) Ts)=some U:=by
 obtain⟨_,k,B,new,t,θ,h1,h2,_,h4,h5,h6⟩:=AJ he ft (θ:=fun _=>bt) (B:=[]) (ls:=[]) (ns:=[]) (ts:=[]) (T:=T) wg sW (fun n t hb=>by simp[bd]at hb) (fun b hb=>by simp[pV]at hb) hT;rw[acd]at h1;have hW:Whole (mapM aK e) k B new t:=⟨Ba.of he,h1⟩;refine⟨k,B,new,t,hW,fun K hK=>?_⟩;obtain⟨g1,g2,g3,g4,g5,g6,_⟩:=hW.ok;have hd:=Mt hK h2;obtain⟨Ts,P8⟩:=Fa g1.ok.sc hK (l:=new) fun u hu=>⟨g6 u hu,(xR hd (g6 u hu)).shape (h5 u hu)⟩
 obtain⟨a1,_⟩:=nj g1.ok.sc g2 hK g6 g3 P8;refine⟨Ts,fP (AL B K) t,P8,?_⟩;rw[a1];exact h6 (AL B K) (AM g1.ok.sc hK) hd
def Mu (B:List IT):Nat->IT->Nat
 |k+1,.v n=>match bd B n with
  |none=>1
  |some t=>Mu B k t
 |k+1,.p _ x y=>1+Mu B k x+Mu B k y
 |_,_=>1
def Pc (n:Nat):List Nat->Nat
 |[]=>0
 |x::r=>if x=n then 0 else Pc n r+1
def R0 (i:Nat):UInt8:=UInt8.ofNat (97+i)
def Kl (B:List IT):Nat->IT->List Nat->List UInt8×List Nat
 |k+1,.v n,seen=>match bd B n with
  |none=>([R0 (Pc n seen)],if n∈seen then seen else seen++[n])
  |some t=>Kl B k t seen
 |k+1,.p c x y,seen=>(40::((Kl B k x seen).1++E6 c::((Kl B k y (Kl B k x seen).2).1++[41])),(Kl B k y (Kl B k x seen).2).2)
 |_,.b c,seen=>([E6 c],seen)
 |0,_,seen=>([],seen)
def TG (c:UInt8):UInt8:=if 97<=c.toNat/\c.toNat<=122 then 73 else c
def IT.kind:IT->Int
 |.v _=>0
 |.b k=>k
 |.p k _ _=>k
def IT.name:IT->Nat
 |.v n=>n
 |_=>0
def IT.kids:IT->List IT
 |.p _ x y=>[x,y]
 |_=>[]
section
variable (n:Nat) (k:Int) (x y:IT)
@[simp] theorem IT.jQ:(IT.v n).kind=0:=rfl
@[simp] theorem IT.fJ:(IT.b k).kind=k:=rfl
@[simp] theorem IT.fi:(IT.p k x y).kind=k:=rfl
@[simp] theorem IT.jv:(IT.v n).name=n:=rfl
@[simp] theorem IT.jR:(IT.b k).name=0:=rfl
@[simp] theorem IT.jS:(IT.p k x y).name=0:=rfl
@[simp] theorem IT.jT:(IT.v n).kids=[]:=rfl
@[simp] theorem IT.jU:(IT.b k).kids=[]:=rfl
@[simp] theorem IT.gv:(IT.p k x y).kids=[x,y]:=rfl
end
def oM:IT->List DV
 |.v n=>[.i 0,.i n,.sl []]
 |.b k=>[.i k,.i 0,.sl []]
 |.p k x y=>[.i k,.i 0,.sl [oM x,oM y]]
theorem an (t:IT):oM t=[.i t.kind,.i t.name,.sl (t.kids.map oM)]:=by cases t<;>rfl
@[simp] theorem hM (t:IT):(oM t).length=3:=by cases t<;>rfl
theorem kG (n:Nat):oM (.v n)=[.i 0,.i n,.sl []]:=rfl
theorem Fb (k:Int):oM (.b k)=[.i k,.i 0,.sl []]:=rfl
theorem Fc (k:Int) (x y:IT):oM (.p k x y)=[.i k,.i 0,.sl [oM x,oM y]]:=rfl
theorem nk (t:IT):List.drop 3 (oM t)=[]:=by cases t<;>rfl
abbrev jV (t:IT):AV:=.agg [.d (.i t.kind),.d (.i t.name),.d (.sl (t.kids.map oM))]
abbrev hP (B ls:List IT):AV:=.agg [.d (.sl (B.map oM)),.d (.sl (ls.map oM))]
theorem Fe {B:List IT} {k n:Nat} {t:IT} (hb:bd B n=some t):hd B (k+1) (.v n)=hd B k t:=by simp[hd,hb]
theorem Ff {B:List IT} {k n:Nat} (hb:bd B n=none):hd B k (.v n)=.v n:=by cases k<;>simp[hd,hb]
theorem jW {t:IT} (h:ir t) (hv:∀n,t≠.v n):t.kind≠0:=by
 cases t with
 |v n=>exact absurd rfl (hv n)
 |b k=>simp only[ir]at h;simp only[IT.fJ];omega
 |p k x y=>simp only[ir]at h;simp only[IT.fi];omega
theorem xU {t:IT} (h:ir t):∀u∈t.kids,ir u:=by
 intro u hu;cases t with
 |v n=>cases hu
 |b k=>cases hu
 |p k x y=>simp only[ir]at h;simp only[IT.gv,abV,ab0,or_false]at hu;rcases hu with rfl|rfl<;>simp[h]
theorem AQ {N:Nat} {t:IT} (h:sc N t=true):∀u∈t.kids,sc N u=true:=by
 intro u hu;cases t with
 |v n=>cases hu
 |b k=>cases hu
 |p k x y=>simp only[sc,abG]at h;simp only[IT.gv,abV,ab0,or_false]at hu;rcases hu with rfl|rfl<;>simp[h]
theorem IJ {B:List IT} {n k:Nat} {t:IT} (hx:ex B k t=true) (hv:∀n,t≠.v n):jC B n k t=t.kids.any fun u=>jC B n k u:=by
 cases k with
 |zero=>simp[ex]at hx
 |succ k=>
  cases t with
  |v m=>exact absurd rfl (hv m)
  |b c=>simp[jC]
  |p c x y=>
   simp only[ex,abG]at hx;simp only[jC,IT.gv,List.any_cons,List.any_nil,Bool.or_false];rw[eE hx.1 (abK k),eE hx.2 (abK k)]
def zQ (k:Nat) (B:List IT) (n:Nat) (t:IT):List IT×Bool:=if t=.v n then(B,true)else if jC B n k t=true then(B,false)else(B.set n t,true)
theorem Whole.uniq {e:al} {k k':Nat} {B B' ls ls':List IT} {t t':IT} (h:Whole e k B ls t) (h':Whole e k' B' ls' t'):B=B'/\ls=ls'/\t=t':=by
 have h1:=inf_le (abP k k') h.ba h.inf;have h2:=inf_le (abQ k' k) h.ba h'.inf;rw[h1]at h2;simp only[Option.some.injEq,Prod.mk.injEq]at h2;exact h2
theorem Whole.not {e:al} {k k':Nat} {B ls:List IT} {t:IT} (h:Whole e k B ls t) (h':Av.inf k' e [] [] [] []=some none):False:=by
 have h1:=inf_le (abP k k') h.ba h.inf;have h2:=inf_le (abQ k' k) h.ba h';rw[h1]at h2;cases h2
theorem CL {e:al} (he:Ba e):(∃k B ls t,Whole e k B ls t)\/∃k,inf k e [] [] [] []=some none:=by
 obtain⟨k,r,hr⟩:=Gr he (B:=[]) (ls:=[]) (ns:=[]) (ts:=[]) wg sW;cases r with
 |none=>exact .inr ⟨k,hr⟩
 |some r=>obtain⟨B,ls,t⟩:=r;exact .inl ⟨k,B,ls,t,he,hr⟩
theorem Whole.fuel {e:al} {k:Nat} {B ls:List IT} {t:IT} (h:Whole e k B ls t):∃K,Fuel B K:=by
 obtain⟨h1,_⟩:=h.ok;exact IH h1.ok.ti
open Classical in
noncomputable def R1 (e:al):Option (List UInt8):=if h:∃x:Nat×List IT×List IT×IT×Nat,Whole e x.1 x.2.1 x.2.2.1 x.2.2.2.1/\ex x.2.1 x.2.2.2.2 x.2.2.2.1=true/\Mu x.2.1 x.2.2.2.2 x.2.2.2.1<=30
 then some (Kl h.choose.2.1 h.choose.2.2.2.2 h.choose.2.2.2.1 []).1 else none
noncomputable def Vn (e:al):Option (List UInt8):=if aS e=true then R1 (mapM aK e)else none
end Go.Av
