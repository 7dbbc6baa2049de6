/- A part. -/
import Derived.Test.YtloolmchekcmeaaGreatXE30
set_option linter.unusedVariables false
set_option linter.unusedSimpArgs false
open List renaming mem_cons->adE,getElem?_eq_some_iff->adF,append_assoc->adG,nodup_cons->adH,mem_map->adI,getElem?_append_left->adJ,nodup_append->adK,mem_cons_of_mem->adL,map_cons->adM,getElem?_append_right->adN,mem_of_getElem?->adO,nodup_nil->adP,mem_append->adQ,length_cons->adR,length_append->adS,getElem?_of_mem->adT,getElem?_eq_getElem->adU
open Nat renaming le_refl->adV,zero_add->adW,zero_le->adX,lt_or_ge->adY
open Array renaming getElem?_eq_some_iff->adZ
namespace Go.Av
attribute [-simp] Go.Av.cb Go.Av.eL Go.Av.fj Go.Av.fa Go.Av.cT Go.Av.b9
open Go
structure Nd where
 p:Value
 k:Int
 is:Value
 a:Value
 b:Value
abbrev aq:Value:=.pointer none
abbrev Nd.row (x:Nd):List DV:=[.i x.k,.raw x.is,.raw x.a,.raw x.b]
def Ve (T:TypeId) (x:Nd):GC×Value:=(.n T x.row,x.p)
def gT (T:TypeId) (G:List Nd):Ts:=G.map (Ve T)
theorem Mu {T:TypeId} {G:List Nd} {x:Nd} (h:x∈G):(.n T [.i x.k,.raw x.is,.raw x.a,.raw x.b],x.p)∈gT T G:=adI.2 ⟨x,h,rfl⟩
theorem Kp {T:TypeId} {G H:List Nd} (h:G.Perm H):(gT T G).Perm (gT T H):=h.map _
@[simp] theorem P3 {T:TypeId} {G:List Nd} (x:Nd):gT T (x::G)=(.n T [.i x.k,.raw x.is,.raw x.a,.raw x.b],x.p)::gT T G:=rfl
structure GN (G:List Nd):Prop where
 nd:(G.map Nd.p).Nodup
 nn:∀x∈G,x.p≠aq
theorem GN.uniq {G:List Nd} (h:GN G) {x y:Nd} (hx:x∈G) (hy:y∈G) (e:x.p=y.p):x=y:=by
 have key:∀(l:List Nd),(l.map Nd.p).Nodup->x∈l->y∈l->x=y:=by
  intro l;induction l with
  |nil=>intro _ hx;cases hx
  |cons z l ih=>
   intro hn hx hy;simp only[adM,adH]at hn;rcases adE.1 hx with e1|dn
   ·rcases adE.1 hy with e2|NZ
    ·rw[e1,e2]
    ·exact absurd (adI.2 ⟨y,NZ,by rw[<-e,e1]⟩) hn.1
   ·rcases adE.1 hy with e2|NZ
    ·exact absurd (adI.2 ⟨x,dn,by rw[e,e2]⟩) hn.1
    ·exact ih hn.2 dn NZ
 exact key G h.nd hx hy
inductive Rn (G:List Nd) (ν:List (Option Value)):Value->IT->Prop
 |v {n:Nat} {p:Value}:ν[n]? =some (some p)->Rn G ν p (.v n)
 |b {p:Value} {k:Int}:(⟨p,k,aq,aq,aq⟩:Nd)∈G->k≠0->Rn G ν p (.b k)
 |p {p:Value} {k:Int} {a b:Value} {x y:IT}:(⟨p,k,aq,a,b⟩:Nd)∈G->k≠0->Rn G ν a x->Rn G ν b y->Rn G ν p (.p k x y)
def P4 (G:List Nd) (ν:List (Option Value)) (q:Value):Option IT->Prop
 |none=>q=aq
 |some t=>Rn G ν q t
structure GR (G:List Nd) (ν:List (Option Value)) (B:List IT):Prop where
 len:ν.length=B.length
 inj:∀(n m:Nat) p,ν[n]? =some (some p)->ν[m]? =some (some p)->n=m
 var:∀(n:Nat) p,ν[n]? =some (some p)->∃q,(⟨p,0,q,aq,aq⟩:Nd)∈G/\P4 G ν q (bd B n)
structure Ge (G:List Nd) (ν:List (Option Value)) (G':List Nd) (ν':List (Option Value)):Prop where
 nd:∀x∈G,x.k≠0->x∈G'
 vr:∀(n:Nat) p,ν[n]? =some (some p)->ν'[n]? =some (some p)
theorem Ge.refl (G:List Nd) (ν:List (Option Value)):Ge G ν G ν:=⟨fun _ h _=>h,fun _ _ h=>h⟩
theorem Ge.trans {G G' G'':List Nd} {ν ν' ν'':List (Option Value)} (h:Ge G ν G' ν') (h':Ge G' ν' G'' ν''):Ge G ν G'' ν'':=⟨fun x hx hk=>h'.nd x (h.nd x hx hk) hk,fun n p hp=>h'.vr n p (h.vr n p hp)⟩
theorem Ge.sup {G G':List Nd} {ν:List (Option Value)} (h:∀x∈G,x∈G'):Ge G ν G' ν:=⟨fun x hx _=>h x hx,fun _ _ h=>h⟩
theorem Rn.ge {G G':List Nd} {ν ν':List (Option Value)} (h:Ge G ν G' ν') {p:Value} {t:IT} (hr:Rn G ν p t):Rn G' ν' p t:=by
 induction hr with
 |v h1=>exact .v (h.vr _ _ h1)
 |b h1 h2=>exact .b (h.nd _ h1 h2) h2
 |p h1 h2 _ _ i1 i2=>exact .p (h.nd _ h1 h2) h2 i1 i2
theorem P4.ge {G G':List Nd} {ν ν':List (Option Value)} (h:Ge G ν G' ν') {q:Value}:∀{o:Option IT},P4 G ν q o->P4 G' ν' q o
 |none,hr=>hr
 |some _,hr=>Rn.ge h hr
section
variable {G G':List Nd} {ν ν':List (Option Value)} {B:List IT}
theorem GR.sup (h:GR G ν B) (hs:∀x∈G,x∈G'):GR G' ν B:=⟨h.len,h.inj,fun n p hp=>by
 obtain⟨q,h1,h2⟩:=h.var n p hp;exact⟨q,hs _ h1,h2.ge (Ge.sup hs)⟩⟩
theorem GR.nil:GR [] [] []:=⟨rfl,fun n m p h=>by simp at h,fun n p h=>by simp at h⟩
theorem Rn.node (h:GR G ν B) {p:Value} {t:IT} (hr:Rn G ν p t):∃x∈G,x.p=p/\x.k=t.kind:=by
 cases hr with
 |v h1=>
  obtain⟨q,h2,_⟩:=h.var _ _ h1;exact⟨_,h2,rfl,rfl⟩
 |b h1 _=>exact⟨_,h1,rfl,rfl⟩
 |p h1 _ _ _=>exact⟨_,h1,rfl,rfl⟩
theorem Rn.uniq (h:GR G ν B) (hn:GN G) {p:Value} {t u:IT} (h1:Rn G ν p t) (h2:Rn G ν p u):t=u:=by
 induction h1 generalizing u with
 |v h1=>
  obtain⟨q,g1,_⟩:=h.var _ _ h1;cases h2 with
  |v h2=>rw[h.inj _ _ _ h1 h2]
  |b h2 h3=>exact absurd (congrArg Nd.k (hn.uniq h2 g1 rfl)) h3
  |p h2 h3 _ _=>exact absurd (congrArg Nd.k (hn.uniq h2 g1 rfl)) h3
 |b h1 hk=>
  cases h2 with
  |v h2=>
   obtain⟨q,g1,_⟩:=h.var _ _ h2;exact absurd (congrArg Nd.k (hn.uniq h1 g1 rfl)) hk
  |b h2 h3=>have:=congrArg Nd.k (hn.uniq h1 h2 rfl);simp at this;rw[this]
  |p h2 h3 h4 h5=>
   have:=congrArg Nd.a (hn.uniq h1 h2 rfl);simp at this;obtain⟨x,hx,hp,_⟩:=h4.node h;rw[<-this]at hp;exact absurd hp (hn.nn x hx)
 |p h1 hk ha hb i1 i2=>
  cases h2 with
  |v h2=>
   obtain⟨q,g1,_⟩:=h.var _ _ h2;exact absurd (congrArg Nd.k (hn.uniq h1 g1 rfl)) hk
  |b h2 h3=>
   have:=congrArg Nd.a (hn.uniq h2 h1 rfl);simp at this;obtain⟨x,hx,hp,_⟩:=ha.node h;rw[<-this]at hp;exact absurd hp (hn.nn x hx)
  |p h2 h3 h4 h5=>
   have:=hn.uniq h1 h2 rfl;simp at this;obtain⟨rfl,rfl,rfl⟩:=this;rw[i1 h4,i2 h5]
theorem Rn.ne (h:GR G ν B) (hn:GN G) {p:Value} {t:IT} (h1:Rn G ν p t):p≠aq:=by
 obtain⟨x,hx,rfl,_⟩:=h1.node h;exact hn.nn x hx
theorem GR.bind (h:GR G ν B) (hn:GN G) {n:Nat} {p q:Value} {t:IT} {G2:List Nd} (hp:ν[n]? =some (some p)) (hf:bd B n=none) (hG:G.Perm (⟨p,0,aq,aq,aq⟩::G2)) (hq:Rn G ν q t) (ht:t≠.v n):
  GR (⟨p,0,q,aq,aq⟩::G2) ν (B.set n t)/\Ge G ν (⟨p,0,q,aq,aq⟩::G2) ν:=by
 have mB:Ge G ν (⟨p,0,q,aq,aq⟩::G2) ν:=⟨fun x hx hk=>by
  rcases adE.1 (hG.mem_iff.1 hx)with rfl|h1
  ·exact absurd rfl hk
  ·exact adL _ h1,fun _ _ h=>h⟩
 have az:n<B.length:=by rw[<-h.len];exact(adF.1 hp).1
 refine⟨⟨by simp[h.len],h.inj,fun m p' fX=>?_⟩,mB⟩;rw[pR az ht];by_cases e:m=n
 ·subst e;rw[hp]at fX;simp at fX;subst fX;rw[if_pos rfl];exact⟨q,by simp,hq.ge mB⟩
 ·rw[if_neg e];obtain⟨q',h1,h2⟩:=h.var m p' fX;refine⟨q',?_,h2.ge mB⟩;rcases adE.1 (hG.mem_iff.1 h1)with h3|h3
  ·simp at h3;exact absurd (h.inj m n p (h3.1▸fX) hp) e
  ·exact adL _ h3
theorem GR.Kq (h:GR G ν B) {p:Value} (hp:(⟨p,0,aq,aq,aq⟩:Nd)∈G) (hn:∀n:Nat,ν[n]? ≠some (some p)) (hs:ry B):GR G (ν++[some p]) (B++[.v B.length])/\Ge G ν G (ν++[some p]):=by
 have mB:Ge G ν G (ν++[some p]):=⟨fun _ h _=>h,fun n q hq=>by rw[adJ (adF.1 hq).1];exact hq⟩;have df:∀(n:Nat) q,(ν++[some p])[n]? =some (some q)->ν[n]? =some (some q)\/(n=B.length/\q=p):=fun n q hq=>by
  rcases adY n ν.length with h1|h1
  ·rw[adJ h1]at hq;exact .inl hq
  ·rw[adN h1]at hq;have h0:n-ν.length=0:=by
    have:=(adF.1 hq).1;simp at this;omega
   rw[h0]at hq;simp at hq;exact .inr ⟨by rw[<-h.len];omega,hq.symm⟩
 refine⟨⟨by simp[h.len],fun n m q h1 h2=>?_,fun n q h1=>?_⟩,mB⟩
 ·rcases df n q h1 with h3|⟨h3,h4⟩<;>rcases df m q h2 with h5|⟨h5,h6⟩
  ·exact h.inj n m q h3 h5
  ·subst h6;exact absurd h3 (hn n)
  ·subst h4;exact absurd h5 (hn m)
  ·omega
 ·rcases df n q h1 with h3|⟨h3,h4⟩
  ·obtain⟨q',h5,h6⟩:=h.var n q h3;refine⟨q',h5,?_⟩;rw[xO _ (by rw[<-h.len];exact(adF.1 h3).1)];exact h6.ge mB
  ·subst h3;subst h4;exact⟨aq,hp,by rw[DY];rfl⟩
theorem GR.R2 (h:GR G ν B):GR G (ν++[none]) (B++[.v B.length])/\Ge G ν G (ν++[none]):=by
 have mB:Ge G ν G (ν++[none]):=⟨fun _ h _=>h,fun n q hq=>by rw[adJ (adF.1 hq).1];exact hq⟩;have df:∀(n:Nat) q,(ν++[none])[n]? =some (some q)->ν[n]? =some (some q):=fun n q hq=>by
  rcases adY n ν.length with h1|h1
  ·rw[adJ h1]at hq;exact hq
  ·rw[adN h1]at hq;have h0:n-ν.length=0:=by
    have:=(adF.1 hq).1;simp at this;omega
   rw[h0]at hq;simp at hq
 refine⟨⟨by simp[h.len],fun n m q h1 h2=>h.inj n m q (df n q h1) (df m q h2),fun n q h1=>?_⟩,mB⟩;obtain⟨q',h5,h6⟩:=h.var n q (df n q h1);refine⟨q',h5,?_⟩;rw[xO _ (by rw[<-h.len];exact(adF.1 (df n q h1)).1)];exact h6.ge mB
end
theorem iq.nodes {w:World} {T:TypeId}:∀{G:List Nd} {M:Ts} {S:List Nat},iq w (gT T G++M) S->S.Nodup->GN G/\∀p∈G.map Nd.p,∃b∈S,p=.pointer (some ⟨b,0,none⟩)
 |[],M,S,_,_=>⟨⟨adP,fun x hx=>by cases hx⟩,fun p hp=>by cases hp⟩
 |x::G,M,S,h,hn=>by
  obtain⟨S1,S2,rfl,h1,h2⟩:=h;simp only[Tr]at h1;obtain⟨b,xs,hb,_,_,_,rfl⟩:=h1;have GL:S2.Nodup:=(adK.1 hn).2.1;obtain⟨h3,h4⟩:=iq.nodes (G:=G) (M:=M) h2 GL;have Vf:b∉S2:=fun hm=>(adK.1 hn).2.2 b (by simp) b hm rfl
  refine⟨⟨adH.2 ⟨fun hm=>?_,h3.nd⟩,fun y hy=>?_⟩,fun p hp=>?_⟩
  ·obtain⟨b',eG,e⟩:=h4 _ hm;rw[hb]at e;simp at e;exact Vf (e▸eG)
  ·rcases adE.1 hy with rfl|hy
   ·rw[hb];simp
   ·exact h3.nn y hy
  ·rcases adE.1 hp with rfl|hp
   ·exact⟨b,by simp,hb⟩
   ·obtain⟨b',h5,h6⟩:=h4 p hp;exact⟨b',by simp[h5],h6⟩
section
variable {P:Program} {n:Nat} {s:St} {L:Ts} {Q:Exit->St->Ts->Prop} {c:Code} {T:TypeId} {G:List Nd} {M:Ts}
theorem TJ.nodes (hp:L.Perm (gT T G++M)) (h:GN G->TJ P n c Q s L):TJ P n c Q s L:=by
 intro eK w0 g0 X S g a w hR;obtain⟨S',h1,h2⟩:=hR.nq.perm hp;exact h (iq.nodes h2 (h1.nodup_iff.1 hR.nd)).1 eK w0 g0 X S g a w hR
end
section
variable {G:List Nd} {ν:List (Option Value)} {B:List IT}
theorem Rn.found (h:GR G ν B) (hn:GN G) {p:Value} {t:IT} {k:Nat} (hp:Rn G ν p t) (hx:ex B k t=true):
  ∃x∈G,x.p=p/\((x.is=aq/\hd B k t=t)\/(x.is≠aq/\∃j u,j<k/\Rn G ν x.is u/\ex B j u=true/\hd B k t=hd B j u)):=by
 cases hp with
 | @v m _ h1=>
  obtain⟨q,h2,h3⟩:=h.var _ _ h1;refine⟨_,h2,rfl,?_⟩;cases hb:bd B m with
  |none=>
   rw[hb]at h3;exact .inl ⟨h3,E2 hb⟩
  |some u=>
   rw[hb]at h3;refine .inr ⟨h3.ne h hn,?_⟩;cases k with
   |zero=>simp[ex]at hx
   |succ k=>
    simp only[ex,hb]at hx;exact⟨k,u,by omega,h3,hx,E1 hb⟩
 |b h1 _=>exact⟨_,h1,rfl,.inl ⟨rfl,by cases k<;>rfl⟩⟩
 |p h1 _ _ _=>exact⟨_,h1,rfl,.inl ⟨rfl,by cases k<;>rfl⟩⟩
inductive P5 (G:List Nd) (ν:List (Option Value)) (B:List IT) (p:Value):IT->Prop
 |v {m:Nat}:ν[m]? =some (some p)->bd B m=none->(⟨p,0,aq,aq,aq⟩:Nd)∈G->P5 G ν B p (.v m)
 |b {c:Int}:(⟨p,c,aq,aq,aq⟩:Nd)∈G->c≠0->P5 G ν B p (.b c)
 |p {c:Int} {a b:Value} {x y:IT}:(⟨p,c,aq,a,b⟩:Nd)∈G->c≠0->Rn G ν a x->Rn G ν b y->P5 G ν B p (.p c x y)
theorem Rn.head (h:GR G ν B) {p:Value} {t:IT} (hp:Rn G ν p t) (ht:Ir B t):P5 G ν B p t:=by
 cases hp with
 | @v m _ h1=>
  obtain⟨q,h2,h3⟩:=h.var _ _ h1;rw[ht m rfl]at h3;obtain rfl:q=aq:=h3;exact .v h1 (ht m rfl) h2
 |b h1 h2=>exact .b h1 h2
 |p h1 h2 h3 h4=>exact .p h1 h2 h3 h4
theorem Rn.at_ (h:GR G ν B) {p:Value} {t:IT} (hp:Rn G ν p t):∃x∈G,x.p=p:=by
 obtain⟨x,h1,h2,_⟩:=hp.node h;exact⟨x,h1,h2⟩
end
end Go.Av
namespace Go.Av
attribute [-simp] Go.Av.b9
open Go
theorem x7 {n:Nat}:∀{l:List Nat} {j:Nat},(∀i,i<j->l[i]? ≠some n)->l[j]? =some n->kg n l=j
 |[],j,_,h=>by simp at h
 |x::r,j,h,hj=>by
  cases j with
  |zero=>simp at hj;subst hj;simp[kg]
  |succ j=>
   have hx:x≠n:=fun e=>h 0 (by omega) (by simp[e])
   have:=x7 (n:=n) (l:=r) (j:=j) (fun i hi=>by have:=h (i+1) (by omega);simpa using this) (by simpa using hj);rw[kg,if_neg hx,this]
def pU (ν:List (Option Value)) (n:Nat):Value:=(ν[n]?.getD none).getD aq
theorem oz {ν:List (Option Value)} {n:Nat} {p:Value} (h:ν[n]? =some (some p)):pU ν n=p:=by simp[pU,h]
def pV (ν:List (Option Value)) (seen:List Nat):Prop:=∀n∈seen,ν[n]? =some (some (pU ν n))
abbrev K8 (ν:List (Option Value)) (seen:List Nat):List (List DV):=seen.map fun n=>[.raw (pU ν n)]
abbrev Mv (e:TypeId) (vs:List Value):GC:=.t e 1 vs.length (vs.map fun v=>.d (.raw v))
theorem E8:∀(vs:List Value),yM (vs.map fun v=>GC.d (.raw v))=vs.map DV.raw
 |[]=>rfl
 |v::r=>by simp[yM,E8 r,GC.dv]
theorem x8 {α:Type}:∀(l:List α),chunks 1 l.length l=l.map fun x=>[x]
 |[]=>rfl
 |x::r=>by simp[chunks,x8 r]
theorem E9:∀(vs:List Value),BR (vs.map fun v=>GC.d (.raw v))=true
 |[]=>rfl
 |v::r=>by simp[BR,E9 r,GC.pl]
theorem Ed (e:TypeId) (vs:List Value):(Mv e vs).dv=.sl (vs.map fun v=>[.raw v])/\(Mv e vs).pl=true:=by
 refine⟨?_,by simp only[GC.pl];exact E9 vs⟩;simp only[GC.dv,E8];have:=x8 (vs.map DV.raw);rw[List.length_map]at this;rw[this,List.map_map];rfl
theorem Mw {L:Ts} {e:TypeId} {vs:List Value} {v:Value} (h:(Mv e vs,v)∈L):gK L (.d (.raw v)) (.d (.sl (vs.map fun v=>[.raw v]))):=gK.jd h (Ed e vs)
structure AO (B:List IT) (k:Nat) (t:IT) (seen:List Nat) (m:Int) (s:List UInt8) (seen':List Nat) (m':Int):Prop where
 Kl:m'+2*min 30 m<=m+1+2*min 30 m'
 lt:m<m'
 ln:seen'.length+m<=seen.length+m'
 pre:∀n∈seen,n∈seen'
 ok:m+iU B k t<=30->s=(lP B k t seen).1/\seen'=(lP B k t seen).2/\m'=m+iU B k t
 no:¬m+iU B k t<=30->30<m'
theorem AO.R3 {B:List IT} {k:Nat} {t:IT} {seen:List Nat} {m:Int} (h:30<=m) (s:List UInt8):AO B k t seen m s seen (m+1):=by
 have:=sU (B:=B) (k:=k) (t:=t);exact⟨by omega,by omega,by omega,fun _ h=>h,fun h=>by omega,fun _=>by omega⟩
theorem AO.free {B:List IT} {k n:Nat} {seen:List Nat} {m:Int} (hb:bd B n=none) (hx:ex B k (.v n)=true) (h:m<30):AO B k (.v n) seen m [xV (kg n seen)] (if n∈seen then seen else seen++[n]) (m+1):=by
 cases k with
 |zero=>simp[ex]at hx
 |succ k=>
  have h1:iU B (k+1) (.v n)=1:=by simp[iU,hb]
  refine⟨by omega,by omega,by split<;>simp<;>omega,fun x hx=>by split<;>simp[hx],fun _=>⟨by simp[lP,hb],by simp[lP,hb],by rw[h1];rfl⟩,fun h=>by omega⟩
theorem AO.base {B:List IT} {k:Nat} {c:Int} {seen:List Nat} {m:Int} (h:m<30):AO B k (.b c) seen m [fq c] seen (m+1):=by
 have h1:iU B k (.b c)=1:=by cases k<;>rfl
 exact⟨by omega,by omega,by omega,fun _ h=>h,fun _=>⟨by cases k<;>rfl,by cases k<;>rfl,by rw[h1];rfl⟩,fun h=>by omega⟩
theorem AO.two {B:List IT} {k j:Nat} {c:Int} {x y:IT} {seen s1 s2:List Nat} {m m1 m2:Int} {a b:List UInt8} (hx:ex B k (.p c x y)=true) (hj:j<k) (x1:ex B j x=true) (x2:ex B j y=true) (h:m<30)
  (h1:AO B j x seen (m+1) a s1 m1) (h2:AO B j y s1 m1 b s2 m2):AO B k (.p c x y) seen m (40::(a++fq c::(b++[41]))) s2 m2:=by
 cases k with
 |zero=>omega
 |succ k=>
  have e1:iU B (k+1) (.p c x y)=1+iU B j x+iU B j y:=by simp only[iU];rw[ep x1 (by omega),ep x2 (by omega)]
  have e2:∀s,lP B k x s=lP B j x s:=fun s=>eY x1 (by omega)
  have e3:∀s,lP B k y s=lP B j y s:=fun s=>eY x2 (by omega)
  obtain⟨b1,l1,n1,p1,o1,q1⟩:=h1;obtain⟨b2,l2,n2,p2,o2,q2⟩:=h2;refine⟨by omega,by omega,by omega,fun n hn=>p2 n (p1 n hn),fun hle=>?_,fun a8=>?_⟩
  ·rw[e1]at hle;obtain⟨r1,r2,r3⟩:=o1 (by omega);obtain⟨r4,r5,r6⟩:=o2 (by omega);simp only[lP,e2,e3];refine⟨by rw[r4,r1,r2],by rw[r5,r2],by rw[e1];omega⟩
  ·rw[e1]at a8;by_cases h3:m+1+iU B j x<=30
   ·obtain⟨_,_,r3⟩:=o1 h3;exact q2 (by omega)
   ·have:=q1 h3;omega
theorem AO.hd {B:List IT} {k:Nat} {t:IT} {seen s':List Nat} {m m':Int} {s:List UInt8} (hx:ex B k t=true) (h:AO B k (Av.hd B k t) seen m s s' m'):AO B k t seen m s s' m':=by
 obtain⟨h1,h2,h3,h4,h5,h6⟩:=h;rw[AD hx]at h5 h6;rw[D2 hx]at h5;exact⟨h1,h2,h3,h4,h5,h6⟩
section
variable {P:Program} {n:Nat} {s:St} {L Ln:Ts} {Q:Exit->St->Ts->Prop} {c:Code}
theorem TJ.sD (hn:ri Ln) (h:TJ P n c Q s (Ln++L)):TJ P n c Q s L:=by
 intro eK w0 g0 X S g a w hR;refine h eK w0 g0 X S g a w ⟨hR.inv,hR.fr,hR.size,hR.defers,hR.slot,iq.app.2 ⟨[],S,rfl,hn.nq,hR.nq⟩,hR.nd,hR.out⟩
end
theorem aW {L:Ts} {T:TypeId}:Cr L T (.pointer none):=.inl rfl
theorem ai {L:Ts} {T:TypeId} {row:List DV} {v:Value} (h:(.n T row,v)∈L):Cr L T v:=.inr ⟨row,h⟩
end Go.Av
namespace Go.Av
open Go
section
variable {P:Program} {n:Nat} {s:St} {L:Ts} {Q:Exit->St->Ts->Prop} {c:Code}
theorem aI {id:Nat} (h:Q .ret s L):fi id Q .ret s L:=h
theorem aU (h:Q .ret s L):oK P n c Q .ret s L:=h
theorem aL {α:Type} {St_:α->St} {Tr_:α->Ts} {m:α->Nat} {H:α->Prop} {k:Nat} (h:Q .ret s L):Dw St_ Tr_ m H k Q .ret s L:=h
end
section
variable {P:Program} {n:Nat} {s:St} {L:Ts} {all:Array Oper} {ow:Nat->Bool} {ws cs ns:List Nat} {K:St->Ts->Prop} {i:Nat} {o:Oper} {rest:List Oper}
structure aK (P:Program) (s:St) (L:Ts) (o:Oper) (k:AV->Prop):Prop where
 ex:∃x,bU P s L o x/\k x
structure dJ (P:Program) (s:St) (L:Ts) (o:Oper) (k:AV->Ts->Prop):Prop where
 run:kZ P s L o k
theorem aK.of {k:AV->Prop} {x:AV} (h:bU P s L o x) (hk:k x):aK P s L o k:=⟨x,h,hk⟩
theorem dJ.box {T:TypeId} {x:Operand} {cells:List CV} {row:List DV} {k:AV->Ts->Prop} (ho:o.op=.box T x) (hx:bE s x=some (.agg cells)) (dK:Cp cells=some row) (hK:∀pv,k (.c (.d (.raw pv))) ((.n T row,pv)::L)):dJ P s L o k:=⟨kZ.box ho hx dK hK⟩
theorem dJ.call {k:AV->Ts->Prop} (h:b9 P s L o k):dJ P s L o k:=⟨kZ.call h⟩
theorem pW {y z:Prop} (hg:o.guard=none) (h:y):gX all s o y z:=by unfold gX;rw[hg];exact h
theorem bW (hg:o.guard=none) (h:aK P s L o fun x=>j9 P n all ow K (i+1) rest (s.put o.dst x s.V s.A) L):j9 P n all ow K i (o::rest) s L:=by
 obtain⟨x,h3,h4⟩:=h.ex;exact bL (pW hg trivial) h3 h4
theorem dC (hg:o.guard=none) (h:dJ P s L o fun x L'=>j9 P n all ow K (i+1) rest (s.put o.dst x s.V s.A) L'):j9 P n all ow K i (o::rest) s L:=jG (pW hg trivial) h.run
theorem uF (hi:cs.contains i=false) (hn:ns.contains i=true) (h:gX all s o (aK P s L o fun x=>iV P all ow ws cs ns K (i+1) rest (s.put o.dst x s.V s.A) L) (iV P all ow ws cs ns K (i+1) rest (s.put o.dst (.c .undef) s.V s.A) L)):iV P all ow ws cs ns K i (o::rest) s L:=
 ⟨nI (fun h=>by
  obtain⟨x,h3,h4⟩:=h.ex;exact .inr (.inl ⟨by simpa using hi,by simpa using hn,x,h3,h4.run⟩)) (fun h=>h.run) h⟩
theorem ft (hg:o.guard=none) (hi:cs.contains i=false) (hn:ns.contains i=true) (h:aK P s L o fun x=>iV P all ow ws cs ns K (i+1) rest (s.put o.dst x s.V s.A) L):iV P all ow ws cs ns K i (o::rest) s L:=
 uF hi hn (pW hg h)
theorem jK (hi:cs.contains i=true) (h:gX all s o (dJ P s L o fun x L'=>iV P all ow ws cs ns K (i+1) rest (s.put o.dst x s.V s.A) L') (iV P all ow ws cs ns K (i+1) rest (s.put o.dst (.c .undef) s.V s.A) L)):iV P all ow ws cs ns K i (o::rest) s L:=
 ⟨nI (fun h=>.inl ⟨by simpa using hi,h.run.map fun x L' h=>h.run⟩) (fun h=>h.run) h⟩
theorem fW (hg:o.guard=none) (hi:cs.contains i=true) (h:dJ P s L o fun x L'=>iV P all ow ws cs ns K (i+1) rest (s.put o.dst x s.V s.A) L'):iV P all ow ws cs ns K i (o::rest) s L:=
 jK hi (pW hg h)
@[congr] theorem Mx {k:AV->Prop} {s':St} (h:s=s'):aK P s L o k=aK P s' L o k:=by rw[h]
@[congr] theorem Nf {k:AV->Ts->Prop} {s':St} (h:s=s'):dJ P s L o k=dJ P s' L o k:=by rw[h]
end
theorem x9 (s:List UInt8) (d c:UInt8):∀p,p<=s.length->ee (s++[d]) c p=ee s c p
 |0,_=>rfl
 |p+1,h=>by
  simp only[ee];rw[adJ (by omega),x9 s d c p (by omega)]
theorem Ee (s:List UInt8) (d c:UInt8):dp (s++[d]) c=if d=c then(s.length:Int)else dp s c:=by
 simp only[dp,adS,adR,List.length_nil,adW,ee];rw[adN (adV _),x9 s d c _ (adV _)];simp
def Kr (ns:List UInt8) (ts:List IT) (c:UInt8):Option IT:=if 0<=dp ns c then ts[(dp ns c).toNat]? else none
theorem Ks (c:UInt8):Kr [] [] c=none:=by simp[Kr,dp,ee]
theorem Kt {ns:List UInt8} {ts:List IT} (d c:UInt8) (t:IT) (h:ts.length=ns.length):Kr (ns++[d]) (ts++[t]) c=if d=c then some t else Kr ns ts c:=by
 simp only[Kr,Ee];by_cases e:d=c
 ·rw[if_pos e,if_pos e,if_pos (by omega)];rw[adN (by omega)];simp[h]
 ·rw[if_neg e,if_neg e];have hb:=nY ns c ns.length;split
  ·rename_i h0;have:(dp ns c).toNat<ts.length:=by simp only[dp]at h0⊢;omega
   rw[adJ this]
  ·rfl
structure Sn where
 p:Value
 c:UInt8
 t:Value
 up:Value
def sT (T:TypeId) (S:List Sn):Ts:=S.map fun x=>(.n T [.str [x.c],.raw x.t,.raw x.up],x.p)
@[simp] theorem Fa {T:TypeId} {S:List Sn} (x:Sn):sT T (x::S)=(.n T [.str [x.c],.raw x.t,.raw x.up],x.p)::sT T S:=rfl
theorem My {T:TypeId} {S:List Sn} {x:Sn} (h:x∈S):(.n T [.str [x.c],.raw x.t,.raw x.up],x.p)∈sT T S:=adI.2 ⟨x,h,rfl⟩
inductive Sc (S:List Sn) (G:List Nd) (ν:List (Option Value)):Value->List UInt8->List IT->Prop
 |nil:Sc S G ν aq [] []
 |snoc {q:Value} {c:UInt8} {v up:Value} {ns:List UInt8} {ts:List IT} {t:IT}:(⟨q,c,v,up⟩:Sn)∈S->Sc S G ν up ns ts->Rn G ν v t->Sc S G ν q (ns++[c]) (ts++[t])
theorem Sc.len {S:List Sn} {G:List Nd} {ν:List (Option Value)} {q:Value} {ns:List UInt8} {ts:List IT} (h:Sc S G ν q ns ts):ts.length=ns.length:=by
 induction h with
 |nil=>rfl
 |snoc _ _ _ ih=>simp[ih]
theorem Sc.ge {S S':List Sn} {G G':List Nd} {ν ν':List (Option Value)} (hg:Ge G ν G' ν') (hs:∀x∈S,x∈S') {q:Value} {ns:List UInt8} {ts:List IT} (h:Sc S G ν q ns ts):Sc S' G' ν' q ns ts:=by
 induction h with
 |nil=>exact .nil
 |snoc h1 _ h3 ih=>exact .snoc (hs _ h1) ih (h3.ge hg)
def Pc (L:Ts):Prop:=∀T row v,(.n T row,v)∈L->v≠aq
inductive GS (G:List Nd) (ν:List (Option Value)):List Value->List IT->Prop
 |nil:GS G ν [] []
 |cons {p:Value} {t:IT} {ps:List Value} {ts:List IT}:Rn G ν p t->GS G ν ps ts->GS G ν (p::ps) (t::ts)
theorem GS.len {G:List Nd} {ν:List (Option Value)} {ps:List Value} {ts:List IT} (h:GS G ν ps ts):ps.length=ts.length:=by
 induction h with
 |nil=>rfl
 |cons _ _ ih=>simp[ih]
theorem GS.ge {G G':List Nd} {ν ν':List (Option Value)} (hg:Ge G ν G' ν') {ps:List Value} {ts:List IT} (h:GS G ν ps ts):GS G' ν' ps ts:=by
 induction h with
 |nil=>exact .nil
 |cons h1 _ ih=>exact .cons (h1.ge hg) ih
theorem GS.app {G:List Nd} {ν:List (Option Value)} {ps:List Value} {ts:List IT} (h:GS G ν ps ts) {p:Value} {t:IT} (h1:Rn G ν p t):GS G ν (ps++[p]) (ts++[t]):=by
 induction h with
 |nil=>exact .cons h1 .nil
 |cons h2 _ ih=>exact .cons h2 ih
theorem pV.ge {G G':List Nd} {ν ν':List (Option Value)} (hg:Ge G ν G' ν') {l:List Nat} (h:pV ν l):pV ν' l/\l.map (pU ν')=l.map (pU ν):=by
 have:∀n∈l,ν'[n]? =some (some (pU ν n)):=fun n hn=>hg.vr _ _ (h n hn)
 refine⟨fun n hn=>by rw[oz (this n hn)];exact this n hn,List.map_congr_left fun n hn=>oz (this n hn)⟩
theorem pV.app {ν:List (Option Value)} {l:List Nat} (h:pV ν l) {n:Nat} {p:Value} (hp:ν[n]? =some (some p)):pV ν (l++[n]):=fun m hm=>by
 rcases adQ.1 hm with hm|hm
 ·exact h m hm
 ·simp at hm;subst hm;rw[oz hp];exact hp
section
variable {P:Program} {n:Nat} {s:St} {L:Ts} {Q:Exit->St->Ts->Prop} {c:Code}
theorem TJ.Pd (h:Pc L->TJ P n c Q s L):TJ P n c Q s L:=by
 intro eK w0 g0 X S g a w hR;refine h (fun T row v hm=>?_) eK w0 g0 X S g a w hR;obtain⟨b,xs,rfl,_⟩:=hR.nq.node hm;simp
end
theorem sZ {G:List Nd} {ν:List (Option Value)} {B:List IT} (hG:GR G ν B) {x:Nd} (hN:GN (x::G)):∀n:Nat,ν[n]? ≠some (some x.p):=fun n hn=>by
 obtain⟨q,h1,_⟩:=hG.var _ _ hn;have:=hN.nd;simp only[adM,adH]at this;exact this.1 (adI.2 ⟨_,h1,rfl⟩)
theorem GN.tail {x:Nd} {G:List Nd} (h:GN (x::G)):GN G:=⟨(adH.1 (by simpa using h.nd)).2,fun y hy=>h.nn y (.tail _ hy)⟩
theorem GR.Ay {G:List Nd} {ν:List (Option Value)} {B:List IT} (hG:GR G ν B) (hs:ry B) {pa pb:Value} (hN:GN (⟨pb,0,aq,aq,aq⟩::⟨pa,0,aq,aq,aq⟩::G)):
  GR (⟨pb,0,aq,aq,aq⟩::⟨pa,0,aq,aq,aq⟩::G) (ν++[some pa]++[some pb]) (B++[.v B.length,.v (B.length+1)])/\Ge G ν (⟨pb,0,aq,aq,aq⟩::⟨pa,0,aq,aq,aq⟩::G) (ν++[some pa]++[some pb]):=by
 obtain⟨h1,h2⟩:=(hG.sup (G':=⟨pa,0,aq,aq,aq⟩::G) fun x hx=>by simp[hx]).Kq (p:=pa) (by simp) (sZ hG hN.tail) hs;obtain⟨h3,h4⟩:=(h1.sup (G':=⟨pb,0,aq,aq,aq⟩::⟨pa,0,aq,aq,aq⟩::G) fun x hx=>adL _ hx).Kq (p:=pb) (by simp) (sZ h1 hN) ((lO.one B).sc hs);refine⟨by simpa using h3,?_⟩;have g1:Ge G ν (⟨pa,0,aq,aq,aq⟩::G) ν:=Ge.sup fun x hx=>by simp[hx]
 have g2:Ge (⟨pa,0,aq,aq,aq⟩::G) (ν++[some pa]) (⟨pb,0,aq,aq,aq⟩::⟨pa,0,aq,aq,aq⟩::G) (ν++[some pa]):=Ge.sup fun x hx=>adL _ hx
 exact g1.trans (h2.trans (g2.trans h4))
theorem GR.wK {G:List Nd} {ν:List (Option Value)} {B:List IT} (hG:GR G ν B) (hs:ry B) {po:Value} (hN:GN (⟨po,0,aq,aq,aq⟩::G)):
  GR (⟨po,0,aq,aq,aq⟩::G) (ν++[some po]++[none]) (B++[.v B.length,.v (B.length+1)])/\Ge G ν (⟨po,0,aq,aq,aq⟩::G) (ν++[some po]++[none]):=by
 obtain⟨h1,h2⟩:=(hG.sup (G':=⟨po,0,aq,aq,aq⟩::G) fun x hx=>by simp[hx]).Kq (p:=po) (by simp) (sZ hG hN) hs;obtain⟨h3,h4⟩:=h1.R2;refine⟨by simpa using h3,?_⟩;have g1:Ge G ν (⟨po,0,aq,aq,aq⟩::G) ν:=Ge.sup fun x hx=>by simp[hx]
 exact g1.trans (h2.trans h4)
theorem AP {B:List IT} (h:ku B) (n m:Nat):ku (B++[.v n,.v m]):=h.app fun u hu=>by
 simp at hu;rcases hu with rfl|rfl<;>trivial
theorem Pe {α:Type} {l:List α} (h:l.length=1):∃x,l=[x]:=by
 match l,h with
 |[x],_=>exact⟨x,rfl⟩
theorem Pf {α:Type} {l:List α} (h:l.length=2):∃x y,l=[x,y]:=by
 match l,h with
 |[x,y],_=>exact⟨x,y,rfl⟩
theorem Pg {α:Type} {l:List α} (h:l.length=3):∃x y z,l=[x,y,z]:=by
 match l,h with
 |[x,y,z],_=>exact⟨x,y,z,rfl⟩
theorem aR.args {P:Program} {f:FuncId} {xs ys:List AV} {L:Ts} {R:AV->Ts->Prop} (h:aR P f xs L R) (hl:ys.length=xs.length)
  (hr:∀(i:Nat) x' x,ys[i]? =some x'->xs[i]? =some x->∀g w u,aV g w [] x' u->aV g w [] x u):aR P f ys L R:=
 ⟨h.1,fun g w vs S h1 h2 h3 h4 h5 h6 h7 h8 h9=>h.2 g w vs S h1 h2 h3 h4 (by rw[h5,hl]) (fun i x u hx hu=>by
  have hi:i<ys.length:=by rw[hl];exact(adF.1 hx).1
  have gp:ys[i]? =some ys[i]:=adU hi;exact hr i _ x gp hx g w u (h6 i _ u gp hu)) h7 h8 h9⟩
theorem Mz {g:Gh} {w:World} {u:Value} (h:aV g w [] (.c .np) u):aV g w [] (.c (.d (.raw aq))) u:=by
 simp only[aV,dD,bm]at h;subst h;exact⟨rfl,rfl⟩
section
variable {P:Program} {n:Nat} {s s':St} {L L':Ts} {x y:Code} {all:Array Oper} {ws cs ns:List Nat} {ow:Nat->Bool} {K:St->Ts->Prop}
theorem CC {all':Array Oper} (p:List Nat):∀(ops:List Oper) (i:Nat) (s:St) (L:Ts),(∀o∈ops,o.guard=none)->kR P all ow ws cs ns K i ops s L->kR P all' ow ws cs ns K i (ops.map (iB p)) s L
 |[],_,_,_,_,h=>h
 |o::rest,i,s,L,hg,h=>by
  have Om:=hg o (by simp);have ih:=fun s L=>CC (all':=all') p rest (i+1) s L (fun o ho=>hg o (by simp[ho]))
  simp only[adM,kR]at h⊢;refine pW (o:=iB p o) Om ?_;rcases(fO h).1 with⟨_,h1⟩|⟨h0,_⟩
  rotate_left
  ·simp[gw,Om]at h0
  rcases h1 with⟨h2,h3⟩|⟨h2,h3,x,h4,h5⟩|⟨h2,h3,h4⟩
  ·exact .inl ⟨h2,kZ.map (o:=o) (fun x L' h=>ih _ _ h) h3⟩
  ·exact .inr (.inl ⟨h2,h3,x,h4,ih _ _ h5⟩)
  ·exact .inr (.inr ⟨h2,h3,fV (o:=o) (fun x V A h=>⟨h.1,ih _ _ h.2⟩) h4⟩)
theorem TJ.yW {Q:Exit->St->Ts->Prop} {id:Nat} {l:List Oper} (hm:P.follows .mixedOrders=true) (p:List Nat) (ow:Nat->Bool) (ws cs ns:List Nat) (hp:kH l p=true) (hd:ej (bM l p).toArray ws=true) (hc:lD (bM l p).toArray ws cs ns=true)
  (h:kR P l.toArray ow ws cs ns (fun s' L'=>Q .normal s' L') 0 (eA l p) s L):TJ P n (.region id l.toArray true) Q s L:=by
 obtain⟨p1,p2,p3,p4,p5⟩:=iQ hp;intro eK w0 g0 X S g a w hR;have Dy:c7 n (bM l p).toArray.toList=true:=by
  have hx:c7 n l=true:=by simpa[codeOk]using eK
  simp only[c7,List.all_eq_true]at hx⊢;intro o' s4;obtain⟨j,hj⟩:=adT s4;obtain⟨o,q1,rfl,_⟩:=kU hp (j:=j) (o':=o') (by simpa using hj);exact hx o (adO q1)
 have Vg:∀o∈eA l p,o.guard=none:=fun o ho=>by
  obtain⟨i,hi,rfl⟩:=adI.1 ho;have:=p2 i hi;rw[List.getD_eq_getElem?_getD,adU this];exact p4 _ (List.getElem_mem this)
 obtain⟨τ,m,k1,k2,k3,k4⟩:=me (eA l p|>.map (iB p)) 0 s L (CC (all':=(bM l p).toArray) p _ _ _ _ Vg h);obtain⟨hI,hx⟩:=hR.inv.heap (w':={w with drawn:=w.drawn+1}) rfl;have hF:Fr w g {w with drawn:=w.drawn+1} g:=(Fr.refl hR.fr.now).heap rfl rfl rfl rfl;have hJ:Jb w0 g0 X L S g {w with drawn:=w.drawn+1}:=(Jb.mk hR.fr hR.nq hR.nd hR.out).cM hF;have eM:(bM l p).toArray.size=l.length:=by simp[dj,p1]
 have wA:∀(i:Nat),(bM l p).toArray[i]? =(bM l p)[i]? :=fun i=>by simp
 refine wp_region_any hm (rm hp _ _ (Array.replicate l.length false) a _ (by simp) (by simp) (fun i=>?_) (vA (K:=fun s' L'=>Q .normal s' L') (ow:=ow) hd hc Dy (fun s' L' S' g' a' w' h1 h2=>⟨s',g',L',S',h1,h2⟩) _ τ m L S _ 0 g a _ ?_ ?_ (adX _) ?_ ?_ ?_ ?_ hJ))
 ·simp only[Array.getElem?_replicate];by_cases hi:i<l.length
  ·have:=List.idxOf_lt_length_of_mem (p3 i hi);rw[if_pos (by omega),if_pos (by simpa using hi)]
  ·have On:i∉p:=fun h=>hi (p2 i h)
   rw[if_neg (by rw[List.idxOf_eq_length On];omega),if_neg (by simpa using hi)]
 ·refine Nat.le_trans (List.length_filter_le _ _) (by simp[dj,p1])
 ·refine⟨by rw[eM,<-p1,<-dj (l:=l)];exact k1,fun j o hj ho=>?_⟩;have:=(k3 j o hj (by rw[wA]at ho;exact ho)).2;simpa only[adW]using this
 ·intro j o hj ho _;have:=(k3 j o hj (by rw[wA]at ho;exact ho)).1;simpa only[adW]using this
 ·intro i hi;have AU:=(adZ.1 hi).1;simp at AU;simp[AU]at hi
 ·rcases k4 with⟨h1,h2⟩|⟨h1,oc,h2,h4,h5,h3⟩
  ·exact .inl ⟨by rw[h1];simp[bM],h2⟩
  ·refine .inr ⟨by simpa using h1,oc,by rw[wA];exact h2,h4,h5,?_⟩;simp only[adW]at h3;exact h3
 ·refine⟨by rw[k2];exact hI,.refl hF.now,hR.size,hR.defers,by simp[dj,p1],fun i o t x ho hl=>?_,fun t x _ gp=>?_,fun i _ bZ=>?_,adX _,fun i o ho hl=>?_⟩
  ·have hi:=(adZ.1 hl).1;simp at hi;simp[hi]at hl
  ·rw[k2]at gp⊢;obtain⟨u,h1,h2⟩:=hR.slot t x gp;exact⟨u,h1,aV.ext hx h2⟩
  ·rw[eM]at bZ;simp[bZ]
  ·have hi:=(adZ.1 hl).1;simp at hi;simp[hi]at hl
theorem TJ.Vh {Q:Exit->St->Ts->Prop} {id:Nat} {l:List Oper} (hm:P.follows .mixedOrders=true) (p:List Nat) (ow:Nat->Bool) (ws cs ns:List Nat) (hp:kH l p=true) (hd:ej (bM l p).toArray ws=true) (hc:lD (bM l p).toArray ws cs ns=true)
  (h:∀K:St->Ts->Prop,(∀s' L',TJ P n y Q s' L'->K s' L')->iV P l.toArray ow ws cs ns K 0 (eA l p) s L):TJ P n (.seq (.region id l.toArray true) y) Q s L:=
 TJ.seq (TJ.yW hm p ow ws cs ns hp hd hc (h _ fun _ _ h=>h).run)
end
theorem kF.Ku {w:World}:∀{cs:List GC} {xs:List Value} {S:List Nat} {cs':List GC} {us:List Value} {S':List Nat},kF w cs xs S->kF w cs' us S'->kF w (cs++cs') (xs++us) (S++S')
 |[],xs,S,cs',us,S',h,h'=>by
  simp only[kF]at h;obtain⟨rfl,rfl⟩:=h;simpa using h'
 |c::cs,xs,S,cs',us,S',h,h'=>by
  simp only[kF]at h;obtain⟨x,xs',S1,S2,rfl,rfl,h1,h2⟩:=h;simp only[List.cons_append,kF];exact⟨x,xs'++us,S1,S2++S',rfl,by simp,h1,h2.Ku h'⟩
section
variable {P:Program} {n:Nat} {s:St} {L L2:Ts} {all:Array Oper} {ow:Nat->Bool} {K:St->Ts->Prop} {i:Nat} {o:Oper} {rest:List Oper}
theorem yX {x y:Operand} {t e:TypeId} {d de:TD} {z:List CV} {m:Nat} {cs cs':List GC} {Lc:Ts} {v:Value} {u:AV} {nr:List (List DV)} (hg:o.guard=none) (ho:o.op=.call {callee:=.builtin .append,args:= #[x,y],argTypes:= #[t,t]})
  (ht:td P t=some d) (tz:d.el=some e) (he:td P e=some de) (hz:de.zero=some z) (rJ:z.length=de.sz) (hx:bE s x=some (.c (.d (.raw v)))) (hy:bE s y=some u) (En:rowsOf s.A u=some nr) (hl:∀r∈nr,r.length=de.sz)
  (HS:Mk cs' nr.flatten Lc) (hp:L.Perm ((.t e de.sz m cs,v)::(Lc++L2))) (hb:(m+nr.length)*de.lG<=140737488355328) (hm:m+nr.length<=9223372036854775807)
  (hK:∀v',j9 P n all ow K (i+1) rest (s.put o.dst (.c (.d (.raw v'))) s.V s.A) ((.t e de.sz (m+nr.length) (cs++cs'),v')::L2)):j9 P n all ow K i (o::rest) s L:=by
 refine⟨fun vZ w0 g0 X S g a w Q hR hQ=>?_⟩;simp only[c7,List.all_cons,Bool.and_eq_true]at vZ;have eT:∀d,o.dst=some d->d<n:=fun d e=>by have:=vZ.1;rw[e]at this;simpa using this
 obtain⟨S0,vQ,Jc⟩:=hR.nq.perm hp;obtain⟨S1,S12,rfl,lK,R4⟩:=Jc;obtain⟨SL,S2,rfl,R5,yN⟩:=iq.app.1 R4;simp only[Tr]at lK;obtain⟨xs,S3,dS,Ml,rfl⟩:=lK;have oQ:=vQ.nodup_iff.1 hR.nd;have jj:=fun b hb=>hR.out b (vQ.mem_iff.2 hb)
 have az:∀b∈v.ownBlock.toList++S3++(SL++S2),b<w.heap.size:=fun b hb=>hR.nq.lt b (vQ.mem_iff.2 hb)
 have hv:=aJ hR.slot hx;simp only[aV,dD,bm,bh]at hv;obtain⟨hv,kC⟩:=hv;have hu:=aJ hR.slot hy;obtain⟨inf,hi,o6,C2,h0⟩:=fZ he;obtain⟨zv,Hd,GI⟩:=h0 z hz;have IX:zv.cells.size=inf.size:=by have:=iF GI;simp at this;omega
 obtain⟨news,wD,vJ,zY⟩:=tA hR.inv hu En hl;have GH:news.length=nr.flatten.length:=by
  have yh:nr.flatten.length=nr.length*de.sz:=by
   clear wD zY hb hm hK En HS;induction nr with
   |nil=>simp
   |cons r nr ih=>simp only[List.flatten_cons,adS,adR];rw[hl r (by simp),ih (fun x hx=>hl x (by simp[hx])),Nat.add_mul,Nat.one_mul,Nat.add_comm]
  rcases wD with⟨h1,h2,_⟩|⟨_,_,_,h1,_⟩
  ·rw[yh,h1,h2];simp
  ·rw[yh,h1]
 have y5:w.ownsRow 0 e inf.size v m xs:=by rw[o6];exact dS
 obtain⟨v',w',ff,s4,hc⟩:=mh (P:=P) t o.type e inf zv (mG ht tz) hi Hd IX v m xs y5 (a.eval y) nr.length news (by rw[o6];exact wD) vJ (by simp only[maxLen];omega) (by rw[C2];exact hb);rw[o6]at s4;unfold wpList;rw[if_pos (by simp[Region.wanted,hg])];refine .inl ?_;unfold Oper.wp;have Cq:(execOp a.eval o).run P w=.ok (.value v') w':=by
  unfold execOp;simp only[ho,resolve,invoke,Sem.run_bind,Sem.run_pure,Result.andThen_ok,List.map_toArray,adM,List.map_nil,hv];exact oE ff
 rw[Cq];have D3:v'.oneCell'=true:=by
  rcases s4.2 with⟨rfl,_⟩|⟨b1,c1,cu1,rfl,_⟩<;>rfl
 rcases hc with⟨rfl,rfl⟩|⟨b,cs',AS,xY,rfl⟩|⟨o',xY,rfl⟩
 ·refine(hK v').run vZ.2 w0 g0 X (v'.ownBlock.toList++(S3++SL)++S2) g _ _ Q (hR.put eT (x:=.c (.d (.raw v'))) ⟨rfl,D3⟩ hR.inv (.refl _ _ _) hR.fr ⟨_,S2,rfl,?_,yN⟩ (by simpa using oQ) (fun b hb=>jj b (by simpa using hb))) hQ;simp only[Tr];exact⟨xs++news,S3++SL,s4,Ml.Ku (HS.PM GH zY R5),rfl⟩
 ·have RM:b∈v.ownBlock.toList++S3++(SL++S2):=by simp[AS]
  obtain⟨wh,LD,OU,Tm,OV⟩:=jj b RM;have gm:∀b',b'≠b->(w.setRow b cs').heap[b']? =w.heap[b']? :=fun b' eG=>cm w b b' _ eG
  have IC:(w.setRow b cs').heap.size=w.heap.size:=by simp
  have uK:jX g.im w g.im (w.setRow b cs'):=⟨fun _=>adV _,fun b' o' GF=>by
   have dc:b'≠b:=fun e=>by subst e;omega
   exact World.cell?_of_block (a:=⟨b',o',none⟩) (gm b' dc)⟩
  have ID:Ext g w s.A g (w.setRow b cs') s.A:=⟨fun _ _ h=>h,uK,fun _ r h=>⟨r,h,rfl,adV _,fun _=>rfl⟩⟩;have OW:Inv g (w.setRow b cs') s.V s.A:=by
   refine⟨hR.inv.oP,hR.inv.lF,fun l row' b' h3 h4=>?_,fun k r u h3 h4=>?_,hR.inv.kA,hR.inv.iS,hR.inv.iX,fun b' eG=>hR.inv.fresh b' (by omega)⟩
   ·exact hR.inv.fb ID h3 h4 (gm b' (fun e=>by subst e;exact LD (adO h4))) (hR.inv.obj l row' b' h3 h4).1
   ·exact hR.inv.fc ID h3 h4 (fun b' eG=>gm b' (fun e=>by subst e;exact OU (Gh.jN h4 eG))) (fun _ _=>rfl)
  have OX:xn w0 g0 X (w.setRow b cs') g:=by
   refine⟨hR.fr.os,hR.fr.tape,hR.fr.output,by rw[IC];exact hR.fr.size,fun b' q1 q2 q3 q4=>?_,hR.fr.iY,hR.fr.ob,hR.fr.ar,hR.fr.wq,hR.fr.yp,hR.fr.BS⟩;rw[gm b' (fun e=>by
    subst e;rcases OV with q|q
    ·omega
    ·exact q4 q)]
   exact hR.fr.qF b' q1 q2 q3 q4
  have yO:(b::(S3++(SL++S2))).Nodup:=by simpa[AS]using oQ
  have AX:b∉S3++(SL++S2):=(adH.1 yO).1;refine(hK v').run vZ.2 w0 g0 X (v'.ownBlock.toList++(S3++SL)++S2) g _ _ Q (hR.put eT (x:=.c (.d (.raw v'))) ⟨rfl,D3⟩ OW ID OX ⟨_,S2,rfl,?_,yN.dI fun b' eG=>gm b' (fun e=>by subst e;exact AX (by simp[eG]))⟩ (by rw[xY];simpa using yO) fun b' eG=>jj b' (by rw[AS];rw[xY]at eG;simpa using eG)) hQ;simp only[Tr];exact⟨xs++news,S3++SL,s4,(Ml.dI _ _ _ fun b' eG=>gm b' (fun e=>by subst e;exact AX (by simp[eG]))).Ku (HS.PM GH (fun j q u h1 h2=>bh.fA uK q u (zY j q u h1 h2)) (R5.dI fun b' eG=>gm b' (fun e=>by subst e;exact AX (by simp[eG])))),rfl⟩
 ·obtain⟨RN,MR⟩:=hR.inv.heap (w':=w.drew) rfl;have RO:Fr w g w.drew g:=(Fr.refl hR.fr.now).heap rfl rfl rfl rfl;obtain⟨g1,vF,eZ,dn⟩:=RN.dW o' 0;have km:=RO.dW o' 0;have MT:w.drew.heap.size=w.heap.size:=rfl;rw[<-vF]at km;have w6:∀b∈S3++(SL++S2),b<w.heap.size:=fun b hb=>az b (by simp only[adG,adQ]at hb⊢;exact .inr hb)
  have hold:∀b,b<w.heap.size->(w.drew.alloc o').heap[b]? =w.heap[b]? :=fun b hb=>RowKit.Below.heap_alloc w.drew o' b hb
  have HT:(S3++(SL++S2)).Nodup:=by rw[adG]at oQ;exact(adK.1 oQ).2.1
  have uV:=hR.xo km;refine(hK v').run vZ.2 w0 g0 X (v'.ownBlock.toList++(S3++SL)++S2) g1 _ _ Q (hR.put eT (x:=.c (.d (.raw v'))) ⟨rfl,D3⟩ eZ (MR.trans dn) (hR.fr.fr km) ⟨_,S2,rfl,?_,yN.dI fun b' eG=>hold b' (w6 b' (by simp[eG]))⟩ ?_ fun b hb=>?_) hQ
  ·simp only[Tr];exact⟨xs++news,S3++SL,s4,(Ml.dI _ _ _ fun b' eG=>hold b' (w6 b' (by simp[eG]))).Ku (HS.PM GH (fun j q u h1 h2=>bh.fA (MR.trans dn).gr q u (zY j q u h1 h2)) (R5.dI fun b' eG=>hold b' (w6 b' (by simp[eG])))),rfl⟩
  ·rw[xY,adG,adG];exact adH.2 ⟨fun hm=>absurd (w6 _ hm) (by omega),HT⟩
  ·rw[xY,adG,adG]at hb;rcases adE.1 hb with rfl|hb
   ·refine⟨by rw[vF];simp,fun hm=>?_,fun hm=>?_,fun hm=>?_,.inl hR.fr.size⟩
    ·rw[vF]at hm;obtain⟨l,hl⟩:=adT hm;have:=hR.inv.qR hl;omega
    ·rw[vF]at hm;obtain⟨k,v',q1,q2⟩:=Gh.fD (g:=g) (by simpa[Gh.jg]using hm);have:=hR.inv.mE q1 q2;omega
    ·have:=(hR.fr.now _ hm).1;omega
   ·exact uV.2 b (vQ.mem_iff.2 (by rw[adG];exact List.mem_append_right _ hb))
theorem TJ.MA {Q:Exit->St->Ts->Prop} {c:Code} (t:Nat) (ht:look s.fr t=some (.c .nil)) (h:TJ P n c Q ⟨(t,.c (.d (.raw (.slice none 0 0))))::s.fr,s.V,s.A⟩ L):TJ P n c Q s L:=by
 refine TJ.conv (s':=⟨(t,.c (.d (.raw (.slice none 0 0))))::s.fr,s.V,s.A⟩) (fun g a w hR=>⟨g,hR.inv,hR.fr,hR.size,hR.defers,fun t' x hx=>?_⟩) h
 simp only[look]at hx;by_cases e:t'=t
 ·rw[if_pos e]at hx;cases hx
  subst e;obtain⟨u,h1,h2⟩:=hR.slot t' _ ht;refine⟨u,h1,?_⟩;simp only[aV,dD,bm]at h2;subst h2;exact⟨rfl,rfl⟩
 ·rw[if_neg e]at hx;exact hR.slot t' x hx
end
section
variable {P:Program} {n:Nat} {s:St} {L L2:Ts} {Q:Exit->St->Ts->Prop} {cd:Code}
theorem TJ.freeze {c:GC} {v:Value} (hp:L.Perm ((c,v)::L2)) (lR:c.pl=true) (t:Nat) (ht:look s.fr t=some (.c (.d (.raw v)))) (h:TJ P n cd Q ⟨(t,.c (.d c.dv))::s.fr,s.V,s.A⟩ L2):TJ P n cd Q s L:=by
 intro eK w0 g0 X S g a w hR;obtain⟨S0,vQ,Jc⟩:=hR.nq.perm hp;obtain⟨S1,S2,rfl,lK,yN⟩:=Jc;have oQ:=vQ.nodup_iff.1 hR.nd;have fM:=iq.zr oQ;have jj:=fun b hb=>hR.out b (vQ.mem_iff.2 hb)
 let im':Nat->Nat:=fun b=>if b∈S1 then M0 w b else g.im b
 have qS:∀b,b∉S1->im' b=g.im b:=fun b hb=>by simp only[im',if_neg hb]
 have hle:∀b,g.im b<=im' b:=fun b=>by
  simp only[im'];split
  ·rename_i hb;rw[(jj b (by simp[hb])).1];exact adX _
  ·exact adV _
 have hx:Ext g w s.A {g with im:=im'} w s.A:=⟨fun _ _ h=>h,⟨hle,fun _ _ _=>rfl⟩,fun _ r h=>⟨r,h,rfl,adV _,fun _=>rfl⟩⟩;have I3:∀b∈g.ob,b∉S1:=fun b hb hm=>(jj b (by simp[hm])).2.1 hb
 have C7:∀b∈g.jg,b∉S1:=fun b hb hm=>(jj b (by simp[hm])).2.2.1 hb
 have hI:Inv {g with im:=im'} w s.V s.A:=by
  refine⟨hR.inv.oP,hR.inv.lF,fun l row b h1 h2=>?_,fun k r u h1 h2=>?_,hR.inv.kA,hR.inv.iS,hR.inv.iX,fun b hb=>?_⟩
  ·exact hR.inv.fb hx h1 h2 rfl ((qS b (I3 b (adO h2))).trans (hR.inv.obj l row b h1 h2).1)
  ·exact hR.inv.fc hx h1 h2 (fun _ _=>rfl) (fun b hb=>qS b (C7 b (Gh.jN h2 hb)))
  ·have:b∉S1:=fun hm=>absurd (hR.nq.lt b (vQ.mem_iff.2 (by simp[hm]))) (by omega)
   exact(qS b this).trans (hR.inv.fresh b hb)
 have hF:xn w0 g0 X w {g with im:=im'}:=by
  refine⟨hR.fr.os,hR.fr.tape,hR.fr.output,hR.fr.size,hR.fr.qF,fun b h1 h2 h3=>?_,hR.fr.ob,hR.fr.ar,hR.fr.wq,hR.fr.yp,hR.fr.BS⟩;have:b∉S1:=fun hm=>by
   rcases(jj b (by simp[hm])).2.2.2.2 with q|q
   ·omega
   ·exact h3 q
  exact(qS b this).trans (hR.fr.iY b h1 h2 h3)
 refine h eK w0 g0 X S2 {g with im:=im'} a w ⟨hI,hF,hR.size,hR.defers,fun t' x gp=>?_,yN,(adK.1 oQ).2.1,fun b hb=>?_⟩
 ·simp only[look]at gp;by_cases e:t'=t
  ·rw[if_pos e]at gp;cases gp
   subst e;obtain⟨u,h1,h2⟩:=hR.slot t' _ ht;refine⟨u,h1,?_⟩;simp only[aV,dD,bm,bh]at h2;obtain⟨rfl,_⟩:=h2;exact Tr.rep c _ S1 lR lK fun b hb=>by simp[im',hb]
  ·rw[if_neg e]at gp;obtain⟨u,h1,h2⟩:=hR.slot t' x gp;exact⟨u,h1,aV.ext hx h2⟩
 ·obtain⟨q1,q2,q3,q4,q5⟩:=jj b (by simp[hb]);exact⟨(qS b (fun hm=>fM b hm hb)).trans q1,q2,q3,q4,q5⟩
end
section
variable {P:Program} {f:FuncId} {xs:List AV}
theorem tf.R6 {g:Gh} {w:World} {S:List Nat} {L:Ts} {A:List bu} {x y:AV} (h:tf L x y) (hS:∀b∈S,g.im b=0) (hT:iq w L S) {u:Value} (hr:dD g w A x u):dD (vP g w S) w [] y u:=by
 cases h with
 |c h=>exact tf.rep (.c h) hS hT (show aV g w A (.c _) u from hr)
 |agg h=>exact tf.rep (.agg h) hS hT (show aV g w A (.agg _) u from hr)
theorem aR.data {ys:List AV} {R:AV->Ts->Prop} (h:aR P f xs [] R) (hR:∀r L',R r L'->∃zs,r=.bq zs/\gR L' zs ys):ah P f xs [] (.bq ys) [] []:=by
 refine⟨h.1,adV _,fun g w vs h2 hI hT hl hr=>?_⟩;have h1:g.ob=[]:=List.length_eq_zero_iff.1 (by simpa using hI.oP);refine(h.2 g w vs [] h1 h2 hI hT hl hr rfl adP (by simp)).mono ?_;rintro e w' ⟨v,r,L',S',rfl,gD,LL,JQ,oQ,bZ,ho,ht,gu,eM,yB⟩;obtain⟨zs,rfl,hz⟩:=hR r L' gD;have hS:∀b∈S',w.heap.size<=b:=fun b hb=>by
  rcases bZ b hb with q|q
  ·cases q
  ·exact q
 have MH:∀b∈S',g.im b=0:=fun b hb=>hI.fresh b (hS b hb)
 have Ph:∀b,b∉S'->(vP g w' S').im b=g.im b:=fun b hb=>by simp only[vP,if_neg hb]
 have uQ:Inv (vP g w' S') w' [] []:=⟨rfl,rfl,fun l row b h=>by simp at h,fun k r v h=>by simp at h,fun l l' b h=>by simp[vP]at h,fun k k' v v' b h=>by simp[vP]at h,fun l k v b h=>by simp[vP]at h,fun b hb=>by
  have:b∉S':=fun h=>absurd (JQ.lt b h) (by omega)
  rw[Ph b this];exact hI.fresh b (by omega)⟩
 refine⟨v,vP g w' S',rfl,?_,uQ,⟨ho,ht,gu,eM,fun b hb _ _=>yB b hb (by simp),fun b hb _=>Ph b (fun hm=>by have:=hS b hm;omega),⟨[],by simp[vP,h1],by simp⟩,fun k v b h=>by simp[vP]at h,fun k v h=>by rw[h2]at h;simp at h,hT⟩⟩;obtain⟨us,e1,e2,e3⟩:=LL g w' [];refine⟨us,e1,by rw[e2,hz.len],fun i y u q1 q2=>?_⟩;obtain⟨x,q3,q4⟩:=hz.at_ q1;exact q4.R6 MH JQ (e3 i x u q3 q2)
end
end Go.Av
