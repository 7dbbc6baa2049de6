/- A part. -/
import Derived.Test.YtloolmchekcmeaaGreatXH30
set_option linter.unusedVariables false
set_option linter.unusedSimpArgs false
open List renaming getElem?_eq_some_iff->X2,mem_cons->X3,getElem?_append_left->X4,mem_map->X5,nodup_cons->X6,mem_cons_of_mem->X7,getElem?_append_right->X8,nodup_append->X9,map_cons->Ya
open Nat renaming lt_or_ge->Yb,le_refl->Yc
namespace Go.Av
attribute [-simp] Go.Av.bO Go.Av.dO Go.Av.ed Go.Av.ec Go.Av.cl Go.Av.cj
open Go
structure Nd where
 p:Value
 k:Int
 is:Value
 a:Value
 b:Value
abbrev al:Value:=.pointer none
abbrev Nd.row (x:Nd):List DV:=[.i x.k,.raw x.is,.raw x.a,.raw x.b]
def Rm (T:TypeId) (x:Nd):GC×Value:=(.n T x.row,x.p)
def gT (T:TypeId) (G:List Nd):Ts:=G.map (Rm T)
theorem Iw {T:TypeId} {G:List Nd} {x:Nd} (h:x∈G):(.n T [.i x.k,.raw x.is,.raw x.a,.raw x.b],x.p)∈gT T G:=X5.2 ⟨x,h,rfl⟩
theorem F2 {T:TypeId} {G H:List Nd} (h:G.Perm H):(gT T G).Perm (gT T H):=h.map _
@[simp] theorem L3 {T:TypeId} {G:List Nd} (x:Nd):gT T (x::G)=(.n T [.i x.k,.raw x.is,.raw x.a,.raw x.b],x.p)::gT T G:=rfl
structure GN (G:List Nd):Prop where
 nd:(G.map Nd.p).Nodup
 nn:∀x∈G,x.p≠al
theorem GN.uniq {G:List Nd} (h:GN G) {x y:Nd} (hx:x∈G) (hy:y∈G) (e:x.p=y.p):x=y:=by
 have key:∀(l:List Nd),(l.map Nd.p).Nodup->x∈l->y∈l->x=y:=by
  intro l;induction l with
  |nil=>intro _ hx;cases hx
  |cons z l ih=>
   intro hn hx hy;simp only[Ya,X6]at hn;rcases X3.1 hx with e1|cJ
   ·rcases X3.1 hy with e2|J3
    ·rw[e1,e2]
    ·exact absurd (X5.2 ⟨y,J3,by rw[<-e,e1]⟩) hn.1
   ·rcases X3.1 hy with e2|J3
    ·exact absurd (X5.2 ⟨x,cJ,by rw[e,e2]⟩) hn.1
    ·exact ih hn.2 cJ J3
 exact key G h.nd hx hy
inductive Rn (G:List Nd) (ν:List (Option Value)):Value->IT->Prop
 |v {n:Nat} {p:Value}:ν[n]? =some (some p)->Rn G ν p (.v n)
 |b {p:Value} {k:Int}:(⟨p,k,al,al,al⟩:Nd)∈G->k≠0->Rn G ν p (.b k)
 |p {p:Value} {k:Int} {a b:Value} {x y:IT}:(⟨p,k,al,a,b⟩:Nd)∈G->k≠0->Rn G ν a x->Rn G ν b y->Rn G ν p (.p k x y)
def L4 (G:List Nd) (ν:List (Option Value)) (q:Value):Option IT->Prop
 |none=>q=al
 |some t=>Rn G ν q t
structure GR (G:List Nd) (ν:List (Option Value)) (B:List IT):Prop where
 len:ν.length=B.length
 inj:∀(n m:Nat) p,ν[n]? =some (some p)->ν[m]? =some (some p)->n=m
 var:∀(n:Nat) p,ν[n]? =some (some p)->∃q,(⟨p,0,q,al,al⟩:Nd)∈G/\L4 G ν q (bd B n)
structure Ge (G:List Nd) (ν:List (Option Value)) (G':List Nd) (ν':List (Option Value)):Prop where
 nd:∀x∈G,x.k≠0->x∈G'
 vr:∀(n:Nat) p,ν[n]? =some (some p)->ν'[n]? =some (some p)
theorem Ge.refl (G:List Nd) (ν:List (Option Value)):Ge G ν G ν:=⟨fun _ h _=>h,fun _ _ h=>h⟩
theorem Ge.trans {G G' G'':List Nd} {ν ν' ν'':List (Option Value)} (h:Ge G ν G' ν') (h':Ge G' ν' G'' ν''):Ge G ν G'' ν'':=⟨fun x hx hk=>h'.nd x (h.nd x hx hk) hk,fun n p hp=>h'.vr n p (h.vr n p hp)⟩
theorem Ge.sup {G G':List Nd} {ν:List (Option Value)} (h:∀x∈G,x∈G'):Ge G ν G' ν:=⟨fun x hx _=>h x hx,fun _ _ h=>h⟩
theorem Rn.ge {G G':List Nd} {ν ν':List (Option Value)} (h:Ge G ν G' ν') {p:Value} {t:IT} (hr:Rn G ν p t):Rn G' ν' p t:=by
 induction hr with
 |v h1=>exact .v (h.vr _ _ h1)
 |b h1 h2=>exact .b (h.nd _ h1 h2) h2
 |p h1 h2 _ _ i1 i2=>exact .p (h.nd _ h1 h2) h2 i1 i2
theorem L4.ge {G G':List Nd} {ν ν':List (Option Value)} (h:Ge G ν G' ν') {q:Value}:∀{o:Option IT},L4 G ν q o->L4 G' ν' q o
 |none,hr=>hr
 |some _,hr=>Rn.ge h hr
section
variable {G G':List Nd} {ν ν':List (Option Value)} {B:List IT}
theorem GR.sup (h:GR G ν B) (hs:∀x∈G,x∈G'):GR G' ν B:=⟨h.len,h.inj,fun n p hp=>by
 obtain⟨q,h1,h2⟩:=h.var n p hp;exact⟨q,hs _ h1,h2.ge (Ge.sup hs)⟩⟩
theorem GR.nil:GR [] [] []:=⟨rfl,fun n m p h=>by simp at h,fun n p h=>by simp at h⟩
theorem Rn.node (h:GR G ν B) {p:Value} {t:IT} (hr:Rn G ν p t):∃x∈G,x.p=p/\x.k=t.kind:=by
 cases hr with
 |v h1=>
  obtain⟨q,h2,_⟩:=h.var _ _ h1;exact⟨_,h2,rfl,rfl⟩
 |b h1 _=>exact⟨_,h1,rfl,rfl⟩
 |p h1 _ _ _=>exact⟨_,h1,rfl,rfl⟩
theorem Rn.uniq (h:GR G ν B) (hn:GN G) {p:Value} {t u:IT} (h1:Rn G ν p t) (h2:Rn G ν p u):t=u:=by
 induction h1 generalizing u with
 |v h1=>
  obtain⟨q,g1,_⟩:=h.var _ _ h1;cases h2 with
  |v h2=>rw[h.inj _ _ _ h1 h2]
  |b h2 h3=>exact absurd (congrArg Nd.k (hn.uniq h2 g1 rfl)) h3
  |p h2 h3 _ _=>exact absurd (congrArg Nd.k (hn.uniq h2 g1 rfl)) h3
 |b h1 hk=>
  cases h2 with
  |v h2=>
   obtain⟨q,g1,_⟩:=h.var _ _ h2;exact absurd (congrArg Nd.k (hn.uniq h1 g1 rfl)) hk
  |b h2 h3=>have:=congrArg Nd.k (hn.uniq h1 h2 rfl);simp at this;rw[this]
  |p h2 h3 h4 h5=>
   have:=congrArg Nd.a (hn.uniq h1 h2 rfl);simp at this;obtain⟨x,hx,hp,_⟩:=h4.node h;rw[<-this]at hp;exact absurd hp (hn.nn x hx)
 |p h1 hk ha hb i1 i2=>
  cases h2 with
  |v h2=>
   obtain⟨q,g1,_⟩:=h.var _ _ h2;exact absurd (congrArg Nd.k (hn.uniq h1 g1 rfl)) hk
  |b h2 h3=>
   have:=congrArg Nd.a (hn.uniq h2 h1 rfl);simp at this;obtain⟨x,hx,hp,_⟩:=ha.node h;rw[<-this]at hp;exact absurd hp (hn.nn x hx)
  |p h2 h3 h4 h5=>
   have:=hn.uniq h1 h2 rfl;simp at this;obtain⟨rfl,rfl,rfl⟩:=this;rw[i1 h4,i2 h5]
theorem Rn.ne (h:GR G ν B) (hn:GN G) {p:Value} {t:IT} (h1:Rn G ν p t):p≠al:=by
 obtain⟨x,hx,rfl,_⟩:=h1.node h;exact hn.nn x hx
theorem GR.bind (h:GR G ν B) (hn:GN G) {n:Nat} {p q:Value} {t:IT} {G2:List Nd} (hp:ν[n]? =some (some p)) (hf:bd B n=none) (hG:G.Perm (⟨p,0,al,al,al⟩::G2)) (hq:Rn G ν q t) (ht:t≠.v n):
  GR (⟨p,0,q,al,al⟩::G2) ν (B.set n t)/\Ge G ν (⟨p,0,q,al,al⟩::G2) ν:=by
 have lR:Ge G ν (⟨p,0,q,al,al⟩::G2) ν:=⟨fun x hx hk=>by
  rcases X3.1 (hG.mem_iff.1 hx)with rfl|h1
  ·exact absurd rfl hk
  ·exact X7 _ h1,fun _ _ h=>h⟩
 have aC:n<B.length:=by rw[<-h.len];exact(X2.1 hp).1
 refine⟨⟨by simp[h.len],h.inj,fun m p' fj=>?_⟩,lR⟩;rw[ub aC ht];by_cases e:m=n
 ·subst e;rw[hp]at fj;simp at fj;subst fj;rw[if_pos rfl];exact⟨q,by simp,hq.ge lR⟩
 ·rw[if_neg e];obtain⟨q',h1,h2⟩:=h.var m p' fj;refine⟨q',?_,h2.ge lR⟩;rcases X3.1 (hG.mem_iff.1 h1)with h3|h3
  ·simp at h3;exact absurd (h.inj m n p (h3.1▸fj) hp) e
  ·exact X7 _ h3
theorem GR.F3 (h:GR G ν B) {p:Value} (hp:(⟨p,0,al,al,al⟩:Nd)∈G) (hn:∀n:Nat,ν[n]? ≠some (some p)) (hs:uD B):GR G (ν++[some p]) (B++[.v B.length])/\Ge G ν G (ν++[some p]):=by
 have lR:Ge G ν G (ν++[some p]):=⟨fun _ h _=>h,fun n q hq=>by rw[X4 (X2.1 hq).1];exact hq⟩;have dc:∀(n:Nat) q,(ν++[some p])[n]? =some (some q)->ν[n]? =some (some q)\/(n=B.length/\q=p):=fun n q hq=>by
  rcases Yb n ν.length with h1|h1
  ·rw[X4 h1]at hq;exact .inl hq
  ·rw[X8 h1]at hq;have h0:n-ν.length=0:=by
    have:=(X2.1 hq).1;simp at this;omega
   rw[h0]at hq;simp at hq;exact .inr ⟨by rw[<-h.len];omega,hq.symm⟩
 refine⟨⟨by simp[h.len],fun n m q h1 h2=>?_,fun n q h1=>?_⟩,lR⟩
 ·rcases dc n q h1 with h3|⟨h3,h4⟩<;>rcases dc m q h2 with h5|⟨h5,h6⟩
  ·exact h.inj n m q h3 h5
  ·subst h6;exact absurd h3 (hn n)
  ·subst h4;exact absurd h5 (hn m)
  ·omega
 ·rcases dc n q h1 with h3|⟨h3,h4⟩
  ·obtain⟨q',h5,h6⟩:=h.var n q h3;refine⟨q',h5,?_⟩;rw[ue _ (by rw[<-h.len];exact(X2.1 h3).1)];exact h6.ge lR
  ·subst h3;subst h4;exact⟨al,hp,by rw[Ag];rfl⟩
theorem GR.N8 (h:GR G ν B):GR G (ν++[none]) (B++[.v B.length])/\Ge G ν G (ν++[none]):=by
 have lR:Ge G ν G (ν++[none]):=⟨fun _ h _=>h,fun n q hq=>by rw[X4 (X2.1 hq).1];exact hq⟩;have dc:∀(n:Nat) q,(ν++[none])[n]? =some (some q)->ν[n]? =some (some q):=fun n q hq=>by
  rcases Yb n ν.length with h1|h1
  ·rw[X4 h1]at hq;exact hq
  ·rw[X8 h1]at hq;have h0:n-ν.length=0:=by
    have:=(X2.1 hq).1;simp at this;omega
   rw[h0]at hq;simp at hq
 refine⟨⟨by simp[h.len],fun n m q h1 h2=>h.inj n m q (dc n q h1) (dc m q h2),fun n q h1=>?_⟩,lR⟩;obtain⟨q',h5,h6⟩:=h.var n q (dc n q h1);refine⟨q',h5,?_⟩;rw[ue _ (by rw[<-h.len];exact(X2.1 (dc n q h1)).1)];exact h6.ge lR
end
theorem gg.nodes {w:World} {T:TypeId}:∀{G:List Nd} {M:Ts} {S:List Nat},gg w (gT T G++M) S->S.Nodup->GN G/\∀p∈G.map Nd.p,∃b∈S,p=.pointer (some ⟨b,0,none⟩)
 |[],M,S,_,_=>⟨⟨List.nodup_nil,fun x hx=>by cases hx⟩,fun p hp=>by cases hp⟩
 |x::G,M,S,h,hn=>by
  obtain⟨S1,S2,rfl,h1,h2⟩:=h;simp only[Tr]at h1;obtain⟨b,xs,hb,_,_,_,rfl⟩:=h1;have CL:S2.Nodup:=(X9.1 hn).2.1;obtain⟨h3,h4⟩:=gg.nodes (G:=G) (M:=M) h2 CL;have Ro:b∉S2:=fun hm=>(X9.1 hn).2.2 b (by simp) b hm rfl
  refine⟨⟨X6.2 ⟨fun hm=>?_,h3.nd⟩,fun y hy=>?_⟩,fun p hp=>?_⟩
  ·obtain⟨b',eJ,e⟩:=h4 _ hm;rw[hb]at e;simp at e;exact Ro (e▸eJ)
  ·rcases X3.1 hy with rfl|hy
   ·rw[hb];simp
   ·exact h3.nn y hy
  ·rcases X3.1 hp with rfl|hp
   ·exact⟨b,by simp,hb⟩
   ·obtain⟨b',h5,h6⟩:=h4 p hp;exact⟨b',by simp[h5],h6⟩
section
variable {P:Program} {n:Nat} {s:St} {L:Ts} {Q:Exit->St->Ts->Prop} {c:Code} {T:TypeId} {G:List Nd} {M:Ts}
theorem TJ.nodes (hp:L.Perm (gT T G++M)) (h:GN G->TJ P n c Q s L):TJ P n c Q s L:=by
 intro eC w0 g0 X S g a w hR;obtain⟨S',h1,h2⟩:=hR.oR.perm hp;exact h (gg.nodes h2 (h1.nodup_iff.1 hR.nd)).1 eC w0 g0 X S g a w hR
end
section
variable {G:List Nd} {ν:List (Option Value)} {B:List IT}
theorem Rn.found (h:GR G ν B) (hn:GN G) {p:Value} {t:IT} {k:Nat} (hp:Rn G ν p t) (hx:ex B k t=true):
  ∃x∈G,x.p=p/\((x.is=al/\hd B k t=t)\/(x.is≠al/\∃j u,j<k/\Rn G ν x.is u/\ex B j u=true/\hd B k t=hd B j u)):=by
 cases hp with
 | @v m _ h1=>
  obtain⟨q,h2,h3⟩:=h.var _ _ h1;refine⟨_,h2,rfl,?_⟩;cases hb:bd B m with
  |none=>
   rw[hb]at h3;exact .inl ⟨h3,Bd hb⟩
  |some u=>
   rw[hb]at h3;refine .inr ⟨h3.ne h hn,?_⟩;cases k with
   |zero=>simp[ex]at hx
   |succ k=>
    simp only[ex,hb]at hx;exact⟨k,u,by omega,h3,hx,Bc hb⟩
 |b h1 _=>exact⟨_,h1,rfl,.inl ⟨rfl,by cases k<;>rfl⟩⟩
 |p h1 _ _ _=>exact⟨_,h1,rfl,.inl ⟨rfl,by cases k<;>rfl⟩⟩
inductive L5 (G:List Nd) (ν:List (Option Value)) (B:List IT) (p:Value):IT->Prop
 |v {m:Nat}:ν[m]? =some (some p)->bd B m=none->(⟨p,0,al,al,al⟩:Nd)∈G->L5 G ν B p (.v m)
 |b {c:Int}:(⟨p,c,al,al,al⟩:Nd)∈G->c≠0->L5 G ν B p (.b c)
 |p {c:Int} {a b:Value} {x y:IT}:(⟨p,c,al,a,b⟩:Nd)∈G->c≠0->Rn G ν a x->Rn G ν b y->L5 G ν B p (.p c x y)
theorem Rn.head (h:GR G ν B) {p:Value} {t:IT} (hp:Rn G ν p t) (ht:Ij B t):L5 G ν B p t:=by
 cases hp with
 | @v m _ h1=>
  obtain⟨q,h2,h3⟩:=h.var _ _ h1;rw[ht m rfl]at h3;obtain rfl:q=al:=h3;exact .v h1 (ht m rfl) h2
 |b h1 h2=>exact .b h1 h2
 |p h1 h2 h3 h4=>exact .p h1 h2 h3 h4
theorem Rn.at_ (h:GR G ν B) {p:Value} {t:IT} (hp:Rn G ν p t):∃x∈G,x.p=p:=by
 obtain⟨x,h1,h2,_⟩:=hp.node h;exact⟨x,h1,h2⟩
end
end Go.Av
namespace Go.Av
attribute [-simp] Go.Av.cj
open Go
theorem uu {n:Nat}:∀{l:List Nat} {j:Nat},(∀i,i<j->l[i]? ≠some n)->l[j]? =some n->jq n l=j
 |[],j,_,h=>by simp at h
 |x::r,j,h,hj=>by
  cases j with
  |zero=>simp at hj;subst hj;simp[jq]
  |succ j=>
   have hx:x≠n:=fun e=>h 0 (by omega) (by simp[e])
   have:=uu (n:=n) (l:=r) (j:=j) (fun i hi=>by have:=h (i+1) (by omega);simpa using this) (by simpa using hj);rw[jq,if_neg hx,this]
def r8 (ν:List (Option Value)) (n:Nat):Value:=(ν[n]?.getD none).getD al
theorem lE {ν:List (Option Value)} {n:Nat} {p:Value} (h:ν[n]? =some (some p)):r8 ν n=p:=by simp[r8,h]
def mL (ν:List (Option Value)) (seen:List Nat):Prop:=∀n∈seen,ν[n]? =some (some (r8 ν n))
abbrev Hd (ν:List (Option Value)) (seen:List Nat):List (List DV):=seen.map fun n=>[.raw (r8 ν n)]
abbrev Je (e:TypeId) (vs:List Value):GC:=.t e 1 vs.length (vs.map fun v=>.d (.raw v))
theorem Bj:∀(vs:List Value),u7 (vs.map fun v=>GC.d (.raw v))=vs.map DV.raw
 |[]=>rfl
 |v::r=>by simp[u7,Bj r,GC.dv]
theorem uv {α:Type}:∀(l:List α),chunks 1 l.length l=l.map fun x=>[x]
 |[]=>rfl
 |x::r=>by simp[chunks,uv r]
theorem Bk:∀(vs:List Value),yq (vs.map fun v=>GC.d (.raw v))=true
 |[]=>rfl
 |v::r=>by simp[yq,Bk r,GC.pl]
theorem Ix (e:TypeId) (vs:List Value):(Je e vs).dv=.sl (vs.map fun v=>[.raw v])/\(Je e vs).pl=true:=by
 refine⟨?_,by simp only[GC.pl];exact Bk vs⟩;simp only[GC.dv,Bj];have:=uv (vs.map DV.raw);rw[List.length_map]at this;rw[this,List.map_map];rfl
theorem Iy {L:Ts} {e:TypeId} {vs:List Value} {v:Value} (h:(Je e vs,v)∈L):sC L (.d (.raw v)) (.d (.sl (vs.map fun v=>[.raw v]))):=sC.DP h (Ix e vs)
structure xk (B:List IT) (k:Nat) (t:IT) (seen:List Nat) (m:Int) (s:List UInt8) (seen':List Nat) (m':Int):Prop where
 FY:m'+2*min 30 m<=m+1+2*min 30 m'
 lt:m<m'
 ln:seen'.length+m<=seen.length+m'
 pre:∀n∈seen,n∈seen'
 ok:m+gB B k t<=30->s=(kL B k t seen).1/\seen'=(kL B k t seen).2/\m'=m+gB B k t
 no:¬m+gB B k t<=30->30<m'
theorem xk.N9 {B:List IT} {k:Nat} {t:IT} {seen:List Nat} {m:Int} (h:30<=m) (s:List UInt8):xk B k t seen m s seen (m+1):=by
 have:=pO (B:=B) (k:=k) (t:=t);exact⟨by omega,by omega,by omega,fun _ h=>h,fun h=>by omega,fun _=>by omega⟩
theorem xk.free {B:List IT} {k n:Nat} {seen:List Nat} {m:Int} (hb:bd B n=none) (hx:ex B k (.v n)=true) (h:m<30):xk B k (.v n) seen m [yJ (jq n seen)] (if n∈seen then seen else seen++[n]) (m+1):=by
 cases k with
 |zero=>simp[ex]at hx
 |succ k=>
  have h1:gB B (k+1) (.v n)=1:=by simp[gB,hb]
  refine⟨by omega,by omega,by split<;>simp<;>omega,fun x hx=>by split<;>simp[hx],fun _=>⟨by simp[kL,hb],by simp[kL,hb],by rw[h1];rfl⟩,fun h=>by omega⟩
theorem xk.base {B:List IT} {k:Nat} {c:Int} {seen:List Nat} {m:Int} (h:m<30):xk B k (.b c) seen m [gv c] seen (m+1):=by
 have h1:gB B k (.b c)=1:=by cases k<;>rfl
 exact⟨by omega,by omega,by omega,fun _ h=>h,fun _=>⟨by cases k<;>rfl,by cases k<;>rfl,by rw[h1];rfl⟩,fun h=>by omega⟩
theorem xk.two {B:List IT} {k j:Nat} {c:Int} {x y:IT} {seen s1 s2:List Nat} {m m1 m2:Int} {a b:List UInt8} (hx:ex B k (.p c x y)=true) (hj:j<k) (x1:ex B j x=true) (x2:ex B j y=true) (h:m<30)
  (h1:xk B j x seen (m+1) a s1 m1) (h2:xk B j y s1 m1 b s2 m2):xk B k (.p c x y) seen m (40::(a++gv c::(b++[41]))) s2 m2:=by
 cases k with
 |zero=>omega
 |succ k=>
  have e1:gB B (k+1) (.p c x y)=1+gB B j x+gB B j y:=by simp only[gB];rw[dm x1 (by omega),dm x2 (by omega)]
  have e2:∀s,kL B k x s=kL B j x s:=fun s=>dW x1 (by omega)
  have e3:∀s,kL B k y s=kL B j y s:=fun s=>dW x2 (by omega)
  obtain⟨b1,l1,n1,p1,o1,q1⟩:=h1;obtain⟨b2,l2,n2,p2,o2,q2⟩:=h2;refine⟨by omega,by omega,by omega,fun n hn=>p2 n (p1 n hn),fun hle=>?_,fun bn=>?_⟩
  ·rw[e1]at hle;obtain⟨r1,r2,r3⟩:=o1 (by omega);obtain⟨r4,r5,r6⟩:=o2 (by omega);simp only[kL,e2,e3];refine⟨by rw[r4,r1,r2],by rw[r5,r2],by rw[e1];omega⟩
  ·rw[e1]at bn;by_cases h3:m+1+gB B j x<=30
   ·obtain⟨_,_,r3⟩:=o1 h3;exact q2 (by omega)
   ·have:=q1 h3;omega
theorem xk.hd {B:List IT} {k:Nat} {t:IT} {seen s':List Nat} {m m':Int} {s:List UInt8} (hx:ex B k t=true) (h:xk B k (Av.hd B k t) seen m s s' m'):xk B k t seen m s s' m':=by
 obtain⟨h1,h2,h3,h4,h5,h6⟩:=h;rw[w8 hx]at h5 h6;rw[Ai hx]at h5;exact⟨h1,h2,h3,h4,h5,h6⟩
section
variable {P:Program} {n:Nat} {s:St} {L Ln:Ts} {Q:Exit->St->Ts->Prop} {c:Code}
theorem TJ.KY (hn:yu Ln) (h:TJ P n c Q s (Ln++L)):TJ P n c Q s L:=by
 intro eC w0 g0 X S g a w hR;refine h eC w0 g0 X S g a w ⟨hR.inv,hR.fr,hR.size,hR.defers,hR.slot,gg.app.2 ⟨[],S,rfl,hn.oR,hR.oR⟩,hR.nd,hR.out⟩
end
theorem a8 {L:Ts} {T:TypeId}:yM L T (.pointer none):=.inl rfl
theorem aj {L:Ts} {T:TypeId} {row:List DV} {v:Value} (h:(.n T row,v)∈L):yM L T v:=.inr ⟨row,h⟩
end Go.Av
namespace Go.Av
open Go
section
variable {P:Program} {n:Nat} {s:St} {L:Ts} {Q:Exit->St->Ts->Prop} {c:Code}
theorem aF {id:Nat} (h:Q .ret s L):tN id Q .ret s L:=h
theorem aT (h:Q .ret s L):GM P n c Q .ret s L:=h
theorem aN {α:Type} {St_:α->St} {Tr_:α->Ts} {m:α->Nat} {H:α->Prop} {k:Nat} (h:Q .ret s L):zM St_ Tr_ m H k Q .ret s L:=h
end
section
variable {P:Program} {n:Nat} {s:St} {L:Ts} {all:Array Oper} {ow:Nat->Bool} {ws cs ns:List Nat} {K:St->Ts->Prop} {i:Nat} {o:Oper} {rest:List Oper}
structure aO (P:Program) (s:St) (L:Ts) (o:Oper) (k:AV->Prop):Prop where
 ex:∃x,bR P s L o x/\k x
structure c4 (P:Program) (s:St) (L:Ts) (o:Oper) (k:AV->Ts->Prop):Prop where
 run:jr P s L o k
theorem aO.of {k:AV->Prop} {x:AV} (h:bR P s L o x) (hk:k x):aO P s L o k:=⟨x,h,hk⟩
theorem c4.box {T:TypeId} {x:Operand} {cells:List CV} {row:List DV} {k:AV->Ts->Prop} (ho:o.op=.box T x) (hx:bA s x=some (.agg cells)) (cV:yL cells=some row) (hK:∀pv,k (.c (.d (.raw pv))) ((.n T row,pv)::L)):c4 P s L o k:=⟨jr.box ho hx cV hK⟩
theorem c4.call {k:AV->Ts->Prop} (h:cj P s L o k):c4 P s L o k:=⟨jr.call h⟩
theorem pS {y z:Prop} (hg:o.guard=none) (h:y):fT all s o y z:=by unfold fT;rw[hg];exact h
theorem ca (hg:o.guard=none) (h:aO P s L o fun x=>iP P n all ow K (i+1) rest (s.put o.dst x s.V s.A) L):iP P n all ow K i (o::rest) s L:=by
 obtain⟨x,h3,h4⟩:=h.ex;exact bx (pS hg trivial) h3 h4
theorem cL (hg:o.guard=none) (h:c4 P s L o fun x L'=>iP P n all ow K (i+1) rest (s.put o.dst x s.V s.A) L'):iP P n all ow K i (o::rest) s L:=gV (pS hg trivial) h.run
theorem qO (hi:cs.contains i=false) (hn:ns.contains i=true) (h:fT all s o (aO P s L o fun x=>gy P all ow ws cs ns K (i+1) rest (s.put o.dst x s.V s.A) L) (gy P all ow ws cs ns K (i+1) rest (s.put o.dst (.c .undef) s.V s.A) L)):gy P all ow ws cs ns K i (o::rest) s L:=
 ⟨mU (fun h=>by
  obtain⟨x,h3,h4⟩:=h.ex;exact .inr (.inl ⟨by simpa using hi,by simpa using hn,x,h3,h4.run⟩)) (fun h=>h.run) h⟩
theorem eA (hg:o.guard=none) (hi:cs.contains i=false) (hn:ns.contains i=true) (h:aO P s L o fun x=>gy P all ow ws cs ns K (i+1) rest (s.put o.dst x s.V s.A) L):gy P all ow ws cs ns K i (o::rest) s L:=
 qO hi hn (pS hg h)
theorem gY (hi:cs.contains i=true) (h:fT all s o (c4 P s L o fun x L'=>gy P all ow ws cs ns K (i+1) rest (s.put o.dst x s.V s.A) L') (gy P all ow ws cs ns K (i+1) rest (s.put o.dst (.c .undef) s.V s.A) L)):gy P all ow ws cs ns K i (o::rest) s L:=
 ⟨mU (fun h=>.inl ⟨by simpa using hi,h.run.map fun x L' h=>h.run⟩) (fun h=>h.run) h⟩
theorem fa (hg:o.guard=none) (hi:cs.contains i=true) (h:c4 P s L o fun x L'=>gy P all ow ws cs ns K (i+1) rest (s.put o.dst x s.V s.A) L'):gy P all ow ws cs ns K i (o::rest) s L:=
 gY hi (pS hg h)
@[congr] theorem Iz {k:AV->Prop} {s':St} (h:s=s'):aO P s L o k=aO P s' L o k:=by rw[h]
@[congr] theorem Jf {k:AV->Ts->Prop} {s':St} (h:s=s'):c4 P s L o k=c4 P s' L o k:=by rw[h]
end
theorem uw (s:List UInt8) (d c:UInt8):∀p,p<=s.length->dj (s++[d]) c p=dj s c p
 |0,_=>rfl
 |p+1,h=>by
  simp only[dj];rw[X4 (by omega),uw s d c p (by omega)]
theorem As (s:List UInt8) (d c:UInt8):cQ (s++[d]) c=if d=c then(s.length:Int)else cQ s c:=by
 simp only[cQ,List.length_append,List.length_cons,List.length_nil,Nat.zero_add,dj];rw[X8 (Yc _),uw s d c _ (Yc _)];simp
def F4 (ns:List UInt8) (ts:List IT) (c:UInt8):Option IT:=if 0<=cQ ns c then ts[(cQ ns c).toNat]? else none
theorem F5 (c:UInt8):F4 [] [] c=none:=by simp[F4,cQ,dj]
theorem F6 {ns:List UInt8} {ts:List IT} (d c:UInt8) (t:IT) (h:ts.length=ns.length):F4 (ns++[d]) (ts++[t]) c=if d=c then some t else F4 ns ts c:=by
 simp only[F4,As];by_cases e:d=c
 ·rw[if_pos e,if_pos e,if_pos (by omega)];rw[X8 (by omega)];simp[h]
 ·rw[if_neg e,if_neg e];have hb:=lq ns c ns.length;split
  ·rename_i h0;have:(cQ ns c).toNat<ts.length:=by simp only[cQ]at h0⊢;omega
   rw[X4 this]
  ·rfl
structure Sn where
 p:Value
 c:UInt8
 t:Value
 up:Value
def sT (T:TypeId) (S:List Sn):Ts:=S.map fun x=>(.n T [.str [x.c],.raw x.t,.raw x.up],x.p)
@[simp] theorem Bl {T:TypeId} {S:List Sn} (x:Sn):sT T (x::S)=(.n T [.str [x.c],.raw x.t,.raw x.up],x.p)::sT T S:=rfl
theorem IA {T:TypeId} {S:List Sn} {x:Sn} (h:x∈S):(.n T [.str [x.c],.raw x.t,.raw x.up],x.p)∈sT T S:=X5.2 ⟨x,h,rfl⟩
inductive Sc (S:List Sn) (G:List Nd) (ν:List (Option Value)):Value->List UInt8->List IT->Prop
 |nil:Sc S G ν al [] []
 |snoc {q:Value} {c:UInt8} {v up:Value} {ns:List UInt8} {ts:List IT} {t:IT}:(⟨q,c,v,up⟩:Sn)∈S->Sc S G ν up ns ts->Rn G ν v t->Sc S G ν q (ns++[c]) (ts++[t])
theorem Sc.len {S:List Sn} {G:List Nd} {ν:List (Option Value)} {q:Value} {ns:List UInt8} {ts:List IT} (h:Sc S G ν q ns ts):ts.length=ns.length:=by
 induction h with
 |nil=>rfl
 |snoc _ _ _ ih=>simp[ih]
theorem Sc.ge {S S':List Sn} {G G':List Nd} {ν ν':List (Option Value)} (hg:Ge G ν G' ν') (hs:∀x∈S,x∈S') {q:Value} {ns:List UInt8} {ts:List IT} (h:Sc S G ν q ns ts):Sc S' G' ν' q ns ts:=by
 induction h with
 |nil=>exact .nil
 |snoc h1 _ h3 ih=>exact .snoc (hs _ h1) ih (h3.ge hg)
def KZ (L:Ts):Prop:=∀T row v,(.n T row,v)∈L->v≠al
inductive CR (G:List Nd) (ν:List (Option Value)):List Value->List IT->Prop
 |nil:CR G ν [] []
 |cons {p:Value} {t:IT} {ps:List Value} {ts:List IT}:Rn G ν p t->CR G ν ps ts->CR G ν (p::ps) (t::ts)
theorem CR.len {G:List Nd} {ν:List (Option Value)} {ps:List Value} {ts:List IT} (h:CR G ν ps ts):ps.length=ts.length:=by
 induction h with
 |nil=>rfl
 |cons _ _ ih=>simp[ih]
theorem CR.ge {G G':List Nd} {ν ν':List (Option Value)} (hg:Ge G ν G' ν') {ps:List Value} {ts:List IT} (h:CR G ν ps ts):CR G' ν' ps ts:=by
 induction h with
 |nil=>exact .nil
 |cons h1 _ ih=>exact .cons (h1.ge hg) ih
theorem CR.app {G:List Nd} {ν:List (Option Value)} {ps:List Value} {ts:List IT} (h:CR G ν ps ts) {p:Value} {t:IT} (h1:Rn G ν p t):CR G ν (ps++[p]) (ts++[t]):=by
 induction h with
 |nil=>exact .cons h1 .nil
 |cons h2 _ ih=>exact .cons h2 ih
theorem mL.ge {G G':List Nd} {ν ν':List (Option Value)} (hg:Ge G ν G' ν') {l:List Nat} (h:mL ν l):mL ν' l/\l.map (r8 ν')=l.map (r8 ν):=by
 have:∀n∈l,ν'[n]? =some (some (r8 ν n)):=fun n hn=>hg.vr _ _ (h n hn)
 refine⟨fun n hn=>by rw[lE (this n hn)];exact this n hn,List.map_congr_left fun n hn=>lE (this n hn)⟩
theorem mL.app {ν:List (Option Value)} {l:List Nat} (h:mL ν l) {n:Nat} {p:Value} (hp:ν[n]? =some (some p)):mL ν (l++[n]):=fun m hm=>by
 rcases List.mem_append.1 hm with hm|hm
 ·exact h m hm
 ·simp at hm;subst hm;rw[lE hp];exact hp
section
variable {P:Program} {n:Nat} {s:St} {L:Ts} {Q:Exit->St->Ts->Prop} {c:Code}
theorem TJ.K0 (h:KZ L->TJ P n c Q s L):TJ P n c Q s L:=by
 intro eC w0 g0 X S g a w hR;refine h (fun T row v hm=>?_) eC w0 g0 X S g a w hR;obtain⟨b,xs,rfl,_⟩:=hR.oR.node hm;simp
end
theorem pT {G:List Nd} {ν:List (Option Value)} {B:List IT} (hG:GR G ν B) {x:Nd} (hN:GN (x::G)):∀n:Nat,ν[n]? ≠some (some x.p):=fun n hn=>by
 obtain⟨q,h1,_⟩:=hG.var _ _ hn;have:=hN.nd;simp only[Ya,X6]at this;exact this.1 (X5.2 ⟨_,h1,rfl⟩)
theorem GN.tail {x:Nd} {G:List Nd} (h:GN (x::G)):GN G:=⟨(X6.1 (by simpa using h.nd)).2,fun y hy=>h.nn y (.tail _ hy)⟩
theorem GR.Cq {G:List Nd} {ν:List (Option Value)} {B:List IT} (hG:GR G ν B) (hs:uD B) {pa pb:Value} (hN:GN (⟨pb,0,al,al,al⟩::⟨pa,0,al,al,al⟩::G)):
  GR (⟨pb,0,al,al,al⟩::⟨pa,0,al,al,al⟩::G) (ν++[some pa]++[some pb]) (B++[.v B.length,.v (B.length+1)])/\Ge G ν (⟨pb,0,al,al,al⟩::⟨pa,0,al,al,al⟩::G) (ν++[some pa]++[some pb]):=by
 obtain⟨h1,h2⟩:=(hG.sup (G':=⟨pa,0,al,al,al⟩::G) fun x hx=>by simp[hx]).F3 (p:=pa) (by simp) (pT hG hN.tail) hs;obtain⟨h3,h4⟩:=(h1.sup (G':=⟨pb,0,al,al,al⟩::⟨pa,0,al,al,al⟩::G) fun x hx=>X7 _ hx).F3 (p:=pb) (by simp) (pT h1 hN) ((mG.one B).sc hs);refine⟨by simpa using h3,?_⟩;have g1:Ge G ν (⟨pa,0,al,al,al⟩::G) ν:=Ge.sup fun x hx=>by simp[hx]
 have g2:Ge (⟨pa,0,al,al,al⟩::G) (ν++[some pa]) (⟨pb,0,al,al,al⟩::⟨pa,0,al,al,al⟩::G) (ν++[some pa]):=Ge.sup fun x hx=>X7 _ hx
 exact g1.trans (h2.trans (g2.trans h4))
theorem GR.BB {G:List Nd} {ν:List (Option Value)} {B:List IT} (hG:GR G ν B) (hs:uD B) {po:Value} (hN:GN (⟨po,0,al,al,al⟩::G)):
  GR (⟨po,0,al,al,al⟩::G) (ν++[some po]++[none]) (B++[.v B.length,.v (B.length+1)])/\Ge G ν (⟨po,0,al,al,al⟩::G) (ν++[some po]++[none]):=by
 obtain⟨h1,h2⟩:=(hG.sup (G':=⟨po,0,al,al,al⟩::G) fun x hx=>by simp[hx]).F3 (p:=po) (by simp) (pT hG hN) hs;obtain⟨h3,h4⟩:=h1.N8;refine⟨by simpa using h3,?_⟩;have g1:Ge G ν (⟨po,0,al,al,al⟩::G) ν:=Ge.sup fun x hx=>by simp[hx]
 exact g1.trans (h2.trans h4)
theorem xl {B:List IT} (h:jo B) (n m:Nat):jo (B++[.v n,.v m]):=h.app fun u hu=>by
 simp at hu;rcases hu with rfl|rfl<;>trivial
theorem K3 {α:Type} {l:List α} (h:l.length=1):∃x,l=[x]:=by
 match l,h with
 |[x],_=>exact⟨x,rfl⟩
theorem K4 {α:Type} {l:List α} (h:l.length=2):∃x y,l=[x,y]:=by
 match l,h with
 |[x,y],_=>exact⟨x,y,rfl⟩
theorem K5 {α:Type} {l:List α} (h:l.length=3):∃x y z,l=[x,y,z]:=by
 match l,h with
 |[x,y,z],_=>exact⟨x,y,z,rfl⟩
theorem br.args {P:Program} {f:FuncId} {xs ys:List AV} {L:Ts} {R:AV->Ts->Prop} (h:br P f xs L R) (hl:ys.length=xs.length)
  (hr:∀(i:Nat) x' x,ys[i]? =some x'->xs[i]? =some x->∀g w u,aU g w [] x' u->aU g w [] x u):br P f ys L R:=
 ⟨h.1,fun g w vs S h1 h2 h3 h4 h5 h6 h7 h8 h9=>h.2 g w vs S h1 h2 h3 h4 (by rw[h5,hl]) (fun i x u hx hu=>by
  have hi:i<ys.length:=by rw[hl];exact(X2.1 hx).1
  have jc:ys[i]? =some ys[i]:=List.getElem?_eq_getElem hi;exact hr i _ x jc hx g w u (h6 i _ u jc hu)) h7 h8 h9⟩
theorem IB {g:Gh} {w:World} {u:Value} (h:aU g w [] (.c .np) u):aU g w [] (.c (.d (.raw al))) u:=by
 simp only[aU,c7,bj]at h;subst h;exact⟨rfl,rfl⟩
section
variable {P:Program} {n:Nat} {s s':St} {L L':Ts} {x y:Code} {all:Array Oper} {ws cs ns:List Nat} {ow:Nat->Bool} {K:St->Ts->Prop}
end
section
variable {P:Program} {n:Nat} {s:St} {L L2:Ts} {all:Array Oper} {ow:Nat->Bool} {K:St->Ts->Prop} {i:Nat} {o:Oper} {rest:List Oper}
end
section
variable {P:Program} {n:Nat} {s:St} {L L2:Ts} {Q:Exit->St->Ts->Prop} {cd:Code}
end
section
variable {P:Program} {f:FuncId} {xs:List AV}
end
end Go.Av
