/- A part. -/
import Derived.Test.YtloolmchekcmeaaGreatXB33
set_option linter.unusedVariables false
set_option linter.unusedSimpArgs false
open List renaming mem_cons->ad4,getElem?_eq_some_iff->ad5,append_assoc->ad6,nodup_cons->ad7,mem_map->ad8,getElem?_append_left->ad9,nodup_append->aea,mem_cons_of_mem->aeb,map_cons->aec,getElem?_append_right->aed,mem_of_getElem?->aee,nodup_nil->aef,mem_append->aeg,length_cons->aeh,length_append->aei,getElem?_of_mem->aej,getElem?_eq_getElem->aek
open Nat renaming le_refl->ael,zero_add->aem,zero_le->aen,lt_or_ge->aeo
open Array renaming getElem?_eq_some_iff->aep
namespace Go.Av
attribute [-simp] Go.Av.cj Go.Av.e0 Go.Av.fH Go.Av.fy Go.Av.cW Go.Av.cg
open Go
structure Nd where
 p:Value
 k:Int
 is:Value
 a:Value
 b:Value
abbrev ao:Value:=.pointer none
abbrev Nd.row (x:Nd):List DV:=[.i x.k,.raw x.is,.raw x.a,.raw x.b]
def Vy (T:TypeId) (x:Nd):GC×Value:=(.n T x.row,x.p)
def gT (T:TypeId) (G:List Nd):Ts:=G.map (Vy T)
theorem MD {T:TypeId} {G:List Nd} {x:Nd} (h:x∈G):(.n T [.i x.k,.raw x.is,.raw x.a,.raw x.b],x.p)∈gT T G:=ad8.2 ⟨x,h,rfl⟩
theorem Kr {T:TypeId} {G H:List Nd} (h:G.Perm H):(gT T G).Perm (gT T H):=h.map _
@[simp] theorem Qd {T:TypeId} {G:List Nd} (x:Nd):gT T (x::G)=(.n T [.i x.k,.raw x.is,.raw x.a,.raw x.b],x.p)::gT T G:=rfl
structure GN (G:List Nd):Prop where
 nd:(G.map Nd.p).Nodup
 nn:∀x∈G,x.p≠ao
theorem GN.uniq {G:List Nd} (h:GN G) {x y:Nd} (hx:x∈G) (hy:y∈G) (e:x.p=y.p):x=y:=by
 have key:∀(l:List Nd),(l.map Nd.p).Nodup->x∈l->y∈l->x=y:=by
  intro l;induction l with
  |nil=>intro _ hx;cases hx
  |cons z l ih=>
   intro hn hx hy;simp only[aec,ad7]at hn;rcases ad4.1 hx with e1|dC
   ·rcases ad4.1 hy with e2|Ob
    ·rw[e1,e2]
    ·exact absurd (ad8.2 ⟨y,Ob,by rw[<-e,e1]⟩) hn.1
   ·rcases ad4.1 hy with e2|Ob
    ·exact absurd (ad8.2 ⟨x,dC,by rw[e,e2]⟩) hn.1
    ·exact ih hn.2 dC Ob
 exact key G h.nd hx hy
inductive Rn (G:List Nd) (ν:List (Option Value)):Value->IT->Prop
 |v {n:Nat} {p:Value}:ν[n]? =some (some p)->Rn G ν p (.v n)
 |b {p:Value} {k:Int}:(⟨p,k,ao,ao,ao⟩:Nd)∈G->k≠0->Rn G ν p (.b k)
 |p {p:Value} {k:Int} {a b:Value} {x y:IT}:(⟨p,k,ao,a,b⟩:Nd)∈G->k≠0->Rn G ν a x->Rn G ν b y->Rn G ν p (.p k x y)
def Qe (G:List Nd) (ν:List (Option Value)) (q:Value):Option IT->Prop
 |none=>q=ao
 |some t=>Rn G ν q t
structure GR (G:List Nd) (ν:List (Option Value)) (B:List IT):Prop where
 len:ν.length=B.length
 inj:∀(n m:Nat) p,ν[n]? =some (some p)->ν[m]? =some (some p)->n=m
 var:∀(n:Nat) p,ν[n]? =some (some p)->∃q,(⟨p,0,q,ao,ao⟩:Nd)∈G/\Qe G ν q (bd B n)
structure Ge (G:List Nd) (ν:List (Option Value)) (G':List Nd) (ν':List (Option Value)):Prop where
 nd:∀x∈G,x.k≠0->x∈G'
 vr:∀(n:Nat) p,ν[n]? =some (some p)->ν'[n]? =some (some p)
theorem Ge.refl (G:List Nd) (ν:List (Option Value)):Ge G ν G ν:=⟨fun _ h _=>h,fun _ _ h=>h⟩
theorem Ge.trans {G G' G'':List Nd} {ν ν' ν'':List (Option Value)} (h:Ge G ν G' ν') (h':Ge G' ν' G'' ν''):Ge G ν G'' ν'':=⟨fun x hx hk=>h'.nd x (h.nd x hx hk) hk,fun n p hp=>h'.vr n p (h.vr n p hp)⟩
theorem Ge.sup {G G':List Nd} {ν:List (Option Value)} (h:∀x∈G,x∈G'):Ge G ν G' ν:=⟨fun x hx _=>h x hx,fun _ _ h=>h⟩
theorem Rn.ge {G G':List Nd} {ν ν':List (Option Value)} (h:Ge G ν G' ν') {p:Value} {t:IT} (hr:Rn G ν p t):Rn G' ν' p t:=by
 induction hr with
 |v h1=>exact .v (h.vr _ _ h1)
 |b h1 h2=>exact .b (h.nd _ h1 h2) h2
 |p h1 h2 _ _ i1 i2=>exact .p (h.nd _ h1 h2) h2 i1 i2
theorem Qe.ge {G G':List Nd} {ν ν':List (Option Value)} (h:Ge G ν G' ν') {q:Value}:∀{o:Option IT},Qe G ν q o->Qe G' ν' q o
 |none,hr=>hr
 |some _,hr=>Rn.ge h hr
section
variable {G G':List Nd} {ν ν':List (Option Value)} {B:List IT}
theorem GR.sup (h:GR G ν B) (hs:∀x∈G,x∈G'):GR G' ν B:=⟨h.len,h.inj,fun n p hp=>by
 obtain⟨q,h1,h2⟩:=h.var n p hp;exact⟨q,hs _ h1,h2.ge (Ge.sup hs)⟩⟩
theorem GR.nil:GR [] [] []:=⟨rfl,fun n m p h=>by simp at h,fun n p h=>by simp at h⟩
theorem Rn.node (h:GR G ν B) {p:Value} {t:IT} (hr:Rn G ν p t):∃x∈G,x.p=p/\x.k=t.kind:=by
 cases hr with
 |v h1=>
  obtain⟨q,h2,_⟩:=h.var _ _ h1;exact⟨_,h2,rfl,rfl⟩
 |b h1 _=>exact⟨_,h1,rfl,rfl⟩
 |p h1 _ _ _=>exact⟨_,h1,rfl,rfl⟩
theorem Rn.uniq (h:GR G ν B) (hn:GN G) {p:Value} {t u:IT} (h1:Rn G ν p t) (h2:Rn G ν p u):t=u:=by
 induction h1 generalizing u with
 |v h1=>
  obtain⟨q,g1,_⟩:=h.var _ _ h1;cases h2 with
  |v h2=>rw[h.inj _ _ _ h1 h2]
  |b h2 h3=>exact absurd (congrArg Nd.k (hn.uniq h2 g1 rfl)) h3
  |p h2 h3 _ _=>exact absurd (congrArg Nd.k (hn.uniq h2 g1 rfl)) h3
 |b h1 hk=>
  cases h2 with
  |v h2=>
   obtain⟨q,g1,_⟩:=h.var _ _ h2;exact absurd (congrArg Nd.k (hn.uniq h1 g1 rfl)) hk
  |b h2 h3=>have:=congrArg Nd.k (hn.uniq h1 h2 rfl);simp at this;rw[this]
  |p h2 h3 h4 h5=>
   have:=congrArg Nd.a (hn.uniq h1 h2 rfl);simp at this;obtain⟨x,hx,hp,_⟩:=h4.node h;rw[<-this]at hp;exact absurd hp (hn.nn x hx)
 |p h1 hk ha hb i1 i2=>
  cases h2 with
  |v h2=>
   obtain⟨q,g1,_⟩:=h.var _ _ h2;exact absurd (congrArg Nd.k (hn.uniq h1 g1 rfl)) hk
  |b h2 h3=>
   have:=congrArg Nd.a (hn.uniq h2 h1 rfl);simp at this;obtain⟨x,hx,hp,_⟩:=ha.node h;rw[<-this]at hp;exact absurd hp (hn.nn x hx)
  |p h2 h3 h4 h5=>
   have:=hn.uniq h1 h2 rfl;simp at this;obtain⟨rfl,rfl,rfl⟩:=this;rw[i1 h4,i2 h5]
theorem Rn.ne (h:GR G ν B) (hn:GN G) {p:Value} {t:IT} (h1:Rn G ν p t):p≠ao:=by
 obtain⟨x,hx,rfl,_⟩:=h1.node h;exact hn.nn x hx
theorem GR.bind (h:GR G ν B) (hn:GN G) {n:Nat} {p q:Value} {t:IT} {G2:List Nd} (hp:ν[n]? =some (some p)) (hf:bd B n=none) (hG:G.Perm (⟨p,0,ao,ao,ao⟩::G2)) (hq:Rn G ν q t) (ht:t≠.v n):
  GR (⟨p,0,q,ao,ao⟩::G2) ν (B.set n t)/\Ge G ν (⟨p,0,q,ao,ao⟩::G2) ν:=by
 have oC:Ge G ν (⟨p,0,q,ao,ao⟩::G2) ν:=⟨fun x hx hk=>by
  rcases ad4.1 (hG.mem_iff.1 hx)with rfl|h1
  ·exact absurd rfl hk
  ·exact aeb _ h1,fun _ _ h=>h⟩
 have ax:n<B.length:=by rw[<-h.len];exact(ad5.1 hp).1
 refine⟨⟨by simp[h.len],h.inj,fun m p' ff=>?_⟩,oC⟩;rw[pT ax ht];by_cases e:m=n
 ·subst e;rw[hp]at ff;simp at ff;subst ff;rw[if_pos rfl];exact⟨q,by simp,hq.ge oC⟩
 ·rw[if_neg e];obtain⟨q',h1,h2⟩:=h.var m p' ff;refine⟨q',?_,h2.ge oC⟩;rcases ad4.1 (hG.mem_iff.1 h1)with h3|h3
  ·simp at h3;exact absurd (h.inj m n p (h3.1▸ff) hp) e
  ·exact aeb _ h3
theorem GR.Ks (h:GR G ν B) {p:Value} (hp:(⟨p,0,ao,ao,ao⟩:Nd)∈G) (hn:∀n:Nat,ν[n]? ≠some (some p)) (hs:qU B):GR G (ν++[some p]) (B++[.v B.length])/\Ge G ν G (ν++[some p]):=by
 have oC:Ge G ν G (ν++[some p]):=⟨fun _ h _=>h,fun n q hq=>by rw[ad9 (ad5.1 hq).1];exact hq⟩;have dh:∀(n:Nat) q,(ν++[some p])[n]? =some (some q)->ν[n]? =some (some q)\/(n=B.length/\q=p):=fun n q hq=>by
  rcases aeo n ν.length with h1|h1
  ·rw[ad9 h1]at hq;exact .inl hq
  ·rw[aed h1]at hq;have h0:n-ν.length=0:=by
    have:=(ad5.1 hq).1;simp at this;omega
   rw[h0]at hq;simp at hq;exact .inr ⟨by rw[<-h.len];omega,hq.symm⟩
 refine⟨⟨by simp[h.len],fun n m q h1 h2=>?_,fun n q h1=>?_⟩,oC⟩
 ·rcases dh n q h1 with h3|⟨h3,h4⟩<;>rcases dh m q h2 with h5|⟨h5,h6⟩
  ·exact h.inj n m q h3 h5
  ·subst h6;exact absurd h3 (hn n)
  ·subst h4;exact absurd h5 (hn m)
  ·omega
 ·rcases dh n q h1 with h3|⟨h3,h4⟩
  ·obtain⟨q',h5,h6⟩:=h.var n q h3;refine⟨q',h5,?_⟩;rw[xJ _ (by rw[<-h.len];exact(ad5.1 h3).1)];exact h6.ge oC
  ·subst h3;subst h4;exact⟨ao,hp,by rw[Eg];rfl⟩
theorem GR.Sp (h:GR G ν B):GR G (ν++[none]) (B++[.v B.length])/\Ge G ν G (ν++[none]):=by
 have oC:Ge G ν G (ν++[none]):=⟨fun _ h _=>h,fun n q hq=>by rw[ad9 (ad5.1 hq).1];exact hq⟩;have dh:∀(n:Nat) q,(ν++[none])[n]? =some (some q)->ν[n]? =some (some q):=fun n q hq=>by
  rcases aeo n ν.length with h1|h1
  ·rw[ad9 h1]at hq;exact hq
  ·rw[aed h1]at hq;have h0:n-ν.length=0:=by
    have:=(ad5.1 hq).1;simp at this;omega
   rw[h0]at hq;simp at hq
 refine⟨⟨by simp[h.len],fun n m q h1 h2=>h.inj n m q (dh n q h1) (dh m q h2),fun n q h1=>?_⟩,oC⟩;obtain⟨q',h5,h6⟩:=h.var n q (dh n q h1);refine⟨q',h5,?_⟩;rw[xJ _ (by rw[<-h.len];exact(ad5.1 (dh n q h1)).1)];exact h6.ge oC
end
theorem iG.nodes {w:World} {T:TypeId}:∀{G:List Nd} {M:Ts} {S:List Nat},iG w (gT T G++M) S->S.Nodup->GN G/\∀p∈G.map Nd.p,∃b∈S,p=.pointer (some ⟨b,0,none⟩)
 |[],M,S,_,_=>⟨⟨aef,fun x hx=>by cases hx⟩,fun p hp=>by cases hp⟩
 |x::G,M,S,h,hn=>by
  obtain⟨S1,S2,rfl,h1,h2⟩:=h;simp only[Tr]at h1;obtain⟨b,xs,hb,_,_,_,rfl⟩:=h1;have GQ:S2.Nodup:=(aea.1 hn).2.1;obtain⟨h3,h4⟩:=iG.nodes (G:=G) (M:=M) h2 GQ;have Vz:b∉S2:=fun hm=>(aea.1 hn).2.2 b (by simp) b hm rfl
  refine⟨⟨ad7.2 ⟨fun hm=>?_,h3.nd⟩,fun y hy=>?_⟩,fun p hp=>?_⟩
  ·obtain⟨b',dN,e⟩:=h4 _ hm;rw[hb]at e;simp at e;exact Vz (e▸dN)
  ·rcases ad4.1 hy with rfl|hy
   ·rw[hb];simp
   ·exact h3.nn y hy
  ·rcases ad4.1 hp with rfl|hp
   ·exact⟨b,by simp,hb⟩
   ·obtain⟨b',h5,h6⟩:=h4 p hp;exact⟨b',by simp[h5],h6⟩
section
variable {P:Program} {n:Nat} {s:St} {L:Ts} {Q:Exit->St->Ts->Prop} {c:Code} {T:TypeId} {G:List Nd} {M:Ts}
theorem TJ.nodes (hp:L.Perm (gT T G++M)) (h:GN G->TJ P n c Q s L):TJ P n c Q s L:=by
 intro eT w0 g0 X S g a w hR;obtain⟨S',h1,h2⟩:=hR.nC.perm hp;exact h (iG.nodes h2 (h1.nodup_iff.1 hR.nd)).1 eT w0 g0 X S g a w hR
end
section
variable {G:List Nd} {ν:List (Option Value)} {B:List IT}
theorem Rn.found (h:GR G ν B) (hn:GN G) {p:Value} {t:IT} {k:Nat} (hp:Rn G ν p t) (hx:ex B k t=true):
  ∃x∈G,x.p=p/\((x.is=ao/\hd B k t=t)\/(x.is≠ao/\∃j u,j<k/\Rn G ν x.is u/\ex B j u=true/\hd B k t=hd B j u)):=by
 cases hp with
 | @v m _ h1=>
  obtain⟨q,h2,h3⟩:=h.var _ _ h1;refine⟨_,h2,rfl,?_⟩;cases hb:bd B m with
  |none=>
   rw[hb]at h3;exact .inl ⟨h3,Ff hb⟩
  |some u=>
   rw[hb]at h3;refine .inr ⟨h3.ne h hn,?_⟩;cases k with
   |zero=>simp[ex]at hx
   |succ k=>
    simp only[ex,hb]at hx;exact⟨k,u,by omega,h3,hx,Fe hb⟩
 |b h1 _=>exact⟨_,h1,rfl,.inl ⟨rfl,by cases k<;>rfl⟩⟩
 |p h1 _ _ _=>exact⟨_,h1,rfl,.inl ⟨rfl,by cases k<;>rfl⟩⟩
inductive Qf (G:List Nd) (ν:List (Option Value)) (B:List IT) (p:Value):IT->Prop
 |v {m:Nat}:ν[m]? =some (some p)->bd B m=none->(⟨p,0,ao,ao,ao⟩:Nd)∈G->Qf G ν B p (.v m)
 |b {c:Int}:(⟨p,c,ao,ao,ao⟩:Nd)∈G->c≠0->Qf G ν B p (.b c)
 |p {c:Int} {a b:Value} {x y:IT}:(⟨p,c,ao,a,b⟩:Nd)∈G->c≠0->Rn G ν a x->Rn G ν b y->Qf G ν B p (.p c x y)
theorem Rn.head (h:GR G ν B) {p:Value} {t:IT} (hp:Rn G ν p t) (ht:IA B t):Qf G ν B p t:=by
 cases hp with
 | @v m _ h1=>
  obtain⟨q,h2,h3⟩:=h.var _ _ h1;rw[ht m rfl]at h3;obtain rfl:q=ao:=h3;exact .v h1 (ht m rfl) h2
 |b h1 h2=>exact .b h1 h2
 |p h1 h2 h3 h4=>exact .p h1 h2 h3 h4
theorem Rn.at_ (h:GR G ν B) {p:Value} {t:IT} (hp:Rn G ν p t):∃x∈G,x.p=p:=by
 obtain⟨x,h1,h2,_⟩:=hp.node h;exact⟨x,h1,h2⟩
end
end Go.Av
namespace Go.Av
attribute [-simp] Go.Av.cg
open Go
def sZ (ν:List (Option Value)) (n:Nat):Value:=(ν[n]?.getD none).getD ao
theorem wj {ν:List (Option Value)} {n:Nat} {p:Value} (h:ν[n]? =some (some p)):sZ ν n=p:=by simp[sZ,h]
def uC (ν:List (Option Value)) (seen:List Nat):Prop:=∀n∈seen,ν[n]? =some (some (sZ ν n))
abbrev TT (ν:List (Option Value)) (seen:List Nat):List (List DV):=seen.map fun n=>[.raw (sZ ν n)]
abbrev Nj (e:TypeId) (vs:List Value):GC:=.t e 1 vs.length (vs.map fun v=>.d (.raw v))
theorem Fm:∀(vs:List Value),yJ (vs.map fun v=>GC.d (.raw v))=vs.map DV.raw
 |[]=>rfl
 |v::r=>by simp[yJ,Fm r,GC.dv]
theorem x5 {α:Type}:∀(l:List α),chunks 1 l.length l=l.map fun x=>[x]
 |[]=>rfl
 |x::r=>by simp[chunks,x5 r]
theorem Fo:∀(vs:List Value),Ch (vs.map fun v=>GC.d (.raw v))=true
 |[]=>rfl
 |v::r=>by simp[Ch,Fo r,GC.pl]
theorem IY (e:TypeId) (vs:List Value):(Nj e vs).dv=.sl (vs.map fun v=>[.raw v])/\(Nj e vs).pl=true:=by
 refine⟨?_,by simp only[GC.pl];exact Fo vs⟩;simp only[GC.dv,Fm];have:=x5 (vs.map DV.raw);rw[List.length_map]at this;rw[this,List.map_map];rfl
structure VB (B:List IT) (k:Nat) (t:IT) (seen:List Nat) (m:Int) (s:List UInt8) (seen':List Nat) (m':Int):Prop where
 Lf:m'+2*min 30 m<=m+1+2*min 30 m'
 lt:m<m'
 ln:seen'.length+m<=seen.length+m'
 pre:∀n∈seen,n∈seen'
 ok:m+Mu B k t<=30->s=(Kl B k t seen).1/\seen'=(Kl B k t seen).2/\m'=m+Mu B k t
 no:¬m+Mu B k t<=30->30<m'
section
variable {P:Program} {n:Nat} {s:St} {L Ln:Ts} {Q:Exit->St->Ts->Prop} {c:Code}
theorem TJ.ua (hn:rz Ln) (h:TJ P n c Q s (Ln++L)):TJ P n c Q s L:=by
 intro eT w0 g0 X S g a w hR;refine h eT w0 g0 X S g a w ⟨hR.inv,hR.fr,hR.size,hR.defers,hR.slot,iG.app.2 ⟨[],S,rfl,hn.nC,hR.nC⟩,hR.nd,hR.out⟩
end
theorem bz {L:Ts} {T:TypeId}:CP L T (.pointer none):=.inl rfl
theorem aj {L:Ts} {T:TypeId} {row:List DV} {v:Value} (h:(.n T row,v)∈L):CP L T v:=.inr ⟨row,h⟩
end Go.Av
namespace Go.Av
open Go
section
variable {P:Program} {n:Nat} {s:St} {L:Ts} {Q:Exit->St->Ts->Prop} {c:Code}
theorem aM {id:Nat} (h:Q .ret s L):fG id Q .ret s L:=h
theorem bj (h:Q .ret s L):oI P n c Q .ret s L:=h
theorem aR {α:Type} {St_:α->St} {Tr_:α->Ts} {m:α->Nat} {H:α->Prop} {k:Nat} (h:Q .ret s L):DU St_ Tr_ m H k Q .ret s L:=h
end
section
variable {P:Program} {n:Nat} {s:St} {L:Ts} {all:Array Oper} {ow:Nat->Bool} {ws cs ns:List Nat} {K:St->Ts->Prop} {i:Nat} {o:Oper} {rest:List Oper}
structure aT (P:Program) (s:St) (L:Ts) (o:Oper) (k:AV->Prop):Prop where
 ex:∃x,cI P s L o x/\k x
structure ei (P:Program) (s:St) (L:Ts) (o:Oper) (k:AV->Ts->Prop):Prop where
 run:lq P s L o k
theorem aT.of {k:AV->Prop} {x:AV} (h:cI P s L o x) (hk:k x):aT P s L o k:=⟨x,h,hk⟩
theorem ei.box {T:TypeId} {x:Operand} {cells:List CV} {row:List DV} {k:AV->Ts->Prop} (ho:o.op=.box T x) (hx:bF s x=some (.agg cells)) (ef:CN cells=some row) (hK:∀pv,k (.c (.d (.raw pv))) ((.n T row,pv)::L)):ei P s L o k:=⟨lq.box ho hx ef hK⟩
theorem ei.call {k:AV->Ts->Prop} (h:cg P s L o k):ei P s L o k:=⟨lq.call h⟩
theorem p7 {y z:Prop} (hg:o.guard=none) (h:y):iv all s o y z:=by unfold iv;rw[hg];exact h
theorem c8 (hg:o.guard=none) (h:aT P s L o fun x=>kE P n all ow K (i+1) rest (s.put o.dst x s.V s.A) L):kE P n all ow K i (o::rest) s L:=by
 obtain⟨x,h3,h4⟩:=h.ex;exact bT (p7 hg trivial) h3 h4
theorem ec (hg:o.guard=none) (h:ei P s L o fun x L'=>kE P n all ow K (i+1) rest (s.put o.dst x s.V s.A) L'):kE P n all ow K i (o::rest) s L:=jX (p7 hg trivial) h.run
theorem uD (hi:cs.contains i=false) (hn:ns.contains i=true) (h:iv all s o (aT P s L o fun x=>jn P all ow ws cs ns K (i+1) rest (s.put o.dst x s.V s.A) L) (jn P all ow ws cs ns K (i+1) rest (s.put o.dst (.c .undef) s.V s.A) L)):jn P all ow ws cs ns K i (o::rest) s L:=
 ⟨nP (fun h=>by
  obtain⟨x,h3,h4⟩:=h.ex;exact .inr (.inl ⟨by simpa using hi,by simpa using hn,x,h3,h4.run⟩)) (fun h=>h.run) h⟩
theorem gq (hg:o.guard=none) (hi:cs.contains i=false) (hn:ns.contains i=true) (h:aT P s L o fun x=>jn P all ow ws cs ns K (i+1) rest (s.put o.dst x s.V s.A) L):jn P all ow ws cs ns K i (o::rest) s L:=
 uD hi hn (p7 hg h)
theorem j0 (hi:cs.contains i=true) (h:iv all s o (ei P s L o fun x L'=>jn P all ow ws cs ns K (i+1) rest (s.put o.dst x s.V s.A) L') (jn P all ow ws cs ns K (i+1) rest (s.put o.dst (.c .undef) s.V s.A) L)):jn P all ow ws cs ns K i (o::rest) s L:=
 ⟨nP (fun h=>.inl ⟨by simpa using hi,h.run.map fun x L' h=>h.run⟩) (fun h=>h.run) h⟩
theorem ia (hg:o.guard=none) (hi:cs.contains i=true) (h:ei P s L o fun x L'=>jn P all ow ws cs ns K (i+1) rest (s.put o.dst x s.V s.A) L'):jn P all ow ws cs ns K i (o::rest) s L:=
 j0 hi (p7 hg h)
@[congr] theorem ME {k:AV->Prop} {s':St} (h:s=s'):aT P s L o k=aT P s' L o k:=by rw[h]
@[congr] theorem Nk {k:AV->Ts->Prop} {s':St} (h:s=s'):ei P s L o k=ei P s' L o k:=by rw[h]
end
theorem x6 (s:List UInt8) (d c:UInt8):∀p,p<=s.length->ey (s++[d]) c p=ey s c p
 |0,_=>rfl
 |p+1,h=>by
  simp only[ey];rw[ad9 (by omega),x6 s d c p (by omega)]
theorem Eu (s:List UInt8) (d c:UInt8):dD (s++[d]) c=if d=c then(s.length:Int)else dD s c:=by
 simp only[dD,aei,aeh,List.length_nil,aem,ey];rw[aed (ael _),x6 s d c _ (ael _)];simp
def Kt (ns:List UInt8) (ts:List IT) (c:UInt8):Option IT:=if 0<=dD ns c then ts[(dD ns c).toNat]? else none
theorem Ku (c:UInt8):Kt [] [] c=none:=by simp[Kt,dD,ey]
theorem Kv {ns:List UInt8} {ts:List IT} (d c:UInt8) (t:IT) (h:ts.length=ns.length):Kt (ns++[d]) (ts++[t]) c=if d=c then some t else Kt ns ts c:=by
 simp only[Kt,Eu];by_cases e:d=c
 ·rw[if_pos e,if_pos e,if_pos (by omega)];rw[aed (by omega)];simp[h]
 ·rw[if_neg e,if_neg e];have hb:=ot ns c ns.length;split
  ·rename_i h0;have:(dD ns c).toNat<ts.length:=by simp only[dD]at h0⊢;omega
   rw[ad9 this]
  ·rfl
structure Sn where
 p:Value
 c:UInt8
 t:Value
 up:Value
def sT (T:TypeId) (S:List Sn):Ts:=S.map fun x=>(.n T [.str [x.c],.raw x.t,.raw x.up],x.p)
@[simp] theorem Fp {T:TypeId} {S:List Sn} (x:Sn):sT T (x::S)=(.n T [.str [x.c],.raw x.t,.raw x.up],x.p)::sT T S:=rfl
theorem MF {T:TypeId} {S:List Sn} {x:Sn} (h:x∈S):(.n T [.str [x.c],.raw x.t,.raw x.up],x.p)∈sT T S:=ad8.2 ⟨x,h,rfl⟩
inductive Sc (S:List Sn) (G:List Nd) (ν:List (Option Value)):Value->List UInt8->List IT->Prop
 |nil:Sc S G ν ao [] []
 |snoc {q:Value} {c:UInt8} {v up:Value} {ns:List UInt8} {ts:List IT} {t:IT}:(⟨q,c,v,up⟩:Sn)∈S->Sc S G ν up ns ts->Rn G ν v t->Sc S G ν q (ns++[c]) (ts++[t])
theorem Sc.len {S:List Sn} {G:List Nd} {ν:List (Option Value)} {q:Value} {ns:List UInt8} {ts:List IT} (h:Sc S G ν q ns ts):ts.length=ns.length:=by
 induction h with
 |nil=>rfl
 |snoc _ _ _ ih=>simp[ih]
theorem Sc.ge {S S':List Sn} {G G':List Nd} {ν ν':List (Option Value)} (hg:Ge G ν G' ν') (hs:∀x∈S,x∈S') {q:Value} {ns:List UInt8} {ts:List IT} (h:Sc S G ν q ns ts):Sc S' G' ν' q ns ts:=by
 induction h with
 |nil=>exact .nil
 |snoc h1 _ h3 ih=>exact .snoc (hs _ h1) ih (h3.ge hg)
def Pt (L:Ts):Prop:=∀T row v,(.n T row,v)∈L->v≠ao
inductive GZ (G:List Nd) (ν:List (Option Value)):List Value->List IT->Prop
 |nil:GZ G ν [] []
 |cons {p:Value} {t:IT} {ps:List Value} {ts:List IT}:Rn G ν p t->GZ G ν ps ts->GZ G ν (p::ps) (t::ts)
theorem GZ.len {G:List Nd} {ν:List (Option Value)} {ps:List Value} {ts:List IT} (h:GZ G ν ps ts):ps.length=ts.length:=by
 induction h with
 |nil=>rfl
 |cons _ _ ih=>simp[ih]
theorem GZ.ge {G G':List Nd} {ν ν':List (Option Value)} (hg:Ge G ν G' ν') {ps:List Value} {ts:List IT} (h:GZ G ν ps ts):GZ G' ν' ps ts:=by
 induction h with
 |nil=>exact .nil
 |cons h1 _ ih=>exact .cons (h1.ge hg) ih
theorem GZ.app {G:List Nd} {ν:List (Option Value)} {ps:List Value} {ts:List IT} (h:GZ G ν ps ts) {p:Value} {t:IT} (h1:Rn G ν p t):GZ G ν (ps++[p]) (ts++[t]):=by
 induction h with
 |nil=>exact .cons h1 .nil
 |cons h2 _ ih=>exact .cons h2 ih
theorem uC.ge {G G':List Nd} {ν ν':List (Option Value)} (hg:Ge G ν G' ν') {l:List Nat} (h:uC ν l):uC ν' l/\l.map (sZ ν')=l.map (sZ ν):=by
 have:∀n∈l,ν'[n]? =some (some (sZ ν n)):=fun n hn=>hg.vr _ _ (h n hn)
 refine⟨fun n hn=>by rw[wj (this n hn)];exact this n hn,List.map_congr_left fun n hn=>wj (this n hn)⟩
theorem uC.app {ν:List (Option Value)} {l:List Nat} (h:uC ν l) {n:Nat} {p:Value} (hp:ν[n]? =some (some p)):uC ν (l++[n]):=fun m hm=>by
 rcases aeg.1 hm with hm|hm
 ·exact h m hm
 ·simp at hm;subst hm;rw[wj hp];exact hp
section
variable {P:Program} {n:Nat} {s:St} {L:Ts} {Q:Exit->St->Ts->Prop} {c:Code}
theorem TJ.Pu (h:Pt L->TJ P n c Q s L):TJ P n c Q s L:=by
 intro eT w0 g0 X S g a w hR;refine h (fun T row v hm=>?_) eT w0 g0 X S g a w hR;obtain⟨b,xs,rfl,_⟩:=hR.nC.node hm;simp
end
theorem s5 {G:List Nd} {ν:List (Option Value)} {B:List IT} (hG:GR G ν B) {x:Nd} (hN:GN (x::G)):∀n:Nat,ν[n]? ≠some (some x.p):=fun n hn=>by
 obtain⟨q,h1,_⟩:=hG.var _ _ hn;have:=hN.nd;simp only[aec,ad7]at this;exact this.1 (ad8.2 ⟨_,h1,rfl⟩)
theorem GN.tail {x:Nd} {G:List Nd} (h:GN (x::G)):GN G:=⟨(ad7.1 (by simpa using h.nd)).2,fun y hy=>h.nn y (.tail _ hy)⟩
theorem GR.vP {G:List Nd} {ν:List (Option Value)} {B:List IT} (hG:GR G ν B) (hs:qU B) {pa pb:Value} (hN:GN (⟨pb,0,ao,ao,ao⟩::⟨pa,0,ao,ao,ao⟩::G)):
  GR (⟨pb,0,ao,ao,ao⟩::⟨pa,0,ao,ao,ao⟩::G) (ν++[some pa]++[some pb]) (B++[.v B.length,.v (B.length+1)])/\Ge G ν (⟨pb,0,ao,ao,ao⟩::⟨pa,0,ao,ao,ao⟩::G) (ν++[some pa]++[some pb]):=by
 obtain⟨h1,h2⟩:=(hG.sup (G':=⟨pa,0,ao,ao,ao⟩::G) fun x hx=>by simp[hx]).Ks (p:=pa) (by simp) (s5 hG hN.tail) hs;obtain⟨h3,h4⟩:=(h1.sup (G':=⟨pb,0,ao,ao,ao⟩::⟨pa,0,ao,ao,ao⟩::G) fun x hx=>aeb _ hx).Ks (p:=pb) (by simp) (s5 h1 hN) ((kQ.one B).sc hs);refine⟨by simpa using h3,?_⟩;have g1:Ge G ν (⟨pa,0,ao,ao,ao⟩::G) ν:=Ge.sup fun x hx=>by simp[hx]
 have g2:Ge (⟨pa,0,ao,ao,ao⟩::G) (ν++[some pa]) (⟨pb,0,ao,ao,ao⟩::⟨pa,0,ao,ao,ao⟩::G) (ν++[some pa]):=Ge.sup fun x hx=>aeb _ hx
 exact g1.trans (h2.trans (g2.trans h4))
theorem GR.pj {G:List Nd} {ν:List (Option Value)} {B:List IT} (hG:GR G ν B) (hs:qU B) {po:Value} (hN:GN (⟨po,0,ao,ao,ao⟩::G)):
  GR (⟨po,0,ao,ao,ao⟩::G) (ν++[some po]++[none]) (B++[.v B.length,.v (B.length+1)])/\Ge G ν (⟨po,0,ao,ao,ao⟩::G) (ν++[some po]++[none]):=by
 obtain⟨h1,h2⟩:=(hG.sup (G':=⟨po,0,ao,ao,ao⟩::G) fun x hx=>by simp[hx]).Ks (p:=po) (by simp) (s5 hG hN) hs;obtain⟨h3,h4⟩:=h1.Sp;refine⟨by simpa using h3,?_⟩;have g1:Ge G ν (⟨po,0,ao,ao,ao⟩::G) ν:=Ge.sup fun x hx=>by simp[hx]
 exact g1.trans (h2.trans h4)
theorem A7 {B:List IT} (h:lp B) (n m:Nat):lp (B++[.v n,.v m]):=h.app fun u hu=>by
 simp at hu;rcases hu with rfl|rfl<;>trivial
theorem Pv {α:Type} {l:List α} (h:l.length=1):∃x,l=[x]:=by
 match l,h with
 |[x],_=>exact⟨x,rfl⟩
theorem Pw {α:Type} {l:List α} (h:l.length=2):∃x y,l=[x,y]:=by
 match l,h with
 |[x,y],_=>exact⟨x,y,rfl⟩
theorem Px {α:Type} {l:List α} (h:l.length=3):∃x y z,l=[x,y,z]:=by
 match l,h with
 |[x,y,z],_=>exact⟨x,y,z,rfl⟩
theorem aU.args {P:Program} {f:FuncId} {xs ys:List AV} {L:Ts} {R:AV->Ts->Prop} (h:aU P f xs L R) (hl:ys.length=xs.length)
  (hr:∀(i:Nat) x' x,ys[i]? =some x'->xs[i]? =some x->∀g w u,aO g w [] x' u->aO g w [] x u):aU P f ys L R:=
 ⟨h.1,fun g w vs S h1 h2 h3 h4 h5 h6 h7 h8 h9=>h.2 g w vs S h1 h2 h3 h4 (by rw[h5,hl]) (fun i x u hx hu=>by
  have hi:i<ys.length:=by rw[hl];exact(ad5.1 hx).1
  have gI:ys[i]? =some ys[i]:=aek hi;exact hr i _ x gI hx g w u (h6 i _ u gI hu)) h7 h8 h9⟩
theorem MG {g:Gh} {w:World} {u:Value} (h:aO g w [] (.c .np) u):aO g w [] (.c (.d (.raw ao))) u:=by
 simp only[aO,dK,bn]at h;subst h;exact⟨rfl,rfl⟩
section
variable {P:Program} {n:Nat} {s s':St} {L L':Ts} {x y:Code} {all:Array Oper} {ws cs ns:List Nat} {ow:Nat->Bool} {K:St->Ts->Prop}
theorem CZ {all':Array Oper} (p:List Nat):∀(ops:List Oper) (i:Nat) (s:St) (L:Ts),(∀o∈ops,o.guard=none)->kY P all ow ws cs ns K i ops s L->kY P all' ow ws cs ns K i (ops.map (iR p)) s L
 |[],_,_,_,_,h=>h
 |o::rest,i,s,L,hg,h=>by
  have OB:=hg o (by simp);have ih:=fun s L=>CZ (all':=all') p rest (i+1) s L (fun o ho=>hg o (by simp[ho]))
  simp only[aec,kY]at h⊢;refine p7 (o:=iR p o) OB ?_;rcases(fZ h).1 with⟨_,h1⟩|⟨h0,_⟩
  rotate_left
  ·simp[gw,OB]at h0
  rcases h1 with⟨h2,h3⟩|⟨h2,h3,x,h4,h5⟩|⟨h2,h3,h4⟩
  ·exact .inl ⟨h2,lq.map (o:=o) (fun x L' h=>ih _ _ h) h3⟩
  ·exact .inr (.inl ⟨h2,h3,x,h4,ih _ _ h5⟩)
  ·exact .inr (.inr ⟨h2,h3,gm (o:=o) (fun x V A h=>⟨h.1,ih _ _ h.2⟩) h4⟩)
theorem TJ.yS {Q:Exit->St->Ts->Prop} {id:Nat} {l:List Oper} (hm:P.follows .mixedOrders=true) (p:List Nat) (ow:Nat->Bool) (ws cs ns:List Nat) (hp:kP l p=true) (hd:eC (bL l p).toArray ws=true) (hc:lO (bL l p).toArray ws cs ns=true)
  (h:kY P l.toArray ow ws cs ns (fun s' L'=>Q .normal s' L') 0 (eM l p) s L):TJ P n (.region id l.toArray true) Q s L:=by
 obtain⟨p1,p2,p3,p4,p5⟩:=ji hp;intro eT w0 g0 X S g a w hR;have DX:da n (bL l p).toArray.toList=true:=by
  have hx:da n l=true:=by simpa[codeOk]using eT
  simp only[da,List.all_eq_true]at hx⊢;intro o' s6;obtain⟨j,hj⟩:=aej s6;obtain⟨o,q1,rfl,_⟩:=lg hp (j:=j) (o':=o') (by simpa using hj);exact hx o (aee q1)
 have VC:∀o∈eM l p,o.guard=none:=fun o ho=>by
  obtain⟨i,hi,rfl⟩:=ad8.1 ho;have:=p2 i hi;rw[List.getD_eq_getElem?_getD,aek this];exact p4 _ (List.getElem_mem this)
 obtain⟨τ,m,k1,k2,k3,k4⟩:=mw (eM l p|>.map (iR p)) 0 s L (CZ (all':=(bL l p).toArray) p _ _ _ _ VC h);obtain⟨hI,hx⟩:=hR.inv.heap (w':={w with drawn:=w.drawn+1}) rfl;have hF:Fr w g {w with drawn:=w.drawn+1} g:=(Fr.refl hR.fr.now).heap rfl rfl rfl rfl;have hJ:Jb w0 g0 X L S g {w with drawn:=w.drawn+1}:=(Jb.mk hR.fr hR.nC hR.nd hR.out).cR hF;have e5:(bL l p).toArray.size=l.length:=by simp[du,p1]
 have wx:∀(i:Nat),(bL l p).toArray[i]? =(bL l p)[i]? :=fun i=>by simp
 refine wp_region_any hm (rE hp _ _ (Array.replicate l.length false) a _ (by simp) (by simp) (fun i=>?_) (vt (K:=fun s' L'=>Q .normal s' L') (ow:=ow) hd hc DX (fun s' L' S' g' a' w' h1 h2=>⟨s',g',L',S',h1,h2⟩) _ τ m L S _ 0 g a _ ?_ ?_ (aen _) ?_ ?_ ?_ ?_ hJ))
 ·simp only[Array.getElem?_replicate];by_cases hi:i<l.length
  ·have:=List.idxOf_lt_length_of_mem (p3 i hi);rw[if_pos (by omega),if_pos (by simpa using hi)]
  ·have OC:i∉p:=fun h=>hi (p2 i h)
   rw[if_neg (by rw[List.idxOf_eq_length OC];omega),if_neg (by simpa using hi)]
 ·refine Nat.le_trans (List.length_filter_le _ _) (by simp[du,p1])
 ·refine⟨by rw[e5,<-p1,<-du (l:=l)];exact k1,fun j o hj ho=>?_⟩;have:=(k3 j o hj (by rw[wx]at ho;exact ho)).2;simpa only[aem]using this
 ·intro j o hj ho _;have:=(k3 j o hj (by rw[wx]at ho;exact ho)).1;simpa only[aem]using this
 ·intro i hi;have Bd:=(aep.1 hi).1;simp at Bd;simp[Bd]at hi
 ·rcases k4 with⟨h1,h2⟩|⟨h1,oc,h2,h4,h5,h3⟩
  ·exact .inl ⟨by rw[h1];simp[bL],h2⟩
  ·refine .inr ⟨by simpa using h1,oc,by rw[wx];exact h2,h4,h5,?_⟩;simp only[aem]at h3;exact h3
 ·refine⟨by rw[k2];exact hI,.refl hF.now,hR.size,hR.defers,by simp[du,p1],fun i o t x ho hl=>?_,fun t x _ gI=>?_,fun i _ b8=>?_,aen _,fun i o ho hl=>?_⟩
  ·have hi:=(aep.1 hl).1;simp at hi;simp[hi]at hl
  ·rw[k2]at gI⊢;obtain⟨u,h1,h2⟩:=hR.slot t x gI;exact⟨u,h1,aO.ext hx h2⟩
  ·rw[e5]at b8;simp[b8]
  ·have hi:=(aep.1 hl).1;simp at hi;simp[hi]at hl
theorem TJ.VD {Q:Exit->St->Ts->Prop} {id:Nat} {l:List Oper} (hm:P.follows .mixedOrders=true) (p:List Nat) (ow:Nat->Bool) (ws cs ns:List Nat) (hp:kP l p=true) (hd:eC (bL l p).toArray ws=true) (hc:lO (bL l p).toArray ws cs ns=true)
  (h:∀K:St->Ts->Prop,(∀s' L',TJ P n y Q s' L'->K s' L')->jn P l.toArray ow ws cs ns K 0 (eM l p) s L):TJ P n (.seq (.region id l.toArray true) y) Q s L:=
 TJ.seq (TJ.yS hm p ow ws cs ns hp hd hc (h _ fun _ _ h=>h).run)
end
theorem kO.Kw {w:World}:∀{cs:List GC} {xs:List Value} {S:List Nat} {cs':List GC} {us:List Value} {S':List Nat},kO w cs xs S->kO w cs' us S'->kO w (cs++cs') (xs++us) (S++S')
 |[],xs,S,cs',us,S',h,h'=>by
  simp only[kO]at h;obtain⟨rfl,rfl⟩:=h;simpa using h'
 |c::cs,xs,S,cs',us,S',h,h'=>by
  simp only[kO]at h;obtain⟨x,xs',S1,S2,rfl,rfl,h1,h2⟩:=h;simp only[List.cons_append,kO];exact⟨x,xs'++us,S1,S2++S',rfl,by simp,h1,h2.Kw h'⟩
section
variable {P:Program} {n:Nat} {s:St} {L L2:Ts} {all:Array Oper} {ow:Nat->Bool} {K:St->Ts->Prop} {i:Nat} {o:Oper} {rest:List Oper}
theorem yT {x y:Operand} {t e:TypeId} {d de:TD} {z:List CV} {m:Nat} {cs cs':List GC} {Lc:Ts} {v:Value} {u:AV} {nr:List (List DV)} (hg:o.guard=none) (ho:o.op=.call {callee:=.builtin .append,args:= #[x,y],argTypes:= #[t,t]})
  (ht:td P t=some d) (tC:d.el=some e) (he:td P e=some de) (hz:de.zero=some z) (qK:z.length=de.sz) (hx:bF s x=some (.c (.d (.raw v)))) (hy:bF s y=some u) (ED:rowsOf s.A u=some nr) (hl:∀r∈nr,r.length=de.sz)
  (HY:Mk cs' nr.flatten Lc) (hp:L.Perm ((.t e de.sz m cs,v)::(Lc++L2))) (hb:(m+nr.length)*de.lS<=140737488355328) (hm:m+nr.length<=9223372036854775807)
  (hK:∀v',kE P n all ow K (i+1) rest (s.put o.dst (.c (.d (.raw v'))) s.V s.A) ((.t e de.sz (m+nr.length) (cs++cs'),v')::L2)):kE P n all ow K i (o::rest) s L:=by
 refine⟨fun vU w0 g0 X S g a w Q hR hQ=>?_⟩;simp only[da,List.all_cons,Bool.and_eq_true]at vU;have fc:∀d,o.dst=some d->d<n:=fun d e=>by have:=vU.1;rw[e]at this;simpa using this
 obtain⟨S0,vM,EY⟩:=hR.nC.perm hp;obtain⟨S1,S12,rfl,lV,Sq⟩:=EY;obtain⟨SL,S2,rfl,Sr,At⟩:=iG.app.1 Sq;simp only[Tr]at lV;obtain⟨xs,S3,dP,Mv,rfl⟩:=lV;have oO:=vM.nodup_iff.1 hR.nd;have jB:=fun b hb=>hR.out b (vM.mem_iff.2 hb)
 have ax:∀b∈v.ownBlock.toList++S3++(SL++S2),b<w.heap.size:=fun b hb=>hR.nC.lt b (vM.mem_iff.2 hb)
 have hv:=aJ hR.slot hx;simp only[aO,dK,bn,bh]at hv;obtain⟨hv,kK⟩:=hv;have hu:=aJ hR.slot hy;obtain⟨inf,hi,o8,Dm,h0⟩:=gx he;obtain⟨zv,Hi,GM⟩:=h0 z hz;have I3:zv.cells.size=inf.size:=by have:=iW GM;simp at this;omega
 obtain⟨news,wA,vF,Aa⟩:=tD hR.inv hu ED hl;have GL:news.length=nr.flatten.length:=by
  have ya:nr.flatten.length=nr.length*de.sz:=by
   clear wA Aa hb hm hK ED HY;induction nr with
   |nil=>simp
   |cons r nr ih=>simp only[List.flatten_cons,aei,aeh];rw[hl r (by simp),ih (fun x hx=>hl x (by simp[hx])),Nat.add_mul,Nat.one_mul,Nat.add_comm]
  rcases wA with⟨h1,h2,_⟩|⟨_,_,_,h1,_⟩
  ·rw[ya,h1,h2];simp
  ·rw[ya,h1]
 have y3:w.ownsRow 0 e inf.size v m xs:=by rw[o8];exact dP
 obtain⟨v',w',fC,s6,hc⟩:=my (P:=P) t o.type e inf zv (mP ht tC) hi Hi I3 v m xs y3 (a.eval y) nr.length news (by rw[o8];exact wA) vF (by simp only[maxLen];omega) (by rw[Dm];exact hb);rw[o8]at s6;unfold wpList;rw[if_pos (by simp[Region.wanted,hg])];refine .inl ?_;unfold Oper.wp;have CO:(execOp a.eval o).run P w=.ok (.value v') w':=by
  unfold execOp;simp only[ho,resolve,invoke,Sem.run_bind,Sem.run_pure,Result.andThen_ok,List.map_toArray,aec,List.map_nil,hv];exact oF fC
 rw[CO];have Ek:v'.oneCell'=true:=by
  rcases s6.2 with⟨rfl,_⟩|⟨b1,c1,cu1,rfl,_⟩<;>rfl
 rcases hc with⟨rfl,rfl⟩|⟨b,cs',Bb,xW,rfl⟩|⟨o',xW,rfl⟩
 ·refine(hK v').run vU.2 w0 g0 X (v'.ownBlock.toList++(S3++SL)++S2) g _ _ Q (hR.put fc (x:=.c (.d (.raw v'))) ⟨rfl,Ek⟩ hR.inv (.refl _ _ _) hR.fr ⟨_,S2,rfl,?_,At⟩ (by simpa using oO) (fun b hb=>jB b (by simpa using hb))) hQ;simp only[Tr];exact⟨xs++news,S3++SL,s6,Mv.Kw (HY.P0 GL Aa Sr),rfl⟩
 ·have R5:b∈v.ownBlock.toList++S3++(SL++S2):=by simp[Bb]
  obtain⟨th,HO,Pd,TH,Pe⟩:=jB b R5;have gG:∀b',b'≠b->(w.setRow b cs').heap[b']? =w.heap[b']? :=fun b' dN=>cz w b b' _ dN
  have IK:(w.setRow b cs').heap.size=w.heap.size:=by simp
  have ym:kj g.im w g.im (w.setRow b cs'):=⟨fun _=>ael _,fun b' o' GJ=>by
   have dj:b'≠b:=fun e=>by subst e;omega
   exact World.cell?_of_block (a:=⟨b',o',none⟩) (gG b' dj)⟩
  have IL:Ext g w s.A g (w.setRow b cs') s.A:=⟨fun _ _ h=>h,ym,fun _ r h=>⟨r,h,rfl,ael _,fun _=>rfl⟩⟩;have Pf:Inv g (w.setRow b cs') s.V s.A:=by
   refine⟨hR.inv.o0,hR.inv.lT,fun l row' b' h3 h4=>?_,fun k r u h3 h4=>?_,hR.inv.kZ,hR.inv.jr,hR.inv.jz,fun b' dN=>hR.inv.fresh b' (by omega)⟩
   ·exact hR.inv.fA IL h3 h4 (gG b' (fun e=>by subst e;exact HO (aee h4))) (hR.inv.obj l row' b' h3 h4).1
   ·exact hR.inv.fB IL h3 h4 (fun b' dN=>gG b' (fun e=>by subst e;exact Pd (Gh.j6 h4 dN))) (fun _ _=>rfl)
  have Pg:xl w0 g0 X (w.setRow b cs') g:=by
   refine⟨hR.fr.os,hR.fr.tape,hR.fr.output,by rw[IK];exact hR.fr.size,fun b' q1 q2 q3 q4=>?_,hR.fr.js,hR.fr.ob,hR.fr.ar,hR.fr.wk,hR.fr.yl,hR.fr.Ci⟩;rw[gG b' (fun e=>by
    subst e;rcases Pe with q|q
    ·omega
    ·exact q4 q)]
   exact hR.fr.qI b' q1 q2 q3 q4
  have yK:(b::(S3++(SL++S2))).Nodup:=by simpa[Bb]using oO
  have Bh:b∉S3++(SL++S2):=(ad7.1 yK).1;refine(hK v').run vU.2 w0 g0 X (v'.ownBlock.toList++(S3++SL)++S2) g _ _ Q (hR.put fc (x:=.c (.d (.raw v'))) ⟨rfl,Ek⟩ Pf IL Pg ⟨_,S2,rfl,?_,At.dQ fun b' dN=>gG b' (fun e=>by subst e;exact Bh (by simp[dN]))⟩ (by rw[xW];simpa using yK) fun b' dN=>jB b' (by rw[Bb];rw[xW]at dN;simpa using dN)) hQ;simp only[Tr];exact⟨xs++news,S3++SL,s6,(Mv.dQ _ _ _ fun b' dN=>gG b' (fun e=>by subst e;exact Bh (by simp[dN]))).Kw (HY.P0 GL (fun j q u h1 h2=>bh.fL ym q u (Aa j q u h1 h2)) (Sr.dQ fun b' dN=>gG b' (fun e=>by subst e;exact Bh (by simp[dN])))),rfl⟩
 ·obtain⟨R6,MY⟩:=hR.inv.heap (w':=w.drew) rfl;have R7:Fr w g w.drew g:=(Fr.refl hR.fr.now).heap rfl rfl rfl rfl;obtain⟨g1,vB,fj,dC⟩:=R6.ej o' 0;have kH:=R7.ej o' 0;have M0:w.drew.heap.size=w.heap.size:=rfl;rw[<-vB]at kH;have wX:∀b∈S3++(SL++S2),b<w.heap.size:=fun b hb=>ax b (by simp only[ad6,aeg]at hb⊢;exact .inr hb)
  have hold:∀b,b<w.heap.size->(w.drew.alloc o').heap[b]? =w.heap[b]? :=fun b hb=>RowKit.Below.heap_alloc w.drew o' b hb
  have HZ:(S3++(SL++S2)).Nodup:=by rw[ad6]at oO;exact(aea.1 oO).2.1
  have uR:=hR.xm kH;refine(hK v').run vU.2 w0 g0 X (v'.ownBlock.toList++(S3++SL)++S2) g1 _ _ Q (hR.put fc (x:=.c (.d (.raw v'))) ⟨rfl,Ek⟩ fj (MY.trans dC) (hR.fr.fr kH) ⟨_,S2,rfl,?_,At.dQ fun b' dN=>hold b' (wX b' (by simp[dN]))⟩ ?_ fun b hb=>?_) hQ
  ·simp only[Tr];exact⟨xs++news,S3++SL,s6,(Mv.dQ _ _ _ fun b' dN=>hold b' (wX b' (by simp[dN]))).Kw (HY.P0 GL (fun j q u h1 h2=>bh.fL (MY.trans dC).gr q u (Aa j q u h1 h2)) (Sr.dQ fun b' dN=>hold b' (wX b' (by simp[dN])))),rfl⟩
  ·rw[xW,ad6,ad6];exact ad7.2 ⟨fun hm=>absurd (wX _ hm) (by omega),HZ⟩
  ·rw[xW,ad6,ad6]at hb;rcases ad4.1 hb with rfl|hb
   ·refine⟨by rw[vB];simp,fun hm=>?_,fun hm=>?_,fun hm=>?_,.inl hR.fr.size⟩
    ·rw[vB]at hm;obtain⟨l,hl⟩:=aej hm;have:=hR.inv.qW hl;omega
    ·rw[vB]at hm;obtain⟨k,v',q1,q2⟩:=Gh.fQ (g:=g) (by simpa[Gh.jy]using hm);have:=hR.inv.mN q1 q2;omega
    ·have:=(hR.fr.now _ hm).1;omega
   ·exact uR.2 b (vM.mem_iff.2 (by rw[ad6];exact List.mem_append_right _ hb))
theorem TJ.MH {Q:Exit->St->Ts->Prop} {c:Code} (t:Nat) (ht:look s.fr t=some (.c .nil)) (h:TJ P n c Q ⟨(t,.c (.d (.raw (.slice none 0 0))))::s.fr,s.V,s.A⟩ L):TJ P n c Q s L:=by
 refine TJ.conv (s':=⟨(t,.c (.d (.raw (.slice none 0 0))))::s.fr,s.V,s.A⟩) (fun g a w hR=>⟨g,hR.inv,hR.fr,hR.size,hR.defers,fun t' x hx=>?_⟩) h
 simp only[look]at hx;by_cases e:t'=t
 ·rw[if_pos e]at hx;cases hx
  subst e;obtain⟨u,h1,h2⟩:=hR.slot t' _ ht;refine⟨u,h1,?_⟩;simp only[aO,dK,bn]at h2;subst h2;exact⟨rfl,rfl⟩
 ·rw[if_neg e]at hx;exact hR.slot t' x hx
end
section
variable {P:Program} {n:Nat} {s:St} {L L2:Ts} {Q:Exit->St->Ts->Prop} {cd:Code}
theorem TJ.freeze {c:GC} {v:Value} (hp:L.Perm ((c,v)::L2)) (l6:c.pl=true) (t:Nat) (ht:look s.fr t=some (.c (.d (.raw v)))) (h:TJ P n cd Q ⟨(t,.c (.d c.dv))::s.fr,s.V,s.A⟩ L2):TJ P n cd Q s L:=by
 intro eT w0 g0 X S g a w hR;obtain⟨S0,vM,EY⟩:=hR.nC.perm hp;obtain⟨S1,S2,rfl,lV,At⟩:=EY;have oO:=vM.nodup_iff.1 hR.nd;have fY:=iG.zA oO;have jB:=fun b hb=>hR.out b (vM.mem_iff.2 hb)
 let im':Nat->Nat:=fun b=>if b∈S1 then M7 w b else g.im b
 have qX:∀b,b∉S1->im' b=g.im b:=fun b hb=>by simp only[im',if_neg hb]
 have hle:∀b,g.im b<=im' b:=fun b=>by
  simp only[im'];split
  ·rename_i hb;rw[(jB b (by simp[hb])).1];exact aen _
  ·exact ael _
 have hx:Ext g w s.A {g with im:=im'} w s.A:=⟨fun _ _ h=>h,⟨hle,fun _ _ _=>rfl⟩,fun _ r h=>⟨r,h,rfl,ael _,fun _=>rfl⟩⟩;have I8:∀b∈g.ob,b∉S1:=fun b hb hm=>(jB b (by simp[hm])).2.1 hb
 have Ds:∀b∈g.jy,b∉S1:=fun b hb hm=>(jB b (by simp[hm])).2.2.1 hb
 have hI:Inv {g with im:=im'} w s.V s.A:=by
  refine⟨hR.inv.o0,hR.inv.lT,fun l row b h1 h2=>?_,fun k r u h1 h2=>?_,hR.inv.kZ,hR.inv.jr,hR.inv.jz,fun b hb=>?_⟩
  ·exact hR.inv.fA hx h1 h2 rfl ((qX b (I8 b (aee h2))).trans (hR.inv.obj l row b h1 h2).1)
  ·exact hR.inv.fB hx h1 h2 (fun _ _=>rfl) (fun b hb=>qX b (Ds b (Gh.j6 h2 hb)))
  ·have:b∉S1:=fun hm=>absurd (hR.nC.lt b (vM.mem_iff.2 (by simp[hm]))) (by omega)
   exact(qX b this).trans (hR.inv.fresh b hb)
 have hF:xl w0 g0 X w {g with im:=im'}:=by
  refine⟨hR.fr.os,hR.fr.tape,hR.fr.output,hR.fr.size,hR.fr.qI,fun b h1 h2 h3=>?_,hR.fr.ob,hR.fr.ar,hR.fr.wk,hR.fr.yl,hR.fr.Ci⟩;have:b∉S1:=fun hm=>by
   rcases(jB b (by simp[hm])).2.2.2.2 with q|q
   ·omega
   ·exact h3 q
  exact(qX b this).trans (hR.fr.js b h1 h2 h3)
 refine h eT w0 g0 X S2 {g with im:=im'} a w ⟨hI,hF,hR.size,hR.defers,fun t' x gI=>?_,At,(aea.1 oO).2.1,fun b hb=>?_⟩
 ·simp only[look]at gI;by_cases e:t'=t
  ·rw[if_pos e]at gI;cases gI
   subst e;obtain⟨u,h1,h2⟩:=hR.slot t' _ ht;refine⟨u,h1,?_⟩;simp only[aO,dK,bn,bh]at h2;obtain⟨rfl,_⟩:=h2;exact Tr.rep c _ S1 l6 lV fun b hb=>by simp[im',hb]
  ·rw[if_neg e]at gI;obtain⟨u,h1,h2⟩:=hR.slot t' x gI;exact⟨u,h1,aO.ext hx h2⟩
 ·obtain⟨q1,q2,q3,q4,q5⟩:=jB b (by simp[hb]);exact⟨(qX b (fun hm=>fY b hm hb)).trans q1,q2,q3,q4,q5⟩
end
section
variable {P:Program} {f:FuncId} {xs:List AV}
theorem vg.Ss {g:Gh} {w:World} {S:List Nat} {L:Ts} {A:List bu} {x y:AV} (h:vg L x y) (hS:∀b∈S,g.im b=0) (hT:iG w L S) {u:Value} (hr:dK g w A x u):dK (vL g w S) w [] y u:=by
 cases h with
 |c h=>exact vg.rep (.c h) hS hT (show aO g w A (.c _) u from hr)
 |agg h=>exact vg.rep (.agg h) hS hT (show aO g w A (.agg _) u from hr)
theorem aU.data {ys:List AV} {R:AV->Ts->Prop} (h:aU P f xs [] R) (hR:∀r L',R r L'->∃zs,r=.a8 zs/\iQ L' zs ys):ah P f xs [] (.a8 ys) [] []:=by
 refine⟨h.1,ael _,fun g w vs h2 hI hT hl hr=>?_⟩;have h1:g.ob=[]:=List.length_eq_zero_iff.1 (by simpa using hI.o0);refine(h.2 g w vs [] h1 h2 hI hT hl hr rfl aef (by simp)).mono ?_;rintro e w' ⟨v,r,L',S',rfl,gU,LW,HV,oO,b8,ho,ht,gL,e5,yy⟩;obtain⟨zs,rfl,hz⟩:=hR r L' gU;have hS:∀b∈S',w.heap.size<=b:=fun b hb=>by
  rcases b8 b hb with q|q
  ·cases q
  ·exact q
 have MO:∀b∈S',g.im b=0:=fun b hb=>hI.fresh b (hS b hb)
 have Py:∀b,b∉S'->(vL g w' S').im b=g.im b:=fun b hb=>by simp only[vL,if_neg hb]
 have yb:Inv (vL g w' S') w' [] []:=⟨rfl,rfl,fun l row b h=>by simp at h,fun k r v h=>by simp at h,fun l l' b h=>by simp[vL]at h,fun k k' v v' b h=>by simp[vL]at h,fun l k v b h=>by simp[vL]at h,fun b hb=>by
  have:b∉S':=fun h=>absurd (HV.lt b h) (by omega)
  rw[Py b this];exact hI.fresh b (by omega)⟩
 refine⟨v,vL g w' S',rfl,?_,yb,⟨ho,ht,gL,e5,fun b hb _ _=>yy b hb (by simp),fun b hb _=>Py b (fun hm=>by have:=hS b hm;omega),⟨[],by simp[vL,h1],by simp⟩,fun k v b h=>by simp[vL]at h,fun k v h=>by rw[h2]at h;simp at h,hT⟩⟩;obtain⟨us,e1,e2,e3⟩:=LW g w' [];refine⟨us,e1,by rw[e2,hz.len],fun i y u q1 q2=>?_⟩;obtain⟨x,q3,q4⟩:=hz.at_ q1;exact q4.Ss MO HV (e3 i x u q3 q2)
end
end Go.Av
