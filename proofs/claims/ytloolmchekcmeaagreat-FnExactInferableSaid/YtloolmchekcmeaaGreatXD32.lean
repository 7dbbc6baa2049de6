/- A part. -/
import Derived.Test.YtloolmchekcmeaaGreatXD31
set_option linter.unusedVariables false
set_option linter.unusedSimpArgs false
open List renaming mem_cons->ad6,getElem?_eq_some_iff->ad7,append_assoc->ad8,nodup_cons->ad9,mem_map->aea,getElem?_append_left->aeb,nodup_append->aec,mem_cons_of_mem->aed,map_cons->aee,getElem?_append_right->aef,mem_of_getElem?->aeg,nodup_nil->aeh,mem_append->aei,length_cons->aej,length_append->aek,getElem?_of_mem->ael,getElem?_eq_getElem->aem
open Nat renaming le_refl->aen,zero_add->aeo,zero_le->aep,lt_or_ge->aeq
open Array renaming getElem?_eq_some_iff->aer
namespace Go.Av
attribute [-simp] Go.Av.bP Go.Av.eu Go.Av.eN Go.Av.eG Go.Av.b8 Go.Av.bN
open Go
structure Nd where
 p:Value
 k:Int
 is:Value
 a:Value
 b:Value
abbrev ao:Value:=.pointer none
abbrev Nd.row (x:Nd):List DV:=[.i x.k,.raw x.is,.raw x.a,.raw x.b]
def U6 (T:TypeId) (x:Nd):GC×Value:=(.n T x.row,x.p)
def gT (T:TypeId) (G:List Nd):Ts:=G.map (U6 T)
theorem Mi {T:TypeId} {G:List Nd} {x:Nd} (h:x∈G):(.n T [.i x.k,.raw x.is,.raw x.a,.raw x.b],x.p)∈gT T G:=aea.2 ⟨x,h,rfl⟩
theorem J1 {T:TypeId} {G H:List Nd} (h:G.Perm H):(gT T G).Perm (gT T H):=h.map _
@[simp] theorem PN {T:TypeId} {G:List Nd} (x:Nd):gT T (x::G)=(.n T [.i x.k,.raw x.is,.raw x.a,.raw x.b],x.p)::gT T G:=rfl
structure GN (G:List Nd):Prop where
 nd:(G.map Nd.p).Nodup
 nn:∀x∈G,x.p≠ao
theorem GN.uniq {G:List Nd} (h:GN G) {x y:Nd} (hx:x∈G) (hy:y∈G) (e:x.p=y.p):x=y:=by
 have key:∀(l:List Nd),(l.map Nd.p).Nodup->x∈l->y∈l->x=y:=by
  intro l;induction l with
  |nil=>intro _ hx;cases hx
  |cons z l ih=>
   intro hn hx hy;simp only[aee,ad9]at hn;rcases ad6.1 hx with e1|lu
   ·rcases ad6.1 hy with e2|R3
    ·rw[e1,e2]
    ·exact absurd (aea.2 ⟨y,R3,by rw[<-e,e1]⟩) hn.1
   ·rcases ad6.1 hy with e2|R3
    ·exact absurd (aea.2 ⟨x,lu,by rw[e,e2]⟩) hn.1
    ·exact ih hn.2 lu R3
 exact key G h.nd hx hy
inductive Rn (G:List Nd) (ν:List (Option Value)):Value->IT->Prop
 |v {n:Nat} {p:Value}:ν[n]? =some (some p)->Rn G ν p (.v n)
 |b {p:Value} {k:Int}:(⟨p,k,ao,ao,ao⟩:Nd)∈G->k≠0->Rn G ν p (.b k)
 |p {p:Value} {k:Int} {a b:Value} {x y:IT}:(⟨p,k,ao,a,b⟩:Nd)∈G->k≠0->Rn G ν a x->Rn G ν b y->Rn G ν p (.p k x y)
def PO (G:List Nd) (ν:List (Option Value)) (q:Value):Option IT->Prop
 |none=>q=ao
 |some t=>Rn G ν q t
structure GR (G:List Nd) (ν:List (Option Value)) (B:List IT):Prop where
 len:ν.length=B.length
 inj:∀(n m:Nat) p,ν[n]? =some (some p)->ν[m]? =some (some p)->n=m
 var:∀(n:Nat) p,ν[n]? =some (some p)->∃q,(⟨p,0,q,ao,ao⟩:Nd)∈G/\PO G ν q (bd B n)
structure Ge (G:List Nd) (ν:List (Option Value)) (G':List Nd) (ν':List (Option Value)):Prop where
 nd:∀x∈G,x.k≠0->x∈G'
 vr:∀(n:Nat) p,ν[n]? =some (some p)->ν'[n]? =some (some p)
theorem Ge.refl (G:List Nd) (ν:List (Option Value)):Ge G ν G ν:=⟨fun _ h _=>h,fun _ _ h=>h⟩
theorem Ge.trans {G G' G'':List Nd} {ν ν' ν'':List (Option Value)} (h:Ge G ν G' ν') (h':Ge G' ν' G'' ν''):Ge G ν G'' ν'':=⟨fun x hx hk=>h'.nd x (h.nd x hx hk) hk,fun n p hp=>h'.vr n p (h.vr n p hp)⟩
theorem Ge.sup {G G':List Nd} {ν:List (Option Value)} (h:∀x∈G,x∈G'):Ge G ν G' ν:=⟨fun x hx _=>h x hx,fun _ _ h=>h⟩
theorem Rn.ge {G G':List Nd} {ν ν':List (Option Value)} (h:Ge G ν G' ν') {p:Value} {t:IT} (hr:Rn G ν p t):Rn G' ν' p t:=by
 induction hr with
 |v h1=>exact .v (h.vr _ _ h1)
 |b h1 h2=>exact .b (h.nd _ h1 h2) h2
 |p h1 h2 _ _ i1 i2=>exact .p (h.nd _ h1 h2) h2 i1 i2
theorem PO.ge {G G':List Nd} {ν ν':List (Option Value)} (h:Ge G ν G' ν') {q:Value}:∀{o:Option IT},PO G ν q o->PO G' ν' q o
 |none,hr=>hr
 |some _,hr=>Rn.ge h hr
section
variable {G G':List Nd} {ν ν':List (Option Value)} {B:List IT}
theorem GR.sup (h:GR G ν B) (hs:∀x∈G,x∈G'):GR G' ν B:=⟨h.len,h.inj,fun n p hp=>by
 obtain⟨q,h1,h2⟩:=h.var n p hp;exact⟨q,hs _ h1,h2.ge (Ge.sup hs)⟩⟩
theorem GR.nil:GR [] [] []:=⟨rfl,fun n m p h=>by simp at h,fun n p h=>by simp at h⟩
theorem Rn.node (h:GR G ν B) {p:Value} {t:IT} (hr:Rn G ν p t):∃x∈G,x.p=p/\x.k=t.kind:=by
 cases hr with
 |v h1=>
  obtain⟨q,h2,_⟩:=h.var _ _ h1;exact⟨_,h2,rfl,rfl⟩
 |b h1 _=>exact⟨_,h1,rfl,rfl⟩
 |p h1 _ _ _=>exact⟨_,h1,rfl,rfl⟩
theorem Rn.uniq (h:GR G ν B) (hn:GN G) {p:Value} {t u:IT} (h1:Rn G ν p t) (h2:Rn G ν p u):t=u:=by
 induction h1 generalizing u with
 |v h1=>
  obtain⟨q,g1,_⟩:=h.var _ _ h1;cases h2 with
  |v h2=>rw[h.inj _ _ _ h1 h2]
  |b h2 h3=>exact absurd (congrArg Nd.k (hn.uniq h2 g1 rfl)) h3
  |p h2 h3 _ _=>exact absurd (congrArg Nd.k (hn.uniq h2 g1 rfl)) h3
 |b h1 hk=>
  cases h2 with
  |v h2=>
   obtain⟨q,g1,_⟩:=h.var _ _ h2;exact absurd (congrArg Nd.k (hn.uniq h1 g1 rfl)) hk
  |b h2 h3=>have:=congrArg Nd.k (hn.uniq h1 h2 rfl);simp at this;rw[this]
  |p h2 h3 h4 h5=>
   have:=congrArg Nd.a (hn.uniq h1 h2 rfl);simp at this;obtain⟨x,hx,hp,_⟩:=h4.node h;rw[<-this]at hp;exact absurd hp (hn.nn x hx)
 |p h1 hk ha hb i1 i2=>
  cases h2 with
  |v h2=>
   obtain⟨q,g1,_⟩:=h.var _ _ h2;exact absurd (congrArg Nd.k (hn.uniq h1 g1 rfl)) hk
  |b h2 h3=>
   have:=congrArg Nd.a (hn.uniq h2 h1 rfl);simp at this;obtain⟨x,hx,hp,_⟩:=ha.node h;rw[<-this]at hp;exact absurd hp (hn.nn x hx)
  |p h2 h3 h4 h5=>
   have:=hn.uniq h1 h2 rfl;simp at this;obtain⟨rfl,rfl,rfl⟩:=this;rw[i1 h4,i2 h5]
theorem Rn.ne (h:GR G ν B) (hn:GN G) {p:Value} {t:IT} (h1:Rn G ν p t):p≠ao:=by
 obtain⟨x,hx,rfl,_⟩:=h1.node h;exact hn.nn x hx
theorem GR.bind (h:GR G ν B) (hn:GN G) {n:Nat} {p q:Value} {t:IT} {G2:List Nd} (hp:ν[n]? =some (some p)) (hf:bd B n=none) (hG:G.Perm (⟨p,0,ao,ao,ao⟩::G2)) (hq:Rn G ν q t) (ht:t≠.v n):
  GR (⟨p,0,q,ao,ao⟩::G2) ν (B.set n t)/\Ge G ν (⟨p,0,q,ao,ao⟩::G2) ν:=by
 have oE:Ge G ν (⟨p,0,q,ao,ao⟩::G2) ν:=⟨fun x hx hk=>by
  rcases ad6.1 (hG.mem_iff.1 hx)with rfl|h1
  ·exact absurd rfl hk
  ·exact aed _ h1,fun _ _ h=>h⟩
 have ax:n<B.length:=by rw[<-h.len];exact(ad7.1 hp).1
 refine⟨⟨by simp[h.len],h.inj,fun m p' eb=>?_⟩,oE⟩;rw[xi ax ht];by_cases e:m=n
 ·subst e;rw[hp]at eb;simp at eb;subst eb;rw[if_pos rfl];exact⟨q,by simp,hq.ge oE⟩
 ·rw[if_neg e];obtain⟨q',h1,h2⟩:=h.var m p' eb;refine⟨q',?_,h2.ge oE⟩;rcases ad6.1 (hG.mem_iff.1 h1)with h3|h3
  ·simp at h3;exact absurd (h.inj m n p (h3.1▸eb) hp) e
  ·exact aed _ h3
theorem GR.J3 (h:GR G ν B) {p:Value} (hp:(⟨p,0,ao,ao,ao⟩:Nd)∈G) (hn:∀n:Nat,ν[n]? ≠some (some p)) (hs:sM B):GR G (ν++[some p]) (B++[.v B.length])/\Ge G ν G (ν++[some p]):=by
 have oE:Ge G ν G (ν++[some p]):=⟨fun _ h _=>h,fun n q hq=>by rw[aeb (ad7.1 hq).1];exact hq⟩;have cX:∀(n:Nat) q,(ν++[some p])[n]? =some (some q)->ν[n]? =some (some q)\/(n=B.length/\q=p):=fun n q hq=>by
  rcases aeq n ν.length with h1|h1
  ·rw[aeb h1]at hq;exact .inl hq
  ·rw[aef h1]at hq;have h0:n-ν.length=0:=by
    have:=(ad7.1 hq).1;simp at this;omega
   rw[h0]at hq;simp at hq;exact .inr ⟨by rw[<-h.len];omega,hq.symm⟩
 refine⟨⟨by simp[h.len],fun n m q h1 h2=>?_,fun n q h1=>?_⟩,oE⟩
 ·rcases cX n q h1 with h3|⟨h3,h4⟩<;>rcases cX m q h2 with h5|⟨h5,h6⟩
  ·exact h.inj n m q h3 h5
  ·subst h6;exact absurd h3 (hn n)
  ·subst h4;exact absurd h5 (hn m)
  ·omega
 ·rcases cX n q h1 with h3|⟨h3,h4⟩
  ·obtain⟨q',h5,h6⟩:=h.var n q h3;refine⟨q',h5,?_⟩;rw[xl _ (by rw[<-h.len];exact(ad7.1 h3).1)];exact h6.ge oE
  ·subst h3;subst h4;exact⟨ao,hp,by rw[Dl];rfl⟩
theorem GR.R4 (h:GR G ν B):GR G (ν++[none]) (B++[.v B.length])/\Ge G ν G (ν++[none]):=by
 have oE:Ge G ν G (ν++[none]):=⟨fun _ h _=>h,fun n q hq=>by rw[aeb (ad7.1 hq).1];exact hq⟩;have cX:∀(n:Nat) q,(ν++[none])[n]? =some (some q)->ν[n]? =some (some q):=fun n q hq=>by
  rcases aeq n ν.length with h1|h1
  ·rw[aeb h1]at hq;exact hq
  ·rw[aef h1]at hq;have h0:n-ν.length=0:=by
    have:=(ad7.1 hq).1;simp at this;omega
   rw[h0]at hq;simp at hq
 refine⟨⟨by simp[h.len],fun n m q h1 h2=>h.inj n m q (cX n q h1) (cX m q h2),fun n q h1=>?_⟩,oE⟩;obtain⟨q',h5,h6⟩:=h.var n q (cX n q h1);refine⟨q',h5,?_⟩;rw[xl _ (by rw[<-h.len];exact(ad7.1 (cX n q h1)).1)];exact h6.ge oE
end
theorem gl.nodes {w:World} {T:TypeId}:∀{G:List Nd} {M:Ts} {S:List Nat},gl w (gT T G++M) S->S.Nodup->GN G/\∀p∈G.map Nd.p,∃b∈S,p=.pointer (some ⟨b,0,none⟩)
 |[],M,S,_,_=>⟨⟨aeh,fun x hx=>by cases hx⟩,fun p hp=>by cases hp⟩
 |x::G,M,S,h,hn=>by
  obtain⟨S1,S2,rfl,h1,h2⟩:=h;simp only[Tr]at h1;obtain⟨b,xs,hb,_,_,_,rfl⟩:=h1;have IN:S2.Nodup:=(aec.1 hn).2.1;obtain⟨h3,h4⟩:=gl.nodes (G:=G) (M:=M) h2 IN;have U7:b∉S2:=fun hm=>(aec.1 hn).2.2 b (by simp) b hm rfl
  refine⟨⟨ad9.2 ⟨fun hm=>?_,h3.nd⟩,fun y hy=>?_⟩,fun p hp=>?_⟩
  ·obtain⟨b',eI,e⟩:=h4 _ hm;rw[hb]at e;simp at e;exact U7 (e▸eI)
  ·rcases ad6.1 hy with rfl|hy
   ·rw[hb];simp
   ·exact h3.nn y hy
  ·rcases ad6.1 hp with rfl|hp
   ·exact⟨b,by simp,hb⟩
   ·obtain⟨b',h5,h6⟩:=h4 p hp;exact⟨b',by simp[h5],h6⟩
section
variable {P:Program} {n:Nat} {s:St} {L:Ts} {Q:Exit->St->Ts->Prop} {c:Code} {T:TypeId} {G:List Nd} {M:Ts}
theorem TJ.nodes (hp:L.Perm (gT T G++M)) (h:GN G->TJ P n c Q s L):TJ P n c Q s L:=by
 intro eU w0 g0 X S g a w hR;obtain⟨S',h1,h2⟩:=hR.mu.perm hp;exact h (gl.nodes h2 (h1.nodup_iff.1 hR.nd)).1 eU w0 g0 X S g a w hR
end
section
variable {G:List Nd} {ν:List (Option Value)} {B:List IT}
theorem Rn.found (h:GR G ν B) (hn:GN G) {p:Value} {t:IT} {k:Nat} (hp:Rn G ν p t) (hx:ex B k t=true):
  ∃x∈G,x.p=p/\((x.is=ao/\hd B k t=t)\/(x.is≠ao/\∃j u,j<k/\Rn G ν x.is u/\ex B j u=true/\hd B k t=hd B j u)):=by
 cases hp with
 | @v m _ h1=>
  obtain⟨q,h2,h3⟩:=h.var _ _ h1;refine⟨_,h2,rfl,?_⟩;cases hb:bd B m with
  |none=>
   rw[hb]at h3;exact .inl ⟨h3,Et hb⟩
  |some u=>
   rw[hb]at h3;refine .inr ⟨h3.ne h hn,?_⟩;cases k with
   |zero=>simp[ex]at hx
   |succ k=>
    simp only[ex,hb]at hx;exact⟨k,u,by omega,h3,hx,Es hb⟩
 |b h1 _=>exact⟨_,h1,rfl,.inl ⟨rfl,by cases k<;>rfl⟩⟩
 |p h1 _ _ _=>exact⟨_,h1,rfl,.inl ⟨rfl,by cases k<;>rfl⟩⟩
inductive PQ (G:List Nd) (ν:List (Option Value)) (B:List IT) (p:Value):IT->Prop
 |v {m:Nat}:ν[m]? =some (some p)->bd B m=none->(⟨p,0,ao,ao,ao⟩:Nd)∈G->PQ G ν B p (.v m)
 |b {c:Int}:(⟨p,c,ao,ao,ao⟩:Nd)∈G->c≠0->PQ G ν B p (.b c)
 |p {c:Int} {a b:Value} {x y:IT}:(⟨p,c,ao,a,b⟩:Nd)∈G->c≠0->Rn G ν a x->Rn G ν b y->PQ G ν B p (.p c x y)
theorem Rn.head (h:GR G ν B) {p:Value} {t:IT} (hp:Rn G ν p t) (ht:JN B t):PQ G ν B p t:=by
 cases hp with
 | @v m _ h1=>
  obtain⟨q,h2,h3⟩:=h.var _ _ h1;rw[ht m rfl]at h3;obtain rfl:q=ao:=h3;exact .v h1 (ht m rfl) h2
 |b h1 h2=>exact .b h1 h2
 |p h1 h2 h3 h4=>exact .p h1 h2 h3 h4
theorem Rn.at_ (h:GR G ν B) {p:Value} {t:IT} (hp:Rn G ν p t):∃x∈G,x.p=p:=by
 obtain⟨x,h1,h2,_⟩:=hp.node h;exact⟨x,h1,h2⟩
end
end Go.Av
namespace Go.Av
attribute [-simp] Go.Av.bN
open Go
def sE (ν:List (Option Value)) (n:Nat):Value:=(ν[n]?.getD none).getD ao
theorem vK {ν:List (Option Value)} {n:Nat} {p:Value} (h:ν[n]? =some (some p)):sE ν n=p:=by simp[sE,h]
def tU (ν:List (Option Value)) (seen:List Nat):Prop:=∀n∈seen,ν[n]? =some (some (sE ν n))
abbrev Tn (ν:List (Option Value)) (seen:List Nat):List (List DV):=seen.map fun n=>[.raw (sE ν n)]
abbrev MW (e:TypeId) (vs:List Value):GC:=.t e 1 vs.length (vs.map fun v=>.d (.raw v))
theorem ED:∀(vs:List Value),yj (vs.map fun v=>GC.d (.raw v))=vs.map DV.raw
 |[]=>rfl
 |v::r=>by simp[yj,ED r,GC.dv]
theorem xF {α:Type}:∀(l:List α),chunks 1 l.length l=l.map fun x=>[x]
 |[]=>rfl
 |x::r=>by simp[chunks,xF r]
theorem EE:∀(vs:List Value),Bv (vs.map fun v=>GC.d (.raw v))=true
 |[]=>rfl
 |v::r=>by simp[Bv,EE r,GC.pl]
theorem Ir (e:TypeId) (vs:List Value):(MW e vs).dv=.sl (vs.map fun v=>[.raw v])/\(MW e vs).pl=true:=by
 refine⟨?_,by simp only[GC.pl];exact EE vs⟩;simp only[GC.dv,ED];have:=xF (vs.map DV.raw);rw[List.length_map]at this;rw[this,List.map_map];rfl
structure U8 (B:List IT) (k:Nat) (t:IT) (seen:List Nat) (m:Int) (s:List UInt8) (seen':List Nat) (m':Int):Prop where
 KQ:m'+2*min 30 m<=m+1+2*min 30 m'
 lt:m<m'
 ln:seen'.length+m<=seen.length+m'
 pre:∀n∈seen,n∈seen'
 ok:m+L8 B k t<=30->s=(JU B k t seen).1/\seen'=(JU B k t seen).2/\m'=m+L8 B k t
 no:¬m+L8 B k t<=30->30<m'
section
variable {P:Program} {n:Nat} {s:St} {L Ln:Ts} {Q:Exit->St->Ts->Prop} {c:Code}
theorem TJ.tD (hn:q0 Ln) (h:TJ P n c Q s (Ln++L)):TJ P n c Q s L:=by
 intro eU w0 g0 X S g a w hR;refine h eU w0 g0 X S g a w ⟨hR.inv,hR.fr,hR.size,hR.defers,hR.slot,gl.app.2 ⟨[],S,rfl,hn.mu,hR.mu⟩,hR.nd,hR.out⟩
end
theorem bn {L:Ts} {T:TypeId}:B6 L T (.pointer none):=.inl rfl
theorem aj {L:Ts} {T:TypeId} {row:List DV} {v:Value} (h:(.n T row,v)∈L):B6 L T v:=.inr ⟨row,h⟩
end Go.Av
namespace Go.Av
open Go
section
variable {P:Program} {n:Nat} {s:St} {L:Ts} {Q:Exit->St->Ts->Prop} {c:Code}
theorem aM {id:Nat} (h:Q .ret s L):fj id Q .ret s L:=h
theorem a7 (h:Q .ret s L):nT P n c Q .ret s L:=h
theorem aS {α:Type} {St_:α->St} {Tr_:α->Ts} {m:α->Nat} {H:α->Prop} {k:Nat} (h:Q .ret s L):CW St_ Tr_ m H k Q .ret s L:=h
end
section
variable {P:Program} {n:Nat} {s:St} {L:Ts} {all:Array Oper} {ow:Nat->Bool} {ws cs ns:List Nat} {K:St->Ts->Prop} {i:Nat} {o:Oper} {rest:List Oper}
structure aT (P:Program) (s:St) (L:Ts) (o:Oper) (k:AV->Prop):Prop where
 ex:∃x,cr P s L o x/\k x
structure dQ (P:Program) (s:St) (L:Ts) (o:Oper) (k:AV->Ts->Prop):Prop where
 run:kF P s L o k
theorem aT.of {k:AV->Prop} {x:AV} (h:cr P s L o x) (hk:k x):aT P s L o k:=⟨x,h,hk⟩
theorem dQ.box {T:TypeId} {x:Operand} {cells:List CV} {row:List DV} {k:AV->Ts->Prop} (ho:o.op=.box T x) (hx:bw s x=some (.agg cells)) (ev:B0 cells=some row) (hK:∀pv,k (.c (.d (.raw pv))) ((.n T row,pv)::L)):dQ P s L o k:=⟨kF.box ho hx ev hK⟩
theorem dQ.call {k:AV->Ts->Prop} (h:bN P s L o k):dQ P s L o k:=⟨kF.call h⟩
theorem pC {y z:Prop} (hg:o.guard=none) (h:y):ib all s o y z:=by unfold ib;rw[hg];exact h
theorem cN (hg:o.guard=none) (h:aT P s L o fun x=>jP P n all ow K (i+1) rest (s.put o.dst x s.V s.A) L):jP P n all ow K i (o::rest) s L:=by
 obtain⟨x,h3,h4⟩:=h.ex;exact bK (pC hg trivial) h3 h4
theorem dM (hg:o.guard=none) (h:dQ P s L o fun x L'=>jP P n all ow K (i+1) rest (s.put o.dst x s.V s.A) L'):jP P n all ow K i (o::rest) s L:=jm (pC hg trivial) h.run
theorem tV (hi:cs.contains i=false) (hn:ns.contains i=true) (h:ib all s o (aT P s L o fun x=>iJ P all ow ws cs ns K (i+1) rest (s.put o.dst x s.V s.A) L) (iJ P all ow ws cs ns K (i+1) rest (s.put o.dst (.c .undef) s.V s.A) L)):iJ P all ow ws cs ns K i (o::rest) s L:=
 ⟨nf (fun h=>by
  obtain⟨x,h3,h4⟩:=h.ex;exact .inr (.inl ⟨by simpa using hi,by simpa using hn,x,h3,h4.run⟩)) (fun h=>h.run) h⟩
theorem fO (hg:o.guard=none) (hi:cs.contains i=false) (hn:ns.contains i=true) (h:aT P s L o fun x=>iJ P all ow ws cs ns K (i+1) rest (s.put o.dst x s.V s.A) L):iJ P all ow ws cs ns K i (o::rest) s L:=
 tV hi hn (pC hg h)
theorem jq (hi:cs.contains i=true) (h:ib all s o (dQ P s L o fun x L'=>iJ P all ow ws cs ns K (i+1) rest (s.put o.dst x s.V s.A) L') (iJ P all ow ws cs ns K (i+1) rest (s.put o.dst (.c .undef) s.V s.A) L)):iJ P all ow ws cs ns K i (o::rest) s L:=
 ⟨nf (fun h=>.inl ⟨by simpa using hi,h.run.map fun x L' h=>h.run⟩) (fun h=>h.run) h⟩
theorem gD (hg:o.guard=none) (hi:cs.contains i=true) (h:dQ P s L o fun x L'=>iJ P all ow ws cs ns K (i+1) rest (s.put o.dst x s.V s.A) L'):iJ P all ow ws cs ns K i (o::rest) s L:=
 jq hi (pC hg h)
@[congr] theorem Mj {k:AV->Prop} {s':St} (h:s=s'):aT P s L o k=aT P s' L o k:=by rw[h]
@[congr] theorem MX {k:AV->Ts->Prop} {s':St} (h:s=s'):dQ P s L o k=dQ P s' L o k:=by rw[h]
end
theorem xG (s:List UInt8) (d c:UInt8):∀p,p<=s.length->eT (s++[d]) c p=eT s c p
 |0,_=>rfl
 |p+1,h=>by
  simp only[eT];rw[aeb (by omega),xG s d c p (by omega)]
theorem DA (s:List UInt8) (d c:UInt8):dC (s++[d]) c=if d=c then(s.length:Int)else dC s c:=by
 simp only[dC,aek,aej,List.length_nil,aeo,eT];rw[aef (aen _),xG s d c _ (aen _)];simp
def J4 (ns:List UInt8) (ts:List IT) (c:UInt8):Option IT:=if 0<=dC ns c then ts[(dC ns c).toNat]? else none
theorem J5 (c:UInt8):J4 [] [] c=none:=by simp[J4,dC,eT]
theorem J6 {ns:List UInt8} {ts:List IT} (d c:UInt8) (t:IT) (h:ts.length=ns.length):J4 (ns++[d]) (ts++[t]) c=if d=c then some t else J4 ns ts c:=by
 simp only[J4,DA];by_cases e:d=c
 ·rw[if_pos e,if_pos e,if_pos (by omega)];rw[aef (by omega)];simp[h]
 ·rw[if_neg e,if_neg e];have hb:=nJ ns c ns.length;split
  ·rename_i h0;have:(dC ns c).toNat<ts.length:=by simp only[dC]at h0⊢;omega
   rw[aeb this]
  ·rfl
structure Sn where
 p:Value
 c:UInt8
 t:Value
 up:Value
def sT (T:TypeId) (S:List Sn):Ts:=S.map fun x=>(.n T [.str [x.c],.raw x.t,.raw x.up],x.p)
@[simp] theorem EF {T:TypeId} {S:List Sn} (x:Sn):sT T (x::S)=(.n T [.str [x.c],.raw x.t,.raw x.up],x.p)::sT T S:=rfl
theorem Ml {T:TypeId} {S:List Sn} {x:Sn} (h:x∈S):(.n T [.str [x.c],.raw x.t,.raw x.up],x.p)∈sT T S:=aea.2 ⟨x,h,rfl⟩
inductive Sc (S:List Sn) (G:List Nd) (ν:List (Option Value)):Value->List UInt8->List IT->Prop
 |nil:Sc S G ν ao [] []
 |snoc {q:Value} {c:UInt8} {v up:Value} {ns:List UInt8} {ts:List IT} {t:IT}:(⟨q,c,v,up⟩:Sn)∈S->Sc S G ν up ns ts->Rn G ν v t->Sc S G ν q (ns++[c]) (ts++[t])
theorem Sc.len {S:List Sn} {G:List Nd} {ν:List (Option Value)} {q:Value} {ns:List UInt8} {ts:List IT} (h:Sc S G ν q ns ts):ts.length=ns.length:=by
 induction h with
 |nil=>rfl
 |snoc _ _ _ ih=>simp[ih]
theorem Sc.ge {S S':List Sn} {G G':List Nd} {ν ν':List (Option Value)} (hg:Ge G ν G' ν') (hs:∀x∈S,x∈S') {q:Value} {ns:List UInt8} {ts:List IT} (h:Sc S G ν q ns ts):Sc S' G' ν' q ns ts:=by
 induction h with
 |nil=>exact .nil
 |snoc h1 _ h3 ih=>exact .snoc (hs _ h1) ih (h3.ge hg)
def OU (L:Ts):Prop:=∀T row v,(.n T row,v)∈L->v≠ao
inductive Gm (G:List Nd) (ν:List (Option Value)):List Value->List IT->Prop
 |nil:Gm G ν [] []
 |cons {p:Value} {t:IT} {ps:List Value} {ts:List IT}:Rn G ν p t->Gm G ν ps ts->Gm G ν (p::ps) (t::ts)
theorem Gm.len {G:List Nd} {ν:List (Option Value)} {ps:List Value} {ts:List IT} (h:Gm G ν ps ts):ps.length=ts.length:=by
 induction h with
 |nil=>rfl
 |cons _ _ ih=>simp[ih]
theorem Gm.ge {G G':List Nd} {ν ν':List (Option Value)} (hg:Ge G ν G' ν') {ps:List Value} {ts:List IT} (h:Gm G ν ps ts):Gm G' ν' ps ts:=by
 induction h with
 |nil=>exact .nil
 |cons h1 _ ih=>exact .cons (h1.ge hg) ih
theorem Gm.app {G:List Nd} {ν:List (Option Value)} {ps:List Value} {ts:List IT} (h:Gm G ν ps ts) {p:Value} {t:IT} (h1:Rn G ν p t):Gm G ν (ps++[p]) (ts++[t]):=by
 induction h with
 |nil=>exact .cons h1 .nil
 |cons h2 _ ih=>exact .cons h2 ih
theorem tU.ge {G G':List Nd} {ν ν':List (Option Value)} (hg:Ge G ν G' ν') {l:List Nat} (h:tU ν l):tU ν' l/\l.map (sE ν')=l.map (sE ν):=by
 have:∀n∈l,ν'[n]? =some (some (sE ν n)):=fun n hn=>hg.vr _ _ (h n hn)
 refine⟨fun n hn=>by rw[vK (this n hn)];exact this n hn,List.map_congr_left fun n hn=>vK (this n hn)⟩
theorem tU.app {ν:List (Option Value)} {l:List Nat} (h:tU ν l) {n:Nat} {p:Value} (hp:ν[n]? =some (some p)):tU ν (l++[n]):=fun m hm=>by
 rcases aei.1 hm with hm|hm
 ·exact h m hm
 ·simp at hm;subst hm;rw[vK hp];exact hp
section
variable {P:Program} {n:Nat} {s:St} {L:Ts} {Q:Exit->St->Ts->Prop} {c:Code}
theorem TJ.OV (h:OU L->TJ P n c Q s L):TJ P n c Q s L:=by
 intro eU w0 g0 X S g a w hR;refine h (fun T row v hm=>?_) eU w0 g0 X S g a w hR;obtain⟨b,xs,rfl,_⟩:=hR.mu.node hm;simp
end
theorem sF {G:List Nd} {ν:List (Option Value)} {B:List IT} (hG:GR G ν B) {x:Nd} (hN:GN (x::G)):∀n:Nat,ν[n]? ≠some (some x.p):=fun n hn=>by
 obtain⟨q,h1,_⟩:=hG.var _ _ hn;have:=hN.nd;simp only[aee,ad9]at this;exact this.1 (aea.2 ⟨_,h1,rfl⟩)
theorem GN.tail {x:Nd} {G:List Nd} (h:GN (x::G)):GN G:=⟨(ad9.1 (by simpa using h.nd)).2,fun y hy=>h.nn y (.tail _ hy)⟩
theorem GR.FI {G:List Nd} {ν:List (Option Value)} {B:List IT} (hG:GR G ν B) (hs:sM B) {pa pb:Value} (hN:GN (⟨pb,0,ao,ao,ao⟩::⟨pa,0,ao,ao,ao⟩::G)):
  GR (⟨pb,0,ao,ao,ao⟩::⟨pa,0,ao,ao,ao⟩::G) (ν++[some pa]++[some pb]) (B++[.v B.length,.v (B.length+1)])/\Ge G ν (⟨pb,0,ao,ao,ao⟩::⟨pa,0,ao,ao,ao⟩::G) (ν++[some pa]++[some pb]):=by
 obtain⟨h1,h2⟩:=(hG.sup (G':=⟨pa,0,ao,ao,ao⟩::G) fun x hx=>by simp[hx]).J3 (p:=pa) (by simp) (sF hG hN.tail) hs;obtain⟨h3,h4⟩:=(h1.sup (G':=⟨pb,0,ao,ao,ao⟩::⟨pa,0,ao,ao,ao⟩::G) fun x hx=>aed _ hx).J3 (p:=pb) (by simp) (sF h1 hN) ((pr.one B).sc hs);refine⟨by simpa using h3,?_⟩;have g1:Ge G ν (⟨pa,0,ao,ao,ao⟩::G) ν:=Ge.sup fun x hx=>by simp[hx]
 have g2:Ge (⟨pa,0,ao,ao,ao⟩::G) (ν++[some pa]) (⟨pb,0,ao,ao,ao⟩::⟨pa,0,ao,ao,ao⟩::G) (ν++[some pa]):=Ge.sup fun x hx=>aed _ hx
 exact g1.trans (h2.trans (g2.trans h4))
theorem GR.Ld {G:List Nd} {ν:List (Option Value)} {B:List IT} (hG:GR G ν B) (hs:sM B) {po:Value} (hN:GN (⟨po,0,ao,ao,ao⟩::G)):
  GR (⟨po,0,ao,ao,ao⟩::G) (ν++[some po]++[none]) (B++[.v B.length,.v (B.length+1)])/\Ge G ν (⟨po,0,ao,ao,ao⟩::G) (ν++[some po]++[none]):=by
 obtain⟨h1,h2⟩:=(hG.sup (G':=⟨po,0,ao,ao,ao⟩::G) fun x hx=>by simp[hx]).J3 (p:=po) (by simp) (sF hG hN) hs;obtain⟨h3,h4⟩:=h1.R4;refine⟨by simpa using h3,?_⟩;have g1:Ge G ν (⟨po,0,ao,ao,ao⟩::G) ν:=Ge.sup fun x hx=>by simp[hx]
 exact g1.trans (h2.trans h4)
theorem Ao {B:List IT} (h:kE B) (n m:Nat):kE (B++[.v n,.v m]):=h.app fun u hu=>by
 simp at hu;rcases hu with rfl|rfl<;>trivial
theorem OW {α:Type} {l:List α} (h:l.length=1):∃x,l=[x]:=by
 match l,h with
 |[x],_=>exact⟨x,rfl⟩
theorem OX {α:Type} {l:List α} (h:l.length=2):∃x y,l=[x,y]:=by
 match l,h with
 |[x,y],_=>exact⟨x,y,rfl⟩
theorem OY {α:Type} {l:List α} (h:l.length=3):∃x y z,l=[x,y,z]:=by
 match l,h with
 |[x,y,z],_=>exact⟨x,y,z,rfl⟩
theorem aH.args {P:Program} {f:FuncId} {xs ys:List AV} {L:Ts} {R:AV->Ts->Prop} (h:aH P f xs L R) (hl:ys.length=xs.length)
  (hr:∀(i:Nat) x' x,ys[i]? =some x'->xs[i]? =some x->∀g w u,aR g w [] x' u->aR g w [] x u):aH P f ys L R:=
 ⟨h.1,fun g w vs S h1 h2 h3 h4 h5 h6 h7 h8 h9=>h.2 g w vs S h1 h2 h3 h4 (by rw[h5,hl]) (fun i x u hx hu=>by
  have hi:i<ys.length:=by rw[hl];exact(ad7.1 hx).1
  have fW:ys[i]? =some ys[i]:=aem hi;exact hr i _ x fW hx g w u (h6 i _ u fW hu)) h7 h8 h9⟩
theorem Mm {g:Gh} {w:World} {u:Value} (h:aR g w [] (.c .np) u):aR g w [] (.c (.d (.raw ao))) u:=by
 simp only[aR,di,bc]at h;subst h;exact⟨rfl,rfl⟩
section
variable {P:Program} {n:Nat} {s s':St} {L L':Ts} {x y:Code} {all:Array Oper} {ws cs ns:List Nat} {ow:Nat->Bool} {K:St->Ts->Prop}
theorem Cg {all':Array Oper} (p:List Nat):∀(ops:List Oper) (i:Nat) (s:St) (L:Ts),(∀o∈ops,o.guard=none)->kf P all ow ws cs ns K i ops s L->kf P all' ow ws cs ns K i (ops.map (ic p)) s L
 |[],_,_,_,_,h=>h
 |o::rest,i,s,L,hg,h=>by
  have N2:=hg o (by simp);have ih:=fun s L=>Cg (all':=all') p rest (i+1) s L (fun o ho=>hg o (by simp[ho]))
  simp only[aee,kf]at h⊢;refine pC (o:=ic p o) N2 ?_;rcases(iQ h).1 with⟨_,h1⟩|⟨h0,_⟩
  rotate_left
  ·simp[gw,N2]at h0
  rcases h1 with⟨h2,h3⟩|⟨h2,h3,x,h4,h5⟩|⟨h2,h3,h4⟩
  ·exact .inl ⟨h2,kF.map (o:=o) (fun x L' h=>ih _ _ h) h3⟩
  ·exact .inr (.inl ⟨h2,h3,x,h4,ih _ _ h5⟩)
  ·exact .inr (.inr ⟨h2,h3,fN (o:=o) (fun x V A h=>⟨h.1,ih _ _ h.2⟩) h4⟩)
theorem TJ.yn {Q:Exit->St->Ts->Prop} {id:Nat} {l:List Oper} (hm:P.follows .mixedOrders=true) (p:List Nat) (ow:Nat->Bool) (ws cs ns:List Nat) (hp:jZ l p=true) (hd:eE (bG l p).toArray ws=true) (hc:lh (bG l p).toArray ws cs ns=true)
  (h:kf P l.toArray ow ws cs ns (fun s' L'=>Q .normal s' L') 0 (ee l p) s L):TJ P n (.region id l.toArray true) Q s L:=by
 obtain⟨p1,p2,p3,p4,p5⟩:=iB hp;intro eU w0 g0 X S g a w hR;have C0:cP n (bG l p).toArray.toList=true:=by
  have hx:cP n l=true:=by simpa[codeOk]using eU
  simp only[cP,List.all_eq_true]at hx⊢;intro o' sG;obtain⟨j,hj⟩:=ael sG;obtain⟨o,q1,rfl,_⟩:=ku hp (j:=j) (o':=o') (by simpa using hj);exact hx o (aeg q1)
 have U9:∀o∈ee l p,o.guard=none:=fun o ho=>by
  obtain⟨i,hi,rfl⟩:=aea.1 ho;have:=p2 i hi;rw[List.getD_eq_getElem?_getD,aem this];exact p4 _ (List.getElem_mem this)
 obtain⟨τ,m,k1,k2,k3,k4⟩:=lS (ee l p|>.map (ic p)) 0 s L (Cg (all':=(bG l p).toArray) p _ _ _ _ U9 h);obtain⟨hI,hx⟩:=hR.inv.heap (w':={w with drawn:=w.drawn+1}) rfl;have hF:Fr w g {w with drawn:=w.drawn+1} g:=(Fr.refl hR.fr.now).heap rfl rfl rfl rfl;have hJ:Jb w0 g0 X L S g {w with drawn:=w.drawn+1}:=(Jb.mk hR.fr hR.mu hR.nd hR.out).cB hF;have eP:(bG l p).toArray.size=l.length:=by simp[da,p1]
 have vO:∀(i:Nat),(bG l p).toArray[i]? =(bG l p)[i]? :=fun i=>by simp
 refine wp_region_any hm (re hp _ _ (Array.replicate l.length false) a _ (by simp) (by simp) (fun i=>?_) (uK (K:=fun s' L'=>Q .normal s' L') (ow:=ow) hd hc C0 (fun s' L' S' g' a' w' h1 h2=>⟨s',g',L',S',h1,h2⟩) _ τ m L S _ 0 g a _ ?_ ?_ (aep _) ?_ ?_ ?_ ?_ hJ))
 ·simp only[Array.getElem?_replicate];by_cases hi:i<l.length
  ·have:=List.idxOf_lt_length_of_mem (p3 i hi);rw[if_pos (by omega),if_pos (by simpa using hi)]
  ·have N3:i∉p:=fun h=>hi (p2 i h)
   rw[if_neg (by rw[List.idxOf_eq_length N3];omega),if_neg (by simpa using hi)]
 ·refine Nat.le_trans (List.length_filter_le _ _) (by simp[da,p1])
 ·refine⟨by rw[eP,<-p1,<-da (l:=l)];exact k1,fun j o hj ho=>?_⟩;have:=(k3 j o hj (by rw[vO]at ho;exact ho)).2;simpa only[aeo]using this
 ·intro j o hj ho _;have:=(k3 j o hj (by rw[vO]at ho;exact ho)).1;simpa only[aeo]using this
 ·intro i hi;have Au:=(aer.1 hi).1;simp at Au;simp[Au]at hi
 ·rcases k4 with⟨h1,h2⟩|⟨h1,oc,h2,h4,h5,h3⟩
  ·exact .inl ⟨by rw[h1];simp[bG],h2⟩
  ·refine .inr ⟨by simpa using h1,oc,by rw[vO];exact h2,h4,h5,?_⟩;simp only[aeo]at h3;exact h3
 ·refine⟨by rw[k2];exact hI,.refl hF.now,hR.size,hR.defers,by simp[da,p1],fun i o t x ho hl=>?_,fun t x _ fW=>?_,fun i _ b4=>?_,aep _,fun i o ho hl=>?_⟩
  ·have hi:=(aer.1 hl).1;simp at hi;simp[hi]at hl
  ·rw[k2]at fW⊢;obtain⟨u,h1,h2⟩:=hR.slot t x fW;exact⟨u,h1,aR.ext hx h2⟩
  ·rw[eP]at b4;simp[b4]
  ·have hi:=(aer.1 hl).1;simp at hi;simp[hi]at hl
theorem TJ.Va {Q:Exit->St->Ts->Prop} {id:Nat} {l:List Oper} (hm:P.follows .mixedOrders=true) (p:List Nat) (ow:Nat->Bool) (ws cs ns:List Nat) (hp:jZ l p=true) (hd:eE (bG l p).toArray ws=true) (hc:lh (bG l p).toArray ws cs ns=true)
  (h:∀K:St->Ts->Prop,(∀s' L',TJ P n y Q s' L'->K s' L')->iJ P l.toArray ow ws cs ns K 0 (ee l p) s L):TJ P n (.seq (.region id l.toArray true) y) Q s L:=
 TJ.seq (TJ.yn hm p ow ws cs ns hp hd hc (h _ fun _ _ h=>h).run)
end
theorem iZ.J7 {w:World}:∀{cs:List GC} {xs:List Value} {S:List Nat} {cs':List GC} {us:List Value} {S':List Nat},iZ w cs xs S->iZ w cs' us S'->iZ w (cs++cs') (xs++us) (S++S')
 |[],xs,S,cs',us,S',h,h'=>by
  simp only[iZ]at h;obtain⟨rfl,rfl⟩:=h;simpa using h'
 |c::cs,xs,S,cs',us,S',h,h'=>by
  simp only[iZ]at h;obtain⟨x,xs',S1,S2,rfl,rfl,h1,h2⟩:=h;simp only[List.cons_append,iZ];exact⟨x,xs'++us,S1,S2++S',rfl,by simp,h1,h2.J7 h'⟩
section
variable {P:Program} {n:Nat} {s:St} {L L2:Ts} {all:Array Oper} {ow:Nat->Bool} {K:St->Ts->Prop} {i:Nat} {o:Oper} {rest:List Oper}
theorem yo {x y:Operand} {t e:TypeId} {d de:TD} {z:List CV} {m:Nat} {cs cs':List GC} {Lc:Ts} {v:Value} {u:AV} {nr:List (List DV)} (hg:o.guard=none) (ho:o.op=.call {callee:=.builtin .append,args:= #[x,y],argTypes:= #[t,t]})
  (ht:td P t=some d) (sV:d.el=some e) (he:td P e=some de) (hz:de.zero=some z) (qt:z.length=de.sz) (hx:bw s x=some (.c (.d (.raw v)))) (hy:bw s y=some u) (DK:rowsOf s.A u=some nr) (hl:∀r∈nr,r.length=de.sz)
  (vz:Mk cs' nr.flatten Lc) (hp:L.Perm ((.t e de.sz m cs,v)::(Lc++L2))) (hb:(m+nr.length)*de.kI<=140737488355328) (hm:m+nr.length<=9223372036854775807)
  (hK:∀v',jP P n all ow K (i+1) rest (s.put o.dst (.c (.d (.raw v'))) s.V s.A) ((.t e de.sz (m+nr.length) (cs++cs'),v')::L2)):jP P n all ow K i (o::rest) s L:=by
 refine⟨fun xL w0 g0 X S g a w Q hR hQ=>?_⟩;simp only[cP,List.all_cons,Bool.and_eq_true]at xL;have e5:∀d,o.dst=some d->d<n:=fun d e=>by have:=xL.1;rw[e]at this;simpa using this
 obtain⟨S0,u9,IG⟩:=hR.mu.perm hp;obtain⟨S1,S12,rfl,jT,R5⟩:=IG;obtain⟨SL,S2,rfl,NV,zO⟩:=gl.app.1 R5;simp only[Tr]at jT;obtain⟨xs,S3,c7,L9,rfl⟩:=jT;have l8:=u9.nodup_iff.1 hR.nd;have iX:=fun b hb=>hR.out b (u9.mem_iff.2 hb)
 have ax:∀b∈v.ownBlock.toList++S3++(SL++S2),b<w.heap.size:=fun b hb=>hR.mu.lt b (u9.mem_iff.2 hb)
 have hv:=aI hR.slot hx;simp only[aR,di,bc,a6]at hv;obtain⟨hv,iG⟩:=hv;have hu:=aI hR.slot hy;obtain⟨inf,hi,oH,Cw,h0⟩:=fQ he;obtain⟨zv,GD,F6⟩:=h0 z hz;have Iw:zv.cells.size=inf.size:=by have:=ig F6;simp at this;omega
 obtain⟨news,vR,uT,zp⟩:=sW hR.inv hu DK hl;have F5:news.length=nr.flatten.length:=by
  have vm:nr.flatten.length=nr.length*de.sz:=by
   clear vR zp hb hm hK DK vz;induction nr with
   |nil=>simp
   |cons r nr ih=>simp only[List.flatten_cons,aek,aej];rw[hl r (by simp),ih (fun x hx=>hl x (by simp[hx])),Nat.add_mul,Nat.one_mul,Nat.add_comm]
  rcases vR with⟨h1,h2,_⟩|⟨_,_,_,h1,_⟩
  ·rw[vm,h1,h2];simp
  ·rw[vm,h1]
 have nR:w.ownsRow 0 e inf.size v m xs:=by rw[oH];exact c7
 obtain⟨v',w',e0,sG,hc⟩:=lT (P:=P) t o.type e inf zv (mc ht sV) hi GD Iw v m xs nR (a.eval y) nr.length news (by rw[oH];exact vR) uT (by simp only[maxLen];omega) (by rw[Cw];exact hb);rw[oH]at sG;unfold wpList;rw[if_pos (by simp[Region.wanted,hg])];refine .inl ?_;unfold Oper.wp;have B5:(execOp a.eval o).run P w=.ok (.value v') w':=by
  unfold execOp;simp only[ho,resolve,invoke,Sem.run_bind,Sem.run_pure,Result.andThen_ok,List.map_toArray,aee,List.map_nil,hv];exact nQ e0
 rw[B5];have Dq:v'.oneCell'=true:=by
  rcases sG.2 with⟨rfl,_⟩|⟨b1,c1,cu1,rfl,_⟩<;>rfl
 rcases hc with⟨rfl,rfl⟩|⟨b,cs',xV,xv,rfl⟩|⟨o',xv,rfl⟩
 ·refine(hK v').run xL.2 w0 g0 X (v'.ownBlock.toList++(S3++SL)++S2) g _ _ Q (hR.put e5 (x:=.c (.d (.raw v'))) ⟨rfl,Dq⟩ hR.inv (.refl _ _ _) hR.fr ⟨_,S2,rfl,?_,zO⟩ (by simpa using l8) (fun b hb=>iX b (by simpa using hb))) hQ;simp only[Tr];exact⟨xs++news,S3++SL,sG,L9.J7 (vz.NJ F5 zp NV),rfl⟩
 ·have RE:b∈v.ownBlock.toList++S3++(SL++S2):=by simp[xV]
  obtain⟨vA,LA,OD,Tb,OE⟩:=iX b RE;have fY:∀b',b'≠b->(w.setRow b cs').heap[b']? =w.heap[b']? :=fun b' eI=>cg w b b' _ eI
  have H7:(w.setRow b cs').heap.size=w.heap.size:=by simp
  have xS:jE g.im w g.im (w.setRow b cs'):=⟨fun _=>aen _,fun b' o' F4=>by
   have cY:b'≠b:=fun e=>by subst e;omega
   exact World.cell?_of_block (a:=⟨b',o',none⟩) (fY b' cY)⟩
  have H8:Ext g w s.A g (w.setRow b cs') s.A:=⟨fun _ _ h=>h,xS,fun _ r h=>⟨r,h,rfl,aen _,fun _=>rfl⟩⟩;have OF:Inv g (w.setRow b cs') s.V s.A:=by
   refine⟨hR.inv.oe,hR.inv.lq,fun l row' b' h3 h4=>?_,fun k r u h3 h4=>?_,hR.inv.jW,hR.inv.iE,hR.inv.iM,fun b' eI=>hR.inv.fresh b' (by omega)⟩
   ·exact hR.inv.ff H8 h3 h4 (fY b' (fun e=>by subst e;exact LA (aeg h4))) (hR.inv.obj l row' b' h3 h4).1
   ·exact hR.inv.fg H8 h3 h4 (fun b' eI=>fY b' (fun e=>by subst e;exact OD (Gh.iN h4 eI))) (fun _ _=>rfl)
  have OG:vv w0 g0 X (w.setRow b cs') g:=by
   refine⟨hR.fr.os,hR.fr.tape,hR.fr.output,by rw[H7];exact hR.fr.size,fun b' q1 q2 q3 q4=>?_,hR.fr.iO,hR.fr.ob,hR.fr.ar,hR.fr.vk,hR.fr.xR,hR.fr.Bw⟩;rw[fY b' (fun e=>by
    subst e;rcases OE with q|q
    ·omega
    ·exact q4 q)]
   exact hR.fr.pF b' q1 q2 q3 q4
  have tv:(b::(S3++(SL++S2))).Nodup:=by simpa[xV]using l8
  have Aw:b∉S3++(SL++S2):=(ad9.1 tv).1;refine(hK v').run xL.2 w0 g0 X (v'.ownBlock.toList++(S3++SL)++S2) g _ _ Q (hR.put e5 (x:=.c (.d (.raw v'))) ⟨rfl,Dq⟩ OF H8 OG ⟨_,S2,rfl,?_,zO.dq fun b' eI=>fY b' (fun e=>by subst e;exact Aw (by simp[eI]))⟩ (by rw[xv];simpa using tv) fun b' eI=>iX b' (by rw[xV];rw[xv]at eI;simpa using eI)) hQ;simp only[Tr];exact⟨xs++news,S3++SL,sG,(L9.dq _ _ _ fun b' eI=>fY b' (fun e=>by subst e;exact Aw (by simp[eI]))).J7 (vz.NJ F5 (fun j q u h1 h2=>a6.ft xS q u (zp j q u h1 h2)) (NV.dq fun b' eI=>fY b' (fun e=>by subst e;exact Aw (by simp[eI])))),rfl⟩
 ·obtain⟨RF,MB⟩:=hR.inv.heap (w':=w.drew) rfl;have RG:Fr w g w.drew g:=(Fr.refl hR.fr.now).heap rfl rfl rfl rfl;obtain⟨g1,uP,e9,lu⟩:=RF.dR o' 0;have jS:=RG.dR o' 0;have MD:w.drew.heap.size=w.heap.size:=rfl;rw[<-uP]at jS;have ou:∀b∈S3++(SL++S2),b<w.heap.size:=fun b hb=>ax b (by simp only[ad8,aei]at hb⊢;exact .inr hb)
  have hold:∀b,b<w.heap.size->(w.drew.alloc o').heap[b]? =w.heap[b]? :=fun b hb=>RowKit.Below.heap_alloc w.drew o' b hb
  have Ho:(S3++(SL++S2)).Nodup:=by rw[ad8]at l8;exact(aec.1 l8).2.1
  have ug:=hR.wJ jS;refine(hK v').run xL.2 w0 g0 X (v'.ownBlock.toList++(S3++SL)++S2) g1 _ _ Q (hR.put e5 (x:=.c (.d (.raw v'))) ⟨rfl,Dq⟩ e9 (MB.trans lu) (hR.fr.fr jS) ⟨_,S2,rfl,?_,zO.dq fun b' eI=>hold b' (ou b' (by simp[eI]))⟩ ?_ fun b hb=>?_) hQ
  ·simp only[Tr];exact⟨xs++news,S3++SL,sG,(L9.dq _ _ _ fun b' eI=>hold b' (ou b' (by simp[eI]))).J7 (vz.NJ F5 (fun j q u h1 h2=>a6.ft (MB.trans lu).gr q u (zp j q u h1 h2)) (NV.dq fun b' eI=>hold b' (ou b' (by simp[eI])))),rfl⟩
  ·rw[xv,ad8,ad8];exact ad9.2 ⟨fun hm=>absurd (ou _ hm) (by omega),Ho⟩
  ·rw[xv,ad8,ad8]at hb;rcases ad6.1 hb with rfl|hb
   ·refine⟨by rw[uP];simp,fun hm=>?_,fun hm=>?_,fun hm=>?_,.inl hR.fr.size⟩
    ·rw[uP]at hm;obtain⟨l,hl⟩:=ael hm;have:=hR.inv.qN hl;omega
    ·rw[uP]at hm;obtain⟨k,v',q1,q2⟩:=Gh.fw (g:=g) (by simpa[Gh.iF]using hm);have:=hR.inv.ma q1 q2;omega
    ·have:=(hR.fr.now _ hm).1;omega
   ·exact ug.2 b (u9.mem_iff.2 (by rw[ad8];exact List.mem_append_right _ hb))
theorem TJ.Mn {Q:Exit->St->Ts->Prop} {c:Code} (t:Nat) (ht:look s.fr t=some (.c .nil)) (h:TJ P n c Q ⟨(t,.c (.d (.raw (.slice none 0 0))))::s.fr,s.V,s.A⟩ L):TJ P n c Q s L:=by
 refine TJ.conv (s':=⟨(t,.c (.d (.raw (.slice none 0 0))))::s.fr,s.V,s.A⟩) (fun g a w hR=>⟨g,hR.inv,hR.fr,hR.size,hR.defers,fun t' x hx=>?_⟩) h
 simp only[look]at hx;by_cases e:t'=t
 ·rw[if_pos e]at hx;cases hx
  subst e;obtain⟨u,h1,h2⟩:=hR.slot t' _ ht;refine⟨u,h1,?_⟩;simp only[aR,di,bc]at h2;subst h2;exact⟨rfl,rfl⟩
 ·rw[if_neg e]at hx;exact hR.slot t' x hx
end
section
variable {P:Program} {n:Nat} {s:St} {L L2:Ts} {Q:Exit->St->Ts->Prop} {cd:Code}
theorem TJ.freeze {c:GC} {v:Value} (hp:L.Perm ((c,v)::L2)) (og:c.pl=true) (t:Nat) (ht:look s.fr t=some (.c (.d (.raw v)))) (h:TJ P n cd Q ⟨(t,.c (.d c.dv))::s.fr,s.V,s.A⟩ L2):TJ P n cd Q s L:=by
 intro eU w0 g0 X S g a w hR;obtain⟨S0,u9,IG⟩:=hR.mu.perm hp;obtain⟨S1,S2,rfl,jT,zO⟩:=IG;have l8:=u9.nodup_iff.1 hR.nd;have fG:=gl.yP l8;have iX:=fun b hb=>hR.out b (u9.mem_iff.2 hb)
 let im':Nat->Nat:=fun b=>if b∈S1 then MJ w b else g.im b
 have qo:∀b,b∉S1->im' b=g.im b:=fun b hb=>by simp only[im',if_neg hb]
 have hle:∀b,g.im b<=im' b:=fun b=>by
  simp only[im'];split
  ·rename_i hb;rw[(iX b (by simp[hb])).1];exact aep _
  ·exact aen _
 have hx:Ext g w s.A {g with im:=im'} w s.A:=⟨fun _ _ h=>h,⟨hle,fun _ _ _=>rfl⟩,fun _ r h=>⟨r,h,rfl,aen _,fun _=>rfl⟩⟩;have F7:∀b∈g.ob,b∉S1:=fun b hb hm=>(iX b (by simp[hm])).2.1 hb
 have v8:∀b∈g.iF,b∉S1:=fun b hb hm=>(iX b (by simp[hm])).2.2.1 hb
 have hI:Inv {g with im:=im'} w s.V s.A:=by
  refine⟨hR.inv.oe,hR.inv.lq,fun l row b h1 h2=>?_,fun k r u h1 h2=>?_,hR.inv.jW,hR.inv.iE,hR.inv.iM,fun b hb=>?_⟩
  ·exact hR.inv.ff hx h1 h2 rfl ((qo b (F7 b (aeg h2))).trans (hR.inv.obj l row b h1 h2).1)
  ·exact hR.inv.fg hx h1 h2 (fun _ _=>rfl) (fun b hb=>qo b (v8 b (Gh.iN h2 hb)))
  ·have:b∉S1:=fun hm=>absurd (hR.mu.lt b (u9.mem_iff.2 (by simp[hm]))) (by omega)
   exact(qo b this).trans (hR.inv.fresh b hb)
 have hF:vv w0 g0 X w {g with im:=im'}:=by
  refine⟨hR.fr.os,hR.fr.tape,hR.fr.output,hR.fr.size,hR.fr.pF,fun b h1 h2 h3=>?_,hR.fr.ob,hR.fr.ar,hR.fr.vk,hR.fr.xR,hR.fr.Bw⟩;have:b∉S1:=fun hm=>by
   rcases(iX b (by simp[hm])).2.2.2.2 with q|q
   ·omega
   ·exact h3 q
  exact(qo b this).trans (hR.fr.iO b h1 h2 h3)
 refine h eU w0 g0 X S2 {g with im:=im'} a w ⟨hI,hF,hR.size,hR.defers,fun t' x fW=>?_,zO,(aec.1 l8).2.1,fun b hb=>?_⟩
 ·simp only[look]at fW;by_cases e:t'=t
  ·rw[if_pos e]at fW;cases fW
   subst e;obtain⟨u,h1,h2⟩:=hR.slot t' _ ht;refine⟨u,h1,?_⟩;simp only[aR,di,bc,a6]at h2;obtain⟨rfl,_⟩:=h2;exact Tr.rep c _ S1 og jT fun b hb=>by simp[im',hb]
  ·rw[if_neg e]at fW;obtain⟨u,h1,h2⟩:=hR.slot t' x fW;exact⟨u,h1,aR.ext hx h2⟩
 ·obtain⟨q1,q2,q3,q4,q5⟩:=iX b (by simp[hb]);exact⟨(qo b (fun hm=>fG b hm hb)).trans q1,q2,q3,q4,q5⟩
end
section
variable {P:Program} {f:FuncId} {xs:List AV}
theorem jA.R6 {g:Gh} {w:World} {S:List Nat} {L:Ts} {A:List bu} {x y:AV} (h:jA L x y) (hS:∀b∈S,g.im b=0) (hT:gl w L S) {u:Value} (hr:di g w A x u):di (u7 g w S) w [] y u:=by
 cases h with
 |c h=>exact jA.rep (.c h) hS hT (show aR g w A (.c _) u from hr)
 |agg h=>exact jA.rep (.agg h) hS hT (show aR g w A (.agg _) u from hr)
theorem aH.data {ys:List AV} {R:AV->Ts->Prop} (h:aH P f xs [] R) (hR:∀r L',R r L'->∃zs,r=.aZ zs/\dj L' zs ys):ah P f xs [] (.aZ ys) [] []:=by
 refine⟨h.1,aen _,fun g w vs h2 hI hT hl hr=>?_⟩;have h1:g.ob=[]:=List.length_eq_zero_iff.1 (by simpa using hI.oe);refine(h.2 g w vs [] h1 h2 hI hT hl hr rfl aeh (by simp)).mono ?_;rintro e w' ⟨v,r,L',S',rfl,gg,Lw,Jn,l8,b4,ho,ht,gd,eP,yc⟩;obtain⟨zs,rfl,hz⟩:=hR r L' gg;have hS:∀b∈S',w.heap.size<=b:=fun b hb=>by
  rcases b4 b hb with q|q
  ·cases q
  ·exact q
 have Mu:∀b∈S',g.im b=0:=fun b hb=>hI.fresh b (hS b hb)
 have OZ:∀b,b∉S'->(u7 g w' S').im b=g.im b:=fun b hb=>by simp only[u7,if_neg hb]
 have xM:Inv (u7 g w' S') w' [] []:=⟨rfl,rfl,fun l row b h=>by simp at h,fun k r v h=>by simp at h,fun l l' b h=>by simp[u7]at h,fun k k' v v' b h=>by simp[u7]at h,fun l k v b h=>by simp[u7]at h,fun b hb=>by
  have:b∉S':=fun h=>absurd (Jn.lt b h) (by omega)
  rw[OZ b this];exact hI.fresh b (by omega)⟩
 refine⟨v,u7 g w' S',rfl,?_,xM,⟨ho,ht,gd,eP,fun b hb _ _=>yc b hb (by simp),fun b hb _=>OZ b (fun hm=>by have:=hS b hm;omega),⟨[],by simp[u7,h1],by simp⟩,fun k v b h=>by simp[u7]at h,fun k v h=>by rw[h2]at h;simp at h,hT⟩⟩;obtain⟨us,e1,e2,e3⟩:=Lw g w' [];refine⟨us,e1,by rw[e2,hz.len],fun i y u q1 q2=>?_⟩;obtain⟨x,q3,q4⟩:=hz.at_ q1;exact q4.R6 Mu Jn (e3 i x u q3 q2)
end
end Go.Av
