/- A part. -/
import Derived.Test.YtloolmchekcmeaaGreatXF31
set_option linter.unusedVariables false
set_option linter.unusedSimpArgs false
open List renaming mem_cons->adG,getElem?_eq_some_iff->adH,append_assoc->adI,nodup_cons->adJ,mem_map->adK,getElem?_append_left->adL,nodup_append->adM,mem_cons_of_mem->adN,map_cons->adO,getElem?_append_right->adP,mem_of_getElem?->adQ,nodup_nil->adR,mem_append->adS,length_cons->adT,length_append->adU,getElem?_of_mem->adV,getElem?_eq_getElem->adW
open Nat renaming le_refl->adX,zero_add->adY,zero_le->adZ,lt_or_ge->ad0
open Array renaming getElem?_eq_some_iff->ad1
namespace Go.Av
attribute [-simp] Go.Av.ch Go.Av.eY Go.Av.fw Go.Av.fi Go.Av.cY Go.Av.cb
open Go
structure Nd where
 p:Value
 k:Int
 is:Value
 a:Value
 b:Value
abbrev au:Value:=.pointer none
abbrev Nd.row (x:Nd):List DV:=[.i x.k,.raw x.is,.raw x.a,.raw x.b]
def Vp (T:TypeId) (x:Nd):GC×Value:=(.n T x.row,x.p)
def gT (T:TypeId) (G:List Nd):Ts:=G.map (Vp T)
theorem My {T:TypeId} {G:List Nd} {x:Nd} (h:x∈G):(.n T [.i x.k,.raw x.is,.raw x.a,.raw x.b],x.p)∈gT T G:=adK.2 ⟨x,h,rfl⟩
theorem Kq {T:TypeId} {G H:List Nd} (h:G.Perm H):(gT T G).Perm (gT T H):=h.map _
@[simp] theorem Qb {T:TypeId} {G:List Nd} (x:Nd):gT T (x::G)=(.n T [.i x.k,.raw x.is,.raw x.a,.raw x.b],x.p)::gT T G:=rfl
structure GN (G:List Nd):Prop where
 nd:(G.map Nd.p).Nodup
 nn:∀x∈G,x.p≠au
theorem GN.uniq {G:List Nd} (h:GN G) {x y:Nd} (hx:x∈G) (hy:y∈G) (e:x.p=y.p):x=y:=by
 have key:∀(l:List Nd),(l.map Nd.p).Nodup->x∈l->y∈l->x=y:=by
  intro l;induction l with
  |nil=>intro _ hx;cases hx
  |cons z l ih=>
   intro hn hx hy;simp only[adO,adJ]at hn;rcases adG.1 hx with e1|dB
   ·rcases adG.1 hy with e2|N9
    ·rw[e1,e2]
    ·exact absurd (adK.2 ⟨y,N9,by rw[<-e,e1]⟩) hn.1
   ·rcases adG.1 hy with e2|N9
    ·exact absurd (adK.2 ⟨x,dB,by rw[e,e2]⟩) hn.1
    ·exact ih hn.2 dB N9
 exact key G h.nd hx hy
inductive Rn (G:List Nd) (ν:List (Option Value)):Value->IT->Prop
 |v {n:Nat} {p:Value}:ν[n]? =some (some p)->Rn G ν p (.v n)
 |b {p:Value} {k:Int}:(⟨p,k,au,au,au⟩:Nd)∈G->k≠0->Rn G ν p (.b k)
 |p {p:Value} {k:Int} {a b:Value} {x y:IT}:(⟨p,k,au,a,b⟩:Nd)∈G->k≠0->Rn G ν a x->Rn G ν b y->Rn G ν p (.p k x y)
def Qc (G:List Nd) (ν:List (Option Value)) (q:Value):Option IT->Prop
 |none=>q=au
 |some t=>Rn G ν q t
structure GR (G:List Nd) (ν:List (Option Value)) (B:List IT):Prop where
 len:ν.length=B.length
 inj:∀(n m:Nat) p,ν[n]? =some (some p)->ν[m]? =some (some p)->n=m
 var:∀(n:Nat) p,ν[n]? =some (some p)->∃q,(⟨p,0,q,au,au⟩:Nd)∈G/\Qc G ν q (bd B n)
structure Ge (G:List Nd) (ν:List (Option Value)) (G':List Nd) (ν':List (Option Value)):Prop where
 nd:∀x∈G,x.k≠0->x∈G'
 vr:∀(n:Nat) p,ν[n]? =some (some p)->ν'[n]? =some (some p)
theorem Ge.refl (G:List Nd) (ν:List (Option Value)):Ge G ν G ν:=⟨fun _ h _=>h,fun _ _ h=>h⟩
theorem Ge.trans {G G' G'':List Nd} {ν ν' ν'':List (Option Value)} (h:Ge G ν G' ν') (h':Ge G' ν' G'' ν''):Ge G ν G'' ν'':=⟨fun x hx hk=>h'.nd x (h.nd x hx hk) hk,fun n p hp=>h'.vr n p (h.vr n p hp)⟩
theorem Ge.sup {G G':List Nd} {ν:List (Option Value)} (h:∀x∈G,x∈G'):Ge G ν G' ν:=⟨fun x hx _=>h x hx,fun _ _ h=>h⟩
theorem Rn.ge {G G':List Nd} {ν ν':List (Option Value)} (h:Ge G ν G' ν') {p:Value} {t:IT} (hr:Rn G ν p t):Rn G' ν' p t:=by
 induction hr with
 |v h1=>exact .v (h.vr _ _ h1)
 |b h1 h2=>exact .b (h.nd _ h1 h2) h2
 |p h1 h2 _ _ i1 i2=>exact .p (h.nd _ h1 h2) h2 i1 i2
theorem Qc.ge {G G':List Nd} {ν ν':List (Option Value)} (h:Ge G ν G' ν') {q:Value}:∀{o:Option IT},Qc G ν q o->Qc G' ν' q o
 |none,hr=>hr
 |some _,hr=>Rn.ge h hr
section
variable {G G':List Nd} {ν ν':List (Option Value)} {B:List IT}
theorem GR.sup (h:GR G ν B) (hs:∀x∈G,x∈G'):GR G' ν B:=⟨h.len,h.inj,fun n p hp=>by
 obtain⟨q,h1,h2⟩:=h.var n p hp;exact⟨q,hs _ h1,h2.ge (Ge.sup hs)⟩⟩
theorem GR.nil:GR [] [] []:=⟨rfl,fun n m p h=>by simp at h,fun n p h=>by simp at h⟩
theorem Rn.node (h:GR G ν B) {p:Value} {t:IT} (hr:Rn G ν p t):∃x∈G,x.p=p/\x.k=t.kind:=by
 cases hr with
 |v h1=>
  obtain⟨q,h2,_⟩:=h.var _ _ h1;exact⟨_,h2,rfl,rfl⟩
 |b h1 _=>exact⟨_,h1,rfl,rfl⟩
 |p h1 _ _ _=>exact⟨_,h1,rfl,rfl⟩
theorem Rn.uniq (h:GR G ν B) (hn:GN G) {p:Value} {t u:IT} (h1:Rn G ν p t) (h2:Rn G ν p u):t=u:=by
 induction h1 generalizing u with
 |v h1=>
  obtain⟨q,g1,_⟩:=h.var _ _ h1;cases h2 with
  |v h2=>rw[h.inj _ _ _ h1 h2]
  |b h2 h3=>exact absurd (congrArg Nd.k (hn.uniq h2 g1 rfl)) h3
  |p h2 h3 _ _=>exact absurd (congrArg Nd.k (hn.uniq h2 g1 rfl)) h3
 |b h1 hk=>
  cases h2 with
  |v h2=>
   obtain⟨q,g1,_⟩:=h.var _ _ h2;exact absurd (congrArg Nd.k (hn.uniq h1 g1 rfl)) hk
  |b h2 h3=>have:=congrArg Nd.k (hn.uniq h1 h2 rfl);simp at this;rw[this]
  |p h2 h3 h4 h5=>
   have:=congrArg Nd.a (hn.uniq h1 h2 rfl);simp at this;obtain⟨x,hx,hp,_⟩:=h4.node h;rw[<-this]at hp;exact absurd hp (hn.nn x hx)
 |p h1 hk ha hb i1 i2=>
  cases h2 with
  |v h2=>
   obtain⟨q,g1,_⟩:=h.var _ _ h2;exact absurd (congrArg Nd.k (hn.uniq h1 g1 rfl)) hk
  |b h2 h3=>
   have:=congrArg Nd.a (hn.uniq h2 h1 rfl);simp at this;obtain⟨x,hx,hp,_⟩:=ha.node h;rw[<-this]at hp;exact absurd hp (hn.nn x hx)
  |p h2 h3 h4 h5=>
   have:=hn.uniq h1 h2 rfl;simp at this;obtain⟨rfl,rfl,rfl⟩:=this;rw[i1 h4,i2 h5]
theorem Rn.ne (h:GR G ν B) (hn:GN G) {p:Value} {t:IT} (h1:Rn G ν p t):p≠au:=by
 obtain⟨x,hx,rfl,_⟩:=h1.node h;exact hn.nn x hx
theorem GR.bind (h:GR G ν B) (hn:GN G) {n:Nat} {p q:Value} {t:IT} {G2:List Nd} (hp:ν[n]? =some (some p)) (hf:bd B n=none) (hG:G.Perm (⟨p,0,au,au,au⟩::G2)) (hq:Rn G ν q t) (ht:t≠.v n):
  GR (⟨p,0,q,au,au⟩::G2) ν (B.set n t)/\Ge G ν (⟨p,0,q,au,au⟩::G2) ν:=by
 have pc:Ge G ν (⟨p,0,q,au,au⟩::G2) ν:=⟨fun x hx hk=>by
  rcases adG.1 (hG.mem_iff.1 hx)with rfl|h1
  ·exact absurd rfl hk
  ·exact adN _ h1,fun _ _ h=>h⟩
 have ay:n<B.length:=by rw[<-h.len];exact(adH.1 hp).1
 refine⟨⟨by simp[h.len],h.inj,fun m p' fa=>?_⟩,pc⟩;rw[xm ay ht];by_cases e:m=n
 ·subst e;rw[hp]at fa;simp at fa;subst fa;rw[if_pos rfl];exact⟨q,by simp,hq.ge pc⟩
 ·rw[if_neg e];obtain⟨q',h1,h2⟩:=h.var m p' fa;refine⟨q',?_,h2.ge pc⟩;rcases adG.1 (hG.mem_iff.1 h1)with h3|h3
  ·simp at h3;exact absurd (h.inj m n p (h3.1▸fa) hp) e
  ·exact adN _ h3
theorem GR.Kr (h:GR G ν B) {p:Value} (hp:(⟨p,0,au,au,au⟩:Nd)∈G) (hn:∀n:Nat,ν[n]? ≠some (some p)) (hs:s8 B):GR G (ν++[some p]) (B++[.v B.length])/\Ge G ν G (ν++[some p]):=by
 have pc:Ge G ν G (ν++[some p]):=⟨fun _ h _=>h,fun n q hq=>by rw[adL (adH.1 hq).1];exact hq⟩;have dm:∀(n:Nat) q,(ν++[some p])[n]? =some (some q)->ν[n]? =some (some q)\/(n=B.length/\q=p):=fun n q hq=>by
  rcases ad0 n ν.length with h1|h1
  ·rw[adL h1]at hq;exact .inl hq
  ·rw[adP h1]at hq;have h0:n-ν.length=0:=by
    have:=(adH.1 hq).1;simp at this;omega
   rw[h0]at hq;simp at hq;exact .inr ⟨by rw[<-h.len];omega,hq.symm⟩
 refine⟨⟨by simp[h.len],fun n m q h1 h2=>?_,fun n q h1=>?_⟩,pc⟩
 ·rcases dm n q h1 with h3|⟨h3,h4⟩<;>rcases dm m q h2 with h5|⟨h5,h6⟩
  ·exact h.inj n m q h3 h5
  ·subst h6;exact absurd h3 (hn n)
  ·subst h4;exact absurd h5 (hn m)
  ·omega
 ·rcases dm n q h1 with h3|⟨h3,h4⟩
  ·obtain⟨q',h5,h6⟩:=h.var n q h3;refine⟨q',h5,?_⟩;rw[xq _ (by rw[<-h.len];exact(adH.1 h3).1)];exact h6.ge pc
  ·subst h3;subst h4;exact⟨au,hp,by rw[DF];rfl⟩
theorem GR.Si (h:GR G ν B):GR G (ν++[none]) (B++[.v B.length])/\Ge G ν G (ν++[none]):=by
 have pc:Ge G ν G (ν++[none]):=⟨fun _ h _=>h,fun n q hq=>by rw[adL (adH.1 hq).1];exact hq⟩;have dm:∀(n:Nat) q,(ν++[none])[n]? =some (some q)->ν[n]? =some (some q):=fun n q hq=>by
  rcases ad0 n ν.length with h1|h1
  ·rw[adL h1]at hq;exact hq
  ·rw[adP h1]at hq;have h0:n-ν.length=0:=by
    have:=(adH.1 hq).1;simp at this;omega
   rw[h0]at hq;simp at hq
 refine⟨⟨by simp[h.len],fun n m q h1 h2=>h.inj n m q (dm n q h1) (dm m q h2),fun n q h1=>?_⟩,pc⟩;obtain⟨q',h5,h6⟩:=h.var n q (dm n q h1);refine⟨q',h5,?_⟩;rw[xq _ (by rw[<-h.len];exact(adH.1 (dm n q h1)).1)];exact h6.ge pc
end
theorem iI.nodes {w:World} {T:TypeId}:∀{G:List Nd} {M:Ts} {S:List Nat},iI w (gT T G++M) S->S.Nodup->GN G/\∀p∈G.map Nd.p,∃b∈S,p=.pointer (some ⟨b,0,none⟩)
 |[],M,S,_,_=>⟨⟨adR,fun x hx=>by cases hx⟩,fun p hp=>by cases hp⟩
 |x::G,M,S,h,hn=>by
  obtain⟨S1,S2,rfl,h1,h2⟩:=h;simp only[Tr]at h1;obtain⟨b,xs,hb,_,_,_,rfl⟩:=h1;have Gu:S2.Nodup:=(adM.1 hn).2.1;obtain⟨h3,h4⟩:=iI.nodes (G:=G) (M:=M) h2 Gu;have Vq:b∉S2:=fun hm=>(adM.1 hn).2.2 b (by simp) b hm rfl
  refine⟨⟨adJ.2 ⟨fun hm=>?_,h3.nd⟩,fun y hy=>?_⟩,fun p hp=>?_⟩
  ·obtain⟨b',eV,e⟩:=h4 _ hm;rw[hb]at e;simp at e;exact Vq (e▸eV)
  ·rcases adG.1 hy with rfl|hy
   ·rw[hb];simp
   ·exact h3.nn y hy
  ·rcases adG.1 hp with rfl|hp
   ·exact⟨b,by simp,hb⟩
   ·obtain⟨b',h5,h6⟩:=h4 p hp;exact⟨b',by simp[h5],h6⟩
section
variable {P:Program} {n:Nat} {s:St} {L:Ts} {Q:Exit->St->Ts->Prop} {c:Code} {T:TypeId} {G:List Nd} {M:Ts}
theorem TJ.nodes (hp:L.Perm (gT T G++M)) (h:GN G->TJ P n c Q s L):TJ P n c Q s L:=by
 intro eP w0 g0 X S g a w hR;obtain⟨S',h1,h2⟩:=hR.nF.perm hp;exact h (iI.nodes h2 (h1.nodup_iff.1 hR.nd)).1 eP w0 g0 X S g a w hR
end
section
variable {G:List Nd} {ν:List (Option Value)} {B:List IT}
theorem Rn.found (h:GR G ν B) (hn:GN G) {p:Value} {t:IT} {k:Nat} (hp:Rn G ν p t) (hx:ex B k t=true):
  ∃x∈G,x.p=p/\((x.is=au/\hd B k t=t)\/(x.is≠au/\∃j u,j<k/\Rn G ν x.is u/\ex B j u=true/\hd B k t=hd B j u)):=by
 cases hp with
 | @v m _ h1=>
  obtain⟨q,h2,h3⟩:=h.var _ _ h1;refine⟨_,h2,rfl,?_⟩;cases hb:bd B m with
  |none=>
   rw[hb]at h3;exact .inl ⟨h3,EG hb⟩
  |some u=>
   rw[hb]at h3;refine .inr ⟨h3.ne h hn,?_⟩;cases k with
   |zero=>simp[ex]at hx
   |succ k=>
    simp only[ex,hb]at hx;exact⟨k,u,by omega,h3,hx,EF hb⟩
 |b h1 _=>exact⟨_,h1,rfl,.inl ⟨rfl,by cases k<;>rfl⟩⟩
 |p h1 _ _ _=>exact⟨_,h1,rfl,.inl ⟨rfl,by cases k<;>rfl⟩⟩
inductive Qd (G:List Nd) (ν:List (Option Value)) (B:List IT) (p:Value):IT->Prop
 |v {m:Nat}:ν[m]? =some (some p)->bd B m=none->(⟨p,0,au,au,au⟩:Nd)∈G->Qd G ν B p (.v m)
 |b {c:Int}:(⟨p,c,au,au,au⟩:Nd)∈G->c≠0->Qd G ν B p (.b c)
 |p {c:Int} {a b:Value} {x y:IT}:(⟨p,c,au,a,b⟩:Nd)∈G->c≠0->Rn G ν a x->Rn G ν b y->Qd G ν B p (.p c x y)
theorem Rn.head (h:GR G ν B) {p:Value} {t:IT} (hp:Rn G ν p t) (ht:Kc B t):Qd G ν B p t:=by
 cases hp with
 | @v m _ h1=>
  obtain⟨q,h2,h3⟩:=h.var _ _ h1;rw[ht m rfl]at h3;obtain rfl:q=au:=h3;exact .v h1 (ht m rfl) h2
 |b h1 h2=>exact .b h1 h2
 |p h1 h2 h3 h4=>exact .p h1 h2 h3 h4
theorem Rn.at_ (h:GR G ν B) {p:Value} {t:IT} (hp:Rn G ν p t):∃x∈G,x.p=p:=by
 obtain⟨x,h1,h2,_⟩:=hp.node h;exact⟨x,h1,h2⟩
end
end Go.Av
namespace Go.Av
attribute [-simp] Go.Av.cb
open Go
theorem xC {n:Nat}:∀{l:List Nat} {j:Nat},(∀i,i<j->l[i]? ≠some n)->l[j]? =some n->qC n l=j
 |[],j,_,h=>by simp at h
 |x::r,j,h,hj=>by
  cases j with
  |zero=>simp at hj;subst hj;simp[qC]
  |succ j=>
   have hx:x≠n:=fun e=>h 0 (by omega) (by simp[e])
   have:=xC (n:=n) (l:=r) (j:=j) (fun i hi=>by have:=h (i+1) (by omega);simpa using this) (by simpa using hj);rw[qC,if_neg hx,this]
def pY (ν:List (Option Value)) (n:Nat):Value:=(ν[n]?.getD none).getD au
theorem oC {ν:List (Option Value)} {n:Nat} {p:Value} (h:ν[n]? =some (some p)):pY ν n=p:=by simp[pY,h]
def pZ (ν:List (Option Value)) (seen:List Nat):Prop:=∀n∈seen,ν[n]? =some (some (pY ν n))
abbrev Lg (ν:List (Option Value)) (seen:List Nat):List (List DV):=seen.map fun n=>[.raw (pY ν n)]
abbrev Mz (e:TypeId) (vs:List Value):GC:=.t e 1 vs.length (vs.map fun v=>.d (.raw v))
theorem EN:∀(vs:List Value),yn (vs.map fun v=>GC.d (.raw v))=vs.map DV.raw
 |[]=>rfl
 |v::r=>by simp[yn,EN r,GC.dv]
theorem xD {α:Type}:∀(l:List α),chunks 1 l.length l=l.map fun x=>[x]
 |[]=>rfl
 |x::r=>by simp[chunks,xD r]
theorem EO:∀(vs:List Value),BD (vs.map fun v=>GC.d (.raw v))=true
 |[]=>rfl
 |v::r=>by simp[BD,EO r,GC.pl]
theorem DT (e:TypeId) (vs:List Value):(Mz e vs).dv=.sl (vs.map fun v=>[.raw v])/\(Mz e vs).pl=true:=by
 refine⟨?_,by simp only[GC.pl];exact EO vs⟩;simp only[GC.dv,EN];have:=xD (vs.map DV.raw);rw[List.length_map]at this;rw[this,List.map_map];rfl
theorem MA {L:Ts} {e:TypeId} {vs:List Value} {v:Value} (h:(Mz e vs,v)∈L):iq L (.d (.raw v)) (.d (.sl (vs.map fun v=>[.raw v]))):=iq.jv h (DT e vs)
structure Ay (B:List IT) (k:Nat) (t:IT) (seen:List Nat) (m:Int) (s:List UInt8) (seen':List Nat) (m':Int):Prop where
 Ko:m'+2*min 30 m<=m+1+2*min 30 m'
 lt:m<m'
 ln:seen'.length+m<=seen.length+m'
 pre:∀n∈seen,n∈seen'
 ok:m+qB B k t<=30->s=(vB B k t seen).1/\seen'=(vB B k t seen).2/\m'=m+qB B k t
 no:¬m+qB B k t<=30->30<m'
theorem Ay.Sj {B:List IT} {k:Nat} {t:IT} {seen:List Nat} {m:Int} (h:30<=m) (s:List UInt8):Ay B k t seen m s seen (m+1):=by
 have:=EB (B:=B) (k:=k) (t:=t);exact⟨by omega,by omega,by omega,fun _ h=>h,fun h=>by omega,fun _=>by omega⟩
theorem Ay.free {B:List IT} {k n:Nat} {seen:List Nat} {m:Int} (hb:bd B n=none) (hx:ex B k (.v n)=true) (h:m<30):Ay B k (.v n) seen m [Kk (qC n seen)] (if n∈seen then seen else seen++[n]) (m+1):=by
 cases k with
 |zero=>simp[ex]at hx
 |succ k=>
  have h1:qB B (k+1) (.v n)=1:=by simp[qB,hb]
  refine⟨by omega,by omega,by split<;>simp<;>omega,fun x hx=>by split<;>simp[hx],fun _=>⟨by simp[vB,hb],by simp[vB,hb],by rw[h1];rfl⟩,fun h=>by omega⟩
theorem Ay.base {B:List IT} {k:Nat} {c:Int} {seen:List Nat} {m:Int} (h:m<30):Ay B k (.b c) seen m [oM c] seen (m+1):=by
 have h1:qB B k (.b c)=1:=by cases k<;>rfl
 exact⟨by omega,by omega,by omega,fun _ h=>h,fun _=>⟨by cases k<;>rfl,by cases k<;>rfl,by rw[h1];rfl⟩,fun h=>by omega⟩
theorem Ay.two {B:List IT} {k j:Nat} {c:Int} {x y:IT} {seen s1 s2:List Nat} {m m1 m2:Int} {a b:List UInt8} (hx:ex B k (.p c x y)=true) (hj:j<k) (x1:ex B j x=true) (x2:ex B j y=true) (h:m<30)
  (h1:Ay B j x seen (m+1) a s1 m1) (h2:Ay B j y s1 m1 b s2 m2):Ay B k (.p c x y) seen m (40::(a++oM c::(b++[41]))) s2 m2:=by
 cases k with
 |zero=>omega
 |succ k=>
  have e1:qB B (k+1) (.p c x y)=1+qB B j x+qB B j y:=by simp only[qB];rw[gM x1 (by omega),gM x2 (by omega)]
  have e2:∀s,vB B k x s=vB B j x s:=fun s=>gN x1 (by omega)
  have e3:∀s,vB B k y s=vB B j y s:=fun s=>gN x2 (by omega)
  obtain⟨b1,l1,n1,p1,o1,q1⟩:=h1;obtain⟨b2,l2,n2,p2,o2,q2⟩:=h2;refine⟨by omega,by omega,by omega,fun n hn=>p2 n (p1 n hn),fun hle=>?_,fun aX=>?_⟩
  ·rw[e1]at hle;obtain⟨r1,r2,r3⟩:=o1 (by omega);obtain⟨r4,r5,r6⟩:=o2 (by omega);simp only[vB,e2,e3];refine⟨by rw[r4,r1,r2],by rw[r5,r2],by rw[e1];omega⟩
  ·rw[e1]at aX;by_cases h3:m+1+qB B j x<=30
   ·obtain⟨_,_,r3⟩:=o1 h3;exact q2 (by omega)
   ·have:=q1 h3;omega
theorem Ay.hd {B:List IT} {k:Nat} {t:IT} {seen s':List Nat} {m m':Int} {s:List UInt8} (hx:ex B k t=true) (h:Ay B k (Av.hd B k t) seen m s s' m'):Ay B k t seen m s s' m':=by
 obtain⟨h1,h2,h3,h4,h5,h6⟩:=h;rw[Ir hx]at h5 h6;rw[Is hx]at h5;exact⟨h1,h2,h3,h4,h5,h6⟩
section
variable {P:Program} {n:Nat} {s:St} {L Ln:Ts} {Q:Exit->St->Ts->Prop} {c:Code}
theorem TJ.sE (hn:rm Ln) (h:TJ P n c Q s (Ln++L)):TJ P n c Q s L:=by
 intro eP w0 g0 X S g a w hR;refine h eP w0 g0 X S g a w ⟨hR.inv,hR.fr,hR.size,hR.defers,hR.slot,iI.app.2 ⟨[],S,rfl,hn.nF,hR.nF⟩,hR.nd,hR.out⟩
end
theorem aY {L:Ts} {T:TypeId}:Cc L T (.pointer none):=.inl rfl
theorem ai {L:Ts} {T:TypeId} {row:List DV} {v:Value} (h:(.n T row,v)∈L):Cc L T v:=.inr ⟨row,h⟩
end Go.Av
namespace Go.Av
open Go
section
variable {P:Program} {n:Nat} {s:St} {L:Ts} {Q:Exit->St->Ts->Prop} {c:Code}
theorem aK {id:Nat} (h:Q .ret s L):fF id Q .ret s L:=h
theorem aV (h:Q .ret s L):oK P n c Q .ret s L:=h
theorem aO {α:Type} {St_:α->St} {Tr_:α->Ts} {m:α->Nat} {H:α->Prop} {k:Nat} (h:Q .ret s L):Dd St_ Tr_ m H k Q .ret s L:=h
end
section
variable {P:Program} {n:Nat} {s:St} {L:Ts} {all:Array Oper} {ow:Nat->Bool} {ws cs ns:List Nat} {K:St->Ts->Prop} {i:Nat} {o:Oper} {rest:List Oper}
structure aN (P:Program) (s:St) (L:Ts) (o:Oper) (k:AV->Prop):Prop where
 ex:∃x,bW P s L o x/\k x
structure dU (P:Program) (s:St) (L:Ts) (o:Oper) (k:AV->Ts->Prop):Prop where
 run:lp P s L o k
theorem aN.of {k:AV->Prop} {x:AV} (h:bW P s L o x) (hk:k x):aN P s L o k:=⟨x,h,hk⟩
theorem dU.box {T:TypeId} {x:Operand} {cells:List CV} {row:List DV} {k:AV->Ts->Prop} (ho:o.op=.box T x) (hx:bH s x=some (.agg cells)) (ef:Ca cells=some row) (hK:∀pv,k (.c (.d (.raw pv))) ((.n T row,pv)::L)):dU P s L o k:=⟨lp.box ho hx ef hK⟩
theorem dU.call {k:AV->Ts->Prop} (h:cb P s L o k):dU P s L o k:=⟨lp.call h⟩
theorem p7 {y z:Prop} (hg:o.guard=none) (h:y):iA all s o y z:=by unfold iA;rw[hg];exact h
theorem b6 (hg:o.guard=none) (h:aN P s L o fun x=>kC P n all ow K (i+1) rest (s.put o.dst x s.V s.A) L):kC P n all ow K i (o::rest) s L:=by
 obtain⟨x,h3,h4⟩:=h.ex;exact bP (p7 hg trivial) h3 h4
theorem dK (hg:o.guard=none) (h:dU P s L o fun x L'=>kC P n all ow K (i+1) rest (s.put o.dst x s.V s.A) L'):kC P n all ow K i (o::rest) s L:=jR (p7 hg trivial) h.run
theorem uj (hi:cs.contains i=false) (hn:ns.contains i=true) (h:iA all s o (aN P s L o fun x=>jm P all ow ws cs ns K (i+1) rest (s.put o.dst x s.V s.A) L) (jm P all ow ws cs ns K (i+1) rest (s.put o.dst (.c .undef) s.V s.A) L)):jm P all ow ws cs ns K i (o::rest) s L:=
 ⟨nS (fun h=>by
  obtain⟨x,h3,h4⟩:=h.ex;exact .inr (.inl ⟨by simpa using hi,by simpa using hn,x,h3,h4.run⟩)) (fun h=>h.run) h⟩
theorem fH (hg:o.guard=none) (hi:cs.contains i=false) (hn:ns.contains i=true) (h:aN P s L o fun x=>jm P all ow ws cs ns K (i+1) rest (s.put o.dst x s.V s.A) L):jm P all ow ws cs ns K i (o::rest) s L:=
 uj hi hn (p7 hg h)
theorem jU (hi:cs.contains i=true) (h:iA all s o (dU P s L o fun x L'=>jm P all ow ws cs ns K (i+1) rest (s.put o.dst x s.V s.A) L') (jm P all ow ws cs ns K (i+1) rest (s.put o.dst (.c .undef) s.V s.A) L)):jm P all ow ws cs ns K i (o::rest) s L:=
 ⟨nS (fun h=>.inl ⟨by simpa using hi,h.run.map fun x L' h=>h.run⟩) (fun h=>h.run) h⟩
theorem gj (hg:o.guard=none) (hi:cs.contains i=true) (h:dU P s L o fun x L'=>jm P all ow ws cs ns K (i+1) rest (s.put o.dst x s.V s.A) L'):jm P all ow ws cs ns K i (o::rest) s L:=
 jU hi (p7 hg h)
@[congr] theorem MB {k:AV->Prop} {s':St} (h:s=s'):aN P s L o k=aN P s' L o k:=by rw[h]
@[congr] theorem Ni {k:AV->Ts->Prop} {s':St} (h:s=s'):dU P s L o k=dU P s' L o k:=by rw[h]
end
theorem xE (s:List UInt8) (d c:UInt8):∀p,p<=s.length->e6 (s++[d]) c p=e6 s c p
 |0,_=>rfl
 |p+1,h=>by
  simp only[e6];rw[adL (by omega),xE s d c p (by omega)]
theorem DU (s:List UInt8) (d c:UInt8):dT (s++[d]) c=if d=c then(s.length:Int)else dT s c:=by
 simp only[dT,adU,adT,List.length_nil,adY,e6];rw[adP (adX _),xE s d c _ (adX _)];simp
def Ks (ns:List UInt8) (ts:List IT) (c:UInt8):Option IT:=if 0<=dT ns c then ts[(dT ns c).toNat]? else none
theorem Kt (c:UInt8):Ks [] [] c=none:=by simp[Ks,dT,e6]
theorem Ku {ns:List UInt8} {ts:List IT} (d c:UInt8) (t:IT) (h:ts.length=ns.length):Ks (ns++[d]) (ts++[t]) c=if d=c then some t else Ks ns ts c:=by
 simp only[Ks,DU];by_cases e:d=c
 ·rw[if_pos e,if_pos e,if_pos (by omega)];rw[adP (by omega)];simp[h]
 ·rw[if_neg e,if_neg e];have hb:=ou ns c ns.length;split
  ·rename_i h0;have:(dT ns c).toNat<ts.length:=by simp only[dT]at h0⊢;omega
   rw[adL this]
  ·rfl
structure Sn where
 p:Value
 c:UInt8
 t:Value
 up:Value
def sT (T:TypeId) (S:List Sn):Ts:=S.map fun x=>(.n T [.str [x.c],.raw x.t,.raw x.up],x.p)
@[simp] theorem EP {T:TypeId} {S:List Sn} (x:Sn):sT T (x::S)=(.n T [.str [x.c],.raw x.t,.raw x.up],x.p)::sT T S:=rfl
theorem MC {T:TypeId} {S:List Sn} {x:Sn} (h:x∈S):(.n T [.str [x.c],.raw x.t,.raw x.up],x.p)∈sT T S:=adK.2 ⟨x,h,rfl⟩
inductive Sc (S:List Sn) (G:List Nd) (ν:List (Option Value)):Value->List UInt8->List IT->Prop
 |nil:Sc S G ν au [] []
 |snoc {q:Value} {c:UInt8} {v up:Value} {ns:List UInt8} {ts:List IT} {t:IT}:(⟨q,c,v,up⟩:Sn)∈S->Sc S G ν up ns ts->Rn G ν v t->Sc S G ν q (ns++[c]) (ts++[t])
theorem Sc.len {S:List Sn} {G:List Nd} {ν:List (Option Value)} {q:Value} {ns:List UInt8} {ts:List IT} (h:Sc S G ν q ns ts):ts.length=ns.length:=by
 induction h with
 |nil=>rfl
 |snoc _ _ _ ih=>simp[ih]
theorem Sc.ge {S S':List Sn} {G G':List Nd} {ν ν':List (Option Value)} (hg:Ge G ν G' ν') (hs:∀x∈S,x∈S') {q:Value} {ns:List UInt8} {ts:List IT} (h:Sc S G ν q ns ts):Sc S' G' ν' q ns ts:=by
 induction h with
 |nil=>exact .nil
 |snoc h1 _ h3 ih=>exact .snoc (hs _ h1) ih (h3.ge hg)
def Pq (L:Ts):Prop:=∀T row v,(.n T row,v)∈L->v≠au
inductive Gz (G:List Nd) (ν:List (Option Value)):List Value->List IT->Prop
 |nil:Gz G ν [] []
 |cons {p:Value} {t:IT} {ps:List Value} {ts:List IT}:Rn G ν p t->Gz G ν ps ts->Gz G ν (p::ps) (t::ts)
theorem Gz.len {G:List Nd} {ν:List (Option Value)} {ps:List Value} {ts:List IT} (h:Gz G ν ps ts):ps.length=ts.length:=by
 induction h with
 |nil=>rfl
 |cons _ _ ih=>simp[ih]
theorem Gz.ge {G G':List Nd} {ν ν':List (Option Value)} (hg:Ge G ν G' ν') {ps:List Value} {ts:List IT} (h:Gz G ν ps ts):Gz G' ν' ps ts:=by
 induction h with
 |nil=>exact .nil
 |cons h1 _ ih=>exact .cons (h1.ge hg) ih
theorem Gz.app {G:List Nd} {ν:List (Option Value)} {ps:List Value} {ts:List IT} (h:Gz G ν ps ts) {p:Value} {t:IT} (h1:Rn G ν p t):Gz G ν (ps++[p]) (ts++[t]):=by
 induction h with
 |nil=>exact .cons h1 .nil
 |cons h2 _ ih=>exact .cons h2 ih
theorem pZ.ge {G G':List Nd} {ν ν':List (Option Value)} (hg:Ge G ν G' ν') {l:List Nat} (h:pZ ν l):pZ ν' l/\l.map (pY ν')=l.map (pY ν):=by
 have:∀n∈l,ν'[n]? =some (some (pY ν n)):=fun n hn=>hg.vr _ _ (h n hn)
 refine⟨fun n hn=>by rw[oC (this n hn)];exact this n hn,List.map_congr_left fun n hn=>oC (this n hn)⟩
theorem pZ.app {ν:List (Option Value)} {l:List Nat} (h:pZ ν l) {n:Nat} {p:Value} (hp:ν[n]? =some (some p)):pZ ν (l++[n]):=fun m hm=>by
 rcases adS.1 hm with hm|hm
 ·exact h m hm
 ·simp at hm;subst hm;rw[oC hp];exact hp
section
variable {P:Program} {n:Nat} {s:St} {L:Ts} {Q:Exit->St->Ts->Prop} {c:Code}
theorem TJ.Pr (h:Pq L->TJ P n c Q s L):TJ P n c Q s L:=by
 intro eP w0 g0 X S g a w hR;refine h (fun T row v hm=>?_) eP w0 g0 X S g a w hR;obtain⟨b,xs,rfl,_⟩:=hR.nF.node hm;simp
end
theorem sW {G:List Nd} {ν:List (Option Value)} {B:List IT} (hG:GR G ν B) {x:Nd} (hN:GN (x::G)):∀n:Nat,ν[n]? ≠some (some x.p):=fun n hn=>by
 obtain⟨q,h1,_⟩:=hG.var _ _ hn;have:=hN.nd;simp only[adO,adJ]at this;exact this.1 (adK.2 ⟨_,h1,rfl⟩)
theorem GN.tail {x:Nd} {G:List Nd} (h:GN (x::G)):GN G:=⟨(adJ.1 (by simpa using h.nd)).2,fun y hy=>h.nn y (.tail _ hy)⟩
theorem GR.FY {G:List Nd} {ν:List (Option Value)} {B:List IT} (hG:GR G ν B) (hs:s8 B) {pa pb:Value} (hN:GN (⟨pb,0,au,au,au⟩::⟨pa,0,au,au,au⟩::G)):
  GR (⟨pb,0,au,au,au⟩::⟨pa,0,au,au,au⟩::G) (ν++[some pa]++[some pb]) (B++[.v B.length,.v (B.length+1)])/\Ge G ν (⟨pb,0,au,au,au⟩::⟨pa,0,au,au,au⟩::G) (ν++[some pa]++[some pb]):=by
 obtain⟨h1,h2⟩:=(hG.sup (G':=⟨pa,0,au,au,au⟩::G) fun x hx=>by simp[hx]).Kr (p:=pa) (by simp) (sW hG hN.tail) hs;obtain⟨h3,h4⟩:=(h1.sup (G':=⟨pb,0,au,au,au⟩::⟨pa,0,au,au,au⟩::G) fun x hx=>adN _ hx).Kr (p:=pb) (by simp) (sW h1 hN) ((pU.one B).sc hs);refine⟨by simpa using h3,?_⟩;have g1:Ge G ν (⟨pa,0,au,au,au⟩::G) ν:=Ge.sup fun x hx=>by simp[hx]
 have g2:Ge (⟨pa,0,au,au,au⟩::G) (ν++[some pa]) (⟨pb,0,au,au,au⟩::⟨pa,0,au,au,au⟩::G) (ν++[some pa]):=Ge.sup fun x hx=>adN _ hx
 exact g1.trans (h2.trans (g2.trans h4))
theorem GR.E7 {G:List Nd} {ν:List (Option Value)} {B:List IT} (hG:GR G ν B) (hs:s8 B) {po:Value} (hN:GN (⟨po,0,au,au,au⟩::G)):
  GR (⟨po,0,au,au,au⟩::G) (ν++[some po]++[none]) (B++[.v B.length,.v (B.length+1)])/\Ge G ν (⟨po,0,au,au,au⟩::G) (ν++[some po]++[none]):=by
 obtain⟨h1,h2⟩:=(hG.sup (G':=⟨po,0,au,au,au⟩::G) fun x hx=>by simp[hx]).Kr (p:=po) (by simp) (sW hG hN) hs;obtain⟨h3,h4⟩:=h1.Si;refine⟨by simpa using h3,?_⟩;have g1:Ge G ν (⟨po,0,au,au,au⟩::G) ν:=Ge.sup fun x hx=>by simp[hx]
 exact g1.trans (h2.trans h4)
theorem Az {B:List IT} (h:kY B) (n m:Nat):kY (B++[.v n,.v m]):=h.app fun u hu=>by
 simp at hu;rcases hu with rfl|rfl<;>trivial
theorem Ps {α:Type} {l:List α} (h:l.length=1):∃x,l=[x]:=by
 match l,h with
 |[x],_=>exact⟨x,rfl⟩
theorem Pt {α:Type} {l:List α} (h:l.length=2):∃x y,l=[x,y]:=by
 match l,h with
 |[x,y],_=>exact⟨x,y,rfl⟩
theorem Pu {α:Type} {l:List α} (h:l.length=3):∃x y z,l=[x,y,z]:=by
 match l,h with
 |[x,y,z],_=>exact⟨x,y,z,rfl⟩
theorem aT.args {P:Program} {f:FuncId} {xs ys:List AV} {L:Ts} {R:AV->Ts->Prop} (h:aT P f xs L R) (hl:ys.length=xs.length)
  (hr:∀(i:Nat) x' x,ys[i]? =some x'->xs[i]? =some x->∀g w u,aW g w [] x' u->aW g w [] x u):aT P f ys L R:=
 ⟨h.1,fun g w vs S h1 h2 h3 h4 h5 h6 h7 h8 h9=>h.2 g w vs S h1 h2 h3 h4 (by rw[h5,hl]) (fun i x u hx hu=>by
  have hi:i<ys.length:=by rw[hl];exact(adH.1 hx).1
  have gD:ys[i]? =some ys[i]:=adW hi;exact hr i _ x gD hx g w u (h6 i _ u gD hu)) h7 h8 h9⟩
theorem MD {g:Gh} {w:World} {u:Value} (h:aW g w [] (.c .np) u):aW g w [] (.c (.d (.raw au))) u:=by
 simp only[aW,dL,br]at h;subst h;exact⟨rfl,rfl⟩
section
variable {P:Program} {n:Nat} {s s':St} {L L':Ts} {x y:Code} {all:Array Oper} {ws cs ns:List Nat} {ow:Nat->Bool} {K:St->Ts->Prop}
theorem Cm {all':Array Oper} (p:List Nat):∀(ops:List Oper) (i:Nat) (s:St) (L:Ts),(∀o∈ops,o.guard=none)->kZ P all ow ws cs ns K i ops s L->kZ P all' ow ws cs ns K i (ops.map (iQ p)) s L
 |[],_,_,_,_,h=>h
 |o::rest,i,s,L,hg,h=>by
  have Oy:=hg o (by simp);have ih:=fun s L=>Cm (all':=all') p rest (i+1) s L (fun o ho=>hg o (by simp[ho]))
  simp only[adO,kZ]at h⊢;refine p7 (o:=iQ p o) Oy ?_;rcases(fT h).1 with⟨_,h1⟩|⟨h0,_⟩
  rotate_left
  ·simp[gw,Oy]at h0
  rcases h1 with⟨h2,h3⟩|⟨h2,h3,x,h4,h5⟩|⟨h2,h3,h4⟩
  ·exact .inl ⟨h2,lp.map (o:=o) (fun x L' h=>ih _ _ h) h3⟩
  ·exact .inr (.inl ⟨h2,h3,x,h4,ih _ _ h5⟩)
  ·exact .inr (.inr ⟨h2,h3,gg (o:=o) (fun x V A h=>⟨h.1,ih _ _ h.2⟩) h4⟩)
theorem TJ.yv {Q:Exit->St->Ts->Prop} {id:Nat} {l:List Oper} (hm:P.follows .mixedOrders=true) (p:List Nat) (ow:Nat->Bool) (ws cs ns:List Nat) (hp:kP l p=true) (hd:ey (bR l p).toArray ws=true) (hc:lN (bR l p).toArray ws cs ns=true)
  (h:kZ P l.toArray ow ws cs ns (fun s' L'=>Q .normal s' L') 0 (eJ l p) s L):TJ P n (.region id l.toArray true) Q s L:=by
 obtain⟨p1,p2,p3,p4,p5⟩:=jg hp;intro eP w0 g0 X S g a w hR;have Df:da n (bR l p).toArray.toList=true:=by
  have hx:da n l=true:=by simpa[codeOk]using eP
  simp only[da,List.all_eq_true]at hx⊢;intro o' sY;obtain⟨j,hj⟩:=adV sY;obtain⟨o,q1,rfl,_⟩:=lj hp (j:=j) (o':=o') (by simpa using hj);exact hx o (adQ q1)
 have Vr:∀o∈eJ l p,o.guard=none:=fun o ho=>by
  obtain⟨i,hi,rfl⟩:=adK.1 ho;have:=p2 i hi;rw[List.getD_eq_getElem?_getD,adW this];exact p4 _ (List.getElem_mem this)
 obtain⟨τ,m,k1,k2,k3,k4⟩:=mj (eJ l p|>.map (iQ p)) 0 s L (Cm (all':=(bR l p).toArray) p _ _ _ _ Vr h);obtain⟨hI,hx⟩:=hR.inv.heap (w':={w with drawn:=w.drawn+1}) rfl;have hF:Fr w g {w with drawn:=w.drawn+1} g:=(Fr.refl hR.fr.now).heap rfl rfl rfl rfl;have hJ:Jb w0 g0 X L S g {w with drawn:=w.drawn+1}:=(Jb.mk hR.fr hR.nF hR.nd hR.out).cU hF;have fB:(bR l p).toArray.size=l.length:=by simp[du,p1]
 have vS:∀(i:Nat),(bR l p).toArray[i]? =(bR l p)[i]? :=fun i=>by simp
 refine wp_region_any hm (rv hp _ _ (Array.replicate l.length false) a _ (by simp) (by simp) (fun i=>?_) (u9 (K:=fun s' L'=>Q .normal s' L') (ow:=ow) hd hc Df (fun s' L' S' g' a' w' h1 h2=>⟨s',g',L',S',h1,h2⟩) _ τ m L S _ 0 g a _ ?_ ?_ (adZ _) ?_ ?_ ?_ ?_ hJ))
 ·simp only[Array.getElem?_replicate];by_cases hi:i<l.length
  ·have:=List.idxOf_lt_length_of_mem (p3 i hi);rw[if_pos (by omega),if_pos (by simpa using hi)]
  ·have Oz:i∉p:=fun h=>hi (p2 i h)
   rw[if_neg (by rw[List.idxOf_eq_length Oz];omega),if_neg (by simpa using hi)]
 ·refine Nat.le_trans (List.length_filter_le _ _) (by simp[du,p1])
 ·refine⟨by rw[fB,<-p1,<-du (l:=l)];exact k1,fun j o hj ho=>?_⟩;have:=(k3 j o hj (by rw[vS]at ho;exact ho)).2;simpa only[adY]using this
 ·intro j o hj ho _;have:=(k3 j o hj (by rw[vS]at ho;exact ho)).1;simpa only[adY]using this
 ·intro i hi;have AF:=(ad1.1 hi).1;simp at AF;simp[AF]at hi
 ·rcases k4 with⟨h1,h2⟩|⟨h1,oc,h2,h4,h5,h3⟩
  ·exact .inl ⟨by rw[h1];simp[bR],h2⟩
  ·refine .inr ⟨by simpa using h1,oc,by rw[vS];exact h2,h4,h5,?_⟩;simp only[adY]at h3;exact h3
 ·refine⟨by rw[k2];exact hI,.refl hF.now,hR.size,hR.defers,by simp[du,p1],fun i o t x ho hl=>?_,fun t x _ gD=>?_,fun i _ b8=>?_,adZ _,fun i o ho hl=>?_⟩
  ·have hi:=(ad1.1 hl).1;simp at hi;simp[hi]at hl
  ·rw[k2]at gD⊢;obtain⟨u,h1,h2⟩:=hR.slot t x gD;exact⟨u,h1,aW.ext hx h2⟩
  ·rw[fB]at b8;simp[b8]
  ·have hi:=(ad1.1 hl).1;simp at hi;simp[hi]at hl
theorem TJ.Vs {Q:Exit->St->Ts->Prop} {id:Nat} {l:List Oper} (hm:P.follows .mixedOrders=true) (p:List Nat) (ow:Nat->Bool) (ws cs ns:List Nat) (hp:kP l p=true) (hd:ey (bR l p).toArray ws=true) (hc:lN (bR l p).toArray ws cs ns=true)
  (h:∀K:St->Ts->Prop,(∀s' L',TJ P n y Q s' L'->K s' L')->jm P l.toArray ow ws cs ns K 0 (eJ l p) s L):TJ P n (.seq (.region id l.toArray true) y) Q s L:=
 TJ.seq (TJ.yv hm p ow ws cs ns hp hd hc (h _ fun _ _ h=>h).run)
end
theorem kN.Kv {w:World}:∀{cs:List GC} {xs:List Value} {S:List Nat} {cs':List GC} {us:List Value} {S':List Nat},kN w cs xs S->kN w cs' us S'->kN w (cs++cs') (xs++us) (S++S')
 |[],xs,S,cs',us,S',h,h'=>by
  simp only[kN]at h;obtain⟨rfl,rfl⟩:=h;simpa using h'
 |c::cs,xs,S,cs',us,S',h,h'=>by
  simp only[kN]at h;obtain⟨x,xs',S1,S2,rfl,rfl,h1,h2⟩:=h;simp only[List.cons_append,kN];exact⟨x,xs'++us,S1,S2++S',rfl,by simp,h1,h2.Kv h'⟩
section
variable {P:Program} {n:Nat} {s:St} {L L2:Ts} {all:Array Oper} {ow:Nat->Bool} {K:St->Ts->Prop} {i:Nat} {o:Oper} {rest:List Oper}
theorem yw {x y:Operand} {t e:TypeId} {d de:TD} {z:List CV} {m:Nat} {cs cs':List GC} {Lc:Ts} {v:Value} {u:AV} {nr:List (List DV)} (hg:o.guard=none) (ho:o.op=.call {callee:=.builtin .append,args:= #[x,y],argTypes:= #[t,t]})
  (ht:td P t=some d) (tq:d.el=some e) (he:td P e=some de) (hz:de.zero=some z) (qG:z.length=de.sz) (hx:bH s x=some (.c (.d (.raw v)))) (hy:bH s y=some u) (D4:rowsOf s.A u=some nr) (hl:∀r∈nr,r.length=de.sz)
  (HF:Mk cs' nr.flatten Lc) (hp:L.Perm ((.t e de.sz m cs,v)::(Lc++L2))) (hb:(m+nr.length)*de.lR<=140737488355328) (hm:m+nr.length<=9223372036854775807)
  (hK:∀v',kC P n all ow K (i+1) rest (s.put o.dst (.c (.d (.raw v'))) s.V s.A) ((.t e de.sz (m+nr.length) (cs++cs'),v')::L2)):kC P n all ow K i (o::rest) s L:=by
 refine⟨fun vD w0 g0 X S g a w Q hR hQ=>?_⟩;simp only[da,List.all_cons,Bool.and_eq_true]at vD;have fc:∀d,o.dst=some d->d<n:=fun d e=>by have:=vD.1;rw[e]at this;simpa using this
 obtain⟨S0,vu,I5⟩:=hR.nF.perm hp;obtain⟨S1,S12,rfl,lT,Sk⟩:=I5;obtain⟨SL,S2,rfl,Sl,zW⟩:=iI.app.1 Sk;simp only[Tr]at lT;obtain⟨xs,S3,dQ,Mp,rfl⟩:=lT;have oU:=vu.nodup_iff.1 hR.nd;have jC:=fun b hb=>hR.out b (vu.mem_iff.2 hb)
 have ay:∀b∈v.ownBlock.toList++S3++(SL++S2),b<w.heap.size:=fun b hb=>hR.nF.lt b (vu.mem_iff.2 hb)
 have hv:=aL hR.slot hx;simp only[aW,dL,br,bn]at hv;obtain⟨hv,kJ⟩:=hv;have hu:=aL hR.slot hy;obtain⟨inf,hi,pg,CG,h0⟩:=gm he;obtain⟨zv,GS,Gr⟩:=h0 z hz;have IM:zv.cells.size=inf.size:=by have:=iV Gr;simp at this;omega
 obtain⟨news,vX,vk,zD⟩:=tt hR.inv hu D4 hl;have Gq:news.length=nr.flatten.length:=by
  have xK:nr.flatten.length=nr.length*de.sz:=by
   clear vX zD hb hm hK D4 HF;induction nr with
   |nil=>simp
   |cons r nr ih=>simp only[List.flatten_cons,adU,adT];rw[hl r (by simp),ih (fun x hx=>hl x (by simp[hx])),Nat.add_mul,Nat.one_mul,Nat.add_comm]
  rcases vX with⟨h1,h2,_⟩|⟨_,_,_,h1,_⟩
  ·rw[xK,h1,h2];simp
  ·rw[xK,h1]
 have yB:w.ownsRow 0 e inf.size v m xs:=by rw[pg];exact dQ
 obtain⟨v',w',fC,sY,hc⟩:=mo (P:=P) t o.type e inf zv (mQ ht tq) hi GS IM v m xs yB (a.eval y) nr.length news (by rw[pg];exact vX) vk (by simp only[maxLen];omega) (by rw[CG];exact hb);rw[pg]at sY;unfold wpList;rw[if_pos (by simp[Region.wanted,hg])];refine .inl ?_;unfold Oper.wp;have Cb:(execOp a.eval o).run P w=.ok (.value v') w':=by
  unfold execOp;simp only[ho,resolve,invoke,Sem.run_bind,Sem.run_pure,Result.andThen_ok,List.map_toArray,adO,List.map_nil,hv];exact oF fC
 rw[Cb];have DK:v'.oneCell'=true:=by
  rcases sY.2 with⟨rfl,_⟩|⟨b1,c1,cu1,rfl,_⟩<;>rfl
 rcases hc with⟨rfl,rfl⟩|⟨b,cs',AD,xy,rfl⟩|⟨o',xy,rfl⟩
 ·refine(hK v').run vD.2 w0 g0 X (v'.ownBlock.toList++(S3++SL)++S2) g _ _ Q (hR.put fc (x:=.c (.d (.raw v'))) ⟨rfl,DK⟩ hR.inv (.refl _ _ _) hR.fr ⟨_,S2,rfl,?_,zW⟩ (by simpa using oU) (fun b hb=>jC b (by simpa using hb))) hQ;simp only[Tr];exact⟨xs++news,S3++SL,sY,Mp.Kv (HF.PZ Gq zD Sl),rfl⟩
 ·have R3:b∈v.ownBlock.toList++S3++(SL++S2):=by simp[AD]
  obtain⟨uR,JH,O8,TG,O9⟩:=jC b R3;have gB:∀b',b'≠b->(w.setRow b cs').heap[b']? =w.heap[b']? :=fun b' eV=>cC w b b' _ eV
  have Iu:(w.setRow b cs').heap.size=w.heap.size:=by simp
  have xW:j7 g.im w g.im (w.setRow b cs'):=⟨fun _=>adX _,fun b' o' Gn=>by
   have di:b'≠b:=fun e=>by subst e;omega
   exact World.cell?_of_block (a:=⟨b',o',none⟩) (gB b' di)⟩
  have Iv:Ext g w s.A g (w.setRow b cs') s.A:=⟨fun _ _ h=>h,xW,fun _ r h=>⟨r,h,rfl,adX _,fun _=>rfl⟩⟩;have Pa:Inv g (w.setRow b cs') s.V s.A:=by
   refine⟨hR.inv.oT,hR.inv.lQ,fun l row' b' h3 h4=>?_,fun k r u h3 h4=>?_,hR.inv.kH,hR.inv.jj,hR.inv.jr,fun b' eV=>hR.inv.fresh b' (by omega)⟩
   ·exact hR.inv.fx Iv h3 h4 (gB b' (fun e=>by subst e;exact JH (adQ h4))) (hR.inv.obj l row' b' h3 h4).1
   ·exact hR.inv.fy Iv h3 h4 (fun b' eV=>gB b' (fun e=>by subst e;exact O8 (Gh.jX h4 eV))) (fun _ _=>rfl)
  have Pb:wR w0 g0 X (w.setRow b cs') g:=by
   refine⟨hR.fr.os,hR.fr.tape,hR.fr.output,by rw[Iu];exact hR.fr.size,fun b' q1 q2 q3 q4=>?_,hR.fr.js,hR.fr.ob,hR.fr.ar,hR.fr.vO,hR.fr.xV,hR.fr.BE⟩;rw[gB b' (fun e=>by
    subst e;rcases O9 with q|q
    ·omega
    ·exact q4 q)]
   exact hR.fr.qE b' q1 q2 q3 q4
  have yo:(b::(S3++(SL++S2))).Nodup:=by simpa[AD]using oU
  have zn:b∉S3++(SL++S2):=(adJ.1 yo).1;refine(hK v').run vD.2 w0 g0 X (v'.ownBlock.toList++(S3++SL)++S2) g _ _ Q (hR.put fc (x:=.c (.d (.raw v'))) ⟨rfl,DK⟩ Pa Iv Pb ⟨_,S2,rfl,?_,zW.dR fun b' eV=>gB b' (fun e=>by subst e;exact zn (by simp[eV]))⟩ (by rw[xy];simpa using yo) fun b' eV=>jC b' (by rw[AD];rw[xy]at eV;simpa using eV)) hQ;simp only[Tr];exact⟨xs++news,S3++SL,sY,(Mp.dR _ _ _ fun b' eV=>gB b' (fun e=>by subst e;exact zn (by simp[eV]))).Kv (HF.PZ Gq (fun j q u h1 h2=>bn.fJ xW q u (zD j q u h1 h2)) (Sl.dR fun b' eV=>gB b' (fun e=>by subst e;exact zn (by simp[eV])))),rfl⟩
 ·obtain⟨R4,MU⟩:=hR.inv.heap (w':=w.drew) rfl;have R5:Fr w g w.drew g:=(Fr.refl hR.fr.now).heap rfl rfl rfl rfl;obtain⟨g1,vf,fj,dB⟩:=R4.ei o' 0;have kF:=R5.ei o' 0;have MW:w.drew.heap.size=w.heap.size:=rfl;rw[<-vf]at kF;have wE:∀b∈S3++(SL++S2),b<w.heap.size:=fun b hb=>ay b (by simp only[adI,adS]at hb⊢;exact .inr hb)
  have hold:∀b,b<w.heap.size->(w.drew.alloc o').heap[b]? =w.heap[b]? :=fun b hb=>RowKit.Below.heap_alloc w.drew o' b hb
  have HG:(S3++(SL++S2)).Nodup:=by rw[adI]at oU;exact(adM.1 oU).2.1
  have uC:=hR.wS kF;refine(hK v').run vD.2 w0 g0 X (v'.ownBlock.toList++(S3++SL)++S2) g1 _ _ Q (hR.put fc (x:=.c (.d (.raw v'))) ⟨rfl,DK⟩ fj (MU.trans dB) (hR.fr.fr kF) ⟨_,S2,rfl,?_,zW.dR fun b' eV=>hold b' (wE b' (by simp[eV]))⟩ ?_ fun b hb=>?_) hQ
  ·simp only[Tr];exact⟨xs++news,S3++SL,sY,(Mp.dR _ _ _ fun b' eV=>hold b' (wE b' (by simp[eV]))).Kv (HF.PZ Gq (fun j q u h1 h2=>bn.fJ (MU.trans dB).gr q u (zD j q u h1 h2)) (Sl.dR fun b' eV=>hold b' (wE b' (by simp[eV])))),rfl⟩
  ·rw[xy,adI,adI];exact adJ.2 ⟨fun hm=>absurd (wE _ hm) (by omega),HG⟩
  ·rw[xy,adI,adI]at hb;rcases adG.1 hb with rfl|hb
   ·refine⟨by rw[vf];simp,fun hm=>?_,fun hm=>?_,fun hm=>?_,.inl hR.fr.size⟩
    ·rw[vf]at hm;obtain⟨l,hl⟩:=adV hm;have:=hR.inv.qU hl;omega
    ·rw[vf]at hm;obtain⟨k,v',q1,q2⟩:=Gh.fL (g:=g) (by simpa[Gh.jB]using hm);have:=hR.inv.mO q1 q2;omega
    ·have:=(hR.fr.now _ hm).1;omega
   ·exact uC.2 b (vu.mem_iff.2 (by rw[adI];exact List.mem_append_right _ hb))
theorem TJ.ME {Q:Exit->St->Ts->Prop} {c:Code} (t:Nat) (ht:look s.fr t=some (.c .nil)) (h:TJ P n c Q ⟨(t,.c (.d (.raw (.slice none 0 0))))::s.fr,s.V,s.A⟩ L):TJ P n c Q s L:=by
 refine TJ.conv (s':=⟨(t,.c (.d (.raw (.slice none 0 0))))::s.fr,s.V,s.A⟩) (fun g a w hR=>⟨g,hR.inv,hR.fr,hR.size,hR.defers,fun t' x hx=>?_⟩) h
 simp only[look]at hx;by_cases e:t'=t
 ·rw[if_pos e]at hx;cases hx
  subst e;obtain⟨u,h1,h2⟩:=hR.slot t' _ ht;refine⟨u,h1,?_⟩;simp only[aW,dL,br]at h2;subst h2;exact⟨rfl,rfl⟩
 ·rw[if_neg e]at hx;exact hR.slot t' x hx
end
section
variable {P:Program} {n:Nat} {s:St} {L L2:Ts} {Q:Exit->St->Ts->Prop} {cd:Code}
theorem TJ.freeze {c:GC} {v:Value} (hp:L.Perm ((c,v)::L2)) (lZ:c.pl=true) (t:Nat) (ht:look s.fr t=some (.c (.d (.raw v)))) (h:TJ P n cd Q ⟨(t,.c (.d c.dv))::s.fr,s.V,s.A⟩ L2):TJ P n cd Q s L:=by
 intro eP w0 g0 X S g a w hR;obtain⟨S0,vu,I5⟩:=hR.nF.perm hp;obtain⟨S1,S2,rfl,lT,zW⟩:=I5;have oU:=vu.nodup_iff.1 hR.nd;have fS:=iI.yX oU;have jC:=fun b hb=>hR.out b (vu.mem_iff.2 hb)
 let im':Nat->Nat:=fun b=>if b∈S1 then M5 w b else g.im b
 have qV:∀b,b∉S1->im' b=g.im b:=fun b hb=>by simp only[im',if_neg hb]
 have hle:∀b,g.im b<=im' b:=fun b=>by
  simp only[im'];split
  ·rename_i hb;rw[(jC b (by simp[hb])).1];exact adZ _
  ·exact adX _
 have hx:Ext g w s.A {g with im:=im'} w s.A:=⟨fun _ _ h=>h,⟨hle,fun _ _ _=>rfl⟩,fun _ r h=>⟨r,h,rfl,adX _,fun _=>rfl⟩⟩;have IV:∀b∈g.ob,b∉S1:=fun b hb hm=>(jC b (by simp[hm])).2.1 hb
 have CL:∀b∈g.jB,b∉S1:=fun b hb hm=>(jC b (by simp[hm])).2.2.1 hb
 have hI:Inv {g with im:=im'} w s.V s.A:=by
  refine⟨hR.inv.oT,hR.inv.lQ,fun l row b h1 h2=>?_,fun k r u h1 h2=>?_,hR.inv.kH,hR.inv.jj,hR.inv.jr,fun b hb=>?_⟩
  ·exact hR.inv.fx hx h1 h2 rfl ((qV b (IV b (adQ h2))).trans (hR.inv.obj l row b h1 h2).1)
  ·exact hR.inv.fy hx h1 h2 (fun _ _=>rfl) (fun b hb=>qV b (CL b (Gh.jX h2 hb)))
  ·have:b∉S1:=fun hm=>absurd (hR.nF.lt b (vu.mem_iff.2 (by simp[hm]))) (by omega)
   exact(qV b this).trans (hR.inv.fresh b hb)
 have hF:wR w0 g0 X w {g with im:=im'}:=by
  refine⟨hR.fr.os,hR.fr.tape,hR.fr.output,hR.fr.size,hR.fr.qE,fun b h1 h2 h3=>?_,hR.fr.ob,hR.fr.ar,hR.fr.vO,hR.fr.xV,hR.fr.BE⟩;have:b∉S1:=fun hm=>by
   rcases(jC b (by simp[hm])).2.2.2.2 with q|q
   ·omega
   ·exact h3 q
  exact(qV b this).trans (hR.fr.js b h1 h2 h3)
 refine h eP w0 g0 X S2 {g with im:=im'} a w ⟨hI,hF,hR.size,hR.defers,fun t' x gD=>?_,zW,(adM.1 oU).2.1,fun b hb=>?_⟩
 ·simp only[look]at gD;by_cases e:t'=t
  ·rw[if_pos e]at gD;cases gD
   subst e;obtain⟨u,h1,h2⟩:=hR.slot t' _ ht;refine⟨u,h1,?_⟩;simp only[aW,dL,br,bn]at h2;obtain⟨rfl,_⟩:=h2;exact Tr.rep c _ S1 lZ lT fun b hb=>by simp[im',hb]
  ·rw[if_neg e]at gD;obtain⟨u,h1,h2⟩:=hR.slot t' x gD;exact⟨u,h1,aW.ext hx h2⟩
 ·obtain⟨q1,q2,q3,q4,q5⟩:=jC b (by simp[hb]);exact⟨(qV b (fun hm=>fS b hm hb)).trans q1,q2,q3,q4,q5⟩
end
section
variable {P:Program} {f:FuncId} {xs:List AV}
theorem s7.Sm {g:Gh} {w:World} {S:List Nat} {L:Ts} {A:List bz} {x y:AV} (h:s7 L x y) (hS:∀b∈S,g.im b=0) (hT:iI w L S) {u:Value} (hr:dL g w A x u):dL (vt g w S) w [] y u:=by
 cases h with
 |c h=>exact s7.rep (.c h) hS hT (show aW g w A (.c _) u from hr)
 |agg h=>exact s7.rep (.agg h) hS hT (show aW g w A (.agg _) u from hr)
theorem aT.data {ys:List AV} {R:AV->Ts->Prop} (h:aT P f xs [] R) (hR:∀r L',R r L'->∃zs,r=.a8 zs/\iw L' zs ys):ah P f xs [] (.a8 ys) [] []:=by
 refine⟨h.1,adX _,fun g w vs h2 hI hT hl hr=>?_⟩;have h1:g.ob=[]:=List.length_eq_zero_iff.1 (by simpa using hI.oT);refine(h.2 g w vs [] h1 h2 hI hT hl hr rfl adR (by simp)).mono ?_;rintro e w' ⟨v,r,L',S',rfl,gX,LU,JL,oU,b8,ho,ht,gG,fB,yb⟩;obtain⟨zs,rfl,hz⟩:=hR r L' gX;have hS:∀b∈S',w.heap.size<=b:=fun b hb=>by
  rcases b8 b hb with q|q
  ·cases q
  ·exact q
 have ML:∀b∈S',g.im b=0:=fun b hb=>hI.fresh b (hS b hb)
 have Pv:∀b,b∉S'->(vt g w' S').im b=g.im b:=fun b hb=>by simp only[vt,if_neg hb]
 have xL:Inv (vt g w' S') w' [] []:=⟨rfl,rfl,fun l row b h=>by simp at h,fun k r v h=>by simp at h,fun l l' b h=>by simp[vt]at h,fun k k' v v' b h=>by simp[vt]at h,fun l k v b h=>by simp[vt]at h,fun b hb=>by
  have:b∉S':=fun h=>absurd (JL.lt b h) (by omega)
  rw[Pv b this];exact hI.fresh b (by omega)⟩
 refine⟨v,vt g w' S',rfl,?_,xL,⟨ho,ht,gG,fB,fun b hb _ _=>yb b hb (by simp),fun b hb _=>Pv b (fun hm=>by have:=hS b hm;omega),⟨[],by simp[vt,h1],by simp⟩,fun k v b h=>by simp[vt]at h,fun k v h=>by rw[h2]at h;simp at h,hT⟩⟩;obtain⟨us,e1,e2,e3⟩:=LU g w' [];refine⟨us,e1,by rw[e2,hz.len],fun i y u q1 q2=>?_⟩;obtain⟨x,q3,q4⟩:=hz.at_ q1;exact q4.Sm ML JL (e3 i x u q3 q2)
end
end Go.Av
