/- A part. -/
import Derived.Test.YtloolmchekcmeaaGreatXF9
set_option linter.unusedVariables false
set_option linter.unusedSimpArgs false
open Nat renaming le_refl->ZB,zero_le->ZC,lt_trichotomy->ZD,zero_add->ZE,lt_or_ge->ZF,le_trans->ZG,strongRecOn->ZH,lt_of_lt_of_le->ZI,lt_or_eq_of_le->ZJ,le_total->ZK,add_mul->ZL
open List renaming range->ZM,all_eq_true->ZN,getElem?_eq_getElem->ZO,mem_append->ZP,getElem?_eq_some_iff->ZQ,nodup_append->ZR,zipWith->ZS,mem_range->ZT,mem_iff_getElem?->ZU,getElem?_zipIdx->ZV,getD->ZW,append_assoc->ZX,take_append_drop->ZY,mem_of_getElem?->ZZ,length_cons->Z0,idxOf_lt_length_of_mem->Z1,getElem?_of_mem->Z2,getElem?_append_right->Z3,append_nil->Z4,map_cons->Z5,length_take->Z6,length_nil->Z7,length_eq_zero_iff->Z8,getElem_idxOf->Z9,getElem?_map->aaa,zip_append->aab,zipWith_append->aac,replicate->aad,mem_filterMap->aae,mem_filter->aaf,mem_cons->aag,map_map->aah,length_map->aai,length_filter_le->aaj,idxOf_eq_length->aak,getElem?_take->aal,getElem?_append_left->aam,getD_eq_getElem?_getD->aan,eq_nil_of_length_eq_zero->aao,drop_eq_getElem_cons->aap,drop_drop->aaq,contains_eq_mem->aar
open Array renaming getElem?_eq_some_iff->aas,getElem?_eq_getElem->aat,mem_toList_iff->aau,getElem?_setIfInBounds_ne->aav,replicate->aaw,getD_eq_getD_getElem?->aax,mem_of_getElem?->aay,mem_map->aaz,getElem?_setIfInBounds->aaA,getElem?_replicate->aaB
open Bool renaming and_eq_true->aaC,or_eq_true->aaD,and_self->aaE
open Option renaming map_eq_some_iff->aaF,map_some->aaG
namespace Go.Av
open Go
section
variable {P:Program} {g g' g0:Gh} {w w' w0:World} {V V':List (List CV)} {A A':List bz}
end
inductive GC where
 |d (x:DV)
 |t (e:TypeId) (sz n:Nat) (cs:List GC)
 |b (T e:TypeId) (bs:List Value)
 |n (T:TypeId) (row:List DV)
mutual
def Tr (w:World):GC->Value->List Nat->Prop
 |.d x,v,S=>bn (fun _=>0) w x v/\S=[]
 |.t e sz n cs,v,S=>∃xs S',w.ownsRow 0 e sz v n xs/\kN w cs xs S'/\S=v.ownBlock.toList++S'
 |.b T e bs,v,S=>∃b p u,v=.pointer (some ⟨b,0,none⟩)/\w.heap[b]? =some (.cells #[p,u] T (0,0))/\(p=.pointer none\/p=v)/\w.ownsRow 0 e 1 u bs.length bs/\S=b::u.ownBlock.toList
 |.n T row,v,S=>∃b xs,v=.pointer (some ⟨b,0,none⟩)/\w.heap[b]? =some (.cells xs T (0,0))/\xs.size=row.length/\(∀(j:Nat) x u,row[j]? =some x->xs[j]? =some u->bn (fun _=>0) w x u)/\S=[b]
def kN (w:World):List GC->List Value->List Nat->Prop
 |[],xs,S=>xs=[]/\S=[]
 |c::cs,xs,S=>∃x xs' S1 S2,xs=x::xs'/\S=S1++S2/\Tr w c x S1/\kN w cs xs' S2
end
def iI (w:World):List (GC×Value)->List Nat->Prop
 |[],S=>S=[]
 |(c,v)::L,S=>∃S1 S2,S=S1++S2/\Tr w c v S1/\iI w L S2
theorem bn.zero {w w':World} {x:DV} {v:Value} {im:Nat->Nat} (h:bn (fun _=>0) w x v):bn im w' x v:=
 bn.fJ (im:=fun _=>0) (w:=w) ⟨fun _=>ZC _,fun _ _ ho=>absurd ho (Nat.not_lt_zero _)⟩ x v h
mutual
theorem Tr.dR {w w':World}:∀(c:GC) (v:Value) (S:List Nat),(∀b∈S,w'.heap[b]? =w.heap[b]?)->Tr w c v S->Tr w' c v S
 |.d x,v,S,_,h=>by simp only[Tr]at h⊢;exact⟨h.1.zero,h.2⟩
 |.t e sz n cs,v,S,hk,h=>by
  simp only[Tr]at h⊢;obtain⟨xs,S',h1,h2,rfl⟩:=h;exact⟨xs,S',nH h1 (fun b hb=>hk b (by simp[hb])),kN.dR cs xs S' (fun b hb=>hk b (by simp[hb])) h2,rfl⟩
 |.b T e bs,v,S,hk,h=>by
  simp only[Tr]at h⊢;obtain⟨b,p,u,rfl,h1,h2,h3,rfl⟩:=h;exact⟨b,p,u,rfl,(hk b (by simp)).trans h1,h2,nH h3 (fun x hx=>hk x (by simp[hx])),rfl⟩
 |.n T row,v,S,hk,h=>by
  simp only[Tr]at h⊢;obtain⟨b,xs,rfl,h1,h2,h3,rfl⟩:=h;exact⟨b,xs,rfl,(hk b (by simp)).trans h1,h2,fun j x u h4 h5=>(h3 j x u h4 h5).zero,rfl⟩
theorem kN.dR {w w':World}:∀(cs:List GC) (xs:List Value) (S:List Nat),(∀b∈S,w'.heap[b]? =w.heap[b]?)->kN w cs xs S->kN w' cs xs S
 |[],xs,S,_,h=>by simp only[kN]at h⊢;exact h
 |c::cs,xs,S,hk,h=>by
  simp only[kN]at h⊢;obtain⟨x,xs',S1,S2,rfl,rfl,h1,h2⟩:=h;exact⟨x,xs',S1,S2,rfl,rfl,Tr.dR c x S1 (fun b hb=>hk b (by simp[hb])) h1,kN.dR cs xs' S2 (fun b hb=>hk b (by simp[hb])) h2⟩
end
theorem iI.dR {w w':World}:∀{L:List (GC×Value)} {S:List Nat},(∀b∈S,w'.heap[b]? =w.heap[b]?)->iI w L S->iI w' L S
 |[],S,_,h=>h
 |(c,v)::L,S,hk,h=>by
  obtain⟨S1,S2,rfl,h1,h2⟩:=h;exact⟨S1,S2,rfl,Tr.dR c v S1 (fun b hb=>hk b (by simp[hb])) h1,iI.dR (fun b hb=>hk b (by simp[hb])) h2⟩
mutual
theorem Tr.lt {w:World}:∀(c:GC) (v:Value) (S:List Nat),Tr w c v S->∀b∈S,b<w.heap.size
 |.d x,v,S,h,b,hb=>by simp only[Tr]at h;rw[h.2]at hb;cases hb
 |.t e sz n cs,v,S,h,b,hb=>by
  simp only[Tr]at h;obtain⟨xs,S',h1,h2,rfl⟩:=h;rcases ZP.1 hb with h3|h3
  ·exact(h1.lt b (by simpa using h3)).2
  ·exact kN.lt cs xs S' h2 b h3
 |.b T e bs,v,S,h,x,hx=>by
  simp only[Tr]at h;obtain⟨b,p,u,rfl,h1,h2,h3,rfl⟩:=h;rcases aag.1 hx with rfl|hx
  ·exact(aas.1 h1).1
  ·exact(h3.lt x (by simpa using hx)).2
 |.n T row,v,S,h,x,hx=>by
  simp only[Tr]at h;obtain⟨b,xs,rfl,h1,h2,h3,rfl⟩:=h;rw[List.mem_singleton]at hx;subst hx;exact(aas.1 h1).1
theorem kN.lt {w:World}:∀(cs:List GC) (xs:List Value) (S:List Nat),kN w cs xs S->∀b∈S,b<w.heap.size
 |[],xs,S,h,b,hb=>by simp only[kN]at h;rw[h.2]at hb;cases hb
 |c::cs,xs,S,h,b,hb=>by
  simp only[kN]at h;obtain⟨x,xs',S1,S2,rfl,rfl,h1,h2⟩:=h;rcases ZP.1 hb with h3|h3
  ·exact Tr.lt c x S1 h1 b h3
  ·exact kN.lt cs xs' S2 h2 b h3
end
theorem iI.lt {w:World}:∀{L:List (GC×Value)} {S:List Nat},iI w L S->∀b∈S,b<w.heap.size
 |[],S,h,b,hb=>by simp only[iI]at h;rw[h]at hb;cases hb
 |(c,v)::L,S,h,b,hb=>by
  obtain⟨S1,S2,rfl,h1,h2⟩:=h;rcases ZP.1 hb with h3|h3
  ·exact Tr.lt c v S1 h1 b h3
  ·exact iI.lt h2 b h3
theorem iI.app {w:World}:∀{L M:List (GC×Value)} {S:List Nat},iI w (L++M) S↔∃S1 S2,S=S1++S2/\iI w L S1/\iI w M S2
 |[],M,S=>by
  simp only[List.nil_append,iI];constructor
  ·intro h;exact⟨[],S,rfl,rfl,h⟩
  ·rintro⟨_,S2,rfl,rfl,h⟩;exact h
 |(c,v)::L,M,S=>by
  simp only[List.cons_append,iI,iI.app (L:=L)];constructor
  ·rintro⟨S1,S2,rfl,h1,S3,S4,rfl,h2,h3⟩;exact⟨S1++S3,S4,by simp,⟨S1,S3,rfl,h1,h2⟩,h3⟩
  ·rintro⟨S1,S2,rfl,⟨S3,S4,rfl,h1,h2⟩,h3⟩;exact⟨S3,S4++S2,by simp,h1,S4,S2,rfl,h2,h3⟩
theorem iI.perm {w:World} {L M:List (GC×Value)} (hp:L.Perm M):∀{S:List Nat},iI w L S->∃S',S.Perm S'/\iI w M S':=by
 induction hp with
 |nil=>exact fun h=>⟨_,.refl _,h⟩
 |cons x _ ih=>
  obtain⟨c,v⟩:=x;rintro S ⟨S1,S2,rfl,h1,h2⟩;obtain⟨S',h3,h4⟩:=ih h2;exact⟨S1++S',h3.append_left S1,S1,S',rfl,h1,h4⟩
 |swap x y l=>
  obtain⟨c,v⟩:=x;obtain⟨c',v'⟩:=y;rintro S ⟨S1,S2,rfl,h1,S3,S4,rfl,h2,h3⟩;refine⟨S3++(S1++S4),?_,S3,S1++S4,rfl,h2,S1,S4,rfl,h1,h3⟩;rw[<-ZX,<-ZX];exact List.perm_append_comm.append_right S4
 |trans _ _ ih1 ih2=>
  intro S h;obtain⟨S',h1,h2⟩:=ih1 h;obtain⟨S'',h3,h4⟩:=ih2 h2;exact⟨S'',h1.trans h3,h4⟩
theorem iI.at_ {w:World}:∀{L:List (GC×Value)} {S:List Nat},iI w L S->∀{c v},(c,v)∈L->∃S',Tr w c v S'/\∀b∈S',b∈S
 |(c,v)::L,S,h,c',v',hm=>by
  obtain⟨S1,S2,rfl,h1,h2⟩:=h;rcases aag.1 hm with e|h3
  ·cases e;exact⟨S1,h1,fun b hb=>by simp[hb]⟩
  ·obtain⟨S',h4,h5⟩:=iI.at_ h2 h3;exact⟨S',h4,fun b hb=>by simp[h5 b hb]⟩
def chunks {α:Type} (sz:Nat):Nat->List α->List (List α)
 |0,_=>[]
 |n+1,l=>l.take sz::chunks sz n (l.drop sz)
theorem wQ {α:Type} (sz:Nat):∀(n:Nat) (l:List α),(chunks sz n l).length=n
 |0,_=>rfl
 |n+1,l=>by simp[chunks,wQ sz n]
mutual
def GC.dv:GC->DV
 |.d x=>x
 |.t _ sz n cs=>.sl (chunks sz n (yn cs))
 |.b _ _ _=>.bool false
 |.n _ _=>.bool false
def yn:List GC->List DV
 |[]=>[]
 |c::cs=>c.dv::yn cs
end
theorem El:∀(cs:List GC),yn cs=cs.map GC.dv
 |[]=>rfl
 |c::cs=>by simp[yn,El cs]
theorem kN.len {w:World}:∀{cs:List GC} {xs:List Value} {S:List Nat},kN w cs xs S->cs.length=xs.length
 |[],xs,S,h=>by simp only[kN]at h;rw[h.1];rfl
 |c::cs,xs,S,h=>by
  simp only[kN]at h;obtain⟨x,xs',S1,S2,rfl,rfl,h1,h2⟩:=h;simp[kN.len h2]
mutual
def GC.pl:GC->Bool
 |.d _=>true
 |.t _ _ _ cs=>BD cs
 |.b _ _ _=>false
 |.n _ _=>false
def BD:List GC->Bool
 |[]=>true
 |c::cs=>c.pl && BD cs
end
def M5 (w:World) (b:Nat):Nat:=match w.heap[b]? with
 |some (.cells cs _ _)=>cs.size
 |_=>0
theorem pM {im:Nat->Nat} {w:World} {b sz:Nat}:∀{n:Nat} {l:List DV} {off:Nat},l.length=n*sz->(∀j x,l[j]? =some x->∃u,w.cell? ⟨b,off+j,none⟩=some u/\bn im w x u)->cv im w b sz off (chunks sz n l)
 |0,l,off,_,_=>by simp[chunks,cv]
 |n+1,l,off,hl,h=>by
  rw[ZL]at hl;simp only[chunks,cv];refine⟨by rw[Z6];omega,dA.mk fun j x hx=>?_,pM (by rw[List.length_drop];omega) fun j x hx=>?_⟩
  ·refine h j x ?_;rw[aal]at hx;split at hx
   ·exact hx
   ·cases hx
  ·rw[List.getElem?_drop]at hx;have:=h (sz+j) x hx;rwa[<-Nat.add_assoc]at this
mutual
theorem Tr.rep {w:World} {im:Nat->Nat}:∀(c:GC) (v:Value) (S:List Nat),c.pl=true->Tr w c v S->(∀b∈S,M5 w b<=im b)->bn im w c.dv v
 |.d x,v,S,_,h,_=>by simp only[Tr]at h;exact h.1.zero
 |.b _ _ _,v,S,hp,_,_=>by simp[GC.pl]at hp
 |.n _ _,v,S,hp,_,_=>by simp[GC.pl]at hp
 |.t e sz n cs,v,S,hp,h,hS=>by
  simp only[Tr]at h;simp only[GC.pl]at hp;obtain⟨xs,S',h1,h2,rfl⟩:=h;have xJ:=kN.rep cs xs S' hp h2 (fun b hb=>hS b (by simp[hb]));have hlen:(yn cs).length=n*sz:=by rw[El,aai,h2.len,h1.1]
  obtain⟨Jd,h3⟩:=h1;rcases h3 with⟨rfl,rfl⟩|⟨g,cap,cur,rfl,_,hh,hc,hm,Ro,yx⟩
  ·simp only[GC.dv,bn,chunks];exact⟨none,0,rfl,ZB _,.inl trivial⟩
  ·have hb:=hS g (by simp[Value.ownBlock]);have Tg:M5 w g=cap*sz:=by simp[M5,hh,Ro]
   have hmul:n*sz<=cap*sz:=Nat.mul_le_mul_right sz hc;simp only[GC.dv,bn,wQ];refine⟨_,cap,rfl,hc,.inr ⟨g,0,sz,rfl,by omega,pM hlen fun j x hx=>?_⟩⟩;obtain⟨u,hu,hd⟩:=xJ j x hx;refine⟨u,?_,hd⟩;rw[<-yx,aal]at hu;split at hu
   ·have KF:cur[0+j]? =some u:=by simpa using hu
    simp only[World.cell?,hh];exact KF
   ·cases hu
theorem kN.rep {w:World} {im:Nat->Nat}:∀(cs:List GC) (xs:List Value) (S:List Nat),BD cs=true->kN w cs xs S->(∀b∈S,M5 w b<=im b)->∀(j:Nat) x,(yn cs)[j]? =some x->∃u,xs[j]? =some u/\bn im w x u
 |[],xs,S,_,_,_,j,x,hx=>by simp[yn]at hx
 |c::cs,xs,S,hp,h,hS,j,x,hx=>by
  simp only[kN]at h;simp only[BD,aaC]at hp;obtain⟨y,xs',S1,S2,rfl,rfl,h1,h2⟩:=h;cases j with
  |zero=>
   simp[yn]at hx;subst hx;exact⟨y,rfl,Tr.rep c y S1 hp.1 h1 (fun b hb=>hS b (by simp[hb]))⟩
  |succ j=>
   simp[yn]at hx;obtain⟨u,h3,h4⟩:=kN.rep cs xs' S2 hp.2 h2 (fun b hb=>hS b (by simp[hb])) j x hx;exact⟨u,by simpa using h3,h4⟩
end
def DV.jN:DV->Bool
 |.sl rows=>rows.isEmpty
 |_=>true
inductive Mk:List GC->List DV->List (GC×Value)->Prop
 |nil:Mk [] [] []
 |d {x cs ds L}:x.jN=true->Mk cs ds L->Mk (.d x::cs) (x::ds) L
 |t {e sz n k cs ds L v}:Mk cs ds L->Mk (.t e sz n k::cs) (.raw v::ds) ((.t e sz n k,v)::L)
 |b {T e bs cs ds L v}:Mk cs ds L->Mk (.b T e bs::cs) (.raw v::ds) ((.b T e bs,v)::L)
 |n {T row cs ds L v}:Mk cs ds L->Mk (.n T row::cs) (.raw v::ds) ((.n T row,v)::L)
theorem DV.sD {x:DV} {v:Value} {im im':Nat->Nat} {w w':World} (hs:x.jN=true) (h:bn im w x v):bn im' w' x v:=by
 cases x with
 |sl rows=>
  have:rows=[]:=by simpa[DV.jN]using hs
  subst this;simp only[bn]at h⊢;obtain⟨a,cap,e,h1,_⟩:=h;exact⟨a,cap,e,h1,.inl trivial⟩
 |_=>exact h
theorem Mk.PZ {w:World} {im:Nat->Nat} {cs:List GC} {ds:List DV} {L:List (GC×Value)} (h:Mk cs ds L):∀{xs:List Value} {S:List Nat},xs.length=ds.length->(∀(j:Nat) x u,ds[j]? =some x->xs[j]? =some u->bn im w x u)->iI w L S->kN w cs xs S:=by
 induction h with
 |nil=>
  intro xs S hl _ hS;simp only[iI]at hS;simp only[kN];exact⟨Z8.1 (by simpa using hl),hS⟩
 | @d x cs ds L hs _ ih=>
  intro xs S hl hr hS
  match xs,hl with
  |u::us,hl=>
   simp only[kN];exact⟨u,us,[],S,rfl,rfl,by simp only[Tr];exact⟨DV.sD hs (hr 0 x u rfl rfl),trivial⟩,ih (by simpa using hl) (fun j x u h1 h2=>hr (j+1) x u (by simpa using h1) (by simpa using h2)) hS⟩
 | @t e sz n k cs ds L v _ ih=>
  intro xs S hl hr hS
  match xs,hl with
  |u::us,hl=>
   obtain⟨S1,S2,rfl,h1,h2⟩:=hS;have hu:=hr 0 _ u rfl rfl;simp only[bn]at hu;obtain⟨rfl,_⟩:=hu;simp only[kN];exact⟨u,us,S1,S2,rfl,rfl,h1,ih (by simpa using hl) (fun j x u h1 h2=>hr (j+1) x u (by simpa using h1) (by simpa using h2)) h2⟩
 | @b T e bs cs ds L v _ ih=>
  intro xs S hl hr hS
  match xs,hl with
  |u::us,hl=>
   obtain⟨S1,S2,rfl,h1,h2⟩:=hS;have hu:=hr 0 _ u rfl rfl;simp only[bn]at hu;obtain⟨rfl,_⟩:=hu;simp only[kN];exact⟨u,us,S1,S2,rfl,rfl,h1,ih (by simpa using hl) (fun j x u h1 h2=>hr (j+1) x u (by simpa using h1) (by simpa using h2)) h2⟩
 | @n T row cs ds L v _ ih=>
  intro xs S hl hr hS
  match xs,hl with
  |u::us,hl=>
   obtain⟨S1,S2,rfl,h1,h2⟩:=hS;have hu:=hr 0 _ u rfl rfl;simp only[bn]at hu;obtain⟨rfl,_⟩:=hu;simp only[kN];exact⟨u,us,S1,S2,rfl,rfl,h1,ih (by simpa using hl) (fun j x u h1 h2=>hr (j+1) x u (by simpa using h1) (by simpa using h2)) h2⟩
abbrev Ts:=List (GC×Value)
inductive iq (L:Ts):CV->CV->Prop
 |d {x}:iq L (.d x) (.d x)
 |nil:iq L .nil (.d (.sl []))
 |Rq:iq L .nil .nil
 |np:iq L .np .np
 |fn {f}:iq L (.fn f []) (.fn f [])
 |Oi {c v}:(c,v)∈L->c.pl=true->iq L (.d (.raw v)) (.d c.dv)
inductive uW (L:Ts):List CV->List CV->Prop
 |nil:uW L [] []
 |cons {x y xs ys}:iq L x y->uW L xs ys->uW L (x::xs) (y::ys)
inductive s7 (L:Ts):AV->AV->Prop
 |c {x y}:iq L x y->s7 L (.c x) (.c y)
 |agg {xs ys}:uW L xs ys->s7 L (.agg xs) (.agg ys)
inductive iw (L:Ts):List AV->List AV->Prop
 |nil:iw L [] []
 |cons {x y xs ys}:s7 L x y->iw L xs ys->iw L (x::xs) (y::ys)
structure wR (w0:World) (g0:Gh) (X:List Nat) (w:World) (g:Gh):Prop where
 os:w.os=w0.os
 tape:w.tape=w0.tape
 output:w.output=w0.output
 size:w0.heap.size<=w.heap.size
 qE:∀b,b<w0.heap.size->b∉g0.ob->b∉g0.jB->b∉X->w.heap[b]? =w0.heap[b]?
 js:∀b,b<w0.heap.size->b∉g0.jB->b∉X->g.im b=g0.im b
 ob:∃new,g.ob=g0.ob++new/\∀b∈new,w0.heap.size<=b
 ar:∀(k:Nat) v b,g.ar[k]? =some v->v.ownBlock=some b->w0.heap.size<=b\/b∈g0.jB\/b∈X
 vO:∀(k:Nat) v,g0.ar[k]? =some v->∃v',g.ar[k]? =some v'/\rL v<=rL v'/\(rL v'=rL v->v'=v)
 xV:AI w0 g0
 BE:∀b∈X,¬o7 b
section
variable {P:Program} {n:Nat} {w0 w w':World} {g0 g g':Gh} {X S S':List Nat} {s s':St} {L L':Ts} {a a':Act}
theorem wR.refl (ht:AI w g) (hx:∀b∈X,¬o7 b):wR w g X w g:=
 ⟨rfl,rfl,rfl,ZB _,fun _ _ _ _ _=>rfl,fun _ _ _ _=>rfl,⟨[],by simp,by simp⟩,fun k v b hk hb=>.inr (.inl (Gh.jX hk hb)),fun k v h=>⟨v,h,ZB _,fun _=>rfl⟩,ht,hx⟩
theorem wR.Eg (h:wR w0 g0 X w g) {b:Nat} (hb:b<w0.heap.size) (h1:b∉g0.ob):b∉g.ob:=fun hm=>by
 obtain⟨new,e,hn⟩:=h.ob;rw[e]at hm;rcases ZP.1 hm with q|q
 ·exact h1 q
 ·exact absurd (hn b q) (by omega)
theorem wR.tN (h:wR w0 g0 X w g) {b:Nat} (hb:b<w0.heap.size) (h1:b∉g0.jB) (h2:b∉X):b∉g.jB:=fun hm=>by
 obtain⟨k,v,q1,q2⟩:=Gh.fL hm;rcases h.ar k v b q1 q2 with q|q|q
 ·omega
 ·exact h1 q
 ·exact h2 q
theorem wR.now (h:wR w0 g0 X w g):AI w g:=fun b hb=>by
 obtain⟨h1,h2,h3,h4⟩:=h.xV b hb;refine⟨ZI h1 h.size,h.Eg h1 h2,h.tN h1 h3 (fun hx=>h.BE b hx hb),?_⟩;rw[h.qE b h1 h2 h3 (fun hx=>h.BE b hx hb)];exact h4
theorem wR.fr (h:wR w0 g0 X w g) (k:Fr w g w' g'):wR w0 g0 X w' g':=by
 refine⟨k.os.trans h.os,k.tape.trans h.tape,k.output.trans h.output,ZG h.size k.size,fun b h1 h2 h3 h4=>?_,fun b h1 h2 h3=>?_,?_,fun i v b h1 h2=>?_,fun i v h1=>?_,h.xV,h.BE⟩
 ·rw[k.qE b (ZI h1 h.size) (h.Eg h1 h2) (h.tN h1 h3 h4)];exact h.qE b h1 h2 h3 h4
 ·rw[k.js b (ZI h1 h.size) (h.tN h1 h2 h3)];exact h.js b h1 h2 h3
 ·obtain⟨new,e,hn⟩:=h.ob;obtain⟨new',e',MJ⟩:=k.ob;refine⟨new++new',by rw[e',e,ZX],fun b hb=>?_⟩;rcases ZP.1 hb with q|q
  ·exact hn b q
  ·exact ZG h.size (MJ b q)
 ·rcases k.ar i v b h1 h2 with q|q
  ·exact .inl (ZG h.size q)
  ·obtain⟨j,v',q1,q2⟩:=Gh.fL q;exact h.ar j v' b q1 q2
 ·obtain⟨v1,q1,q2,q3⟩:=h.vO i v h1;obtain⟨v2,q4,q5,q6⟩:=k.vO i v1 q1;exact⟨v2,q4,ZG q2 q5,fun e=>(q6 (by omega)).trans (q3 (by omega))⟩
structure rl (n:Nat) (w0:World) (g0:Gh) (X:List Nat) (s:St) (L:Ts) (S:List Nat) (g:Gh) (a:Act) (w:World):Prop where
 inv:Inv g w s.V s.A
 fr:wR w0 g0 X w g
 size:a.tmps.size=n
 defers:a.defers=[]
 slot:∀t x,look s.fr t=some x->∃u,a.tmps[t]? =some u/\aW g w s.A x u
 nF:iI w L S
 nd:S.Nodup
 out:∀b∈S,g.im b=0/\b∉g.ob/\b∉g.jB/\¬o7 b/\(w0.heap.size<=b\/b∈X)
theorem rl.rp (h:rl n w0 g0 X s L S g a w):Rp n w g s g a w:=⟨h.inv,.refl h.fr.now,h.size,h.defers,h.slot⟩
theorem rl.wS (h:rl n w0 g0 X s L S g a w) (k:Fr w g w' g'):iI w' L S/\∀b∈S,g'.im b=0/\b∉g'.ob/\b∉g'.jB/\¬o7 b/\(w0.heap.size<=b\/b∈X):=by
 have ay:=h.nF.lt;refine⟨h.nF.dR fun b hb=>k.qE b (ay b hb) (h.out b hb).2.1 (h.out b hb).2.2.1,fun b hb=>?_⟩;obtain⟨h1,h2,h3,h4,h5⟩:=h.out b hb;have xR:=ay b hb;refine⟨(k.js b xR h3).trans h1,fun hm=>?_,fun hm=>?_,h4,h5⟩
 ·obtain⟨new,e,hn⟩:=k.ob;rw[e]at hm;rcases ZP.1 hm with q|q
  ·exact h2 q
  ·exact absurd (hn b q) (by omega)
 ·obtain⟨i,v,q1,q2⟩:=Gh.fL hm;rcases k.ar i v b q1 q2 with q|q
  ·omega
  ·exact h3 q
theorem rl.back (h:rl n w0 g0 X s L S g a w) (k:Rp n w g s' g' a' w'):rl n w0 g0 X s' L S g' a' w':=
 ⟨k.inv,h.fr.fr k.fr,k.size,k.defers,k.slot,(h.wS k.fr).1,h.nd,(h.wS k.fr).2⟩
theorem rl.less (h:rl n w0 g0 X s L S g a w) {M:Ts} (hp:L.Perm (L'++M)):∃S',rl n w0 g0 X s L' S' g a w:=by
 obtain⟨S1,h1,h2⟩:=h.nF.perm hp;obtain⟨S2,S3,rfl,h3,_⟩:=iI.app.1 h2;exact⟨S2,h.inv,h.fr,h.size,h.defers,h.slot,h3,(ZR.1 (h1.nodup_iff.1 h.nd)).1,fun b hb=>h.out b (h1.mem_iff.2 (by simp[hb]))⟩
def TJ (P:Program) (n:Nat) (c:Code) (Q:Exit->St->Ts->Prop) (s:St) (L:Ts):Prop:=
 codeOk n c=true->∀w0 g0 X S g a w,rl n w0 g0 X s L S g a w->c.wp P (fun e a' w'=>∃s' g' L' S',Q e s' L'/\rl n w0 g0 X s' L' S' g' a' w') a w
variable {Q Q':Exit->St->Ts->Prop} {c x y:Code}
theorem TJ.mono (h:TJ P n c Q s L) (hq:∀e s' L',Q e s' L'->Q' e s' L'):TJ P n c Q' s L:=
 fun eP w0 g0 X S g a w hR=>Go.wp_mono (h eP w0 g0 X S g a w hR) fun _ _ _ ⟨s',g',L',S',h1,h2⟩=>⟨s',g',L',S',hq _ _ _ h1,h2⟩
theorem TJ.less {M:Ts} (hp:L.Perm (L'++M)) (h:TJ P n c Q s L'):TJ P n c Q s L:=by
 intro eP w0 g0 X S g a w hR;obtain⟨S',vE⟩:=hR.less hp;exact h eP w0 g0 X S' g a w vE
def oK (P:Program) (n:Nat) (c:Code) (Q:Exit->St->Ts->Prop):Exit->St->Ts->Prop
 |.normal,s,L=>TJ P n c Q s L
 |e,s,L=>Q e s L
theorem TJ.seq (h:TJ P n x (oK P n y Q) s L):TJ P n (.seq x y) Q s L:=by
 intro eP w0 g0 X S g a w hR;simp only[codeOk,aaC]at eP;refine wp_seq (Go.wp_mono (h eP.1 w0 g0 X S g a w hR) ?_);rintro e a' w' ⟨s',g',L',S',h1,h2⟩;cases e with
 |normal=>exact h1 eP.2 w0 g0 X S' g' a' w' h2
 |_=>exact⟨s',g',L',S',h1,h2⟩
theorem TJ.skip (h:Q .normal s L):TJ P n .skip Q s L:=fun _ _ _ _ S g _ _ hR=>wp_skip ⟨s,g,L,S,h,hR⟩
theorem TJ.exit {id:Nat} (h:Q (.exit id) s L):TJ P n (.exit id) Q s L:=fun _ _ _ _ S g _ _ hR=>wp_exit ⟨s,g,L,S,h,hR⟩
theorem TJ.ret (h:Q .ret s L):TJ P n .ret Q s L:=fun _ _ _ _ S g _ _ hR=>wp_ret ⟨s,g,L,S,h,hR⟩
theorem TJ.cond {o:Operand} {b:Bool} (hc:bH s o=some (.c (.d (.bool b)))) (ht:b=true->TJ P n x Q s L) (hf:b=false->TJ P n y Q s L):TJ P n (.cond o x y) Q s L:=by
 intro eP w0 g0 X S g a w hR;simp only[codeOk,aaC]at eP;have hv:=aL hR.slot hc;simp only[aW,dL,br,bn]at hv;exact wp_cond_split hv (fun e=>ht e eP.1 w0 g0 X S g a w hR) (fun e=>hf e eP.2 w0 g0 X S g a w hR)
def fF (id:Nat) (Q:Exit->St->Ts->Prop):Exit->St->Ts->Prop
 |.exit id',s,L=>if id'=id then Q .normal s L else Q (.exit id') s L
 |e,s,L=>Q e s L
theorem TJ.block {id:Nat} (h:TJ P n c (fF id Q) s L):TJ P n (.block id c) Q s L:=by
 intro eP w0 g0 X S g a w hR;refine wp_block (Go.wp_mono (h eP w0 g0 X S g a w hR) ?_);rintro e a' w' ⟨s',g',L',S',h1,h2⟩;cases e with
 |exit id'=>
  simp only[fF]at h1;simp only[Exit.inBlock];split
  ·rename_i e;rw[if_pos e]at h1;exact⟨s',g',L',S',h1,h2⟩
  ·rename_i e;rw[if_neg e]at h1;exact⟨s',g',L',S',h1,h2⟩
 |_=>exact⟨s',g',L',S',h1,h2⟩
def pN (P:Program) (n:Nat) (c:Code) (Q:Exit->St->Ts->Prop):Nat->St->Ts->Prop
 |0,_,_=>False
 |k+1,s,L=>TJ P n c (fun e s' L'=>match e with|.normal=>pN P n c Q k s' L'|e=>Q e s' L') s L
theorem pN.succ:∀{k:Nat} {s:St} {L:Ts},pN P n c Q k s L->pN P n c Q (k+1) s L
 |0,_,_,h=>h.elim
 |k+1,s,L,h=>TJ.mono h fun e s' L' h1=>by cases e<;>first|exact pN.succ h1|exact h1
theorem pN.le {k k':Nat} (hk:k<=k') {s:St} {L:Ts} (h:pN P n c Q k s L):pN P n c Q k' s L:=by
 induction hk with
 |refl=>exact h
 |step _ ih=>exact ih.succ
theorem TJ.mV {k:Nat} (h:pN P n c Q k s L):TJ P n (.loop c) Q s L:=by
 intro eP w0 g0 X S g a w hR;refine wp_loop_rounds k ?_;have key:∀k s L S g a w,pN P n c Q k s L->rl n w0 g0 X s L S g a w->Code.rounds P c (fun e a' w'=>∃s' g' L' S',Q e s' L'/\rl n w0 g0 X s' L' S' g' a' w') k a w:=by
  intro k;induction k with
  |zero=>intro s L S g a w h _;exact h.elim
  |succ k ih=>
   intro s L S g a w h hR;rw[rounds_succ];refine Go.wp_mono (h eP w0 g0 X S g a w hR) ?_;rintro e a' w' ⟨s',g',L',S',h1,h2⟩;cases e with
   |normal=>exact ih s' L' S' g' a' w' h1 h2
   |_=>exact⟨s',g',L',S',h1,h2⟩
 exact key k s L S g a w h hR
theorem TJ.loop (I:Nat->St->Ts->Prop) (h:∀k s L,I k s L->TJ P n c (fun e s' L'=>match e with|.normal=>∃k',k'<k/\I k' s' L'|e=>Q e s' L') s L) {k:Nat} (h0:I k s L):TJ P n (.loop c) Q s L:=by
 have key:∀k s L,I k s L->pN P n c Q (k+1) s L:=by
  intro k;induction k using ZH with
  |_ k ih=>
   intro s L hs;refine TJ.mono (h k s L hs) fun e s' L' h1=>?_
   cases e with
   |normal=>obtain⟨k',hk,h2⟩:=h1;exact(ih k' hk s' L' h2).le hk
   |_=>exact h1
 exact TJ.mV (key k s L h0)
theorem TJ.forget (cU:List (Nat×AV)) (gF:∀t x,look cU t=some x->look s.fr t=some x) (h:TJ P n c Q ⟨cU,s.V,s.A⟩ L):TJ P n c Q s L:=
 fun eP w0 g0 X S g a w hR=>h eP w0 g0 X S g a w ⟨hR.inv,hR.fr,hR.size,hR.defers,fun t x hx=>hR.slot t x (gF t x hx),hR.nF,hR.nd,hR.out⟩
def Dd {α:Type} (St_:α->St) (Tr_:α->Ts) (m:α->Nat) (H:α->Prop) (k:Nat) (Q:Exit->St->Ts->Prop):Exit->St->Ts->Prop
 |.normal,s',L'=>∃a' M,m a'<k/\H a'/\Sub (St_ a') s'/\L'.Perm (Tr_ a'++M)
 |e,s',L'=>Q e s' L'
theorem TJ.fW {α:Type} (St_:α->St) (Tr_:α->Ts) (m:α->Nat) (H:α->Prop) (h:∀a,H a->TJ P n c (Dd St_ Tr_ m H (m a) Q) (St_ a) (Tr_ a)) (a:α) (ha:H a) (hs:Sub (St_ a) s) {M:Ts} (hL:L.Perm (Tr_ a++M)):TJ P n (.loop c) Q s L:=by
 refine TJ.loop (fun k s L=>∃a M,m a=k/\H a/\(St_ a).V=s.V/\(St_ a).A=s.A/\(∀t x,look (St_ a).fr t=some x->look s.fr t=some x)/\L.Perm (Tr_ a++M)) ?_ (k:=m a) ⟨a,M,rfl,ha,hs.1,hs.2.1,kj.look hs.2.2,hL⟩;rintro k s1 L1 ⟨a',M',rfl,h2,h3,h4,h5,h6⟩;refine TJ.less h6 (TJ.forget (St_ a').fr h5 ?_);rw[<-h3,<-h4];refine TJ.mono (h a' h2) fun e s2 L2 h7=>?_
 cases e with
 |normal=>
  obtain⟨a2,M2,h8,h9,cO,eE⟩:=h7;exact⟨_,h8,a2,M2,rfl,h9,cO.1,cO.2.1,kj.look cO.2.2,eE⟩
 |_=>exact h7
def Fv (r:AV) (v:Value):Prop:=∀g w A,aW g w A r v
def aT (P:Program) (f:FuncId) (as_:List AV) (L:Ts) (R:AV->Ts->Prop):Prop:=
 (∀args w,(callFunc f args).run P w=.ok (.enter f args) w)/\
 ∀(g:Gh) (w:World) (vs:Array Value) (S:List Nat),g.ob=[]->g.ar=[]->Inv g w [] []->AI w g->vs.size=as_.length->(∀(i:Nat) x u,as_[i]? =some x->vs[i]? =some u->aW g w [] x u)->
  iI w L S->S.Nodup->(∀b∈S,g.im b=0/\¬o7 b)->
  Calls P f vs w fun e w'=>∃v r L' S',e=.returned v/\R r L'/\Fv r v/\iI w' L' S'/\S'.Nodup/\(∀b∈S',b∈S\/w.heap.size<=b)/\
   w'.os=w.os/\w'.tape=w.tape/\w'.output=w.output/\w.heap.size<=w'.heap.size/\∀b,b<w.heap.size->b∉S->w'.heap[b]? =w.heap[b]?
theorem iw.len {L:Ts} {xs as_:List AV} (h:iw L xs as_):xs.length=as_.length:=by
 induction h with
 |nil=>rfl
 |cons _ _ ih=>simp[ih]
theorem iw.at_ {L:Ts} {xs as_:List AV} (h:iw L xs as_):∀{i:Nat} {y:AV},as_[i]? =some y->∃x,xs[i]? =some x/\s7 L x y:=by
 induction h with
 |nil=>intro i y hy;simp at hy
 |cons h1 _ ih=>
  intro i y hy;cases i with
  |zero=>simp at hy;subst hy;exact⟨_,rfl,h1⟩
  |succ i=>simp at hy;simpa using ih hy
theorem uW.len {L:Ts} {xs as_:List CV} (h:uW L xs as_):xs.length=as_.length:=by
 induction h with
 |nil=>rfl
 |cons _ _ ih=>simp[ih]
theorem uW.at_ {L:Ts} {xs as_:List CV} (h:uW L xs as_):∀{i:Nat} {y:CV},as_[i]? =some y->∃x,xs[i]? =some x/\iq L x y:=by
 induction h with
 |nil=>intro i y hy;simp at hy
 |cons h1 _ ih=>
  intro i y hy;cases i with
  |zero=>simp at hy;subst hy;exact⟨_,rfl,h1⟩
  |succ i=>simp at hy;simpa using ih hy
def vt (g:Gh) (w:World) (S:List Nat):Gh:={ob:=[],ar:=[],im:=fun b=>if b∈S then M5 w b else g.im b}
theorem iq.rep {A:List bz} {x y:CV} (h:iq L x y) (hS:∀b∈S,g.im b=0) (hT:iI w L S) {u:Value} (hr:br g w A x u):br (vt g w S) w [] y u:=by
 have hle:∀b,g.im b<=(vt g w S).im b:=fun b=>by
  simp only[vt];split
  ·rename_i h;rw[hS b h];exact ZC _
  ·exact ZB _
 cases h with
 | @d x=>exact bn.fJ ⟨hle,fun _ _ _=>rfl⟩ x u hr
 |nil=>
  simp only[br]at hr;subst hr;simp only[br,bn];exact⟨none,0,rfl,ZB _,.inl trivial⟩
 |Rq=>exact hr
 |np=>exact hr
 |fn=>
  obtain⟨bks,h1,h2,_⟩:=hr;exact⟨bks,h1,h2,fun i l b h=>by simp at h⟩
 | @Oi c v hm lZ=>
  simp only[br,bn]at hr;obtain⟨rfl,_⟩:=hr;obtain⟨S',h1,h2⟩:=hT.at_ hm;exact Tr.rep c _ S' lZ h1 fun b hb=>by simp[vt,h2 b hb]
theorem s7.rep {A:List bz} {x y:AV} (h:s7 L x y) (hS:∀b∈S,g.im b=0) (hT:iI w L S) {u:Value} (hr:aW g w A x u):aW (vt g w S) w [] y u:=by
 cases h with
 | @c x y h=>exact iq.rep (A:=A) h hS hT hr
 | @agg xs ys h=>
  obtain⟨vs,e,hl,hc⟩:=hr;refine⟨vs,e,by rw[hl,h.len],fun i y u h1 h2=>?_⟩;obtain⟨x,h3,h4⟩:=h.at_ h1;exact h4.rep hS hT (hc i x u h3 h2)
def oh (P:Program) (s:St) (L:Ts) (f:FuncId) (xs:List AV) (K:AV->List (List CV)->List bz->Ts->Prop):Prop:=
 gE P s f xs (fun x V A=>K x V A L)\/
 ∃(as_:List AV) (L1 L2:Ts) (R:AV->Ts->Prop),L.Perm (L1++L2)/\iw L2 xs as_/\aT P f as_ L1 R/\∀r L1',R r L1'->K r s.V s.A (L1'++L2)
theorem iI.yX {S1 S2:List Nat} (h:(S1++S2).Nodup):∀b∈S1,b∉S2:=fun b h1 h2=>(ZR.1 h).2.2 b h1 b h2 rfl
theorem BF (hR:rl n w0 g0 X s L S g a w) {f:FuncId} {xs as_:List AV} {L1 L2:Ts} {R:AV->Ts->Prop} (hp:L.Perm (L1++L2)) (Fw:iw L2 xs as_) (hc:aT P f as_ L1 R) {vs:Array Value} (hl:vs.size=xs.length)
  (hr:∀(i:Nat) x u,xs[i]? =some x->vs[i]? =some u->aW g w s.A x u):
  Calls P f vs w fun e w'=>∃v r L' S',e=.returned v/\R r L'/\Fv r v/\Inv g w' s.V s.A/\Ext g w s.A g w' s.A/\wR w0 g0 X w' g/\iI w' (L'++L2) S'/\S'.Nodup/\∀b∈S',g.im b=0/\b∉g.ob/\b∉g.jB/\¬o7 b/\(w0.heap.size<=b\/b∈X):=by
 obtain⟨S0,vu,hT⟩:=hR.nF.perm hp;obtain⟨S1,S2,rfl,LS,zW⟩:=iI.app.1 hT;have oU:(S1++S2).Nodup:=vu.nodup_iff.1 hR.nd;have jC:∀b∈S1++S2,_:=fun b hb=>hR.out b (vu.mem_iff.2 hb)
 have fS:=iI.yX oU;have PY:∀b∈S1,g.im b=0:=fun b hb=>(jC b (by simp[hb])).1
 have By:∀b∈S2,g.im b=0:=fun b hb=>(jC b (by simp[hb])).1
 have Oj:=hR.fr.now;have Ok:Inv (vt g w S2) w [] []:=⟨rfl,rfl,fun l row b h=>by simp at h,fun k r v h=>by simp at h,fun l l' b h=>by simp[vt]at h,fun k k' v v' b h=>by simp[vt]at h,fun l k v b h=>by simp[vt]at h,fun b hb=>by
  have:b∉S2:=fun h=>absurd (zW.lt b h) (by omega)
  simp only[vt,if_neg this];exact hR.inv.fresh b hb⟩
 have Ol:AI w (vt g w S2):=Oj.less (by simp[vt]) (by simp[vt,Gh.jB]);refine(hc.2 (vt g w S2) w vs S1 rfl rfl Ok Ol (by rw[hl,Fw.len]) (fun i y u h1 h2=>?_) LS (ZR.1 oU).1 (fun b hb=>⟨by simp only[vt,if_neg (fS b hb)];exact PY b hb,(jC b (by simp[hb])).2.2.2.1⟩)).mono ?_
 ·obtain⟨x,h3,h4⟩:=Fw.at_ h1;exact h4.rep By zW (hr i x u h3 h2)
 rintro e w' ⟨v,r,L',S',rfl,gX,LU,JL,yo,b8,ho,ht,gG,fB,yb⟩;have HD:∀b,b<w.heap.size->b∈g.ob\/b∈g.jB\/0<g.im b->w'.heap[b]? =w.heap[b]? :=fun b hb hx=>yb b hb fun hm=>by
  obtain⟨q1,q2,q3,_⟩:=jC b (by simp[hm]);rcases hx with h|h|h
  ·exact q2 h
  ·exact q3 h
  ·omega
 have hx:Ext g w s.A g w' s.A:=⟨fun _ _ h=>h,⟨fun _=>ZB _,fun b o ay=>by
  have hb:=hR.inv.E0 ay;exact World.cell?_of_block (a:=⟨b,o,none⟩) (HD b hb (.inr (.inr (by omega))))⟩,fun _ r h=>⟨r,h,rfl,ZB _,fun _=>rfl⟩⟩
 have Rr:Inv g w' s.V s.A:=⟨hR.inv.oT,hR.inv.lQ,fun l row b h1 h2=>hR.inv.fx hx h1 h2 (HD b (hR.inv.qU h2) (.inl (ZZ h2))) (hR.inv.obj l row b h1 h2).1,
  fun k r v h1 h2=>hR.inv.fy hx h1 h2 (fun b hb=>HD b (hR.inv.mO h2 hb) (.inr (.inl (Gh.jX h2 hb)))) (fun _ _=>rfl),hR.inv.kH,hR.inv.jj,hR.inv.jr,fun b hb=>hR.inv.fresh b (by omega)⟩
 have hX:∀b∈S1,w0.heap.size<=b\/b∈X:=fun b hb=>(jC b (by simp[hb])).2.2.2.2
 have hF:wR w0 g0 X w' g:=⟨ho.trans hR.fr.os,ht.trans hR.fr.tape,gG.trans hR.fr.output,ZG hR.fr.size fB,fun b h1 h2 h3 h4=>by
  rw[yb b (ZI h1 hR.fr.size) (fun hm=>by rcases hX b hm with q|q;omega;exact h4 q)];exact hR.fr.qE b h1 h2 h3 h4,hR.fr.js,hR.fr.ob,hR.fr.ar,hR.fr.vO,hR.fr.xV,hR.fr.BE⟩
 have Rs:iI w' L2 S2:=zW.dR fun b hb=>yb b (zW.lt b hb) fun hm=>fS b hm hb
 have Om:∀b∈g.ob,b<w.heap.size:=fun b hb=>by
  obtain⟨l,hl⟩:=Z2 hb;exact hR.inv.qU hl
 have GG:∀b∈g.jB,b<w.heap.size:=fun b hb=>by
  obtain⟨k,v,q1,q2⟩:=Gh.fL hb;exact hR.inv.mO q1 q2
 refine⟨v,r,L',S'++S2,rfl,gX,LU,Rr,hx,hF,iI.app.2 ⟨S',S2,rfl,JL,Rs⟩,ZR.2 ⟨yo,(ZR.1 oU).2.1,fun b hb c hc=>?_⟩,fun b hb=>?_⟩
 ·rintro rfl;rcases b8 b hb with q|q
  ·exact fS b q hc
  ·exact absurd (zW.lt b hc) (by omega)
 ·rcases ZP.1 hb with hb|hb
  ·rcases b8 b hb with q|q
   ·exact jC b (by simp[q])
   ·refine⟨hR.inv.fresh b q,fun hm=>absurd (Om b hm) (by omega),fun hm=>absurd (GG b hm) (by omega),fun hm=>?_,.inl (ZG hR.fr.size q)⟩;have:=(Oj b hm).1;omega
  ·exact jC b (by simp[hb])
end
section
variable {P:Program} {n:Nat} {w0 w w':World} {g0 g g':Gh} {X S S':List Nat} {s s':St} {L L':Ts} {a a':Act} {Q:Exit->St->Ts->Prop} {x y:Code}
def ch (P:Program) (s:St) (L:Ts) (ow:Bool) (o:Oper) (K:AV->List (List CV)->List bz->Ts->Prop):Prop:=
 match o.op with
 |.call {callee:=.value f,args,.. }=>bU (bH s f) fun fv=>match fv with
  |.c (.fn fid cap)=>bU (iB s args.toList) fun xs=>oh P s L fid (xs++cap.map fun l=>.c (.ptr l 0)) K
  |_=>False
 |op=>eO P s ow op fun x V A=>K x V A L
theorem qh (hR:rl n w0 g0 X s L S g a w) {ow:Bool} {o:Oper} {K:AV->List (List CV)->List bz->Ts->Prop} (h:ch P s L ow o K) (next:Act->World->Prop) (Q:Exit->Act->World->Prop)
  (hn:∀x V' A' L' S' v w' g',K x V' A' L'->aW g' w' A' x v->Inv g' w' V' A'->Ext g w s.A g' w' A'->wR w0 g0 X w' g'->iI w' L' S'->S'.Nodup->(∀b∈S',g'.im b=0/\b∉g'.ob/\b∉g'.jB/\¬o7 b/\(w0.heap.size<=b\/b∈X))->next (a.put o.dst v) w'):o.wp P a w next Q:=by
 have plain:bJ P s ow o (fun x V A=>K x V A L)->o.wp P a w next Q:=by
  intro h;obtain⟨x,V',A',h1,h2⟩:=dj hR.inv (Fr.refl hR.fr.now) hR.slot h;exact h2 next Q fun v w' g' h3 h4 h5 h6=>hn x V' A' L S v w' g' h1 h3 h4 h5 (hR.fr.fr h6) (hR.wS h6).1 hR.nd (hR.wS h6).2
 unfold ch at h;split at h
 ·rename_i f args argTypes heq;refine aj h fun fv h1 h2=>?_
  split at h2
  ·rename_i fid cap;refine aj h2 fun xs h3 h4=>?_
   rcases h4 with h4|⟨as_,L1,L2,R,hp,Fw,hc,hK⟩
   ·refine plain ?_;unfold bJ;rw[heq];simp only[h1,h3,bU];exact h4
   ·have QN:=aL hR.slot h1;obtain⟨h5,h6⟩:=l4 hR.slot h3;have Uk:xs.length=args.size:=by rw[h5,Array.length_toList]
    obtain⟨bks,h7,h8,h9⟩:br g w s.A (.fn fid cap) (a.eval f):=QN;have pq:args.map a.eval++(bks.map fun b=>Value.pointer (some ⟨b,0,none⟩)).toArray=((args.toList.map a.eval)++bks.map fun b=>Value.pointer (some ⟨b,0,none⟩)).toArray:=by
     apply Array.ext';simp
    have iD:=BF (vs:=((args.toList.map a.eval)++bks.map fun b=>Value.pointer (some ⟨b,0,none⟩)).toArray) hR hp Fw hc (by simp[h5,h8]) (fun i x u cO eE=>by
     simp only[List.getElem?_toArray]at eE;by_cases hi:i<xs.length
     ·rw[aam hi]at cO;rw[aam (by simp;omega)]at eE;exact h6 i x u cO eE
     ·rw[Z3 (by omega)]at cO;rw[Z3 (by simp;omega)]at eE;simp only[aaa,aaF]at cO eE;obtain⟨l,fS,rfl⟩:=cO;obtain⟨b,dG,rfl⟩:=eE;exact⟨b,h9 _ l b fS (by rw[<-dG];congr 1;simp[h5]),rfl⟩)
    have fC:(execOp a.eval o).run P w=.ok (.enter fid ((args.toList.map a.eval)++bks.map fun b=>Value.pointer (some ⟨b,0,none⟩)).toArray) w:=by
     simp only[execOp,heq,resolve,h7,Deferred.ofValue,Sem.run_bind,Sem.run_pure,Result.andThen_ok,invoke,Array.empty_append];rw[hc.1,pq]
    unfold Oper.wp;rw[fC];show Calls P fid _ w _;refine iD.mono ?_;rintro e w' ⟨v,r,L1',S',rfl,gA,qH,rH,AX,rI,Lr,IU,Nx⟩;exact hn r s.V s.A _ S' v w' g (hK r L1' gA) (qH g w' s.A) rH AX rI Lr IU Nx
  ·exact h2.elim
 ·rename_i di;refine plain ?_;unfold bJ;split
  ·rename_i heq;exact absurd heq (di _ _ _)
  ·exact h
theorem rl.put (h:rl n w0 g0 X s L S g a w) {dst:Option Tmp} (hd:∀d,dst=some d->d<n) {x:AV} {v:Value} {V':List (List CV)} {A':List bz} (hr:aW g' w' A' x v) (hI:Inv g' w' V' A') (hx:Ext g w s.A g' w' A') (hF:wR w0 g0 X w' g')
  (hT:iI w' L' S') (oU:S'.Nodup) (ho:∀b∈S',g'.im b=0/\b∉g'.ob/\b∉g'.jB/\¬o7 b/\(w0.heap.size<=b\/b∈X)):rl n w0 g0 X (s.put dst x V' A') L' S' g' (a.put dst v) w':=by
 refine⟨hI,hF,?_,?_,fun t y hy=>?_,hT,oU,ho⟩
 ·cases dst<;>simp[Act.put,h.size]
 ·cases dst<;>simp[Act.put,h.defers]
 ·cases dst with
  |none=>
   obtain⟨u,h1,h2⟩:=h.slot t y hy;exact⟨u,h1,aW.ext hx h2⟩
  |some d=>
   have zG:=hd d rfl;simp only[St.put,look]at hy;by_cases e:t=d
   ·subst e;simp at hy;subst hy;refine⟨v,?_,hr⟩;have:t<a.tmps.size:=by rw[h.size];exact zG
    simp[Act.put,this]
   ·rw[if_neg e]at hy;obtain⟨u,h1,h2⟩:=h.slot t y hy;refine⟨u,?_,aW.ext hx h2⟩;simp only[Act.put];rw[aav (fun e'=>e e'.symm)];exact h1
structure kC (P:Program) (n:Nat) (all:Array Oper) (ow:Nat->Bool) (K:St->Ts->Prop) (i:Nat) (ops:List Oper) (s:St) (L:Ts):Prop where
 mk::
 run:da n ops=true->∀(w0:World) (g0:Gh) (X S:List Nat) (g:Gh) (a:Act) (w:World) (Q:Exit->Act->World->Prop),rl n w0 g0 X s L S g a w->
  (∀s' L' S' g' a' w',K s' L'->rl n w0 g0 X s' L' S' g' a' w'->Q .normal a' w')->wpList P all Q ops a w
theorem aC {all:Array Oper} {ow:Nat->Bool} {K:St->Ts->Prop} {i:Nat} {o:Oper} {rest:List Oper} (h:iA all s o (ch P s L (ow i) o fun x V A L'=>kC P n all ow K (i+1) rest (s.put o.dst x V A) L') (kC P n all ow K (i+1) rest (s.put o.dst (.c .undef) s.V s.A) L)):kC P n all ow K i (o::rest) s L:=by
 refine⟨fun hd w0 g0 X S g a w Q hR hQ=>?_⟩;simp only[da,List.all_cons,aaC]at hd;have fc:∀d,o.dst=some d->d<n:=fun d e=>by have:=hd.1;rw[e]at this;simpa using this
 unfold wpList;rcases qc hR.rp h with⟨h1,h2⟩|⟨h1,h2⟩
 ·rw[if_pos h1];exact .inl (qh hR h2 _ _ fun x V' A' L' S' v w' g' h3 h4 h5 h6 h7 h8 h9 cO=>h3.run hd.2 w0 g0 X S' g' _ w' Q (hR.put fc h4 h5 h6 h7 h8 h9 cO) hQ)
 ·rw[if_neg (by rw[h1];simp)];exact h2.run hd.2 w0 g0 X S g _ w Q (hR.put fc (x:=.c .undef) (v:=undef) rfl hR.inv (.refl _ _ _) hR.fr hR.nF hR.nd hR.out) hQ
theorem ax {all:Array Oper} {ow:Nat->Bool} {K:St->Ts->Prop} {i:Nat} (h:K s L):kC P n all ow K i [] s L:=⟨fun _ _ _ _ S g a w _ hR hQ=>hQ s L S g a w h hR⟩
theorem kC.gen {all:Array Oper} {ow:Nat->Bool} {K:St->Ts->Prop} {i:Nat} {ops:List Oper} {d:Nat} {b:Bool} {fr:List (Nat×AV)} {V:List (List CV)} {A:List bz} (h:∀q:Bool,b=q->kC P n all ow K i ops ⟨(d,.c (.d (.bool q)))::fr,V,A⟩ L):kC P n all ow K i ops ⟨(d,.c (.d (.bool b)))::fr,V,A⟩ L:=h b rfl
@[congr] theorem LV {all:Array Oper} {ow:Nat->Bool} {K:St->Ts->Prop} {i i':Nat} {ops:List Oper} (hi:i=i') (h:s=s'):kC P n all ow K i ops s L=kC P n all ow K i' ops s' L:=by rw[h,hi]
@[congr] theorem KX {o:Oper} {ow:Bool} {K:AV->List (List CV)->List bz->Ts->Prop} (h:s=s'):ch P s L ow o K=ch P s' L ow o K:=by rw[h]
@[congr] theorem JM {f:FuncId} {xs xs':List AV} {K:AV->List (List CV)->List bz->Ts->Prop} (hs:s=s') (hx:xs=xs'):oh P s L f xs K=oh P s' L f xs' K:=by subst hs;subst hx;rfl
theorem TJ.region {id:Nat} {ops:Array Oper} (ow:Nat->Bool) (h:kC P n ops ow (fun s' L'=>Q .normal s' L') 0 ops.toList s L):TJ P n (.region id ops false) Q s L:=by
 intro eP w0 g0 X S g a w hR;exact wp_region_list (h.run eP w0 g0 X S g a w _ hR fun s' L' S' g' a' w' h1 h2=>⟨s',g',L',S',h1,h2⟩)
theorem TJ.rs {id:Nat} {l:List Oper} (ow:Nat->Bool) (h:∀K:St->Ts->Prop,(∀s' L',TJ P n y Q s' L'->K s' L')->kC P n l.toArray ow K 0 l s L):TJ P n (.seq (.region id l.toArray false) y) Q s L:=
 TJ.seq (TJ.region ow (h _ fun _ _ h=>h))
theorem TJ.eQ {id:Nat} {l:List Oper} (ow:Nat->Bool) (h:∀K:St->Ts->Prop,(∀s' L',Q .normal s' L'->K s' L')->kC P n l.toArray ow K 0 l s L):TJ P n (.region id l.toArray false) Q s L:=
 TJ.region ow (h _ fun _ _ h=>h)
def Th (P:Program) (n:Nat) (c:Code) (Q:Exit->St->Ts->Prop) (L:Ts):Exit->St->Prop
 |.normal,s=>TJ P n c Q s L
 |e,s=>Q e s L
variable {f:FuncId} {xs as_:List AV} {r:AV} {K:AV->List (List CV)->List bz->Ts->Prop}
theorem Fx (h:gE P s f xs fun x V A=>K x V A L):oh P s L f xs K:=.inl h
theorem bL (b8:ig s.A [] xs=some as_) (hc:ah P f as_ [] r [] []) (hK:K (r.fN [] s.V.length s.A.length) s.V (bT s.A (bD xs)) L):oh P s L f xs K:=.inl (aa b8 hc hK)
theorem dP {R:AV->Ts->Prop} (Fw:iw L xs as_) (hc:aT P f as_ [] R) (hK:∀r L1,R r L1->K r s.V s.A (L1++L)):oh P s L f xs K:=.inr ⟨as_,[],L,R,by simp,Fw,hc,hK⟩
theorem aS {R:AV->Ts->Prop} {L1 L2:Ts} (hp:L.Perm (L1++L2)) (Fw:iw L2 xs as_) (hc:aT P f as_ L1 R) (hK:∀r L1,R r L1->K r s.V s.A (L1++L2)):oh P s L f xs K:=.inr ⟨as_,L1,L2,R,hp,Fw,hc,hK⟩
def CV.jN:CV->Bool
 |.d x=>x.jN
 |.np=>true
 |_=>false
def AV.KY:AV->Bool
 |.c x=>x.jN
 |.agg xs=>xs.all CV.jN
 |.a8 _=>false
def AV.jN:AV->Bool
 |.a8 xs=>xs.all AV.KY
 |x=>x.KY
theorem aT.plain (hc:aT P f as_ [] fun r' L'=>r'=r):ah P f as_ [] r [] []:=by
 refine⟨hc.1,ZB _,fun g w vs h2 hI hT hl hr=>?_⟩;have h1:g.ob=[]:=Z8.1 (by simpa using hI.oT);refine(hc.2 g w vs [] h1 h2 hI hT hl hr rfl List.nodup_nil (by simp)).mono ?_;rintro e w' ⟨v,r',L',S',rfl,rfl,h3,_,_,_,h4,h5,h6,h7,h8⟩;have ay:∀b o,o<g.im b->b<w.heap.size:=fun b o h=>hI.E0 h
 refine⟨v,g,rfl,h3 g w' [],⟨hI.oT,hI.lQ,fun l row b h=>by simp at h,fun k r v h=>by simp at h,hI.kH,hI.jj,hI.jr,fun b hb=>hI.fresh b (by omega)⟩,
  h4,h5,h6,h7,fun b hb _ _=>h8 b hb (by simp),fun _ _ _=>rfl,⟨[],by simp,by simp⟩,fun k v b h=>by rw[h2]at h;simp at h,fun k v h=>by rw[h2]at h;simp at h,hT⟩
end
def eY (k:Option (Nat×Nat×Value)):CV->Option CV
 |.d x=>if x.jN=true then some (.d x)else none
 |.np=>some .np
 |.nil=>some (.d (.raw (.slice none 0 0)))
 |.own j m=>match k with
  |some (i,m',v)=>if j=i/\m=m' then some (.d (.raw v))else none
  |none=>none
 |_=>none
def fw (k:Option (Nat×Nat×Value)):List CV->Option (List CV)
 |[]=>some []
 |c::r=>match eY k c,fw k r with
  |some d,some ds=>some (d::ds)
  |_,_=>none
def fi (k:Option (Nat×Nat×Value)):AV->Option AV
 |.c x=>(eY k x).map AV.c
 |.agg xs=>(fw k xs).map AV.agg
 |.a8 _=>none
def cY (k:Option (Nat×Nat×Value)):List AV->Option (List AV)
 |[]=>some []
 |c::r=>match fi k c,cY k r with
  |some d,some ds=>some (d::ds)
  |_,_=>none
section
variable {g g':Gh} {w w':World} {A A':List bz} {k:Option (Nat×Nat×Value)}
def HE (g:Gh) (A:List bz) (k:Option (Nat×Nat×Value)):Prop:=∀i m v,k=some (i,m,v)->v.oneCell'=true/\∃r,A[i]? =some r/\m=r.rows.length/\g.ar[i]? =some v
theorem wU (hk:HE g A k) {c d:CV} {u:Value} (h:eY k c=some d) (hr:br g w A c u):br g' w' A' d u:=by
 cases c with
 |d x=>
  simp only[eY]at h;split at h
  ·rename_i hs;simp at h;subst h;exact DV.sD hs hr
  ·cases h
 |np=>simp only[eY,Option.some.injEq]at h;subst h;exact hr
 |nil=>
  simp only[eY,Option.some.injEq]at h;subst h;simp only[br]at hr;subst hr;exact⟨rfl,rfl⟩
 |own j m=>
  simp only[eY]at h;split at h
  ·rename_i i m' v;split at h
   ·rename_i e;obtain⟨rfl,rfl⟩:=e;simp at h;subst h;obtain⟨h1,r,h2,h3,h4⟩:=hk _ _ _ rfl;obtain⟨a,cap,_,r',h5,_,h6⟩:=hr;rw[h2]at h5;cases h5;have h7:=h6 h3;rw[h4]at h7;cases h7
    exact⟨rfl,h1⟩
   ·cases h
  ·cases h
 |_=>simp[eY]at h
theorem Em:∀{cs ds:List CV},fw k cs=some ds->ds.length=cs.length/\∀(j:Nat) c d,cs[j]? =some c->ds[j]? =some d->eY k c=some d
 |[],ds,h=>by simp[fw]at h;subst h;exact⟨rfl,fun j c d h=>by simp at h⟩
 |c::r,ds,h=>by
  simp only[fw]at h;split at h
  ·rename_i d ds' h1 h2;simp at h;subst h;obtain⟨h3,h4⟩:=Em h2;refine⟨by simp[h3],fun j c' d' h5 h6=>?_⟩;cases j with
   |zero=>simp at h5 h6;subst h5;subst h6;exact h1
   |succ j=>simp at h5 h6;exact h4 j c' d' h5 h6
  ·simp at h
theorem BG:∀{cs ds:List AV},cY k cs=some ds->ds.length=cs.length/\∀(j:Nat) c d,cs[j]? =some c->ds[j]? =some d->fi k c=some d
 |[],ds,h=>by simp[cY]at h;subst h;exact⟨rfl,fun j c d h=>by simp at h⟩
 |c::r,ds,h=>by
  simp only[cY]at h;split at h
  ·rename_i d ds' h1 h2;simp at h;subst h;obtain⟨h3,h4⟩:=BG h2;refine⟨by simp[h3],fun j c' d' h5 h6=>?_⟩;cases j with
   |zero=>simp at h5 h6;subst h5;subst h6;exact h1
   |succ j=>simp at h5 h6;exact h4 j c' d' h5 h6
  ·simp at h
theorem De (hk:HE g A k) {c d:AV} {u:Value} (h:fi k c=some d) (hr:aW g w A c u):dL g' w' A' d u:=by
 cases c with
 |c x=>
  simp only[fi,aaF]at h;obtain⟨y,h1,rfl⟩:=h;exact wU (w:=w) hk h1 hr
 |agg xs=>
  simp only[fi,aaF]at h;obtain⟨ys,h1,rfl⟩:=h;obtain⟨h2,h3⟩:=Em h1;obtain⟨vs,e,hl,hc⟩:=hr;refine⟨vs,e,by omega,fun i y u h4 h5=>?_⟩;have hi:i<xs.length:=by have:=(ZQ.1 h4).1;omega
  exact wU (w:=w) hk (h3 i _ y (ZO hi) h4) (hc i _ u (ZO hi) h5)
 |a8 _=>simp[fi]at h
theorem yY (hk:HE g A k) {xs ys:List AV} {us:List Value} (h:cY k xs=some ys) (hl:us.length=xs.length) (hr:∀(i:Nat) x u,xs[i]? =some x->us[i]? =some u->aW g w A x u):
  Fv (one ys) (if h:us.toArray.size=1 then us.toArray[0]else .tuple us.toArray):=by
 obtain⟨h1,h2⟩:=BG h;have hE:∀(i:Nat) y u,ys[i]? =some y->us[i]? =some u->∀g w A,dL g w A y u:=fun i y u h4 h5 g' w' A'=>by
  have hi:i<xs.length:=by have:=(ZQ.1 h4).1;omega
  exact De (w:=w) hk (h2 i _ y (ZO hi) h4) (hr i _ u (ZO hi) h5)
 have di:∀y∈ys,∀zs,y≠.a8 zs:=fun y hy zs e=>by
  subst e;obtain⟨i,hi⟩:=Z2 hy;have EZ:i<us.length:=by have:=(ZQ.1 hi).1;omega
  exact hE i _ us[i] hi (ZO EZ) g w A
 intro g' w' A'
 match ys,us with
 |[y],[u]=>
  have:=hE 0 y u rfl rfl g' w' A';simp only[one,List.size_toArray,Z0,Z7,ZE,dite_true,List.getElem_toArray,List.getElem_cons_zero];cases y with
  |a8 zs=>exact absurd rfl (di _ (by simp) zs)
  |c x=>exact this
  |agg x=>exact this
 |[],us=>
  have:us=[]:=Z8.1 (by simp at h1;omega);subst this;exact⟨[],rfl,rfl,fun i x u h=>by simp at h⟩
 |y::z::r,us=>
  have fB:¬us.toArray.size=1:=by simp at h1⊢;omega
  rw[dif_neg fB];exact⟨us,rfl,by omega,fun i x u h3 h4=>hE i x u h3 h4 g' w' A'⟩
 |[y],[]=>simp at h1 hl;omega
 |[y],_::_::_=>simp at h1 hl;omega
end
def rm (L:Ts):Prop:=∀p∈L,∃e sz,p=(.t e sz 0 [],.slice none 0 0)
theorem rm.nF {w:World}:∀{L:Ts},rm L->iI w L []
 |[],_=>rfl
 |p::L,h=>by
  obtain⟨e,sz,rfl⟩:=h p (by simp);refine⟨[],[],rfl,?_,rm.nF fun q hq=>h q (by simp[hq])⟩;simp only[Tr];exact⟨[],[],⟨by simp,.inl ⟨rfl,rfl⟩⟩,by simp[kN],rfl⟩
theorem rm.nil:rm []:=fun p hp=>by cases hp
def bA (P:Program) (fn:Func) (R:AV->Ts->Prop) (e:Exit) (s:St) (L:Ts):Prop:=
 (e=.normal\/e=.ret)/\∃xs,ft P s fn.results.toList=some xs/\
  ((∃ys L' M Ln,cY none xs=some ys/\rm Ln/\(L++Ln).Perm (L'++M)/\R (one ys) L')\/
  (∃k r cs Lc L2 Ln,s.A[k]? =some r/\r.wr=true/\Mk cs r.rows.flatten Lc/\L.Perm (Lc++L2)/\rm Ln/\
    ∀v,∃ys L' M,cY (some (k,r.rows.length,v)) xs=some ys/\((.t r.ev r.sz r.rows.length cs,v)::L2++Ln).Perm (L'++M)/\R (one ys) L'))
section
variable {P:Program} {f:FuncId} {fn:Func} {c:Code} {as_:List AV} {L:Ts} {R:AV->Ts->Prop}
theorem BH {w:World} {e:TypeId} {sz n:Nat} {v:Value} {xs:List Value} (h:w.ownsRow 0 e sz v n xs):v.oneCell'=true:=by
 rcases h.2 with⟨rfl,_⟩|⟨g,cap,cur,rfl,_⟩<;>rfl
set_option maxHeartbeats 1000000 in
theorem aT.cD (hf:P.funcs[f]? =some fn) (kg:(fn.name== "runtime.NumGoroutine")=false) (hb:fn.body=some c) (eP:codeOk fn.ntmps c=true) (hn:as_.length<=fn.ntmps)
  (h:TJ P fn.ntmps c (bA P fn R) ⟨kU as_,[],[]⟩ L):aT P f as_ L R:=by
 refine⟨enters hf kg hb,fun g w vs S IV MS hI hT hl hr hS oU hz=>calls_of_wp hf hb ?_⟩;have hR:rl fn.ntmps w g S ⟨kU as_,[],[]⟩ L S g {tmps:=vs++aaw (fn.ntmps-vs.size) undef,defers:=[]} w:=by
  refine⟨hI,wR.refl hT fun b hb=>(hz b hb).2,by simp;omega,rfl,fun t x hx=>?_,hS,oU,fun b hb=>⟨(hz b hb).1,by simp[IV],by simp[Gh.jB,MS],(hz b hb).2,.inr hb⟩⟩;obtain⟨_,hx⟩:=q9 as_ 0 t x hx;rw[Nat.sub_zero]at hx;have ht:t<vs.size:=by have:=(ZQ.1 hx).1;omega
  exact⟨vs[t],by rw[Array.getElem?_append_left ht];simp[ht],hr t x _ hx (by simp[ht])⟩
 refine Go.wp_mono (h eP w g S S g _ w hR) ?_;rintro e a' w' ⟨s',g',L',S',⟨hex,xs,NB,hd⟩,vE⟩;obtain⟨us,AR,MN,fC⟩:=q8 vE.inv vE.slot NB;have wk:(results fn a'.tmps).run P w'=.ok (if h:us.toArray.size=1 then us.toArray[0]else .tuple us.toArray) w':=by
  rw[wj,Sem.run_bind,Array.mapM_eq_mapM_toList];have hm:(List.toArray<$>fn.results.toList.mapM (pz a'.tmps)).run P w'=.ok us.toArray w':=by
   simp[fC]
  rw[hm]
  rfl
 have hF:=vE.fr
 have Fy:∀(r:AV) (L'':Ts) (S'':List Nat),R r L''->Fv r (if h:us.toArray.size=1 then us.toArray[0]else .tuple us.toArray)->iI w' L'' S''->S''.Nodup->(∀b∈S'',b∈S\/w.heap.size<=b)->
   a'.defers=[]/\∃v,(results fn a'.tmps).run P w'=.ok v w'/\∃v1 r L' S',Ending.returned v=.returned v1/\R r L'/\Fv r v1/\iI w' L' S'/\S'.Nodup/\(∀b∈S',b∈S\/w.heap.size<=b)/\
    w'.os=w.os/\w'.tape=w.tape/\w'.output=w.output/\w.heap.size<=w'.heap.size/\∀b,b<w.heap.size->b∉S->w'.heap[b]? =w.heap[b]? :=
  fun r L'' S'' h1 h2 h3 h4 h5=>⟨vE.defers,_,wk,_,r,L'',S'',rfl,h1,h2,h3,h4,h5,hF.os,hF.tape,hF.output,hF.size,fun b hb Tg=>hF.qE b hb (by simp[IV]) (by simp[Gh.jB,MS]) Tg⟩
 have On:∀b∈S',b∈S\/w.heap.size<=b:=fun b hb=>by rcases(vE.out b hb).2.2.2.2 with q|q;exact .inr q;exact .inl q
 have Hc:a'.defers=[]/\∃v,(results fn a'.tmps).run P w'=.ok v w'/\∃v1 r L' S',Ending.returned v=.returned v1/\R r L'/\Fv r v1/\iI w' L' S'/\S'.Nodup/\(∀b∈S',b∈S\/w.heap.size<=b)/\
    w'.os=w.os/\w'.tape=w.tape/\w'.output=w.output/\w.heap.size<=w'.heap.size/\∀b,b<w.heap.size->b∉S->w'.heap[b]? =w.heap[b]? :=by
  rcases hd with⟨ys,L1,M,Ln,h1,h2,h3,h4⟩|⟨k,r,cs,Lc,L2,Ln,hk,hw,HF,hp,la,hv⟩
  ·have JL:iI w' (L'++Ln) (S'++[]):=iI.app.2 ⟨S',[],rfl,vE.nF,h2.nF⟩;rw[Z4]at JL;obtain⟨S1,h5,h6⟩:=JL.perm h3;obtain⟨S2,S3,rfl,h7,_⟩:=iI.app.1 h6;refine Fy (one ys) L1 S2 h4 (yY (g:=g') (A:=s'.A) (w:=w') (k:=none) (fun i m v e=>by cases e) h1 AR MN) h7 (ZR.1 (h5.nodup_iff.1 vE.nd)).1 fun b hb=>On b (h5.mem_iff.2 (by simp[hb]))
  ·obtain⟨v,og⟩:∃v,g'.ar[k]? =some v:=by
    have:k<g'.ar.length:=by rw[vE.inv.lQ];exact(ZQ.1 hk).1
    exact⟨_,ZO this⟩
   obtain⟨hlen,qV,cells,dQ,nN⟩:=vE.inv.arr k r v hk og;obtain⟨ys,L1,M,h1,h3,h4⟩:=hv v;obtain⟨S0,h5,h6⟩:=vE.nF.perm hp;obtain⟨Sc,S2,rfl,h7,h8⟩:=iI.app.1 h6;have xK:cells.length=r.rows.flatten.length:=by
    have hx:∀(rows:List (List DV)),(∀row∈rows,row.length=r.sz)->rows.flatten.length=rows.length*r.sz:=by
     intro rows;induction rows with
     |nil=>simp
     |cons x xs ih=>intro hx;rw[List.flatten_cons,List.length_append,hx x (by simp),ih (fun y hy=>hx y (by simp[hy])),Z0,ZL];omega
    rw[dQ.1,hx r.rows hlen]
   have US:=HF.PZ xK nN h7;have lT:Tr w' (.t r.ev r.sz r.rows.length cs) v (v.ownBlock.toList++Sc):=by
    simp only[Tr];exact⟨cells,Sc,dQ,US,rfl⟩
   have JL:iI w' ((.t r.ev r.sz r.rows.length cs,v)::L2++Ln) ((v.ownBlock.toList++Sc)++S2):=by
    refine⟨_,S2++[],by simp,lT,iI.app.2 ⟨S2,[],rfl,h8,la.nF⟩⟩
   obtain⟨S1,h9,cO⟩:=JL.perm h3;obtain⟨S4,S5,rfl,eE,_⟩:=iI.app.1 cO;have yo:(Sc++S2).Nodup:=h5.nodup_iff.1 vE.nd;have Jc:∀b,v.ownBlock=some b->b∉Sc++S2/\(b∈S\/w.heap.size<=b):=fun b hb=>by
    refine⟨fun hm=>(vE.out b (h5.mem_iff.2 hm)).2.2.1 (Gh.jX og hb),?_⟩;rcases hF.ar k v b og hb with q|q|q
    ·exact .inr q
    ·simp[Gh.jB,MS]at q
    ·exact .inl q
   have HG:((v.ownBlock.toList++Sc)++S2).Nodup:=by
    rw[ZX];cases Jo:v.ownBlock with
    |none=>simpa using yo
    |some b=>simpa using⟨by simpa using(Jc b Jo).1,by simpa using yo⟩
   refine Fy (one ys) L1 S4 h4 (yY (g:=g') (A:=s'.A) (w:=w') (k:=some (k,r.rows.length,v)) (fun i m v' e=>by cases e;exact⟨BH dQ,r,hk,rfl,og⟩) h1 AR MN) eE (ZR.1 (h9.nodup_iff.1 HG)).1 fun b hb=>?_
   have hm:b∈(v.ownBlock.toList++Sc)++S2:=h9.mem_iff.2 (by simp[hb]);rw[ZX]at hm;rcases ZP.1 hm with q|q
   ·exact(Jc b (by simpa using q)).2
   ·exact On b (h5.mem_iff.2 q)
 rcases hex with rfl|rfl<;>exact Hc
theorem aT.ob {N:Nat} (hf:P.funcs[f]? =some fn) (hN:fn.ntmps=N) (hb:fn.body=some c) (h:TJ P N c (bA P fn R) ⟨kU as_,[],[]⟩ L) (kg:(fn.name== "runtime.NumGoroutine")=false:=by kernel_rfl) (eP:codeOk N c=true:=by kernel_rfl) (hn:as_.length<=N:=by simp):aT P f as_ L R:=by
 subst hN;exact aT.cD hf kg hb eP hn h
def Ti (P:Program) (fn:Func) (ev:TypeId) (sz n:Nat) (R:AV->List GC->Prop) (e:Exit) (s:St) (L:Ts):Prop:=
 (e=.normal\/e=.ret)/\∃xs ys rows cs Lc M,ft P s fn.results.toList=some xs/\cY none xs=some ys/\s.A[0]? =some ⟨sz,ev,rows,true⟩/\rows.length=n/\Mk cs rows.flatten Lc/\L.Perm (Lc++M)/\R (one ys) cs
end
theorem iq.jv {L:Ts} {c:GC} {v:Value} {x:DV} (h:(c,v)∈L) (e:c.dv=x/\c.pl=true):iq L (.d (.raw v)) (.d x):=e.1▸iq.Oi h e.2
mutual
def BI (e:TypeId):aI->List GC
 |.mk k l=>[.d (.i k),.t e 2 l.length (df e l)]
def df (e:TypeId):List aI->List GC
 |[]=>[]
 |t::r=>BI e t++df e r
end
def jf (e:TypeId) (l:List aI):GC:=.t e 2 l.length (df e l)
theorem tS (e:TypeId) (t:aI):BI e t=[.d (.i t.kind),jf e t.kids]:=by cases t;simp[BI,jf]
theorem rq:∀(l m:List GC),yn (l++m)=yn l++yn m
 |[],_=>rfl
 |x::l,m=>by simp[yn,rq l m]
theorem uX {α:Type} {sz:Nat} (n:Nat) {r l:List α} (h:r.length=sz):chunks sz (n+1) (r++l)=r::chunks sz n l:=by
 simp only[chunks];rw[List.take_left' h,List.drop_left' h]
mutual
theorem HH (e:TypeId):∀(t:aI),yn (BI e t)=ck t
 |.mk k l=>by
  have:=tT e l;rw[tS,aJ];simp only[yn,GC.dv,jf,aI.bX,aI.bQ,this]
theorem tT (e:TypeId):∀(l:List aI),chunks 2 l.length (yn (df e l))=l.map ck
 |[]=>rfl
 |t::r=>by
  have h1:=HH e t;have h2:=tT e r;rw[df,rq,h1,Z0,uX _ (by rw[aJ];rfl),h2,Z5]
end
theorem HI (e:TypeId) (l:List aI):(jf e l).dv=.sl (l.map ck):=by
 simp only[jf,GC.dv,tT]
theorem rr:∀(l m:List GC),BD (l++m)=(BD l && BD m)
 |[],_=>by simp[BD]
 |x::l,m=>by simp[BD,rr l m,Bool.and_assoc]
mutual
theorem HJ (e:TypeId):∀(t:aI),BD (BI e t)=true
 |.mk k l=>by
  have:=tU e l;rw[tS];simp only[BD,GC.pl,jf,aI.bQ,this,aaE]
theorem tU (e:TypeId):∀(l:List aI),BD (df e l)=true
 |[]=>rfl
 |t::r=>by rw[df,rr,HJ e t,tU e r];rfl
end
theorem kO (e:TypeId) (l:List aI):(jf e l).dv=.sl (l.map ck)/\(jf e l).pl=true:=⟨HI e l,by simp only[jf,GC.pl,tU]⟩
abbrev Rt (t:aI) (v:Value):List DV:=[.i t.kind,.raw v]
theorem qi (e:TypeId):∀{l:List aI} {vs:List Value},vs.length=l.length->Mk (df e l) (ZS Rt l vs).flatten ((l.map fun t=>jf e t.kids).zip vs)
 |[],[],_=>.nil
 |t::r,v::vs,h=>by
  rw[df,tS];exact .d rfl (.t (qi e (by simpa using h)))
def Tj {α β:Type} (f:α->β->List DV) (z:List DV) (l:List α) (vs:List β):List (List DV):=ZS f l vs++aad (l.length-vs.length) z
section
variable {α β:Type} {f:α->β->List DV} {z:List DV} {l:List α} {vs:List β}
theorem HK {γ:Type} {g:α->γ} {a:α} (h:l[vs.length]? =some a) (v:β):(l.map g).zip (vs++[v])=(l.map g).zip vs++[(g a,v)]:=by
 obtain⟨h1,h2⟩:=ZQ.1 h;have hl:l.map g=(l.take vs.length).map g++g a::(l.drop (vs.length+1)).map g:=by
  rw[<-h2,<-Z5,<-List.map_append,<-aap h1,ZY]
 have ht:((l.take vs.length).map g).length=vs.length:=by rw[aai,Z6];omega
 rw[hl];generalize (l.take vs.length).map g=A at ht;generalize (l.drop (vs.length+1)).map g=B;have e:(A++g a::B).zip (vs++[])=A.zip vs:=by rw[aab ht];simp
 rw[Z4]at e;rw[e,aab ht];simp
end
attribute [simp] ch eY fw fi cY
section
variable {P:Program} {fn:Func} {R:AV->Ts->Prop} {e:Exit} {s:St} {L L' M Lc:Ts} {r r':AV}
theorem bA.agg (he:e=.normal\/e=.ret) (hr:ft P s fn.results.toList=some [r]) (hs:cY none [r]=some [r']) (hp:L.Perm (L'++M)) (hR:R r' L'):bA P fn R e s L:=
 ⟨he,[r],hr,.inl ⟨[r'],L',M,[],hs,.nil,by simpa using hp,hR⟩⟩
theorem bA.sE {Ln:Ts} (he:e=.normal\/e=.ret) {rs rs':List AV} (hr:ft P s fn.results.toList=some rs) (hs:cY none rs=some rs') (hn:rm Ln) (hR:R (one rs') Ln):bA P fn R e s L:=
 ⟨he,rs,hr,.inl ⟨rs',Ln,L,Ln,hs,hn,List.perm_append_comm,hR⟩⟩
theorem bA.a8 (he:e=.normal\/e=.ret) {rs rs':List AV} (hr:ft P s fn.results.toList=some rs) (hs:cY none rs=some rs') (hp:L.Perm (L'++M)) (hR:R (one rs') L'):bA P fn R e s L:=
 ⟨he,rs,hr,.inl ⟨rs',L',M,[],hs,.nil,by simpa using hp,hR⟩⟩
end
section
variable {P:Program} {n:Nat} {Q:Exit->St->Ts->Prop} {s s':St} {L L':Ts} {c:Code}
theorem TJ.conv (h:∀(g:Gh) (a:Act) (w:World),Rp n w g s g a w->∃g',Rp n w g s' g' a w) (h2:TJ P n c Q s' L):TJ P n c Q s L:=by
 intro eP w0 g0 X S g a w hR;obtain⟨g',vE⟩:=h g a w hR.rp;exact h2 eP w0 g0 X S g' a w (hR.back vE)
theorem TJ.px (t:Nat) (sz:Nat) (e:TypeId) (ht:look s.fr t=some (.c .nil)) (h:TJ P n c Q ⟨(t,.c (.own s.A.length 0))::s.fr,s.V,s.A++[⟨sz,e,[],true⟩]⟩ L):TJ P n c Q s L:=by
 refine TJ.conv (fun g a w hR=>?_) h
 obtain⟨g1,KH,qa,tj,fj,dB,kF⟩:=hR.inv.qW hR.fr {sz:=sz,ev:=e,rows:=[],wr:=true} (.slice none 0 0) [] (by simp) (World.ownsRow_nil w 0 e sz) (fun j x u h=>by simp at h) (fun b h=>by simp[Value.ownBlock]at h);refine⟨g1,fj,kF,hR.size,hR.defers,fun t' x hx=>?_⟩;simp only[look]at hx;by_cases e':t'=t
 ·subst e';simp at hx;subst hx;obtain⟨u,h1,h2⟩:=hR.slot t' _ ht;refine⟨u,h1,?_⟩;simp only[aW,dL,br]at h2;subst h2;exact⟨none,0,rfl,_,by simp;rfl,ZC _,fun _=>by rw[tj,Z3 (by rw[hR.inv.lQ];exact ZB _),hR.inv.lQ];simp⟩
 ·rw[if_neg e']at hx;obtain⟨u,h1,h2⟩:=hR.slot t' x hx;exact⟨u,h1,aW.ext dB h2⟩
theorem TJ.dq (l j:Nat) (sz:Nat) (e:TypeId) {row:List CV} (hl:s.V[l]? =some row) (hj:row[j]? =some .nil) (h:TJ P n c Q ⟨s.fr,s.V.set l (row.set j (.own s.A.length 0)),s.A++[⟨sz,e,[],true⟩]⟩ L):TJ P n c Q s L:=by
 refine TJ.conv (fun g a w hR=>?_) h
 obtain⟨g1,KH,qa,tj,fj,dB,kF⟩:=hR.inv.qW hR.fr {sz:=sz,ev:=e,rows:=[],wr:=true} (.slice none 0 0) [] (by simp) (World.ownsRow_nil w 0 e sz) (fun j x u h=>by simp at h) (fun b h=>by simp[Value.ownBlock]at h);refine⟨g1,?_,kF,hR.size,hR.defers,fun t' x hx=>?_⟩
 ·refine⟨by simpa using fj.oT,fj.lQ,fun l' row' b h1 h2=>?_,fj.arr,fj.kH,fj.jj,fj.jr,fj.fresh⟩;have mu:(s.V.set l (row.set j (.own s.A.length 0)))[l']? =some row':=h1;rw[dw hl]at mu;by_cases e':l'=l
  ·subst e';simp at mu;subst mu;obtain⟨h3,cs,ty,h4,h5,h6⟩:=fj.obj l' row b hl h2;refine⟨h3,cs,ty,h4,by simpa using h5,fun i c u h7 h8=>?_⟩;rw[dw hj]at h7;by_cases e'':i=j
   ·subst e'';simp at h7;subst h7;have h9:=h6 i _ u hj h8;simp only[br]at h9;subst h9;exact⟨none,0,rfl,_,by simp;rfl,ZC _,fun _=>by rw[tj,Z3 (by rw[hR.inv.lQ];exact ZB _),hR.inv.lQ];simp⟩
   ·rw[if_neg e'']at h7;exact h6 i c u h7 h8
  ·rw[if_neg e']at mu;exact fj.obj l' row' b mu h2
 ·obtain⟨u,h1,h2⟩:=hR.slot t' x hx;exact⟨u,h1,aW.ext dB h2⟩
theorem TJ.dD {α:Type} (ks:List Nat) (ph:α->List (Nat×AV)) (ob:α->List (Nat×List CV)) (G:α->List (List CV)) (ar:α->List bz->List bz) (tr:α->Ts) (m:α->Nat) (H:α->Prop) {fr0:List (Nat×AV)} (hk:gJ ks s.fr=fr0)
  (h:∀a,H a->TJ P n c (Dd (fun a=>⟨ph a++fr0,gy (ob a) s.V++G a,ar a s.A⟩) tr m H (m a) Q) ⟨ph a++fr0,gy (ob a) s.V++G a,ar a s.A⟩ (tr a)) (a:α) (ha:H a) (hV:gy (ob a) s.V++G a=s.V) (hA:ar a s.A=s.A) (hp:kj (ph a) s.fr) {M:Ts} (hL:L.Perm (tr a++M)):TJ P n (.loop c) Q s L:=by
 subst hk;exact TJ.fW (fun a=>⟨ph a++gJ ks s.fr,gy (ob a) s.V++G a,ar a s.A⟩) tr m H h a ha ⟨hV,hA,hp.app (tM ks s.fr)⟩ hL
end
end Go.Av
namespace Go.Av
open Go
def Ru (o:Oper):Oper:={o with dst:=none,op:=.assign (.const (.bool true)),guard:=none}
def Tk (l:List Oper):List Oper:=match l.getLast? with
 |some o=>l.dropLast++[Ru o]
 |none=>[]
def Rv (l:List Oper):Bool:=match l.getLast? with
 |some o=>o.guard.isNone &&(l.zipIdx.all fun(x,j)=>x.after.all fun e=> !Region.binds .any e||decide (e.on<j))&&(l.dropLast.all fun x=>match x.guard with|some (q,_)=>decide (q<l.length-1)|none=>true)
   &&((ZM (l.length-1)).all fun k=>((bc l []).getD (l.length-1) 0).testBit k)
 |none=>false
section
variable {P:Program}
def Rw (l:List Oper):List Oper:=match l.getLast? with
 |some o=>[o]
 |none=>[]
end
section
variable {P:Program} {n:Nat} {w0 w w':World} {g0 g g':Gh} {X S S':List Nat} {s s':St} {L L':Ts} {a a':Act} {x y:Code} {all:Array Oper} {ws:List Nat}
def sF (P:Program) (L:Ts) (f:FuncId) (xs:List AV) (K:AV->Ts->Prop):Prop:=∃(as_:List AV) (L1 L2:Ts) (R:AV->Ts->Prop),L.Perm (L1++L2)/\iw L2 xs as_/\aT P f as_ L1 R/\∀r L1',R r L1'->K r (L1'++L2)
def cb (P:Program) (s:St) (L:Ts) (o:Oper) (K:AV->Ts->Prop):Prop:=
 match o.op with
 |.call {callee:=.value f,args,.. }=>bU (bH s f) fun fv=>match fv with
  |.c (.fn fid [])=>bU (iB s args.toList) fun xs=>sF P L fid xs K
  |_=>False
 |_=>False
theorem qj {o:Oper} {K K':AV->Ts->Prop} (hk:∀x L,K x L->K' x L) (h:cb P s L o K):cb P s L o K':=by
 unfold cb at h⊢;split at h
 ·refine nR (fun fv h1=>?_) h;split at h1
  ·exact nR (fun xs ⟨as_,L1,L2,R,h2,h3,h4,h5⟩=>⟨as_,L1,L2,R,h2,h3,h4,fun r L1' hr=>hk _ _ (h5 r L1' hr)⟩) h1
  ·exact h1
 ·exact h
theorem pO {cU:List (Nat×AV)} {V:List (List CV)} {A:List bz} {ow:Bool} {o:Oper} {K:AV->Ts->Prop} (he:∀x∈o.op.operands.toList,bH ⟨cU,V,A⟩ x=bH s x) (h:cb P s L o K):ch P ⟨cU,V,A⟩ L ow o fun x V' A' L'=>V'=V/\A'=A/\K x L':=by
 unfold cb at h;unfold ch;split at h
 ·rename_i f args wz heq;simp only[heq]at he⊢;have e1:bH ⟨cU,V,A⟩ f=bH s f:=he f (by simp[Op.operands,Call.operands]);have e2:iB ⟨cU,V,A⟩ args.toList=iB s args.toList:=l6 fun p hp=>he p (by simp[Op.operands,Call.operands];exact .inr (by simpa using hp))
  rw[e1];refine nR (fun fv h1=>?_) h;split at h1
  ·simp only[e2,List.map_nil,Z4];refine nR (fun xs h2=>?_) h1;obtain⟨as_,L1,L2,R,h2,h3,h4,h5⟩:=h2;exact .inr ⟨as_,L1,L2,R,h2,h3,h4,fun r L1' hr=>⟨rfl,rfl,h5 r L1' hr⟩⟩
  ·exact h1.elim
 ·exact h.elim
def qN (P:Program) (ow:Nat->Bool) (ws cs:List Nat) (K:St->Ts->Prop):Nat->List Oper->St->Ts->Prop
 |_,[],s,L=>K s L
 |i,o::rest,s,L=>(i∈cs/\cb P s L o fun x L'=>qN P ow ws cs K (i+1) rest (s.put o.dst x s.V s.A) L')\/
   (i∉cs/\bJ P s (ow i) o fun x V A=>(i∈ws\/(V=s.V/\A=s.A))/\qN P ow ws cs K (i+1) rest (s.put o.dst x V A) L)
def JN (P:Program) (ow:Bool) (o:Oper) (s s':St):Prop:=∃x V A,s'=s.put o.dst x V A/\∀K:AV->List (List CV)->List bz->Prop,K x V A->bJ P s ow o K
def M6 (ws:List Nat) (j:Nat) (o:Oper) (s s':St):Prop:=∃x V A,s'=s.put o.dst x V A/\(j∈ws\/(V=s.V/\A=s.A))
theorem pP {ow:Nat->Bool} {cs:List Nat} {K:St->Ts->Prop}:∀(ops:List Oper) (i:Nat) (s:St) (L:Ts),qN P ow ws cs K i ops s L->
  ∃(τ:Nat->St) (m:Nat),m<=ops.length/\τ 0=s/\(∀(j:Nat) o,j<m->ops[j]? =some o->JN P (ow (i+j)) o (τ j) (τ (j+1))/\M6 ws (i+j) o (τ j) (τ (j+1)))/\
   ((m=ops.length/\K (τ m) L)\/(i+m∈cs/\∃o,ops[m]? =some o/\cb P (τ m) L o fun x L'=>qN P ow ws cs K (i+m+1) (ops.drop (m+1)) ((τ m).put o.dst x (τ m).V (τ m).A) L'))
 |[],i,s,L,h=>⟨fun _=>s,0,ZB _,rfl,fun j o hj=>by omega,.inl ⟨rfl,h⟩⟩
 |o::rest,i,s,L,h=>by
  rcases h with⟨h1,h2⟩|⟨h1,h2⟩
  ·exact⟨fun _=>s,0,by simp,rfl,fun j o hj=>by omega,.inr ⟨h1,o,rfl,h2⟩⟩
  ·obtain⟨x,V,A,⟨h3,h4⟩,h5⟩:=gd h2;obtain⟨τ,m,k1,k2,k3,k4⟩:=pP rest (i+1) _ L h4;refine⟨fun j=>match j with|0=>s|j+1=>τ j,m+1,by simp;omega,rfl,fun j o' hj ho=>?_,?_⟩
   ·cases j with
    |zero=>
     simp at ho;subst ho;exact⟨⟨x,V,A,k2,h5⟩,x,V,A,k2,h3⟩
    |succ j=>
     simp at ho;have:=k3 j o' (by omega) ho;rwa[show i+1+j=i+(j+1) by omega]at this
   ·rcases k4 with⟨k5,k6⟩|⟨k5,o',k6,k7⟩
    ·exact .inl ⟨by simp[k5],k6⟩
    ·refine .inr ⟨by rw[show i+(m+1)=i+1+m by omega];exact k5,o',by simpa using k6,?_⟩;rw[show i+(m+1)+1=i+1+m+1 by omega];exact k7
structure Fz (all:Array Oper) (ws:List Nat) (σ:Nat->St) (c:Nat):Prop where
 le:c<=all.size
 tr:∀(j:Nat) o,j<c->all[j]? =some o->M6 ws j o (σ j) (σ (j+1))
section
variable {σ:Nat->St} {c:Nat} (hT:Fz all ws σ c) (re:∀(i j:Nat) oi oj d,all[i]? =some oi->all[j]? =some oj->oi.dst=some d->oj.dst=some d->i=j)
include hT
theorem Fz.step {j:Nat} {o:Oper} {t:Nat} (hj:j<c) (h1:all[j]? =some o) (h2:o.dst≠some t):look (σ (j+1)).fr t=look (σ j).fr t:=by
 obtain⟨x,V,A,h3,_⟩:=hT.tr j o hj h1;rw[h3];simp only[St.put];cases qZ:o.dst with
 |none=>rfl
 |some d=>simp only[look];rw[if_neg (fun e=>h2 (by rw[qZ,e]))]
theorem Fz.Oo:∀(j t:Nat),j<=c->(∀(i:Nat) o,i<j->all[i]? =some o->o.dst≠some t)->look (σ j).fr t=look (σ 0).fr t:=by
 have hc:=hT.le;intro j;induction j with
 |zero=>intro t _ _;rfl
 |succ j ih=>
  intro t hj fz;have ho:all[j]? =some all[j]:=aat (by omega);rw[hT.step (by omega) ho (fz j _ (by omega) ho)];exact ih t (by omega) (fun i o hi=>fz i o (by omega))
theorem Fz.VA:∀(b a:Nat),a<=b->b<=c->(∀i,a<=i->i<b->i∉ws)->(σ b).V=(σ a).V/\(σ b).A=(σ a).A:=by
 have hc:=hT.le;intro b;induction b with
 |zero=>
  intro a h _ _;obtain rfl:a=0:=by omega
  exact⟨rfl,rfl⟩
 |succ b ih=>
  intro a PH hb fz;by_cases e:a=b+1
  ·subst e;exact⟨rfl,rfl⟩
  ·have ho:all[b]? =some all[b]:=aat (by omega);obtain⟨h1,h2⟩:=ih a (by omega) (by omega) (fun i hi EZ=>fz i hi (by omega));obtain⟨x,V,A,h3,h4⟩:=hT.tr b _ (by omega) ho;rcases h4 with h4|⟨h4,h5⟩
   ·exact absurd h4 (fz b (by omega) (by omega))
   ·rw[h3];exact⟨h4.trans h1,h5.trans h2⟩
include re
theorem Fz.Oq:∀(j i:Nat) oi t,j<=c->i<j->all[i]? =some oi->oi.dst=some t->look (σ j).fr t=look (σ (i+1)).fr t:=by
 have hc:=hT.le;intro j;induction j with
 |zero=>intro i oi t _ h;omega
 |succ j ih=>
  intro i oi t hj lr a7 cn;by_cases e:i=j
  ·subst e;rfl
  ·have ho:all[j]? =some all[j]:=aat (by omega);rw[hT.step (by omega) ho (fun h=>e (re i j oi _ t a7 ho cn h))];exact ih i oi t (by omega) (by omega) a7 cn
end
structure Jb (w0:World) (g0:Gh) (X:List Nat) (L:Ts) (S:List Nat) (g:Gh) (w:World):Prop where
 fr:wR w0 g0 X w g
 nF:iI w L S
 nd:S.Nodup
 out:∀b∈S,g.im b=0/\b∉g.ob/\b∉g.jB/\¬o7 b/\(w0.heap.size<=b\/b∈X)
theorem Jb.cU (h:Jb w0 g0 X L S g w) (k:Fr w g w' g'):Jb w0 g0 X L S g' w':=by
 have ay:=h.nF.lt;refine⟨h.fr.fr k,h.nF.dR fun b hb=>k.qE b (ay b hb) (h.out b hb).2.1 (h.out b hb).2.2.1,h.nd,fun b hb=>?_⟩;obtain⟨h1,h2,h3,h4,h5⟩:=h.out b hb;have xR:=ay b hb;refine⟨(k.js b xR h3).trans h1,fun hm=>?_,fun hm=>?_,h4,h5⟩
 ·obtain⟨new,e,hn⟩:=k.ob;rw[e]at hm;rcases ZP.1 hm with q|q
  ·exact h2 q
  ·exact absurd (hn b q) (by omega)
 ·obtain⟨i,v,q1,q2⟩:=Gh.fL hm;rcases k.ar i v b q1 q2 with q|q
  ·omega
  ·exact h3 q
set_option maxHeartbeats 2000000 in
theorem FA {cs:List Nat} {ow:Nat->Bool} (hd:ey all ws=true) (LW:∀(j:Nat) o,all[j]? =some o->o.guard=none) (fc:da n all.toList=true) {σ:Nat->St} {c:Nat} (hT:Fz all ws σ c) {af:Array Bool} {k0:Nat} (hD:DS all ws σ n w g af k0 g a w) (gv:k0<=c) (nM:∀i,af[i]? =some true->i<c)
  {j:Nat} (hj:j∈Region.ready .any all af) (En:j<=c) {o:Oper} (ho:all[j]? =some o) {next:Act->World->Prop} {Q:Exit->Act->World->Prop}:
  (j<c->JN P (ow j) o (σ j) (σ (j+1))->(∀k1 v g' w',k1<=c->DS all ws σ n w' g' (af.setIfInBounds j true) k1 g' (a.put o.dst v) w'->Fr w g w' g'->next (a.put o.dst v) w')->wpOp P all Q j next a w)/\
  (j=c->cS o.op=false->j∉ws->Jb w0 g0 X L S g w->(∀K:AV->Ts->Prop,cb P (σ j) L o K->(∀x L' S' v g' w',K x L'->(∀σ':Nat->St,(∀i,i<=c->σ' i=σ i)->σ' (c+1)=(σ c).put o.dst x (σ c).V (σ c).A->DS all ws σ' n w' g' (af.setIfInBounds j true) k0 g' (a.put o.dst v) w')->Jb w0 g0 X L' S' g' w'->next (a.put o.dst v) w')->wpOp P all Q j next a w)):=by
 simp only[ey,aaC,ZN]at hd;obtain⟨⟨gR,jE⟩,o5⟩:=hd;have cZ:∀(j:Nat) o,all[j]? =some o->(o,j)∈all.toList.zipIdx:=fun j o h=>by
  rw[ZU];exact⟨j,by simp[ZV,h]⟩
 have c8:∀(j:Nat) o,all[j]? =some o->∀e∈o.after,Region.binds .any e=true->e.on<j:=fun j o h e he hb=>by
  have:=gR _ (cZ j o h) e (aau.2 he);simpa[hb]using this
 have b7:∀(i j:Nat) oi oj,all[i]? =some oi->all[j]? =some oj->i<j->bu all ws (bc all.toList []) oi oj i j=true:=fun i j oi oj h1 h2 ay=>by
  have:=jE _ (cZ j oj h2) _ (cZ i oi h1);simpa[ay]using this
 have uE:∀(j:Nat) o,all[j]? =some o->j∈ws->cS o.op=false:=fun j o h hj=>by
  have:=o5 _ (cZ j o h);simpa[hj]using this
 have fP:∀(i j:Nat) oi oj d,all[i]? =some oi->all[j]? =some oj->i<j->oi.dst=some d->oj.dst≠some d:=fun i j oi oj d h1 h2 ay h3 h4=>by
  have:=b7 i j oi oj h1 h2 ay;simp[bu,h3,h4]at this
 have re:∀(i j:Nat) oi oj d,all[i]? =some oi->all[j]? =some oj->oi.dst=some d->oj.dst=some d->i=j:=fun i j oi oj d h1 h2 h3 h4=>by
  rcases ZD i j with h|h|h
  ·exact absurd h4 (fP i j oi oj d h1 h2 h h3)
  ·exact h
  ·exact absurd h3 (fP j i oj oi d h2 h1 h h4)
 have zG:∀(j:Nat) o d,all[j]? =some o->o.dst=some d->d<n:=fun j o d h1 h2=>by
  have:=ZN.1 fc o (by rw[aau];exact aay h1);simpa[h2]using this
 obtain⟨Gs,_,A7⟩:=fe all.toList []
 have mX:∀{af:Array Bool},(∀(i:Nat) o,all[i]? =some o->af[i]? =some true->∀e∈o.after,Region.binds .any e=true->af[e.on]? =some true)->
   ∀(i:Nat) o,all[i]? =some o->(∀e∈o.after,Region.binds .any e=true->af[e.on]? =some true)->∀k,((bc all.toList []).getD i 0).testBit k=true->af[k]? =some true:=by
  intro af kS i;induction i using ZH with
  |_ i ih=>
   intro o ho cL k hk;obtain⟨pre,h1,h2,h3⟩:=A7 i o (by simpa using ho);simp only[Z7,ZE]at h1 h3;have h4:(bc all.toList []).getD i 0=mW pre o:=by simp[ZW,h3]
   rw[h4]at hk;obtain⟨e,he,hb,h5⟩:=fO hk;have s4:=cL e he hb;rcases h5 with rfl|h5
   ·exact s4
   ·have ay:=c8 i o ho e he hb;have h6:pre.getD e.on 0=(bc all.toList []).getD e.on 0:=by simp only[ZW,h2 e.on (by omega)]
    rw[h6]at h5;have fB:e.on<all.size:=by have:=(aas.1 ho).1;omega
    have uF:all[e.on]? =some all[e.on]:=aat fB;exact ih e.on ay _ uF (kS e.on _ uF s4) k h5
 have I5:=hT.le;have oV:=hT.Oo;have oW:=hT.Oq re;have tC:=hT.VA;obtain⟨mY,o2,mJ,cL⟩:=mem_ready.1 hj;obtain rfl:o=o2:=by rw[ho]at mJ;exact Option.some.inj mJ
 have mZ:=ep mY;have rG:j<all.size:=(aas.1 ho).1;have jk:j<af.size:=by rw[hD.eG];exact rG
 have cE:∀e∈o.after,Region.binds .any e=true->af[e.on]? =some true:=fun e he hb=>cK.1 (cL e he hb)
 have cw:∀k,((bc all.toList []).getD j 0).testBit k=true->af[k]? =some true:=mX hD.closed j o ho cE;have b4:∀(i:Nat) oi,all[i]? =some oi->af[i]? =some true->((bc all.toList []).getD i 0).testBit j=false:=fun i oi a7 bF=>by
  cases hb:((bc all.toList []).getD i 0).testBit j with
  |false=>rfl
  |true=>have:=mX hD.closed i oi a7 (hD.closed i oi a7 bF) j hb;rw[mZ]at this;simp at this
 have jJ:∀t∈o.looksAt all,∀x,look (σ j).fr t=some x->∃u,a.tmps[t]? =some u/\aW g w (σ k0).A x u:=by
  intro t ht x hx;by_cases hex:∃(i:Nat) (oi:Oper),i<j/\all[i]? =some oi/\oi.dst=some t
  ·obtain⟨i,oi,lr,a7,cn⟩:=hex;rw[oW j i oi t (by omega) lr a7 cn]at hx;have hp:=b7 i j oi o a7 ho lr;have tD:dC all oi o=true:=by simp only[dC,cn];simpa using ht
   simp only[bu,tD,aaC,aaD]at hp;have hb:((bc all.toList []).getD j 0).testBit i=true:=by simpa using hp.2
   exact hD.fU i oi t x a7 (cw i hb) cn hx
  ·rw[oV j t (by omega) (fun i oi lr a7 cn=>hex ⟨i,oi,lr,a7,cn⟩)]at hx;refine hD.fV t x (fun i oi a7 bF cn=>?_) hx;rcases ZD i j with h|h|h
   ·exact hex ⟨i,oi,h,a7,cn⟩
   ·subst h;rw[mZ]at bF;simp at bF
   ·have hp:=b7 j i o oi ho a7 h;have tD:dC all oi o=true:=by simp only[dC,cn];simpa using ht
    have hb:=b4 i oi a7 bF;simp only[bu,tD,hb,aaC,aaD]at hp;simp at hp
 let cU:=(σ j).fr.filter fun p=>(o.looksAt all).contains p.1
 have ld:∀t,look cU t=if(o.looksAt all).contains t then look (σ j).fr t else none:=fun t=>e9 (fun t=>(o.looksAt all).contains t) (σ j).fr t
 have hS:∀(V:List (List CV)),iC g w ⟨cU,V,(σ k0).A⟩ a:=fun V t x hx=>by
  simp only[ld]at hx;split at hx
  ·rename_i hc;exact jJ t (by simpa using hc) x hx
  ·cases hx
 have gG:∀(V V':List (List CV)) (A A':List bz),∀x∈o.op.operands.toList,bH ⟨cU,V,A⟩ x=bH ⟨(σ j).fr,V',A'⟩ x:=fun V V' A A' x hx=>by
  cases x with
  |tmp t=>
   simp only[bH,ld];rw[if_pos];simp only[Oper.looksAt,aar,decide_eq_true_eq,ZP,aae];exact .inl ⟨.tmp t,hx,rfl⟩
  |_=>rfl
 have gX:Rp n w g ⟨cU,(σ k0).V,(σ k0).A⟩ g a w:=⟨hD.inv,hD.fr,hD.size,hD.defers,hS _⟩;have lD:Region.wanted o (yielded all a.tmps)=true:=by simp[Region.wanted,LW j o ho]
 have bS:∀i,(af.setIfInBounds j true)[i]? =if i=j then some true else af[i]? :=fun i=>by
  by_cases e:i=j
  ·subst e;simp[jk]
  ·rw[if_neg e,aav (fun h=>e h.symm)]
 have cR:∀(σ':Nat->St) (k1:Nat) (x:AV) (v:Value) (w':World) (g':Gh),(∀i,i<=c->σ' i=σ i)->look (σ' (j+1)).fr=look ((σ j).put o.dst x [] []).fr->aW g' w' (σ k1).A x v->Inv g' w' (σ k1).V (σ k1).A->Ext g w (σ k0).A g' w' (σ k1).A->AI w' g'->k1<=c->
   (∀i∈ws,i<all.size->((af.setIfInBounds j true)[i]? =some true↔i<k1))->DS all ws σ' n w' g' (af.setIfInBounds j true) k1 g' (a.put o.dst v) w':=by
  intro σ' k1 x v w' g' hσ Cu x8 hI hx hF hk Fb;have iX:∀t u,o.dst≠some t->a.tmps[t]? =some u->(a.put o.dst v).tmps[t]? =some u:=fun t u di hu=>by
   cases qZ:o.dst with
   |none=>exact hu
   |some d=>
    simp only[Act.put];rw[aav (fun e=>di (by rw[qZ,e]))];exact hu
  refine⟨by rw[hσ k1 hk];exact hI,.refl hF,?_,?_,by simp[hD.eG],fun i oi t y a7 bF cn hy=>?_,fun t y fz hy=>?_,Fb,by omega,fun i oi a7 bF e he hb=>?_⟩
  ·cases o.dst<;>simp[Act.put,hD.size]
  ·cases o.dst<;>simp[Act.put,hD.defers]
  ·rw[hσ k1 hk];rw[bS]at bF;by_cases e:i=j
   ·subst e;obtain rfl:o=oi:=by rw[ho]at a7;exact Option.some.inj a7
    rw[Cu]at hy;simp only[St.put,cn,look,if_true]at hy;cases hy
    refine⟨v,?_,x8⟩;have:t<a.tmps.size:=by rw[hD.size];exact zG i o t ho cn
    simp[Act.put,cn,this]
   ·rw[if_neg e]at bF;rw[hσ (i+1) (nM i bF)]at hy;obtain⟨u,h1,h2⟩:=hD.fU i oi t y a7 bF cn hy;exact⟨u,iX t u (fun h=>e (re i j oi o t a7 ho cn h)) h1,aW.ext hx h2⟩
  ·rw[hσ k1 hk];rw[hσ 0 (ZC _)]at hy;have di:o.dst≠some t:=fz j o ho (by rw[bS,if_pos rfl]);obtain⟨u,h1,h2⟩:=hD.fV t y (fun i oi a7 bF=>fz i oi a7 (by
    rw[bS];by_cases e:i=j
    ·rw[if_pos e]
    ·rw[if_neg e];exact bF)) hy
   exact⟨u,iX t u di h1,aW.ext hx h2⟩
  ·rw[bS]at bF⊢;have:af[e.on]? =some true:=by
    by_cases e':i=j
    ·subst e';obtain rfl:o=oi:=by rw[ho]at a7;exact Option.some.inj a7
     exact cE e he hb
    ·rw[if_neg e']at bF;exact hD.closed i oi a7 bF e he hb
   by_cases e':e.on=j
   ·rw[if_pos e']
   ·rw[if_neg e'];exact this
 have iu:j∉ws->∀i∈ws,i<all.size->((af.setIfInBounds j true)[i]? =some true↔i<k0):=fun eu i hi b8=>by
  rw[bS,if_neg (fun e=>eu (by rw[<-e];exact hi))];exact hD.eo i hi b8
 have kV:cS o.op=false->(σ j).V=(σ k0).V/\(σ j).A=(σ k0).A:=by
  intro fI;rcases ZK j k0 with h|h
  ·have:=tC k0 j h gv (fun i h1 h2 h3=>by
    have b8:i<all.size:=by omega
    have bF:=(hD.eo i h3 b8).2 h2;have a7:all[i]? =some all[i]:=aat b8;rcases ZF j i with h4|h4
    ·have hp:=b7 j i o _ ho a7 h4;have hb:=b4 i _ a7 bF;simp only[bu,hb,aaC,aaD]at hp;simp[h3,fI,-cS]at hp
    ·obtain rfl:i=j:=by omega
     rw[mZ]at bF;simp at bF)
   exact⟨this.1.symm,this.2.symm⟩
  ·exact tC j k0 h En (fun i h1 h2 h3=>by
    have b8:i<all.size:=by omega
    have a7:all[i]? =some all[i]:=aat b8;have hp:=b7 i j _ o a7 ho h2;simp only[bu,aaC,aaD]at hp;have hb:((bc all.toList []).getD j 0).testBit i=true:=by
     rcases hp.2 with h4|h4
     ·simp[h3,fI,-cS]at h4
     ·exact h4
    have:=(hD.eo i h3 b8).1 (cw i hb);omega)
 unfold wpOp;simp only[ho];rw[if_pos lD];refine⟨fun lX jG ih=>.inl ?_,fun lX fI eu hJ K iD ih=>.inl ?_⟩
 ·obtain⟨x,V,A,h2,h3⟩:=jG;have o0:look (σ (j+1)).fr=look ((σ j).put o.dst x [] []).fr:=by rw[h2];rfl
  by_cases hs:cS o.op=true
  ·-- slots alone
   have eu:j∉ws:=fun h=>by have:=uE j o ho h;rw[hs]at this;simp at this
   have h4:bJ P ⟨cU,(σ k0).V,(σ k0).A⟩ (ow j) o (fun y V' A'=>y=x/\V'=(σ k0).V/\A'=(σ k0).A):=nO (s:=σ j) (s':=⟨cU,(σ k0).V,(σ k0).A⟩) hs (gG _ _ _ _) h3 ⟨rfl,rfl,rfl⟩;obtain⟨y,V',A',⟨rfl,rfl,rfl⟩,h5⟩:=dj gX.inv gX.fr gX.slot h4;exact h5 _ _ fun v w' g' h6 h7 h8 h9=>ih k0 v g' w' gv (cR σ k0 y v w' g' (fun _ _=>rfl) o0 h6 h7 h8 h9.now gv (iu eu)) h9
  ·have fI:cS o.op=false:=by simpa[-cS]using hs
   obtain⟨kJ,gn⟩:=kV fI;have h4:bJ P ⟨cU,(σ k0).V,(σ k0).A⟩ (ow j) o (fun y V' A'=>y=x/\V'=V/\A'=A):=by
    rw[<-kJ,<-gn];exact ej (fr:=(σ j).fr) (gG _ _ _ _) (h3 _ ⟨rfl,rfl,rfl⟩)
   obtain⟨y,V',A',⟨rfl,rfl,rfl⟩,h5⟩:=dj gX.inv gX.fr gX.slot h4;have s5:(σ (j+1)).V=V':=by rw[h2];rfl
   have jq:(σ (j+1)).A=A':=by rw[h2];rfl
   by_cases eu:j∈ws
   ·refine h5 _ _ fun v w' g' h6 h7 h8 h9=>ih (j+1) v g' w' lX (cR σ (j+1) y v w' g' (fun _ _=>rfl) o0 (by rw[jq];exact h6) (by rw[s5,jq];exact h7) (by rw[jq];exact h8) h9.now lX (fun i hi b8=>?_)) h9
    have a7:all[i]? =some all[i]:=aat b8;rw[bS];by_cases e:i=j
    ·subst e;simp
    ·rw[if_neg e];constructor
     ·intro bF;rcases ZF j i with h|h
      ·have hp:=b7 j i o _ ho a7 h;have hb:=b4 i _ a7 bF;simp only[bu,hb,aaC,aaD]at hp;simp[hi,fI,-cS]at hp
      ·omega
     ·intro ay;have hp:=b7 i j _ o a7 ho (by omega);simp only[bu,aaC,aaD]at hp;rcases hp.2 with h|h
      ·simp[hi,fI,-cS]at h
      ·exact cw i h
   ·obtain⟨x2,V2,A2,q1,q2⟩:=hT.tr j o lX ho;rcases q2 with q2|⟨q2,q3⟩
    ·exact absurd q2 eu
    have qa:(σ (j+1)).V=(σ j).V:=by rw[q1];exact q2
    have mJ:(σ (j+1)).A=(σ j).A:=by rw[q1];exact q3
    refine h5 _ _ fun v w' g' h6 h7 h8 h9=>ih k0 v g' w' gv (cR σ k0 y v w' g' (fun _ _=>rfl) o0 ?_ ?_ ?_ h9.now gv (iu eu)) h9
    ·rw[<-gn,<-mJ,jq];exact h6
    ·rw[<-kJ,<-gn,<-qa,<-mJ,s5,jq];exact h7
    ·have e1:(σ k0).A=A':=by rw[<-gn,<-mJ,jq]
     rw[e1]at h8⊢;exact h8
 ·-- the call
  subst lX;have Ot:rl n w0 g0 X ⟨cU,(σ k0).V,(σ k0).A⟩ L S g a w:=⟨hD.inv,hJ.fr,hD.size,hD.defers,hS _,hJ.nF,hJ.nd,hJ.out⟩;obtain⟨kJ,gn⟩:=kV fI;refine qh Ot (pO (s:=σ j) (ow:=ow j) (gG _ _ _ _) iD) _ _ ?_;rintro x V' A' L' S' v w' g' ⟨rfl,rfl,hk⟩ h6 h7 h8 h9 cO eE fS;refine ih x L' S' v g' w' hk (fun σ' hσ hn=>cR σ' k0 x v w' g' hσ (by rw[hn];rfl) h6 h7 h8 h9.now gv (iu eu)) ⟨h9,cO,eE,fS⟩
theorem yZ (hd:ey all ws=true) {σ:Nat->St} (hT:Fz all ws σ all.size) {af:Array Bool} {k0:Nat} (hD:DS all ws σ n w g af k0 g a w) (dm:∀i,i<all.size->af[i]? =some true) (hJ:Jb w0 g0 X L S g w):rl n w0 g0 X (σ all.size) L S g a w:=by
 simp only[ey,aaC,ZN]at hd;obtain⟨⟨gR,jE⟩,o5⟩:=hd;have cZ:∀(j:Nat) o,all[j]? =some o->(o,j)∈all.toList.zipIdx:=fun j o h=>by
  rw[ZU];exact⟨j,by simp[ZV,h]⟩
 have c8:∀(j:Nat) o,all[j]? =some o->∀e∈o.after,Region.binds .any e=true->e.on<j:=fun j o h e he hb=>by
  have:=gR _ (cZ j o h) e (aau.2 he);simpa[hb]using this
 have b7:∀(i j:Nat) oi oj,all[i]? =some oi->all[j]? =some oj->i<j->bu all ws (bc all.toList []) oi oj i j=true:=fun i j oi oj h1 h2 ay=>by
  have:=jE _ (cZ j oj h2) _ (cZ i oi h1);simpa[ay]using this
 have uE:∀(j:Nat) o,all[j]? =some o->j∈ws->cS o.op=false:=fun j o h hj=>by
  have:=o5 _ (cZ j o h);simpa[hj]using this
 have fP:∀(i j:Nat) oi oj d,all[i]? =some oi->all[j]? =some oj->i<j->oi.dst=some d->oj.dst≠some d:=fun i j oi oj d h1 h2 ay h3 h4=>by
  have:=b7 i j oi oj h1 h2 ay;simp[bu,h3,h4]at this
 have re:∀(i j:Nat) oi oj d,all[i]? =some oi->all[j]? =some oj->oi.dst=some d->oj.dst=some d->i=j:=fun i j oi oj d h1 h2 h3 h4=>by
  rcases ZD i j with h|h|h
  ·exact absurd h4 (fP i j oi oj d h1 h2 h h3)
  ·exact h
  ·exact absurd h3 (fP j i oj oi d h2 h1 h h4)
 have kV:=hT.VA all.size k0 hD.nP (ZB _) (fun i h1 h2 h3=>by have:=(hD.eo i h3 h2).1 (dm i h2);omega);refine⟨by rw[kV.1,kV.2];exact hD.inv,hJ.fr,hD.size,hD.defers,fun t x hx=>?_,hJ.nF,hJ.nd,hJ.out⟩;rw[kV.2];by_cases hex:∃(i:Nat) (o:Oper),all[i]? =some o/\o.dst=some t
 ·obtain⟨i,o,ho,cn⟩:=hex;have hi:=(aas.1 ho).1;rw[hT.Oq re all.size i o t (ZB _) hi ho cn]at hx;exact hD.fU i o t x ho (dm i hi) cn hx
 ·rw[hT.Oo all.size t (ZB _) (fun i o _ ho cn=>hex ⟨i,o,ho,cn⟩)]at hx;exact hD.fV t x (fun i o ho _ cn=>hex ⟨i,o,ho,cn⟩) hx
def lh (all:Array Oper) (ws cs:List Nat):Bool:=
 let l:=all.toList.zipIdx
 let ms:=bc all.toList []
 (cs.all fun c=> !ws.contains c && l.all fun(_,j)=> !(decide (c<j))||(ms.getD j 0).testBit c)&&(l.all fun(o,_)=>o.guard.isNone)&&(l.all fun(o,j)=> !cs.contains j|| !cS o.op)
theorem BJ {cs:List Nat} {ow:Nat->Bool} {K:St->Ts->Prop} {Q:Exit->Act->World->Prop} (hd:ey all ws=true) (hc:lh all ws cs=true) (fc:da n all.toList=true)
  (hQ:∀s' L' S' g' a' w',K s' L'->rl n w0 g0 X s' L' S' g' a' w'->Q .normal a' w'):
  ∀(fuel:Nat) (σ:Nat->St) (c:Nat) (L:Ts) (S:List Nat) (af:Array Bool) (k0:Nat) (g:Gh) (a:Act) (w:World),((ZM all.size).filter fun i=> !af.getD i true).length<=fuel->Fz all ws σ c->k0<=c->
   (∀(j:Nat) o,j<c->all[j]? =some o->af[j]? ≠some true->JN P (ow j) o (σ j) (σ (j+1)))->(∀i,af[i]? =some true->i<c)->
   ((c=all.size/\K (σ c) L)\/(c∈cs/\∃o,all[c]? =some o/\cb P (σ c) L o fun x L'=>qN P ow ws cs K (c+1) (all.toList.drop (c+1)) ((σ c).put o.dst x (σ c).V (σ c).A) L'))->
   DS all ws σ n w g af k0 g a w->Jb w0 g0 X L S g w->wpAny P .any all Q fuel af a w:=by
 have I3:=hd;simp only[ey,aaC,ZN]at hd;obtain⟨⟨gR,jE⟩,o5⟩:=hd;have cZ:∀(j:Nat) o,all[j]? =some o->(o,j)∈all.toList.zipIdx:=fun j o h=>by
  rw[ZU];exact⟨j,by simp[ZV,h]⟩
 have c8:∀(j:Nat) o,all[j]? =some o->∀e∈o.after,Region.binds .any e=true->e.on<j:=fun j o h e he hb=>by
  have:=gR _ (cZ j o h) e (aau.2 he);simpa[hb]using this
 have b7:∀(i j:Nat) oi oj,all[i]? =some oi->all[j]? =some oj->i<j->bu all ws (bc all.toList []) oi oj i j=true:=fun i j oi oj h1 h2 ay=>by
  have:=jE _ (cZ j oj h2) _ (cZ i oi h1);simpa[ay]using this
 have uE:∀(j:Nat) o,all[j]? =some o->j∈ws->cS o.op=false:=fun j o h hj=>by
  have:=o5 _ (cZ j o h);simpa[hj]using this
 have fP:∀(i j:Nat) oi oj d,all[i]? =some oi->all[j]? =some oj->i<j->oi.dst=some d->oj.dst≠some d:=fun i j oi oj d h1 h2 ay h3 h4=>by
  have:=b7 i j oi oj h1 h2 ay;simp[bu,h3,h4]at this
 have re:∀(i j:Nat) oi oj d,all[i]? =some oi->all[j]? =some oj->oi.dst=some d->oj.dst=some d->i=j:=fun i j oi oj d h1 h2 h3 h4=>by
  rcases ZD i j with h|h|h
  ·exact absurd h4 (fP i j oi oj d h1 h2 h h3)
  ·exact h
  ·exact absurd h3 (fP j i oj oi d h2 h1 h h4)
 simp only[lh,aaC,ZN]at hc;obtain⟨⟨vV,GU⟩,Ou⟩:=hc;have LW:∀(j:Nat) o,all[j]? =some o->o.guard=none:=fun j o h=>by
  have:=GU _ (cZ j o h);simpa using this
 have JO:∀c∈cs,c∉ws:=fun c h=>by simpa using(vV c h).1
 have Ov:∀c∈cs,∀o,all[c]? =some o->cS o.op=false:=fun c h o ho=>by
  have:=Ou _ (cZ c o ho);simpa[h,-cS]using this
 have I1:∀c∈cs,∀(j:Nat) o,all[j]? =some o->c<j->((bc all.toList []).getD j 0).testBit c=true:=fun c h j o ho ay=>by
  have:=(vV c h).2 _ (cZ j o ho);simpa[ay]using this
 have pJ:∀{af:Array Bool},Region.ready .any all af=[]->af.size=all.size->∀i,i<all.size->af[i]? =some true:=by
  intro af hr sr i;induction i using ZH with
  |_ i ih=>
   intro hi;have ho:all[i]? =some all[i]:=aat hi;have bF:i<af.size:=by omega
   cases hl:af[i]with
   |true=>rw[aat bF,hl]
   |false=>
    exfalso
    have:i∈Region.ready .any all af:=mem_ready.2 ⟨by simp[bF,hl],_,ho,fun e he hb=>cK.2 (ih e.on (c8 i _ ho e he hb) (by have:=c8 i _ ho e he hb;omega))⟩;rw[hr]at this;simp at this
 have lS:∀{σ:Nat->St} {c:Nat} {L:Ts} {S:List Nat} {af:Array Bool} {k0:Nat} {g:Gh} {a:Act} {w:World},Fz all ws σ c->(∀i,af[i]? =some true->i<c)->
   ((c=all.size/\K (σ c) L)\/(c∈cs/\∃o,all[c]? =some o/\cb P (σ c) L o fun x L'=>qN P ow ws cs K (c+1) (all.toList.drop (c+1)) ((σ c).put o.dst x (σ c).V (σ c).A) L'))->
   DS all ws σ n w g af k0 g a w->Jb w0 g0 X L S g w->Region.ready .any all af=[]->Q .normal a w:=by
  intro σ c L S af k0 g a w hT nM hK hD hJ hr;have dm:=pJ hr hD.eG;rcases hK with⟨rfl,hK⟩|⟨rK,o,ho,_⟩
  ·exact hQ _ _ _ _ _ _ hK (yZ I3 hT hD dm hJ)
  ·have b8:=(aas.1 ho).1;have:=nM c (dm c b8);omega
 intro fuel;induction fuel with
 |zero=>
  intro σ c L S af k0 g a w hf hT gv ru nM hK hD hJ;have la:Region.ready .any all af=[]:=by
   have h0:((ZM all.size).filter fun i=> !af.getD i true)=[]:=aao (by omega);rcases hr:Region.ready .any all af with _|⟨j,r⟩
   ·rfl
   ·have hj:j∈Region.ready .any all af:=by rw[hr];simp
    obtain⟨h1,o,h2,_⟩:=mem_ready.1 hj;have:j∈((ZM all.size).filter fun i=> !af.getD i true):=by
     rw[aaf,ZT];exact⟨(aas.1 h2).1,by simp[h1]⟩
    rw[h0]at this;simp at this
  exact⟨la,lS hT nM hK hD hJ la⟩
 |succ fuel ih=>
  intro σ c L S af k0 g a w hf hT gv ru nM hK hD hJ;refine⟨fun hr=>lS hT nM hK hD hJ hr,fun j hj=>?_⟩;obtain⟨mY,o,ho,cL⟩:=mem_ready.1 hj;have mZ:=ep mY;have rG:j<all.size:=(aas.1 ho).1;have jk:j<af.size:=by rw[hD.eG];exact rG
  have cE:∀e∈o.after,Region.binds .any e=true->af[e.on]? =some true:=fun e he hb=>cK.1 (cL e he hb)
  have bS:∀i,(af.setIfInBounds j true)[i]? =if i=j then some true else af[i]? :=fun i=>by
   by_cases e:i=j
   ·subst e;simp[jk]
   ·rw[if_neg e,aav (fun h=>e h.symm)]
  have c5:((ZM all.size).filter fun i=> !(af.setIfInBounds j true).getD i true).length<=fuel:=by
   have ay:((ZM all.size).filter fun i=> !(af.setIfInBounds j true).getD i true).length<((ZM all.size).filter fun i=> !af.getD i true).length:=by
    have gF:∀i,(!(af.setIfInBounds j true).getD i true)=true->(!af.getD i true)=true:=fun i h=>by
     by_cases e:i=j
     ·subst e;simp[jk]at h
     ·have:(af.setIfInBounds j true).getD i true=af.getD i true:=by
       simp only[aax,bS,if_neg e]
      rwa[this]at h
    exact filter_lt gF (ZT.2 rG) (by simp[mY]) (by simp[jk])
   omega
  have En:j<=c:=by
   rcases hK with⟨rfl,_⟩|⟨rK,oc,Eo,_⟩
   ·omega
   ·rcases ZF c j with h|h
    ·have:=nM c (od c8 hD.closed j o ho cE c (I1 c rK j o ho h));omega
    ·exact h
  obtain⟨one1,one2⟩:=FA (cs:=cs) (w0:=w0) (g0:=g0) (X:=X) (L:=L) (S:=S) (ow:=ow) I3 LW fc hT hD gv nM hj En ho (next:=wpAny P .any all Q fuel (af.setIfInBounds j true)) (Q:=Q);rcases ZJ En with ay|rfl
  ·refine one1 ay (ru j o ay ho (by rw[mZ];simp)) fun k1 v g' w' jn Jz hF=>ih σ c L S _ k1 g' _ w' c5 hT jn (fun i oi hi a7 bF=>ru i oi hi a7 fun h=>bF ?_) (fun i hi=>?_) hK Jz (hJ.cU hF)
   ·rw[bS];by_cases e:i=j
    ·rw[if_pos e]
    ·rw[if_neg e];exact h
   ·rw[bS]at hi;by_cases e:i=j
    ·subst e;exact ay
    ·rw[if_neg e]at hi;exact nM i hi
  ·rcases hK with⟨h,_⟩|⟨rK,oc,Eo,iD⟩
   ·omega
   obtain rfl:o=oc:=by rw[ho]at Eo;exact Option.some.inj Eo
   refine one2 rfl (Ov j rK o ho) (JO j rK) hJ _ iD fun x L' S' v g' w' hk Ow Ox=>?_
   obtain⟨τ,m,k1,k2,k3,k4⟩:=pP _ _ _ _ hk;have hlen:(all.toList.drop (j+1)).length=all.size-(j+1):=by simp
   let σ':Nat->St:=fun i=>if i<=j then σ i else τ (i-(j+1))
   have e1:∀i,i<=j->σ' i=σ i:=fun i hi=>by simp only[σ',if_pos hi]
   have e2:∀i,σ' (j+1+i)=τ i:=fun i=>by simp only[σ',if_neg (show¬j+1+i<=j by omega)];congr 1;omega
   have e3:∀i,(all.toList.drop (j+1))[i]? =all[j+1+i]? :=fun i=>by simp
   have kh:σ' (j+1)=(σ j).put o.dst x (σ j).V (σ j).A:=by rw[<-k2];exact e2 0
   refine ih σ' (j+1+m) L' S' _ k0 g' _ w' c5 ⟨by omega,fun i oi hi a7=>?_⟩ (by omega) (fun i oi hi a7 bF=>?_) (fun i hi=>?_) ?_ (Ow σ' e1 kh) Ox
   ·rcases ZD i j with h|h|h
    ·rw[e1 i (by omega),e1 (i+1) (by omega)];exact hT.tr i oi h a7
    ·subst h;obtain rfl:o=oi:=by rw[ho]at a7;exact Option.some.inj a7
     rw[e1 i (by omega),kh];exact⟨x,_,_,rfl,.inr ⟨rfl,rfl⟩⟩
    ·obtain⟨q,rfl⟩:∃q,i=j+1+q:=⟨i-(j+1),by omega⟩;rw[e2 q,show j+1+q+1=j+1+(q+1) by omega,e2 (q+1)];exact(k3 q oi (by omega) (by rw[e3];exact a7)).2
   ·rw[bS]at bF;by_cases e:i=j
    ·rw[if_pos e]at bF;simp at bF
    ·rw[if_neg e]at bF;rcases ZF i j with h|h
     ·rw[e1 i (by omega),e1 (i+1) (by omega)];exact ru i oi h a7 bF
     ·obtain⟨q,rfl⟩:∃q,i=j+1+q:=⟨i-(j+1),by omega⟩;rw[e2 q,show j+1+q+1=j+1+(q+1) by omega,e2 (q+1)];exact(k3 q oi (by omega) (by rw[e3];exact a7)).1
   ·rw[bS]at hi;by_cases e:i=j
    ·omega
    ·rw[if_neg e]at hi;have:=nM i hi;omega
   ·rcases k4 with⟨h1,h2⟩|⟨h1,oc,h2,h3⟩
    ·exact .inl ⟨by omega,by rw[e2];exact h2⟩
    ·refine .inr ⟨h1,oc,by rw[<-e3];exact h2,?_⟩;rw[e2];rw[aaq,show j+1+(m+1)=j+1+m+1 by omega]at h3;exact h3
end
def eJ (l:List Oper) (p:List Nat):List Oper:=p.map fun i=>l.getD i default
def iQ (p:List Nat) (o:Oper):Oper:={o with after:=o.after.map fun e=>{e with on:=p.idxOf e.on}}
def bR (l:List Oper) (p:List Nat):List Oper:=(eJ l p).map (iQ p)
def kP (l:List Oper) (p:List Nat):Bool:=p.length==l.length && p.all (fun i=>decide (i<l.length))&&(ZM l.length).all (fun i=>p.contains i)&& l.all (fun o=>o.guard.isNone)&&(ZM p.length).all (fun j=>p.idxOf (p.getD j 0)==j)
section
variable {P:Program} {l:List Oper} {p:List Nat} {md:Region.Mode} {Q:Exit->Act->World->Prop}
theorem jg (h:kP l p=true):p.length=l.length/\(∀i∈p,i<l.length)/\(∀i,i<l.length->i∈p)/\(∀o∈l,o.guard=none)/\∀j,j<p.length->p.idxOf (p.getD j 0)=j:=by
 simp only[kP,aaC,ZN]at h;obtain⟨⟨⟨⟨h1,h2⟩,h3⟩,h4⟩,h5⟩:=h;refine⟨by simpa using h1,fun i hi=>by simpa using h2 i hi,fun i hi=>by simpa using h3 i (ZT.2 hi),fun o ho=>by simpa using h4 o ho,fun j hj=>by simpa using h5 j (ZT.2 hj)⟩
theorem du:(bR l p).length=p.length:=by simp[bR,eJ]
theorem wV (h:kP l p=true) {i:Nat} {o:Oper} (ho:l[i]? =some o):(bR l p)[p.idxOf i]? =some (iQ p o):=by
 obtain⟨h1,h2,h3,h4,h5⟩:=jg h;have hi:=(ZQ.1 ho).1;have hx:p[p.idxOf i]? =some i:=by
  have ay:=Z1 (h3 i hi);rw[ZO ay,Z9 ay]
 simp only[bR,eJ,aah,aaa,hx,aaG,Function.comp];rw[aan,ho];rfl
theorem lj (h:kP l p=true) {j:Nat} {o':Oper} (ho:(bR l p)[j]? =some o'):∃o,l[p.getD j 0]? =some o/\o'=iQ p o/\p[j]? =some (p.getD j 0):=by
 obtain⟨h1,h2,h3,h4,h5⟩:=jg h;have hj:j<p.length:=by have:=(ZQ.1 ho).1;rwa[du]at this
 have e:p.getD j 0=p[j]:=by simp[ZW,hj]
 have ay:=h2 p[j] (List.getElem_mem hj);simp only[bR,eJ,aah,aaa,ZO hj,aaG,Function.comp,Option.some.injEq]at ho;refine⟨l[p[j]],by rw[e];exact ZO ay,?_,by rw[e];exact ZO hj⟩;rw[<-ho,aan,ZO ay];rfl
theorem mf {α:Type} {l:Array α} {i:Nat} {d:α}:l.getD i d=(l[i]?).getD d:=aax
theorem rv (h:kP l p=true):∀(fuel:Nat) (af listed':Array Bool) (a:Act) (w:World),af.size=l.length->listed'.size=l.length->(∀i,listed'[p.idxOf i]? =af[i]?)->wpAny P md (bR l p).toArray Q fuel listed' a w->wpAny P md l.toArray Q fuel af a w:=by
 obtain⟨h1,h2,h3,h4,h5⟩:=jg h;have hr:∀(af listed':Array Bool),(∀i,listed'[p.idxOf i]? =af[i]?)->∀j,j∈Region.ready md l.toArray af->p.idxOf j∈Region.ready md (bR l p).toArray listed':=fun af listed' wW j hj=>by
  obtain⟨q1,o,q2,q3⟩:=mem_ready.1 hj;refine mem_ready.2 ⟨by rw[mf,wW,<-mf];exact q1,iQ p o,?_,fun e' he hb=>?_⟩
  ·have:=wV h (i:=j) (o:=o) (by simpa using q2);simpa using this
  ·simp only[iQ,aaz]at he;obtain⟨e,s4,rfl⟩:=he;have:=q3 e s4 hb;rw[mf,wW,<-mf];exact this
 have CC:∀(af listed':Array Bool),(∀i,listed'[p.idxOf i]? =af[i]?)->listed'.size=l.length->Region.ready md l.toArray af=[]->Region.ready md (bR l p).toArray listed'=[]:=fun af listed' wW fB hn=>by
  cases hx:Region.ready md (bR l p).toArray listed' with
  |nil=>rfl
  |cons j r=>
   exfalso
   have hj:j∈Region.ready md (bR l p).toArray listed':=by rw[hx];simp
   obtain⟨q1,o',q2,q3⟩:=mem_ready.1 hj;obtain⟨o,q4,rfl,q5⟩:=lj h (j:=j) (o':=o') (by simpa using q2);have UT:j<p.length:=(ZQ.1 q5).1;have hi:=h5 j UT;have UU:listed'[j]? =af[p.getD j 0]? :=by rw[<-wW,hi]
   have b8:p.getD j 0∈Region.ready md l.toArray af:=by
    refine mem_ready.2 ⟨by rw[mf,<-UU,<-mf];exact q1,o,by simpa using q4,fun e he hb=>?_⟩;have:=q3 {e with on:=p.idxOf e.on} (by simp only[iQ,aaz];exact⟨e,he,rfl⟩) hb;rw[mf,<-wW,<-mf];exact this
   rw[hn]at b8;simp at b8
 intro fuel;induction fuel with
 |zero=>
  intro af listed' a w s1 s2 wW hh;refine⟨?_,hh.2⟩;cases hx:Region.ready md l.toArray af with
  |nil=>rfl
  |cons j r=>
   have:=hr af listed' wW j (by rw[hx];simp);rw[hh.1]at this;simp at this
 |succ fuel ih=>
  intro af listed' a w s1 s2 wW hh;refine⟨fun h0=>hh.1 (CC af listed' wW s2 h0),fun j hj=>?_⟩;have gG:=hh.2 _ (hr af listed' wW j hj);obtain⟨q1,o,q2,q3⟩:=mem_ready.1 hj;have q2':l[j]? =some o:=by simpa using q2
  have rG:=(ZQ.1 q2').1;have q4:(bR l p).toArray[p.idxOf j]? =some (iQ p o):=by simpa using wV h q2'
  have Oy:o.guard=none:=h4 o (ZZ q2');have hK:∀a w,wpAny P md (bR l p).toArray Q fuel (listed'.setIfInBounds (p.idxOf j) true) a w->wpAny P md l.toArray Q fuel (af.setIfInBounds j true) a w:=fun a w=>by
   refine ih _ _ a w (by simp[s1]) (by simp[s2]) fun i=>?_
   have ay:=Z1 (h3 j rG);rw[aaA,aaA];by_cases e:j=i
   ·subst e;rw[if_pos rfl,if_pos rfl,if_pos (by omega),if_pos (by omega)]
   ·rw[if_neg e,if_neg (fun e'=>?_),wW];have hx:p[p.idxOf j]? =some j:=by rw[ZO ay,Z9 ay]
    have eX:p.idxOf i<p.length:=by omega
    have hy:p[p.idxOf i]? =some i:=by rw[ZO eX,Z9 eX]
    rw[<-e',hx]at hy;exact e (Option.some.inj hy)
  unfold wpOp at gG⊢;simp only[q4]at gG;simp only[q2];rw[if_pos (by simp[Region.wanted,iQ,Oy])]at gG;rw[if_pos (by simp[Region.wanted,Oy])];rcases gG with gG|⟨gG,hl⟩
  ·exact .inl (Oper.wp_mono hK gG)
  ·exact .inr ⟨gG,hl⟩
end
section
variable {P:Program} {n:Nat} {s s':St} {L L':Ts} {x y:Code} {ws cs:List Nat} {ow:Nat->Bool} {K:St->Ts->Prop}
theorem wX (p:List Nat):∀(ops:List Oper) (i:Nat) (s:St) (L:Ts),qN P ow ws cs K i ops s L->qN P ow ws cs K i (ops.map (iQ p)) s L
 |[],_,_,_,h=>h
 |o::rest,i,s,L,h=>by
  rcases h with⟨h1,h2⟩|⟨h1,h2⟩
  ·exact .inl ⟨h1,qj (o:=o) (fun x L' h=>wX p rest _ _ _ h) h2⟩
  ·exact .inr ⟨h1,gg (o:=o) (fun x V A h=>⟨h.1,wX p rest _ _ _ h.2⟩) h2⟩
theorem TJ.sG {Q:Exit->St->Ts->Prop} {id:Nat} {l:List Oper} (hm:P.follows .mixedOrders=true) (p:List Nat) (ow:Nat->Bool) (ws cs:List Nat) (hp:kP l p=true) (hd:ey (bR l p).toArray ws=true) (hc:lh (bR l p).toArray ws cs=true)
  (h:qN P ow ws cs (fun s' L'=>Q .normal s' L') 0 (eJ l p) s L):TJ P n (.region id l.toArray true) Q s L:=by
 obtain⟨p1,p2,p3,p4,p5⟩:=jg hp;intro eP w0 g0 X S g a w hR;have Df:da n (bR l p).toArray.toList=true:=by
  have hx:da n l=true:=by simpa[codeOk]using eP
  simp only[da,ZN]at hx⊢;intro o' sY;obtain⟨j,hj⟩:=Z2 sY;obtain⟨o,q1,rfl,_⟩:=lj hp (j:=j) (o':=o') (by simpa using hj);exact hx o (ZZ q1)
 obtain⟨τ,m,k1,k2,k3,k4⟩:=pP (eJ l p|>.map (iQ p)) 0 s L (wX p _ _ _ _ h);obtain⟨hI,hx⟩:=hR.inv.heap (w':={w with drawn:=w.drawn+1}) rfl;have hF:Fr w g {w with drawn:=w.drawn+1} g:=(Fr.refl hR.fr.now).heap rfl rfl rfl rfl;have hJ:Jb w0 g0 X L S g {w with drawn:=w.drawn+1}:=(Jb.mk hR.fr hR.nF hR.nd hR.out).cU hF;have fB:(bR l p).toArray.size=l.length:=by simp[du,p1]
 have vS:∀(i:Nat),(bR l p).toArray[i]? =(bR l p)[i]? :=fun i=>by simp
 refine wp_region_any hm (rv hp _ _ (aaw l.length false) a _ (by simp) (by simp) (fun i=>?_) (BJ (K:=fun s' L'=>Q .normal s' L') (ow:=ow) hd hc Df (fun s' L' S' g' a' w' h1 h2=>⟨s',g',L',S',h1,h2⟩) _ τ m L S _ 0 g a _ ?_ ?_ (ZC _) ?_ ?_ ?_ ?_ hJ))
 ·simp only[aaB];by_cases hi:i<l.length
  ·have:=Z1 (p3 i hi);rw[if_pos (by omega),if_pos (by simpa using hi)]
  ·have Oz:i∉p:=fun h=>hi (p2 i h)
   rw[if_neg (by rw[aak Oz];omega),if_neg (by simpa using hi)]
 ·refine ZG (aaj _ _) (by simp[du,p1])
 ·refine⟨by rw[fB,<-p1,<-du (l:=l)];exact k1,fun j o hj ho=>?_⟩;have:=(k3 j o hj (by rw[vS]at ho;exact ho)).2;simpa only[ZE]using this
 ·intro j o hj ho _;have:=(k3 j o hj (by rw[vS]at ho;exact ho)).1;simpa only[ZE]using this
 ·intro i hi;have AF:=(aas.1 hi).1;simp at AF;simp[AF]at hi
 ·rcases k4 with⟨h1,h2⟩|⟨h1,oc,h2,h3⟩
  ·exact .inl ⟨by rw[h1];simp[bR],h2⟩
  ·refine .inr ⟨by simpa using h1,oc,by rw[vS];exact h2,?_⟩;simp only[ZE]at h3;exact h3
 ·refine⟨by rw[k2];exact hI,.refl hF.now,hR.size,hR.defers,by simp[du,p1],fun i o t x ho hl=>?_,fun t x _ gD=>?_,fun i _ b8=>?_,ZC _,fun i o ho hl=>?_⟩
  ·have hi:=(aas.1 hl).1;simp at hi;simp[hi]at hl
  ·rw[k2]at gD⊢;obtain⟨u,h1,h2⟩:=hR.slot t x gD;exact⟨u,h1,aW.ext hx h2⟩
  ·rw[fB]at b8;simp[b8]
  ·have hi:=(aas.1 hl).1;simp at hi;simp[hi]at hl
structure vv (P:Program) (ow:Nat->Bool) (ws cs:List Nat) (K:St->Ts->Prop) (i:Nat) (ops:List Oper) (s:St) (L:Ts):Prop where
 mk::
 run:qN P ow ws cs K i ops s L
variable {i:Nat} {o:Oper} {rest:List Oper}
theorem BK (hi:cs.contains i=false) (h:bJ P s (ow i) o fun x V A=>(i∈ws\/(V=s.V/\A=s.A))/\vv P ow ws cs K (i+1) rest (s.put o.dst x V A) L):vv P ow ws cs K i (o::rest) s L:=
 ⟨.inr ⟨by simpa using hi,gg (fun x V A h=>⟨h.1,h.2.run⟩) h⟩⟩
theorem wY (hi:cs.contains i=true) (h:cb P s L o fun x L'=>vv P ow ws cs K (i+1) rest (s.put o.dst x s.V s.A) L'):vv P ow ws cs K i (o::rest) s L:=
 ⟨.inl ⟨by simpa using hi,qj (fun x L' h=>h.run) h⟩⟩
theorem y0 (h:K s L):vv P ow ws cs K i [] s L:=⟨h⟩
theorem vv.gen {ops:List Oper} {d:Nat} {b:Bool} {fr:List (Nat×AV)} {V:List (List CV)} {A:List bz} (h:∀q:Bool,b=q->vv P ow ws cs K i ops ⟨(d,.c (.d (.bool q)))::fr,V,A⟩ L):vv P ow ws cs K i ops ⟨(d,.c (.d (.bool b)))::fr,V,A⟩ L:=h b rfl
@[congr] theorem LY {i i':Nat} {ops:List Oper} (hi:i=i') (h:s=s'):vv P ow ws cs K i ops s L=vv P ow ws cs K i' ops s' L:=by rw[h,hi]
@[congr] theorem JP {f:FuncId} {xs xs':List AV} {K:AV->Ts->Prop} (hx:xs=xs'):sF P L f xs K=sF P L f xs' K:=by subst hx;rfl
attribute [simp] cb
theorem TJ.UW {Q:Exit->St->Ts->Prop} {id:Nat} {l:List Oper} (hm:P.follows .mixedOrders=true) (p:List Nat) (ow:Nat->Bool) (ws cs:List Nat) (hp:kP l p=true) (hd:ey (bR l p).toArray ws=true) (hc:lh (bR l p).toArray ws cs=true)
  (h:∀K:St->Ts->Prop,(∀s' L',TJ P n y Q s' L'->K s' L')->vv P ow ws cs K 0 (eJ l p) s L):TJ P n (.seq (.region id l.toArray true) y) Q s L:=
 TJ.seq (TJ.sG hm p ow ws cs hp hd hc (h _ fun _ _ h=>h).run)
theorem TJ.Rx {Q:Exit->St->Ts->Prop} {id:Nat} {l:List Oper} (hm:P.follows .mixedOrders=true) (p:List Nat) (ow:Nat->Bool) (ws cs:List Nat) (hp:kP l p=true) (hd:ey (bR l p).toArray ws=true) (hc:lh (bR l p).toArray ws cs=true)
  (h:∀K:St->Ts->Prop,(∀s' L',Q .normal s' L'->K s' L')->vv P ow ws cs K 0 (eJ l p) s L):TJ P n (.region id l.toArray true) Q s L:=
 TJ.sG hm p ow ws cs hp hd hc (h _ fun _ _ h=>h).run
variable {f:FuncId} {xs as_:List AV} {r:AV} {K':AV->Ts->Prop}
theorem mg {R:AV->Ts->Prop} (Fw:iw L xs as_) (hc:aT P f as_ [] R) (hK:∀r L1,R r L1->K' r (L1++L)):sF P L f xs K':=⟨as_,[],L,R,by simp,Fw,hc,hK⟩
theorem dh {R:AV->Ts->Prop} {L1 L2:Ts} (hp:L.Perm (L1++L2)) (Fw:iw L2 xs as_) (hc:aT P f as_ L1 R) (hK:∀r L1,R r L1->K' r (L1++L2)):sF P L f xs K':=⟨as_,L1,L2,R,hp,Fw,hc,hK⟩
end
end Go.Av
namespace Go.Av
attribute [-simp] Go.Av.cb
open Go
section
variable {P:Program} {f:FuncId} {as_:List AV} {L:Ts} {R R':AV->Ts->Prop}
theorem oK.ret {n:Nat} {y:Code} {Q:Exit->St->Ts->Prop} {s:St} (h:Q .ret s L):oK P n y Q .ret s L:=h
theorem fF.ret {id:Nat} {Q:Exit->St->Ts->Prop} {s:St} (h:Q .ret s L):fF id Q .ret s L:=h
theorem bA.LZ {fn:Func} {R:AV->Ts->Prop} {e:Exit} {s:St} {L Lc L2:Ts} {k n:Nat} {a:bz} {cs:List GC} {rs:List AV} {rs':Value->List AV} (he:e=.normal\/e=.ret) (hr:ft P s fn.results.toList=some rs) (hA:s.A[k]? =some a) (hw:a.wr=true) (hn:n=a.rows.length)
  (HF:Mk cs a.rows.flatten Lc) (hp:L.Perm (Lc++L2)) (hs:∀v,cY (some (k,n,v)) rs=some (rs' v)) (hR:∀v,∃L' M,((.t a.ev a.sz n cs,v)::L2).Perm (L'++M)/\R (one (rs' v)) L'):bA P fn R e s L:=by
 subst hn;exact⟨he,rs,hr,.inr ⟨k,a,cs,Lc,L2,[],hA,hw,HF,hp,.nil,fun v=>by
  obtain⟨L',M,h1,h2⟩:=hR v;exact⟨rs' v,L',M,hs v,by simpa using h1,h2⟩⟩⟩
end
end Go.Av
namespace Go.Av
attribute [-simp] Go.Av.ch Go.Av.eY Go.Av.fw Go.Av.fi Go.Av.cY Go.Av.cb
open Go
mutual
def BL (et em:TypeId):ao->List GC
 |.mk k s n t f b l=>[.d (.i k),.d (.str s),.d (.i n),.d (.i t.kind),jf et t.kids,.d (.i f.kind),jf et f.kids,.d (.i b),.t em 9 l.length (iR et em l)]
def iR (et em:TypeId):List ao->List GC
 |[]=>[]
 |t::r=>BL et em t++iR et em r
end
def Dg (et em:TypeId) (l:List ao):GC:=.t em 9 l.length (iR et em l)
theorem tV (et em:TypeId) (e:ao):BL et em e=[.d (.i e.kind),.d (.str e.name),.d (.i e.num),.d (.i e.ty.kind),jf et e.ty.kids,.d (.i e.fr.kind),jf et e.fr.kids,.d (.i e.label),Dg et em e.kids]:=by cases e;simp[BL,Dg]
mutual
theorem HL (et em:TypeId):∀(t:ao),yn (BL et em t)=gp t
 |.mk k s n t f b l=>by
  have:=tW et em l;rw[tV,al];simp only[yn,GC.dv,HI,Dg,ao.bX,ao.lf,ao.pD,ao.oH,ao.qJ,ao.km,ao.bQ,this]
theorem tW (et em:TypeId):∀(l:List ao),chunks 9 l.length (yn (iR et em l))=l.map gp
 |[]=>rfl
 |t::r=>by
  have h1:=HL et em t;have h2:=tW et em r;rw[iR,rq,h1,Z0,uX _ (by rw[al];rfl),h2,Z5]
end
theorem L0 (et em:TypeId) (l:List ao):(Dg et em l).dv=.sl (l.map gp):=by
 simp only[Dg,GC.dv,tW]
mutual
theorem HM (et em:TypeId):∀(t:ao),BD (BL et em t)=true
 |.mk k s n t f b l=>by
  have:=tX et em l;rw[tV];simp only[BD,GC.pl,(kO et _).2,Dg,ao.bQ,ao.oH,ao.qJ,this,aaE]
theorem tX (et em:TypeId):∀(l:List ao),BD (iR et em l)=true
 |[]=>rfl
 |t::r=>by rw[iR,rr,HM et em t,tX et em r];rfl
end
theorem om (et em:TypeId) (l:List ao):(Dg et em l).dv=.sl (l.map gp)/\(Dg et em l).pl=true:=⟨L0 et em l,by simp only[Dg,GC.pl,tX]⟩
abbrev V3:=Value×Value×Value
abbrev zX (e:ao) (v:V3):List DV:=[.i e.kind,.str e.name,.i e.num,.i e.ty.kind,.raw v.1,.i e.fr.kind,.raw v.2.1,.i e.label,.raw v.2.2]
abbrev vz (et em:TypeId) (e:ao) (v:V3):Ts:=[(jf et e.ty.kids,v.1),(jf et e.fr.kids,v.2.1),(Dg et em e.kids,v.2.2)]
def yp (et em:TypeId) (l:List ao) (vs:List V3):Ts:=(ZS (vz et em) l vs).flatten
theorem HN (et em:TypeId) (l:List ao):yp et em l []=[]:=by simp[yp]
theorem FB (et em:TypeId) (e:ao) (l:List ao) (v:V3) (vs:List V3):yp et em (e::l) (v::vs)=vz et em e v++yp et em l vs:=rfl
theorem y3 (et em:TypeId):∀{l:List ao} {vs:List V3},vs.length=l.length->Mk (iR et em l) (ZS zX l vs).flatten (yp et em l vs)
 |[],[],_=>.nil
 |t::r,v::vs,h=>by
  rw[iR,tV,FB];exact .d rfl (.d rfl (.d rfl (.d rfl (.t (.d rfl (.t (.d rfl (.t (y3 et em (by simpa using h))))))))))
theorem FC (et em:TypeId) {l:List ao} {vs:List V3} {a:ao} (h:l[vs.length]? =some a) (v:V3):yp et em l (vs++[v])=yp et em l vs++vz et em a v:=by
 obtain⟨h1,h2⟩:=ZQ.1 h;have hl:l=l.take vs.length++a::l.drop (vs.length+1):=by rw[<-h2,<-aap h1,ZY]
 have ht:(l.take vs.length).length=vs.length:=by rw[Z6];omega
 generalize l.take vs.length=A at hl ht;generalize l.drop (vs.length+1)=B at hl;subst hl;have e:ZS (vz et em) (A++a::B) (vs++[])=ZS (vz et em) A vs:=by rw[aac ht];simp
 rw[Z4]at e;rw[yp,yp,e,aac ht];simp
end Go.Av
namespace Go.Av
open Go
section
variable {P:Program} {m:Nat} {c:Code} {Q:Exit->St->Ts->Prop} {s:St} {L L2:Ts} {g:Gh} {w:World} {V:List (List CV)} {A:List bz}
end
section
variable {P:Program} {n:Nat} {w0 w w':World} {g0 g g':Gh} {X S S':List Nat} {s s':St} {L L':Ts} {a a':Act} {x y:Code} {all:Array Oper} {ws fs cs:List Nat} {m:Nat} {ex:List Nat} {V0:List (List CV)} {A0:List bz}
def lk (all:Array Oper) (ws fs:List Nat) (m:Nat) (cs:List Nat) (ms:List Nat) (oi oj:Oper) (i j:Nat):Bool:=
 if cs.contains i||cs.contains j then(oi.dst.isNone||oi.dst !=oj.dst)&&((!dC all oi oj && !dC all oj oi)||(ms.getD j 0).testBit i)else cN all ws fs m ms oi oj i j
def mh (all:Array Oper) (ws fs:List Nat) (m:Nat) (cs:List Nat):Bool:=
 let l:=all.toList.zipIdx
 let ms:=bc all.toList []
 (l.all fun(o,j)=>o.after.toList.all fun e=> !Region.binds .any e||decide (e.on<j))&&
 (l.all fun(oj,j)=>l.all fun(oi,i)=> !(decide (i<j))||lk all ws fs m cs ms oi oj i j)&&
 (l.all fun(o,j)=> !ws.contains j|| !cS o.op)&&(fs.all fun j=> !ws.contains j)&&(fs.all fun j=>ws.all fun i=>decide (i<m)||decide (j<i))
def qO (P:Program) (ow:Nat->Bool) (ws fs:List Nat) (m:Nat) (ex:List Nat) (V0:List (List CV)) (A0:List bz) (cs:List Nat) (K:St->Ts->Prop):Nat->List Oper->St->Ts->Prop
 |_,[],s,L=>K s L
 |i,o::rest,s,L=>(i∈cs/\cb P s L o fun x L'=>qO P ow ws fs m ex V0 A0 cs K (i+1) rest (s.put o.dst x s.V s.A) L')\/
   (i∉cs/\bJ P s (ow i) o fun x V A=>(i∈ws\/(V=s.V/\A=s.A))/\(i∈ws->i<m->V.take V0.length=rJ ex (fun i=>V.getD i []) V0/\A.take A0.length=A0)/\(i∈fs->dI P s (ow i) o ex V0 A0 x)/\qO P ow ws fs m ex V0 A0 cs K (i+1) rest (s.put o.dst x V A) L)
def L3 (P:Program) (ow:Bool) (fs:List Nat) (j:Nat) (ex:List Nat) (V0:List (List CV)) (A0:List bz) (o:Oper) (s s':St):Prop:=
 ∃x V A,s'=s.put o.dst x V A/\(∀K:AV->List (List CV)->List bz->Prop,K x V A->bJ P s ow o K)/\(j∈fs->dI P s ow o ex V0 A0 x)
def OA (ws:List Nat) (m:Nat) (ex:List Nat) (V0:List (List CV)) (A0:List bz) (j:Nat) (o:Oper) (s s':St):Prop:=∃x V A,s'=s.put o.dst x V A/\(j∈ws\/(V=s.V/\A=s.A))/\(j∈ws->j<m->V.take V0.length=rJ ex (fun i=>V.getD i []) V0/\A.take A0.length=A0)
theorem pQ {ow:Nat->Bool} {K:St->Ts->Prop}:∀(ops:List Oper) (i:Nat) (s:St) (L:Ts),qO P ow ws fs m ex V0 A0 cs K i ops s L->
  ∃(τ:Nat->St) (q:Nat),q<=ops.length/\τ 0=s/\(∀(j:Nat) o,j<q->ops[j]? =some o->L3 P (ow (i+j)) fs (i+j) ex V0 A0 o (τ j) (τ (j+1))/\OA ws m ex V0 A0 (i+j) o (τ j) (τ (j+1))/\i+j∉cs)/\
   ((q=ops.length/\K (τ q) L)\/(i+q∈cs/\∃o,ops[q]? =some o/\cb P (τ q) L o fun x L'=>qO P ow ws fs m ex V0 A0 cs K (i+q+1) (ops.drop (q+1)) ((τ q).put o.dst x (τ q).V (τ q).A) L'))
 |[],i,s,L,h=>⟨fun _=>s,0,ZB _,rfl,fun j o hj=>by omega,.inl ⟨rfl,h⟩⟩
 |o::rest,i,s,L,h=>by
  rcases h with⟨h1,h2⟩|⟨h1,h2⟩
  ·exact⟨fun _=>s,0,by simp,rfl,fun j o hj=>by omega,.inr ⟨h1,o,rfl,h2⟩⟩
  ·obtain⟨x,V,A,⟨h3,NQ,Fe,h4⟩,h5⟩:=gd h2;obtain⟨τ,q,k1,k2,k3,k4⟩:=pQ rest (i+1) _ L h4;refine⟨fun j=>match j with|0=>s|j+1=>τ j,q+1,by simp;omega,rfl,fun j o' hj ho=>?_,?_⟩
   ·cases j with
    |zero=>
     simp at ho;subst ho;exact⟨⟨x,V,A,k2,h5,Fe⟩,⟨x,V,A,k2,h3,NQ⟩,h1⟩
    |succ j=>
     simp at ho;have:=k3 j o' (by omega) ho;rwa[show i+1+j=i+(j+1) by omega]at this
   ·rcases k4 with⟨k5,k6⟩|⟨k5,o',k6,k7⟩
    ·exact .inl ⟨by simp[k5],k6⟩
    ·refine .inr ⟨by rw[show i+(q+1)=i+1+q by omega];exact k5,o',by simpa using k6,?_⟩;rw[show i+(q+1)+1=i+1+q+1 by omega];exact k7
structure BM (all:Array Oper) (ws:List Nat) (m:Nat) (ex:List Nat) (V0:List (List CV)) (A0:List bz) (σ:Nat->St) (c:Nat):Prop where
 le:c<=all.size
 v0:(σ 0).V=V0/\(σ 0).A=A0
 tr:∀(j:Nat) o,j<c->all[j]? =some o->OA ws m ex V0 A0 j o (σ j) (σ (j+1))
theorem BM.Tl {σ:Nat->St} {c:Nat} (h:BM all ws m ex V0 A0 σ c):Fz all ws σ c:=⟨h.le,fun j o hj ho=>by
 obtain⟨x,V,A,h1,h2,_⟩:=h.tr j o hj ho;exact⟨x,V,A,h1,h2⟩⟩
theorem BM.pre {σ:Nat->St} {c:Nat} (h:BM all ws m ex V0 A0 σ c):∀k,k<=m->k<=c->KO ex V0 A0 (σ k):=by
 intro k;induction k with
 |zero=>
  intro _ _;refine⟨?_,by rw[h.v0.2];simp⟩;rw[h.v0.1,pH];simp
 |succ k ih=>
  intro h1 h2;have hle:=h.le;obtain⟨x,V,A,q1,q2,q3⟩:=h.tr k _ (by omega) (aat (by omega));have hV:(σ (k+1)).V=V:=by rw[q1];rfl
  have hA:(σ (k+1)).A=A:=by rw[q1];rfl
  by_cases hw:k∈ws
  ·have:=q3 hw (by omega);exact⟨by rw[hV];exact this.1,by rw[hA];exact this.2⟩
  ·rcases q2 with q2|⟨q2,q4⟩
   ·exact absurd q2 hw
   ·have:=ih (by omega) (by omega);exact⟨by rw[hV,q2];exact this.1,by rw[hA,q4];exact this.2⟩
set_option maxHeartbeats 2000000 in
theorem FD {ow:Nat->Bool} (hd:mh all ws fs m cs=true) (LW:∀(j:Nat) o,all[j]? =some o->o.guard=none) (fc:da n all.toList=true) {σ:Nat->St} {c:Nat} (P0:BM all ws m ex V0 A0 σ c) (JO:∀i∈cs,i∉ws) (M7:∀i∈cs,i∉fs) {af:Array Bool} {k0:Nat} (hD:xM all ws σ n w g af k0 g a w) (gv:k0<=c) (nM:∀i,af[i]? =some true->i<c)
  {j:Nat} (hj:j∈Region.ready .any all af) (En:j<=c) {o:Oper} (ho:all[j]? =some o) {next:Act->World->Prop} {Q:Exit->Act->World->Prop}:
  (j<c->j∉cs->L3 P (ow j) fs j ex V0 A0 o (σ j) (σ (j+1))->(∀k1 v g' w',k1<=c->xM all ws σ n w' g' (af.setIfInBounds j true) k1 g' (a.put o.dst v) w'->Fr w g w' g'->next (a.put o.dst v) w')->wpOp P all Q j next a w)/\
  (j=c->cS o.op=false->j∉ws->Jb w0 g0 X L S g w->(∀K:AV->Ts->Prop,cb P (σ j) L o K->(∀x L' S' v g' w',K x L'->(∀σ':Nat->St,(∀i,i<=c->σ' i=σ i)->σ' (c+1)=(σ c).put o.dst x (σ c).V (σ c).A->xM all ws σ' n w' g' (af.setIfInBounds j true) k0 g' (a.put o.dst v) w')->Jb w0 g0 X L' S' g' w'->next (a.put o.dst v) w')->wpOp P all Q j next a w)):=by
 have hT:=P0.Tl;simp only[mh,aaC,ZN]at hd;obtain⟨⟨⟨⟨gR,jE⟩,o5⟩,IY⟩,IZ⟩:=hd;have cZ:∀(j:Nat) o,all[j]? =some o->(o,j)∈all.toList.zipIdx:=fun j o h=>by
  rw[ZU];exact⟨j,by simp[ZV,h]⟩
 have c8:∀(j:Nat) o,all[j]? =some o->∀e∈o.after,Region.binds .any e=true->e.on<j:=fun j o h e he hb=>by
  have:=gR _ (cZ j o h) e (aau.2 he);simpa[hb]using this
 have ry:∀(i j:Nat) oi oj,all[i]? =some oi->all[j]? =some oj->i<j->lk all ws fs m cs (bc all.toList []) oi oj i j=true:=fun i j oi oj h1 h2 ay=>by
  have:=jE _ (cZ j oj h2) _ (cZ i oi h1);simpa[ay]using this
 have fR:∀(i j:Nat) oi oj,all[i]? =some oi->all[j]? =some oj->i<j->i∉cs->j∉cs->cN all ws fs m (bc all.toList []) oi oj i j=true:=fun i j oi oj h1 h2 ay hi hj=>by
  have:=ry i j oi oj h1 h2 ay;simpa[lk,hi,hj]using this
 have b7:∀(i j:Nat) oi oj,all[i]? =some oi->all[j]? =some oj->i<j->i∉cs->j∉cs->i∉fs->j∉fs->bu all ws (bc all.toList []) oi oj i j=true:=fun i j oi oj h1 h2 ay hi hj Gv nX=>by
  have:=fR i j oi oj h1 h2 ay hi hj;simpa[cN,bu,Gv,nX]using this
 have HO:∀(i j:Nat) oi oj,all[i]? =some oi->all[j]? =some oj->i<j->(dC all oi oj=true\/dC all oj oi=true)->((bc all.toList []).getD j 0).testBit i=true:=fun i j oi oj h1 h2 ay ht=>by
  have:=ry i j oi oj h1 h2 ay;simp only[lk]at this;split at this
  ·simp only[aaC,aaD]at this;rcases this.2 with h|h
   ·rcases ht with ht|ht<;>simp[ht]at h
   ·exact h
  ·simp only[cN,aaC,aaD]at this;rcases this.2 with h|h
   ·rcases ht with ht|ht<;>simp[ht]at h
   ·exact h
 have mc:∀i,i∈ws->i∉fs:=fun i hi hf=>by
  have:=IY i hf;simp[hi]at this
 have OB:∀i,i∈ws->i∉cs:=fun i hi hc=>JO i hc hi
 have CQ:=P0.pre;have uE:∀(j:Nat) o,all[j]? =some o->j∈ws->cS o.op=false:=fun j o h hj=>by
  have:=o5 _ (cZ j o h);simpa[hj]using this
 have fP:∀(i j:Nat) oi oj d,all[i]? =some oi->all[j]? =some oj->i<j->oi.dst=some d->oj.dst≠some d:=fun i j oi oj d h1 h2 ay h3 h4=>by
  have:=ry i j oi oj h1 h2 ay;simp only[lk,cN,h3,h4]at this;split at this<;>simp at this
 have re:∀(i j:Nat) oi oj d,all[i]? =some oi->all[j]? =some oj->oi.dst=some d->oj.dst=some d->i=j:=fun i j oi oj d h1 h2 h3 h4=>by
  rcases ZD i j with h|h|h
  ·exact absurd h4 (fP i j oi oj d h1 h2 h h3)
  ·exact h
  ·exact absurd h3 (fP j i oj oi d h2 h1 h h4)
 have zG:∀(j:Nat) o d,all[j]? =some o->o.dst=some d->d<n:=fun j o d h1 h2=>by
  have:=ZN.1 fc o (by rw[aau];exact aay h1);simpa[h2]using this
 obtain⟨Gs,_,A7⟩:=fe all.toList []
 have mX:∀{af:Array Bool},(∀(i:Nat) o,all[i]? =some o->af[i]? =some true->∀e∈o.after,Region.binds .any e=true->af[e.on]? =some true)->
   ∀(i:Nat) o,all[i]? =some o->(∀e∈o.after,Region.binds .any e=true->af[e.on]? =some true)->∀k,((bc all.toList []).getD i 0).testBit k=true->af[k]? =some true:=by
  intro af kS i;induction i using ZH with
  |_ i ih=>
   intro o ho cL k hk;obtain⟨pre,h1,h2,h3⟩:=A7 i o (by simpa using ho);simp only[Z7,ZE]at h1 h3;have h4:(bc all.toList []).getD i 0=mW pre o:=by simp[ZW,h3]
   rw[h4]at hk;obtain⟨e,he,hb,h5⟩:=fO hk;have s4:=cL e he hb;rcases h5 with rfl|h5
   ·exact s4
   ·have ay:=c8 i o ho e he hb;have h6:pre.getD e.on 0=(bc all.toList []).getD e.on 0:=by simp only[ZW,h2 e.on (by omega)]
    rw[h6]at h5;have fB:e.on<all.size:=by have:=(aas.1 ho).1;omega
    have uF:all[e.on]? =some all[e.on]:=aat fB;exact ih e.on ay _ uF (kS e.on _ uF s4) k h5
 have I5:=hT.le;have oV:=hT.Oo;have oW:=hT.Oq re;have tC:=hT.VA;obtain⟨mY,o2,mJ,cL⟩:=mem_ready.1 hj;obtain rfl:o=o2:=by rw[ho]at mJ;exact Option.some.inj mJ
 have mZ:=ep mY;have rG:j<all.size:=(aas.1 ho).1;have jk:j<af.size:=by rw[hD.eG];exact rG
 have cE:∀e∈o.after,Region.binds .any e=true->af[e.on]? =some true:=fun e he hb=>cK.1 (cL e he hb)
 have cw:∀k,((bc all.toList []).getD j 0).testBit k=true->af[k]? =some true:=mX hD.closed j o ho cE;have b4:∀(i:Nat) oi,all[i]? =some oi->af[i]? =some true->((bc all.toList []).getD i 0).testBit j=false:=fun i oi a7 bF=>by
  cases hb:((bc all.toList []).getD i 0).testBit j with
  |false=>rfl
  |true=>have:=mX hD.closed i oi a7 (hD.closed i oi a7 bF) j hb;rw[mZ]at this;simp at this
 have jJ:∀t∈o.looksAt all,∀x,look (σ j).fr t=some x->∃u,a.tmps[t]? =some u/\aW g w (σ k0).A x u:=by
  intro t ht x hx;by_cases hex:∃(i:Nat) (oi:Oper),i<j/\all[i]? =some oi/\oi.dst=some t
  ·obtain⟨i,oi,lr,a7,cn⟩:=hex;rw[oW j i oi t (by omega) lr a7 cn]at hx;have tD:dC all oi o=true:=by simp only[dC,cn];simpa using ht
   have hb:((bc all.toList []).getD j 0).testBit i=true:=HO i j oi o a7 ho lr (.inl tD);exact hD.fU i oi t x a7 (cw i hb) cn hx
  ·rw[oV j t (by omega) (fun i oi lr a7 cn=>hex ⟨i,oi,lr,a7,cn⟩)]at hx;refine hD.fV t x (fun i oi a7 bF cn=>?_) hx;rcases ZD i j with h|h|h
   ·exact hex ⟨i,oi,h,a7,cn⟩
   ·subst h;rw[mZ]at bF;simp at bF
   ·have tD:dC all oi o=true:=by simp only[dC,cn];simpa using ht
    have hb:=b4 i oi a7 bF;rw[HO j i o oi ho a7 h (.inr tD)]at hb;simp at hb
 let cU:=(σ j).fr.filter fun p=>(o.looksAt all).contains p.1
 have ld:∀t,look cU t=if(o.looksAt all).contains t then look (σ j).fr t else none:=fun t=>e9 (fun t=>(o.looksAt all).contains t) (σ j).fr t
 have hS:∀(V:List (List CV)),iC g w ⟨cU,V,(σ k0).A⟩ a:=fun V t x hx=>by
  simp only[ld]at hx;split at hx
  ·rename_i hc;exact jJ t (by simpa using hc) x hx
  ·cases hx
 have gG:∀(V V':List (List CV)) (A A':List bz),∀x∈o.op.operands.toList,bH ⟨cU,V,A⟩ x=bH ⟨(σ j).fr,V',A'⟩ x:=fun V V' A A' x hx=>by
  cases x with
  |tmp t=>
   simp only[bH,ld];rw[if_pos];simp only[Oper.looksAt,aar,decide_eq_true_eq,ZP,aae];exact .inl ⟨.tmp t,hx,rfl⟩
  |_=>rfl
 have gX:Rp n w g ⟨cU,(σ k0).V,(σ k0).A⟩ g a w:=⟨hD.inv,hD.fr,hD.size,hD.defers,hS _⟩;have lD:Region.wanted o (yielded all a.tmps)=true:=by simp[Region.wanted,LW j o ho]
 have bS:∀i,(af.setIfInBounds j true)[i]? =if i=j then some true else af[i]? :=fun i=>by
  by_cases e:i=j
  ·subst e;simp[jk]
  ·rw[if_neg e,aav (fun h=>e h.symm)]
 have cR:∀(σ':Nat->St) (k1:Nat) (x:AV) (v:Value) (w':World) (g':Gh),(∀i,i<=c->σ' i=σ i)->look (σ' (j+1)).fr=look ((σ j).put o.dst x [] []).fr->aW g' w' (σ k1).A x v->Inv g' w' (σ k1).V (σ k1).A->Ext g w (σ k0).A g' w' (σ k1).A->AI w' g'->k1<=c->(k1=0\/∃i∈ws,k1=i+1)->
   (∀i∈ws,i<all.size->((af.setIfInBounds j true)[i]? =some true↔i<k1))->xM all ws σ' n w' g' (af.setIfInBounds j true) k1 g' (a.put o.dst v) w':=by
  intro σ' k1 x v w' g' hσ Cu x8 hI hx hF hk LA Fb;have iX:∀t u,o.dst≠some t->a.tmps[t]? =some u->(a.put o.dst v).tmps[t]? =some u:=fun t u di hu=>by
   cases qZ:o.dst with
   |none=>exact hu
   |some d=>
    simp only[Act.put];rw[aav (fun e=>di (by rw[qZ,e]))];exact hu
  refine⟨by rw[hσ k1 hk];exact hI,.refl hF,?_,?_,by simp[hD.eG],fun i oi t y a7 bF cn hy=>?_,fun t y fz hy=>?_,Fb,by omega,LA,fun i oi a7 bF e he hb=>?_⟩
  ·cases o.dst<;>simp[Act.put,hD.size]
  ·cases o.dst<;>simp[Act.put,hD.defers]
  ·rw[hσ k1 hk];rw[bS]at bF;by_cases e:i=j
   ·subst e;obtain rfl:o=oi:=by rw[ho]at a7;exact Option.some.inj a7
    rw[Cu]at hy;simp only[St.put,cn,look,if_true]at hy;cases hy
    refine⟨v,?_,x8⟩;have:t<a.tmps.size:=by rw[hD.size];exact zG i o t ho cn
    simp[Act.put,cn,this]
   ·rw[if_neg e]at bF;rw[hσ (i+1) (nM i bF)]at hy;obtain⟨u,h1,h2⟩:=hD.fU i oi t y a7 bF cn hy;exact⟨u,iX t u (fun h=>e (re i j oi o t a7 ho cn h)) h1,aW.ext hx h2⟩
  ·rw[hσ k1 hk];rw[hσ 0 (ZC _)]at hy;have di:o.dst≠some t:=fz j o ho (by rw[bS,if_pos rfl]);obtain⟨u,h1,h2⟩:=hD.fV t y (fun i oi a7 bF=>fz i oi a7 (by
    rw[bS];by_cases e:i=j
    ·rw[if_pos e]
    ·rw[if_neg e];exact bF)) hy
   exact⟨u,iX t u di h1,aW.ext hx h2⟩
  ·rw[bS]at bF⊢;have:af[e.on]? =some true:=by
    by_cases e':i=j
    ·subst e';obtain rfl:o=oi:=by rw[ho]at a7;exact Option.some.inj a7
     exact cE e he hb
    ·rw[if_neg e']at bF;exact hD.closed i oi a7 bF e he hb
   by_cases e':e.on=j
   ·rw[if_pos e']
   ·rw[if_neg e'];exact this
 have iu:j∉ws->∀i∈ws,i<all.size->((af.setIfInBounds j true)[i]? =some true↔i<k0):=fun eu i hi b8=>by
  rw[bS,if_neg (fun e=>eu (by rw[<-e];exact hi))];exact hD.eo i hi b8
 have kV:cS o.op=false->j∉fs->j∉cs->(σ j).V=(σ k0).V/\(σ j).A=(σ k0).A:=by
  intro fI nX Dh;rcases ZK j k0 with h|h
  ·have:=tC k0 j h gv (fun i h1 h2 h3=>by
    have b8:i<all.size:=by omega
    have bF:=(hD.eo i h3 b8).2 h2;have a7:all[i]? =some all[i]:=aat b8;rcases ZF j i with h4|h4
    ·have hp:=b7 j i o _ ho a7 h4 Dh (OB i h3) nX (mc i h3);have hb:=b4 i _ a7 bF;simp only[bu,hb,aaC,aaD]at hp;simp[h3,fI,-cS]at hp
    ·obtain rfl:i=j:=by omega
     rw[mZ]at bF;simp at bF)
   exact⟨this.1.symm,this.2.symm⟩
  ·exact tC j k0 h En (fun i h1 h2 h3=>by
    have b8:i<all.size:=by omega
    have a7:all[i]? =some all[i]:=aat b8;have hp:=b7 i j _ o a7 ho h2 (OB i h3) Dh (mc i h3) nX;simp only[bu,aaC,aaD]at hp;have hb:((bc all.toList []).getD j 0).testBit i=true:=by
     rcases hp.2 with h4|h4
     ·simp[h3,fI,-cS]at h4
     ·exact h4
    have:=(hD.eo i h3 b8).1 (cw i hb);omega)
 unfold wpOp;simp only[ho];rw[if_pos lD];refine⟨fun lX Dh jG ih=>.inl ?_,fun lX fI eu hJ K iD ih=>.inl ?_⟩
 ·obtain⟨x,V,A,h2,h3,Fe⟩:=jG;have o0:look (σ (j+1)).fr=look ((σ j).put o.dst x [] []).fr:=by rw[h2];rfl
  by_cases hs:cS o.op=true
  ·-- slots alone
   have eu:j∉ws:=fun h=>by have:=uE j o ho h;rw[hs]at this;simp at this
   have h4:bJ P ⟨cU,(σ k0).V,(σ k0).A⟩ (ow j) o (fun y V' A'=>y=x/\V'=(σ k0).V/\A'=(σ k0).A):=nO (s:=σ j) (s':=⟨cU,(σ k0).V,(σ k0).A⟩) hs (gG _ _ _ _) h3 ⟨rfl,rfl,rfl⟩;obtain⟨y,V',A',⟨rfl,rfl,rfl⟩,h5⟩:=dj gX.inv gX.fr gX.slot h4;exact h5 _ _ fun v w' g' h6 h7 h8 h9=>ih k0 v g' w' gv (cR σ k0 y v w' g' (fun _ _=>rfl) o0 h6 h7 h8 h9.now gv hD.kw (iu eu)) h9
  ·have fI:cS o.op=false:=by simpa[-cS]using hs
   by_cases nX:j∈fs
   ·have eu:j∉ws:=fun h=>mc j h nX
    have CR:k0<=m:=by
     rcases hD.kw with h|⟨i,hi,hk⟩
     ·omega
     ·rcases ZF i m with h|h
      ·omega
      ·exfalso
       have b8:i<all.size:=by have:=hD.nP;omega
       have a7:all[i]? =some all[i]:=aat b8;have bF:=(hD.eo i hi b8).2 (by omega);have KP:j<i:=by
        have:=IZ j nX i hi;simp at this;omega
       have hp:=fR j i o _ ho a7 KP Dh (OB i hi);have hb:=b4 i _ a7 bF;have s6:¬i<m:=by omega
       simp only[cN,hb,aaC,aaD]at hp;simp[-cS,hi,fI,s6,nX,eu]at hp
    obtain⟨dO,zK⟩:=CQ k0 CR gv;have h4:bJ P ⟨cU,(σ k0).V,(σ k0).A⟩ (ow j) o (fun y V' A'=>y=x/\V'=(σ k0).V/\A'=(σ k0).A):=by
     have h5:=Fe nX (fun i=>(σ k0).V.getD i []) ((σ k0).V.drop V0.length) ((σ k0).A.drop A0.length);have e1:rJ ex (fun i=>(σ k0).V.getD i []) V0++(σ k0).V.drop V0.length=(σ k0).V:=by
      rw[<-dO];exact ZY _ _
     have e2:A0++(σ k0).A.drop A0.length=(σ k0).A:=by conv=>lhs;arg 1;rw[<-zK]
                                                      exact ZY _ _
     rw[e1,e2]at h5;exact ej (fr:=(σ j).fr) (gG _ _ _ _) h5
    obtain⟨y,V',A',⟨rfl,rfl,rfl⟩,h5⟩:=dj gX.inv gX.fr gX.slot h4;exact h5 _ _ fun v w' g' h6 h7 h8 h9=>ih k0 v g' w' gv (cR σ k0 y v w' g' (fun _ _=>rfl) o0 h6 h7 h8 h9.now gv hD.kw (iu eu)) h9
   obtain⟨kJ,gn⟩:=kV fI nX Dh;have h4:bJ P ⟨cU,(σ k0).V,(σ k0).A⟩ (ow j) o (fun y V' A'=>y=x/\V'=V/\A'=A):=by
    rw[<-kJ,<-gn];exact ej (fr:=(σ j).fr) (gG _ _ _ _) (h3 _ ⟨rfl,rfl,rfl⟩)
   obtain⟨y,V',A',⟨rfl,rfl,rfl⟩,h5⟩:=dj gX.inv gX.fr gX.slot h4;have s5:(σ (j+1)).V=V':=by rw[h2];rfl
   have jq:(σ (j+1)).A=A':=by rw[h2];rfl
   by_cases eu:j∈ws
   ·refine h5 _ _ fun v w' g' h6 h7 h8 h9=>ih (j+1) v g' w' lX (cR σ (j+1) y v w' g' (fun _ _=>rfl) o0 (by rw[jq];exact h6) (by rw[s5,jq];exact h7) (by rw[jq];exact h8) h9.now lX (.inr ⟨j,eu,rfl⟩) (fun i hi b8=>?_)) h9
    have a7:all[i]? =some all[i]:=aat b8;rw[bS];by_cases e:i=j
    ·subst e;simp
    ·rw[if_neg e];constructor
     ·intro bF;rcases ZF j i with h|h
      ·have hp:=b7 j i o _ ho a7 h Dh (OB i hi) nX (mc i hi);have hb:=b4 i _ a7 bF;simp only[bu,hb,aaC,aaD]at hp;simp[hi,fI,-cS]at hp
      ·omega
     ·intro ay;have hp:=b7 i j _ o a7 ho (by omega) (OB i hi) Dh (mc i hi) nX;simp only[bu,aaC,aaD]at hp;rcases hp.2 with h|h
      ·simp[hi,fI,-cS]at h
      ·exact cw i h
   ·obtain⟨x2,V2,A2,q1,q2⟩:=hT.tr j o lX ho;rcases q2 with q2|⟨q2,q3⟩
    ·exact absurd q2 eu
    have qa:(σ (j+1)).V=(σ j).V:=by rw[q1];exact q2
    have mJ:(σ (j+1)).A=(σ j).A:=by rw[q1];exact q3
    refine h5 _ _ fun v w' g' h6 h7 h8 h9=>ih k0 v g' w' gv (cR σ k0 y v w' g' (fun _ _=>rfl) o0 ?_ ?_ ?_ h9.now gv hD.kw (iu eu)) h9
    ·rw[<-gn,<-mJ,jq];exact h6
    ·rw[<-kJ,<-gn,<-qa,<-mJ,s5,jq];exact h7
    ·have e1:(σ k0).A=A':=by rw[<-gn,<-mJ,jq]
     rw[e1]at h8⊢;exact h8
 ·-- the call
  subst lX;have Ot:rl n w0 g0 X ⟨cU,(σ k0).V,(σ k0).A⟩ L S g a w:=⟨hD.inv,hJ.fr,hD.size,hD.defers,hS _,hJ.nF,hJ.nd,hJ.out⟩;refine qh Ot (pO (s:=σ j) (ow:=ow j) (gG _ _ _ _) iD) _ _ ?_;rintro x V' A' L' S' v w' g' ⟨rfl,rfl,hk⟩ h6 h7 h8 h9 cO eE fS;refine ih x L' S' v g' w' hk (fun σ' hσ hn=>cR σ' k0 x v w' g' hσ (by rw[hn];rfl) h6 h7 h8 h9.now gv hD.kw (iu eu)) ⟨h9,cO,eE,fS⟩
theorem FE (hd:mh all ws fs m cs=true) {σ:Nat->St} (P0:BM all ws m ex V0 A0 σ all.size) {af:Array Bool} {k0:Nat} (hD:xM all ws σ n w g af k0 g a w) (dm:∀i,i<all.size->af[i]? =some true) (hJ:Jb w0 g0 X L S g w):rl n w0 g0 X (σ all.size) L S g a w:=by
 have hT:=P0.Tl;simp only[mh,aaC,ZN]at hd;obtain⟨⟨⟨⟨gR,jE⟩,o5⟩,IY⟩,IZ⟩:=hd;have cZ:∀(j:Nat) o,all[j]? =some o->(o,j)∈all.toList.zipIdx:=fun j o h=>by
  rw[ZU];exact⟨j,by simp[ZV,h]⟩
 have c8:∀(j:Nat) o,all[j]? =some o->∀e∈o.after,Region.binds .any e=true->e.on<j:=fun j o h e he hb=>by
  have:=gR _ (cZ j o h) e (aau.2 he);simpa[hb]using this
 have ry:∀(i j:Nat) oi oj,all[i]? =some oi->all[j]? =some oj->i<j->lk all ws fs m cs (bc all.toList []) oi oj i j=true:=fun i j oi oj h1 h2 ay=>by
  have:=jE _ (cZ j oj h2) _ (cZ i oi h1);simpa[ay]using this
 have uE:∀(j:Nat) o,all[j]? =some o->j∈ws->cS o.op=false:=fun j o h hj=>by
  have:=o5 _ (cZ j o h);simpa[hj]using this
 have fP:∀(i j:Nat) oi oj d,all[i]? =some oi->all[j]? =some oj->i<j->oi.dst=some d->oj.dst≠some d:=fun i j oi oj d h1 h2 ay h3 h4=>by
  have:=ry i j oi oj h1 h2 ay;simp only[lk,cN,h3,h4]at this;split at this<;>simp at this
 have re:∀(i j:Nat) oi oj d,all[i]? =some oi->all[j]? =some oj->oi.dst=some d->oj.dst=some d->i=j:=fun i j oi oj d h1 h2 h3 h4=>by
  rcases ZD i j with h|h|h
  ·exact absurd h4 (fP i j oi oj d h1 h2 h h3)
  ·exact h
  ·exact absurd h3 (fP j i oj oi d h2 h1 h h4)
 have kV:=hT.VA all.size k0 hD.nP (ZB _) (fun i h1 h2 h3=>by have:=(hD.eo i h3 h2).1 (dm i h2);omega);refine⟨by rw[kV.1,kV.2];exact hD.inv,hJ.fr,hD.size,hD.defers,fun t x hx=>?_,hJ.nF,hJ.nd,hJ.out⟩;rw[kV.2];by_cases hex:∃(i:Nat) (o:Oper),all[i]? =some o/\o.dst=some t
 ·obtain⟨i,o,ho,cn⟩:=hex;have hi:=(aas.1 ho).1;rw[hT.Oq re all.size i o t (ZB _) hi ho cn]at hx;exact hD.fU i o t x ho (dm i hi) cn hx
 ·rw[hT.Oo all.size t (ZB _) (fun i o _ ho cn=>hex ⟨i,o,ho,cn⟩)]at hx;exact hD.fV t x (fun i o ho _ cn=>hex ⟨i,o,ho,cn⟩) hx
theorem BN {ow:Nat->Bool} {K:St->Ts->Prop} {Q:Exit->Act->World->Prop} (hd:mh all ws fs m cs=true) (hc:lh all ws cs=true) (M7:∀i∈cs,i∉fs) (fc:da n all.toList=true)
  (hQ:∀s' L' S' g' a' w',K s' L'->rl n w0 g0 X s' L' S' g' a' w'->Q .normal a' w'):
  ∀(fuel:Nat) (σ:Nat->St) (c:Nat) (L:Ts) (S:List Nat) (af:Array Bool) (k0:Nat) (g:Gh) (a:Act) (w:World),((ZM all.size).filter fun i=> !af.getD i true).length<=fuel->BM all ws m ex V0 A0 σ c->k0<=c->
   (∀(j:Nat) o,j<c->all[j]? =some o->af[j]? ≠some true->j∉cs/\L3 P (ow j) fs j ex V0 A0 o (σ j) (σ (j+1)))->(∀i,af[i]? =some true->i<c)->
   ((c=all.size/\K (σ c) L)\/(c∈cs/\∃o,all[c]? =some o/\cb P (σ c) L o fun x L'=>qO P ow ws fs m ex V0 A0 cs K (c+1) (all.toList.drop (c+1)) ((σ c).put o.dst x (σ c).V (σ c).A) L'))->
   xM all ws σ n w g af k0 g a w->Jb w0 g0 X L S g w->wpAny P .any all Q fuel af a w:=by
 have I3:=hd;simp only[mh,aaC,ZN]at hd;obtain⟨⟨⟨⟨gR,jE⟩,o5⟩,IY⟩,IZ⟩:=hd;have cZ:∀(j:Nat) o,all[j]? =some o->(o,j)∈all.toList.zipIdx:=fun j o h=>by
  rw[ZU];exact⟨j,by simp[ZV,h]⟩
 have c8:∀(j:Nat) o,all[j]? =some o->∀e∈o.after,Region.binds .any e=true->e.on<j:=fun j o h e he hb=>by
  have:=gR _ (cZ j o h) e (aau.2 he);simpa[hb]using this
 have ry:∀(i j:Nat) oi oj,all[i]? =some oi->all[j]? =some oj->i<j->lk all ws fs m cs (bc all.toList []) oi oj i j=true:=fun i j oi oj h1 h2 ay=>by
  have:=jE _ (cZ j oj h2) _ (cZ i oi h1);simpa[ay]using this
 have uE:∀(j:Nat) o,all[j]? =some o->j∈ws->cS o.op=false:=fun j o h hj=>by
  have:=o5 _ (cZ j o h);simpa[hj]using this
 have fP:∀(i j:Nat) oi oj d,all[i]? =some oi->all[j]? =some oj->i<j->oi.dst=some d->oj.dst≠some d:=fun i j oi oj d h1 h2 ay h3 h4=>by
  have:=ry i j oi oj h1 h2 ay;simp only[lk,cN,h3,h4]at this;split at this<;>simp at this
 have re:∀(i j:Nat) oi oj d,all[i]? =some oi->all[j]? =some oj->oi.dst=some d->oj.dst=some d->i=j:=fun i j oi oj d h1 h2 h3 h4=>by
  rcases ZD i j with h|h|h
  ·exact absurd h4 (fP i j oi oj d h1 h2 h h3)
  ·exact h
  ·exact absurd h3 (fP j i oj oi d h2 h1 h h4)
 simp only[lh,aaC,ZN]at hc;obtain⟨⟨vV,GU⟩,Ou⟩:=hc;have LW:∀(j:Nat) o,all[j]? =some o->o.guard=none:=fun j o h=>by
  have:=GU _ (cZ j o h);simpa using this
 have JO:∀c∈cs,c∉ws:=fun c h=>by simpa using(vV c h).1
 have Ov:∀c∈cs,∀o,all[c]? =some o->cS o.op=false:=fun c h o ho=>by
  have:=Ou _ (cZ c o ho);simpa[h,-cS]using this
 have I1:∀c∈cs,∀(j:Nat) o,all[j]? =some o->c<j->((bc all.toList []).getD j 0).testBit c=true:=fun c h j o ho ay=>by
  have:=(vV c h).2 _ (cZ j o ho);simpa[ay]using this
 have pJ:∀{af:Array Bool},Region.ready .any all af=[]->af.size=all.size->∀i,i<all.size->af[i]? =some true:=by
  intro af hr sr i;induction i using ZH with
  |_ i ih=>
   intro hi;have ho:all[i]? =some all[i]:=aat hi;have bF:i<af.size:=by omega
   cases hl:af[i]with
   |true=>rw[aat bF,hl]
   |false=>
    exfalso
    have:i∈Region.ready .any all af:=mem_ready.2 ⟨by simp[bF,hl],_,ho,fun e he hb=>cK.2 (ih e.on (c8 i _ ho e he hb) (by have:=c8 i _ ho e he hb;omega))⟩;rw[hr]at this;simp at this
 have lS:∀{σ:Nat->St} {c:Nat} {L:Ts} {S:List Nat} {af:Array Bool} {k0:Nat} {g:Gh} {a:Act} {w:World},BM all ws m ex V0 A0 σ c->(∀i,af[i]? =some true->i<c)->
   ((c=all.size/\K (σ c) L)\/(c∈cs/\∃o,all[c]? =some o/\cb P (σ c) L o fun x L'=>qO P ow ws fs m ex V0 A0 cs K (c+1) (all.toList.drop (c+1)) ((σ c).put o.dst x (σ c).V (σ c).A) L'))->
   xM all ws σ n w g af k0 g a w->Jb w0 g0 X L S g w->Region.ready .any all af=[]->Q .normal a w:=by
  intro σ c L S af k0 g a w hT nM hK hD hJ hr;have dm:=pJ hr hD.eG;rcases hK with⟨rfl,hK⟩|⟨rK,o,ho,_⟩
  ·exact hQ _ _ _ _ _ _ hK (FE I3 hT hD dm hJ)
  ·have b8:=(aas.1 ho).1;have:=nM c (dm c b8);omega
 intro fuel;induction fuel with
 |zero=>
  intro σ c L S af k0 g a w hf hT gv ru nM hK hD hJ;have la:Region.ready .any all af=[]:=by
   have h0:((ZM all.size).filter fun i=> !af.getD i true)=[]:=aao (by omega);rcases hr:Region.ready .any all af with _|⟨j,r⟩
   ·rfl
   ·have hj:j∈Region.ready .any all af:=by rw[hr];simp
    obtain⟨h1,o,h2,_⟩:=mem_ready.1 hj;have:j∈((ZM all.size).filter fun i=> !af.getD i true):=by
     rw[aaf,ZT];exact⟨(aas.1 h2).1,by simp[h1]⟩
    rw[h0]at this;simp at this
  exact⟨la,lS hT nM hK hD hJ la⟩
 |succ fuel ih=>
  intro σ c L S af k0 g a w hf hT gv ru nM hK hD hJ;refine⟨fun hr=>lS hT nM hK hD hJ hr,fun j hj=>?_⟩;obtain⟨mY,o,ho,cL⟩:=mem_ready.1 hj;have mZ:=ep mY;have rG:j<all.size:=(aas.1 ho).1;have jk:j<af.size:=by rw[hD.eG];exact rG
  have cE:∀e∈o.after,Region.binds .any e=true->af[e.on]? =some true:=fun e he hb=>cK.1 (cL e he hb)
  have bS:∀i,(af.setIfInBounds j true)[i]? =if i=j then some true else af[i]? :=fun i=>by
   by_cases e:i=j
   ·subst e;simp[jk]
   ·rw[if_neg e,aav (fun h=>e h.symm)]
  have c5:((ZM all.size).filter fun i=> !(af.setIfInBounds j true).getD i true).length<=fuel:=by
   have ay:((ZM all.size).filter fun i=> !(af.setIfInBounds j true).getD i true).length<((ZM all.size).filter fun i=> !af.getD i true).length:=by
    have gF:∀i,(!(af.setIfInBounds j true).getD i true)=true->(!af.getD i true)=true:=fun i h=>by
     by_cases e:i=j
     ·subst e;simp[jk]at h
     ·have:(af.setIfInBounds j true).getD i true=af.getD i true:=by
       simp only[aax,bS,if_neg e]
      rwa[this]at h
    exact filter_lt gF (ZT.2 rG) (by simp[mY]) (by simp[jk])
   omega
  have En:j<=c:=by
   rcases hK with⟨rfl,_⟩|⟨rK,oc,Eo,_⟩
   ·omega
   ·rcases ZF c j with h|h
    ·have:=nM c (od c8 hD.closed j o ho cE c (I1 c rK j o ho h));omega
    ·exact h
  obtain⟨one1,one2⟩:=FD (w0:=w0) (g0:=g0) (X:=X) (L:=L) (S:=S) (ow:=ow) I3 LW fc hT JO M7 hD gv nM hj En ho (next:=wpAny P .any all Q fuel (af.setIfInBounds j true)) (Q:=Q);rcases ZJ En with ay|rfl
  ·refine one1 ay (ru j o ay ho (by rw[mZ];simp)).1 (ru j o ay ho (by rw[mZ];simp)).2 fun k1 v g' w' jn Jz hF=>ih σ c L S _ k1 g' _ w' c5 hT jn (fun i oi hi a7 bF=>ru i oi hi a7 fun h=>bF ?_) (fun i hi=>?_) hK Jz (hJ.cU hF)
   ·rw[bS];by_cases e:i=j
    ·rw[if_pos e]
    ·rw[if_neg e];exact h
   ·rw[bS]at hi;by_cases e:i=j
    ·subst e;exact ay
    ·rw[if_neg e]at hi;exact nM i hi
  ·rcases hK with⟨h,_⟩|⟨rK,oc,Eo,iD⟩
   ·omega
   obtain rfl:o=oc:=by rw[ho]at Eo;exact Option.some.inj Eo
   refine one2 rfl (Ov j rK o ho) (JO j rK) hJ _ iD fun x L' S' v g' w' hk Ow Ox=>?_
   obtain⟨τ,m,k1,k2,k3,k4⟩:=pQ _ _ _ _ hk;have hlen:(all.toList.drop (j+1)).length=all.size-(j+1):=by simp
   let σ':Nat->St:=fun i=>if i<=j then σ i else τ (i-(j+1))
   have e1:∀i,i<=j->σ' i=σ i:=fun i hi=>by simp only[σ',if_pos hi]
   have e2:∀i,σ' (j+1+i)=τ i:=fun i=>by simp only[σ',if_neg (show¬j+1+i<=j by omega)];congr 1;omega
   have e3:∀i,(all.toList.drop (j+1))[i]? =all[j+1+i]? :=fun i=>by simp
   have kh:σ' (j+1)=(σ j).put o.dst x (σ j).V (σ j).A:=by rw[<-k2];exact e2 0
   refine ih σ' (j+1+m) L' S' _ k0 g' _ w' c5 ⟨by omega,by rw[e1 0 (ZC _)];exact hT.v0,fun i oi hi a7=>?_⟩ (by omega) (fun i oi hi a7 bF=>?_) (fun i hi=>?_) ?_ (Ow σ' e1 kh) Ox
   ·rcases ZD i j with h|h|h
    ·rw[e1 i (by omega),e1 (i+1) (by omega)];exact hT.tr i oi h a7
    ·subst h;obtain rfl:o=oi:=by rw[ho]at a7;exact Option.some.inj a7
     rw[e1 i (by omega),kh];exact⟨x,_,_,rfl,.inr ⟨rfl,rfl⟩,fun h=>absurd h (JO i rK)⟩
    ·obtain⟨q,rfl⟩:∃q,i=j+1+q:=⟨i-(j+1),by omega⟩;rw[e2 q,show j+1+q+1=j+1+(q+1) by omega,e2 (q+1)];exact(k3 q oi (by omega) (by rw[e3];exact a7)).2.1
   ·rw[bS]at bF;by_cases e:i=j
    ·rw[if_pos e]at bF;simp at bF
    ·rw[if_neg e]at bF;rcases ZF i j with h|h
     ·rw[e1 i (by omega),e1 (i+1) (by omega)];exact ru i oi h a7 bF
     ·obtain⟨q,rfl⟩:∃q,i=j+1+q:=⟨i-(j+1),by omega⟩;rw[e2 q,show j+1+q+1=j+1+(q+1) by omega,e2 (q+1)];exact⟨(k3 q oi (by omega) (by rw[e3];exact a7)).2.2,(k3 q oi (by omega) (by rw[e3];exact a7)).1⟩
   ·rw[bS]at hi;by_cases e:i=j
    ·omega
    ·rw[if_neg e]at hi;have:=nM i hi;omega
   ·rcases k4 with⟨h1,h2⟩|⟨h1,oc,h2,h3⟩
    ·exact .inl ⟨by omega,by rw[e2];exact h2⟩
    ·refine .inr ⟨h1,oc,by rw[<-e3];exact h2,?_⟩;rw[e2];rw[aaq,show j+1+(m+1)=j+1+m+1 by omega]at h3;exact h3
theorem wZ {ow:Nat->Bool} {K:St->Ts->Prop} (p:List Nat):∀(ops:List Oper) (i:Nat) (s:St) (L:Ts),qO P ow ws fs m ex V0 A0 cs K i ops s L->qO P ow ws fs m ex V0 A0 cs K i (ops.map (iQ p)) s L
 |[],_,_,_,h=>h
 |o::rest,i,s,L,h=>by
  rcases h with⟨h1,h2⟩|⟨h1,h2⟩
  ·exact .inl ⟨h1,qj (o:=o) (fun x L' h=>wZ p rest _ _ _ h) h2⟩
  ·exact .inr ⟨h1,gg (o:=o) (fun x V A h=>⟨h.1,h.2.1,h.2.2.1,wZ p rest _ _ _ h.2.2.2⟩) h2⟩
theorem TJ.zY {Q:Exit->St->Ts->Prop} {id:Nat} {l:List Oper} (hm:P.follows .mixedOrders=true) (p:List Nat) (ow:Nat->Bool) (ws fs:List Nat) (m:Nat) (ex:List Nat) (cs:List Nat) (hp:kP l p=true) (hd:mh (bR l p).toArray ws fs m cs=true) (hc:lh (bR l p).toArray ws cs=true) (M7:(cs.all fun i=> !fs.contains i)=true)
  (h:qO P ow ws fs m ex s.V s.A cs (fun s' L'=>Q .normal s' L') 0 (eJ l p) s L):TJ P n (.region id l.toArray true) Q s L:=by
 obtain⟨p1,p2,p3,p4,p5⟩:=jg hp;intro eP w0 g0 X S g a w hR;have Df:da n (bR l p).toArray.toList=true:=by
  have hx:da n l=true:=by simpa[codeOk]using eP
  simp only[da,ZN]at hx⊢;intro o' sY;obtain⟨j,hj⟩:=Z2 sY;obtain⟨o,q1,rfl,_⟩:=lj hp (j:=j) (o':=o') (by simpa using hj);exact hx o (ZZ q1)
 obtain⟨τ,m,k1,k2,k3,k4⟩:=pQ (eJ l p|>.map (iQ p)) 0 s L (wZ p _ _ _ _ h);obtain⟨hI,hx⟩:=hR.inv.heap (w':={w with drawn:=w.drawn+1}) rfl;have hF:Fr w g {w with drawn:=w.drawn+1} g:=(Fr.refl hR.fr.now).heap rfl rfl rfl rfl;have hJ:Jb w0 g0 X L S g {w with drawn:=w.drawn+1}:=(Jb.mk hR.fr hR.nF hR.nd hR.out).cU hF;have fB:(bR l p).toArray.size=l.length:=by simp[du,p1]
 have vS:∀(i:Nat),(bR l p).toArray[i]? =(bR l p)[i]? :=fun i=>by simp
 refine wp_region_any hm (rv hp _ _ (aaw l.length false) a _ (by simp) (by simp) (fun i=>?_) (BN (ex:=ex) (V0:=s.V) (A0:=s.A) (K:=fun s' L'=>Q .normal s' L') (ow:=ow) hd hc (fun i hi hf=>by have:=ZN.1 M7 i hi;simp[hf]at this) Df (fun s' L' S' g' a' w' h1 h2=>⟨s',g',L',S',h1,h2⟩) _ τ m L S _ 0 g a _ ?_ ?_ (ZC _) ?_ ?_ ?_ ?_ hJ))
 ·simp only[aaB];by_cases hi:i<l.length
  ·have:=Z1 (p3 i hi);rw[if_pos (by omega),if_pos (by simpa using hi)]
  ·have Oz:i∉p:=fun h=>hi (p2 i h)
   rw[if_neg (by rw[aak Oz];omega),if_neg (by simpa using hi)]
 ·refine ZG (aaj _ _) (by simp[du,p1])
 ·refine⟨by rw[fB,<-p1,<-du (l:=l)];exact k1,by rw[k2];exact⟨rfl,rfl⟩,fun j o hj ho=>?_⟩;have:=(k3 j o hj (by rw[vS]at ho;exact ho)).2.1;simpa only[ZE]using this
 ·intro j o hj ho _;have:=And.intro (k3 j o hj (by rw[vS]at ho;exact ho)).2.2 (k3 j o hj (by rw[vS]at ho;exact ho)).1;simpa only[ZE]using this
 ·intro i hi;have AF:=(aas.1 hi).1;simp at AF;simp[AF]at hi
 ·rcases k4 with⟨h1,h2⟩|⟨h1,oc,h2,h3⟩
  ·exact .inl ⟨by rw[h1];simp[bR],h2⟩
  ·refine .inr ⟨by simpa using h1,oc,by rw[vS];exact h2,?_⟩;simp only[ZE]at h3;exact h3
 ·refine⟨by rw[k2];exact hI,.refl hF.now,hR.size,hR.defers,by simp[du,p1],fun i o t x ho hl=>?_,fun t x _ gD=>?_,fun i _ b8=>?_,ZC _,.inl rfl,fun i o ho hl=>?_⟩
  ·have hi:=(aas.1 hl).1;simp at hi;simp[hi]at hl
  ·rw[k2]at gD⊢;obtain⟨u,h1,h2⟩:=hR.slot t x gD;exact⟨u,h1,aW.ext hx h2⟩
  ·rw[fB]at b8;simp[b8]
  ·have hi:=(aas.1 hl).1;simp at hi;simp[hi]at hl
structure w6 (P:Program) (ow:Nat->Bool) (ws fs:List Nat) (m:Nat) (ex:List Nat) (V0:List (List CV)) (A0:List bz) (cs:List Nat) (K:St->Ts->Prop) (i:Nat) (ops:List Oper) (s:St) (L:Ts):Prop where
 mk::
 run:qO P ow ws fs m ex V0 A0 cs K i ops s L
variable {ow:Nat->Bool} {K:St->Ts->Prop} {i:Nat} {o:Oper} {rest:List Oper}
theorem HP (hi:cs.contains i=false) (h:bJ P s (ow i) o fun x V A=>(i∈ws\/(V=s.V/\A=s.A))/\(i∈ws->i<m->V.take V0.length=rJ ex (fun i=>V.getD i []) V0/\A.take A0.length=A0)/\(i∈fs->dI P s (ow i) o ex V0 A0 x)/\w6 P ow ws fs m ex V0 A0 cs K (i+1) rest (s.put o.dst x V A) L):w6 P ow ws fs m ex V0 A0 cs K i (o::rest) s L:=
 ⟨.inr ⟨by simpa using hi,gg (fun x V A h=>⟨h.1,h.2.1,h.2.2.1,h.2.2.2.run⟩) h⟩⟩
theorem Di (hi:cs.contains i=true) (h:cb P s L o fun x L'=>w6 P ow ws fs m ex V0 A0 cs K (i+1) rest (s.put o.dst x s.V s.A) L'):w6 P ow ws fs m ex V0 A0 cs K i (o::rest) s L:=
 ⟨.inl ⟨by simpa using hi,qj (fun x L' h=>h.run) h⟩⟩
theorem FF (h:K s L):w6 P ow ws fs m ex V0 A0 cs K i [] s L:=⟨h⟩
theorem w6.gen {ops:List Oper} {d:Nat} {b:Bool} {fr:List (Nat×AV)} {V:List (List CV)} {A:List bz} (h:∀q:Bool,b=q->w6 P ow ws fs m ex V0 A0 cs K i ops ⟨(d,.c (.d (.bool q)))::fr,V,A⟩ L):w6 P ow ws fs m ex V0 A0 cs K i ops ⟨(d,.c (.d (.bool b)))::fr,V,A⟩ L:=h b rfl
@[congr] theorem L4 {i i':Nat} {ops:List Oper} (hi:i=i') (h:s=s'):w6 P ow ws fs m ex V0 A0 cs K i ops s L=w6 P ow ws fs m ex V0 A0 cs K i' ops s' L:=by rw[h,hi]
theorem TJ.UX {Q:Exit->St->Ts->Prop} {id:Nat} {l:List Oper} (hm:P.follows .mixedOrders=true) (p:List Nat) (ow:Nat->Bool) (ws fs:List Nat) (m:Nat) (ex:List Nat) (cs:List Nat) (hp:kP l p=true) (hd:mh (bR l p).toArray ws fs m cs=true) (hc:lh (bR l p).toArray ws cs=true) (M7:(cs.all fun i=> !fs.contains i)=true)
  (h:∀K:St->Ts->Prop,(∀s' L',TJ P n y Q s' L'->K s' L')->w6 P ow ws fs m ex s.V s.A cs K 0 (eJ l p) s L):TJ P n (.seq (.region id l.toArray true) y) Q s L:=
 TJ.seq (TJ.zY hm p ow ws fs m ex cs hp hd hc M7 (h _ fun _ _ h=>h).run)
end
end Go.Av
namespace Go.Av
attribute [-simp] Go.Av.ch Go.Av.eY Go.Av.fw Go.Av.fi Go.Av.cY Go.Av.cb
open Go
section
variable {P:Program} {n:Nat} {Q:Exit->St->Prop} {s:St}
def Ry (P:Program) (o1 o2:Oper) (K:St->Prop) (s:St):Prop:=
 ∃(t e:TypeId) (x lo:Operand) (d1:Nat) (ty:TypeId) (cs:Array Bool) (d de:TD) (z:List CV) (dz:List DV) (k m:Nat) (ki:IntKind) (i:Int) (r:bz),
  (o1.op=.slice t x (some lo) none none/\o1.dst=some d1/\o1.guard=none/\(∀(a:Act) (w:World),(execOp a.eval o2).run P w=(builtin .clear #[t] ty cs #[a.eval (.tmp d1)]).run P w)/\o2.guard=none)/\
  look s.fr d1=none/\(∀d2,o2.dst=some d2->look s.fr d2=none)/\td P t=some d/\d.el=some e/\td P e=some de/\de.zero=some z/\iN [] z=some dz/\z.length=de.sz/\0<de.sz/\
  bH s x=some (.c (.own k m))/\bH s lo=some (.c (.d (.int ki i)))/\0<=i/\i.toNat<m/\s.A[k]? =some r/\m=r.rows.length/\r.wr=true/\r.sz=de.sz/\
  K ⟨s.fr,s.V,s.A.set k {r with rows:=r.rows.take i.toNat++aad (m-i.toNat) dz}⟩
end
section
variable {P:Program} {n:Nat} {Q:Exit->St->Prop} {s s':St} {y:Code}
structure OC (P:Program) (all:Array Oper) (ow:Nat->Bool) (wv wa fs:List Nat) (m:Nat) (ex:List Nat) (V0:List (List CV)) (A0:List bz) (K:St->Prop) (i:Nat) (ops:List Oper) (s:St):Prop where
 mk::
 run:Ho P all ow wv wa fs m ex V0 A0 K i ops s
@[congr] theorem L5 {all:Array Oper} {ow:Nat->Bool} {wv wa fs:List Nat} {m:Nat} {ex:List Nat} {V0:List (List CV)} {A0:List bz} {K:St->Prop} {i i':Nat} {ops:List Oper} (hi:i=i') (h:s=s'):OC P all ow wv wa fs m ex V0 A0 K i ops s=OC P all ow wv wa fs m ex V0 A0 K i' ops s':=by rw[h,hi]
end
end Go.Av
