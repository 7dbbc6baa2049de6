/- A part. -/
import Derived.Test.YtloolmchekcmeaaGreatXE9
set_option linter.unusedVariables false
set_option linter.unusedSimpArgs false
open Nat renaming le_refl->Zo,zero_le->Zp,lt_trichotomy->Zq,zero_add->Zr,lt_or_ge->Zs,le_trans->Zt,strongRecOn->Zu,lt_of_lt_of_le->Zv,lt_or_eq_of_le->Zw,le_total->Zx,add_mul->Zy
open List renaming range->Zz,all_eq_true->ZA,getElem?_eq_getElem->ZB,mem_append->ZC,getElem?_eq_some_iff->ZD,nodup_append->ZE,zipWith->ZF,mem_range->ZG,mem_iff_getElem?->ZH,getElem?_zipIdx->ZI,getD->ZJ,append_assoc->ZK,take_append_drop->ZL,mem_of_getElem?->ZM,length_cons->ZN,idxOf_lt_length_of_mem->ZO,getElem?_of_mem->ZP,getElem?_append_right->ZQ,append_nil->ZR,map_cons->ZS,length_take->ZT,length_nil->ZU,length_eq_zero_iff->ZV,getElem_idxOf->ZW,getElem?_map->ZX,zip_append->ZY,zipWith_append->ZZ,replicate->Z0,mem_filterMap->Z1,mem_filter->Z2,mem_cons->Z3,map_map->Z4,length_map->Z5,length_filter_le->Z6,idxOf_eq_length->Z7,getElem?_take->Z8,getElem?_append_left->Z9,getD_eq_getElem?_getD->aaa,eq_nil_of_length_eq_zero->aab,drop_eq_getElem_cons->aac,drop_drop->aad,contains_eq_mem->aae
open Array renaming getElem?_eq_some_iff->aaf,getElem?_eq_getElem->aag,mem_toList_iff->aah,getElem?_setIfInBounds_ne->aai,replicate->aaj,getD_eq_getD_getElem?->aak,mem_of_getElem?->aal,mem_map->aam,getElem?_setIfInBounds->aan,getElem?_replicate->aao
open Bool renaming and_eq_true->aap,or_eq_true->aaq,and_self->aar
open Option renaming map_eq_some_iff->aas,map_some->aat
namespace Go.Av
open Go
section
variable {P:Program} {g g' g0:Gh} {w w' w0:World} {V V':List (List CV)} {A A':List bu}
end
inductive GC where
 |d (x:DV)
 |t (e:TypeId) (sz n:Nat) (cs:List GC)
 |b (T e:TypeId) (bs:List Value)
 |n (T:TypeId) (row:List DV)
mutual
def Tr (w:World):GC->Value->List Nat->Prop
 |.d x,v,S=>bh (fun _=>0) w x v/\S=[]
 |.t e sz n cs,v,S=>∃xs S',w.ownsRow 0 e sz v n xs/\kF w cs xs S'/\S=v.ownBlock.toList++S'
 |.b T e bs,v,S=>∃b p u,v=.pointer (some ⟨b,0,none⟩)/\w.heap[b]? =some (.cells #[p,u] T (0,0))/\(p=.pointer none\/p=v)/\w.ownsRow 0 e 1 u bs.length bs/\S=b::u.ownBlock.toList
 |.n T row,v,S=>∃b xs,v=.pointer (some ⟨b,0,none⟩)/\w.heap[b]? =some (.cells xs T (0,0))/\xs.size=row.length/\(∀(j:Nat) x u,row[j]? =some x->xs[j]? =some u->bh (fun _=>0) w x u)/\S=[b]
def kF (w:World):List GC->List Value->List Nat->Prop
 |[],xs,S=>xs=[]/\S=[]
 |c::cs,xs,S=>∃x xs' S1 S2,xs=x::xs'/\S=S1++S2/\Tr w c x S1/\kF w cs xs' S2
end
def iq (w:World):List (GC×Value)->List Nat->Prop
 |[],S=>S=[]
 |(c,v)::L,S=>∃S1 S2,S=S1++S2/\Tr w c v S1/\iq w L S2
theorem bh.zero {w w':World} {x:DV} {v:Value} {im:Nat->Nat} (h:bh (fun _=>0) w x v):bh im w' x v:=
 bh.fA (im:=fun _=>0) (w:=w) ⟨fun _=>Zp _,fun _ _ ho=>absurd ho (Nat.not_lt_zero _)⟩ x v h
mutual
theorem Tr.dI {w w':World}:∀(c:GC) (v:Value) (S:List Nat),(∀b∈S,w'.heap[b]? =w.heap[b]?)->Tr w c v S->Tr w' c v S
 |.d x,v,S,_,h=>by simp only[Tr]at h⊢;exact⟨h.1.zero,h.2⟩
 |.t e sz n cs,v,S,hk,h=>by
  simp only[Tr]at h⊢;obtain⟨xs,S',h1,h2,rfl⟩:=h;exact⟨xs,S',nv h1 (fun b hb=>hk b (by simp[hb])),kF.dI cs xs S' (fun b hb=>hk b (by simp[hb])) h2,rfl⟩
 |.b T e bs,v,S,hk,h=>by
  simp only[Tr]at h⊢;obtain⟨b,p,u,rfl,h1,h2,h3,rfl⟩:=h;exact⟨b,p,u,rfl,(hk b (by simp)).trans h1,h2,nv h3 (fun x hx=>hk x (by simp[hx])),rfl⟩
 |.n T row,v,S,hk,h=>by
  simp only[Tr]at h⊢;obtain⟨b,xs,rfl,h1,h2,h3,rfl⟩:=h;exact⟨b,xs,rfl,(hk b (by simp)).trans h1,h2,fun j x u h4 h5=>(h3 j x u h4 h5).zero,rfl⟩
theorem kF.dI {w w':World}:∀(cs:List GC) (xs:List Value) (S:List Nat),(∀b∈S,w'.heap[b]? =w.heap[b]?)->kF w cs xs S->kF w' cs xs S
 |[],xs,S,_,h=>by simp only[kF]at h⊢;exact h
 |c::cs,xs,S,hk,h=>by
  simp only[kF]at h⊢;obtain⟨x,xs',S1,S2,rfl,rfl,h1,h2⟩:=h;exact⟨x,xs',S1,S2,rfl,rfl,Tr.dI c x S1 (fun b hb=>hk b (by simp[hb])) h1,kF.dI cs xs' S2 (fun b hb=>hk b (by simp[hb])) h2⟩
end
theorem iq.dI {w w':World}:∀{L:List (GC×Value)} {S:List Nat},(∀b∈S,w'.heap[b]? =w.heap[b]?)->iq w L S->iq w' L S
 |[],S,_,h=>h
 |(c,v)::L,S,hk,h=>by
  obtain⟨S1,S2,rfl,h1,h2⟩:=h;exact⟨S1,S2,rfl,Tr.dI c v S1 (fun b hb=>hk b (by simp[hb])) h1,iq.dI (fun b hb=>hk b (by simp[hb])) h2⟩
mutual
theorem Tr.lt {w:World}:∀(c:GC) (v:Value) (S:List Nat),Tr w c v S->∀b∈S,b<w.heap.size
 |.d x,v,S,h,b,hb=>by simp only[Tr]at h;rw[h.2]at hb;cases hb
 |.t e sz n cs,v,S,h,b,hb=>by
  simp only[Tr]at h;obtain⟨xs,S',h1,h2,rfl⟩:=h;rcases ZC.1 hb with h3|h3
  ·exact(h1.lt b (by simpa using h3)).2
  ·exact kF.lt cs xs S' h2 b h3
 |.b T e bs,v,S,h,x,hx=>by
  simp only[Tr]at h;obtain⟨b,p,u,rfl,h1,h2,h3,rfl⟩:=h;rcases Z3.1 hx with rfl|hx
  ·exact(aaf.1 h1).1
  ·exact(h3.lt x (by simpa using hx)).2
 |.n T row,v,S,h,x,hx=>by
  simp only[Tr]at h;obtain⟨b,xs,rfl,h1,h2,h3,rfl⟩:=h;rw[List.mem_singleton]at hx;subst hx;exact(aaf.1 h1).1
theorem kF.lt {w:World}:∀(cs:List GC) (xs:List Value) (S:List Nat),kF w cs xs S->∀b∈S,b<w.heap.size
 |[],xs,S,h,b,hb=>by simp only[kF]at h;rw[h.2]at hb;cases hb
 |c::cs,xs,S,h,b,hb=>by
  simp only[kF]at h;obtain⟨x,xs',S1,S2,rfl,rfl,h1,h2⟩:=h;rcases ZC.1 hb with h3|h3
  ·exact Tr.lt c x S1 h1 b h3
  ·exact kF.lt cs xs' S2 h2 b h3
end
theorem iq.lt {w:World}:∀{L:List (GC×Value)} {S:List Nat},iq w L S->∀b∈S,b<w.heap.size
 |[],S,h,b,hb=>by simp only[iq]at h;rw[h]at hb;cases hb
 |(c,v)::L,S,h,b,hb=>by
  obtain⟨S1,S2,rfl,h1,h2⟩:=h;rcases ZC.1 hb with h3|h3
  ·exact Tr.lt c v S1 h1 b h3
  ·exact iq.lt h2 b h3
theorem iq.app {w:World}:∀{L M:List (GC×Value)} {S:List Nat},iq w (L++M) S↔∃S1 S2,S=S1++S2/\iq w L S1/\iq w M S2
 |[],M,S=>by
  simp only[List.nil_append,iq];constructor
  ·intro h;exact⟨[],S,rfl,rfl,h⟩
  ·rintro⟨_,S2,rfl,rfl,h⟩;exact h
 |(c,v)::L,M,S=>by
  simp only[List.cons_append,iq,iq.app (L:=L)];constructor
  ·rintro⟨S1,S2,rfl,h1,S3,S4,rfl,h2,h3⟩;exact⟨S1++S3,S4,by simp,⟨S1,S3,rfl,h1,h2⟩,h3⟩
  ·rintro⟨S1,S2,rfl,⟨S3,S4,rfl,h1,h2⟩,h3⟩;exact⟨S3,S4++S2,by simp,h1,S4,S2,rfl,h2,h3⟩
theorem iq.perm {w:World} {L M:List (GC×Value)} (hp:L.Perm M):∀{S:List Nat},iq w L S->∃S',S.Perm S'/\iq w M S':=by
 induction hp with
 |nil=>exact fun h=>⟨_,.refl _,h⟩
 |cons x _ ih=>
  obtain⟨c,v⟩:=x;rintro S ⟨S1,S2,rfl,h1,h2⟩;obtain⟨S',h3,h4⟩:=ih h2;exact⟨S1++S',h3.append_left S1,S1,S',rfl,h1,h4⟩
 |swap x y l=>
  obtain⟨c,v⟩:=x;obtain⟨c',v'⟩:=y;rintro S ⟨S1,S2,rfl,h1,S3,S4,rfl,h2,h3⟩;refine⟨S3++(S1++S4),?_,S3,S1++S4,rfl,h2,S1,S4,rfl,h1,h3⟩;rw[<-ZK,<-ZK];exact List.perm_append_comm.append_right S4
 |trans _ _ ih1 ih2=>
  intro S h;obtain⟨S',h1,h2⟩:=ih1 h;obtain⟨S'',h3,h4⟩:=ih2 h2;exact⟨S'',h1.trans h3,h4⟩
theorem iq.at_ {w:World}:∀{L:List (GC×Value)} {S:List Nat},iq w L S->∀{c v},(c,v)∈L->∃S',Tr w c v S'/\∀b∈S',b∈S
 |(c,v)::L,S,h,c',v',hm=>by
  obtain⟨S1,S2,rfl,h1,h2⟩:=h;rcases Z3.1 hm with e|h3
  ·cases e;exact⟨S1,h1,fun b hb=>by simp[hb]⟩
  ·obtain⟨S',h4,h5⟩:=iq.at_ h2 h3;exact⟨S',h4,fun b hb=>by simp[h5 b hb]⟩
def chunks {α:Type} (sz:Nat):Nat->List α->List (List α)
 |0,_=>[]
 |n+1,l=>l.take sz::chunks sz n (l.drop sz)
theorem xm {α:Type} (sz:Nat):∀(n:Nat) (l:List α),(chunks sz n l).length=n
 |0,_=>rfl
 |n+1,l=>by simp[chunks,xm sz n]
mutual
def GC.dv:GC->DV
 |.d x=>x
 |.t _ sz n cs=>.sl (chunks sz n (yM cs))
 |.b _ _ _=>.bool false
 |.n _ _=>.bool false
def yM:List GC->List DV
 |[]=>[]
 |c::cs=>c.dv::yM cs
end
theorem EE:∀(cs:List GC),yM cs=cs.map GC.dv
 |[]=>rfl
 |c::cs=>by simp[yM,EE cs]
theorem kF.len {w:World}:∀{cs:List GC} {xs:List Value} {S:List Nat},kF w cs xs S->cs.length=xs.length
 |[],xs,S,h=>by simp only[kF]at h;rw[h.1];rfl
 |c::cs,xs,S,h=>by
  simp only[kF]at h;obtain⟨x,xs',S1,S2,rfl,rfl,h1,h2⟩:=h;simp[kF.len h2]
mutual
def GC.pl:GC->Bool
 |.d _=>true
 |.t _ _ _ cs=>BR cs
 |.b _ _ _=>false
 |.n _ _=>false
def BR:List GC->Bool
 |[]=>true
 |c::cs=>c.pl && BR cs
end
def M0 (w:World) (b:Nat):Nat:=match w.heap[b]? with
 |some (.cells cs _ _)=>cs.size
 |_=>0
theorem pI {im:Nat->Nat} {w:World} {b sz:Nat}:∀{n:Nat} {l:List DV} {off:Nat},l.length=n*sz->(∀j x,l[j]? =some x->∃u,w.cell? ⟨b,off+j,none⟩=some u/\bh im w x u)->cj im w b sz off (chunks sz n l)
 |0,l,off,_,_=>by simp[chunks,cj]
 |n+1,l,off,hl,h=>by
  rw[Zy]at hl;simp only[chunks,cj];refine⟨by rw[ZT];omega,dm.mk fun j x hx=>?_,pI (by rw[List.length_drop];omega) fun j x hx=>?_⟩
  ·refine h j x ?_;rw[Z8]at hx;split at hx
   ·exact hx
   ·cases hx
  ·rw[List.getElem?_drop]at hx;have:=h (sz+j) x hx;rwa[<-Nat.add_assoc]at this
mutual
theorem Tr.rep {w:World} {im:Nat->Nat}:∀(c:GC) (v:Value) (S:List Nat),c.pl=true->Tr w c v S->(∀b∈S,M0 w b<=im b)->bh im w c.dv v
 |.d x,v,S,_,h,_=>by simp only[Tr]at h;exact h.1.zero
 |.b _ _ _,v,S,hp,_,_=>by simp[GC.pl]at hp
 |.n _ _,v,S,hp,_,_=>by simp[GC.pl]at hp
 |.t e sz n cs,v,S,hp,h,hS=>by
  simp only[Tr]at h;simp only[GC.pl]at hp;obtain⟨xs,S',h1,h2,rfl⟩:=h;have yg:=kF.rep cs xs S' hp h2 (fun b hb=>hS b (by simp[hb]));have hlen:(yM cs).length=n*sz:=by rw[EE,Z5,h2.len,h1.1]
  obtain⟨Jj,h3⟩:=h1;rcases h3 with⟨rfl,rfl⟩|⟨g,cap,cur,rfl,_,hh,hc,hm,Rb,yZ⟩
  ·simp only[GC.dv,bh,chunks];exact⟨none,0,rfl,Zo _,.inl trivial⟩
  ·have hb:=hS g (by simp[Value.ownBlock]);have SV:M0 w g=cap*sz:=by simp[M0,hh,Rb]
   have hmul:n*sz<=cap*sz:=Nat.mul_le_mul_right sz hc;simp only[GC.dv,bh,xm];refine⟨_,cap,rfl,hc,.inr ⟨g,0,sz,rfl,by omega,pI hlen fun j x hx=>?_⟩⟩;obtain⟨u,hu,hd⟩:=yg j x hx;refine⟨u,?_,hd⟩;rw[<-yZ,Z8]at hu;split at hu
   ·have KE:cur[0+j]? =some u:=by simpa using hu
    simp only[World.cell?,hh];exact KE
   ·cases hu
theorem kF.rep {w:World} {im:Nat->Nat}:∀(cs:List GC) (xs:List Value) (S:List Nat),BR cs=true->kF w cs xs S->(∀b∈S,M0 w b<=im b)->∀(j:Nat) x,(yM cs)[j]? =some x->∃u,xs[j]? =some u/\bh im w x u
 |[],xs,S,_,_,_,j,x,hx=>by simp[yM]at hx
 |c::cs,xs,S,hp,h,hS,j,x,hx=>by
  simp only[kF]at h;simp only[BR,aap]at hp;obtain⟨y,xs',S1,S2,rfl,rfl,h1,h2⟩:=h;cases j with
  |zero=>
   simp[yM]at hx;subst hx;exact⟨y,rfl,Tr.rep c y S1 hp.1 h1 (fun b hb=>hS b (by simp[hb]))⟩
  |succ j=>
   simp[yM]at hx;obtain⟨u,h3,h4⟩:=kF.rep cs xs' S2 hp.2 h2 (fun b hb=>hS b (by simp[hb])) j x hx;exact⟨u,by simpa using h3,h4⟩
end
def DV.jA:DV->Bool
 |.sl rows=>rows.isEmpty
 |_=>true
inductive Mk:List GC->List DV->List (GC×Value)->Prop
 |nil:Mk [] [] []
 |d {x cs ds L}:x.jA=true->Mk cs ds L->Mk (.d x::cs) (x::ds) L
 |t {e sz n k cs ds L v}:Mk cs ds L->Mk (.t e sz n k::cs) (.raw v::ds) ((.t e sz n k,v)::L)
 |b {T e bs cs ds L v}:Mk cs ds L->Mk (.b T e bs::cs) (.raw v::ds) ((.b T e bs,v)::L)
 |n {T row cs ds L v}:Mk cs ds L->Mk (.n T row::cs) (.raw v::ds) ((.n T row,v)::L)
theorem DV.sC {x:DV} {v:Value} {im im':Nat->Nat} {w w':World} (hs:x.jA=true) (h:bh im w x v):bh im' w' x v:=by
 cases x with
 |sl rows=>
  have:rows=[]:=by simpa[DV.jA]using hs
  subst this;simp only[bh]at h⊢;obtain⟨a,cap,e,h1,_⟩:=h;exact⟨a,cap,e,h1,.inl trivial⟩
 |_=>exact h
theorem Mk.PM {w:World} {im:Nat->Nat} {cs:List GC} {ds:List DV} {L:List (GC×Value)} (h:Mk cs ds L):∀{xs:List Value} {S:List Nat},xs.length=ds.length->(∀(j:Nat) x u,ds[j]? =some x->xs[j]? =some u->bh im w x u)->iq w L S->kF w cs xs S:=by
 induction h with
 |nil=>
  intro xs S hl _ hS;simp only[iq]at hS;simp only[kF];exact⟨ZV.1 (by simpa using hl),hS⟩
 | @d x cs ds L hs _ ih=>
  intro xs S hl hr hS
  match xs,hl with
  |u::us,hl=>
   simp only[kF];exact⟨u,us,[],S,rfl,rfl,by simp only[Tr];exact⟨DV.sC hs (hr 0 x u rfl rfl),trivial⟩,ih (by simpa using hl) (fun j x u h1 h2=>hr (j+1) x u (by simpa using h1) (by simpa using h2)) hS⟩
 | @t e sz n k cs ds L v _ ih=>
  intro xs S hl hr hS
  match xs,hl with
  |u::us,hl=>
   obtain⟨S1,S2,rfl,h1,h2⟩:=hS;have hu:=hr 0 _ u rfl rfl;simp only[bh]at hu;obtain⟨rfl,_⟩:=hu;simp only[kF];exact⟨u,us,S1,S2,rfl,rfl,h1,ih (by simpa using hl) (fun j x u h1 h2=>hr (j+1) x u (by simpa using h1) (by simpa using h2)) h2⟩
 | @b T e bs cs ds L v _ ih=>
  intro xs S hl hr hS
  match xs,hl with
  |u::us,hl=>
   obtain⟨S1,S2,rfl,h1,h2⟩:=hS;have hu:=hr 0 _ u rfl rfl;simp only[bh]at hu;obtain⟨rfl,_⟩:=hu;simp only[kF];exact⟨u,us,S1,S2,rfl,rfl,h1,ih (by simpa using hl) (fun j x u h1 h2=>hr (j+1) x u (by simpa using h1) (by simpa using h2)) h2⟩
 | @n T row cs ds L v _ ih=>
  intro xs S hl hr hS
  match xs,hl with
  |u::us,hl=>
   obtain⟨S1,S2,rfl,h1,h2⟩:=hS;have hu:=hr 0 _ u rfl rfl;simp only[bh]at hu;obtain⟨rfl,_⟩:=hu;simp only[kF];exact⟨u,us,S1,S2,rfl,rfl,h1,ih (by simpa using hl) (fun j x u h1 h2=>hr (j+1) x u (by simpa using h1) (by simpa using h2)) h2⟩
abbrev Ts:=List (GC×Value)
inductive gK (L:Ts):CV->CV->Prop
 |d {x}:gK L (.d x) (.d x)
 |nil:gK L .nil (.d (.sl []))
 |Rc:gK L .nil .nil
 |np:gK L .np .np
 |fn {f}:gK L (.fn f []) (.fn f [])
 |N8 {c v}:(c,v)∈L->c.pl=true->gK L (.d (.raw v)) (.d c.dv)
inductive vk (L:Ts):List CV->List CV->Prop
 |nil:vk L [] []
 |cons {x y xs ys}:gK L x y->vk L xs ys->vk L (x::xs) (y::ys)
inductive tf (L:Ts):AV->AV->Prop
 |c {x y}:gK L x y->tf L (.c x) (.c y)
 |agg {xs ys}:vk L xs ys->tf L (.agg xs) (.agg ys)
inductive gR (L:Ts):List AV->List AV->Prop
 |nil:gR L [] []
 |cons {x y xs ys}:tf L x y->gR L xs ys->gR L (x::xs) (y::ys)
structure xn (w0:World) (g0:Gh) (X:List Nat) (w:World) (g:Gh):Prop where
 os:w.os=w0.os
 tape:w.tape=w0.tape
 output:w.output=w0.output
 size:w0.heap.size<=w.heap.size
 qF:∀b,b<w0.heap.size->b∉g0.ob->b∉g0.jg->b∉X->w.heap[b]? =w0.heap[b]?
 iY:∀b,b<w0.heap.size->b∉g0.jg->b∉X->g.im b=g0.im b
 ob:∃new,g.ob=g0.ob++new/\∀b∈new,w0.heap.size<=b
 ar:∀(k:Nat) v b,g.ar[k]? =some v->v.ownBlock=some b->w0.heap.size<=b\/b∈g0.jg\/b∈X
 wq:∀(k:Nat) v,g0.ar[k]? =some v->∃v',g.ar[k]? =some v'/\rO v<=rO v'/\(rO v'=rO v->v'=v)
 yp:AZ w0 g0
 BS:∀b∈X,¬oZ b
section
variable {P:Program} {n:Nat} {w0 w w':World} {g0 g g':Gh} {X S S':List Nat} {s s':St} {L L':Ts} {a a':Act}
theorem xn.refl (ht:AZ w g) (hx:∀b∈X,¬oZ b):xn w g X w g:=
 ⟨rfl,rfl,rfl,Zo _,fun _ _ _ _ _=>rfl,fun _ _ _ _=>rfl,⟨[],by simp,by simp⟩,fun k v b hk hb=>.inr (.inl (Gh.jN hk hb)),fun k v h=>⟨v,h,Zo _,fun _=>rfl⟩,ht,hx⟩
theorem xn.EA (h:xn w0 g0 X w g) {b:Nat} (hb:b<w0.heap.size) (h1:b∉g0.ob):b∉g.ob:=fun hm=>by
 obtain⟨new,e,hn⟩:=h.ob;rw[e]at hm;rcases ZC.1 hm with q|q
 ·exact h1 q
 ·exact absurd (hn b q) (by omega)
theorem xn.tS (h:xn w0 g0 X w g) {b:Nat} (hb:b<w0.heap.size) (h1:b∉g0.jg) (h2:b∉X):b∉g.jg:=fun hm=>by
 obtain⟨k,v,q1,q2⟩:=Gh.fD hm;rcases h.ar k v b q1 q2 with q|q|q
 ·omega
 ·exact h1 q
 ·exact h2 q
theorem xn.now (h:xn w0 g0 X w g):AZ w g:=fun b hb=>by
 obtain⟨h1,h2,h3,h4⟩:=h.yp b hb;refine⟨Zv h1 h.size,h.EA h1 h2,h.tS h1 h3 (fun hx=>h.BS b hx hb),?_⟩;rw[h.qF b h1 h2 h3 (fun hx=>h.BS b hx hb)];exact h4
theorem xn.fr (h:xn w0 g0 X w g) (k:Fr w g w' g'):xn w0 g0 X w' g':=by
 refine⟨k.os.trans h.os,k.tape.trans h.tape,k.output.trans h.output,Zt h.size k.size,fun b h1 h2 h3 h4=>?_,fun b h1 h2 h3=>?_,?_,fun i v b h1 h2=>?_,fun i v h1=>?_,h.yp,h.BS⟩
 ·rw[k.qF b (Zv h1 h.size) (h.EA h1 h2) (h.tS h1 h3 h4)];exact h.qF b h1 h2 h3 h4
 ·rw[k.iY b (Zv h1 h.size) (h.tS h1 h2 h3)];exact h.iY b h1 h2 h3
 ·obtain⟨new,e,hn⟩:=h.ob;obtain⟨new',e',MF⟩:=k.ob;refine⟨new++new',by rw[e',e,ZK],fun b hb=>?_⟩;rcases ZC.1 hb with q|q
  ·exact hn b q
  ·exact Zt h.size (MF b q)
 ·rcases k.ar i v b h1 h2 with q|q
  ·exact .inl (Zt h.size q)
  ·obtain⟨j,v',q1,q2⟩:=Gh.fD q;exact h.ar j v' b q1 q2
 ·obtain⟨v1,q1,q2,q3⟩:=h.wq i v h1;obtain⟨v2,q4,q5,q6⟩:=k.wq i v1 q1;exact⟨v2,q4,Zt q2 q5,fun e=>(q6 (by omega)).trans (q3 (by omega))⟩
structure rh (n:Nat) (w0:World) (g0:Gh) (X:List Nat) (s:St) (L:Ts) (S:List Nat) (g:Gh) (a:Act) (w:World):Prop where
 inv:Inv g w s.V s.A
 fr:xn w0 g0 X w g
 size:a.tmps.size=n
 defers:a.defers=[]
 slot:∀t x,look s.fr t=some x->∃u,a.tmps[t]? =some u/\aV g w s.A x u
 nq:iq w L S
 nd:S.Nodup
 out:∀b∈S,g.im b=0/\b∉g.ob/\b∉g.jg/\¬oZ b/\(w0.heap.size<=b\/b∈X)
theorem rh.rp (h:rh n w0 g0 X s L S g a w):Rp n w g s g a w:=⟨h.inv,.refl h.fr.now,h.size,h.defers,h.slot⟩
theorem rh.xo (h:rh n w0 g0 X s L S g a w) (k:Fr w g w' g'):iq w' L S/\∀b∈S,g'.im b=0/\b∉g'.ob/\b∉g'.jg/\¬oZ b/\(w0.heap.size<=b\/b∈X):=by
 have az:=h.nq.lt;refine⟨h.nq.dI fun b hb=>k.qF b (az b hb) (h.out b hb).2.1 (h.out b hb).2.2.1,fun b hb=>?_⟩;obtain⟨h1,h2,h3,h4,h5⟩:=h.out b hb;have ym:=az b hb;refine⟨(k.iY b ym h3).trans h1,fun hm=>?_,fun hm=>?_,h4,h5⟩
 ·obtain⟨new,e,hn⟩:=k.ob;rw[e]at hm;rcases ZC.1 hm with q|q
  ·exact h2 q
  ·exact absurd (hn b q) (by omega)
 ·obtain⟨i,v,q1,q2⟩:=Gh.fD hm;rcases k.ar i v b q1 q2 with q|q
  ·omega
  ·exact h3 q
theorem rh.back (h:rh n w0 g0 X s L S g a w) (k:Rp n w g s' g' a' w'):rh n w0 g0 X s' L S g' a' w':=
 ⟨k.inv,h.fr.fr k.fr,k.size,k.defers,k.slot,(h.xo k.fr).1,h.nd,(h.xo k.fr).2⟩
theorem rh.less (h:rh n w0 g0 X s L S g a w) {M:Ts} (hp:L.Perm (L'++M)):∃S',rh n w0 g0 X s L' S' g a w:=by
 obtain⟨S1,h1,h2⟩:=h.nq.perm hp;obtain⟨S2,S3,rfl,h3,_⟩:=iq.app.1 h2;exact⟨S2,h.inv,h.fr,h.size,h.defers,h.slot,h3,(ZE.1 (h1.nodup_iff.1 h.nd)).1,fun b hb=>h.out b (h1.mem_iff.2 (by simp[hb]))⟩
def TJ (P:Program) (n:Nat) (c:Code) (Q:Exit->St->Ts->Prop) (s:St) (L:Ts):Prop:=
 codeOk n c=true->∀w0 g0 X S g a w,rh n w0 g0 X s L S g a w->c.wp P (fun e a' w'=>∃s' g' L' S',Q e s' L'/\rh n w0 g0 X s' L' S' g' a' w') a w
variable {Q Q':Exit->St->Ts->Prop} {c x y:Code}
theorem TJ.mono (h:TJ P n c Q s L) (hq:∀e s' L',Q e s' L'->Q' e s' L'):TJ P n c Q' s L:=
 fun eK w0 g0 X S g a w hR=>Go.wp_mono (h eK w0 g0 X S g a w hR) fun _ _ _ ⟨s',g',L',S',h1,h2⟩=>⟨s',g',L',S',hq _ _ _ h1,h2⟩
theorem TJ.less {M:Ts} (hp:L.Perm (L'++M)) (h:TJ P n c Q s L'):TJ P n c Q s L:=by
 intro eK w0 g0 X S g a w hR;obtain⟨S',v7⟩:=hR.less hp;exact h eK w0 g0 X S' g a w v7
def oK (P:Program) (n:Nat) (c:Code) (Q:Exit->St->Ts->Prop):Exit->St->Ts->Prop
 |.normal,s,L=>TJ P n c Q s L
 |e,s,L=>Q e s L
theorem TJ.seq (h:TJ P n x (oK P n y Q) s L):TJ P n (.seq x y) Q s L:=by
 intro eK w0 g0 X S g a w hR;simp only[codeOk,aap]at eK;refine wp_seq (Go.wp_mono (h eK.1 w0 g0 X S g a w hR) ?_);rintro e a' w' ⟨s',g',L',S',h1,h2⟩;cases e with
 |normal=>exact h1 eK.2 w0 g0 X S' g' a' w' h2
 |_=>exact⟨s',g',L',S',h1,h2⟩
theorem TJ.skip (h:Q .normal s L):TJ P n .skip Q s L:=fun _ _ _ _ S g _ _ hR=>wp_skip ⟨s,g,L,S,h,hR⟩
theorem TJ.exit {id:Nat} (h:Q (.exit id) s L):TJ P n (.exit id) Q s L:=fun _ _ _ _ S g _ _ hR=>wp_exit ⟨s,g,L,S,h,hR⟩
theorem TJ.ret (h:Q .ret s L):TJ P n .ret Q s L:=fun _ _ _ _ S g _ _ hR=>wp_ret ⟨s,g,L,S,h,hR⟩
theorem TJ.cond {o:Operand} {b:Bool} (hc:bE s o=some (.c (.d (.bool b)))) (ht:b=true->TJ P n x Q s L) (hf:b=false->TJ P n y Q s L):TJ P n (.cond o x y) Q s L:=by
 intro eK w0 g0 X S g a w hR;simp only[codeOk,aap]at eK;have hv:=aJ hR.slot hc;simp only[aV,dD,bm,bh]at hv;exact wp_cond_split hv (fun e=>ht e eK.1 w0 g0 X S g a w hR) (fun e=>hf e eK.2 w0 g0 X S g a w hR)
def fi (id:Nat) (Q:Exit->St->Ts->Prop):Exit->St->Ts->Prop
 |.exit id',s,L=>if id'=id then Q .normal s L else Q (.exit id') s L
 |e,s,L=>Q e s L
theorem TJ.block {id:Nat} (h:TJ P n c (fi id Q) s L):TJ P n (.block id c) Q s L:=by
 intro eK w0 g0 X S g a w hR;refine wp_block (Go.wp_mono (h eK w0 g0 X S g a w hR) ?_);rintro e a' w' ⟨s',g',L',S',h1,h2⟩;cases e with
 |exit id'=>
  simp only[fi]at h1;simp only[Exit.inBlock];split
  ·rename_i e;rw[if_pos e]at h1;exact⟨s',g',L',S',h1,h2⟩
  ·rename_i e;rw[if_neg e]at h1;exact⟨s',g',L',S',h1,h2⟩
 |_=>exact⟨s',g',L',S',h1,h2⟩
def pJ (P:Program) (n:Nat) (c:Code) (Q:Exit->St->Ts->Prop):Nat->St->Ts->Prop
 |0,_,_=>False
 |k+1,s,L=>TJ P n c (fun e s' L'=>match e with|.normal=>pJ P n c Q k s' L'|e=>Q e s' L') s L
theorem pJ.succ:∀{k:Nat} {s:St} {L:Ts},pJ P n c Q k s L->pJ P n c Q (k+1) s L
 |0,_,_,h=>h.elim
 |k+1,s,L,h=>TJ.mono h fun e s' L' h1=>by cases e<;>first|exact pJ.succ h1|exact h1
theorem pJ.le {k k':Nat} (hk:k<=k') {s:St} {L:Ts} (h:pJ P n c Q k s L):pJ P n c Q k' s L:=by
 induction hk with
 |refl=>exact h
 |step _ ih=>exact ih.succ
theorem TJ.mK {k:Nat} (h:pJ P n c Q k s L):TJ P n (.loop c) Q s L:=by
 intro eK w0 g0 X S g a w hR;refine wp_loop_rounds k ?_;have key:∀k s L S g a w,pJ P n c Q k s L->rh n w0 g0 X s L S g a w->Code.rounds P c (fun e a' w'=>∃s' g' L' S',Q e s' L'/\rh n w0 g0 X s' L' S' g' a' w') k a w:=by
  intro k;induction k with
  |zero=>intro s L S g a w h _;exact h.elim
  |succ k ih=>
   intro s L S g a w h hR;rw[rounds_succ];refine Go.wp_mono (h eK w0 g0 X S g a w hR) ?_;rintro e a' w' ⟨s',g',L',S',h1,h2⟩;cases e with
   |normal=>exact ih s' L' S' g' a' w' h1 h2
   |_=>exact⟨s',g',L',S',h1,h2⟩
 exact key k s L S g a w h hR
theorem TJ.loop (I:Nat->St->Ts->Prop) (h:∀k s L,I k s L->TJ P n c (fun e s' L'=>match e with|.normal=>∃k',k'<k/\I k' s' L'|e=>Q e s' L') s L) {k:Nat} (h0:I k s L):TJ P n (.loop c) Q s L:=by
 have key:∀k s L,I k s L->pJ P n c Q (k+1) s L:=by
  intro k;induction k using Zu with
  |_ k ih=>
   intro s L hs;refine TJ.mono (h k s L hs) fun e s' L' h1=>?_
   cases e with
   |normal=>obtain⟨k',hk,h2⟩:=h1;exact(ih k' hk s' L' h2).le hk
   |_=>exact h1
 exact TJ.mK (key k s L h0)
theorem TJ.forget (cM:List (Nat×AV)) (gq:∀t x,look cM t=some x->look s.fr t=some x) (h:TJ P n c Q ⟨cM,s.V,s.A⟩ L):TJ P n c Q s L:=
 fun eK w0 g0 X S g a w hR=>h eK w0 g0 X S g a w ⟨hR.inv,hR.fr,hR.size,hR.defers,fun t x hx=>hR.slot t x (gq t x hx),hR.nq,hR.nd,hR.out⟩
def Dw {α:Type} (St_:α->St) (Tr_:α->Ts) (m:α->Nat) (H:α->Prop) (k:Nat) (Q:Exit->St->Ts->Prop):Exit->St->Ts->Prop
 |.normal,s',L'=>∃a' M,m a'<k/\H a'/\Sub (St_ a') s'/\L'.Perm (Tr_ a'++M)
 |e,s',L'=>Q e s' L'
theorem TJ.iI {α:Type} (St_:α->St) (Tr_:α->Ts) (m:α->Nat) (H:α->Prop) (h:∀a,H a->TJ P n c (Dw St_ Tr_ m H (m a) Q) (St_ a) (Tr_ a)) (a:α) (ha:H a) (hs:Sub (St_ a) s) {M:Ts} (hL:L.Perm (Tr_ a++M)):TJ P n (.loop c) Q s L:=by
 refine TJ.loop (fun k s L=>∃a M,m a=k/\H a/\(St_ a).V=s.V/\(St_ a).A=s.A/\(∀t x,look (St_ a).fr t=some x->look s.fr t=some x)/\L.Perm (Tr_ a++M)) ?_ (k:=m a) ⟨a,M,rfl,ha,hs.1,hs.2.1,j4.look hs.2.2,hL⟩;rintro k s1 L1 ⟨a',M',rfl,h2,h3,h4,h5,h6⟩;refine TJ.less h6 (TJ.forget (St_ a').fr h5 ?_);rw[<-h3,<-h4];refine TJ.mono (h a' h2) fun e s2 L2 h7=>?_
 cases e with
 |normal=>
  obtain⟨a2,M2,h8,h9,cE,ev⟩:=h7;exact⟨_,h8,a2,M2,rfl,h9,cE.1,cE.2.1,j4.look cE.2.2,ev⟩
 |_=>exact h7
def FT (r:AV) (v:Value):Prop:=∀g w A,aV g w A r v
def aR (P:Program) (f:FuncId) (as_:List AV) (L:Ts) (R:AV->Ts->Prop):Prop:=
 (∀args w,(callFunc f args).run P w=.ok (.enter f args) w)/\
 ∀(g:Gh) (w:World) (vs:Array Value) (S:List Nat),g.ob=[]->g.ar=[]->Inv g w [] []->AZ w g->vs.size=as_.length->(∀(i:Nat) x u,as_[i]? =some x->vs[i]? =some u->aV g w [] x u)->
  iq w L S->S.Nodup->(∀b∈S,g.im b=0/\¬oZ b)->
  Calls P f vs w fun e w'=>∃v r L' S',e=.returned v/\R r L'/\FT r v/\iq w' L' S'/\S'.Nodup/\(∀b∈S',b∈S\/w.heap.size<=b)/\
   w'.os=w.os/\w'.tape=w.tape/\w'.output=w.output/\w.heap.size<=w'.heap.size/\∀b,b<w.heap.size->b∉S->w'.heap[b]? =w.heap[b]?
theorem gR.len {L:Ts} {xs as_:List AV} (h:gR L xs as_):xs.length=as_.length:=by
 induction h with
 |nil=>rfl
 |cons _ _ ih=>simp[ih]
theorem gR.at_ {L:Ts} {xs as_:List AV} (h:gR L xs as_):∀{i:Nat} {y:AV},as_[i]? =some y->∃x,xs[i]? =some x/\tf L x y:=by
 induction h with
 |nil=>intro i y hy;simp at hy
 |cons h1 _ ih=>
  intro i y hy;cases i with
  |zero=>simp at hy;subst hy;exact⟨_,rfl,h1⟩
  |succ i=>simp at hy;simpa using ih hy
theorem vk.len {L:Ts} {xs as_:List CV} (h:vk L xs as_):xs.length=as_.length:=by
 induction h with
 |nil=>rfl
 |cons _ _ ih=>simp[ih]
theorem vk.at_ {L:Ts} {xs as_:List CV} (h:vk L xs as_):∀{i:Nat} {y:CV},as_[i]? =some y->∃x,xs[i]? =some x/\gK L x y:=by
 induction h with
 |nil=>intro i y hy;simp at hy
 |cons h1 _ ih=>
  intro i y hy;cases i with
  |zero=>simp at hy;subst hy;exact⟨_,rfl,h1⟩
  |succ i=>simp at hy;simpa using ih hy
def vP (g:Gh) (w:World) (S:List Nat):Gh:={ob:=[],ar:=[],im:=fun b=>if b∈S then M0 w b else g.im b}
theorem gK.rep {A:List bu} {x y:CV} (h:gK L x y) (hS:∀b∈S,g.im b=0) (hT:iq w L S) {u:Value} (hr:bm g w A x u):bm (vP g w S) w [] y u:=by
 have hle:∀b,g.im b<=(vP g w S).im b:=fun b=>by
  simp only[vP];split
  ·rename_i h;rw[hS b h];exact Zp _
  ·exact Zo _
 cases h with
 | @d x=>exact bh.fA ⟨hle,fun _ _ _=>rfl⟩ x u hr
 |nil=>
  simp only[bm]at hr;subst hr;simp only[bm,bh];exact⟨none,0,rfl,Zo _,.inl trivial⟩
 |Rc=>exact hr
 |np=>exact hr
 |fn=>
  obtain⟨bks,h1,h2,_⟩:=hr;exact⟨bks,h1,h2,fun i l b h=>by simp at h⟩
 | @N8 c v hm lR=>
  simp only[bm,bh]at hr;obtain⟨rfl,_⟩:=hr;obtain⟨S',h1,h2⟩:=hT.at_ hm;exact Tr.rep c _ S' lR h1 fun b hb=>by simp[vP,h2 b hb]
theorem tf.rep {A:List bu} {x y:AV} (h:tf L x y) (hS:∀b∈S,g.im b=0) (hT:iq w L S) {u:Value} (hr:aV g w A x u):aV (vP g w S) w [] y u:=by
 cases h with
 | @c x y h=>exact gK.rep (A:=A) h hS hT hr
 | @agg xs ys h=>
  obtain⟨vs,e,hl,hc⟩:=hr;refine⟨vs,e,by rw[hl,h.len],fun i y u h1 h2=>?_⟩;obtain⟨x,h3,h4⟩:=h.at_ h1;exact h4.rep hS hT (hc i x u h3 h2)
def nT (P:Program) (s:St) (L:Ts) (f:FuncId) (xs:List AV) (K:AV->List (List CV)->List bu->Ts->Prop):Prop:=
 gM P s f xs (fun x V A=>K x V A L)\/
 ∃(as_:List AV) (L1 L2:Ts) (R:AV->Ts->Prop),L.Perm (L1++L2)/\gR L2 xs as_/\aR P f as_ L1 R/\∀r L1',R r L1'->K r s.V s.A (L1'++L2)
theorem iq.zr {S1 S2:List Nat} (h:(S1++S2).Nodup):∀b∈S1,b∉S2:=fun b h1 h2=>(ZE.1 h).2.2 b h1 b h2 rfl
theorem BT (hR:rh n w0 g0 X s L S g a w) {f:FuncId} {xs as_:List AV} {L1 L2:Ts} {R:AV->Ts->Prop} (hp:L.Perm (L1++L2)) (FU:gR L2 xs as_) (hc:aR P f as_ L1 R) {vs:Array Value} (hl:vs.size=xs.length)
  (hr:∀(i:Nat) x u,xs[i]? =some x->vs[i]? =some u->aV g w s.A x u):
  Calls P f vs w fun e w'=>∃v r L' S',e=.returned v/\R r L'/\FT r v/\Inv g w' s.V s.A/\Ext g w s.A g w' s.A/\xn w0 g0 X w' g/\iq w' (L'++L2) S'/\S'.Nodup/\∀b∈S',g.im b=0/\b∉g.ob/\b∉g.jg/\¬oZ b/\(w0.heap.size<=b\/b∈X):=by
 obtain⟨S0,vQ,hT⟩:=hR.nq.perm hp;obtain⟨S1,S2,rfl,LK,yN⟩:=iq.app.1 hT;have oQ:(S1++S2).Nodup:=vQ.nodup_iff.1 hR.nd;have jj:∀b∈S1++S2,_:=fun b hb=>hR.out b (vQ.mem_iff.2 hb)
 have fM:=iq.zr oQ;have PL:∀b∈S1,g.im b=0:=fun b hb=>(jj b (by simp[hb])).1
 have zn:∀b∈S2,g.im b=0:=fun b hb=>(jj b (by simp[hb])).1
 have N9:=hR.fr.now;have Oa:Inv (vP g w S2) w [] []:=⟨rfl,rfl,fun l row b h=>by simp at h,fun k r v h=>by simp at h,fun l l' b h=>by simp[vP]at h,fun k k' v v' b h=>by simp[vP]at h,fun l k v b h=>by simp[vP]at h,fun b hb=>by
  have:b∉S2:=fun h=>absurd (yN.lt b h) (by omega)
  simp only[vP,if_neg this];exact hR.inv.fresh b hb⟩
 have Ob:AZ w (vP g w S2):=N9.less (by simp[vP]) (by simp[vP,Gh.jg]);refine(hc.2 (vP g w S2) w vs S1 rfl rfl Oa Ob (by rw[hl,FU.len]) (fun i y u h1 h2=>?_) LK (ZE.1 oQ).1 (fun b hb=>⟨by simp only[vP,if_neg (fM b hb)];exact PL b hb,(jj b (by simp[hb])).2.2.2.1⟩)).mono ?_
 ·obtain⟨x,h3,h4⟩:=FU.at_ h1;exact h4.rep zn yN (hr i x u h3 h2)
 rintro e w' ⟨v,r,L',S',rfl,gD,LL,JQ,yO,bZ,ho,ht,gu,eM,yB⟩;have HQ:∀b,b<w.heap.size->b∈g.ob\/b∈g.jg\/0<g.im b->w'.heap[b]? =w.heap[b]? :=fun b hb hx=>yB b hb fun hm=>by
  obtain⟨q1,q2,q3,_⟩:=jj b (by simp[hm]);rcases hx with h|h|h
  ·exact q2 h
  ·exact q3 h
  ·omega
 have hx:Ext g w s.A g w' s.A:=⟨fun _ _ h=>h,⟨fun _=>Zo _,fun b o az=>by
  have hb:=hR.inv.Fi az;exact World.cell?_of_block (a:=⟨b,o,none⟩) (HQ b hb (.inr (.inr (by omega))))⟩,fun _ r h=>⟨r,h,rfl,Zo _,fun _=>rfl⟩⟩
 have Rd:Inv g w' s.V s.A:=⟨hR.inv.oP,hR.inv.lF,fun l row b h1 h2=>hR.inv.fb hx h1 h2 (HQ b (hR.inv.qR h2) (.inl (ZM h2))) (hR.inv.obj l row b h1 h2).1,
  fun k r v h1 h2=>hR.inv.fc hx h1 h2 (fun b hb=>HQ b (hR.inv.mE h2 hb) (.inr (.inl (Gh.jN h2 hb)))) (fun _ _=>rfl),hR.inv.kA,hR.inv.iS,hR.inv.iX,fun b hb=>hR.inv.fresh b (by omega)⟩
 have hX:∀b∈S1,w0.heap.size<=b\/b∈X:=fun b hb=>(jj b (by simp[hb])).2.2.2.2
 have hF:xn w0 g0 X w' g:=⟨ho.trans hR.fr.os,ht.trans hR.fr.tape,gu.trans hR.fr.output,Zt hR.fr.size eM,fun b h1 h2 h3 h4=>by
  rw[yB b (Zv h1 hR.fr.size) (fun hm=>by rcases hX b hm with q|q;omega;exact h4 q)];exact hR.fr.qF b h1 h2 h3 h4,hR.fr.iY,hR.fr.ob,hR.fr.ar,hR.fr.wq,hR.fr.yp,hR.fr.BS⟩
 have Re:iq w' L2 S2:=yN.dI fun b hb=>yB b (yN.lt b hb) fun hm=>fM b hm hb
 have Oc:∀b∈g.ob,b<w.heap.size:=fun b hb=>by
  obtain⟨l,hl⟩:=ZP hb;exact hR.inv.qR hl
 have GY:∀b∈g.jg,b<w.heap.size:=fun b hb=>by
  obtain⟨k,v,q1,q2⟩:=Gh.fD hb;exact hR.inv.mE q1 q2
 refine⟨v,r,L',S'++S2,rfl,gD,LL,Rd,hx,hF,iq.app.2 ⟨S',S2,rfl,JQ,Re⟩,ZE.2 ⟨yO,(ZE.1 oQ).2.1,fun b hb c hc=>?_⟩,fun b hb=>?_⟩
 ·rintro rfl;rcases bZ b hb with q|q
  ·exact fM b q hc
  ·exact absurd (yN.lt b hc) (by omega)
 ·rcases ZC.1 hb with hb|hb
  ·rcases bZ b hb with q|q
   ·exact jj b (by simp[q])
   ·refine⟨hR.inv.fresh b q,fun hm=>absurd (Oc b hm) (by omega),fun hm=>absurd (GY b hm) (by omega),fun hm=>?_,.inl (Zt hR.fr.size q)⟩;have:=(N9 b hm).1;omega
  ·exact jj b (by simp[hb])
end
section
variable {P:Program} {n:Nat} {w0 w w':World} {g0 g g':Gh} {X S S':List Nat} {s s':St} {L L':Ts} {a a':Act} {Q:Exit->St->Ts->Prop} {x y:Code}
def cb (P:Program) (s:St) (L:Ts) (ow:Bool) (o:Oper) (K:AV->List (List CV)->List bu->Ts->Prop):Prop:=
 match o.op with
 |.call {callee:=.value f,args,.. }=>bS (bE s f) fun fv=>match fv with
  |.c (.fn fid cap)=>bS (hM s args.toList) fun xs=>nT P s L fid (xs++cap.map fun l=>.c (.ptr l 0)) K
  |_=>False
 |op=>eD P s ow op fun x V A=>K x V A L
theorem qg (hR:rh n w0 g0 X s L S g a w) {ow:Bool} {o:Oper} {K:AV->List (List CV)->List bu->Ts->Prop} (h:cb P s L ow o K) (next:Act->World->Prop) (Q:Exit->Act->World->Prop)
  (hn:∀x V' A' L' S' v w' g',K x V' A' L'->aV g' w' A' x v->Inv g' w' V' A'->Ext g w s.A g' w' A'->xn w0 g0 X w' g'->iq w' L' S'->S'.Nodup->(∀b∈S',g'.im b=0/\b∉g'.ob/\b∉g'.jg/\¬oZ b/\(w0.heap.size<=b\/b∈X))->next (a.put o.dst v) w'):o.wp P a w next Q:=by
 have plain:bH P s ow o (fun x V A=>K x V A L)->o.wp P a w next Q:=by
  intro h;obtain⟨x,V',A',h1,h2⟩:=db hR.inv (Fr.refl hR.fr.now) hR.slot h;exact h2 next Q fun v w' g' h3 h4 h5 h6=>hn x V' A' L S v w' g' h1 h3 h4 h5 (hR.fr.fr h6) (hR.xo h6).1 hR.nd (hR.xo h6).2
 unfold cb at h;split at h
 ·rename_i f args argTypes heq;refine aj h fun fv h1 h2=>?_
  split at h2
  ·rename_i fid cap;refine aj h2 fun xs h3 h4=>?_
   rcases h4 with h4|⟨as_,L1,L2,R,hp,FU,hc,hK⟩
   ·refine plain ?_;unfold bH;rw[heq];simp only[h1,h3,bS];exact h4
   ·have QH:=aJ hR.slot h1;obtain⟨h5,h6⟩:=lS hR.slot h3;have T3:xs.length=args.size:=by rw[h5,Array.length_toList]
    obtain⟨bks,h7,h8,h9⟩:bm g w s.A (.fn fid cap) (a.eval f):=QH;have o9:args.map a.eval++(bks.map fun b=>Value.pointer (some ⟨b,0,none⟩)).toArray=((args.toList.map a.eval)++bks.map fun b=>Value.pointer (some ⟨b,0,none⟩)).toArray:=by
     apply Array.ext';simp
    have ic:=BT (vs:=((args.toList.map a.eval)++bks.map fun b=>Value.pointer (some ⟨b,0,none⟩)).toArray) hR hp FU hc (by simp[h5,h8]) (fun i x u cE ev=>by
     simp only[List.getElem?_toArray]at ev;by_cases hi:i<xs.length
     ·rw[Z9 hi]at cE;rw[Z9 (by simp;omega)]at ev;exact h6 i x u cE ev
     ·rw[ZQ (by omega)]at cE;rw[ZQ (by simp;omega)]at ev;simp only[ZX,aas]at cE ev;obtain⟨l,fM,rfl⟩:=cE;obtain⟨b,dt,rfl⟩:=ev;exact⟨b,h9 _ l b fM (by rw[<-dt];congr 1;simp[h5]),rfl⟩)
    have ff:(execOp a.eval o).run P w=.ok (.enter fid ((args.toList.map a.eval)++bks.map fun b=>Value.pointer (some ⟨b,0,none⟩)).toArray) w:=by
     simp only[execOp,heq,resolve,h7,Deferred.ofValue,Sem.run_bind,Sem.run_pure,Result.andThen_ok,invoke,Array.empty_append];rw[hc.1,o9]
    unfold Oper.wp;rw[ff];show Calls P fid _ w _;refine ic.mono ?_;rintro e w' ⟨v,r,L1',S',rfl,gk,qI,rL,Bf,rM,Lj,I2,Nv⟩;exact hn r s.V s.A _ S' v w' g (hK r L1' gk) (qI g w' s.A) rL Bf rM Lj I2 Nv
  ·exact h2.elim
 ·rename_i dc;refine plain ?_;unfold bH;split
  ·rename_i heq;exact absurd heq (dc _ _ _)
  ·exact h
theorem rh.put (h:rh n w0 g0 X s L S g a w) {dst:Option Tmp} (hd:∀d,dst=some d->d<n) {x:AV} {v:Value} {V':List (List CV)} {A':List bu} (hr:aV g' w' A' x v) (hI:Inv g' w' V' A') (hx:Ext g w s.A g' w' A') (hF:xn w0 g0 X w' g')
  (hT:iq w' L' S') (oQ:S'.Nodup) (ho:∀b∈S',g'.im b=0/\b∉g'.ob/\b∉g'.jg/\¬oZ b/\(w0.heap.size<=b\/b∈X)):rh n w0 g0 X (s.put dst x V' A') L' S' g' (a.put dst v) w':=by
 refine⟨hI,hF,?_,?_,fun t y hy=>?_,hT,oQ,ho⟩
 ·cases dst<;>simp[Act.put,h.size]
 ·cases dst<;>simp[Act.put,h.defers]
 ·cases dst with
  |none=>
   obtain⟨u,h1,h2⟩:=h.slot t y hy;exact⟨u,h1,aV.ext hx h2⟩
  |some d=>
   have z8:=hd d rfl;simp only[St.put,look]at hy;by_cases e:t=d
   ·subst e;simp at hy;subst hy;refine⟨v,?_,hr⟩;have:t<a.tmps.size:=by rw[h.size];exact z8
    simp[Act.put,this]
   ·rw[if_neg e]at hy;obtain⟨u,h1,h2⟩:=h.slot t y hy;refine⟨u,?_,aV.ext hx h2⟩;simp only[Act.put];rw[aai (fun e'=>e e'.symm)];exact h1
structure j9 (P:Program) (n:Nat) (all:Array Oper) (ow:Nat->Bool) (K:St->Ts->Prop) (i:Nat) (ops:List Oper) (s:St) (L:Ts):Prop where
 mk::
 run:c7 n ops=true->∀(w0:World) (g0:Gh) (X S:List Nat) (g:Gh) (a:Act) (w:World) (Q:Exit->Act->World->Prop),rh n w0 g0 X s L S g a w->
  (∀s' L' S' g' a' w',K s' L'->rh n w0 g0 X s' L' S' g' a' w'->Q .normal a' w')->wpList P all Q ops a w
theorem ay {all:Array Oper} {ow:Nat->Bool} {K:St->Ts->Prop} {i:Nat} {o:Oper} {rest:List Oper} (h:gX all s o (cb P s L (ow i) o fun x V A L'=>j9 P n all ow K (i+1) rest (s.put o.dst x V A) L') (j9 P n all ow K (i+1) rest (s.put o.dst (.c .undef) s.V s.A) L)):j9 P n all ow K i (o::rest) s L:=by
 refine⟨fun hd w0 g0 X S g a w Q hR hQ=>?_⟩;simp only[c7,List.all_cons,aap]at hd;have eT:∀d,o.dst=some d->d<n:=fun d e=>by have:=hd.1;rw[e]at this;simpa using this
 unfold wpList;rcases p8 hR.rp h with⟨h1,h2⟩|⟨h1,h2⟩
 ·rw[if_pos h1];exact .inl (qg hR h2 _ _ fun x V' A' L' S' v w' g' h3 h4 h5 h6 h7 h8 h9 cE=>h3.run hd.2 w0 g0 X S' g' _ w' Q (hR.put eT h4 h5 h6 h7 h8 h9 cE) hQ)
 ·rw[if_neg (by rw[h1];simp)];exact h2.run hd.2 w0 g0 X S g _ w Q (hR.put eT (x:=.c .undef) (v:=undef) rfl hR.inv (.refl _ _ _) hR.fr hR.nq hR.nd hR.out) hQ
theorem au {all:Array Oper} {ow:Nat->Bool} {K:St->Ts->Prop} {i:Nat} (h:K s L):j9 P n all ow K i [] s L:=⟨fun _ _ _ _ S g a w _ hR hQ=>hQ s L S g a w h hR⟩
theorem j9.gen {all:Array Oper} {ow:Nat->Bool} {K:St->Ts->Prop} {i:Nat} {ops:List Oper} {d:Nat} {b:Bool} {fr:List (Nat×AV)} {V:List (List CV)} {A:List bu} (h:∀q:Bool,b=q->j9 P n all ow K i ops ⟨(d,.c (.d (.bool q)))::fr,V,A⟩ L):j9 P n all ow K i ops ⟨(d,.c (.d (.bool b)))::fr,V,A⟩ L:=h b rfl
@[congr] theorem LM {all:Array Oper} {ow:Nat->Bool} {K:St->Ts->Prop} {i i':Nat} {ops:List Oper} (hi:i=i') (h:s=s'):j9 P n all ow K i ops s L=j9 P n all ow K i' ops s' L:=by rw[h,hi]
@[congr] theorem KU {o:Oper} {ow:Bool} {K:AV->List (List CV)->List bu->Ts->Prop} (h:s=s'):cb P s L ow o K=cb P s' L ow o K:=by rw[h]
@[congr] theorem JR {f:FuncId} {xs xs':List AV} {K:AV->List (List CV)->List bu->Ts->Prop} (hs:s=s') (hx:xs=xs'):nT P s L f xs K=nT P s' L f xs' K:=by subst hs;subst hx;rfl
theorem TJ.region {id:Nat} {ops:Array Oper} (ow:Nat->Bool) (h:j9 P n ops ow (fun s' L'=>Q .normal s' L') 0 ops.toList s L):TJ P n (.region id ops false) Q s L:=by
 intro eK w0 g0 X S g a w hR;exact wp_region_list (h.run eK w0 g0 X S g a w _ hR fun s' L' S' g' a' w' h1 h2=>⟨s',g',L',S',h1,h2⟩)
theorem TJ.rs {id:Nat} {l:List Oper} (ow:Nat->Bool) (h:∀K:St->Ts->Prop,(∀s' L',TJ P n y Q s' L'->K s' L')->j9 P n l.toArray ow K 0 l s L):TJ P n (.seq (.region id l.toArray false) y) Q s L:=
 TJ.seq (TJ.region ow (h _ fun _ _ h=>h))
theorem TJ.eH {id:Nat} {l:List Oper} (ow:Nat->Bool) (h:∀K:St->Ts->Prop,(∀s' L',Q .normal s' L'->K s' L')->j9 P n l.toArray ow K 0 l s L):TJ P n (.region id l.toArray false) Q s L:=
 TJ.region ow (h _ fun _ _ h=>h)
def SW (P:Program) (n:Nat) (c:Code) (Q:Exit->St->Ts->Prop) (L:Ts):Exit->St->Prop
 |.normal,s=>TJ P n c Q s L
 |e,s=>Q e s L
variable {f:FuncId} {xs as_:List AV} {r:AV} {K:AV->List (List CV)->List bu->Ts->Prop}
theorem FV (h:gM P s f xs fun x V A=>K x V A L):nT P s L f xs K:=.inl h
theorem bJ (bZ:ib s.A [] xs=some as_) (hc:ah P f as_ [] r [] []) (hK:K (r.fN [] s.V.length s.A.length) s.V (bT s.A (bB xs)) L):nT P s L f xs K:=.inl (aa bZ hc hK)
theorem dH {R:AV->Ts->Prop} (FU:gR L xs as_) (hc:aR P f as_ [] R) (hK:∀r L1,R r L1->K r s.V s.A (L1++L)):nT P s L f xs K:=.inr ⟨as_,[],L,R,by simp,FU,hc,hK⟩
theorem aO {R:AV->Ts->Prop} {L1 L2:Ts} (hp:L.Perm (L1++L2)) (FU:gR L2 xs as_) (hc:aR P f as_ L1 R) (hK:∀r L1,R r L1->K r s.V s.A (L1++L2)):nT P s L f xs K:=.inr ⟨as_,L1,L2,R,hp,FU,hc,hK⟩
def CV.jA:CV->Bool
 |.d x=>x.jA
 |.np=>true
 |_=>false
def AV.KV:AV->Bool
 |.c x=>x.jA
 |.agg xs=>xs.all CV.jA
 |.bq _=>false
def AV.jA:AV->Bool
 |.bq xs=>xs.all AV.KV
 |x=>x.KV
theorem aR.plain (hc:aR P f as_ [] fun r' L'=>r'=r):ah P f as_ [] r [] []:=by
 refine⟨hc.1,Zo _,fun g w vs h2 hI hT hl hr=>?_⟩;have h1:g.ob=[]:=ZV.1 (by simpa using hI.oP);refine(hc.2 g w vs [] h1 h2 hI hT hl hr rfl List.nodup_nil (by simp)).mono ?_;rintro e w' ⟨v,r',L',S',rfl,rfl,h3,_,_,_,h4,h5,h6,h7,h8⟩;have az:∀b o,o<g.im b->b<w.heap.size:=fun b o h=>hI.Fi h
 refine⟨v,g,rfl,h3 g w' [],⟨hI.oP,hI.lF,fun l row b h=>by simp at h,fun k r v h=>by simp at h,hI.kA,hI.iS,hI.iX,fun b hb=>hI.fresh b (by omega)⟩,
  h4,h5,h6,h7,fun b hb _ _=>h8 b hb (by simp),fun _ _ _=>rfl,⟨[],by simp,by simp⟩,fun k v b h=>by rw[h2]at h;simp at h,fun k v h=>by rw[h2]at h;simp at h,hT⟩
end
def eL (k:Option (Nat×Nat×Value)):CV->Option CV
 |.d x=>if x.jA=true then some (.d x)else none
 |.np=>some .np
 |.nil=>some (.d (.raw (.slice none 0 0)))
 |.own j m=>match k with
  |some (i,m',v)=>if j=i/\m=m' then some (.d (.raw v))else none
  |none=>none
 |_=>none
def fj (k:Option (Nat×Nat×Value)):List CV->Option (List CV)
 |[]=>some []
 |c::r=>match eL k c,fj k r with
  |some d,some ds=>some (d::ds)
  |_,_=>none
def fa (k:Option (Nat×Nat×Value)):AV->Option AV
 |.c x=>(eL k x).map AV.c
 |.agg xs=>(fj k xs).map AV.agg
 |.bq _=>none
def cT (k:Option (Nat×Nat×Value)):List AV->Option (List AV)
 |[]=>some []
 |c::r=>match fa k c,cT k r with
  |some d,some ds=>some (d::ds)
  |_,_=>none
section
variable {g g':Gh} {w w':World} {A A':List bu} {k:Option (Nat×Nat×Value)}
def HR (g:Gh) (A:List bu) (k:Option (Nat×Nat×Value)):Prop:=∀i m v,k=some (i,m,v)->v.oneCell'=true/\∃r,A[i]? =some r/\m=r.rows.length/\g.ar[i]? =some v
theorem xq (hk:HR g A k) {c d:CV} {u:Value} (h:eL k c=some d) (hr:bm g w A c u):bm g' w' A' d u:=by
 cases c with
 |d x=>
  simp only[eL]at h;split at h
  ·rename_i hs;simp at h;subst h;exact DV.sC hs hr
  ·cases h
 |np=>simp only[eL,Option.some.injEq]at h;subst h;exact hr
 |nil=>
  simp only[eL,Option.some.injEq]at h;subst h;simp only[bm]at hr;subst hr;exact⟨rfl,rfl⟩
 |own j m=>
  simp only[eL]at h;split at h
  ·rename_i i m' v;split at h
   ·rename_i e;obtain⟨rfl,rfl⟩:=e;simp at h;subst h;obtain⟨h1,r,h2,h3,h4⟩:=hk _ _ _ rfl;obtain⟨a,cap,_,r',h5,_,h6⟩:=hr;rw[h2]at h5;cases h5;have h7:=h6 h3;rw[h4]at h7;cases h7
    exact⟨rfl,h1⟩
   ·cases h
  ·cases h
 |_=>simp[eL]at h
theorem EF:∀{cs ds:List CV},fj k cs=some ds->ds.length=cs.length/\∀(j:Nat) c d,cs[j]? =some c->ds[j]? =some d->eL k c=some d
 |[],ds,h=>by simp[fj]at h;subst h;exact⟨rfl,fun j c d h=>by simp at h⟩
 |c::r,ds,h=>by
  simp only[fj]at h;split at h
  ·rename_i d ds' h1 h2;simp at h;subst h;obtain⟨h3,h4⟩:=EF h2;refine⟨by simp[h3],fun j c' d' h5 h6=>?_⟩;cases j with
   |zero=>simp at h5 h6;subst h5;subst h6;exact h1
   |succ j=>simp at h5 h6;exact h4 j c' d' h5 h6
  ·simp at h
theorem BU:∀{cs ds:List AV},cT k cs=some ds->ds.length=cs.length/\∀(j:Nat) c d,cs[j]? =some c->ds[j]? =some d->fa k c=some d
 |[],ds,h=>by simp[cT]at h;subst h;exact⟨rfl,fun j c d h=>by simp at h⟩
 |c::r,ds,h=>by
  simp only[cT]at h;split at h
  ·rename_i d ds' h1 h2;simp at h;subst h;obtain⟨h3,h4⟩:=BU h2;refine⟨by simp[h3],fun j c' d' h5 h6=>?_⟩;cases j with
   |zero=>simp at h5 h6;subst h5;subst h6;exact h1
   |succ j=>simp at h5 h6;exact h4 j c' d' h5 h6
  ·simp at h
theorem Dx (hk:HR g A k) {c d:AV} {u:Value} (h:fa k c=some d) (hr:aV g w A c u):dD g' w' A' d u:=by
 cases c with
 |c x=>
  simp only[fa,aas]at h;obtain⟨y,h1,rfl⟩:=h;exact xq (w:=w) hk h1 hr
 |agg xs=>
  simp only[fa,aas]at h;obtain⟨ys,h1,rfl⟩:=h;obtain⟨h2,h3⟩:=EF h1;obtain⟨vs,e,hl,hc⟩:=hr;refine⟨vs,e,by omega,fun i y u h4 h5=>?_⟩;have hi:i<xs.length:=by have:=(ZD.1 h4).1;omega
  exact xq (w:=w) hk (h3 i _ y (ZB hi) h4) (hc i _ u (ZB hi) h5)
 |bq _=>simp[fa]at h
theorem zt (hk:HR g A k) {xs ys:List AV} {us:List Value} (h:cT k xs=some ys) (hl:us.length=xs.length) (hr:∀(i:Nat) x u,xs[i]? =some x->us[i]? =some u->aV g w A x u):
  FT (one ys) (if h:us.toArray.size=1 then us.toArray[0]else .tuple us.toArray):=by
 obtain⟨h1,h2⟩:=BU h;have hE:∀(i:Nat) y u,ys[i]? =some y->us[i]? =some u->∀g w A,dD g w A y u:=fun i y u h4 h5 g' w' A'=>by
  have hi:i<xs.length:=by have:=(ZD.1 h4).1;omega
  exact Dx (w:=w) hk (h2 i _ y (ZB hi) h4) (hr i _ u (ZB hi) h5)
 have dc:∀y∈ys,∀zs,y≠.bq zs:=fun y hy zs e=>by
  subst e;obtain⟨i,hi⟩:=ZP hy;have Fh:i<us.length:=by have:=(ZD.1 hi).1;omega
  exact hE i _ us[i] hi (ZB Fh) g w A
 intro g' w' A'
 match ys,us with
 |[y],[u]=>
  have:=hE 0 y u rfl rfl g' w' A';simp only[one,List.size_toArray,ZN,ZU,Zr,dite_true,List.getElem_toArray,List.getElem_cons_zero];cases y with
  |bq zs=>exact absurd rfl (dc _ (by simp) zs)
  |c x=>exact this
  |agg x=>exact this
 |[],us=>
  have:us=[]:=ZV.1 (by simp at h1;omega);subst this;exact⟨[],rfl,rfl,fun i x u h=>by simp at h⟩
 |y::z::r,us=>
  have eM:¬us.toArray.size=1:=by simp at h1⊢;omega
  rw[dif_neg eM];exact⟨us,rfl,by omega,fun i x u h3 h4=>hE i x u h3 h4 g' w' A'⟩
 |[y],[]=>simp at h1 hl;omega
 |[y],_::_::_=>simp at h1 hl;omega
end
def ri (L:Ts):Prop:=∀p∈L,∃e sz,p=(.t e sz 0 [],.slice none 0 0)
theorem ri.nq {w:World}:∀{L:Ts},ri L->iq w L []
 |[],_=>rfl
 |p::L,h=>by
  obtain⟨e,sz,rfl⟩:=h p (by simp);refine⟨[],[],rfl,?_,ri.nq fun q hq=>h q (by simp[hq])⟩;simp only[Tr];exact⟨[],[],⟨by simp,.inl ⟨rfl,rfl⟩⟩,by simp[kF],rfl⟩
theorem ri.nil:ri []:=fun p hp=>by cases hp
def bt (P:Program) (fn:Func) (R:AV->Ts->Prop) (e:Exit) (s:St) (L:Ts):Prop:=
 (e=.normal\/e=.ret)/\∃xs,e8 P s fn.results.toList=some xs/\
  ((∃ys L' M Ln,cT none xs=some ys/\ri Ln/\(L++Ln).Perm (L'++M)/\R (one ys) L')\/
  (∃k r cs Lc L2 Ln,s.A[k]? =some r/\r.wr=true/\Mk cs r.rows.flatten Lc/\L.Perm (Lc++L2)/\ri Ln/\
    ∀v,∃ys L' M,cT (some (k,r.rows.length,v)) xs=some ys/\((.t r.eJ r.sz r.rows.length cs,v)::L2++Ln).Perm (L'++M)/\R (one ys) L'))
section
variable {P:Program} {f:FuncId} {fn:Func} {c:Code} {as_:List AV} {L:Ts} {R:AV->Ts->Prop}
theorem BV {w:World} {e:TypeId} {sz n:Nat} {v:Value} {xs:List Value} (h:w.ownsRow 0 e sz v n xs):v.oneCell'=true:=by
 rcases h.2 with⟨rfl,_⟩|⟨g,cap,cur,rfl,_⟩<;>rfl
set_option maxHeartbeats 1000000 in
theorem aR.cx (hf:P.funcs[f]? =some fn) (j0:(fn.name== "runtime.NumGoroutine")=false) (hb:fn.body=some c) (eK:codeOk fn.ntmps c=true) (hn:as_.length<=fn.ntmps)
  (h:TJ P fn.ntmps c (bt P fn R) ⟨kL as_,[],[]⟩ L):aR P f as_ L R:=by
 refine⟨enters hf j0 hb,fun g w vs S I3 MP hI hT hl hr hS oQ hz=>calls_of_wp hf hb ?_⟩;have hR:rh fn.ntmps w g S ⟨kL as_,[],[]⟩ L S g {tmps:=vs++aaj (fn.ntmps-vs.size) undef,defers:=[]} w:=by
  refine⟨hI,xn.refl hT fun b hb=>(hz b hb).2,by simp;omega,rfl,fun t x hx=>?_,hS,oQ,fun b hb=>⟨(hz b hb).1,by simp[I3],by simp[Gh.jg,MP],(hz b hb).2,.inr hb⟩⟩;obtain⟨_,hx⟩:=qZ as_ 0 t x hx;rw[Nat.sub_zero]at hx;have ht:t<vs.size:=by have:=(ZD.1 hx).1;omega
  exact⟨vs[t],by rw[Array.getElem?_append_left ht];simp[ht],hr t x _ hx (by simp[ht])⟩
 refine Go.wp_mono (h eK w g S S g _ w hR) ?_;rintro e a' w' ⟨s',g',L',S',⟨hex,xs,Ny,hd⟩,v7⟩;obtain⟨us,A9,MJ,ff⟩:=qY v7.inv v7.slot Ny;have wP:(results fn a'.tmps).run P w'=.ok (if h:us.toArray.size=1 then us.toArray[0]else .tuple us.toArray) w':=by
  rw[wO,Sem.run_bind,Array.mapM_eq_mapM_toList];have hm:(List.toArray<$>fn.results.toList.mapM (pj a'.tmps)).run P w'=.ok us.toArray w':=by
   simp[ff]
  rw[hm]
  rfl
 have hF:=v7.fr
 have FW:∀(r:AV) (L'':Ts) (S'':List Nat),R r L''->FT r (if h:us.toArray.size=1 then us.toArray[0]else .tuple us.toArray)->iq w' L'' S''->S''.Nodup->(∀b∈S'',b∈S\/w.heap.size<=b)->
   a'.defers=[]/\∃v,(results fn a'.tmps).run P w'=.ok v w'/\∃v1 r L' S',Ending.returned v=.returned v1/\R r L'/\FT r v1/\iq w' L' S'/\S'.Nodup/\(∀b∈S',b∈S\/w.heap.size<=b)/\
    w'.os=w.os/\w'.tape=w.tape/\w'.output=w.output/\w.heap.size<=w'.heap.size/\∀b,b<w.heap.size->b∉S->w'.heap[b]? =w.heap[b]? :=
  fun r L'' S'' h1 h2 h3 h4 h5=>⟨v7.defers,_,wP,_,r,L'',S'',rfl,h1,h2,h3,h4,h5,hF.os,hF.tape,hF.output,hF.size,fun b hb SV=>hF.qF b hb (by simp[I3]) (by simp[Gh.jg,MP]) SV⟩
 have Od:∀b∈S',b∈S\/w.heap.size<=b:=fun b hb=>by rcases(v7.out b hb).2.2.2.2 with q|q;exact .inr q;exact .inl q
 have Ho:a'.defers=[]/\∃v,(results fn a'.tmps).run P w'=.ok v w'/\∃v1 r L' S',Ending.returned v=.returned v1/\R r L'/\FT r v1/\iq w' L' S'/\S'.Nodup/\(∀b∈S',b∈S\/w.heap.size<=b)/\
    w'.os=w.os/\w'.tape=w.tape/\w'.output=w.output/\w.heap.size<=w'.heap.size/\∀b,b<w.heap.size->b∉S->w'.heap[b]? =w.heap[b]? :=by
  rcases hd with⟨ys,L1,M,Ln,h1,h2,h3,h4⟩|⟨k,r,cs,Lc,L2,Ln,hk,hw,HS,hp,lL,hv⟩
  ·have JQ:iq w' (L'++Ln) (S'++[]):=iq.app.2 ⟨S',[],rfl,v7.nq,h2.nq⟩;rw[ZR]at JQ;obtain⟨S1,h5,h6⟩:=JQ.perm h3;obtain⟨S2,S3,rfl,h7,_⟩:=iq.app.1 h6;refine FW (one ys) L1 S2 h4 (zt (g:=g') (A:=s'.A) (w:=w') (k:=none) (fun i m v e=>by cases e) h1 A9 MJ) h7 (ZE.1 (h5.nodup_iff.1 v7.nd)).1 fun b hb=>Od b (h5.mem_iff.2 (by simp[hb]))
  ·obtain⟨v,ve⟩:∃v,g'.ar[k]? =some v:=by
    have:k<g'.ar.length:=by rw[v7.inv.lF];exact(ZD.1 hk).1
    exact⟨_,ZB this⟩
   obtain⟨hlen,qS,cells,dS,nD⟩:=v7.inv.arr k r v hk ve;obtain⟨ys,L1,M,h1,h3,h4⟩:=hv v;obtain⟨S0,h5,h6⟩:=v7.nq.perm hp;obtain⟨Sc,S2,rfl,h7,h8⟩:=iq.app.1 h6;have yh:cells.length=r.rows.flatten.length:=by
    have hx:∀(rows:List (List DV)),(∀row∈rows,row.length=r.sz)->rows.flatten.length=rows.length*r.sz:=by
     intro rows;induction rows with
     |nil=>simp
     |cons x xs ih=>intro hx;rw[List.flatten_cons,List.length_append,hx x (by simp),ih (fun y hy=>hx y (by simp[hy])),ZN,Zy];omega
    rw[dS.1,hx r.rows hlen]
   have UD:=HS.PM yh nD h7;have lK:Tr w' (.t r.eJ r.sz r.rows.length cs) v (v.ownBlock.toList++Sc):=by
    simp only[Tr];exact⟨cells,Sc,dS,UD,rfl⟩
   have JQ:iq w' ((.t r.eJ r.sz r.rows.length cs,v)::L2++Ln) ((v.ownBlock.toList++Sc)++S2):=by
    refine⟨_,S2++[],by simp,lK,iq.app.2 ⟨S2,[],rfl,h8,lL.nq⟩⟩
   obtain⟨S1,h9,cE⟩:=JQ.perm h3;obtain⟨S4,S5,rfl,ev,_⟩:=iq.app.1 cE;have yO:(Sc++S2).Nodup:=h5.nodup_iff.1 v7.nd;have Jh:∀b,v.ownBlock=some b->b∉Sc++S2/\(b∈S\/w.heap.size<=b):=fun b hb=>by
    refine⟨fun hm=>(v7.out b (h5.mem_iff.2 hm)).2.2.1 (Gh.jN ve hb),?_⟩;rcases hF.ar k v b ve hb with q|q|q
    ·exact .inr q
    ·simp[Gh.jg,MP]at q
    ·exact .inl q
   have HT:((v.ownBlock.toList++Sc)++S2).Nodup:=by
    rw[ZK];cases Ju:v.ownBlock with
    |none=>simpa using yO
    |some b=>simpa using⟨by simpa using(Jh b Ju).1,by simpa using yO⟩
   refine FW (one ys) L1 S4 h4 (zt (g:=g') (A:=s'.A) (w:=w') (k:=some (k,r.rows.length,v)) (fun i m v' e=>by cases e;exact⟨BV dS,r,hk,rfl,ve⟩) h1 A9 MJ) ev (ZE.1 (h9.nodup_iff.1 HT)).1 fun b hb=>?_
   have hm:b∈(v.ownBlock.toList++Sc)++S2:=h9.mem_iff.2 (by simp[hb]);rw[ZK]at hm;rcases ZC.1 hm with q|q
   ·exact(Jh b (by simpa using q)).2
   ·exact Od b (h5.mem_iff.2 q)
 rcases hex with rfl|rfl<;>exact Ho
theorem aR.ob {N:Nat} (hf:P.funcs[f]? =some fn) (hN:fn.ntmps=N) (hb:fn.body=some c) (h:TJ P N c (bt P fn R) ⟨kL as_,[],[]⟩ L) (j0:(fn.name== "runtime.NumGoroutine")=false:=by kernel_rfl) (eK:codeOk N c=true:=by kernel_rfl) (hn:as_.length<=N:=by simp):aR P f as_ L R:=by
 subst hN;exact aR.cx hf j0 hb eK hn h
def SX (P:Program) (fn:Func) (eJ:TypeId) (sz n:Nat) (R:AV->List GC->Prop) (e:Exit) (s:St) (L:Ts):Prop:=
 (e=.normal\/e=.ret)/\∃xs ys rows cs Lc M,e8 P s fn.results.toList=some xs/\cT none xs=some ys/\s.A[0]? =some ⟨sz,eJ,rows,true⟩/\rows.length=n/\Mk cs rows.flatten Lc/\L.Perm (Lc++M)/\R (one ys) cs
end
theorem gK.jd {L:Ts} {c:GC} {v:Value} {x:DV} (h:(c,v)∈L) (e:c.dv=x/\c.pl=true):gK L (.d (.raw v)) (.d x):=e.1▸gK.N8 h e.2
mutual
def BW (e:TypeId):aE->List GC
 |.mk k l=>[.d (.i k),.t e 2 l.length (c8 e l)]
def c8 (e:TypeId):List aE->List GC
 |[]=>[]
 |t::r=>BW e t++c8 e r
end
def iP (e:TypeId) (l:List aE):GC:=.t e 2 l.length (c8 e l)
theorem tX (e:TypeId) (t:aE):BW e t=[.d (.i t.kind),iP e t.kids]:=by cases t;simp[BW,iP]
theorem rj:∀(l m:List GC),yM (l++m)=yM l++yM m
 |[],_=>rfl
 |x::l,m=>by simp[yM,rj l m]
theorem vm {α:Type} {sz:Nat} (n:Nat) {r l:List α} (h:r.length=sz):chunks sz (n+1) (r++l)=r::chunks sz n l:=by
 simp only[chunks];rw[List.take_left' h,List.drop_left' h]
mutual
theorem HU (e:TypeId):∀(t:aE),yM (BW e t)=cA t
 |.mk k l=>by
  have:=tY e l;rw[tX,aQ];simp only[yM,GC.dv,iP,aE.b4,aE.bQ,this]
theorem tY (e:TypeId):∀(l:List aE),chunks 2 l.length (yM (c8 e l))=l.map cA
 |[]=>rfl
 |t::r=>by
  have h1:=HU e t;have h2:=tY e r;rw[c8,rj,h1,ZN,vm _ (by rw[aQ];rfl),h2,ZS]
end
theorem HV (e:TypeId) (l:List aE):(iP e l).dv=.sl (l.map cA):=by
 simp only[iP,GC.dv,tY]
theorem rk:∀(l m:List GC),BR (l++m)=(BR l && BR m)
 |[],_=>by simp[BR]
 |x::l,m=>by simp[BR,rk l m,Bool.and_assoc]
mutual
theorem HW (e:TypeId):∀(t:aE),BR (BW e t)=true
 |.mk k l=>by
  have:=tZ e l;rw[tX];simp only[BR,GC.pl,iP,aE.bQ,this,aar]
theorem tZ (e:TypeId):∀(l:List aE),BR (c8 e l)=true
 |[]=>rfl
 |t::r=>by rw[c8,rk,HW e t,tZ e r];rfl
end
theorem kG (e:TypeId) (l:List aE):(iP e l).dv=.sl (l.map cA)/\(iP e l).pl=true:=⟨HV e l,by simp only[iP,GC.pl,tZ]⟩
abbrev Rf (t:aE) (v:Value):List DV:=[.i t.kind,.raw v]
theorem qh (e:TypeId):∀{l:List aE} {vs:List Value},vs.length=l.length->Mk (c8 e l) (ZF Rf l vs).flatten ((l.map fun t=>iP e t.kids).zip vs)
 |[],[],_=>.nil
 |t::r,v::vs,h=>by
  rw[c8,tX];exact .d rfl (.t (qh e (by simpa using h)))
def SY {α β:Type} (f:α->β->List DV) (z:List DV) (l:List α) (vs:List β):List (List DV):=ZF f l vs++Z0 (l.length-vs.length) z
section
variable {α β:Type} {f:α->β->List DV} {z:List DV} {l:List α} {vs:List β}
theorem HX {γ:Type} {g:α->γ} {a:α} (h:l[vs.length]? =some a) (v:β):(l.map g).zip (vs++[v])=(l.map g).zip vs++[(g a,v)]:=by
 obtain⟨h1,h2⟩:=ZD.1 h;have hl:l.map g=(l.take vs.length).map g++g a::(l.drop (vs.length+1)).map g:=by
  rw[<-h2,<-ZS,<-List.map_append,<-aac h1,ZL]
 have ht:((l.take vs.length).map g).length=vs.length:=by rw[Z5,ZT];omega
 rw[hl];generalize (l.take vs.length).map g=A at ht;generalize (l.drop (vs.length+1)).map g=B;have e:(A++g a::B).zip (vs++[])=A.zip vs:=by rw[ZY ht];simp
 rw[ZR]at e;rw[e,ZY ht];simp
end
attribute [simp] cb eL fj fa cT
section
variable {P:Program} {fn:Func} {R:AV->Ts->Prop} {e:Exit} {s:St} {L L' M Lc:Ts} {r r':AV}
theorem bt.agg (he:e=.normal\/e=.ret) (hr:e8 P s fn.results.toList=some [r]) (hs:cT none [r]=some [r']) (hp:L.Perm (L'++M)) (hR:R r' L'):bt P fn R e s L:=
 ⟨he,[r],hr,.inl ⟨[r'],L',M,[],hs,.nil,by simpa using hp,hR⟩⟩
theorem bt.sD {Ln:Ts} (he:e=.normal\/e=.ret) {rs rs':List AV} (hr:e8 P s fn.results.toList=some rs) (hs:cT none rs=some rs') (hn:ri Ln) (hR:R (one rs') Ln):bt P fn R e s L:=
 ⟨he,rs,hr,.inl ⟨rs',Ln,L,Ln,hs,hn,List.perm_append_comm,hR⟩⟩
theorem bt.bq (he:e=.normal\/e=.ret) {rs rs':List AV} (hr:e8 P s fn.results.toList=some rs) (hs:cT none rs=some rs') (hp:L.Perm (L'++M)) (hR:R (one rs') L'):bt P fn R e s L:=
 ⟨he,rs,hr,.inl ⟨rs',L',M,[],hs,.nil,by simpa using hp,hR⟩⟩
end
section
variable {P:Program} {n:Nat} {Q:Exit->St->Ts->Prop} {s s':St} {L L':Ts} {c:Code}
theorem TJ.conv (h:∀(g:Gh) (a:Act) (w:World),Rp n w g s g a w->∃g',Rp n w g s' g' a w) (h2:TJ P n c Q s' L):TJ P n c Q s L:=by
 intro eK w0 g0 X S g a w hR;obtain⟨g',v7⟩:=h g a w hR.rp;exact h2 eK w0 g0 X S g' a w (hR.back v7)
theorem TJ.qX (t:Nat) (sz:Nat) (e:TypeId) (ht:look s.fr t=some (.c .nil)) (h:TJ P n c Q ⟨(t,.c (.own s.A.length 0))::s.fr,s.V,s.A++[⟨sz,e,[],true⟩]⟩ L):TJ P n c Q s L:=by
 refine TJ.conv (fun g a w hR=>?_) h
 obtain⟨g1,Jn,pZ,tt,eZ,dn,km⟩:=hR.inv.qT hR.fr {sz:=sz,eJ:=e,rows:=[],wr:=true} (.slice none 0 0) [] (by simp) (World.ownsRow_nil w 0 e sz) (fun j x u h=>by simp at h) (fun b h=>by simp[Value.ownBlock]at h);refine⟨g1,eZ,km,hR.size,hR.defers,fun t' x hx=>?_⟩;simp only[look]at hx;by_cases e':t'=t
 ·subst e';simp at hx;subst hx;obtain⟨u,h1,h2⟩:=hR.slot t' _ ht;refine⟨u,h1,?_⟩;simp only[aV,dD,bm]at h2;subst h2;exact⟨none,0,rfl,_,by simp;rfl,Zp _,fun _=>by rw[tt,ZQ (by rw[hR.inv.lF];exact Zo _),hR.inv.lF];simp⟩
 ·rw[if_neg e']at hx;obtain⟨u,h1,h2⟩:=hR.slot t' x hx;exact⟨u,h1,aV.ext dn h2⟩
theorem TJ.dM (l j:Nat) (sz:Nat) (e:TypeId) {row:List CV} (hl:s.V[l]? =some row) (hj:row[j]? =some .nil) (h:TJ P n c Q ⟨s.fr,s.V.set l (row.set j (.own s.A.length 0)),s.A++[⟨sz,e,[],true⟩]⟩ L):TJ P n c Q s L:=by
 refine TJ.conv (fun g a w hR=>?_) h
 obtain⟨g1,Jn,pZ,tt,eZ,dn,km⟩:=hR.inv.qT hR.fr {sz:=sz,eJ:=e,rows:=[],wr:=true} (.slice none 0 0) [] (by simp) (World.ownsRow_nil w 0 e sz) (fun j x u h=>by simp at h) (fun b h=>by simp[Value.ownBlock]at h);refine⟨g1,?_,km,hR.size,hR.defers,fun t' x hx=>?_⟩
 ·refine⟨by simpa using eZ.oP,eZ.lF,fun l' row' b h1 h2=>?_,eZ.arr,eZ.kA,eZ.iS,eZ.iX,eZ.fresh⟩;have lH:(s.V.set l (row.set j (.own s.A.length 0)))[l']? =some row':=h1;rw[dk hl]at lH;by_cases e':l'=l
  ·subst e';simp at lH;subst lH;obtain⟨h3,cs,ty,h4,h5,h6⟩:=eZ.obj l' row b hl h2;refine⟨h3,cs,ty,h4,by simpa using h5,fun i c u h7 h8=>?_⟩;rw[dk hj]at h7;by_cases e'':i=j
   ·subst e'';simp at h7;subst h7;have h9:=h6 i _ u hj h8;simp only[bm]at h9;subst h9;exact⟨none,0,rfl,_,by simp;rfl,Zp _,fun _=>by rw[tt,ZQ (by rw[hR.inv.lF];exact Zo _),hR.inv.lF];simp⟩
   ·rw[if_neg e'']at h7;exact h6 i c u h7 h8
  ·rw[if_neg e']at lH;exact eZ.obj l' row' b lH h2
 ·obtain⟨u,h1,h2⟩:=hR.slot t' x hx;exact⟨u,h1,aV.ext dn h2⟩
theorem TJ.dA {α:Type} (ks:List Nat) (ph:α->List (Nat×AV)) (ob:α->List (Nat×List CV)) (G:α->List (List CV)) (ar:α->List bu->List bu) (tr:α->Ts) (m:α->Nat) (H:α->Prop) {fr0:List (Nat×AV)} (hk:gv ks s.fr=fr0)
  (h:∀a,H a->TJ P n c (Dw (fun a=>⟨ph a++fr0,gi (ob a) s.V++G a,ar a s.A⟩) tr m H (m a) Q) ⟨ph a++fr0,gi (ob a) s.V++G a,ar a s.A⟩ (tr a)) (a:α) (ha:H a) (hV:gi (ob a) s.V++G a=s.V) (hA:ar a s.A=s.A) (hp:j4 (ph a) s.fr) {M:Ts} (hL:L.Perm (tr a++M)):TJ P n (.loop c) Q s L:=by
 subst hk;exact TJ.iI (fun a=>⟨ph a++gv ks s.fr,gi (ob a) s.V++G a,ar a s.A⟩) tr m H h a ha ⟨hV,hA,hp.app (tR ks s.fr)⟩ hL
end
end Go.Av
namespace Go.Av
open Go
def Rg (o:Oper):Oper:={o with dst:=none,op:=.assign (.const (.bool true)),guard:=none}
def SZ (l:List Oper):List Oper:=match l.getLast? with
 |some o=>l.dropLast++[Rg o]
 |none=>[]
def Rh (l:List Oper):Bool:=match l.getLast? with
 |some o=>o.guard.isNone &&(l.zipIdx.all fun(x,j)=>x.after.all fun e=> !Region.binds .any e||decide (e.on<j))&&(l.dropLast.all fun x=>match x.guard with|some (q,_)=>decide (q<l.length-1)|none=>true)
   &&((Zz (l.length-1)).all fun k=>((a7 l []).getD (l.length-1) 0).testBit k)
 |none=>false
section
variable {P:Program}
def Ri (l:List Oper):List Oper:=match l.getLast? with
 |some o=>[o]
 |none=>[]
end
section
variable {P:Program} {n:Nat} {w0 w w':World} {g0 g g':Gh} {X S S':List Nat} {s s':St} {L L':Ts} {a a':Act} {x y:Code} {all:Array Oper} {ws:List Nat}
def sE (P:Program) (L:Ts) (f:FuncId) (xs:List AV) (K:AV->Ts->Prop):Prop:=∃(as_:List AV) (L1 L2:Ts) (R:AV->Ts->Prop),L.Perm (L1++L2)/\gR L2 xs as_/\aR P f as_ L1 R/\∀r L1',R r L1'->K r (L1'++L2)
def b9 (P:Program) (s:St) (L:Ts) (o:Oper) (K:AV->Ts->Prop):Prop:=
 match o.op with
 |.call {callee:=.value f,args,.. }=>bS (bE s f) fun fv=>match fv with
  |.c (.fn fid [])=>bS (hM s args.toList) fun xs=>sE P L fid xs K
  |_=>False
 |_=>False
theorem qi {o:Oper} {K K':AV->Ts->Prop} (hk:∀x L,K x L->K' x L) (h:b9 P s L o K):b9 P s L o K':=by
 unfold b9 at h⊢;split at h
 ·refine nH (fun fv h1=>?_) h;split at h1
  ·exact nH (fun xs ⟨as_,L1,L2,R,h2,h3,h4,h5⟩=>⟨as_,L1,L2,R,h2,h3,h4,fun r L1' hr=>hk _ _ (h5 r L1' hr)⟩) h1
  ·exact h1
 ·exact h
theorem pK {cM:List (Nat×AV)} {V:List (List CV)} {A:List bu} {ow:Bool} {o:Oper} {K:AV->Ts->Prop} (he:∀x∈o.op.operands.toList,bE ⟨cM,V,A⟩ x=bE s x) (h:b9 P s L o K):cb P ⟨cM,V,A⟩ L ow o fun x V' A' L'=>V'=V/\A'=A/\K x L':=by
 unfold b9 at h;unfold cb;split at h
 ·rename_i f args yk heq;simp only[heq]at he⊢;have e1:bE ⟨cM,V,A⟩ f=bE s f:=he f (by simp[Op.operands,Call.operands]);have e2:hM ⟨cM,V,A⟩ args.toList=hM s args.toList:=lU fun p hp=>he p (by simp[Op.operands,Call.operands];exact .inr (by simpa using hp))
  rw[e1];refine nH (fun fv h1=>?_) h;split at h1
  ·simp only[e2,List.map_nil,ZR];refine nH (fun xs h2=>?_) h1;obtain⟨as_,L1,L2,R,h2,h3,h4,h5⟩:=h2;exact .inr ⟨as_,L1,L2,R,h2,h3,h4,fun r L1' hr=>⟨rfl,rfl,h5 r L1' hr⟩⟩
  ·exact h1.elim
 ·exact h.elim
def qM (P:Program) (ow:Nat->Bool) (ws cs:List Nat) (K:St->Ts->Prop):Nat->List Oper->St->Ts->Prop
 |_,[],s,L=>K s L
 |i,o::rest,s,L=>(i∈cs/\b9 P s L o fun x L'=>qM P ow ws cs K (i+1) rest (s.put o.dst x s.V s.A) L')\/
   (i∉cs/\bH P s (ow i) o fun x V A=>(i∈ws\/(V=s.V/\A=s.A))/\qM P ow ws cs K (i+1) rest (s.put o.dst x V A) L)
def JS (P:Program) (ow:Bool) (o:Oper) (s s':St):Prop:=∃x V A,s'=s.put o.dst x V A/\∀K:AV->List (List CV)->List bu->Prop,K x V A->bH P s ow o K
def M3 (ws:List Nat) (j:Nat) (o:Oper) (s s':St):Prop:=∃x V A,s'=s.put o.dst x V A/\(j∈ws\/(V=s.V/\A=s.A))
theorem pL {ow:Nat->Bool} {cs:List Nat} {K:St->Ts->Prop}:∀(ops:List Oper) (i:Nat) (s:St) (L:Ts),qM P ow ws cs K i ops s L->
  ∃(τ:Nat->St) (m:Nat),m<=ops.length/\τ 0=s/\(∀(j:Nat) o,j<m->ops[j]? =some o->JS P (ow (i+j)) o (τ j) (τ (j+1))/\M3 ws (i+j) o (τ j) (τ (j+1)))/\
   ((m=ops.length/\K (τ m) L)\/(i+m∈cs/\∃o,ops[m]? =some o/\b9 P (τ m) L o fun x L'=>qM P ow ws cs K (i+m+1) (ops.drop (m+1)) ((τ m).put o.dst x (τ m).V (τ m).A) L'))
 |[],i,s,L,h=>⟨fun _=>s,0,Zo _,rfl,fun j o hj=>by omega,.inl ⟨rfl,h⟩⟩
 |o::rest,i,s,L,h=>by
  rcases h with⟨h1,h2⟩|⟨h1,h2⟩
  ·exact⟨fun _=>s,0,by simp,rfl,fun j o hj=>by omega,.inr ⟨h1,o,rfl,h2⟩⟩
  ·obtain⟨x,V,A,⟨h3,h4⟩,h5⟩:=fU h2;obtain⟨τ,m,k1,k2,k3,k4⟩:=pL rest (i+1) _ L h4;refine⟨fun j=>match j with|0=>s|j+1=>τ j,m+1,by simp;omega,rfl,fun j o' hj ho=>?_,?_⟩
   ·cases j with
    |zero=>
     simp at ho;subst ho;exact⟨⟨x,V,A,k2,h5⟩,x,V,A,k2,h3⟩
    |succ j=>
     simp at ho;have:=k3 j o' (by omega) ho;rwa[show i+1+j=i+(j+1) by omega]at this
   ·rcases k4 with⟨k5,k6⟩|⟨k5,o',k6,k7⟩
    ·exact .inl ⟨by simp[k5],k6⟩
    ·refine .inr ⟨by rw[show i+(m+1)=i+1+m by omega];exact k5,o',by simpa using k6,?_⟩;rw[show i+(m+1)+1=i+1+m+1 by omega];exact k7
structure FX (all:Array Oper) (ws:List Nat) (σ:Nat->St) (c:Nat):Prop where
 le:c<=all.size
 tr:∀(j:Nat) o,j<c->all[j]? =some o->M3 ws j o (σ j) (σ (j+1))
section
variable {σ:Nat->St} {c:Nat} (hT:FX all ws σ c) (q0:∀(i j:Nat) oi oj d,all[i]? =some oi->all[j]? =some oj->oi.dst=some d->oj.dst=some d->i=j)
include hT
theorem FX.step {j:Nat} {o:Oper} {t:Nat} (hj:j<c) (h1:all[j]? =some o) (h2:o.dst≠some t):look (σ (j+1)).fr t=look (σ j).fr t:=by
 obtain⟨x,V,A,h3,_⟩:=hT.tr j o hj h1;rw[h3];simp only[St.put];cases rI:o.dst with
 |none=>rfl
 |some d=>simp only[look];rw[if_neg (fun e=>h2 (by rw[rI,e]))]
theorem FX.Oe:∀(j t:Nat),j<=c->(∀(i:Nat) o,i<j->all[i]? =some o->o.dst≠some t)->look (σ j).fr t=look (σ 0).fr t:=by
 have hc:=hT.le;intro j;induction j with
 |zero=>intro t _ _;rfl
 |succ j ih=>
  intro t hj fe;have ho:all[j]? =some all[j]:=aag (by omega);rw[hT.step (by omega) ho (fe j _ (by omega) ho)];exact ih t (by omega) (fun i o hi=>fe i o (by omega))
theorem FX.VA:∀(b a:Nat),a<=b->b<=c->(∀i,a<=i->i<b->i∉ws)->(σ b).V=(σ a).V/\(σ b).A=(σ a).A:=by
 have hc:=hT.le;intro b;induction b with
 |zero=>
  intro a h _ _;obtain rfl:a=0:=by omega
  exact⟨rfl,rfl⟩
 |succ b ih=>
  intro a Pw hb fe;by_cases e:a=b+1
  ·subst e;exact⟨rfl,rfl⟩
  ·have ho:all[b]? =some all[b]:=aag (by omega);obtain⟨h1,h2⟩:=ih a (by omega) (by omega) (fun i hi Fh=>fe i hi (by omega));obtain⟨x,V,A,h3,h4⟩:=hT.tr b _ (by omega) ho;rcases h4 with h4|⟨h4,h5⟩
   ·exact absurd h4 (fe b (by omega) (by omega))
   ·rw[h3];exact⟨h4.trans h1,h5.trans h2⟩
include q0
theorem FX.Of:∀(j i:Nat) oi t,j<=c->i<j->all[i]? =some oi->oi.dst=some t->look (σ j).fr t=look (σ (i+1)).fr t:=by
 have hc:=hT.le;intro j;induction j with
 |zero=>intro i oi t _ h;omega
 |succ j ih=>
  intro i oi t hj kq aZ cg;by_cases e:i=j
  ·subst e;rfl
  ·have ho:all[j]? =some all[j]:=aag (by omega);rw[hT.step (by omega) ho (fun h=>e (q0 i j oi _ t aZ ho cg h))];exact ih i oi t (by omega) (by omega) aZ cg
end
structure Jb (w0:World) (g0:Gh) (X:List Nat) (L:Ts) (S:List Nat) (g:Gh) (w:World):Prop where
 fr:xn w0 g0 X w g
 nq:iq w L S
 nd:S.Nodup
 out:∀b∈S,g.im b=0/\b∉g.ob/\b∉g.jg/\¬oZ b/\(w0.heap.size<=b\/b∈X)
theorem Jb.cM (h:Jb w0 g0 X L S g w) (k:Fr w g w' g'):Jb w0 g0 X L S g' w':=by
 have az:=h.nq.lt;refine⟨h.fr.fr k,h.nq.dI fun b hb=>k.qF b (az b hb) (h.out b hb).2.1 (h.out b hb).2.2.1,h.nd,fun b hb=>?_⟩;obtain⟨h1,h2,h3,h4,h5⟩:=h.out b hb;have ym:=az b hb;refine⟨(k.iY b ym h3).trans h1,fun hm=>?_,fun hm=>?_,h4,h5⟩
 ·obtain⟨new,e,hn⟩:=k.ob;rw[e]at hm;rcases ZC.1 hm with q|q
  ·exact h2 q
  ·exact absurd (hn b q) (by omega)
 ·obtain⟨i,v,q1,q2⟩:=Gh.fD hm;rcases k.ar i v b q1 q2 with q|q
  ·omega
  ·exact h3 q
set_option maxHeartbeats 2000000 in
theorem FY {cs:List Nat} {ow:Nat->Bool} (hd:ej all ws=true) (LN:∀(j:Nat) o,all[j]? =some o->o.guard=none) (eT:c7 n all.toList=true) {σ:Nat->St} {c:Nat} (hT:FX all ws σ c) {ae:Array Bool} {k0:Nat} (hD:DS all ws σ n w g ae k0 g a w) (gx:k0<=c) (nC:∀i,ae[i]? =some true->i<c)
  {j:Nat} (hj:j∈Region.ready .any all ae) (EG:j<=c) {o:Oper} (ho:all[j]? =some o) {next:Act->World->Prop} {Q:Exit->Act->World->Prop}:
  (j<c->JS P (ow j) o (σ j) (σ (j+1))->(∀k1 v g' w',k1<=c->DS all ws σ n w' g' (ae.setIfInBounds j true) k1 g' (a.put o.dst v) w'->Fr w g w' g'->next (a.put o.dst v) w')->wpOp P all Q j next a w)/\
  (j=c->cL o.op=false->j∉ws->Jb w0 g0 X L S g w->(∀K:AV->Ts->Prop,b9 P (σ j) L o K->(∀x L' S' v g' w',K x L'->(∀σ':Nat->St,(∀i,i<=c->σ' i=σ i)->σ' (c+1)=(σ c).put o.dst x (σ c).V (σ c).A->DS all ws σ' n w' g' (ae.setIfInBounds j true) k0 g' (a.put o.dst v) w')->Jb w0 g0 X L' S' g' w'->next (a.put o.dst v) w')->wpOp P all Q j next a w)):=by
 simp only[ej,aap,ZA]at hd;obtain⟨⟨hP,jm⟩,oX⟩:=hd;have cQ:∀(j:Nat) o,all[j]? =some o->(o,j)∈all.toList.zipIdx:=fun j o h=>by
  rw[ZH];exact⟨j,by simp[ZI,h]⟩
 have cZ:∀(j:Nat) o,all[j]? =some o->∀e∈o.after,Region.binds .any e=true->e.on<j:=fun j o h e he hb=>by
  have:=hP _ (cQ j o h) e (aah.2 he);simpa[hb]using this
 have bY:∀(i j:Nat) oi oj,all[i]? =some oi->all[j]? =some oj->i<j->br all ws (a7 all.toList []) oi oj i j=true:=fun i j oi oj h1 h2 az=>by
  have:=jm _ (cQ j oj h2) _ (cQ i oi h1);simpa[az]using this
 have uX:∀(j:Nat) o,all[j]? =some o->j∈ws->cL o.op=false:=fun j o h hj=>by
  have:=oX _ (cQ j o h);simpa[hj]using this
 have fG:∀(i j:Nat) oi oj d,all[i]? =some oi->all[j]? =some oj->i<j->oi.dst=some d->oj.dst≠some d:=fun i j oi oj d h1 h2 az h3 h4=>by
  have:=bY i j oi oj h1 h2 az;simp[br,h3,h4]at this
 have q0:∀(i j:Nat) oi oj d,all[i]? =some oi->all[j]? =some oj->oi.dst=some d->oj.dst=some d->i=j:=fun i j oi oj d h1 h2 h3 h4=>by
  rcases Zq i j with h|h|h
  ·exact absurd h4 (fG i j oi oj d h1 h2 h h3)
  ·exact h
  ·exact absurd h3 (fG j i oj oi d h2 h1 h h4)
 have z8:∀(j:Nat) o d,all[j]? =some o->o.dst=some d->d<n:=fun j o d h1 h2=>by
  have:=ZA.1 eT o (by rw[aah];exact aal h1);simpa[h2]using this
 obtain⟨GJ,_,Bn⟩:=eU all.toList []
 have mO:∀{ae:Array Bool},(∀(i:Nat) o,all[i]? =some o->ae[i]? =some true->∀e∈o.after,Region.binds .any e=true->ae[e.on]? =some true)->
   ∀(i:Nat) o,all[i]? =some o->(∀e∈o.after,Region.binds .any e=true->ae[e.on]? =some true)->∀k,((a7 all.toList []).getD i 0).testBit k=true->ae[k]? =some true:=by
  intro ae kJ i;induction i using Zu with
  |_ i ih=>
   intro o ho cz k hk;obtain⟨pre,h1,h2,h3⟩:=Bn i o (by simpa using ho);simp only[ZU,Zr]at h1 h3;have h4:(a7 all.toList []).getD i 0=mN pre o:=by simp[ZJ,h3]
   rw[h4]at hk;obtain⟨e,he,hb,h5⟩:=fF hk;have s7:=cz e he hb;rcases h5 with rfl|h5
   ·exact s7
   ·have az:=cZ i o ho e he hb;have h6:pre.getD e.on 0=(a7 all.toList []).getD e.on 0:=by simp only[ZJ,h2 e.on (by omega)]
    rw[h6]at h5;have eM:e.on<all.size:=by have:=(aaf.1 ho).1;omega
    have uY:all[e.on]? =some all[e.on]:=aag eM;exact ih e.on az _ uY (kJ e.on _ uY s7) k h5
 have Jc:=hT.le;have oR:=hT.Oe;have oS:=hT.Of q0;have tE:=hT.VA;obtain⟨mP,o2,mC,cz⟩:=mem_ready.1 hj;obtain rfl:o=o2:=by rw[ho]at mC;exact Option.some.inj mC
 have mQ:=dZ mP;have rK:j<all.size:=(aaf.1 ho).1;have iZ:j<ae.size:=by rw[hD.ey];exact rK
 have cn:∀e∈o.after,Region.binds .any e=true->ae[e.on]? =some true:=fun e he hb=>cy.1 (cz e he hb)
 have ck:∀k,((a7 all.toList []).getD j 0).testBit k=true->ae[k]? =some true:=mO hD.closed j o ho cn;have bV:∀(i:Nat) oi,all[i]? =some oi->ae[i]? =some true->((a7 all.toList []).getD i 0).testBit j=false:=fun i oi aZ bC=>by
  cases hb:((a7 all.toList []).getD i 0).testBit j with
  |false=>rfl
  |true=>have:=mO hD.closed i oi aZ (hD.closed i oi aZ bC) j hb;rw[mQ]at this;simp at this
 have jr:∀t∈o.looksAt all,∀x,look (σ j).fr t=some x->∃u,a.tmps[t]? =some u/\aV g w (σ k0).A x u:=by
  intro t ht x hx;by_cases hex:∃(i:Nat) (oi:Oper),i<j/\all[i]? =some oi/\oi.dst=some t
  ·obtain⟨i,oi,kq,aZ,cg⟩:=hex;rw[oS j i oi t (by omega) kq aZ cg]at hx;have hp:=bY i j oi o aZ ho kq;have tF:dq all oi o=true:=by simp only[dq,cg];simpa using ht
   simp only[br,tF,aap,aaq]at hp;have hb:((a7 all.toList []).getD j 0).testBit i=true:=by simpa using hp.2
   exact hD.fP i oi t x aZ (ck i hb) cg hx
  ·rw[oR j t (by omega) (fun i oi kq aZ cg=>hex ⟨i,oi,kq,aZ,cg⟩)]at hx;refine hD.fQ t x (fun i oi aZ bC cg=>?_) hx;rcases Zq i j with h|h|h
   ·exact hex ⟨i,oi,h,aZ,cg⟩
   ·subst h;rw[mQ]at bC;simp at bC
   ·have hp:=bY j i o oi ho aZ h;have tF:dq all oi o=true:=by simp only[dq,cg];simpa using ht
    have hb:=bV i oi aZ bC;simp only[br,tF,hb,aap,aaq]at hp;simp at hp
 let cM:=(σ j).fr.filter fun p=>(o.looksAt all).contains p.1
 have mD:∀t,look cM t=if(o.looksAt all).contains t then look (σ j).fr t else none:=fun t=>eP (fun t=>(o.looksAt all).contains t) (σ j).fr t
 have hS:∀(V:List (List CV)),ia g w ⟨cM,V,(σ k0).A⟩ a:=fun V t x hx=>by
  simp only[mD]at hx;split at hx
  ·rename_i hc;exact jr t (by simpa using hc) x hx
  ·cases hx
 have gu:∀(V V':List (List CV)) (A A':List bu),∀x∈o.op.operands.toList,bE ⟨cM,V,A⟩ x=bE ⟨(σ j).fr,V',A'⟩ x:=fun V V' A A' x hx=>by
  cases x with
  |tmp t=>
   simp only[bE,mD];rw[if_pos];simp only[Oper.looksAt,aae,decide_eq_true_eq,ZC,Z1];exact .inl ⟨.tmp t,hx,rfl⟩
  |_=>rfl
 have gD:Rp n w g ⟨cM,(σ k0).V,(σ k0).A⟩ g a w:=⟨hD.inv,hD.fr,hD.size,hD.defers,hS _⟩;have ll:Region.wanted o (yielded all a.tmps)=true:=by simp[Region.wanted,LN j o ho]
 have bN:∀i,(ae.setIfInBounds j true)[i]? =if i=j then some true else ae[i]? :=fun i=>by
  by_cases e:i=j
  ·subst e;simp[iZ]
  ·rw[if_neg e,aai (fun h=>e h.symm)]
 have cJ:∀(σ':Nat->St) (k1:Nat) (x:AV) (v:Value) (w':World) (g':Gh),(∀i,i<=c->σ' i=σ i)->look (σ' (j+1)).fr=look ((σ j).put o.dst x [] []).fr->aV g' w' (σ k1).A x v->Inv g' w' (σ k1).V (σ k1).A->Ext g w (σ k0).A g' w' (σ k1).A->AZ w' g'->k1<=c->
   (∀i∈ws,i<all.size->((ae.setIfInBounds j true)[i]? =some true↔i<k1))->DS all ws σ' n w' g' (ae.setIfInBounds j true) k1 g' (a.put o.dst v) w':=by
  intro σ' k1 x v w' g' hσ CN yy hI hx hF hk Fw;have iH:∀t u,o.dst≠some t->a.tmps[t]? =some u->(a.put o.dst v).tmps[t]? =some u:=fun t u dc hu=>by
   cases rI:o.dst with
   |none=>exact hu
   |some d=>
    simp only[Act.put];rw[aai (fun e=>dc (by rw[rI,e]))];exact hu
  refine⟨by rw[hσ k1 hk];exact hI,.refl hF,?_,?_,by simp[hD.ey],fun i oi t y aZ bC cg hy=>?_,fun t y fe hy=>?_,Fw,by omega,fun i oi aZ bC e he hb=>?_⟩
  ·cases o.dst<;>simp[Act.put,hD.size]
  ·cases o.dst<;>simp[Act.put,hD.defers]
  ·rw[hσ k1 hk];rw[bN]at bC;by_cases e:i=j
   ·subst e;obtain rfl:o=oi:=by rw[ho]at aZ;exact Option.some.inj aZ
    rw[CN]at hy;simp only[St.put,cg,look,if_true]at hy;cases hy
    refine⟨v,?_,yy⟩;have:t<a.tmps.size:=by rw[hD.size];exact z8 i o t ho cg
    simp[Act.put,cg,this]
   ·rw[if_neg e]at bC;rw[hσ (i+1) (nC i bC)]at hy;obtain⟨u,h1,h2⟩:=hD.fP i oi t y aZ bC cg hy;exact⟨u,iH t u (fun h=>e (q0 i j oi o t aZ ho cg h)) h1,aV.ext hx h2⟩
  ·rw[hσ k1 hk];rw[hσ 0 (Zp _)]at hy;have dc:o.dst≠some t:=fe j o ho (by rw[bN,if_pos rfl]);obtain⟨u,h1,h2⟩:=hD.fQ t y (fun i oi aZ bC=>fe i oi aZ (by
    rw[bN];by_cases e:i=j
    ·rw[if_pos e]
    ·rw[if_neg e];exact bC)) hy
   exact⟨u,iH t u dc h1,aV.ext hx h2⟩
  ·rw[bN]at bC⊢;have:ae[e.on]? =some true:=by
    by_cases e':i=j
    ·subst e';obtain rfl:o=oi:=by rw[ho]at aZ;exact Option.some.inj aZ
     exact cn e he hb
    ·rw[if_neg e']at bC;exact hD.closed i oi aZ bC e he hb
   by_cases e':e.on=j
   ·rw[if_pos e']
   ·rw[if_neg e'];exact this
 have gN:j∉ws->∀i∈ws,i<all.size->((ae.setIfInBounds j true)[i]? =some true↔i<k0):=fun ef i hi bZ=>by
  rw[bN,if_neg (fun e=>ef (by rw[<-e];exact hi))];exact hD.dY i hi bZ
 have kM:cL o.op=false->(σ j).V=(σ k0).V/\(σ j).A=(σ k0).A:=by
  intro fx;rcases Zx j k0 with h|h
  ·have:=tE k0 j h gx (fun i h1 h2 h3=>by
    have bZ:i<all.size:=by omega
    have bC:=(hD.dY i h3 bZ).2 h2;have aZ:all[i]? =some all[i]:=aag bZ;rcases Zs j i with h4|h4
    ·have hp:=bY j i o _ ho aZ h4;have hb:=bV i _ aZ bC;simp only[br,hb,aap,aaq]at hp;simp[h3,fx,-cL]at hp
    ·obtain rfl:i=j:=by omega
     rw[mQ]at bC;simp at bC)
   exact⟨this.1.symm,this.2.symm⟩
  ·exact tE j k0 h EG (fun i h1 h2 h3=>by
    have bZ:i<all.size:=by omega
    have aZ:all[i]? =some all[i]:=aag bZ;have hp:=bY i j _ o aZ ho h2;simp only[br,aap,aaq]at hp;have hb:((a7 all.toList []).getD j 0).testBit i=true:=by
     rcases hp.2 with h4|h4
     ·simp[h3,fx,-cL]at h4
     ·exact h4
    have:=(hD.dY i h3 bZ).1 (ck i hb);omega)
 unfold wpOp;simp only[ho];rw[if_pos ll];refine⟨fun lN kn ih=>.inl ?_,fun lN fx ef hJ K ic ih=>.inl ?_⟩
 ·obtain⟨x,V,A,h2,h3⟩:=kn;have oV:look (σ (j+1)).fr=look ((σ j).put o.dst x [] []).fr:=by rw[h2];rfl
  by_cases hs:cL o.op=true
  ·-- slots alone
   have ef:j∉ws:=fun h=>by have:=uX j o ho h;rw[hs]at this;simp at this
   have h4:bH P ⟨cM,(σ k0).V,(σ k0).A⟩ (ow j) o (fun y V' A'=>y=x/\V'=(σ k0).V/\A'=(σ k0).A):=nE (s:=σ j) (s':=⟨cM,(σ k0).V,(σ k0).A⟩) hs (gu _ _ _ _) h3 ⟨rfl,rfl,rfl⟩;obtain⟨y,V',A',⟨rfl,rfl,rfl⟩,h5⟩:=db gD.inv gD.fr gD.slot h4;exact h5 _ _ fun v w' g' h6 h7 h8 h9=>ih k0 v g' w' gx (cJ σ k0 y v w' g' (fun _ _=>rfl) oV h6 h7 h8 h9.now gx (gN ef)) h9
  ·have fx:cL o.op=false:=by simpa[-cL]using hs
   obtain⟨kC,gY⟩:=kM fx;have h4:bH P ⟨cM,(σ k0).V,(σ k0).A⟩ (ow j) o (fun y V' A'=>y=x/\V'=V/\A'=A):=by
    rw[<-kC,<-gY];exact dX (fr:=(σ j).fr) (gu _ _ _ _) (h3 _ ⟨rfl,rfl,rfl⟩)
   obtain⟨y,V',A',⟨rfl,rfl,rfl⟩,h5⟩:=db gD.inv gD.fr gD.slot h4;have s8:(σ (j+1)).V=V':=by rw[h2];rfl
   have iW:(σ (j+1)).A=A':=by rw[h2];rfl
   by_cases ef:j∈ws
   ·refine h5 _ _ fun v w' g' h6 h7 h8 h9=>ih (j+1) v g' w' lN (cJ σ (j+1) y v w' g' (fun _ _=>rfl) oV (by rw[iW];exact h6) (by rw[s8,iW];exact h7) (by rw[iW];exact h8) h9.now lN (fun i hi bZ=>?_)) h9
    have aZ:all[i]? =some all[i]:=aag bZ;rw[bN];by_cases e:i=j
    ·subst e;simp
    ·rw[if_neg e];constructor
     ·intro bC;rcases Zs j i with h|h
      ·have hp:=bY j i o _ ho aZ h;have hb:=bV i _ aZ bC;simp only[br,hb,aap,aaq]at hp;simp[hi,fx,-cL]at hp
      ·omega
     ·intro az;have hp:=bY i j _ o aZ ho (by omega);simp only[br,aap,aaq]at hp;rcases hp.2 with h|h
      ·simp[hi,fx,-cL]at h
      ·exact ck i h
   ·obtain⟨x2,V2,A2,q1,q2⟩:=hT.tr j o lN ho;rcases q2 with q2|⟨q2,q3⟩
    ·exact absurd q2 ef
    have pZ:(σ (j+1)).V=(σ j).V:=by rw[q1];exact q2
    have mC:(σ (j+1)).A=(σ j).A:=by rw[q1];exact q3
    refine h5 _ _ fun v w' g' h6 h7 h8 h9=>ih k0 v g' w' gx (cJ σ k0 y v w' g' (fun _ _=>rfl) oV ?_ ?_ ?_ h9.now gx (gN ef)) h9
    ·rw[<-gY,<-mC,iW];exact h6
    ·rw[<-kC,<-gY,<-pZ,<-mC,s8,iW];exact h7
    ·have e1:(σ k0).A=A':=by rw[<-gY,<-mC,iW]
     rw[e1]at h8⊢;exact h8
 ·-- the call
  subst lN;have Og:rh n w0 g0 X ⟨cM,(σ k0).V,(σ k0).A⟩ L S g a w:=⟨hD.inv,hJ.fr,hD.size,hD.defers,hS _,hJ.nq,hJ.nd,hJ.out⟩;obtain⟨kC,gY⟩:=kM fx;refine qg Og (pK (s:=σ j) (ow:=ow j) (gu _ _ _ _) ic) _ _ ?_;rintro x V' A' L' S' v w' g' ⟨rfl,rfl,hk⟩ h6 h7 h8 h9 cE ev fM;refine ih x L' S' v g' w' hk (fun σ' hσ hn=>cJ σ' k0 x v w' g' hσ (by rw[hn];rfl) h6 h7 h8 h9.now gx (gN ef)) ⟨h9,cE,ev,fM⟩
theorem zu (hd:ej all ws=true) {σ:Nat->St} (hT:FX all ws σ all.size) {ae:Array Bool} {k0:Nat} (hD:DS all ws σ n w g ae k0 g a w) (df:∀i,i<all.size->ae[i]? =some true) (hJ:Jb w0 g0 X L S g w):rh n w0 g0 X (σ all.size) L S g a w:=by
 simp only[ej,aap,ZA]at hd;obtain⟨⟨hP,jm⟩,oX⟩:=hd;have cQ:∀(j:Nat) o,all[j]? =some o->(o,j)∈all.toList.zipIdx:=fun j o h=>by
  rw[ZH];exact⟨j,by simp[ZI,h]⟩
 have cZ:∀(j:Nat) o,all[j]? =some o->∀e∈o.after,Region.binds .any e=true->e.on<j:=fun j o h e he hb=>by
  have:=hP _ (cQ j o h) e (aah.2 he);simpa[hb]using this
 have bY:∀(i j:Nat) oi oj,all[i]? =some oi->all[j]? =some oj->i<j->br all ws (a7 all.toList []) oi oj i j=true:=fun i j oi oj h1 h2 az=>by
  have:=jm _ (cQ j oj h2) _ (cQ i oi h1);simpa[az]using this
 have uX:∀(j:Nat) o,all[j]? =some o->j∈ws->cL o.op=false:=fun j o h hj=>by
  have:=oX _ (cQ j o h);simpa[hj]using this
 have fG:∀(i j:Nat) oi oj d,all[i]? =some oi->all[j]? =some oj->i<j->oi.dst=some d->oj.dst≠some d:=fun i j oi oj d h1 h2 az h3 h4=>by
  have:=bY i j oi oj h1 h2 az;simp[br,h3,h4]at this
 have q0:∀(i j:Nat) oi oj d,all[i]? =some oi->all[j]? =some oj->oi.dst=some d->oj.dst=some d->i=j:=fun i j oi oj d h1 h2 h3 h4=>by
  rcases Zq i j with h|h|h
  ·exact absurd h4 (fG i j oi oj d h1 h2 h h3)
  ·exact h
  ·exact absurd h3 (fG j i oj oi d h2 h1 h h4)
 have kM:=hT.VA all.size k0 hD.nF (Zo _) (fun i h1 h2 h3=>by have:=(hD.dY i h3 h2).1 (df i h2);omega);refine⟨by rw[kM.1,kM.2];exact hD.inv,hJ.fr,hD.size,hD.defers,fun t x hx=>?_,hJ.nq,hJ.nd,hJ.out⟩;rw[kM.2];by_cases hex:∃(i:Nat) (o:Oper),all[i]? =some o/\o.dst=some t
 ·obtain⟨i,o,ho,cg⟩:=hex;have hi:=(aaf.1 ho).1;rw[hT.Of q0 all.size i o t (Zo _) hi ho cg]at hx;exact hD.fP i o t x ho (df i hi) cg hx
 ·rw[hT.Oe all.size t (Zo _) (fun i o _ ho cg=>hex ⟨i,o,ho,cg⟩)]at hx;exact hD.fQ t x (fun i o ho _ cg=>hex ⟨i,o,ho,cg⟩) hx
def kT (all:Array Oper) (ws cs:List Nat):Bool:=
 let l:=all.toList.zipIdx
 let ms:=a7 all.toList []
 (cs.all fun c=> !ws.contains c && l.all fun(_,j)=> !(decide (c<j))||(ms.getD j 0).testBit c)&&(l.all fun(o,_)=>o.guard.isNone)&&(l.all fun(o,j)=> !cs.contains j|| !cL o.op)
theorem BX {cs:List Nat} {ow:Nat->Bool} {K:St->Ts->Prop} {Q:Exit->Act->World->Prop} (hd:ej all ws=true) (hc:kT all ws cs=true) (eT:c7 n all.toList=true)
  (hQ:∀s' L' S' g' a' w',K s' L'->rh n w0 g0 X s' L' S' g' a' w'->Q .normal a' w'):
  ∀(fuel:Nat) (σ:Nat->St) (c:Nat) (L:Ts) (S:List Nat) (ae:Array Bool) (k0:Nat) (g:Gh) (a:Act) (w:World),((Zz all.size).filter fun i=> !ae.getD i true).length<=fuel->FX all ws σ c->k0<=c->
   (∀(j:Nat) o,j<c->all[j]? =some o->ae[j]? ≠some true->JS P (ow j) o (σ j) (σ (j+1)))->(∀i,ae[i]? =some true->i<c)->
   ((c=all.size/\K (σ c) L)\/(c∈cs/\∃o,all[c]? =some o/\b9 P (σ c) L o fun x L'=>qM P ow ws cs K (c+1) (all.toList.drop (c+1)) ((σ c).put o.dst x (σ c).V (σ c).A) L'))->
   DS all ws σ n w g ae k0 g a w->Jb w0 g0 X L S g w->wpAny P .any all Q fuel ae a w:=by
 have I9:=hd;simp only[ej,aap,ZA]at hd;obtain⟨⟨hP,jm⟩,oX⟩:=hd;have cQ:∀(j:Nat) o,all[j]? =some o->(o,j)∈all.toList.zipIdx:=fun j o h=>by
  rw[ZH];exact⟨j,by simp[ZI,h]⟩
 have cZ:∀(j:Nat) o,all[j]? =some o->∀e∈o.after,Region.binds .any e=true->e.on<j:=fun j o h e he hb=>by
  have:=hP _ (cQ j o h) e (aah.2 he);simpa[hb]using this
 have bY:∀(i j:Nat) oi oj,all[i]? =some oi->all[j]? =some oj->i<j->br all ws (a7 all.toList []) oi oj i j=true:=fun i j oi oj h1 h2 az=>by
  have:=jm _ (cQ j oj h2) _ (cQ i oi h1);simpa[az]using this
 have uX:∀(j:Nat) o,all[j]? =some o->j∈ws->cL o.op=false:=fun j o h hj=>by
  have:=oX _ (cQ j o h);simpa[hj]using this
 have fG:∀(i j:Nat) oi oj d,all[i]? =some oi->all[j]? =some oj->i<j->oi.dst=some d->oj.dst≠some d:=fun i j oi oj d h1 h2 az h3 h4=>by
  have:=bY i j oi oj h1 h2 az;simp[br,h3,h4]at this
 have q0:∀(i j:Nat) oi oj d,all[i]? =some oi->all[j]? =some oj->oi.dst=some d->oj.dst=some d->i=j:=fun i j oi oj d h1 h2 h3 h4=>by
  rcases Zq i j with h|h|h
  ·exact absurd h4 (fG i j oi oj d h1 h2 h h3)
  ·exact h
  ·exact absurd h3 (fG j i oj oi d h2 h1 h h4)
 simp only[kT,aap,ZA]at hc;obtain⟨⟨uO,Fp⟩,Oh⟩:=hc;have LN:∀(j:Nat) o,all[j]? =some o->o.guard=none:=fun j o h=>by
  have:=Fp _ (cQ j o h);simpa using this
 have JT:∀c∈cs,c∉ws:=fun c h=>by simpa using(uO c h).1
 have Oi:∀c∈cs,∀o,all[c]? =some o->cL o.op=false:=fun c h o ho=>by
  have:=Oh _ (cQ c o ho);simpa[h,-cL]using this
 have Oj:∀c∈cs,∀(j:Nat) o,all[j]? =some o->c<j->((a7 all.toList []).getD j 0).testBit c=true:=fun c h j o ho az=>by
  have:=(uO c h).2 _ (cQ j o ho);simpa[az]using this
 have pE:∀{ae:Array Bool},Region.ready .any all ae=[]->ae.size=all.size->∀i,i<all.size->ae[i]? =some true:=by
  intro ae hr vO i;induction i using Zu with
  |_ i ih=>
   intro hi;have ho:all[i]? =some all[i]:=aag hi;have bC:i<ae.size:=by omega
   cases hl:ae[i]with
   |true=>rw[aag bC,hl]
   |false=>
    exfalso
    have:i∈Region.ready .any all ae:=mem_ready.2 ⟨by simp[bC,hl],_,ho,fun e he hb=>cy.2 (ih e.on (cZ i _ ho e he hb) (by have:=cZ i _ ho e he hb;omega))⟩;rw[hr]at this;simp at this
 have lJ:∀{σ:Nat->St} {c:Nat} {L:Ts} {S:List Nat} {ae:Array Bool} {k0:Nat} {g:Gh} {a:Act} {w:World},FX all ws σ c->(∀i,ae[i]? =some true->i<c)->
   ((c=all.size/\K (σ c) L)\/(c∈cs/\∃o,all[c]? =some o/\b9 P (σ c) L o fun x L'=>qM P ow ws cs K (c+1) (all.toList.drop (c+1)) ((σ c).put o.dst x (σ c).V (σ c).A) L'))->
   DS all ws σ n w g ae k0 g a w->Jb w0 g0 X L S g w->Region.ready .any all ae=[]->Q .normal a w:=by
  intro σ c L S ae k0 g a w hT nC hK hD hJ hr;have df:=pE hr hD.ey;rcases hK with⟨rfl,hK⟩|⟨pH,o,ho,_⟩
  ·exact hQ _ _ _ _ _ _ hK (zu I9 hT hD df hJ)
  ·have bZ:=(aaf.1 ho).1;have:=nC c (df c bZ);omega
 intro fuel;induction fuel with
 |zero=>
  intro σ c L S ae k0 g a w hf hT gx rl nC hK hD hJ;have lL:Region.ready .any all ae=[]:=by
   have h0:((Zz all.size).filter fun i=> !ae.getD i true)=[]:=aab (by omega);rcases hr:Region.ready .any all ae with _|⟨j,r⟩
   ·rfl
   ·have hj:j∈Region.ready .any all ae:=by rw[hr];simp
    obtain⟨h1,o,h2,_⟩:=mem_ready.1 hj;have:j∈((Zz all.size).filter fun i=> !ae.getD i true):=by
     rw[Z2,ZG];exact⟨(aaf.1 h2).1,by simp[h1]⟩
    rw[h0]at this;simp at this
  exact⟨lL,lJ hT nC hK hD hJ lL⟩
 |succ fuel ih=>
  intro σ c L S ae k0 g a w hf hT gx rl nC hK hD hJ;refine⟨fun hr=>lJ hT nC hK hD hJ hr,fun j hj=>?_⟩;obtain⟨mP,o,ho,cz⟩:=mem_ready.1 hj;have mQ:=dZ mP;have rK:j<all.size:=(aaf.1 ho).1;have iZ:j<ae.size:=by rw[hD.ey];exact rK
  have cn:∀e∈o.after,Region.binds .any e=true->ae[e.on]? =some true:=fun e he hb=>cy.1 (cz e he hb)
  have bN:∀i,(ae.setIfInBounds j true)[i]? =if i=j then some true else ae[i]? :=fun i=>by
   by_cases e:i=j
   ·subst e;simp[iZ]
   ·rw[if_neg e,aai (fun h=>e h.symm)]
  have cW:((Zz all.size).filter fun i=> !(ae.setIfInBounds j true).getD i true).length<=fuel:=by
   have az:((Zz all.size).filter fun i=> !(ae.setIfInBounds j true).getD i true).length<((Zz all.size).filter fun i=> !ae.getD i true).length:=by
    have gq:∀i,(!(ae.setIfInBounds j true).getD i true)=true->(!ae.getD i true)=true:=fun i h=>by
     by_cases e:i=j
     ·subst e;simp[iZ]at h
     ·have:(ae.setIfInBounds j true).getD i true=ae.getD i true:=by
       simp only[aak,bN,if_neg e]
      rwa[this]at h
    exact filter_lt gq (ZG.2 rK) (by simp[mP]) (by simp[iZ])
   omega
  have EG:j<=c:=by
   rcases hK with⟨rfl,_⟩|⟨pH,oc,EH,_⟩
   ·omega
   ·rcases Zs c j with h|h
    ·have:=nC c (nP cZ hD.closed j o ho cn c (Oj c pH j o ho h));omega
    ·exact h
  obtain⟨one1,one2⟩:=FY (cs:=cs) (w0:=w0) (g0:=g0) (X:=X) (L:=L) (S:=S) (ow:=ow) I9 LN eT hT hD gx nC hj EG ho (next:=wpAny P .any all Q fuel (ae.setIfInBounds j true)) (Q:=Q);rcases Zw EG with az|rfl
  ·refine one1 az (rl j o az ho (by rw[mQ];simp)) fun k1 v g' w' oD JG hF=>ih σ c L S _ k1 g' _ w' cW hT oD (fun i oi hi aZ bC=>rl i oi hi aZ fun h=>bC ?_) (fun i hi=>?_) hK JG (hJ.cM hF)
   ·rw[bN];by_cases e:i=j
    ·rw[if_pos e]
    ·rw[if_neg e];exact h
   ·rw[bN]at hi;by_cases e:i=j
    ·subst e;exact az
    ·rw[if_neg e]at hi;exact nC i hi
  ·rcases hK with⟨h,_⟩|⟨pH,oc,EH,ic⟩
   ·omega
   obtain rfl:o=oc:=by rw[ho]at EH;exact Option.some.inj EH
   refine one2 rfl (Oi j pH o ho) (JT j pH) hJ _ ic fun x L' S' v g' w' hk Ok Ol=>?_
   obtain⟨τ,m,k1,k2,k3,k4⟩:=pL _ _ _ _ hk;have hlen:(all.toList.drop (j+1)).length=all.size-(j+1):=by simp
   let σ':Nat->St:=fun i=>if i<=j then σ i else τ (i-(j+1))
   have e1:∀i,i<=j->σ' i=σ i:=fun i hi=>by simp only[σ',if_pos hi]
   have e2:∀i,σ' (j+1+i)=τ i:=fun i=>by simp only[σ',if_neg (show¬j+1+i<=j by omega)];congr 1;omega
   have e3:∀i,(all.toList.drop (j+1))[i]? =all[j+1+i]? :=fun i=>by simp
   have j3:σ' (j+1)=(σ j).put o.dst x (σ j).V (σ j).A:=by rw[<-k2];exact e2 0
   refine ih σ' (j+1+m) L' S' _ k0 g' _ w' cW ⟨by omega,fun i oi hi aZ=>?_⟩ (by omega) (fun i oi hi aZ bC=>?_) (fun i hi=>?_) ?_ (Ok σ' e1 j3) Ol
   ·rcases Zq i j with h|h|h
    ·rw[e1 i (by omega),e1 (i+1) (by omega)];exact hT.tr i oi h aZ
    ·subst h;obtain rfl:o=oi:=by rw[ho]at aZ;exact Option.some.inj aZ
     rw[e1 i (by omega),j3];exact⟨x,_,_,rfl,.inr ⟨rfl,rfl⟩⟩
    ·obtain⟨q,rfl⟩:∃q,i=j+1+q:=⟨i-(j+1),by omega⟩;rw[e2 q,show j+1+q+1=j+1+(q+1) by omega,e2 (q+1)];exact(k3 q oi (by omega) (by rw[e3];exact aZ)).2
   ·rw[bN]at bC;by_cases e:i=j
    ·rw[if_pos e]at bC;simp at bC
    ·rw[if_neg e]at bC;rcases Zs i j with h|h
     ·rw[e1 i (by omega),e1 (i+1) (by omega)];exact rl i oi h aZ bC
     ·obtain⟨q,rfl⟩:∃q,i=j+1+q:=⟨i-(j+1),by omega⟩;rw[e2 q,show j+1+q+1=j+1+(q+1) by omega,e2 (q+1)];exact(k3 q oi (by omega) (by rw[e3];exact aZ)).1
   ·rw[bN]at hi;by_cases e:i=j
    ·omega
    ·rw[if_neg e]at hi;have:=nC i hi;omega
   ·rcases k4 with⟨h1,h2⟩|⟨h1,oc,h2,h3⟩
    ·exact .inl ⟨by omega,by rw[e2];exact h2⟩
    ·refine .inr ⟨h1,oc,by rw[<-e3];exact h2,?_⟩;rw[e2];rw[aad,show j+1+(m+1)=j+1+m+1 by omega]at h3;exact h3
end
def eA (l:List Oper) (p:List Nat):List Oper:=p.map fun i=>l.getD i default
def iB (p:List Nat) (o:Oper):Oper:={o with after:=o.after.map fun e=>{e with on:=p.idxOf e.on}}
def bM (l:List Oper) (p:List Nat):List Oper:=(eA l p).map (iB p)
def kH (l:List Oper) (p:List Nat):Bool:=p.length==l.length && p.all (fun i=>decide (i<l.length))&&(Zz l.length).all (fun i=>p.contains i)&& l.all (fun o=>o.guard.isNone)&&(Zz p.length).all (fun j=>p.idxOf (p.getD j 0)==j)
section
variable {P:Program} {l:List Oper} {p:List Nat} {md:Region.Mode} {Q:Exit->Act->World->Prop}
theorem iQ (h:kH l p=true):p.length=l.length/\(∀i∈p,i<l.length)/\(∀i,i<l.length->i∈p)/\(∀o∈l,o.guard=none)/\∀j,j<p.length->p.idxOf (p.getD j 0)=j:=by
 simp only[kH,aap,ZA]at h;obtain⟨⟨⟨⟨h1,h2⟩,h3⟩,h4⟩,h5⟩:=h;refine⟨by simpa using h1,fun i hi=>by simpa using h2 i hi,fun i hi=>by simpa using h3 i (ZG.2 hi),fun o ho=>by simpa using h4 o ho,fun j hj=>by simpa using h5 j (ZG.2 hj)⟩
theorem dj:(bM l p).length=p.length:=by simp[bM,eA]
theorem xr (h:kH l p=true) {i:Nat} {o:Oper} (ho:l[i]? =some o):(bM l p)[p.idxOf i]? =some (iB p o):=by
 obtain⟨h1,h2,h3,h4,h5⟩:=iQ h;have hi:=(ZD.1 ho).1;have hx:p[p.idxOf i]? =some i:=by
  have az:=ZO (h3 i hi);rw[ZB az,ZW az]
 simp only[bM,eA,Z4,ZX,hx,aat,Function.comp];rw[aaa,ho];rfl
theorem kU (h:kH l p=true) {j:Nat} {o':Oper} (ho:(bM l p)[j]? =some o'):∃o,l[p.getD j 0]? =some o/\o'=iB p o/\p[j]? =some (p.getD j 0):=by
 obtain⟨h1,h2,h3,h4,h5⟩:=iQ h;have hj:j<p.length:=by have:=(ZD.1 ho).1;rwa[dj]at this
 have e:p.getD j 0=p[j]:=by simp[ZJ,hj]
 have az:=h2 p[j] (List.getElem_mem hj);simp only[bM,eA,Z4,ZX,ZB hj,aat,Function.comp,Option.some.injEq]at ho;refine⟨l[p[j]],by rw[e];exact ZB az,?_,by rw[e];exact ZB hj⟩;rw[<-ho,aaa,ZB az];rfl
theorem ma {α:Type} {l:Array α} {i:Nat} {d:α}:l.getD i d=(l[i]?).getD d:=aak
theorem rm (h:kH l p=true):∀(fuel:Nat) (ae listed':Array Bool) (a:Act) (w:World),ae.size=l.length->listed'.size=l.length->(∀i,listed'[p.idxOf i]? =ae[i]?)->wpAny P md (bM l p).toArray Q fuel listed' a w->wpAny P md l.toArray Q fuel ae a w:=by
 obtain⟨h1,h2,h3,h4,h5⟩:=iQ h;have hr:∀(ae listed':Array Bool),(∀i,listed'[p.idxOf i]? =ae[i]?)->∀j,j∈Region.ready md l.toArray ae->p.idxOf j∈Region.ready md (bM l p).toArray listed':=fun ae listed' xt j hj=>by
  obtain⟨q1,o,q2,q3⟩:=mem_ready.1 hj;refine mem_ready.2 ⟨by rw[ma,xt,<-ma];exact q1,iB p o,?_,fun e' he hb=>?_⟩
  ·have:=xr h (i:=j) (o:=o) (by simpa using q2);simpa using this
  ·simp only[iB,aam]at he;obtain⟨e,s7,rfl⟩:=he;have:=q3 e s7 hb;rw[ma,xt,<-ma];exact this
 have CX:∀(ae listed':Array Bool),(∀i,listed'[p.idxOf i]? =ae[i]?)->listed'.size=l.length->Region.ready md l.toArray ae=[]->Region.ready md (bM l p).toArray listed'=[]:=fun ae listed' xt eM hn=>by
  cases hx:Region.ready md (bM l p).toArray listed' with
  |nil=>rfl
  |cons j r=>
   exfalso
   have hj:j∈Region.ready md (bM l p).toArray listed':=by rw[hx];simp
   obtain⟨q1,o',q2,q3⟩:=mem_ready.1 hj;obtain⟨o,q4,rfl,q5⟩:=kU h (j:=j) (o':=o') (by simpa using q2);have UE:j<p.length:=(ZD.1 q5).1;have hi:=h5 j UE;have UF:listed'[j]? =ae[p.getD j 0]? :=by rw[<-xt,hi]
   have bZ:p.getD j 0∈Region.ready md l.toArray ae:=by
    refine mem_ready.2 ⟨by rw[ma,<-UF,<-ma];exact q1,o,by simpa using q4,fun e he hb=>?_⟩;have:=q3 {e with on:=p.idxOf e.on} (by simp only[iB,aam];exact⟨e,he,rfl⟩) hb;rw[ma,<-xt,<-ma];exact this
   rw[hn]at bZ;simp at bZ
 intro fuel;induction fuel with
 |zero=>
  intro ae listed' a w s1 s2 xt hh;refine⟨?_,hh.2⟩;cases hx:Region.ready md l.toArray ae with
  |nil=>rfl
  |cons j r=>
   have:=hr ae listed' xt j (by rw[hx];simp);rw[hh.1]at this;simp at this
 |succ fuel ih=>
  intro ae listed' a w s1 s2 xt hh;refine⟨fun h0=>hh.1 (CX ae listed' xt s2 h0),fun j hj=>?_⟩;have gu:=hh.2 _ (hr ae listed' xt j hj);obtain⟨q1,o,q2,q3⟩:=mem_ready.1 hj;have q2':l[j]? =some o:=by simpa using q2
  have rK:=(ZD.1 q2').1;have q4:(bM l p).toArray[p.idxOf j]? =some (iB p o):=by simpa using xr h q2'
  have Om:o.guard=none:=h4 o (ZM q2');have hK:∀a w,wpAny P md (bM l p).toArray Q fuel (listed'.setIfInBounds (p.idxOf j) true) a w->wpAny P md l.toArray Q fuel (ae.setIfInBounds j true) a w:=fun a w=>by
   refine ih _ _ a w (by simp[s1]) (by simp[s2]) fun i=>?_
   have az:=ZO (h3 j rK);rw[aan,aan];by_cases e:j=i
   ·subst e;rw[if_pos rfl,if_pos rfl,if_pos (by omega),if_pos (by omega)]
   ·rw[if_neg e,if_neg (fun e'=>?_),xt];have hx:p[p.idxOf j]? =some j:=by rw[ZB az,ZW az]
    have jc:p.idxOf i<p.length:=by omega
    have hy:p[p.idxOf i]? =some i:=by rw[ZB jc,ZW jc]
    rw[<-e',hx]at hy;exact e (Option.some.inj hy)
  unfold wpOp at gu⊢;simp only[q4]at gu;simp only[q2];rw[if_pos (by simp[Region.wanted,iB,Om])]at gu;rw[if_pos (by simp[Region.wanted,Om])];rcases gu with gu|⟨gu,hl⟩
  ·exact .inl (Oper.wp_mono hK gu)
  ·exact .inr ⟨gu,hl⟩
end
section
variable {P:Program} {n:Nat} {s s':St} {L L':Ts} {x y:Code} {ws cs:List Nat} {ow:Nat->Bool} {K:St->Ts->Prop}
theorem xu (p:List Nat):∀(ops:List Oper) (i:Nat) (s:St) (L:Ts),qM P ow ws cs K i ops s L->qM P ow ws cs K i (ops.map (iB p)) s L
 |[],_,_,_,h=>h
 |o::rest,i,s,L,h=>by
  rcases h with⟨h1,h2⟩|⟨h1,h2⟩
  ·exact .inl ⟨h1,qi (o:=o) (fun x L' h=>xu p rest _ _ _ h) h2⟩
  ·exact .inr ⟨h1,fV (o:=o) (fun x V A h=>⟨h.1,xu p rest _ _ _ h.2⟩) h2⟩
theorem TJ.sF {Q:Exit->St->Ts->Prop} {id:Nat} {l:List Oper} (hm:P.follows .mixedOrders=true) (p:List Nat) (ow:Nat->Bool) (ws cs:List Nat) (hp:kH l p=true) (hd:ej (bM l p).toArray ws=true) (hc:kT (bM l p).toArray ws cs=true)
  (h:qM P ow ws cs (fun s' L'=>Q .normal s' L') 0 (eA l p) s L):TJ P n (.region id l.toArray true) Q s L:=by
 obtain⟨p1,p2,p3,p4,p5⟩:=iQ hp;intro eK w0 g0 X S g a w hR;have Dy:c7 n (bM l p).toArray.toList=true:=by
  have hx:c7 n l=true:=by simpa[codeOk]using eK
  simp only[c7,ZA]at hx⊢;intro o' s4;obtain⟨j,hj⟩:=ZP s4;obtain⟨o,q1,rfl,_⟩:=kU hp (j:=j) (o':=o') (by simpa using hj);exact hx o (ZM q1)
 obtain⟨τ,m,k1,k2,k3,k4⟩:=pL (eA l p|>.map (iB p)) 0 s L (xu p _ _ _ _ h);obtain⟨hI,hx⟩:=hR.inv.heap (w':={w with drawn:=w.drawn+1}) rfl;have hF:Fr w g {w with drawn:=w.drawn+1} g:=(Fr.refl hR.fr.now).heap rfl rfl rfl rfl;have hJ:Jb w0 g0 X L S g {w with drawn:=w.drawn+1}:=(Jb.mk hR.fr hR.nq hR.nd hR.out).cM hF;have eM:(bM l p).toArray.size=l.length:=by simp[dj,p1]
 have wA:∀(i:Nat),(bM l p).toArray[i]? =(bM l p)[i]? :=fun i=>by simp
 refine wp_region_any hm (rm hp _ _ (aaj l.length false) a _ (by simp) (by simp) (fun i=>?_) (BX (K:=fun s' L'=>Q .normal s' L') (ow:=ow) hd hc Dy (fun s' L' S' g' a' w' h1 h2=>⟨s',g',L',S',h1,h2⟩) _ τ m L S _ 0 g a _ ?_ ?_ (Zp _) ?_ ?_ ?_ ?_ hJ))
 ·simp only[aao];by_cases hi:i<l.length
  ·have:=ZO (p3 i hi);rw[if_pos (by omega),if_pos (by simpa using hi)]
  ·have On:i∉p:=fun h=>hi (p2 i h)
   rw[if_neg (by rw[Z7 On];omega),if_neg (by simpa using hi)]
 ·refine Zt (Z6 _ _) (by simp[dj,p1])
 ·refine⟨by rw[eM,<-p1,<-dj (l:=l)];exact k1,fun j o hj ho=>?_⟩;have:=(k3 j o hj (by rw[wA]at ho;exact ho)).2;simpa only[Zr]using this
 ·intro j o hj ho _;have:=(k3 j o hj (by rw[wA]at ho;exact ho)).1;simpa only[Zr]using this
 ·intro i hi;have AU:=(aaf.1 hi).1;simp at AU;simp[AU]at hi
 ·rcases k4 with⟨h1,h2⟩|⟨h1,oc,h2,h3⟩
  ·exact .inl ⟨by rw[h1];simp[bM],h2⟩
  ·refine .inr ⟨by simpa using h1,oc,by rw[wA];exact h2,?_⟩;simp only[Zr]at h3;exact h3
 ·refine⟨by rw[k2];exact hI,.refl hF.now,hR.size,hR.defers,by simp[dj,p1],fun i o t x ho hl=>?_,fun t x _ gp=>?_,fun i _ bZ=>?_,Zp _,fun i o ho hl=>?_⟩
  ·have hi:=(aaf.1 hl).1;simp at hi;simp[hi]at hl
  ·rw[k2]at gp⊢;obtain⟨u,h1,h2⟩:=hR.slot t x gp;exact⟨u,h1,aV.ext hx h2⟩
  ·rw[eM]at bZ;simp[bZ]
  ·have hi:=(aaf.1 hl).1;simp at hi;simp[hi]at hl
structure vR (P:Program) (ow:Nat->Bool) (ws cs:List Nat) (K:St->Ts->Prop) (i:Nat) (ops:List Oper) (s:St) (L:Ts):Prop where
 mk::
 run:qM P ow ws cs K i ops s L
variable {i:Nat} {o:Oper} {rest:List Oper}
theorem BY (hi:cs.contains i=false) (h:bH P s (ow i) o fun x V A=>(i∈ws\/(V=s.V/\A=s.A))/\vR P ow ws cs K (i+1) rest (s.put o.dst x V A) L):vR P ow ws cs K i (o::rest) s L:=
 ⟨.inr ⟨by simpa using hi,fV (fun x V A h=>⟨h.1,h.2.run⟩) h⟩⟩
theorem xv (hi:cs.contains i=true) (h:b9 P s L o fun x L'=>vR P ow ws cs K (i+1) rest (s.put o.dst x s.V s.A) L'):vR P ow ws cs K i (o::rest) s L:=
 ⟨.inl ⟨by simpa using hi,qi (fun x L' h=>h.run) h⟩⟩
theorem zw (h:K s L):vR P ow ws cs K i [] s L:=⟨h⟩
theorem vR.gen {ops:List Oper} {d:Nat} {b:Bool} {fr:List (Nat×AV)} {V:List (List CV)} {A:List bu} (h:∀q:Bool,b=q->vR P ow ws cs K i ops ⟨(d,.c (.d (.bool q)))::fr,V,A⟩ L):vR P ow ws cs K i ops ⟨(d,.c (.d (.bool b)))::fr,V,A⟩ L:=h b rfl
@[congr] theorem LO {i i':Nat} {ops:List Oper} (hi:i=i') (h:s=s'):vR P ow ws cs K i ops s L=vR P ow ws cs K i' ops s' L:=by rw[h,hi]
@[congr] theorem JU {f:FuncId} {xs xs':List AV} {K:AV->Ts->Prop} (hx:xs=xs'):sE P L f xs K=sE P L f xs' K:=by subst hx;rfl
attribute [simp] b9
theorem TJ.UG {Q:Exit->St->Ts->Prop} {id:Nat} {l:List Oper} (hm:P.follows .mixedOrders=true) (p:List Nat) (ow:Nat->Bool) (ws cs:List Nat) (hp:kH l p=true) (hd:ej (bM l p).toArray ws=true) (hc:kT (bM l p).toArray ws cs=true)
  (h:∀K:St->Ts->Prop,(∀s' L',TJ P n y Q s' L'->K s' L')->vR P ow ws cs K 0 (eA l p) s L):TJ P n (.seq (.region id l.toArray true) y) Q s L:=
 TJ.seq (TJ.sF hm p ow ws cs hp hd hc (h _ fun _ _ h=>h).run)
theorem TJ.Rj {Q:Exit->St->Ts->Prop} {id:Nat} {l:List Oper} (hm:P.follows .mixedOrders=true) (p:List Nat) (ow:Nat->Bool) (ws cs:List Nat) (hp:kH l p=true) (hd:ej (bM l p).toArray ws=true) (hc:kT (bM l p).toArray ws cs=true)
  (h:∀K:St->Ts->Prop,(∀s' L',Q .normal s' L'->K s' L')->vR P ow ws cs K 0 (eA l p) s L):TJ P n (.region id l.toArray true) Q s L:=
 TJ.sF hm p ow ws cs hp hd hc (h _ fun _ _ h=>h).run
variable {f:FuncId} {xs as_:List AV} {r:AV} {K':AV->Ts->Prop}
theorem mb {R:AV->Ts->Prop} (FU:gR L xs as_) (hc:aR P f as_ [] R) (hK:∀r L1,R r L1->K' r (L1++L)):sE P L f xs K':=⟨as_,[],L,R,by simp,FU,hc,hK⟩
theorem da {R:AV->Ts->Prop} {L1 L2:Ts} (hp:L.Perm (L1++L2)) (FU:gR L2 xs as_) (hc:aR P f as_ L1 R) (hK:∀r L1,R r L1->K' r (L1++L2)):sE P L f xs K':=⟨as_,L1,L2,R,hp,FU,hc,hK⟩
end
end Go.Av
namespace Go.Av
attribute [-simp] Go.Av.b9
open Go
section
variable {P:Program} {f:FuncId} {as_:List AV} {L:Ts} {R R':AV->Ts->Prop}
theorem oK.ret {n:Nat} {y:Code} {Q:Exit->St->Ts->Prop} {s:St} (h:Q .ret s L):oK P n y Q .ret s L:=h
theorem fi.ret {id:Nat} {Q:Exit->St->Ts->Prop} {s:St} (h:Q .ret s L):fi id Q .ret s L:=h
theorem bt.LP {fn:Func} {R:AV->Ts->Prop} {e:Exit} {s:St} {L Lc L2:Ts} {k n:Nat} {a:bu} {cs:List GC} {rs:List AV} {rs':Value->List AV} (he:e=.normal\/e=.ret) (hr:e8 P s fn.results.toList=some rs) (hA:s.A[k]? =some a) (hw:a.wr=true) (hn:n=a.rows.length)
  (HS:Mk cs a.rows.flatten Lc) (hp:L.Perm (Lc++L2)) (hs:∀v,cT (some (k,n,v)) rs=some (rs' v)) (hR:∀v,∃L' M,((.t a.eJ a.sz n cs,v)::L2).Perm (L'++M)/\R (one (rs' v)) L'):bt P fn R e s L:=by
 subst hn;exact⟨he,rs,hr,.inr ⟨k,a,cs,Lc,L2,[],hA,hw,HS,hp,.nil,fun v=>by
  obtain⟨L',M,h1,h2⟩:=hR v;exact⟨rs' v,L',M,hs v,by simpa using h1,h2⟩⟩⟩
end
end Go.Av
namespace Go.Av
attribute [-simp] Go.Av.cb Go.Av.eL Go.Av.fj Go.Av.fa Go.Av.cT Go.Av.b9
open Go
mutual
def BZ (et em:TypeId):ao->List GC
 |.mk k s n t f b l=>[.d (.i k),.d (.str s),.d (.i n),.d (.i t.kind),iP et t.kids,.d (.i f.kind),iP et f.kids,.d (.i b),.t em 9 l.length (iC et em l)]
def iC (et em:TypeId):List ao->List GC
 |[]=>[]
 |t::r=>BZ et em t++iC et em r
end
def Dz (et em:TypeId) (l:List ao):GC:=.t em 9 l.length (iC et em l)
theorem ua (et em:TypeId) (e:ao):BZ et em e=[.d (.i e.kind),.d (.str e.name),.d (.i e.num),.d (.i e.ty.kind),iP et e.ty.kids,.d (.i e.fr.kind),iP et e.fr.kids,.d (.i e.label),Dz et em e.kids]:=by cases e;simp[BZ,Dz]
mutual
theorem HY (et em:TypeId):∀(t:ao),yM (BZ et em t)=gA t
 |.mk k s n t f b l=>by
  have:=ub et em l;rw[ua,ax];simp only[yM,GC.dv,HV,Dz,ao.b4,ao.lX,ao.q7,ao.sd,ao.se,ao.lp,ao.bQ,this]
theorem ub (et em:TypeId):∀(l:List ao),chunks 9 l.length (yM (iC et em l))=l.map gA
 |[]=>rfl
 |t::r=>by
  have h1:=HY et em t;have h2:=ub et em r;rw[iC,rj,h1,ZN,vm _ (by rw[ax];rfl),h2,ZS]
end
theorem LQ (et em:TypeId) (l:List ao):(Dz et em l).dv=.sl (l.map gA):=by
 simp only[Dz,GC.dv,ub]
mutual
theorem HZ (et em:TypeId):∀(t:ao),BR (BZ et em t)=true
 |.mk k s n t f b l=>by
  have:=ud et em l;rw[ua];simp only[BR,GC.pl,(kG et _).2,Dz,ao.bQ,ao.sd,ao.se,this,aar]
theorem ud (et em:TypeId):∀(l:List ao),BR (iC et em l)=true
 |[]=>rfl
 |t::r=>by rw[iC,rk,HZ et em t,ud et em r];rfl
end
theorem nU (et em:TypeId) (l:List ao):(Dz et em l).dv=.sl (l.map gA)/\(Dz et em l).pl=true:=⟨LQ et em l,by simp only[Dz,GC.pl,ud]⟩
abbrev V3:=Value×Value×Value
abbrev An (e:ao) (v:V3):List DV:=[.i e.kind,.str e.name,.i e.num,.i e.ty.kind,.raw v.1,.i e.fr.kind,.raw v.2.1,.i e.label,.raw v.2.2]
abbrev vS (et em:TypeId) (e:ao) (v:V3):Ts:=[(iP et e.ty.kids,v.1),(iP et e.fr.kids,v.2.1),(Dz et em e.kids,v.2.2)]
def yP (et em:TypeId) (l:List ao) (vs:List V3):Ts:=(ZF (vS et em) l vs).flatten
theorem H0 (et em:TypeId) (l:List ao):yP et em l []=[]:=by simp[yP]
theorem FZ (et em:TypeId) (e:ao) (l:List ao) (v:V3) (vs:List V3):yP et em (e::l) (v::vs)=vS et em e v++yP et em l vs:=rfl
theorem zx (et em:TypeId):∀{l:List ao} {vs:List V3},vs.length=l.length->Mk (iC et em l) (ZF An l vs).flatten (yP et em l vs)
 |[],[],_=>.nil
 |t::r,v::vs,h=>by
  rw[iC,ua,FZ];exact .d rfl (.d rfl (.d rfl (.d rfl (.t (.d rfl (.t (.d rfl (.t (zx et em (by simpa using h))))))))))
theorem F0 (et em:TypeId) {l:List ao} {vs:List V3} {a:ao} (h:l[vs.length]? =some a) (v:V3):yP et em l (vs++[v])=yP et em l vs++vS et em a v:=by
 obtain⟨h1,h2⟩:=ZD.1 h;have hl:l=l.take vs.length++a::l.drop (vs.length+1):=by rw[<-h2,<-aac h1,ZL]
 have ht:(l.take vs.length).length=vs.length:=by rw[ZT];omega
 generalize l.take vs.length=A at hl ht;generalize l.drop (vs.length+1)=B at hl;subst hl;have e:ZF (vS et em) (A++a::B) (vs++[])=ZF (vS et em) A vs:=by rw[ZZ ht];simp
 rw[ZR]at e;rw[yP,yP,e,ZZ ht];simp
end Go.Av
namespace Go.Av
open Go
section
variable {P:Program} {m:Nat} {c:Code} {Q:Exit->St->Ts->Prop} {s:St} {L L2:Ts} {g:Gh} {w:World} {V:List (List CV)} {A:List bu}
end
section
variable {P:Program} {n:Nat} {w0 w w':World} {g0 g g':Gh} {X S S':List Nat} {s s':St} {L L':Ts} {a a':Act} {x y:Code} {all:Array Oper} {ws fs cs:List Nat} {m:Nat} {ex:List Nat} {V0:List (List CV)} {A0:List bu}
def kV (all:Array Oper) (ws fs:List Nat) (m:Nat) (cs:List Nat) (ms:List Nat) (oi oj:Oper) (i j:Nat):Bool:=
 if cs.contains i||cs.contains j then(oi.dst.isNone||oi.dst !=oj.dst)&&((!dq all oi oj && !dq all oj oi)||(ms.getD j 0).testBit i)else cC all ws fs m ms oi oj i j
def mc (all:Array Oper) (ws fs:List Nat) (m:Nat) (cs:List Nat):Bool:=
 let l:=all.toList.zipIdx
 let ms:=a7 all.toList []
 (l.all fun(o,j)=>o.after.toList.all fun e=> !Region.binds .any e||decide (e.on<j))&&
 (l.all fun(oj,j)=>l.all fun(oi,i)=> !(decide (i<j))||kV all ws fs m cs ms oi oj i j)&&
 (l.all fun(o,j)=> !ws.contains j|| !cL o.op)&&(fs.all fun j=> !ws.contains j)&&(fs.all fun j=>ws.all fun i=>decide (i<m)||decide (j<i))
def qN (P:Program) (ow:Nat->Bool) (ws fs:List Nat) (m:Nat) (ex:List Nat) (V0:List (List CV)) (A0:List bu) (cs:List Nat) (K:St->Ts->Prop):Nat->List Oper->St->Ts->Prop
 |_,[],s,L=>K s L
 |i,o::rest,s,L=>(i∈cs/\b9 P s L o fun x L'=>qN P ow ws fs m ex V0 A0 cs K (i+1) rest (s.put o.dst x s.V s.A) L')\/
   (i∉cs/\bH P s (ow i) o fun x V A=>(i∈ws\/(V=s.V/\A=s.A))/\(i∈ws->i<m->V.take V0.length=rN ex (fun i=>V.getD i []) V0/\A.take A0.length=A0)/\(i∈fs->dw P s (ow i) o ex V0 A0 x)/\qN P ow ws fs m ex V0 A0 cs K (i+1) rest (s.put o.dst x V A) L)
def LR (P:Program) (ow:Bool) (fs:List Nat) (j:Nat) (ex:List Nat) (V0:List (List CV)) (A0:List bu) (o:Oper) (s s':St):Prop:=
 ∃x V A,s'=s.put o.dst x V A/\(∀K:AV->List (List CV)->List bu->Prop,K x V A->bH P s ow o K)/\(j∈fs->dw P s ow o ex V0 A0 x)
def Oo (ws:List Nat) (m:Nat) (ex:List Nat) (V0:List (List CV)) (A0:List bu) (j:Nat) (o:Oper) (s s':St):Prop:=∃x V A,s'=s.put o.dst x V A/\(j∈ws\/(V=s.V/\A=s.A))/\(j∈ws->j<m->V.take V0.length=rN ex (fun i=>V.getD i []) V0/\A.take A0.length=A0)
theorem pM {ow:Nat->Bool} {K:St->Ts->Prop}:∀(ops:List Oper) (i:Nat) (s:St) (L:Ts),qN P ow ws fs m ex V0 A0 cs K i ops s L->
  ∃(τ:Nat->St) (q:Nat),q<=ops.length/\τ 0=s/\(∀(j:Nat) o,j<q->ops[j]? =some o->LR P (ow (i+j)) fs (i+j) ex V0 A0 o (τ j) (τ (j+1))/\Oo ws m ex V0 A0 (i+j) o (τ j) (τ (j+1))/\i+j∉cs)/\
   ((q=ops.length/\K (τ q) L)\/(i+q∈cs/\∃o,ops[q]? =some o/\b9 P (τ q) L o fun x L'=>qN P ow ws fs m ex V0 A0 cs K (i+q+1) (ops.drop (q+1)) ((τ q).put o.dst x (τ q).V (τ q).A) L'))
 |[],i,s,L,h=>⟨fun _=>s,0,Zo _,rfl,fun j o hj=>by omega,.inl ⟨rfl,h⟩⟩
 |o::rest,i,s,L,h=>by
  rcases h with⟨h1,h2⟩|⟨h1,h2⟩
  ·exact⟨fun _=>s,0,by simp,rfl,fun j o hj=>by omega,.inr ⟨h1,o,rfl,h2⟩⟩
  ·obtain⟨x,V,A,⟨h3,NL,Fz,h4⟩,h5⟩:=fU h2;obtain⟨τ,q,k1,k2,k3,k4⟩:=pM rest (i+1) _ L h4;refine⟨fun j=>match j with|0=>s|j+1=>τ j,q+1,by simp;omega,rfl,fun j o' hj ho=>?_,?_⟩
   ·cases j with
    |zero=>
     simp at ho;subst ho;exact⟨⟨x,V,A,k2,h5,Fz⟩,⟨x,V,A,k2,h3,NL⟩,h1⟩
    |succ j=>
     simp at ho;have:=k3 j o' (by omega) ho;rwa[show i+1+j=i+(j+1) by omega]at this
   ·rcases k4 with⟨k5,k6⟩|⟨k5,o',k6,k7⟩
    ·exact .inl ⟨by simp[k5],k6⟩
    ·refine .inr ⟨by rw[show i+(q+1)=i+1+q by omega];exact k5,o',by simpa using k6,?_⟩;rw[show i+(q+1)+1=i+1+q+1 by omega];exact k7
structure B0 (all:Array Oper) (ws:List Nat) (m:Nat) (ex:List Nat) (V0:List (List CV)) (A0:List bu) (σ:Nat->St) (c:Nat):Prop where
 le:c<=all.size
 v0:(σ 0).V=V0/\(σ 0).A=A0
 tr:∀(j:Nat) o,j<c->all[j]? =some o->Oo ws m ex V0 A0 j o (σ j) (σ (j+1))
theorem B0.S6 {σ:Nat->St} {c:Nat} (h:B0 all ws m ex V0 A0 σ c):FX all ws σ c:=⟨h.le,fun j o hj ho=>by
 obtain⟨x,V,A,h1,h2,_⟩:=h.tr j o hj ho;exact⟨x,V,A,h1,h2⟩⟩
theorem B0.pre {σ:Nat->St} {c:Nat} (h:B0 all ws m ex V0 A0 σ c):∀k,k<=m->k<=c->KN ex V0 A0 (σ k):=by
 intro k;induction k with
 |zero=>
  intro _ _;refine⟨?_,by rw[h.v0.2];simp⟩;rw[h.v0.1,pA];simp
 |succ k ih=>
  intro h1 h2;have hle:=h.le;obtain⟨x,V,A,q1,q2,q3⟩:=h.tr k _ (by omega) (aag (by omega));have hV:(σ (k+1)).V=V:=by rw[q1];rfl
  have hA:(σ (k+1)).A=A:=by rw[q1];rfl
  by_cases hw:k∈ws
  ·have:=q3 hw (by omega);exact⟨by rw[hV];exact this.1,by rw[hA];exact this.2⟩
  ·rcases q2 with q2|⟨q2,q4⟩
   ·exact absurd q2 hw
   ·have:=ih (by omega) (by omega);exact⟨by rw[hV,q2];exact this.1,by rw[hA,q4];exact this.2⟩
set_option maxHeartbeats 2000000 in
theorem F1 {ow:Nat->Bool} (hd:mc all ws fs m cs=true) (LN:∀(j:Nat) o,all[j]? =some o->o.guard=none) (eT:c7 n all.toList=true) {σ:Nat->St} {c:Nat} (PN:B0 all ws m ex V0 A0 σ c) (JT:∀i∈cs,i∉ws) (M4:∀i∈cs,i∉fs) {ae:Array Bool} {k0:Nat} (hD:yj all ws σ n w g ae k0 g a w) (gx:k0<=c) (nC:∀i,ae[i]? =some true->i<c)
  {j:Nat} (hj:j∈Region.ready .any all ae) (EG:j<=c) {o:Oper} (ho:all[j]? =some o) {next:Act->World->Prop} {Q:Exit->Act->World->Prop}:
  (j<c->j∉cs->LR P (ow j) fs j ex V0 A0 o (σ j) (σ (j+1))->(∀k1 v g' w',k1<=c->yj all ws σ n w' g' (ae.setIfInBounds j true) k1 g' (a.put o.dst v) w'->Fr w g w' g'->next (a.put o.dst v) w')->wpOp P all Q j next a w)/\
  (j=c->cL o.op=false->j∉ws->Jb w0 g0 X L S g w->(∀K:AV->Ts->Prop,b9 P (σ j) L o K->(∀x L' S' v g' w',K x L'->(∀σ':Nat->St,(∀i,i<=c->σ' i=σ i)->σ' (c+1)=(σ c).put o.dst x (σ c).V (σ c).A->yj all ws σ' n w' g' (ae.setIfInBounds j true) k0 g' (a.put o.dst v) w')->Jb w0 g0 X L' S' g' w'->next (a.put o.dst v) w')->wpOp P all Q j next a w)):=by
 have hT:=PN.S6;simp only[mc,aap,ZA]at hd;obtain⟨⟨⟨⟨hP,jm⟩,oX⟩,I5⟩,I6⟩:=hd;have cQ:∀(j:Nat) o,all[j]? =some o->(o,j)∈all.toList.zipIdx:=fun j o h=>by
  rw[ZH];exact⟨j,by simp[ZI,h]⟩
 have cZ:∀(j:Nat) o,all[j]? =some o->∀e∈o.after,Region.binds .any e=true->e.on<j:=fun j o h e he hb=>by
  have:=hP _ (cQ j o h) e (aah.2 he);simpa[hb]using this
 have rq:∀(i j:Nat) oi oj,all[i]? =some oi->all[j]? =some oj->i<j->kV all ws fs m cs (a7 all.toList []) oi oj i j=true:=fun i j oi oj h1 h2 az=>by
  have:=jm _ (cQ j oj h2) _ (cQ i oi h1);simpa[az]using this
 have fI:∀(i j:Nat) oi oj,all[i]? =some oi->all[j]? =some oj->i<j->i∉cs->j∉cs->cC all ws fs m (a7 all.toList []) oi oj i j=true:=fun i j oi oj h1 h2 az hi hj=>by
  have:=rq i j oi oj h1 h2 az;simpa[kV,hi,hj]using this
 have bY:∀(i j:Nat) oi oj,all[i]? =some oi->all[j]? =some oj->i<j->i∉cs->j∉cs->i∉fs->j∉fs->br all ws (a7 all.toList []) oi oj i j=true:=fun i j oi oj h1 h2 az hi hj GM nM=>by
  have:=fI i j oi oj h1 h2 az hi hj;simpa[cC,br,GM,nM]using this
 have H2:∀(i j:Nat) oi oj,all[i]? =some oi->all[j]? =some oj->i<j->(dq all oi oj=true\/dq all oj oi=true)->((a7 all.toList []).getD j 0).testBit i=true:=fun i j oi oj h1 h2 az ht=>by
  have:=rq i j oi oj h1 h2 az;simp only[kV]at this;split at this
  ·simp only[aap,aaq]at this;rcases this.2 with h|h
   ·rcases ht with ht|ht<;>simp[ht]at h
   ·exact h
  ·simp only[cC,aap,aaq]at this;rcases this.2 with h|h
   ·rcases ht with ht|ht<;>simp[ht]at h
   ·exact h
 have l7:∀i,i∈ws->i∉fs:=fun i hi hf=>by
  have:=I5 i hf;simp[hi]at this
 have Oq:∀i,i∈ws->i∉cs:=fun i hi hc=>JT i hc hi
 have Dd:=PN.pre;have uX:∀(j:Nat) o,all[j]? =some o->j∈ws->cL o.op=false:=fun j o h hj=>by
  have:=oX _ (cQ j o h);simpa[hj]using this
 have fG:∀(i j:Nat) oi oj d,all[i]? =some oi->all[j]? =some oj->i<j->oi.dst=some d->oj.dst≠some d:=fun i j oi oj d h1 h2 az h3 h4=>by
  have:=rq i j oi oj h1 h2 az;simp only[kV,cC,h3,h4]at this;split at this<;>simp at this
 have q0:∀(i j:Nat) oi oj d,all[i]? =some oi->all[j]? =some oj->oi.dst=some d->oj.dst=some d->i=j:=fun i j oi oj d h1 h2 h3 h4=>by
  rcases Zq i j with h|h|h
  ·exact absurd h4 (fG i j oi oj d h1 h2 h h3)
  ·exact h
  ·exact absurd h3 (fG j i oj oi d h2 h1 h h4)
 have z8:∀(j:Nat) o d,all[j]? =some o->o.dst=some d->d<n:=fun j o d h1 h2=>by
  have:=ZA.1 eT o (by rw[aah];exact aal h1);simpa[h2]using this
 obtain⟨GJ,_,Bn⟩:=eU all.toList []
 have mO:∀{ae:Array Bool},(∀(i:Nat) o,all[i]? =some o->ae[i]? =some true->∀e∈o.after,Region.binds .any e=true->ae[e.on]? =some true)->
   ∀(i:Nat) o,all[i]? =some o->(∀e∈o.after,Region.binds .any e=true->ae[e.on]? =some true)->∀k,((a7 all.toList []).getD i 0).testBit k=true->ae[k]? =some true:=by
  intro ae kJ i;induction i using Zu with
  |_ i ih=>
   intro o ho cz k hk;obtain⟨pre,h1,h2,h3⟩:=Bn i o (by simpa using ho);simp only[ZU,Zr]at h1 h3;have h4:(a7 all.toList []).getD i 0=mN pre o:=by simp[ZJ,h3]
   rw[h4]at hk;obtain⟨e,he,hb,h5⟩:=fF hk;have s7:=cz e he hb;rcases h5 with rfl|h5
   ·exact s7
   ·have az:=cZ i o ho e he hb;have h6:pre.getD e.on 0=(a7 all.toList []).getD e.on 0:=by simp only[ZJ,h2 e.on (by omega)]
    rw[h6]at h5;have eM:e.on<all.size:=by have:=(aaf.1 ho).1;omega
    have uY:all[e.on]? =some all[e.on]:=aag eM;exact ih e.on az _ uY (kJ e.on _ uY s7) k h5
 have Jc:=hT.le;have oR:=hT.Oe;have oS:=hT.Of q0;have tE:=hT.VA;obtain⟨mP,o2,mC,cz⟩:=mem_ready.1 hj;obtain rfl:o=o2:=by rw[ho]at mC;exact Option.some.inj mC
 have mQ:=dZ mP;have rK:j<all.size:=(aaf.1 ho).1;have iZ:j<ae.size:=by rw[hD.ey];exact rK
 have cn:∀e∈o.after,Region.binds .any e=true->ae[e.on]? =some true:=fun e he hb=>cy.1 (cz e he hb)
 have ck:∀k,((a7 all.toList []).getD j 0).testBit k=true->ae[k]? =some true:=mO hD.closed j o ho cn;have bV:∀(i:Nat) oi,all[i]? =some oi->ae[i]? =some true->((a7 all.toList []).getD i 0).testBit j=false:=fun i oi aZ bC=>by
  cases hb:((a7 all.toList []).getD i 0).testBit j with
  |false=>rfl
  |true=>have:=mO hD.closed i oi aZ (hD.closed i oi aZ bC) j hb;rw[mQ]at this;simp at this
 have jr:∀t∈o.looksAt all,∀x,look (σ j).fr t=some x->∃u,a.tmps[t]? =some u/\aV g w (σ k0).A x u:=by
  intro t ht x hx;by_cases hex:∃(i:Nat) (oi:Oper),i<j/\all[i]? =some oi/\oi.dst=some t
  ·obtain⟨i,oi,kq,aZ,cg⟩:=hex;rw[oS j i oi t (by omega) kq aZ cg]at hx;have tF:dq all oi o=true:=by simp only[dq,cg];simpa using ht
   have hb:((a7 all.toList []).getD j 0).testBit i=true:=H2 i j oi o aZ ho kq (.inl tF);exact hD.fP i oi t x aZ (ck i hb) cg hx
  ·rw[oR j t (by omega) (fun i oi kq aZ cg=>hex ⟨i,oi,kq,aZ,cg⟩)]at hx;refine hD.fQ t x (fun i oi aZ bC cg=>?_) hx;rcases Zq i j with h|h|h
   ·exact hex ⟨i,oi,h,aZ,cg⟩
   ·subst h;rw[mQ]at bC;simp at bC
   ·have tF:dq all oi o=true:=by simp only[dq,cg];simpa using ht
    have hb:=bV i oi aZ bC;rw[H2 j i o oi ho aZ h (.inr tF)]at hb;simp at hb
 let cM:=(σ j).fr.filter fun p=>(o.looksAt all).contains p.1
 have mD:∀t,look cM t=if(o.looksAt all).contains t then look (σ j).fr t else none:=fun t=>eP (fun t=>(o.looksAt all).contains t) (σ j).fr t
 have hS:∀(V:List (List CV)),ia g w ⟨cM,V,(σ k0).A⟩ a:=fun V t x hx=>by
  simp only[mD]at hx;split at hx
  ·rename_i hc;exact jr t (by simpa using hc) x hx
  ·cases hx
 have gu:∀(V V':List (List CV)) (A A':List bu),∀x∈o.op.operands.toList,bE ⟨cM,V,A⟩ x=bE ⟨(σ j).fr,V',A'⟩ x:=fun V V' A A' x hx=>by
  cases x with
  |tmp t=>
   simp only[bE,mD];rw[if_pos];simp only[Oper.looksAt,aae,decide_eq_true_eq,ZC,Z1];exact .inl ⟨.tmp t,hx,rfl⟩
  |_=>rfl
 have gD:Rp n w g ⟨cM,(σ k0).V,(σ k0).A⟩ g a w:=⟨hD.inv,hD.fr,hD.size,hD.defers,hS _⟩;have ll:Region.wanted o (yielded all a.tmps)=true:=by simp[Region.wanted,LN j o ho]
 have bN:∀i,(ae.setIfInBounds j true)[i]? =if i=j then some true else ae[i]? :=fun i=>by
  by_cases e:i=j
  ·subst e;simp[iZ]
  ·rw[if_neg e,aai (fun h=>e h.symm)]
 have cJ:∀(σ':Nat->St) (k1:Nat) (x:AV) (v:Value) (w':World) (g':Gh),(∀i,i<=c->σ' i=σ i)->look (σ' (j+1)).fr=look ((σ j).put o.dst x [] []).fr->aV g' w' (σ k1).A x v->Inv g' w' (σ k1).V (σ k1).A->Ext g w (σ k0).A g' w' (σ k1).A->AZ w' g'->k1<=c->(k1=0\/∃i∈ws,k1=i+1)->
   (∀i∈ws,i<all.size->((ae.setIfInBounds j true)[i]? =some true↔i<k1))->yj all ws σ' n w' g' (ae.setIfInBounds j true) k1 g' (a.put o.dst v) w':=by
  intro σ' k1 x v w' g' hσ CN yy hI hx hF hk Lt Fw;have iH:∀t u,o.dst≠some t->a.tmps[t]? =some u->(a.put o.dst v).tmps[t]? =some u:=fun t u dc hu=>by
   cases rI:o.dst with
   |none=>exact hu
   |some d=>
    simp only[Act.put];rw[aai (fun e=>dc (by rw[rI,e]))];exact hu
  refine⟨by rw[hσ k1 hk];exact hI,.refl hF,?_,?_,by simp[hD.ey],fun i oi t y aZ bC cg hy=>?_,fun t y fe hy=>?_,Fw,by omega,Lt,fun i oi aZ bC e he hb=>?_⟩
  ·cases o.dst<;>simp[Act.put,hD.size]
  ·cases o.dst<;>simp[Act.put,hD.defers]
  ·rw[hσ k1 hk];rw[bN]at bC;by_cases e:i=j
   ·subst e;obtain rfl:o=oi:=by rw[ho]at aZ;exact Option.some.inj aZ
    rw[CN]at hy;simp only[St.put,cg,look,if_true]at hy;cases hy
    refine⟨v,?_,yy⟩;have:t<a.tmps.size:=by rw[hD.size];exact z8 i o t ho cg
    simp[Act.put,cg,this]
   ·rw[if_neg e]at bC;rw[hσ (i+1) (nC i bC)]at hy;obtain⟨u,h1,h2⟩:=hD.fP i oi t y aZ bC cg hy;exact⟨u,iH t u (fun h=>e (q0 i j oi o t aZ ho cg h)) h1,aV.ext hx h2⟩
  ·rw[hσ k1 hk];rw[hσ 0 (Zp _)]at hy;have dc:o.dst≠some t:=fe j o ho (by rw[bN,if_pos rfl]);obtain⟨u,h1,h2⟩:=hD.fQ t y (fun i oi aZ bC=>fe i oi aZ (by
    rw[bN];by_cases e:i=j
    ·rw[if_pos e]
    ·rw[if_neg e];exact bC)) hy
   exact⟨u,iH t u dc h1,aV.ext hx h2⟩
  ·rw[bN]at bC⊢;have:ae[e.on]? =some true:=by
    by_cases e':i=j
    ·subst e';obtain rfl:o=oi:=by rw[ho]at aZ;exact Option.some.inj aZ
     exact cn e he hb
    ·rw[if_neg e']at bC;exact hD.closed i oi aZ bC e he hb
   by_cases e':e.on=j
   ·rw[if_pos e']
   ·rw[if_neg e'];exact this
 have gN:j∉ws->∀i∈ws,i<all.size->((ae.setIfInBounds j true)[i]? =some true↔i<k0):=fun ef i hi bZ=>by
  rw[bN,if_neg (fun e=>ef (by rw[<-e];exact hi))];exact hD.dY i hi bZ
 have kM:cL o.op=false->j∉fs->j∉cs->(σ j).V=(σ k0).V/\(σ j).A=(σ k0).A:=by
  intro fx nM DA;rcases Zx j k0 with h|h
  ·have:=tE k0 j h gx (fun i h1 h2 h3=>by
    have bZ:i<all.size:=by omega
    have bC:=(hD.dY i h3 bZ).2 h2;have aZ:all[i]? =some all[i]:=aag bZ;rcases Zs j i with h4|h4
    ·have hp:=bY j i o _ ho aZ h4 DA (Oq i h3) nM (l7 i h3);have hb:=bV i _ aZ bC;simp only[br,hb,aap,aaq]at hp;simp[h3,fx,-cL]at hp
    ·obtain rfl:i=j:=by omega
     rw[mQ]at bC;simp at bC)
   exact⟨this.1.symm,this.2.symm⟩
  ·exact tE j k0 h EG (fun i h1 h2 h3=>by
    have bZ:i<all.size:=by omega
    have aZ:all[i]? =some all[i]:=aag bZ;have hp:=bY i j _ o aZ ho h2 (Oq i h3) DA (l7 i h3) nM;simp only[br,aap,aaq]at hp;have hb:((a7 all.toList []).getD j 0).testBit i=true:=by
     rcases hp.2 with h4|h4
     ·simp[h3,fx,-cL]at h4
     ·exact h4
    have:=(hD.dY i h3 bZ).1 (ck i hb);omega)
 unfold wpOp;simp only[ho];rw[if_pos ll];refine⟨fun lN DA kn ih=>.inl ?_,fun lN fx ef hJ K ic ih=>.inl ?_⟩
 ·obtain⟨x,V,A,h2,h3,Fz⟩:=kn;have oV:look (σ (j+1)).fr=look ((σ j).put o.dst x [] []).fr:=by rw[h2];rfl
  by_cases hs:cL o.op=true
  ·-- slots alone
   have ef:j∉ws:=fun h=>by have:=uX j o ho h;rw[hs]at this;simp at this
   have h4:bH P ⟨cM,(σ k0).V,(σ k0).A⟩ (ow j) o (fun y V' A'=>y=x/\V'=(σ k0).V/\A'=(σ k0).A):=nE (s:=σ j) (s':=⟨cM,(σ k0).V,(σ k0).A⟩) hs (gu _ _ _ _) h3 ⟨rfl,rfl,rfl⟩;obtain⟨y,V',A',⟨rfl,rfl,rfl⟩,h5⟩:=db gD.inv gD.fr gD.slot h4;exact h5 _ _ fun v w' g' h6 h7 h8 h9=>ih k0 v g' w' gx (cJ σ k0 y v w' g' (fun _ _=>rfl) oV h6 h7 h8 h9.now gx hD.kw (gN ef)) h9
  ·have fx:cL o.op=false:=by simpa[-cL]using hs
   by_cases nM:j∈fs
   ·have ef:j∉ws:=fun h=>l7 j h nM
    have De:k0<=m:=by
     rcases hD.kw with h|⟨i,hi,hk⟩
     ·omega
     ·rcases Zs i m with h|h
      ·omega
      ·exfalso
       have bZ:i<all.size:=by have:=hD.nF;omega
       have aZ:all[i]? =some all[i]:=aag bZ;have bC:=(hD.dY i hi bZ).2 (by omega);have KO:j<i:=by
        have:=I6 j nM i hi;simp at this;omega
       have hp:=fI j i o _ ho aZ KO DA (Oq i hi);have hb:=bV i _ aZ bC;have s9:¬i<m:=by omega
       simp only[cC,hb,aap,aaq]at hp;simp[-cL,hi,fx,s9,nM,ef]at hp
    obtain⟨dG,Ad⟩:=Dd k0 De gx;have h4:bH P ⟨cM,(σ k0).V,(σ k0).A⟩ (ow j) o (fun y V' A'=>y=x/\V'=(σ k0).V/\A'=(σ k0).A):=by
     have h5:=Fz nM (fun i=>(σ k0).V.getD i []) ((σ k0).V.drop V0.length) ((σ k0).A.drop A0.length);have e1:rN ex (fun i=>(σ k0).V.getD i []) V0++(σ k0).V.drop V0.length=(σ k0).V:=by
      rw[<-dG];exact ZL _ _
     have e2:A0++(σ k0).A.drop A0.length=(σ k0).A:=by conv=>lhs;arg 1;rw[<-Ad]
                                                      exact ZL _ _
     rw[e1,e2]at h5;exact dX (fr:=(σ j).fr) (gu _ _ _ _) h5
    obtain⟨y,V',A',⟨rfl,rfl,rfl⟩,h5⟩:=db gD.inv gD.fr gD.slot h4;exact h5 _ _ fun v w' g' h6 h7 h8 h9=>ih k0 v g' w' gx (cJ σ k0 y v w' g' (fun _ _=>rfl) oV h6 h7 h8 h9.now gx hD.kw (gN ef)) h9
   obtain⟨kC,gY⟩:=kM fx nM DA;have h4:bH P ⟨cM,(σ k0).V,(σ k0).A⟩ (ow j) o (fun y V' A'=>y=x/\V'=V/\A'=A):=by
    rw[<-kC,<-gY];exact dX (fr:=(σ j).fr) (gu _ _ _ _) (h3 _ ⟨rfl,rfl,rfl⟩)
   obtain⟨y,V',A',⟨rfl,rfl,rfl⟩,h5⟩:=db gD.inv gD.fr gD.slot h4;have s8:(σ (j+1)).V=V':=by rw[h2];rfl
   have iW:(σ (j+1)).A=A':=by rw[h2];rfl
   by_cases ef:j∈ws
   ·refine h5 _ _ fun v w' g' h6 h7 h8 h9=>ih (j+1) v g' w' lN (cJ σ (j+1) y v w' g' (fun _ _=>rfl) oV (by rw[iW];exact h6) (by rw[s8,iW];exact h7) (by rw[iW];exact h8) h9.now lN (.inr ⟨j,ef,rfl⟩) (fun i hi bZ=>?_)) h9
    have aZ:all[i]? =some all[i]:=aag bZ;rw[bN];by_cases e:i=j
    ·subst e;simp
    ·rw[if_neg e];constructor
     ·intro bC;rcases Zs j i with h|h
      ·have hp:=bY j i o _ ho aZ h DA (Oq i hi) nM (l7 i hi);have hb:=bV i _ aZ bC;simp only[br,hb,aap,aaq]at hp;simp[hi,fx,-cL]at hp
      ·omega
     ·intro az;have hp:=bY i j _ o aZ ho (by omega) (Oq i hi) DA (l7 i hi) nM;simp only[br,aap,aaq]at hp;rcases hp.2 with h|h
      ·simp[hi,fx,-cL]at h
      ·exact ck i h
   ·obtain⟨x2,V2,A2,q1,q2⟩:=hT.tr j o lN ho;rcases q2 with q2|⟨q2,q3⟩
    ·exact absurd q2 ef
    have pZ:(σ (j+1)).V=(σ j).V:=by rw[q1];exact q2
    have mC:(σ (j+1)).A=(σ j).A:=by rw[q1];exact q3
    refine h5 _ _ fun v w' g' h6 h7 h8 h9=>ih k0 v g' w' gx (cJ σ k0 y v w' g' (fun _ _=>rfl) oV ?_ ?_ ?_ h9.now gx hD.kw (gN ef)) h9
    ·rw[<-gY,<-mC,iW];exact h6
    ·rw[<-kC,<-gY,<-pZ,<-mC,s8,iW];exact h7
    ·have e1:(σ k0).A=A':=by rw[<-gY,<-mC,iW]
     rw[e1]at h8⊢;exact h8
 ·-- the call
  subst lN;have Og:rh n w0 g0 X ⟨cM,(σ k0).V,(σ k0).A⟩ L S g a w:=⟨hD.inv,hJ.fr,hD.size,hD.defers,hS _,hJ.nq,hJ.nd,hJ.out⟩;refine qg Og (pK (s:=σ j) (ow:=ow j) (gu _ _ _ _) ic) _ _ ?_;rintro x V' A' L' S' v w' g' ⟨rfl,rfl,hk⟩ h6 h7 h8 h9 cE ev fM;refine ih x L' S' v g' w' hk (fun σ' hσ hn=>cJ σ' k0 x v w' g' hσ (by rw[hn];rfl) h6 h7 h8 h9.now gx hD.kw (gN ef)) ⟨h9,cE,ev,fM⟩
theorem F2 (hd:mc all ws fs m cs=true) {σ:Nat->St} (PN:B0 all ws m ex V0 A0 σ all.size) {ae:Array Bool} {k0:Nat} (hD:yj all ws σ n w g ae k0 g a w) (df:∀i,i<all.size->ae[i]? =some true) (hJ:Jb w0 g0 X L S g w):rh n w0 g0 X (σ all.size) L S g a w:=by
 have hT:=PN.S6;simp only[mc,aap,ZA]at hd;obtain⟨⟨⟨⟨hP,jm⟩,oX⟩,I5⟩,I6⟩:=hd;have cQ:∀(j:Nat) o,all[j]? =some o->(o,j)∈all.toList.zipIdx:=fun j o h=>by
  rw[ZH];exact⟨j,by simp[ZI,h]⟩
 have cZ:∀(j:Nat) o,all[j]? =some o->∀e∈o.after,Region.binds .any e=true->e.on<j:=fun j o h e he hb=>by
  have:=hP _ (cQ j o h) e (aah.2 he);simpa[hb]using this
 have rq:∀(i j:Nat) oi oj,all[i]? =some oi->all[j]? =some oj->i<j->kV all ws fs m cs (a7 all.toList []) oi oj i j=true:=fun i j oi oj h1 h2 az=>by
  have:=jm _ (cQ j oj h2) _ (cQ i oi h1);simpa[az]using this
 have uX:∀(j:Nat) o,all[j]? =some o->j∈ws->cL o.op=false:=fun j o h hj=>by
  have:=oX _ (cQ j o h);simpa[hj]using this
 have fG:∀(i j:Nat) oi oj d,all[i]? =some oi->all[j]? =some oj->i<j->oi.dst=some d->oj.dst≠some d:=fun i j oi oj d h1 h2 az h3 h4=>by
  have:=rq i j oi oj h1 h2 az;simp only[kV,cC,h3,h4]at this;split at this<;>simp at this
 have q0:∀(i j:Nat) oi oj d,all[i]? =some oi->all[j]? =some oj->oi.dst=some d->oj.dst=some d->i=j:=fun i j oi oj d h1 h2 h3 h4=>by
  rcases Zq i j with h|h|h
  ·exact absurd h4 (fG i j oi oj d h1 h2 h h3)
  ·exact h
  ·exact absurd h3 (fG j i oj oi d h2 h1 h h4)
 have kM:=hT.VA all.size k0 hD.nF (Zo _) (fun i h1 h2 h3=>by have:=(hD.dY i h3 h2).1 (df i h2);omega);refine⟨by rw[kM.1,kM.2];exact hD.inv,hJ.fr,hD.size,hD.defers,fun t x hx=>?_,hJ.nq,hJ.nd,hJ.out⟩;rw[kM.2];by_cases hex:∃(i:Nat) (o:Oper),all[i]? =some o/\o.dst=some t
 ·obtain⟨i,o,ho,cg⟩:=hex;have hi:=(aaf.1 ho).1;rw[hT.Of q0 all.size i o t (Zo _) hi ho cg]at hx;exact hD.fP i o t x ho (df i hi) cg hx
 ·rw[hT.Oe all.size t (Zo _) (fun i o _ ho cg=>hex ⟨i,o,ho,cg⟩)]at hx;exact hD.fQ t x (fun i o ho _ cg=>hex ⟨i,o,ho,cg⟩) hx
theorem B5 {ow:Nat->Bool} {K:St->Ts->Prop} {Q:Exit->Act->World->Prop} (hd:mc all ws fs m cs=true) (hc:kT all ws cs=true) (M4:∀i∈cs,i∉fs) (eT:c7 n all.toList=true)
  (hQ:∀s' L' S' g' a' w',K s' L'->rh n w0 g0 X s' L' S' g' a' w'->Q .normal a' w'):
  ∀(fuel:Nat) (σ:Nat->St) (c:Nat) (L:Ts) (S:List Nat) (ae:Array Bool) (k0:Nat) (g:Gh) (a:Act) (w:World),((Zz all.size).filter fun i=> !ae.getD i true).length<=fuel->B0 all ws m ex V0 A0 σ c->k0<=c->
   (∀(j:Nat) o,j<c->all[j]? =some o->ae[j]? ≠some true->j∉cs/\LR P (ow j) fs j ex V0 A0 o (σ j) (σ (j+1)))->(∀i,ae[i]? =some true->i<c)->
   ((c=all.size/\K (σ c) L)\/(c∈cs/\∃o,all[c]? =some o/\b9 P (σ c) L o fun x L'=>qN P ow ws fs m ex V0 A0 cs K (c+1) (all.toList.drop (c+1)) ((σ c).put o.dst x (σ c).V (σ c).A) L'))->
   yj all ws σ n w g ae k0 g a w->Jb w0 g0 X L S g w->wpAny P .any all Q fuel ae a w:=by
 have I9:=hd;simp only[mc,aap,ZA]at hd;obtain⟨⟨⟨⟨hP,jm⟩,oX⟩,I5⟩,I6⟩:=hd;have cQ:∀(j:Nat) o,all[j]? =some o->(o,j)∈all.toList.zipIdx:=fun j o h=>by
  rw[ZH];exact⟨j,by simp[ZI,h]⟩
 have cZ:∀(j:Nat) o,all[j]? =some o->∀e∈o.after,Region.binds .any e=true->e.on<j:=fun j o h e he hb=>by
  have:=hP _ (cQ j o h) e (aah.2 he);simpa[hb]using this
 have rq:∀(i j:Nat) oi oj,all[i]? =some oi->all[j]? =some oj->i<j->kV all ws fs m cs (a7 all.toList []) oi oj i j=true:=fun i j oi oj h1 h2 az=>by
  have:=jm _ (cQ j oj h2) _ (cQ i oi h1);simpa[az]using this
 have uX:∀(j:Nat) o,all[j]? =some o->j∈ws->cL o.op=false:=fun j o h hj=>by
  have:=oX _ (cQ j o h);simpa[hj]using this
 have fG:∀(i j:Nat) oi oj d,all[i]? =some oi->all[j]? =some oj->i<j->oi.dst=some d->oj.dst≠some d:=fun i j oi oj d h1 h2 az h3 h4=>by
  have:=rq i j oi oj h1 h2 az;simp only[kV,cC,h3,h4]at this;split at this<;>simp at this
 have q0:∀(i j:Nat) oi oj d,all[i]? =some oi->all[j]? =some oj->oi.dst=some d->oj.dst=some d->i=j:=fun i j oi oj d h1 h2 h3 h4=>by
  rcases Zq i j with h|h|h
  ·exact absurd h4 (fG i j oi oj d h1 h2 h h3)
  ·exact h
  ·exact absurd h3 (fG j i oj oi d h2 h1 h h4)
 simp only[kT,aap,ZA]at hc;obtain⟨⟨uO,Fp⟩,Oh⟩:=hc;have LN:∀(j:Nat) o,all[j]? =some o->o.guard=none:=fun j o h=>by
  have:=Fp _ (cQ j o h);simpa using this
 have JT:∀c∈cs,c∉ws:=fun c h=>by simpa using(uO c h).1
 have Oi:∀c∈cs,∀o,all[c]? =some o->cL o.op=false:=fun c h o ho=>by
  have:=Oh _ (cQ c o ho);simpa[h,-cL]using this
 have Oj:∀c∈cs,∀(j:Nat) o,all[j]? =some o->c<j->((a7 all.toList []).getD j 0).testBit c=true:=fun c h j o ho az=>by
  have:=(uO c h).2 _ (cQ j o ho);simpa[az]using this
 have pE:∀{ae:Array Bool},Region.ready .any all ae=[]->ae.size=all.size->∀i,i<all.size->ae[i]? =some true:=by
  intro ae hr vO i;induction i using Zu with
  |_ i ih=>
   intro hi;have ho:all[i]? =some all[i]:=aag hi;have bC:i<ae.size:=by omega
   cases hl:ae[i]with
   |true=>rw[aag bC,hl]
   |false=>
    exfalso
    have:i∈Region.ready .any all ae:=mem_ready.2 ⟨by simp[bC,hl],_,ho,fun e he hb=>cy.2 (ih e.on (cZ i _ ho e he hb) (by have:=cZ i _ ho e he hb;omega))⟩;rw[hr]at this;simp at this
 have lJ:∀{σ:Nat->St} {c:Nat} {L:Ts} {S:List Nat} {ae:Array Bool} {k0:Nat} {g:Gh} {a:Act} {w:World},B0 all ws m ex V0 A0 σ c->(∀i,ae[i]? =some true->i<c)->
   ((c=all.size/\K (σ c) L)\/(c∈cs/\∃o,all[c]? =some o/\b9 P (σ c) L o fun x L'=>qN P ow ws fs m ex V0 A0 cs K (c+1) (all.toList.drop (c+1)) ((σ c).put o.dst x (σ c).V (σ c).A) L'))->
   yj all ws σ n w g ae k0 g a w->Jb w0 g0 X L S g w->Region.ready .any all ae=[]->Q .normal a w:=by
  intro σ c L S ae k0 g a w hT nC hK hD hJ hr;have df:=pE hr hD.ey;rcases hK with⟨rfl,hK⟩|⟨pH,o,ho,_⟩
  ·exact hQ _ _ _ _ _ _ hK (F2 I9 hT hD df hJ)
  ·have bZ:=(aaf.1 ho).1;have:=nC c (df c bZ);omega
 intro fuel;induction fuel with
 |zero=>
  intro σ c L S ae k0 g a w hf hT gx rl nC hK hD hJ;have lL:Region.ready .any all ae=[]:=by
   have h0:((Zz all.size).filter fun i=> !ae.getD i true)=[]:=aab (by omega);rcases hr:Region.ready .any all ae with _|⟨j,r⟩
   ·rfl
   ·have hj:j∈Region.ready .any all ae:=by rw[hr];simp
    obtain⟨h1,o,h2,_⟩:=mem_ready.1 hj;have:j∈((Zz all.size).filter fun i=> !ae.getD i true):=by
     rw[Z2,ZG];exact⟨(aaf.1 h2).1,by simp[h1]⟩
    rw[h0]at this;simp at this
  exact⟨lL,lJ hT nC hK hD hJ lL⟩
 |succ fuel ih=>
  intro σ c L S ae k0 g a w hf hT gx rl nC hK hD hJ;refine⟨fun hr=>lJ hT nC hK hD hJ hr,fun j hj=>?_⟩;obtain⟨mP,o,ho,cz⟩:=mem_ready.1 hj;have mQ:=dZ mP;have rK:j<all.size:=(aaf.1 ho).1;have iZ:j<ae.size:=by rw[hD.ey];exact rK
  have cn:∀e∈o.after,Region.binds .any e=true->ae[e.on]? =some true:=fun e he hb=>cy.1 (cz e he hb)
  have bN:∀i,(ae.setIfInBounds j true)[i]? =if i=j then some true else ae[i]? :=fun i=>by
   by_cases e:i=j
   ·subst e;simp[iZ]
   ·rw[if_neg e,aai (fun h=>e h.symm)]
  have cW:((Zz all.size).filter fun i=> !(ae.setIfInBounds j true).getD i true).length<=fuel:=by
   have az:((Zz all.size).filter fun i=> !(ae.setIfInBounds j true).getD i true).length<((Zz all.size).filter fun i=> !ae.getD i true).length:=by
    have gq:∀i,(!(ae.setIfInBounds j true).getD i true)=true->(!ae.getD i true)=true:=fun i h=>by
     by_cases e:i=j
     ·subst e;simp[iZ]at h
     ·have:(ae.setIfInBounds j true).getD i true=ae.getD i true:=by
       simp only[aak,bN,if_neg e]
      rwa[this]at h
    exact filter_lt gq (ZG.2 rK) (by simp[mP]) (by simp[iZ])
   omega
  have EG:j<=c:=by
   rcases hK with⟨rfl,_⟩|⟨pH,oc,EH,_⟩
   ·omega
   ·rcases Zs c j with h|h
    ·have:=nC c (nP cZ hD.closed j o ho cn c (Oj c pH j o ho h));omega
    ·exact h
  obtain⟨one1,one2⟩:=F1 (w0:=w0) (g0:=g0) (X:=X) (L:=L) (S:=S) (ow:=ow) I9 LN eT hT JT M4 hD gx nC hj EG ho (next:=wpAny P .any all Q fuel (ae.setIfInBounds j true)) (Q:=Q);rcases Zw EG with az|rfl
  ·refine one1 az (rl j o az ho (by rw[mQ];simp)).1 (rl j o az ho (by rw[mQ];simp)).2 fun k1 v g' w' oD JG hF=>ih σ c L S _ k1 g' _ w' cW hT oD (fun i oi hi aZ bC=>rl i oi hi aZ fun h=>bC ?_) (fun i hi=>?_) hK JG (hJ.cM hF)
   ·rw[bN];by_cases e:i=j
    ·rw[if_pos e]
    ·rw[if_neg e];exact h
   ·rw[bN]at hi;by_cases e:i=j
    ·subst e;exact az
    ·rw[if_neg e]at hi;exact nC i hi
  ·rcases hK with⟨h,_⟩|⟨pH,oc,EH,ic⟩
   ·omega
   obtain rfl:o=oc:=by rw[ho]at EH;exact Option.some.inj EH
   refine one2 rfl (Oi j pH o ho) (JT j pH) hJ _ ic fun x L' S' v g' w' hk Ok Ol=>?_
   obtain⟨τ,m,k1,k2,k3,k4⟩:=pM _ _ _ _ hk;have hlen:(all.toList.drop (j+1)).length=all.size-(j+1):=by simp
   let σ':Nat->St:=fun i=>if i<=j then σ i else τ (i-(j+1))
   have e1:∀i,i<=j->σ' i=σ i:=fun i hi=>by simp only[σ',if_pos hi]
   have e2:∀i,σ' (j+1+i)=τ i:=fun i=>by simp only[σ',if_neg (show¬j+1+i<=j by omega)];congr 1;omega
   have e3:∀i,(all.toList.drop (j+1))[i]? =all[j+1+i]? :=fun i=>by simp
   have j3:σ' (j+1)=(σ j).put o.dst x (σ j).V (σ j).A:=by rw[<-k2];exact e2 0
   refine ih σ' (j+1+m) L' S' _ k0 g' _ w' cW ⟨by omega,by rw[e1 0 (Zp _)];exact hT.v0,fun i oi hi aZ=>?_⟩ (by omega) (fun i oi hi aZ bC=>?_) (fun i hi=>?_) ?_ (Ok σ' e1 j3) Ol
   ·rcases Zq i j with h|h|h
    ·rw[e1 i (by omega),e1 (i+1) (by omega)];exact hT.tr i oi h aZ
    ·subst h;obtain rfl:o=oi:=by rw[ho]at aZ;exact Option.some.inj aZ
     rw[e1 i (by omega),j3];exact⟨x,_,_,rfl,.inr ⟨rfl,rfl⟩,fun h=>absurd h (JT i pH)⟩
    ·obtain⟨q,rfl⟩:∃q,i=j+1+q:=⟨i-(j+1),by omega⟩;rw[e2 q,show j+1+q+1=j+1+(q+1) by omega,e2 (q+1)];exact(k3 q oi (by omega) (by rw[e3];exact aZ)).2.1
   ·rw[bN]at bC;by_cases e:i=j
    ·rw[if_pos e]at bC;simp at bC
    ·rw[if_neg e]at bC;rcases Zs i j with h|h
     ·rw[e1 i (by omega),e1 (i+1) (by omega)];exact rl i oi h aZ bC
     ·obtain⟨q,rfl⟩:∃q,i=j+1+q:=⟨i-(j+1),by omega⟩;rw[e2 q,show j+1+q+1=j+1+(q+1) by omega,e2 (q+1)];exact⟨(k3 q oi (by omega) (by rw[e3];exact aZ)).2.2,(k3 q oi (by omega) (by rw[e3];exact aZ)).1⟩
   ·rw[bN]at hi;by_cases e:i=j
    ·omega
    ·rw[if_neg e]at hi;have:=nC i hi;omega
   ·rcases k4 with⟨h1,h2⟩|⟨h1,oc,h2,h3⟩
    ·exact .inl ⟨by omega,by rw[e2];exact h2⟩
    ·refine .inr ⟨h1,oc,by rw[<-e3];exact h2,?_⟩;rw[e2];rw[aad,show j+1+(m+1)=j+1+m+1 by omega]at h3;exact h3
theorem xw {ow:Nat->Bool} {K:St->Ts->Prop} (p:List Nat):∀(ops:List Oper) (i:Nat) (s:St) (L:Ts),qN P ow ws fs m ex V0 A0 cs K i ops s L->qN P ow ws fs m ex V0 A0 cs K i (ops.map (iB p)) s L
 |[],_,_,_,h=>h
 |o::rest,i,s,L,h=>by
  rcases h with⟨h1,h2⟩|⟨h1,h2⟩
  ·exact .inl ⟨h1,qi (o:=o) (fun x L' h=>xw p rest _ _ _ h) h2⟩
  ·exact .inr ⟨h1,fV (o:=o) (fun x V A h=>⟨h.1,h.2.1,h.2.2.1,xw p rest _ _ _ h.2.2.2⟩) h2⟩
theorem TJ.Ao {Q:Exit->St->Ts->Prop} {id:Nat} {l:List Oper} (hm:P.follows .mixedOrders=true) (p:List Nat) (ow:Nat->Bool) (ws fs:List Nat) (m:Nat) (ex:List Nat) (cs:List Nat) (hp:kH l p=true) (hd:mc (bM l p).toArray ws fs m cs=true) (hc:kT (bM l p).toArray ws cs=true) (M4:(cs.all fun i=> !fs.contains i)=true)
  (h:qN P ow ws fs m ex s.V s.A cs (fun s' L'=>Q .normal s' L') 0 (eA l p) s L):TJ P n (.region id l.toArray true) Q s L:=by
 obtain⟨p1,p2,p3,p4,p5⟩:=iQ hp;intro eK w0 g0 X S g a w hR;have Dy:c7 n (bM l p).toArray.toList=true:=by
  have hx:c7 n l=true:=by simpa[codeOk]using eK
  simp only[c7,ZA]at hx⊢;intro o' s4;obtain⟨j,hj⟩:=ZP s4;obtain⟨o,q1,rfl,_⟩:=kU hp (j:=j) (o':=o') (by simpa using hj);exact hx o (ZM q1)
 obtain⟨τ,m,k1,k2,k3,k4⟩:=pM (eA l p|>.map (iB p)) 0 s L (xw p _ _ _ _ h);obtain⟨hI,hx⟩:=hR.inv.heap (w':={w with drawn:=w.drawn+1}) rfl;have hF:Fr w g {w with drawn:=w.drawn+1} g:=(Fr.refl hR.fr.now).heap rfl rfl rfl rfl;have hJ:Jb w0 g0 X L S g {w with drawn:=w.drawn+1}:=(Jb.mk hR.fr hR.nq hR.nd hR.out).cM hF;have eM:(bM l p).toArray.size=l.length:=by simp[dj,p1]
 have wA:∀(i:Nat),(bM l p).toArray[i]? =(bM l p)[i]? :=fun i=>by simp
 refine wp_region_any hm (rm hp _ _ (aaj l.length false) a _ (by simp) (by simp) (fun i=>?_) (B5 (ex:=ex) (V0:=s.V) (A0:=s.A) (K:=fun s' L'=>Q .normal s' L') (ow:=ow) hd hc (fun i hi hf=>by have:=ZA.1 M4 i hi;simp[hf]at this) Dy (fun s' L' S' g' a' w' h1 h2=>⟨s',g',L',S',h1,h2⟩) _ τ m L S _ 0 g a _ ?_ ?_ (Zp _) ?_ ?_ ?_ ?_ hJ))
 ·simp only[aao];by_cases hi:i<l.length
  ·have:=ZO (p3 i hi);rw[if_pos (by omega),if_pos (by simpa using hi)]
  ·have On:i∉p:=fun h=>hi (p2 i h)
   rw[if_neg (by rw[Z7 On];omega),if_neg (by simpa using hi)]
 ·refine Zt (Z6 _ _) (by simp[dj,p1])
 ·refine⟨by rw[eM,<-p1,<-dj (l:=l)];exact k1,by rw[k2];exact⟨rfl,rfl⟩,fun j o hj ho=>?_⟩;have:=(k3 j o hj (by rw[wA]at ho;exact ho)).2.1;simpa only[Zr]using this
 ·intro j o hj ho _;have:=And.intro (k3 j o hj (by rw[wA]at ho;exact ho)).2.2 (k3 j o hj (by rw[wA]at ho;exact ho)).1;simpa only[Zr]using this
 ·intro i hi;have AU:=(aaf.1 hi).1;simp at AU;simp[AU]at hi
 ·rcases k4 with⟨h1,h2⟩|⟨h1,oc,h2,h3⟩
  ·exact .inl ⟨by rw[h1];simp[bM],h2⟩
  ·refine .inr ⟨by simpa using h1,oc,by rw[wA];exact h2,?_⟩;simp only[Zr]at h3;exact h3
 ·refine⟨by rw[k2];exact hI,.refl hF.now,hR.size,hR.defers,by simp[dj,p1],fun i o t x ho hl=>?_,fun t x _ gp=>?_,fun i _ bZ=>?_,Zp _,.inl rfl,fun i o ho hl=>?_⟩
  ·have hi:=(aaf.1 hl).1;simp at hi;simp[hi]at hl
  ·rw[k2]at gp⊢;obtain⟨u,h1,h2⟩:=hR.slot t x gp;exact⟨u,h1,aV.ext hx h2⟩
  ·rw[eM]at bZ;simp[bZ]
  ·have hi:=(aaf.1 hl).1;simp at hi;simp[hi]at hl
structure xx (P:Program) (ow:Nat->Bool) (ws fs:List Nat) (m:Nat) (ex:List Nat) (V0:List (List CV)) (A0:List bu) (cs:List Nat) (K:St->Ts->Prop) (i:Nat) (ops:List Oper) (s:St) (L:Ts):Prop where
 mk::
 run:qN P ow ws fs m ex V0 A0 cs K i ops s L
variable {ow:Nat->Bool} {K:St->Ts->Prop} {i:Nat} {o:Oper} {rest:List Oper}
theorem H3 (hi:cs.contains i=false) (h:bH P s (ow i) o fun x V A=>(i∈ws\/(V=s.V/\A=s.A))/\(i∈ws->i<m->V.take V0.length=rN ex (fun i=>V.getD i []) V0/\A.take A0.length=A0)/\(i∈fs->dw P s (ow i) o ex V0 A0 x)/\xx P ow ws fs m ex V0 A0 cs K (i+1) rest (s.put o.dst x V A) L):xx P ow ws fs m ex V0 A0 cs K i (o::rest) s L:=
 ⟨.inr ⟨by simpa using hi,fV (fun x V A h=>⟨h.1,h.2.1,h.2.2.1,h.2.2.2.run⟩) h⟩⟩
theorem DB (hi:cs.contains i=true) (h:b9 P s L o fun x L'=>xx P ow ws fs m ex V0 A0 cs K (i+1) rest (s.put o.dst x s.V s.A) L'):xx P ow ws fs m ex V0 A0 cs K i (o::rest) s L:=
 ⟨.inl ⟨by simpa using hi,qi (fun x L' h=>h.run) h⟩⟩
theorem F3 (h:K s L):xx P ow ws fs m ex V0 A0 cs K i [] s L:=⟨h⟩
theorem xx.gen {ops:List Oper} {d:Nat} {b:Bool} {fr:List (Nat×AV)} {V:List (List CV)} {A:List bu} (h:∀q:Bool,b=q->xx P ow ws fs m ex V0 A0 cs K i ops ⟨(d,.c (.d (.bool q)))::fr,V,A⟩ L):xx P ow ws fs m ex V0 A0 cs K i ops ⟨(d,.c (.d (.bool b)))::fr,V,A⟩ L:=h b rfl
@[congr] theorem LS {i i':Nat} {ops:List Oper} (hi:i=i') (h:s=s'):xx P ow ws fs m ex V0 A0 cs K i ops s L=xx P ow ws fs m ex V0 A0 cs K i' ops s' L:=by rw[h,hi]
theorem TJ.UH {Q:Exit->St->Ts->Prop} {id:Nat} {l:List Oper} (hm:P.follows .mixedOrders=true) (p:List Nat) (ow:Nat->Bool) (ws fs:List Nat) (m:Nat) (ex:List Nat) (cs:List Nat) (hp:kH l p=true) (hd:mc (bM l p).toArray ws fs m cs=true) (hc:kT (bM l p).toArray ws cs=true) (M4:(cs.all fun i=> !fs.contains i)=true)
  (h:∀K:St->Ts->Prop,(∀s' L',TJ P n y Q s' L'->K s' L')->xx P ow ws fs m ex s.V s.A cs K 0 (eA l p) s L):TJ P n (.seq (.region id l.toArray true) y) Q s L:=
 TJ.seq (TJ.Ao hm p ow ws fs m ex cs hp hd hc M4 (h _ fun _ _ h=>h).run)
end
end Go.Av
namespace Go.Av
attribute [-simp] Go.Av.cb Go.Av.eL Go.Av.fj Go.Av.fa Go.Av.cT Go.Av.b9
open Go
section
variable {P:Program} {n:Nat} {Q:Exit->St->Prop} {s:St}
def Rk (P:Program) (o1 o2:Oper) (K:St->Prop) (s:St):Prop:=
 ∃(t e:TypeId) (x lo:Operand) (d1:Nat) (ty:TypeId) (cs:Array Bool) (d de:TD) (z:List CV) (dz:List DV) (k m:Nat) (ki:IntKind) (i:Int) (r:bu),
  (o1.op=.slice t x (some lo) none none/\o1.dst=some d1/\o1.guard=none/\(∀(a:Act) (w:World),(execOp a.eval o2).run P w=(builtin .clear #[t] ty cs #[a.eval (.tmp d1)]).run P w)/\o2.guard=none)/\
  look s.fr d1=none/\(∀d2,o2.dst=some d2->look s.fr d2=none)/\td P t=some d/\d.el=some e/\td P e=some de/\de.zero=some z/\iy [] z=some dz/\z.length=de.sz/\0<de.sz/\
  bE s x=some (.c (.own k m))/\bE s lo=some (.c (.d (.int ki i)))/\0<=i/\i.toNat<m/\s.A[k]? =some r/\m=r.rows.length/\r.wr=true/\r.sz=de.sz/\
  K ⟨s.fr,s.V,s.A.set k {r with rows:=r.rows.take i.toNat++Z0 (m-i.toNat) dz}⟩
end
section
variable {P:Program} {n:Nat} {Q:Exit->St->Prop} {s s':St} {y:Code}
structure Ot (P:Program) (all:Array Oper) (ow:Nat->Bool) (wv wa fs:List Nat) (m:Nat) (ex:List Nat) (V0:List (List CV)) (A0:List bu) (K:St->Prop) (i:Nat) (ops:List Oper) (s:St):Prop where
 mk::
 run:HE P all ow wv wa fs m ex V0 A0 K i ops s
@[congr] theorem LU {all:Array Oper} {ow:Nat->Bool} {wv wa fs:List Nat} {m:Nat} {ex:List Nat} {V0:List (List CV)} {A0:List bu} {K:St->Prop} {i i':Nat} {ops:List Oper} (hi:i=i') (h:s=s'):Ot P all ow wv wa fs m ex V0 A0 K i ops s=Ot P all ow wv wa fs m ex V0 A0 K i' ops s':=by rw[h,hi]
end
end Go.Av
