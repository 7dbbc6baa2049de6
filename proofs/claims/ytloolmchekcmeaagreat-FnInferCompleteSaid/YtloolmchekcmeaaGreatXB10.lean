/- A part. -/
import Derived.Test.YtloolmchekcmeaaGreatXB9
set_option linter.unusedVariables false
set_option linter.unusedSimpArgs false
open Nat renaming le_refl->ZD,zero_le->ZE,lt_trichotomy->ZF,zero_add->ZG,lt_or_ge->ZH,le_trans->ZI,strongRecOn->ZJ,lt_of_lt_of_le->ZK,lt_or_eq_of_le->ZL,le_total->ZM,add_mul->ZN
open List renaming range->ZO,all_eq_true->ZP,getElem?_eq_getElem->ZQ,mem_append->ZR,getElem?_eq_some_iff->ZS,nodup_append->ZT,zipWith->ZU,mem_range->ZV,mem_iff_getElem?->ZW,getElem?_zipIdx->ZX,getD->ZY,append_assoc->ZZ,take_append_drop->Z0,mem_of_getElem?->Z1,length_cons->Z2,idxOf_lt_length_of_mem->Z3,getElem?_of_mem->Z4,getElem?_append_right->Z5,append_nil->Z6,map_cons->Z7,length_take->Z8,length_nil->Z9,getElem_idxOf->aaa,getElem?_map->aab,zip_append->aac,zipWith_append->aad,replicate->aae,mem_filterMap->aaf,mem_filter->aag,mem_cons->aah,map_map->aai,length_map->aaj,length_filter_le->aak,length_eq_zero_iff->aal,idxOf_eq_length->aam,getElem?_take->aan,getElem?_append_left->aao,getD_eq_getElem?_getD->aap,eq_nil_of_length_eq_zero->aaq,drop_eq_getElem_cons->aar,drop_drop->aas,contains_eq_mem->aat
open Array renaming getElem?_eq_some_iff->aau,getElem?_eq_getElem->aav,mem_toList_iff->aaw,getElem?_setIfInBounds_ne->aax,replicate->aay,getD_eq_getD_getElem?->aaz,mem_of_getElem?->aaA,mem_map->aaB,getElem?_setIfInBounds->aaC,getElem?_replicate->aaD
open Bool renaming and_eq_true->aaE,or_eq_true->aaF,and_self->aaG
open Option renaming map_eq_some_iff->aaH,map_some->aaI
namespace Go.Av
open Go
section
variable {P:Program} {n:Nat} {Q:Exit->St->Prop} {s s':St} {y:Code}
structure Oj (P:Program) (all:Array Oper) (ow:Nat->Bool) (wv wa fs:List Nat) (m:Nat) (ex:List Nat) (V0:List (List CV)) (A0:List bu) (K:St->Prop) (i:Nat) (ops:List Oper) (s:St):Prop where
 mk::
 run:HE P all ow wv wa fs m ex V0 A0 K i ops s
@[congr] theorem LU {all:Array Oper} {ow:Nat->Bool} {wv wa fs:List Nat} {m:Nat} {ex:List Nat} {V0:List (List CV)} {A0:List bu} {K:St->Prop} {i i':Nat} {ops:List Oper} (hi:i=i') (h:s=s'):Oj P all ow wv wa fs m ex V0 A0 K i ops s=Oj P all ow wv wa fs m ex V0 A0 K i' ops s':=by rw[h,hi]
end
section
variable {P:Program} {g g' g0:Gh} {w w' w0:World} {V V':List (List CV)} {A A':List bu}
end
inductive GC where
 |d (x:DV)
 |t (e:TypeId) (sz n:Nat) (cs:List GC)
 |b (T e:TypeId) (bs:List Value)
 |n (T:TypeId) (row:List DV)
mutual
def Tr (w:World):GC->Value->List Nat->Prop
 |.d x,v,S=>bh (fun _=>0) w x v/\S=[]
 |.t e sz n cs,v,S=>∃xs S',w.ownsRow 0 e sz v n xs/\kO w cs xs S'/\S=v.ownBlock.toList++S'
 |.b T e bs,v,S=>∃b p u,v=.pointer (some ⟨b,0,none⟩)/\w.heap[b]? =some (.cells #[p,u] T (0,0))/\(p=.pointer none\/p=v)/\w.ownsRow 0 e 1 u bs.length bs/\S=b::u.ownBlock.toList
 |.n T row,v,S=>∃b xs,v=.pointer (some ⟨b,0,none⟩)/\w.heap[b]? =some (.cells xs T (0,0))/\xs.size=row.length/\(∀(j:Nat) x u,row[j]? =some x->xs[j]? =some u->bh (fun _=>0) w x u)/\S=[b]
def kO (w:World):List GC->List Value->List Nat->Prop
 |[],xs,S=>xs=[]/\S=[]
 |c::cs,xs,S=>∃x xs' S1 S2,xs=x::xs'/\S=S1++S2/\Tr w c x S1/\kO w cs xs' S2
end
def iG (w:World):List (GC×Value)->List Nat->Prop
 |[],S=>S=[]
 |(c,v)::L,S=>∃S1 S2,S=S1++S2/\Tr w c v S1/\iG w L S2
theorem bh.zero {w w':World} {x:DV} {v:Value} {im:Nat->Nat} (h:bh (fun _=>0) w x v):bh im w' x v:=
 bh.fL (im:=fun _=>0) (w:=w) ⟨fun _=>ZE _,fun _ _ ho=>absurd ho (Nat.not_lt_zero _)⟩ x v h
mutual
theorem Tr.dQ {w w':World}:∀(c:GC) (v:Value) (S:List Nat),(∀b∈S,w'.heap[b]? =w.heap[b]?)->Tr w c v S->Tr w' c v S
 |.d x,v,S,_,h=>by simp only[Tr]at h⊢;exact⟨h.1.zero,h.2⟩
 |.t e sz n cs,v,S,hk,h=>by
  simp only[Tr]at h⊢;obtain⟨xs,S',h1,h2,rfl⟩:=h;exact⟨xs,S',nD h1 (fun b hb=>hk b (by simp[hb])),kO.dQ cs xs S' (fun b hb=>hk b (by simp[hb])) h2,rfl⟩
 |.b T e bs,v,S,hk,h=>by
  simp only[Tr]at h⊢;obtain⟨b,p,u,rfl,h1,h2,h3,rfl⟩:=h;exact⟨b,p,u,rfl,(hk b (by simp)).trans h1,h2,nD h3 (fun x hx=>hk x (by simp[hx])),rfl⟩
 |.n T row,v,S,hk,h=>by
  simp only[Tr]at h⊢;obtain⟨b,xs,rfl,h1,h2,h3,rfl⟩:=h;exact⟨b,xs,rfl,(hk b (by simp)).trans h1,h2,fun j x u h4 h5=>(h3 j x u h4 h5).zero,rfl⟩
theorem kO.dQ {w w':World}:∀(cs:List GC) (xs:List Value) (S:List Nat),(∀b∈S,w'.heap[b]? =w.heap[b]?)->kO w cs xs S->kO w' cs xs S
 |[],xs,S,_,h=>by simp only[kO]at h⊢;exact h
 |c::cs,xs,S,hk,h=>by
  simp only[kO]at h⊢;obtain⟨x,xs',S1,S2,rfl,rfl,h1,h2⟩:=h;exact⟨x,xs',S1,S2,rfl,rfl,Tr.dQ c x S1 (fun b hb=>hk b (by simp[hb])) h1,kO.dQ cs xs' S2 (fun b hb=>hk b (by simp[hb])) h2⟩
end
theorem iG.dQ {w w':World}:∀{L:List (GC×Value)} {S:List Nat},(∀b∈S,w'.heap[b]? =w.heap[b]?)->iG w L S->iG w' L S
 |[],S,_,h=>h
 |(c,v)::L,S,hk,h=>by
  obtain⟨S1,S2,rfl,h1,h2⟩:=h;exact⟨S1,S2,rfl,Tr.dQ c v S1 (fun b hb=>hk b (by simp[hb])) h1,iG.dQ (fun b hb=>hk b (by simp[hb])) h2⟩
mutual
theorem Tr.lt {w:World}:∀(c:GC) (v:Value) (S:List Nat),Tr w c v S->∀b∈S,b<w.heap.size
 |.d x,v,S,h,b,hb=>by simp only[Tr]at h;rw[h.2]at hb;cases hb
 |.t e sz n cs,v,S,h,b,hb=>by
  simp only[Tr]at h;obtain⟨xs,S',h1,h2,rfl⟩:=h;rcases ZR.1 hb with h3|h3
  ·exact(h1.lt b (by simpa using h3)).2
  ·exact kO.lt cs xs S' h2 b h3
 |.b T e bs,v,S,h,x,hx=>by
  simp only[Tr]at h;obtain⟨b,p,u,rfl,h1,h2,h3,rfl⟩:=h;rcases aah.1 hx with rfl|hx
  ·exact(aau.1 h1).1
  ·exact(h3.lt x (by simpa using hx)).2
 |.n T row,v,S,h,x,hx=>by
  simp only[Tr]at h;obtain⟨b,xs,rfl,h1,h2,h3,rfl⟩:=h;rw[List.mem_singleton]at hx;subst hx;exact(aau.1 h1).1
theorem kO.lt {w:World}:∀(cs:List GC) (xs:List Value) (S:List Nat),kO w cs xs S->∀b∈S,b<w.heap.size
 |[],xs,S,h,b,hb=>by simp only[kO]at h;rw[h.2]at hb;cases hb
 |c::cs,xs,S,h,b,hb=>by
  simp only[kO]at h;obtain⟨x,xs',S1,S2,rfl,rfl,h1,h2⟩:=h;rcases ZR.1 hb with h3|h3
  ·exact Tr.lt c x S1 h1 b h3
  ·exact kO.lt cs xs' S2 h2 b h3
end
theorem iG.lt {w:World}:∀{L:List (GC×Value)} {S:List Nat},iG w L S->∀b∈S,b<w.heap.size
 |[],S,h,b,hb=>by simp only[iG]at h;rw[h]at hb;cases hb
 |(c,v)::L,S,h,b,hb=>by
  obtain⟨S1,S2,rfl,h1,h2⟩:=h;rcases ZR.1 hb with h3|h3
  ·exact Tr.lt c v S1 h1 b h3
  ·exact iG.lt h2 b h3
theorem iG.app {w:World}:∀{L M:List (GC×Value)} {S:List Nat},iG w (L++M) S↔∃S1 S2,S=S1++S2/\iG w L S1/\iG w M S2
 |[],M,S=>by
  simp only[List.nil_append,iG];constructor
  ·intro h;exact⟨[],S,rfl,rfl,h⟩
  ·rintro⟨_,S2,rfl,rfl,h⟩;exact h
 |(c,v)::L,M,S=>by
  simp only[List.cons_append,iG,iG.app (L:=L)];constructor
  ·rintro⟨S1,S2,rfl,h1,S3,S4,rfl,h2,h3⟩;exact⟨S1++S3,S4,by simp,⟨S1,S3,rfl,h1,h2⟩,h3⟩
  ·rintro⟨S1,S2,rfl,⟨S3,S4,rfl,h1,h2⟩,h3⟩;exact⟨S3,S4++S2,by simp,h1,S4,S2,rfl,h2,h3⟩
theorem iG.perm {w:World} {L M:List (GC×Value)} (hp:L.Perm M):∀{S:List Nat},iG w L S->∃S',S.Perm S'/\iG w M S':=by
 induction hp with
 |nil=>exact fun h=>⟨_,.refl _,h⟩
 |cons x _ ih=>
  obtain⟨c,v⟩:=x;rintro S ⟨S1,S2,rfl,h1,h2⟩;obtain⟨S',h3,h4⟩:=ih h2;exact⟨S1++S',h3.append_left S1,S1,S',rfl,h1,h4⟩
 |swap x y l=>
  obtain⟨c,v⟩:=x;obtain⟨c',v'⟩:=y;rintro S ⟨S1,S2,rfl,h1,S3,S4,rfl,h2,h3⟩;refine⟨S3++(S1++S4),?_,S3,S1++S4,rfl,h2,S1,S4,rfl,h1,h3⟩;rw[<-ZZ,<-ZZ];exact List.perm_append_comm.append_right S4
 |trans _ _ ih1 ih2=>
  intro S h;obtain⟨S',h1,h2⟩:=ih1 h;obtain⟨S'',h3,h4⟩:=ih2 h2;exact⟨S'',h1.trans h3,h4⟩
theorem iG.at_ {w:World}:∀{L:List (GC×Value)} {S:List Nat},iG w L S->∀{c v},(c,v)∈L->∃S',Tr w c v S'/\∀b∈S',b∈S
 |(c,v)::L,S,h,c',v',hm=>by
  obtain⟨S1,S2,rfl,h1,h2⟩:=h;rcases aah.1 hm with e|h3
  ·cases e;exact⟨S1,h1,fun b hb=>by simp[hb]⟩
  ·obtain⟨S',h4,h5⟩:=iG.at_ h2 h3;exact⟨S',h4,fun b hb=>by simp[h5 b hb]⟩
def chunks {α:Type} (sz:Nat):Nat->List α->List (List α)
 |0,_=>[]
 |n+1,l=>l.take sz::chunks sz n (l.drop sz)
theorem xk {α:Type} (sz:Nat):∀(n:Nat) (l:List α),(chunks sz n l).length=n
 |0,_=>rfl
 |n+1,l=>by simp[chunks,xk sz n]
mutual
def GC.dv:GC->DV
 |.d x=>x
 |.t _ sz n cs=>.sl (chunks sz n (yJ cs))
 |.b _ _ _=>.bool false
 |.n _ _=>.bool false
def yJ:List GC->List DV
 |[]=>[]
 |c::cs=>c.dv::yJ cs
end
theorem ET:∀(cs:List GC),yJ cs=cs.map GC.dv
 |[]=>rfl
 |c::cs=>by simp[yJ,ET cs]
theorem kO.len {w:World}:∀{cs:List GC} {xs:List Value} {S:List Nat},kO w cs xs S->cs.length=xs.length
 |[],xs,S,h=>by simp only[kO]at h;rw[h.1];rfl
 |c::cs,xs,S,h=>by
  simp only[kO]at h;obtain⟨x,xs',S1,S2,rfl,rfl,h1,h2⟩:=h;simp[kO.len h2]
mutual
def GC.pl:GC->Bool
 |.d _=>true
 |.t _ _ _ cs=>Ch cs
 |.b _ _ _=>false
 |.n _ _=>false
def Ch:List GC->Bool
 |[]=>true
 |c::cs=>c.pl && Ch cs
end
def M7 (w:World) (b:Nat):Nat:=match w.heap[b]? with
 |some (.cells cs _ _)=>cs.size
 |_=>0
theorem pL {im:Nat->Nat} {w:World} {b sz:Nat}:∀{n:Nat} {l:List DV} {off:Nat},l.length=n*sz->(∀j x,l[j]? =some x->∃u,w.cell? ⟨b,off+j,none⟩=some u/\bh im w x u)->cr im w b sz off (chunks sz n l)
 |0,l,off,_,_=>by simp[chunks,cr]
 |n+1,l,off,hl,h=>by
  rw[ZN]at hl;simp only[chunks,cr];refine⟨by rw[Z8];omega,dB.mk fun j x hx=>?_,pL (by rw[List.length_drop];omega) fun j x hx=>?_⟩
  ·refine h j x ?_;rw[aan]at hx;split at hx
   ·exact hx
   ·cases hx
  ·rw[List.getElem?_drop]at hx;have:=h (sz+j) x hx;rwa[<-Nat.add_assoc]at this
mutual
theorem Tr.rep {w:World} {im:Nat->Nat}:∀(c:GC) (v:Value) (S:List Nat),c.pl=true->Tr w c v S->(∀b∈S,M7 w b<=im b)->bh im w c.dv v
 |.d x,v,S,_,h,_=>by simp only[Tr]at h;exact h.1.zero
 |.b _ _ _,v,S,hp,_,_=>by simp[GC.pl]at hp
 |.n _ _,v,S,hp,_,_=>by simp[GC.pl]at hp
 |.t e sz n cs,v,S,hp,h,hS=>by
  simp only[Tr]at h;simp only[GC.pl]at hp;obtain⟨xs,S',h1,h2,rfl⟩:=h;have vS:=kO.rep cs xs S' hp h2 (fun b hb=>hS b (by simp[hb]));have hlen:(yJ cs).length=n*sz:=by rw[ET,aaj,h2.len,h1.1]
  obtain⟨Jj,h3⟩:=h1;rcases h3 with⟨rfl,rfl⟩|⟨g,cap,cur,rfl,_,hh,hc,hm,Rs,yW⟩
  ·simp only[GC.dv,bh,chunks];exact⟨none,0,rfl,ZD _,.inl trivial⟩
  ·have hb:=hS g (by simp[Value.ownBlock]);have Tl:M7 w g=cap*sz:=by simp[M7,hh,Rs]
   have hmul:n*sz<=cap*sz:=Nat.mul_le_mul_right sz hc;simp only[GC.dv,bh,xk];refine⟨_,cap,rfl,hc,.inr ⟨g,0,sz,rfl,by omega,pL hlen fun j x hx=>?_⟩⟩;obtain⟨u,hu,hd⟩:=vS j x hx;refine⟨u,?_,hd⟩;rw[<-yW,aan]at hu;split at hu
   ·have KD:cur[0+j]? =some u:=by simpa using hu
    simp only[World.cell?,hh];exact KD
   ·cases hu
theorem kO.rep {w:World} {im:Nat->Nat}:∀(cs:List GC) (xs:List Value) (S:List Nat),Ch cs=true->kO w cs xs S->(∀b∈S,M7 w b<=im b)->∀(j:Nat) x,(yJ cs)[j]? =some x->∃u,xs[j]? =some u/\bh im w x u
 |[],xs,S,_,_,_,j,x,hx=>by simp[yJ]at hx
 |c::cs,xs,S,hp,h,hS,j,x,hx=>by
  simp only[kO]at h;simp only[Ch,aaE]at hp;obtain⟨y,xs',S1,S2,rfl,rfl,h1,h2⟩:=h;cases j with
  |zero=>
   simp[yJ]at hx;subst hx;exact⟨y,rfl,Tr.rep c y S1 hp.1 h1 (fun b hb=>hS b (by simp[hb]))⟩
  |succ j=>
   simp[yJ]at hx;obtain⟨u,h3,h4⟩:=kO.rep cs xs' S2 hp.2 h2 (fun b hb=>hS b (by simp[hb])) j x hx;exact⟨u,by simpa using h3,h4⟩
end
def DV.kD:DV->Bool
 |.sl rows=>rows.isEmpty
 |_=>true
inductive Mk:List GC->List DV->List (GC×Value)->Prop
 |nil:Mk [] [] []
 |d {x cs ds L}:x.kD=true->Mk cs ds L->Mk (.d x::cs) (x::ds) L
 |t {e sz n k cs ds L v}:Mk cs ds L->Mk (.t e sz n k::cs) (.raw v::ds) ((.t e sz n k,v)::L)
 |b {T e bs cs ds L v}:Mk cs ds L->Mk (.b T e bs::cs) (.raw v::ds) ((.b T e bs,v)::L)
 |n {T row cs ds L v}:Mk cs ds L->Mk (.n T row::cs) (.raw v::ds) ((.n T row,v)::L)
theorem DV.sK {x:DV} {v:Value} {im im':Nat->Nat} {w w':World} (hs:x.kD=true) (h:bh im w x v):bh im' w' x v:=by
 cases x with
 |sl rows=>
  have:rows=[]:=by simpa[DV.kD]using hs
  subst this;simp only[bh]at h⊢;obtain⟨a,cap,e,h1,_⟩:=h;exact⟨a,cap,e,h1,.inl trivial⟩
 |_=>exact h
theorem Mk.P0 {w:World} {im:Nat->Nat} {cs:List GC} {ds:List DV} {L:List (GC×Value)} (h:Mk cs ds L):∀{xs:List Value} {S:List Nat},xs.length=ds.length->(∀(j:Nat) x u,ds[j]? =some x->xs[j]? =some u->bh im w x u)->iG w L S->kO w cs xs S:=by
 induction h with
 |nil=>
  intro xs S hl _ hS;simp only[iG]at hS;simp only[kO];exact⟨aal.1 (by simpa using hl),hS⟩
 | @d x cs ds L hs _ ih=>
  intro xs S hl hr hS
  match xs,hl with
  |u::us,hl=>
   simp only[kO];exact⟨u,us,[],S,rfl,rfl,by simp only[Tr];exact⟨DV.sK hs (hr 0 x u rfl rfl),trivial⟩,ih (by simpa using hl) (fun j x u h1 h2=>hr (j+1) x u (by simpa using h1) (by simpa using h2)) hS⟩
 | @t e sz n k cs ds L v _ ih=>
  intro xs S hl hr hS
  match xs,hl with
  |u::us,hl=>
   obtain⟨S1,S2,rfl,h1,h2⟩:=hS;have hu:=hr 0 _ u rfl rfl;simp only[bh]at hu;obtain⟨rfl,_⟩:=hu;simp only[kO];exact⟨u,us,S1,S2,rfl,rfl,h1,ih (by simpa using hl) (fun j x u h1 h2=>hr (j+1) x u (by simpa using h1) (by simpa using h2)) h2⟩
 | @b T e bs cs ds L v _ ih=>
  intro xs S hl hr hS
  match xs,hl with
  |u::us,hl=>
   obtain⟨S1,S2,rfl,h1,h2⟩:=hS;have hu:=hr 0 _ u rfl rfl;simp only[bh]at hu;obtain⟨rfl,_⟩:=hu;simp only[kO];exact⟨u,us,S1,S2,rfl,rfl,h1,ih (by simpa using hl) (fun j x u h1 h2=>hr (j+1) x u (by simpa using h1) (by simpa using h2)) h2⟩
 | @n T row cs ds L v _ ih=>
  intro xs S hl hr hS
  match xs,hl with
  |u::us,hl=>
   obtain⟨S1,S2,rfl,h1,h2⟩:=hS;have hu:=hr 0 _ u rfl rfl;simp only[bh]at hu;obtain⟨rfl,_⟩:=hu;simp only[kO];exact⟨u,us,S1,S2,rfl,rfl,h1,ih (by simpa using hl) (fun j x u h1 h2=>hr (j+1) x u (by simpa using h1) (by simpa using h2)) h2⟩
abbrev Ts:=List (GC×Value)
inductive ju (L:Ts):CV->CV->Prop
 |d {x}:ju L (.d x) (.d x)
 |nil:ju L .nil (.d (.sl []))
 |Rt:ju L .nil .nil
 |np:ju L .np .np
 |fn {f}:ju L (.fn f []) (.fn f [])
 |Ok {c v}:(c,v)∈L->c.pl=true->ju L (.d (.raw v)) (.d c.dv)
inductive v8 (L:Ts):List CV->List CV->Prop
 |nil:v8 L [] []
 |cons {x y xs ys}:ju L x y->v8 L xs ys->v8 L (x::xs) (y::ys)
inductive vg (L:Ts):AV->AV->Prop
 |c {x y}:ju L x y->vg L (.c x) (.c y)
 |agg {xs ys}:v8 L xs ys->vg L (.agg xs) (.agg ys)
inductive iQ (L:Ts):List AV->List AV->Prop
 |nil:iQ L [] []
 |cons {x y xs ys}:vg L x y->iQ L xs ys->iQ L (x::xs) (y::ys)
structure xl (w0:World) (g0:Gh) (X:List Nat) (w:World) (g:Gh):Prop where
 os:w.os=w0.os
 tape:w.tape=w0.tape
 output:w.output=w0.output
 size:w0.heap.size<=w.heap.size
 qI:∀b,b<w0.heap.size->b∉g0.ob->b∉g0.jy->b∉X->w.heap[b]? =w0.heap[b]?
 js:∀b,b<w0.heap.size->b∉g0.jy->b∉X->g.im b=g0.im b
 ob:∃new,g.ob=g0.ob++new/\∀b∈new,w0.heap.size<=b
 ar:∀(k:Nat) v b,g.ar[k]? =some v->v.ownBlock=some b->w0.heap.size<=b\/b∈g0.jy\/b∈X
 wk:∀(k:Nat) v,g0.ar[k]? =some v->∃v',g.ar[k]? =some v'/\rT v<=rT v'/\(rT v'=rT v->v'=v)
 yl:Bi w0 g0
 Ci:∀b∈X,¬o4 b
section
variable {P:Program} {n:Nat} {w0 w w':World} {g0 g g':Gh} {X S S':List Nat} {s s':St} {L L':Ts} {a a':Act}
theorem xl.refl (ht:Bi w g) (hx:∀b∈X,¬o4 b):xl w g X w g:=
 ⟨rfl,rfl,rfl,ZD _,fun _ _ _ _ _=>rfl,fun _ _ _ _=>rfl,⟨[],by simp,by simp⟩,fun k v b hk hb=>.inr (.inl (Gh.j6 hk hb)),fun k v h=>⟨v,h,ZD _,fun _=>rfl⟩,ht,hx⟩
theorem xl.EN (h:xl w0 g0 X w g) {b:Nat} (hb:b<w0.heap.size) (h1:b∉g0.ob):b∉g.ob:=fun hm=>by
 obtain⟨new,e,hn⟩:=h.ob;rw[e]at hm;rcases ZR.1 hm with q|q
 ·exact h1 q
 ·exact absurd (hn b q) (by omega)
theorem xl.tS (h:xl w0 g0 X w g) {b:Nat} (hb:b<w0.heap.size) (h1:b∉g0.jy) (h2:b∉X):b∉g.jy:=fun hm=>by
 obtain⟨k,v,q1,q2⟩:=Gh.fQ hm;rcases h.ar k v b q1 q2 with q|q|q
 ·omega
 ·exact h1 q
 ·exact h2 q
theorem xl.now (h:xl w0 g0 X w g):Bi w g:=fun b hb=>by
 obtain⟨h1,h2,h3,h4⟩:=h.yl b hb;refine⟨ZK h1 h.size,h.EN h1 h2,h.tS h1 h3 (fun hx=>h.Ci b hx hb),?_⟩;rw[h.qI b h1 h2 h3 (fun hx=>h.Ci b hx hb)];exact h4
theorem xl.fr (h:xl w0 g0 X w g) (k:Fr w g w' g'):xl w0 g0 X w' g':=by
 refine⟨k.os.trans h.os,k.tape.trans h.tape,k.output.trans h.output,ZI h.size k.size,fun b h1 h2 h3 h4=>?_,fun b h1 h2 h3=>?_,?_,fun i v b h1 h2=>?_,fun i v h1=>?_,h.yl,h.Ci⟩
 ·rw[k.qI b (ZK h1 h.size) (h.EN h1 h2) (h.tS h1 h3 h4)];exact h.qI b h1 h2 h3 h4
 ·rw[k.js b (ZK h1 h.size) (h.tS h1 h2 h3)];exact h.js b h1 h2 h3
 ·obtain⟨new,e,hn⟩:=h.ob;obtain⟨new',e',MM⟩:=k.ob;refine⟨new++new',by rw[e',e,ZZ],fun b hb=>?_⟩;rcases ZR.1 hb with q|q
  ·exact hn b q
  ·exact ZI h.size (MM b q)
 ·rcases k.ar i v b h1 h2 with q|q
  ·exact .inl (ZI h.size q)
  ·obtain⟨j,v',q1,q2⟩:=Gh.fQ q;exact h.ar j v' b q1 q2
 ·obtain⟨v1,q1,q2,q3⟩:=h.wk i v h1;obtain⟨v2,q4,q5,q6⟩:=k.wk i v1 q1;exact⟨v2,q4,ZI q2 q5,fun e=>(q6 (by omega)).trans (q3 (by omega))⟩
structure ry (n:Nat) (w0:World) (g0:Gh) (X:List Nat) (s:St) (L:Ts) (S:List Nat) (g:Gh) (a:Act) (w:World):Prop where
 inv:Inv g w s.V s.A
 fr:xl w0 g0 X w g
 size:a.tmps.size=n
 defers:a.defers=[]
 slot:∀t x,look s.fr t=some x->∃u,a.tmps[t]? =some u/\aO g w s.A x u
 nC:iG w L S
 nd:S.Nodup
 out:∀b∈S,g.im b=0/\b∉g.ob/\b∉g.jy/\¬o4 b/\(w0.heap.size<=b\/b∈X)
theorem ry.rp (h:ry n w0 g0 X s L S g a w):Rp n w g s g a w:=⟨h.inv,.refl h.fr.now,h.size,h.defers,h.slot⟩
theorem ry.xm (h:ry n w0 g0 X s L S g a w) (k:Fr w g w' g'):iG w' L S/\∀b∈S,g'.im b=0/\b∉g'.ob/\b∉g'.jy/\¬o4 b/\(w0.heap.size<=b\/b∈X):=by
 have ax:=h.nC.lt;refine⟨h.nC.dQ fun b hb=>k.qI b (ax b hb) (h.out b hb).2.1 (h.out b hb).2.2.1,fun b hb=>?_⟩;obtain⟨h1,h2,h3,h4,h5⟩:=h.out b hb;have yi:=ax b hb;refine⟨(k.js b yi h3).trans h1,fun hm=>?_,fun hm=>?_,h4,h5⟩
 ·obtain⟨new,e,hn⟩:=k.ob;rw[e]at hm;rcases ZR.1 hm with q|q
  ·exact h2 q
  ·exact absurd (hn b q) (by omega)
 ·obtain⟨i,v,q1,q2⟩:=Gh.fQ hm;rcases k.ar i v b q1 q2 with q|q
  ·omega
  ·exact h3 q
theorem ry.back (h:ry n w0 g0 X s L S g a w) (k:Rp n w g s' g' a' w'):ry n w0 g0 X s' L S g' a' w':=
 ⟨k.inv,h.fr.fr k.fr,k.size,k.defers,k.slot,(h.xm k.fr).1,h.nd,(h.xm k.fr).2⟩
theorem ry.less (h:ry n w0 g0 X s L S g a w) {M:Ts} (hp:L.Perm (L'++M)):∃S',ry n w0 g0 X s L' S' g a w:=by
 obtain⟨S1,h1,h2⟩:=h.nC.perm hp;obtain⟨S2,S3,rfl,h3,_⟩:=iG.app.1 h2;exact⟨S2,h.inv,h.fr,h.size,h.defers,h.slot,h3,(ZT.1 (h1.nodup_iff.1 h.nd)).1,fun b hb=>h.out b (h1.mem_iff.2 (by simp[hb]))⟩
def TJ (P:Program) (n:Nat) (c:Code) (Q:Exit->St->Ts->Prop) (s:St) (L:Ts):Prop:=
 codeOk n c=true->∀w0 g0 X S g a w,ry n w0 g0 X s L S g a w->c.wp P (fun e a' w'=>∃s' g' L' S',Q e s' L'/\ry n w0 g0 X s' L' S' g' a' w') a w
variable {Q Q':Exit->St->Ts->Prop} {c x y:Code}
theorem TJ.mono (h:TJ P n c Q s L) (hq:∀e s' L',Q e s' L'->Q' e s' L'):TJ P n c Q' s L:=
 fun eT w0 g0 X S g a w hR=>Go.wp_mono (h eT w0 g0 X S g a w hR) fun _ _ _ ⟨s',g',L',S',h1,h2⟩=>⟨s',g',L',S',hq _ _ _ h1,h2⟩
theorem TJ.less {M:Ts} (hp:L.Perm (L'++M)) (h:TJ P n c Q s L'):TJ P n c Q s L:=by
 intro eT w0 g0 X S g a w hR;obtain⟨S',vW⟩:=hR.less hp;exact h eT w0 g0 X S' g a w vW
def oI (P:Program) (n:Nat) (c:Code) (Q:Exit->St->Ts->Prop):Exit->St->Ts->Prop
 |.normal,s,L=>TJ P n c Q s L
 |e,s,L=>Q e s L
theorem TJ.seq (h:TJ P n x (oI P n y Q) s L):TJ P n (.seq x y) Q s L:=by
 intro eT w0 g0 X S g a w hR;simp only[codeOk,aaE]at eT;refine wp_seq (Go.wp_mono (h eT.1 w0 g0 X S g a w hR) ?_);rintro e a' w' ⟨s',g',L',S',h1,h2⟩;cases e with
 |normal=>exact h1 eT.2 w0 g0 X S' g' a' w' h2
 |_=>exact⟨s',g',L',S',h1,h2⟩
theorem TJ.skip (h:Q .normal s L):TJ P n .skip Q s L:=fun _ _ _ _ S g _ _ hR=>wp_skip ⟨s,g,L,S,h,hR⟩
theorem TJ.exit {id:Nat} (h:Q (.exit id) s L):TJ P n (.exit id) Q s L:=fun _ _ _ _ S g _ _ hR=>wp_exit ⟨s,g,L,S,h,hR⟩
theorem TJ.ret (h:Q .ret s L):TJ P n .ret Q s L:=fun _ _ _ _ S g _ _ hR=>wp_ret ⟨s,g,L,S,h,hR⟩
theorem TJ.cond {o:Operand} {b:Bool} (hc:bF s o=some (.c (.d (.bool b)))) (ht:b=true->TJ P n x Q s L) (hf:b=false->TJ P n y Q s L):TJ P n (.cond o x y) Q s L:=by
 intro eT w0 g0 X S g a w hR;simp only[codeOk,aaE]at eT;have hv:=aJ hR.slot hc;simp only[aO,dK,bn,bh]at hv;exact wp_cond_split hv (fun e=>ht e eT.1 w0 g0 X S g a w hR) (fun e=>hf e eT.2 w0 g0 X S g a w hR)
def fG (id:Nat) (Q:Exit->St->Ts->Prop):Exit->St->Ts->Prop
 |.exit id',s,L=>if id'=id then Q .normal s L else Q (.exit id') s L
 |e,s,L=>Q e s L
theorem TJ.block {id:Nat} (h:TJ P n c (fG id Q) s L):TJ P n (.block id c) Q s L:=by
 intro eT w0 g0 X S g a w hR;refine wp_block (Go.wp_mono (h eT w0 g0 X S g a w hR) ?_);rintro e a' w' ⟨s',g',L',S',h1,h2⟩;cases e with
 |exit id'=>
  simp only[fG]at h1;simp only[Exit.inBlock];split
  ·rename_i e;rw[if_pos e]at h1;exact⟨s',g',L',S',h1,h2⟩
  ·rename_i e;rw[if_neg e]at h1;exact⟨s',g',L',S',h1,h2⟩
 |_=>exact⟨s',g',L',S',h1,h2⟩
def pM (P:Program) (n:Nat) (c:Code) (Q:Exit->St->Ts->Prop):Nat->St->Ts->Prop
 |0,_,_=>False
 |k+1,s,L=>TJ P n c (fun e s' L'=>match e with|.normal=>pM P n c Q k s' L'|e=>Q e s' L') s L
theorem pM.succ:∀{k:Nat} {s:St} {L:Ts},pM P n c Q k s L->pM P n c Q (k+1) s L
 |0,_,_,h=>h.elim
 |k+1,s,L,h=>TJ.mono h fun e s' L' h1=>by cases e<;>first|exact pM.succ h1|exact h1
theorem pM.le {k k':Nat} (hk:k<=k') {s:St} {L:Ts} (h:pM P n c Q k s L):pM P n c Q k' s L:=by
 induction hk with
 |refl=>exact h
 |step _ ih=>exact ih.succ
theorem TJ.mU {k:Nat} (h:pM P n c Q k s L):TJ P n (.loop c) Q s L:=by
 intro eT w0 g0 X S g a w hR;refine wp_loop_rounds k ?_;have key:∀k s L S g a w,pM P n c Q k s L->ry n w0 g0 X s L S g a w->Code.rounds P c (fun e a' w'=>∃s' g' L' S',Q e s' L'/\ry n w0 g0 X s' L' S' g' a' w') k a w:=by
  intro k;induction k with
  |zero=>intro s L S g a w h _;exact h.elim
  |succ k ih=>
   intro s L S g a w h hR;rw[rounds_succ];refine Go.wp_mono (h eT w0 g0 X S g a w hR) ?_;rintro e a' w' ⟨s',g',L',S',h1,h2⟩;cases e with
   |normal=>exact ih s' L' S' g' a' w' h1 h2
   |_=>exact⟨s',g',L',S',h1,h2⟩
 exact key k s L S g a w h hR
theorem TJ.loop (I:Nat->St->Ts->Prop) (h:∀k s L,I k s L->TJ P n c (fun e s' L'=>match e with|.normal=>∃k',k'<k/\I k' s' L'|e=>Q e s' L') s L) {k:Nat} (h0:I k s L):TJ P n (.loop c) Q s L:=by
 have key:∀k s L,I k s L->pM P n c Q (k+1) s L:=by
  intro k;induction k using ZJ with
  |_ k ih=>
   intro s L hs;refine TJ.mono (h k s L hs) fun e s' L' h1=>?_
   cases e with
   |normal=>obtain⟨k',hk,h2⟩:=h1;exact(ih k' hk s' L' h2).le hk
   |_=>exact h1
 exact TJ.mU (key k s L h0)
theorem TJ.forget (cR:List (Nat×AV)) (gK:∀t x,look cR t=some x->look s.fr t=some x) (h:TJ P n c Q ⟨cR,s.V,s.A⟩ L):TJ P n c Q s L:=
 fun eT w0 g0 X S g a w hR=>h eT w0 g0 X S g a w ⟨hR.inv,hR.fr,hR.size,hR.defers,fun t x hx=>hR.slot t x (gK t x hx),hR.nC,hR.nd,hR.out⟩
def DU {α:Type} (St_:α->St) (Tr_:α->Ts) (m:α->Nat) (H:α->Prop) (k:Nat) (Q:Exit->St->Ts->Prop):Exit->St->Ts->Prop
 |.normal,s',L'=>∃a' M,m a'<k/\H a'/\Sub (St_ a') s'/\L'.Perm (Tr_ a'++M)
 |e,s',L'=>Q e s' L'
theorem TJ.gy {α:Type} (St_:α->St) (Tr_:α->Ts) (m:α->Nat) (H:α->Prop) (h:∀a,H a->TJ P n c (DU St_ Tr_ m H (m a) Q) (St_ a) (Tr_ a)) (a:α) (ha:H a) (hs:Sub (St_ a) s) {M:Ts} (hL:L.Perm (Tr_ a++M)):TJ P n (.loop c) Q s L:=by
 refine TJ.loop (fun k s L=>∃a M,m a=k/\H a/\(St_ a).V=s.V/\(St_ a).A=s.A/\(∀t x,look (St_ a).fr t=some x->look s.fr t=some x)/\L.Perm (Tr_ a++M)) ?_ (k:=m a) ⟨a,M,rfl,ha,hs.1,hs.2.1,kL.look hs.2.2,hL⟩;rintro k s1 L1 ⟨a',M',rfl,h2,h3,h4,h5,h6⟩;refine TJ.less h6 (TJ.forget (St_ a').fr h5 ?_);rw[<-h3,<-h4];refine TJ.mono (h a' h2) fun e s2 L2 h7=>?_
 cases e with
 |normal=>
  obtain⟨a2,M2,h8,h9,cJ,eG⟩:=h7;exact⟨_,h8,a2,M2,rfl,h9,cJ.1,cJ.2.1,kL.look cJ.2.2,eG⟩
 |_=>exact h7
def FY (r:AV) (v:Value):Prop:=∀g w A,aO g w A r v
def aU (P:Program) (f:FuncId) (as_:List AV) (L:Ts) (R:AV->Ts->Prop):Prop:=
 (∀args w,(callFunc f args).run P w=.ok (.enter f args) w)/\
 ∀(g:Gh) (w:World) (vs:Array Value) (S:List Nat),g.ob=[]->g.ar=[]->Inv g w [] []->Bi w g->vs.size=as_.length->(∀(i:Nat) x u,as_[i]? =some x->vs[i]? =some u->aO g w [] x u)->
  iG w L S->S.Nodup->(∀b∈S,g.im b=0/\¬o4 b)->
  Calls P f vs w fun e w'=>∃v r L' S',e=.returned v/\R r L'/\FY r v/\iG w' L' S'/\S'.Nodup/\(∀b∈S',b∈S\/w.heap.size<=b)/\
   w'.os=w.os/\w'.tape=w.tape/\w'.output=w.output/\w.heap.size<=w'.heap.size/\∀b,b<w.heap.size->b∉S->w'.heap[b]? =w.heap[b]?
theorem iQ.len {L:Ts} {xs as_:List AV} (h:iQ L xs as_):xs.length=as_.length:=by
 induction h with
 |nil=>rfl
 |cons _ _ ih=>simp[ih]
theorem iQ.at_ {L:Ts} {xs as_:List AV} (h:iQ L xs as_):∀{i:Nat} {y:AV},as_[i]? =some y->∃x,xs[i]? =some x/\vg L x y:=by
 induction h with
 |nil=>intro i y hy;simp at hy
 |cons h1 _ ih=>
  intro i y hy;cases i with
  |zero=>simp at hy;subst hy;exact⟨_,rfl,h1⟩
  |succ i=>simp at hy;simpa using ih hy
theorem v8.len {L:Ts} {xs as_:List CV} (h:v8 L xs as_):xs.length=as_.length:=by
 induction h with
 |nil=>rfl
 |cons _ _ ih=>simp[ih]
theorem v8.at_ {L:Ts} {xs as_:List CV} (h:v8 L xs as_):∀{i:Nat} {y:CV},as_[i]? =some y->∃x,xs[i]? =some x/\ju L x y:=by
 induction h with
 |nil=>intro i y hy;simp at hy
 |cons h1 _ ih=>
  intro i y hy;cases i with
  |zero=>simp at hy;subst hy;exact⟨_,rfl,h1⟩
  |succ i=>simp at hy;simpa using ih hy
def vL (g:Gh) (w:World) (S:List Nat):Gh:={ob:=[],ar:=[],im:=fun b=>if b∈S then M7 w b else g.im b}
theorem ju.rep {A:List bu} {x y:CV} (h:ju L x y) (hS:∀b∈S,g.im b=0) (hT:iG w L S) {u:Value} (hr:bn g w A x u):bn (vL g w S) w [] y u:=by
 have hle:∀b,g.im b<=(vL g w S).im b:=fun b=>by
  simp only[vL];split
  ·rename_i h;rw[hS b h];exact ZE _
  ·exact ZD _
 cases h with
 | @d x=>exact bh.fL ⟨hle,fun _ _ _=>rfl⟩ x u hr
 |nil=>
  simp only[bn]at hr;subst hr;simp only[bn,bh];exact⟨none,0,rfl,ZD _,.inl trivial⟩
 |Rt=>exact hr
 |np=>exact hr
 |fn=>
  obtain⟨bks,h1,h2,_⟩:=hr;exact⟨bks,h1,h2,fun i l b h=>by simp at h⟩
 | @Ok c v hm l6=>
  simp only[bn,bh]at hr;obtain⟨rfl,_⟩:=hr;obtain⟨S',h1,h2⟩:=hT.at_ hm;exact Tr.rep c _ S' l6 h1 fun b hb=>by simp[vL,h2 b hb]
theorem vg.rep {A:List bu} {x y:AV} (h:vg L x y) (hS:∀b∈S,g.im b=0) (hT:iG w L S) {u:Value} (hr:aO g w A x u):aO (vL g w S) w [] y u:=by
 cases h with
 | @c x y h=>exact ju.rep (A:=A) h hS hT hr
 | @agg xs ys h=>
  obtain⟨vs,e,hl,hc⟩:=hr;refine⟨vs,e,by rw[hl,h.len],fun i y u h1 h2=>?_⟩;obtain⟨x,h3,h4⟩:=h.at_ h1;exact h4.rep hS hT (hc i x u h3 h2)
def og (P:Program) (s:St) (L:Ts) (f:FuncId) (xs:List AV) (K:AV->List (List CV)->List bu->Ts->Prop):Prop:=
 gJ P s f xs (fun x V A=>K x V A L)\/
 ∃(as_:List AV) (L1 L2:Ts) (R:AV->Ts->Prop),L.Perm (L1++L2)/\iQ L2 xs as_/\aU P f as_ L1 R/\∀r L1',R r L1'->K r s.V s.A (L1'++L2)
theorem iG.zA {S1 S2:List Nat} (h:(S1++S2).Nodup):∀b∈S1,b∉S2:=fun b h1 h2=>(ZT.1 h).2.2 b h1 b h2 rfl
theorem Cj (hR:ry n w0 g0 X s L S g a w) {f:FuncId} {xs as_:List AV} {L1 L2:Ts} {R:AV->Ts->Prop} (hp:L.Perm (L1++L2)) (FZ:iQ L2 xs as_) (hc:aU P f as_ L1 R) {vs:Array Value} (hl:vs.size=xs.length)
  (hr:∀(i:Nat) x u,xs[i]? =some x->vs[i]? =some u->aO g w s.A x u):
  Calls P f vs w fun e w'=>∃v r L' S',e=.returned v/\R r L'/\FY r v/\Inv g w' s.V s.A/\Ext g w s.A g w' s.A/\xl w0 g0 X w' g/\iG w' (L'++L2) S'/\S'.Nodup/\∀b∈S',g.im b=0/\b∉g.ob/\b∉g.jy/\¬o4 b/\(w0.heap.size<=b\/b∈X):=by
 obtain⟨S0,vM,hT⟩:=hR.nC.perm hp;obtain⟨S1,S2,rfl,LV,At⟩:=iG.app.1 hT;have oO:(S1++S2).Nodup:=vM.nodup_iff.1 hR.nd;have jB:∀b∈S1++S2,_:=fun b hb=>hR.out b (vM.mem_iff.2 hb)
 have fY:=iG.zA oO;have PX:∀b∈S1,g.im b=0:=fun b hb=>(jB b (by simp[hb])).1
 have Cc:∀b∈S2,g.im b=0:=fun b hb=>(jB b (by simp[hb])).1
 have Ol:=hR.fr.now;have Om:Inv (vL g w S2) w [] []:=⟨rfl,rfl,fun l row b h=>by simp at h,fun k r v h=>by simp at h,fun l l' b h=>by simp[vL]at h,fun k k' v v' b h=>by simp[vL]at h,fun l k v b h=>by simp[vL]at h,fun b hb=>by
  have:b∉S2:=fun h=>absurd (At.lt b h) (by omega)
  simp only[vL,if_neg this];exact hR.inv.fresh b hb⟩
 have On:Bi w (vL g w S2):=Ol.less (by simp[vL]) (by simp[vL,Gh.jy]);refine(hc.2 (vL g w S2) w vs S1 rfl rfl Om On (by rw[hl,FZ.len]) (fun i y u h1 h2=>?_) LV (ZT.1 oO).1 (fun b hb=>⟨by simp only[vL,if_neg (fY b hb)];exact PX b hb,(jB b (by simp[hb])).2.2.2.1⟩)).mono ?_
 ·obtain⟨x,h3,h4⟩:=FZ.at_ h1;exact h4.rep Cc At (hr i x u h3 h2)
 rintro e w' ⟨v,r,L',S',rfl,gU,LW,HV,yK,b8,ho,ht,gL,e5,yy⟩;have HW:∀b,b<w.heap.size->b∈g.ob\/b∈g.jy\/0<g.im b->w'.heap[b]? =w.heap[b]? :=fun b hb hx=>yy b hb fun hm=>by
  obtain⟨q1,q2,q3,_⟩:=jB b (by simp[hm]);rcases hx with h|h|h
  ·exact q2 h
  ·exact q3 h
  ·omega
 have hx:Ext g w s.A g w' s.A:=⟨fun _ _ h=>h,⟨fun _=>ZD _,fun b o ax=>by
  have hb:=hR.inv.G7 ax;exact World.cell?_of_block (a:=⟨b,o,none⟩) (HW b hb (.inr (.inr (by omega))))⟩,fun _ r h=>⟨r,h,rfl,ZD _,fun _=>rfl⟩⟩
 have Ru:Inv g w' s.V s.A:=⟨hR.inv.o0,hR.inv.lT,fun l row b h1 h2=>hR.inv.fA hx h1 h2 (HW b (hR.inv.qW h2) (.inl (Z1 h2))) (hR.inv.obj l row b h1 h2).1,
  fun k r v h1 h2=>hR.inv.fB hx h1 h2 (fun b hb=>HW b (hR.inv.mN h2 hb) (.inr (.inl (Gh.j6 h2 hb)))) (fun _ _=>rfl),hR.inv.kZ,hR.inv.jr,hR.inv.jz,fun b hb=>hR.inv.fresh b (by omega)⟩
 have hX:∀b∈S1,w0.heap.size<=b\/b∈X:=fun b hb=>(jB b (by simp[hb])).2.2.2.2
 have hF:xl w0 g0 X w' g:=⟨ho.trans hR.fr.os,ht.trans hR.fr.tape,gL.trans hR.fr.output,ZI hR.fr.size e5,fun b h1 h2 h3 h4=>by
  rw[yy b (ZK h1 hR.fr.size) (fun hm=>by rcases hX b hm with q|q;omega;exact h4 q)];exact hR.fr.qI b h1 h2 h3 h4,hR.fr.js,hR.fr.ob,hR.fr.ar,hR.fr.wk,hR.fr.yl,hR.fr.Ci⟩
 have Rv:iG w' L2 S2:=At.dQ fun b hb=>yy b (At.lt b hb) fun hm=>fY b hm hb
 have Oo:∀b∈g.ob,b<w.heap.size:=fun b hb=>by
  obtain⟨l,hl⟩:=Z4 hb;exact hR.inv.qW hl
 have G9:∀b∈g.jy,b<w.heap.size:=fun b hb=>by
  obtain⟨k,v,q1,q2⟩:=Gh.fQ hb;exact hR.inv.mN q1 q2
 refine⟨v,r,L',S'++S2,rfl,gU,LW,Ru,hx,hF,iG.app.2 ⟨S',S2,rfl,HV,Rv⟩,ZT.2 ⟨yK,(ZT.1 oO).2.1,fun b hb c hc=>?_⟩,fun b hb=>?_⟩
 ·rintro rfl;rcases b8 b hb with q|q
  ·exact fY b q hc
  ·exact absurd (At.lt b hc) (by omega)
 ·rcases ZR.1 hb with hb|hb
  ·rcases b8 b hb with q|q
   ·exact jB b (by simp[q])
   ·refine⟨hR.inv.fresh b q,fun hm=>absurd (Oo b hm) (by omega),fun hm=>absurd (G9 b hm) (by omega),fun hm=>?_,.inl (ZI hR.fr.size q)⟩;have:=(Ol b hm).1;omega
  ·exact jB b (by simp[hb])
end
section
variable {P:Program} {n:Nat} {w0 w w':World} {g0 g g':Gh} {X S S':List Nat} {s s':St} {L L':Ts} {a a':Act} {Q:Exit->St->Ts->Prop} {x y:Code}
def cj (P:Program) (s:St) (L:Ts) (ow:Bool) (o:Oper) (K:AV->List (List CV)->List bu->Ts->Prop):Prop:=
 match o.op with
 |.call {callee:=.value f,args,.. }=>bU (bF s f) fun fv=>match fv with
  |.c (.fn fid cap)=>bU (iz s args.toList) fun xs=>og P s L fid (xs++cap.map fun l=>.c (.ptr l 0)) K
  |_=>False
 |op=>eS P s ow op fun x V A=>K x V A L
theorem qf (hR:ry n w0 g0 X s L S g a w) {ow:Bool} {o:Oper} {K:AV->List (List CV)->List bu->Ts->Prop} (h:cj P s L ow o K) (next:Act->World->Prop) (Q:Exit->Act->World->Prop)
  (hn:∀x V' A' L' S' v w' g',K x V' A' L'->aO g' w' A' x v->Inv g' w' V' A'->Ext g w s.A g' w' A'->xl w0 g0 X w' g'->iG w' L' S'->S'.Nodup->(∀b∈S',g'.im b=0/\b∉g'.ob/\b∉g'.jy/\¬o4 b/\(w0.heap.size<=b\/b∈X))->next (a.put o.dst v) w'):o.wp P a w next Q:=by
 have plain:bI P s ow o (fun x V A=>K x V A L)->o.wp P a w next Q:=by
  intro h;obtain⟨x,V',A',h1,h2⟩:=dk hR.inv (Fr.refl hR.fr.now) hR.slot h;exact h2 next Q fun v w' g' h3 h4 h5 h6=>hn x V' A' L S v w' g' h1 h3 h4 h5 (hR.fr.fr h6) (hR.xm h6).1 hR.nd (hR.xm h6).2
 unfold cj at h;split at h
 ·rename_i f args argTypes heq;refine ai h fun fv h1 h2=>?_
  split at h2
  ·rename_i fid cap;refine ai h2 fun xs h3 h4=>?_
   rcases h4 with h4|⟨as_,L1,L2,R,hp,FZ,hc,hK⟩
   ·refine plain ?_;unfold bI;rw[heq];simp only[h1,h3,bU];exact h4
   ·have QQ:=aJ hR.slot h1;obtain⟨h5,h6⟩:=l8 hR.slot h3;have Up:xs.length=args.size:=by rw[h5,Array.length_toList]
    obtain⟨bks,h7,h8,h9⟩:bn g w s.A (.fn fid cap) (a.eval f):=QQ;have pd:args.map a.eval++(bks.map fun b=>Value.pointer (some ⟨b,0,none⟩)).toArray=((args.toList.map a.eval)++bks.map fun b=>Value.pointer (some ⟨b,0,none⟩)).toArray:=by
     apply Array.ext';simp
    have iB:=Cj (vs:=((args.toList.map a.eval)++bks.map fun b=>Value.pointer (some ⟨b,0,none⟩)).toArray) hR hp FZ hc (by simp[h5,h8]) (fun i x u cJ eG=>by
     simp only[List.getElem?_toArray]at eG;by_cases hi:i<xs.length
     ·rw[aao hi]at cJ;rw[aao (by simp;omega)]at eG;exact h6 i x u cJ eG
     ·rw[Z5 (by omega)]at cJ;rw[Z5 (by simp;omega)]at eG;simp only[aab,aaH]at cJ eG;obtain⟨l,fY,rfl⟩:=cJ;obtain⟨b,dG,rfl⟩:=eG;exact⟨b,h9 _ l b fY (by rw[<-dG];congr 1;simp[h5]),rfl⟩)
    have fC:(execOp a.eval o).run P w=.ok (.enter fid ((args.toList.map a.eval)++bks.map fun b=>Value.pointer (some ⟨b,0,none⟩)).toArray) w:=by
     simp only[execOp,heq,resolve,h7,Deferred.ofValue,Sem.run_bind,Sem.run_pure,Result.andThen_ok,invoke,Array.empty_append];rw[hc.1,pd]
    unfold Oper.wp;rw[fC];show Calls P fid _ w _;refine iB.mono ?_;rintro e w' ⟨v,r,L1',S',rfl,gF,qL,rQ,Bv,rR,Lu,I7,Nz⟩;exact hn r s.V s.A _ S' v w' g (hK r L1' gF) (qL g w' s.A) rQ Bv rR Lu I7 Nz
  ·exact h2.elim
 ·rename_i dj;refine plain ?_;unfold bI;split
  ·rename_i heq;exact absurd heq (dj _ _ _)
  ·exact h
theorem ry.put (h:ry n w0 g0 X s L S g a w) {dst:Option Tmp} (hd:∀d,dst=some d->d<n) {x:AV} {v:Value} {V':List (List CV)} {A':List bu} (hr:aO g' w' A' x v) (hI:Inv g' w' V' A') (hx:Ext g w s.A g' w' A') (hF:xl w0 g0 X w' g')
  (hT:iG w' L' S') (oO:S'.Nodup) (ho:∀b∈S',g'.im b=0/\b∉g'.ob/\b∉g'.jy/\¬o4 b/\(w0.heap.size<=b\/b∈X)):ry n w0 g0 X (s.put dst x V' A') L' S' g' (a.put dst v) w':=by
 refine⟨hI,hF,?_,?_,fun t y hy=>?_,hT,oO,ho⟩
 ·cases dst<;>simp[Act.put,h.size]
 ·cases dst<;>simp[Act.put,h.defers]
 ·cases dst with
  |none=>
   obtain⟨u,h1,h2⟩:=h.slot t y hy;exact⟨u,h1,aO.ext hx h2⟩
  |some d=>
   have Ae:=hd d rfl;simp only[St.put,look]at hy;by_cases e:t=d
   ·subst e;simp at hy;subst hy;refine⟨v,?_,hr⟩;have:t<a.tmps.size:=by rw[h.size];exact Ae
    simp[Act.put,this]
   ·rw[if_neg e]at hy;obtain⟨u,h1,h2⟩:=h.slot t y hy;refine⟨u,?_,aO.ext hx h2⟩;simp only[Act.put];rw[aax (fun e'=>e e'.symm)];exact h1
structure kE (P:Program) (n:Nat) (all:Array Oper) (ow:Nat->Bool) (K:St->Ts->Prop) (i:Nat) (ops:List Oper) (s:St) (L:Ts):Prop where
 mk::
 run:da n ops=true->∀(w0:World) (g0:Gh) (X S:List Nat) (g:Gh) (a:Act) (w:World) (Q:Exit->Act->World->Prop),ry n w0 g0 X s L S g a w->
  (∀s' L' S' g' a' w',K s' L'->ry n w0 g0 X s' L' S' g' a' w'->Q .normal a' w')->wpList P all Q ops a w
theorem aH {all:Array Oper} {ow:Nat->Bool} {K:St->Ts->Prop} {i:Nat} {o:Oper} {rest:List Oper} (h:iv all s o (cj P s L (ow i) o fun x V A L'=>kE P n all ow K (i+1) rest (s.put o.dst x V A) L') (kE P n all ow K (i+1) rest (s.put o.dst (.c .undef) s.V s.A) L)):kE P n all ow K i (o::rest) s L:=by
 refine⟨fun hd w0 g0 X S g a w Q hR hQ=>?_⟩;simp only[da,List.all_cons,aaE]at hd;have fc:∀d,o.dst=some d->d<n:=fun d e=>by have:=hd.1;rw[e]at this;simpa using this
 unfold wpList;rcases qb hR.rp h with⟨h1,h2⟩|⟨h1,h2⟩
 ·rw[if_pos h1];exact .inl (qf hR h2 _ _ fun x V' A' L' S' v w' g' h3 h4 h5 h6 h7 h8 h9 cJ=>h3.run hd.2 w0 g0 X S' g' _ w' Q (hR.put fc h4 h5 h6 h7 h8 h9 cJ) hQ)
 ·rw[if_neg (by rw[h1];simp)];exact h2.run hd.2 w0 g0 X S g _ w Q (hR.put fc (x:=.c .undef) (v:=undef) rfl hR.inv (.refl _ _ _) hR.fr hR.nC hR.nd hR.out) hQ
theorem aA {all:Array Oper} {ow:Nat->Bool} {K:St->Ts->Prop} {i:Nat} (h:K s L):kE P n all ow K i [] s L:=⟨fun _ _ _ _ S g a w _ hR hQ=>hQ s L S g a w h hR⟩
theorem kE.gen {all:Array Oper} {ow:Nat->Bool} {K:St->Ts->Prop} {i:Nat} {ops:List Oper} {d:Nat} {b:Bool} {fr:List (Nat×AV)} {V:List (List CV)} {A:List bu} (h:∀q:Bool,b=q->kE P n all ow K i ops ⟨(d,.c (.d (.bool q)))::fr,V,A⟩ L):kE P n all ow K i ops ⟨(d,.c (.d (.bool b)))::fr,V,A⟩ L:=h b rfl
@[congr] theorem LY {all:Array Oper} {ow:Nat->Bool} {K:St->Ts->Prop} {i i':Nat} {ops:List Oper} (hi:i=i') (h:s=s'):kE P n all ow K i ops s L=kE P n all ow K i' ops s' L:=by rw[h,hi]
@[congr] theorem KY {o:Oper} {ow:Bool} {K:AV->List (List CV)->List bu->Ts->Prop} (h:s=s'):cj P s L ow o K=cj P s' L ow o K:=by rw[h]
@[congr] theorem JR {f:FuncId} {xs xs':List AV} {K:AV->List (List CV)->List bu->Ts->Prop} (hs:s=s') (hx:xs=xs'):og P s L f xs K=og P s' L f xs' K:=by subst hs;subst hx;rfl
theorem TJ.region {id:Nat} {ops:Array Oper} (ow:Nat->Bool) (h:kE P n ops ow (fun s' L'=>Q .normal s' L') 0 ops.toList s L):TJ P n (.region id ops false) Q s L:=by
 intro eT w0 g0 X S g a w hR;exact wp_region_list (h.run eT w0 g0 X S g a w _ hR fun s' L' S' g' a' w' h1 h2=>⟨s',g',L',S',h1,h2⟩)
theorem TJ.rs {id:Nat} {l:List Oper} (ow:Nat->Bool) (h:∀K:St->Ts->Prop,(∀s' L',TJ P n y Q s' L'->K s' L')->kE P n l.toArray ow K 0 l s L):TJ P n (.seq (.region id l.toArray false) y) Q s L:=
 TJ.seq (TJ.region ow (h _ fun _ _ h=>h))
theorem TJ.fm {id:Nat} {l:List Oper} (ow:Nat->Bool) (h:∀K:St->Ts->Prop,(∀s' L',Q .normal s' L'->K s' L')->kE P n l.toArray ow K 0 l s L):TJ P n (.region id l.toArray false) Q s L:=
 TJ.region ow (h _ fun _ _ h=>h)
def Tm (P:Program) (n:Nat) (c:Code) (Q:Exit->St->Ts->Prop) (L:Ts):Exit->St->Prop
 |.normal,s=>TJ P n c Q s L
 |e,s=>Q e s L
variable {f:FuncId} {xs as_:List AV} {r:AV} {K:AV->List (List CV)->List bu->Ts->Prop}
theorem F0 (h:gJ P s f xs fun x V A=>K x V A L):og P s L f xs K:=.inl h
theorem b5 (b8:ib s.A [] xs=some as_) (hc:ah P f as_ [] r [] []) (hK:K (r.fS [] s.V.length s.A.length) s.V (bQ s.A (bA xs)) L):og P s L f xs K:=.inl (aa b8 hc hK)
theorem eR {R:AV->Ts->Prop} (FZ:iQ L xs as_) (hc:aU P f as_ [] R) (hK:∀r L1,R r L1->K r s.V s.A (L1++L)):og P s L f xs K:=.inr ⟨as_,[],L,R,by simp,FZ,hc,hK⟩
theorem aQ {R:AV->Ts->Prop} {L1 L2:Ts} (hp:L.Perm (L1++L2)) (FZ:iQ L2 xs as_) (hc:aU P f as_ L1 R) (hK:∀r L1,R r L1->K r s.V s.A (L1++L2)):og P s L f xs K:=.inr ⟨as_,L1,L2,R,hp,FZ,hc,hK⟩
def CV.kD:CV->Bool
 |.d x=>x.kD
 |.np=>true
 |_=>false
def AV.KZ:AV->Bool
 |.c x=>x.kD
 |.agg xs=>xs.all CV.kD
 |.a8 _=>false
def AV.kD:AV->Bool
 |.a8 xs=>xs.all AV.KZ
 |x=>x.KZ
end
def e0 (k:Option (Nat×Nat×Value)):CV->Option CV
 |.d x=>if x.kD=true then some (.d x)else none
 |.np=>some .np
 |.nil=>some (.d (.raw (.slice none 0 0)))
 |.own j m=>match k with
  |some (i,m',v)=>if j=i/\m=m' then some (.d (.raw v))else none
  |none=>none
 |_=>none
def fH (k:Option (Nat×Nat×Value)):List CV->Option (List CV)
 |[]=>some []
 |c::r=>match e0 k c,fH k r with
  |some d,some ds=>some (d::ds)
  |_,_=>none
def fy (k:Option (Nat×Nat×Value)):AV->Option AV
 |.c x=>(e0 k x).map AV.c
 |.agg xs=>(fH k xs).map AV.agg
 |.a8 _=>none
def cW (k:Option (Nat×Nat×Value)):List AV->Option (List AV)
 |[]=>some []
 |c::r=>match fy k c,cW k r with
  |some d,some ds=>some (d::ds)
  |_,_=>none
section
variable {g g':Gh} {w w':World} {A A':List bu} {k:Option (Nat×Nat×Value)}
def HX (g:Gh) (A:List bu) (k:Option (Nat×Nat×Value)):Prop:=∀i m v,k=some (i,m,v)->v.oneCell'=true/\∃r,A[i]? =some r/\m=r.rows.length/\g.ar[i]? =some v
theorem xn (hk:HX g A k) {c d:CV} {u:Value} (h:e0 k c=some d) (hr:bn g w A c u):bn g' w' A' d u:=by
 cases c with
 |d x=>
  simp only[e0]at h;split at h
  ·rename_i hs;simp at h;subst h;exact DV.sK hs hr
  ·cases h
 |np=>simp only[e0,Option.some.injEq]at h;subst h;exact hr
 |nil=>
  simp only[e0,Option.some.injEq]at h;subst h;simp only[bn]at hr;subst hr;exact⟨rfl,rfl⟩
 |own j m=>
  simp only[e0]at h;split at h
  ·rename_i i m' v;split at h
   ·rename_i e;obtain⟨rfl,rfl⟩:=e;simp at h;subst h;obtain⟨h1,r,h2,h3,h4⟩:=hk _ _ _ rfl;obtain⟨a,cap,_,r',h5,_,h6⟩:=hr;rw[h2]at h5;cases h5;have h7:=h6 h3;rw[h4]at h7;cases h7
    exact⟨rfl,h1⟩
   ·cases h
  ·cases h
 |_=>simp[e0]at h
theorem EU:∀{cs ds:List CV},fH k cs=some ds->ds.length=cs.length/\∀(j:Nat) c d,cs[j]? =some c->ds[j]? =some d->e0 k c=some d
 |[],ds,h=>by simp[fH]at h;subst h;exact⟨rfl,fun j c d h=>by simp at h⟩
 |c::r,ds,h=>by
  simp only[fH]at h;split at h
  ·rename_i d ds' h1 h2;simp at h;subst h;obtain⟨h3,h4⟩:=EU h2;refine⟨by simp[h3],fun j c' d' h5 h6=>?_⟩;cases j with
   |zero=>simp at h5 h6;subst h5;subst h6;exact h1
   |succ j=>simp at h5 h6;exact h4 j c' d' h5 h6
  ·simp at h
theorem Ck:∀{cs ds:List AV},cW k cs=some ds->ds.length=cs.length/\∀(j:Nat) c d,cs[j]? =some c->ds[j]? =some d->fy k c=some d
 |[],ds,h=>by simp[cW]at h;subst h;exact⟨rfl,fun j c d h=>by simp at h⟩
 |c::r,ds,h=>by
  simp only[cW]at h;split at h
  ·rename_i d ds' h1 h2;simp at h;subst h;obtain⟨h3,h4⟩:=Ck h2;refine⟨by simp[h3],fun j c' d' h5 h6=>?_⟩;cases j with
   |zero=>simp at h5 h6;subst h5;subst h6;exact h1
   |succ j=>simp at h5 h6;exact h4 j c' d' h5 h6
  ·simp at h
theorem DW (hk:HX g A k) {c d:AV} {u:Value} (h:fy k c=some d) (hr:aO g w A c u):dK g' w' A' d u:=by
 cases c with
 |c x=>
  simp only[fy,aaH]at h;obtain⟨y,h1,rfl⟩:=h;exact xn (w:=w) hk h1 hr
 |agg xs=>
  simp only[fy,aaH]at h;obtain⟨ys,h1,rfl⟩:=h;obtain⟨h2,h3⟩:=EU h1;obtain⟨vs,e,hl,hc⟩:=hr;refine⟨vs,e,by omega,fun i y u h4 h5=>?_⟩;have hi:i<xs.length:=by have:=(ZS.1 h4).1;omega
  exact xn (w:=w) hk (h3 i _ y (ZQ hi) h4) (hc i _ u (ZQ hi) h5)
 |a8 _=>simp[fy]at h
theorem zB (hk:HX g A k) {xs ys:List AV} {us:List Value} (h:cW k xs=some ys) (hl:us.length=xs.length) (hr:∀(i:Nat) x u,xs[i]? =some x->us[i]? =some u->aO g w A x u):
  FY (one ys) (if h:us.toArray.size=1 then us.toArray[0]else .tuple us.toArray):=by
 obtain⟨h1,h2⟩:=Ck h;have hE:∀(i:Nat) y u,ys[i]? =some y->us[i]? =some u->∀g w A,dK g w A y u:=fun i y u h4 h5 g' w' A'=>by
  have hi:i<xs.length:=by have:=(ZS.1 h4).1;omega
  exact DW (w:=w) hk (h2 i _ y (ZQ hi) h4) (hr i _ u (ZQ hi) h5)
 have dj:∀y∈ys,∀zs,y≠.a8 zs:=fun y hy zs e=>by
  subst e;obtain⟨i,hi⟩:=Z4 hy;have Fv:i<us.length:=by have:=(ZS.1 hi).1;omega
  exact hE i _ us[i] hi (ZQ Fv) g w A
 intro g' w' A'
 match ys,us with
 |[y],[u]=>
  have:=hE 0 y u rfl rfl g' w' A';simp only[one,List.size_toArray,Z2,Z9,ZG,dite_true,List.getElem_toArray,List.getElem_cons_zero];cases y with
  |a8 zs=>exact absurd rfl (dj _ (by simp) zs)
  |c x=>exact this
  |agg x=>exact this
 |[],us=>
  have:us=[]:=aal.1 (by simp at h1;omega);subst this;exact⟨[],rfl,rfl,fun i x u h=>by simp at h⟩
 |y::z::r,us=>
  have e5:¬us.toArray.size=1:=by simp at h1⊢;omega
  rw[dif_neg e5];exact⟨us,rfl,by omega,fun i x u h3 h4=>hE i x u h3 h4 g' w' A'⟩
 |[y],[]=>simp at h1 hl;omega
 |[y],_::_::_=>simp at h1 hl;omega
end
def rz (L:Ts):Prop:=∀p∈L,∃e sz,p=(.t e sz 0 [],.slice none 0 0)
theorem rz.nC {w:World}:∀{L:Ts},rz L->iG w L []
 |[],_=>rfl
 |p::L,h=>by
  obtain⟨e,sz,rfl⟩:=h p (by simp);refine⟨[],[],rfl,?_,rz.nC fun q hq=>h q (by simp[hq])⟩;simp only[Tr];exact⟨[],[],⟨by simp,.inl ⟨rfl,rfl⟩⟩,by simp[kO],rfl⟩
theorem rz.nil:rz []:=fun p hp=>by cases hp
def bJ (P:Program) (fn:Func) (R:AV->Ts->Prop) (e:Exit) (s:St) (L:Ts):Prop:=
 (e=.normal\/e=.ret)/\∃xs,fu P s fn.results.toList=some xs/\
  ((∃ys L' M Ln,cW none xs=some ys/\rz Ln/\(L++Ln).Perm (L'++M)/\R (one ys) L')\/
  (∃k r cs Lc L2 Ln,s.A[k]? =some r/\r.wr=true/\Mk cs r.rows.flatten Lc/\L.Perm (Lc++L2)/\rz Ln/\
    ∀v,∃ys L' M,cW (some (k,r.rows.length,v)) xs=some ys/\((.t r.eA r.sz r.rows.length cs,v)::L2++Ln).Perm (L'++M)/\R (one ys) L'))
section
variable {P:Program} {f:FuncId} {fn:Func} {c:Code} {as_:List AV} {L:Ts} {R:AV->Ts->Prop}
theorem Cl {w:World} {e:TypeId} {sz n:Nat} {v:Value} {xs:List Value} (h:w.ownsRow 0 e sz v n xs):v.oneCell'=true:=by
 rcases h.2 with⟨rfl,_⟩|⟨g,cap,cur,rfl,_⟩<;>rfl
set_option maxHeartbeats 1000000 in
theorem aU.cA (hf:P.funcs[f]? =some fn) (kn:(fn.name== "runtime.NumGoroutine")=false) (hb:fn.body=some c) (eT:codeOk fn.ntmps c=true) (hn:as_.length<=fn.ntmps)
  (h:TJ P fn.ntmps c (bJ P fn R) ⟨kU as_,[],[]⟩ L):aU P f as_ L R:=by
 refine⟨enters hf kn hb,fun g w vs S I8 MW hI hT hl hr hS oO hz=>calls_of_wp hf hb ?_⟩;have hR:ry fn.ntmps w g S ⟨kU as_,[],[]⟩ L S g {tmps:=vs++aay (fn.ntmps-vs.size) undef,defers:=[]} w:=by
  refine⟨hI,xl.refl hT fun b hb=>(hz b hb).2,by simp;omega,rfl,fun t x hx=>?_,hS,oO,fun b hb=>⟨(hz b hb).1,by simp[I8],by simp[Gh.jy,MW],(hz b hb).2,.inr hb⟩⟩;obtain⟨_,hx⟩:=ri as_ 0 t x hx;rw[Nat.sub_zero]at hx;have ht:t<vs.size:=by have:=(ZS.1 hx).1;omega
  exact⟨vs[t],by rw[Array.getElem?_append_left ht];simp[ht],hr t x _ hx (by simp[ht])⟩
 refine Go.wp_mono (h eT w g S S g _ w hR) ?_;rintro e a' w' ⟨s',g',L',S',⟨hex,xs,NC,hd⟩,vW⟩;obtain⟨us,Bq,MQ,fC⟩:=rh vW.inv vW.slot NC;have wL:(results fn a'.tmps).run P w'=.ok (if h:us.toArray.size=1 then us.toArray[0]else .tuple us.toArray) w':=by
  rw[wK,Sem.run_bind,Array.mapM_eq_mapM_toList];have hm:(List.toArray<$>fn.results.toList.mapM (pw a'.tmps)).run P w'=.ok us.toArray w':=by
   simp[fC]
  rw[hm]
  rfl
 have hF:=vW.fr
 have Oq:∀(r:AV) (L'':Ts) (S'':List Nat),R r L''->FY r (if h:us.toArray.size=1 then us.toArray[0]else .tuple us.toArray)->iG w' L'' S''->S''.Nodup->(∀b∈S'',b∈S\/w.heap.size<=b)->
   a'.defers=[]/\∃v,(results fn a'.tmps).run P w'=.ok v w'/\∃v1 r L' S',Ending.returned v=.returned v1/\R r L'/\FY r v1/\iG w' L' S'/\S'.Nodup/\(∀b∈S',b∈S\/w.heap.size<=b)/\
    w'.os=w.os/\w'.tape=w.tape/\w'.output=w.output/\w.heap.size<=w'.heap.size/\∀b,b<w.heap.size->b∉S->w'.heap[b]? =w.heap[b]? :=
  fun r L'' S'' h1 h2 h3 h4 h5=>⟨vW.defers,_,wL,_,r,L'',S'',rfl,h1,h2,h3,h4,h5,hF.os,hF.tape,hF.output,hF.size,fun b hb Tl=>hF.qI b hb (by simp[I8]) (by simp[Gh.jy,MW]) Tl⟩
 have Ot:∀b∈S',b∈S\/w.heap.size<=b:=fun b hb=>by rcases(vW.out b hb).2.2.2.2 with q|q;exact .inr q;exact .inl q
 have Ht:a'.defers=[]/\∃v,(results fn a'.tmps).run P w'=.ok v w'/\∃v1 r L' S',Ending.returned v=.returned v1/\R r L'/\FY r v1/\iG w' L' S'/\S'.Nodup/\(∀b∈S',b∈S\/w.heap.size<=b)/\
    w'.os=w.os/\w'.tape=w.tape/\w'.output=w.output/\w.heap.size<=w'.heap.size/\∀b,b<w.heap.size->b∉S->w'.heap[b]? =w.heap[b]? :=by
  rcases hd with⟨ys,L1,M,Ln,h1,h2,h3,h4⟩|⟨k,r,cs,Lc,L2,Ln,hk,hw,HY,hp,la,hv⟩
  ·have HV:iG w' (L'++Ln) (S'++[]):=iG.app.2 ⟨S',[],rfl,vW.nC,h2.nC⟩;rw[Z6]at HV;obtain⟨S1,h5,h6⟩:=HV.perm h3;obtain⟨S2,S3,rfl,h7,_⟩:=iG.app.1 h6;refine Oq (one ys) L1 S2 h4 (zB (g:=g') (A:=s'.A) (w:=w') (k:=none) (fun i m v e=>by cases e) h1 Bq MQ) h7 (ZT.1 (h5.nodup_iff.1 vW.nd)).1 fun b hb=>Ot b (h5.mem_iff.2 (by simp[hb]))
  ·obtain⟨v,sI⟩:∃v,g'.ar[k]? =some v:=by
    have:k<g'.ar.length:=by rw[vW.inv.lT];exact(ZS.1 hk).1
    exact⟨_,ZQ this⟩
   obtain⟨hlen,qX,cells,dP,nJ⟩:=vW.inv.arr k r v hk sI;obtain⟨ys,L1,M,h1,h3,h4⟩:=hv v;obtain⟨S0,h5,h6⟩:=vW.nC.perm hp;obtain⟨Sc,S2,rfl,h7,h8⟩:=iG.app.1 h6;have ya:cells.length=r.rows.flatten.length:=by
    have hx:∀(rows:List (List DV)),(∀row∈rows,row.length=r.sz)->rows.flatten.length=rows.length*r.sz:=by
     intro rows;induction rows with
     |nil=>simp
     |cons x xs ih=>intro hx;rw[List.flatten_cons,List.length_append,hx x (by simp),ih (fun y hy=>hx y (by simp[hy])),Z2,ZN];omega
    rw[dP.1,hx r.rows hlen]
   have U0:=HY.P0 ya nJ h7;have lV:Tr w' (.t r.eA r.sz r.rows.length cs) v (v.ownBlock.toList++Sc):=by
    simp only[Tr];exact⟨cells,Sc,dP,U0,rfl⟩
   have HV:iG w' ((.t r.eA r.sz r.rows.length cs,v)::L2++Ln) ((v.ownBlock.toList++Sc)++S2):=by
    refine⟨_,S2++[],by simp,lV,iG.app.2 ⟨S2,[],rfl,h8,la.nC⟩⟩
   obtain⟨S1,h9,cJ⟩:=HV.perm h3;obtain⟨S4,S5,rfl,eG,_⟩:=iG.app.1 cJ;have yK:(Sc++S2).Nodup:=h5.nodup_iff.1 vW.nd;have Ji:∀b,v.ownBlock=some b->b∉Sc++S2/\(b∈S\/w.heap.size<=b):=fun b hb=>by
    refine⟨fun hm=>(vW.out b (h5.mem_iff.2 hm)).2.2.1 (Gh.j6 sI hb),?_⟩;rcases hF.ar k v b sI hb with q|q|q
    ·exact .inr q
    ·simp[Gh.jy,MW]at q
    ·exact .inl q
   have HZ:((v.ownBlock.toList++Sc)++S2).Nodup:=by
    rw[ZZ];cases Jt:v.ownBlock with
    |none=>simpa using yK
    |some b=>simpa using⟨by simpa using(Ji b Jt).1,by simpa using yK⟩
   refine Oq (one ys) L1 S4 h4 (zB (g:=g') (A:=s'.A) (w:=w') (k:=some (k,r.rows.length,v)) (fun i m v' e=>by cases e;exact⟨Cl dP,r,hk,rfl,sI⟩) h1 Bq MQ) eG (ZT.1 (h9.nodup_iff.1 HZ)).1 fun b hb=>?_
   have hm:b∈(v.ownBlock.toList++Sc)++S2:=h9.mem_iff.2 (by simp[hb]);rw[ZZ]at hm;rcases ZR.1 hm with q|q
   ·exact(Ji b (by simpa using q)).2
   ·exact Ot b (h5.mem_iff.2 q)
 rcases hex with rfl|rfl<;>exact Ht
theorem aU.ob {N:Nat} (hf:P.funcs[f]? =some fn) (hN:fn.ntmps=N) (hb:fn.body=some c) (h:TJ P N c (bJ P fn R) ⟨kU as_,[],[]⟩ L) (kn:(fn.name== "runtime.NumGoroutine")=false:=by kernel_rfl) (eT:codeOk N c=true:=by kernel_rfl) (hn:as_.length<=N:=by simp):aU P f as_ L R:=by
 subst hN;exact aU.cA hf kn hb eT hn h
def Tn (P:Program) (fn:Func) (eA:TypeId) (sz n:Nat) (R:AV->List GC->Prop) (e:Exit) (s:St) (L:Ts):Prop:=
 (e=.normal\/e=.ret)/\∃xs ys rows cs Lc M,fu P s fn.results.toList=some xs/\cW none xs=some ys/\s.A[0]? =some ⟨sz,eA,rows,true⟩/\rows.length=n/\Mk cs rows.flatten Lc/\L.Perm (Lc++M)/\R (one ys) cs
end
theorem ju.kX {L:Ts} {c:GC} {v:Value} {x:DV} (h:(c,v)∈L) (e:c.dv=x/\c.pl=true):ju L (.d (.raw v)) (.d x):=e.1▸ju.Ok h e.2
mutual
def Cm (e:TypeId):aG->List GC
 |.mk k l=>[.d (.i k),.t e 2 l.length (db e l)]
def db (e:TypeId):List aG->List GC
 |[]=>[]
 |t::r=>Cm e t++db e r
end
def jh (e:TypeId) (l:List aG):GC:=.t e 2 l.length (db e l)
theorem tX (e:TypeId) (t:aG):Cm e t=[.d (.i t.kind),jh e t.kids]:=by cases t;simp[Cm,jh]
theorem rA:∀(l m:List GC),yJ (l++m)=yJ l++yJ m
 |[],_=>rfl
 |x::l,m=>by simp[yJ,rA l m]
theorem vi {α:Type} {sz:Nat} (n:Nat) {r l:List α} (h:r.length=sz):chunks sz (n+1) (r++l)=r::chunks sz n l:=by
 simp only[chunks];rw[List.take_left' h,List.drop_left' h]
mutual
theorem H0 (e:TypeId):∀(t:aG),yJ (Cm e t)=cx t
 |.mk k l=>by
  have:=tY e l;rw[tX,aL];simp only[yJ,GC.dv,jh,aG.b4,aG.bP,this]
theorem tY (e:TypeId):∀(l:List aG),chunks 2 l.length (yJ (db e l))=l.map cx
 |[]=>rfl
 |t::r=>by
  have h1:=H0 e t;have h2:=tY e r;rw[db,rA,h1,Z2,vi _ (by rw[aL];rfl),h2,Z7]
end
theorem H2 (e:TypeId) (l:List aG):(jh e l).dv=.sl (l.map cx):=by
 simp only[jh,GC.dv,tY]
theorem rC:∀(l m:List GC),Ch (l++m)=(Ch l && Ch m)
 |[],_=>by simp[Ch]
 |x::l,m=>by simp[Ch,rC l m,Bool.and_assoc]
mutual
theorem H3 (e:TypeId):∀(t:aG),Ch (Cm e t)=true
 |.mk k l=>by
  have:=tZ e l;rw[tX];simp only[Ch,GC.pl,jh,aG.bP,this,aaG]
theorem tZ (e:TypeId):∀(l:List aG),Ch (db e l)=true
 |[]=>rfl
 |t::r=>by rw[db,rC,H3 e t,tZ e r];rfl
end
theorem lK (e:TypeId) (l:List aG):(jh e l).dv=.sl (l.map cx)/\(jh e l).pl=true:=⟨H2 e l,by simp only[jh,GC.pl,tZ]⟩
abbrev Rw (t:aG) (v:Value):List DV:=[.i t.kind,.raw v]
theorem qg (e:TypeId):∀{l:List aG} {vs:List Value},vs.length=l.length->Mk (db e l) (ZU Rw l vs).flatten ((l.map fun t=>jh e t.kids).zip vs)
 |[],[],_=>.nil
 |t::r,v::vs,h=>by
  rw[db,tX];exact .d rfl (.t (qg e (by simpa using h)))
def To {α β:Type} (f:α->β->List DV) (z:List DV) (l:List α) (vs:List β):List (List DV):=ZU f l vs++aae (l.length-vs.length) z
section
variable {α β:Type} {f:α->β->List DV} {z:List DV} {l:List α} {vs:List β}
theorem H4 {γ:Type} {g:α->γ} {a:α} (h:l[vs.length]? =some a) (v:β):(l.map g).zip (vs++[v])=(l.map g).zip vs++[(g a,v)]:=by
 obtain⟨h1,h2⟩:=ZS.1 h;have hl:l.map g=(l.take vs.length).map g++g a::(l.drop (vs.length+1)).map g:=by
  rw[<-h2,<-Z7,<-List.map_append,<-aar h1,Z0]
 have ht:((l.take vs.length).map g).length=vs.length:=by rw[aaj,Z8];omega
 rw[hl];generalize (l.take vs.length).map g=A at ht;generalize (l.drop (vs.length+1)).map g=B;have e:(A++g a::B).zip (vs++[])=A.zip vs:=by rw[aac ht];simp
 rw[Z6]at e;rw[e,aac ht];simp
end
attribute [simp] cj e0 fH fy cW
section
variable {P:Program} {fn:Func} {R:AV->Ts->Prop} {e:Exit} {s:St} {L L' M Lc:Ts} {r r':AV}
theorem bJ.agg (he:e=.normal\/e=.ret) (hr:fu P s fn.results.toList=some [r]) (hs:cW none [r]=some [r']) (hp:L.Perm (L'++M)) (hR:R r' L'):bJ P fn R e s L:=
 ⟨he,[r],hr,.inl ⟨[r'],L',M,[],hs,.nil,by simpa using hp,hR⟩⟩
theorem bJ.ua {Ln:Ts} (he:e=.normal\/e=.ret) {rs rs':List AV} (hr:fu P s fn.results.toList=some rs) (hs:cW none rs=some rs') (hn:rz Ln) (hR:R (one rs') Ln):bJ P fn R e s L:=
 ⟨he,rs,hr,.inl ⟨rs',Ln,L,Ln,hs,hn,List.perm_append_comm,hR⟩⟩
theorem bJ.a8 (he:e=.normal\/e=.ret) {rs rs':List AV} (hr:fu P s fn.results.toList=some rs) (hs:cW none rs=some rs') (hp:L.Perm (L'++M)) (hR:R (one rs') L'):bJ P fn R e s L:=
 ⟨he,rs,hr,.inl ⟨rs',L',M,[],hs,.nil,by simpa using hp,hR⟩⟩
end
section
variable {P:Program} {n:Nat} {Q:Exit->St->Ts->Prop} {s s':St} {L L':Ts} {c:Code}
theorem TJ.conv (h:∀(g:Gh) (a:Act) (w:World),Rp n w g s g a w->∃g',Rp n w g s' g' a w) (h2:TJ P n c Q s' L):TJ P n c Q s L:=by
 intro eT w0 g0 X S g a w hR;obtain⟨g',vW⟩:=h g a w hR.rp;exact h2 eT w0 g0 X S g' a w (hR.back vW)
theorem TJ.pq (t:Nat) (sz:Nat) (e:TypeId) (ht:look s.fr t=some (.c .nil)) (h:TJ P n c Q ⟨(t,.c (.own s.A.length 0))::s.fr,s.V,s.A++[⟨sz,e,[],true⟩]⟩ L):TJ P n c Q s L:=by
 refine TJ.conv (fun g a w hR=>?_) h
 obtain⟨g1,KG,p9,tA,fj,dC,kH⟩:=hR.inv.qY hR.fr {sz:=sz,eA:=e,rows:=[],wr:=true} (.slice none 0 0) [] (by simp) (World.ownsRow_nil w 0 e sz) (fun j x u h=>by simp at h) (fun b h=>by simp[Value.ownBlock]at h);refine⟨g1,fj,kH,hR.size,hR.defers,fun t' x hx=>?_⟩;simp only[look]at hx;by_cases e':t'=t
 ·subst e';simp at hx;subst hx;obtain⟨u,h1,h2⟩:=hR.slot t' _ ht;refine⟨u,h1,?_⟩;simp only[aO,dK,bn]at h2;subst h2;exact⟨none,0,rfl,_,by simp;rfl,ZE _,fun _=>by rw[tA,Z5 (by rw[hR.inv.lT];exact ZD _),hR.inv.lT];simp⟩
 ·rw[if_neg e']at hx;obtain⟨u,h1,h2⟩:=hR.slot t' x hx;exact⟨u,h1,aO.ext dC h2⟩
theorem TJ.dq (l j:Nat) (sz:Nat) (e:TypeId) {row:List CV} (hl:s.V[l]? =some row) (hj:row[j]? =some .nil) (h:TJ P n c Q ⟨s.fr,s.V.set l (row.set j (.own s.A.length 0)),s.A++[⟨sz,e,[],true⟩]⟩ L):TJ P n c Q s L:=by
 refine TJ.conv (fun g a w hR=>?_) h
 obtain⟨g1,KG,p9,tA,fj,dC,kH⟩:=hR.inv.qY hR.fr {sz:=sz,eA:=e,rows:=[],wr:=true} (.slice none 0 0) [] (by simp) (World.ownsRow_nil w 0 e sz) (fun j x u h=>by simp at h) (fun b h=>by simp[Value.ownBlock]at h);refine⟨g1,?_,kH,hR.size,hR.defers,fun t' x hx=>?_⟩
 ·refine⟨by simpa using fj.o0,fj.lT,fun l' row' b h1 h2=>?_,fj.arr,fj.kZ,fj.jr,fj.jz,fj.fresh⟩;have mB:(s.V.set l (row.set j (.own s.A.length 0)))[l']? =some row':=h1;rw[dA hl]at mB;by_cases e':l'=l
  ·subst e';simp at mB;subst mB;obtain⟨h3,cs,ty,h4,h5,h6⟩:=fj.obj l' row b hl h2;refine⟨h3,cs,ty,h4,by simpa using h5,fun i c u h7 h8=>?_⟩;rw[dA hj]at h7;by_cases e'':i=j
   ·subst e'';simp at h7;subst h7;have h9:=h6 i _ u hj h8;simp only[bn]at h9;subst h9;exact⟨none,0,rfl,_,by simp;rfl,ZE _,fun _=>by rw[tA,Z5 (by rw[hR.inv.lT];exact ZD _),hR.inv.lT];simp⟩
   ·rw[if_neg e'']at h7;exact h6 i c u h7 h8
  ·rw[if_neg e']at mB;exact fj.obj l' row' b mB h2
 ·obtain⟨u,h1,h2⟩:=hR.slot t' x hx;exact⟨u,h1,aO.ext dC h2⟩
theorem TJ.dU {α:Type} (ks:List Nat) (ph:α->List (Nat×AV)) (ob:α->List (Nat×List CV)) (G:α->List (List CV)) (ar:α->List bu->List bu) (tr:α->Ts) (m:α->Nat) (H:α->Prop) {fr0:List (Nat×AV)} (hk:iE ks s.fr=fr0)
  (h:∀a,H a->TJ P n c (DU (fun a=>⟨ph a++fr0,iy (ob a) s.V++G a,ar a s.A⟩) tr m H (m a) Q) ⟨ph a++fr0,iy (ob a) s.V++G a,ar a s.A⟩ (tr a)) (a:α) (ha:H a) (hV:iy (ob a) s.V++G a=s.V) (hA:ar a s.A=s.A) (hp:kL (ph a) s.fr) {M:Ts} (hL:L.Perm (tr a++M)):TJ P n (.loop c) Q s L:=by
 subst hk;exact TJ.gy (fun a=>⟨ph a++iE ks s.fr,iy (ob a) s.V++G a,ar a s.A⟩) tr m H h a ha ⟨hV,hA,hp.app (zj ks s.fr)⟩ hL
end
end Go.Av
namespace Go.Av
open Go
def Rx (o:Oper):Oper:={o with dst:=none,op:=.assign (.const (.bool true)),guard:=none}
def Tp (l:List Oper):List Oper:=match l.getLast? with
 |some o=>l.dropLast++[Rx o]
 |none=>[]
def Ry (l:List Oper):Bool:=match l.getLast? with
 |some o=>o.guard.isNone &&(l.zipIdx.all fun(x,j)=>x.after.all fun e=> !Region.binds .any e||decide (e.on<j))&&(l.dropLast.all fun x=>match x.guard with|some (q,_)=>decide (q<l.length-1)|none=>true)
   &&((ZO (l.length-1)).all fun k=>((aX l []).getD (l.length-1) 0).testBit k)
 |none=>false
section
variable {P:Program}
def Rz (l:List Oper):List Oper:=match l.getLast? with
 |some o=>[o]
 |none=>[]
end
section
variable {P:Program} {n:Nat} {w0 w w':World} {g0 g g':Gh} {X S S':List Nat} {s s':St} {L L':Ts} {a a':Act} {x y:Code} {all:Array Oper} {ws:List Nat}
def sL (P:Program) (L:Ts) (f:FuncId) (xs:List AV) (K:AV->Ts->Prop):Prop:=∃(as_:List AV) (L1 L2:Ts) (R:AV->Ts->Prop),L.Perm (L1++L2)/\iQ L2 xs as_/\aU P f as_ L1 R/\∀r L1',R r L1'->K r (L1'++L2)
def cg (P:Program) (s:St) (L:Ts) (o:Oper) (K:AV->Ts->Prop):Prop:=
 match o.op with
 |.call {callee:=.value f,args,.. }=>bU (bF s f) fun fv=>match fv with
  |.c (.fn fid [])=>bU (iz s args.toList) fun xs=>sL P L fid xs K
  |_=>False
 |_=>False
theorem qh {o:Oper} {K K':AV->Ts->Prop} (hk:∀x L,K x L->K' x L) (h:cg P s L o K):cg P s L o K':=by
 unfold cg at h⊢;split at h
 ·refine nO (fun fv h1=>?_) h;split at h1
  ·exact nO (fun xs ⟨as_,L1,L2,R,h2,h3,h4,h5⟩=>⟨as_,L1,L2,R,h2,h3,h4,fun r L1' hr=>hk _ _ (h5 r L1' hr)⟩) h1
  ·exact h1
 ·exact h
theorem pN {cR:List (Nat×AV)} {V:List (List CV)} {A:List bu} {ow:Bool} {o:Oper} {K:AV->Ts->Prop} (he:∀x∈o.op.operands.toList,bF ⟨cR,V,A⟩ x=bF s x) (h:cg P s L o K):cj P ⟨cR,V,A⟩ L ow o fun x V' A' L'=>V'=V/\A'=A/\K x L':=by
 unfold cg at h;unfold cj;split at h
 ·rename_i f args wP heq;simp only[heq]at he⊢;have e1:bF ⟨cR,V,A⟩ f=bF s f:=he f (by simp[Op.operands,Call.operands]);have e2:iz ⟨cR,V,A⟩ args.toList=iz s args.toList:=ma fun p hp=>he p (by simp[Op.operands,Call.operands];exact .inr (by simpa using hp))
  rw[e1];refine nO (fun fv h1=>?_) h;split at h1
  ·simp only[e2,List.map_nil,Z6];refine nO (fun xs h2=>?_) h1;obtain⟨as_,L1,L2,R,h2,h3,h4,h5⟩:=h2;exact .inr ⟨as_,L1,L2,R,h2,h3,h4,fun r L1' hr=>⟨rfl,rfl,h5 r L1' hr⟩⟩
  ·exact h1.elim
 ·exact h.elim
def qQ (P:Program) (ow:Nat->Bool) (ws cs:List Nat) (K:St->Ts->Prop):Nat->List Oper->St->Ts->Prop
 |_,[],s,L=>K s L
 |i,o::rest,s,L=>(i∈cs/\cg P s L o fun x L'=>qQ P ow ws cs K (i+1) rest (s.put o.dst x s.V s.A) L')\/
   (i∉cs/\bI P s (ow i) o fun x V A=>(i∈ws\/(V=s.V/\A=s.A))/\qQ P ow ws cs K (i+1) rest (s.put o.dst x V A) L)
def JS (P:Program) (ow:Bool) (o:Oper) (s s':St):Prop:=∃x V A,s'=s.put o.dst x V A/\∀K:AV->List (List CV)->List bu->Prop,K x V A->bI P s ow o K
def M8 (ws:List Nat) (j:Nat) (o:Oper) (s s':St):Prop:=∃x V A,s'=s.put o.dst x V A/\(j∈ws\/(V=s.V/\A=s.A))
theorem pO {ow:Nat->Bool} {cs:List Nat} {K:St->Ts->Prop}:∀(ops:List Oper) (i:Nat) (s:St) (L:Ts),qQ P ow ws cs K i ops s L->
  ∃(τ:Nat->St) (m:Nat),m<=ops.length/\τ 0=s/\(∀(j:Nat) o,j<m->ops[j]? =some o->JS P (ow (i+j)) o (τ j) (τ (j+1))/\M8 ws (i+j) o (τ j) (τ (j+1)))/\
   ((m=ops.length/\K (τ m) L)\/(i+m∈cs/\∃o,ops[m]? =some o/\cg P (τ m) L o fun x L'=>qQ P ow ws cs K (i+m+1) (ops.drop (m+1)) ((τ m).put o.dst x (τ m).V (τ m).A) L'))
 |[],i,s,L,h=>⟨fun _=>s,0,ZD _,rfl,fun j o hj=>by omega,.inl ⟨rfl,h⟩⟩
 |o::rest,i,s,L,h=>by
  rcases h with⟨h1,h2⟩|⟨h1,h2⟩
  ·exact⟨fun _=>s,0,by simp,rfl,fun j o hj=>by omega,.inr ⟨h1,o,rfl,h2⟩⟩
  ·obtain⟨x,V,A,⟨h3,h4⟩,h5⟩:=gl h2;obtain⟨τ,m,k1,k2,k3,k4⟩:=pO rest (i+1) _ L h4;refine⟨fun j=>match j with|0=>s|j+1=>τ j,m+1,by simp;omega,rfl,fun j o' hj ho=>?_,?_⟩
   ·cases j with
    |zero=>
     simp at ho;subst ho;exact⟨⟨x,V,A,k2,h5⟩,x,V,A,k2,h3⟩
    |succ j=>
     simp at ho;have:=k3 j o' (by omega) ho;rwa[show i+1+j=i+(j+1) by omega]at this
   ·rcases k4 with⟨k5,k6⟩|⟨k5,o',k6,k7⟩
    ·exact .inl ⟨by simp[k5],k6⟩
    ·refine .inr ⟨by rw[show i+(m+1)=i+1+m by omega];exact k5,o',by simpa using k6,?_⟩;rw[show i+(m+1)+1=i+1+m+1 by omega];exact k7
structure F1 (all:Array Oper) (ws:List Nat) (σ:Nat->St) (c:Nat):Prop where
 le:c<=all.size
 tr:∀(j:Nat) o,j<c->all[j]? =some o->M8 ws j o (σ j) (σ (j+1))
section
variable {σ:Nat->St} {c:Nat} (hT:F1 all ws σ c) (rj:∀(i j:Nat) oi oj d,all[i]? =some oi->all[j]? =some oj->oi.dst=some d->oj.dst=some d->i=j)
include hT
theorem F1.step {j:Nat} {o:Oper} {t:Nat} (hj:j<c) (h1:all[j]? =some o) (h2:o.dst≠some t):look (σ (j+1)).fr t=look (σ j).fr t:=by
 obtain⟨x,V,A,h3,_⟩:=hT.tr j o hj h1;rw[h3];simp only[St.put];cases q9:o.dst with
 |none=>rfl
 |some d=>simp only[look];rw[if_neg (fun e=>h2 (by rw[q9,e]))]
theorem F1.Ou:∀(j t:Nat),j<=c->(∀(i:Nat) o,i<j->all[i]? =some o->o.dst≠some t)->look (σ j).fr t=look (σ 0).fr t:=by
 have hc:=hT.le;intro j;induction j with
 |zero=>intro t _ _;rfl
 |succ j ih=>
  intro t hj iw;have ho:all[j]? =some all[j]:=aav (by omega);rw[hT.step (by omega) ho (iw j _ (by omega) ho)];exact ih t (by omega) (fun i o hi=>iw i o (by omega))
theorem F1.VA:∀(b a:Nat),a<=b->b<=c->(∀i,a<=i->i<b->i∉ws)->(σ b).V=(σ a).V/\(σ b).A=(σ a).A:=by
 have hc:=hT.le;intro b;induction b with
 |zero=>
  intro a h _ _;obtain rfl:a=0:=by omega
  exact⟨rfl,rfl⟩
 |succ b ih=>
  intro a PH hb iw;by_cases e:a=b+1
  ·subst e;exact⟨rfl,rfl⟩
  ·have ho:all[b]? =some all[b]:=aav (by omega);obtain⟨h1,h2⟩:=ih a (by omega) (by omega) (fun i hi Fv=>iw i hi (by omega));obtain⟨x,V,A,h3,h4⟩:=hT.tr b _ (by omega) ho;rcases h4 with h4|⟨h4,h5⟩
   ·exact absurd h4 (iw b (by omega) (by omega))
   ·rw[h3];exact⟨h4.trans h1,h5.trans h2⟩
include rj
theorem F1.Ov:∀(j i:Nat) oi t,j<=c->i<j->all[i]? =some oi->oi.dst=some t->look (σ j).fr t=look (σ (i+1)).fr t:=by
 have hc:=hT.le;intro j;induction j with
 |zero=>intro i oi t _ h;omega
 |succ j ih=>
  intro i oi t hj kI aV cn;by_cases e:i=j
  ·subst e;rfl
  ·have ho:all[j]? =some all[j]:=aav (by omega);rw[hT.step (by omega) ho (fun h=>e (rj i j oi _ t aV ho cn h))];exact ih i oi t (by omega) (by omega) aV cn
end
structure Jb (w0:World) (g0:Gh) (X:List Nat) (L:Ts) (S:List Nat) (g:Gh) (w:World):Prop where
 fr:xl w0 g0 X w g
 nC:iG w L S
 nd:S.Nodup
 out:∀b∈S,g.im b=0/\b∉g.ob/\b∉g.jy/\¬o4 b/\(w0.heap.size<=b\/b∈X)
theorem Jb.cR (h:Jb w0 g0 X L S g w) (k:Fr w g w' g'):Jb w0 g0 X L S g' w':=by
 have ax:=h.nC.lt;refine⟨h.fr.fr k,h.nC.dQ fun b hb=>k.qI b (ax b hb) (h.out b hb).2.1 (h.out b hb).2.2.1,h.nd,fun b hb=>?_⟩;obtain⟨h1,h2,h3,h4,h5⟩:=h.out b hb;have yi:=ax b hb;refine⟨(k.js b yi h3).trans h1,fun hm=>?_,fun hm=>?_,h4,h5⟩
 ·obtain⟨new,e,hn⟩:=k.ob;rw[e]at hm;rcases ZR.1 hm with q|q
  ·exact h2 q
  ·exact absurd (hn b q) (by omega)
 ·obtain⟨i,v,q1,q2⟩:=Gh.fQ hm;rcases k.ar i v b q1 q2 with q|q
  ·omega
  ·exact h3 q
set_option maxHeartbeats 2000000 in
theorem F2 {cs:List Nat} {ow:Nat->Bool} (hd:eC all ws=true) (LZ:∀(j:Nat) o,all[j]? =some o->o.guard=none) (fc:da n all.toList=true) {σ:Nat->St} {c:Nat} (hT:F1 all ws σ c) {af:Array Bool} {k0:Nat} (hD:DS all ws σ n w g af k0 g a w) (gC:k0<=c) (nI:∀i,af[i]? =some true->i<c)
  {j:Nat} (hj:j∈Region.ready .any all af) (EW:j<=c) {o:Oper} (ho:all[j]? =some o) {next:Act->World->Prop} {Q:Exit->Act->World->Prop}:
  (j<c->JS P (ow j) o (σ j) (σ (j+1))->(∀k1 v g' w',k1<=c->DS all ws σ n w' g' (af.setIfInBounds j true) k1 g' (a.put o.dst v) w'->Fr w g w' g'->next (a.put o.dst v) w')->wpOp P all Q j next a w)/\
  (j=c->cO o.op=false->j∉ws->Jb w0 g0 X L S g w->(∀K:AV->Ts->Prop,cg P (σ j) L o K->(∀x L' S' v g' w',K x L'->(∀σ':Nat->St,(∀i,i<=c->σ' i=σ i)->σ' (c+1)=(σ c).put o.dst x (σ c).V (σ c).A->DS all ws σ' n w' g' (af.setIfInBounds j true) k0 g' (a.put o.dst v) w')->Jb w0 g0 X L' S' g' w'->next (a.put o.dst v) w')->wpOp P all Q j next a w)):=by
 simp only[eC,aaE,ZP]at hd;obtain⟨⟨gk,jk⟩,nM⟩:=hd;have cV:∀(j:Nat) o,all[j]? =some o->(o,j)∈all.toList.zipIdx:=fun j o h=>by
  rw[ZW];exact⟨j,by simp[ZX,h]⟩
 have c7:∀(j:Nat) o,all[j]? =some o->∀e∈o.after,Region.binds .any e=true->e.on<j:=fun j o h e he hb=>by
  have:=gk _ (cV j o h) e (aaw.2 he);simpa[hb]using this
 have b7:∀(i j:Nat) oi oj,all[i]? =some oi->all[j]? =some oj->i<j->bq all ws (aX all.toList []) oi oj i j=true:=fun i j oi oj h1 h2 ax=>by
  have:=jk _ (cV j oj h2) _ (cV i oi h1);simpa[ax]using this
 have uT:∀(j:Nat) o,all[j]? =some o->j∈ws->cO o.op=false:=fun j o h hj=>by
  have:=nM _ (cV j o h);simpa[hj]using this
 have fU:∀(i j:Nat) oi oj d,all[i]? =some oi->all[j]? =some oj->i<j->oi.dst=some d->oj.dst≠some d:=fun i j oi oj d h1 h2 ax h3 h4=>by
  have:=b7 i j oi oj h1 h2 ax;simp[bq,h3,h4]at this
 have rj:∀(i j:Nat) oi oj d,all[i]? =some oi->all[j]? =some oj->oi.dst=some d->oj.dst=some d->i=j:=fun i j oi oj d h1 h2 h3 h4=>by
  rcases ZF i j with h|h|h
  ·exact absurd h4 (fU i j oi oj d h1 h2 h h3)
  ·exact h
  ·exact absurd h3 (fU j i oj oi d h2 h1 h h4)
 have Ae:∀(j:Nat) o d,all[j]? =some o->o.dst=some d->d<n:=fun j o d h1 h2=>by
  have:=ZP.1 fc o (by rw[aaw];exact aaA h1);simpa[h2]using this
 obtain⟨GO,_,BD⟩:=fe all.toList []
 have mW:∀{af:Array Bool},(∀(i:Nat) o,all[i]? =some o->af[i]? =some true->∀e∈o.after,Region.binds .any e=true->af[e.on]? =some true)->
   ∀(i:Nat) o,all[i]? =some o->(∀e∈o.after,Region.binds .any e=true->af[e.on]? =some true)->∀k,((aX all.toList []).getD i 0).testBit k=true->af[k]? =some true:=by
  intro af kS i;induction i using ZJ with
  |_ i ih=>
   intro o ho cG k hk;obtain⟨pre,h1,h2,h3⟩:=BD i o (by simpa using ho);simp only[Z9,ZG]at h1 h3;have h4:(aX all.toList []).getD i 0=mV pre o:=by simp[ZY,h3]
   rw[h4]at hk;obtain⟨e,he,hb,h5⟩:=fT hk;have s9:=cG e he hb;rcases h5 with rfl|h5
   ·exact s9
   ·have ax:=c7 i o ho e he hb;have h6:pre.getD e.on 0=(aX all.toList []).getD e.on 0:=by simp only[ZY,h2 e.on (by omega)]
    rw[h6]at h5;have e5:e.on<all.size:=by have:=(aau.1 ho).1;omega
    have uU:all[e.on]? =some all[e.on]:=aav e5;exact ih e.on ax _ uU (kS e.on _ uU s9) k h5
 have EY:=hT.le;have oP:=hT.Ou;have oQ:=hT.Ov rj;have tH:=hT.VA;obtain⟨mX,o2,mI,cG⟩:=mem_ready.1 hj;obtain rfl:o=o2:=by rw[ho]at mI;exact Option.some.inj mI
 have mY:=er mX;have rP:j<all.size:=(aau.1 ho).1;have jA:j<af.size:=by rw[hD.eI];exact rP
 have cB:∀e∈o.after,Region.binds .any e=true->af[e.on]? =some true:=fun e he hb=>cF.1 (cG e he hb)
 have cv:∀k,((aX all.toList []).getD j 0).testBit k=true->af[k]? =some true:=mW hD.closed j o ho cB;have bZ:∀(i:Nat) oi,all[i]? =some oi->af[i]? =some true->((aX all.toList []).getD i 0).testBit j=false:=fun i oi aV bE=>by
  cases hb:((aX all.toList []).getD i 0).testBit j with
  |false=>rfl
  |true=>have:=mW hD.closed i oi aV (hD.closed i oi aV bE) j hb;rw[mY]at this;simp at this
 have jJ:∀t∈o.looksAt all,∀x,look (σ j).fr t=some x->∃u,a.tmps[t]? =some u/\aO g w (σ k0).A x u:=by
  intro t ht x hx;by_cases hex:∃(i:Nat) (oi:Oper),i<j/\all[i]? =some oi/\oi.dst=some t
  ·obtain⟨i,oi,kI,aV,cn⟩:=hex;rw[oQ j i oi t (by omega) kI aV cn]at hx;have hp:=b7 i j oi o aV ho kI;have tI:dE all oi o=true:=by simp only[dE,cn];simpa using ht
   simp only[bq,tI,aaE,aaF]at hp;have hb:((aX all.toList []).getD j 0).testBit i=true:=by simpa using hp.2
   exact hD.ga i oi t x aV (cv i hb) cn hx
  ·rw[oP j t (by omega) (fun i oi kI aV cn=>hex ⟨i,oi,kI,aV,cn⟩)]at hx;refine hD.gd t x (fun i oi aV bE cn=>?_) hx;rcases ZF i j with h|h|h
   ·exact hex ⟨i,oi,h,aV,cn⟩
   ·subst h;rw[mY]at bE;simp at bE
   ·have hp:=b7 j i o oi ho aV h;have tI:dE all oi o=true:=by simp only[dE,cn];simpa using ht
    have hb:=bZ i oi aV bE;simp only[bq,tI,hb,aaE,aaF]at hp;simp at hp
 let cR:=(σ j).fr.filter fun p=>(o.looksAt all).contains p.1
 have ld:∀t,look cR t=if(o.looksAt all).contains t then look (σ j).fr t else none:=fun t=>e8 (fun t=>(o.looksAt all).contains t) (σ j).fr t
 have hS:∀(V:List (List CV)),iA g w ⟨cR,V,(σ k0).A⟩ a:=fun V t x hx=>by
  simp only[ld]at hx;split at hx
  ·rename_i hc;exact jJ t (by simpa using hc) x hx
  ·cases hx
 have gL:∀(V V':List (List CV)) (A A':List bu),∀x∈o.op.operands.toList,bF ⟨cR,V,A⟩ x=bF ⟨(σ j).fr,V',A'⟩ x:=fun V V' A A' x hx=>by
  cases x with
  |tmp t=>
   simp only[bF,ld];rw[if_pos];simp only[Oper.looksAt,aat,decide_eq_true_eq,ZR,aaf];exact .inl ⟨.tmp t,hx,rfl⟩
  |_=>rfl
 have gU:Rp n w g ⟨cR,(σ k0).V,(σ k0).A⟩ g a w:=⟨hD.inv,hD.fr,hD.size,hD.defers,hS _⟩;have lC:Region.wanted o (yielded all a.tmps)=true:=by simp[Region.wanted,LZ j o ho]
 have bN:∀i,(af.setIfInBounds j true)[i]? =if i=j then some true else af[i]? :=fun i=>by
  by_cases e:i=j
  ·subst e;simp[jA]
  ·rw[if_neg e,aax (fun h=>e h.symm)]
 have cM:∀(σ':Nat->St) (k1:Nat) (x:AV) (v:Value) (w':World) (g':Gh),(∀i,i<=c->σ' i=σ i)->look (σ' (j+1)).fr=look ((σ j).put o.dst x [] []).fr->aO g' w' (σ k1).A x v->Inv g' w' (σ k1).V (σ k1).A->Ext g w (σ k0).A g' w' (σ k1).A->Bi w' g'->k1<=c->
   (∀i∈ws,i<all.size->((af.setIfInBounds j true)[i]? =some true↔i<k1))->DS all ws σ' n w' g' (af.setIfInBounds j true) k1 g' (a.put o.dst v) w':=by
  intro σ' k1 x v w' g' hσ C6 yv hI hx hF hk FH;have iY:∀t u,o.dst≠some t->a.tmps[t]? =some u->(a.put o.dst v).tmps[t]? =some u:=fun t u dj hu=>by
   cases q9:o.dst with
   |none=>exact hu
   |some d=>
    simp only[Act.put];rw[aax (fun e=>dj (by rw[q9,e]))];exact hu
  refine⟨by rw[hσ k1 hk];exact hI,.refl hF,?_,?_,by simp[hD.eI],fun i oi t y aV bE cn hy=>?_,fun t y iw hy=>?_,FH,by omega,fun i oi aV bE e he hb=>?_⟩
  ·cases o.dst<;>simp[Act.put,hD.size]
  ·cases o.dst<;>simp[Act.put,hD.defers]
  ·rw[hσ k1 hk];rw[bN]at bE;by_cases e:i=j
   ·subst e;obtain rfl:o=oi:=by rw[ho]at aV;exact Option.some.inj aV
    rw[C6]at hy;simp only[St.put,cn,look,if_true]at hy;cases hy
    refine⟨v,?_,yv⟩;have:t<a.tmps.size:=by rw[hD.size];exact Ae i o t ho cn
    simp[Act.put,cn,this]
   ·rw[if_neg e]at bE;rw[hσ (i+1) (nI i bE)]at hy;obtain⟨u,h1,h2⟩:=hD.ga i oi t y aV bE cn hy;exact⟨u,iY t u (fun h=>e (rj i j oi o t aV ho cn h)) h1,aO.ext hx h2⟩
  ·rw[hσ k1 hk];rw[hσ 0 (ZE _)]at hy;have dj:o.dst≠some t:=iw j o ho (by rw[bN,if_pos rfl]);obtain⟨u,h1,h2⟩:=hD.gd t y (fun i oi aV bE=>iw i oi aV (by
    rw[bN];by_cases e:i=j
    ·rw[if_pos e]
    ·rw[if_neg e];exact bE)) hy
   exact⟨u,iY t u dj h1,aO.ext hx h2⟩
  ·rw[bN]at bE⊢;have:af[e.on]? =some true:=by
    by_cases e':i=j
    ·subst e';obtain rfl:o=oi:=by rw[ho]at aV;exact Option.some.inj aV
     exact cB e he hb
    ·rw[if_neg e']at bE;exact hD.closed i oi aV bE e he hb
   by_cases e':e.on=j
   ·rw[if_pos e']
   ·rw[if_neg e'];exact this
 have il:j∉ws->∀i∈ws,i<all.size->((af.setIfInBounds j true)[i]? =some true↔i<k0):=fun ez i hi b8=>by
  rw[bN,if_neg (fun e=>ez (by rw[<-e];exact hi))];exact hD.ep i hi b8
 have kV:cO o.op=false->(σ j).V=(σ k0).V/\(σ j).A=(σ k0).A:=by
  intro fK;rcases ZM j k0 with h|h
  ·have:=tH k0 j h gC (fun i h1 h2 h3=>by
    have b8:i<all.size:=by omega
    have bE:=(hD.ep i h3 b8).2 h2;have aV:all[i]? =some all[i]:=aav b8;rcases ZH j i with h4|h4
    ·have hp:=b7 j i o _ ho aV h4;have hb:=bZ i _ aV bE;simp only[bq,hb,aaE,aaF]at hp;simp[h3,fK,-cO]at hp
    ·obtain rfl:i=j:=by omega
     rw[mY]at bE;simp at bE)
   exact⟨this.1.symm,this.2.symm⟩
  ·exact tH j k0 h EW (fun i h1 h2 h3=>by
    have b8:i<all.size:=by omega
    have aV:all[i]? =some all[i]:=aav b8;have hp:=b7 i j _ o aV ho h2;simp only[bq,aaE,aaF]at hp;have hb:((aX all.toList []).getD j 0).testBit i=true:=by
     rcases hp.2 with h4|h4
     ·simp[h3,fK,-cO]at h4
     ·exact h4
    have:=(hD.ep i h3 b8).1 (cv i hb);omega)
 unfold wpOp;simp only[ho];rw[if_pos lC];refine⟨fun lZ ft ih=>.inl ?_,fun lZ fK ez hJ K iB ih=>.inl ?_⟩
 ·obtain⟨x,V,A,h2,h3⟩:=ft;have oU:look (σ (j+1)).fr=look ((σ j).put o.dst x [] []).fr:=by rw[h2];rfl
  by_cases hs:cO o.op=true
  ·-- slots alone
   have ez:j∉ws:=fun h=>by have:=uT j o ho h;rw[hs]at this;simp at this
   have h4:bI P ⟨cR,(σ k0).V,(σ k0).A⟩ (ow j) o (fun y V' A'=>y=x/\V'=(σ k0).V/\A'=(σ k0).A):=nK (s:=σ j) (s':=⟨cR,(σ k0).V,(σ k0).A⟩) hs (gL _ _ _ _) h3 ⟨rfl,rfl,rfl⟩;obtain⟨y,V',A',⟨rfl,rfl,rfl⟩,h5⟩:=dk gU.inv gU.fr gU.slot h4;exact h5 _ _ fun v w' g' h6 h7 h8 h9=>ih k0 v g' w' gC (cM σ k0 y v w' g' (fun _ _=>rfl) oU h6 h7 h8 h9.now gC (il ez)) h9
  ·have fK:cO o.op=false:=by simpa[-cO]using hs
   obtain⟨kK,iZ⟩:=kV fK;have h4:bI P ⟨cR,(σ k0).V,(σ k0).A⟩ (ow j) o (fun y V' A'=>y=x/\V'=V/\A'=A):=by
    rw[<-kK,<-iZ];exact eo (fr:=(σ j).fr) (gL _ _ _ _) (h3 _ ⟨rfl,rfl,rfl⟩)
   obtain⟨y,V',A',⟨rfl,rfl,rfl⟩,h5⟩:=dk gU.inv gU.fr gU.slot h4;have tc:(σ (j+1)).V=V':=by rw[h2];rfl
   have jo:(σ (j+1)).A=A':=by rw[h2];rfl
   by_cases ez:j∈ws
   ·refine h5 _ _ fun v w' g' h6 h7 h8 h9=>ih (j+1) v g' w' lZ (cM σ (j+1) y v w' g' (fun _ _=>rfl) oU (by rw[jo];exact h6) (by rw[tc,jo];exact h7) (by rw[jo];exact h8) h9.now lZ (fun i hi b8=>?_)) h9
    have aV:all[i]? =some all[i]:=aav b8;rw[bN];by_cases e:i=j
    ·subst e;simp
    ·rw[if_neg e];constructor
     ·intro bE;rcases ZH j i with h|h
      ·have hp:=b7 j i o _ ho aV h;have hb:=bZ i _ aV bE;simp only[bq,hb,aaE,aaF]at hp;simp[hi,fK,-cO]at hp
      ·omega
     ·intro ax;have hp:=b7 i j _ o aV ho (by omega);simp only[bq,aaE,aaF]at hp;rcases hp.2 with h|h
      ·simp[hi,fK,-cO]at h
      ·exact cv i h
   ·obtain⟨x2,V2,A2,q1,q2⟩:=hT.tr j o lZ ho;rcases q2 with q2|⟨q2,q3⟩
    ·exact absurd q2 ez
    have p9:(σ (j+1)).V=(σ j).V:=by rw[q1];exact q2
    have mI:(σ (j+1)).A=(σ j).A:=by rw[q1];exact q3
    refine h5 _ _ fun v w' g' h6 h7 h8 h9=>ih k0 v g' w' gC (cM σ k0 y v w' g' (fun _ _=>rfl) oU ?_ ?_ ?_ h9.now gC (il ez)) h9
    ·rw[<-iZ,<-mI,jo];exact h6
    ·rw[<-kK,<-iZ,<-p9,<-mI,tc,jo];exact h7
    ·have e1:(σ k0).A=A':=by rw[<-iZ,<-mI,jo]
     rw[e1]at h8⊢;exact h8
 ·-- the call
  subst lZ;have Ow:ry n w0 g0 X ⟨cR,(σ k0).V,(σ k0).A⟩ L S g a w:=⟨hD.inv,hJ.fr,hD.size,hD.defers,hS _,hJ.nC,hJ.nd,hJ.out⟩;obtain⟨kK,iZ⟩:=kV fK;refine qf Ow (pN (s:=σ j) (ow:=ow j) (gL _ _ _ _) iB) _ _ ?_;rintro x V' A' L' S' v w' g' ⟨rfl,rfl,hk⟩ h6 h7 h8 h9 cJ eG fY;refine ih x L' S' v g' w' hk (fun σ' hσ hn=>cM σ' k0 x v w' g' hσ (by rw[hn];rfl) h6 h7 h8 h9.now gC (il ez)) ⟨h9,cJ,eG,fY⟩
theorem zC (hd:eC all ws=true) {σ:Nat->St} (hT:F1 all ws σ all.size) {af:Array Bool} {k0:Nat} (hD:DS all ws σ n w g af k0 g a w) (dh:∀i,i<all.size->af[i]? =some true) (hJ:Jb w0 g0 X L S g w):ry n w0 g0 X (σ all.size) L S g a w:=by
 simp only[eC,aaE,ZP]at hd;obtain⟨⟨gk,jk⟩,nM⟩:=hd;have cV:∀(j:Nat) o,all[j]? =some o->(o,j)∈all.toList.zipIdx:=fun j o h=>by
  rw[ZW];exact⟨j,by simp[ZX,h]⟩
 have c7:∀(j:Nat) o,all[j]? =some o->∀e∈o.after,Region.binds .any e=true->e.on<j:=fun j o h e he hb=>by
  have:=gk _ (cV j o h) e (aaw.2 he);simpa[hb]using this
 have b7:∀(i j:Nat) oi oj,all[i]? =some oi->all[j]? =some oj->i<j->bq all ws (aX all.toList []) oi oj i j=true:=fun i j oi oj h1 h2 ax=>by
  have:=jk _ (cV j oj h2) _ (cV i oi h1);simpa[ax]using this
 have uT:∀(j:Nat) o,all[j]? =some o->j∈ws->cO o.op=false:=fun j o h hj=>by
  have:=nM _ (cV j o h);simpa[hj]using this
 have fU:∀(i j:Nat) oi oj d,all[i]? =some oi->all[j]? =some oj->i<j->oi.dst=some d->oj.dst≠some d:=fun i j oi oj d h1 h2 ax h3 h4=>by
  have:=b7 i j oi oj h1 h2 ax;simp[bq,h3,h4]at this
 have rj:∀(i j:Nat) oi oj d,all[i]? =some oi->all[j]? =some oj->oi.dst=some d->oj.dst=some d->i=j:=fun i j oi oj d h1 h2 h3 h4=>by
  rcases ZF i j with h|h|h
  ·exact absurd h4 (fU i j oi oj d h1 h2 h h3)
  ·exact h
  ·exact absurd h3 (fU j i oj oi d h2 h1 h h4)
 have kV:=hT.VA all.size k0 hD.nL (ZD _) (fun i h1 h2 h3=>by have:=(hD.ep i h3 h2).1 (dh i h2);omega);refine⟨by rw[kV.1,kV.2];exact hD.inv,hJ.fr,hD.size,hD.defers,fun t x hx=>?_,hJ.nC,hJ.nd,hJ.out⟩;rw[kV.2];by_cases hex:∃(i:Nat) (o:Oper),all[i]? =some o/\o.dst=some t
 ·obtain⟨i,o,ho,cn⟩:=hex;have hi:=(aau.1 ho).1;rw[hT.Ov rj all.size i o t (ZD _) hi ho cn]at hx;exact hD.ga i o t x ho (dh i hi) cn hx
 ·rw[hT.Ou all.size t (ZD _) (fun i o _ ho cn=>hex ⟨i,o,ho,cn⟩)]at hx;exact hD.gd t x (fun i o ho _ cn=>hex ⟨i,o,ho,cn⟩) hx
def lf (all:Array Oper) (ws cs:List Nat):Bool:=
 let l:=all.toList.zipIdx
 let ms:=aX all.toList []
 (cs.all fun c=> !ws.contains c && l.all fun(_,j)=> !(decide (c<j))||(ms.getD j 0).testBit c)&&(l.all fun(o,_)=>o.guard.isNone)&&(l.all fun(o,j)=> !cs.contains j|| !cO o.op)
theorem Cn {cs:List Nat} {ow:Nat->Bool} {K:St->Ts->Prop} {Q:Exit->Act->World->Prop} (hd:eC all ws=true) (hc:lf all ws cs=true) (fc:da n all.toList=true)
  (hQ:∀s' L' S' g' a' w',K s' L'->ry n w0 g0 X s' L' S' g' a' w'->Q .normal a' w'):
  ∀(fuel:Nat) (σ:Nat->St) (c:Nat) (L:Ts) (S:List Nat) (af:Array Bool) (k0:Nat) (g:Gh) (a:Act) (w:World),((ZO all.size).filter fun i=> !af.getD i true).length<=fuel->F1 all ws σ c->k0<=c->
   (∀(j:Nat) o,j<c->all[j]? =some o->af[j]? ≠some true->JS P (ow j) o (σ j) (σ (j+1)))->(∀i,af[i]? =some true->i<c)->
   ((c=all.size/\K (σ c) L)\/(c∈cs/\∃o,all[c]? =some o/\cg P (σ c) L o fun x L'=>qQ P ow ws cs K (c+1) (all.toList.drop (c+1)) ((σ c).put o.dst x (σ c).V (σ c).A) L'))->
   DS all ws σ n w g af k0 g a w->Jb w0 g0 X L S g w->wpAny P .any all Q fuel af a w:=by
 have yj:=hd;simp only[eC,aaE,ZP]at hd;obtain⟨⟨gk,jk⟩,nM⟩:=hd;have cV:∀(j:Nat) o,all[j]? =some o->(o,j)∈all.toList.zipIdx:=fun j o h=>by
  rw[ZW];exact⟨j,by simp[ZX,h]⟩
 have c7:∀(j:Nat) o,all[j]? =some o->∀e∈o.after,Region.binds .any e=true->e.on<j:=fun j o h e he hb=>by
  have:=gk _ (cV j o h) e (aaw.2 he);simpa[hb]using this
 have b7:∀(i j:Nat) oi oj,all[i]? =some oi->all[j]? =some oj->i<j->bq all ws (aX all.toList []) oi oj i j=true:=fun i j oi oj h1 h2 ax=>by
  have:=jk _ (cV j oj h2) _ (cV i oi h1);simpa[ax]using this
 have uT:∀(j:Nat) o,all[j]? =some o->j∈ws->cO o.op=false:=fun j o h hj=>by
  have:=nM _ (cV j o h);simpa[hj]using this
 have fU:∀(i j:Nat) oi oj d,all[i]? =some oi->all[j]? =some oj->i<j->oi.dst=some d->oj.dst≠some d:=fun i j oi oj d h1 h2 ax h3 h4=>by
  have:=b7 i j oi oj h1 h2 ax;simp[bq,h3,h4]at this
 have rj:∀(i j:Nat) oi oj d,all[i]? =some oi->all[j]? =some oj->oi.dst=some d->oj.dst=some d->i=j:=fun i j oi oj d h1 h2 h3 h4=>by
  rcases ZF i j with h|h|h
  ·exact absurd h4 (fU i j oi oj d h1 h2 h h3)
  ·exact h
  ·exact absurd h3 (fU j i oj oi d h2 h1 h h4)
 simp only[lf,aaE,ZP]at hc;obtain⟨⟨uK,FB⟩,Ox⟩:=hc;have LZ:∀(j:Nat) o,all[j]? =some o->o.guard=none:=fun j o h=>by
  have:=FB _ (cV j o h);simpa using this
 have JT:∀c∈cs,c∉ws:=fun c h=>by simpa using(uK c h).1
 have Oy:∀c∈cs,∀o,all[c]? =some o->cO o.op=false:=fun c h o ho=>by
  have:=Ox _ (cV c o ho);simpa[h,-cO]using this
 have Jd:∀c∈cs,∀(j:Nat) o,all[j]? =some o->c<j->((aX all.toList []).getD j 0).testBit c=true:=fun c h j o ho ax=>by
  have:=(uK c h).2 _ (cV j o ho);simpa[ax]using this
 have pH:∀{af:Array Bool},Region.ready .any all af=[]->af.size=all.size->∀i,i<all.size->af[i]? =some true:=by
  intro af hr vK i;induction i using ZJ with
  |_ i ih=>
   intro hi;have ho:all[i]? =some all[i]:=aav hi;have bE:i<af.size:=by omega
   cases hl:af[i]with
   |true=>rw[aav bE,hl]
   |false=>
    exfalso
    have:i∈Region.ready .any all af:=mem_ready.2 ⟨by simp[bE,hl],_,ho,fun e he hb=>cF.2 (ih e.on (c7 i _ ho e he hb) (by have:=c7 i _ ho e he hb;omega))⟩;rw[hr]at this;simp at this
 have lU:∀{σ:Nat->St} {c:Nat} {L:Ts} {S:List Nat} {af:Array Bool} {k0:Nat} {g:Gh} {a:Act} {w:World},F1 all ws σ c->(∀i,af[i]? =some true->i<c)->
   ((c=all.size/\K (σ c) L)\/(c∈cs/\∃o,all[c]? =some o/\cg P (σ c) L o fun x L'=>qQ P ow ws cs K (c+1) (all.toList.drop (c+1)) ((σ c).put o.dst x (σ c).V (σ c).A) L'))->
   DS all ws σ n w g af k0 g a w->Jb w0 g0 X L S g w->Region.ready .any all af=[]->Q .normal a w:=by
  intro σ c L S af k0 g a w hT nI hK hD hJ hr;have dh:=pH hr hD.eI;rcases hK with⟨rfl,hK⟩|⟨oZ,o,ho,_⟩
  ·exact hQ _ _ _ _ _ _ hK (zC yj hT hD dh hJ)
  ·have b8:=(aau.1 ho).1;have:=nI c (dh c b8);omega
 intro fuel;induction fuel with
 |zero=>
  intro σ c L S af k0 g a w hf hT gC rD nI hK hD hJ;have la:Region.ready .any all af=[]:=by
   have h0:((ZO all.size).filter fun i=> !af.getD i true)=[]:=aaq (by omega);rcases hr:Region.ready .any all af with _|⟨j,r⟩
   ·rfl
   ·have hj:j∈Region.ready .any all af:=by rw[hr];simp
    obtain⟨h1,o,h2,_⟩:=mem_ready.1 hj;have:j∈((ZO all.size).filter fun i=> !af.getD i true):=by
     rw[aag,ZV];exact⟨(aau.1 h2).1,by simp[h1]⟩
    rw[h0]at this;simp at this
  exact⟨la,lU hT nI hK hD hJ la⟩
 |succ fuel ih=>
  intro σ c L S af k0 g a w hf hT gC rD nI hK hD hJ;refine⟨fun hr=>lU hT nI hK hD hJ hr,fun j hj=>?_⟩;obtain⟨mX,o,ho,cG⟩:=mem_ready.1 hj;have mY:=er mX;have rP:j<all.size:=(aau.1 ho).1;have jA:j<af.size:=by rw[hD.eI];exact rP
  have cB:∀e∈o.after,Region.binds .any e=true->af[e.on]? =some true:=fun e he hb=>cF.1 (cG e he hb)
  have bN:∀i,(af.setIfInBounds j true)[i]? =if i=j then some true else af[i]? :=fun i=>by
   by_cases e:i=j
   ·subst e;simp[jA]
   ·rw[if_neg e,aax (fun h=>e h.symm)]
  have c4:((ZO all.size).filter fun i=> !(af.setIfInBounds j true).getD i true).length<=fuel:=by
   have ax:((ZO all.size).filter fun i=> !(af.setIfInBounds j true).getD i true).length<((ZO all.size).filter fun i=> !af.getD i true).length:=by
    have gK:∀i,(!(af.setIfInBounds j true).getD i true)=true->(!af.getD i true)=true:=fun i h=>by
     by_cases e:i=j
     ·subst e;simp[jA]at h
     ·have:(af.setIfInBounds j true).getD i true=af.getD i true:=by
       simp only[aaz,bN,if_neg e]
      rwa[this]at h
    exact filter_lt gK (ZV.2 rP) (by simp[mX]) (by simp[jA])
   omega
  have EW:j<=c:=by
   rcases hK with⟨rfl,_⟩|⟨oZ,oc,EZ,_⟩
   ·omega
   ·rcases ZH c j with h|h
    ·have:=nI c (nZ c7 hD.closed j o ho cB c (Jd c oZ j o ho h));omega
    ·exact h
  obtain⟨one1,one2⟩:=F2 (cs:=cs) (w0:=w0) (g0:=g0) (X:=X) (L:=L) (S:=S) (ow:=ow) yj LZ fc hT hD gC nI hj EW ho (next:=wpAny P .any all Q fuel (af.setIfInBounds j true)) (Q:=Q);rcases ZL EW with ax|rfl
  ·refine one1 ax (rD j o ax ho (by rw[mY];simp)) fun k1 v g' w' jl JF hF=>ih σ c L S _ k1 g' _ w' c4 hT jl (fun i oi hi aV bE=>rD i oi hi aV fun h=>bE ?_) (fun i hi=>?_) hK JF (hJ.cR hF)
   ·rw[bN];by_cases e:i=j
    ·rw[if_pos e]
    ·rw[if_neg e];exact h
   ·rw[bN]at hi;by_cases e:i=j
    ·subst e;exact ax
    ·rw[if_neg e]at hi;exact nI i hi
  ·rcases hK with⟨h,_⟩|⟨oZ,oc,EZ,iB⟩
   ·omega
   obtain rfl:o=oc:=by rw[ho]at EZ;exact Option.some.inj EZ
   refine one2 rfl (Oy j oZ o ho) (JT j oZ) hJ _ iB fun x L' S' v g' w' hk Oz OA=>?_
   obtain⟨τ,m,k1,k2,k3,k4⟩:=pO _ _ _ _ hk;have hlen:(all.toList.drop (j+1)).length=all.size-(j+1):=by simp
   let σ':Nat->St:=fun i=>if i<=j then σ i else τ (i-(j+1))
   have e1:∀i,i<=j->σ' i=σ i:=fun i hi=>by simp only[σ',if_pos hi]
   have e2:∀i,σ' (j+1+i)=τ i:=fun i=>by simp only[σ',if_neg (show¬j+1+i<=j by omega)];congr 1;omega
   have e3:∀i,(all.toList.drop (j+1))[i]? =all[j+1+i]? :=fun i=>by simp
   have kp:σ' (j+1)=(σ j).put o.dst x (σ j).V (σ j).A:=by rw[<-k2];exact e2 0
   refine ih σ' (j+1+m) L' S' _ k0 g' _ w' c4 ⟨by omega,fun i oi hi aV=>?_⟩ (by omega) (fun i oi hi aV bE=>?_) (fun i hi=>?_) ?_ (Oz σ' e1 kp) OA
   ·rcases ZF i j with h|h|h
    ·rw[e1 i (by omega),e1 (i+1) (by omega)];exact hT.tr i oi h aV
    ·subst h;obtain rfl:o=oi:=by rw[ho]at aV;exact Option.some.inj aV
     rw[e1 i (by omega),kp];exact⟨x,_,_,rfl,.inr ⟨rfl,rfl⟩⟩
    ·obtain⟨q,rfl⟩:∃q,i=j+1+q:=⟨i-(j+1),by omega⟩;rw[e2 q,show j+1+q+1=j+1+(q+1) by omega,e2 (q+1)];exact(k3 q oi (by omega) (by rw[e3];exact aV)).2
   ·rw[bN]at bE;by_cases e:i=j
    ·rw[if_pos e]at bE;simp at bE
    ·rw[if_neg e]at bE;rcases ZH i j with h|h
     ·rw[e1 i (by omega),e1 (i+1) (by omega)];exact rD i oi h aV bE
     ·obtain⟨q,rfl⟩:∃q,i=j+1+q:=⟨i-(j+1),by omega⟩;rw[e2 q,show j+1+q+1=j+1+(q+1) by omega,e2 (q+1)];exact(k3 q oi (by omega) (by rw[e3];exact aV)).1
   ·rw[bN]at hi;by_cases e:i=j
    ·omega
    ·rw[if_neg e]at hi;have:=nI i hi;omega
   ·rcases k4 with⟨h1,h2⟩|⟨h1,oc,h2,h3⟩
    ·exact .inl ⟨by omega,by rw[e2];exact h2⟩
    ·refine .inr ⟨h1,oc,by rw[<-e3];exact h2,?_⟩;rw[e2];rw[aas,show j+1+(m+1)=j+1+m+1 by omega]at h3;exact h3
end
def eM (l:List Oper) (p:List Nat):List Oper:=p.map fun i=>l.getD i default
def iR (p:List Nat) (o:Oper):Oper:={o with after:=o.after.map fun e=>{e with on:=p.idxOf e.on}}
def bL (l:List Oper) (p:List Nat):List Oper:=(eM l p).map (iR p)
def kP (l:List Oper) (p:List Nat):Bool:=p.length==l.length && p.all (fun i=>decide (i<l.length))&&(ZO l.length).all (fun i=>p.contains i)&& l.all (fun o=>o.guard.isNone)&&(ZO p.length).all (fun j=>p.idxOf (p.getD j 0)==j)
section
variable {P:Program} {l:List Oper} {p:List Nat} {md:Region.Mode} {Q:Exit->Act->World->Prop}
theorem ji (h:kP l p=true):p.length=l.length/\(∀i∈p,i<l.length)/\(∀i,i<l.length->i∈p)/\(∀o∈l,o.guard=none)/\∀j,j<p.length->p.idxOf (p.getD j 0)=j:=by
 simp only[kP,aaE,ZP]at h;obtain⟨⟨⟨⟨h1,h2⟩,h3⟩,h4⟩,h5⟩:=h;refine⟨by simpa using h1,fun i hi=>by simpa using h2 i hi,fun i hi=>by simpa using h3 i (ZV.2 hi),fun o ho=>by simpa using h4 o ho,fun j hj=>by simpa using h5 j (ZV.2 hj)⟩
theorem du:(bL l p).length=p.length:=by simp[bL,eM]
theorem xo (h:kP l p=true) {i:Nat} {o:Oper} (ho:l[i]? =some o):(bL l p)[p.idxOf i]? =some (iR p o):=by
 obtain⟨h1,h2,h3,h4,h5⟩:=ji h;have hi:=(ZS.1 ho).1;have hx:p[p.idxOf i]? =some i:=by
  have ax:=Z3 (h3 i hi);rw[ZQ ax,aaa ax]
 simp only[bL,eM,aai,aab,hx,aaI,Function.comp];rw[aap,ho];rfl
theorem lg (h:kP l p=true) {j:Nat} {o':Oper} (ho:(bL l p)[j]? =some o'):∃o,l[p.getD j 0]? =some o/\o'=iR p o/\p[j]? =some (p.getD j 0):=by
 obtain⟨h1,h2,h3,h4,h5⟩:=ji h;have hj:j<p.length:=by have:=(ZS.1 ho).1;rwa[du]at this
 have e:p.getD j 0=p[j]:=by simp[ZY,hj]
 have ax:=h2 p[j] (List.getElem_mem hj);simp only[bL,eM,aai,aab,ZQ hj,aaI,Function.comp,Option.some.injEq]at ho;refine⟨l[p[j]],by rw[e];exact ZQ ax,?_,by rw[e];exact ZQ hj⟩;rw[<-ho,aap,ZQ ax];rfl
theorem mo {α:Type} {l:Array α} {i:Nat} {d:α}:l.getD i d=(l[i]?).getD d:=aaz
theorem rE (h:kP l p=true):∀(fuel:Nat) (af listed':Array Bool) (a:Act) (w:World),af.size=l.length->listed'.size=l.length->(∀i,listed'[p.idxOf i]? =af[i]?)->wpAny P md (bL l p).toArray Q fuel listed' a w->wpAny P md l.toArray Q fuel af a w:=by
 obtain⟨h1,h2,h3,h4,h5⟩:=ji h;have hr:∀(af listed':Array Bool),(∀i,listed'[p.idxOf i]? =af[i]?)->∀j,j∈Region.ready md l.toArray af->p.idxOf j∈Region.ready md (bL l p).toArray listed':=fun af listed' xq j hj=>by
  obtain⟨q1,o,q2,q3⟩:=mem_ready.1 hj;refine mem_ready.2 ⟨by rw[mo,xq,<-mo];exact q1,iR p o,?_,fun e' he hb=>?_⟩
  ·have:=xo h (i:=j) (o:=o) (by simpa using q2);simpa using this
  ·simp only[iR,aaB]at he;obtain⟨e,s9,rfl⟩:=he;have:=q3 e s9 hb;rw[mo,xq,<-mo];exact this
 have Dh:∀(af listed':Array Bool),(∀i,listed'[p.idxOf i]? =af[i]?)->listed'.size=l.length->Region.ready md l.toArray af=[]->Region.ready md (bL l p).toArray listed'=[]:=fun af listed' xq e5 hn=>by
  cases hx:Region.ready md (bL l p).toArray listed' with
  |nil=>rfl
  |cons j r=>
   exfalso
   have hj:j∈Region.ready md (bL l p).toArray listed':=by rw[hx];simp
   obtain⟨q1,o',q2,q3⟩:=mem_ready.1 hj;obtain⟨o,q4,rfl,q5⟩:=lg h (j:=j) (o':=o') (by simpa using q2);have U1:j<p.length:=(ZS.1 q5).1;have hi:=h5 j U1;have U2:listed'[j]? =af[p.getD j 0]? :=by rw[<-xq,hi]
   have b8:p.getD j 0∈Region.ready md l.toArray af:=by
    refine mem_ready.2 ⟨by rw[mo,<-U2,<-mo];exact q1,o,by simpa using q4,fun e he hb=>?_⟩;have:=q3 {e with on:=p.idxOf e.on} (by simp only[iR,aaB];exact⟨e,he,rfl⟩) hb;rw[mo,<-xq,<-mo];exact this
   rw[hn]at b8;simp at b8
 intro fuel;induction fuel with
 |zero=>
  intro af listed' a w s1 s2 xq hh;refine⟨?_,hh.2⟩;cases hx:Region.ready md l.toArray af with
  |nil=>rfl
  |cons j r=>
   have:=hr af listed' xq j (by rw[hx];simp);rw[hh.1]at this;simp at this
 |succ fuel ih=>
  intro af listed' a w s1 s2 xq hh;refine⟨fun h0=>hh.1 (Dh af listed' xq s2 h0),fun j hj=>?_⟩;have gL:=hh.2 _ (hr af listed' xq j hj);obtain⟨q1,o,q2,q3⟩:=mem_ready.1 hj;have q2':l[j]? =some o:=by simpa using q2
  have rP:=(ZS.1 q2').1;have q4:(bL l p).toArray[p.idxOf j]? =some (iR p o):=by simpa using xo h q2'
  have OB:o.guard=none:=h4 o (Z1 q2');have hK:∀a w,wpAny P md (bL l p).toArray Q fuel (listed'.setIfInBounds (p.idxOf j) true) a w->wpAny P md l.toArray Q fuel (af.setIfInBounds j true) a w:=fun a w=>by
   refine ih _ _ a w (by simp[s1]) (by simp[s2]) fun i=>?_
   have ax:=Z3 (h3 j rP);rw[aaC,aaC];by_cases e:j=i
   ·subst e;rw[if_pos rfl,if_pos rfl,if_pos (by omega),if_pos (by omega)]
   ·rw[if_neg e,if_neg (fun e'=>?_),xq];have hx:p[p.idxOf j]? =some j:=by rw[ZQ ax,aaa ax]
    have gu:p.idxOf i<p.length:=by omega
    have hy:p[p.idxOf i]? =some i:=by rw[ZQ gu,aaa gu]
    rw[<-e',hx]at hy;exact e (Option.some.inj hy)
  unfold wpOp at gL⊢;simp only[q4]at gL;simp only[q2];rw[if_pos (by simp[Region.wanted,iR,OB])]at gL;rw[if_pos (by simp[Region.wanted,OB])];rcases gL with gL|⟨gL,hl⟩
  ·exact .inl (Oper.wp_mono hK gL)
  ·exact .inr ⟨gL,hl⟩
end
section
variable {P:Program} {n:Nat} {s s':St} {L L':Ts} {x y:Code} {ws cs:List Nat} {ow:Nat->Bool} {K:St->Ts->Prop}
theorem xr (p:List Nat):∀(ops:List Oper) (i:Nat) (s:St) (L:Ts),qQ P ow ws cs K i ops s L->qQ P ow ws cs K i (ops.map (iR p)) s L
 |[],_,_,_,h=>h
 |o::rest,i,s,L,h=>by
  rcases h with⟨h1,h2⟩|⟨h1,h2⟩
  ·exact .inl ⟨h1,qh (o:=o) (fun x L' h=>xr p rest _ _ _ h) h2⟩
  ·exact .inr ⟨h1,gm (o:=o) (fun x V A h=>⟨h.1,xr p rest _ _ _ h.2⟩) h2⟩
theorem TJ.sM {Q:Exit->St->Ts->Prop} {id:Nat} {l:List Oper} (hm:P.follows .mixedOrders=true) (p:List Nat) (ow:Nat->Bool) (ws cs:List Nat) (hp:kP l p=true) (hd:eC (bL l p).toArray ws=true) (hc:lf (bL l p).toArray ws cs=true)
  (h:qQ P ow ws cs (fun s' L'=>Q .normal s' L') 0 (eM l p) s L):TJ P n (.region id l.toArray true) Q s L:=by
 obtain⟨p1,p2,p3,p4,p5⟩:=ji hp;intro eT w0 g0 X S g a w hR;have DX:da n (bL l p).toArray.toList=true:=by
  have hx:da n l=true:=by simpa[codeOk]using eT
  simp only[da,ZP]at hx⊢;intro o' s6;obtain⟨j,hj⟩:=Z4 s6;obtain⟨o,q1,rfl,_⟩:=lg hp (j:=j) (o':=o') (by simpa using hj);exact hx o (Z1 q1)
 obtain⟨τ,m,k1,k2,k3,k4⟩:=pO (eM l p|>.map (iR p)) 0 s L (xr p _ _ _ _ h);obtain⟨hI,hx⟩:=hR.inv.heap (w':={w with drawn:=w.drawn+1}) rfl;have hF:Fr w g {w with drawn:=w.drawn+1} g:=(Fr.refl hR.fr.now).heap rfl rfl rfl rfl;have hJ:Jb w0 g0 X L S g {w with drawn:=w.drawn+1}:=(Jb.mk hR.fr hR.nC hR.nd hR.out).cR hF;have e5:(bL l p).toArray.size=l.length:=by simp[du,p1]
 have wx:∀(i:Nat),(bL l p).toArray[i]? =(bL l p)[i]? :=fun i=>by simp
 refine wp_region_any hm (rE hp _ _ (aay l.length false) a _ (by simp) (by simp) (fun i=>?_) (Cn (K:=fun s' L'=>Q .normal s' L') (ow:=ow) hd hc DX (fun s' L' S' g' a' w' h1 h2=>⟨s',g',L',S',h1,h2⟩) _ τ m L S _ 0 g a _ ?_ ?_ (ZE _) ?_ ?_ ?_ ?_ hJ))
 ·simp only[aaD];by_cases hi:i<l.length
  ·have:=Z3 (p3 i hi);rw[if_pos (by omega),if_pos (by simpa using hi)]
  ·have OC:i∉p:=fun h=>hi (p2 i h)
   rw[if_neg (by rw[aam OC];omega),if_neg (by simpa using hi)]
 ·refine ZI (aak _ _) (by simp[du,p1])
 ·refine⟨by rw[e5,<-p1,<-du (l:=l)];exact k1,fun j o hj ho=>?_⟩;have:=(k3 j o hj (by rw[wx]at ho;exact ho)).2;simpa only[ZG]using this
 ·intro j o hj ho _;have:=(k3 j o hj (by rw[wx]at ho;exact ho)).1;simpa only[ZG]using this
 ·intro i hi;have Bd:=(aau.1 hi).1;simp at Bd;simp[Bd]at hi
 ·rcases k4 with⟨h1,h2⟩|⟨h1,oc,h2,h3⟩
  ·exact .inl ⟨by rw[h1];simp[bL],h2⟩
  ·refine .inr ⟨by simpa using h1,oc,by rw[wx];exact h2,?_⟩;simp only[ZG]at h3;exact h3
 ·refine⟨by rw[k2];exact hI,.refl hF.now,hR.size,hR.defers,by simp[du,p1],fun i o t x ho hl=>?_,fun t x _ gI=>?_,fun i _ b8=>?_,ZE _,fun i o ho hl=>?_⟩
  ·have hi:=(aau.1 hl).1;simp at hi;simp[hi]at hl
  ·rw[k2]at gI⊢;obtain⟨u,h1,h2⟩:=hR.slot t x gI;exact⟨u,h1,aO.ext hx h2⟩
  ·rw[e5]at b8;simp[b8]
  ·have hi:=(aau.1 hl).1;simp at hi;simp[hi]at hl
structure vN (P:Program) (ow:Nat->Bool) (ws cs:List Nat) (K:St->Ts->Prop) (i:Nat) (ops:List Oper) (s:St) (L:Ts):Prop where
 mk::
 run:qQ P ow ws cs K i ops s L
variable {i:Nat} {o:Oper} {rest:List Oper}
theorem Co (hi:cs.contains i=false) (h:bI P s (ow i) o fun x V A=>(i∈ws\/(V=s.V/\A=s.A))/\vN P ow ws cs K (i+1) rest (s.put o.dst x V A) L):vN P ow ws cs K i (o::rest) s L:=
 ⟨.inr ⟨by simpa using hi,gm (fun x V A h=>⟨h.1,h.2.run⟩) h⟩⟩
theorem xt (hi:cs.contains i=true) (h:cg P s L o fun x L'=>vN P ow ws cs K (i+1) rest (s.put o.dst x s.V s.A) L'):vN P ow ws cs K i (o::rest) s L:=
 ⟨.inl ⟨by simpa using hi,qh (fun x L' h=>h.run) h⟩⟩
theorem zD (h:K s L):vN P ow ws cs K i [] s L:=⟨h⟩
theorem vN.gen {ops:List Oper} {d:Nat} {b:Bool} {fr:List (Nat×AV)} {V:List (List CV)} {A:List bu} (h:∀q:Bool,b=q->vN P ow ws cs K i ops ⟨(d,.c (.d (.bool q)))::fr,V,A⟩ L):vN P ow ws cs K i ops ⟨(d,.c (.d (.bool b)))::fr,V,A⟩ L:=h b rfl
@[congr] theorem L0 {i i':Nat} {ops:List Oper} (hi:i=i') (h:s=s'):vN P ow ws cs K i ops s L=vN P ow ws cs K i' ops s' L:=by rw[h,hi]
@[congr] theorem JU {f:FuncId} {xs xs':List AV} {K:AV->Ts->Prop} (hx:xs=xs'):sL P L f xs K=sL P L f xs' K:=by subst hx;rfl
attribute [simp] cg
theorem TJ.U3 {Q:Exit->St->Ts->Prop} {id:Nat} {l:List Oper} (hm:P.follows .mixedOrders=true) (p:List Nat) (ow:Nat->Bool) (ws cs:List Nat) (hp:kP l p=true) (hd:eC (bL l p).toArray ws=true) (hc:lf (bL l p).toArray ws cs=true)
  (h:∀K:St->Ts->Prop,(∀s' L',TJ P n y Q s' L'->K s' L')->vN P ow ws cs K 0 (eM l p) s L):TJ P n (.seq (.region id l.toArray true) y) Q s L:=
 TJ.seq (TJ.sM hm p ow ws cs hp hd hc (h _ fun _ _ h=>h).run)
theorem TJ.RA {Q:Exit->St->Ts->Prop} {id:Nat} {l:List Oper} (hm:P.follows .mixedOrders=true) (p:List Nat) (ow:Nat->Bool) (ws cs:List Nat) (hp:kP l p=true) (hd:eC (bL l p).toArray ws=true) (hc:lf (bL l p).toArray ws cs=true)
  (h:∀K:St->Ts->Prop,(∀s' L',Q .normal s' L'->K s' L')->vN P ow ws cs K 0 (eM l p) s L):TJ P n (.region id l.toArray true) Q s L:=
 TJ.sM hm p ow ws cs hp hd hc (h _ fun _ _ h=>h).run
variable {f:FuncId} {xs as_:List AV} {r:AV} {K':AV->Ts->Prop}
theorem mq {R:AV->Ts->Prop} (FZ:iQ L xs as_) (hc:aU P f as_ [] R) (hK:∀r L1,R r L1->K' r (L1++L)):sL P L f xs K':=⟨as_,[],L,R,by simp,FZ,hc,hK⟩
theorem dw {R:AV->Ts->Prop} {L1 L2:Ts} (hp:L.Perm (L1++L2)) (FZ:iQ L2 xs as_) (hc:aU P f as_ L1 R) (hK:∀r L1,R r L1->K' r (L1++L2)):sL P L f xs K':=⟨as_,L1,L2,R,hp,FZ,hc,hK⟩
end
end Go.Av
namespace Go.Av
attribute [-simp] Go.Av.cg
open Go
section
variable {P:Program} {f:FuncId} {as_:List AV} {L:Ts} {R R':AV->Ts->Prop}
theorem oI.ret {n:Nat} {y:Code} {Q:Exit->St->Ts->Prop} {s:St} (h:Q .ret s L):oI P n y Q .ret s L:=h
theorem fG.ret {id:Nat} {Q:Exit->St->Ts->Prop} {s:St} (h:Q .ret s L):fG id Q .ret s L:=h
theorem bJ.L3 {fn:Func} {R:AV->Ts->Prop} {e:Exit} {s:St} {L Lc L2:Ts} {k n:Nat} {a:bu} {cs:List GC} {rs:List AV} {rs':Value->List AV} (he:e=.normal\/e=.ret) (hr:fu P s fn.results.toList=some rs) (hA:s.A[k]? =some a) (hw:a.wr=true) (hn:n=a.rows.length)
  (HY:Mk cs a.rows.flatten Lc) (hp:L.Perm (Lc++L2)) (hs:∀v,cW (some (k,n,v)) rs=some (rs' v)) (hR:∀v,∃L' M,((.t a.eA a.sz n cs,v)::L2).Perm (L'++M)/\R (one (rs' v)) L'):bJ P fn R e s L:=by
 subst hn;exact⟨he,rs,hr,.inr ⟨k,a,cs,Lc,L2,[],hA,hw,HY,hp,.nil,fun v=>by
  obtain⟨L',M,h1,h2⟩:=hR v;exact⟨rs' v,L',M,hs v,by simpa using h1,h2⟩⟩⟩
end
end Go.Av
namespace Go.Av
attribute [-simp] Go.Av.cj Go.Av.e0 Go.Av.fH Go.Av.fy Go.Av.cW Go.Av.cg
open Go
mutual
def Cp (et em:TypeId):al->List GC
 |.mk k s n t f b l=>[.d (.i k),.d (.str s),.d (.i n),.d (.i t.kind),jh et t.kids,.d (.i f.kind),jh et f.kids,.d (.i b),.t em 9 l.length (iS et em l)]
def iS (et em:TypeId):List al->List GC
 |[]=>[]
 |t::r=>Cp et em t++iS et em r
end
def DY (et em:TypeId) (l:List al):GC:=.t em 9 l.length (iS et em l)
theorem ub (et em:TypeId) (e:al):Cp et em e=[.d (.i e.kind),.d (.str e.name),.d (.i e.num),.d (.i e.ty.kind),jh et e.ty.kids,.d (.i e.fr.kind),jh et e.fr.kids,.d (.i e.label),DY et em e.kids]:=by cases e;simp[Cp,DY]
mutual
theorem H5 (et em:TypeId):∀(t:al),yJ (Cp et em t)=ie t
 |.mk k s n t f b l=>by
  have:=ud et em l;rw[ub,au];simp only[yJ,GC.dv,H2,DY,al.b4,al.mf,al.rk,al.sj,al.sk,al.lD,al.bP,this]
theorem ud (et em:TypeId):∀(l:List al),chunks 9 l.length (yJ (iS et em l))=l.map ie
 |[]=>rfl
 |t::r=>by
  have h1:=H5 et em t;have h2:=ud et em r;rw[iS,rA,h1,Z2,vi _ (by rw[au];rfl),h2,Z7]
end
theorem L4 (et em:TypeId) (l:List al):(DY et em l).dv=.sl (l.map ie):=by
 simp only[DY,GC.dv,ud]
mutual
theorem H6 (et em:TypeId):∀(t:al),Ch (Cp et em t)=true
 |.mk k s n t f b l=>by
  have:=ue et em l;rw[ub];simp only[Ch,GC.pl,(lK et _).2,DY,al.bP,al.sj,al.sk,this,aaG]
theorem ue (et em:TypeId):∀(l:List al),Ch (iS et em l)=true
 |[]=>rfl
 |t::r=>by rw[iS,rC,H6 et em t,ue et em r];rfl
end
theorem pP (et em:TypeId) (l:List al):(DY et em l).dv=.sl (l.map ie)/\(DY et em l).pl=true:=⟨L4 et em l,by simp only[DY,GC.pl,ue]⟩
abbrev V3:=Value×Value×Value
abbrev Au (e:al) (v:V3):List DV:=[.i e.kind,.str e.name,.i e.num,.i e.ty.kind,.raw v.1,.i e.fr.kind,.raw v.2.1,.i e.label,.raw v.2.2]
abbrev xu (et em:TypeId) (e:al) (v:V3):Ts:=[(jh et e.ty.kids,v.1),(jh et e.fr.kids,v.2.1),(DY et em e.kids,v.2.2)]
def yL (et em:TypeId) (l:List al) (vs:List V3):Ts:=(ZU (xu et em) l vs).flatten
theorem H7 (et em:TypeId) (l:List al):yL et em l []=[]:=by simp[yL]
theorem F3 (et em:TypeId) (e:al) (l:List al) (v:V3) (vs:List V3):yL et em (e::l) (v::vs)=xu et em e v++yL et em l vs:=rfl
theorem zE (et em:TypeId):∀{l:List al} {vs:List V3},vs.length=l.length->Mk (iS et em l) (ZU Au l vs).flatten (yL et em l vs)
 |[],[],_=>.nil
 |t::r,v::vs,h=>by
  rw[iS,ub,F3];exact .d rfl (.d rfl (.d rfl (.d rfl (.t (.d rfl (.t (.d rfl (.t (zE et em (by simpa using h))))))))))
theorem F4 (et em:TypeId) {l:List al} {vs:List V3} {a:al} (h:l[vs.length]? =some a) (v:V3):yL et em l (vs++[v])=yL et em l vs++xu et em a v:=by
 obtain⟨h1,h2⟩:=ZS.1 h;have hl:l=l.take vs.length++a::l.drop (vs.length+1):=by rw[<-h2,<-aar h1,Z0]
 have ht:(l.take vs.length).length=vs.length:=by rw[Z8];omega
 generalize l.take vs.length=A at hl ht;generalize l.drop (vs.length+1)=B at hl;subst hl;have e:ZU (xu et em) (A++a::B) (vs++[])=ZU (xu et em) A vs:=by rw[aad ht];simp
 rw[Z6]at e;rw[yL,yL,e,aad ht];simp
end Go.Av
namespace Go.Av
open Go
section
variable {P:Program} {m:Nat} {c:Code} {Q:Exit->St->Ts->Prop} {s:St} {L L2:Ts} {g:Gh} {w:World} {V:List (List CV)} {A:List bu}
end
section
variable {P:Program} {n:Nat} {w0 w w':World} {g0 g g':Gh} {X S S':List Nat} {s s':St} {L L':Ts} {a a':Act} {x y:Code} {all:Array Oper} {ws fs cs:List Nat} {m:Nat} {ex:List Nat} {V0:List (List CV)} {A0:List bu}
def lh (all:Array Oper) (ws fs:List Nat) (m:Nat) (cs:List Nat) (ms:List Nat) (oi oj:Oper) (i j:Nat):Bool:=
 if cs.contains i||cs.contains j then(oi.dst.isNone||oi.dst !=oj.dst)&&((!dE all oi oj && !dE all oj oi)||(ms.getD j 0).testBit i)else cH all ws fs m ms oi oj i j
def mr (all:Array Oper) (ws fs:List Nat) (m:Nat) (cs:List Nat):Bool:=
 let l:=all.toList.zipIdx
 let ms:=aX all.toList []
 (l.all fun(o,j)=>o.after.toList.all fun e=> !Region.binds .any e||decide (e.on<j))&&
 (l.all fun(oj,j)=>l.all fun(oi,i)=> !(decide (i<j))||lh all ws fs m cs ms oi oj i j)&&
 (l.all fun(o,j)=> !ws.contains j|| !cO o.op)&&(fs.all fun j=> !ws.contains j)&&(fs.all fun j=>ws.all fun i=>decide (i<m)||decide (j<i))
def qR (P:Program) (ow:Nat->Bool) (ws fs:List Nat) (m:Nat) (ex:List Nat) (V0:List (List CV)) (A0:List bu) (cs:List Nat) (K:St->Ts->Prop):Nat->List Oper->St->Ts->Prop
 |_,[],s,L=>K s L
 |i,o::rest,s,L=>(i∈cs/\cg P s L o fun x L'=>qR P ow ws fs m ex V0 A0 cs K (i+1) rest (s.put o.dst x s.V s.A) L')\/
   (i∉cs/\bI P s (ow i) o fun x V A=>(i∈ws\/(V=s.V/\A=s.A))/\(i∈ws->i<m->V.take V0.length=rS ex (fun i=>V.getD i []) V0/\A.take A0.length=A0)/\(i∈fs->dI P s (ow i) o ex V0 A0 x)/\qR P ow ws fs m ex V0 A0 cs K (i+1) rest (s.put o.dst x V A) L)
def L5 (P:Program) (ow:Bool) (fs:List Nat) (j:Nat) (ex:List Nat) (V0:List (List CV)) (A0:List bu) (o:Oper) (s s':St):Prop:=
 ∃x V A,s'=s.put o.dst x V A/\(∀K:AV->List (List CV)->List bu->Prop,K x V A->bI P s ow o K)/\(j∈fs->dI P s ow o ex V0 A0 x)
def OD (ws:List Nat) (m:Nat) (ex:List Nat) (V0:List (List CV)) (A0:List bu) (j:Nat) (o:Oper) (s s':St):Prop:=∃x V A,s'=s.put o.dst x V A/\(j∈ws\/(V=s.V/\A=s.A))/\(j∈ws->j<m->V.take V0.length=rS ex (fun i=>V.getD i []) V0/\A.take A0.length=A0)
theorem pQ {ow:Nat->Bool} {K:St->Ts->Prop}:∀(ops:List Oper) (i:Nat) (s:St) (L:Ts),qR P ow ws fs m ex V0 A0 cs K i ops s L->
  ∃(τ:Nat->St) (q:Nat),q<=ops.length/\τ 0=s/\(∀(j:Nat) o,j<q->ops[j]? =some o->L5 P (ow (i+j)) fs (i+j) ex V0 A0 o (τ j) (τ (j+1))/\OD ws m ex V0 A0 (i+j) o (τ j) (τ (j+1))/\i+j∉cs)/\
   ((q=ops.length/\K (τ q) L)\/(i+q∈cs/\∃o,ops[q]? =some o/\cg P (τ q) L o fun x L'=>qR P ow ws fs m ex V0 A0 cs K (i+q+1) (ops.drop (q+1)) ((τ q).put o.dst x (τ q).V (τ q).A) L'))
 |[],i,s,L,h=>⟨fun _=>s,0,ZD _,rfl,fun j o hj=>by omega,.inl ⟨rfl,h⟩⟩
 |o::rest,i,s,L,h=>by
  rcases h with⟨h1,h2⟩|⟨h1,h2⟩
  ·exact⟨fun _=>s,0,by simp,rfl,fun j o hj=>by omega,.inr ⟨h1,o,rfl,h2⟩⟩
  ·obtain⟨x,V,A,⟨h3,NR,FK,h4⟩,h5⟩:=gl h2;obtain⟨τ,q,k1,k2,k3,k4⟩:=pQ rest (i+1) _ L h4;refine⟨fun j=>match j with|0=>s|j+1=>τ j,q+1,by simp;omega,rfl,fun j o' hj ho=>?_,?_⟩
   ·cases j with
    |zero=>
     simp at ho;subst ho;exact⟨⟨x,V,A,k2,h5,FK⟩,⟨x,V,A,k2,h3,NR⟩,h1⟩
    |succ j=>
     simp at ho;have:=k3 j o' (by omega) ho;rwa[show i+1+j=i+(j+1) by omega]at this
   ·rcases k4 with⟨k5,k6⟩|⟨k5,o',k6,k7⟩
    ·exact .inl ⟨by simp[k5],k6⟩
    ·refine .inr ⟨by rw[show i+(q+1)=i+1+q by omega];exact k5,o',by simpa using k6,?_⟩;rw[show i+(q+1)+1=i+1+q+1 by omega];exact k7
structure Cq (all:Array Oper) (ws:List Nat) (m:Nat) (ex:List Nat) (V0:List (List CV)) (A0:List bu) (σ:Nat->St) (c:Nat):Prop where
 le:c<=all.size
 v0:(σ 0).V=V0/\(σ 0).A=A0
 tr:∀(j:Nat) o,j<c->all[j]? =some o->OD ws m ex V0 A0 j o (σ j) (σ (j+1))
theorem Cq.Tq {σ:Nat->St} {c:Nat} (h:Cq all ws m ex V0 A0 σ c):F1 all ws σ c:=⟨h.le,fun j o hj ho=>by
 obtain⟨x,V,A,h1,h2,_⟩:=h.tr j o hj ho;exact⟨x,V,A,h1,h2⟩⟩
theorem Cq.pre {σ:Nat->St} {c:Nat} (h:Cq all ws m ex V0 A0 σ c):∀k,k<=m->k<=c->KN ex V0 A0 (σ k):=by
 intro k;induction k with
 |zero=>
  intro _ _;refine⟨?_,by rw[h.v0.2];simp⟩;rw[h.v0.1,pD];simp
 |succ k ih=>
  intro h1 h2;have hle:=h.le;obtain⟨x,V,A,q1,q2,q3⟩:=h.tr k _ (by omega) (aav (by omega));have hV:(σ (k+1)).V=V:=by rw[q1];rfl
  have hA:(σ (k+1)).A=A:=by rw[q1];rfl
  by_cases hw:k∈ws
  ·have:=q3 hw (by omega);exact⟨by rw[hV];exact this.1,by rw[hA];exact this.2⟩
  ·rcases q2 with q2|⟨q2,q4⟩
   ·exact absurd q2 hw
   ·have:=ih (by omega) (by omega);exact⟨by rw[hV,q2];exact this.1,by rw[hA,q4];exact this.2⟩
set_option maxHeartbeats 2000000 in
theorem F5 {ow:Nat->Bool} (hd:mr all ws fs m cs=true) (LZ:∀(j:Nat) o,all[j]? =some o->o.guard=none) (fc:da n all.toList=true) {σ:Nat->St} {c:Nat} (P1:Cq all ws m ex V0 A0 σ c) (JT:∀i∈cs,i∉ws) (M9:∀i∈cs,i∉fs) {af:Array Bool} {k0:Nat} (hD:yc all ws σ n w g af k0 g a w) (gC:k0<=c) (nI:∀i,af[i]? =some true->i<c)
  {j:Nat} (hj:j∈Region.ready .any all af) (EW:j<=c) {o:Oper} (ho:all[j]? =some o) {next:Act->World->Prop} {Q:Exit->Act->World->Prop}:
  (j<c->j∉cs->L5 P (ow j) fs j ex V0 A0 o (σ j) (σ (j+1))->(∀k1 v g' w',k1<=c->yc all ws σ n w' g' (af.setIfInBounds j true) k1 g' (a.put o.dst v) w'->Fr w g w' g'->next (a.put o.dst v) w')->wpOp P all Q j next a w)/\
  (j=c->cO o.op=false->j∉ws->Jb w0 g0 X L S g w->(∀K:AV->Ts->Prop,cg P (σ j) L o K->(∀x L' S' v g' w',K x L'->(∀σ':Nat->St,(∀i,i<=c->σ' i=σ i)->σ' (c+1)=(σ c).put o.dst x (σ c).V (σ c).A->yc all ws σ' n w' g' (af.setIfInBounds j true) k0 g' (a.put o.dst v) w')->Jb w0 g0 X L' S' g' w'->next (a.put o.dst v) w')->wpOp P all Q j next a w)):=by
 have hT:=P1.Tq;simp only[mr,aaE,ZP]at hd;obtain⟨⟨⟨⟨gk,jk⟩,nM⟩,I9⟩,Ja⟩:=hd;have cV:∀(j:Nat) o,all[j]? =some o->(o,j)∈all.toList.zipIdx:=fun j o h=>by
  rw[ZW];exact⟨j,by simp[ZX,h]⟩
 have c7:∀(j:Nat) o,all[j]? =some o->∀e∈o.after,Region.binds .any e=true->e.on<j:=fun j o h e he hb=>by
  have:=gk _ (cV j o h) e (aaw.2 he);simpa[hb]using this
 have rF:∀(i j:Nat) oi oj,all[i]? =some oi->all[j]? =some oj->i<j->lh all ws fs m cs (aX all.toList []) oi oj i j=true:=fun i j oi oj h1 h2 ax=>by
  have:=jk _ (cV j oj h2) _ (cV i oi h1);simpa[ax]using this
 have fW:∀(i j:Nat) oi oj,all[i]? =some oi->all[j]? =some oj->i<j->i∉cs->j∉cs->cH all ws fs m (aX all.toList []) oi oj i j=true:=fun i j oi oj h1 h2 ax hi hj=>by
  have:=rF i j oi oj h1 h2 ax;simpa[lh,hi,hj]using this
 have b7:∀(i j:Nat) oi oj,all[i]? =some oi->all[j]? =some oj->i<j->i∉cs->j∉cs->i∉fs->j∉fs->bq all ws (aX all.toList []) oi oj i j=true:=fun i j oi oj h1 h2 ax hi hj GS nU=>by
  have:=fW i j oi oj h1 h2 ax hi hj;simpa[cH,bq,GS,nU]using this
 have H8:∀(i j:Nat) oi oj,all[i]? =some oi->all[j]? =some oj->i<j->(dE all oi oj=true\/dE all oj oi=true)->((aX all.toList []).getD j 0).testBit i=true:=fun i j oi oj h1 h2 ax ht=>by
  have:=rF i j oi oj h1 h2 ax;simp only[lh]at this;split at this
  ·simp only[aaE,aaF]at this;rcases this.2 with h|h
   ·rcases ht with ht|ht<;>simp[ht]at h
   ·exact h
  ·simp only[cH,aaE,aaF]at this;rcases this.2 with h|h
   ·rcases ht with ht|ht<;>simp[ht]at h
   ·exact h
 have mi:∀i,i∈ws->i∉fs:=fun i hi hf=>by
  have:=I9 i hf;simp[hi]at this
 have OE:∀i,i∈ws->i∉cs:=fun i hi hc=>JT i hc hi
 have Dw:=P1.pre;have uT:∀(j:Nat) o,all[j]? =some o->j∈ws->cO o.op=false:=fun j o h hj=>by
  have:=nM _ (cV j o h);simpa[hj]using this
 have fU:∀(i j:Nat) oi oj d,all[i]? =some oi->all[j]? =some oj->i<j->oi.dst=some d->oj.dst≠some d:=fun i j oi oj d h1 h2 ax h3 h4=>by
  have:=rF i j oi oj h1 h2 ax;simp only[lh,cH,h3,h4]at this;split at this<;>simp at this
 have rj:∀(i j:Nat) oi oj d,all[i]? =some oi->all[j]? =some oj->oi.dst=some d->oj.dst=some d->i=j:=fun i j oi oj d h1 h2 h3 h4=>by
  rcases ZF i j with h|h|h
  ·exact absurd h4 (fU i j oi oj d h1 h2 h h3)
  ·exact h
  ·exact absurd h3 (fU j i oj oi d h2 h1 h h4)
 have Ae:∀(j:Nat) o d,all[j]? =some o->o.dst=some d->d<n:=fun j o d h1 h2=>by
  have:=ZP.1 fc o (by rw[aaw];exact aaA h1);simpa[h2]using this
 obtain⟨GO,_,BD⟩:=fe all.toList []
 have mW:∀{af:Array Bool},(∀(i:Nat) o,all[i]? =some o->af[i]? =some true->∀e∈o.after,Region.binds .any e=true->af[e.on]? =some true)->
   ∀(i:Nat) o,all[i]? =some o->(∀e∈o.after,Region.binds .any e=true->af[e.on]? =some true)->∀k,((aX all.toList []).getD i 0).testBit k=true->af[k]? =some true:=by
  intro af kS i;induction i using ZJ with
  |_ i ih=>
   intro o ho cG k hk;obtain⟨pre,h1,h2,h3⟩:=BD i o (by simpa using ho);simp only[Z9,ZG]at h1 h3;have h4:(aX all.toList []).getD i 0=mV pre o:=by simp[ZY,h3]
   rw[h4]at hk;obtain⟨e,he,hb,h5⟩:=fT hk;have s9:=cG e he hb;rcases h5 with rfl|h5
   ·exact s9
   ·have ax:=c7 i o ho e he hb;have h6:pre.getD e.on 0=(aX all.toList []).getD e.on 0:=by simp only[ZY,h2 e.on (by omega)]
    rw[h6]at h5;have e5:e.on<all.size:=by have:=(aau.1 ho).1;omega
    have uU:all[e.on]? =some all[e.on]:=aav e5;exact ih e.on ax _ uU (kS e.on _ uU s9) k h5
 have EY:=hT.le;have oP:=hT.Ou;have oQ:=hT.Ov rj;have tH:=hT.VA;obtain⟨mX,o2,mI,cG⟩:=mem_ready.1 hj;obtain rfl:o=o2:=by rw[ho]at mI;exact Option.some.inj mI
 have mY:=er mX;have rP:j<all.size:=(aau.1 ho).1;have jA:j<af.size:=by rw[hD.eI];exact rP
 have cB:∀e∈o.after,Region.binds .any e=true->af[e.on]? =some true:=fun e he hb=>cF.1 (cG e he hb)
 have cv:∀k,((aX all.toList []).getD j 0).testBit k=true->af[k]? =some true:=mW hD.closed j o ho cB;have bZ:∀(i:Nat) oi,all[i]? =some oi->af[i]? =some true->((aX all.toList []).getD i 0).testBit j=false:=fun i oi aV bE=>by
  cases hb:((aX all.toList []).getD i 0).testBit j with
  |false=>rfl
  |true=>have:=mW hD.closed i oi aV (hD.closed i oi aV bE) j hb;rw[mY]at this;simp at this
 have jJ:∀t∈o.looksAt all,∀x,look (σ j).fr t=some x->∃u,a.tmps[t]? =some u/\aO g w (σ k0).A x u:=by
  intro t ht x hx;by_cases hex:∃(i:Nat) (oi:Oper),i<j/\all[i]? =some oi/\oi.dst=some t
  ·obtain⟨i,oi,kI,aV,cn⟩:=hex;rw[oQ j i oi t (by omega) kI aV cn]at hx;have tI:dE all oi o=true:=by simp only[dE,cn];simpa using ht
   have hb:((aX all.toList []).getD j 0).testBit i=true:=H8 i j oi o aV ho kI (.inl tI);exact hD.ga i oi t x aV (cv i hb) cn hx
  ·rw[oP j t (by omega) (fun i oi kI aV cn=>hex ⟨i,oi,kI,aV,cn⟩)]at hx;refine hD.gd t x (fun i oi aV bE cn=>?_) hx;rcases ZF i j with h|h|h
   ·exact hex ⟨i,oi,h,aV,cn⟩
   ·subst h;rw[mY]at bE;simp at bE
   ·have tI:dE all oi o=true:=by simp only[dE,cn];simpa using ht
    have hb:=bZ i oi aV bE;rw[H8 j i o oi ho aV h (.inr tI)]at hb;simp at hb
 let cR:=(σ j).fr.filter fun p=>(o.looksAt all).contains p.1
 have ld:∀t,look cR t=if(o.looksAt all).contains t then look (σ j).fr t else none:=fun t=>e8 (fun t=>(o.looksAt all).contains t) (σ j).fr t
 have hS:∀(V:List (List CV)),iA g w ⟨cR,V,(σ k0).A⟩ a:=fun V t x hx=>by
  simp only[ld]at hx;split at hx
  ·rename_i hc;exact jJ t (by simpa using hc) x hx
  ·cases hx
 have gL:∀(V V':List (List CV)) (A A':List bu),∀x∈o.op.operands.toList,bF ⟨cR,V,A⟩ x=bF ⟨(σ j).fr,V',A'⟩ x:=fun V V' A A' x hx=>by
  cases x with
  |tmp t=>
   simp only[bF,ld];rw[if_pos];simp only[Oper.looksAt,aat,decide_eq_true_eq,ZR,aaf];exact .inl ⟨.tmp t,hx,rfl⟩
  |_=>rfl
 have gU:Rp n w g ⟨cR,(σ k0).V,(σ k0).A⟩ g a w:=⟨hD.inv,hD.fr,hD.size,hD.defers,hS _⟩;have lC:Region.wanted o (yielded all a.tmps)=true:=by simp[Region.wanted,LZ j o ho]
 have bN:∀i,(af.setIfInBounds j true)[i]? =if i=j then some true else af[i]? :=fun i=>by
  by_cases e:i=j
  ·subst e;simp[jA]
  ·rw[if_neg e,aax (fun h=>e h.symm)]
 have cM:∀(σ':Nat->St) (k1:Nat) (x:AV) (v:Value) (w':World) (g':Gh),(∀i,i<=c->σ' i=σ i)->look (σ' (j+1)).fr=look ((σ j).put o.dst x [] []).fr->aO g' w' (σ k1).A x v->Inv g' w' (σ k1).V (σ k1).A->Ext g w (σ k0).A g' w' (σ k1).A->Bi w' g'->k1<=c->(k1=0\/∃i∈ws,k1=i+1)->
   (∀i∈ws,i<all.size->((af.setIfInBounds j true)[i]? =some true↔i<k1))->yc all ws σ' n w' g' (af.setIfInBounds j true) k1 g' (a.put o.dst v) w':=by
  intro σ' k1 x v w' g' hσ C6 yv hI hx hF hk LD FH;have iY:∀t u,o.dst≠some t->a.tmps[t]? =some u->(a.put o.dst v).tmps[t]? =some u:=fun t u dj hu=>by
   cases q9:o.dst with
   |none=>exact hu
   |some d=>
    simp only[Act.put];rw[aax (fun e=>dj (by rw[q9,e]))];exact hu
  refine⟨by rw[hσ k1 hk];exact hI,.refl hF,?_,?_,by simp[hD.eI],fun i oi t y aV bE cn hy=>?_,fun t y iw hy=>?_,FH,by omega,LD,fun i oi aV bE e he hb=>?_⟩
  ·cases o.dst<;>simp[Act.put,hD.size]
  ·cases o.dst<;>simp[Act.put,hD.defers]
  ·rw[hσ k1 hk];rw[bN]at bE;by_cases e:i=j
   ·subst e;obtain rfl:o=oi:=by rw[ho]at aV;exact Option.some.inj aV
    rw[C6]at hy;simp only[St.put,cn,look,if_true]at hy;cases hy
    refine⟨v,?_,yv⟩;have:t<a.tmps.size:=by rw[hD.size];exact Ae i o t ho cn
    simp[Act.put,cn,this]
   ·rw[if_neg e]at bE;rw[hσ (i+1) (nI i bE)]at hy;obtain⟨u,h1,h2⟩:=hD.ga i oi t y aV bE cn hy;exact⟨u,iY t u (fun h=>e (rj i j oi o t aV ho cn h)) h1,aO.ext hx h2⟩
  ·rw[hσ k1 hk];rw[hσ 0 (ZE _)]at hy;have dj:o.dst≠some t:=iw j o ho (by rw[bN,if_pos rfl]);obtain⟨u,h1,h2⟩:=hD.gd t y (fun i oi aV bE=>iw i oi aV (by
    rw[bN];by_cases e:i=j
    ·rw[if_pos e]
    ·rw[if_neg e];exact bE)) hy
   exact⟨u,iY t u dj h1,aO.ext hx h2⟩
  ·rw[bN]at bE⊢;have:af[e.on]? =some true:=by
    by_cases e':i=j
    ·subst e';obtain rfl:o=oi:=by rw[ho]at aV;exact Option.some.inj aV
     exact cB e he hb
    ·rw[if_neg e']at bE;exact hD.closed i oi aV bE e he hb
   by_cases e':e.on=j
   ·rw[if_pos e']
   ·rw[if_neg e'];exact this
 have il:j∉ws->∀i∈ws,i<all.size->((af.setIfInBounds j true)[i]? =some true↔i<k0):=fun ez i hi b8=>by
  rw[bN,if_neg (fun e=>ez (by rw[<-e];exact hi))];exact hD.ep i hi b8
 have kV:cO o.op=false->j∉fs->j∉cs->(σ j).V=(σ k0).V/\(σ j).A=(σ k0).A:=by
  intro fK nU DZ;rcases ZM j k0 with h|h
  ·have:=tH k0 j h gC (fun i h1 h2 h3=>by
    have b8:i<all.size:=by omega
    have bE:=(hD.ep i h3 b8).2 h2;have aV:all[i]? =some all[i]:=aav b8;rcases ZH j i with h4|h4
    ·have hp:=b7 j i o _ ho aV h4 DZ (OE i h3) nU (mi i h3);have hb:=bZ i _ aV bE;simp only[bq,hb,aaE,aaF]at hp;simp[h3,fK,-cO]at hp
    ·obtain rfl:i=j:=by omega
     rw[mY]at bE;simp at bE)
   exact⟨this.1.symm,this.2.symm⟩
  ·exact tH j k0 h EW (fun i h1 h2 h3=>by
    have b8:i<all.size:=by omega
    have aV:all[i]? =some all[i]:=aav b8;have hp:=b7 i j _ o aV ho h2 (OE i h3) DZ (mi i h3) nU;simp only[bq,aaE,aaF]at hp;have hb:((aX all.toList []).getD j 0).testBit i=true:=by
     rcases hp.2 with h4|h4
     ·simp[h3,fK,-cO]at h4
     ·exact h4
    have:=(hD.ep i h3 b8).1 (cv i hb);omega)
 unfold wpOp;simp only[ho];rw[if_pos lC];refine⟨fun lZ DZ ft ih=>.inl ?_,fun lZ fK ez hJ K iB ih=>.inl ?_⟩
 ·obtain⟨x,V,A,h2,h3,FK⟩:=ft;have oU:look (σ (j+1)).fr=look ((σ j).put o.dst x [] []).fr:=by rw[h2];rfl
  by_cases hs:cO o.op=true
  ·-- slots alone
   have ez:j∉ws:=fun h=>by have:=uT j o ho h;rw[hs]at this;simp at this
   have h4:bI P ⟨cR,(σ k0).V,(σ k0).A⟩ (ow j) o (fun y V' A'=>y=x/\V'=(σ k0).V/\A'=(σ k0).A):=nK (s:=σ j) (s':=⟨cR,(σ k0).V,(σ k0).A⟩) hs (gL _ _ _ _) h3 ⟨rfl,rfl,rfl⟩;obtain⟨y,V',A',⟨rfl,rfl,rfl⟩,h5⟩:=dk gU.inv gU.fr gU.slot h4;exact h5 _ _ fun v w' g' h6 h7 h8 h9=>ih k0 v g' w' gC (cM σ k0 y v w' g' (fun _ _=>rfl) oU h6 h7 h8 h9.now gC hD.kw (il ez)) h9
  ·have fK:cO o.op=false:=by simpa[-cO]using hs
   by_cases nU:j∈fs
   ·have ez:j∉ws:=fun h=>mi j h nU
    have Dx:k0<=m:=by
     rcases hD.kw with h|⟨i,hi,hk⟩
     ·omega
     ·rcases ZH i m with h|h
      ·omega
      ·exfalso
       have b8:i<all.size:=by have:=hD.nL;omega
       have aV:all[i]? =some all[i]:=aav b8;have bE:=(hD.ep i hi b8).2 (by omega);have KO:j<i:=by
        have:=Ja j nU i hi;simp at this;omega
       have hp:=fW j i o _ ho aV KO DZ (OE i hi);have hb:=bZ i _ aV bE;have tf:¬i<m:=by omega
       simp only[cH,hb,aaE,aaF]at hp;simp[-cO,hi,fK,tf,nU,ez]at hp
    obtain⟨dM,Ai⟩:=Dw k0 Dx gC;have h4:bI P ⟨cR,(σ k0).V,(σ k0).A⟩ (ow j) o (fun y V' A'=>y=x/\V'=(σ k0).V/\A'=(σ k0).A):=by
     have h5:=FK nU (fun i=>(σ k0).V.getD i []) ((σ k0).V.drop V0.length) ((σ k0).A.drop A0.length);have e1:rS ex (fun i=>(σ k0).V.getD i []) V0++(σ k0).V.drop V0.length=(σ k0).V:=by
      rw[<-dM];exact Z0 _ _
     have e2:A0++(σ k0).A.drop A0.length=(σ k0).A:=by conv=>lhs;arg 1;rw[<-Ai]
                                                      exact Z0 _ _
     rw[e1,e2]at h5;exact eo (fr:=(σ j).fr) (gL _ _ _ _) h5
    obtain⟨y,V',A',⟨rfl,rfl,rfl⟩,h5⟩:=dk gU.inv gU.fr gU.slot h4;exact h5 _ _ fun v w' g' h6 h7 h8 h9=>ih k0 v g' w' gC (cM σ k0 y v w' g' (fun _ _=>rfl) oU h6 h7 h8 h9.now gC hD.kw (il ez)) h9
   obtain⟨kK,iZ⟩:=kV fK nU DZ;have h4:bI P ⟨cR,(σ k0).V,(σ k0).A⟩ (ow j) o (fun y V' A'=>y=x/\V'=V/\A'=A):=by
    rw[<-kK,<-iZ];exact eo (fr:=(σ j).fr) (gL _ _ _ _) (h3 _ ⟨rfl,rfl,rfl⟩)
   obtain⟨y,V',A',⟨rfl,rfl,rfl⟩,h5⟩:=dk gU.inv gU.fr gU.slot h4;have tc:(σ (j+1)).V=V':=by rw[h2];rfl
   have jo:(σ (j+1)).A=A':=by rw[h2];rfl
   by_cases ez:j∈ws
   ·refine h5 _ _ fun v w' g' h6 h7 h8 h9=>ih (j+1) v g' w' lZ (cM σ (j+1) y v w' g' (fun _ _=>rfl) oU (by rw[jo];exact h6) (by rw[tc,jo];exact h7) (by rw[jo];exact h8) h9.now lZ (.inr ⟨j,ez,rfl⟩) (fun i hi b8=>?_)) h9
    have aV:all[i]? =some all[i]:=aav b8;rw[bN];by_cases e:i=j
    ·subst e;simp
    ·rw[if_neg e];constructor
     ·intro bE;rcases ZH j i with h|h
      ·have hp:=b7 j i o _ ho aV h DZ (OE i hi) nU (mi i hi);have hb:=bZ i _ aV bE;simp only[bq,hb,aaE,aaF]at hp;simp[hi,fK,-cO]at hp
      ·omega
     ·intro ax;have hp:=b7 i j _ o aV ho (by omega) (OE i hi) DZ (mi i hi) nU;simp only[bq,aaE,aaF]at hp;rcases hp.2 with h|h
      ·simp[hi,fK,-cO]at h
      ·exact cv i h
   ·obtain⟨x2,V2,A2,q1,q2⟩:=hT.tr j o lZ ho;rcases q2 with q2|⟨q2,q3⟩
    ·exact absurd q2 ez
    have p9:(σ (j+1)).V=(σ j).V:=by rw[q1];exact q2
    have mI:(σ (j+1)).A=(σ j).A:=by rw[q1];exact q3
    refine h5 _ _ fun v w' g' h6 h7 h8 h9=>ih k0 v g' w' gC (cM σ k0 y v w' g' (fun _ _=>rfl) oU ?_ ?_ ?_ h9.now gC hD.kw (il ez)) h9
    ·rw[<-iZ,<-mI,jo];exact h6
    ·rw[<-kK,<-iZ,<-p9,<-mI,tc,jo];exact h7
    ·have e1:(σ k0).A=A':=by rw[<-iZ,<-mI,jo]
     rw[e1]at h8⊢;exact h8
 ·-- the call
  subst lZ;have Ow:ry n w0 g0 X ⟨cR,(σ k0).V,(σ k0).A⟩ L S g a w:=⟨hD.inv,hJ.fr,hD.size,hD.defers,hS _,hJ.nC,hJ.nd,hJ.out⟩;refine qf Ow (pN (s:=σ j) (ow:=ow j) (gL _ _ _ _) iB) _ _ ?_;rintro x V' A' L' S' v w' g' ⟨rfl,rfl,hk⟩ h6 h7 h8 h9 cJ eG fY;refine ih x L' S' v g' w' hk (fun σ' hσ hn=>cM σ' k0 x v w' g' hσ (by rw[hn];rfl) h6 h7 h8 h9.now gC hD.kw (il ez)) ⟨h9,cJ,eG,fY⟩
theorem F6 (hd:mr all ws fs m cs=true) {σ:Nat->St} (P1:Cq all ws m ex V0 A0 σ all.size) {af:Array Bool} {k0:Nat} (hD:yc all ws σ n w g af k0 g a w) (dh:∀i,i<all.size->af[i]? =some true) (hJ:Jb w0 g0 X L S g w):ry n w0 g0 X (σ all.size) L S g a w:=by
 have hT:=P1.Tq;simp only[mr,aaE,ZP]at hd;obtain⟨⟨⟨⟨gk,jk⟩,nM⟩,I9⟩,Ja⟩:=hd;have cV:∀(j:Nat) o,all[j]? =some o->(o,j)∈all.toList.zipIdx:=fun j o h=>by
  rw[ZW];exact⟨j,by simp[ZX,h]⟩
 have c7:∀(j:Nat) o,all[j]? =some o->∀e∈o.after,Region.binds .any e=true->e.on<j:=fun j o h e he hb=>by
  have:=gk _ (cV j o h) e (aaw.2 he);simpa[hb]using this
 have rF:∀(i j:Nat) oi oj,all[i]? =some oi->all[j]? =some oj->i<j->lh all ws fs m cs (aX all.toList []) oi oj i j=true:=fun i j oi oj h1 h2 ax=>by
  have:=jk _ (cV j oj h2) _ (cV i oi h1);simpa[ax]using this
 have uT:∀(j:Nat) o,all[j]? =some o->j∈ws->cO o.op=false:=fun j o h hj=>by
  have:=nM _ (cV j o h);simpa[hj]using this
 have fU:∀(i j:Nat) oi oj d,all[i]? =some oi->all[j]? =some oj->i<j->oi.dst=some d->oj.dst≠some d:=fun i j oi oj d h1 h2 ax h3 h4=>by
  have:=rF i j oi oj h1 h2 ax;simp only[lh,cH,h3,h4]at this;split at this<;>simp at this
 have rj:∀(i j:Nat) oi oj d,all[i]? =some oi->all[j]? =some oj->oi.dst=some d->oj.dst=some d->i=j:=fun i j oi oj d h1 h2 h3 h4=>by
  rcases ZF i j with h|h|h
  ·exact absurd h4 (fU i j oi oj d h1 h2 h h3)
  ·exact h
  ·exact absurd h3 (fU j i oj oi d h2 h1 h h4)
 have kV:=hT.VA all.size k0 hD.nL (ZD _) (fun i h1 h2 h3=>by have:=(hD.ep i h3 h2).1 (dh i h2);omega);refine⟨by rw[kV.1,kV.2];exact hD.inv,hJ.fr,hD.size,hD.defers,fun t x hx=>?_,hJ.nC,hJ.nd,hJ.out⟩;rw[kV.2];by_cases hex:∃(i:Nat) (o:Oper),all[i]? =some o/\o.dst=some t
 ·obtain⟨i,o,ho,cn⟩:=hex;have hi:=(aau.1 ho).1;rw[hT.Ov rj all.size i o t (ZD _) hi ho cn]at hx;exact hD.ga i o t x ho (dh i hi) cn hx
 ·rw[hT.Ou all.size t (ZD _) (fun i o _ ho cn=>hex ⟨i,o,ho,cn⟩)]at hx;exact hD.gd t x (fun i o ho _ cn=>hex ⟨i,o,ho,cn⟩) hx
theorem Cr {ow:Nat->Bool} {K:St->Ts->Prop} {Q:Exit->Act->World->Prop} (hd:mr all ws fs m cs=true) (hc:lf all ws cs=true) (M9:∀i∈cs,i∉fs) (fc:da n all.toList=true)
  (hQ:∀s' L' S' g' a' w',K s' L'->ry n w0 g0 X s' L' S' g' a' w'->Q .normal a' w'):
  ∀(fuel:Nat) (σ:Nat->St) (c:Nat) (L:Ts) (S:List Nat) (af:Array Bool) (k0:Nat) (g:Gh) (a:Act) (w:World),((ZO all.size).filter fun i=> !af.getD i true).length<=fuel->Cq all ws m ex V0 A0 σ c->k0<=c->
   (∀(j:Nat) o,j<c->all[j]? =some o->af[j]? ≠some true->j∉cs/\L5 P (ow j) fs j ex V0 A0 o (σ j) (σ (j+1)))->(∀i,af[i]? =some true->i<c)->
   ((c=all.size/\K (σ c) L)\/(c∈cs/\∃o,all[c]? =some o/\cg P (σ c) L o fun x L'=>qR P ow ws fs m ex V0 A0 cs K (c+1) (all.toList.drop (c+1)) ((σ c).put o.dst x (σ c).V (σ c).A) L'))->
   yc all ws σ n w g af k0 g a w->Jb w0 g0 X L S g w->wpAny P .any all Q fuel af a w:=by
 have yj:=hd;simp only[mr,aaE,ZP]at hd;obtain⟨⟨⟨⟨gk,jk⟩,nM⟩,I9⟩,Ja⟩:=hd;have cV:∀(j:Nat) o,all[j]? =some o->(o,j)∈all.toList.zipIdx:=fun j o h=>by
  rw[ZW];exact⟨j,by simp[ZX,h]⟩
 have c7:∀(j:Nat) o,all[j]? =some o->∀e∈o.after,Region.binds .any e=true->e.on<j:=fun j o h e he hb=>by
  have:=gk _ (cV j o h) e (aaw.2 he);simpa[hb]using this
 have rF:∀(i j:Nat) oi oj,all[i]? =some oi->all[j]? =some oj->i<j->lh all ws fs m cs (aX all.toList []) oi oj i j=true:=fun i j oi oj h1 h2 ax=>by
  have:=jk _ (cV j oj h2) _ (cV i oi h1);simpa[ax]using this
 have uT:∀(j:Nat) o,all[j]? =some o->j∈ws->cO o.op=false:=fun j o h hj=>by
  have:=nM _ (cV j o h);simpa[hj]using this
 have fU:∀(i j:Nat) oi oj d,all[i]? =some oi->all[j]? =some oj->i<j->oi.dst=some d->oj.dst≠some d:=fun i j oi oj d h1 h2 ax h3 h4=>by
  have:=rF i j oi oj h1 h2 ax;simp only[lh,cH,h3,h4]at this;split at this<;>simp at this
 have rj:∀(i j:Nat) oi oj d,all[i]? =some oi->all[j]? =some oj->oi.dst=some d->oj.dst=some d->i=j:=fun i j oi oj d h1 h2 h3 h4=>by
  rcases ZF i j with h|h|h
  ·exact absurd h4 (fU i j oi oj d h1 h2 h h3)
  ·exact h
  ·exact absurd h3 (fU j i oj oi d h2 h1 h h4)
 simp only[lf,aaE,ZP]at hc;obtain⟨⟨uK,FB⟩,Ox⟩:=hc;have LZ:∀(j:Nat) o,all[j]? =some o->o.guard=none:=fun j o h=>by
  have:=FB _ (cV j o h);simpa using this
 have JT:∀c∈cs,c∉ws:=fun c h=>by simpa using(uK c h).1
 have Oy:∀c∈cs,∀o,all[c]? =some o->cO o.op=false:=fun c h o ho=>by
  have:=Ox _ (cV c o ho);simpa[h,-cO]using this
 have Jd:∀c∈cs,∀(j:Nat) o,all[j]? =some o->c<j->((aX all.toList []).getD j 0).testBit c=true:=fun c h j o ho ax=>by
  have:=(uK c h).2 _ (cV j o ho);simpa[ax]using this
 have pH:∀{af:Array Bool},Region.ready .any all af=[]->af.size=all.size->∀i,i<all.size->af[i]? =some true:=by
  intro af hr vK i;induction i using ZJ with
  |_ i ih=>
   intro hi;have ho:all[i]? =some all[i]:=aav hi;have bE:i<af.size:=by omega
   cases hl:af[i]with
   |true=>rw[aav bE,hl]
   |false=>
    exfalso
    have:i∈Region.ready .any all af:=mem_ready.2 ⟨by simp[bE,hl],_,ho,fun e he hb=>cF.2 (ih e.on (c7 i _ ho e he hb) (by have:=c7 i _ ho e he hb;omega))⟩;rw[hr]at this;simp at this
 have lU:∀{σ:Nat->St} {c:Nat} {L:Ts} {S:List Nat} {af:Array Bool} {k0:Nat} {g:Gh} {a:Act} {w:World},Cq all ws m ex V0 A0 σ c->(∀i,af[i]? =some true->i<c)->
   ((c=all.size/\K (σ c) L)\/(c∈cs/\∃o,all[c]? =some o/\cg P (σ c) L o fun x L'=>qR P ow ws fs m ex V0 A0 cs K (c+1) (all.toList.drop (c+1)) ((σ c).put o.dst x (σ c).V (σ c).A) L'))->
   yc all ws σ n w g af k0 g a w->Jb w0 g0 X L S g w->Region.ready .any all af=[]->Q .normal a w:=by
  intro σ c L S af k0 g a w hT nI hK hD hJ hr;have dh:=pH hr hD.eI;rcases hK with⟨rfl,hK⟩|⟨oZ,o,ho,_⟩
  ·exact hQ _ _ _ _ _ _ hK (F6 yj hT hD dh hJ)
  ·have b8:=(aau.1 ho).1;have:=nI c (dh c b8);omega
 intro fuel;induction fuel with
 |zero=>
  intro σ c L S af k0 g a w hf hT gC rD nI hK hD hJ;have la:Region.ready .any all af=[]:=by
   have h0:((ZO all.size).filter fun i=> !af.getD i true)=[]:=aaq (by omega);rcases hr:Region.ready .any all af with _|⟨j,r⟩
   ·rfl
   ·have hj:j∈Region.ready .any all af:=by rw[hr];simp
    obtain⟨h1,o,h2,_⟩:=mem_ready.1 hj;have:j∈((ZO all.size).filter fun i=> !af.getD i true):=by
     rw[aag,ZV];exact⟨(aau.1 h2).1,by simp[h1]⟩
    rw[h0]at this;simp at this
  exact⟨la,lU hT nI hK hD hJ la⟩
 |succ fuel ih=>
  intro σ c L S af k0 g a w hf hT gC rD nI hK hD hJ;refine⟨fun hr=>lU hT nI hK hD hJ hr,fun j hj=>?_⟩;obtain⟨mX,o,ho,cG⟩:=mem_ready.1 hj;have mY:=er mX;have rP:j<all.size:=(aau.1 ho).1;have jA:j<af.size:=by rw[hD.eI];exact rP
  have cB:∀e∈o.after,Region.binds .any e=true->af[e.on]? =some true:=fun e he hb=>cF.1 (cG e he hb)
  have bN:∀i,(af.setIfInBounds j true)[i]? =if i=j then some true else af[i]? :=fun i=>by
   by_cases e:i=j
   ·subst e;simp[jA]
   ·rw[if_neg e,aax (fun h=>e h.symm)]
  have c4:((ZO all.size).filter fun i=> !(af.setIfInBounds j true).getD i true).length<=fuel:=by
   have ax:((ZO all.size).filter fun i=> !(af.setIfInBounds j true).getD i true).length<((ZO all.size).filter fun i=> !af.getD i true).length:=by
    have gK:∀i,(!(af.setIfInBounds j true).getD i true)=true->(!af.getD i true)=true:=fun i h=>by
     by_cases e:i=j
     ·subst e;simp[jA]at h
     ·have:(af.setIfInBounds j true).getD i true=af.getD i true:=by
       simp only[aaz,bN,if_neg e]
      rwa[this]at h
    exact filter_lt gK (ZV.2 rP) (by simp[mX]) (by simp[jA])
   omega
  have EW:j<=c:=by
   rcases hK with⟨rfl,_⟩|⟨oZ,oc,EZ,_⟩
   ·omega
   ·rcases ZH c j with h|h
    ·have:=nI c (nZ c7 hD.closed j o ho cB c (Jd c oZ j o ho h));omega
    ·exact h
  obtain⟨one1,one2⟩:=F5 (w0:=w0) (g0:=g0) (X:=X) (L:=L) (S:=S) (ow:=ow) yj LZ fc hT JT M9 hD gC nI hj EW ho (next:=wpAny P .any all Q fuel (af.setIfInBounds j true)) (Q:=Q);rcases ZL EW with ax|rfl
  ·refine one1 ax (rD j o ax ho (by rw[mY];simp)).1 (rD j o ax ho (by rw[mY];simp)).2 fun k1 v g' w' jl JF hF=>ih σ c L S _ k1 g' _ w' c4 hT jl (fun i oi hi aV bE=>rD i oi hi aV fun h=>bE ?_) (fun i hi=>?_) hK JF (hJ.cR hF)
   ·rw[bN];by_cases e:i=j
    ·rw[if_pos e]
    ·rw[if_neg e];exact h
   ·rw[bN]at hi;by_cases e:i=j
    ·subst e;exact ax
    ·rw[if_neg e]at hi;exact nI i hi
  ·rcases hK with⟨h,_⟩|⟨oZ,oc,EZ,iB⟩
   ·omega
   obtain rfl:o=oc:=by rw[ho]at EZ;exact Option.some.inj EZ
   refine one2 rfl (Oy j oZ o ho) (JT j oZ) hJ _ iB fun x L' S' v g' w' hk Oz OA=>?_
   obtain⟨τ,m,k1,k2,k3,k4⟩:=pQ _ _ _ _ hk;have hlen:(all.toList.drop (j+1)).length=all.size-(j+1):=by simp
   let σ':Nat->St:=fun i=>if i<=j then σ i else τ (i-(j+1))
   have e1:∀i,i<=j->σ' i=σ i:=fun i hi=>by simp only[σ',if_pos hi]
   have e2:∀i,σ' (j+1+i)=τ i:=fun i=>by simp only[σ',if_neg (show¬j+1+i<=j by omega)];congr 1;omega
   have e3:∀i,(all.toList.drop (j+1))[i]? =all[j+1+i]? :=fun i=>by simp
   have kp:σ' (j+1)=(σ j).put o.dst x (σ j).V (σ j).A:=by rw[<-k2];exact e2 0
   refine ih σ' (j+1+m) L' S' _ k0 g' _ w' c4 ⟨by omega,by rw[e1 0 (ZE _)];exact hT.v0,fun i oi hi aV=>?_⟩ (by omega) (fun i oi hi aV bE=>?_) (fun i hi=>?_) ?_ (Oz σ' e1 kp) OA
   ·rcases ZF i j with h|h|h
    ·rw[e1 i (by omega),e1 (i+1) (by omega)];exact hT.tr i oi h aV
    ·subst h;obtain rfl:o=oi:=by rw[ho]at aV;exact Option.some.inj aV
     rw[e1 i (by omega),kp];exact⟨x,_,_,rfl,.inr ⟨rfl,rfl⟩,fun h=>absurd h (JT i oZ)⟩
    ·obtain⟨q,rfl⟩:∃q,i=j+1+q:=⟨i-(j+1),by omega⟩;rw[e2 q,show j+1+q+1=j+1+(q+1) by omega,e2 (q+1)];exact(k3 q oi (by omega) (by rw[e3];exact aV)).2.1
   ·rw[bN]at bE;by_cases e:i=j
    ·rw[if_pos e]at bE;simp at bE
    ·rw[if_neg e]at bE;rcases ZH i j with h|h
     ·rw[e1 i (by omega),e1 (i+1) (by omega)];exact rD i oi h aV bE
     ·obtain⟨q,rfl⟩:∃q,i=j+1+q:=⟨i-(j+1),by omega⟩;rw[e2 q,show j+1+q+1=j+1+(q+1) by omega,e2 (q+1)];exact⟨(k3 q oi (by omega) (by rw[e3];exact aV)).2.2,(k3 q oi (by omega) (by rw[e3];exact aV)).1⟩
   ·rw[bN]at hi;by_cases e:i=j
    ·omega
    ·rw[if_neg e]at hi;have:=nI i hi;omega
   ·rcases k4 with⟨h1,h2⟩|⟨h1,oc,h2,h3⟩
    ·exact .inl ⟨by omega,by rw[e2];exact h2⟩
    ·refine .inr ⟨h1,oc,by rw[<-e3];exact h2,?_⟩;rw[e2];rw[aas,show j+1+(m+1)=j+1+m+1 by omega]at h3;exact h3
theorem xv {ow:Nat->Bool} {K:St->Ts->Prop} (p:List Nat):∀(ops:List Oper) (i:Nat) (s:St) (L:Ts),qR P ow ws fs m ex V0 A0 cs K i ops s L->qR P ow ws fs m ex V0 A0 cs K i (ops.map (iR p)) s L
 |[],_,_,_,h=>h
 |o::rest,i,s,L,h=>by
  rcases h with⟨h1,h2⟩|⟨h1,h2⟩
  ·exact .inl ⟨h1,qh (o:=o) (fun x L' h=>xv p rest _ _ _ h) h2⟩
  ·exact .inr ⟨h1,gm (o:=o) (fun x V A h=>⟨h.1,h.2.1,h.2.2.1,xv p rest _ _ _ h.2.2.2⟩) h2⟩
theorem TJ.Aw {Q:Exit->St->Ts->Prop} {id:Nat} {l:List Oper} (hm:P.follows .mixedOrders=true) (p:List Nat) (ow:Nat->Bool) (ws fs:List Nat) (m:Nat) (ex:List Nat) (cs:List Nat) (hp:kP l p=true) (hd:mr (bL l p).toArray ws fs m cs=true) (hc:lf (bL l p).toArray ws cs=true) (M9:(cs.all fun i=> !fs.contains i)=true)
  (h:qR P ow ws fs m ex s.V s.A cs (fun s' L'=>Q .normal s' L') 0 (eM l p) s L):TJ P n (.region id l.toArray true) Q s L:=by
 obtain⟨p1,p2,p3,p4,p5⟩:=ji hp;intro eT w0 g0 X S g a w hR;have DX:da n (bL l p).toArray.toList=true:=by
  have hx:da n l=true:=by simpa[codeOk]using eT
  simp only[da,ZP]at hx⊢;intro o' s6;obtain⟨j,hj⟩:=Z4 s6;obtain⟨o,q1,rfl,_⟩:=lg hp (j:=j) (o':=o') (by simpa using hj);exact hx o (Z1 q1)
 obtain⟨τ,m,k1,k2,k3,k4⟩:=pQ (eM l p|>.map (iR p)) 0 s L (xv p _ _ _ _ h);obtain⟨hI,hx⟩:=hR.inv.heap (w':={w with drawn:=w.drawn+1}) rfl;have hF:Fr w g {w with drawn:=w.drawn+1} g:=(Fr.refl hR.fr.now).heap rfl rfl rfl rfl;have hJ:Jb w0 g0 X L S g {w with drawn:=w.drawn+1}:=(Jb.mk hR.fr hR.nC hR.nd hR.out).cR hF;have e5:(bL l p).toArray.size=l.length:=by simp[du,p1]
 have wx:∀(i:Nat),(bL l p).toArray[i]? =(bL l p)[i]? :=fun i=>by simp
 refine wp_region_any hm (rE hp _ _ (aay l.length false) a _ (by simp) (by simp) (fun i=>?_) (Cr (ex:=ex) (V0:=s.V) (A0:=s.A) (K:=fun s' L'=>Q .normal s' L') (ow:=ow) hd hc (fun i hi hf=>by have:=ZP.1 M9 i hi;simp[hf]at this) DX (fun s' L' S' g' a' w' h1 h2=>⟨s',g',L',S',h1,h2⟩) _ τ m L S _ 0 g a _ ?_ ?_ (ZE _) ?_ ?_ ?_ ?_ hJ))
 ·simp only[aaD];by_cases hi:i<l.length
  ·have:=Z3 (p3 i hi);rw[if_pos (by omega),if_pos (by simpa using hi)]
  ·have OC:i∉p:=fun h=>hi (p2 i h)
   rw[if_neg (by rw[aam OC];omega),if_neg (by simpa using hi)]
 ·refine ZI (aak _ _) (by simp[du,p1])
 ·refine⟨by rw[e5,<-p1,<-du (l:=l)];exact k1,by rw[k2];exact⟨rfl,rfl⟩,fun j o hj ho=>?_⟩;have:=(k3 j o hj (by rw[wx]at ho;exact ho)).2.1;simpa only[ZG]using this
 ·intro j o hj ho _;have:=And.intro (k3 j o hj (by rw[wx]at ho;exact ho)).2.2 (k3 j o hj (by rw[wx]at ho;exact ho)).1;simpa only[ZG]using this
 ·intro i hi;have Bd:=(aau.1 hi).1;simp at Bd;simp[Bd]at hi
 ·rcases k4 with⟨h1,h2⟩|⟨h1,oc,h2,h3⟩
  ·exact .inl ⟨by rw[h1];simp[bL],h2⟩
  ·refine .inr ⟨by simpa using h1,oc,by rw[wx];exact h2,?_⟩;simp only[ZG]at h3;exact h3
 ·refine⟨by rw[k2];exact hI,.refl hF.now,hR.size,hR.defers,by simp[du,p1],fun i o t x ho hl=>?_,fun t x _ gI=>?_,fun i _ b8=>?_,ZE _,.inl rfl,fun i o ho hl=>?_⟩
  ·have hi:=(aau.1 hl).1;simp at hi;simp[hi]at hl
  ·rw[k2]at gI⊢;obtain⟨u,h1,h2⟩:=hR.slot t x gI;exact⟨u,h1,aO.ext hx h2⟩
  ·rw[e5]at b8;simp[b8]
  ·have hi:=(aau.1 hl).1;simp at hi;simp[hi]at hl
structure xw (P:Program) (ow:Nat->Bool) (ws fs:List Nat) (m:Nat) (ex:List Nat) (V0:List (List CV)) (A0:List bu) (cs:List Nat) (K:St->Ts->Prop) (i:Nat) (ops:List Oper) (s:St) (L:Ts):Prop where
 mk::
 run:qR P ow ws fs m ex V0 A0 cs K i ops s L
variable {ow:Nat->Bool} {K:St->Ts->Prop} {i:Nat} {o:Oper} {rest:List Oper}
theorem H9 (hi:cs.contains i=false) (h:bI P s (ow i) o fun x V A=>(i∈ws\/(V=s.V/\A=s.A))/\(i∈ws->i<m->V.take V0.length=rS ex (fun i=>V.getD i []) V0/\A.take A0.length=A0)/\(i∈fs->dI P s (ow i) o ex V0 A0 x)/\xw P ow ws fs m ex V0 A0 cs K (i+1) rest (s.put o.dst x V A) L):xw P ow ws fs m ex V0 A0 cs K i (o::rest) s L:=
 ⟨.inr ⟨by simpa using hi,gm (fun x V A h=>⟨h.1,h.2.1,h.2.2.1,h.2.2.2.run⟩) h⟩⟩
theorem D0 (hi:cs.contains i=true) (h:cg P s L o fun x L'=>xw P ow ws fs m ex V0 A0 cs K (i+1) rest (s.put o.dst x s.V s.A) L'):xw P ow ws fs m ex V0 A0 cs K i (o::rest) s L:=
 ⟨.inl ⟨by simpa using hi,qh (fun x L' h=>h.run) h⟩⟩
theorem F7 (h:K s L):xw P ow ws fs m ex V0 A0 cs K i [] s L:=⟨h⟩
theorem xw.gen {ops:List Oper} {d:Nat} {b:Bool} {fr:List (Nat×AV)} {V:List (List CV)} {A:List bu} (h:∀q:Bool,b=q->xw P ow ws fs m ex V0 A0 cs K i ops ⟨(d,.c (.d (.bool q)))::fr,V,A⟩ L):xw P ow ws fs m ex V0 A0 cs K i ops ⟨(d,.c (.d (.bool b)))::fr,V,A⟩ L:=h b rfl
@[congr] theorem L6 {i i':Nat} {ops:List Oper} (hi:i=i') (h:s=s'):xw P ow ws fs m ex V0 A0 cs K i ops s L=xw P ow ws fs m ex V0 A0 cs K i' ops s' L:=by rw[h,hi]
theorem TJ.U4 {Q:Exit->St->Ts->Prop} {id:Nat} {l:List Oper} (hm:P.follows .mixedOrders=true) (p:List Nat) (ow:Nat->Bool) (ws fs:List Nat) (m:Nat) (ex:List Nat) (cs:List Nat) (hp:kP l p=true) (hd:mr (bL l p).toArray ws fs m cs=true) (hc:lf (bL l p).toArray ws cs=true) (M9:(cs.all fun i=> !fs.contains i)=true)
  (h:∀K:St->Ts->Prop,(∀s' L',TJ P n y Q s' L'->K s' L')->xw P ow ws fs m ex s.V s.A cs K 0 (eM l p) s L):TJ P n (.seq (.region id l.toArray true) y) Q s L:=
 TJ.seq (TJ.Aw hm p ow ws fs m ex cs hp hd hc M9 (h _ fun _ _ h=>h).run)
end
end Go.Av
namespace Go.Av
attribute [-simp] Go.Av.cj Go.Av.e0 Go.Av.fH Go.Av.fy Go.Av.cW Go.Av.cg
open Go
section
variable {P:Program} {n:Nat} {Q:Exit->St->Prop} {s:St}
def RB (P:Program) (o1 o2:Oper) (K:St->Prop) (s:St):Prop:=
 ∃(t e:TypeId) (x lo:Operand) (d1:Nat) (ty:TypeId) (cs:Array Bool) (d de:TD) (z:List CV) (dz:List DV) (k m:Nat) (ki:IntKind) (i:Int) (r:bu),
  (o1.op=.slice t x (some lo) none none/\o1.dst=some d1/\o1.guard=none/\(∀(a:Act) (w:World),(execOp a.eval o2).run P w=(builtin .clear #[t] ty cs #[a.eval (.tmp d1)]).run P w)/\o2.guard=none)/\
  look s.fr d1=none/\(∀d2,o2.dst=some d2->look s.fr d2=none)/\td P t=some d/\d.el=some e/\td P e=some de/\de.zero=some z/\iL [] z=some dz/\z.length=de.sz/\0<de.sz/\
  bF s x=some (.c (.own k m))/\bF s lo=some (.c (.d (.int ki i)))/\0<=i/\i.toNat<m/\s.A[k]? =some r/\m=r.rows.length/\r.wr=true/\r.sz=de.sz/\
  K ⟨s.fr,s.V,s.A.set k {r with rows:=r.rows.take i.toNat++aae (m-i.toNat) dz}⟩
end
section
variable {P:Program} {n:Nat} {Q:Exit->St->Prop} {s s':St} {y:Code}
structure OF (P:Program) (all:Array Oper) (ow:Nat->Bool) (wv wa fs:List Nat) (m:Nat) (ex:List Nat) (V0:List (List CV)) (A0:List bu) (K:St->Prop) (i:Nat) (ops:List Oper) (s:St):Prop where
 mk::
 run:HH P all ow wv wa fs m ex V0 A0 K i ops s
@[congr] theorem L7 {all:Array Oper} {ow:Nat->Bool} {wv wa fs:List Nat} {m:Nat} {ex:List Nat} {V0:List (List CV)} {A0:List bu} {K:St->Prop} {i i':Nat} {ops:List Oper} (hi:i=i') (h:s=s'):OF P all ow wv wa fs m ex V0 A0 K i ops s=OF P all ow wv wa fs m ex V0 A0 K i' ops s':=by rw[h,hi]
end
end Go.Av
