/- A part. -/
import Derived.Test.YtloolmchekcmeaaGreatXH9
set_option linter.unusedVariables false
set_option linter.unusedSimpArgs false
open Nat renaming le_refl->Vp,le_trans->Vq,lt_of_lt_of_le->Vr,zero_le->Vs,add_mul->Vt
open List renaming mem_append->Vu,nodup_append->Vv,getElem?_eq_getElem->Vw,getElem?_eq_some_iff->Vx,append_assoc->Vy,length_cons->Vz,range->VB,length_eq_zero_iff->VC,getElem?_append_right->VD,zipWith->VE,replicate->VF,mem_cons->VG,map_cons->VH,getElem?_take->VI,getElem?_of_mem->VJ,getElem?_append_left->VK,append_nil->VL
open Array renaming getElem?_eq_some_iff->VM,getElem?_eq_getElem->VN
open Bool renaming and_eq_true->VO,and_self->VP
open Option renaming map_eq_some_iff->VQ
namespace Go.Av
open Go
section
variable {P:Program} {g g' g0:Gh} {w w' w0:World} {V V':List (List CV)} {A A':List bp}
end
inductive GC where
 |d (x:DV)
 |t (e:TypeId) (sz n:Nat) (cs:List GC)
 |b (T e:TypeId) (bs:List Value)
 |n (T:TypeId) (row:List DV)
mutual
def Tr (w:World):GC->Value->List Nat->Prop
 |.d x,v,S=>bc (fun _=>0) w x v/\S=[]
 |.t e sz n cs,v,S=>∃xs S',w.ownsRow 0 e sz v n xs/\jM w cs xs S'/\S=v.ownBlock.toList++S'
 |.b T e bs,v,S=>∃b p u,v=.pointer (some ⟨b,0,none⟩)/\w.heap[b]? =some (.cells #[p,u] T (0,0))/\(p=.pointer none\/p=v)/\w.ownsRow 0 e 1 u bs.length bs/\S=b::u.ownBlock.toList
 |.n T row,v,S=>∃b xs,v=.pointer (some ⟨b,0,none⟩)/\w.heap[b]? =some (.cells xs T (0,0))/\xs.size=row.length/\(∀(j:Nat) x u,row[j]? =some x->xs[j]? =some u->bc (fun _=>0) w x u)/\S=[b]
def jM (w:World):List GC->List Value->List Nat->Prop
 |[],xs,S=>xs=[]/\S=[]
 |c::cs,xs,S=>∃x xs' S1 S2,xs=x::xs'/\S=S1++S2/\Tr w c x S1/\jM w cs xs' S2
end
def gg (w:World):List (GC×Value)->List Nat->Prop
 |[],S=>S=[]
 |(c,v)::L,S=>∃S1 S2,S=S1++S2/\Tr w c v S1/\gg w L S2
theorem bc.zero {w w':World} {x:DV} {v:Value} {im:Nat->Nat} (h:bc (fun _=>0) w x v):bc im w' x v:=
 bc.eF (im:=fun _=>0) (w:=w) ⟨fun _=>Vs _,fun _ _ ho=>absurd ho (Nat.not_lt_zero _)⟩ x v h
mutual
theorem Tr.di {w w':World}:∀(c:GC) (v:Value) (S:List Nat),(∀b∈S,w'.heap[b]? =w.heap[b]?)->Tr w c v S->Tr w' c v S
 |.d x,v,S,_,h=>by simp only[Tr]at h⊢;exact⟨h.1.zero,h.2⟩
 |.t e sz n cs,v,S,hk,h=>by
  simp only[Tr]at h⊢;obtain⟨xs,S',h1,h2,rfl⟩:=h;exact⟨xs,S',kM h1 (fun b hb=>hk b (by simp[hb])),jM.di cs xs S' (fun b hb=>hk b (by simp[hb])) h2,rfl⟩
 |.b T e bs,v,S,hk,h=>by
  simp only[Tr]at h⊢;obtain⟨b,p,u,rfl,h1,h2,h3,rfl⟩:=h;exact⟨b,p,u,rfl,(hk b (by simp)).trans h1,h2,kM h3 (fun x hx=>hk x (by simp[hx])),rfl⟩
 |.n T row,v,S,hk,h=>by
  simp only[Tr]at h⊢;obtain⟨b,xs,rfl,h1,h2,h3,rfl⟩:=h;exact⟨b,xs,rfl,(hk b (by simp)).trans h1,h2,fun j x u h4 h5=>(h3 j x u h4 h5).zero,rfl⟩
theorem jM.di {w w':World}:∀(cs:List GC) (xs:List Value) (S:List Nat),(∀b∈S,w'.heap[b]? =w.heap[b]?)->jM w cs xs S->jM w' cs xs S
 |[],xs,S,_,h=>by simp only[jM]at h⊢;exact h
 |c::cs,xs,S,hk,h=>by
  simp only[jM]at h⊢;obtain⟨x,xs',S1,S2,rfl,rfl,h1,h2⟩:=h;exact⟨x,xs',S1,S2,rfl,rfl,Tr.di c x S1 (fun b hb=>hk b (by simp[hb])) h1,jM.di cs xs' S2 (fun b hb=>hk b (by simp[hb])) h2⟩
end
theorem gg.di {w w':World}:∀{L:List (GC×Value)} {S:List Nat},(∀b∈S,w'.heap[b]? =w.heap[b]?)->gg w L S->gg w' L S
 |[],S,_,h=>h
 |(c,v)::L,S,hk,h=>by
  obtain⟨S1,S2,rfl,h1,h2⟩:=h;exact⟨S1,S2,rfl,Tr.di c v S1 (fun b hb=>hk b (by simp[hb])) h1,gg.di (fun b hb=>hk b (by simp[hb])) h2⟩
mutual
theorem Tr.lt {w:World}:∀(c:GC) (v:Value) (S:List Nat),Tr w c v S->∀b∈S,b<w.heap.size
 |.d x,v,S,h,b,hb=>by simp only[Tr]at h;rw[h.2]at hb;cases hb
 |.t e sz n cs,v,S,h,b,hb=>by
  simp only[Tr]at h;obtain⟨xs,S',h1,h2,rfl⟩:=h;rcases Vu.1 hb with h3|h3
  ·exact(h1.lt b (by simpa using h3)).2
  ·exact jM.lt cs xs S' h2 b h3
 |.b T e bs,v,S,h,x,hx=>by
  simp only[Tr]at h;obtain⟨b,p,u,rfl,h1,h2,h3,rfl⟩:=h;rcases VG.1 hx with rfl|hx
  ·exact(VM.1 h1).1
  ·exact(h3.lt x (by simpa using hx)).2
 |.n T row,v,S,h,x,hx=>by
  simp only[Tr]at h;obtain⟨b,xs,rfl,h1,h2,h3,rfl⟩:=h;rw[List.mem_singleton]at hx;subst hx;exact(VM.1 h1).1
theorem jM.lt {w:World}:∀(cs:List GC) (xs:List Value) (S:List Nat),jM w cs xs S->∀b∈S,b<w.heap.size
 |[],xs,S,h,b,hb=>by simp only[jM]at h;rw[h.2]at hb;cases hb
 |c::cs,xs,S,h,b,hb=>by
  simp only[jM]at h;obtain⟨x,xs',S1,S2,rfl,rfl,h1,h2⟩:=h;rcases Vu.1 hb with h3|h3
  ·exact Tr.lt c x S1 h1 b h3
  ·exact jM.lt cs xs' S2 h2 b h3
end
theorem gg.lt {w:World}:∀{L:List (GC×Value)} {S:List Nat},gg w L S->∀b∈S,b<w.heap.size
 |[],S,h,b,hb=>by simp only[gg]at h;rw[h]at hb;cases hb
 |(c,v)::L,S,h,b,hb=>by
  obtain⟨S1,S2,rfl,h1,h2⟩:=h;rcases Vu.1 hb with h3|h3
  ·exact Tr.lt c v S1 h1 b h3
  ·exact gg.lt h2 b h3
theorem gg.app {w:World}:∀{L M:List (GC×Value)} {S:List Nat},gg w (L++M) S↔∃S1 S2,S=S1++S2/\gg w L S1/\gg w M S2
 |[],M,S=>by
  simp only[List.nil_append,gg];constructor
  ·intro h;exact⟨[],S,rfl,rfl,h⟩
  ·rintro⟨_,S2,rfl,rfl,h⟩;exact h
 |(c,v)::L,M,S=>by
  simp only[List.cons_append,gg,gg.app (L:=L)];constructor
  ·rintro⟨S1,S2,rfl,h1,S3,S4,rfl,h2,h3⟩;exact⟨S1++S3,S4,by simp,⟨S1,S3,rfl,h1,h2⟩,h3⟩
  ·rintro⟨S1,S2,rfl,⟨S3,S4,rfl,h1,h2⟩,h3⟩;exact⟨S3,S4++S2,by simp,h1,S4,S2,rfl,h2,h3⟩
theorem gg.perm {w:World} {L M:List (GC×Value)} (hp:L.Perm M):∀{S:List Nat},gg w L S->∃S',S.Perm S'/\gg w M S':=by
 induction hp with
 |nil=>exact fun h=>⟨_,.refl _,h⟩
 |cons x _ ih=>
  obtain⟨c,v⟩:=x;rintro S ⟨S1,S2,rfl,h1,h2⟩;obtain⟨S',h3,h4⟩:=ih h2;exact⟨S1++S',h3.append_left S1,S1,S',rfl,h1,h4⟩
 |swap x y l=>
  obtain⟨c,v⟩:=x;obtain⟨c',v'⟩:=y;rintro S ⟨S1,S2,rfl,h1,S3,S4,rfl,h2,h3⟩;refine⟨S3++(S1++S4),?_,S3,S1++S4,rfl,h2,S1,S4,rfl,h1,h3⟩;rw[<-Vy,<-Vy];exact List.perm_append_comm.append_right S4
 |trans _ _ ih1 ih2=>
  intro S h;obtain⟨S',h1,h2⟩:=ih1 h;obtain⟨S'',h3,h4⟩:=ih2 h2;exact⟨S'',h1.trans h3,h4⟩
theorem gg.at_ {w:World}:∀{L:List (GC×Value)} {S:List Nat},gg w L S->∀{c v},(c,v)∈L->∃S',Tr w c v S'/\∀b∈S',b∈S
 |(c,v)::L,S,h,c',v',hm=>by
  obtain⟨S1,S2,rfl,h1,h2⟩:=h;rcases VG.1 hm with e|h3
  ·cases e;exact⟨S1,h1,fun b hb=>by simp[hb]⟩
  ·obtain⟨S',h4,h5⟩:=gg.at_ h2 h3;exact⟨S',h4,fun b hb=>by simp[h5 b hb]⟩
def chunks {α:Type} (sz:Nat):Nat->List α->List (List α)
 |0,_=>[]
 |n+1,l=>l.take sz::chunks sz n (l.drop sz)
theorem tM {α:Type} (sz:Nat):∀(n:Nat) (l:List α),(chunks sz n l).length=n
 |0,_=>rfl
 |n+1,l=>by simp[chunks,tM sz n]
mutual
def GC.dv:GC->DV
 |.d x=>x
 |.t _ sz n cs=>.sl (chunks sz n (u7 cs))
 |.b _ _ _=>.bool false
 |.n _ _=>.bool false
def u7:List GC->List DV
 |[]=>[]
 |c::cs=>c.dv::u7 cs
end
theorem AT:∀(cs:List GC),u7 cs=cs.map GC.dv
 |[]=>rfl
 |c::cs=>by simp[u7,AT cs]
theorem jM.len {w:World}:∀{cs:List GC} {xs:List Value} {S:List Nat},jM w cs xs S->cs.length=xs.length
 |[],xs,S,h=>by simp only[jM]at h;rw[h.1];rfl
 |c::cs,xs,S,h=>by
  simp only[jM]at h;obtain⟨x,xs',S1,S2,rfl,rfl,h1,h2⟩:=h;simp[jM.len h2]
mutual
def GC.pl:GC->Bool
 |.d _=>true
 |.t _ _ _ cs=>yq cs
 |.b _ _ _=>false
 |.n _ _=>false
def yq:List GC->Bool
 |[]=>true
 |c::cs=>c.pl && yq cs
end
def Kc (w:World) (b:Nat):Nat:=match w.heap[b]? with
 |some (.cells cs _ _)=>cs.size
 |_=>0
theorem mz {im:Nat->Nat} {w:World} {b sz:Nat}:∀{n:Nat} {l:List DV} {off:Nat},l.length=n*sz->(∀j x,l[j]? =some x->∃u,w.cell? ⟨b,off+j,none⟩=some u/\bc im w x u)->bS im w b sz off (chunks sz n l)
 |0,l,off,_,_=>by simp[chunks,bS]
 |n+1,l,off,hl,h=>by
  rw[Vt]at hl;simp only[chunks,bS];refine⟨by rw[List.length_take];omega,cA.mk fun j x hx=>?_,mz (by rw[List.length_drop];omega) fun j x hx=>?_⟩
  ·refine h j x ?_;rw[VI]at hx;split at hx
   ·exact hx
   ·cases hx
  ·rw[List.getElem?_drop]at hx;have:=h (sz+j) x hx;rwa[<-Nat.add_assoc]at this
mutual
theorem Tr.rep {w:World} {im:Nat->Nat}:∀(c:GC) (v:Value) (S:List Nat),c.pl=true->Tr w c v S->(∀b∈S,Kc w b<=im b)->bc im w c.dv v
 |.d x,v,S,_,h,_=>by simp only[Tr]at h;exact h.1.zero
 |.b _ _ _,v,S,hp,_,_=>by simp[GC.pl]at hp
 |.n _ _,v,S,hp,_,_=>by simp[GC.pl]at hp
 |.t e sz n cs,v,S,hp,h,hS=>by
  simp only[Tr]at h;simp only[GC.pl]at hp;obtain⟨xs,S',h1,h2,rfl⟩:=h;have sJ:=jM.rep cs xs S' hp h2 (fun b hb=>hS b (by simp[hb]));have hlen:(u7 cs).length=n*sz:=by rw[AT,List.length_map,h2.len,h1.1]
  obtain⟨EZ,h3⟩:=h1;rcases h3 with⟨rfl,rfl⟩|⟨g,cap,cur,rfl,_,hh,hc,hm,Ng,vf⟩
  ·simp only[GC.dv,bc,chunks];exact⟨none,0,rfl,Vp _,.inl trivial⟩
  ·have hb:=hS g (by simp[Value.ownBlock]);have OW:Kc w g=cap*sz:=by simp[Kc,hh,Ng]
   have hmul:n*sz<=cap*sz:=Nat.mul_le_mul_right sz hc;simp only[GC.dv,bc,tM];refine⟨_,cap,rfl,hc,.inr ⟨g,0,sz,rfl,by omega,mz hlen fun j x hx=>?_⟩⟩;obtain⟨u,hu,hd⟩:=sJ j x hx;refine⟨u,?_,hd⟩;rw[<-vf,VI]at hu;split at hu
   ·have Mj:cur[0+j]? =some u:=by simpa using hu
    simp only[World.cell?,hh];exact Mj
   ·cases hu
theorem jM.rep {w:World} {im:Nat->Nat}:∀(cs:List GC) (xs:List Value) (S:List Nat),yq cs=true->jM w cs xs S->(∀b∈S,Kc w b<=im b)->∀(j:Nat) x,(u7 cs)[j]? =some x->∃u,xs[j]? =some u/\bc im w x u
 |[],xs,S,_,_,_,j,x,hx=>by simp[u7]at hx
 |c::cs,xs,S,hp,h,hS,j,x,hx=>by
  simp only[jM]at h;simp only[yq,VO]at hp;obtain⟨y,xs',S1,S2,rfl,rfl,h1,h2⟩:=h;cases j with
  |zero=>
   simp[u7]at hx;subst hx;exact⟨y,rfl,Tr.rep c y S1 hp.1 h1 (fun b hb=>hS b (by simp[hb]))⟩
  |succ j=>
   simp[u7]at hx;obtain⟨u,h3,h4⟩:=jM.rep cs xs' S2 hp.2 h2 (fun b hb=>hS b (by simp[hb])) j x hx;exact⟨u,by simpa using h3,h4⟩
end
def DV.qB:DV->Bool
 |.sl rows=>rows.isEmpty
 |_=>true
inductive Mk:List GC->List DV->List (GC×Value)->Prop
 |nil:Mk [] [] []
 |d {x cs ds L}:x.qB=true->Mk cs ds L->Mk (.d x::cs) (x::ds) L
 |t {e sz n k cs ds L v}:Mk cs ds L->Mk (.t e sz n k::cs) (.raw v::ds) ((.t e sz n k,v)::L)
 |b {T e bs cs ds L v}:Mk cs ds L->Mk (.b T e bs::cs) (.raw v::ds) ((.b T e bs,v)::L)
 |n {T row cs ds L v}:Mk cs ds L->Mk (.n T row::cs) (.raw v::ds) ((.n T row,v)::L)
theorem DV.pF {x:DV} {v:Value} {im im':Nat->Nat} {w w':World} (hs:x.qB=true) (h:bc im w x v):bc im' w' x v:=by
 cases x with
 |sl rows=>
  have:rows=[]:=by simpa[DV.qB]using hs
  subst this;simp only[bc]at h⊢;obtain⟨a,cap,e,h1,_⟩:=h;exact⟨a,cap,e,h1,.inl trivial⟩
 |_=>exact h
theorem Mk.QA {w:World} {im:Nat->Nat} {cs:List GC} {ds:List DV} {L:List (GC×Value)} (h:Mk cs ds L):∀{xs:List Value} {S:List Nat},xs.length=ds.length->(∀(j:Nat) x u,ds[j]? =some x->xs[j]? =some u->bc im w x u)->gg w L S->jM w cs xs S:=by
 induction h with
 |nil=>
  intro xs S hl _ hS;simp only[gg]at hS;simp only[jM];exact⟨VC.1 (by simpa using hl),hS⟩
 | @d x cs ds L hs _ ih=>
  intro xs S hl hr hS
  match xs,hl with
  |u::us,hl=>
   simp only[jM];exact⟨u,us,[],S,rfl,rfl,by simp only[Tr];exact⟨DV.pF hs (hr 0 x u rfl rfl),trivial⟩,ih (by simpa using hl) (fun j x u h1 h2=>hr (j+1) x u (by simpa using h1) (by simpa using h2)) hS⟩
 | @t e sz n k cs ds L v _ ih=>
  intro xs S hl hr hS
  match xs,hl with
  |u::us,hl=>
   obtain⟨S1,S2,rfl,h1,h2⟩:=hS;have hu:=hr 0 _ u rfl rfl;simp only[bc]at hu;obtain⟨rfl,_⟩:=hu;simp only[jM];exact⟨u,us,S1,S2,rfl,rfl,h1,ih (by simpa using hl) (fun j x u h1 h2=>hr (j+1) x u (by simpa using h1) (by simpa using h2)) h2⟩
 | @b T e bs cs ds L v _ ih=>
  intro xs S hl hr hS
  match xs,hl with
  |u::us,hl=>
   obtain⟨S1,S2,rfl,h1,h2⟩:=hS;have hu:=hr 0 _ u rfl rfl;simp only[bc]at hu;obtain⟨rfl,_⟩:=hu;simp only[jM];exact⟨u,us,S1,S2,rfl,rfl,h1,ih (by simpa using hl) (fun j x u h1 h2=>hr (j+1) x u (by simpa using h1) (by simpa using h2)) h2⟩
 | @n T row cs ds L v _ ih=>
  intro xs S hl hr hS
  match xs,hl with
  |u::us,hl=>
   obtain⟨S1,S2,rfl,h1,h2⟩:=hS;have hu:=hr 0 _ u rfl rfl;simp only[bc]at hu;obtain⟨rfl,_⟩:=hu;simp only[jM];exact⟨u,us,S1,S2,rfl,rfl,h1,ih (by simpa using hl) (fun j x u h1 h2=>hr (j+1) x u (by simpa using h1) (by simpa using h2)) h2⟩
abbrev Ts:=List (GC×Value)
inductive sC (L:Ts):CV->CV->Prop
 |d {x}:sC L (.d x) (.d x)
 |nil:sC L .nil (.d (.sl []))
 |Nh:sC L .nil .nil
 |np:sC L .np .np
 |fn {f}:sC L (.fn f []) (.fn f [])
 |Kd {c v}:(c,v)∈L->c.pl=true->sC L (.d (.raw v)) (.d c.dv)
inductive EP (L:Ts):List CV->List CV->Prop
 |nil:EP L [] []
 |cons {x y xs ys}:sC L x y->EP L xs ys->EP L (x::xs) (y::ys)
inductive GL (L:Ts):AV->AV->Prop
 |c {x y}:sC L x y->GL L (.c x) (.c y)
 |agg {xs ys}:EP L xs ys->GL L (.agg xs) (.agg ys)
inductive oD (L:Ts):List AV->List AV->Prop
 |nil:oD L [] []
 |cons {x y xs ys}:GL L x y->oD L xs ys->oD L (x::xs) (y::ys)
structure u9 (w0:World) (g0:Gh) (X:List Nat) (w:World) (g:Gh):Prop where
 os:w.os=w0.os
 tape:w.tape=w0.tape
 output:w.output=w0.output
 size:w0.heap.size<=w.heap.size
 oO:∀b,b<w0.heap.size->b∉g0.ob->b∉g0.gC->b∉X->w.heap[b]? =w0.heap[b]?
 gG:∀b,b<w0.heap.size->b∉g0.gC->b∉X->g.im b=g0.im b
 ob:∃new,g.ob=g0.ob++new/\∀b∈new,w0.heap.size<=b
 ar:∀(k:Nat) v b,g.ar[k]? =some v->v.ownBlock=some b->w0.heap.size<=b\/b∈g0.gC\/b∈X
 uE:∀(k:Nat) v,g0.ar[k]? =some v->∃v',g.ar[k]? =some v'/\oS v<=oS v'/\(oS v'=oS v->v'=v)
 wh:zg w0 g0
 B6:∀b∈X,¬lX b
section
variable {P:Program} {n:Nat} {w0 w w':World} {g0 g g':Gh} {X S S':List Nat} {s s':St} {L L':Ts} {a a':Act}
theorem u9.refl (ht:zg w g) (hx:∀b∈X,¬lX b):u9 w g X w g:=
 ⟨rfl,rfl,rfl,Vp _,fun _ _ _ _ _=>rfl,fun _ _ _ _=>rfl,⟨[],by simp,by simp⟩,fun k v b hk hb=>.inr (.inl (Gh.jB hk hb)),fun k v h=>⟨v,h,Vp _,fun _=>rfl⟩,ht,hx⟩
theorem u9.AQ (h:u9 w0 g0 X w g) {b:Nat} (hb:b<w0.heap.size) (h1:b∉g0.ob):b∉g.ob:=fun hm=>by
 obtain⟨new,e,hn⟩:=h.ob;rw[e]at hm;rcases Vu.1 hm with q|q
 ·exact h1 q
 ·exact absurd (hn b q) (by omega)
theorem u9.qx (h:u9 w0 g0 X w g) {b:Nat} (hb:b<w0.heap.size) (h1:b∉g0.gC) (h2:b∉X):b∉g.gC:=fun hm=>by
 obtain⟨k,v,q1,q2⟩:=Gh.eG hm;rcases h.ar k v b q1 q2 with q|q|q
 ·omega
 ·exact h1 q
 ·exact h2 q
theorem u9.now (h:u9 w0 g0 X w g):zg w g:=fun b hb=>by
 obtain⟨h1,h2,h3,h4⟩:=h.wh b hb;refine⟨Vr h1 h.size,h.AQ h1 h2,h.qx h1 h3 (fun hx=>h.B6 b hx hb),?_⟩;rw[h.oO b h1 h2 h3 (fun hx=>h.B6 b hx hb)];exact h4
theorem u9.fr (h:u9 w0 g0 X w g) (k:Fr w g w' g'):u9 w0 g0 X w' g':=by
 refine⟨k.os.trans h.os,k.tape.trans h.tape,k.output.trans h.output,Vq h.size k.size,fun b h1 h2 h3 h4=>?_,fun b h1 h2 h3=>?_,?_,fun i v b h1 h2=>?_,fun i v h1=>?_,h.wh,h.B6⟩
 ·rw[k.oO b (Vr h1 h.size) (h.AQ h1 h2) (h.qx h1 h3 h4)];exact h.oO b h1 h2 h3 h4
 ·rw[k.gG b (Vr h1 h.size) (h.qx h1 h2 h3)];exact h.gG b h1 h2 h3
 ·obtain⟨new,e,hn⟩:=h.ob;obtain⟨new',e',IH⟩:=k.ob;refine⟨new++new',by rw[e',e,Vy],fun b hb=>?_⟩;rcases Vu.1 hb with q|q
  ·exact hn b q
  ·exact Vq h.size (IH b q)
 ·rcases k.ar i v b h1 h2 with q|q
  ·exact .inl (Vq h.size q)
  ·obtain⟨j,v',q1,q2⟩:=Gh.eG q;exact h.ar j v' b q1 q2
 ·obtain⟨v1,q1,q2,q3⟩:=h.uE i v h1;obtain⟨v2,q4,q5,q6⟩:=k.uE i v1 q1;exact⟨v2,q4,Vq q2 q5,fun e=>(q6 (by omega)).trans (q3 (by omega))⟩
structure rz (n:Nat) (w0:World) (g0:Gh) (X:List Nat) (s:St) (L:Ts) (S:List Nat) (g:Gh) (a:Act) (w:World):Prop where
 inv:Inv g w s.V s.A
 fr:u9 w0 g0 X w g
 size:a.tmps.size=n
 defers:a.defers=[]
 slot:∀t x,look s.fr t=some x->∃u,a.tmps[t]? =some u/\aU g w s.A x u
 oR:gg w L S
 nd:S.Nodup
 out:∀b∈S,g.im b=0/\b∉g.ob/\b∉g.gC/\¬lX b/\(w0.heap.size<=b\/b∈X)
theorem rz.rp (h:rz n w0 g0 X s L S g a w):Rp n w g s g a w:=⟨h.inv,.refl h.fr.now,h.size,h.defers,h.slot⟩
theorem rz.vH (h:rz n w0 g0 X s L S g a w) (k:Fr w g w' g'):gg w' L S/\∀b∈S,g'.im b=0/\b∉g'.ob/\b∉g'.gC/\¬lX b/\(w0.heap.size<=b\/b∈X):=by
 have aC:=h.oR.lt;refine⟨h.oR.di fun b hb=>k.oO b (aC b hb) (h.out b hb).2.1 (h.out b hb).2.2.1,fun b hb=>?_⟩;obtain⟨h1,h2,h3,h4,h5⟩:=h.out b hb;have rX:=aC b hb;refine⟨(k.gG b rX h3).trans h1,fun hm=>?_,fun hm=>?_,h4,h5⟩
 ·obtain⟨new,e,hn⟩:=k.ob;rw[e]at hm;rcases Vu.1 hm with q|q
  ·exact h2 q
  ·exact absurd (hn b q) (by omega)
 ·obtain⟨i,v,q1,q2⟩:=Gh.eG hm;rcases k.ar i v b q1 q2 with q|q
  ·omega
  ·exact h3 q
theorem rz.back (h:rz n w0 g0 X s L S g a w) (k:Rp n w g s' g' a' w'):rz n w0 g0 X s' L S g' a' w':=
 ⟨k.inv,h.fr.fr k.fr,k.size,k.defers,k.slot,(h.vH k.fr).1,h.nd,(h.vH k.fr).2⟩
theorem rz.less (h:rz n w0 g0 X s L S g a w) {M:Ts} (hp:L.Perm (L'++M)):∃S',rz n w0 g0 X s L' S' g a w:=by
 obtain⟨S1,h1,h2⟩:=h.oR.perm hp;obtain⟨S2,S3,rfl,h3,_⟩:=gg.app.1 h2;exact⟨S2,h.inv,h.fr,h.size,h.defers,h.slot,h3,(Vv.1 (h1.nodup_iff.1 h.nd)).1,fun b hb=>h.out b (h1.mem_iff.2 (by simp[hb]))⟩
def TJ (P:Program) (n:Nat) (c:Code) (Q:Exit->St->Ts->Prop) (s:St) (L:Ts):Prop:=
 codeOk n c=true->∀w0 g0 X S g a w,rz n w0 g0 X s L S g a w->c.wp P (fun e a' w'=>∃s' g' L' S',Q e s' L'/\rz n w0 g0 X s' L' S' g' a' w') a w
variable {Q Q':Exit->St->Ts->Prop} {c x y:Code}
theorem TJ.mono (h:TJ P n c Q s L) (hq:∀e s' L',Q e s' L'->Q' e s' L'):TJ P n c Q' s L:=
 fun eC w0 g0 X S g a w hR=>Go.wp_mono (h eC w0 g0 X S g a w hR) fun _ _ _ ⟨s',g',L',S',h1,h2⟩=>⟨s',g',L',S',hq _ _ _ h1,h2⟩
theorem TJ.less {M:Ts} (hp:L.Perm (L'++M)) (h:TJ P n c Q s L'):TJ P n c Q s L:=by
 intro eC w0 g0 X S g a w hR;obtain⟨S',sh⟩:=hR.less hp;exact h eC w0 g0 X S' g a w sh
def GM (P:Program) (n:Nat) (c:Code) (Q:Exit->St->Ts->Prop):Exit->St->Ts->Prop
 |.normal,s,L=>TJ P n c Q s L
 |e,s,L=>Q e s L
theorem TJ.seq (h:TJ P n x (GM P n y Q) s L):TJ P n (.seq x y) Q s L:=by
 intro eC w0 g0 X S g a w hR;simp only[codeOk,VO]at eC;refine wp_seq (Go.wp_mono (h eC.1 w0 g0 X S g a w hR) ?_);rintro e a' w' ⟨s',g',L',S',h1,h2⟩;cases e with
 |normal=>exact h1 eC.2 w0 g0 X S' g' a' w' h2
 |_=>exact⟨s',g',L',S',h1,h2⟩
theorem TJ.skip (h:Q .normal s L):TJ P n .skip Q s L:=fun _ _ _ _ S g _ _ hR=>wp_skip ⟨s,g,L,S,h,hR⟩
theorem TJ.exit {id:Nat} (h:Q (.exit id) s L):TJ P n (.exit id) Q s L:=fun _ _ _ _ S g _ _ hR=>wp_exit ⟨s,g,L,S,h,hR⟩
theorem TJ.ret (h:Q .ret s L):TJ P n .ret Q s L:=fun _ _ _ _ S g _ _ hR=>wp_ret ⟨s,g,L,S,h,hR⟩
theorem TJ.cond {o:Operand} {b:Bool} (hc:bA s o=some (.c (.d (.bool b)))) (ht:b=true->TJ P n x Q s L) (hf:b=false->TJ P n y Q s L):TJ P n (.cond o x y) Q s L:=by
 intro eC w0 g0 X S g a w hR;simp only[codeOk,VO]at eC;have hv:=aE hR.slot hc;simp only[aU,c7,bj,bc]at hv;exact wp_cond_split hv (fun e=>ht e eC.1 w0 g0 X S g a w hR) (fun e=>hf e eC.2 w0 g0 X S g a w hR)
def tN (id:Nat) (Q:Exit->St->Ts->Prop):Exit->St->Ts->Prop
 |.exit id',s,L=>if id'=id then Q .normal s L else Q (.exit id') s L
 |e,s,L=>Q e s L
theorem TJ.block {id:Nat} (h:TJ P n c (tN id Q) s L):TJ P n (.block id c) Q s L:=by
 intro eC w0 g0 X S g a w hR;refine wp_block (Go.wp_mono (h eC w0 g0 X S g a w hR) ?_);rintro e a' w' ⟨s',g',L',S',h1,h2⟩;cases e with
 |exit id'=>
  simp only[tN]at h1;simp only[Exit.inBlock];split
  ·rename_i e;rw[if_pos e]at h1;exact⟨s',g',L',S',h1,h2⟩
  ·rename_i e;rw[if_neg e]at h1;exact⟨s',g',L',S',h1,h2⟩
 |_=>exact⟨s',g',L',S',h1,h2⟩
def mA (P:Program) (n:Nat) (c:Code) (Q:Exit->St->Ts->Prop):Nat->St->Ts->Prop
 |0,_,_=>False
 |k+1,s,L=>TJ P n c (fun e s' L'=>match e with|.normal=>mA P n c Q k s' L'|e=>Q e s' L') s L
theorem mA.succ:∀{k:Nat} {s:St} {L:Ts},mA P n c Q k s L->mA P n c Q (k+1) s L
 |0,_,_,h=>h.elim
 |k+1,s,L,h=>TJ.mono h fun e s' L' h1=>by cases e<;>first|exact mA.succ h1|exact h1
theorem mA.le {k k':Nat} (hk:k<=k') {s:St} {L:Ts} (h:mA P n c Q k s L):mA P n c Q k' s L:=by
 induction hk with
 |refl=>exact h
 |step _ ih=>exact ih.succ
theorem TJ.km {k:Nat} (h:mA P n c Q k s L):TJ P n (.loop c) Q s L:=by
 intro eC w0 g0 X S g a w hR;refine wp_loop_rounds k ?_;have key:∀k s L S g a w,mA P n c Q k s L->rz n w0 g0 X s L S g a w->Code.rounds P c (fun e a' w'=>∃s' g' L' S',Q e s' L'/\rz n w0 g0 X s' L' S' g' a' w') k a w:=by
  intro k;induction k with
  |zero=>intro s L S g a w h _;exact h.elim
  |succ k ih=>
   intro s L S g a w h hR;rw[rounds_succ];refine Go.wp_mono (h eC w0 g0 X S g a w hR) ?_;rintro e a' w' ⟨s',g',L',S',h1,h2⟩;cases e with
   |normal=>exact ih s' L' S' g' a' w' h1 h2
   |_=>exact⟨s',g',L',S',h1,h2⟩
 exact key k s L S g a w h hR
theorem TJ.loop (I:Nat->St->Ts->Prop) (h:∀k s L,I k s L->TJ P n c (fun e s' L'=>match e with|.normal=>∃k',k'<k/\I k' s' L'|e=>Q e s' L') s L) {k:Nat} (h0:I k s L):TJ P n (.loop c) Q s L:=by
 have key:∀k s L,I k s L->mA P n c Q (k+1) s L:=by
  intro k;induction k using Nat.strongRecOn with
  |_ k ih=>
   intro s L hs;refine TJ.mono (h k s L hs) fun e s' L' h1=>?_
   cases e with
   |normal=>obtain⟨k',hk,h2⟩:=h1;exact(ih k' hk s' L' h2).le hk
   |_=>exact h1
 exact TJ.km (key k s L h0)
theorem TJ.forget (cS:List (Nat×AV)) (gm:∀t x,look cS t=some x->look s.fr t=some x) (h:TJ P n c Q ⟨cS,s.V,s.A⟩ L):TJ P n c Q s L:=
 fun eC w0 g0 X S g a w hR=>h eC w0 g0 X S g a w ⟨hR.inv,hR.fr,hR.size,hR.defers,fun t x hx=>hR.slot t x (gm t x hx),hR.oR,hR.nd,hR.out⟩
def zM {α:Type} (St_:α->St) (Tr_:α->Ts) (m:α->Nat) (H:α->Prop) (k:Nat) (Q:Exit->St->Ts->Prop):Exit->St->Ts->Prop
 |.normal,s',L'=>∃a' M,m a'<k/\H a'/\Sub (St_ a') s'/\L'.Perm (Tr_ a'++M)
 |e,s',L'=>Q e s' L'
theorem TJ.gq {α:Type} (St_:α->St) (Tr_:α->Ts) (m:α->Nat) (H:α->Prop) (h:∀a,H a->TJ P n c (zM St_ Tr_ m H (m a) Q) (St_ a) (Tr_ a)) (a:α) (ha:H a) (hs:Sub (St_ a) s) {M:Ts} (hL:L.Perm (Tr_ a++M)):TJ P n (.loop c) Q s L:=by
 refine TJ.loop (fun k s L=>∃a M,m a=k/\H a/\(St_ a).V=s.V/\(St_ a).A=s.A/\(∀t x,look (St_ a).fr t=some x->look s.fr t=some x)/\L.Perm (Tr_ a++M)) ?_ (k:=m a) ⟨a,M,rfl,ha,hs.1,hs.2.1,iu.look hs.2.2,hL⟩;rintro k s1 L1 ⟨a',M',rfl,h2,h3,h4,h5,h6⟩;refine TJ.less h6 (TJ.forget (St_ a').fr h5 ?_);rw[<-h3,<-h4];refine TJ.mono (h a' h2) fun e s2 L2 h7=>?_
 cases e with
 |normal=>
  obtain⟨a2,M2,h8,h9,bZ,dC⟩:=h7;exact⟨_,h8,a2,M2,rfl,h9,bZ.1,bZ.2.1,iu.look bZ.2.2,dC⟩
 |_=>exact h7
def B7 (r:AV) (v:Value):Prop:=∀g w A,aU g w A r v
def br (P:Program) (f:FuncId) (as_:List AV) (L:Ts) (R:AV->Ts->Prop):Prop:=
 (∀args w,(callFunc f args).run P w=.ok (.enter f args) w)/\
 ∀(g:Gh) (w:World) (vs:Array Value) (S:List Nat),g.ob=[]->g.ar=[]->Inv g w [] []->zg w g->vs.size=as_.length->(∀(i:Nat) x u,as_[i]? =some x->vs[i]? =some u->aU g w [] x u)->
  gg w L S->S.Nodup->(∀b∈S,g.im b=0/\¬lX b)->
  Calls P f vs w fun e w'=>∃v r L' S',e=.returned v/\R r L'/\B7 r v/\gg w' L' S'/\S'.Nodup/\(∀b∈S',b∈S\/w.heap.size<=b)/\
   w'.os=w.os/\w'.tape=w.tape/\w'.output=w.output/\w.heap.size<=w'.heap.size/\∀b,b<w.heap.size->b∉S->w'.heap[b]? =w.heap[b]?
theorem oD.len {L:Ts} {xs as_:List AV} (h:oD L xs as_):xs.length=as_.length:=by
 induction h with
 |nil=>rfl
 |cons _ _ ih=>simp[ih]
theorem oD.at_ {L:Ts} {xs as_:List AV} (h:oD L xs as_):∀{i:Nat} {y:AV},as_[i]? =some y->∃x,xs[i]? =some x/\GL L x y:=by
 induction h with
 |nil=>intro i y hy;simp at hy
 |cons h1 _ ih=>
  intro i y hy;cases i with
  |zero=>simp at hy;subst hy;exact⟨_,rfl,h1⟩
  |succ i=>simp at hy;simpa using ih hy
theorem EP.len {L:Ts} {xs as_:List CV} (h:EP L xs as_):xs.length=as_.length:=by
 induction h with
 |nil=>rfl
 |cons _ _ ih=>simp[ih]
theorem EP.at_ {L:Ts} {xs as_:List CV} (h:EP L xs as_):∀{i:Nat} {y:CV},as_[i]? =some y->∃x,xs[i]? =some x/\sC L x y:=by
 induction h with
 |nil=>intro i y hy;simp at hy
 |cons h1 _ ih=>
  intro i y hy;cases i with
  |zero=>simp at hy;subst hy;exact⟨_,rfl,h1⟩
  |succ i=>simp at hy;simpa using ih hy
def zN (g:Gh) (w:World) (S:List Nat):Gh:={ob:=[],ar:=[],im:=fun b=>if b∈S then Kc w b else g.im b}
theorem sC.rep {A:List bp} {x y:CV} (h:sC L x y) (hS:∀b∈S,g.im b=0) (hT:gg w L S) {u:Value} (hr:bj g w A x u):bj (zN g w S) w [] y u:=by
 have hle:∀b,g.im b<=(zN g w S).im b:=fun b=>by
  simp only[zN];split
  ·rename_i h;rw[hS b h];exact Vs _
  ·exact Vp _
 cases h with
 | @d x=>exact bc.eF ⟨hle,fun _ _ _=>rfl⟩ x u hr
 |nil=>
  simp only[bj]at hr;subst hr;simp only[bj,bc];exact⟨none,0,rfl,Vp _,.inl trivial⟩
 |Nh=>exact hr
 |np=>exact hr
 |fn=>
  obtain⟨bks,h1,h2,_⟩:=hr;exact⟨bks,h1,h2,fun i l b h=>by simp at h⟩
 | @Kd c v hm pW=>
  simp only[bj,bc]at hr;obtain⟨rfl,_⟩:=hr;obtain⟨S',h1,h2⟩:=hT.at_ hm;exact Tr.rep c _ S' pW h1 fun b hb=>by simp[zN,h2 b hb]
theorem GL.rep {A:List bp} {x y:AV} (h:GL L x y) (hS:∀b∈S,g.im b=0) (hT:gg w L S) {u:Value} (hr:aU g w A x u):aU (zN g w S) w [] y u:=by
 cases h with
 | @c x y h=>exact sC.rep (A:=A) h hS hT hr
 | @agg xs ys h=>
  obtain⟨vs,e,hl,hc⟩:=hr;refine⟨vs,e,by rw[hl,h.len],fun i y u h1 h2=>?_⟩;obtain⟨x,h3,h4⟩:=h.at_ h1;exact h4.rep hS hT (hc i x u h3 h2)
def nh (P:Program) (s:St) (L:Ts) (f:FuncId) (xs:List AV) (K:AV->List (List CV)->List bp->Ts->Prop):Prop:=
 fM P s f xs (fun x V A=>K x V A L)\/
 ∃(as_:List AV) (L1 L2:Ts) (R:AV->Ts->Prop),L.Perm (L1++L2)/\oD L2 xs as_/\br P f as_ L1 R/\∀r L1',R r L1'->K r s.V s.A (L1'++L2)
theorem gg.B8 {S1 S2:List Nat} (h:(S1++S2).Nodup):∀b∈S1,b∉S2:=fun b h1 h2=>(Vv.1 h).2.2 b h1 b h2 rfl
theorem yr (hR:rz n w0 g0 X s L S g a w) {f:FuncId} {xs as_:List AV} {L1 L2:Ts} {R:AV->Ts->Prop} (hp:L.Perm (L1++L2)) (DK:oD L2 xs as_) (hc:br P f as_ L1 R) {vs:Array Value} (hl:vs.size=xs.length)
  (hr:∀(i:Nat) x u,xs[i]? =some x->vs[i]? =some u->aU g w s.A x u):
  Calls P f vs w fun e w'=>∃v r L' S',e=.returned v/\R r L'/\B7 r v/\Inv g w' s.V s.A/\Ext g w s.A g w' s.A/\u9 w0 g0 X w' g/\gg w' (L'++L2) S'/\S'.Nodup/\∀b∈S',g.im b=0/\b∉g.ob/\b∉g.gC/\¬lX b/\(w0.heap.size<=b\/b∈X):=by
 obtain⟨S0,y8,hT⟩:=hR.oR.perm hp;obtain⟨S1,S2,rfl,QB,DM⟩:=gg.app.1 hT;have pY:(S1++S2).Nodup:=y8.nodup_iff.1 hR.nd;have lU:∀b∈S1++S2,_:=fun b hb=>hR.out b (y8.mem_iff.2 hb)
 have eR:=gg.B8 pY;have LB:∀b∈S1,g.im b=0:=fun b hb=>(lU b (by simp[hb])).1
 have vE:∀b∈S2,g.im b=0:=fun b hb=>(lU b (by simp[hb])).1
 have Ke:=hR.fr.now;have Kf:Inv (zN g w S2) w [] []:=⟨rfl,rfl,fun l row b h=>by simp at h,fun k r v h=>by simp at h,fun l l' b h=>by simp[zN]at h,fun k k' v v' b h=>by simp[zN]at h,fun l k v b h=>by simp[zN]at h,fun b hb=>by
  have:b∉S2:=fun h=>absurd (DM.lt b h) (by omega)
  simp only[zN,if_neg this];exact hR.inv.fresh b hb⟩
 have Kg:zg w (zN g w S2):=Ke.less (by simp[zN]) (by simp[zN,Gh.gC]);refine(hc.2 (zN g w S2) w vs S1 rfl rfl Kf Kg (by rw[hl,DK.len]) (fun i y u h1 h2=>?_) QB (Vv.1 pY).1 (fun b hb=>⟨by simp only[zN,if_neg (eR b hb)];exact LB b hb,(lU b (by simp[hb])).2.2.2.1⟩)).mono ?_
 ·obtain⟨x,h3,h4⟩:=DK.at_ h1;exact h4.rep vE DM (hr i x u h3 h2)
 rintro e w' ⟨v,r,L',S',rfl,kT,Ni,I2,zO,cr,ho,ht,jf,fw,xP⟩;have DN:∀b,b<w.heap.size->b∈g.ob\/b∈g.gC\/0<g.im b->w'.heap[b]? =w.heap[b]? :=fun b hb hx=>xP b hb fun hm=>by
  obtain⟨q1,q2,q3,_⟩:=lU b (by simp[hm]);rcases hx with h|h|h
  ·exact q2 h
  ·exact q3 h
  ·omega
 have hx:Ext g w s.A g w' s.A:=⟨fun _ _ h=>h,⟨fun _=>Vp _,fun b o aC=>by
  have hb:=hR.inv.Bs aC;exact World.cell?_of_block (a:=⟨b,o,none⟩) (DN b hb (.inr (.inr (by omega))))⟩,fun _ r h=>⟨r,h,rfl,Vp _,fun _=>rfl⟩⟩
 have Nj:Inv g w' s.V s.A:=⟨hR.inv.nD,hR.inv.j7,fun l row b h1 h2=>hR.inv.eH hx h1 h2 (DN b (hR.inv.oU h2) (.inl (List.mem_of_getElem? h2))) (hR.inv.obj l row b h1 h2).1,
  fun k r v h1 h2=>hR.inv.eI hx h1 h2 (fun b hb=>DN b (hR.inv.kN h2 hb) (.inr (.inl (Gh.jB h2 hb)))) (fun _ _=>rfl),hR.inv.jx,hR.inv.gF,hR.inv.ic,fun b hb=>hR.inv.fresh b (by omega)⟩
 have hX:∀b∈S1,w0.heap.size<=b\/b∈X:=fun b hb=>(lU b (by simp[hb])).2.2.2.2
 have hF:u9 w0 g0 X w' g:=⟨ho.trans hR.fr.os,ht.trans hR.fr.tape,jf.trans hR.fr.output,Vq hR.fr.size fw,fun b h1 h2 h3 h4=>by
  rw[xP b (Vr h1 hR.fr.size) (fun hm=>by rcases hX b hm with q|q;omega;exact h4 q)];exact hR.fr.oO b h1 h2 h3 h4,hR.fr.gG,hR.fr.ob,hR.fr.ar,hR.fr.uE,hR.fr.wh,hR.fr.B6⟩
 have Nk:gg w' L2 S2:=DM.di fun b hb=>xP b (DM.lt b hb) fun hm=>eR b hm hb
 have Kh:∀b∈g.ob,b<w.heap.size:=fun b hb=>by
  obtain⟨l,hl⟩:=VJ hb;exact hR.inv.oU hl
 have CW:∀b∈g.gC,b<w.heap.size:=fun b hb=>by
  obtain⟨k,v,q1,q2⟩:=Gh.eG hb;exact hR.inv.kN q1 q2
 refine⟨v,r,L',S'++S2,rfl,kT,Ni,Nj,hx,hF,gg.app.2 ⟨S',S2,rfl,I2,Nk⟩,Vv.2 ⟨zO,(Vv.1 pY).2.1,fun b hb c hc=>?_⟩,fun b hb=>?_⟩
 ·rintro rfl;rcases cr b hb with q|q
  ·exact eR b q hc
  ·exact absurd (DM.lt b hc) (by omega)
 ·rcases Vu.1 hb with hb|hb
  ·rcases cr b hb with q|q
   ·exact lU b (by simp[q])
   ·refine⟨hR.inv.fresh b q,fun hm=>absurd (Kh b hm) (by omega),fun hm=>absurd (CW b hm) (by omega),fun hm=>?_,.inl (Vq hR.fr.size q)⟩;have:=(Ke b hm).1;omega
  ·exact lU b (by simp[hb])
end
section
variable {P:Program} {n:Nat} {w0 w w':World} {g0 g g':Gh} {X S S':List Nat} {s s':St} {L L':Ts} {a a':Act} {Q:Exit->St->Ts->Prop} {x y:Code}
def bO (P:Program) (s:St) (L:Ts) (ow:Bool) (o:Oper) (K:AV->List (List CV)->List bp->Ts->Prop):Prop:=
 match o.op with
 |.call {callee:=.value f,args,.. }=>bE (bA s f) fun fv=>match fv with
  |.c (.fn fid cap)=>bE (fz s args.toList) fun xs=>nh P s L fid (xs++cap.map fun l=>.c (.ptr l 0)) K
  |_=>False
 |op=>dF P s ow op fun x V A=>K x V A L
theorem vI (hR:rz n w0 g0 X s L S g a w) {ow:Bool} {o:Oper} {K:AV->List (List CV)->List bp->Ts->Prop} (h:bO P s L ow o K) (next:Act->World->Prop) (Q:Exit->Act->World->Prop)
  (hn:∀x V' A' L' S' v w' g',K x V' A' L'->aU g' w' A' x v->Inv g' w' V' A'->Ext g w s.A g' w' A'->u9 w0 g0 X w' g'->gg w' L' S'->S'.Nodup->(∀b∈S',g'.im b=0/\b∉g'.ob/\b∉g'.gC/\¬lX b/\(w0.heap.size<=b\/b∈X))->next (a.put o.dst v) w'):o.wp P a w next Q:=by
 have plain:bJ P s ow o (fun x V A=>K x V A L)->o.wp P a w next Q:=by
  intro h;obtain⟨x,V',A',h1,h2⟩:=eu hR.inv (Fr.refl hR.fr.now) hR.slot h;exact h2 next Q fun v w' g' h3 h4 h5 h6=>hn x V' A' L S v w' g' h1 h3 h4 h5 (hR.fr.fr h6) (hR.vH h6).1 hR.nd (hR.vH h6).2
 unfold bO at h;split at h
 ·rename_i f args argTypes heq;refine af h fun fv h1 h2=>?_
  split at h2
  ·rename_i fid cap;refine af h2 fun xs h3 h4=>?_
   rcases h4 with h4|⟨as_,L1,L2,R,hp,DK,hc,hK⟩
   ·refine plain ?_;unfold bJ;rw[heq];simp only[h1,h3,bE];exact h4
   ·have MH:=aE hR.slot h1;obtain⟨h5,h6⟩:=jC hR.slot h3;have P4:xs.length=args.size:=by rw[h5,Array.length_toList]
    obtain⟨bks,h7,h8,h9⟩:bj g w s.A (.fn fid cap) (a.eval f):=MH;have ma:args.map a.eval++(bks.map fun b=>Value.pointer (some ⟨b,0,none⟩)).toArray=((args.toList.map a.eval)++bks.map fun b=>Value.pointer (some ⟨b,0,none⟩)).toArray:=by
     apply Array.ext';simp
    have kj:=yr (vs:=((args.toList.map a.eval)++bks.map fun b=>Value.pointer (some ⟨b,0,none⟩)).toArray) hR hp DK hc (by simp[h5,h8]) (fun i x u bZ dC=>by
     simp only[List.getElem?_toArray]at dC;by_cases hi:i<xs.length
     ·rw[VK hi]at bZ;rw[VK (by simp;omega)]at dC;exact h6 i x u bZ dC
     ·rw[VD (by omega)]at bZ;rw[VD (by simp;omega)]at dC;simp only[List.getElem?_map,VQ]at bZ dC;obtain⟨l,eR,rfl⟩:=bZ;obtain⟨b,dt,rfl⟩:=dC;exact⟨b,h9 _ l b eR (by rw[<-dt];congr 1;simp[h5]),rfl⟩)
    have eB:(execOp a.eval o).run P w=.ok (.enter fid ((args.toList.map a.eval)++bks.map fun b=>Value.pointer (some ⟨b,0,none⟩)).toArray) w:=by
     simp only[execOp,heq,resolve,h7,Deferred.ofValue,Sem.run_bind,Sem.run_pure,Result.andThen_ok,invoke,Array.empty_append];rw[hc.1,ma]
    unfold Oper.wp;rw[eB];show Calls P fid _ w _;refine kj.mono ?_;rintro e w' ⟨v,r,L1',S',rfl,eP,nQ,oP,xJ,oQ,Ho,EI,Jt⟩;exact hn r s.V s.A _ S' v w' g (hK r L1' eP) (nQ g w' s.A) oP xJ oQ Ho EI Jt
  ·exact h2.elim
 ·rename_i cN;refine plain ?_;unfold bJ;split
  ·rename_i heq;exact absurd heq (cN _ _ _)
  ·exact h
theorem rz.put (h:rz n w0 g0 X s L S g a w) {dst:Option Tmp} (hd:∀d,dst=some d->d<n) {x:AV} {v:Value} {V':List (List CV)} {A':List bp} (hr:aU g' w' A' x v) (hI:Inv g' w' V' A') (hx:Ext g w s.A g' w' A') (hF:u9 w0 g0 X w' g')
  (hT:gg w' L' S') (pY:S'.Nodup) (ho:∀b∈S',g'.im b=0/\b∉g'.ob/\b∉g'.gC/\¬lX b/\(w0.heap.size<=b\/b∈X)):rz n w0 g0 X (s.put dst x V' A') L' S' g' (a.put dst v) w':=by
 refine⟨hI,hF,?_,?_,fun t y hy=>?_,hT,pY,ho⟩
 ·cases dst<;>simp[Act.put,h.size]
 ·cases dst<;>simp[Act.put,h.defers]
 ·cases dst with
  |none=>
   obtain⟨u,h1,h2⟩:=h.slot t y hy;exact⟨u,h1,aU.ext hx h2⟩
  |some d=>
   have BF:=hd d rfl;simp only[St.put,look]at hy;by_cases e:t=d
   ·subst e;simp at hy;subst hy;refine⟨v,?_,hr⟩;have:t<a.tmps.size:=by rw[h.size];exact BF
    simp[Act.put,this]
   ·rw[if_neg e]at hy;obtain⟨u,h1,h2⟩:=h.slot t y hy;refine⟨u,?_,aU.ext hx h2⟩;simp only[Act.put];rw[Array.getElem?_setIfInBounds_ne (fun e'=>e e'.symm)];exact h1
structure iP (P:Program) (n:Nat) (all:Array Oper) (ow:Nat->Bool) (K:St->Ts->Prop) (i:Nat) (ops:List Oper) (s:St) (L:Ts):Prop where
 mk::
 run:fh n ops=true->∀(w0:World) (g0:Gh) (X S:List Nat) (g:Gh) (a:Act) (w:World) (Q:Exit->Act->World->Prop),rz n w0 g0 X s L S g a w->
  (∀s' L' S' g' a' w',K s' L'->rz n w0 g0 X s' L' S' g' a' w'->Q .normal a' w')->wpList P all Q ops a w
theorem aD {all:Array Oper} {ow:Nat->Bool} {K:St->Ts->Prop} {i:Nat} {o:Oper} {rest:List Oper} (h:fT all s o (bO P s L (ow i) o fun x V A L'=>iP P n all ow K (i+1) rest (s.put o.dst x V A) L') (iP P n all ow K (i+1) rest (s.put o.dst (.c .undef) s.V s.A) L)):iP P n all ow K i (o::rest) s L:=by
 refine⟨fun hd w0 g0 X S g a w Q hR hQ=>?_⟩;simp only[fh,List.all_cons,VO]at hd;have gn:∀d,o.dst=some d->d<n:=fun d e=>by have:=hd.1;rw[e]at this;simpa using this
 unfold wpList;rcases mR hR.rp h with⟨h1,h2⟩|⟨h1,h2⟩
 ·rw[if_pos h1];exact .inl (vI hR h2 _ _ fun x V' A' L' S' v w' g' h3 h4 h5 h6 h7 h8 h9 bZ=>h3.run hd.2 w0 g0 X S' g' _ w' Q (hR.put gn h4 h5 h6 h7 h8 h9 bZ) hQ)
 ·rw[if_neg (by rw[h1];simp)];exact h2.run hd.2 w0 g0 X S g _ w Q (hR.put gn (x:=.c .undef) (v:=undef) rfl hR.inv (.refl _ _ _) hR.fr hR.oR hR.nd hR.out) hQ
theorem az {all:Array Oper} {ow:Nat->Bool} {K:St->Ts->Prop} {i:Nat} (h:K s L):iP P n all ow K i [] s L:=⟨fun _ _ _ _ S g a w _ hR hQ=>hQ s L S g a w h hR⟩
theorem iP.gen {all:Array Oper} {ow:Nat->Bool} {K:St->Ts->Prop} {i:Nat} {ops:List Oper} {d:Nat} {b:Bool} {fr:List (Nat×AV)} {V:List (List CV)} {A:List bp} (h:∀q:Bool,b=q->iP P n all ow K i ops ⟨(d,.c (.d (.bool q)))::fr,V,A⟩ L):iP P n all ow K i ops ⟨(d,.c (.d (.bool b)))::fr,V,A⟩ L:=h b rfl
@[congr] theorem HQ {all:Array Oper} {ow:Nat->Bool} {K:St->Ts->Prop} {i i':Nat} {ops:List Oper} (hi:i=i') (h:s=s'):iP P n all ow K i ops s L=iP P n all ow K i' ops s' L:=by rw[h,hi]
@[congr] theorem GO {o:Oper} {ow:Bool} {K:AV->List (List CV)->List bp->Ts->Prop} (h:s=s'):bO P s L ow o K=bO P s' L ow o K:=by rw[h]
@[congr] theorem FC {f:FuncId} {xs xs':List AV} {K:AV->List (List CV)->List bp->Ts->Prop} (hs:s=s') (hx:xs=xs'):nh P s L f xs K=nh P s' L f xs' K:=by subst hs;subst hx;rfl
theorem TJ.region {id:Nat} {ops:Array Oper} (ow:Nat->Bool) (h:iP P n ops ow (fun s' L'=>Q .normal s' L') 0 ops.toList s L):TJ P n (.region id ops false) Q s L:=by
 intro eC w0 g0 X S g a w hR;exact wp_region_list (h.run eC w0 g0 X S g a w _ hR fun s' L' S' g' a' w' h1 h2=>⟨s',g',L',S',h1,h2⟩)
theorem TJ.rs {id:Nat} {l:List Oper} (ow:Nat->Bool) (h:∀K:St->Ts->Prop,(∀s' L',TJ P n y Q s' L'->K s' L')->iP P n l.toArray ow K 0 l s L):TJ P n (.seq (.region id l.toArray false) y) Q s L:=
 TJ.seq (TJ.region ow (h _ fun _ _ h=>h))
theorem TJ.ef {id:Nat} {l:List Oper} (ow:Nat->Bool) (h:∀K:St->Ts->Prop,(∀s' L',Q .normal s' L'->K s' L')->iP P n l.toArray ow K 0 l s L):TJ P n (.region id l.toArray false) Q s L:=
 TJ.region ow (h _ fun _ _ h=>h)
def OX (P:Program) (n:Nat) (c:Code) (Q:Exit->St->Ts->Prop) (L:Ts):Exit->St->Prop
 |.normal,s=>TJ P n c Q s L
 |e,s=>Q e s L
variable {f:FuncId} {xs as_:List AV} {r:AV} {K:AV->List (List CV)->List bp->Ts->Prop}
theorem e9 (cr:fA s.A [] xs=some as_) (hc:ah P f as_ [] r [] []) (hK:K (r.ej [] s.V.length s.A.length) s.V (bC s.A (bq xs)) L):nh P s L f xs K:=.inl (aa cr hc hK)
theorem rA {R:AV->Ts->Prop} (DK:oD L xs as_) (hc:br P f as_ [] R) (hK:∀r L1,R r L1->K r s.V s.A (L1++L)):nh P s L f xs K:=.inr ⟨as_,[],L,R,by simp,DK,hc,hK⟩
theorem aV {R:AV->Ts->Prop} {L1 L2:Ts} (hp:L.Perm (L1++L2)) (DK:oD L2 xs as_) (hc:br P f as_ L1 R) (hK:∀r L1,R r L1->K r s.V s.A (L1++L2)):nh P s L f xs K:=.inr ⟨as_,L1,L2,R,hp,DK,hc,hK⟩
def CV.qB:CV->Bool
 |.d x=>x.qB
 |.np=>true
 |_=>false
def AV.GP:AV->Bool
 |.c x=>x.qB
 |.agg xs=>xs.all CV.qB
 |.bu _=>false
def AV.qB:AV->Bool
 |.bu xs=>xs.all AV.GP
 |x=>x.GP
theorem br.plain (hc:br P f as_ [] fun r' L'=>r'=r):ah P f as_ [] r [] []:=by
 refine⟨hc.1,Vp _,fun g w vs h2 hI hT hl hr=>?_⟩;have h1:g.ob=[]:=VC.1 (by simpa using hI.nD);refine(hc.2 g w vs [] h1 h2 hI hT hl hr rfl List.nodup_nil (by simp)).mono ?_;rintro e w' ⟨v,r',L',S',rfl,rfl,h3,_,_,_,h4,h5,h6,h7,h8⟩;have aC:∀b o,o<g.im b->b<w.heap.size:=fun b o h=>hI.Bs h
 refine⟨v,g,rfl,h3 g w' [],⟨hI.nD,hI.j7,fun l row b h=>by simp at h,fun k r v h=>by simp at h,hI.jx,hI.gF,hI.ic,fun b hb=>hI.fresh b (by omega)⟩,
  h4,h5,h6,h7,fun b hb _ _=>h8 b hb (by simp),fun _ _ _=>rfl,⟨[],by simp,by simp⟩,fun k v b h=>by rw[h2]at h;simp at h,fun k v h=>by rw[h2]at h;simp at h,hT⟩
end
def dO (k:Option (Nat×Nat×Value)):CV->Option CV
 |.d x=>if x.qB=true then some (.d x)else none
 |.np=>some .np
 |.nil=>some (.d (.raw (.slice none 0 0)))
 |.own j m=>match k with
  |some (i,m',v)=>if j=i/\m=m' then some (.d (.raw v))else none
  |none=>none
 |_=>none
def ed (k:Option (Nat×Nat×Value)):List CV->Option (List CV)
 |[]=>some []
 |c::r=>match dO k c,ed k r with
  |some d,some ds=>some (d::ds)
  |_,_=>none
def ec (k:Option (Nat×Nat×Value)):AV->Option AV
 |.c x=>(dO k x).map AV.c
 |.agg xs=>(ed k xs).map AV.agg
 |.bu _=>none
def cl (k:Option (Nat×Nat×Value)):List AV->Option (List AV)
 |[]=>some []
 |c::r=>match ec k c,cl k r with
  |some d,some ds=>some (d::ds)
  |_,_=>none
section
variable {g g':Gh} {w w':World} {A A':List bp} {k:Option (Nat×Nat×Value)}
def DO (g:Gh) (A:List bp) (k:Option (Nat×Nat×Value)):Prop:=∀i m v,k=some (i,m,v)->v.oneCell'=true/\∃r,A[i]? =some r/\m=r.rows.length/\g.ar[i]? =some v
theorem tO (hk:DO g A k) {c d:CV} {u:Value} (h:dO k c=some d) (hr:bj g w A c u):bj g' w' A' d u:=by
 cases c with
 |d x=>
  simp only[dO]at h;split at h
  ·rename_i hs;simp at h;subst h;exact DV.pF hs hr
  ·cases h
 |np=>simp only[dO,Option.some.injEq]at h;subst h;exact hr
 |nil=>
  simp only[dO,Option.some.injEq]at h;subst h;simp only[bj]at hr;subst hr;exact⟨rfl,rfl⟩
 |own j m=>
  simp only[dO]at h;split at h
  ·rename_i i m' v;split at h
   ·rename_i e;obtain⟨rfl,rfl⟩:=e;simp at h;subst h;obtain⟨h1,r,h2,h3,h4⟩:=hk _ _ _ rfl;obtain⟨a,cap,_,r',h5,_,h6⟩:=hr;rw[h2]at h5;cases h5;have h7:=h6 h3;rw[h4]at h7;cases h7
    exact⟨rfl,h1⟩
   ·cases h
  ·cases h
 |_=>simp[dO]at h
theorem AU:∀{cs ds:List CV},ed k cs=some ds->ds.length=cs.length/\∀(j:Nat) c d,cs[j]? =some c->ds[j]? =some d->dO k c=some d
 |[],ds,h=>by simp[ed]at h;subst h;exact⟨rfl,fun j c d h=>by simp at h⟩
 |c::r,ds,h=>by
  simp only[ed]at h;split at h
  ·rename_i d ds' h1 h2;simp at h;subst h;obtain⟨h3,h4⟩:=AU h2;refine⟨by simp[h3],fun j c' d' h5 h6=>?_⟩;cases j with
   |zero=>simp at h5 h6;subst h5;subst h6;exact h1
   |succ j=>simp at h5 h6;exact h4 j c' d' h5 h6
  ·simp at h
theorem yt:∀{cs ds:List AV},cl k cs=some ds->ds.length=cs.length/\∀(j:Nat) c d,cs[j]? =some c->ds[j]? =some d->ec k c=some d
 |[],ds,h=>by simp[cl]at h;subst h;exact⟨rfl,fun j c d h=>by simp at h⟩
 |c::r,ds,h=>by
  simp only[cl]at h;split at h
  ·rename_i d ds' h1 h2;simp at h;subst h;obtain⟨h3,h4⟩:=yt h2;refine⟨by simp[h3],fun j c' d' h5 h6=>?_⟩;cases j with
   |zero=>simp at h5 h6;subst h5;subst h6;exact h1
   |succ j=>simp at h5 h6;exact h4 j c' d' h5 h6
  ·simp at h
theorem zP (hk:DO g A k) {c d:AV} {u:Value} (h:ec k c=some d) (hr:aU g w A c u):c7 g' w' A' d u:=by
 cases c with
 |c x=>
  simp only[ec,VQ]at h;obtain⟨y,h1,rfl⟩:=h;exact tO (w:=w) hk h1 hr
 |agg xs=>
  simp only[ec,VQ]at h;obtain⟨ys,h1,rfl⟩:=h;obtain⟨h2,h3⟩:=AU h1;obtain⟨vs,e,hl,hc⟩:=hr;refine⟨vs,e,by omega,fun i y u h4 h5=>?_⟩;have hi:i<xs.length:=by have:=(Vx.1 h4).1;omega
  exact tO (w:=w) hk (h3 i _ y (Vw hi) h4) (hc i _ u (Vw hi) h5)
 |bu _=>simp[ec]at h
theorem vJ (hk:DO g A k) {xs ys:List AV} {us:List Value} (h:cl k xs=some ys) (hl:us.length=xs.length) (hr:∀(i:Nat) x u,xs[i]? =some x->us[i]? =some u->aU g w A x u):
  B7 (one ys) (if h:us.toArray.size=1 then us.toArray[0]else .tuple us.toArray):=by
 obtain⟨h1,h2⟩:=yt h;have hE:∀(i:Nat) y u,ys[i]? =some y->us[i]? =some u->∀g w A,c7 g w A y u:=fun i y u h4 h5 g' w' A'=>by
  have hi:i<xs.length:=by have:=(Vx.1 h4).1;omega
  exact zP (w:=w) hk (h2 i _ y (Vw hi) h4) (hr i _ u (Vw hi) h5)
 have cN:∀y∈ys,∀zs,y≠.bu zs:=fun y hy zs e=>by
  subst e;obtain⟨i,hi⟩:=VJ hy;have Ay:i<us.length:=by have:=(Vx.1 hi).1;omega
  exact hE i _ us[i] hi (Vw Ay) g w A
 intro g' w' A'
 match ys,us with
 |[y],[u]=>
  have:=hE 0 y u rfl rfl g' w' A';simp only[one,List.size_toArray,Vz,List.length_nil,Nat.zero_add,dite_true,List.getElem_toArray,List.getElem_cons_zero];cases y with
  |bu zs=>exact absurd rfl (cN _ (by simp) zs)
  |c x=>exact this
  |agg x=>exact this
 |[],us=>
  have:us=[]:=VC.1 (by simp at h1;omega);subst this;exact⟨[],rfl,rfl,fun i x u h=>by simp at h⟩
 |y::z::r,us=>
  have fw:¬us.toArray.size=1:=by simp at h1⊢;omega
  rw[dif_neg fw];exact⟨us,rfl,by omega,fun i x u h3 h4=>hE i x u h3 h4 g' w' A'⟩
 |[y],[]=>simp at h1 hl;omega
 |[y],_::_::_=>simp at h1 hl;omega
end
def yu (L:Ts):Prop:=∀p∈L,∃e sz,p=(.t e sz 0 [],.slice none 0 0)
theorem yu.oR {w:World}:∀{L:Ts},yu L->gg w L []
 |[],_=>rfl
 |p::L,h=>by
  obtain⟨e,sz,rfl⟩:=h p (by simp);refine⟨[],[],rfl,?_,yu.oR fun q hq=>h q (by simp[hq])⟩;simp only[Tr];exact⟨[],[],⟨by simp,.inl ⟨rfl,rfl⟩⟩,by simp[jM],rfl⟩
theorem yu.nil:yu []:=fun p hp=>by cases hp
def bK (P:Program) (fn:Func) (R:AV->Ts->Prop) (e:Exit) (s:St) (L:Ts):Prop:=
 (e=.normal\/e=.ret)/\∃xs,eD P s fn.results.toList=some xs/\
  ((∃ys L' M Ln,cl none xs=some ys/\yu Ln/\(L++Ln).Perm (L'++M)/\R (one ys) L')\/
  (∃k r cs Lc L2 Ln,s.A[k]? =some r/\r.wr=true/\Mk cs r.rows.flatten Lc/\L.Perm (Lc++L2)/\yu Ln/\
    ∀v,∃ys L' M,cl (some (k,r.rows.length,v)) xs=some ys/\((.t r.eO r.sz r.rows.length cs,v)::L2++Ln).Perm (L'++M)/\R (one ys) L'))
section
variable {P:Program} {f:FuncId} {fn:Func} {c:Code} {as_:List AV} {L:Ts} {R:AV->Ts->Prop}
theorem yv {w:World} {e:TypeId} {sz n:Nat} {v:Value} {xs:List Value} (h:w.ownsRow 0 e sz v n xs):v.oneCell'=true:=by
 rcases h.2 with⟨rfl,_⟩|⟨g,cap,cur,rfl,_⟩<;>rfl
set_option maxHeartbeats 1000000 in
theorem br.bW (hf:P.funcs[f]? =some fn) (il:(fn.name== "runtime.NumGoroutine")=false) (hb:fn.body=some c) (eC:codeOk fn.ntmps c=true) (hn:as_.length<=fn.ntmps)
  (h:TJ P fn.ntmps c (bK P fn R) ⟨iJ as_,[],[]⟩ L):br P f as_ L R:=by
 refine⟨enters hf il hb,fun g w vs S Gm IS hI hT hl hr hS pY hz=>calls_of_wp hf hb ?_⟩;have hR:rz fn.ntmps w g S ⟨iJ as_,[],[]⟩ L S g {tmps:=vs++Array.replicate (fn.ntmps-vs.size) undef,defers:=[]} w:=by
  refine⟨hI,u9.refl hT fun b hb=>(hz b hb).2,by simp;omega,rfl,fun t x hx=>?_,hS,pY,fun b hb=>⟨(hz b hb).1,by simp[Gm],by simp[Gh.gC,IS],(hz b hb).2,.inr hb⟩⟩;obtain⟨_,hx⟩:=om as_ 0 t x hx;rw[Nat.sub_zero]at hx;have ht:t<vs.size:=by have:=(Vx.1 hx).1;omega
  exact⟨vs[t],by rw[Array.getElem?_append_left ht];simp[ht],hr t x _ hx (by simp[ht])⟩
 refine Go.wp_mono (h eC w g S S g _ w hR) ?_;rintro e a' w' ⟨s',g',L',S',⟨hex,xs,Jx,hd⟩,sh⟩;obtain⟨us,xE,IK,eB⟩:=oh sh.inv sh.slot Jx;have s7:(results fn a'.tmps).run P w'=.ok (if h:us.toArray.size=1 then us.toArray[0]else .tuple us.toArray) w':=by
  rw[s6,Sem.run_bind,Array.mapM_eq_mapM_toList];have hm:(List.toArray<$>fn.results.toList.mapM (mg a'.tmps)).run P w'=.ok us.toArray w':=by
   simp[eB]
  rw[hm]
  rfl
 have hF:=sh.fr
 have B9:∀(r:AV) (L'':Ts) (S'':List Nat),R r L''->B7 r (if h:us.toArray.size=1 then us.toArray[0]else .tuple us.toArray)->gg w' L'' S''->S''.Nodup->(∀b∈S'',b∈S\/w.heap.size<=b)->
   a'.defers=[]/\∃v,(results fn a'.tmps).run P w'=.ok v w'/\∃v1 r L' S',Ending.returned v=.returned v1/\R r L'/\B7 r v1/\gg w' L' S'/\S'.Nodup/\(∀b∈S',b∈S\/w.heap.size<=b)/\
    w'.os=w.os/\w'.tape=w.tape/\w'.output=w.output/\w.heap.size<=w'.heap.size/\∀b,b<w.heap.size->b∉S->w'.heap[b]? =w.heap[b]? :=
  fun r L'' S'' h1 h2 h3 h4 h5=>⟨sh.defers,_,s7,_,r,L'',S'',rfl,h1,h2,h3,h4,h5,hF.os,hF.tape,hF.output,hF.size,fun b hb OW=>hF.oO b hb (by simp[Gm]) (by simp[Gh.gC,IS]) OW⟩
 have Ki:∀b∈S',b∈S\/w.heap.size<=b:=fun b hb=>by rcases(sh.out b hb).2.2.2.2 with q|q;exact .inr q;exact .inl q
 have Dk:a'.defers=[]/\∃v,(results fn a'.tmps).run P w'=.ok v w'/\∃v1 r L' S',Ending.returned v=.returned v1/\R r L'/\B7 r v1/\gg w' L' S'/\S'.Nodup/\(∀b∈S',b∈S\/w.heap.size<=b)/\
    w'.os=w.os/\w'.tape=w.tape/\w'.output=w.output/\w.heap.size<=w'.heap.size/\∀b,b<w.heap.size->b∉S->w'.heap[b]? =w.heap[b]? :=by
  rcases hd with⟨ys,L1,M,Ln,h1,h2,h3,h4⟩|⟨k,r,cs,Lc,L2,Ln,hk,hw,QC,hp,ql,hv⟩
  ·have I2:gg w' (L'++Ln) (S'++[]):=gg.app.2 ⟨S',[],rfl,sh.oR,h2.oR⟩;rw[VL]at I2;obtain⟨S1,h5,h6⟩:=I2.perm h3;obtain⟨S2,S3,rfl,h7,_⟩:=gg.app.1 h6;refine B9 (one ys) L1 S2 h4 (vJ (g:=g') (A:=s'.A) (w:=w') (k:=none) (fun i m v e=>by cases e) h1 xE IK) h7 (Vv.1 (h5.nodup_iff.1 sh.nd)).1 fun b hb=>Ki b (h5.mem_iff.2 (by simp[hb]))
  ·obtain⟨v,rm⟩:∃v,g'.ar[k]? =some v:=by
    have:k<g'.ar.length:=by rw[sh.inv.j7];exact(Vx.1 hk).1
    exact⟨_,Vw this⟩
   obtain⟨hlen,rL,cells,dM,kS⟩:=sh.inv.arr k r v hk rm;obtain⟨ys,L1,M,h1,h3,h4⟩:=hv v;obtain⟨S0,h5,h6⟩:=sh.oR.perm hp;obtain⟨Sc,S2,rfl,h7,h8⟩:=gg.app.1 h6;have r9:cells.length=r.rows.flatten.length:=by
    have hx:∀(rows:List (List DV)),(∀row∈rows,row.length=r.sz)->rows.flatten.length=rows.length*r.sz:=by
     intro rows;induction rows with
     |nil=>simp
     |cons x xs ih=>intro hx;rw[List.flatten_cons,List.length_append,hx x (by simp),ih (fun y hy=>hx y (by simp[hy])),Vz,Vt];omega
    rw[dM.1,hx r.rows hlen]
   have QD:=QC.QA r9 kS h7;have nG:Tr w' (.t r.eO r.sz r.rows.length cs) v (v.ownBlock.toList++Sc):=by
    simp only[Tr];exact⟨cells,Sc,dM,QD,rfl⟩
   have I2:gg w' ((.t r.eO r.sz r.rows.length cs,v)::L2++Ln) ((v.ownBlock.toList++Sc)++S2):=by
    refine⟨_,S2++[],by simp,nG,gg.app.2 ⟨S2,[],rfl,h8,ql.oR⟩⟩
   obtain⟨S1,h9,bZ⟩:=I2.perm h3;obtain⟨S4,S5,rfl,dC,_⟩:=gg.app.1 bZ;have zO:(Sc++S2).Nodup:=h5.nodup_iff.1 sh.nd;have EY:∀b,v.ownBlock=some b->b∉Sc++S2/\(b∈S\/w.heap.size<=b):=fun b hb=>by
    refine⟨fun hm=>(sh.out b (h5.mem_iff.2 hm)).2.2.1 (Gh.jB rm hb),?_⟩;rcases hF.ar k v b rm hb with q|q|q
    ·exact .inr q
    ·simp[Gh.gC,IS]at q
    ·exact .inl q
   have HR:((v.ownBlock.toList++Sc)++S2).Nodup:=by
    rw[Vy];cases Fc:v.ownBlock with
    |none=>simpa using zO
    |some b=>simpa using⟨by simpa using(EY b Fc).1,by simpa using zO⟩
   refine B9 (one ys) L1 S4 h4 (vJ (g:=g') (A:=s'.A) (w:=w') (k:=some (k,r.rows.length,v)) (fun i m v' e=>by cases e;exact⟨yv dM,r,hk,rfl,rm⟩) h1 xE IK) dC (Vv.1 (h9.nodup_iff.1 HR)).1 fun b hb=>?_
   have hm:b∈(v.ownBlock.toList++Sc)++S2:=h9.mem_iff.2 (by simp[hb]);rw[Vy]at hm;rcases Vu.1 hm with q|q
   ·exact(EY b (by simpa using q)).2
   ·exact Ki b (h5.mem_iff.2 q)
 rcases hex with rfl|rfl<;>exact Dk
theorem br.ob {N:Nat} (hf:P.funcs[f]? =some fn) (hN:fn.ntmps=N) (hb:fn.body=some c) (h:TJ P N c (bK P fn R) ⟨iJ as_,[],[]⟩ L) (il:(fn.name== "runtime.NumGoroutine")=false:=by kernel_rfl) (eC:codeOk N c=true:=by kernel_rfl) (hn:as_.length<=N:=by simp):br P f as_ L R:=by
 subst hN;exact br.bW hf il hb eC hn h
def OY (P:Program) (fn:Func) (eO:TypeId) (sz n:Nat) (R:AV->List GC->Prop) (e:Exit) (s:St) (L:Ts):Prop:=
 (e=.normal\/e=.ret)/\∃xs ys rows cs Lc M,eD P s fn.results.toList=some xs/\cl none xs=some ys/\s.A[0]? =some ⟨sz,eO,rows,true⟩/\rows.length=n/\Mk cs rows.flatten Lc/\L.Perm (Lc++M)/\R (one ys) cs
end
theorem sC.DP {L:Ts} {c:GC} {v:Value} {x:DV} (h:(c,v)∈L) (e:c.dv=x/\c.pl=true):sC L (.d (.raw v)) (.d x):=e.1▸sC.Kd h e.2
mutual
def yw (e:TypeId):aH->List GC
 |.mk k l=>[.d (.i k),.t e 2 l.length (gu e l)]
def gu (e:TypeId):List aH->List GC
 |[]=>[]
 |t::r=>yw e t++gu e r
end
def sD (e:TypeId) (l:List aH):GC:=.t e 2 l.length (gu e l)
theorem vK (e:TypeId) (t:aH):yw e t=[.d (.i t.kind),sD e t.kids]:=by cases t;simp[yw,sD]
theorem oE:∀(l m:List GC),u7 (l++m)=u7 l++u7 m
 |[],_=>rfl
 |x::l,m=>by simp[u7,oE l m]
theorem rC {α:Type} {sz:Nat} (n:Nat) {r l:List α} (h:r.length=sz):chunks sz (n+1) (r++l)=r::chunks sz n l:=by
 simp only[chunks];rw[List.take_left' h,List.drop_left' h]
mutual
theorem DQ (e:TypeId):∀(t:aH),u7 (yw e t)=cD t
 |.mk k l=>by
  have:=qC e l;rw[vK,aX];simp only[u7,GC.dv,sD,aH.bT,aH.bU,this]
theorem qC (e:TypeId):∀(l:List aH),chunks 2 l.length (u7 (gu e l))=l.map cD
 |[]=>rfl
 |t::r=>by
  have h1:=DQ e t;have h2:=qC e r;rw[gu,oE,h1,Vz,rC _ (by rw[aX];rfl),h2,VH]
end
theorem DR (e:TypeId) (l:List aH):(sD e l).dv=.sl (l.map cD):=by
 simp only[sD,GC.dv,qC]
theorem oF:∀(l m:List GC),yq (l++m)=(yq l && yq m)
 |[],_=>by simp[yq]
 |x::l,m=>by simp[yq,oF l m,Bool.and_assoc]
mutual
theorem DT (e:TypeId):∀(t:aH),yq (yw e t)=true
 |.mk k l=>by
  have:=qD e l;rw[vK];simp only[yq,GC.pl,sD,aH.bU,this,VP]
theorem qD (e:TypeId):∀(l:List aH),yq (gu e l)=true
 |[]=>rfl
 |t::r=>by rw[gu,oF,DT e t,qD e r];rfl
end
theorem DU (e:TypeId) (l:List aH):(sD e l).dv=.sl (l.map cD)/\(sD e l).pl=true:=⟨DR e l,by simp only[sD,GC.pl,qD]⟩
abbrev RQ (t:aH) (v:Value):List DV:=[.i t.kind,.raw v]
def OZ {α β:Type} (f:α->β->List DV) (z:List DV) (l:List α) (vs:List β):List (List DV):=VE f l vs++VF (l.length-vs.length) z
section
variable {α β:Type} {f:α->β->List DV} {z:List DV} {l:List α} {vs:List β}
end
attribute [simp] bO dO ed ec cl
section
variable {P:Program} {fn:Func} {R:AV->Ts->Prop} {e:Exit} {s:St} {L L' M Lc:Ts} {r r':AV}
theorem bK.bu (he:e=.normal\/e=.ret) {rs rs':List AV} (hr:eD P s fn.results.toList=some rs) (hs:cl none rs=some rs') (hp:L.Perm (L'++M)) (hR:R (one rs') L'):bK P fn R e s L:=
 ⟨he,rs,hr,.inl ⟨rs',L',M,[],hs,.nil,by simpa using hp,hR⟩⟩
end
section
variable {P:Program} {n:Nat} {Q:Exit->St->Ts->Prop} {s s':St} {L L':Ts} {c:Code}
theorem TJ.conv (h:∀(g:Gh) (a:Act) (w:World),Rp n w g s g a w->∃g',Rp n w g s' g' a w) (h2:TJ P n c Q s' L):TJ P n c Q s L:=by
 intro eC w0 g0 X S g a w hR;obtain⟨g',sh⟩:=h g a w hR.rp;exact h2 eC w0 g0 X S g' a w (hR.back sh)
theorem TJ.zt (t:Nat) (sz:Nat) (e:TypeId) (ht:look s.fr t=some (.c .nil)) (h:TJ P n c Q ⟨(t,.c (.own s.A.length 0))::s.fr,s.V,s.A++[⟨sz,e,[],true⟩]⟩ L):TJ P n c Q s L:=by
 refine TJ.conv (fun g a w hR=>?_) h
 obtain⟨g1,Gl,qa,rN,eK,cJ,ju⟩:=hR.inv.p9 hR.fr {sz:=sz,eO:=e,rows:=[],wr:=true} (.slice none 0 0) [] (by simp) (World.ownsRow_nil w 0 e sz) (fun j x u h=>by simp at h) (fun b h=>by simp[Value.ownBlock]at h);refine⟨g1,eK,ju,hR.size,hR.defers,fun t' x hx=>?_⟩;simp only[look]at hx;by_cases e':t'=t
 ·subst e';simp at hx;subst hx;obtain⟨u,h1,h2⟩:=hR.slot t' _ ht;refine⟨u,h1,?_⟩;simp only[aU,c7,bj]at h2;subst h2;exact⟨none,0,rfl,_,by simp;rfl,Vs _,fun _=>by rw[rN,VD (by rw[hR.inv.j7];exact Vp _),hR.inv.j7];simp⟩
 ·rw[if_neg e']at hx;obtain⟨u,h1,h2⟩:=hR.slot t' x hx;exact⟨u,h1,aU.ext cJ h2⟩
theorem TJ.dq {α:Type} (ks:List Nat) (ph:α->List (Nat×AV)) (ob:α->List (Nat×List CV)) (G:α->List (List CV)) (ar:α->List bp->List bp) (tr:α->Ts) (m:α->Nat) (H:α->Prop) {fr0:List (Nat×AV)} (hk:eU ks s.fr=fr0)
  (h:∀a,H a->TJ P n c (zM (fun a=>⟨ph a++fr0,fP (ob a) s.V++G a,ar a s.A⟩) tr m H (m a) Q) ⟨ph a++fr0,fP (ob a) s.V++G a,ar a s.A⟩ (tr a)) (a:α) (ha:H a) (hV:fP (ob a) s.V++G a=s.V) (hA:ar a s.A=s.A) (hp:iu (ph a) s.fr) {M:Ts} (hL:L.Perm (tr a++M)):TJ P n (.loop c) Q s L:=by
 subst hk;exact TJ.gq (fun a=>⟨ph a++eU ks s.fr,fP (ob a) s.V++G a,ar a s.A⟩) tr m H h a ha ⟨hV,hA,hp.app (qw ks s.fr)⟩ hL
end
end Go.Av
namespace Go.Av
open Go
def Nl (o:Oper):Oper:={o with dst:=none,op:=.assign (.const (.bool true)),guard:=none}
def O0 (l:List Oper):List Oper:=match l.getLast? with
 |some o=>l.dropLast++[Nl o]
 |none=>[]
def Nn (l:List Oper):Bool:=match l.getLast? with
 |some o=>o.guard.isNone &&(l.zipIdx.all fun(x,j)=>x.after.all fun e=> !Region.binds .any e||decide (e.on<j))&&(l.dropLast.all fun x=>match x.guard with|some (q,_)=>decide (q<l.length-1)|none=>true)
   &&((VB (l.length-1)).all fun k=>((bD l []).getD (l.length-1) 0).testBit k)
 |none=>false
section
variable {P:Program}
def No (l:List Oper):List Oper:=match l.getLast? with
 |some o=>[o]
 |none=>[]
end
section
variable {P:Program} {n:Nat} {w0 w w':World} {g0 g g':Gh} {X S S':List Nat} {s s':St} {L L':Ts} {a a':Act} {x y:Code} {all:Array Oper} {ws:List Nat}
def sE (P:Program) (L:Ts) (f:FuncId) (xs:List AV) (K:AV->Ts->Prop):Prop:=∃(as_:List AV) (L1 L2:Ts) (R:AV->Ts->Prop),L.Perm (L1++L2)/\oD L2 xs as_/\br P f as_ L1 R/\∀r L1',R r L1'->K r (L1'++L2)
def cj (P:Program) (s:St) (L:Ts) (o:Oper) (K:AV->Ts->Prop):Prop:=
 match o.op with
 |.call {callee:=.value f,args,.. }=>bE (bA s f) fun fv=>match fv with
  |.c (.fn fid [])=>bE (fz s args.toList) fun xs=>sE P L fid xs K
  |_=>False
 |_=>False
theorem yx {cS:List (Nat×AV)} {V:List (List CV)} {A:List bp} {ow:Bool} {o:Oper} {K:AV->Ts->Prop} (he:∀x∈o.op.operands.toList,bA ⟨cS,V,A⟩ x=bA s x) (h:cj P s L o K):bO P ⟨cS,V,A⟩ L ow o fun x V' A' L'=>V'=V/\A'=A/\K x L':=by
 unfold cj at h;unfold bO;split at h
 ·rename_i f args uB heq;simp only[heq]at he⊢;have e1:bA ⟨cS,V,A⟩ f=bA s f:=he f (by simp[Op.operands,Call.operands]);have e2:fz ⟨cS,V,A⟩ args.toList=fz s args.toList:=jE fun p hp=>he p (by simp[Op.operands,Call.operands];exact .inr (by simpa using hp))
  rw[e1];refine o9 (fun fv h1=>?_) h;split at h1
  ·simp only[e2,List.map_nil,VL];refine o9 (fun xs h2=>?_) h1;obtain⟨as_,L1,L2,R,h2,h3,h4,h5⟩:=h2;exact .inr ⟨as_,L1,L2,R,h2,h3,h4,fun r L1' hr=>⟨rfl,rfl,h5 r L1' hr⟩⟩
  ·exact h1.elim
 ·exact h.elim
def DW (P:Program) (ow:Nat->Bool) (ws cs:List Nat) (K:St->Ts->Prop):Nat->List Oper->St->Ts->Prop
 |_,[],s,L=>K s L
 |i,o::rest,s,L=>(i∈cs/\cj P s L o fun x L'=>DW P ow ws cs K (i+1) rest (s.put o.dst x s.V s.A) L')\/
   (i∉cs/\bJ P s (ow i) o fun x V A=>(i∈ws\/(V=s.V/\A=s.A))/\DW P ow ws cs K (i+1) rest (s.put o.dst x V A) L)
def Np (P:Program) (ow:Bool) (o:Oper) (s s':St):Prop:=∃x V A,s'=s.put o.dst x V A/\∀K:AV->List (List CV)->List bp->Prop,K x V A->bJ P s ow o K
def Kj (ws:List Nat) (j:Nat) (o:Oper) (s s':St):Prop:=∃x V A,s'=s.put o.dst x V A/\(j∈ws\/(V=s.V/\A=s.A))
structure FD (all:Array Oper) (ws:List Nat) (σ:Nat->St) (c:Nat):Prop where
 le:c<=all.size
 tr:∀(j:Nat) o,j<c->all[j]? =some o->Kj ws j o (σ j) (σ (j+1))
section
variable {σ:Nat->St} {c:Nat} (hT:FD all ws σ c) (wz:∀(i j:Nat) oi oj d,all[i]? =some oi->all[j]? =some oj->oi.dst=some d->oj.dst=some d->i=j)
include hT
theorem FD.step {j:Nat} {o:Oper} {t:Nat} (hj:j<c) (h1:all[j]? =some o) (h2:o.dst≠some t):look (σ (j+1)).fr t=look (σ j).fr t:=by
 obtain⟨x,V,A,h3,_⟩:=hT.tr j o hj h1;rw[h3];simp only[St.put];cases uJ:o.dst with
 |none=>rfl
 |some d=>simp only[look];rw[if_neg (fun e=>h2 (by rw[uJ,e]))]
theorem FD.O5:∀(j t:Nat),j<=c->(∀(i:Nat) o,i<j->all[i]? =some o->o.dst≠some t)->look (σ j).fr t=look (σ 0).fr t:=by
 have hc:=hT.le;intro j;induction j with
 |zero=>intro t _ _;rfl
 |succ j ih=>
  intro t hj fx;have ho:all[j]? =some all[j]:=VN (by omega);rw[hT.step (by omega) ho (fx j _ (by omega) ho)];exact ih t (by omega) (fun i o hi=>fx i o (by omega))
theorem FD.VA:∀(b a:Nat),a<=b->b<=c->(∀i,a<=i->i<b->i∉ws)->(σ b).V=(σ a).V/\(σ b).A=(σ a).A:=by
 have hc:=hT.le;intro b;induction b with
 |zero=>
  intro a h _ _;obtain rfl:a=0:=by omega
  exact⟨rfl,rfl⟩
 |succ b ih=>
  intro a MN hb fx;by_cases e:a=b+1
  ·subst e;exact⟨rfl,rfl⟩
  ·have ho:all[b]? =some all[b]:=VN (by omega);obtain⟨h1,h2⟩:=ih a (by omega) (by omega) (fun i hi Ay=>fx i hi (by omega));obtain⟨x,V,A,h3,h4⟩:=hT.tr b _ (by omega) ho;rcases h4 with h4|⟨h4,h5⟩
   ·exact absurd h4 (fx b (by omega) (by omega))
   ·rw[h3];exact⟨h4.trans h1,h5.trans h2⟩
include wz
theorem FD.O6:∀(j i:Nat) oi t,j<=c->i<j->all[i]? =some oi->oi.dst=some t->look (σ j).fr t=look (σ (i+1)).fr t:=by
 have hc:=hT.le;intro j;induction j with
 |zero=>intro i oi t _ h;omega
 |succ j ih=>
  intro i oi t hj nS bG c8;by_cases e:i=j
  ·subst e;rfl
  ·have ho:all[j]? =some all[j]:=VN (by omega);rw[hT.step (by omega) ho (fun h=>e (wz i j oi _ t bG ho c8 h))];exact ih i oi t (by omega) (by omega) bG c8
end
structure Jb (w0:World) (g0:Gh) (X:List Nat) (L:Ts) (S:List Nat) (g:Gh) (w:World):Prop where
 fr:u9 w0 g0 X w g
 oR:gg w L S
 nd:S.Nodup
 out:∀b∈S,g.im b=0/\b∉g.ob/\b∉g.gC/\¬lX b/\(w0.heap.size<=b\/b∈X)
theorem Jb.cS (h:Jb w0 g0 X L S g w) (k:Fr w g w' g'):Jb w0 g0 X L S g' w':=by
 have aC:=h.oR.lt;refine⟨h.fr.fr k,h.oR.di fun b hb=>k.oO b (aC b hb) (h.out b hb).2.1 (h.out b hb).2.2.1,h.nd,fun b hb=>?_⟩;obtain⟨h1,h2,h3,h4,h5⟩:=h.out b hb;have rX:=aC b hb;refine⟨(k.gG b rX h3).trans h1,fun hm=>?_,fun hm=>?_,h4,h5⟩
 ·obtain⟨new,e,hn⟩:=k.ob;rw[e]at hm;rcases Vu.1 hm with q|q
  ·exact h2 q
  ·exact absurd (hn b q) (by omega)
 ·obtain⟨i,v,q1,q2⟩:=Gh.eG hm;rcases k.ar i v b q1 q2 with q|q
  ·omega
  ·exact h3 q
theorem Ca (hd:fi all ws=true) {σ:Nat->St} (hT:FD all ws σ all.size) {ai:Array Bool} {k0:Nat} (hD:DS all ws σ n w g ai k0 g a w) (dc:∀i,i<all.size->ai[i]? =some true) (hJ:Jb w0 g0 X L S g w):rz n w0 g0 X (σ all.size) L S g a w:=by
 simp only[fi,VO,List.all_eq_true]at hd;obtain⟨⟨ij,jR⟩,sj⟩:=hd;have eE:∀(j:Nat) o,all[j]? =some o->(o,j)∈all.toList.zipIdx:=fun j o h=>by
  rw[List.mem_iff_getElem?];exact⟨j,by simp[List.getElem?_zipIdx,h]⟩
 have dQ:∀(j:Nat) o,all[j]? =some o->∀e∈o.after,Region.binds .any e=true->e.on<j:=fun j o h e he hb=>by
  have:=ij _ (eE j o h) e (Array.mem_toList_iff.2 he);simpa[hb]using this
 have cH:∀(i j:Nat) oi oj,all[i]? =some oi->all[j]? =some oj->i<j->bM all ws (bD all.toList []) oi oj i j=true:=fun i j oi oj h1 h2 aC=>by
  have:=jR _ (eE j oj h2) _ (eE i oi h1);simpa[aC]using this
 have y3:∀(j:Nat) o,all[j]? =some o->j∈ws->cG o.op=false:=fun j o h hj=>by
  have:=sj _ (eE j o h);simpa[hj]using this
 have ko:∀(i j:Nat) oi oj d,all[i]? =some oi->all[j]? =some oj->i<j->oi.dst=some d->oj.dst≠some d:=fun i j oi oj d h1 h2 aC h3 h4=>by
  have:=cH i j oi oj h1 h2 aC;simp[bM,h3,h4]at this
 have wz:∀(i j:Nat) oi oj d,all[i]? =some oi->all[j]? =some oj->oi.dst=some d->oj.dst=some d->i=j:=fun i j oi oj d h1 h2 h3 h4=>by
  rcases Nat.lt_trichotomy i j with h|h|h
  ·exact absurd h4 (ko i j oi oj d h1 h2 h h3)
  ·exact h
  ·exact absurd h3 (ko j i oj oi d h2 h1 h h4)
 have mS:=hT.VA all.size k0 hD.pZ (Vp _) (fun i h1 h2 h3=>by have:=(hD.fe i h3 h2).1 (dc i h2);omega);refine⟨by rw[mS.1,mS.2];exact hD.inv,hJ.fr,hD.size,hD.defers,fun t x hx=>?_,hJ.oR,hJ.nd,hJ.out⟩;rw[mS.2];by_cases hex:∃(i:Nat) (o:Oper),all[i]? =some o/\o.dst=some t
 ·obtain⟨i,o,ho,c8⟩:=hex;have hi:=(VM.1 ho).1;rw[hT.O6 wz all.size i o t (Vp _) hi ho c8]at hx;exact hD.iq i o t x ho (dc i hi) c8 hx
 ·rw[hT.O5 all.size t (Vp _) (fun i o _ ho c8=>hex ⟨i,o,ho,c8⟩)]at hx;exact hD.ir t x (fun i o ho _ c8=>hex ⟨i,o,ho,c8⟩) hx
def LD (all:Array Oper) (ws cs:List Nat):Bool:=
 let l:=all.toList.zipIdx
 let ms:=bD all.toList []
 (cs.all fun c=> !ws.contains c && l.all fun(_,j)=> !(decide (c<j))||(ms.getD j 0).testBit c)&&(l.all fun(o,_)=>o.guard.isNone)&&(l.all fun(o,j)=> !cs.contains j|| !cG o.op)
end
def FE (l:List Oper) (p:List Nat):List Oper:=p.map fun i=>l.getD i default
def HS (p:List Nat) (o:Oper):Oper:={o with after:=o.after.map fun e=>{e with on:=p.idxOf e.on}}
def LF (l:List Oper) (p:List Nat):List Oper:=(FE l p).map (HS p)
def Nq (l:List Oper) (p:List Nat):Bool:=p.length==l.length && p.all (fun i=>decide (i<l.length))&&(VB l.length).all (fun i=>p.contains i)&& l.all (fun o=>o.guard.isNone)&&(VB p.length).all (fun j=>p.idxOf (p.getD j 0)==j)
section
variable {P:Program} {l:List Oper} {p:List Nat} {md:Region.Mode} {Q:Exit->Act->World->Prop}
end
section
variable {P:Program} {n:Nat} {s s':St} {L L':Ts} {x y:Code} {ws cs:List Nat} {ow:Nat->Bool} {K:St->Ts->Prop}
structure Kk (P:Program) (ow:Nat->Bool) (ws cs:List Nat) (K:St->Ts->Prop) (i:Nat) (ops:List Oper) (s:St) (L:Ts):Prop where
 mk::
 run:DW P ow ws cs K i ops s L
variable {i:Nat} {o:Oper} {rest:List Oper}
@[congr] theorem HT {i i':Nat} {ops:List Oper} (hi:i=i') (h:s=s'):Kk P ow ws cs K i ops s L=Kk P ow ws cs K i' ops s' L:=by rw[h,hi]
@[congr] theorem FF {f:FuncId} {xs xs':List AV} {K:AV->Ts->Prop} (hx:xs=xs'):sE P L f xs K=sE P L f xs' K:=by subst hx;rfl
attribute [simp] cj
variable {f:FuncId} {xs as_:List AV} {r:AV} {K':AV->Ts->Prop}
theorem cz {R:AV->Ts->Prop} {L1 L2:Ts} (hp:L.Perm (L1++L2)) (DK:oD L2 xs as_) (hc:br P f as_ L1 R) (hK:∀r L1,R r L1->K' r (L1++L2)):sE P L f xs K':=⟨as_,L1,L2,R,hp,DK,hc,hK⟩
end
end Go.Av
namespace Go.Av
attribute [-simp] Go.Av.cj
open Go
section
variable {P:Program} {f:FuncId} {as_:List AV} {L:Ts} {R R':AV->Ts->Prop}
end
end Go.Av
namespace Go.Av
attribute [-simp] Go.Av.bO Go.Av.dO Go.Av.ed Go.Av.ec Go.Av.cl Go.Av.cj
open Go
mutual
def yy (et em:TypeId):an->List GC
 |.mk k s n t f b l=>[.d (.i k),.d (.str s),.d (.i n),.d (.i t.kind),sD et t.kids,.d (.i f.kind),sD et f.kids,.d (.i b),.t em 9 l.length (jm et em l)]
def jm (et em:TypeId):List an->List GC
 |[]=>[]
 |t::r=>yy et em t++jm et em r
end
def AW (et em:TypeId) (l:List an):GC:=.t em 9 l.length (jm et em l)
theorem vL (et em:TypeId) (e:an):yy et em e=[.d (.i e.kind),.d (.str e.name),.d (.i e.num),.d (.i e.ty.kind),sD et e.ty.kids,.d (.i e.fr.kind),sD et e.fr.kids,.d (.i e.label),AW et em e.kids]:=by cases e;simp[yy,AW]
mutual
theorem DX (et em:TypeId):∀(t:an),u7 (yy et em t)=fZ t
 |.mk k s n t f b l=>by
  have:=qE et em l;rw[vL,ax];simp only[u7,GC.dv,DR,AW,an.bT,an.jG,an.ou,an.re,an.rf,an.jh,an.bU,this]
theorem qE (et em:TypeId):∀(l:List an),chunks 9 l.length (u7 (jm et em l))=l.map fZ
 |[]=>rfl
 |t::r=>by
  have h1:=DX et em t;have h2:=qE et em r;rw[jm,oE,h1,Vz,rC _ (by rw[ax];rfl),h2,VH]
end
theorem HU (et em:TypeId) (l:List an):(AW et em l).dv=.sl (l.map fZ):=by
 simp only[AW,GC.dv,qE]
mutual
theorem DY (et em:TypeId):∀(t:an),yq (yy et em t)=true
 |.mk k s n t f b l=>by
  have:=qF et em l;rw[vL];simp only[yq,GC.pl,(DU et _).2,AW,an.bU,an.re,an.rf,this,VP]
theorem qF (et em:TypeId):∀(l:List an),yq (jm et em l)=true
 |[]=>rfl
 |t::r=>by rw[jm,oF,DY et em t,qF et em r];rfl
end
theorem HV (et em:TypeId) (l:List an):(AW et em l).dv=.sl (l.map fZ)/\(AW et em l).pl=true:=⟨HU et em l,by simp only[AW,GC.pl,qF]⟩
abbrev V3:=Value×Value×Value
abbrev QE (e:an) (v:V3):List DV:=[.i e.kind,.str e.name,.i e.num,.i e.ty.kind,.raw v.1,.i e.fr.kind,.raw v.2.1,.i e.label,.raw v.2.2]
abbrev LG (et em:TypeId) (e:an) (v:V3):Ts:=[(sD et e.ty.kids,v.1),(sD et e.fr.kids,v.2.1),(AW et em e.kids,v.2.2)]
def QF (et em:TypeId) (l:List an) (vs:List V3):Ts:=(VE (LG et em) l vs).flatten
end Go.Av
namespace Go.Av
open Go
section
variable {P:Program} {m:Nat} {c:Code} {Q:Exit->St->Ts->Prop} {s:St} {L L2:Ts} {g:Gh} {w:World} {V:List (List CV)} {A:List bp}
end
section
variable {P:Program} {n:Nat} {w0 w w':World} {g0 g g':Gh} {X S S':List Nat} {s s':St} {L L':Ts} {a a':Act} {x y:Code} {all:Array Oper} {ws fs cs:List Nat} {m:Nat} {ex:List Nat} {V0:List (List CV)} {A0:List bp}
def FG (all:Array Oper) (ws fs:List Nat) (m:Nat) (cs:List Nat) (ms:List Nat) (oi oj:Oper) (i j:Nat):Bool:=
 if cs.contains i||cs.contains j then(oi.dst.isNone||oi.dst !=oj.dst)&&((!eh all oi oj && !eh all oj oi)||(ms.getD j 0).testBit i)else dK all ws fs m ms oi oj i j
def LH (all:Array Oper) (ws fs:List Nat) (m:Nat) (cs:List Nat):Bool:=
 let l:=all.toList.zipIdx
 let ms:=bD all.toList []
 (l.all fun(o,j)=>o.after.toList.all fun e=> !Region.binds .any e||decide (e.on<j))&&
 (l.all fun(oj,j)=>l.all fun(oi,i)=> !(decide (i<j))||FG all ws fs m cs ms oi oj i j)&&
 (l.all fun(o,j)=> !ws.contains j|| !cG o.op)&&(fs.all fun j=> !ws.contains j)&&(fs.all fun j=>ws.all fun i=>decide (i<m)||decide (j<i))
def DZ (P:Program) (ow:Nat->Bool) (ws fs:List Nat) (m:Nat) (ex:List Nat) (V0:List (List CV)) (A0:List bp) (cs:List Nat) (K:St->Ts->Prop):Nat->List Oper->St->Ts->Prop
 |_,[],s,L=>K s L
 |i,o::rest,s,L=>(i∈cs/\cj P s L o fun x L'=>DZ P ow ws fs m ex V0 A0 cs K (i+1) rest (s.put o.dst x s.V s.A) L')\/
   (i∉cs/\bJ P s (ow i) o fun x V A=>(i∈ws\/(V=s.V/\A=s.A))/\(i∈ws->i<m->V.take V0.length=rh ex (fun i=>V.getD i []) V0/\A.take A0.length=A0)/\(i∈fs->cW P s (ow i) o ex V0 A0 x)/\DZ P ow ws fs m ex V0 A0 cs K (i+1) rest (s.put o.dst x V A) L)
def QG (P:Program) (ow:Bool) (fs:List Nat) (j:Nat) (ex:List Nat) (V0:List (List CV)) (A0:List bp) (o:Oper) (s s':St):Prop:=
 ∃x V A,s'=s.put o.dst x V A/\(∀K:AV->List (List CV)->List bp->Prop,K x V A->bJ P s ow o K)/\(j∈fs->cW P s ow o ex V0 A0 x)
def Nr (ws:List Nat) (m:Nat) (ex:List Nat) (V0:List (List CV)) (A0:List bp) (j:Nat) (o:Oper) (s s':St):Prop:=∃x V A,s'=s.put o.dst x V A/\(j∈ws\/(V=s.V/\A=s.A))/\(j∈ws->j<m->V.take V0.length=rh ex (fun i=>V.getD i []) V0/\A.take A0.length=A0)
structure QH (all:Array Oper) (ws:List Nat) (m:Nat) (ex:List Nat) (V0:List (List CV)) (A0:List bp) (σ:Nat->St) (c:Nat):Prop where
 le:c<=all.size
 v0:(σ 0).V=V0/\(σ 0).A=A0
 tr:∀(j:Nat) o,j<c->all[j]? =some o->Nr ws m ex V0 A0 j o (σ j) (σ (j+1))
structure Kl (P:Program) (ow:Nat->Bool) (ws fs:List Nat) (m:Nat) (ex:List Nat) (V0:List (List CV)) (A0:List bp) (cs:List Nat) (K:St->Ts->Prop) (i:Nat) (ops:List Oper) (s:St) (L:Ts):Prop where
 mk::
 run:DZ P ow ws fs m ex V0 A0 cs K i ops s L
variable {ow:Nat->Bool} {K:St->Ts->Prop} {i:Nat} {o:Oper} {rest:List Oper}
@[congr] theorem HW {i i':Nat} {ops:List Oper} (hi:i=i') (h:s=s'):Kl P ow ws fs m ex V0 A0 cs K i ops s L=Kl P ow ws fs m ex V0 A0 cs K i' ops s' L:=by rw[h,hi]
end
end Go.Av
namespace Go.Av
attribute [-simp] Go.Av.bO Go.Av.dO Go.Av.ed Go.Av.ec Go.Av.cl Go.Av.cj
open Go
section
variable {P:Program} {n:Nat} {Q:Exit->St->Prop} {s:St}
def Ns (P:Program) (o1 o2:Oper) (K:St->Prop) (s:St):Prop:=
 ∃(t e:TypeId) (x lo:Operand) (d1:Nat) (ty:TypeId) (cs:Array Bool) (d de:TD) (z:List CV) (dz:List DV) (k m:Nat) (ki:IntKind) (i:Int) (r:bp),
  (o1.op=.slice t x (some lo) none none/\o1.dst=some d1/\o1.guard=none/\(∀(a:Act) (w:World),(execOp a.eval o2).run P w=(builtin .clear #[t] ty cs #[a.eval (.tmp d1)]).run P w)/\o2.guard=none)/\
  look s.fr d1=none/\(∀d2,o2.dst=some d2->look s.fr d2=none)/\td P t=some d/\d.el=some e/\td P e=some de/\de.zero=some z/\fK [] z=some dz/\z.length=de.sz/\0<de.sz/\
  bA s x=some (.c (.own k m))/\bA s lo=some (.c (.d (.int ki i)))/\0<=i/\i.toNat<m/\s.A[k]? =some r/\m=r.rows.length/\r.wr=true/\r.sz=de.sz/\
  K ⟨s.fr,s.V,s.A.set k {r with rows:=r.rows.take i.toNat++VF (m-i.toNat) dz}⟩
end
section
variable {P:Program} {n:Nat} {Q:Exit->St->Prop} {s s':St} {y:Code}
structure Km (P:Program) (all:Array Oper) (ow:Nat->Bool) (wv wa fs:List Nat) (m:Nat) (ex:List Nat) (V0:List (List CV)) (A0:List bp) (K:St->Prop) (i:Nat) (ops:List Oper) (s:St):Prop where
 mk::
 run:DB P all ow wv wa fs m ex V0 A0 K i ops s
@[congr] theorem HX {all:Array Oper} {ow:Nat->Bool} {wv wa fs:List Nat} {m:Nat} {ex:List Nat} {V0:List (List CV)} {A0:List bp} {K:St->Prop} {i i':Nat} {ops:List Oper} (hi:i=i') (h:s=s'):Km P all ow wv wa fs m ex V0 A0 K i ops s=Km P all ow wv wa fs m ex V0 A0 K i' ops s':=by rw[h,hi]
end
end Go.Av
