/- A part. -/
import Derived.WalkKit
import Derived.WalkSpells
import Derived.ChangeKeysEq
set_option linter.unusedVariables false
set_option linter.unusedSimpArgs false
open Nat renaming le_refl->Wa,add_mul->Wb,zero_le->Wc,add_assoc->Wd,zero_add->We,mul_le_mul_right->Wf,le_trans->Wg,one_mul->Wh,zero_mul->Wi,mul_comm->Wj,lt_or_ge->Wk,lt_of_lt_of_le->Wl,add_zero->Wm,add_comm->Wn
open List renaming getElem?_eq_some_iff->Wo,getElem?_eq_getElem->Wp,getElem?_append_left->Wq,getElem?_append_right->Wr,flatten_cons->Ws,mem_of_getElem?->Wt,getElem?_take->Wu,eq_nil_of_length_eq_zero->Wv,map_cons->Ww,length_append->Wx,size_toArray->Wy,replicate->Wz,getElem?_of_mem->WA,getElem?_drop->WB,mem_append->WC,length_cons->WD,getElem?_set_ne->WE,ext_getElem?->WG,append_assoc->WH,zipIdx_cons->WI,length_pos_iff->WJ,foldl_cons->WK,flatMap_cons->WL,take_left->WM,nil_append->WN,mem_filterMap->WO,getElem?_map->WQ,getElem?_eq_none->WR,all_eq_true->WS
open Array renaming getElem?_eq_some_iff->WU,length_toList->WV,toList_map->WW,ext->WX
open Bool renaming false_eq_true->WY
open Option renaming map_eq_some_iff->WZ,isSome_iff_exists->W0,getD_some->W1
open Int renaming toNat_natCast->W2
namespace Go.Av
open Go
inductive DV where
 |int (k:IntKind) (n:Int)
 |bool (b:Bool)
 |str (s:List UInt8)
 |sl (rows:List (List DV))
 |raw (v:Value)
inductive CV where
 |d (x:DV)
 |nil
 |own (k n:Nat)
 |ptr (l off:Nat)
 |np
 |ip (row:List DV) (off:Nat)
 |op (k n i off:Nat)
 |fn (f:FuncId) (cap:List Nat)
 |undef
inductive AV where
 |c (x:CV)
 |agg (xs:List CV)
 |a8 (xs:List AV)
structure bu where
 sz:Nat
 eA:TypeId
 rows:List (List DV)
 wr:Bool
structure Gh where
 ob:List Nat
 ar:List Value
 im:Nat->Nat
def bs (s:List UInt8):ByteArray:=⟨s.toArray⟩
mutual
def bh (im:Nat->Nat) (w:World):DV->Value->Prop
 |.int k n,v=>v=.int k n
 |.bool b,v=>v=.bool b
 |.str s,v=>v=.string (bs s)
 |.sl rows,v=>∃a cap,v=.slice a rows.length cap/\rows.length<=cap/\(rows=[]\/∃b off sz,a=some ⟨b,off,none⟩/\off+rows.length*sz<=im b/\cr im w b sz off rows)
 |.raw u,v=>v=u/\u.oneCell'=true
def cr (im:Nat->Nat) (w:World) (b sz:Nat):Nat->List (List DV)->Prop
 |_,[]=>True
 |off,r::rs=>r.length=sz/\dB im w b off r/\cr im w b sz (off+sz) rs
def dB (im:Nat->Nat) (w:World) (b:Nat):Nat->List DV->Prop
 |_,[]=>True
 |off,x::xs=>(∃u,w.cell? ⟨b,off,none⟩=some u/\bh im w x u)/\dB im w b (off+1) xs
end
structure kj (im:Nat->Nat) (w:World) (im':Nat->Nat) (w':World):Prop where
 G5:∀b,im b<=im' b
 cell:∀b o,o<im b->w'.cell? ⟨b,o,none⟩=w.cell? ⟨b,o,none⟩
theorem kj.refl (im:Nat->Nat) (w:World):kj im w im w:=⟨fun _=>Wa _,fun _ _ _=>rfl⟩
theorem kj.trans {im im' im'':Nat->Nat} {w w' w'':World} (h:kj im w im' w') (k:kj im' w' im'' w''):kj im w im'' w'':=
 ⟨fun b=>Wg (h.G5 b) (k.G5 b),fun b o ho=>(k.cell b o (Wl ho (h.G5 b))).trans (h.cell b o ho)⟩
mutual
theorem bh.fL {im im':Nat->Nat} {w w':World} (h:kj im w im' w'):∀(x:DV) (v:Value),bh im w x v->bh im' w' x v
 |.int _ _,_,hx=>hx
 |.bool _,_,hx=>hx
 |.str _,_,hx=>hx
 |.sl rows,v,hx=>by
  simp only[bh]at hx⊢;obtain⟨a,cap,e,hc,hr⟩:=hx;refine⟨a,cap,e,hc,hr.imp id ?_⟩;rintro⟨b,off,sz,ha,hi,yk⟩;exact⟨b,off,sz,ha,Wg hi (h.G5 b),cr.fL h b sz off rows hi yk⟩
 |.raw _,_,hx=>hx
theorem cr.fL {im im':Nat->Nat} {w w':World} (h:kj im w im' w') (b sz:Nat):∀(off:Nat) (rs:List (List DV)),off+rs.length*sz<=im b->cr im w b sz off rs->cr im' w' b sz off rs
 |_,[],_,_=>by simp[cr]
 |off,r::rs,hi,hx=>by
  simp only[cr]at hx⊢;obtain⟨hl,hr,Kz⟩:=hx;have Fv:off+sz+rs.length*sz<=im b:=by
   simp only[WD,Wb,Wh]at hi;omega
  exact⟨hl,dB.fL h b off r (by omega) hr,cr.fL h b sz (off+sz) rs Fv Kz⟩
theorem dB.fL {im im':Nat->Nat} {w w':World} (h:kj im w im' w') (b:Nat):∀(off:Nat) (xs:List DV),off+xs.length<=im b->dB im w b off xs->dB im' w' b off xs
 |_,[],_,_=>by simp[dB]
 |off,x::xs,hi,hx=>by
  simp only[dB]at hx⊢;obtain⟨⟨u,hu,hd⟩,hr⟩:=hx;simp only[WD]at hi;exact⟨⟨u,(h.cell b off (by omega)).trans hu,bh.fL h x u hd⟩,dB.fL h b (off+1) xs (by omega) hr⟩
end
theorem dB.at_ {im:Nat->Nat} {w:World} {b:Nat}:∀{xs:List DV} {off:Nat},dB im w b off xs->∀{j:Nat} {x:DV},xs[j]? =some x->∃u,w.cell? ⟨b,off+j,none⟩=some u/\bh im w x u
 |[],_,_,j,x,hx=>by simp at hx
 |y::ys,off,h,0,x,hx=>by
  simp only[dB]at h;simp at hx;subst hx;simpa using h.1
 |y::ys,off,h,j+1,x,hx=>by
  simp only[dB]at h;simp at hx;have:=dB.at_ h.2 hx;simpa[Wd,Wn 1 j]using this
theorem dB.mk {im:Nat->Nat} {w:World} {b:Nat}:∀{xs:List DV} {off:Nat},(∀j x,xs[j]? =some x->∃u,w.cell? ⟨b,off+j,none⟩=some u/\bh im w x u)->dB im w b off xs
 |[],_,_=>by simp[dB]
 |y::ys,off,h=>by
  simp only[dB];refine⟨by simpa using h 0 y rfl,dB.mk fun j x hx=>?_⟩;have:=h (j+1) x (by simpa using hx);simpa[Wd,Wn 1 j]using this
theorem cr.at_ {im:Nat->Nat} {w:World} {b sz:Nat}:∀{rs:List (List DV)} {off:Nat},cr im w b sz off rs->∀{i:Nat} {r:List DV},rs[i]? =some r->r.length=sz/\dB im w b (off+i*sz) r
 |[],_,_,i,r,hr=>by simp at hr
 |y::ys,off,h,0,r,hr=>by
  simp only[cr]at h;simp at hr;subst hr;simpa using⟨h.1,h.2.1⟩
 |y::ys,off,h,i+1,r,hr=>by
  simp only[cr]at h;simp at hr;have:=cr.at_ h.2.2 hr;rwa[show off+sz+i*sz=off+(i+1)*sz by rw[Wb];omega]at this
theorem cr.mk {im:Nat->Nat} {w:World} {b sz:Nat}:∀{rs:List (List DV)} {off:Nat},(∀i r,rs[i]? =some r->r.length=sz/\dB im w b (off+i*sz) r)->cr im w b sz off rs
 |[],_,_=>by simp[cr]
 |y::ys,off,h=>by
  simp only[cr];have h0:=h 0 y rfl;refine⟨h0.1,by simpa using h0.2,cr.mk fun i r hr=>?_⟩;have:=h (i+1) r (by simpa using hr);rwa[show off+(i+1)*sz=off+sz+i*sz by rw[Wb];omega]at this
theorem bh.l5 {im:Nat->Nat} {w:World}:∀{x:DV} {v:Value},bh im w x v->v.oneCell'=true
 |.int _ _,_,h=>by simp only[bh]at h;subst h;rfl
 |.bool _,_,h=>by simp only[bh]at h;subst h;rfl
 |.str _,_,h=>by simp only[bh]at h;subst h;rfl
 |.sl _,_,h=>by simp only[bh]at h;obtain⟨_,_,rfl,_⟩:=h;rfl
 |.raw _,_,h=>by simp only[bh]at h;obtain⟨rfl,h⟩:=h;exact h
def CV.j5:CV->Bool
 |.undef=>true
 |_=>false
def bn (g:Gh) (w:World) (A:List bu):CV->Value->Prop
 |.d x,v=>bh g.im w x v
 |.nil,v=>v=.slice none 0 0
 |.own k n,v=>∃a cap,v=.slice a n cap/\∃r,A[k]? =some r/\n<=r.rows.length/\(n=r.rows.length->g.ar[k]? =some v)
 |.ptr l off,v=>∃b,g.ob[l]? =some b/\v=.pointer (some ⟨b,off,none⟩)
 |.np,v=>v=.pointer none
 |.ip row off,v=>∃b o,v=.pointer (some ⟨b,o+off,none⟩)/\o+row.length<=g.im b/\dB g.im w b o row
 |.op k n i off,v=>∃b e,v=.pointer (some ⟨b,e,none⟩)/\∃r,A[k]? =some r/\n<=r.rows.length/\(n=r.rows.length->∃cap,g.ar[k]? =some (.slice (some ⟨b,0,none⟩) n cap)/\e=i*r.sz+off)
 |.fn f cap,v=>∃bks:List Nat,v=.func (.func f) #[] (bks.map fun b=>Value.pointer (some ⟨b,0,none⟩)).toArray/\bks.length=cap.length/\∀(i l b:Nat),cap[i]? =some l->bks[i]? =some b->g.ob[l]? =some b
 |.undef,v=>v=undef
def dK (g:Gh) (w:World) (A:List bu):AV->Value->Prop
 |.c x,v=>bn g w A x v
 |.agg xs,v=>∃vs:List Value,v=.agg vs.toArray/\vs.length=xs.length/\∀(i:Nat) (x:CV) (u:Value),xs[i]? =some x->vs[i]? =some u->bn g w A x u
 |.a8 _,_=>False
def aO (g:Gh) (w:World) (A:List bu):AV->Value->Prop
 |.a8 xs,v=>∃vs:List Value,v=.tuple vs.toArray/\vs.length=xs.length/\∀(i:Nat) (x:AV) (u:Value),xs[i]? =some x->vs[i]? =some u->dK g w A x u
 |x,v=>dK g w A x v
structure Ext (g:Gh) (w:World) (A:List bu) (g':Gh) (w':World) (A':List bu):Prop where
 ob:∀(l b:Nat),g.ob[l]? =some b->g'.ob[l]? =some b
 gr:kj g.im w g'.im w'
 ar:∀(k:Nat) r,A[k]? =some r->∃r',A'[k]? =some r'/\r'.sz=r.sz/\r.rows.length<=r'.rows.length/\(r'.rows.length=r.rows.length->g'.ar[k]? =g.ar[k]?)
theorem Ext.refl (g:Gh) (w:World) (A:List bu):Ext g w A g w A:=
 ⟨fun _ _ h=>h,.refl _ _,fun _ r h=>⟨r,h,rfl,Wa _,fun _=>rfl⟩⟩
theorem Ext.trans {g g' g'':Gh} {w w' w'':World} {A A' A'':List bu} (h:Ext g w A g' w' A') (k:Ext g' w' A' g'' w'' A''):Ext g w A g'' w'' A'':=by
 refine⟨fun l b hb=>k.ob l b (h.ob l b hb),h.gr.trans k.gr,fun i r hr=>?_⟩;obtain⟨r',h1,h2,h3,h4⟩:=h.ar i r hr;obtain⟨r'',k1,k2,k3,k4⟩:=k.ar i r' h1;exact⟨r'',k1,k2.trans h2,Wg h3 k3,fun e=>(k4 (by omega)).trans (h4 (by omega))⟩
section
variable {g g':Gh} {w w':World} {A A':List bu}
theorem bn.ext (h:Ext g w A g' w' A'):∀{c:CV} {v:Value},bn g w A c v->bn g' w' A' c v
 |.d x,v,hx=>bh.fL h.gr x v hx
 |.nil,_,hx=>hx
 |.own k n,v,hx=>by
  obtain⟨a,cap,e,r,hr,hn,hv⟩:=hx;obtain⟨r',h1,_,h3,h4⟩:=h.ar k r hr;exact⟨a,cap,e,r',h1,by omega,fun en=>(h4 (by omega)).trans (hv (by omega))⟩
 |.ptr l off,v,hx=>by
  obtain⟨b,hb,e⟩:=hx;exact⟨b,h.ob l b hb,e⟩
 |.np,_,hx=>hx
 |.ip row off,v,hx=>by
  obtain⟨b,o,e,hi,hr⟩:=hx;exact⟨b,o,e,Wg hi (h.gr.G5 b),dB.fL h.gr b o row hi hr⟩
 |.op k n i off,v,hx=>by
  obtain⟨b,e,hv,r,hr,hn,hq⟩:=hx;obtain⟨r',h1,h2,h3,h4⟩:=h.ar k r hr;refine⟨b,e,hv,r',h1,by omega,fun en=>?_⟩;obtain⟨cap,hc,he⟩:=hq (by omega);exact⟨cap,(h4 (by omega)).trans hc,by rw[h2];exact he⟩
 |.fn f cap,v,hx=>by
  obtain⟨bks,e,hl,hb⟩:=hx;exact⟨bks,e,hl,fun i l b h1 h2=>h.ob l b (hb i l b h1 h2)⟩
 |.undef,_,hx=>hx
theorem dK.ext (h:Ext g w A g' w' A'):∀{x:AV} {v:Value},dK g w A x v->dK g' w' A' x v
 |.c _,_,hx=>bn.ext h hx
 |.agg _,_,hx=>by
  obtain⟨vs,e,hl,hc⟩:=hx;exact⟨vs,e,hl,fun i x u h1 h2=>bn.ext h (hc i x u h1 h2)⟩
 |.a8 _,_,hx=>hx.elim
theorem aO.ext (h:Ext g w A g' w' A'):∀{x:AV} {v:Value},aO g w A x v->aO g' w' A' x v
 |.c x,_,hx=>dK.ext (x:=.c x) h hx
 |.agg xs,_,hx=>dK.ext (x:=.agg xs) h hx
 |.a8 _,_,hx=>by
  obtain⟨vs,e,hl,hc⟩:=hx;exact⟨vs,e,hl,fun i x u h1 h2=>dK.ext h (hc i x u h1 h2)⟩
theorem bn.l5:∀{c:CV} {v:Value},c.j5=false->bn g w A c v->v.oneCell'=true
 |.d _,_,_,h=>bh.l5 h
 |.nil,_,_,h=>by simp only[bn]at h;subst h;rfl
 |.own _ _,_,_,h=>by obtain⟨_,_,rfl,_⟩:=h;rfl
 |.ptr _ _,_,_,h=>by obtain⟨_,_,rfl⟩:=h;rfl
 |.np,_,_,h=>by simp only[bn]at h;subst h;rfl
 |.ip _ _,_,_,h=>by obtain⟨_,_,rfl,_⟩:=h;rfl
 |.op _ _ _ _,_,_,h=>by obtain⟨_,_,rfl,_⟩:=h;rfl
 |.fn _ _,_,_,h=>by obtain⟨_,rfl,_⟩:=h;rfl
 |.undef,_,hu,_=>by simp[CV.j5]at hu
end
def AV.cells:AV->List CV
 |.c x=>[x]
 |.agg xs=>xs
 |.a8 _=>[]
structure Inv (g:Gh) (w:World) (V:List (List CV)) (A:List bu):Prop where
 o0:g.ob.length=V.length
 lT:g.ar.length=A.length
 obj:∀(l:Nat) row b,V[l]? =some row->g.ob[l]? =some b->g.im b=0/\∃cs ty,w.heap[b]? =some (.cells cs ty (0,0))/\cs.size=row.length/\∀(j:Nat) c u,row[j]? =some c->cs[j]? =some u->bn g w A c u
 arr:∀(k:Nat) r v,A[k]? =some r->g.ar[k]? =some v->(∀row∈r.rows,row.length=r.sz)/\(∀b,v.ownBlock=some b->g.im b<=if r.wr then 0 else r.rows.length*r.sz)/\
  ∃xs,w.ownsRow 0 r.eA r.sz v r.rows.length xs/\∀(j:Nat) x u,r.rows.flatten[j]? =some x->xs[j]? =some u->bh g.im w x u
 kZ:∀(l l' b:Nat),g.ob[l]? =some b->g.ob[l']? =some b->l=l'
 jr:∀(k k':Nat) v v' b,g.ar[k]? =some v->g.ar[k']? =some v'->v.ownBlock=some b->v'.ownBlock=some b->k=k'
 jz:∀(l k:Nat) v b,g.ob[l]? =some b->g.ar[k]? =some v->v.ownBlock≠some b
 fresh:∀b,w.heap.size<=b->g.im b=0
def Gh.jy (g:Gh):List Nat:=g.ar.filterMap Value.ownBlock
theorem Gh.j6 {g:Gh} {k:Nat} {v:Value} {b:Nat} (h:g.ar[k]? =some v) (hb:v.ownBlock=some b):b∈g.jy:=WO.2 ⟨v,Wt h,hb⟩
theorem Gh.fQ {g:Gh} {b:Nat} (h:b∈g.jy):∃(k:Nat) (v:Value),g.ar[k]? =some v/\v.ownBlock=some b:=by
 obtain⟨v,h1,h2⟩:=WO.1 h;obtain⟨k,hk⟩:=WA h1;exact⟨k,v,hk,h2⟩
def rT:Value->Nat
 |.slice _ n _=>n
 |_=>0
def Lm:Option Nat:=none
def Lo:List Nat:=[]
def o4 (b:Nat):Prop:=Lm=some b\/b∈Lo
def G6:Array Value:= #[.int .u64 1,.int .u64 10,.int .u64 100,.int .u64 1000,.int .u64 10000,.int .u64 100000,.int .u64 1000000,.int .u64 10000000,.int .u64 100000000,.int .u64 1000000000,.int .u64 10000000000,.int .u64 100000000000,.int .u64 1000000000000,.int .u64 10000000000000,.int .u64 100000000000000,.int .u64 1000000000000000,.int .u64 10000000000000000,.int .u64 100000000000000000,.int .u64 1000000000000000000,.int .u64 10000000000000000000]
def Qj (b:Nat) (o:Option Obj):Prop:=(Lm=some b->∃ty mk,o=some (.cells G6 ty mk))/\(b∈Lo->∃cs ty mk te pe,o=some (.cells cs ty mk)/\cs[0]? =some (.iface te pe))
def Bi (w:World) (g:Gh):Prop:=∀b,o4 b->b<w.heap.size/\b∉g.ob/\b∉g.jy/\Qj b w.heap[b]?
theorem Bi.less {w:World} {g g':Gh} (h:Bi w g) (ho:∀b∈g'.ob,b∈g.ob) (ha:∀b∈g'.jy,b∈g.jy):Bi w g':=fun b hb=>by
 obtain⟨h1,h2,h3,h4⟩:=h b hb;exact⟨h1,fun q=>h2 (ho b q),fun q=>h3 (ha b q),h4⟩
structure Fr (w0:World) (g0:Gh) (w:World) (g:Gh):Prop where
 os:w.os=w0.os
 tape:w.tape=w0.tape
 output:w.output=w0.output
 size:w0.heap.size<=w.heap.size
 qI:∀b,b<w0.heap.size->b∉g0.ob->b∉g0.jy->w.heap[b]? =w0.heap[b]?
 js:∀b,b<w0.heap.size->b∉g0.jy->g.im b=g0.im b
 ob:∃new,g.ob=g0.ob++new/\∀b∈new,w0.heap.size<=b
 ar:∀(k:Nat) v b,g.ar[k]? =some v->v.ownBlock=some b->w0.heap.size<=b\/b∈g0.jy
 wk:∀(k:Nat) v,g0.ar[k]? =some v->∃v',g.ar[k]? =some v'/\rT v<=rT v'/\(rT v'=rT v->v'=v)
 yl:Bi w0 g0
theorem Fr.now {w0 w:World} {g0 g:Gh} (h:Fr w0 g0 w g):Bi w g:=fun b hb=>by
 obtain⟨h1,h2,h3,h4⟩:=h.yl b hb;refine⟨Wl h1 h.size,fun hm=>?_,fun hm=>?_,?_⟩
 ·obtain⟨new,e,hn⟩:=h.ob;rw[e]at hm;rcases WC.1 hm with q|q
  ·exact h2 q
  ·exact absurd (hn b q) (by omega)
 ·obtain⟨k,v,q1,q2⟩:=Gh.fQ hm;rcases h.ar k v b q1 q2 with q|q
  ·omega
  ·exact h3 q
 ·rw[h.qI b h1 h2 h3];exact h4
theorem Fr.refl {w:World} {g:Gh} (ht:Bi w g):Fr w g w g:=
 ⟨rfl,rfl,rfl,Wa _,fun _ _ _ _=>rfl,fun _ _ _=>rfl,⟨[],by simp,by simp⟩,fun k v b hk hb=>.inr (Gh.j6 hk hb),fun k v h=>⟨v,h,Wa _,fun _=>rfl⟩,ht⟩
theorem Fr.Qk {w0 w:World} {g0 g:Gh} (h:Fr w0 g0 w g) (h0:g0.ar=[]):∀(k:Nat) v b,g.ar[k]? =some v->v.ownBlock=some b->w0.heap.size<=b:=fun k v b h1 h2=>by
 rcases h.ar k v b h1 h2 with h3|h3
 ·exact h3
 ·simp[Gh.jy,h0]at h3
structure St where
 fr:List (Nat×AV)
 V:List (List CV)
 A:List bu
theorem gen {X:St->Prop} {d:Nat} {b:Bool} {fr:List (Nat×AV)} {V:List (List CV)} {A:List bu} (h:∀q:Bool,b=q->X ⟨(d,.c (.d (.bool q)))::fr,V,A⟩):X ⟨(d,.c (.d (.bool b)))::fr,V,A⟩:=h b rfl
section
variable {d:Nat} {b:Bool} {fr:List (Nat×AV)} {V:List (List CV)} {A:List bu}
theorem gen2 {X:St->Prop} (h0:b=false->X ⟨(d,.c (.d (.bool false)))::fr,V,A⟩) (h1:b=true->X ⟨(d,.c (.d (.bool true)))::fr,V,A⟩):X ⟨(d,.c (.d (.bool b)))::fr,V,A⟩:=by cases b;exact h0 rfl;exact h1 rfl
theorem J2 {Y:Type} {X:St->Y->Prop} {L:Y} (h0:b=false->X ⟨(d,.c (.d (.bool false)))::fr,V,A⟩ L) (h1:b=true->X ⟨(d,.c (.d (.bool true)))::fr,V,A⟩ L):X ⟨(d,.c (.d (.bool b)))::fr,V,A⟩ L:=by cases b;exact h0 rfl;exact h1 rfl
end
def look:List (Nat×AV)->Nat->Option AV
 |[],_=>none
 |(t,x)::r,s=>if s=t then some x else look r s
structure Rp (n:Nat) (w0:World) (g0:Gh) (s:St) (g:Gh) (a:Act) (w:World):Prop where
 inv:Inv g w s.V s.A
 fr:Fr w0 g0 w g
 size:a.tmps.size=n
 defers:a.defers=[]
 slot:∀t x,look s.fr t=some x->∃u,a.tmps[t]? =some u/\aO g w s.A x u
section
variable {g g' g0:Gh} {w w' w0:World} {V V':List (List CV)} {A A':List bu}
theorem Fr.Nn (h:Fr w0 g0 w g) {l b:Nat} (hb:g.ob[l]? =some b):b∈g0.ob\/w0.heap.size<=b:=by
 obtain⟨new,e,hn⟩:=h.ob;rw[e]at hb;have:=Wt hb;rcases WC.1 this with h1|h1
 ·exact .inl h1
 ·exact .inr (hn b h1)
theorem nD {base:Nat} {e:TypeId} {sz:Nat} {v:Value} {n:Nat} {xs:List Value} (h:w.ownsRow base e sz v n xs) (hb:∀b,v.ownBlock=some b->w'.heap[b]? =w.heap[b]?):w'.ownsRow base e sz v n xs:=by
 refine⟨h.1,?_⟩;rcases h.2 with h2|⟨b,cap,cur,hv,h3,hh,r⟩
 ·exact .inl h2
 ·exact .inr ⟨b,cap,cur,hv,h3,by rw[hb b (by rw[hv];rfl)];exact hh,r⟩
theorem rU {base:Nat} {e:TypeId} {sz:Nat} {v:Value} {n:Nat} {xs:List Value} (h:w.ownsRow base e sz v n xs):rT v=n:=by
 rcases h.2 with⟨rfl,h3⟩|⟨b,cap,cur,hv,_⟩
 ·simp only[rT];simp_all
 ·rw[hv];rfl
theorem Inv.qW (h:Inv g w V A) {l b:Nat} (hb:g.ob[l]? =some b):b<w.heap.size:=by
 have hl:l<V.length:=by
  rw[<-h.o0];exact(Wo.1 hb).1
 obtain⟨_,cs,ty,hh,_⟩:=h.obj l _ b (Wp hl) hb;exact(WU.1 hh).1
theorem Inv.mN (h:Inv g w V A) {k b:Nat} {v:Value} (hv:g.ar[k]? =some v) (hb:v.ownBlock=some b):b<w.heap.size:=by
 have hl:k<A.length:=by
  rw[<-h.lT];exact(Wo.1 hv).1
 obtain⟨_,_,xs,ho,_⟩:=h.arr k _ v (Wp hl) hv;exact(ho.lt b hb).2
theorem Inv.G7 (h:Inv g w V A) {b o:Nat} (ho:o<g.im b):b<w.heap.size:=by
 rcases Wk b w.heap.size with h1|h1
 ·exact h1
 ·have:=h.fresh b h1;omega
theorem Inv.fA (h:Inv g w V A) (hx:Ext g w A g' w' A') {l b:Nat} {row:List CV} (hl:V[l]? =some row) (hb:g.ob[l]? =some b) (hh:w'.heap[b]? =w.heap[b]?) (hi:g'.im b=0):
  g'.im b=0/\∃cs ty,w'.heap[b]? =some (.cells cs ty (0,0))/\cs.size=row.length/\∀(j:Nat) c u,row[j]? =some c->cs[j]? =some u->bn g' w' A' c u:=by
 obtain⟨_,cs,ty,hc,hs,hr⟩:=h.obj l row b hl hb;exact⟨hi,cs,ty,hh.trans hc,hs,fun j c u h1 h2=>bn.ext hx (hr j c u h1 h2)⟩
theorem Inv.fB (h:Inv g w V A) (hx:Ext g w A g' w' A') {k:Nat} {r:bu} {v:Value} (hk:A[k]? =some r) (hv:g.ar[k]? =some v)
  (hh:∀b,v.ownBlock=some b->w'.heap[b]? =w.heap[b]?) (hi:∀b,v.ownBlock=some b->g'.im b=g.im b):
  (∀row∈r.rows,row.length=r.sz)/\(∀b,v.ownBlock=some b->g'.im b<=if r.wr then 0 else r.rows.length*r.sz)/\
  ∃xs,w'.ownsRow 0 r.eA r.sz v r.rows.length xs/\∀(j:Nat) x u,r.rows.flatten[j]? =some x->xs[j]? =some u->bh g'.im w' x u:=by
 obtain⟨h1,h2,xs,ho,hr⟩:=h.arr k r v hk hv;exact⟨h1,fun b hb=>by rw[hi b hb];exact h2 b hb,xs,nD ho hh,fun j x u hj hu=>bh.fL hx.gr x u (hr j x u hj hu)⟩
theorem Inv.heap (h:Inv g w V A) (hh:w'.heap=w.heap):Inv g w' V A/\Ext g w A g w' A:=by
 have hx:Ext g w A g w' A:=⟨fun _ _ h=>h,⟨fun _=>Wa _,fun b o _=>by simp[World.cell?,hh]⟩,fun _ r h=>⟨r,h,rfl,Wa _,fun _=>rfl⟩⟩;refine⟨⟨h.o0,h.lT,fun l row b h1 h2=>?_,fun k r v h1 h2=>?_,h.kZ,h.jr,h.jz,fun b hb=>h.fresh b (by rwa[hh]at hb)⟩,hx⟩
 ·exact h.fA hx h1 h2 (by rw[hh]) (h.obj l row b h1 h2).1
 ·exact h.fB hx h1 h2 (fun _ _=>by rw[hh]) (fun _ _=>rfl)
theorem Fr.heap (h:Fr w0 g0 w g) (hh:w'.heap=w.heap) (ho:w'.os=w.os) (ht:w'.tape=w.tape) (hp:w'.output=w.output):Fr w0 g0 w' g:=
 ⟨ho.trans h.os,ht.trans h.tape,hp.trans h.output,by rw[hh];exact h.size,fun b h1 h2 h3=>by rw[hh];exact h.qI b h1 h2 h3,h.js,h.ob,h.ar,h.wk,h.yl⟩
theorem Inv.ej (h:Inv g w V A) (o:Obj) (m:Nat):∃g',g'={g with im:=fun b=>if b=w.heap.size then m else g.im b}/\Inv g' (w.alloc o) V A/\Ext g w A g' (w.alloc o) A:=by
 have G8:∀b,b<w.heap.size->(w.alloc o).heap[b]? =w.heap[b]? :=fun b hb=>RowKit.Below.heap_alloc w o b hb
 have qX:∀b,b<w.heap.size->(if b=w.heap.size then m else g.im b)=g.im b:=fun b hb=>by rw[if_neg (by omega)]
 have hx:Ext g w A {g with im:=fun b=>if b=w.heap.size then m else g.im b} (w.alloc o) A:=by
  refine⟨fun _ _ h=>h,⟨fun b=>?_,fun b o' ho=>?_⟩,fun _ r h=>⟨r,h,rfl,Wa _,fun _=>rfl⟩⟩
  ·show g.im b<=if b=w.heap.size then m else g.im b
   split
   ·rename_i e;rw[h.fresh b (by omega)];exact Wc _
   ·exact Wa _
  ·exact World.cell?_of_block (a:=⟨b,o',none⟩) (G8 b (h.G7 ho))
 refine⟨_,rfl,⟨h.o0,h.lT,fun l row b h1 h2=>?_,fun k r v h1 h2=>?_,h.kZ,h.jr,h.jz,fun b hb=>?_⟩,hx⟩
 ·exact h.fA hx h1 h2 (G8 b (h.qW h2)) ((qX b (h.qW h2)).trans (h.obj l row b h1 h2).1)
 ·exact h.fB hx h1 h2 (fun b hb=>G8 b (h.mN h2 hb)) (fun b hb=>qX b (h.mN h2 hb))
 ·have hs:(w.alloc o).heap.size=w.heap.size+1:=by simp
  show(if b=w.heap.size then m else g.im b)=0;rw[hs]at hb;rw[if_neg (by omega)];exact h.fresh b (by omega)
theorem Fr.ej (h:Fr w0 g0 w g) (o:Obj) (m:Nat):Fr w0 g0 (w.alloc o) {g with im:=fun b=>if b=w.heap.size then m else g.im b}:=by
 have hs:(w.alloc o).heap.size=w.heap.size+1:=by simp
 refine⟨h.os,h.tape,h.output,by rw[hs];have:=h.size;omega,fun b h1 h2 h3=>?_,fun b hb dN=>?_,h.ob,h.ar,h.wk,h.yl⟩
 ·rw[RowKit.Below.heap_alloc w o b (by have:=h.size;omega)];exact h.qI b h1 h2 h3
 ·show(if b=w.heap.size then m else g.im b)=_;have:=h.size;rw[if_neg (by omega)];exact h.js b hb dN
theorem Inv.newObj (h:Inv g w V A) (hf:Fr w0 g0 w g) (cs:Array Value) (ty:TypeId) (row:List CV) (hs:cs.size=row.length) (hr:∀(j:Nat) c u,row[j]? =some c->cs[j]? =some u->bn g w A c u):
  ∃g',Inv g' (w.alloc (.cells cs ty)) (V++[row]) A/\Ext g w A g' (w.alloc (.cells cs ty)) A/\Fr w0 g0 (w.alloc (.cells cs ty)) g'/\g'.ob[V.length]? =some w.heap.size:=by
 obtain⟨g1,vB,hi,hx⟩:=h.ej (.cells cs ty) 0;have Fw:=hf.ej (.cells cs ty) 0;rw[<-vB]at Fw
 have kR:Ext g1 (w.alloc (.cells cs ty)) A {g1 with ob:=g1.ob++[w.heap.size]} (w.alloc (.cells cs ty)) A:=
  ⟨fun l b hb=>by show(g1.ob++[w.heap.size])[l]? =some b;rw[Wq (Wo.1 hb).1];exact hb,.refl _ _,fun _ r h=>⟨r,h,rfl,Wa _,fun _=>rfl⟩⟩
 have ax:∀(l b:Nat),g1.ob[l]? =some b->b<w.heap.size:=fun l b hb=>by
  subst vB;exact h.qW (g:=g) hb
 have dh:∀(l b:Nat),(g1.ob++[w.heap.size])[l]? =some b->(g1.ob[l]? =some b/\b<w.heap.size)\/(l=V.length/\b=w.heap.size):=fun l b hb=>by
  rcases Wk l g1.ob.length with h1|h1
  ·rw[Wq h1]at hb;exact .inl ⟨hb,ax l b hb⟩
  ·rw[Wr h1]at hb;have h0:l-g1.ob.length=0:=by
    have:=(Wo.1 hb).1;simp at this;omega
   rw[h0]at hb;simp at hb;exact .inr ⟨by rw[<-hi.o0];omega,hb.symm⟩
 have qX:g1.im w.heap.size=0:=by subst vB;simp
 have G9:∀(k:Nat) (v:Value) (b:Nat),g1.ar[k]? =some v->v.ownBlock=some b->b<w.heap.size:=fun k v b hv hb=>by
  subst vB;exact h.mN (g:=g) hv hb
 refine⟨{g1 with ob:=g1.ob++[w.heap.size]},⟨by simp[hi.o0],hi.lT,fun l row' b h1 h2=>?_,fun k r v h1 h2=>?_,fun l l' b h1 h2=>?_,hi.jr,fun l k v b h1 h2=>?_,hi.fresh⟩,hx.trans kR,?_,?_⟩
 ·rcases dh l b h2 with⟨h3,h4⟩|⟨h3,h4⟩
  ·have h5:V[l]? =some row':=by
    have:l<V.length:=by rw[<-hi.o0];exact(Wo.1 h3).1
    rwa[Wq this]at h1
   exact hi.fA kR h5 h3 rfl (hi.obj l row' b h5 h3).1
  ·subst h3;subst h4;simp at h1;subst h1;exact⟨qX,cs,ty,heap_alloc_new w _,hs,fun j c u h6 h7=>bn.ext (hx.trans kR) (hr j c u h6 h7)⟩
 ·exact hi.fB kR h1 h2 (fun _ _=>rfl) (fun _ _=>rfl)
 ·rcases dh l b h1 with⟨h3,h4⟩|⟨h3,h4⟩<;>rcases dh l' b h2 with⟨h5,h6⟩|⟨h5,h6⟩
  ·exact hi.kZ l l' b h3 h5
  ·omega
  ·omega
  ·omega
 ·rcases dh l b h1 with⟨h3,h4⟩|⟨h3,h4⟩
  ·exact hi.jz l k v b h3 h2
  ·intro hb;have:=G9 k v b h2 hb;omega
 ·refine⟨Fw.os,Fw.tape,Fw.output,Fw.size,Fw.qI,Fw.js,?_,Fw.ar,Fw.wk,Fw.yl⟩;obtain⟨new,e,hn⟩:=Fw.ob;exact⟨new++[w.heap.size],by show g1.ob++[w.heap.size]=_;rw[e];simp,fun b hb=>by
   rcases WC.1 hb with h1|h1
   ·exact hn b h1
   ·simp at h1;rw[h1];exact hf.size⟩
 ·show(g1.ob++[w.heap.size])[V.length]? =some w.heap.size;rw[Wr (by rw[hi.o0];exact Wa _),hi.o0];simp
theorem cz (w:World) (b k:Nat) (cs:Array Value) (h:k≠b):(w.setRow b cs).heap[k]? =w.heap[k]? :=by
 simp only[World.setRow,Array.getElem?_modify];rw[if_neg (fun e=>h e.symm)]
theorem Ext.setRow (g:Gh) (w:World) (A:List bu) (b:Nat) (cs:Array Value) (h:g.im b=0):Ext g w A g (w.setRow b cs) A:=by
 refine⟨fun _ _ h=>h,⟨fun _=>Wa _,fun b' o ho=>?_⟩,fun _ r h=>⟨r,h,rfl,Wa _,fun _=>rfl⟩⟩;exact World.cell?_of_block (a:=⟨b',o,none⟩) (cz w b b' cs (fun e=>by subst e;omega))
theorem Fr.setRow (hf:Fr w0 g0 w g) (b:Nat) (cs:Array Value) (h:b∈g0.ob\/w0.heap.size<=b\/b∈g0.jy):Fr w0 g0 (w.setRow b cs) g:=
 ⟨hf.os,hf.tape,hf.output,by simpa using hf.size,fun b' h1 h2 h3=>by
  rw[cz w b b' cs (fun e=>by subst e;rcases h with h|h|h<;>first|exact h2 h|exact h3 h|omega)];exact hf.qI b' h1 h2 h3,hf.js,hf.ob,hf.ar,hf.wk,hf.yl⟩
theorem Inv.setObj (h:Inv g w V A) (hf:Fr w0 g0 w g) {l b:Nat} {row row':List CV} (hl:V[l]? =some row) (hb:g.ob[l]? =some b) (cs:Array Value) (hs:cs.size=row'.length)
  (hr:∀(j:Nat) c u,row'[j]? =some c->cs[j]? =some u->bn g w A c u):
  Inv g (w.setRow b cs) (V.set l row') A/\Ext g w A g (w.setRow b cs) A/\Fr w0 g0 (w.setRow b cs) g:=by
 obtain⟨hi,cs0,ty,hh,_⟩:=h.obj l row b hl hb;have hx:=Ext.setRow g w A b cs hi;refine⟨⟨by rw[h.o0];simp,h.lT,fun l' rw' b' h1 h2=>?_,fun k r v h1 h2=>?_,h.kZ,h.jr,h.jz,fun b' dN=>h.fresh b' (by simpa using dN)⟩,hx,hf.setRow b cs ((hf.Nn hb).imp_right .inl)⟩
 ·by_cases e:l'=l
  ·subst e;obtain rfl:b=b':=by rw[hb]at h2;exact Option.some.inj h2
   have ax:=(Wo.1 hl).1;simp[ax]at h1;subst h1;exact⟨hi,cs,ty,setRow_heap w b cs0 cs ty (0,0) hh,hs,fun j c u h3 h4=>bn.ext hx (hr j c u h3 h4)⟩
  ·rw[WE (by omega)]at h1;have dj:b'≠b:=fun e'=>e (h.kZ l' l b' h2 (e'▸hb))
   exact h.fA hx h1 h2 (cz w b b' cs dj) (h.obj l' rw' b' h1 h2).1
 ·exact h.fB hx h1 h2 (fun b' dN=>cz w b b' cs (fun e=>by subst e;exact h.jz l k v _ hb h2 dN)) (fun _ _=>rfl)
theorem Inv.qY (h:Inv g w V A) (hf:Fr w0 g0 w g) (r:bu) (v:Value) (xs:List Value) (h1:∀row∈r.rows,row.length=r.sz) (ho:w.ownsRow 0 r.eA r.sz v r.rows.length xs)
  (hr:∀(j:Nat) x u,r.rows.flatten[j]? =some x->xs[j]? =some u->bh g.im w x u)
  (hb:∀b,v.ownBlock=some b->g.im b=0/\w0.heap.size<=b/\(∀l:Nat,g.ob[l]? ≠some b)/\∀(k:Nat) v',g.ar[k]? =some v'->v'.ownBlock≠some b):
  ∃g',g'.im=g.im/\g'.ob=g.ob/\g'.ar=g.ar++[v]/\Inv g' w V (A++[r])/\Ext g w A g' w (A++[r])/\Fr w0 g0 w g':=by
 have hx:Ext g w A {g with ar:=g.ar++[v]} w (A++[r]):=by
  refine⟨fun _ _ h=>h,.refl _ _,fun k r' hk=>⟨r',?_,rfl,Wa _,fun _=>?_⟩⟩
  ·rw[Wq (Wo.1 hk).1];exact hk
  ·show(g.ar++[v])[k]? =_;rw[Wq (by rw[h.lT];exact(Wo.1 hk).1)]
 have dh:∀(k:Nat) (v':Value),(g.ar++[v])[k]? =some v'->g.ar[k]? =some v'\/(k=A.length/\v'=v):=fun k v' hk=>by
  rcases Wk k g.ar.length with h1|h1
  ·rw[Wq h1]at hk;exact .inl hk
  ·rw[Wr h1]at hk;have h0:k-g.ar.length=0:=by
    have:=(Wo.1 hk).1;simp at this;omega
   rw[h0]at hk;simp at hk;exact .inr ⟨by rw[<-h.lT];omega,hk.symm⟩
 refine⟨{g with ar:=g.ar++[v]},rfl,rfl,rfl,⟨h.o0,by simp[h.lT],fun l row b h2 h3=>?_,fun k r' v' h2 h3=>?_,h.kZ,fun k k' v1 v2 b h2 h3 h4 h5=>?_,fun l k v' b h2 h3=>?_,h.fresh⟩,hx,?_⟩
 ·exact h.fA hx h2 h3 rfl (h.obj l row b h2 h3).1
 ·rcases dh k v' h3 with h4|⟨h4,h5⟩
  ·have h6:A[k]? =some r':=by
    have:k<A.length:=by rw[<-h.lT];exact(Wo.1 h4).1
    rwa[Wq this]at h2
   exact h.fB hx h6 h4 (fun _ _=>rfl) (fun _ _=>rfl)
  ·subst h4;subst h5;simp at h2;subst h2;exact⟨h1,fun b hv=>by show g.im b<=_;rw[(hb b hv).1];exact Wc _,xs,ho,hr⟩
 ·rcases dh k v1 h2 with h6|⟨h6,h7⟩<;>rcases dh k' v2 h3 with h8|⟨h8,h9⟩
  ·exact h.jr k k' v1 v2 b h6 h8 h4 h5
  ·subst h9;exact absurd h4 ((hb b h5).2.2.2 k v1 h6)
  ·subst h7;exact absurd h5 ((hb b h4).2.2.2 k' v2 h8)
  ·omega
 ·rcases dh k v' h3 with h4|⟨h4,h5⟩
  ·exact h.jz l k v' b h2 h4
  ·subst h5;intro hv;exact(hb b hv).2.2.1 l h2
 ·refine⟨hf.os,hf.tape,hf.output,hf.size,hf.qI,hf.js,hf.ob,fun k v' b h2 h3=>?_,fun k v' h2=>?_,hf.yl⟩
  ·rcases dh k v' h2 with h4|⟨h4,h5⟩
   ·exact hf.ar k v' b h4 h3
   ·subst h5;exact .inl (hb b h3).2.1
  ·obtain⟨v2,h3,h4⟩:=hf.wk k v' h2;exact⟨v2,by show(g.ar++[v])[k]? =some v2;rw[Wq (Wo.1 h3).1];exact h3,h4⟩
end
theorem lz {α:Type} {sz:Nat}:∀{rows:List (List α)},(∀row∈rows,row.length=sz)->∀{i j:Nat} {row:List α} {x:α},rows[i]? =some row->row[j]? =some x->rows.flatten[i*sz+j]? =some x
 |[],_,i,j,row,x,h,_=>by simp at h
 |r::rs,hl,0,j,row,x,h,hx=>by
  simp at h;subst h;have hj:=(Wo.1 hx).1;simp only[Ws,Wi,We];rw[Wq hj];exact hx
 |r::rs,hl,i+1,j,row,x,h,hx=>by
  simp at h;have hr:r.length=sz:=hl r (by simp);have ih:=lz (fun q hq=>hl q (by simp[hq])) h hx;simp only[Ws];rw[Wr (by rw[hr,Wb];omega)];rwa[show(i+1)*sz+j-r.length=i*sz+j by rw[hr,Wb];omega]
theorem eO {α:Type} {sz:Nat}:∀{rows:List (List α)},(∀row∈rows,row.length=sz)->rows.flatten.length=rows.length*sz
 |[],_=>by simp
 |r::rs,hl=>by
  have hr:r.length=sz:=hl r (by simp);have ih:=eO (rows:=rs) (fun q hq=>hl q (by simp[hq]));simp only[Ws,Wx,WD,ih,hr,Wb];omega
def b9 {α:Type} (l:List α) (off:Nat) (ds:List α):List α:=l.take off++ds++l.drop (off+ds.length)
theorem fR {α:Type} {l:List α} {off:Nat} {ds:List α} (h:off+ds.length<=l.length):(b9 l off ds).length=l.length:=by
 simp[b9];omega
theorem gj {α:Type} {l:List α} {off:Nat} {ds:List α} (h:off+ds.length<=l.length) (j:Nat):(b9 l off ds)[j]? =if off<=j/\j<off+ds.length then ds[j-off]? else l[j]? :=by
 simp only[b9,WH];by_cases h1:j<off
 ·rw[if_neg (by omega),Wq (by simp;omega),Wu,if_pos h1]
 ·by_cases h2:j<off+ds.length
  ·rw[if_pos (by omega),Wr (by simp;omega),Wq (by simp;omega)]
   congr 1;simp;omega
  ·rw[if_neg (by omega),Wr (by simp;omega),Wr (by simp;omega),WB]
   congr 1;simp;omega
theorem o5 {α:Type} {sz:Nat}:∀{rows:List (List α)},(∀row∈rows,row.length=sz)->∀{i off:Nat} {row ds:List α},rows[i]? =some row->off+ds.length<=sz->
  (rows.set i (b9 row off ds)).flatten=b9 rows.flatten (i*sz+off) ds
 |[],_,i,_,row,_,h,_=>by simp at h
 |r::rs,hl,0,off,row,ds,h,ho=>by
  simp at h;subst h;have hr:r.length=sz:=hl r (by simp);simp only[List.set_cons_zero,Ws,Wi,We,b9];rw[List.take_append_of_le_length (by omega),List.drop_append_of_le_length (by omega)];simp
 |r::rs,hl,i+1,off,row,ds,h,ho=>by
  simp at h;have hr:r.length=sz:=hl r (by simp);have ih:=o5 (fun q hq=>hl q (by simp[hq])) h ho;simp only[List.set_cons_succ,Ws,ih];have e:(i+1)*sz+off=r.length+(i*sz+off):=by rw[hr,Wb];omega
  rw[e];simp only[b9,Wd,List.take_length_add_append,List.drop_length_add_append,WH]
section
variable {g g' g0:Gh} {w w' w0:World} {V V':List (List CV)} {A A':List bu} {P:Program}
theorem Bj {im:Nat->Nat} {r:bu} {v:Value} {xs:List Value} (h1:∀row∈r.rows,row.length=r.sz) (ho:w.ownsRow 0 r.eA r.sz v r.rows.length xs)
  (hr:∀(j:Nat) x u,r.rows.flatten[j]? =some x->xs[j]? =some u->bh im w x u) (hi:∀b,v.ownBlock=some b->r.rows.length*r.sz<=im b):bh im w (.sl r.rows) v:=by
 simp only[bh];have s6:=ho;rcases ho.2 with⟨hv,hn⟩|⟨b,cap,cur,hv,_,hh,Df,_,vS,yW⟩
 ·have MM:r.rows=[]:=Wv hn;exact⟨none,0,by rw[hv,hn],by omega,.inl MM⟩
 ·refine⟨some ⟨b,0,none⟩,cap,hv,Df,.inr ⟨b,0,r.sz,rfl,by have:=hi b (by rw[hv];rfl);omega,?_⟩⟩;refine cr.mk fun i row ef=>⟨h1 row (Wt ef),dB.mk fun j x hx=>?_⟩
  have hf:=lz h1 ef hx;have ax:i*r.sz+j<xs.length:=by
   have:=(Wo.1 hf).1;rw[eO h1]at this;rw[s6.1];exact this
  have hu:xs[i*r.sz+j]? =some xs[i*r.sz+j]:=Wp ax;refine⟨_,?_,hr _ x _ hf hu⟩;have hc:=s6.cells (g:=b) (by rw[hv];rfl) _ _ hu;have qZ:(⟨b,0,none⟩:Addr).add (i*r.sz+j)=⟨b,0+i*r.sz+j,none⟩:=by unfold Addr.add;split<;>simp_all
  rwa[qZ]at hc
theorem Inv.seal (h:Inv g w V A) (hf:Fr w0 g0 w g) {k:Nat} {r:bu} {v:Value} (hk:A[k]? =some r) (hv:g.ar[k]? =some v):
  ∃g',Inv g' w V (A.set k {r with wr:=false})/\Ext g w A g' w (A.set k {r with wr:=false})/\Fr w0 g0 w g'/\g'.ar=g.ar/\g'.ob=g.ob/\bh g'.im w (.sl r.rows) v:=by
 obtain⟨h1,h2,xs,ho,hr⟩:=h.arr k r v hk hv
 let im':Nat->Nat:=fun b=>if v.ownBlock=some b then max (g.im b) (r.rows.length*r.sz)else g.im b
 have ym:kj g.im w im' w:=⟨fun b=>by simp only[im'];split<;>omega,fun _ _ _=>rfl⟩;have ax:=(Wo.1 hk).1;have bN:∀k',(A.set k {r with wr:=false})[k']? =if k'=k then some {r with wr:=false}else A[k']? :=fun k'=>by
  by_cases e:k'=k
  ·subst e;simp[ax]
  ·rw[if_neg e,WE (by omega)]
 have hx:Ext g w A {g with im:=im'} w (A.set k {r with wr:=false}):=by
  refine⟨fun _ _ h=>h,ym,fun k' r' o6=>?_⟩;rw[bN];by_cases e:k'=k
  ·subst e;obtain rfl:r=r':=by rw[hk]at o6;exact Option.some.inj o6
   exact⟨{r with wr:=false},by simp,rfl,Wa _,fun _=>rfl⟩
  ·exact⟨r',by simp[e,o6],rfl,Wa _,fun _=>rfl⟩
 have Ji:∀b,v.ownBlock=some b->b<w.heap.size:=fun b hb=>h.mN hv hb
 refine⟨{g with im:=im'},⟨h.o0,by rw[h.lT];simp,fun l row b h3 h4=>?_,fun k' r' v' h3 h4=>?_,h.kZ,h.jr,h.jz,fun b hb=>?_⟩,hx,?_,rfl,rfl,?_⟩
 ·refine h.fA hx h3 h4 rfl ?_;show im' b=0;simp only[im'];rw[if_neg (h.jz l k v b h4 hv)];exact(h.obj l row b h3 h4).1
 ·rw[bN]at h3;by_cases e:k'=k
  ·subst e;simp at h3;subst h3;obtain rfl:v=v':=by rw[hv]at h4;exact Option.some.inj h4
   refine⟨h1,fun b hb=>?_,xs,ho,fun j x u h5 h6=>bh.fL ym x u (hr j x u h5 h6)⟩;show im' b<=_;simp only[im',hb,if_true];have:=h2 b hb;simp only[WY,if_false];split at this<;>omega
  ·simp[e]at h3;refine h.fB hx h3 h4 (fun _ _=>rfl) (fun b hb=>?_);show im' b=g.im b;simp only[im'];rw[if_neg (fun e'=>e (h.jr k' k v' v b h4 hv hb e'))]
 ·show im' b=0;simp only[im'];rw[if_neg (fun e=>by have:=Ji b e;omega)];exact h.fresh b hb
 ·refine⟨hf.os,hf.tape,hf.output,hf.size,hf.qI,fun b hb dN=>?_,hf.ob,hf.ar,hf.wk,hf.yl⟩;show im' b=_;simp only[im'];rw[if_neg (fun e=>by rcases hf.ar k v b hv e with h7|h7;omega;exact dN h7)];exact hf.js b hb dN
 ·exact Bj h1 ho (fun j x u h5 h6=>bh.fL ym x u (hr j x u h5 h6)) (fun b hb=>by simp only[im',hb,if_true];omega)
theorem my (t ty e:TypeId) (i:TypeInfo) (z:Value) (ht:P.underlying t=some (.slice e)) (hi:P.info? e=some i) (hz:i.zero=some z)
  (I3:z.cells.size=i.size) (v:Value) (n:Nat) (xs:List Value) (dP:w.ownsRow 0 e i.size v n xs)
  (y:Value) (m:Nat) (news:List Value) (hy:(m=0/\news=[]/\∃a c,y=.slice a 0 c)\/∃a c,y=.slice (some a) m c/\news.length=m*i.size/\∀j u,news[j]? =some u->w.cell? (a.add j)=some u)
  (h1:∀u∈news,u.oneCell'=true) (SB:n+m<=maxLen) (Ha:(n+m)*i.bytes<=140737488355328):
  ∃v' w',(Builtin.append_ #[t,t] ty #[v,y]).run P w=.ok v' w'/\w'.ownsRow 0 e i.size v' (n+m) (xs++news)/\
   ((v'=v/\w'=w)\/(∃b cs,v.ownBlock=some b/\v'.ownBlock=some b/\w'=w.setRow b cs)\/(∃o,v'.ownBlock=some w.heap.size/\w'=w.drew.alloc o)):=by
 have GJ:xs.length=n*i.size:=dP.1;by_cases hm:m=0
 ·subst hm;have GK:news=[]:=by
   rcases hy with⟨_,h,_⟩|⟨_,_,_,h,_⟩
   ·exact h
   ·exact Wv (by simpa using h)
  obtain⟨a,c,rfl⟩:∃a c,y=.slice a 0 c:=by
   rcases hy with⟨_,_,h⟩|⟨a,c,h,_⟩
   ·exact h
   ·exact⟨some a,c,h⟩
  subst GK;refine⟨v,w,?_,by simpa using dP,.inl ⟨rfl,rfl⟩⟩;have No:∀w:World,(Builtin.firstCells i.size 0 (.slice a 0 c)).run P w=.ok #[] w:=fun w=>by
   cases a<;>simp[Builtin.firstCells,loadCells,loadCellsFrom]
  rcases dP.2 with⟨rfl,rfl⟩|⟨g,cap,cur,rfl,_,_,Df,_⟩
  ·simp[Builtin.append_,run_underlying ht,sizeOf,typeInfo,hi,Builtin.lenOf,No]
  ·simp[Builtin.append_,run_underlying ht,sizeOf,typeInfo,hi,Builtin.lenOf,No,Df,storeCells]
 ·rcases hy with⟨h,_⟩|⟨a,c,rfl,hl,Bk⟩
  ·exact absurd h hm
  have Ql:n+m<=9223372036854775807:=by simp only[maxLen]at SB;omega
  have hlen:(xs++news).length=(n+m)*i.size:=by rw[Wx,dP.1,hl,Wb]
  have grown:∀(Dg:Nat),Dg<n+m->
    (w.drew.alloc (.cells (xs.toArray++news.toArray++Builtin.zeroCells z.cells (grownCap w (n+m) Dg e-(n+m))) e)).ownsRow 0 e i.size
     (.slice (some ⟨w.heap.size,0,none⟩) (n+m) (grownCap w (n+m) Dg e)) (n+m) (xs++news):=by
   intro Dg ho;have oC:=grownCap_ge w (n+m) Dg e;have Np:grownCap w (n+m) Dg e<=maxLen:=grownCap_le_maxLen w (n+m) Dg e SB;refine⟨hlen,.inr ⟨w.heap.size,_,_,rfl,Wc _,heap_alloc_new w.drew _,oC,Np,?_,?_⟩⟩
   ·simp only[Array.size_append,Wy,size_zeroCells,I3,GJ,hl,<-Wb]
    congr 1
    omega
   ·simp only[Array.toList_append,WH];rw[<-WH,<-hlen];exact WM
  rcases dP.2 with⟨rfl,rfl⟩|⟨g,cap,cur,rfl,_,hg,Df,Np,vS,yW⟩
  ·have hx:xs=[]:=Wv (by simpa using GJ);subst hx;have hr:=run_append_nil (P:=P) w t ty e i z ht hi hz a m c news hl Bk (by omega) (by omega) (by have hb:=Ha;simp only[We]at hb;omega);have ym:=grown 0 (by omega);simp only[We,WN,Array.empty_append]at ym⊢;exact⟨_,_,hr,ym,.inr (.inr ⟨_,rfl,rfl⟩)⟩
  ·by_cases Hb:n+m<=cap
   ·have yn:n*i.size+news.length<=cur.size:=by rw[hl,vS,<-Wb];exact Wf _ Hb
    have hr:=run_append_room (P:=P) w t ty e i ht hi g n cap cur hg a m c news hl Bk h1 Hb yn;refine⟨_,_,hr,⟨hlen,.inr ⟨g,cap,_,rfl,Wc _,setRow_heap w g cur _ e _ hg,Hb,Np,?_,?_⟩⟩,.inr (.inl ⟨g,_,rfl,rfl,rfl⟩)⟩
    ·simp only[Wy,Wx,List.length_take,List.length_drop,WV];omega
    ·rw[yW,<-hlen];exact WM
   ·have holds:∀j u,xs[j]? =some u->w.cell? ((⟨g,0,none⟩:Addr).add j)=some u:=dP.cells (g:=g) rfl;have hr:=run_append_grow (P:=P) w t ty e i z ht hi hz ⟨g,0,none⟩ n cap xs GJ holds a m c news hl Bk (by omega) (by omega) (growslice_fits (by omega) Ha);exact⟨_,_,hr,grown cap (by omega),.inr (.inr ⟨_,rfl,rfl⟩)⟩
theorem dA {α:Type} {l:List α} {k:Nat} {x y:α} (h:l[k]? =some x) (k':Nat):(l.set k y)[k']? =if k'=k then some y else l[k']? :=by
 have ax:=(Wo.1 h).1;by_cases e:k'=k
 ·subst e;simp[ax]
 ·rw[if_neg e,WE (by omega)]
theorem Hc {r:bu} {nr:List (List DV)} {e:TypeId} {v':Value} {xs news:List Value} {im:Nat->Nat} (h1:∀row∈r.rows,row.length=r.sz) (hn:∀row∈nr,row.length=r.sz)
  (Jj:xs.length=r.rows.length*r.sz)
  (hr:∀(j:Nat) x u,r.rows.flatten[j]? =some x->xs[j]? =some u->bh im w' x u) (Dh:∀(j:Nat) x u,nr.flatten[j]? =some x->news[j]? =some u->bh im w' x u)
  (ho:w'.ownsRow 0 e r.sz v' (r.rows.length+nr.length) (xs++news)):
  (∀row∈r.rows++nr,row.length=r.sz)/\w'.ownsRow 0 e r.sz v' (r.rows++nr).length (xs++news)/\∀(j:Nat) x u,(r.rows++nr).flatten[j]? =some x->(xs++news)[j]? =some u->bh im w' x u:=by
 refine⟨fun row ef=>?_,by simpa using ho,fun j x u hj hu=>?_⟩
 ·rcases WC.1 ef with h|h
  ·exact h1 row h
  ·exact hn row h
 ·rw[List.flatten_append]at hj;have ya:=eO h1;by_cases ax:j<xs.length
  ·rw[Wq (by omega)]at hj;rw[Wq ax]at hu;exact hr j x u hj hu
  ·rw[Wr (by omega)]at hj;rw[Wr (by omega)]at hu;rw[ya,<-Jj]at hj;exact Dh _ x u hj hu
theorem Inv.grow (h:Inv g w V A) (hf:Fr w0 g0 w g) {k:Nat} {r:bu} {v v':Value} (hk:A[k]? =some r) (hv:g.ar[k]? =some v) (nr:List (List DV)) (dj:nr≠[]) (news:List Value)
  (hn:∀row∈nr,row.length=r.sz) (Dh:∀(j:Nat) x u,nr.flatten[j]? =some x->news[j]? =some u->bh g.im w x u)
  (s6:∀xs,w.ownsRow 0 r.eA r.sz v r.rows.length xs->w'.ownsRow 0 r.eA r.sz v' (r.rows.length+nr.length) (xs++news))
  (hc:(v'=v/\w'=w)\/(∃b cs,v.ownBlock=some b/\v'.ownBlock=some b/\w'=w.setRow b cs)\/(∃o,v'.ownBlock=some w.heap.size/\w'=w.drew.alloc o)):
  ∃g',Inv g' w' V (A.set k {r with rows:=r.rows++nr})/\Ext g w A g' w' (A.set k {r with rows:=r.rows++nr})/\Fr w0 g0 w' g'/\g'.ar[k]? =some v'/\g'.ob=g.ob/\g'.im=g.im:=by
 obtain⟨h1,h2,xs,ho,hr⟩:=h.arr k r v hk hv;have p9:=s6 xs ho;have Nq:rT v+1<=rT v':=by
  rw[rU ho,rU p9];have:=WJ.2 dj;omega
 have ax:=(Wo.1 hk).1;have GL:0<nr.length:=WJ.2 dj;have e5:w.heap.size<=w'.heap.size:=by
  rcases hc with⟨_,rfl⟩|⟨b,cs,_,_,rfl⟩|⟨o,_,rfl⟩
  ·exact Wa _
  ·simp
  ·simp
 have gG:∀b,b<w.heap.size->v.ownBlock≠some b->w'.heap[b]? =w.heap[b]? :=by
  intro b hb dj;rcases hc with⟨_,rfl⟩|⟨b',cs,dN,_,rfl⟩|⟨o,_,rfl⟩
  ·rfl
  ·exact cz w b' b cs (fun e=>dj (by rw[e];exact dN))
  ·exact RowKit.Below.heap_alloc w.drew o b hb
 have oD:∀b o,o<g.im b->w'.cell? ⟨b,o,none⟩=w.cell? ⟨b,o,none⟩:=by
  intro b o GJ;have hb:=h.G7 GJ;by_cases e:v.ownBlock=some b
  ·rcases hc with⟨_,rfl⟩|⟨b',cs,dN,hb'',rfl⟩|⟨o',_,rfl⟩
   ·rfl
   ·obtain rfl:b=b':=by rw[e]at dN;exact Option.some.inj dN
    have hle:=h2 b e;have Nr:o<xs.length:=by rw[ho.1];split at hle<;>omega
    have hu:xs[o]? =some xs[o]:=Wp Nr;have c1:=ho.cells (g:=b) e _ _ hu;have c2:=p9.cells (g:=b) hb'' o xs[o] (by rw[Wq Nr];exact hu);have qZ:(⟨b,0,none⟩:Addr).add o=⟨b,o,none⟩:=by unfold Addr.add;split<;>simp_all
    rw[qZ]at c1 c2;rw[c1,c2]
   ·exact World.cell?_of_block (a:=⟨b,o,none⟩) (RowKit.Below.heap_alloc w.drew o' b hb)
  ·exact World.cell?_of_block (a:=⟨b,o,none⟩) (gG b hb e)
 have ym:kj g.im w g.im w':=⟨fun _=>Wa _,oD⟩;have Fx:g.ar.length=A.length:=h.lT;have hx:Ext g w A {g with ar:=g.ar.set k v'} w' (A.set k {r with rows:=r.rows++nr}):=by
  refine⟨fun _ _ h=>h,ym,fun k' r' o6=>?_⟩;rw[dA hk];by_cases e:k'=k
  ·subst e;obtain rfl:r=r':=by rw[hk]at o6;exact Option.some.inj o6
   exact⟨{r with rows:=r.rows++nr},by simp,rfl,by simp,fun he=>by simp at he;exact absurd he dj⟩
  ·refine⟨r',by simp[e,o6],rfl,Wa _,fun _=>?_⟩;show(g.ar.set k v')[k']? =g.ar[k']?;rw[dA hv,if_neg e]
 have Bb:∀b,v'.ownBlock=some b->(v.ownBlock=some b)\/b=w.heap.size:=by
  intro b hb;rcases hc with⟨rfl,_⟩|⟨b',cs,h3,h4,_⟩|⟨o,h3,_⟩
  ·exact .inl hb
  ·rw[h4]at hb;exact .inl (h3.trans hb)
  ·rw[h3]at hb;exact .inr (Option.some.inj hb).symm
 have qZ:=Hc h1 hn ho.1 (fun j x u hj hu=>bh.fL ym x u (hr j x u hj hu)) (fun j x u hj hu=>bh.fL ym x u (Dh j x u hj hu)) p9;refine⟨{g with ar:=g.ar.set k v'},⟨h.o0,by simp[h.lT],fun l row b h3 h4=>?_,fun k' r' u h3 h4=>?_,h.kZ,fun k1 k2 u1 u2 b h3 h4 h5 h6=>?_,fun l k' u b h3 h4=>?_,fun b hb=>h.fresh b (by omega)⟩,hx,?_,?_,rfl,rfl⟩
 ·exact h.fA hx h3 h4 (gG b (h.qW h4) (h.jz l k v b h4 hv)) (h.obj l row b h3 h4).1
 ·rw[dA hk]at h3;have vC:(g.ar.set k v')[k']? =some u:=h4;rw[dA hv]at vC;by_cases e:k'=k
  ·subst e;simp at h3 vC;subst h3;subst vC;refine⟨qZ.1,fun b hb=>?_,xs++news,qZ.2.1,qZ.2.2⟩;show g.im b<=_;rcases Bb b hb with h5|h5
   ·have:=h2 b h5;simp only[Wx,Wb];cases zX:r.wr<;>simp only[zX,if_true,WY,if_false]at this⊢<;>omega
   ·rw[h.fresh b (by omega)];exact Wc _
  ·simp[e]at h3 vC;refine h.fB hx h3 vC (fun b hb=>gG b (h.mN vC hb) (fun e'=>e (h.jr k' k u v b vC hv hb e'))) (fun _ _=>rfl)
 ·have s7:(g.ar.set k v')[k1]? =some u1:=h3;have vC:(g.ar.set k v')[k2]? =some u2:=h4;rw[dA hv]at s7 vC;by_cases e1:k1=k<;>by_cases e2:k2=k
  ·omega
  ·simp[e1,e2]at s7 vC;subst s7;rcases Bb b h5 with h7|h7
   ·exact absurd (h.jr k2 k u2 v b vC hv h6 h7) e2
   ·have:=h.mN vC h6;omega
  ·simp[e1,e2]at s7 vC;subst vC;rcases Bb b h6 with h7|h7
   ·exact absurd (h.jr k1 k u1 v b s7 hv h5 h7) e1
   ·have:=h.mN s7 h5;omega
  ·simp[e1,e2]at s7 vC;exact h.jr k1 k2 u1 u2 b s7 vC h5 h6
 ·have vC:(g.ar.set k v')[k']? =some u:=h4;rw[dA hv]at vC;by_cases e:k'=k
  ·simp[e]at vC;subst vC;intro hb;rcases Bb b hb with h7|h7
   ·exact h.jz l k v b h3 hv h7
   ·have:=h.qW h3;omega
  ·simp[e]at vC;exact h.jz l k' u b h3 vC
 ·have Qm:w'.os=w.os/\w'.tape=w.tape/\w'.output=w.output:=by
   rcases hc with⟨_,rfl⟩|⟨b,cs,_,_,rfl⟩|⟨o,_,rfl⟩<;>exact⟨rfl,rfl,rfl⟩
  refine⟨Qm.1.trans hf.os,Qm.2.1.trans hf.tape,Qm.2.2.trans hf.output,Wg hf.size e5,fun b h3 h4 vC=>?_,hf.js,hf.ob,fun k' u b h3 h4=>?_,fun k' u h3=>?_,hf.yl⟩
  ·rw[gG b (Wl h3 hf.size) (fun e=>by rcases hf.ar k v b hv e with h7|h7;omega;exact vC h7)];exact hf.qI b h3 h4 vC
  ·have s7:(g.ar.set k v')[k']? =some u:=h3;rw[dA hv]at s7;by_cases e:k'=k
   ·simp[e]at s7;subst s7;rcases Bb b h4 with h7|h7
    ·exact hf.ar k v b hv h7
    ·rw[h7];exact .inl hf.size
   ·simp[e]at s7;exact hf.ar k' u b s7 h4
  ·obtain⟨u1,h4,h5,h6⟩:=hf.wk k' u h3;by_cases e:k'=k
   ·subst e;obtain rfl:v=u1:=by rw[hv]at h4;exact Option.some.inj h4
    refine⟨v',?_,?_⟩
    ·show(g.ar.set k' v')[k']? =some v';rw[dA hv];simp
    ·have hlen:rT v+1<=rT v':=Nq;exact⟨by omega,fun h7=>by omega⟩
   ·refine⟨u1,?_,h5,h6⟩;show(g.ar.set k v')[k']? =some u1;rw[dA hv];simp[e,h4]
 ·show(g.ar.set k v')[k]? =some v';rw[dA hv];simp
theorem Inv.Hd (h:Inv g w V A) (hf:Fr w0 g0 w g) {k:Nat} {r:bu} {v:Value} (hk:A[k]? =some r) (hv:g.ar[k]? =some v) (hw:r.wr=true) {i off b:Nat} {row ds:List DV} (hi:r.rows[i]? =some row)
  (ho:off+ds.length<=r.sz) (hb:v.ownBlock=some b) (vs:List Value) (Fx:vs.length=ds.length) (vU:∀(j:Nat) x u,ds[j]? =some x->vs[j]? =some u->bh g.im w x u):
  ∃cur ty cap,v=.slice (some ⟨b,0,none⟩) r.rows.length cap/\w.heap[b]? =some (.cells cur ty (0,0))/\i*r.sz+off+vs.length<=cur.size/\i*r.sz+off+vs.length<=r.rows.length*r.sz/\
   Inv g (w.setRow b (b9 cur.toList (i*r.sz+off) vs).toArray) V (A.set k {r with rows:=r.rows.set i (b9 row off ds)})/\
   Ext g w A g (w.setRow b (b9 cur.toList (i*r.sz+off) vs).toArray) (A.set k {r with rows:=r.rows.set i (b9 row off ds)})/\Fr w0 g0 (w.setRow b (b9 cur.toList (i*r.sz+off) vs).toArray) g:=by
 obtain⟨h1,h2,xs,dP,hr⟩:=h.arr k r v hk hv;have qX:g.im b=0:=by have:=h2 b hb;rw[hw]at this;simpa using this
 rcases dP.2 with⟨rfl,_⟩|⟨b',cap,cur,rfl,_,hh,Df,Np,vS,yW⟩
 ·simp[Value.ownBlock]at hb
 simp[Value.ownBlock]at hb;subst hb;have ax:=(Wo.1 hi).1;have hmul:(i+1)*r.sz<=r.rows.length*r.sz:=Wf _ ax;have SC:r.rows.length*r.sz<=cap*r.sz:=Wf _ Df;rw[Wb,Wh]at hmul;have yn:i*r.sz+off+vs.length<=r.rows.length*r.sz:=by omega
 have He:i*r.sz+off+vs.length<=cur.size:=by omega
 have dC:=Ext.setRow g w A b' (b9 cur.toList (i*r.sz+off) vs).toArray qX;have hx:Ext g w A g (w.setRow b' (b9 cur.toList (i*r.sz+off) vs).toArray) (A.set k {r with rows:=r.rows.set i (b9 row off ds)}):=by
  refine⟨dC.ob,dC.gr,fun k' r' o6=>?_⟩;rw[dA hk];by_cases e:k'=k
  ·subst e;obtain rfl:r=r':=by rw[hk]at o6;exact Option.some.inj o6
   exact⟨{r with rows:=r.rows.set i (b9 row off ds)},by simp,rfl,by simp,fun _=>rfl⟩
  ·exact⟨r',by simp[e,o6],rfl,Wa _,fun _=>rfl⟩
 refine⟨cur,r.eA,cap,rfl,hh,He,yn,⟨h.o0,by simp[h.lT],fun l row' b h3 h4=>?_,fun k' r' u h3 h4=>?_,h.kZ,h.jr,h.jz,fun b hb=>h.fresh b (by simpa using hb)⟩,hx,hf.setRow b' _ (.inr (hf.ar k _ b' hv rfl))⟩
 ·exact h.fA hx h3 h4 (cz w b' b _ (fun e=>by subst e;exact h.jz l k _ b h4 hv rfl)) (h.obj l row' b h3 h4).1
 ·rw[dA hk]at h3;by_cases e:k'=k
  ·subst e;simp at h3;subst h3;obtain rfl:Value.slice (some ⟨b',0,none⟩) r.rows.length cap=u:=by rw[hv]at h4;exact Option.some.inj h4
   have yo:row.length=r.sz:=h1 row (Wt hi);refine⟨fun q hq=>?_,fun b hb=>?_,b9 xs (i*r.sz+off) vs,?_,fun j x u hj hu=>?_⟩
   ·rcases List.mem_or_eq_of_mem_set hq with h5|h5
    ·exact h1 q h5
    ·rw[h5,fR (by omega)];exact yo
   ·simp[Value.ownBlock]at hb;subst hb;rw[qX];exact Wc _
   ·refine⟨?_,.inr ⟨b',cap,(b9 cur.toList (i*r.sz+off) vs).toArray,?_,Wc _,setRow_heap w b' cur _ r.eA (0,0) hh,by simpa using Df,Np,?_,?_⟩⟩
    ·rw[fR (by rw[dP.1];exact yn)];simpa using dP.1
    ·simp
    ·simp only[Wy];rw[fR (by simpa using He)];simpa using vS
    ·apply WG;intro j;simp only[List.length_set];rw[Wu,gj (by simpa using He),gj (by rw[dP.1];exact yn),<-yW,Wu];split<;>split<;>first|rfl|(rename_i h5 h6;omega)
   ·simp only at hj;rw[o5 h1 hi ho,gj (by rw[eO h1];omega)]at hj;rw[gj (by rw[dP.1];exact yn),Fx]at hu;split at hj
    ·rename_i hc;rw[if_pos hc]at hu;exact bh.fL hx.gr x u (vU _ x u hj hu)
    ·rename_i hc;rw[if_neg hc]at hu;exact bh.fL hx.gr x u (hr j x u hj hu)
  ·simp[e]at h3;refine h.fB hx h3 h4 (fun b hb=>cz w b' b _ (fun e'=>by subst e';exact e (h.jr k' k u _ b h4 hv hb rfl))) (fun _ _=>rfl)
end
structure TD where
 ag:Bool
 sz:Nat
 lS:Nat
 zero:Option (List CV)
 el:Option TypeId
 ar:Option (Nat×TypeId)
 fl:List (Nat×Nat)
 ik:Option IntKind
 cO:Bool
 nz:Bool
def tq:Value->Option CV
 |.int k n=>some (.d (.int k n))
 |.bool b=>some (.d (.bool b))
 |.string s=>some (.d (.str s.data.toList))
 |.slice none 0 0=>some .nil
 |.pointer none=>some .np
 |_=>none
def uH:List Value->Option (List CV)
 |[]=>some []
 |v::r=>match tq v,uH r with
  |some c,some cs=>some (c::cs)
  |_,_=>none
def yp (P:Program):List Field->Option (List (Nat×Nat))
 |[]=>some []
 |f::r=>match P.info? f.type,yp P r with
  |some i,some l=>some ((f.offset,i.size)::l)
  |_,_=>none
def Ez:TypeDesc->Bool|.struct _=>true|.array _ _=>true|_=>false
def Qn:TypeDesc->Option TypeId|.slice e=>some e|_=>none
def Qo:TypeDesc->Option (Nat×TypeId)|.array n e=>some (n,e)|_=>none
def MN (P:Program):TypeDesc->List (Nat×Nat)|.struct fs=>(yp P fs.toList).getD []|_=>[]
def Qp:TypeDesc->Option IntKind|.int k=>some k|_=>none
def Lp:TypeDesc->Bool|.string=>true|_=>false
def Lq:TypeDesc->Bool|.bool=>true|_=>false
def PD:Option Value->Option (List CV)|some z=>uH z.cells.toList|none=>none
def td (P:Program) (t:TypeId):Option TD:=
 match P.underlying t,P.info? t with
 |some d,some i=>some {ag:=Ez d,sz:=i.size,lS:=i.bytes,zero:=PD i.zero,el:=Qn d,ar:=Qo d,fl:=MN P d,ik:=Qp d,cO:=Lp d,nz:=Lq d}
 |_,_=>none
def bF (s:St):Operand->Option AV
 |.tmp t=>look s.fr t
 |.const v=>(tq v).map AV.c
 |.func f=>some (.c (.fn f []))
 |.global _=>none
def bU {α:Type} (o:Option α) (k:α->Prop):Prop:=
 match o with
 |some v=>k v
 |none=>False
def nE (A:List bu):CV->Option DV
 |.d x=>some x
 |.nil=>some (.sl [])
 |.own k n=>match A[k]? with
  |some r=>if n=r.rows.length then some (.sl r.rows)else none
  |none=>none
 |_=>none
def iL (A:List bu):List CV->Option (List DV)
 |[]=>some []
 |c::r=>match nE A c,iL A r with
  |some d,some ds=>some (d::ds)
  |_,_=>none
def kJ (A:List bu):List (List CV)->Option (List (List DV))
 |[]=>some []
 |c::r=>match iL A c,kJ A r with
  |some d,some ds=>some (d::ds)
  |_,_=>none
def fM (A:List bu):CV->List bu
 |.own k _=>match A[k]? with
  |some r=>A.set k {r with wr:=false}
  |none=>A
 |_=>A
def bQ (A:List bu) (cs:List CV):List bu:=cs.foldl fM A
def gQ (s:St) (p:CV) (n:Nat):Option (List CV):=
 match p with
 |.ptr l off=>match s.V[l]? with
  |some row=>if off+n<=row.length then some ((row.drop off).take n)else none
  |none=>none
 |.ip row off=>if off+n<=row.length then some (((row.drop off).take n).map CV.d)else none
 |.op k m i off=>match s.A[k]? with
  |some r=>if m=r.rows.length then
    match r.rows[i]? with
    |some row=>if off+n<=row.length then some (((row.drop off).take n).map CV.d)else none
    |none=>none
   else none
  |none=>none
 |_=>none
def Fy (ag:Bool) (cs:List CV):Option AV:=
 if ag then some (.agg cs)else
 match cs with
 |[c]=>some (.c c)
 |_=>none
def AV.plain:AV->Bool
 |.a8 _=>false
 |.c x=> !x.j5
 |.agg xs=>xs.all fun x=> !x.j5
def Bl (op:BinOp) (k:IntKind) (x y:Int):Int:=
 match op with
 |.and=>k.wrap (BitVec.ofInt k.bits x &&& BitVec.ofInt k.bits y).toNat
 |.or=>k.wrap (BitVec.ofInt k.bits x|||BitVec.ofInt k.bits y).toNat
 |.xor=>k.wrap (BitVec.ofInt k.bits x ^^^ BitVec.ofInt k.bits y).toNat
 |_=>0
def zY (op:BinOp) (x y:AV):Option AV:=
 match x,y with
 |.c (.d (.int k a)),.c (.d (.int k' b))=>
  if k=k' then
   match op with
   |.add=>some (.c (.d (.int k (k.wrap (a+b)))))
   |.sub=>some (.c (.d (.int k (k.wrap (a-b)))))
   |.mul=>some (.c (.d (.int k (k.wrap (a*b)))))
   |.quo=>if b=0 then none else some (.c (.d (.int k (k.wrap (a.tdiv b)))))
   |.rem=>if b=0 then none else some (.c (.d (.int k (a.tmod b))))
   |.eql=>some (.c (.d (.bool (a==b))))
   |.neq=>some (.c (.d (.bool (a !=b))))
   |.lss=>some (.c (.d (.bool (a<b))))
   |.leq=>some (.c (.d (.bool (a<=b))))
   |.gtr=>some (.c (.d (.bool (a>b))))
   |.geq=>some (.c (.d (.bool (a>=b))))
   |.and=>some (.c (.d (.int k (Bl .and k a b))))
   |.or=>some (.c (.d (.int k (Bl .or k a b))))
   |.xor=>some (.c (.d (.int k (Bl .xor k a b))))
   |.shl=>if b<0 then none else some (.c (.d (.int k (k.wrap (a*2 ^ min b.toNat k.bits)))))
   |.shr=>if b<0 then none else some (.c (.d (.int k (a.fdiv (2 ^ min b.toNat k.bits)))))
   |_=>none
  else none
 |.c (.d (.str a)),.c (.d (.str b))=>
  match op with
  |.add=>if a.length+b.length<=4611686018427387904 then some (.c (.d (.str (a++b))))else none
  |.eql=>some (.c (.d (.bool (a==b))))
  |.neq=>some (.c (.d (.bool (!(a==b)))))
  |.lss=>some (.c (.d (.bool (Op.bytesLess a b))))
  |.leq=>some (.c (.d (.bool (Op.bytesLess a b||a==b))))
  |.gtr=>some (.c (.d (.bool (!(Op.bytesLess a b||a==b)))))
  |.geq=>some (.c (.d (.bool (!(Op.bytesLess a b)))))
  |_=>none
 |_,_=>none
def rV (op:BinOp) (x y:AV):Option AV:=
 match x,y with
 |.c (.d (.bool a)),.c (.d (.bool b))=>
  match op with
  |.eql=>some (.c (.d (.bool (a==b))))
  |.neq=>some (.c (.d (.bool (!(a==b)))))
  |_=>none
 |_,_=>none
def zZ:TypeDesc->Option Nat
 |.int _=>some 0
 |.bool=>some 1
 |.string=>some 2
 |_=>none
def Ns (P:Program):Nat->List Field->Option (List Nat)
 |_,[]=>some []
 |i,f::r=>match P.underlying f.type with
  |some d=>match zZ d,Ns P (i+1) r with
   |some k,some ks=>if f.name≠ "_" /\f.offset=i then some (k::ks)else none
   |_,_=>none
  |none=>none
def sq (P:Program) (t:TypeId):Option (List Nat):=
 match P.underlying t with
 |some (.struct fs)=>if P.stoodInHeld t=false/\P.eqGuardType P.depth t=false then Ns P 0 fs.toList else none
 |_=>none
def EA:List Nat->List CV->List CV->Option Bool
 |[],[],[]=>some true
 |0::ks,.d (.int k a)::xs,.d (.int k' b)::ys=>if k=k' then(EA ks xs ys).map fun r=>(a==b)&& r else none
 |1::ks,.d (.bool a)::xs,.d (.bool b)::ys=>(EA ks xs ys).map fun r=>(a==b)&& r
 |2::ks,.d (.str a)::xs,.d (.str b)::ys=>(EA ks xs ys).map fun r=>(a==b)&& r
 |_,_,_=>none
def rW (P:Program) (op:BinOp) (t:TypeId) (x y:AV):Option AV:=
 match x,y with
 |.agg xs,.agg ys=>match sq P t with
  |some ks=>match EA ks xs ys with
   |some r=>match op with
    |.eql=>some (.c (.d (.bool r)))
    |.neq=>some (.c (.d (.bool (!r))))
    |_=>none
   |none=>none
  |none=>none
 |_,_=>none
def Jk (op:UnOp) (x:AV):Option AV:=
 match op,x with
 |.not,.c (.d (.bool b))=>some (.c (.d (.bool (!b))))
 |.neg,.c (.d (.int k n))=>some (.c (.d (.int k (k.wrap (0-n)))))
 |_,_=>none
def oE (fl:List (Nat×Nat)):List CV->List (Nat×List CV)->Option (List CV)
 |cells,[]=>some cells
 |cells,(i,x)::r=>
  match fl[i]? with
  |none=>none
  |some (off,size)=>if x.length=size/\off+size<=cells.length then oE fl (b9 cells off x) r else none
def iM (s:St):List (Nat×Operand)->Option (List (Nat×List CV))
 |[]=>some []
 |(i,x)::r=>match bF s x,iM s r with
  |some v,some l=>if v.plain then some ((i,v.cells)::l)else none
  |_,_=>none
def kk (s:St) (sz:Nat):Nat->List (Nat×Operand)->Option (List (List CV))
 |_,[]=>some []
 |k,(i,x)::r=>match bF s x,kk s sz (k+1) r with
  |some v,some l=>if i=k/\v.plain/\v.cells.length=sz then some (v.cells::l)else none
  |_,_=>none
def Hf:List AV->Option (List Nat)
 |[]=>some []
 |.c (.ptr l 0)::r=>(Hf r).map (l::·)
 |_=>none
def iz (s:St):List Operand->Option (List AV)
 |[]=>some []
 |x::r=>match bF s x,iz s r with
  |some v,some l=>some (v::l)
  |_,_=>none
def z6:AV->Option Nat
 |.c (.d (.str b))=>some b.length
 |.c (.d (.sl rows))=>some rows.length
 |.c .nil=>some 0
 |.c (.own _ n)=>some n
 |_=>none
def rowsOf (A:List bu):AV->Option (List (List DV))
 |.c (.d (.sl rows))=>some rows
 |.c .nil=>some []
 |.c (.own k n)=>match A[k]? with
  |some r=>if n=r.rows.length then some r.rows else none
  |none=>none
 |_=>none
def yX:List DV->Option UInt8
 |[.int .u8 n]=>if 0<=n/\n<256 then some (UInt8.ofNat n.toNat)else none
 |_=>none
def bytesOf:List (List DV)->Option (List UInt8)
 |[]=>some []
 |r::rs=>match yX r,bytesOf rs with
  |some b,some l=>some (b::l)
  |_,_=>none
def rX (lo:Option AV):Option Int:=
 match lo with
 |none=>some 0
 |some (.c (.d (.int _ n)))=>some n
 |_=>none
def mO (hi:Option AV) (n:Nat):Option Int:=
 match hi with
 |none=>some n
 |some (.c (.d (.int _ n)))=>some n
 |_=>none
def mz (s:St):Option Operand->Option (Option AV)
 |none=>some none
 |some x=>(bF s x).map some
@[simp] def SD (dd:TD) (n:Int):Option DV:=match dd.ik with
 |some k=>some (.int k (k.wrap n))
 |none=>if dd.cO=true/\0<=n/\n<128 then some (.str [UInt8.ofNat n.toNat])else none
def eS (P:Program) (s:St) (ow:Bool) (op:Op) (K:AV->List (List CV)->List bu->Prop):Prop:=
 match op with
 |.move x|.assign x=>bU (bF s x) fun v=>K v s.V s.A
 |.pick c a b=>bU (bF s c) fun v=>match v with
  |.c (.d (.bool t))=>if t=true then bU (bF s a) fun v=>K v s.V s.A else bU (bF s b) fun v=>K v s.V s.A
  |_=>False
 |.alloc e=>bU (td P e) fun d=>bU d.zero fun z=>K (.c (.ptr s.V.length 0)) (s.V++[z]) s.A
 |.box _ x=>bU (bF s x) fun v=>v.plain=true/\K (.c (.ptr s.V.length 0)) (s.V++[v.cells]) s.A
 |.build t parts=>bU (td P t) fun d=>bU d.zero fun z=>bU (iM s parts.toList) fun ps=>bU (oE d.fl z ps) fun cs=>d.ar=none/\d.fl≠[]/\K (.agg cs) s.V s.A
 |.buildSlice t len parts=>bU (td P t) fun d=>bU d.el fun e=>bU (td P e) fun de=>bU (kk s de.sz 0 parts.toList) fun rows=>
   bU (kJ s.A rows) fun ds=>rows.length=len/\len*de.sz<=16777216/\0<de.sz/\de.zero.isSome=true/\
    if ow then K (.c (.own s.A.length len)) s.V (bQ s.A rows.flatten++[{sz:=de.sz,eA:=e,rows:=ds,wr:=true}])else K (.c (.d (.sl ds))) s.V (bQ s.A rows.flatten)
 |.load t a=>bU (td P t) fun d=>bU (bF s a) fun p=>match p with
  |.c p=>bU (gQ s p d.sz) fun cs=>bU (Fy d.ag cs) fun v=>K v s.V s.A
  |_=>False
 |.store t a x=>bU (td P t) fun d=>bU (bF s a) fun p=>bU (bF s x) fun v=>v.plain=true/\v.cells.length=d.sz/\match p with
  |.c (.ptr l off)=>bU s.V[l]? fun row=>off+d.sz<=row.length/\K (.c .undef) (s.V.set l (b9 row off v.cells)) s.A
  |.c (.op k n i off)=>bU s.A[k]? fun r=>n=r.rows.length/\r.wr=true/\bU r.rows[i]? fun row=>bU (iL s.A v.cells) fun ds=>off+d.sz<=r.sz/\(v.cells.all fun c=>match c with|.own k' _=>k'≠k|_=>true)=true/\
    K (.c .undef) s.V ((bQ s.A v.cells).set k {r with rows:=r.rows.set i (b9 row off ds)})
  |_=>False
 |.nilCheck x=>bU (bF s x) fun v=>match v with
  |.c (.ptr l off)=>K (.c (.ptr l off)) s.V s.A
  |.c (.ip r off)=>K (.c (.ip r off)) s.V s.A
  |.c (.op k n i off)=>K (.c (.op k n i off)) s.V s.A
  |.c (.fn f cap)=>K (.c (.fn f cap)) s.V s.A
  |_=>False
 |.binOp op t x y _=>bU (bF s x) fun a=>bU (bF s y) fun b=>match zY op a b with
  |some v=>K v s.V s.A
  |none=>match rW P op t a b with
   |some v=>K v s.V s.A
   |none=>bU (rV op a b) fun v=>bU (td P t) fun d=>d.nz=true/\K v s.V s.A
 |.unOp op _ x=>bU (bF s x) fun a=>bU (Jk op a) fun v=>K v s.V s.A
 |.convert src dst x=>bU (bF s x) fun a=>bU (td P src) fun ds=>bU (td P dst) fun dd=>match a with
  |.c (.d (.int _ n))=>bU (SD dd n) fun d=>K (.c (.d d)) s.V s.A
  |.c (.d (.str b))=>dd.cO=true/\ds.cO=true/\K (.c (.d (.str b))) s.V s.A
  |.c (.d (.sl rows))=>dd.cO=true/\bU ds.el fun e=>bU (td P e) fun de=>de.ik=some .u8/\bU (bytesOf rows) fun b=>K (.c (.d (.str b))) s.V s.A
  |_=>False
 |.makeFunc (.func f) first captured=>first.size=0/\bU (iz s captured.toList) fun cs=>bU (Hf cs) fun ls=>K (.c (.fn f ls)) s.V s.A
 |.makeSlice t l c=>bU (td P t) fun d=>bU d.el fun e=>bU (td P e) fun de=>bU de.zero fun z=>bU (iL s.A z) fun dz=>bU (bF s l) fun vl=>bU (bF s c) fun vc=>match vl,vc with
  |.c (.d (.int _ n)),.c (.d (.int _ m))=>n=m/\0<=n/\n.toNat*de.lS<=140737488355328/\n.toNat<=9223372036854775807/\0<de.sz/\z.length=de.sz/\
    K (.c (.own s.A.length n.toNat)) s.V (s.A++[{sz:=de.sz,eA:=e,rows:=Wz n.toNat dz,wr:=true}])
  |_,_=>False
 |.slice t x lo hi mx=>mx=none/\bU (td P t) fun d=>bU (bF s x) fun v=>bU (mz s lo) fun l=>bU (mz s hi) fun h=>match v with
  |.c (.d (.str b))=>d.cO=true/\bU (rX l) fun i=>bU (mO h b.length) fun j=>0<=i/\i<=j/\j<=b.length/\K (.c (.d (.str ((b.take j.toNat).drop i.toNat)))) s.V s.A
  |v=>bU (rowsOf s.A v) fun rows=>bU d.el fun e=>bU (td P e) fun de=>bU (rX l) fun i=>bU (mO h rows.length) fun j=>0<=i/\i<=j/\j<=rows.length/\(∀r∈rows,r.length=de.sz)/\
    K (.c (.d (.sl ((rows.take j.toNat).drop i.toNat)))) s.V (bQ s.A v.cells)
 |.fieldAddr t x f=>bU (td P t) fun d=>bU d.fl[f]? fun(off,sz)=>sz≠0/\bU (bF s x) fun v=>match v with
  |.c (.ptr l o)=>K (.c (.ptr l (o+off))) s.V s.A
  |.c (.ip r o)=>K (.c (.ip r (o+off))) s.V s.A
  |.c (.op k n i o)=>K (.c (.op k n i (o+off))) s.V s.A
  |_=>False
 |.indexAddr t x ix=>bU (td P t) fun d=>bU (bF s x) fun v=>bU (bF s ix) fun i=>match i with
  |.c (.d (.int _ n))=>0<=n/\(match v with
   |.c (.d (.sl rows))=>bU d.el fun e=>bU (td P e) fun de=>bU rows[n.toNat]? fun row=>row.length=de.sz/\K (.c (.ip row 0)) s.V s.A
   |.c (.own k m)=>bU d.el fun e=>bU (td P e) fun de=>bU s.A[k]? fun r=>m=r.rows.length/\n.toNat<m/\r.sz=de.sz/\K (.c (.op k m n.toNat 0)) s.V s.A
   |.c (.ptr l off)=>bU d.ar fun(len,e)=>bU (td P e) fun de=>n<len/\K (.c (.ptr l (off+n.toNat*de.sz))) s.V s.A
   |_=>False)
  |_=>False
 |.index t x ix=>bU (td P t) fun d=>bU (bF s x) fun v=>bU (bF s ix) fun i=>match v,i with
  |.c (.d (.str b)),.c (.d (.int _ n))=>d.cO=true/\0<=n/\bU b[n.toNat]? fun c=>K (.c (.d (.int .u8 c.toNat))) s.V s.A
  |.agg xs,.c (.d (.int _ n))=>bU d.ar fun(len,e)=>bU (td P e) fun de=>de.ag=false/\de.sz=1/\0<=n/\n<len/\bU xs[n.toNat]? fun c=>K (.c c) s.V s.A
  |_,_=>False
 |.extract x i=>bU (bF s x) fun v=>match v with
  |.a8 xs=>bU xs[i]? fun u=>match u with
   |.a8 _=>False
   |u=>K u s.V s.A
  |_=>False
 |.call {callee:=.builtin .len,args,argTypes}=>bU args[0]? fun x=>bU (bF s x) fun v=>bU argTypes[0]? fun t=>bU (td P t) fun d=>bU (z6 v) fun n=>(d.cO=true\/d.el.isSome=true)/\
   (match v with|.c (.d (.str _))=>d.cO=true|_=>d.el.isSome=true)/\K (.c (.d (.int .i64 n))) s.V s.A
 |.call {callee:=.builtin .append,args,argTypes}=>bU args[0]? fun x=>bU args[1]? fun y=>bU argTypes[0]? fun t=>argTypes[1]? =some t/\bU (td P t) fun d=>bU d.el fun e=>bU (td P e) fun de=>
   de.zero.isSome=true/\(bU de.zero fun z=>z.length=de.sz)/\bU (bF s x) fun v=>bU (bF s y) fun u=>bU (rowsOf s.A u) fun nr=>(∀r∈nr,r.length=de.sz)/\match v with
  |.c (.own k n)=>bU s.A[k]? fun r=>n=r.rows.length/\r.eA=e/\r.sz=de.sz/\(n+nr.length)*de.lS<=140737488355328/\n+nr.length<=9223372036854775807/\
    if ow then K (.c (.d (.sl (r.rows++nr)))) s.V (s.A.set k {r with rows:=r.rows++nr,wr:=false})else K (.c (.own k (n+nr.length))) s.V (s.A.set k {r with rows:=r.rows++nr})
  |.c .nil=>nr.length*de.lS<=140737488355328/\nr.length<=9223372036854775807/\
    if ow then K (.c (.d (.sl nr))) s.V (s.A++[{sz:=de.sz,eA:=e,rows:=nr,wr:=false}])else K (.c (.own s.A.length nr.length)) s.V (s.A++[{sz:=de.sz,eA:=e,rows:=nr,wr:=true}])
  |_=>False
 |.call {callee:=.builtin .max,args,.. }=>bU args[0]? fun x=>bU args[1]? fun y=>args.size=2/\bU (bF s x) fun v=>bU (bF s y) fun u=>match v,u with
  |.c (.d (.int k a)),.c (.d (.int _ b))=>K (.c (.d (.int k (if b>a then b else a)))) s.V s.A
  |_,_=>False
 |.call {callee:=.builtin .min,args,.. }=>bU args[0]? fun x=>bU args[1]? fun y=>args.size=2/\bU (bF s x) fun v=>bU (bF s y) fun u=>match v,u with
  |.c (.d (.int k a)),.c (.d (.int _ b))=>K (.c (.d (.int k (if b<a then b else a)))) s.V s.A
  |_,_=>False
 |_=>False
theorem cC {α:Type} {o:Option α} {k:α->Prop} (h:bU o k):∃v,o=some v/\k v:=by
 cases o with
 |none=>exact h.elim
 |some v=>exact⟨v,rfl,h⟩
theorem lA {P:Program} {t:TypeId} {d:TD} (h:td P t=some d):∃de i,P.underlying t=some de/\P.info? t=some i/\d={ag:=Ez de,sz:=i.size,lS:=i.bytes,zero:=PD i.zero,el:=Qn de,ar:=Qo de,fl:=MN P de,ik:=Qp de,cO:=Lp de,nz:=Lq de}:=by
 unfold td at h;cases hu:P.underlying t with
 |none=>simp[hu]at h
 |some de=>
  cases hi:P.info? t with
  |none=>simp[hu,hi]at h
  |some i=>simp only[hu,hi]at h;exact⟨de,i,rfl,rfl,(Option.some.inj h).symm⟩
theorem mP {P:Program} {t e:TypeId} {d:TD} (h:td P t=some d) (he:d.el=some e):P.underlying t=some (.slice e):=by
 obtain⟨de,i,hu,_,rfl⟩:=lA h;cases de<;>simp[Qn]at he
 subst he;exact hu
theorem KA {P:Program} {t e:TypeId} {n:Nat} {d:TD} (h:td P t=some d) (he:d.ar=some (n,e)):P.underlying t=some (.array n e):=by
 obtain⟨de,i,hu,_,rfl⟩:=lA h;cases de<;>simp[Qo]at he
 obtain⟨rfl,rfl⟩:=he;exact hu
theorem gx {P:Program} {t:TypeId} {d:TD} (h:td P t=some d):∃i,P.info? t=some i/\i.size=d.sz/\i.bytes=d.lS/\∀z,d.zero=some z->∃v,i.zero=some v/\uH v.cells.toList=some z:=by
 obtain⟨de,i,_,hi,rfl⟩:=lA h;refine⟨i,hi,rfl,rfl,fun z hz=>?_⟩;cases MO:i.zero with
 |none=>simp[PD,MO]at hz
 |some v=>exact⟨v,rfl,by simpa[PD,MO]using hz⟩
theorem q8 {P:Program} {t:TypeId} {d:TD} (h:td P t=some d) (he:d.cO=true):P.underlying t=some .string:=by
 obtain⟨de,i,hu,_,rfl⟩:=lA h;cases de<;>simp[Lp]at he
 exact hu
theorem Lr {P:Program} {t:TypeId} {d:TD} (h:td P t=some d) (he:d.nz=true):P.underlying t=some .bool:=by
 obtain⟨de,i,hu,_,rfl⟩:=lA h;cases de<;>simp[Lq]at he
 exact hu
theorem KB {P:Program} {t:TypeId} {d:TD} {k:IntKind} (h:td P t=some d) (he:d.ik=some k):P.underlying t=some (.int k):=by
 obtain⟨de,i,hu,_,rfl⟩:=lA h;cases de<;>simp[Qp]at he
 subst he;exact hu
theorem EB (s:ByteArray):bs s.data.toList=s:=by simp[bs]
theorem tt (l:List UInt8):(bs l).toList=l:=by rw[ByteArray.toList_eq];simp[bs]
theorem qa (l:List UInt8):(bs l).size=l.length:=by simp[bs,ByteArray.size]
section
variable {P:Program} {g g' g0:Gh} {w w' w0:World} {V V':List (List CV)} {A A':List bu} {s:St} {a:Act}
theorem nF {v:Value} {c:CV} (h:tq v=some c):bn g w A c v:=by
 unfold tq at h;split at h<;>first|(simp at h;done)|(simp at h;subst h;simp only[bn,bh])|skip
 rw[EB]
theorem iW:∀{vs:List Value} {cs:List CV},uH vs=some cs->vs.length=cs.length
 |[],cs,h=>by simp[uH]at h;subst h;rfl
 |v::r,cs,h=>by
  simp only[uH]at h;split at h
  ·rename_i c cs' h1 h2;simp at h;subst h;simp[iW h2]
  ·simp at h
theorem o7:∀{vs:List Value} {cs:List CV},uH vs=some cs->∀(j:Nat) c u,cs[j]? =some c->vs[j]? =some u->tq u=some c
 |[],cs,h,j,c,u,hc,hu=>by simp at hu
 |v::r,cs,h,j,c,u,hc,hu=>by
  simp only[uH]at h;split at h
  ·rename_i c' cs' h1 h2;simp at h;subst h;cases j with
   |zero=>simp at hc hu;subst hc;subst hu;exact h1
   |succ j=>simp at hc hu;exact o7 h2 j c u hc hu
  ·simp at h
theorem aJ (hS:∀t x,look s.fr t=some x->∃u,a.tmps[t]? =some u/\aO g w s.A x u) {o:Operand} {x:AV} (h:bF s o=some x):aO g w s.A x (a.eval o):=by
 cases o with
 |tmp t=>
  obtain⟨u,hu,hr⟩:=hS t x h;simpa[Act.eval,hu]using hr
 |const v=>
  simp only[bF,WZ]at h;obtain⟨c,hc,rfl⟩:=h;exact nF (g:=g) (w:=w) (A:=s.A) hc
 |func f=>
  simp only[bF,Option.some.injEq]at h;subst h;exact⟨[],rfl,rfl,fun i l b h=>by simp at h⟩
 |«global»g=>simp[bF]at h
def dL (P:Program) (w0:World) (g0 g:Gh) (w:World) (A:List bu) (m:Sem Next) (K:AV->List (List CV)->List bu->Prop):Prop:=
 ∃x V' A' nx v w' g',K x V' A'/\m.run P w=.ok nx w'/\(nx=.value v\/(nx=.skip/\v=undef))/\aO g' w' A' x v/\Inv g' w' V' A'/\Ext g w A g' w' A'/\Fr w0 g0 w' g'
theorem dL.value (hI:Inv g w V A) (hF:Fr w0 g0 w g) {m:Sem Next} {K:AV->List (List CV)->List bu->Prop} {x:AV} {v:Value} (hm:m.run P w=.ok (.value v) w) (hr:aO g w A x v) (hK:K x V A):dL P w0 g0 g w A m K:=
 ⟨x,V,A,_,v,w,g,hK,hm,.inl rfl,hr,hI,.refl _ _ _,hF⟩
theorem nG (w:World) (b off n:Nat) (Q:Nat->Value->Prop) (h:∀j,j<n->∃u,w.cell? ⟨b,off+j,none⟩=some u/\Q j u):
  ∃vs:List Value,vs.length=n/\∀(j:Nat) u,vs[j]? =some u->w.cell? ⟨b,off+j,none⟩=some u/\Q j u:=by
 refine⟨(List.range n).map fun j=>(w.cell? ⟨b,off+j,none⟩).getD undef,by simp,fun j u hu=>?_⟩;have hj:j<n:=by
  have:=(Wo.1 hu).1;simpa using this
 simp[hj]at hu;obtain⟨u',h1,h2⟩:=h j hj;rw[h1]at hu;simp at hu;subst hu;exact⟨h1,h2⟩
def km (g:Gh) (w:World) (A:List bu) (cs:List CV) (vs:List Value):Prop:=vs.length=cs.length/\∀(j:Nat) c u,cs[j]? =some c->vs[j]? =some u->bn g w A c u
theorem qJ (hI:Inv g w s.V s.A) {p:CV} {v:Value} {n:Nat} {cs:List CV} (hp:bn g w s.A p v) (h:gQ s p n=some cs):
  ∃b off vs,v=.pointer (some ⟨b,off,none⟩)/\cs.length=n/\km g w s.A cs vs/\∀(j:Nat) u,vs[j]? =some u->w.cell? ⟨b,off+j,none⟩=some u:=by
 unfold gQ at h;split at h
 ·-- an object
  rename_i l off;split at h
  ·rename_i row ef;split at h
   ·rename_i hle;simp at h;subst h;obtain⟨b,hb,rfl⟩:=hp;obtain⟨_,cells,ty,hh,hs,hr⟩:=hI.obj l row b ef hb;obtain⟨vs,hl,hv⟩:=nG w b off n (fun j u=>∀c,row[off+j]? =some c->bn g w s.A c u) (fun j hj=>by
     have Hg:off+j<cells.size:=by omega
     refine⟨cells[off+j],by simp[World.cell?,hh,Hg],fun c hc=>hr (off+j) c _ hc (by simp[Hg])⟩)
    refine⟨b,off,vs,rfl,by simp;omega,⟨by simp;omega,fun j c u h1 h2=>(hv j u h2).2 c ?_⟩,fun j u hu=>(hv j u hu).1⟩;rw[Wu]at h1;split at h1
    ·rwa[WB]at h1
    ·cases h1
   ·simp at h
  ·simp at h
 ·rename_i row off;split at h
  ·rename_i hle;simp at h;subst h;obtain⟨b,o,rfl,hi,hr⟩:=hp;obtain⟨vs,hl,hv⟩:=nG w b (o+off) n (fun j u=>∀x,row[off+j]? =some x->bh g.im w x u) (fun j hj=>by
    have hx:row[off+j]? =some row[off+j]:=Wp (by omega);obtain⟨u,h1,h2⟩:=dB.at_ hr hx;refine⟨u,by rw[Wd];exact h1,fun x h3=>?_⟩;rw[hx]at h3;cases h3;exact h2)
   refine⟨b,o+off,vs,rfl,by simp;omega,⟨by simp;omega,fun j c u h1 h2=>?_⟩,fun j u hu=>(hv j u hu).1⟩;simp only[Wu]at h1;split at h1
   ·rw[WB,WQ,WZ]at h1;obtain⟨x,h3,rfl⟩:=h1;exact(hv j u h2).2 x h3
   ·cases h1
  ·simp at h
 ·rename_i k m i off;split at h
  ·rename_i r hk;split at h
   ·rename_i hm;split at h
    ·rename_i row ef;split at h
     ·rename_i hle;simp at h;subst h;obtain⟨b,e,rfl,r',o6,hn,hq⟩:=hp;obtain rfl:r=r':=by rw[hk]at o6;exact Option.some.inj o6
      obtain⟨cap,Di,rfl⟩:=hq hm;obtain⟨h1,_,xs,dP,hr⟩:=hI.arr k r _ hk Di;have yo:row.length=r.sz:=h1 row (Wt ef);obtain⟨vs,hl,hv⟩:=nG w b (i*r.sz+off) n (fun j u=>∀x,row[off+j]? =some x->bh g.im w x u) (fun j hj=>by
       have hx:row[off+j]? =some row[off+j]:=Wp (by omega);have hf:=lz h1 ef hx;have ax:i*r.sz+(off+j)<xs.length:=by
        have:=(Wo.1 hf).1;rw[eO h1]at this;rw[dP.1];exact this
       have hu:xs[i*r.sz+(off+j)]? =some xs[i*r.sz+(off+j)]:=Wp ax;have hc:=dP.cells (g:=b) rfl _ _ hu;have qZ:(⟨b,0,none⟩:Addr).add (i*r.sz+(off+j))=⟨b,i*r.sz+off+j,none⟩:=by unfold Addr.add;split<;>simp_all[Wd]
       rw[qZ]at hc;refine⟨_,hc,fun x h3=>?_⟩;rw[hx]at h3;cases h3;exact hr _ _ _ hf hu)
      refine⟨b,i*r.sz+off,vs,rfl,by simp;omega,⟨by simp;omega,fun j c u h1 h2=>?_⟩,fun j u hu=>(hv j u hu).1⟩;simp only[Wu]at h1;split at h1
      ·rw[WB,WQ,WZ]at h1;obtain⟨x,h3,rfl⟩:=h1;exact(hv j u h2).2 x h3
      ·cases h1
     ·simp at h
    ·simp at h
   ·simp at h
  ·simp at h
 ·simp at h
theorem mQ (b off j:Nat):(⟨b,off,none⟩:Addr).add j=⟨b,off+j,none⟩:=by unfold Addr.add;split<;>simp_all
theorem mA {t:TypeId} {d:TD} (ht:td P t=some d) {b off:Nat} {vs:List Value} (hv:∀(j:Nat) u,vs[j]? =some u->w.cell? ⟨b,off+j,none⟩=some u) (hl:vs.length=d.sz):
  (d.ag=true->(Instr.loadAt t (.pointer (some ⟨b,off,none⟩))).run P w=.ok (.agg vs.toArray) w)/\
  (d.ag=false->∀u,vs=[u]->(Instr.loadAt t (.pointer (some ⟨b,off,none⟩))).run P w=.ok u w):=by
 obtain⟨de,i,hu,hi,rfl⟩:=lA ht;have SE:=run_loadCells_list (P:=P) w ⟨b,off,none⟩ vs (fun j u h=>by rw[mQ];exact hv j u h);simp only at hl⊢;rw[hl]at SE;have Jl:(isAgg t).run P w=.ok (Ez de) w:=by
  simp only[isAgg,Sem.run_bind,run_underlying hu,Result.andThen_ok];cases de<;>rfl
 have e5:(sizeOf t).run P w=.ok i.size w:=by simp[sizeOf,typeInfo,hi]
 constructor
 ·intro ha;show(loadVar t ⟨b,off,none⟩).run P w=_;unfold loadVar;rw[Sem.run_bind,Jl,ha];simp only[Result.andThen_ok,if_true,Sem.run_bind,e5,SE,Sem.run_pure]
 ·intro ha u T8;have hc:=hv 0 u (by rw[T8];rfl);simp only[Wm]at hc;show(loadVar t ⟨b,off,none⟩).run P w=_;unfold loadVar;rw[Sem.run_bind,Jl,ha];simp only[Result.andThen_ok,WY,if_false,run_load,hc]
theorem AV.gH {x:AV} {v:Value} (h:aO g w A x v) (hp:x.plain=true):km g w A x.cells v.cells.toList/\∀u∈v.cells.toList,u.oneCell'=true:=by
 cases x with
 |a8 xs=>simp[AV.plain]at hp
 |c x=>
  simp[AV.plain]at hp;have hc:bn g w A x v:=h;have h1:=bn.l5 hp hc;have vS:v.cells= #[v]:=by cases v<;>first|rfl|simp[Value.oneCell']at h1
  rw[vS];refine⟨⟨rfl,fun j c u h2 h3=>?_⟩,fun u hu=>?_⟩
  ·cases j with
   |zero=>simp[AV.cells]at h2 h3;subst h2;subst h3;exact hc
   |succ j=>simp at h3
  ·simp at hu;subst hu;exact h1
 |agg xs=>
  simp only[AV.plain,WS,Bool.not_eq_true']at hp;obtain⟨vs,rfl,hl,hc⟩:=h;refine⟨⟨by simpa[Value.cells,AV.cells]using hl,fun j c u h2 h3=>hc j c u h2 (by simpa[Value.cells]using h3)⟩,fun u hu=>?_⟩;simp[Value.cells]at hu;obtain⟨j,hj⟩:=WA hu;have jA:=(Wo.1 hj).1;have hx:xs[j]? =some (xs[j]'(by omega)):=Wp (by omega);exact bn.l5 (hp _ (Wt hx)) (hc j _ u hx hj)
theorem tv (A:List bu) (c' c:CV):nE (fM A c') c=nE A c:=by
 cases c'<;>try rfl
 rename_i k' n';simp only[fM];cases hk:A[k']? with
 |none=>rfl
 |some r=>
  cases c<;>try rfl
  rename_i k n;simp only[nE,dA hk];by_cases e:k=k'
  ·subst e;simp[hk]
  ·simp[e]
theorem wm (A:List bu) (c':CV):∀cs,iL (fM A c') cs=iL A cs
 |[]=>rfl
 |c::r=>by simp only[iL,tv,wm A c' r]
theorem rY:∀{cs:List CV} {ds:List DV},iL A cs=some ds->ds.length=cs.length
 |[],ds,h=>by simp[iL]at h;subst h;rfl
 |c::r,ds,h=>by
  simp only[iL]at h;split at h
  ·rename_i d ds' h1 h2;simp at h;subst h;simp[rY h2]
  ·simp at h
theorem rZ (hI:Inv g w V A) (hF:Fr w0 g0 w g) {c:CV} {u:Value} {d:DV} (hc:bn g w A c u) (hd:nE A c=some d):
  ∃g',Inv g' w V (fM A c)/\Ext g w A g' w (fM A c)/\Fr w0 g0 w g'/\g'.ar=g.ar/\g'.ob=g.ob/\bh g'.im w d u:=by
 cases c with
 |d x=>simp[nE]at hd;subst hd;exact⟨g,hI,.refl _ _ _,hF,rfl,rfl,hc⟩
 |nil=>
  simp[nE]at hd;subst hd;simp only[bn]at hc;subst hc;exact⟨g,hI,.refl _ _ _,hF,rfl,rfl,by simp only[bh];exact⟨none,0,rfl,Wa _,.inl trivial⟩⟩
 |own k n=>
  obtain⟨ad,cap,e,r,hk,hn,hv⟩:=hc;simp only[nE,hk]at hd;split at hd
  ·rename_i dj;simp at hd;subst hd;obtain⟨g',h1,h2,h3,h4,h5,h6⟩:=hI.seal hF hk (hv dj);refine⟨g',?_,?_,h3,h4,h5,h6⟩
   ·simpa only[fM,hk]using h1
   ·simpa only[fM,hk]using h2
  ·simp at hd
 |_=>simp[nE]at hd
theorem tz:∀{cs:List CV} {vs:List Value} {ds:List DV} {g:Gh} {A:List bu},Inv g w V A->Fr w0 g0 w g->km g w A cs vs->iL A cs=some ds->
  ∃g',Inv g' w V (bQ A cs)/\Ext g w A g' w (bQ A cs)/\Fr w0 g0 w g'/\g'.ar=g.ar/\g'.ob=g.ob/\∀(j:Nat) x u,ds[j]? =some x->vs[j]? =some u->bh g'.im w x u
 |[],vs,ds,g,A,hI,hF,hr,hd=>by
  simp[iL]at hd;subst hd;exact⟨g,hI,.refl _ _ _,hF,rfl,rfl,fun j x u h=>by simp at h⟩
 |c::r,vs,ds,g,A,hI,hF,hr,hd=>by
  cases vs with
  |nil=>exact absurd hr.1 (by simp)
  |cons v vs=>
   simp only[iL]at hd;split at hd
   ·rename_i d ds' h1 h2;simp at hd;subst hd;obtain⟨g1,fj,dC,kH,tA,p9,gk⟩:=rZ hI hF (hr.2 0 c v rfl rfl) h1;have Bc:km g1 w (fM A c) r vs:=⟨by simpa using hr.1,fun j c' u h3 h4=>bn.ext dC (hr.2 (j+1) c' u (by simpa using h3) (by simpa using h4))⟩;obtain⟨g2,Bm,kR,C2,MP,mI,jk⟩:=tz fj kH Bc (by rw[wm];exact h2);refine⟨g2,Bm,dC.trans kR,C2,MP.trans tA,mI.trans p9,fun j x u h3 h4=>?_⟩;cases j with
    |zero=>simp at h3 h4;subst h3;subst h4;exact bh.fL kR.gr _ _ gk
    |succ j=>simp at h3 h4;exact jk j x u h3 h4
   ·simp at hd
theorem uI:∀{rows:List (List CV)} {ds:List (List DV)},kJ A rows=some ds->iL A rows.flatten=some ds.flatten/\ds.length=rows.length/\∀(i:Nat) r d,rows[i]? =some r->ds[i]? =some d->d.length=r.length
 |[],ds,h=>by simp[kJ]at h;subst h;exact⟨rfl,rfl,fun i r d h=>by simp at h⟩
 |c::r,ds,h=>by
  simp only[kJ]at h;split at h
  ·rename_i d ds' h1 h2;simp at h;subst h;obtain⟨h3,h4,h5⟩:=uI h2;refine⟨?_,by simp[h4],fun i r' d' h6 h7=>?_⟩
   ·simp only[Ws];have:∀(xs ys:List CV) (dx dy:List DV),iL A xs=some dx->iL A ys=some dy->iL A (xs++ys)=some (dx++dy):=by
     intro xs;induction xs with
     |nil=>intro ys dx dy hx hy;simp[iL]at hx;subst hx;simpa using hy
     |cons x xs ih=>
      intro ys dx dy hx hy;simp only[iL]at hx;split at hx
      ·rename_i d1 d2 h8 h9;simp at hx;subst hx;simp only[List.cons_append,iL,h8,ih ys d2 dy h9 hy]
      ·simp at hx
    exact this _ _ _ _ h1 h3
   ·cases i with
    |zero=>simp at h6 h7;subst h6;subst h7;exact rY h1
    |succ i=>simp at h6 h7;exact h5 i r' d' h6 h7
  ·simp at h
end
section
variable {P:Program} {g g' g0:Gh} {w w' w0:World} {V V':List (List CV)} {A A':List bu} {s:St} {a:Act} {K:AV->List (List CV)->List bu->Prop}
abbrev iA (g:Gh) (w:World) (s:St) (a:Act):Prop:=∀t x,look s.fr t=some x->∃u,a.tmps[t]? =some u/\aO g w s.A x u
theorem bp {m:Sem Value} {w w':World} {v:Value} (h:m.run P w=.ok v w'):(do pure (Next.value (<-m)):Sem Next).run P w=.ok (.value v) w':=by
 rw[Sem.run_bind,h];rfl
theorem wo {m:Sem Unit} {w w':World} (h:m.run P w=.ok () w'):(do m;pure Next.skip:Sem Next).run P w=.ok .skip w':=by
 rw[Sem.run_bind,h];rfl
theorem jG (w:World) (e:TypeId) (cs:Array Value):(newRow e cs).run P w=.ok ⟨w.heap.size,0,none⟩ (w.alloc (.cells cs e)):=by
 simp[newRow]
theorem Bn (hI:Inv g w s.V s.A) (hF:Fr w0 g0 w g) {m:Sem Next} {cs:Array Value} {e:TypeId} {row:List CV} (hr:km g w s.A row cs.toList)
  (hm:m.run P w=.ok (.value (.pointer (some ⟨w.heap.size,0,none⟩))) (w.alloc (.cells cs e))) (hK:K (.c (.ptr s.V.length 0)) (s.V++[row]) s.A):dL P w0 g0 g w s.A m K:=by
 obtain⟨g',h1,h2,h3,h4⟩:=hI.newObj hF cs e row (by simpa using hr.1) (fun j c u hc hu=>hr.2 j c u hc (by simpa using hu));exact⟨_,_,_,_,_,_,g',hK,hm,.inl rfl,⟨w.heap.size,h4,rfl⟩,h1,h2,h3⟩
theorem Bo (hI:Inv g w s.V s.A) (hF:Fr w0 g0 w g) {e:TypeId} {d:TD} {z:List CV} (ht:td P e=some d) (hz:d.zero=some z) (hK:K (.c (.ptr s.V.length 0)) (s.V++[z]) s.A):
  dL P w0 g0 g w s.A (do pure (.value (<-Instr.alloc e true (.tuple #[])))) K:=by
 obtain⟨i,hi,_,_,h0⟩:=gx ht;obtain⟨v,hv,hc⟩:=h0 z hz;refine Bn hI hF (cs:=v.cells) (e:=e) ⟨iW hc,fun j c u h1 h2=>nF (o7 hc j c u h1 h2)⟩ (bp ?_) hK;simp[Instr.alloc,zeroValue,typeInfo,hi,hv,newVar,jG]
theorem Fz (hI:Inv g w s.V s.A) (hF:Fr w0 g0 w g) {e:TypeId} {x:AV} {u:Value} (hx:aO g w s.A x u) (hp:x.plain=true) (hK:K (.c (.ptr s.V.length 0)) (s.V++[x.cells]) s.A):
  dL P w0 g0 g w s.A (do pure (.value (<-Instr.box e u))) K:=by
 refine Bn hI hF (cs:=u.cells) (e:=e) (AV.gH hx hp).1 (bp ?_) hK;simp[Instr.box,newVar,jG]
theorem Dj (hI:Inv g w s.V s.A) (hF:Fr w0 g0 w g) {t:TypeId} {d:TD} (ht:td P t=some d) {p:CV} {v:Value} (hp:bn g w s.A p v) {cs:List CV} (vS:gQ s p d.sz=some cs) {x:AV} (hx:Fy d.ag cs=some x) (hK:K x s.V s.A):
  dL P w0 g0 g w s.A (do pure (.value (<-Instr.loadAt t v))) K:=by
 obtain⟨b,off,vs,rfl,hl,hr,hc⟩:=qJ hI hp vS;obtain⟨h1,h2⟩:=mA (P:=P) ht hc (hr.1.trans hl);cases Dk:d.ag with
 |true=>
  simp[Fy,Dk]at hx;subst hx;exact dL.value hI hF (bp (h1 Dk)) (x:=.agg cs) ⟨vs,rfl,hr.1,fun i c u h3 h4=>hr.2 i c u h3 h4⟩ hK
 |false=>
  simp only[Fy,Dk,WY,if_false]at hx;split at hx
  ·rename_i c;simp at hx;subst hx;obtain⟨u,rfl⟩:∃u,vs=[u]:=by
    have:=hr.1;simp at this;exact List.length_eq_one_iff.1 this
   exact dL.value hI hF (bp (h2 Dk u rfl)) (x:=.c c) (hr.2 0 c u rfl rfl) hK
  ·simp at hx
theorem lB {t:TypeId} {d:TD} (ht:td P t=some d) {b off:Nat} {v:Value} (hl:v.cells.size=d.sz) {cur:Array Value} {ty:TypeId} (hh:w.heap[b]? =some (.cells cur ty (0,0))) (yn:off+d.sz<=cur.size)
  (h1:∀u∈v.cells.toList,u.oneCell'=true):
  (Instr.storeAt t (.pointer (some ⟨b,off,none⟩)) v).run P w=.ok () (w.setRow b (b9 cur.toList off v.cells.toList).toArray):=by
 obtain⟨i,hi,e5,_,_⟩:=gx ht;have hs:(sizeOf t).run P w=.ok i.size w:=by simp[sizeOf,typeInfo,hi]
 have ft:=run_storeCells_at P b off ty v.cells.toList 0 cur w hh (by simp;omega) h1;simp only[Wm]at ft;show(storeVar t ⟨b,off,none⟩ v).run P w=_;unfold storeVar;rw[Sem.run_bind,hs];simp only[Result.andThen_ok];rw[if_neg (by omega)];simpa[b9]using ft
theorem wq {cs:List CV} {vs:List Value} {row:List CV} {cur:List Value} {off:Nat} (hl:cur.length=row.length) (hr:∀(j:Nat) c u,row[j]? =some c->cur[j]? =some u->bn g w A c u) (h:km g w A cs vs) (yn:off+cs.length<=row.length):
  ∀(j:Nat) c u,(b9 row off cs)[j]? =some c->(b9 cur off vs)[j]? =some u->bn g w A c u:=by
 intro j c u hc hu;rw[gj (by omega)]at hc;rw[gj (by rw[h.1];omega),h.1]at hu;split at hc
 ·rename_i hj;rw[if_pos hj]at hu;exact h.2 _ c u hc hu
 ·rename_i hj;rw[if_neg hj]at hu;exact hr j c u hc hu
theorem vD (hI:Inv g w s.V s.A) (hF:Fr w0 g0 w g) {t:TypeId} {d:TD} (ht:td P t=some d) {l off:Nat} {p v:Value} (hp:bn g w s.A (.ptr l off) p) {x:AV} (hx:aO g w s.A x v) (l6:x.plain=true) (hlen:x.cells.length=d.sz)
  {row:List CV} (ef:s.V[l]? =some row) (yn:off+d.sz<=row.length) (hK:K (.c .undef) (s.V.set l (b9 row off x.cells)) s.A):
  dL P w0 g0 g w s.A (do Instr.storeAt t p v;pure .skip) K:=by
 obtain⟨b,hb,rfl⟩:=hp;obtain⟨vS,h1⟩:=AV.gH hx l6;obtain⟨_,cur,ty,hh,hs,hr⟩:=hI.obj l row b ef hb;have Fx:v.cells.size=d.sz:=by have:=vS.1;simp at this;omega
 have fC:=lB (P:=P) ht Fx hh (off:=off) (by omega) h1
 obtain⟨k1,k2,k3⟩:=hI.setObj hF ef hb (b9 cur.toList off v.cells.toList).toArray (row':=b9 row off x.cells)
  (by simp only[Wy];rw[fR (by simp;omega),fR (by omega)];simpa using hs)
  (fun j c u h3 h4=>wq (cur:=cur.toList) (by rw[WV];exact hs) (fun j c u h5 h6=>hr j c u h5 (by simpa using h6)) vS (by omega) j c u h3 (by simpa using h4))
 exact⟨_,_,_,_,undef,_,g,hK,wo fC,.inr ⟨rfl,rfl⟩,rfl,k1,k2,k3⟩
theorem Dl {cs:List CV} {k:Nat} (h:∀c∈cs,∀k' n,c=.own k' n->k'≠k):∀{A:List bu},(bQ A cs)[k]? =A[k]? :=by
 induction cs with
 |nil=>intro A;rfl
 |cons c cs ih=>
  intro A;simp only[bQ,WK];have:=ih (fun c' z7=>h c' (by simp[z7])) (A:=fM A c);simp only[bQ]at this;rw[this];cases c<;>try rfl
  rename_i k' n;have dj:=h (.own k' n) (by simp) k' n rfl;simp only[fM];cases hk:A[k']? with
  |none=>rfl
  |some r=>rw[WE dj]
theorem vE (hI:Inv g w s.V s.A) (hF:Fr w0 g0 w g) {t:TypeId} {d:TD} (ht:td P t=some d) {k n i off:Nat} {p v:Value} (hp:bn g w s.A (.op k n i off) p) {x:AV} (hx:aO g w s.A x v) (l6:x.plain=true) (hlen:x.cells.length=d.sz)
  {r:bu} (hk:s.A[k]? =some r) (hn:n=r.rows.length) (hw:r.wr=true) {row:List DV} (ef:r.rows[i]? =some row) {ds:List DV} (vU:iL s.A x.cells=some ds) (yn:off+d.sz<=r.sz)
  (dh:(x.cells.all fun c=>match c with|.own k' _=>k'≠k|_=>true)=true)
  (hK:K (.c .undef) s.V ((bQ s.A x.cells).set k {r with rows:=r.rows.set i (b9 row off ds)})):
  dL P w0 g0 g w s.A (do Instr.storeAt t p v;pure .skip) K:=by
 obtain⟨vS,h1⟩:=AV.gH hx l6;obtain⟨g1,fj,dC,kH,tA,p9,gk⟩:=tz hI hF vS vU;obtain⟨b,e,rfl,r',o6,MM,hq⟩:=hp;obtain rfl:r=r':=by rw[hk]at o6;exact Option.some.inj o6
 obtain⟨cap,Di,rfl⟩:=hq hn;have jl:(bQ s.A x.cells)[k]? =some r:=by
  rw[Dl fun c hc k' n' e=>?_]
  ·exact hk
  ·subst e;have:=WS.1 dh _ hc;simpa using this
 have C3:=rY vU;have Fx:v.cells.size=d.sz:=by have:=vS.1;simp at this;omega
 obtain⟨cur,ty,cap',kK,hh,Fw,VM,Bm,kR,C2⟩:=fj.Hd kH jl (by rw[tA];exact Di) hw ef (ds:=ds) (off:=off) (by omega) (b:=b) rfl v.cells.toList (by simp;omega) gk;have fC:=lB (P:=P) ht Fx hh (off:=i*r.sz+off) (by simp at Fw;omega) h1;exact⟨_,_,_,_,undef,_,g1,hK,wo fC,.inr ⟨rfl,rfl⟩,rfl,Bm,dC.trans kR,C2⟩
theorem z8 {op:BinOp} {t:TypeId} {ox oy:Operand} {x y r:AV} {u v:Value} (hx:aO g w A x u) (hy:aO g w A y v) (h:zY op x y=some r):
  ∃z,(do eqGuard op t ox oy u v;binOp op t u v:Sem Value).run P w=.ok z w/\aO g w A r z:=by
 unfold zY at h;split at h
 ·rename_i k a k' b;simp only[aO,dK,bn,bh]at hx hy;subst hx;subst hy;split at h
  ·rename_i hk;subst hk;have hg:∀op,(eqGuard op t ox oy (.int k a) (.int k b)).run P w=.ok () w:=by
    intro op;cases op<;>simp[eqGuard]
   rw[Sem.run_bind,hg];simp only[Result.andThen_ok];split at h<;>first|(simp at h;done)|skip
   all_goals(try(split at h<;>first|(simp at h;done)|skip))
   all_goals(simp only[Option.some.injEq]at h;subst h;refine⟨_,?_,rfl⟩)
   all_goals first
    |(simp[binOp,Op.intArith];done)
    |(simp[binOp,Op.intBits,Bl];done)
    |(rename_i hb;simp[binOp,Op.shift,hb];done)
    |(rename_i hb;simp[binOp,Op.intDiv,hb];done)
    |(simp[binOp,Op.intCmp];done)
  ·simp at h
 ·rename_i a b;simp only[aO,dK,bn,bh]at hx hy;subst hx;subst hy;have hg:∀op,(eqGuard op t ox oy (.string (bs a)) (.string (bs b))).run P w=.ok () w:=by
   intro op;cases op<;>simp[eqGuard]
  rw[Sem.run_bind,hg];simp only[Result.andThen_ok];split at h<;>first|(simp at h;done)|skip
  ·split at h
   ·rename_i hle;simp only[Option.some.injEq]at h;subst h;refine⟨.string (bs (a++b)),?_,rfl⟩;have hn:¬(((bs a).size+(bs b).size:Nat):Int)>IntKind.i64.max:=by rw[qa,qa];simp[IntKind.max,IntKind.signed,IntKind.bits];omega
    have Hh:bs a++bs b=bs (a++b):=by
     simp only[bs];apply ByteArray.ext;simp
    simp only[binOp,Op.stringOp,if_neg hn,Hh,Sem.run_pure]
   ·simp at h
  all_goals(simp only[Option.some.injEq]at h;subst h;refine⟨_,?_,rfl⟩;simp[binOp,Op.stringOp,tt])
 ·simp at h
theorem yq {op:BinOp} {t:TypeId} {d:TD} {ox oy:Operand} {x y r:AV} {u v:Value} (ht:td P t=some d) (hd:d.nz=true) (hx:aO g w A x u) (hy:aO g w A y v) (h:rV op x y=some r):
  ∃z,(do eqGuard op t ox oy u v;binOp op t u v:Sem Value).run P w=.ok z w/\aO g w A r z:=by
 have hb:=Lr ht hd;unfold rV at h;split at h
 ·rename_i a b;simp only[aO,dK,bn,bh]at hx hy;subst hx;subst hy;split at h<;>first|(simp at h;done)|skip
  all_goals(simp only[Option.some.injEq]at h;subst h;refine⟨_,?_,rfl⟩;rw[Sem.run_bind])
  ·rw[show(eqGuard .eql t ox oy (.bool a) (.bool b)).run P w=.ok () w by simp[eqGuard]];simp only[Result.andThen_ok,run_eql_bool w t a b hb]
  ·rw[show(eqGuard .neq t ox oy (.bool a) (.bool b)).run P w=.ok () w by simp[eqGuard]];simp only[Result.andThen_ok,run_neq_bool w t a b hb]
 ·simp at h
theorem Bp {d:Nat} {xs ys:Array Value}:∀{fs:List Field} {i:Nat} {ks:List Nat} {cs ds:List CV} {r:Bool},Ns P i fs=some ks->EA ks cs ds=some r->
  (∀(j:Nat) c,cs[j]? =some c->∃u,xs[i+j]? =some u/\bn g w A c u)->(∀(j:Nat) c,ds[j]? =some c->∃u,ys[i+j]? =some u/\bn g w A c u)->(Op.eqFields (d+1) xs ys fs).run P w=.ok r w
 |[],i,ks,cs,ds,r,h1,h2,_,_=>by
  simp[Ns]at h1;subst h1;cases cs<;>cases ds<;>simp[EA]at h2
  subst h2;simp[Op.eqFields]
 |f::fs,i,ks,cs,ds,r,h1,h2,hx,hy=>by
  simp only[Ns]at h1;split at h1<;>first|(simp at h1;done)|skip
  rename_i dd hu;split at h1<;>first|(simp at h1;done)|skip
  rename_i k ks' hk l7;split at h1<;>first|(simp at h1;done)|skip
  rename_i hn;simp at h1;subst h1;have key:∀(c c':CV) cs' ds' (b r':Bool),cs=c::cs'->ds=c'::ds'->(∀u u',bn g w A c u->bn g w A c' u'->(part f.type xs f.offset).run P w=.ok u w->(part f.type ys f.offset).run P w=.ok u' w->(Op.equalIn (d+1) f.type u u').run P w=.ok b w)->P.plainKey f.type=true->EA ks' cs' ds'=some r'->(b && r')=r->(Op.eqFields (d+1) xs ys (f::fs)).run P w=.ok r w:=by
   intro c c' cs' ds' b r' e1 e2 h3 hp h4 h5;subst e1;subst e2;obtain⟨u,I4,C4⟩:=hx 0 c rfl;obtain⟨u',Qq,Qr⟩:=hy 0 c' rfl;have p1:=run_part_plain w hp (xs:=xs) (off:=f.offset) (v:=u) (by rw[hn.2];simpa using I4);have p2:=run_part_plain w hp (xs:=ys) (off:=f.offset) (v:=u') (by rw[hn.2];simpa using Qq);have h6:=Bp (d:=d) (xs:=xs) (ys:=ys) l7 h4 (fun j c hc=>by
    obtain⟨u,h7,h8⟩:=hx (j+1) c (by simpa using hc);exact⟨u,by rw[<-h7];congr 1;omega,h8⟩) (fun j c hc=>by
    obtain⟨u,h7,h8⟩:=hy (j+1) c (by simpa using hc);exact⟨u,by rw[<-h7];congr 1;omega,h8⟩)
   simp only[Op.eqFields,hn.1,ne_eq,not_false_eq_true,if_true,Sem.run_bind,p1,p2,h3 u u' C4 Qr p1 p2,Result.andThen_ok];subst h5;cases b
   ·simp
   ·simpa using h6
  unfold EA at h2;split at h2<;>first|(simp at h2;done)|skip
  ·rename_i heq;simp at heq
  ·rename_i q a cs' q' b ds' heq;simp only[List.cons.injEq]at heq;obtain⟨rfl,rfl⟩:=heq;split at h2<;>first|(simp at h2;done)|skip
   rename_i e;subst e;simp only[WZ]at h2;obtain⟨r',h3,h4⟩:=h2;cases dd<;>simp[zZ]at hk
   exact key _ _ _ _ (a==b) r' rfl rfl (fun u u' h5 h6 _ _=>by simp only[bn,bh]at h5 h6;subst h5;subst h6;exact run_equalIn_int w d _ _ _ _ _ hu) (by simp[Program.plainKey,hu]) h3 h4
  ·rename_i a cs' b ds' heq;simp only[List.cons.injEq]at heq;obtain⟨rfl,rfl⟩:=heq;simp only[WZ]at h2;obtain⟨r',h3,h4⟩:=h2;cases dd<;>simp[zZ]at hk
   exact key _ _ _ _ (a==b) r' rfl rfl (fun u u' h5 h6 _ _=>by simp only[bn,bh]at h5 h6;subst h5;subst h6;exact run_equalIn_bool' w d _ _ _ hu) (by simp[Program.plainKey,hu]) h3 h4
  ·rename_i a cs' b ds' heq;simp only[List.cons.injEq]at heq;obtain⟨rfl,rfl⟩:=heq;simp only[WZ]at h2;obtain⟨r',h3,h4⟩:=h2;cases dd<;>simp[zZ]at hk
   exact key _ _ _ _ (a==b) r' rfl rfl (fun u u' h5 h6 _ _=>by simp only[bn,bh]at h5 h6;subst h5;subst h6;rw[run_equalIn_string w d _ _ _ hu,tt,tt]) (by simp[Program.plainKey,hu]) h3 h4
theorem yr {op:BinOp} {t:TypeId} {ox oy:Operand} {x y r:AV} {u v:Value} (hx:aO g w A x u) (hy:aO g w A y v) (h:rW P op t x y=some r):
  ∃z,(do eqGuard op t ox oy u v;binOp op t u v:Sem Value).run P w=.ok z w/\aO g w A r z:=by
 unfold rW at h;split at h<;>first|(simp at h;done)|skip
 rename_i xs ys;split at h<;>first|(simp at h;done)|skip
 rename_i ks l7;split at h<;>first|(simp at h;done)|skip
 rename_i b hb;obtain⟨us,rfl,Bq,MQ⟩:=hx;obtain⟨vs,rfl,Fx,Qs⟩:=hy;unfold sq at l7;split at l7<;>first|(simp at l7;done)|skip
 rename_i fs hu;split at l7<;>first|(simp at l7;done)|skip
 rename_i ft;have SF:P.fieldsOf t=fs:=by simp[Program.fieldsOf,hu]
 have heq:(Op.equal t (.agg us.toArray) (.agg vs.toArray)).run P w=.ok b w:=by
  show(Op.equalIn (9999+1) t (.agg us.toArray) (.agg vs.toArray)).run P w=.ok b w;rw[run_equalIn_struct w 9999 t _ _ (by rw[SF];exact hu) ft.1,SF];refine Bp (d:=9998) (g:=g) (A:=A) l7 hb (fun j c hc=>?_) (fun j c hc=>?_)
  ·have hj:j<us.length:=by have:=(Wo.1 hc).1;omega
   exact⟨us[j],by simp[hj],MQ j c _ hc (Wp hj)⟩
  ·have hj:j<vs.length:=by have:=(Wo.1 hc).1;omega
   exact⟨vs[j],by simp[hj],Qs j c _ hc (Wp hj)⟩
 have hg:∀op,(eqGuard op t ox oy (.agg us.toArray) (.agg vs.toArray)).run P w=.ok () w:=by
  intro op;cases op<;>simp[eqGuard,ft.2]
 rw[Sem.run_bind,hg];simp only[Result.andThen_ok];split at h<;>first|(simp at h;done)|skip
 all_goals(simp only[Option.some.injEq]at h;subst h;refine⟨_,?_,rfl⟩)
 ·simp[binOp,heq]
 ·simp[binOp,heq]
theorem FA {op:UnOp} {x r:AV} {u:Value} (hx:aO g w A x u) (h:Jk op x=some r):∃z,(Op.unary op u).run P w=.ok z w/\aO g w A r z:=by
 unfold Jk at h;split at h<;>first|(simp at h;done)|skip
 all_goals(simp only[Option.some.injEq]at h;subst h;simp only[aO,dK,bn,bh]at hx;subst hx;refine⟨_,?_,rfl⟩)
 ·simp[Op.unary]
 ·simp[Op.unary,Op.intArith]
theorem r7:∀{rows:List (List DV)} {b:List UInt8},bytesOf rows=some b->rows.length=b.length/\∀(i:Nat) row,rows[i]? =some row->∃n:Int,row=[.int .u8 n]/\b[i]? =some (UInt8.ofNat n.toNat)
 |[],b,h=>by simp[bytesOf]at h;subst h;exact⟨rfl,fun i row h=>by simp at h⟩
 |r::rs,b,h=>by
  simp only[bytesOf]at h;split at h
  ·rename_i c l h1 h2;simp at h;subst h;obtain⟨h3,h4⟩:=r7 h2;refine⟨by simp[h3],fun i row ef=>?_⟩;cases i with
   |zero=>
    simp at ef;subst ef;unfold yX at h1;split at h1
    ·rename_i n;split at h1
     ·simp at h1;subst h1;exact⟨n,rfl,rfl⟩
     ·simp at h1
    ·simp at h1
   |succ i=>simp at ef;simpa using h4 i row ef
  ·simp at h
theorem Br {src dst e:TypeId} {ds dd de:TD} (hs:td P src=some ds) (hd:td P dst=some dd) (q9:dd.cO=true) (T9:ds.el=some e) (he:td P e=some de) (hk:de.ik=some .u8) {rows:List (List DV)} {v:Value} (hv:bh g.im w (.sl rows) v)
  {b:List UInt8} (hb:bytesOf rows=some b):(convert src dst v).run P w=.ok (.string (bs b)) w:=by
 have h1:=mP hs T9;have h2:=KB he hk;have h3:=q8 hd q9;obtain⟨hl,wx⟩:=r7 hb;simp only[bh]at hv;obtain⟨ad,cap,rfl,_,hr⟩:=hv;rcases hr with rfl|⟨bl,off,sz,rfl,_,yk⟩
 ·have KC:b=[]:=Wv (by simpa using hl.symm);subst KC;cases ad with
  |none=>exact run_convert_bytes_nil (P:=P) w src e h1 h2 0 cap dst h3
  |some ad=>
   refine(run_convert_bytes_string w src dst e _ 0 cap h1 h2 h3).trans ?_;simp[Conv.bytesToString,loadCells,loadCellsFrom]
   rfl
 ·have e5:∀i,i<rows.length->∃n:Int,rows[i]? =some [.int .u8 n]/\b[i]? =some (UInt8.ofNat n.toNat):=fun i hi=>by
   obtain⟨n,h4,h5⟩:=wx i _ (Wp hi);exact⟨n,by rw[Wp hi,h4],h5⟩
  let xs:List Int:=rows.map fun r=>match r with|[.int .u8 n]=>n|_=>0
  have hx:strOfNums xs=bs b:=by
   simp only[strOfNums,bs]
   congr 2
   apply WG;intro i;by_cases hi:i<rows.length
   ·obtain⟨n,h4,h5⟩:=e5 i hi;simp[xs,h4,h5]
   ·simp[xs,WR (show rows.length<=i by omega),WR (show b.length<=i by omega)]
  rw[<-hx];refine run_convert_bytes_arg w src e h1 h2 bl off rows.length cap xs (by simp[xs]) (fun i hi=>?_) dst h3;obtain⟨n,h4,_⟩:=e5 i hi;obtain⟨h6,h7⟩:=cr.at_ yk h4;have Ls:sz=1:=by simpa using h6.symm
  subst Ls;simp only[dB,and_true]at h7;obtain⟨u,h8,h9⟩:=h7;simp only[bh]at h9;subst h9;simpa[xs,h4]using h8
end
section
variable {P:Program} {g g' g0:Gh} {w w' w0:World} {V V':List (List CV)} {A A':List bu} {s:St} {a:Act} {K:AV->List (List CV)->List bu->Prop}
theorem uJ:∀(l:List Value) (k off:Nat) (arr:Array Value),off+k+l.length<=arr.size->(l.zipIdx k).foldl (fun cs (c:Value×Nat)=>cs.setIfInBounds (off+c.2) c.1) arr=(b9 arr.toList (off+k) l).toArray
 |[],k,off,arr,_=>by simp[b9]
 |v::rest,k,off,arr,h=>by
  simp only[WI,WK];rw[uJ rest (k+1) off _ (by simp at h⊢;omega)];have e:=list_seg_step arr.toList (off+k) v rest (by simp at h⊢;omega);simp only[b9,Array.toList_setIfInBounds,WD]
  congr 1
theorem yY (place:Nat->Option (Nat×Nat)) (cells:Array Value) (i:Nat) (v:Value) (rest:List (Nat×Value)) {off size:Nat} (hp:place i=some (off,size)) (hs:v.cells.size=size) (hf:off+size<=cells.size):
  Instr.fill place cells ((i,v)::rest)=Instr.fill place (b9 cells.toList off v.cells.toList).toArray rest:=by
 simp only[Instr.fill,hp];rw[if_neg (by simp;omega)]
 congr 1
 have h:=uJ v.cells.toList 0 off cells (by simp;omega);rw[<-Array.foldl_toList];simpa using h
theorem wy (hS:iA g w s a) {fl:List (Nat×Nat)}:∀{parts:List (Nat×Operand)} {ps:List (Nat×List CV)} {cs cs':List CV} {vs:List Value},iM s parts=some ps->oE fl cs ps=some cs'->km g w s.A cs vs->
  ∃vs',Instr.fill (fl[·]?) vs.toArray (parts.map fun(i,x)=>(i,a.eval x))=some vs'.toArray/\km g w s.A cs' vs'
 |[],ps,cs,cs',vs,hp,hf,hr=>by
  simp[iM]at hp;subst hp;simp[oE]at hf;subst hf;exact⟨vs,rfl,hr⟩
 |(i,o)::r,ps,cs,cs',vs,hp,hf,hr=>by
  have VN:=hp;simp only[iM]at hp;split at hp
  ·rename_i v l h1 h2;split at hp
   ·rename_i l6;simp at hp;subst hp;simp only[oE]at hf;split at hf
    ·simp at hf
    ·rename_i off size ya;split at hf
     ·rename_i hc;obtain⟨uK,_⟩:=AV.gH (aJ hS h1) l6;have e5:(a.eval o).cells.size=size:=by have:=uK.1;simp at this;omega
      have Fx:=hr.1;simp only[Ww];rw[yY _ _ _ _ _ ya e5 (by simp;omega)];refine wy hS h2 hf ⟨?_,?_⟩
      ·rw[fR (by simp;omega),fR (by omega)];simpa using Fx
      ·exact wq (by simpa using Fx) (fun j c u h3 h4=>hr.2 j c u h3 (by simpa using h4)) uK (by omega)
     ·simp at hf
   ·simp at hp
  ·simp at hp
theorem yZ:∀{fs:List Field} {l:List (Nat×Nat)},yp P fs=some l->fs.mapM (fun f=>(P.info? f.type).map fun i=>(f.offset,i.size))=some l
 |[],l,h=>by simp[yp]at h;subst h;rfl
 |f::r,l,h=>by
  simp only[yp]at h;split at h
  ·rename_i i l' h1 h2;simp at h;subst h;simp[List.mapM_cons,h1,yZ h2]
  ·simp at h
theorem Bs (hI:Inv g w s.V s.A) (hF:Fr w0 g0 w g) (hS:iA g w s a) {t:TypeId} {d:TD} (ht:td P t=some d) {z:List CV} (hz:d.zero=some z) (ya:d.fl≠[]) {parts:Array (Nat×Operand)} {ps:List (Nat×List CV)} (hp:iM s parts.toList=some ps)
  {cs:List CV} (hf:oE d.fl z ps=some cs) (hK:K (.agg cs) s.V s.A):dL P w0 g0 g w s.A (do pure (.value (<-Instr.build t (parts.map fun(i,x)=>(i,a.eval x))))) K:=by
 obtain⟨de,i,hu,hi,rfl⟩:=lA ht;obtain⟨i',Fv,_,_,h0⟩:=gx ht;obtain rfl:i=i':=by rw[hi]at Fv;exact Option.some.inj Fv
 obtain⟨zv,Hi,GM⟩:=h0 z hz;cases de with
 |struct fs=>
  simp only[MN]at ya hf;cases Lt:yp P fs.toList with
  |none=>simp[Lt]at ya
  |some l=>
   simp only[Lt,W1]at hf;obtain⟨vs',h1,h2⟩:=wy (g:=g) (w:=w) (s:=s) (a:=a) hS hp hf (vs:=zv.cells.toList) ⟨iW GM,fun j c u h3 h4=>nF (o7 GM j c u h3 h4)⟩;have hb:P.built t (parts.map fun(i,x)=>(i,a.eval x)).toList=some vs'.toArray:=by
    simp only[Program.built,hi,hu,Hi,yZ Lt];simpa using h1
   exact dL.value hI hF (bp (run_build w t _ _ hb)) (x:=.agg cs) ⟨vs',rfl,h2.1,fun j c u h3 h4=>h2.2 j c u h3 h4⟩ hK
 |_=>simp[MN]at ya
theorem y0 (size:Nat):∀(vals:List Value) (k:Nat) (cells:Array Value),(∀v∈vals,v.cells.size=size)->(k+vals.length)*size<=cells.size->
  Instr.fill (fun i=>some (i*size,size)) cells (vals.zipIdx k|>.map fun(v,i)=>(i,v))=some (b9 cells.toList (k*size) (vals.flatMap fun v=>v.cells.toList)).toArray
 |[],k,cells,_,_=>by simp[Instr.fill,b9]
 |v::r,k,cells,hs,hl=>by
  have hv:v.cells.size=size:=hs v (by simp);have I5:k*size+size+r.length*size<=cells.size:=by simp[Wb]at hl;omega
  simp only[WI,Ww]
  rw[yY _ cells k v _ rfl hv (by omega),y0 size r (k+1) _ (fun x hx=>hs x (by simp[hx]))
   (by simp only[Wy];rw[fR (by simp;omega)];simp[Wb];omega)]
  have ya:(r.flatMap fun v=>v.cells.toList).length=r.length*size:=by
   have:∀(l:List Value),(∀v∈l,v.cells.size=size)->(l.flatMap fun v=>v.cells.toList).length=l.length*size:=by
    intro l;induction l with
    |nil=>simp
    |cons x l ih=>intro h;simp[ih (fun y hy=>h y (by simp[hy])),h x (by simp),Wb];omega
   exact this r (fun x hx=>hs x (by simp[hx]))
  congr 2
  apply WG;intro j;rw[gj (by simp only[];rw[fR (by simp;omega),ya];simp[Wb];omega),gj (by simp;omega),gj (by simp[ya];omega),ya];simp only[WL,Wx,ya,WV,hv,Wb,Wh];by_cases h1:k*size+size<=j/\j<k*size+size+r.length*size
  ·rw[if_pos h1,if_pos (by omega),Wr (by simp;omega)]
   congr 1;simp;omega
  ·rw[if_neg h1];by_cases h2:k*size<=j/\j<k*size+size
   ·rw[if_pos h2,if_pos (by omega),Wq (by simp;omega)]
   ·rw[if_neg h2,if_neg (by omega)]
theorem uL (hS:iA g w s a) {sz:Nat}:∀{parts:List (Nat×Operand)} {k:Nat} {rows:List (List CV)},kk s sz k parts=some rows->
  parts.map (fun(i,x)=>(i,a.eval x))=((parts.map fun(_,x)=>a.eval x).zipIdx k|>.map fun(v,i)=>(i,v))/\rows.length=parts.length/\(∀row∈rows,row.length=sz)/\
  (∀v∈parts.map (fun(_,x)=>a.eval x),v.cells.size=sz/\∀u∈v.cells.toList,u.oneCell'=true)/\km g w s.A rows.flatten ((parts.map fun(_,x)=>a.eval x).flatMap fun v=>v.cells.toList)
 |[],k,rows,h=>by simp[kk]at h;subst h;exact⟨rfl,rfl,by simp,by simp,rfl,fun j c u h=>by simp at h⟩
 |(i,o)::r,k,rows,h=>by
  simp only[kk]at h;split at h
  ·rename_i v l h1 h2;split at h
   ·rename_i hc;simp at h;subst h;obtain⟨rfl,hp,hl⟩:=hc;obtain⟨h3,h4,h5,h6,h7⟩:=uL hS h2;obtain⟨uK,FB⟩:=AV.gH (aJ hS h1) hp;have e5:(a.eval o).cells.size=sz:=by have:=uK.1;simp at this;omega
    refine⟨by simp only[Ww,WI,h3],by simp[h4],fun row ef=>?_,fun v' MR=>?_,?_,fun j c u h8 h9=>?_⟩
    ·simp at ef;rcases ef with rfl|ef
     ·exact hl
     ·exact h5 row ef
    ·simp only[Ww,List.mem_cons]at MR;rcases MR with rfl|MR
     ·exact⟨e5,FB⟩
     ·exact h6 v' MR
    ·simp only[Ww,WL,Ws,Wx,h7.1,uK.1]
    ·simp only[Ww,WL,Ws]at h8 h9;by_cases hj:j<v.cells.length
     ·rw[Wq hj]at h8;rw[Wq (by rw[uK.1];exact hj)]at h9;exact uK.2 j c u h8 h9
     ·rw[Wr (by omega)]at h8;rw[Wr (by rw[uK.1];omega),uK.1]at h9;exact h7.2 _ c u h8 h9
   ·simp at h
  ·simp at h
theorem tB (hI:Inv g w s.V s.A) (hF:Fr w0 g0 w g) (hS:iA g w s a) {t e:TypeId} {d de:TD} (ht:td P t=some d) (tC:d.el=some e) (he:td P e=some de) {parts:Array (Nat×Operand)} {rows:List (List CV)} (hr:kk s de.sz 0 parts.toList=some rows)
  {ds:List (List DV)} (vU:kJ s.A rows=some ds) {len:Nat} (hlen:rows.length=len) (hle:len*de.sz<=16777216) (re:0<de.sz) (hz:de.zero.isSome=true) {ow:Bool}
  (hK:if ow then K (.c (.own s.A.length len)) s.V (bQ s.A rows.flatten++[{sz:=de.sz,eA:=e,rows:=ds,wr:=true}])else K (.c (.d (.sl ds))) s.V (bQ s.A rows.flatten)):
  dL P w0 g0 g w s.A (do pure (.value (<-Instr.buildSlice t len (parts.map fun(i,x)=>(i,a.eval x))))) K:=by
 obtain⟨i,hi,o8,_,h0⟩:=gx he;obtain⟨z,hz⟩:=W0.1 hz;obtain⟨zv,Hi,GM⟩:=h0 z hz;have uM:=mP ht tC;obtain⟨h1,h2,h3,h4,h5⟩:=uL hS hr;have Qt:=uI vU
 let vals:=parts.toList.map fun(_,x)=>a.eval x
 let cells:=vals.flatMap fun v=>v.cells.toList
 have Fx:vals.length=len:=by simp only[vals,List.length_map];omega
 have kS:cells.length=len*de.sz:=by rw[show cells.length=rows.flatten.length from h5.1,eO h3,hlen]
 have vF:∀u∈cells,u.oneCell'=true:=fun u hu=>by
  obtain⟨v,hv,KD⟩:=List.mem_flatMap.1 hu;exact(h4 v hv).2 u KD
 have KE:∀z:Array Value,z.size=len*de.sz->Instr.fill (fun i=>some (i*de.sz,de.sz)) z (parts.map fun(i,x)=>(i,a.eval x)).toList=some cells.toArray:=fun z qK=>by
  have:=y0 de.sz vals 0 z (fun v hv=>(h4 v hv).1) (by rw[We,Fx];omega);rw[<-h1]at this;simp only[WW,this,Option.some.injEq,Wi]
  congr 1
  show b9 z.toList 0 cells=cells;simp[b9,kS,qK]
 have fC:∀w:World,(Instr.buildSlice t len (parts.map fun(i,x)=>(i,a.eval x))).run P w=.ok (.slice (some ⟨w.heap.size,0,none⟩) len len) (w.alloc (.cells cells.toArray e)):=fun w=>by
  have e5:(sizeOf e).run P w=.ok de.sz w:=by simp[sizeOf,typeInfo,hi,o8]
  have Ua:∀w:World,(zeroValue e).run P w=.ok zv w:=fun w=>by simp[zeroValue,typeInfo,hi,Hi]
  unfold Instr.buildSlice;simp only[Sem.run_bind,run_underlying uM,Result.andThen_ok,e5];rw[if_neg (by omega)];by_cases I6:len*de.sz=0
  ·have:=KE #[] (by simp[I6]);simp only[I6,if_true,Sem.run_pure,Sem.run_bind,Result.andThen_ok,Array.range_zero',Array.map_empty,this,jG]
  ·have:=KE ((Array.range (len*de.sz)).map (zv.cells[· % zv.cells.size]!)) (by simp);simp only[I6,if_false,Sem.run_pure,Sem.run_bind,Result.andThen_ok,Ua,this,jG]
 obtain⟨g1,fj,dC,kH,tA,p9,gk⟩:=tz hI hF h5 Qt.1;have yo:∀r∈ds,r.length=de.sz:=fun r hr=>by
  obtain⟨j,hj⟩:=WA hr;have jA:j<rows.length:=by have:=(Wo.1 hj).1;omega
  have ef:rows[j]? =some rows[j]:=Wp jA;rw[Qt.2.2 j _ r ef hj];exact h3 _ (List.getElem_mem jA)
 by_cases SG:ow=true
 ·rw[if_pos SG]at hK;obtain⟨g2,KF,Bm,kR⟩:=fj.ej (.cells cells.toArray e) 0;have C2:=kH.ej (.cells cells.toArray e) 0;rw[<-KF]at C2;have Qu:len<=maxLen:=by
   have:len<=len*de.sz:=Nat.le_mul_of_pos_right _ re;simp only[maxLen];omega
  have dP:=World.ownsRow_lit (base:=0) (e:=e) (size:=de.sz) w cells.toArray len (Wc _) Qu (by simpa using kS)
  obtain⟨g3,Ub,Uc,Qv,Qw,Qx,Qy⟩:=Bm.qY C2 {sz:=de.sz,eA:=e,rows:=ds,wr:=true} (.slice (some ⟨w.heap.size,0,none⟩) len len) cells yo (by simp only[show ds.length=len by omega];simpa using dP)
   (fun j x u h6 h7=>bh.fL kR.gr x u (gk j x u h6 h7))
   (fun b hb=>by
    simp[Value.ownBlock]at hb;subst hb;subst KF;refine⟨by simp,hF.size,fun l hl=>?_,fun k v hv hb=>?_⟩
    ·have:=fj.qW (g:=g1) hl;omega
    ·have:=fj.mN (g:=g1) hv hb;omega)
  refine⟨_,_,_,_,_,_,g3,hK,bp (fC w),.inl rfl,?_,Qw,(dC.trans kR).trans Qx,Qy⟩;have PE:(bQ s.A rows.flatten).length=s.A.length:=by
   have:∀(cs:List CV) (A:List bu),(bQ A cs).length=A.length:=by
    intro cs;induction cs with
    |nil=>intro A;rfl
    |cons c cs ih=>intro A;simp only[bQ,WK];have:=ih (fM A c);simp only[bQ]at this;rw[this];cases c<;>try rfl
                   simp only[fM];split<;>simp
   exact this _ _
  refine⟨some ⟨w.heap.size,0,none⟩,len,rfl,{sz:=de.sz,eA:=e,rows:=ds,wr:=true},?_,by simp only[];omega,fun _=>?_⟩
  ·rw[Wr (by rw[PE];exact Wa _),PE];simp
  ·rw[Qv,Wr (by rw[Bm.lT,PE];exact Wa _),Bm.lT,PE];simp
 ·rw[if_neg SG]at hK;obtain⟨g2,KF,Bm,kR⟩:=fj.ej (.cells cells.toArray e) cells.length;have C2:=kH.ej (.cells cells.toArray e) cells.length;rw[<-KF]at C2;refine⟨_,_,_,_,_,_,g2,hK,bp (fC w),.inl rfl,?_,Bm,dC.trans kR,C2⟩;simp only[aO,dK,bn,bh];refine⟨some ⟨w.heap.size,0,none⟩,len,by rw[show ds.length=len by omega],by omega,.inr ⟨w.heap.size,0,de.sz,rfl,?_,?_⟩⟩
  ·have C3:ds.length=len:=by omega
   subst KF;simp[C3,kS]
  ·refine cr.mk fun i r SH=>⟨yo r (Wt SH),dB.mk fun j x hx=>?_⟩
   have hf:=lz yo SH hx;have ax:i*de.sz+j<cells.length:=by
    have:=(Wo.1 hf).1;rw[eO yo]at this;rw[kS,<-hlen,<-Qt.2.1];exact this
   have hu:cells[i*de.sz+j]? =some cells[i*de.sz+j]:=Wp ax;refine⟨_,?_,bh.fL kR.gr _ _ (gk _ x _ hf hu)⟩;rw[cell_of_row _ w.heap.size _ cells.toArray e (0,0) (heap_alloc_new w _),We];simp[hu]
theorem Hj {im:Nat->Nat} {v:Value} {c:CV} {x:DV} (h:tq v=some c) (hd:nE A c=some x):bh im w x v:=by
 unfold tq at h;split at h<;>first|(simp at h;done)|skip
 all_goals(simp only[Option.some.injEq]at h;subst h;simp only[nE,Option.some.injEq]at hd)
 all_goals first
  |(subst hd;simp only[bh];done)
  |(subst hd;simp only[bh];rw[EB])
  |(subst hd;simp only[bh];exact⟨none,0,rfl,Wa _,.inl trivial⟩)
  |(cases hd)
theorem vG (hI:Inv g w s.V s.A) (hF:Fr w0 g0 w g) {t e:TypeId} {d de:TD} (ht:td P t=some d) (tC:d.el=some e) (he:td P e=some de) {z:List CV} (hz:de.zero=some z) {dz:List DV} (SI:iL s.A z=some dz) {kl kc:IntKind} {n:Int} (h0:0<=n)
  (hb:n.toNat*de.lS<=140737488355328) (hm:n.toNat<=9223372036854775807) (re:0<de.sz) (qK:z.length=de.sz) (hK:K (.c (.own s.A.length n.toNat)) s.V (s.A++[{sz:=de.sz,eA:=e,rows:=Wz n.toNat dz,wr:=true}])):
  dL P w0 g0 g w s.A (do pure (.value (<-Instr.makeSlice t (.int kl n) (.int kc n)))) K:=by
 obtain⟨i,hi,o8,Dm,MO⟩:=gx he;obtain⟨zv,Hi,GM⟩:=MO z hz;have uM:=mP ht tC;obtain⟨m,rfl⟩:=Int.eq_ofNat_of_zero_le h0;simp only[W2]at hb hm hK;have hmul:(i.bytes:Int)*(m:Int)<=281474976710656:=by
  have h:((i.bytes*m:Nat):Int)<=281474976710656:=by rw[Dm,Wj];omega
  rwa[Int.natCast_mul]at h
 have fC:=run_make (P:=P) w t e i zv uM hi Hi kl kc m m (by omega) (Int.le_refl _) hmul (by omega);simp only[W2,o8]at fC;have I3:zv.cells.size=de.sz:=by have:=iW GM;simp at this;omega
 have C3:=rY SI;obtain⟨g2,KF,Bm,kR⟩:=hI.ej (.cells (madeCells zv.cells (m*de.sz)) e) 0;have C2:=hF.ej (.cells (madeCells zv.cells (m*de.sz)) e) 0;rw[<-KF]at C2;have dP:=World.ownsRow_lit (base:=0) (e:=e) (size:=de.sz) w (madeCells zv.cells (m*de.sz)) m (Wc _) (by simp only[maxLen];omega) (size_madeCells _ _);have ya:∀(m j:Nat) (x:DV),(Wz m dz).flatten[j]? =some x->dz[j % de.sz]? =some x:=by
  intro m;induction m with
  |zero=>intro j x h;simp at h
  |succ m ih=>
   intro j x h;simp only[List.replicate_succ,Ws]at h;by_cases hj:j<dz.length
   ·rw[Wq hj]at h;rwa[Nat.mod_eq_of_lt (by omega)]
   ·rw[Wr (by omega)]at h;have:=ih _ _ h;rwa[show dz.length=de.sz by omega,<-Nat.mod_eq_sub_mod (by omega)]at this
 obtain⟨g3,Ub,Uc,Qv,Qw,Qx,Qy⟩:=Bm.qY C2 {sz:=de.sz,eA:=e,rows:=Wz m dz,wr:=true} (.slice (some ⟨w.heap.size,0,none⟩) m m) (madeCells zv.cells (m*de.sz)).toList
  (fun r hr=>by simp at hr;rw[hr.2];show dz.length=de.sz;omega) (by simpa using dP)
  (fun j x u h6 h7=>by
   have h8:=ya m j x h6;have Ud:j<m*de.sz:=by
    have:=(Wo.1 h7).1;simpa[size_madeCells]using this
   have h9:u=zv.cells[j % zv.cells.size]! :=by
    simp[madeCells,Ud]at h7;exact h7.symm
   have ax:j % de.sz<zv.cells.size:=by rw[I3];exact Nat.mod_lt _ re
   have cJ:zv.cells.toList[j % de.sz]? =some u:=by
    rw[h9,I3];simp[ax]
   have Qz:j % de.sz<z.length:=by omega
   have Nt:z[j % de.sz]? =some z[j % de.sz]:=Wp Qz;have eG:=o7 GM _ _ _ Nt cJ;have wx:∀{cs:List CV} {ds:List DV},iL s.A cs=some ds->∀(j:Nat) c x,cs[j]? =some c->ds[j]? =some x->nE s.A c=some x:=by
    intro cs;induction cs with
    |nil=>intro ds h j c x h1;simp at h1
    |cons c cs ih=>
     intro ds h j c' x h1 h2;simp only[iL]at h;split at h
     ·rename_i d1 d2 h3 h4;simp at h;subst h;cases j with
      |zero=>simp at h1 h2;subst h1;subst h2;exact h3
      |succ j=>simp at h1 h2;exact ih h4 j c' x h1 h2
     ·simp at h
   exact Hj eG (wx SI _ _ _ Nt h8))
  (fun b hb=>by
   simp[Value.ownBlock]at hb;subst hb;subst KF;refine⟨by simp,hF.size,fun l hl=>?_,fun k v hv hb=>?_⟩
   ·have:=hI.qW (g:=g) hl;omega
   ·have:=hI.mN (g:=g) hv hb;omega)
 refine⟨_,_,_,_,_,_,g3,hK,bp fC,.inl rfl,?_,Qw,kR.trans Qx,Qy⟩;refine⟨some ⟨w.heap.size,0,none⟩,m,rfl,{sz:=de.sz,eA:=e,rows:=Wz m dz,wr:=true},?_,by simp,fun _=>?_⟩
 ·rw[Wr (Wa _)];simp
 ·rw[Qv,Wr (by rw[Bm.lT];exact Wa _),Bm.lT];simp
end
section
variable {P:Program} {g g' g0:Gh} {w w' w0:World} {V V':List (List CV)} {A A':List bu} {s:St} {a:Act} {K:AV->List (List CV)->List bu->Prop}
theorem EC:∀{fs:List Field} {l:List (Nat×Nat)},yp P fs=some l->∀{i off sz:Nat},l[i]? =some (off,sz)->∃f inf,fs[i]? =some f/\f.offset=off/\P.info? f.type=some inf/\inf.size=sz
 |[],l,h,i,off,sz,hi=>by simp[yp]at h;subst h;simp at hi
 |f::r,l,h,i,off,sz,hi=>by
  simp only[yp]at h;split at h
  ·rename_i inf l' h1 h2;simp at h;subst h;cases i with
   |zero=>simp at hi;exact⟨f,inf,rfl,hi.1,h1,hi.2⟩
   |succ i=>simp at hi;simpa using EC h2 hi
  ·simp at h
theorem o9 {t:TypeId} {d:TD} (ht:td P t=some d) {f off sz:Nat} (hf:d.fl[f]? =some (off,sz)) (e5:sz≠0) (b o:Nat):(Instr.fieldAt t (.pointer (some ⟨b,o,none⟩)) f).run P w=.ok (.pointer (some ⟨b,o+off,none⟩)) w:=by
 obtain⟨de,i,hu,hi,rfl⟩:=lA ht;cases de with
 |struct fs=>
  simp only[MN]at hf;cases Lt:yp P fs.toList with
  |none=>simp[Lt]at hf
  |some l=>
   simp only[Lt,W1]at hf;obtain⟨fld,inf,h1,h2,h3,h4⟩:=EC Lt hf;have mB:fs[f]? =some fld:=by simpa using h1
   subst h2;subst h4;simp[Instr.fieldAt,run_underlying hu,mB,Instr.sureAddr,fieldPlace,sizeOf,typeInfo,h3,e5,mQ]
 |_=>simp[MN]at hf
theorem pc {t e:TypeId} {d de:TD} (ht:td P t=some d) (tC:d.el=some e) (he:td P e=some de) {b off n cap:Nat} {k:IntKind} {i:Int} (h0:0<=i) (h1:i.toNat<n):
  (Instr.indexAt t (.slice (some ⟨b,off,none⟩) n cap) (.int k i)).run P w=.ok (.pointer (some ⟨b,off+i.toNat*de.sz,none⟩)) w:=by
 have hu:=mP ht tC;obtain⟨inf,hi,e5,_,_⟩:=gx he;have hc:0<=i/\i<n:=by omega
 simp[Instr.indexAt,asIntOf,run_underlying hu,hc,sizeOf,typeInfo,hi,e5,mQ]
theorem wz {t e:TypeId} {d de:TD} {len:Nat} (ht:td P t=some d) (tC:d.ar=some (len,e)) (he:td P e=some de) {b off:Nat} {k:IntKind} {i:Int} (h0:0<=i) (h1:i<len):
  (Instr.indexAt t (.pointer (some ⟨b,off,none⟩)) (.int k i)).run P w=.ok (.pointer (some ⟨b,off+i.toNat*de.sz,none⟩)) w:=by
 have hu:=KA ht tC;obtain⟨inf,hi,e5,_,_⟩:=gx he;have hc:0<=i/\i<len:=by omega
 simp[Instr.indexAt,asIntOf,run_underlying hu,Instr.sureAddr,hc,sizeOf,typeInfo,hi,e5,mQ]
theorem tD (hI:Inv g w V A) {v:AV} {u:Value} (hv:aO g w A v u) {nr:List (List DV)} (h:rowsOf A v=some nr) {sz:Nat} (hl:∀r∈nr,r.length=sz):
  ∃news:List Value,((nr.length=0/\news=[]/\∃a c,u=.slice a 0 c)\/∃a c,u=.slice (some a) nr.length c/\news.length=nr.length*sz/\∀(j:Nat) x,news[j]? =some x->w.cell? (a.add j)=some x)/\
   (∀u∈news,u.oneCell'=true)/\∀(j:Nat) x y,nr.flatten[j]? =some x->news[j]? =some y->bh g.im w x y:=by
 have key:∀(b off sz':Nat) (rows:List (List DV)),(∀r∈rows,r.length=sz)->cr g.im w b sz' off rows->rows≠[]->sz'=sz/\
   ∃news:List Value,news.length=rows.length*sz/\(∀(j:Nat) x,news[j]? =some x->w.cell? ⟨b,off+j,none⟩=some x)/\∀(j:Nat) x y,rows.flatten[j]? =some x->news[j]? =some y->bh g.im w x y:=by
  intro b off sz' rows hl yk dj;have e5:sz'=sz:=by
   cases rows with
   |nil=>exact absurd rfl dj
   |cons r rs=>simp only[cr]at yk;have:=hl r (by simp);omega
  subst e5;have SJ:=eO hl;obtain⟨vs,h1,h2⟩:=nG w b off (rows.length*sz') (fun j u=>∀x,rows.flatten[j]? =some x->bh g.im w x u) (fun j hj=>by
   have re:0<sz':=by rcases Nat.eq_zero_or_pos sz' with h|h;·subst h;simp at hj
                     ·exact h
   have hdiv:j / sz'<rows.length:=Nat.div_lt_of_lt_mul (by rw[Wj];exact hj);have ef:rows[j / sz']? =some rows[j / sz']:=Wp hdiv;obtain⟨h3,h4⟩:=cr.at_ yk ef;have Ue:=Nat.mod_lt j re;have hx:(rows[j / sz'])[j % sz']? =some (rows[j / sz'])[j % sz']:=Wp (by omega);obtain⟨u,h5,h6⟩:=dB.at_ h4 hx;have Hg:j / sz'*sz'+j % sz'=j:=by rw[Wj];exact Nat.div_add_mod j sz'
   refine⟨u,by rw[<-Hg,<-Wd];exact h5,fun x h7=>?_⟩;have h8:=lz hl ef hx;rw[Hg,h7]at h8;cases h8;exact h6)
  exact⟨rfl,vs,h1,fun j x hx=>(h2 j x hx).1,fun j x y hx hy=>(h2 j y hy).2 x hx⟩
 cases v with
 |agg xs=>simp[rowsOf]at h
 |a8 xs=>simp[rowsOf]at h
 |c c=>
  cases c with
  |d x=>
   cases x with
   |sl rows=>
    simp[rowsOf]at h;subst h;simp only[aO,dK,bn,bh]at hv;obtain⟨ad,cap,rfl,_,hr⟩:=hv;rcases hr with rfl|⟨b,off,sz',rfl,_,yk⟩
    ·exact⟨[],.inl ⟨rfl,rfl,ad,cap,rfl⟩,by simp,fun j x y hx=>by simp at hx⟩
    ·by_cases dj:rows=[]
     ·subst dj;exact⟨[],.inl ⟨rfl,rfl,_,cap,rfl⟩,by simp,fun j x y hx=>by simp at hx⟩
     ·obtain⟨rfl,news,h1,h2,h3⟩:=key b off sz' rows hl yk dj;refine⟨news,.inr ⟨_,cap,rfl,h1,fun j x hx=>by rw[mQ];exact h2 j x hx⟩,fun u hu=>?_,h3⟩;obtain⟨j,hj⟩:=WA hu;have jA:j<rows.flatten.length:=by rw[eO hl,<-h1];exact(Wo.1 hj).1
      exact bh.l5 (h3 j _ u (Wp jA) hj)
   |_=>simp[rowsOf]at h
  |nil=>
   simp[rowsOf]at h;subst h;simp only[aO,dK,bn]at hv;subst hv;exact⟨[],.inl ⟨rfl,rfl,none,0,rfl⟩,by simp,fun j x y hx=>by simp at hx⟩
  |own k n=>
   obtain⟨ad,cap,rfl,r,hk,hn,hq⟩:=hv;simp only[rowsOf,hk]at h;split at h
   ·rename_i dj;simp at h;subst h;have Di:=hq dj;obtain⟨h1,_,xs,dP,hr⟩:=hI.arr k r _ hk Di;rcases dP.2 with⟨h2,h3⟩|⟨b,cap',cur,h2,_,hh,_,_,_,_⟩
    ·have h4:r.rows=[]:=Wv h3;refine⟨[],.inl ⟨h3,rfl,ad,cap,by rw[dj,h3]⟩,by simp,fun j x y hx=>by rw[h4]at hx;simp at hx⟩
    ·have hb:(Value.slice ad n cap).ownBlock=some b:=by rw[h2];rfl
     by_cases Jm:r.rows=[]
     ·refine⟨[],.inl ⟨by rw[Jm];rfl,rfl,ad,cap,by rw[dj,Jm];rfl⟩,by simp,fun j x y hx=>by rw[Jm]at hx;simp at hx⟩
     ·have e5:r.sz=sz:=by
       cases yk:r.rows with
       |nil=>exact absurd yk Jm
       |cons q qs=>have e1:=h1 q (by rw[yk];simp);have e2:=hl q (by rw[yk];simp);omega
      refine⟨xs,.inr ⟨⟨b,0,none⟩,cap',by rw[h2],by rw[dP.1,e5],dP.cells hb⟩,fun u hu=>?_,hr⟩;obtain⟨j,hj⟩:=WA hu;have jA:j<r.rows.flatten.length:=by rw[eO h1,<-dP.1];exact(Wo.1 hj).1
      exact bh.l5 (hr j _ u (Wp jA) hj)
   ·simp at h
  |_=>simp[rowsOf]at h
theorem oF {t ty:TypeId} {v u:Value} {v':Value} {w':World} (h:(Builtin.append_ #[t,t] ty #[v,u]).run P w=.ok v' w'):(builtin .append #[t,t] ty #[] #[v,u]).run P w=.ok (.value v') w':=bp h
theorem jH (hI:Inv g w s.V s.A) (hF:Fr w0 g0 w g) {t e:TypeId} {d de:TD} (ht:td P t=some d) (tC:d.el=some e) (he:td P e=some de) {z:List CV} (hz:de.zero=some z) (qK:z.length=de.sz) {k n:Nat} {v u:Value} (hv:bn g w s.A (.own k n) v)
  {y:AV} (hy:aO g w s.A y u) {nr:List (List DV)} (ED:rowsOf s.A y=some nr) (hl:∀r∈nr,r.length=de.sz) {r:bu} (hk:s.A[k]? =some r) (hn:n=r.rows.length) (QA:r.eA=e) (Nu:r.sz=de.sz) (hb:(n+nr.length)*de.lS<=140737488355328) (hm:n+nr.length<=9223372036854775807) {ty:TypeId}
  (hK:K (.c (.own k (n+nr.length))) s.V (s.A.set k {r with rows:=r.rows++nr})):dL P w0 g0 g w s.A (do pure (.value (<-Builtin.append_ #[t,t] ty #[v,u]))) K:=by
 obtain⟨i,hi,o8,Dm,h0⟩:=gx he;obtain⟨zv,Hi,GM⟩:=h0 z hz;have I3:zv.cells.size=i.size:=by have:=iW GM;simp at this;omega
 obtain⟨ad,cap,Uf,r',o6,_,hq⟩:=hv;obtain rfl:r=r':=by rw[hk]at o6;exact Option.some.inj o6
 have Di:=hq hn;subst hn;subst QA;obtain⟨h1,_,xs,dP,_⟩:=hI.arr k r v hk Di;obtain⟨news,wA,vF,Aa⟩:=tD hI hy ED hl;have y3:w.ownsRow 0 r.eA i.size v r.rows.length xs:=by rw[o8,<-Nu];exact dP
 obtain⟨v',w',fC,s6,hc⟩:=my (P:=P) t ty r.eA i zv (mP ht tC) hi Hi I3 v r.rows.length xs y3 u nr.length news (by rw[o8];exact wA) vF (by simp only[maxLen];omega) (by rw[Dm];exact hb);have Nv:(dL P w0 g0 g w s.A (do pure (.value (<-Builtin.append_ #[t,t] ty #[v,u]))) K):=by
  by_cases dj:nr=[]
  ·subst dj;have Bk:news=[]:=by
    rcases wA with⟨_,h,_⟩|⟨_,_,_,h,_⟩
    ·exact h
    ·exact Wv (by simpa using h)
   subst Bk;obtain⟨a0,c0,rfl⟩:∃a0 c0,u=.slice a0 0 c0:=by
    rcases wA with⟨_,_,h⟩|⟨a0,c0,h,_⟩
    ·exact h
    ·exact⟨some a0,c0,h⟩
   have Nw:(Builtin.append_ #[t,t] ty #[v,.slice a0 0 c0]).run P w=.ok v w:=by
    have No:∀(ad:Option Addr) (c:Nat) (w:World),(Builtin.firstCells i.size 0 (.slice ad 0 c)).run P w=.ok #[] w:=fun ad c w=>by
     cases ad<;>simp[Builtin.firstCells,loadCells,loadCellsFrom]
    rcases y3.2 with⟨h6,h7⟩|⟨gb,cp,cur,h6,_,_,Df,_⟩
    ·rw[h6];simp[Builtin.append_,run_underlying (mP ht tC),sizeOf,typeInfo,hi,Builtin.lenOf,No]
    ·rw[h6];simp[Builtin.append_,run_underlying (mP ht tC),sizeOf,typeInfo,hi,Builtin.lenOf,No,Df,storeCells]
   have bN:s.A.set k {r with rows:=r.rows++[]}=s.A:=by
    apply WG;intro j;rw[dA hk];by_cases e:j=k
    ·subst e;simp[hk]
    ·simp[e]
   rw[bN]at hK;exact dL.value hI hF (bp Nw) (x:=.c (.own k (r.rows.length+0))) ⟨ad,cap,Uf,r,hk,Wa _,fun _=>Di⟩ hK
  ·obtain⟨g',yb,gI,s8,Ug,_,_⟩:=hI.grow hF hk Di nr dj news (fun row ef=>by rw[hl row ef,Nu]) Aa
    (fun xs' gI=>by
     obtain rfl:xs'=xs:=by
      rcases gI.2 with⟨e1,e2⟩|⟨b1,c1,cu1,e1,_,e3,_,_,_,e4⟩<;>rcases dP.2 with⟨f1,f2⟩|⟨b2,c2,cu2,f1,_,f3,_,_,_,f4⟩
      ·have:=gI.1;have:=dP.1;rw[e2]at*;simp at*;simp[*]
      ·rw[e1]at f1;simp at f1
      ·rw[e1]at f1;simp at f1
      ·rw[e1]at f1;simp at f1;obtain⟨rfl,rfl⟩:=f1;rw[e3]at f3;simp at f3;subst f3;rw[<-e4,<-f4]
     rw[show r.sz=i.size by omega];exact s6) hc
   refine⟨_,_,_,_,_,_,g',hK,bp fC,.inl rfl,?_,yb,gI,s8⟩;have MR:∃ad' cap',v'=.slice ad' (r.rows.length+nr.length) cap':=by
    rcases s6.2 with⟨e1,e2⟩|⟨b1,c1,cu1,e1,_⟩
    ·exact⟨none,0,by rw[e1,e2]⟩
    ·exact⟨_,_,e1⟩
   obtain⟨ad',cap',rfl⟩:=MR;refine⟨ad',cap',rfl,{r with rows:=r.rows++nr},?_,by simp,fun _=>Ug⟩;rw[dA hk];simp
 exact Nv
end
section
variable {P:Program} {g g' g0:Gh} {w w' w0:World} {V V':List (List CV)} {A A':List bu} {s:St} {a:Act} {K:AV->List (List CV)->List bu->Prop}
theorem mR (hI:Inv g w s.V s.A) (hF:Fr w0 g0 w g) {t e:TypeId} {d de:TD} (ht:td P t=some d) (tC:d.el=some e) (he:td P e=some de) {z:List CV} (hz:de.zero=some z) (qK:z.length=de.sz) {u:Value}
  {y:AV} (hy:aO g w s.A y u) {nr:List (List DV)} (ED:rowsOf s.A y=some nr) (hl:∀r∈nr,r.length=de.sz) (hb:nr.length*de.lS<=140737488355328) (hm:nr.length<=9223372036854775807) {ty:TypeId}
  (hK:K (.c (.own s.A.length nr.length)) s.V (s.A++[{sz:=de.sz,eA:=e,rows:=nr,wr:=true}])):dL P w0 g0 g w s.A (do pure (.value (<-Builtin.append_ #[t,t] ty #[.slice none 0 0,u]))) K:=by
 obtain⟨g1,KG,p9,tA,fj,dC,kH⟩:=hI.qY hF {sz:=de.sz,eA:=e,rows:=[],wr:=true} (.slice none 0 0) [] (by simp) (World.ownsRow_nil w 0 e de.sz) (fun j x u h=>by simp at h) (fun b h=>by simp[Value.ownBlock]at h);have hk:(s.A++[({sz:=de.sz,eA:=e,rows:=[],wr:=true}:bu)])[s.A.length]? =some {sz:=de.sz,eA:=e,rows:=[],wr:=true}:=by simp
 have Bt:rowsOf (s.A++[({sz:=de.sz,eA:=e,rows:=[],wr:=true}:bu)]) y=some nr:=by
  cases y with
  |c c=>
   cases c with
   |own k n=>
    simp only[rowsOf]at ED⊢;cases o6:s.A[k]? with
    |none=>simp[o6]at ED
    |some r=>rw[Wq (Wo.1 o6).1,o6];simpa only[o6]using ED
   |d x=>cases x<;>exact ED
   |_=>exact ED
  |_=>exact ED
 have:=jH (P:=P) (g:=g1) (w:=w) (w0:=w0) (g0:=g0) (s:={s with A:=s.A++[{sz:=de.sz,eA:=e,rows:=[],wr:=true}]}) (K:=K) fj kH ht tC he hz qK (k:=s.A.length) (n:=0) (v:=.slice none 0 0) (u:=u)
  ⟨none,0,rfl,_,hk,Wc _,fun _=>by rw[tA,Wr (by rw[hI.lT];exact Wa _),hI.lT];simp⟩ (aO.ext dC hy) Bt hl hk rfl rfl rfl (by simpa using hb) (by simpa using hm) (ty:=ty) (by
   simp only[We,WN];have:(s.A++[({sz:=de.sz,eA:=e,rows:=[],wr:=true}:bu)]).set s.A.length {sz:=de.sz,eA:=e,rows:=nr,wr:=true}=s.A++[{sz:=de.sz,eA:=e,rows:=nr,wr:=true}]:=by simp
   rw[this];exact hK)
 obtain⟨x,V',A',nx,v,w',g',h1,h2,h3,h4,h5,h6,h7⟩:=this;exact⟨x,V',A',nx,v,w',g',h1,h2,h3,h4,h5,dC.trans h6,h7⟩
theorem Dn (b:List UInt8) (i j:Nat):(bs b).extract i j=bs ((b.take j).drop i):=by
 apply ByteArray.ext;simp[bs,ByteArray.data_extract,List.extract_toArray,List.drop_take]
theorem nH (hS:iA g w s a) {o:Option Operand} {x:Option AV} (h:mz s o=some x):(x=none/\o.map a.eval=none)\/∃v u,x=some v/\o.map a.eval=some u/\aO g w s.A v u:=by
 cases o with
 |none=>simp[mz]at h;exact .inl ⟨h.symm,rfl⟩
 |some o=>
  simp only[mz,WZ]at h;obtain⟨v,hv,rfl⟩:=h;exact .inr ⟨v,_,rfl,rfl,aJ hS hv⟩
theorem wB (isSl:Bool) (len cap:Nat) (nI:len<=cap) {lo hi:Option AV} {vl vh:Option Value} (GJ:(lo=none/\vl=none)\/∃v u,lo=some v/\vl=some u/\aO g w A v u) (QB:(hi=none/\vh=none)\/∃v u,hi=some v/\vh=some u/\aO g w A v u)
  {i j:Int} (MS:rX lo=some i) (Hk:mO hi len=some j) (h0:0<=i) (h1:i<=j) (h2:j<=len):(Instr.sliceBounds isSl len cap vl vh none).run P w=.ok (i.toNat,j.toNat,cap) w:=by
 have SK:j<=(cap:Int):=by omega
 have QC:0<=j:=by omega
 have hb:∀{lo:Option AV} {vl:Option Value} {i:Int},((lo=none/\vl=none)\/∃v u,lo=some v/\vl=some u/\aO g w A v u)->rX lo=some i->(vl=none/\i=0)\/∃k,vl=some (.int k i):=by
  intro lo vl i h hs;rcases h with⟨rfl,rfl⟩|⟨v,u,rfl,rfl,hr⟩
  ·simp[rX]at hs;exact .inl ⟨rfl,hs.symm⟩
  ·unfold rX at hs;split at hs
   ·rename_i heq;simp at heq
   ·rename_i k n heq;simp at heq hs;subst heq;subst hs;simp only[aO,dK,bn,bh]at hr;exact .inr ⟨k,by rw[hr]⟩
   ·simp at hs
 have hh:(vh=none/\j=len)\/∃k,vh=some (.int k j):=by
  rcases QB with⟨rfl,rfl⟩|⟨v,u,rfl,rfl,hr⟩
  ·simp[mO]at Hk;exact .inl ⟨rfl,Hk.symm⟩
  ·unfold mO at Hk;split at Hk
   ·rename_i heq;simp at heq
   ·rename_i k n heq;simp at heq Hk;subst heq;subst Hk;simp only[aO,dK,bn,bh]at hr;exact .inr ⟨k,by rw[hr]⟩
   ·simp at Hk
 have rP:(j.toNat:Int)=j:=Int.toNat_of_nonneg QC;rcases hb GJ MS with⟨rfl,rfl⟩|⟨k,rfl⟩<;>rcases hh with⟨rfl,rfl⟩|⟨k',rfl⟩
 ·simp[Instr.sliceBounds]
 ·simp[Instr.sliceBounds,run_sliceBound w k' j cap _ QC SK]
 ·simp[Instr.sliceBounds,run_sliceBound w k i len _ h0 (by omega)]
 ·simp[Instr.sliceBounds,run_sliceBound w k' j cap _ QC SK,run_sliceBound w k i j.toNat _ h0 (by omega)]
theorem vH (hI:Inv g w s.V s.A) (hF:Fr w0 g0 w g) (hS:iA g w s a) {t:TypeId} {d:TD} (ht:td P t=some d) (hd:d.cO=true) {b:List UInt8} {v:Value} (hv:aO g w s.A (.c (.d (.str b))) v) {lo hi:Option Operand} {l h:Option AV} (hl:mz s lo=some l) (hh:mz s hi=some h)
  {i j:Int} (MS:rX l=some i) (Hk:mO h b.length=some j) (h0:0<=i) (h1:i<=j) (h2:j<=b.length) (hK:K (.c (.d (.str ((b.take j.toNat).drop i.toNat)))) s.V s.A):
  dL P w0 g0 g w s.A (do pure (.value (<-Instr.sliceAt t v (lo.map a.eval) (hi.map a.eval) none))) K:=by
 simp only[aO,dK,bn,bh]at hv;subst hv;have hu:=q8 ht hd;have hb:=wB (P:=P) (g:=g) (w:=w) (A:=s.A) false (bs b).size (bs b).size (Wa _) (nH hS hl) (nH hS hh) MS (by rw[qa];exact Hk) h0 h1 (by rw[qa];exact h2);refine dL.value hI hF (bp ?_) (x:=.c (.d (.str ((b.take j.toNat).drop i.toNat)))) (v:=.string (bs ((b.take j.toNat).drop i.toNat))) rfl hK;rw[run_sliceAt_string w t _ _ _ _ hu];simp[Instr.slice,run_underlying hu,hb,Dn]
theorem Bu (hI:Inv g w V A) (hF:Fr w0 g0 w g) {v:AV} {u:Value} (hv:aO g w A v u) {rows:List (List DV)} (h:rowsOf A v=some rows):
  ∃g',Inv g' w V (bQ A v.cells)/\Ext g w A g' w (bQ A v.cells)/\Fr w0 g0 w g'/\bh g'.im w (.sl rows) u:=by
 cases v with
 |c c=>
  have hd:nE A c=some (.sl rows):=by
   cases c with
   |d x=>cases x<;>simp[rowsOf]at h;subst h;rfl
   |nil=>simp[rowsOf]at h;subst h;rfl
   |own k n=>
    simp only[rowsOf]at h;simp only[nE];split at h
    ·split at h
     ·simp at h;subst h;simp[*]
     ·simp at h
    ·simp at h
   |_=>simp[rowsOf]at h
  obtain⟨g',h1,h2,h3,_,_,h6⟩:=rZ hI hF hv hd;exact⟨g',h1,h2,h3,h6⟩
 |_=>simp[rowsOf]at h
theorem tE (hI:Inv g w s.V s.A) (hF:Fr w0 g0 w g) (hS:iA g w s a) {t e:TypeId} {d de:TD} (ht:td P t=some d) (tC:d.el=some e) (he:td P e=some de) {x:AV} {v:Value} (hv:aO g w s.A x v) {rows:List (List DV)} (hr:rowsOf s.A x=some rows) {lo hi:Option Operand} {l h:Option AV} (hl:mz s lo=some l) (hh:mz s hi=some h)
  {i j:Int} (MS:rX l=some i) (Hk:mO h rows.length=some j) (h0:0<=i) (h1:i<=j) (h2:j<=rows.length) (e5:∀r∈rows,r.length=de.sz) (hK:K (.c (.d (.sl ((rows.take j.toNat).drop i.toNat)))) s.V (bQ s.A x.cells)):
  dL P w0 g0 g w s.A (do pure (.value (<-Instr.sliceAt t v (lo.map a.eval) (hi.map a.eval) none))) K:=by
 obtain⟨g',yb,gI,s8,hd⟩:=Bu hI hF hv hr;have hu:=mP ht tC;obtain⟨inf,Nx,Ls,_,_⟩:=gx he;simp only[bh]at hd;obtain⟨ad,cap,rfl,nI,yk⟩:=hd;have hb:=wB (P:=P) (g:=g) (w:=w) (A:=s.A) true rows.length cap nI (nH hS hl) (nH hS hh) MS Hk h0 h1 h2;have fC:(Instr.sliceAt t (.slice ad rows.length cap) (lo.map a.eval) (hi.map a.eval) none).run P w=.ok (.slice (if cap=i.toNat then ad else ad.map (·.add (i.toNat*de.sz))) (j.toNat-i.toNat) (cap-i.toNat)) w:=by
  simp[Instr.sliceAt,Instr.slice,run_underlying hu,hb,sizeOf,typeInfo,Nx,Ls]
 refine⟨_,_,_,_,_,_,g',hK,bp fC,.inl rfl,?_,yb,gI,s8⟩;simp only[aO,dK,bn,bh];have hlen:((rows.take j.toNat).drop i.toNat).length=j.toNat-i.toNat:=by simp;omega
 refine⟨_,_,by rw[hlen],by rw[hlen];omega,?_⟩;by_cases dj:(rows.take j.toNat).drop i.toNat=[]
 ·exact .inl dj
 ·have re:0<j.toNat-i.toNat:=by rw[<-hlen];exact WJ.2 dj
  rcases yk with rfl|⟨b,off,sz,rfl,qX,yk⟩
  ·simp at dj
  ·have QD:sz=de.sz:=by
    cases rows with
    |nil=>simp at dj
    |cons r rs=>simp only[cr]at yk;have:=e5 r (by simp);omega
   subst QD;have hmul:(i.toNat+(j.toNat-i.toNat))*de.sz<=rows.length*de.sz:=Wf _ (by omega);rw[Wb]at hmul;refine .inr ⟨b,off+i.toNat*de.sz,de.sz,by rw[if_neg (by omega)];simp[mQ],by rw[hlen];omega,cr.mk fun q r hq=>?_⟩;have QE:rows[i.toNat+q]? =some r:=by
    rw[WB,Wu]at hq;split at hq
    ·exact hq
    ·cases hq
   have:=cr.at_ yk QE;rwa[Wb,<-Wd]at this
theorem ai {α:Type} {o:Option α} {k:α->Prop} {Q:Prop} (h:bU o k) (f:∀v,o=some v->k v->Q):Q:=by
 obtain⟨v,h1,h2⟩:=cC h;exact f v h1 h2
theorem wC (hI:Inv g w V A):∀{cs:List AV} {ls:List Nat} {vs:List Value},Hf cs=some ls->vs.length=cs.length->(∀(j:Nat) c u,cs[j]? =some c->vs[j]? =some u->aO g w A c u)->
  ∃bks:List Nat,vs=bks.map (fun b=>Value.pointer (some ⟨b,0,none⟩))/\bks.length=ls.length/\∀(i l b:Nat),ls[i]? =some l->bks[i]? =some b->g.ob[l]? =some b
 |[],ls,vs,h,hl,_=>by
  simp[Hf]at h;subst h;have:vs=[]:=Wv (by simpa using hl);subst this;exact⟨[],rfl,rfl,fun i l b h=>by simp at h⟩
 |c::r,ls,vs,h,hl,hr=>by
  cases vs with
  |nil=>simp at hl
  |cons v vs=>
   unfold Hf at h;split at h
   ·rename_i heq;simp at heq
   ·rename_i l r' heq;simp at heq;obtain⟨rfl,rfl⟩:=heq;simp only[WZ]at h;obtain⟨ls',h1,rfl⟩:=h;obtain⟨b,hb,hv⟩:∃b,g.ob[l]? =some b/\v=.pointer (some ⟨b,0,none⟩):=hr 0 _ v rfl rfl;obtain⟨bks,h2,h3,h4⟩:=wC hI h1 (vs:=vs) (by simpa using hl) (fun j c u h5 h6=>hr (j+1) c u (by simpa using h5) (by simpa using h6));refine⟨b::bks,by simp[hv,h2],by simp[h3],fun i l' b' h5 h6=>?_⟩;cases i with
    |zero=>simp at h5 h6;subst h5;subst h6;exact hb
    |succ i=>simp at h5 h6;exact h4 i l' b' h5 h6
   ·simp at h
theorem l8 (hS:iA g w s a):∀{os:List Operand} {xs:List AV},iz s os=some xs->xs.length=os.length/\∀(j:Nat) x u,xs[j]? =some x->(os.map a.eval)[j]? =some u->aO g w s.A x u
 |[],xs,h=>by simp[iz]at h;subst h;exact⟨rfl,fun j x u h=>by simp at h⟩
 |o::r,xs,h=>by
  simp only[iz]at h;split at h
  ·rename_i v l h1 h2;simp at h;subst h;obtain⟨h3,h4⟩:=l8 hS h2;refine⟨by simp[h3],fun j x u h5 h6=>?_⟩;cases j with
   |zero=>simp at h5 h6;subst h5;subst h6;exact aJ hS h1
   |succ j=>simp at h5 h6;exact h4 j x u h5 (by simpa using h6)
  ·simp at h
theorem Dp {v:AV} {u:Value} {n:Nat} (hv:aO g w A v u) (h:z6 v=some n):(∃b,v=.c (.d (.str b))/\u=.string (bs b)/\n=b.length)\/((∀b,v≠.c (.d (.str b)))/\∃a c,u=.slice a n c):=by
 unfold z6 at h;split at h
 ·rename_i b;simp at h;subst h;exact .inl ⟨b,rfl,hv,rfl⟩
 ·simp at h;subst h;simp only[aO,dK,bn,bh]at hv;obtain⟨a,c,rfl,_⟩:=hv;exact .inr ⟨by simp,a,c,rfl⟩
 ·simp at h;subst h;simp only[aO,dK,bn]at hv;exact .inr ⟨by simp,none,0,hv⟩
 ·simp at h;subst h;obtain⟨a,c,rfl,_⟩:=hv;exact .inr ⟨by simp,a,c,rfl⟩
 ·simp at h
theorem dL.Hl {A:List bu} {m:Sem Next} (h:dL P w0 g0 g w A m fun x V A=>∃(k:Nat) (r:bu),x=.c (.own k r.rows.length)/\A[k]? =some r/\K (.c (.d (.sl r.rows))) V (A.set k {r with wr:=false})):dL P w0 g0 g w A m K:=by
 obtain⟨x,V',A',nx,v,w',g',⟨k,r,rfl,hk,hK⟩,hm,hn,hr,hI,hx,hF⟩:=h;obtain⟨_,_,e,r',o6,_,hv⟩:=hr;obtain rfl:r=r':=Option.some.inj (hk.symm.trans o6);obtain⟨g2,Bm,kR,C2,_,_,hd⟩:=hI.seal hF hk (hv rfl);exact⟨_,_,_,nx,v,w',g2,hK,hm,hn,hd,Bm,hx.trans kR,C2⟩
set_option maxHeartbeats 1000000 in
theorem FC (hI:Inv g w s.V s.A) (hF:Fr w0 g0 w g) (hS:iA g w s a) {ow:Bool} {o:Oper} (h:eS P s ow o.op K):dL P w0 g0 g w s.A (execOp a.eval o) K:=by
 obtain⟨dst,op,type,pos,after,guard⟩:=o;simp only at h;cases op with
 |move x=>
  refine ai h fun v h1 h2=>?_
  exact dL.value hI hF (m:=execOp a.eval ⟨dst,.move x,type,pos,after,guard⟩) rfl (aJ hS h1) h2
 |assign x=>
  refine ai h fun v h1 h2=>?_
  exact dL.value hI hF (m:=execOp a.eval ⟨dst,.assign x,type,pos,after,guard⟩) rfl (aJ hS h1) h2
 |pick c x y=>
  refine ai h fun v h1 h2=>?_
  have hc:=aJ hS h1;split at h2
  ·rename_i t;simp only[aO,dK,bn,bh]at hc;have fC:∀u,(if t then a.eval x else a.eval y)=u->(execOp a.eval ⟨dst,.pick c x y,type,pos,after,guard⟩).run P w=.ok (.value u) w:=fun u hu=>by
    simp[execOp,hc,asBool,hu]
   cases t with
   |true=>simp only[if_true]at h2;exact ai h2 fun v h3 h4=>dL.value hI hF (fC _ rfl) (aJ hS h3) h4
   |false=>simp only[WY,if_false]at h2;exact ai h2 fun v h3 h4=>dL.value hI hF (fC _ rfl) (aJ hS h3) h4
  ·exact h2.elim
 |alloc e=>exact ai h fun d h1 h2=>ai h2 fun z h3 h4=>Bo hI hF h1 h3 h4
 |box e x=>exact ai h fun v h1 h2=>Fz hI hF (aJ hS h1) h2.1 h2.2
 |build t parts=>exact ai h fun d h1 h2=>ai h2 fun z h3 h4=>ai h4 fun ps h5 h6=>ai h6 fun cs h7 h8=>Bs hI hF hS h1 h3 h8.2.1 h5 h7 h8.2.2
 |buildSlice t len parts=>
  exact ai h fun d h1 h2=>ai h2 fun e h3 h4=>ai h4 fun de h5 h6=>ai h6 fun rows h7 h8=>ai h8 fun ds h9 cJ=>tB hI hF hS h1 h3 h5 h7 h9 cJ.1 cJ.2.1 cJ.2.2.1 cJ.2.2.2.1 cJ.2.2.2.2
 |load t x=>
  refine ai h fun d h1 h2=>ai h2 fun p h3 h4=>?_
  split at h4
  ·exact ai h4 fun cs h5 h6=>ai h6 fun v h7 h8=>Dj hI hF h1 (aJ hS h3) h5 h7 h8
  ·exact h4.elim
 |store t x y=>
  refine ai h fun d h1 h2=>ai h2 fun p h3 h4=>ai h4 fun v h5 h6=>?_
  obtain⟨h7,h8,h9⟩:=h6;split at h9
  ·exact ai h9 fun row cJ eG=>vD hI hF h1 (aJ hS h3) (aJ hS h5) h7 h8 cJ eG.1 eG.2
  ·refine ai h9 fun r cJ eG=>?_
   obtain⟨fY,dG,gF⟩:=eG;exact ai gF fun row qL rQ=>ai rQ fun ds Bv rR=>vE hI hF h1 (aJ hS h3) (aJ hS h5) h7 h8 cJ fY dG qL Bv rR.1 rR.2.1 rR.2.2
  ·exact h9.elim
 |nilCheck x=>
  refine ai h fun v h1 h2=>?_
  have hv:=aJ hS h1;split at h2
  ·obtain⟨b,hb,e⟩:=hv;exact dL.value hI hF (v:=a.eval x) (by simp only[execOp,e];rfl) (aJ hS h1) h2
  ·obtain⟨b,o,e,_⟩:=hv;exact dL.value hI hF (v:=a.eval x) (by simp only[execOp,e];rfl) (aJ hS h1) h2
  ·obtain⟨b,o,e,_⟩:=hv;exact dL.value hI hF (v:=a.eval x) (by simp only[execOp,e];rfl) (aJ hS h1) h2
  ·obtain⟨b,e,_⟩:=hv;exact dL.value hI hF (v:=a.eval x) (by simp only[execOp,e];rfl) (aJ hS h1) h2
  ·exact h2.elim
 |binOp op t x y t'=>
  refine ai h fun u h1 h2=>ai h2 fun v h3 h4=>?_
  split at h4
  ·rename_i r hr;obtain⟨z,h5,h6⟩:=z8 (P:=P) (t:=t) (ox:=x) (oy:=y) (aJ hS h1) (aJ hS h3) hr;exact dL.value hI hF (bp h5) h6 h4
  ·split at h4
   ·rename_i r hr;obtain⟨z,h5,h6⟩:=yr (P:=P) (t:=t) (ox:=x) (oy:=y) (aJ hS h1) (aJ hS h3) hr;exact dL.value hI hF (bp h5) h6 h4
   refine ai h4 fun r h5 h6=>ai h6 fun d h7 h8=>?_
   obtain⟨z,h9,cJ⟩:=yq (P:=P) (ox:=x) (oy:=y) h7 h8.1 (aJ hS h1) (aJ hS h3) h5;exact dL.value hI hF (bp h9) cJ h8.2
 |unOp op t x=>
  refine ai h fun u h1 h2=>ai h2 fun r h3 h4=>?_
  obtain⟨z,h5,h6⟩:=FA (P:=P) (aJ hS h1) h3;exact dL.value hI hF (bp h5) h6 h4
 |convert src dst x=>
  refine ai h fun u h1 h2=>ai h2 fun ds h3 h4=>ai h4 fun dd h5 h6=>?_
  have hv:=aJ hS h1;split at h6
  ·rename_i k n;refine ai h6 fun d h7 h8=>?_
   simp only[aO,dK,bn,bh]at hv;obtain⟨de,i,hu,_⟩:=lA h3;unfold SD at h7;split at h7
   ·rename_i k' h9;simp only[Option.some.injEq]at h7;subst h7;refine dL.value hI hF (v:=.int k' (k'.wrap n)) (bp ?_) (x:=.c (.d (.int k' (k'.wrap n)))) rfl h8;rw[hv];simp[convert,run_underlying hu,run_underlying (KB h5 h9),Conv.intToInt]
   ·split at h7
    ·rename_i cJ;simp only[Option.some.injEq]at h7;subst h7;refine dL.value hI hF (v:=.string (bs [UInt8.ofNat n.toNat])) (bp ?_) (x:=.c (.d (.str [UInt8.ofNat n.toNat]))) rfl h8;rw[hv];have he:Utf8.encode n=bs [UInt8.ofNat n.toNat]:=by
      have Dq:Utf8.valid n=true:=by simp[Utf8.valid];omega
      simp only[Utf8.encode,Dq,if_true];rw[if_pos (by omega)]
      rfl
     simp[convert,run_underlying hu,run_underlying (q8 h5 cJ.1),Conv.intToString,he]
    ·cases h7
  ·rename_i b;simp only[aO,dK,bn,bh]at hv;refine dL.value hI hF (v:=.string (bs b)) (bp ?_) (x:=.c (.d (.str b))) rfl h6.2.2;rw[hv];simp[convert,run_underlying (q8 h3 h6.2.1),run_underlying (q8 h5 h6.1)]
  ·rename_i rows;obtain⟨h7,h8⟩:=h6;exact ai h8 fun e h9 cJ=>ai cJ fun de eG fY=>ai fY.2 fun b dG gF=>dL.value hI hF (v:=.string (bs b)) (bp (Br (g:=g) h3 h5 h7 h9 eG fY.1 hv dG)) (x:=.c (.d (.str b))) rfl gF
  ·exact h6.elim
 |makeFunc fn first captured=>
  cases fn with
  |func f=>
   obtain⟨h1,h2⟩:=h;refine ai h2 fun cs h3 h4=>ai h4 fun ls h5 h6=>?_
   obtain⟨h7,h8⟩:=l8 hS h3;obtain⟨bks,h9,cJ,eG⟩:=wC hI h5 (vs:=captured.toList.map a.eval) (by simp[h7]) h8;have hf:first.map a.eval= #[]:=by
    have:first= #[]:=Array.eq_empty_of_size_eq_zero h1
    simp[this]
   have hc:captured.map a.eval=(bks.map fun b=>Value.pointer (some ⟨b,0,none⟩)).toArray:=by
    rw[<-h9,<-WW,Array.toArray_toList]
   exact dL.value hI hF (v:=.func (.func f) #[] (bks.map fun b=>Value.pointer (some ⟨b,0,none⟩)).toArray) (by simp[execOp,Instr.makeFunc,hf,hc]) (x:=.c (.fn f ls)) ⟨bks,rfl,cJ,eG⟩ h6
  |_=>exact h.elim
 |makeSlice t l c=>
  refine ai h fun d h1 h2=>ai h2 fun e h3 h4=>ai h4 fun de h5 h6=>ai h6 fun z h7 h8=>ai h8 fun dz h9 cJ=>ai cJ fun vl eG fY=>ai fY fun vc dG gF=>?_
  have e1:=aJ hS eG;have e2:=aJ hS dG;split at gF
  ·rename_i kl n kc m;simp only[aO,dK,bn,bh]at e1 e2;obtain⟨rfl,qL,rQ,Bv,rR,Lu,I7⟩:=gF;have:=vG (P:=P) (K:=K) hI hF h1 h3 h5 h7 h9 (kl:=kl) (kc:=kc) qL rQ Bv rR Lu I7;simpa only[execOp,e1,e2]using this
  ·exact gF.elim
 |slice t x lo hi mx=>
  obtain⟨rfl,h⟩:=h;refine ai h fun d h1 h2=>ai h2 fun v h3 h4=>ai h4 fun l h5 h6=>ai h6 fun hh h7 h8=>?_
  have hv:=aJ hS h3;split at h8
  ·obtain⟨h9,cJ⟩:=h8;exact ai cJ fun i eG fY=>ai fY fun j dG gF=>vH hI hF hS h1 h9 hv h5 h7 eG dG gF.1 gF.2.1 gF.2.2.1 gF.2.2.2
  ·exact ai h8 fun rows h9 cJ=>ai cJ fun e eG fY=>ai fY fun de dG gF=>ai gF fun i qL rQ=>ai rQ fun j Bv rR=>
    tE hI hF hS h1 eG dG hv h9 h5 h7 qL Bv rR.1 rR.2.1 rR.2.2.1 rR.2.2.2.1 rR.2.2.2.2
 |fieldAddr t x f=>
  refine ai h fun d h1 h2=>ai h2 fun fo h3 h4=>?_
  obtain⟨off,sz⟩:=fo;obtain⟨h5,h6⟩:=h4;refine ai h6 fun v h7 h8=>?_
  have hv:=aJ hS h7;have fC:=fun b o=>o9 (P:=P) (w:=w) h1 h3 h5 b o
  split at h8
  ·rename_i l o;obtain⟨b,hb,e⟩:=hv;exact dL.value hI hF (v:=.pointer (some ⟨b,o+off,none⟩)) (bp (by rw[e];exact fC b o)) (x:=.c (.ptr l (o+off))) ⟨b,hb,rfl⟩ h8
  ·rename_i r o;obtain⟨b,o',e,h9,cJ⟩:=hv;exact dL.value hI hF (v:=.pointer (some ⟨b,o'+o+off,none⟩)) (bp (by rw[e];exact fC b _)) (x:=.c (.ip r (o+off))) ⟨b,o',by rw[Wd],h9,cJ⟩ h8
  ·rename_i k n i o;obtain⟨b,e',e,r,h9,cJ,eG⟩:=hv;refine dL.value hI hF (v:=.pointer (some ⟨b,e'+off,none⟩)) (bp (by rw[e];exact fC b _)) (x:=.c (.op k n i (o+off))) ⟨b,e'+off,rfl,r,h9,cJ,fun fY=>?_⟩ h8;obtain⟨cap,dG,gF⟩:=eG fY;exact⟨cap,dG,by omega⟩
  ·exact h8.elim
 |indexAddr t x ix=>
  refine ai h fun d h1 h2=>ai h2 fun v h3 h4=>ai h4 fun i h5 h6=>?_
  have hv:=aJ hS h3;have EE:=aJ hS h5;split at h6
  ·rename_i k n;simp only[aO,dK,bn,bh]at EE;obtain⟨h0,h6⟩:=h6;split at h6
   ·rename_i rows;refine ai h6 fun e h7 h8=>ai h8 fun de h9 cJ=>ai cJ fun row eG fY=>?_
    simp only[aO,dK,bn,bh]at hv;obtain⟨ad,cap,e1,nI,hr⟩:=hv;have ax:=(Wo.1 eG).1;rcases hr with rfl|⟨b,off,sz,rfl,qX,yk⟩
    ·simp at eG
    ·obtain⟨dG,gF⟩:=cr.at_ yk eG;have e5:sz=de.sz:=by omega
     subst e5;have hmul:(n.toNat+1)*de.sz<=rows.length*de.sz:=Wf _ ax;rw[Wb,Wh]at hmul;exact dL.value hI hF (v:=.pointer (some ⟨b,off+n.toNat*de.sz,none⟩)) (bp (by rw[e1,EE];exact pc h1 h7 h9 h0 ax)) (x:=.c (.ip row 0)) ⟨b,off+n.toNat*de.sz,rfl,by omega,gF⟩ fY.2
   ·rename_i k' m;refine ai h6 fun e h7 h8=>ai h8 fun de h9 cJ=>ai cJ fun r eG fY=>?_
    obtain⟨dG,gF,qL,rQ⟩:=fY;obtain⟨ad,cap,e1,r',o6,hn,hq⟩:=hv;obtain rfl:r=r':=by rw[eG]at o6;exact Option.some.inj o6
    have Di:=hq dG;obtain⟨_,_,xs,dP,_⟩:=hI.arr k' r _ eG Di;rcases dP.2 with⟨e2,e3⟩|⟨b,cap',cur,e2,_⟩
    ·omega
    ·have e4:a.eval x=.slice (some ⟨b,0,none⟩) m cap':=by rw[e2,dG]
     refine dL.value hI hF (v:=.pointer (some ⟨b,0+n.toNat*de.sz,none⟩)) (bp (by rw[e4,EE];exact pc h1 h7 h9 h0 gF)) (x:=.c (.op k' m n.toNat 0)) ⟨b,_,rfl,r,eG,hn,fun _=>⟨cap',by rw[<-e4];exact Di,by rw[qL];omega⟩⟩ rQ
   ·rename_i l off;refine ai h6 fun le h7 h8=>?_
    obtain⟨len,e⟩:=le;refine ai h8 fun de h9 cJ=>?_
    obtain⟨b,hb,e1⟩:=hv;exact dL.value hI hF (v:=.pointer (some ⟨b,off+n.toNat*de.sz,none⟩)) (bp (by rw[e1,EE];exact wz h1 h7 h9 h0 cJ.1)) (x:=.c (.ptr l (off+n.toNat*de.sz))) ⟨b,hb,rfl⟩ cJ.2
   ·exact h6.elim
  ·exact h6.elim
 |index t x ix=>
  refine ai h fun d h1 h2=>ai h2 fun v h3 h4=>ai h4 fun i h5 h6=>?_
  have hv:=aJ hS h3;have EE:=aJ hS h5;split at h6
  ·rename_i b k n;simp only[aO,dK,bn,bh]at hv EE;obtain⟨h7,h0,h8⟩:=h6;refine ai h8 fun c h9 cJ=>?_
   refine dL.value hI hF (v:=.int .u8 c.toNat) (bp ?_) (x:=.c (.d (.int .u8 c.toNat))) rfl cJ;have ax:=(Wo.1 h9).1;have hc:(bs b)[n.toNat]? =some c:=by
    have:n.toNat<(bs b).size:=by rw[qa];exact ax
    rw[getElem?_pos (bs b) n.toNat this];exact congrArg some (Wo.1 h9).2
   rw[hv,EE];simp[Instr.index,asIntOf,run_underlying (q8 h1 h7),h0,hc]
  ·rename_i xs k n;simp only[aO,dK,bn,bh]at EE;obtain⟨us,e1,hl,hc⟩:=hv;refine ai h6 fun le h7 h8=>?_
   obtain⟨len,e⟩:=le;refine ai h8 fun de h9 cJ=>?_
   obtain⟨eG,fY,h0,dG,gF⟩:=cJ;refine ai gF fun c qL rQ=>?_
   have ax:=(Wo.1 qL).1;have hu:us[n.toNat]? =some (us[n.toNat]'(by omega)):=Wp (by omega);refine dL.value hI hF (v:=us[n.toNat]'(by omega)) (bp ?_) (x:=.c c) (hc n.toNat c _ qL hu) rQ;obtain⟨inf,hi,e5,_,_⟩:=gx h9;obtain⟨dd,i2,C4,MT,e2⟩:=lA h9;have Jl:(isAgg e).run P w=.ok false w:=by
    rw[e2]at eG;have eG:Ez dd=false:=eG;simp only[isAgg,Sem.run_bind,run_underlying C4,Result.andThen_ok];cases dd<;>first|rfl|simp[Ez]at eG
   rw[e1,EE];have Ny:0<=n/\n<len:=⟨h0,dG⟩;simp[Instr.index,asIntOf,run_underlying (KA h1 h7),Ny,sizeOf,typeInfo,hi,e5,fY,part,Jl,hu]
  ·exact h6.elim
 |extract x i=>
  refine ai h fun v h1 h2=>?_
  have hv:=aJ hS h1;split at h2
  ·rename_i xs;refine ai h2 fun u h3 h4=>?_
   obtain⟨vs,e,hl,hr⟩:=hv;have ax:=(Wo.1 h3).1;have SM:vs[i]? =some (vs[i]'(by omega)):=Wp (by omega);have PF:=hr i u _ h3 SM;have fC:(execOp a.eval ⟨dst,.extract x i,type,pos,after,guard⟩).run P w=.ok (.value (vs[i]'(by omega))) w:=bp (by
    rw[e];simp[Instr.extract,SM])
   split at h4
   ·exact h4.elim
   ·rename_i jE;refine dL.value hI hF fC (x:=u) ?_ h4;cases u with
    |a8 ys=>exact absurd rfl (jE ys)
    |_=>exact PF
  ·exact h2.elim
 |call c=>
  obtain⟨callee,args,argTypes⟩:=c;cases callee with
  |builtin b=>
   obtain⟨consts,dY⟩:∃consts,∀w,(execOp a.eval ⟨dst,.call ⟨.builtin b,args,argTypes⟩,type,pos,after,guard⟩).run P w=(builtin b argTypes type consts (args.map a.eval)).run P w:=
    ⟨_,fun w=>by simp only[execOp,resolve,Sem.run_bind,Sem.run_pure,Result.andThen_ok,invoke];rfl⟩
   cases b with
   |len=>
    refine ai h fun x h1 h2=>ai h2 fun v h3 h4=>ai h4 fun t h5 h6=>ai h6 fun d h7 h8=>ai h8 fun n h9 cJ=>?_
    obtain⟨_,fY,dG⟩:=cJ;have hv:=aJ hS h3;refine dL.value hI hF (v:=.int .i64 n) ((dY w).trans (bp ?_)) (x:=.c (.d (.int .i64 n))) rfl dG;have ha:(args.map a.eval)[0]? =some (a.eval x):=by simp[h1]
    rcases Dp hv h9 with⟨b,rfl,gF,qL⟩|⟨gF,ad,cp,qL⟩
    ·simp only at fY;simp[Builtin.len_,h5,ha,gF,run_underlying (q8 h7 fY),goInt,qa,qL]
    ·have tC:d.el.isSome=true:=by
      split at fY
      ·rename_i b;exact absurd rfl (gF b)
      ·exact fY
     obtain⟨e,he⟩:=W0.1 tC;simp[Builtin.len_,h5,ha,qL,run_underlying (mP h7 he),goInt]
   |append=>
    refine ai h fun x h1 h2=>ai h2 fun y h3 h4=>ai h4 fun t h5 h6=>?_
    obtain⟨h7,h8⟩:=h6;refine ai h8 fun d h9 cJ=>ai cJ fun e eG fY=>ai fY fun de dG gF=>?_
    obtain⟨_,rQ,Bv⟩:=gF;refine ai rQ fun z hz qK=>ai Bv fun v rR Lu=>ai Lu fun u I7 Nz=>ai Nz fun nr Jn QF=>?_
    obtain⟨Jo,Jp⟩:=QF;have hv:=aJ hS rR;have hu:=aJ hS I7;have pd:∀w,(builtin .append argTypes type consts (args.map a.eval)).run P w=(do pure (.value (<-Builtin.append_ #[t,t] type #[a.eval x,a.eval y])):Sem Next).run P w:=fun w=>by
     have ha:(args.map a.eval)[0]? =some (a.eval x):=by simp[h1]
     have hb:(args.map a.eval)[1]? =some (a.eval y):=by simp[h3]
     simp only[builtin,Builtin.append_,h5,h7,ha,hb]
     rfl
    have back:dL P w0 g0 g w s.A (do pure (.value (<-Builtin.append_ #[t,t] type #[a.eval x,a.eval y]))) K->dL P w0 g0 g w s.A (execOp a.eval ⟨dst,.call ⟨.builtin .append,args,argTypes⟩,type,pos,after,guard⟩) K:=by
     rintro⟨x',V',A',nx,v',w',g',k1,k2,k3⟩;exact⟨x',V',A',nx,v',w',g',k1,(dY w).trans ((pd w).trans k2),k3⟩
    split at Jp
    ·rename_i k n;refine ai Jp fun r Jq MU=>?_
     obtain⟨MV,SN,QG,SO,SP,SQ⟩:=MU;cases ow with
     |false=>exact back (jH hI hF h9 eG dG hz qK hv hu Jn Jo Jq MV SN QG SO SP (by simpa using SQ))
     |true=>
      have ax:=(Wo.1 Jq).1;exact back (dL.Hl (jH hI hF h9 eG dG hz qK hv hu Jn Jo Jq MV SN QG SO SP ⟨k,{r with rows:=r.rows++nr},by simp[MV],by simp[ax],by simpa using SQ⟩))
    ·simp only[aO,dK,bn]at hv;refine back ?_;rw[hv];obtain⟨Jq,MU,MV⟩:=Jp;cases ow with
     |false=>exact mR hI hF h9 eG dG hz qK hu Jn Jo Jq MU (by simpa using MV)
     |true=>exact dL.Hl (mR hI hF h9 eG dG hz qK hu Jn Jo Jq MU ⟨s.A.length,{sz:=de.sz,eA:=e,rows:=nr,wr:=true},by simp,by simp,by simpa using MV⟩)
    ·exact Jp.elim
   |max=>
    refine ai h fun x h1 h2=>ai h2 fun y h3 h4=>?_
    obtain⟨h5,h6⟩:=h4;refine ai h6 fun v h7 h8=>ai h8 fun u h9 cJ=>?_
    have hv:=aJ hS h7;have hu:=aJ hS h9;split at cJ
    ·rename_i k p k' q;simp only[aO,dK,bn,bh]at hv hu;have pd:args.map a.eval= #[.int k p,.int k' q]:=by
      apply WX
      ·simp[h5]
      ·intro i Nx MT;simp at Nx MT
       match i,MT with
       |0,_=>simp[WU]at h1;obtain⟨_,e⟩:=h1;simp[e,hv]
       |1,_=>simp[WU]at h3;obtain⟨_,e⟩:=h3;simp[e,hu]
     refine dL.value hI hF (v:=.int k (if q>p then q else p)) ((dY w).trans (bp ?_)) (x:=.c (.d (.int k (if q>p then q else p)))) rfl cJ;rw[pd];exact run_max_int2 w _ _ k k' p q
    ·exact cJ.elim
   |min=>
    refine ai h fun x h1 h2=>ai h2 fun y h3 h4=>?_
    obtain⟨h5,h6⟩:=h4;refine ai h6 fun v h7 h8=>ai h8 fun u h9 cJ=>?_
    have hv:=aJ hS h7;have hu:=aJ hS h9;split at cJ
    ·rename_i k p k' q;simp only[aO,dK,bn,bh]at hv hu;have pd:args.map a.eval= #[.int k p,.int k' q]:=by
      apply WX
      ·simp[h5]
      ·intro i Nx MT;simp at Nx MT
       match i,MT with
       |0,_=>simp[WU]at h1;obtain⟨_,e⟩:=h1;simp[e,hv]
       |1,_=>simp[WU]at h3;obtain⟨_,e⟩:=h3;simp[e,hu]
     refine dL.value hI hF (v:=.int k (if q<p then q else p)) ((dY w).trans (bp ?_)) (x:=.c (.d (.int k (if q<p then q else p)))) rfl cJ;rw[pd];exact run_min_int2 w _ _ k k' p q
    ·exact cJ.elim
   |_=>exact h.elim
  |_=>exact h.elim
 |_=>exact h.elim
end
end Go.Av
