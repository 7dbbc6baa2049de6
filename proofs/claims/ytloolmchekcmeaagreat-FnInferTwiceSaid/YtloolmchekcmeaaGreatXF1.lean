/- A part. -/
import Derived.WalkKit
import Derived.WalkSpells
import Derived.ChangeKeysEq
set_option linter.unusedVariables false
set_option linter.unusedSimpArgs false
open Nat renaming le_refl->V6,add_mul->V7,zero_le->V8,add_assoc->V9,zero_add->Wa,mul_le_mul_right->Wb,le_trans->Wc,one_mul->Wd,zero_mul->We,mul_comm->Wf,lt_or_ge->Wg,lt_of_lt_of_le->Wh,add_zero->Wi,add_comm->Wj
open List renaming getElem?_eq_some_iff->Wk,getElem?_eq_getElem->Wl,getElem?_append_left->Wm,getElem?_append_right->Wn,flatten_cons->Wo,mem_of_getElem?->Wp,getElem?_take->Wq,eq_nil_of_length_eq_zero->Wr,map_cons->Ws,length_append->Wt,size_toArray->Wu,replicate->Wv,getElem?_of_mem->Ww,getElem?_drop->Wx,mem_append->Wy,length_cons->Wz,getElem?_set_ne->WA,ext_getElem?->WB,append_assoc->WC,zipIdx_cons->WD,length_pos_iff->WE,foldl_cons->WG,flatMap_cons->WH,take_left->WI,nil_append->WJ,mem_filterMap->WK,getElem?_map->WL,getElem?_eq_none->WM,all_eq_true->WN
open Array renaming getElem?_eq_some_iff->WO,length_toList->WQ,toList_map->WR,ext->WS
open Bool renaming false_eq_true->WU
open Option renaming map_eq_some_iff->WV,isSome_iff_exists->WW,getD_some->WX
open Int renaming toNat_natCast->WY
namespace Go.Av
open Go
inductive DV where
 |int (k:IntKind) (n:Int)
 |bool (b:Bool)
 |str (s:List UInt8)
 |sl (rows:List (List DV))
 |raw (v:Value)
inductive CV where
 |d (x:DV)
 |nil
 |own (k n:Nat)
 |ptr (l off:Nat)
 |np
 |ip (row:List DV) (off:Nat)
 |op (k n i off:Nat)
 |fn (f:FuncId) (cap:List Nat)
 |undef
inductive AV where
 |c (x:CV)
 |agg (xs:List CV)
 |a8 (xs:List AV)
structure bz where
 sz:Nat
 ev:TypeId
 rows:List (List DV)
 wr:Bool
structure Gh where
 ob:List Nat
 ar:List Value
 im:Nat->Nat
def bs (s:List UInt8):ByteArray:=⟨s.toArray⟩
mutual
def bn (im:Nat->Nat) (w:World):DV->Value->Prop
 |.int k n,v=>v=.int k n
 |.bool b,v=>v=.bool b
 |.str s,v=>v=.string (bs s)
 |.sl rows,v=>∃a cap,v=.slice a rows.length cap/\rows.length<=cap/\(rows=[]\/∃b off sz,a=some ⟨b,off,none⟩/\off+rows.length*sz<=im b/\cv im w b sz off rows)
 |.raw u,v=>v=u/\u.oneCell'=true
def cv (im:Nat->Nat) (w:World) (b sz:Nat):Nat->List (List DV)->Prop
 |_,[]=>True
 |off,r::rs=>r.length=sz/\dA im w b off r/\cv im w b sz (off+sz) rs
def dA (im:Nat->Nat) (w:World) (b:Nat):Nat->List DV->Prop
 |_,[]=>True
 |off,x::xs=>(∃u,w.cell? ⟨b,off,none⟩=some u/\bn im w x u)/\dA im w b (off+1) xs
end
structure j7 (im:Nat->Nat) (w:World) (im':Nat->Nat) (w':World):Prop where
 GB:∀b,im b<=im' b
 cell:∀b o,o<im b->w'.cell? ⟨b,o,none⟩=w.cell? ⟨b,o,none⟩
theorem j7.refl (im:Nat->Nat) (w:World):j7 im w im w:=⟨fun _=>V6 _,fun _ _ _=>rfl⟩
theorem j7.trans {im im' im'':Nat->Nat} {w w' w'':World} (h:j7 im w im' w') (k:j7 im' w' im'' w''):j7 im w im'' w'':=
 ⟨fun b=>Wc (h.GB b) (k.GB b),fun b o ho=>(k.cell b o (Wh ho (h.GB b))).trans (h.cell b o ho)⟩
mutual
theorem bn.fJ {im im':Nat->Nat} {w w':World} (h:j7 im w im' w'):∀(x:DV) (v:Value),bn im w x v->bn im' w' x v
 |.int _ _,_,hx=>hx
 |.bool _,_,hx=>hx
 |.str _,_,hx=>hx
 |.sl rows,v,hx=>by
  simp only[bn]at hx⊢;obtain⟨a,cap,e,hc,hr⟩:=hx;refine⟨a,cap,e,hc,hr.imp id ?_⟩;rintro⟨b,off,sz,ha,hi,xU⟩;exact⟨b,off,sz,ha,Wc hi (h.GB b),cv.fJ h b sz off rows hi xU⟩
 |.raw _,_,hx=>hx
theorem cv.fJ {im im':Nat->Nat} {w w':World} (h:j7 im w im' w') (b sz:Nat):∀(off:Nat) (rs:List (List DV)),off+rs.length*sz<=im b->cv im w b sz off rs->cv im' w' b sz off rs
 |_,[],_,_=>by simp[cv]
 |off,r::rs,hi,hx=>by
  simp only[cv]at hx⊢;obtain⟨hl,hr,KA⟩:=hx;have EZ:off+sz+rs.length*sz<=im b:=by
   simp only[Wz,V7,Wd]at hi;omega
  exact⟨hl,dA.fJ h b off r (by omega) hr,cv.fJ h b sz (off+sz) rs EZ KA⟩
theorem dA.fJ {im im':Nat->Nat} {w w':World} (h:j7 im w im' w') (b:Nat):∀(off:Nat) (xs:List DV),off+xs.length<=im b->dA im w b off xs->dA im' w' b off xs
 |_,[],_,_=>by simp[dA]
 |off,x::xs,hi,hx=>by
  simp only[dA]at hx⊢;obtain⟨⟨u,hu,hd⟩,hr⟩:=hx;simp only[Wz]at hi;exact⟨⟨u,(h.cell b off (by omega)).trans hu,bn.fJ h x u hd⟩,dA.fJ h b (off+1) xs (by omega) hr⟩
end
theorem dA.at_ {im:Nat->Nat} {w:World} {b:Nat}:∀{xs:List DV} {off:Nat},dA im w b off xs->∀{j:Nat} {x:DV},xs[j]? =some x->∃u,w.cell? ⟨b,off+j,none⟩=some u/\bn im w x u
 |[],_,_,j,x,hx=>by simp at hx
 |y::ys,off,h,0,x,hx=>by
  simp only[dA]at h;simp at hx;subst hx;simpa using h.1
 |y::ys,off,h,j+1,x,hx=>by
  simp only[dA]at h;simp at hx;have:=dA.at_ h.2 hx;simpa[V9,Wj 1 j]using this
theorem dA.mk {im:Nat->Nat} {w:World} {b:Nat}:∀{xs:List DV} {off:Nat},(∀j x,xs[j]? =some x->∃u,w.cell? ⟨b,off+j,none⟩=some u/\bn im w x u)->dA im w b off xs
 |[],_,_=>by simp[dA]
 |y::ys,off,h=>by
  simp only[dA];refine⟨by simpa using h 0 y rfl,dA.mk fun j x hx=>?_⟩;have:=h (j+1) x (by simpa using hx);simpa[V9,Wj 1 j]using this
theorem cv.at_ {im:Nat->Nat} {w:World} {b sz:Nat}:∀{rs:List (List DV)} {off:Nat},cv im w b sz off rs->∀{i:Nat} {r:List DV},rs[i]? =some r->r.length=sz/\dA im w b (off+i*sz) r
 |[],_,_,i,r,hr=>by simp at hr
 |y::ys,off,h,0,r,hr=>by
  simp only[cv]at h;simp at hr;subst hr;simpa using⟨h.1,h.2.1⟩
 |y::ys,off,h,i+1,r,hr=>by
  simp only[cv]at h;simp at hr;have:=cv.at_ h.2.2 hr;rwa[show off+sz+i*sz=off+(i+1)*sz by rw[V7];omega]at this
theorem cv.mk {im:Nat->Nat} {w:World} {b sz:Nat}:∀{rs:List (List DV)} {off:Nat},(∀i r,rs[i]? =some r->r.length=sz/\dA im w b (off+i*sz) r)->cv im w b sz off rs
 |[],_,_=>by simp[cv]
 |y::ys,off,h=>by
  simp only[cv];have h0:=h 0 y rfl;refine⟨h0.1,by simpa using h0.2,cv.mk fun i r hr=>?_⟩;have:=h (i+1) r (by simpa using hr);rwa[show off+(i+1)*sz=off+sz+i*sz by rw[V7];omega]at this
theorem bn.lY {im:Nat->Nat} {w:World}:∀{x:DV} {v:Value},bn im w x v->v.oneCell'=true
 |.int _ _,_,h=>by simp only[bn]at h;subst h;rfl
 |.bool _,_,h=>by simp only[bn]at h;subst h;rfl
 |.str _,_,h=>by simp only[bn]at h;subst h;rfl
 |.sl _,_,h=>by simp only[bn]at h;obtain⟨_,_,rfl,_⟩:=h;rfl
 |.raw _,_,h=>by simp only[bn]at h;obtain⟨rfl,h⟩:=h;exact h
def CV.jW:CV->Bool
 |.undef=>true
 |_=>false
def br (g:Gh) (w:World) (A:List bz):CV->Value->Prop
 |.d x,v=>bn g.im w x v
 |.nil,v=>v=.slice none 0 0
 |.own k n,v=>∃a cap,v=.slice a n cap/\∃r,A[k]? =some r/\n<=r.rows.length/\(n=r.rows.length->g.ar[k]? =some v)
 |.ptr l off,v=>∃b,g.ob[l]? =some b/\v=.pointer (some ⟨b,off,none⟩)
 |.np,v=>v=.pointer none
 |.ip row off,v=>∃b o,v=.pointer (some ⟨b,o+off,none⟩)/\o+row.length<=g.im b/\dA g.im w b o row
 |.op k n i off,v=>∃b e,v=.pointer (some ⟨b,e,none⟩)/\∃r,A[k]? =some r/\n<=r.rows.length/\(n=r.rows.length->∃cap,g.ar[k]? =some (.slice (some ⟨b,0,none⟩) n cap)/\e=i*r.sz+off)
 |.fn f cap,v=>∃bks:List Nat,v=.func (.func f) #[] (bks.map fun b=>Value.pointer (some ⟨b,0,none⟩)).toArray/\bks.length=cap.length/\∀(i l b:Nat),cap[i]? =some l->bks[i]? =some b->g.ob[l]? =some b
 |.undef,v=>v=undef
def dL (g:Gh) (w:World) (A:List bz):AV->Value->Prop
 |.c x,v=>br g w A x v
 |.agg xs,v=>∃vs:List Value,v=.agg vs.toArray/\vs.length=xs.length/\∀(i:Nat) (x:CV) (u:Value),xs[i]? =some x->vs[i]? =some u->br g w A x u
 |.a8 _,_=>False
def aW (g:Gh) (w:World) (A:List bz):AV->Value->Prop
 |.a8 xs,v=>∃vs:List Value,v=.tuple vs.toArray/\vs.length=xs.length/\∀(i:Nat) (x:AV) (u:Value),xs[i]? =some x->vs[i]? =some u->dL g w A x u
 |x,v=>dL g w A x v
structure Ext (g:Gh) (w:World) (A:List bz) (g':Gh) (w':World) (A':List bz):Prop where
 ob:∀(l b:Nat),g.ob[l]? =some b->g'.ob[l]? =some b
 gr:j7 g.im w g'.im w'
 ar:∀(k:Nat) r,A[k]? =some r->∃r',A'[k]? =some r'/\r'.sz=r.sz/\r.rows.length<=r'.rows.length/\(r'.rows.length=r.rows.length->g'.ar[k]? =g.ar[k]?)
theorem Ext.refl (g:Gh) (w:World) (A:List bz):Ext g w A g w A:=
 ⟨fun _ _ h=>h,.refl _ _,fun _ r h=>⟨r,h,rfl,V6 _,fun _=>rfl⟩⟩
theorem Ext.trans {g g' g'':Gh} {w w' w'':World} {A A' A'':List bz} (h:Ext g w A g' w' A') (k:Ext g' w' A' g'' w'' A''):Ext g w A g'' w'' A'':=by
 refine⟨fun l b hb=>k.ob l b (h.ob l b hb),h.gr.trans k.gr,fun i r hr=>?_⟩;obtain⟨r',h1,h2,h3,h4⟩:=h.ar i r hr;obtain⟨r'',k1,k2,k3,k4⟩:=k.ar i r' h1;exact⟨r'',k1,k2.trans h2,Wc h3 k3,fun e=>(k4 (by omega)).trans (h4 (by omega))⟩
section
variable {g g':Gh} {w w':World} {A A':List bz}
theorem br.ext (h:Ext g w A g' w' A'):∀{c:CV} {v:Value},br g w A c v->br g' w' A' c v
 |.d x,v,hx=>bn.fJ h.gr x v hx
 |.nil,_,hx=>hx
 |.own k n,v,hx=>by
  obtain⟨a,cap,e,r,hr,hn,hv⟩:=hx;obtain⟨r',h1,_,h3,h4⟩:=h.ar k r hr;exact⟨a,cap,e,r',h1,by omega,fun en=>(h4 (by omega)).trans (hv (by omega))⟩
 |.ptr l off,v,hx=>by
  obtain⟨b,hb,e⟩:=hx;exact⟨b,h.ob l b hb,e⟩
 |.np,_,hx=>hx
 |.ip row off,v,hx=>by
  obtain⟨b,o,e,hi,hr⟩:=hx;exact⟨b,o,e,Wc hi (h.gr.GB b),dA.fJ h.gr b o row hi hr⟩
 |.op k n i off,v,hx=>by
  obtain⟨b,e,hv,r,hr,hn,hq⟩:=hx;obtain⟨r',h1,h2,h3,h4⟩:=h.ar k r hr;refine⟨b,e,hv,r',h1,by omega,fun en=>?_⟩;obtain⟨cap,hc,he⟩:=hq (by omega);exact⟨cap,(h4 (by omega)).trans hc,by rw[h2];exact he⟩
 |.fn f cap,v,hx=>by
  obtain⟨bks,e,hl,hb⟩:=hx;exact⟨bks,e,hl,fun i l b h1 h2=>h.ob l b (hb i l b h1 h2)⟩
 |.undef,_,hx=>hx
theorem dL.ext (h:Ext g w A g' w' A'):∀{x:AV} {v:Value},dL g w A x v->dL g' w' A' x v
 |.c _,_,hx=>br.ext h hx
 |.agg _,_,hx=>by
  obtain⟨vs,e,hl,hc⟩:=hx;exact⟨vs,e,hl,fun i x u h1 h2=>br.ext h (hc i x u h1 h2)⟩
 |.a8 _,_,hx=>hx.elim
theorem aW.ext (h:Ext g w A g' w' A'):∀{x:AV} {v:Value},aW g w A x v->aW g' w' A' x v
 |.c x,_,hx=>dL.ext (x:=.c x) h hx
 |.agg xs,_,hx=>dL.ext (x:=.agg xs) h hx
 |.a8 _,_,hx=>by
  obtain⟨vs,e,hl,hc⟩:=hx;exact⟨vs,e,hl,fun i x u h1 h2=>dL.ext h (hc i x u h1 h2)⟩
theorem br.lY:∀{c:CV} {v:Value},c.jW=false->br g w A c v->v.oneCell'=true
 |.d _,_,_,h=>bn.lY h
 |.nil,_,_,h=>by simp only[br]at h;subst h;rfl
 |.own _ _,_,_,h=>by obtain⟨_,_,rfl,_⟩:=h;rfl
 |.ptr _ _,_,_,h=>by obtain⟨_,_,rfl⟩:=h;rfl
 |.np,_,_,h=>by simp only[br]at h;subst h;rfl
 |.ip _ _,_,_,h=>by obtain⟨_,_,rfl,_⟩:=h;rfl
 |.op _ _ _ _,_,_,h=>by obtain⟨_,_,rfl,_⟩:=h;rfl
 |.fn _ _,_,_,h=>by obtain⟨_,rfl,_⟩:=h;rfl
 |.undef,_,hu,_=>by simp[CV.jW]at hu
end
def AV.cells:AV->List CV
 |.c x=>[x]
 |.agg xs=>xs
 |.a8 _=>[]
structure Inv (g:Gh) (w:World) (V:List (List CV)) (A:List bz):Prop where
 oT:g.ob.length=V.length
 lQ:g.ar.length=A.length
 obj:∀(l:Nat) row b,V[l]? =some row->g.ob[l]? =some b->g.im b=0/\∃cs ty,w.heap[b]? =some (.cells cs ty (0,0))/\cs.size=row.length/\∀(j:Nat) c u,row[j]? =some c->cs[j]? =some u->br g w A c u
 arr:∀(k:Nat) r v,A[k]? =some r->g.ar[k]? =some v->(∀row∈r.rows,row.length=r.sz)/\(∀b,v.ownBlock=some b->g.im b<=if r.wr then 0 else r.rows.length*r.sz)/\
  ∃xs,w.ownsRow 0 r.ev r.sz v r.rows.length xs/\∀(j:Nat) x u,r.rows.flatten[j]? =some x->xs[j]? =some u->bn g.im w x u
 kH:∀(l l' b:Nat),g.ob[l]? =some b->g.ob[l']? =some b->l=l'
 jj:∀(k k':Nat) v v' b,g.ar[k]? =some v->g.ar[k']? =some v'->v.ownBlock=some b->v'.ownBlock=some b->k=k'
 jr:∀(l k:Nat) v b,g.ob[l]? =some b->g.ar[k]? =some v->v.ownBlock≠some b
 fresh:∀b,w.heap.size<=b->g.im b=0
def Gh.jB (g:Gh):List Nat:=g.ar.filterMap Value.ownBlock
theorem Gh.jX {g:Gh} {k:Nat} {v:Value} {b:Nat} (h:g.ar[k]? =some v) (hb:v.ownBlock=some b):b∈g.jB:=WK.2 ⟨v,Wp h,hb⟩
theorem Gh.fL {g:Gh} {b:Nat} (h:b∈g.jB):∃(k:Nat) (v:Value),g.ar[k]? =some v/\v.ownBlock=some b:=by
 obtain⟨v,h1,h2⟩:=WK.1 h;obtain⟨k,hk⟩:=Ww h1;exact⟨k,v,hk,h2⟩
def rL:Value->Nat
 |.slice _ n _=>n
 |_=>0
def Lj:Option Nat:=none
def Lk:List Nat:=[]
def o7 (b:Nat):Prop:=Lj=some b\/b∈Lk
def GD:Array Value:= #[.int .u64 1,.int .u64 10,.int .u64 100,.int .u64 1000,.int .u64 10000,.int .u64 100000,.int .u64 1000000,.int .u64 10000000,.int .u64 100000000,.int .u64 1000000000,.int .u64 10000000000,.int .u64 100000000000,.int .u64 1000000000000,.int .u64 10000000000000,.int .u64 100000000000000,.int .u64 1000000000000000,.int .u64 10000000000000000,.int .u64 100000000000000000,.int .u64 1000000000000000000,.int .u64 10000000000000000000]
def Qh (b:Nat) (o:Option Obj):Prop:=(Lj=some b->∃ty mk,o=some (.cells GD ty mk))/\(b∈Lk->∃cs ty mk te pe,o=some (.cells cs ty mk)/\cs[0]? =some (.iface te pe))
def AI (w:World) (g:Gh):Prop:=∀b,o7 b->b<w.heap.size/\b∉g.ob/\b∉g.jB/\Qh b w.heap[b]?
theorem AI.less {w:World} {g g':Gh} (h:AI w g) (ho:∀b∈g'.ob,b∈g.ob) (ha:∀b∈g'.jB,b∈g.jB):AI w g':=fun b hb=>by
 obtain⟨h1,h2,h3,h4⟩:=h b hb;exact⟨h1,fun q=>h2 (ho b q),fun q=>h3 (ha b q),h4⟩
structure Fr (w0:World) (g0:Gh) (w:World) (g:Gh):Prop where
 os:w.os=w0.os
 tape:w.tape=w0.tape
 output:w.output=w0.output
 size:w0.heap.size<=w.heap.size
 qE:∀b,b<w0.heap.size->b∉g0.ob->b∉g0.jB->w.heap[b]? =w0.heap[b]?
 js:∀b,b<w0.heap.size->b∉g0.jB->g.im b=g0.im b
 ob:∃new,g.ob=g0.ob++new/\∀b∈new,w0.heap.size<=b
 ar:∀(k:Nat) v b,g.ar[k]? =some v->v.ownBlock=some b->w0.heap.size<=b\/b∈g0.jB
 vO:∀(k:Nat) v,g0.ar[k]? =some v->∃v',g.ar[k]? =some v'/\rL v<=rL v'/\(rL v'=rL v->v'=v)
 xV:AI w0 g0
theorem Fr.now {w0 w:World} {g0 g:Gh} (h:Fr w0 g0 w g):AI w g:=fun b hb=>by
 obtain⟨h1,h2,h3,h4⟩:=h.xV b hb;refine⟨Wh h1 h.size,fun hm=>?_,fun hm=>?_,?_⟩
 ·obtain⟨new,e,hn⟩:=h.ob;rw[e]at hm;rcases Wy.1 hm with q|q
  ·exact h2 q
  ·exact absurd (hn b q) (by omega)
 ·obtain⟨k,v,q1,q2⟩:=Gh.fL hm;rcases h.ar k v b q1 q2 with q|q
  ·omega
  ·exact h3 q
 ·rw[h.qE b h1 h2 h3];exact h4
theorem Fr.refl {w:World} {g:Gh} (ht:AI w g):Fr w g w g:=
 ⟨rfl,rfl,rfl,V6 _,fun _ _ _ _=>rfl,fun _ _ _=>rfl,⟨[],by simp,by simp⟩,fun k v b hk hb=>.inr (Gh.jX hk hb),fun k v h=>⟨v,h,V6 _,fun _=>rfl⟩,ht⟩
theorem Fr.Qi {w0 w:World} {g0 g:Gh} (h:Fr w0 g0 w g) (h0:g0.ar=[]):∀(k:Nat) v b,g.ar[k]? =some v->v.ownBlock=some b->w0.heap.size<=b:=fun k v b h1 h2=>by
 rcases h.ar k v b h1 h2 with h3|h3
 ·exact h3
 ·simp[Gh.jB,h0]at h3
structure St where
 fr:List (Nat×AV)
 V:List (List CV)
 A:List bz
theorem gen {X:St->Prop} {d:Nat} {b:Bool} {fr:List (Nat×AV)} {V:List (List CV)} {A:List bz} (h:∀q:Bool,b=q->X ⟨(d,.c (.d (.bool q)))::fr,V,A⟩):X ⟨(d,.c (.d (.bool b)))::fr,V,A⟩:=h b rfl
section
variable {d:Nat} {b:Bool} {fr:List (Nat×AV)} {V:List (List CV)} {A:List bz}
theorem gen2 {X:St->Prop} (h0:b=false->X ⟨(d,.c (.d (.bool false)))::fr,V,A⟩) (h1:b=true->X ⟨(d,.c (.d (.bool true)))::fr,V,A⟩):X ⟨(d,.c (.d (.bool b)))::fr,V,A⟩:=by cases b;exact h0 rfl;exact h1 rfl
theorem J2 {Y:Type} {X:St->Y->Prop} {L:Y} (h0:b=false->X ⟨(d,.c (.d (.bool false)))::fr,V,A⟩ L) (h1:b=true->X ⟨(d,.c (.d (.bool true)))::fr,V,A⟩ L):X ⟨(d,.c (.d (.bool b)))::fr,V,A⟩ L:=by cases b;exact h0 rfl;exact h1 rfl
end
def look:List (Nat×AV)->Nat->Option AV
 |[],_=>none
 |(t,x)::r,s=>if s=t then some x else look r s
structure Rp (n:Nat) (w0:World) (g0:Gh) (s:St) (g:Gh) (a:Act) (w:World):Prop where
 inv:Inv g w s.V s.A
 fr:Fr w0 g0 w g
 size:a.tmps.size=n
 defers:a.defers=[]
 slot:∀t x,look s.fr t=some x->∃u,a.tmps[t]? =some u/\aW g w s.A x u
section
variable {g g' g0:Gh} {w w' w0:World} {V V':List (List CV)} {A A':List bz}
theorem Fr.Nk (h:Fr w0 g0 w g) {l b:Nat} (hb:g.ob[l]? =some b):b∈g0.ob\/w0.heap.size<=b:=by
 obtain⟨new,e,hn⟩:=h.ob;rw[e]at hb;have:=Wp hb;rcases Wy.1 this with h1|h1
 ·exact .inl h1
 ·exact .inr (hn b h1)
theorem nH {base:Nat} {e:TypeId} {sz:Nat} {v:Value} {n:Nat} {xs:List Value} (h:w.ownsRow base e sz v n xs) (hb:∀b,v.ownBlock=some b->w'.heap[b]? =w.heap[b]?):w'.ownsRow base e sz v n xs:=by
 refine⟨h.1,?_⟩;rcases h.2 with h2|⟨b,cap,cur,hv,h3,hh,r⟩
 ·exact .inl h2
 ·exact .inr ⟨b,cap,cur,hv,h3,by rw[hb b (by rw[hv];rfl)];exact hh,r⟩
theorem rM {base:Nat} {e:TypeId} {sz:Nat} {v:Value} {n:Nat} {xs:List Value} (h:w.ownsRow base e sz v n xs):rL v=n:=by
 rcases h.2 with⟨rfl,h3⟩|⟨b,cap,cur,hv,_⟩
 ·simp only[rL];simp_all
 ·rw[hv];rfl
theorem Inv.qU (h:Inv g w V A) {l b:Nat} (hb:g.ob[l]? =some b):b<w.heap.size:=by
 have hl:l<V.length:=by
  rw[<-h.oT];exact(Wk.1 hb).1
 obtain⟨_,cs,ty,hh,_⟩:=h.obj l _ b (Wl hl) hb;exact(WO.1 hh).1
theorem Inv.mO (h:Inv g w V A) {k b:Nat} {v:Value} (hv:g.ar[k]? =some v) (hb:v.ownBlock=some b):b<w.heap.size:=by
 have hl:k<A.length:=by
  rw[<-h.lQ];exact(Wk.1 hv).1
 obtain⟨_,_,xs,ho,_⟩:=h.arr k _ v (Wl hl) hv;exact(ho.lt b hb).2
theorem Inv.E0 (h:Inv g w V A) {b o:Nat} (ho:o<g.im b):b<w.heap.size:=by
 rcases Wg b w.heap.size with h1|h1
 ·exact h1
 ·have:=h.fresh b h1;omega
theorem Inv.fx (h:Inv g w V A) (hx:Ext g w A g' w' A') {l b:Nat} {row:List CV} (hl:V[l]? =some row) (hb:g.ob[l]? =some b) (hh:w'.heap[b]? =w.heap[b]?) (hi:g'.im b=0):
  g'.im b=0/\∃cs ty,w'.heap[b]? =some (.cells cs ty (0,0))/\cs.size=row.length/\∀(j:Nat) c u,row[j]? =some c->cs[j]? =some u->br g' w' A' c u:=by
 obtain⟨_,cs,ty,hc,hs,hr⟩:=h.obj l row b hl hb;exact⟨hi,cs,ty,hh.trans hc,hs,fun j c u h1 h2=>br.ext hx (hr j c u h1 h2)⟩
theorem Inv.fy (h:Inv g w V A) (hx:Ext g w A g' w' A') {k:Nat} {r:bz} {v:Value} (hk:A[k]? =some r) (hv:g.ar[k]? =some v)
  (hh:∀b,v.ownBlock=some b->w'.heap[b]? =w.heap[b]?) (hi:∀b,v.ownBlock=some b->g'.im b=g.im b):
  (∀row∈r.rows,row.length=r.sz)/\(∀b,v.ownBlock=some b->g'.im b<=if r.wr then 0 else r.rows.length*r.sz)/\
  ∃xs,w'.ownsRow 0 r.ev r.sz v r.rows.length xs/\∀(j:Nat) x u,r.rows.flatten[j]? =some x->xs[j]? =some u->bn g'.im w' x u:=by
 obtain⟨h1,h2,xs,ho,hr⟩:=h.arr k r v hk hv;exact⟨h1,fun b hb=>by rw[hi b hb];exact h2 b hb,xs,nH ho hh,fun j x u hj hu=>bn.fJ hx.gr x u (hr j x u hj hu)⟩
theorem Inv.heap (h:Inv g w V A) (hh:w'.heap=w.heap):Inv g w' V A/\Ext g w A g w' A:=by
 have hx:Ext g w A g w' A:=⟨fun _ _ h=>h,⟨fun _=>V6 _,fun b o _=>by simp[World.cell?,hh]⟩,fun _ r h=>⟨r,h,rfl,V6 _,fun _=>rfl⟩⟩;refine⟨⟨h.oT,h.lQ,fun l row b h1 h2=>?_,fun k r v h1 h2=>?_,h.kH,h.jj,h.jr,fun b hb=>h.fresh b (by rwa[hh]at hb)⟩,hx⟩
 ·exact h.fx hx h1 h2 (by rw[hh]) (h.obj l row b h1 h2).1
 ·exact h.fy hx h1 h2 (fun _ _=>by rw[hh]) (fun _ _=>rfl)
theorem Fr.heap (h:Fr w0 g0 w g) (hh:w'.heap=w.heap) (ho:w'.os=w.os) (ht:w'.tape=w.tape) (hp:w'.output=w.output):Fr w0 g0 w' g:=
 ⟨ho.trans h.os,ht.trans h.tape,hp.trans h.output,by rw[hh];exact h.size,fun b h1 h2 h3=>by rw[hh];exact h.qE b h1 h2 h3,h.js,h.ob,h.ar,h.vO,h.xV⟩
theorem Inv.ei (h:Inv g w V A) (o:Obj) (m:Nat):∃g',g'={g with im:=fun b=>if b=w.heap.size then m else g.im b}/\Inv g' (w.alloc o) V A/\Ext g w A g' (w.alloc o) A:=by
 have GF:∀b,b<w.heap.size->(w.alloc o).heap[b]? =w.heap[b]? :=fun b hb=>RowKit.Below.heap_alloc w o b hb
 have qV:∀b,b<w.heap.size->(if b=w.heap.size then m else g.im b)=g.im b:=fun b hb=>by rw[if_neg (by omega)]
 have hx:Ext g w A {g with im:=fun b=>if b=w.heap.size then m else g.im b} (w.alloc o) A:=by
  refine⟨fun _ _ h=>h,⟨fun b=>?_,fun b o' ho=>?_⟩,fun _ r h=>⟨r,h,rfl,V6 _,fun _=>rfl⟩⟩
  ·show g.im b<=if b=w.heap.size then m else g.im b
   split
   ·rename_i e;rw[h.fresh b (by omega)];exact V8 _
   ·exact V6 _
  ·exact World.cell?_of_block (a:=⟨b,o',none⟩) (GF b (h.E0 ho))
 refine⟨_,rfl,⟨h.oT,h.lQ,fun l row b h1 h2=>?_,fun k r v h1 h2=>?_,h.kH,h.jj,h.jr,fun b hb=>?_⟩,hx⟩
 ·exact h.fx hx h1 h2 (GF b (h.qU h2)) ((qV b (h.qU h2)).trans (h.obj l row b h1 h2).1)
 ·exact h.fy hx h1 h2 (fun b hb=>GF b (h.mO h2 hb)) (fun b hb=>qV b (h.mO h2 hb))
 ·have hs:(w.alloc o).heap.size=w.heap.size+1:=by simp
  show(if b=w.heap.size then m else g.im b)=0;rw[hs]at hb;rw[if_neg (by omega)];exact h.fresh b (by omega)
theorem Fr.ei (h:Fr w0 g0 w g) (o:Obj) (m:Nat):Fr w0 g0 (w.alloc o) {g with im:=fun b=>if b=w.heap.size then m else g.im b}:=by
 have hs:(w.alloc o).heap.size=w.heap.size+1:=by simp
 refine⟨h.os,h.tape,h.output,by rw[hs];have:=h.size;omega,fun b h1 h2 h3=>?_,fun b hb eV=>?_,h.ob,h.ar,h.vO,h.xV⟩
 ·rw[RowKit.Below.heap_alloc w o b (by have:=h.size;omega)];exact h.qE b h1 h2 h3
 ·show(if b=w.heap.size then m else g.im b)=_;have:=h.size;rw[if_neg (by omega)];exact h.js b hb eV
theorem Inv.newObj (h:Inv g w V A) (hf:Fr w0 g0 w g) (cs:Array Value) (ty:TypeId) (row:List CV) (hs:cs.size=row.length) (hr:∀(j:Nat) c u,row[j]? =some c->cs[j]? =some u->br g w A c u):
  ∃g',Inv g' (w.alloc (.cells cs ty)) (V++[row]) A/\Ext g w A g' (w.alloc (.cells cs ty)) A/\Fr w0 g0 (w.alloc (.cells cs ty)) g'/\g'.ob[V.length]? =some w.heap.size:=by
 obtain⟨g1,vf,hi,hx⟩:=h.ei (.cells cs ty) 0;have E1:=hf.ei (.cells cs ty) 0;rw[<-vf]at E1
 have j8:Ext g1 (w.alloc (.cells cs ty)) A {g1 with ob:=g1.ob++[w.heap.size]} (w.alloc (.cells cs ty)) A:=
  ⟨fun l b hb=>by show(g1.ob++[w.heap.size])[l]? =some b;rw[Wm (Wk.1 hb).1];exact hb,.refl _ _,fun _ r h=>⟨r,h,rfl,V6 _,fun _=>rfl⟩⟩
 have ay:∀(l b:Nat),g1.ob[l]? =some b->b<w.heap.size:=fun l b hb=>by
  subst vf;exact h.qU (g:=g) hb
 have dm:∀(l b:Nat),(g1.ob++[w.heap.size])[l]? =some b->(g1.ob[l]? =some b/\b<w.heap.size)\/(l=V.length/\b=w.heap.size):=fun l b hb=>by
  rcases Wg l g1.ob.length with h1|h1
  ·rw[Wm h1]at hb;exact .inl ⟨hb,ay l b hb⟩
  ·rw[Wn h1]at hb;have h0:l-g1.ob.length=0:=by
    have:=(Wk.1 hb).1;simp at this;omega
   rw[h0]at hb;simp at hb;exact .inr ⟨by rw[<-hi.oT];omega,hb.symm⟩
 have qV:g1.im w.heap.size=0:=by subst vf;simp
 have GG:∀(k:Nat) (v:Value) (b:Nat),g1.ar[k]? =some v->v.ownBlock=some b->b<w.heap.size:=fun k v b hv hb=>by
  subst vf;exact h.mO (g:=g) hv hb
 refine⟨{g1 with ob:=g1.ob++[w.heap.size]},⟨by simp[hi.oT],hi.lQ,fun l row' b h1 h2=>?_,fun k r v h1 h2=>?_,fun l l' b h1 h2=>?_,hi.jj,fun l k v b h1 h2=>?_,hi.fresh⟩,hx.trans j8,?_,?_⟩
 ·rcases dm l b h2 with⟨h3,h4⟩|⟨h3,h4⟩
  ·have h5:V[l]? =some row':=by
    have:l<V.length:=by rw[<-hi.oT];exact(Wk.1 h3).1
    rwa[Wm this]at h1
   exact hi.fx j8 h5 h3 rfl (hi.obj l row' b h5 h3).1
  ·subst h3;subst h4;simp at h1;subst h1;exact⟨qV,cs,ty,heap_alloc_new w _,hs,fun j c u h6 h7=>br.ext (hx.trans j8) (hr j c u h6 h7)⟩
 ·exact hi.fy j8 h1 h2 (fun _ _=>rfl) (fun _ _=>rfl)
 ·rcases dm l b h1 with⟨h3,h4⟩|⟨h3,h4⟩<;>rcases dm l' b h2 with⟨h5,h6⟩|⟨h5,h6⟩
  ·exact hi.kH l l' b h3 h5
  ·omega
  ·omega
  ·omega
 ·rcases dm l b h1 with⟨h3,h4⟩|⟨h3,h4⟩
  ·exact hi.jr l k v b h3 h2
  ·intro hb;have:=GG k v b h2 hb;omega
 ·refine⟨E1.os,E1.tape,E1.output,E1.size,E1.qE,E1.js,?_,E1.ar,E1.vO,E1.xV⟩;obtain⟨new,e,hn⟩:=E1.ob;exact⟨new++[w.heap.size],by show g1.ob++[w.heap.size]=_;rw[e];simp,fun b hb=>by
   rcases Wy.1 hb with h1|h1
   ·exact hn b h1
   ·simp at h1;rw[h1];exact hf.size⟩
 ·show(g1.ob++[w.heap.size])[V.length]? =some w.heap.size;rw[Wn (by rw[hi.oT];exact V6 _),hi.oT];simp
theorem cC (w:World) (b k:Nat) (cs:Array Value) (h:k≠b):(w.setRow b cs).heap[k]? =w.heap[k]? :=by
 simp only[World.setRow,Array.getElem?_modify];rw[if_neg (fun e=>h e.symm)]
theorem Ext.setRow (g:Gh) (w:World) (A:List bz) (b:Nat) (cs:Array Value) (h:g.im b=0):Ext g w A g (w.setRow b cs) A:=by
 refine⟨fun _ _ h=>h,⟨fun _=>V6 _,fun b' o ho=>?_⟩,fun _ r h=>⟨r,h,rfl,V6 _,fun _=>rfl⟩⟩;exact World.cell?_of_block (a:=⟨b',o,none⟩) (cC w b b' cs (fun e=>by subst e;omega))
theorem Fr.setRow (hf:Fr w0 g0 w g) (b:Nat) (cs:Array Value) (h:b∈g0.ob\/w0.heap.size<=b\/b∈g0.jB):Fr w0 g0 (w.setRow b cs) g:=
 ⟨hf.os,hf.tape,hf.output,by simpa using hf.size,fun b' h1 h2 h3=>by
  rw[cC w b b' cs (fun e=>by subst e;rcases h with h|h|h<;>first|exact h2 h|exact h3 h|omega)];exact hf.qE b' h1 h2 h3,hf.js,hf.ob,hf.ar,hf.vO,hf.xV⟩
theorem Inv.setObj (h:Inv g w V A) (hf:Fr w0 g0 w g) {l b:Nat} {row row':List CV} (hl:V[l]? =some row) (hb:g.ob[l]? =some b) (cs:Array Value) (hs:cs.size=row'.length)
  (hr:∀(j:Nat) c u,row'[j]? =some c->cs[j]? =some u->br g w A c u):
  Inv g (w.setRow b cs) (V.set l row') A/\Ext g w A g (w.setRow b cs) A/\Fr w0 g0 (w.setRow b cs) g:=by
 obtain⟨hi,cs0,ty,hh,_⟩:=h.obj l row b hl hb;have hx:=Ext.setRow g w A b cs hi;refine⟨⟨by rw[h.oT];simp,h.lQ,fun l' rw' b' h1 h2=>?_,fun k r v h1 h2=>?_,h.kH,h.jj,h.jr,fun b' eV=>h.fresh b' (by simpa using eV)⟩,hx,hf.setRow b cs ((hf.Nk hb).imp_right .inl)⟩
 ·by_cases e:l'=l
  ·subst e;obtain rfl:b=b':=by rw[hb]at h2;exact Option.some.inj h2
   have ay:=(Wk.1 hl).1;simp[ay]at h1;subst h1;exact⟨hi,cs,ty,setRow_heap w b cs0 cs ty (0,0) hh,hs,fun j c u h3 h4=>br.ext hx (hr j c u h3 h4)⟩
  ·rw[WA (by omega)]at h1;have di:b'≠b:=fun e'=>e (h.kH l' l b' h2 (e'▸hb))
   exact h.fx hx h1 h2 (cC w b b' cs di) (h.obj l' rw' b' h1 h2).1
 ·exact h.fy hx h1 h2 (fun b' eV=>cC w b b' cs (fun e=>by subst e;exact h.jr l k v _ hb h2 eV)) (fun _ _=>rfl)
theorem Inv.qW (h:Inv g w V A) (hf:Fr w0 g0 w g) (r:bz) (v:Value) (xs:List Value) (h1:∀row∈r.rows,row.length=r.sz) (ho:w.ownsRow 0 r.ev r.sz v r.rows.length xs)
  (hr:∀(j:Nat) x u,r.rows.flatten[j]? =some x->xs[j]? =some u->bn g.im w x u)
  (hb:∀b,v.ownBlock=some b->g.im b=0/\w0.heap.size<=b/\(∀l:Nat,g.ob[l]? ≠some b)/\∀(k:Nat) v',g.ar[k]? =some v'->v'.ownBlock≠some b):
  ∃g',g'.im=g.im/\g'.ob=g.ob/\g'.ar=g.ar++[v]/\Inv g' w V (A++[r])/\Ext g w A g' w (A++[r])/\Fr w0 g0 w g':=by
 have hx:Ext g w A {g with ar:=g.ar++[v]} w (A++[r]):=by
  refine⟨fun _ _ h=>h,.refl _ _,fun k r' hk=>⟨r',?_,rfl,V6 _,fun _=>?_⟩⟩
  ·rw[Wm (Wk.1 hk).1];exact hk
  ·show(g.ar++[v])[k]? =_;rw[Wm (by rw[h.lQ];exact(Wk.1 hk).1)]
 have dm:∀(k:Nat) (v':Value),(g.ar++[v])[k]? =some v'->g.ar[k]? =some v'\/(k=A.length/\v'=v):=fun k v' hk=>by
  rcases Wg k g.ar.length with h1|h1
  ·rw[Wm h1]at hk;exact .inl hk
  ·rw[Wn h1]at hk;have h0:k-g.ar.length=0:=by
    have:=(Wk.1 hk).1;simp at this;omega
   rw[h0]at hk;simp at hk;exact .inr ⟨by rw[<-h.lQ];omega,hk.symm⟩
 refine⟨{g with ar:=g.ar++[v]},rfl,rfl,rfl,⟨h.oT,by simp[h.lQ],fun l row b h2 h3=>?_,fun k r' v' h2 h3=>?_,h.kH,fun k k' v1 v2 b h2 h3 h4 h5=>?_,fun l k v' b h2 h3=>?_,h.fresh⟩,hx,?_⟩
 ·exact h.fx hx h2 h3 rfl (h.obj l row b h2 h3).1
 ·rcases dm k v' h3 with h4|⟨h4,h5⟩
  ·have h6:A[k]? =some r':=by
    have:k<A.length:=by rw[<-h.lQ];exact(Wk.1 h4).1
    rwa[Wm this]at h2
   exact h.fy hx h6 h4 (fun _ _=>rfl) (fun _ _=>rfl)
  ·subst h4;subst h5;simp at h2;subst h2;exact⟨h1,fun b hv=>by show g.im b<=_;rw[(hb b hv).1];exact V8 _,xs,ho,hr⟩
 ·rcases dm k v1 h2 with h6|⟨h6,h7⟩<;>rcases dm k' v2 h3 with h8|⟨h8,h9⟩
  ·exact h.jj k k' v1 v2 b h6 h8 h4 h5
  ·subst h9;exact absurd h4 ((hb b h5).2.2.2 k v1 h6)
  ·subst h7;exact absurd h5 ((hb b h4).2.2.2 k' v2 h8)
  ·omega
 ·rcases dm k v' h3 with h4|⟨h4,h5⟩
  ·exact h.jr l k v' b h2 h4
  ·subst h5;intro hv;exact(hb b hv).2.2.1 l h2
 ·refine⟨hf.os,hf.tape,hf.output,hf.size,hf.qE,hf.js,hf.ob,fun k v' b h2 h3=>?_,fun k v' h2=>?_,hf.xV⟩
  ·rcases dm k v' h2 with h4|⟨h4,h5⟩
   ·exact hf.ar k v' b h4 h3
   ·subst h5;exact .inl (hb b h3).2.1
  ·obtain⟨v2,h3,h4⟩:=hf.vO k v' h2;exact⟨v2,by show(g.ar++[v])[k]? =some v2;rw[Wm (Wk.1 h3).1];exact h3,h4⟩
end
theorem lA {α:Type} {sz:Nat}:∀{rows:List (List α)},(∀row∈rows,row.length=sz)->∀{i j:Nat} {row:List α} {x:α},rows[i]? =some row->row[j]? =some x->rows.flatten[i*sz+j]? =some x
 |[],_,i,j,row,x,h,_=>by simp at h
 |r::rs,hl,0,j,row,x,h,hx=>by
  simp at h;subst h;have hj:=(Wk.1 hx).1;simp only[Wo,We,Wa];rw[Wm hj];exact hx
 |r::rs,hl,i+1,j,row,x,h,hx=>by
  simp at h;have hr:r.length=sz:=hl r (by simp);have ih:=lA (fun q hq=>hl q (by simp[hq])) h hx;simp only[Wo];rw[Wn (by rw[hr,V7];omega)];rwa[show(i+1)*sz+j-r.length=i*sz+j by rw[hr,V7];omega]
theorem eL {α:Type} {sz:Nat}:∀{rows:List (List α)},(∀row∈rows,row.length=sz)->rows.flatten.length=rows.length*sz
 |[],_=>by simp
 |r::rs,hl=>by
  have hr:r.length=sz:=hl r (by simp);have ih:=eL (rows:=rs) (fun q hq=>hl q (by simp[hq]));simp only[Wo,Wt,Wz,ih,hr,V7];omega
def ca {α:Type} (l:List α) (off:Nat) (ds:List α):List α:=l.take off++ds++l.drop (off+ds.length)
theorem fM {α:Type} {l:List α} {off:Nat} {ds:List α} (h:off+ds.length<=l.length):(ca l off ds).length=l.length:=by
 simp[ca];omega
theorem ga {α:Type} {l:List α} {off:Nat} {ds:List α} (h:off+ds.length<=l.length) (j:Nat):(ca l off ds)[j]? =if off<=j/\j<off+ds.length then ds[j-off]? else l[j]? :=by
 simp only[ca,WC];by_cases h1:j<off
 ·rw[if_neg (by omega),Wm (by simp;omega),Wq,if_pos h1]
 ·by_cases h2:j<off+ds.length
  ·rw[if_pos (by omega),Wn (by simp;omega),Wm (by simp;omega)]
   congr 1;simp;omega
  ·rw[if_neg (by omega),Wn (by simp;omega),Wn (by simp;omega),Wx]
   congr 1;simp;omega
theorem o8 {α:Type} {sz:Nat}:∀{rows:List (List α)},(∀row∈rows,row.length=sz)->∀{i off:Nat} {row ds:List α},rows[i]? =some row->off+ds.length<=sz->
  (rows.set i (ca row off ds)).flatten=ca rows.flatten (i*sz+off) ds
 |[],_,i,_,row,_,h,_=>by simp at h
 |r::rs,hl,0,off,row,ds,h,ho=>by
  simp at h;subst h;have hr:r.length=sz:=hl r (by simp);simp only[List.set_cons_zero,Wo,We,Wa,ca];rw[List.take_append_of_le_length (by omega),List.drop_append_of_le_length (by omega)];simp
 |r::rs,hl,i+1,off,row,ds,h,ho=>by
  simp at h;have hr:r.length=sz:=hl r (by simp);have ih:=o8 (fun q hq=>hl q (by simp[hq])) h ho;simp only[List.set_cons_succ,Wo,ih];have e:(i+1)*sz+off=r.length+(i*sz+off):=by rw[hr,V7];omega
  rw[e];simp only[ca,V9,List.take_length_add_append,List.drop_length_add_append,WC]
section
variable {g g' g0:Gh} {w w' w0:World} {V V':List (List CV)} {A A':List bz} {P:Program}
theorem AJ {im:Nat->Nat} {r:bz} {v:Value} {xs:List Value} (h1:∀row∈r.rows,row.length=r.sz) (ho:w.ownsRow 0 r.ev r.sz v r.rows.length xs)
  (hr:∀(j:Nat) x u,r.rows.flatten[j]? =some x->xs[j]? =some u->bn im w x u) (hi:∀b,v.ownBlock=some b->r.rows.length*r.sz<=im b):bn im w (.sl r.rows) v:=by
 simp only[bn];have sY:=ho;rcases ho.2 with⟨hv,hn⟩|⟨b,cap,cur,hv,_,hh,CB,_,xJ,yx⟩
 ·have MJ:r.rows=[]:=Wr hn;exact⟨none,0,by rw[hv,hn],by omega,.inl MJ⟩
 ·refine⟨some ⟨b,0,none⟩,cap,hv,CB,.inr ⟨b,0,r.sz,rfl,by have:=hi b (by rw[hv];rfl);omega,?_⟩⟩;refine cv.mk fun i row ef=>⟨h1 row (Wp ef),dA.mk fun j x hx=>?_⟩
  have hf:=lA h1 ef hx;have ay:i*r.sz+j<xs.length:=by
   have:=(Wk.1 hf).1;rw[eL h1]at this;rw[sY.1];exact this
  have hu:xs[i*r.sz+j]? =some xs[i*r.sz+j]:=Wl ay;refine⟨_,?_,hr _ x _ hf hu⟩;have hc:=sY.cells (g:=b) (by rw[hv];rfl) _ _ hu;have qX:(⟨b,0,none⟩:Addr).add (i*r.sz+j)=⟨b,0+i*r.sz+j,none⟩:=by unfold Addr.add;split<;>simp_all
  rwa[qX]at hc
theorem Inv.seal (h:Inv g w V A) (hf:Fr w0 g0 w g) {k:Nat} {r:bz} {v:Value} (hk:A[k]? =some r) (hv:g.ar[k]? =some v):
  ∃g',Inv g' w V (A.set k {r with wr:=false})/\Ext g w A g' w (A.set k {r with wr:=false})/\Fr w0 g0 w g'/\g'.ar=g.ar/\g'.ob=g.ob/\bn g'.im w (.sl r.rows) v:=by
 obtain⟨h1,h2,xs,ho,hr⟩:=h.arr k r v hk hv
 let im':Nat->Nat:=fun b=>if v.ownBlock=some b then max (g.im b) (r.rows.length*r.sz)else g.im b
 have xW:j7 g.im w im' w:=⟨fun b=>by simp only[im'];split<;>omega,fun _ _ _=>rfl⟩;have ay:=(Wk.1 hk).1;have bS:∀k',(A.set k {r with wr:=false})[k']? =if k'=k then some {r with wr:=false}else A[k']? :=fun k'=>by
  by_cases e:k'=k
  ·subst e;simp[ay]
  ·rw[if_neg e,WA (by omega)]
 have hx:Ext g w A {g with im:=im'} w (A.set k {r with wr:=false}):=by
  refine⟨fun _ _ h=>h,xW,fun k' r' o9=>?_⟩;rw[bS];by_cases e:k'=k
  ·subst e;obtain rfl:r=r':=by rw[hk]at o9;exact Option.some.inj o9
   exact⟨{r with wr:=false},by simp,rfl,V6 _,fun _=>rfl⟩
  ·exact⟨r',by simp[e,o9],rfl,V6 _,fun _=>rfl⟩
 have Jc:∀b,v.ownBlock=some b->b<w.heap.size:=fun b hb=>h.mO hv hb
 refine⟨{g with im:=im'},⟨h.oT,by rw[h.lQ];simp,fun l row b h3 h4=>?_,fun k' r' v' h3 h4=>?_,h.kH,h.jj,h.jr,fun b hb=>?_⟩,hx,?_,rfl,rfl,?_⟩
 ·refine h.fx hx h3 h4 rfl ?_;show im' b=0;simp only[im'];rw[if_neg (h.jr l k v b h4 hv)];exact(h.obj l row b h3 h4).1
 ·rw[bS]at h3;by_cases e:k'=k
  ·subst e;simp at h3;subst h3;obtain rfl:v=v':=by rw[hv]at h4;exact Option.some.inj h4
   refine⟨h1,fun b hb=>?_,xs,ho,fun j x u h5 h6=>bn.fJ xW x u (hr j x u h5 h6)⟩;show im' b<=_;simp only[im',hb,if_true];have:=h2 b hb;simp only[WU,if_false];split at this<;>omega
  ·simp[e]at h3;refine h.fy hx h3 h4 (fun _ _=>rfl) (fun b hb=>?_);show im' b=g.im b;simp only[im'];rw[if_neg (fun e'=>e (h.jj k' k v' v b h4 hv hb e'))]
 ·show im' b=0;simp only[im'];rw[if_neg (fun e=>by have:=Jc b e;omega)];exact h.fresh b hb
 ·refine⟨hf.os,hf.tape,hf.output,hf.size,hf.qE,fun b hb eV=>?_,hf.ob,hf.ar,hf.vO,hf.xV⟩;show im' b=_;simp only[im'];rw[if_neg (fun e=>by rcases hf.ar k v b hv e with h7|h7;omega;exact eV h7)];exact hf.js b hb eV
 ·exact AJ h1 ho (fun j x u h5 h6=>bn.fJ xW x u (hr j x u h5 h6)) (fun b hb=>by simp only[im',hb,if_true];omega)
theorem mo (t ty e:TypeId) (i:TypeInfo) (z:Value) (ht:P.underlying t=some (.slice e)) (hi:P.info? e=some i) (hz:i.zero=some z)
  (IM:z.cells.size=i.size) (v:Value) (n:Nat) (xs:List Value) (dQ:w.ownsRow 0 e i.size v n xs)
  (y:Value) (m:Nat) (news:List Value) (hy:(m=0/\news=[]/\∃a c,y=.slice a 0 c)\/∃a c,y=.slice (some a) m c/\news.length=m*i.size/\∀j u,news[j]? =some u->w.cell? (a.add j)=some u)
  (h1:∀u∈news,u.oneCell'=true) (Sx:n+m<=maxLen) (GH:(n+m)*i.bytes<=140737488355328):
  ∃v' w',(Builtin.append_ #[t,t] ty #[v,y]).run P w=.ok v' w'/\w'.ownsRow 0 e i.size v' (n+m) (xs++news)/\
   ((v'=v/\w'=w)\/(∃b cs,v.ownBlock=some b/\v'.ownBlock=some b/\w'=w.setRow b cs)\/(∃o,v'.ownBlock=some w.heap.size/\w'=w.drew.alloc o)):=by
 have Gn:xs.length=n*i.size:=dQ.1;by_cases hm:m=0
 ·subst hm;have Gp:news=[]:=by
   rcases hy with⟨_,h,_⟩|⟨_,_,_,h,_⟩
   ·exact h
   ·exact Wr (by simpa using h)
  obtain⟨a,c,rfl⟩:∃a c,y=.slice a 0 c:=by
   rcases hy with⟨_,_,h⟩|⟨a,c,h,_⟩
   ·exact h
   ·exact⟨some a,c,h⟩
  subst Gp;refine⟨v,w,?_,by simpa using dQ,.inl ⟨rfl,rfl⟩⟩;have IN:∀w:World,(Builtin.firstCells i.size 0 (.slice a 0 c)).run P w=.ok #[] w:=fun w=>by
   cases a<;>simp[Builtin.firstCells,loadCells,loadCellsFrom]
  rcases dQ.2 with⟨rfl,rfl⟩|⟨g,cap,cur,rfl,_,_,CB,_⟩
  ·simp[Builtin.append_,run_underlying ht,sizeOf,typeInfo,hi,Builtin.lenOf,IN]
  ·simp[Builtin.append_,run_underlying ht,sizeOf,typeInfo,hi,Builtin.lenOf,IN,CB,storeCells]
 ·rcases hy with⟨h,_⟩|⟨a,c,rfl,hl,AK⟩
  ·exact absurd h hm
  have Qj:n+m<=9223372036854775807:=by simp only[maxLen]at Sx;omega
  have hlen:(xs++news).length=(n+m)*i.size:=by rw[Wt,dQ.1,hl,V7]
  have grown:∀(KB:Nat),KB<n+m->
    (w.drew.alloc (.cells (xs.toArray++news.toArray++Builtin.zeroCells z.cells (grownCap w (n+m) KB e-(n+m))) e)).ownsRow 0 e i.size
     (.slice (some ⟨w.heap.size,0,none⟩) (n+m) (grownCap w (n+m) KB e)) (n+m) (xs++news):=by
   intro KB ho;have pc:=grownCap_ge w (n+m) KB e;have Nl:grownCap w (n+m) KB e<=maxLen:=grownCap_le_maxLen w (n+m) KB e Sx;refine⟨hlen,.inr ⟨w.heap.size,_,_,rfl,V8 _,heap_alloc_new w.drew _,pc,Nl,?_,?_⟩⟩
   ·simp only[Array.size_append,Wu,size_zeroCells,IM,Gn,hl,<-V7]
    congr 1
    omega
   ·simp only[Array.toList_append,WC];rw[<-WC,<-hlen];exact WI
  rcases dQ.2 with⟨rfl,rfl⟩|⟨g,cap,cur,rfl,_,hg,CB,Nl,xJ,yx⟩
  ·have hx:xs=[]:=Wr (by simpa using Gn);subst hx;have hr:=run_append_nil (P:=P) w t ty e i z ht hi hz a m c news hl AK (by omega) (by omega) (by have hb:=GH;simp only[Wa]at hb;omega);have xW:=grown 0 (by omega);simp only[Wa,WJ,Array.empty_append]at xW⊢;exact⟨_,_,hr,xW,.inr (.inr ⟨_,rfl,rfl⟩)⟩
  ·by_cases GI:n+m<=cap
   ·have xX:n*i.size+news.length<=cur.size:=by rw[hl,xJ,<-V7];exact Wb _ GI
    have hr:=run_append_room (P:=P) w t ty e i ht hi g n cap cur hg a m c news hl AK h1 GI xX;refine⟨_,_,hr,⟨hlen,.inr ⟨g,cap,_,rfl,V8 _,setRow_heap w g cur _ e _ hg,GI,Nl,?_,?_⟩⟩,.inr (.inl ⟨g,_,rfl,rfl,rfl⟩)⟩
    ·simp only[Wu,Wt,List.length_take,List.length_drop,WQ];omega
    ·rw[yx,<-hlen];exact WI
   ·have holds:∀j u,xs[j]? =some u->w.cell? ((⟨g,0,none⟩:Addr).add j)=some u:=dQ.cells (g:=g) rfl;have hr:=run_append_grow (P:=P) w t ty e i z ht hi hz ⟨g,0,none⟩ n cap xs Gn holds a m c news hl AK (by omega) (by omega) (growslice_fits (by omega) GH);exact⟨_,_,hr,grown cap (by omega),.inr (.inr ⟨_,rfl,rfl⟩)⟩
theorem dw {α:Type} {l:List α} {k:Nat} {x y:α} (h:l[k]? =some x) (k':Nat):(l.set k y)[k']? =if k'=k then some y else l[k']? :=by
 have ay:=(Wk.1 h).1;by_cases e:k'=k
 ·subst e;simp[ay]
 ·rw[if_neg e,WA (by omega)]
theorem GJ {r:bz} {nr:List (List DV)} {e:TypeId} {v':Value} {xs news:List Value} {im:Nat->Nat} (h1:∀row∈r.rows,row.length=r.sz) (hn:∀row∈nr,row.length=r.sz)
  (Jd:xs.length=r.rows.length*r.sz)
  (hr:∀(j:Nat) x u,r.rows.flatten[j]? =some x->xs[j]? =some u->bn im w' x u) (CC:∀(j:Nat) x u,nr.flatten[j]? =some x->news[j]? =some u->bn im w' x u)
  (ho:w'.ownsRow 0 e r.sz v' (r.rows.length+nr.length) (xs++news)):
  (∀row∈r.rows++nr,row.length=r.sz)/\w'.ownsRow 0 e r.sz v' (r.rows++nr).length (xs++news)/\∀(j:Nat) x u,(r.rows++nr).flatten[j]? =some x->(xs++news)[j]? =some u->bn im w' x u:=by
 refine⟨fun row ef=>?_,by simpa using ho,fun j x u hj hu=>?_⟩
 ·rcases Wy.1 ef with h|h
  ·exact h1 row h
  ·exact hn row h
 ·rw[List.flatten_append]at hj;have xK:=eL h1;by_cases ay:j<xs.length
  ·rw[Wm (by omega)]at hj;rw[Wm ay]at hu;exact hr j x u hj hu
  ·rw[Wn (by omega)]at hj;rw[Wn (by omega)]at hu;rw[xK,<-Jd]at hj;exact CC _ x u hj hu
theorem Inv.grow (h:Inv g w V A) (hf:Fr w0 g0 w g) {k:Nat} {r:bz} {v v':Value} (hk:A[k]? =some r) (hv:g.ar[k]? =some v) (nr:List (List DV)) (di:nr≠[]) (news:List Value)
  (hn:∀row∈nr,row.length=r.sz) (CC:∀(j:Nat) x u,nr.flatten[j]? =some x->news[j]? =some u->bn g.im w x u)
  (sY:∀xs,w.ownsRow 0 r.ev r.sz v r.rows.length xs->w'.ownsRow 0 r.ev r.sz v' (r.rows.length+nr.length) (xs++news))
  (hc:(v'=v/\w'=w)\/(∃b cs,v.ownBlock=some b/\v'.ownBlock=some b/\w'=w.setRow b cs)\/(∃o,v'.ownBlock=some w.heap.size/\w'=w.drew.alloc o)):
  ∃g',Inv g' w' V (A.set k {r with rows:=r.rows++nr})/\Ext g w A g' w' (A.set k {r with rows:=r.rows++nr})/\Fr w0 g0 w' g'/\g'.ar[k]? =some v'/\g'.ob=g.ob/\g'.im=g.im:=by
 obtain⟨h1,h2,xs,ho,hr⟩:=h.arr k r v hk hv;have qa:=sY xs ho;have Nn:rL v+1<=rL v':=by
  rw[rM ho,rM qa];have:=WE.2 di;omega
 have ay:=(Wk.1 hk).1;have Gq:0<nr.length:=WE.2 di;have fB:w.heap.size<=w'.heap.size:=by
  rcases hc with⟨_,rfl⟩|⟨b,cs,_,_,rfl⟩|⟨o,_,rfl⟩
  ·exact V6 _
  ·simp
  ·simp
 have gB:∀b,b<w.heap.size->v.ownBlock≠some b->w'.heap[b]? =w.heap[b]? :=by
  intro b hb di;rcases hc with⟨_,rfl⟩|⟨b',cs,eV,_,rfl⟩|⟨o,_,rfl⟩
  ·rfl
  ·exact cC w b' b cs (fun e=>di (by rw[e];exact eV))
  ·exact RowKit.Below.heap_alloc w.drew o b hb
 have oD:∀b o,o<g.im b->w'.cell? ⟨b,o,none⟩=w.cell? ⟨b,o,none⟩:=by
  intro b o Gn;have hb:=h.E0 Gn;by_cases e:v.ownBlock=some b
  ·rcases hc with⟨_,rfl⟩|⟨b',cs,eV,hb'',rfl⟩|⟨o',_,rfl⟩
   ·rfl
   ·obtain rfl:b=b':=by rw[e]at eV;exact Option.some.inj eV
    have hle:=h2 b e;have No:o<xs.length:=by rw[ho.1];split at hle<;>omega
    have hu:xs[o]? =some xs[o]:=Wl No;have c1:=ho.cells (g:=b) e _ _ hu;have c2:=qa.cells (g:=b) hb'' o xs[o] (by rw[Wm No];exact hu);have qX:(⟨b,0,none⟩:Addr).add o=⟨b,o,none⟩:=by unfold Addr.add;split<;>simp_all
    rw[qX]at c1 c2;rw[c1,c2]
   ·exact World.cell?_of_block (a:=⟨b,o,none⟩) (RowKit.Below.heap_alloc w.drew o' b hb)
  ·exact World.cell?_of_block (a:=⟨b,o,none⟩) (gB b hb e)
 have xW:j7 g.im w g.im w':=⟨fun _=>V6 _,oD⟩;have E2:g.ar.length=A.length:=h.lQ;have hx:Ext g w A {g with ar:=g.ar.set k v'} w' (A.set k {r with rows:=r.rows++nr}):=by
  refine⟨fun _ _ h=>h,xW,fun k' r' o9=>?_⟩;rw[dw hk];by_cases e:k'=k
  ·subst e;obtain rfl:r=r':=by rw[hk]at o9;exact Option.some.inj o9
   exact⟨{r with rows:=r.rows++nr},by simp,rfl,by simp,fun he=>by simp at he;exact absurd he di⟩
  ·refine⟨r',by simp[e,o9],rfl,V6 _,fun _=>?_⟩;show(g.ar.set k v')[k']? =g.ar[k']?;rw[dw hv,if_neg e]
 have AD:∀b,v'.ownBlock=some b->(v.ownBlock=some b)\/b=w.heap.size:=by
  intro b hb;rcases hc with⟨rfl,_⟩|⟨b',cs,h3,h4,_⟩|⟨o,h3,_⟩
  ·exact .inl hb
  ·rw[h4]at hb;exact .inl (h3.trans hb)
  ·rw[h3]at hb;exact .inr (Option.some.inj hb).symm
 have qX:=GJ h1 hn ho.1 (fun j x u hj hu=>bn.fJ xW x u (hr j x u hj hu)) (fun j x u hj hu=>bn.fJ xW x u (CC j x u hj hu)) qa;refine⟨{g with ar:=g.ar.set k v'},⟨h.oT,by simp[h.lQ],fun l row b h3 h4=>?_,fun k' r' u h3 h4=>?_,h.kH,fun k1 k2 u1 u2 b h3 h4 h5 h6=>?_,fun l k' u b h3 h4=>?_,fun b hb=>h.fresh b (by omega)⟩,hx,?_,?_,rfl,rfl⟩
 ·exact h.fx hx h3 h4 (gB b (h.qU h4) (h.jr l k v b h4 hv)) (h.obj l row b h3 h4).1
 ·rw[dw hk]at h3;have vg:(g.ar.set k v')[k']? =some u:=h4;rw[dw hv]at vg;by_cases e:k'=k
  ·subst e;simp at h3 vg;subst h3;subst vg;refine⟨qX.1,fun b hb=>?_,xs++news,qX.2.1,qX.2.2⟩;show g.im b<=_;rcases AD b hb with h5|h5
   ·have:=h2 b h5;simp only[Wt,V7];cases zx:r.wr<;>simp only[zx,if_true,WU,if_false]at this⊢<;>omega
   ·rw[h.fresh b (by omega)];exact V8 _
  ·simp[e]at h3 vg;refine h.fy hx h3 vg (fun b hb=>gB b (h.mO vg hb) (fun e'=>e (h.jj k' k u v b vg hv hb e'))) (fun _ _=>rfl)
 ·have sZ:(g.ar.set k v')[k1]? =some u1:=h3;have vg:(g.ar.set k v')[k2]? =some u2:=h4;rw[dw hv]at sZ vg;by_cases e1:k1=k<;>by_cases e2:k2=k
  ·omega
  ·simp[e1,e2]at sZ vg;subst sZ;rcases AD b h5 with h7|h7
   ·exact absurd (h.jj k2 k u2 v b vg hv h6 h7) e2
   ·have:=h.mO vg h6;omega
  ·simp[e1,e2]at sZ vg;subst vg;rcases AD b h6 with h7|h7
   ·exact absurd (h.jj k1 k u1 v b sZ hv h5 h7) e1
   ·have:=h.mO sZ h5;omega
  ·simp[e1,e2]at sZ vg;exact h.jj k1 k2 u1 u2 b sZ vg h5 h6
 ·have vg:(g.ar.set k v')[k']? =some u:=h4;rw[dw hv]at vg;by_cases e:k'=k
  ·simp[e]at vg;subst vg;intro hb;rcases AD b hb with h7|h7
   ·exact h.jr l k v b h3 hv h7
   ·have:=h.qU h3;omega
  ·simp[e]at vg;exact h.jr l k' u b h3 vg
 ·have Qk:w'.os=w.os/\w'.tape=w.tape/\w'.output=w.output:=by
   rcases hc with⟨_,rfl⟩|⟨b,cs,_,_,rfl⟩|⟨o,_,rfl⟩<;>exact⟨rfl,rfl,rfl⟩
  refine⟨Qk.1.trans hf.os,Qk.2.1.trans hf.tape,Qk.2.2.trans hf.output,Wc hf.size fB,fun b h3 h4 vg=>?_,hf.js,hf.ob,fun k' u b h3 h4=>?_,fun k' u h3=>?_,hf.xV⟩
  ·rw[gB b (Wh h3 hf.size) (fun e=>by rcases hf.ar k v b hv e with h7|h7;omega;exact vg h7)];exact hf.qE b h3 h4 vg
  ·have sZ:(g.ar.set k v')[k']? =some u:=h3;rw[dw hv]at sZ;by_cases e:k'=k
   ·simp[e]at sZ;subst sZ;rcases AD b h4 with h7|h7
    ·exact hf.ar k v b hv h7
    ·rw[h7];exact .inl hf.size
   ·simp[e]at sZ;exact hf.ar k' u b sZ h4
  ·obtain⟨u1,h4,h5,h6⟩:=hf.vO k' u h3;by_cases e:k'=k
   ·subst e;obtain rfl:v=u1:=by rw[hv]at h4;exact Option.some.inj h4
    refine⟨v',?_,?_⟩
    ·show(g.ar.set k' v')[k']? =some v';rw[dw hv];simp
    ·have hlen:rL v+1<=rL v':=Nn;exact⟨by omega,fun h7=>by omega⟩
   ·refine⟨u1,?_,h5,h6⟩;show(g.ar.set k v')[k']? =some u1;rw[dw hv];simp[e,h4]
 ·show(g.ar.set k v')[k]? =some v';rw[dw hv];simp
theorem Inv.GK (h:Inv g w V A) (hf:Fr w0 g0 w g) {k:Nat} {r:bz} {v:Value} (hk:A[k]? =some r) (hv:g.ar[k]? =some v) (hw:r.wr=true) {i off b:Nat} {row ds:List DV} (hi:r.rows[i]? =some row)
  (ho:off+ds.length<=r.sz) (hb:v.ownBlock=some b) (vs:List Value) (E2:vs.length=ds.length) (vD:∀(j:Nat) x u,ds[j]? =some x->vs[j]? =some u->bn g.im w x u):
  ∃cur ty cap,v=.slice (some ⟨b,0,none⟩) r.rows.length cap/\w.heap[b]? =some (.cells cur ty (0,0))/\i*r.sz+off+vs.length<=cur.size/\i*r.sz+off+vs.length<=r.rows.length*r.sz/\
   Inv g (w.setRow b (ca cur.toList (i*r.sz+off) vs).toArray) V (A.set k {r with rows:=r.rows.set i (ca row off ds)})/\
   Ext g w A g (w.setRow b (ca cur.toList (i*r.sz+off) vs).toArray) (A.set k {r with rows:=r.rows.set i (ca row off ds)})/\Fr w0 g0 (w.setRow b (ca cur.toList (i*r.sz+off) vs).toArray) g:=by
 obtain⟨h1,h2,xs,dQ,hr⟩:=h.arr k r v hk hv;have qV:g.im b=0:=by have:=h2 b hb;rw[hw]at this;simpa using this
 rcases dQ.2 with⟨rfl,_⟩|⟨b',cap,cur,rfl,_,hh,CB,Nl,xJ,yx⟩
 ·simp[Value.ownBlock]at hb
 simp[Value.ownBlock]at hb;subst hb;have ay:=(Wk.1 hi).1;have hmul:(i+1)*r.sz<=r.rows.length*r.sz:=Wb _ ay;have Sy:r.rows.length*r.sz<=cap*r.sz:=Wb _ CB;rw[V7,Wd]at hmul;have xX:i*r.sz+off+vs.length<=r.rows.length*r.sz:=by omega
 have GL:i*r.sz+off+vs.length<=cur.size:=by omega
 have dB:=Ext.setRow g w A b' (ca cur.toList (i*r.sz+off) vs).toArray qV;have hx:Ext g w A g (w.setRow b' (ca cur.toList (i*r.sz+off) vs).toArray) (A.set k {r with rows:=r.rows.set i (ca row off ds)}):=by
  refine⟨dB.ob,dB.gr,fun k' r' o9=>?_⟩;rw[dw hk];by_cases e:k'=k
  ·subst e;obtain rfl:r=r':=by rw[hk]at o9;exact Option.some.inj o9
   exact⟨{r with rows:=r.rows.set i (ca row off ds)},by simp,rfl,by simp,fun _=>rfl⟩
  ·exact⟨r',by simp[e,o9],rfl,V6 _,fun _=>rfl⟩
 refine⟨cur,r.ev,cap,rfl,hh,GL,xX,⟨h.oT,by simp[h.lQ],fun l row' b h3 h4=>?_,fun k' r' u h3 h4=>?_,h.kH,h.jj,h.jr,fun b hb=>h.fresh b (by simpa using hb)⟩,hx,hf.setRow b' _ (.inr (hf.ar k _ b' hv rfl))⟩
 ·exact h.fx hx h3 h4 (cC w b' b _ (fun e=>by subst e;exact h.jr l k _ b h4 hv rfl)) (h.obj l row' b h3 h4).1
 ·rw[dw hk]at h3;by_cases e:k'=k
  ·subst e;simp at h3;subst h3;obtain rfl:Value.slice (some ⟨b',0,none⟩) r.rows.length cap=u:=by rw[hv]at h4;exact Option.some.inj h4
   have nB:row.length=r.sz:=h1 row (Wp hi);refine⟨fun q hq=>?_,fun b hb=>?_,ca xs (i*r.sz+off) vs,?_,fun j x u hj hu=>?_⟩
   ·rcases List.mem_or_eq_of_mem_set hq with h5|h5
    ·exact h1 q h5
    ·rw[h5,fM (by omega)];exact nB
   ·simp[Value.ownBlock]at hb;subst hb;rw[qV];exact V8 _
   ·refine⟨?_,.inr ⟨b',cap,(ca cur.toList (i*r.sz+off) vs).toArray,?_,V8 _,setRow_heap w b' cur _ r.ev (0,0) hh,by simpa using CB,Nl,?_,?_⟩⟩
    ·rw[fM (by rw[dQ.1];exact xX)];simpa using dQ.1
    ·simp
    ·simp only[Wu];rw[fM (by simpa using GL)];simpa using xJ
    ·apply WB;intro j;simp only[List.length_set];rw[Wq,ga (by simpa using GL),ga (by rw[dQ.1];exact xX),<-yx,Wq];split<;>split<;>first|rfl|(rename_i h5 h6;omega)
   ·simp only at hj;rw[o8 h1 hi ho,ga (by rw[eL h1];omega)]at hj;rw[ga (by rw[dQ.1];exact xX),E2]at hu;split at hj
    ·rename_i hc;rw[if_pos hc]at hu;exact bn.fJ hx.gr x u (vD _ x u hj hu)
    ·rename_i hc;rw[if_neg hc]at hu;exact bn.fJ hx.gr x u (hr j x u hj hu)
  ·simp[e]at h3;refine h.fy hx h3 h4 (fun b hb=>cC w b' b _ (fun e'=>by subst e';exact e (h.jj k' k u _ b h4 hv hb rfl))) (fun _ _=>rfl)
end
structure TD where
 ag:Bool
 sz:Nat
 lR:Nat
 zero:Option (List CV)
 el:Option TypeId
 ar:Option (Nat×TypeId)
 fl:List (Nat×Nat)
 ik:Option IntKind
 cS:Bool
 nC:Bool
def tc:Value->Option CV
 |.int k n=>some (.d (.int k n))
 |.bool b=>some (.d (.bool b))
 |.string s=>some (.d (.str s.data.toList))
 |.slice none 0 0=>some .nil
 |.pointer none=>some .np
 |_=>none
def ur:List Value->Option (List CV)
 |[]=>some []
 |v::r=>match tc v,ur r with
  |some c,some cs=>some (c::cs)
  |_,_=>none
def xY (P:Program):List Field->Option (List (Nat×Nat))
 |[]=>some []
 |f::r=>match P.info? f.type,xY P r with
  |some i,some l=>some ((f.offset,i.size)::l)
  |_,_=>none
def D0:TypeDesc->Bool|.struct _=>true|.array _ _=>true|_=>false
def Ql:TypeDesc->Option TypeId|.slice e=>some e|_=>none
def Qm:TypeDesc->Option (Nat×TypeId)|.array n e=>some (n,e)|_=>none
def MK (P:Program):TypeDesc->List (Nat×Nat)|.struct fs=>(xY P fs.toList).getD []|_=>[]
def Qn:TypeDesc->Option IntKind|.int k=>some k|_=>none
def Ll:TypeDesc->Bool|.string=>true|_=>false
def Lm:TypeDesc->Bool|.bool=>true|_=>false
def PD:Option Value->Option (List CV)|some z=>ur z.cells.toList|none=>none
def td (P:Program) (t:TypeId):Option TD:=
 match P.underlying t,P.info? t with
 |some d,some i=>some {ag:=D0 d,sz:=i.size,lR:=i.bytes,zero:=PD i.zero,el:=Ql d,ar:=Qm d,fl:=MK P d,ik:=Qn d,cS:=Ll d,nC:=Lm d}
 |_,_=>none
def bH (s:St):Operand->Option AV
 |.tmp t=>look s.fr t
 |.const v=>(tc v).map AV.c
 |.func f=>some (.c (.fn f []))
 |.global _=>none
def bU {α:Type} (o:Option α) (k:α->Prop):Prop:=
 match o with
 |some v=>k v
 |none=>False
def nI (A:List bz):CV->Option DV
 |.d x=>some x
 |.nil=>some (.sl [])
 |.own k n=>match A[k]? with
  |some r=>if n=r.rows.length then some (.sl r.rows)else none
  |none=>none
 |_=>none
def iN (A:List bz):List CV->Option (List DV)
 |[]=>some []
 |c::r=>match nI A c,iN A r with
  |some d,some ds=>some (d::ds)
  |_,_=>none
def kI (A:List bz):List (List CV)->Option (List (List DV))
 |[]=>some []
 |c::r=>match iN A c,kI A r with
  |some d,some ds=>some (d::ds)
  |_,_=>none
def fK (A:List bz):CV->List bz
 |.own k _=>match A[k]? with
  |some r=>A.set k {r with wr:=false}
  |none=>A
 |_=>A
def bT (A:List bz) (cs:List CV):List bz:=cs.foldl fK A
def gV (s:St) (p:CV) (n:Nat):Option (List CV):=
 match p with
 |.ptr l off=>match s.V[l]? with
  |some row=>if off+n<=row.length then some ((row.drop off).take n)else none
  |none=>none
 |.ip row off=>if off+n<=row.length then some (((row.drop off).take n).map CV.d)else none
 |.op k m i off=>match s.A[k]? with
  |some r=>if m=r.rows.length then
    match r.rows[i]? with
    |some row=>if off+n<=row.length then some (((row.drop off).take n).map CV.d)else none
    |none=>none
   else none
  |none=>none
 |_=>none
def E3 (ag:Bool) (cs:List CV):Option AV:=
 if ag then some (.agg cs)else
 match cs with
 |[c]=>some (.c c)
 |_=>none
def AV.plain:AV->Bool
 |.a8 _=>false
 |.c x=> !x.jW
 |.agg xs=>xs.all fun x=> !x.jW
def AL (op:BinOp) (k:IntKind) (x y:Int):Int:=
 match op with
 |.and=>k.wrap (BitVec.ofInt k.bits x &&& BitVec.ofInt k.bits y).toNat
 |.or=>k.wrap (BitVec.ofInt k.bits x|||BitVec.ofInt k.bits y).toNat
 |.xor=>k.wrap (BitVec.ofInt k.bits x ^^^ BitVec.ofInt k.bits y).toNat
 |_=>0
def zy (op:BinOp) (x y:AV):Option AV:=
 match x,y with
 |.c (.d (.int k a)),.c (.d (.int k' b))=>
  if k=k' then
   match op with
   |.add=>some (.c (.d (.int k (k.wrap (a+b)))))
   |.sub=>some (.c (.d (.int k (k.wrap (a-b)))))
   |.mul=>some (.c (.d (.int k (k.wrap (a*b)))))
   |.quo=>if b=0 then none else some (.c (.d (.int k (k.wrap (a.tdiv b)))))
   |.rem=>if b=0 then none else some (.c (.d (.int k (a.tmod b))))
   |.eql=>some (.c (.d (.bool (a==b))))
   |.neq=>some (.c (.d (.bool (a !=b))))
   |.lss=>some (.c (.d (.bool (a<b))))
   |.leq=>some (.c (.d (.bool (a<=b))))
   |.gtr=>some (.c (.d (.bool (a>b))))
   |.geq=>some (.c (.d (.bool (a>=b))))
   |.and=>some (.c (.d (.int k (AL .and k a b))))
   |.or=>some (.c (.d (.int k (AL .or k a b))))
   |.xor=>some (.c (.d (.int k (AL .xor k a b))))
   |.shl=>if b<0 then none else some (.c (.d (.int k (k.wrap (a*2 ^ min b.toNat k.bits)))))
   |.shr=>if b<0 then none else some (.c (.d (.int k (a.fdiv (2 ^ min b.toNat k.bits)))))
   |_=>none
  else none
 |.c (.d (.str a)),.c (.d (.str b))=>
  match op with
  |.add=>if a.length+b.length<=4611686018427387904 then some (.c (.d (.str (a++b))))else none
  |.eql=>some (.c (.d (.bool (a==b))))
  |.neq=>some (.c (.d (.bool (!(a==b)))))
  |.lss=>some (.c (.d (.bool (Op.bytesLess a b))))
  |.leq=>some (.c (.d (.bool (Op.bytesLess a b||a==b))))
  |.gtr=>some (.c (.d (.bool (!(Op.bytesLess a b||a==b)))))
  |.geq=>some (.c (.d (.bool (!(Op.bytesLess a b)))))
  |_=>none
 |_,_=>none
def rN (op:BinOp) (x y:AV):Option AV:=
 match x,y with
 |.c (.d (.bool a)),.c (.d (.bool b))=>
  match op with
  |.eql=>some (.c (.d (.bool (a==b))))
  |.neq=>some (.c (.d (.bool (!(a==b)))))
  |_=>none
 |_,_=>none
def zA:TypeDesc->Option Nat
 |.int _=>some 0
 |.bool=>some 1
 |.string=>some 2
 |_=>none
def Np (P:Program):Nat->List Field->Option (List Nat)
 |_,[]=>some []
 |i,f::r=>match P.underlying f.type with
  |some d=>match zA d,Np P (i+1) r with
   |some k,some ks=>if f.name≠ "_" /\f.offset=i then some (k::ks)else none
   |_,_=>none
  |none=>none
def sq (P:Program) (t:TypeId):Option (List Nat):=
 match P.underlying t with
 |some (.struct fs)=>if P.stoodInHeld t=false/\P.eqGuardType P.depth t=false then Np P 0 fs.toList else none
 |_=>none
def D1:List Nat->List CV->List CV->Option Bool
 |[],[],[]=>some true
 |0::ks,.d (.int k a)::xs,.d (.int k' b)::ys=>if k=k' then(D1 ks xs ys).map fun r=>(a==b)&& r else none
 |1::ks,.d (.bool a)::xs,.d (.bool b)::ys=>(D1 ks xs ys).map fun r=>(a==b)&& r
 |2::ks,.d (.str a)::xs,.d (.str b)::ys=>(D1 ks xs ys).map fun r=>(a==b)&& r
 |_,_,_=>none
def rO (P:Program) (op:BinOp) (t:TypeId) (x y:AV):Option AV:=
 match x,y with
 |.agg xs,.agg ys=>match sq P t with
  |some ks=>match D1 ks xs ys with
   |some r=>match op with
    |.eql=>some (.c (.d (.bool r)))
    |.neq=>some (.c (.d (.bool (!r))))
    |_=>none
   |none=>none
  |none=>none
 |_,_=>none
def Je (op:UnOp) (x:AV):Option AV:=
 match op,x with
 |.not,.c (.d (.bool b))=>some (.c (.d (.bool (!b))))
 |.neg,.c (.d (.int k n))=>some (.c (.d (.int k (k.wrap (0-n)))))
 |_,_=>none
def oE (fl:List (Nat×Nat)):List CV->List (Nat×List CV)->Option (List CV)
 |cells,[]=>some cells
 |cells,(i,x)::r=>
  match fl[i]? with
  |none=>none
  |some (off,size)=>if x.length=size/\off+size<=cells.length then oE fl (ca cells off x) r else none
def iO (s:St):List (Nat×Operand)->Option (List (Nat×List CV))
 |[]=>some []
 |(i,x)::r=>match bH s x,iO s r with
  |some v,some l=>if v.plain then some ((i,v.cells)::l)else none
  |_,_=>none
def j9 (s:St) (sz:Nat):Nat->List (Nat×Operand)->Option (List (List CV))
 |_,[]=>some []
 |k,(i,x)::r=>match bH s x,j9 s sz (k+1) r with
  |some v,some l=>if i=k/\v.plain/\v.cells.length=sz then some (v.cells::l)else none
  |_,_=>none
def GM:List AV->Option (List Nat)
 |[]=>some []
 |.c (.ptr l 0)::r=>(GM r).map (l::·)
 |_=>none
def iB (s:St):List Operand->Option (List AV)
 |[]=>some []
 |x::r=>match bH s x,iB s r with
  |some v,some l=>some (v::l)
  |_,_=>none
def zB:AV->Option Nat
 |.c (.d (.str b))=>some b.length
 |.c (.d (.sl rows))=>some rows.length
 |.c .nil=>some 0
 |.c (.own _ n)=>some n
 |_=>none
def rowsOf (A:List bz):AV->Option (List (List DV))
 |.c (.d (.sl rows))=>some rows
 |.c .nil=>some []
 |.c (.own k n)=>match A[k]? with
  |some r=>if n=r.rows.length then some r.rows else none
  |none=>none
 |_=>none
def tf:List DV->Option UInt8
 |[.int .u8 n]=>if 0<=n/\n<256 then some (UInt8.ofNat n.toNat)else none
 |_=>none
def bytesOf:List (List DV)->Option (List UInt8)
 |[]=>some []
 |r::rs=>match tf r,bytesOf rs with
  |some b,some l=>some (b::l)
  |_,_=>none
def rP (lo:Option AV):Option Int:=
 match lo with
 |none=>some 0
 |some (.c (.d (.int _ n)))=>some n
 |_=>none
def mP (hi:Option AV) (n:Nat):Option Int:=
 match hi with
 |none=>some n
 |some (.c (.d (.int _ n)))=>some n
 |_=>none
def mq (s:St):Option Operand->Option (Option AV)
 |none=>some none
 |some x=>(bH s x).map some
@[simp] def Sz (dd:TD) (n:Int):Option DV:=match dd.ik with
 |some k=>some (.int k (k.wrap n))
 |none=>if dd.cS=true/\0<=n/\n<128 then some (.str [UInt8.ofNat n.toNat])else none
def eO (P:Program) (s:St) (ow:Bool) (op:Op) (K:AV->List (List CV)->List bz->Prop):Prop:=
 match op with
 |.move x|.assign x=>bU (bH s x) fun v=>K v s.V s.A
 |.pick c a b=>bU (bH s c) fun v=>match v with
  |.c (.d (.bool t))=>if t=true then bU (bH s a) fun v=>K v s.V s.A else bU (bH s b) fun v=>K v s.V s.A
  |_=>False
 |.alloc e=>bU (td P e) fun d=>bU d.zero fun z=>K (.c (.ptr s.V.length 0)) (s.V++[z]) s.A
 |.box _ x=>bU (bH s x) fun v=>v.plain=true/\K (.c (.ptr s.V.length 0)) (s.V++[v.cells]) s.A
 |.build t parts=>bU (td P t) fun d=>bU d.zero fun z=>bU (iO s parts.toList) fun ps=>bU (oE d.fl z ps) fun cs=>d.ar=none/\d.fl≠[]/\K (.agg cs) s.V s.A
 |.buildSlice t len parts=>bU (td P t) fun d=>bU d.el fun e=>bU (td P e) fun de=>bU (j9 s de.sz 0 parts.toList) fun rows=>
   bU (kI s.A rows) fun ds=>rows.length=len/\len*de.sz<=16777216/\0<de.sz/\de.zero.isSome=true/\
    if ow then K (.c (.own s.A.length len)) s.V (bT s.A rows.flatten++[{sz:=de.sz,ev:=e,rows:=ds,wr:=true}])else K (.c (.d (.sl ds))) s.V (bT s.A rows.flatten)
 |.load t a=>bU (td P t) fun d=>bU (bH s a) fun p=>match p with
  |.c p=>bU (gV s p d.sz) fun cs=>bU (E3 d.ag cs) fun v=>K v s.V s.A
  |_=>False
 |.store t a x=>bU (td P t) fun d=>bU (bH s a) fun p=>bU (bH s x) fun v=>v.plain=true/\v.cells.length=d.sz/\match p with
  |.c (.ptr l off)=>bU s.V[l]? fun row=>off+d.sz<=row.length/\K (.c .undef) (s.V.set l (ca row off v.cells)) s.A
  |.c (.op k n i off)=>bU s.A[k]? fun r=>n=r.rows.length/\r.wr=true/\bU r.rows[i]? fun row=>bU (iN s.A v.cells) fun ds=>off+d.sz<=r.sz/\(v.cells.all fun c=>match c with|.own k' _=>k'≠k|_=>true)=true/\
    K (.c .undef) s.V ((bT s.A v.cells).set k {r with rows:=r.rows.set i (ca row off ds)})
  |_=>False
 |.nilCheck x=>bU (bH s x) fun v=>match v with
  |.c (.ptr l off)=>K (.c (.ptr l off)) s.V s.A
  |.c (.ip r off)=>K (.c (.ip r off)) s.V s.A
  |.c (.op k n i off)=>K (.c (.op k n i off)) s.V s.A
  |.c (.fn f cap)=>K (.c (.fn f cap)) s.V s.A
  |_=>False
 |.binOp op t x y _=>bU (bH s x) fun a=>bU (bH s y) fun b=>match zy op a b with
  |some v=>K v s.V s.A
  |none=>match rO P op t a b with
   |some v=>K v s.V s.A
   |none=>bU (rN op a b) fun v=>bU (td P t) fun d=>d.nC=true/\K v s.V s.A
 |.unOp op _ x=>bU (bH s x) fun a=>bU (Je op a) fun v=>K v s.V s.A
 |.convert src dst x=>bU (bH s x) fun a=>bU (td P src) fun ds=>bU (td P dst) fun dd=>match a with
  |.c (.d (.int _ n))=>bU (Sz dd n) fun d=>K (.c (.d d)) s.V s.A
  |.c (.d (.str b))=>dd.cS=true/\ds.cS=true/\K (.c (.d (.str b))) s.V s.A
  |.c (.d (.sl rows))=>dd.cS=true/\bU ds.el fun e=>bU (td P e) fun de=>de.ik=some .u8/\bU (bytesOf rows) fun b=>K (.c (.d (.str b))) s.V s.A
  |_=>False
 |.makeFunc (.func f) first captured=>first.size=0/\bU (iB s captured.toList) fun cs=>bU (GM cs) fun ls=>K (.c (.fn f ls)) s.V s.A
 |.makeSlice t l c=>bU (td P t) fun d=>bU d.el fun e=>bU (td P e) fun de=>bU de.zero fun z=>bU (iN s.A z) fun dz=>bU (bH s l) fun vl=>bU (bH s c) fun vc=>match vl,vc with
  |.c (.d (.int _ n)),.c (.d (.int _ m))=>n=m/\0<=n/\n.toNat*de.lR<=140737488355328/\n.toNat<=9223372036854775807/\0<de.sz/\z.length=de.sz/\
    K (.c (.own s.A.length n.toNat)) s.V (s.A++[{sz:=de.sz,ev:=e,rows:=Wv n.toNat dz,wr:=true}])
  |_,_=>False
 |.slice t x lo hi mx=>mx=none/\bU (td P t) fun d=>bU (bH s x) fun v=>bU (mq s lo) fun l=>bU (mq s hi) fun h=>match v with
  |.c (.d (.str b))=>d.cS=true/\bU (rP l) fun i=>bU (mP h b.length) fun j=>0<=i/\i<=j/\j<=b.length/\K (.c (.d (.str ((b.take j.toNat).drop i.toNat)))) s.V s.A
  |v=>bU (rowsOf s.A v) fun rows=>bU d.el fun e=>bU (td P e) fun de=>bU (rP l) fun i=>bU (mP h rows.length) fun j=>0<=i/\i<=j/\j<=rows.length/\(∀r∈rows,r.length=de.sz)/\
    K (.c (.d (.sl ((rows.take j.toNat).drop i.toNat)))) s.V (bT s.A v.cells)
 |.fieldAddr t x f=>bU (td P t) fun d=>bU d.fl[f]? fun(off,sz)=>sz≠0/\bU (bH s x) fun v=>match v with
  |.c (.ptr l o)=>K (.c (.ptr l (o+off))) s.V s.A
  |.c (.ip r o)=>K (.c (.ip r (o+off))) s.V s.A
  |.c (.op k n i o)=>K (.c (.op k n i (o+off))) s.V s.A
  |_=>False
 |.indexAddr t x ix=>bU (td P t) fun d=>bU (bH s x) fun v=>bU (bH s ix) fun i=>match i with
  |.c (.d (.int _ n))=>0<=n/\(match v with
   |.c (.d (.sl rows))=>bU d.el fun e=>bU (td P e) fun de=>bU rows[n.toNat]? fun row=>row.length=de.sz/\K (.c (.ip row 0)) s.V s.A
   |.c (.own k m)=>bU d.el fun e=>bU (td P e) fun de=>bU s.A[k]? fun r=>m=r.rows.length/\n.toNat<m/\r.sz=de.sz/\K (.c (.op k m n.toNat 0)) s.V s.A
   |.c (.ptr l off)=>bU d.ar fun(len,e)=>bU (td P e) fun de=>n<len/\K (.c (.ptr l (off+n.toNat*de.sz))) s.V s.A
   |_=>False)
  |_=>False
 |.index t x ix=>bU (td P t) fun d=>bU (bH s x) fun v=>bU (bH s ix) fun i=>match v,i with
  |.c (.d (.str b)),.c (.d (.int _ n))=>d.cS=true/\0<=n/\bU b[n.toNat]? fun c=>K (.c (.d (.int .u8 c.toNat))) s.V s.A
  |.agg xs,.c (.d (.int _ n))=>bU d.ar fun(len,e)=>bU (td P e) fun de=>de.ag=false/\de.sz=1/\0<=n/\n<len/\bU xs[n.toNat]? fun c=>K (.c c) s.V s.A
  |_,_=>False
 |.extract x i=>bU (bH s x) fun v=>match v with
  |.a8 xs=>bU xs[i]? fun u=>match u with
   |.a8 _=>False
   |u=>K u s.V s.A
  |_=>False
 |.call {callee:=.builtin .len,args,argTypes}=>bU args[0]? fun x=>bU (bH s x) fun v=>bU argTypes[0]? fun t=>bU (td P t) fun d=>bU (zB v) fun n=>(d.cS=true\/d.el.isSome=true)/\
   (match v with|.c (.d (.str _))=>d.cS=true|_=>d.el.isSome=true)/\K (.c (.d (.int .i64 n))) s.V s.A
 |.call {callee:=.builtin .append,args,argTypes}=>bU args[0]? fun x=>bU args[1]? fun y=>bU argTypes[0]? fun t=>argTypes[1]? =some t/\bU (td P t) fun d=>bU d.el fun e=>bU (td P e) fun de=>
   de.zero.isSome=true/\(bU de.zero fun z=>z.length=de.sz)/\bU (bH s x) fun v=>bU (bH s y) fun u=>bU (rowsOf s.A u) fun nr=>(∀r∈nr,r.length=de.sz)/\match v with
  |.c (.own k n)=>bU s.A[k]? fun r=>n=r.rows.length/\r.ev=e/\r.sz=de.sz/\(n+nr.length)*de.lR<=140737488355328/\n+nr.length<=9223372036854775807/\
    if ow then K (.c (.d (.sl (r.rows++nr)))) s.V (s.A.set k {r with rows:=r.rows++nr,wr:=false})else K (.c (.own k (n+nr.length))) s.V (s.A.set k {r with rows:=r.rows++nr})
  |.c .nil=>nr.length*de.lR<=140737488355328/\nr.length<=9223372036854775807/\
    if ow then K (.c (.d (.sl nr))) s.V (s.A++[{sz:=de.sz,ev:=e,rows:=nr,wr:=false}])else K (.c (.own s.A.length nr.length)) s.V (s.A++[{sz:=de.sz,ev:=e,rows:=nr,wr:=true}])
  |_=>False
 |.call {callee:=.builtin .max,args,.. }=>bU args[0]? fun x=>bU args[1]? fun y=>args.size=2/\bU (bH s x) fun v=>bU (bH s y) fun u=>match v,u with
  |.c (.d (.int k a)),.c (.d (.int _ b))=>K (.c (.d (.int k (if b>a then b else a)))) s.V s.A
  |_,_=>False
 |.call {callee:=.builtin .min,args,.. }=>bU args[0]? fun x=>bU args[1]? fun y=>args.size=2/\bU (bH s x) fun v=>bU (bH s y) fun u=>match v,u with
  |.c (.d (.int k a)),.c (.d (.int _ b))=>K (.c (.d (.int k (if b<a then b else a)))) s.V s.A
  |_,_=>False
 |_=>False
theorem cI {α:Type} {o:Option α} {k:α->Prop} (h:bU o k):∃v,o=some v/\k v:=by
 cases o with
 |none=>exact h.elim
 |some v=>exact⟨v,rfl,h⟩
theorem lB {P:Program} {t:TypeId} {d:TD} (h:td P t=some d):∃de i,P.underlying t=some de/\P.info? t=some i/\d={ag:=D0 de,sz:=i.size,lR:=i.bytes,zero:=PD i.zero,el:=Ql de,ar:=Qm de,fl:=MK P de,ik:=Qn de,cS:=Ll de,nC:=Lm de}:=by
 unfold td at h;cases hu:P.underlying t with
 |none=>simp[hu]at h
 |some de=>
  cases hi:P.info? t with
  |none=>simp[hu,hi]at h
  |some i=>simp only[hu,hi]at h;exact⟨de,i,rfl,rfl,(Option.some.inj h).symm⟩
theorem mQ {P:Program} {t e:TypeId} {d:TD} (h:td P t=some d) (he:d.el=some e):P.underlying t=some (.slice e):=by
 obtain⟨de,i,hu,_,rfl⟩:=lB h;cases de<;>simp[Ql]at he
 subst he;exact hu
theorem KC {P:Program} {t e:TypeId} {n:Nat} {d:TD} (h:td P t=some d) (he:d.ar=some (n,e)):P.underlying t=some (.array n e):=by
 obtain⟨de,i,hu,_,rfl⟩:=lB h;cases de<;>simp[Qm]at he
 obtain⟨rfl,rfl⟩:=he;exact hu
theorem gm {P:Program} {t:TypeId} {d:TD} (h:td P t=some d):∃i,P.info? t=some i/\i.size=d.sz/\i.bytes=d.lR/\∀z,d.zero=some z->∃v,i.zero=some v/\ur v.cells.toList=some z:=by
 obtain⟨de,i,_,hi,rfl⟩:=lB h;refine⟨i,hi,rfl,rfl,fun z hz=>?_⟩;cases ML:i.zero with
 |none=>simp[PD,ML]at hz
 |some v=>exact⟨v,rfl,by simpa[PD,ML]using hz⟩
theorem qY {P:Program} {t:TypeId} {d:TD} (h:td P t=some d) (he:d.cS=true):P.underlying t=some .string:=by
 obtain⟨de,i,hu,_,rfl⟩:=lB h;cases de<;>simp[Ll]at he
 exact hu
theorem Lo {P:Program} {t:TypeId} {d:TD} (h:td P t=some d) (he:d.nC=true):P.underlying t=some .bool:=by
 obtain⟨de,i,hu,_,rfl⟩:=lB h;cases de<;>simp[Lm]at he
 exact hu
theorem KD {P:Program} {t:TypeId} {d:TD} {k:IntKind} (h:td P t=some d) (he:d.ik=some k):P.underlying t=some (.int k):=by
 obtain⟨de,i,hu,_,rfl⟩:=lB h;cases de<;>simp[Qn]at he
 subst he;exact hu
theorem D2 (s:ByteArray):bs s.data.toList=s:=by simp[bs]
theorem tg (l:List UInt8):(bs l).toList=l:=by rw[ByteArray.toList_eq];simp[bs]
theorem qb (l:List UInt8):(bs l).size=l.length:=by simp[bs,ByteArray.size]
section
variable {P:Program} {g g' g0:Gh} {w w' w0:World} {V V':List (List CV)} {A A':List bz} {s:St} {a:Act}
theorem nJ {v:Value} {c:CV} (h:tc v=some c):br g w A c v:=by
 unfold tc at h;split at h<;>first|(simp at h;done)|(simp at h;subst h;simp only[br,bn])|skip
 rw[D2]
theorem iV:∀{vs:List Value} {cs:List CV},ur vs=some cs->vs.length=cs.length
 |[],cs,h=>by simp[ur]at h;subst h;rfl
 |v::r,cs,h=>by
  simp only[ur]at h;split at h
  ·rename_i c cs' h1 h2;simp at h;subst h;simp[iV h2]
  ·simp at h
theorem pd:∀{vs:List Value} {cs:List CV},ur vs=some cs->∀(j:Nat) c u,cs[j]? =some c->vs[j]? =some u->tc u=some c
 |[],cs,h,j,c,u,hc,hu=>by simp at hu
 |v::r,cs,h,j,c,u,hc,hu=>by
  simp only[ur]at h;split at h
  ·rename_i c' cs' h1 h2;simp at h;subst h;cases j with
   |zero=>simp at hc hu;subst hc;subst hu;exact h1
   |succ j=>simp at hc hu;exact pd h2 j c u hc hu
  ·simp at h
theorem aL (hS:∀t x,look s.fr t=some x->∃u,a.tmps[t]? =some u/\aW g w s.A x u) {o:Operand} {x:AV} (h:bH s o=some x):aW g w s.A x (a.eval o):=by
 cases o with
 |tmp t=>
  obtain⟨u,hu,hr⟩:=hS t x h;simpa[Act.eval,hu]using hr
 |const v=>
  simp only[bH,WV]at h;obtain⟨c,hc,rfl⟩:=h;exact nJ (g:=g) (w:=w) (A:=s.A) hc
 |func f=>
  simp only[bH,Option.some.injEq]at h;subst h;exact⟨[],rfl,rfl,fun i l b h=>by simp at h⟩
 |«global»g=>simp[bH]at h
def dM (P:Program) (w0:World) (g0 g:Gh) (w:World) (A:List bz) (m:Sem Next) (K:AV->List (List CV)->List bz->Prop):Prop:=
 ∃x V' A' nx v w' g',K x V' A'/\m.run P w=.ok nx w'/\(nx=.value v\/(nx=.skip/\v=undef))/\aW g' w' A' x v/\Inv g' w' V' A'/\Ext g w A g' w' A'/\Fr w0 g0 w' g'
theorem dM.value (hI:Inv g w V A) (hF:Fr w0 g0 w g) {m:Sem Next} {K:AV->List (List CV)->List bz->Prop} {x:AV} {v:Value} (hm:m.run P w=.ok (.value v) w) (hr:aW g w A x v) (hK:K x V A):dM P w0 g0 g w A m K:=
 ⟨x,V,A,_,v,w,g,hK,hm,.inl rfl,hr,hI,.refl _ _ _,hF⟩
theorem nK (w:World) (b off n:Nat) (Q:Nat->Value->Prop) (h:∀j,j<n->∃u,w.cell? ⟨b,off+j,none⟩=some u/\Q j u):
  ∃vs:List Value,vs.length=n/\∀(j:Nat) u,vs[j]? =some u->w.cell? ⟨b,off+j,none⟩=some u/\Q j u:=by
 refine⟨(List.range n).map fun j=>(w.cell? ⟨b,off+j,none⟩).getD undef,by simp,fun j u hu=>?_⟩;have hj:j<n:=by
  have:=(Wk.1 hu).1;simpa using this
 simp[hj]at hu;obtain⟨u',h1,h2⟩:=h j hj;rw[h1]at hu;simp at hu;subst hu;exact⟨h1,h2⟩
def kf (g:Gh) (w:World) (A:List bz) (cs:List CV) (vs:List Value):Prop:=vs.length=cs.length/\∀(j:Nat) c u,cs[j]? =some c->vs[j]? =some u->br g w A c u
theorem qF (hI:Inv g w s.V s.A) {p:CV} {v:Value} {n:Nat} {cs:List CV} (hp:br g w s.A p v) (h:gV s p n=some cs):
  ∃b off vs,v=.pointer (some ⟨b,off,none⟩)/\cs.length=n/\kf g w s.A cs vs/\∀(j:Nat) u,vs[j]? =some u->w.cell? ⟨b,off+j,none⟩=some u:=by
 unfold gV at h;split at h
 ·-- an object
  rename_i l off;split at h
  ·rename_i row ef;split at h
   ·rename_i hle;simp at h;subst h;obtain⟨b,hb,rfl⟩:=hp;obtain⟨_,cells,ty,hh,hs,hr⟩:=hI.obj l row b ef hb;obtain⟨vs,hl,hv⟩:=nK w b off n (fun j u=>∀c,row[off+j]? =some c->br g w s.A c u) (fun j hj=>by
     have GO:off+j<cells.size:=by omega
     refine⟨cells[off+j],by simp[World.cell?,hh,GO],fun c hc=>hr (off+j) c _ hc (by simp[GO])⟩)
    refine⟨b,off,vs,rfl,by simp;omega,⟨by simp;omega,fun j c u h1 h2=>(hv j u h2).2 c ?_⟩,fun j u hu=>(hv j u hu).1⟩;rw[Wq]at h1;split at h1
    ·rwa[Wx]at h1
    ·cases h1
   ·simp at h
  ·simp at h
 ·rename_i row off;split at h
  ·rename_i hle;simp at h;subst h;obtain⟨b,o,rfl,hi,hr⟩:=hp;obtain⟨vs,hl,hv⟩:=nK w b (o+off) n (fun j u=>∀x,row[off+j]? =some x->bn g.im w x u) (fun j hj=>by
    have hx:row[off+j]? =some row[off+j]:=Wl (by omega);obtain⟨u,h1,h2⟩:=dA.at_ hr hx;refine⟨u,by rw[V9];exact h1,fun x h3=>?_⟩;rw[hx]at h3;cases h3;exact h2)
   refine⟨b,o+off,vs,rfl,by simp;omega,⟨by simp;omega,fun j c u h1 h2=>?_⟩,fun j u hu=>(hv j u hu).1⟩;simp only[Wq]at h1;split at h1
   ·rw[Wx,WL,WV]at h1;obtain⟨x,h3,rfl⟩:=h1;exact(hv j u h2).2 x h3
   ·cases h1
  ·simp at h
 ·rename_i k m i off;split at h
  ·rename_i r hk;split at h
   ·rename_i hm;split at h
    ·rename_i row ef;split at h
     ·rename_i hle;simp at h;subst h;obtain⟨b,e,rfl,r',o9,hn,hq⟩:=hp;obtain rfl:r=r':=by rw[hk]at o9;exact Option.some.inj o9
      obtain⟨cap,CD,rfl⟩:=hq hm;obtain⟨h1,_,xs,dQ,hr⟩:=hI.arr k r _ hk CD;have nB:row.length=r.sz:=h1 row (Wp ef);obtain⟨vs,hl,hv⟩:=nK w b (i*r.sz+off) n (fun j u=>∀x,row[off+j]? =some x->bn g.im w x u) (fun j hj=>by
       have hx:row[off+j]? =some row[off+j]:=Wl (by omega);have hf:=lA h1 ef hx;have ay:i*r.sz+(off+j)<xs.length:=by
        have:=(Wk.1 hf).1;rw[eL h1]at this;rw[dQ.1];exact this
       have hu:xs[i*r.sz+(off+j)]? =some xs[i*r.sz+(off+j)]:=Wl ay;have hc:=dQ.cells (g:=b) rfl _ _ hu;have qX:(⟨b,0,none⟩:Addr).add (i*r.sz+(off+j))=⟨b,i*r.sz+off+j,none⟩:=by unfold Addr.add;split<;>simp_all[V9]
       rw[qX]at hc;refine⟨_,hc,fun x h3=>?_⟩;rw[hx]at h3;cases h3;exact hr _ _ _ hf hu)
      refine⟨b,i*r.sz+off,vs,rfl,by simp;omega,⟨by simp;omega,fun j c u h1 h2=>?_⟩,fun j u hu=>(hv j u hu).1⟩;simp only[Wq]at h1;split at h1
      ·rw[Wx,WL,WV]at h1;obtain⟨x,h3,rfl⟩:=h1;exact(hv j u h2).2 x h3
      ·cases h1
     ·simp at h
    ·simp at h
   ·simp at h
  ·simp at h
 ·simp at h
theorem mR (b off j:Nat):(⟨b,off,none⟩:Addr).add j=⟨b,off+j,none⟩:=by unfold Addr.add;split<;>simp_all
theorem mr {t:TypeId} {d:TD} (ht:td P t=some d) {b off:Nat} {vs:List Value} (hv:∀(j:Nat) u,vs[j]? =some u->w.cell? ⟨b,off+j,none⟩=some u) (hl:vs.length=d.sz):
  (d.ag=true->(Instr.loadAt t (.pointer (some ⟨b,off,none⟩))).run P w=.ok (.agg vs.toArray) w)/\
  (d.ag=false->∀u,vs=[u]->(Instr.loadAt t (.pointer (some ⟨b,off,none⟩))).run P w=.ok u w):=by
 obtain⟨de,i,hu,hi,rfl⟩:=lB ht;have SA:=run_loadCells_list (P:=P) w ⟨b,off,none⟩ vs (fun j u h=>by rw[mR];exact hv j u h);simp only at hl⊢;rw[hl]at SA;have Jf:(isAgg t).run P w=.ok (D0 de) w:=by
  simp only[isAgg,Sem.run_bind,run_underlying hu,Result.andThen_ok];cases de<;>rfl
 have fB:(sizeOf t).run P w=.ok i.size w:=by simp[sizeOf,typeInfo,hi]
 constructor
 ·intro ha;show(loadVar t ⟨b,off,none⟩).run P w=_;unfold loadVar;rw[Sem.run_bind,Jf,ha];simp only[Result.andThen_ok,if_true,Sem.run_bind,fB,SA,Sem.run_pure]
 ·intro ha u T3;have hc:=hv 0 u (by rw[T3];rfl);simp only[Wi]at hc;show(loadVar t ⟨b,off,none⟩).run P w=_;unfold loadVar;rw[Sem.run_bind,Jf,ha];simp only[Result.andThen_ok,WU,if_false,run_load,hc]
theorem AV.gC {x:AV} {v:Value} (h:aW g w A x v) (hp:x.plain=true):kf g w A x.cells v.cells.toList/\∀u∈v.cells.toList,u.oneCell'=true:=by
 cases x with
 |a8 xs=>simp[AV.plain]at hp
 |c x=>
  simp[AV.plain]at hp;have hc:br g w A x v:=h;have h1:=br.lY hp hc;have xJ:v.cells= #[v]:=by cases v<;>first|rfl|simp[Value.oneCell']at h1
  rw[xJ];refine⟨⟨rfl,fun j c u h2 h3=>?_⟩,fun u hu=>?_⟩
  ·cases j with
   |zero=>simp[AV.cells]at h2 h3;subst h2;subst h3;exact hc
   |succ j=>simp at h3
  ·simp at hu;subst hu;exact h1
 |agg xs=>
  simp only[AV.plain,WN,Bool.not_eq_true']at hp;obtain⟨vs,rfl,hl,hc⟩:=h;refine⟨⟨by simpa[Value.cells,AV.cells]using hl,fun j c u h2 h3=>hc j c u h2 (by simpa[Value.cells]using h3)⟩,fun u hu=>?_⟩;simp[Value.cells]at hu;obtain⟨j,hj⟩:=Ww hu;have jk:=(Wk.1 hj).1;have hx:xs[j]? =some (xs[j]'(by omega)):=Wl (by omega);exact br.lY (hp _ (Wp hx)) (hc j _ u hx hj)
theorem th (A:List bz) (c' c:CV):nI (fK A c') c=nI A c:=by
 cases c'<;>try rfl
 rename_i k' n';simp only[fK];cases hk:A[k']? with
 |none=>rfl
 |some r=>
  cases c<;>try rfl
  rename_i k n;simp only[nI,dw hk];by_cases e:k=k'
  ·subst e;simp[hk]
  ·simp[e]
theorem vP (A:List bz) (c':CV):∀cs,iN (fK A c') cs=iN A cs
 |[]=>rfl
 |c::r=>by simp only[iN,th,vP A c' r]
theorem rQ:∀{cs:List CV} {ds:List DV},iN A cs=some ds->ds.length=cs.length
 |[],ds,h=>by simp[iN]at h;subst h;rfl
 |c::r,ds,h=>by
  simp only[iN]at h;split at h
  ·rename_i d ds' h1 h2;simp at h;subst h;simp[rQ h2]
  ·simp at h
theorem rR (hI:Inv g w V A) (hF:Fr w0 g0 w g) {c:CV} {u:Value} {d:DV} (hc:br g w A c u) (hd:nI A c=some d):
  ∃g',Inv g' w V (fK A c)/\Ext g w A g' w (fK A c)/\Fr w0 g0 w g'/\g'.ar=g.ar/\g'.ob=g.ob/\bn g'.im w d u:=by
 cases c with
 |d x=>simp[nI]at hd;subst hd;exact⟨g,hI,.refl _ _ _,hF,rfl,rfl,hc⟩
 |nil=>
  simp[nI]at hd;subst hd;simp only[br]at hc;subst hc;exact⟨g,hI,.refl _ _ _,hF,rfl,rfl,by simp only[bn];exact⟨none,0,rfl,V6 _,.inl trivial⟩⟩
 |own k n=>
  obtain⟨ad,cap,e,r,hk,hn,hv⟩:=hc;simp only[nI,hk]at hd;split at hd
  ·rename_i di;simp at hd;subst hd;obtain⟨g',h1,h2,h3,h4,h5,h6⟩:=hI.seal hF hk (hv di);refine⟨g',?_,?_,h3,h4,h5,h6⟩
   ·simpa only[fK,hk]using h1
   ·simpa only[fK,hk]using h2
  ·simp at hd
 |_=>simp[nI]at hd
theorem ti:∀{cs:List CV} {vs:List Value} {ds:List DV} {g:Gh} {A:List bz},Inv g w V A->Fr w0 g0 w g->kf g w A cs vs->iN A cs=some ds->
  ∃g',Inv g' w V (bT A cs)/\Ext g w A g' w (bT A cs)/\Fr w0 g0 w g'/\g'.ar=g.ar/\g'.ob=g.ob/\∀(j:Nat) x u,ds[j]? =some x->vs[j]? =some u->bn g'.im w x u
 |[],vs,ds,g,A,hI,hF,hr,hd=>by
  simp[iN]at hd;subst hd;exact⟨g,hI,.refl _ _ _,hF,rfl,rfl,fun j x u h=>by simp at h⟩
 |c::r,vs,ds,g,A,hI,hF,hr,hd=>by
  cases vs with
  |nil=>exact absurd hr.1 (by simp)
  |cons v vs=>
   simp only[iN]at hd;split at hd
   ·rename_i d ds' h1 h2;simp at hd;subst hd;obtain⟨g1,fj,dB,kF,tj,qa,gR⟩:=rR hI hF (hr.2 0 c v rfl rfl) h1;have AE:kf g1 w (fK A c) r vs:=⟨by simpa using hr.1,fun j c' u h3 h4=>br.ext dB (hr.2 (j+1) c' u (by simpa using h3) (by simpa using h4))⟩;obtain⟨g2,AM,j8,Cq,MM,mJ,jE⟩:=ti fj kF AE (by rw[vP];exact h2);refine⟨g2,AM,dB.trans j8,Cq,MM.trans tj,mJ.trans qa,fun j x u h3 h4=>?_⟩;cases j with
    |zero=>simp at h3 h4;subst h3;subst h4;exact bn.fJ j8.gr _ _ gR
    |succ j=>simp at h3 h4;exact jE j x u h3 h4
   ·simp at hd
theorem uu:∀{rows:List (List CV)} {ds:List (List DV)},kI A rows=some ds->iN A rows.flatten=some ds.flatten/\ds.length=rows.length/\∀(i:Nat) r d,rows[i]? =some r->ds[i]? =some d->d.length=r.length
 |[],ds,h=>by simp[kI]at h;subst h;exact⟨rfl,rfl,fun i r d h=>by simp at h⟩
 |c::r,ds,h=>by
  simp only[kI]at h;split at h
  ·rename_i d ds' h1 h2;simp at h;subst h;obtain⟨h3,h4,h5⟩:=uu h2;refine⟨?_,by simp[h4],fun i r' d' h6 h7=>?_⟩
   ·simp only[Wo];have:∀(xs ys:List CV) (dx dy:List DV),iN A xs=some dx->iN A ys=some dy->iN A (xs++ys)=some (dx++dy):=by
     intro xs;induction xs with
     |nil=>intro ys dx dy hx hy;simp[iN]at hx;subst hx;simpa using hy
     |cons x xs ih=>
      intro ys dx dy hx hy;simp only[iN]at hx;split at hx
      ·rename_i d1 d2 h8 h9;simp at hx;subst hx;simp only[List.cons_append,iN,h8,ih ys d2 dy h9 hy]
      ·simp at hx
    exact this _ _ _ _ h1 h3
   ·cases i with
    |zero=>simp at h6 h7;subst h6;subst h7;exact rQ h1
    |succ i=>simp at h6 h7;exact h5 i r' d' h6 h7
  ·simp at h
end
section
variable {P:Program} {g g' g0:Gh} {w w' w0:World} {V V':List (List CV)} {A A':List bz} {s:St} {a:Act} {K:AV->List (List CV)->List bz->Prop}
abbrev iC (g:Gh) (w:World) (s:St) (a:Act):Prop:=∀t x,look s.fr t=some x->∃u,a.tmps[t]? =some u/\aW g w s.A x u
theorem bt {m:Sem Value} {w w':World} {v:Value} (h:m.run P w=.ok v w'):(do pure (Next.value (<-m)):Sem Next).run P w=.ok (.value v) w':=by
 rw[Sem.run_bind,h];rfl
theorem vQ {m:Sem Unit} {w w':World} (h:m.run P w=.ok () w'):(do m;pure Next.skip:Sem Next).run P w=.ok .skip w':=by
 rw[Sem.run_bind,h];rfl
theorem jF (w:World) (e:TypeId) (cs:Array Value):(newRow e cs).run P w=.ok ⟨w.heap.size,0,none⟩ (w.alloc (.cells cs e)):=by
 simp[newRow]
theorem AN (hI:Inv g w s.V s.A) (hF:Fr w0 g0 w g) {m:Sem Next} {cs:Array Value} {e:TypeId} {row:List CV} (hr:kf g w s.A row cs.toList)
  (hm:m.run P w=.ok (.value (.pointer (some ⟨w.heap.size,0,none⟩))) (w.alloc (.cells cs e))) (hK:K (.c (.ptr s.V.length 0)) (s.V++[row]) s.A):dM P w0 g0 g w s.A m K:=by
 obtain⟨g',h1,h2,h3,h4⟩:=hI.newObj hF cs e row (by simpa using hr.1) (fun j c u hc hu=>hr.2 j c u hc (by simpa using hu));exact⟨_,_,_,_,_,_,g',hK,hm,.inl rfl,⟨w.heap.size,h4,rfl⟩,h1,h2,h3⟩
theorem AO (hI:Inv g w s.V s.A) (hF:Fr w0 g0 w g) {e:TypeId} {d:TD} {z:List CV} (ht:td P e=some d) (hz:d.zero=some z) (hK:K (.c (.ptr s.V.length 0)) (s.V++[z]) s.A):
  dM P w0 g0 g w s.A (do pure (.value (<-Instr.alloc e true (.tuple #[])))) K:=by
 obtain⟨i,hi,_,_,h0⟩:=gm ht;obtain⟨v,hv,hc⟩:=h0 z hz;refine AN hI hF (cs:=v.cells) (e:=e) ⟨iV hc,fun j c u h1 h2=>nJ (pd hc j c u h1 h2)⟩ (bt ?_) hK;simp[Instr.alloc,zeroValue,typeInfo,hi,hv,newVar,jF]
theorem E4 (hI:Inv g w s.V s.A) (hF:Fr w0 g0 w g) {e:TypeId} {x:AV} {u:Value} (hx:aW g w s.A x u) (hp:x.plain=true) (hK:K (.c (.ptr s.V.length 0)) (s.V++[x.cells]) s.A):
  dM P w0 g0 g w s.A (do pure (.value (<-Instr.box e u))) K:=by
 refine AN hI hF (cs:=u.cells) (e:=e) (AV.gC hx hp).1 (bt ?_) hK;simp[Instr.box,newVar,jF]
theorem CE (hI:Inv g w s.V s.A) (hF:Fr w0 g0 w g) {t:TypeId} {d:TD} (ht:td P t=some d) {p:CV} {v:Value} (hp:br g w s.A p v) {cs:List CV} (xJ:gV s p d.sz=some cs) {x:AV} (hx:E3 d.ag cs=some x) (hK:K x s.V s.A):
  dM P w0 g0 g w s.A (do pure (.value (<-Instr.loadAt t v))) K:=by
 obtain⟨b,off,vs,rfl,hl,hr,hc⟩:=qF hI hp xJ;obtain⟨h1,h2⟩:=mr (P:=P) ht hc (hr.1.trans hl);cases GP:d.ag with
 |true=>
  simp[E3,GP]at hx;subst hx;exact dM.value hI hF (bt (h1 GP)) (x:=.agg cs) ⟨vs,rfl,hr.1,fun i c u h3 h4=>hr.2 i c u h3 h4⟩ hK
 |false=>
  simp only[E3,GP,WU,if_false]at hx;split at hx
  ·rename_i c;simp at hx;subst hx;obtain⟨u,rfl⟩:∃u,vs=[u]:=by
    have:=hr.1;simp at this;exact List.length_eq_one_iff.1 this
   exact dM.value hI hF (bt (h2 GP u rfl)) (x:=.c c) (hr.2 0 c u rfl rfl) hK
  ·simp at hx
theorem lC {t:TypeId} {d:TD} (ht:td P t=some d) {b off:Nat} {v:Value} (hl:v.cells.size=d.sz) {cur:Array Value} {ty:TypeId} (hh:w.heap[b]? =some (.cells cur ty (0,0))) (xX:off+d.sz<=cur.size)
  (h1:∀u∈v.cells.toList,u.oneCell'=true):
  (Instr.storeAt t (.pointer (some ⟨b,off,none⟩)) v).run P w=.ok () (w.setRow b (ca cur.toList off v.cells.toList).toArray):=by
 obtain⟨i,hi,fB,_,_⟩:=gm ht;have hs:(sizeOf t).run P w=.ok i.size w:=by simp[sizeOf,typeInfo,hi]
 have jG:=run_storeCells_at P b off ty v.cells.toList 0 cur w hh (by simp;omega) h1;simp only[Wi]at jG;show(storeVar t ⟨b,off,none⟩ v).run P w=_;unfold storeVar;rw[Sem.run_bind,hs];simp only[Result.andThen_ok];rw[if_neg (by omega)];simpa[ca]using jG
theorem vR {cs:List CV} {vs:List Value} {row:List CV} {cur:List Value} {off:Nat} (hl:cur.length=row.length) (hr:∀(j:Nat) c u,row[j]? =some c->cur[j]? =some u->br g w A c u) (h:kf g w A cs vs) (xX:off+cs.length<=row.length):
  ∀(j:Nat) c u,(ca row off cs)[j]? =some c->(ca cur off vs)[j]? =some u->br g w A c u:=by
 intro j c u hc hu;rw[ga (by omega)]at hc;rw[ga (by rw[h.1];omega),h.1]at hu;split at hc
 ·rename_i hj;rw[if_pos hj]at hu;exact h.2 _ c u hc hu
 ·rename_i hj;rw[if_neg hj]at hu;exact hr j c u hc hu
theorem vi (hI:Inv g w s.V s.A) (hF:Fr w0 g0 w g) {t:TypeId} {d:TD} (ht:td P t=some d) {l off:Nat} {p v:Value} (hp:br g w s.A (.ptr l off) p) {x:AV} (hx:aW g w s.A x v) (lZ:x.plain=true) (hlen:x.cells.length=d.sz)
  {row:List CV} (ef:s.V[l]? =some row) (xX:off+d.sz<=row.length) (hK:K (.c .undef) (s.V.set l (ca row off x.cells)) s.A):
  dM P w0 g0 g w s.A (do Instr.storeAt t p v;pure .skip) K:=by
 obtain⟨b,hb,rfl⟩:=hp;obtain⟨xJ,h1⟩:=AV.gC hx lZ;obtain⟨_,cur,ty,hh,hs,hr⟩:=hI.obj l row b ef hb;have E2:v.cells.size=d.sz:=by have:=xJ.1;simp at this;omega
 have fC:=lC (P:=P) ht E2 hh (off:=off) (by omega) h1
 obtain⟨k1,k2,k3⟩:=hI.setObj hF ef hb (ca cur.toList off v.cells.toList).toArray (row':=ca row off x.cells)
  (by simp only[Wu];rw[fM (by simp;omega),fM (by omega)];simpa using hs)
  (fun j c u h3 h4=>vR (cur:=cur.toList) (by rw[WQ];exact hs) (fun j c u h5 h6=>hr j c u h5 (by simpa using h6)) xJ (by omega) j c u h3 (by simpa using h4))
 exact⟨_,_,_,_,undef,_,g,hK,vQ fC,.inr ⟨rfl,rfl⟩,rfl,k1,k2,k3⟩
theorem CF {cs:List CV} {k:Nat} (h:∀c∈cs,∀k' n,c=.own k' n->k'≠k):∀{A:List bz},(bT A cs)[k]? =A[k]? :=by
 induction cs with
 |nil=>intro A;rfl
 |cons c cs ih=>
  intro A;simp only[bT,WG];have:=ih (fun c' AP=>h c' (by simp[AP])) (A:=fK A c);simp only[bT]at this;rw[this];cases c<;>try rfl
  rename_i k' n;have di:=h (.own k' n) (by simp) k' n rfl;simp only[fK];cases hk:A[k']? with
  |none=>rfl
  |some r=>rw[WA di]
theorem vj (hI:Inv g w s.V s.A) (hF:Fr w0 g0 w g) {t:TypeId} {d:TD} (ht:td P t=some d) {k n i off:Nat} {p v:Value} (hp:br g w s.A (.op k n i off) p) {x:AV} (hx:aW g w s.A x v) (lZ:x.plain=true) (hlen:x.cells.length=d.sz)
  {r:bz} (hk:s.A[k]? =some r) (hn:n=r.rows.length) (hw:r.wr=true) {row:List DV} (ef:r.rows[i]? =some row) {ds:List DV} (vD:iN s.A x.cells=some ds) (xX:off+d.sz<=r.sz)
  (dm:(x.cells.all fun c=>match c with|.own k' _=>k'≠k|_=>true)=true)
  (hK:K (.c .undef) s.V ((bT s.A x.cells).set k {r with rows:=r.rows.set i (ca row off ds)})):
  dM P w0 g0 g w s.A (do Instr.storeAt t p v;pure .skip) K:=by
 obtain⟨xJ,h1⟩:=AV.gC hx lZ;obtain⟨g1,fj,dB,kF,tj,qa,gR⟩:=ti hI hF xJ vD;obtain⟨b,e,rfl,r',o9,MJ,hq⟩:=hp;obtain rfl:r=r':=by rw[hk]at o9;exact Option.some.inj o9
 obtain⟨cap,CD,rfl⟩:=hq hn;have jn:(bT s.A x.cells)[k]? =some r:=by
  rw[CF fun c hc k' n' e=>?_]
  ·exact hk
  ·subst e;have:=WN.1 dm _ hc;simpa using this
 have Nq:=rQ vD;have E2:v.cells.size=d.sz:=by have:=xJ.1;simp at this;omega
 obtain⟨cur,ty,cap',kJ,hh,E1,VF,AM,j8,Cq⟩:=fj.GK kF jn (by rw[tj];exact CD) hw ef (ds:=ds) (off:=off) (by omega) (b:=b) rfl v.cells.toList (by simp;omega) gR;have fC:=lC (P:=P) ht E2 hh (off:=i*r.sz+off) (by simp at E1;omega) h1;exact⟨_,_,_,_,undef,_,g1,hK,vQ fC,.inr ⟨rfl,rfl⟩,rfl,AM,dB.trans j8,Cq⟩
theorem zC {op:BinOp} {t:TypeId} {ox oy:Operand} {x y r:AV} {u v:Value} (hx:aW g w A x u) (hy:aW g w A y v) (h:zy op x y=some r):
  ∃z,(do eqGuard op t ox oy u v;binOp op t u v:Sem Value).run P w=.ok z w/\aW g w A r z:=by
 unfold zy at h;split at h
 ·rename_i k a k' b;simp only[aW,dL,br,bn]at hx hy;subst hx;subst hy;split at h
  ·rename_i hk;subst hk;have hg:∀op,(eqGuard op t ox oy (.int k a) (.int k b)).run P w=.ok () w:=by
    intro op;cases op<;>simp[eqGuard]
   rw[Sem.run_bind,hg];simp only[Result.andThen_ok];split at h<;>first|(simp at h;done)|skip
   all_goals(try(split at h<;>first|(simp at h;done)|skip))
   all_goals(simp only[Option.some.injEq]at h;subst h;refine⟨_,?_,rfl⟩)
   all_goals first
    |(simp[binOp,Op.intArith];done)
    |(simp[binOp,Op.intBits,AL];done)
    |(rename_i hb;simp[binOp,Op.shift,hb];done)
    |(rename_i hb;simp[binOp,Op.intDiv,hb];done)
    |(simp[binOp,Op.intCmp];done)
  ·simp at h
 ·rename_i a b;simp only[aW,dL,br,bn]at hx hy;subst hx;subst hy;have hg:∀op,(eqGuard op t ox oy (.string (bs a)) (.string (bs b))).run P w=.ok () w:=by
   intro op;cases op<;>simp[eqGuard]
  rw[Sem.run_bind,hg];simp only[Result.andThen_ok];split at h<;>first|(simp at h;done)|skip
  ·split at h
   ·rename_i hle;simp only[Option.some.injEq]at h;subst h;refine⟨.string (bs (a++b)),?_,rfl⟩;have hn:¬(((bs a).size+(bs b).size:Nat):Int)>IntKind.i64.max:=by rw[qb,qb];simp[IntKind.max,IntKind.signed,IntKind.bits];omega
    have GQ:bs a++bs b=bs (a++b):=by
     simp only[bs];apply ByteArray.ext;simp
    simp only[binOp,Op.stringOp,if_neg hn,GQ,Sem.run_pure]
   ·simp at h
  all_goals(simp only[Option.some.injEq]at h;subst h;refine⟨_,?_,rfl⟩;simp[binOp,Op.stringOp,tg])
 ·simp at h
theorem xZ {op:BinOp} {t:TypeId} {d:TD} {ox oy:Operand} {x y r:AV} {u v:Value} (ht:td P t=some d) (hd:d.nC=true) (hx:aW g w A x u) (hy:aW g w A y v) (h:rN op x y=some r):
  ∃z,(do eqGuard op t ox oy u v;binOp op t u v:Sem Value).run P w=.ok z w/\aW g w A r z:=by
 have hb:=Lo ht hd;unfold rN at h;split at h
 ·rename_i a b;simp only[aW,dL,br,bn]at hx hy;subst hx;subst hy;split at h<;>first|(simp at h;done)|skip
  all_goals(simp only[Option.some.injEq]at h;subst h;refine⟨_,?_,rfl⟩;rw[Sem.run_bind])
  ·rw[show(eqGuard .eql t ox oy (.bool a) (.bool b)).run P w=.ok () w by simp[eqGuard]];simp only[Result.andThen_ok,run_eql_bool w t a b hb]
  ·rw[show(eqGuard .neq t ox oy (.bool a) (.bool b)).run P w=.ok () w by simp[eqGuard]];simp only[Result.andThen_ok,run_neq_bool w t a b hb]
 ·simp at h
theorem AQ {d:Nat} {xs ys:Array Value}:∀{fs:List Field} {i:Nat} {ks:List Nat} {cs ds:List CV} {r:Bool},Np P i fs=some ks->D1 ks cs ds=some r->
  (∀(j:Nat) c,cs[j]? =some c->∃u,xs[i+j]? =some u/\br g w A c u)->(∀(j:Nat) c,ds[j]? =some c->∃u,ys[i+j]? =some u/\br g w A c u)->(Op.eqFields (d+1) xs ys fs).run P w=.ok r w
 |[],i,ks,cs,ds,r,h1,h2,_,_=>by
  simp[Np]at h1;subst h1;cases cs<;>cases ds<;>simp[D1]at h2
  subst h2;simp[Op.eqFields]
 |f::fs,i,ks,cs,ds,r,h1,h2,hx,hy=>by
  simp only[Np]at h1;split at h1<;>first|(simp at h1;done)|skip
  rename_i dd hu;split at h1<;>first|(simp at h1;done)|skip
  rename_i k ks' hk l3;split at h1<;>first|(simp at h1;done)|skip
  rename_i hn;simp at h1;subst h1;have key:∀(c c':CV) cs' ds' (b r':Bool),cs=c::cs'->ds=c'::ds'->(∀u u',br g w A c u->br g w A c' u'->(part f.type xs f.offset).run P w=.ok u w->(part f.type ys f.offset).run P w=.ok u' w->(Op.equalIn (d+1) f.type u u').run P w=.ok b w)->P.plainKey f.type=true->D1 ks' cs' ds'=some r'->(b && r')=r->(Op.eqFields (d+1) xs ys (f::fs)).run P w=.ok r w:=by
   intro c c' cs' ds' b r' e1 e2 h3 hp h4 h5;subst e1;subst e2;obtain⟨u,IP,Cr⟩:=hx 0 c rfl;obtain⟨u',Qo,Qp⟩:=hy 0 c' rfl;have p1:=run_part_plain w hp (xs:=xs) (off:=f.offset) (v:=u) (by rw[hn.2];simpa using IP);have p2:=run_part_plain w hp (xs:=ys) (off:=f.offset) (v:=u') (by rw[hn.2];simpa using Qo);have h6:=AQ (d:=d) (xs:=xs) (ys:=ys) l3 h4 (fun j c hc=>by
    obtain⟨u,h7,h8⟩:=hx (j+1) c (by simpa using hc);exact⟨u,by rw[<-h7];congr 1;omega,h8⟩) (fun j c hc=>by
    obtain⟨u,h7,h8⟩:=hy (j+1) c (by simpa using hc);exact⟨u,by rw[<-h7];congr 1;omega,h8⟩)
   simp only[Op.eqFields,hn.1,ne_eq,not_false_eq_true,if_true,Sem.run_bind,p1,p2,h3 u u' Cr Qp p1 p2,Result.andThen_ok];subst h5;cases b
   ·simp
   ·simpa using h6
  unfold D1 at h2;split at h2<;>first|(simp at h2;done)|skip
  ·rename_i heq;simp at heq
  ·rename_i q a cs' q' b ds' heq;simp only[List.cons.injEq]at heq;obtain⟨rfl,rfl⟩:=heq;split at h2<;>first|(simp at h2;done)|skip
   rename_i e;subst e;simp only[WV]at h2;obtain⟨r',h3,h4⟩:=h2;cases dd<;>simp[zA]at hk
   exact key _ _ _ _ (a==b) r' rfl rfl (fun u u' h5 h6 _ _=>by simp only[br,bn]at h5 h6;subst h5;subst h6;exact run_equalIn_int w d _ _ _ _ _ hu) (by simp[Program.plainKey,hu]) h3 h4
  ·rename_i a cs' b ds' heq;simp only[List.cons.injEq]at heq;obtain⟨rfl,rfl⟩:=heq;simp only[WV]at h2;obtain⟨r',h3,h4⟩:=h2;cases dd<;>simp[zA]at hk
   exact key _ _ _ _ (a==b) r' rfl rfl (fun u u' h5 h6 _ _=>by simp only[br,bn]at h5 h6;subst h5;subst h6;exact run_equalIn_bool' w d _ _ _ hu) (by simp[Program.plainKey,hu]) h3 h4
  ·rename_i a cs' b ds' heq;simp only[List.cons.injEq]at heq;obtain⟨rfl,rfl⟩:=heq;simp only[WV]at h2;obtain⟨r',h3,h4⟩:=h2;cases dd<;>simp[zA]at hk
   exact key _ _ _ _ (a==b) r' rfl rfl (fun u u' h5 h6 _ _=>by simp only[br,bn]at h5 h6;subst h5;subst h6;rw[run_equalIn_string w d _ _ _ hu,tg,tg]) (by simp[Program.plainKey,hu]) h3 h4
theorem x5 {op:BinOp} {t:TypeId} {ox oy:Operand} {x y r:AV} {u v:Value} (hx:aW g w A x u) (hy:aW g w A y v) (h:rO P op t x y=some r):
  ∃z,(do eqGuard op t ox oy u v;binOp op t u v:Sem Value).run P w=.ok z w/\aW g w A r z:=by
 unfold rO at h;split at h<;>first|(simp at h;done)|skip
 rename_i xs ys;split at h<;>first|(simp at h;done)|skip
 rename_i ks l3;split at h<;>first|(simp at h;done)|skip
 rename_i b hb;obtain⟨us,rfl,AR,MN⟩:=hx;obtain⟨vs,rfl,E2,Qq⟩:=hy;unfold sq at l3;split at l3<;>first|(simp at l3;done)|skip
 rename_i fs hu;split at l3<;>first|(simp at l3;done)|skip
 rename_i jG;have SB:P.fieldsOf t=fs:=by simp[Program.fieldsOf,hu]
 have heq:(Op.equal t (.agg us.toArray) (.agg vs.toArray)).run P w=.ok b w:=by
  show(Op.equalIn (9999+1) t (.agg us.toArray) (.agg vs.toArray)).run P w=.ok b w;rw[run_equalIn_struct w 9999 t _ _ (by rw[SB];exact hu) jG.1,SB];refine AQ (d:=9998) (g:=g) (A:=A) l3 hb (fun j c hc=>?_) (fun j c hc=>?_)
  ·have hj:j<us.length:=by have:=(Wk.1 hc).1;omega
   exact⟨us[j],by simp[hj],MN j c _ hc (Wl hj)⟩
  ·have hj:j<vs.length:=by have:=(Wk.1 hc).1;omega
   exact⟨vs[j],by simp[hj],Qq j c _ hc (Wl hj)⟩
 have hg:∀op,(eqGuard op t ox oy (.agg us.toArray) (.agg vs.toArray)).run P w=.ok () w:=by
  intro op;cases op<;>simp[eqGuard,jG.2]
 rw[Sem.run_bind,hg];simp only[Result.andThen_ok];split at h<;>first|(simp at h;done)|skip
 all_goals(simp only[Option.some.injEq]at h;subst h;refine⟨_,?_,rfl⟩)
 ·simp[binOp,heq]
 ·simp[binOp,heq]
theorem E5 {op:UnOp} {x r:AV} {u:Value} (hx:aW g w A x u) (h:Je op x=some r):∃z,(Op.unary op u).run P w=.ok z w/\aW g w A r z:=by
 unfold Je at h;split at h<;>first|(simp at h;done)|skip
 all_goals(simp only[Option.some.injEq]at h;subst h;simp only[aW,dL,br,bn]at hx;subst hx;refine⟨_,?_,rfl⟩)
 ·simp[Op.unary]
 ·simp[Op.unary,Op.intArith]
theorem rS:∀{rows:List (List DV)} {b:List UInt8},bytesOf rows=some b->rows.length=b.length/\∀(i:Nat) row,rows[i]? =some row->∃n:Int,row=[.int .u8 n]/\b[i]? =some (UInt8.ofNat n.toNat)
 |[],b,h=>by simp[bytesOf]at h;subst h;exact⟨rfl,fun i row h=>by simp at h⟩
 |r::rs,b,h=>by
  simp only[bytesOf]at h;split at h
  ·rename_i c l h1 h2;simp at h;subst h;obtain⟨h3,h4⟩:=rS h2;refine⟨by simp[h3],fun i row ef=>?_⟩;cases i with
   |zero=>
    simp at ef;subst ef;unfold tf at h1;split at h1
    ·rename_i n;split at h1
     ·simp at h1;subst h1;exact⟨n,rfl,rfl⟩
     ·simp at h1
    ·simp at h1
   |succ i=>simp at ef;simpa using h4 i row ef
  ·simp at h
theorem AS {src dst e:TypeId} {ds dd de:TD} (hs:td P src=some ds) (hd:td P dst=some dd) (qZ:dd.cS=true) (T4:ds.el=some e) (he:td P e=some de) (hk:de.ik=some .u8) {rows:List (List DV)} {v:Value} (hv:bn g.im w (.sl rows) v)
  {b:List UInt8} (hb:bytesOf rows=some b):(convert src dst v).run P w=.ok (.string (bs b)) w:=by
 have h1:=mQ hs T4;have h2:=KD he hk;have h3:=qY hd qZ;obtain⟨hl,vS⟩:=rS hb;simp only[bn]at hv;obtain⟨ad,cap,rfl,_,hr⟩:=hv;rcases hr with rfl|⟨bl,off,sz,rfl,_,xU⟩
 ·have KE:b=[]:=Wr (by simpa using hl.symm);subst KE;cases ad with
  |none=>exact run_convert_bytes_nil (P:=P) w src e h1 h2 0 cap dst h3
  |some ad=>
   refine(run_convert_bytes_string w src dst e _ 0 cap h1 h2 h3).trans ?_;simp[Conv.bytesToString,loadCells,loadCellsFrom]
   rfl
 ·have fB:∀i,i<rows.length->∃n:Int,rows[i]? =some [.int .u8 n]/\b[i]? =some (UInt8.ofNat n.toNat):=fun i hi=>by
   obtain⟨n,h4,h5⟩:=vS i _ (Wl hi);exact⟨n,by rw[Wl hi,h4],h5⟩
  let xs:List Int:=rows.map fun r=>match r with|[.int .u8 n]=>n|_=>0
  have hx:strOfNums xs=bs b:=by
   simp only[strOfNums,bs]
   congr 2
   apply WB;intro i;by_cases hi:i<rows.length
   ·obtain⟨n,h4,h5⟩:=fB i hi;simp[xs,h4,h5]
   ·simp[xs,WM (show rows.length<=i by omega),WM (show b.length<=i by omega)]
  rw[<-hx];refine run_convert_bytes_arg w src e h1 h2 bl off rows.length cap xs (by simp[xs]) (fun i hi=>?_) dst h3;obtain⟨n,h4,_⟩:=fB i hi;obtain⟨h6,h7⟩:=cv.at_ xU h4;have Lp:sz=1:=by simpa using h6.symm
  subst Lp;simp only[dA,and_true]at h7;obtain⟨u,h8,h9⟩:=h7;simp only[bn]at h9;subst h9;simpa[xs,h4]using h8
end
section
variable {P:Program} {g g' g0:Gh} {w w' w0:World} {V V':List (List CV)} {A A':List bz} {s:St} {a:Act} {K:AV->List (List CV)->List bz->Prop}
theorem uv:∀(l:List Value) (k off:Nat) (arr:Array Value),off+k+l.length<=arr.size->(l.zipIdx k).foldl (fun cs (c:Value×Nat)=>cs.setIfInBounds (off+c.2) c.1) arr=(ca arr.toList (off+k) l).toArray
 |[],k,off,arr,_=>by simp[ca]
 |v::rest,k,off,arr,h=>by
  simp only[WD,WG];rw[uv rest (k+1) off _ (by simp at h⊢;omega)];have e:=list_seg_step arr.toList (off+k) v rest (by simp at h⊢;omega);simp only[ca,Array.toList_setIfInBounds,Wz]
  congr 1
theorem yy (place:Nat->Option (Nat×Nat)) (cells:Array Value) (i:Nat) (v:Value) (rest:List (Nat×Value)) {off size:Nat} (hp:place i=some (off,size)) (hs:v.cells.size=size) (hf:off+size<=cells.size):
  Instr.fill place cells ((i,v)::rest)=Instr.fill place (ca cells.toList off v.cells.toList).toArray rest:=by
 simp only[Instr.fill,hp];rw[if_neg (by simp;omega)]
 congr 1
 have h:=uv v.cells.toList 0 off cells (by simp;omega);rw[<-Array.foldl_toList];simpa using h
theorem vU (hS:iC g w s a) {fl:List (Nat×Nat)}:∀{parts:List (Nat×Operand)} {ps:List (Nat×List CV)} {cs cs':List CV} {vs:List Value},iO s parts=some ps->oE fl cs ps=some cs'->kf g w s.A cs vs->
  ∃vs',Instr.fill (fl[·]?) vs.toArray (parts.map fun(i,x)=>(i,a.eval x))=some vs'.toArray/\kf g w s.A cs' vs'
 |[],ps,cs,cs',vs,hp,hf,hr=>by
  simp[iO]at hp;subst hp;simp[oE]at hf;subst hf;exact⟨vs,rfl,hr⟩
 |(i,o)::r,ps,cs,cs',vs,hp,hf,hr=>by
  have VG:=hp;simp only[iO]at hp;split at hp
  ·rename_i v l h1 h2;split at hp
   ·rename_i lZ;simp at hp;subst hp;simp only[oE]at hf;split at hf
    ·simp at hf
    ·rename_i off size xK;split at hf
     ·rename_i hc;obtain⟨vV,_⟩:=AV.gC (aL hS h1) lZ;have fB:(a.eval o).cells.size=size:=by have:=vV.1;simp at this;omega
      have E2:=hr.1;simp only[Ws];rw[yy _ _ _ _ _ xK fB (by simp;omega)];refine vU hS h2 hf ⟨?_,?_⟩
      ·rw[fM (by simp;omega),fM (by omega)];simpa using E2
      ·exact vR (by simpa using E2) (fun j c u h3 h4=>hr.2 j c u h3 (by simpa using h4)) vV (by omega)
     ·simp at hf
   ·simp at hp
  ·simp at hp
theorem yz:∀{fs:List Field} {l:List (Nat×Nat)},xY P fs=some l->fs.mapM (fun f=>(P.info? f.type).map fun i=>(f.offset,i.size))=some l
 |[],l,h=>by simp[xY]at h;subst h;rfl
 |f::r,l,h=>by
  simp only[xY]at h;split at h
  ·rename_i i l' h1 h2;simp at h;subst h;simp[List.mapM_cons,h1,yz h2]
  ·simp at h
theorem AT (hI:Inv g w s.V s.A) (hF:Fr w0 g0 w g) (hS:iC g w s a) {t:TypeId} {d:TD} (ht:td P t=some d) {z:List CV} (hz:d.zero=some z) (xK:d.fl≠[]) {parts:Array (Nat×Operand)} {ps:List (Nat×List CV)} (hp:iO s parts.toList=some ps)
  {cs:List CV} (hf:oE d.fl z ps=some cs) (hK:K (.agg cs) s.V s.A):dM P w0 g0 g w s.A (do pure (.value (<-Instr.build t (parts.map fun(i,x)=>(i,a.eval x))))) K:=by
 obtain⟨de,i,hu,hi,rfl⟩:=lB ht;obtain⟨i',EZ,_,_,h0⟩:=gm ht;obtain rfl:i=i':=by rw[hi]at EZ;exact Option.some.inj EZ
 obtain⟨zv,GS,Gr⟩:=h0 z hz;cases de with
 |struct fs=>
  simp only[MK]at xK hf;cases Lq:xY P fs.toList with
  |none=>simp[Lq]at xK
  |some l=>
   simp only[Lq,WX]at hf;obtain⟨vs',h1,h2⟩:=vU (g:=g) (w:=w) (s:=s) (a:=a) hS hp hf (vs:=zv.cells.toList) ⟨iV Gr,fun j c u h3 h4=>nJ (pd Gr j c u h3 h4)⟩;have hb:P.built t (parts.map fun(i,x)=>(i,a.eval x)).toList=some vs'.toArray:=by
    simp only[Program.built,hi,hu,GS,yz Lq];simpa using h1
   exact dM.value hI hF (bt (run_build w t _ _ hb)) (x:=.agg cs) ⟨vs',rfl,h2.1,fun j c u h3 h4=>h2.2 j c u h3 h4⟩ hK
 |_=>simp[MK]at xK
theorem yA (size:Nat):∀(vals:List Value) (k:Nat) (cells:Array Value),(∀v∈vals,v.cells.size=size)->(k+vals.length)*size<=cells.size->
  Instr.fill (fun i=>some (i*size,size)) cells (vals.zipIdx k|>.map fun(v,i)=>(i,v))=some (ca cells.toList (k*size) (vals.flatMap fun v=>v.cells.toList)).toArray
 |[],k,cells,_,_=>by simp[Instr.fill,ca]
 |v::r,k,cells,hs,hl=>by
  have hv:v.cells.size=size:=hs v (by simp);have IQ:k*size+size+r.length*size<=cells.size:=by simp[V7]at hl;omega
  simp only[WD,Ws]
  rw[yy _ cells k v _ rfl hv (by omega),yA size r (k+1) _ (fun x hx=>hs x (by simp[hx]))
   (by simp only[Wu];rw[fM (by simp;omega)];simp[V7];omega)]
  have xK:(r.flatMap fun v=>v.cells.toList).length=r.length*size:=by
   have:∀(l:List Value),(∀v∈l,v.cells.size=size)->(l.flatMap fun v=>v.cells.toList).length=l.length*size:=by
    intro l;induction l with
    |nil=>simp
    |cons x l ih=>intro h;simp[ih (fun y hy=>h y (by simp[hy])),h x (by simp),V7];omega
   exact this r (fun x hx=>hs x (by simp[hx]))
  congr 2
  apply WB;intro j;rw[ga (by simp only[];rw[fM (by simp;omega),xK];simp[V7];omega),ga (by simp;omega),ga (by simp[xK];omega),xK];simp only[WH,Wt,xK,WQ,hv,V7,Wd];by_cases h1:k*size+size<=j/\j<k*size+size+r.length*size
  ·rw[if_pos h1,if_pos (by omega),Wn (by simp;omega)]
   congr 1;simp;omega
  ·rw[if_neg h1];by_cases h2:k*size<=j/\j<k*size+size
   ·rw[if_pos h2,if_pos (by omega),Wm (by simp;omega)]
   ·rw[if_neg h2,if_neg (by omega)]
theorem uw (hS:iC g w s a) {sz:Nat}:∀{parts:List (Nat×Operand)} {k:Nat} {rows:List (List CV)},j9 s sz k parts=some rows->
  parts.map (fun(i,x)=>(i,a.eval x))=((parts.map fun(_,x)=>a.eval x).zipIdx k|>.map fun(v,i)=>(i,v))/\rows.length=parts.length/\(∀row∈rows,row.length=sz)/\
  (∀v∈parts.map (fun(_,x)=>a.eval x),v.cells.size=sz/\∀u∈v.cells.toList,u.oneCell'=true)/\kf g w s.A rows.flatten ((parts.map fun(_,x)=>a.eval x).flatMap fun v=>v.cells.toList)
 |[],k,rows,h=>by simp[j9]at h;subst h;exact⟨rfl,rfl,by simp,by simp,rfl,fun j c u h=>by simp at h⟩
 |(i,o)::r,k,rows,h=>by
  simp only[j9]at h;split at h
  ·rename_i v l h1 h2;split at h
   ·rename_i hc;simp at h;subst h;obtain⟨rfl,hp,hl⟩:=hc;obtain⟨h3,h4,h5,h6,h7⟩:=uw hS h2;obtain⟨vV,GU⟩:=AV.gC (aL hS h1) hp;have fB:(a.eval o).cells.size=sz:=by have:=vV.1;simp at this;omega
    refine⟨by simp only[Ws,WD,h3],by simp[h4],fun row ef=>?_,fun v' MO=>?_,?_,fun j c u h8 h9=>?_⟩
    ·simp at ef;rcases ef with rfl|ef
     ·exact hl
     ·exact h5 row ef
    ·simp only[Ws,List.mem_cons]at MO;rcases MO with rfl|MO
     ·exact⟨fB,GU⟩
     ·exact h6 v' MO
    ·simp only[Ws,WH,Wo,Wt,h7.1,vV.1]
    ·simp only[Ws,WH,Wo]at h8 h9;by_cases hj:j<v.cells.length
     ·rw[Wm hj]at h8;rw[Wm (by rw[vV.1];exact hj)]at h9;exact vV.2 j c u h8 h9
     ·rw[Wn (by omega)]at h8;rw[Wn (by rw[vV.1];omega),vV.1]at h9;exact h7.2 _ c u h8 h9
   ·simp at h
  ·simp at h
theorem tn (hI:Inv g w s.V s.A) (hF:Fr w0 g0 w g) (hS:iC g w s a) {t e:TypeId} {d de:TD} (ht:td P t=some d) (tq:d.el=some e) (he:td P e=some de) {parts:Array (Nat×Operand)} {rows:List (List CV)} (hr:j9 s de.sz 0 parts.toList=some rows)
  {ds:List (List DV)} (vD:kI s.A rows=some ds) {len:Nat} (hlen:rows.length=len) (hle:len*de.sz<=16777216) (q0:0<de.sz) (hz:de.zero.isSome=true) {ow:Bool}
  (hK:if ow then K (.c (.own s.A.length len)) s.V (bT s.A rows.flatten++[{sz:=de.sz,ev:=e,rows:=ds,wr:=true}])else K (.c (.d (.sl ds))) s.V (bT s.A rows.flatten)):
  dM P w0 g0 g w s.A (do pure (.value (<-Instr.buildSlice t len (parts.map fun(i,x)=>(i,a.eval x))))) K:=by
 obtain⟨i,hi,pg,_,h0⟩:=gm he;obtain⟨z,hz⟩:=WW.1 hz;obtain⟨zv,GS,Gr⟩:=h0 z hz;have ux:=mQ ht tq;obtain⟨h1,h2,h3,h4,h5⟩:=uw hS hr;have Qr:=uu vD
 let vals:=parts.toList.map fun(_,x)=>a.eval x
 let cells:=vals.flatMap fun v=>v.cells.toList
 have E2:vals.length=len:=by simp only[vals,List.length_map];omega
 have kS:cells.length=len*de.sz:=by rw[show cells.length=rows.flatten.length from h5.1,eL h3,hlen]
 have vk:∀u∈cells,u.oneCell'=true:=fun u hu=>by
  obtain⟨v,hv,KF⟩:=List.mem_flatMap.1 hu;exact(h4 v hv).2 u KF
 have KG:∀z:Array Value,z.size=len*de.sz->Instr.fill (fun i=>some (i*de.sz,de.sz)) z (parts.map fun(i,x)=>(i,a.eval x)).toList=some cells.toArray:=fun z qG=>by
  have:=yA de.sz vals 0 z (fun v hv=>(h4 v hv).1) (by rw[Wa,E2];omega);rw[<-h1]at this;simp only[WR,this,Option.some.injEq,We]
  congr 1
  show ca z.toList 0 cells=cells;simp[ca,kS,qG]
 have fC:∀w:World,(Instr.buildSlice t len (parts.map fun(i,x)=>(i,a.eval x))).run P w=.ok (.slice (some ⟨w.heap.size,0,none⟩) len len) (w.alloc (.cells cells.toArray e)):=fun w=>by
  have fB:(sizeOf e).run P w=.ok de.sz w:=by simp[sizeOf,typeInfo,hi,pg]
  have T5:∀w:World,(zeroValue e).run P w=.ok zv w:=fun w=>by simp[zeroValue,typeInfo,hi,GS]
  unfold Instr.buildSlice;simp only[Sem.run_bind,run_underlying ux,Result.andThen_ok,fB];rw[if_neg (by omega)];by_cases IS:len*de.sz=0
  ·have:=KG #[] (by simp[IS]);simp only[IS,if_true,Sem.run_pure,Sem.run_bind,Result.andThen_ok,Array.range_zero',Array.map_empty,this,jF]
  ·have:=KG ((Array.range (len*de.sz)).map (zv.cells[· % zv.cells.size]!)) (by simp);simp only[IS,if_false,Sem.run_pure,Sem.run_bind,Result.andThen_ok,T5,this,jF]
 obtain⟨g1,fj,dB,kF,tj,qa,gR⟩:=ti hI hF h5 Qr.1;have nB:∀r∈ds,r.length=de.sz:=fun r hr=>by
  obtain⟨j,hj⟩:=Ww hr;have jk:j<rows.length:=by have:=(Wk.1 hj).1;omega
  have ef:rows[j]? =some rows[j]:=Wl jk;rw[Qr.2.2 j _ r ef hj];exact h3 _ (List.getElem_mem jk)
 by_cases SC:ow=true
 ·rw[if_pos SC]at hK;obtain⟨g2,GW,AM,j8⟩:=fj.ei (.cells cells.toArray e) 0;have Cq:=kF.ei (.cells cells.toArray e) 0;rw[<-GW]at Cq;have Qs:len<=maxLen:=by
   have:len<=len*de.sz:=Nat.le_mul_of_pos_right _ q0;simp only[maxLen];omega
  have dQ:=World.ownsRow_lit (base:=0) (e:=e) (size:=de.sz) w cells.toArray len (V8 _) Qs (by simpa using kS)
  obtain⟨g3,T6,T7,Qt,Qu,Qv,Qw⟩:=AM.qW Cq {sz:=de.sz,ev:=e,rows:=ds,wr:=true} (.slice (some ⟨w.heap.size,0,none⟩) len len) cells nB (by simp only[show ds.length=len by omega];simpa using dQ)
   (fun j x u h6 h7=>bn.fJ j8.gr x u (gR j x u h6 h7))
   (fun b hb=>by
    simp[Value.ownBlock]at hb;subst hb;subst GW;refine⟨by simp,hF.size,fun l hl=>?_,fun k v hv hb=>?_⟩
    ·have:=fj.qU (g:=g1) hl;omega
    ·have:=fj.mO (g:=g1) hv hb;omega)
  refine⟨_,_,_,_,_,_,g3,hK,bt (fC w),.inl rfl,?_,Qu,(dB.trans j8).trans Qv,Qw⟩;have PE:(bT s.A rows.flatten).length=s.A.length:=by
   have:∀(cs:List CV) (A:List bz),(bT A cs).length=A.length:=by
    intro cs;induction cs with
    |nil=>intro A;rfl
    |cons c cs ih=>intro A;simp only[bT,WG];have:=ih (fK A c);simp only[bT]at this;rw[this];cases c<;>try rfl
                   simp only[fK];split<;>simp
   exact this _ _
  refine⟨some ⟨w.heap.size,0,none⟩,len,rfl,{sz:=de.sz,ev:=e,rows:=ds,wr:=true},?_,by simp only[];omega,fun _=>?_⟩
  ·rw[Wn (by rw[PE];exact V6 _),PE];simp
  ·rw[Qt,Wn (by rw[AM.lQ,PE];exact V6 _),AM.lQ,PE];simp
 ·rw[if_neg SC]at hK;obtain⟨g2,GW,AM,j8⟩:=fj.ei (.cells cells.toArray e) cells.length;have Cq:=kF.ei (.cells cells.toArray e) cells.length;rw[<-GW]at Cq;refine⟨_,_,_,_,_,_,g2,hK,bt (fC w),.inl rfl,?_,AM,dB.trans j8,Cq⟩;simp only[aW,dL,br,bn];refine⟨some ⟨w.heap.size,0,none⟩,len,by rw[show ds.length=len by omega],by omega,.inr ⟨w.heap.size,0,de.sz,rfl,?_,?_⟩⟩
  ·have Nq:ds.length=len:=by omega
   subst GW;simp[Nq,kS]
  ·refine cv.mk fun i r SD=>⟨nB r (Wp SD),dA.mk fun j x hx=>?_⟩
   have hf:=lA nB SD hx;have ay:i*de.sz+j<cells.length:=by
    have:=(Wk.1 hf).1;rw[eL nB]at this;rw[kS,<-hlen,<-Qr.2.1];exact this
   have hu:cells[i*de.sz+j]? =some cells[i*de.sz+j]:=Wl ay;refine⟨_,?_,bn.fJ j8.gr _ _ (gR _ x _ hf hu)⟩;rw[cell_of_row _ w.heap.size _ cells.toArray e (0,0) (heap_alloc_new w _),Wa];simp[hu]
theorem GX {im:Nat->Nat} {v:Value} {c:CV} {x:DV} (h:tc v=some c) (hd:nI A c=some x):bn im w x v:=by
 unfold tc at h;split at h<;>first|(simp at h;done)|skip
 all_goals(simp only[Option.some.injEq]at h;subst h;simp only[nI,Option.some.injEq]at hd)
 all_goals first
  |(subst hd;simp only[bn];done)
  |(subst hd;simp only[bn];rw[D2])
  |(subst hd;simp only[bn];exact⟨none,0,rfl,V6 _,.inl trivial⟩)
  |(cases hd)
theorem vm (hI:Inv g w s.V s.A) (hF:Fr w0 g0 w g) {t e:TypeId} {d de:TD} (ht:td P t=some d) (tq:d.el=some e) (he:td P e=some de) {z:List CV} (hz:de.zero=some z) {dz:List DV} (SE:iN s.A z=some dz) {kl kc:IntKind} {n:Int} (h0:0<=n)
  (hb:n.toNat*de.lR<=140737488355328) (hm:n.toNat<=9223372036854775807) (q0:0<de.sz) (qG:z.length=de.sz) (hK:K (.c (.own s.A.length n.toNat)) s.V (s.A++[{sz:=de.sz,ev:=e,rows:=Wv n.toNat dz,wr:=true}])):
  dM P w0 g0 g w s.A (do pure (.value (<-Instr.makeSlice t (.int kl n) (.int kc n)))) K:=by
 obtain⟨i,hi,pg,CG,ML⟩:=gm he;obtain⟨zv,GS,Gr⟩:=ML z hz;have ux:=mQ ht tq;obtain⟨m,rfl⟩:=Int.eq_ofNat_of_zero_le h0;simp only[WY]at hb hm hK;have hmul:(i.bytes:Int)*(m:Int)<=281474976710656:=by
  have h:((i.bytes*m:Nat):Int)<=281474976710656:=by rw[CG,Wf];omega
  rwa[Int.natCast_mul]at h
 have fC:=run_make (P:=P) w t e i zv ux hi GS kl kc m m (by omega) (Int.le_refl _) hmul (by omega);simp only[WY,pg]at fC;have IM:zv.cells.size=de.sz:=by have:=iV Gr;simp at this;omega
 have Nq:=rQ SE;obtain⟨g2,GW,AM,j8⟩:=hI.ei (.cells (madeCells zv.cells (m*de.sz)) e) 0;have Cq:=hF.ei (.cells (madeCells zv.cells (m*de.sz)) e) 0;rw[<-GW]at Cq;have dQ:=World.ownsRow_lit (base:=0) (e:=e) (size:=de.sz) w (madeCells zv.cells (m*de.sz)) m (V8 _) (by simp only[maxLen];omega) (size_madeCells _ _);have xK:∀(m j:Nat) (x:DV),(Wv m dz).flatten[j]? =some x->dz[j % de.sz]? =some x:=by
  intro m;induction m with
  |zero=>intro j x h;simp at h
  |succ m ih=>
   intro j x h;simp only[List.replicate_succ,Wo]at h;by_cases hj:j<dz.length
   ·rw[Wm hj]at h;rwa[Nat.mod_eq_of_lt (by omega)]
   ·rw[Wn (by omega)]at h;have:=ih _ _ h;rwa[show dz.length=de.sz by omega,<-Nat.mod_eq_sub_mod (by omega)]at this
 obtain⟨g3,T6,T7,Qt,Qu,Qv,Qw⟩:=AM.qW Cq {sz:=de.sz,ev:=e,rows:=Wv m dz,wr:=true} (.slice (some ⟨w.heap.size,0,none⟩) m m) (madeCells zv.cells (m*de.sz)).toList
  (fun r hr=>by simp at hr;rw[hr.2];show dz.length=de.sz;omega) (by simpa using dQ)
  (fun j x u h6 h7=>by
   have h8:=xK m j x h6;have T8:j<m*de.sz:=by
    have:=(Wk.1 h7).1;simpa[size_madeCells]using this
   have h9:u=zv.cells[j % zv.cells.size]! :=by
    simp[madeCells,T8]at h7;exact h7.symm
   have ay:j % de.sz<zv.cells.size:=by rw[IM];exact Nat.mod_lt _ q0
   have cO:zv.cells.toList[j % de.sz]? =some u:=by
    rw[h9,IM];simp[ay]
   have Qx:j % de.sz<z.length:=by omega
   have Nr:z[j % de.sz]? =some z[j % de.sz]:=Wl Qx;have eE:=pd Gr _ _ _ Nr cO;have vS:∀{cs:List CV} {ds:List DV},iN s.A cs=some ds->∀(j:Nat) c x,cs[j]? =some c->ds[j]? =some x->nI s.A c=some x:=by
    intro cs;induction cs with
    |nil=>intro ds h j c x h1;simp at h1
    |cons c cs ih=>
     intro ds h j c' x h1 h2;simp only[iN]at h;split at h
     ·rename_i d1 d2 h3 h4;simp at h;subst h;cases j with
      |zero=>simp at h1 h2;subst h1;subst h2;exact h3
      |succ j=>simp at h1 h2;exact ih h4 j c' x h1 h2
     ·simp at h
   exact GX eE (vS SE _ _ _ Nr h8))
  (fun b hb=>by
   simp[Value.ownBlock]at hb;subst hb;subst GW;refine⟨by simp,hF.size,fun l hl=>?_,fun k v hv hb=>?_⟩
   ·have:=hI.qU (g:=g) hl;omega
   ·have:=hI.mO (g:=g) hv hb;omega)
 refine⟨_,_,_,_,_,_,g3,hK,bt fC,.inl rfl,?_,Qu,j8.trans Qv,Qw⟩;refine⟨some ⟨w.heap.size,0,none⟩,m,rfl,{sz:=de.sz,ev:=e,rows:=Wv m dz,wr:=true},?_,by simp,fun _=>?_⟩
 ·rw[Wn (V6 _)];simp
 ·rw[Qt,Wn (by rw[AM.lQ];exact V6 _),AM.lQ];simp
end
section
variable {P:Program} {g g' g0:Gh} {w w' w0:World} {V V':List (List CV)} {A A':List bz} {s:St} {a:Act} {K:AV->List (List CV)->List bz->Prop}
theorem D3:∀{fs:List Field} {l:List (Nat×Nat)},xY P fs=some l->∀{i off sz:Nat},l[i]? =some (off,sz)->∃f inf,fs[i]? =some f/\f.offset=off/\P.info? f.type=some inf/\inf.size=sz
 |[],l,h,i,off,sz,hi=>by simp[xY]at h;subst h;simp at hi
 |f::r,l,h,i,off,sz,hi=>by
  simp only[xY]at h;split at h
  ·rename_i inf l' h1 h2;simp at h;subst h;cases i with
   |zero=>simp at hi;exact⟨f,inf,rfl,hi.1,h1,hi.2⟩
   |succ i=>simp at hi;simpa using D3 h2 hi
  ·simp at h
theorem pj {t:TypeId} {d:TD} (ht:td P t=some d) {f off sz:Nat} (hf:d.fl[f]? =some (off,sz)) (fB:sz≠0) (b o:Nat):(Instr.fieldAt t (.pointer (some ⟨b,o,none⟩)) f).run P w=.ok (.pointer (some ⟨b,o+off,none⟩)) w:=by
 obtain⟨de,i,hu,hi,rfl⟩:=lB ht;cases de with
 |struct fs=>
  simp only[MK]at hf;cases Lq:xY P fs.toList with
  |none=>simp[Lq]at hf
  |some l=>
   simp only[Lq,WX]at hf;obtain⟨fld,inf,h1,h2,h3,h4⟩:=D3 Lq hf;have mu:fs[f]? =some fld:=by simpa using h1
   subst h2;subst h4;simp[Instr.fieldAt,run_underlying hu,mu,Instr.sureAddr,fieldPlace,sizeOf,typeInfo,h3,fB,mR]
 |_=>simp[MK]at hf
theorem pk {t e:TypeId} {d de:TD} (ht:td P t=some d) (tq:d.el=some e) (he:td P e=some de) {b off n cap:Nat} {k:IntKind} {i:Int} (h0:0<=i) (h1:i.toNat<n):
  (Instr.indexAt t (.slice (some ⟨b,off,none⟩) n cap) (.int k i)).run P w=.ok (.pointer (some ⟨b,off+i.toNat*de.sz,none⟩)) w:=by
 have hu:=mQ ht tq;obtain⟨inf,hi,fB,_,_⟩:=gm he;have hc:0<=i/\i<n:=by omega
 simp[Instr.indexAt,asIntOf,run_underlying hu,hc,sizeOf,typeInfo,hi,fB,mR]
theorem vW {t e:TypeId} {d de:TD} {len:Nat} (ht:td P t=some d) (tq:d.ar=some (len,e)) (he:td P e=some de) {b off:Nat} {k:IntKind} {i:Int} (h0:0<=i) (h1:i<len):
  (Instr.indexAt t (.pointer (some ⟨b,off,none⟩)) (.int k i)).run P w=.ok (.pointer (some ⟨b,off+i.toNat*de.sz,none⟩)) w:=by
 have hu:=KC ht tq;obtain⟨inf,hi,fB,_,_⟩:=gm he;have hc:0<=i/\i<len:=by omega
 simp[Instr.indexAt,asIntOf,run_underlying hu,Instr.sureAddr,hc,sizeOf,typeInfo,hi,fB,mR]
theorem tt (hI:Inv g w V A) {v:AV} {u:Value} (hv:aW g w A v u) {nr:List (List DV)} (h:rowsOf A v=some nr) {sz:Nat} (hl:∀r∈nr,r.length=sz):
  ∃news:List Value,((nr.length=0/\news=[]/\∃a c,u=.slice a 0 c)\/∃a c,u=.slice (some a) nr.length c/\news.length=nr.length*sz/\∀(j:Nat) x,news[j]? =some x->w.cell? (a.add j)=some x)/\
   (∀u∈news,u.oneCell'=true)/\∀(j:Nat) x y,nr.flatten[j]? =some x->news[j]? =some y->bn g.im w x y:=by
 have key:∀(b off sz':Nat) (rows:List (List DV)),(∀r∈rows,r.length=sz)->cv g.im w b sz' off rows->rows≠[]->sz'=sz/\
   ∃news:List Value,news.length=rows.length*sz/\(∀(j:Nat) x,news[j]? =some x->w.cell? ⟨b,off+j,none⟩=some x)/\∀(j:Nat) x y,rows.flatten[j]? =some x->news[j]? =some y->bn g.im w x y:=by
  intro b off sz' rows hl xU di;have fB:sz'=sz:=by
   cases rows with
   |nil=>exact absurd rfl di
   |cons r rs=>simp only[cv]at xU;have:=hl r (by simp);omega
  subst fB;have SF:=eL hl;obtain⟨vs,h1,h2⟩:=nK w b off (rows.length*sz') (fun j u=>∀x,rows.flatten[j]? =some x->bn g.im w x u) (fun j hj=>by
   have q0:0<sz':=by rcases Nat.eq_zero_or_pos sz' with h|h;·subst h;simp at hj
                     ·exact h
   have hdiv:j / sz'<rows.length:=Nat.div_lt_of_lt_mul (by rw[Wf];exact hj);have ef:rows[j / sz']? =some rows[j / sz']:=Wl hdiv;obtain⟨h3,h4⟩:=cv.at_ xU ef;have T9:=Nat.mod_lt j q0;have hx:(rows[j / sz'])[j % sz']? =some (rows[j / sz'])[j % sz']:=Wl (by omega);obtain⟨u,h5,h6⟩:=dA.at_ h4 hx;have GO:j / sz'*sz'+j % sz'=j:=by rw[Wf];exact Nat.div_add_mod j sz'
   refine⟨u,by rw[<-GO,<-V9];exact h5,fun x h7=>?_⟩;have h8:=lA hl ef hx;rw[GO,h7]at h8;cases h8;exact h6)
  exact⟨rfl,vs,h1,fun j x hx=>(h2 j x hx).1,fun j x y hx hy=>(h2 j y hy).2 x hx⟩
 cases v with
 |agg xs=>simp[rowsOf]at h
 |a8 xs=>simp[rowsOf]at h
 |c c=>
  cases c with
  |d x=>
   cases x with
   |sl rows=>
    simp[rowsOf]at h;subst h;simp only[aW,dL,br,bn]at hv;obtain⟨ad,cap,rfl,_,hr⟩:=hv;rcases hr with rfl|⟨b,off,sz',rfl,_,xU⟩
    ·exact⟨[],.inl ⟨rfl,rfl,ad,cap,rfl⟩,by simp,fun j x y hx=>by simp at hx⟩
    ·by_cases di:rows=[]
     ·subst di;exact⟨[],.inl ⟨rfl,rfl,_,cap,rfl⟩,by simp,fun j x y hx=>by simp at hx⟩
     ·obtain⟨rfl,news,h1,h2,h3⟩:=key b off sz' rows hl xU di;refine⟨news,.inr ⟨_,cap,rfl,h1,fun j x hx=>by rw[mR];exact h2 j x hx⟩,fun u hu=>?_,h3⟩;obtain⟨j,hj⟩:=Ww hu;have jk:j<rows.flatten.length:=by rw[eL hl,<-h1];exact(Wk.1 hj).1
      exact bn.lY (h3 j _ u (Wl jk) hj)
   |_=>simp[rowsOf]at h
  |nil=>
   simp[rowsOf]at h;subst h;simp only[aW,dL,br]at hv;subst hv;exact⟨[],.inl ⟨rfl,rfl,none,0,rfl⟩,by simp,fun j x y hx=>by simp at hx⟩
  |own k n=>
   obtain⟨ad,cap,rfl,r,hk,hn,hq⟩:=hv;simp only[rowsOf,hk]at h;split at h
   ·rename_i di;simp at h;subst h;have CD:=hq di;obtain⟨h1,_,xs,dQ,hr⟩:=hI.arr k r _ hk CD;rcases dQ.2 with⟨h2,h3⟩|⟨b,cap',cur,h2,_,hh,_,_,_,_⟩
    ·have h4:r.rows=[]:=Wr h3;refine⟨[],.inl ⟨h3,rfl,ad,cap,by rw[di,h3]⟩,by simp,fun j x y hx=>by rw[h4]at hx;simp at hx⟩
    ·have hb:(Value.slice ad n cap).ownBlock=some b:=by rw[h2];rfl
     by_cases Jg:r.rows=[]
     ·refine⟨[],.inl ⟨by rw[Jg];rfl,rfl,ad,cap,by rw[di,Jg];rfl⟩,by simp,fun j x y hx=>by rw[Jg]at hx;simp at hx⟩
     ·have fB:r.sz=sz:=by
       cases xU:r.rows with
       |nil=>exact absurd xU Jg
       |cons q qs=>have e1:=h1 q (by rw[xU];simp);have e2:=hl q (by rw[xU];simp);omega
      refine⟨xs,.inr ⟨⟨b,0,none⟩,cap',by rw[h2],by rw[dQ.1,fB],dQ.cells hb⟩,fun u hu=>?_,hr⟩;obtain⟨j,hj⟩:=Ww hu;have jk:j<r.rows.flatten.length:=by rw[eL h1,<-dQ.1];exact(Wk.1 hj).1
      exact bn.lY (hr j _ u (Wl jk) hj)
   ·simp at h
  |_=>simp[rowsOf]at h
theorem oF {t ty:TypeId} {v u:Value} {v':Value} {w':World} (h:(Builtin.append_ #[t,t] ty #[v,u]).run P w=.ok v' w'):(builtin .append #[t,t] ty #[] #[v,u]).run P w=.ok (.value v') w':=bt h
theorem jH (hI:Inv g w s.V s.A) (hF:Fr w0 g0 w g) {t e:TypeId} {d de:TD} (ht:td P t=some d) (tq:d.el=some e) (he:td P e=some de) {z:List CV} (hz:de.zero=some z) (qG:z.length=de.sz) {k n:Nat} {v u:Value} (hv:br g w s.A (.own k n) v)
  {y:AV} (hy:aW g w s.A y u) {nr:List (List DV)} (D4:rowsOf s.A y=some nr) (hl:∀r∈nr,r.length=de.sz) {r:bz} (hk:s.A[k]? =some r) (hn:n=r.rows.length) (Qy:r.ev=e) (Ns:r.sz=de.sz) (hb:(n+nr.length)*de.lR<=140737488355328) (hm:n+nr.length<=9223372036854775807) {ty:TypeId}
  (hK:K (.c (.own k (n+nr.length))) s.V (s.A.set k {r with rows:=r.rows++nr})):dM P w0 g0 g w s.A (do pure (.value (<-Builtin.append_ #[t,t] ty #[v,u]))) K:=by
 obtain⟨i,hi,pg,CG,h0⟩:=gm he;obtain⟨zv,GS,Gr⟩:=h0 z hz;have IM:zv.cells.size=i.size:=by have:=iV Gr;simp at this;omega
 obtain⟨ad,cap,Ua,r',o9,_,hq⟩:=hv;obtain rfl:r=r':=by rw[hk]at o9;exact Option.some.inj o9
 have CD:=hq hn;subst hn;subst Qy;obtain⟨h1,_,xs,dQ,_⟩:=hI.arr k r v hk CD;obtain⟨news,vX,vk,zD⟩:=tt hI hy D4 hl;have yB:w.ownsRow 0 r.ev i.size v r.rows.length xs:=by rw[pg,<-Ns];exact dQ
 obtain⟨v',w',fC,sY,hc⟩:=mo (P:=P) t ty r.ev i zv (mQ ht tq) hi GS IM v r.rows.length xs yB u nr.length news (by rw[pg];exact vX) vk (by simp only[maxLen];omega) (by rw[CG];exact hb);have Nt:(dM P w0 g0 g w s.A (do pure (.value (<-Builtin.append_ #[t,t] ty #[v,u]))) K):=by
  by_cases di:nr=[]
  ·subst di;have AK:news=[]:=by
    rcases vX with⟨_,h,_⟩|⟨_,_,_,h,_⟩
    ·exact h
    ·exact Wr (by simpa using h)
   subst AK;obtain⟨a0,c0,rfl⟩:∃a0 c0,u=.slice a0 0 c0:=by
    rcases vX with⟨_,_,h⟩|⟨a0,c0,h,_⟩
    ·exact h
    ·exact⟨some a0,c0,h⟩
   have Nu:(Builtin.append_ #[t,t] ty #[v,.slice a0 0 c0]).run P w=.ok v w:=by
    have IN:∀(ad:Option Addr) (c:Nat) (w:World),(Builtin.firstCells i.size 0 (.slice ad 0 c)).run P w=.ok #[] w:=fun ad c w=>by
     cases ad<;>simp[Builtin.firstCells,loadCells,loadCellsFrom]
    rcases yB.2 with⟨h6,h7⟩|⟨gb,cp,cur,h6,_,_,CB,_⟩
    ·rw[h6];simp[Builtin.append_,run_underlying (mQ ht tq),sizeOf,typeInfo,hi,Builtin.lenOf,IN]
    ·rw[h6];simp[Builtin.append_,run_underlying (mQ ht tq),sizeOf,typeInfo,hi,Builtin.lenOf,IN,CB,storeCells]
   have bS:s.A.set k {r with rows:=r.rows++[]}=s.A:=by
    apply WB;intro j;rw[dw hk];by_cases e:j=k
    ·subst e;simp[hk]
    ·simp[e]
   rw[bS]at hK;exact dM.value hI hF (bt Nu) (x:=.c (.own k (r.rows.length+0))) ⟨ad,cap,Ua,r,hk,V6 _,fun _=>CD⟩ hK
  ·obtain⟨g',xL,gD,s3,Ub,_,_⟩:=hI.grow hF hk CD nr di news (fun row ef=>by rw[hl row ef,Ns]) zD
    (fun xs' gD=>by
     obtain rfl:xs'=xs:=by
      rcases gD.2 with⟨e1,e2⟩|⟨b1,c1,cu1,e1,_,e3,_,_,_,e4⟩<;>rcases dQ.2 with⟨f1,f2⟩|⟨b2,c2,cu2,f1,_,f3,_,_,_,f4⟩
      ·have:=gD.1;have:=dQ.1;rw[e2]at*;simp at*;simp[*]
      ·rw[e1]at f1;simp at f1
      ·rw[e1]at f1;simp at f1
      ·rw[e1]at f1;simp at f1;obtain⟨rfl,rfl⟩:=f1;rw[e3]at f3;simp at f3;subst f3;rw[<-e4,<-f4]
     rw[show r.sz=i.size by omega];exact sY) hc
   refine⟨_,_,_,_,_,_,g',hK,bt fC,.inl rfl,?_,xL,gD,s3⟩;have MO:∃ad' cap',v'=.slice ad' (r.rows.length+nr.length) cap':=by
    rcases sY.2 with⟨e1,e2⟩|⟨b1,c1,cu1,e1,_⟩
    ·exact⟨none,0,by rw[e1,e2]⟩
    ·exact⟨_,_,e1⟩
   obtain⟨ad',cap',rfl⟩:=MO;refine⟨ad',cap',rfl,{r with rows:=r.rows++nr},?_,by simp,fun _=>Ub⟩;rw[dw hk];simp
 exact Nt
end
section
variable {P:Program} {g g' g0:Gh} {w w' w0:World} {V V':List (List CV)} {A A':List bz} {s:St} {a:Act} {K:AV->List (List CV)->List bz->Prop}
theorem mS (hI:Inv g w s.V s.A) (hF:Fr w0 g0 w g) {t e:TypeId} {d de:TD} (ht:td P t=some d) (tq:d.el=some e) (he:td P e=some de) {z:List CV} (hz:de.zero=some z) (qG:z.length=de.sz) {u:Value}
  {y:AV} (hy:aW g w s.A y u) {nr:List (List DV)} (D4:rowsOf s.A y=some nr) (hl:∀r∈nr,r.length=de.sz) (hb:nr.length*de.lR<=140737488355328) (hm:nr.length<=9223372036854775807) {ty:TypeId}
  (hK:K (.c (.own s.A.length nr.length)) s.V (s.A++[{sz:=de.sz,ev:=e,rows:=nr,wr:=true}])):dM P w0 g0 g w s.A (do pure (.value (<-Builtin.append_ #[t,t] ty #[.slice none 0 0,u]))) K:=by
 obtain⟨g1,KH,qa,tj,fj,dB,kF⟩:=hI.qW hF {sz:=de.sz,ev:=e,rows:=[],wr:=true} (.slice none 0 0) [] (by simp) (World.ownsRow_nil w 0 e de.sz) (fun j x u h=>by simp at h) (fun b h=>by simp[Value.ownBlock]at h);have hk:(s.A++[({sz:=de.sz,ev:=e,rows:=[],wr:=true}:bz)])[s.A.length]? =some {sz:=de.sz,ev:=e,rows:=[],wr:=true}:=by simp
 have AU:rowsOf (s.A++[({sz:=de.sz,ev:=e,rows:=[],wr:=true}:bz)]) y=some nr:=by
  cases y with
  |c c=>
   cases c with
   |own k n=>
    simp only[rowsOf]at D4⊢;cases o9:s.A[k]? with
    |none=>simp[o9]at D4
    |some r=>rw[Wm (Wk.1 o9).1,o9];simpa only[o9]using D4
   |d x=>cases x<;>exact D4
   |_=>exact D4
  |_=>exact D4
 have:=jH (P:=P) (g:=g1) (w:=w) (w0:=w0) (g0:=g0) (s:={s with A:=s.A++[{sz:=de.sz,ev:=e,rows:=[],wr:=true}]}) (K:=K) fj kF ht tq he hz qG (k:=s.A.length) (n:=0) (v:=.slice none 0 0) (u:=u)
  ⟨none,0,rfl,_,hk,V8 _,fun _=>by rw[tj,Wn (by rw[hI.lQ];exact V6 _),hI.lQ];simp⟩ (aW.ext dB hy) AU hl hk rfl rfl rfl (by simpa using hb) (by simpa using hm) (ty:=ty) (by
   simp only[Wa,WJ];have:(s.A++[({sz:=de.sz,ev:=e,rows:=[],wr:=true}:bz)]).set s.A.length {sz:=de.sz,ev:=e,rows:=nr,wr:=true}=s.A++[{sz:=de.sz,ev:=e,rows:=nr,wr:=true}]:=by simp
   rw[this];exact hK)
 obtain⟨x,V',A',nx,v,w',g',h1,h2,h3,h4,h5,h6,h7⟩:=this;exact⟨x,V',A',nx,v,w',g',h1,h2,h3,h4,h5,dB.trans h6,h7⟩
theorem CH (b:List UInt8) (i j:Nat):(bs b).extract i j=bs ((b.take j).drop i):=by
 apply ByteArray.ext;simp[bs,ByteArray.data_extract,List.extract_toArray,List.drop_take]
theorem nL (hS:iC g w s a) {o:Option Operand} {x:Option AV} (h:mq s o=some x):(x=none/\o.map a.eval=none)\/∃v u,x=some v/\o.map a.eval=some u/\aW g w s.A v u:=by
 cases o with
 |none=>simp[mq]at h;exact .inl ⟨h.symm,rfl⟩
 |some o=>
  simp only[mq,WV]at h;obtain⟨v,hv,rfl⟩:=h;exact .inr ⟨v,_,rfl,rfl,aL hS hv⟩
theorem vY (isSl:Bool) (len cap:Nat) (nM:len<=cap) {lo hi:Option AV} {vl vh:Option Value} (Gn:(lo=none/\vl=none)\/∃v u,lo=some v/\vl=some u/\aW g w A v u) (Qz:(hi=none/\vh=none)\/∃v u,hi=some v/\vh=some u/\aW g w A v u)
  {i j:Int} (MP:rP lo=some i) (GY:mP hi len=some j) (h0:0<=i) (h1:i<=j) (h2:j<=len):(Instr.sliceBounds isSl len cap vl vh none).run P w=.ok (i.toNat,j.toNat,cap) w:=by
 have SG:j<=(cap:Int):=by omega
 have QA:0<=j:=by omega
 have hb:∀{lo:Option AV} {vl:Option Value} {i:Int},((lo=none/\vl=none)\/∃v u,lo=some v/\vl=some u/\aW g w A v u)->rP lo=some i->(vl=none/\i=0)\/∃k,vl=some (.int k i):=by
  intro lo vl i h hs;rcases h with⟨rfl,rfl⟩|⟨v,u,rfl,rfl,hr⟩
  ·simp[rP]at hs;exact .inl ⟨rfl,hs.symm⟩
  ·unfold rP at hs;split at hs
   ·rename_i heq;simp at heq
   ·rename_i k n heq;simp at heq hs;subst heq;subst hs;simp only[aW,dL,br,bn]at hr;exact .inr ⟨k,by rw[hr]⟩
   ·simp at hs
 have hh:(vh=none/\j=len)\/∃k,vh=some (.int k j):=by
  rcases Qz with⟨rfl,rfl⟩|⟨v,u,rfl,rfl,hr⟩
  ·simp[mP]at GY;exact .inl ⟨rfl,GY.symm⟩
  ·unfold mP at GY;split at GY
   ·rename_i heq;simp at heq
   ·rename_i k n heq;simp at heq GY;subst heq;subst GY;simp only[aW,dL,br,bn]at hr;exact .inr ⟨k,by rw[hr]⟩
   ·simp at GY
 have rG:(j.toNat:Int)=j:=Int.toNat_of_nonneg QA;rcases hb Gn MP with⟨rfl,rfl⟩|⟨k,rfl⟩<;>rcases hh with⟨rfl,rfl⟩|⟨k',rfl⟩
 ·simp[Instr.sliceBounds]
 ·simp[Instr.sliceBounds,run_sliceBound w k' j cap _ QA SG]
 ·simp[Instr.sliceBounds,run_sliceBound w k i len _ h0 (by omega)]
 ·simp[Instr.sliceBounds,run_sliceBound w k' j cap _ QA SG,run_sliceBound w k i j.toNat _ h0 (by omega)]
theorem vn (hI:Inv g w s.V s.A) (hF:Fr w0 g0 w g) (hS:iC g w s a) {t:TypeId} {d:TD} (ht:td P t=some d) (hd:d.cS=true) {b:List UInt8} {v:Value} (hv:aW g w s.A (.c (.d (.str b))) v) {lo hi:Option Operand} {l h:Option AV} (hl:mq s lo=some l) (hh:mq s hi=some h)
  {i j:Int} (MP:rP l=some i) (GY:mP h b.length=some j) (h0:0<=i) (h1:i<=j) (h2:j<=b.length) (hK:K (.c (.d (.str ((b.take j.toNat).drop i.toNat)))) s.V s.A):
  dM P w0 g0 g w s.A (do pure (.value (<-Instr.sliceAt t v (lo.map a.eval) (hi.map a.eval) none))) K:=by
 simp only[aW,dL,br,bn]at hv;subst hv;have hu:=qY ht hd;have hb:=vY (P:=P) (g:=g) (w:=w) (A:=s.A) false (bs b).size (bs b).size (V6 _) (nL hS hl) (nL hS hh) MP (by rw[qb];exact GY) h0 h1 (by rw[qb];exact h2);refine dM.value hI hF (bt ?_) (x:=.c (.d (.str ((b.take j.toNat).drop i.toNat)))) (v:=.string (bs ((b.take j.toNat).drop i.toNat))) rfl hK;rw[run_sliceAt_string w t _ _ _ _ hu];simp[Instr.slice,run_underlying hu,hb,CH]
theorem AW (hI:Inv g w V A) (hF:Fr w0 g0 w g) {v:AV} {u:Value} (hv:aW g w A v u) {rows:List (List DV)} (h:rowsOf A v=some rows):
  ∃g',Inv g' w V (bT A v.cells)/\Ext g w A g' w (bT A v.cells)/\Fr w0 g0 w g'/\bn g'.im w (.sl rows) u:=by
 cases v with
 |c c=>
  have hd:nI A c=some (.sl rows):=by
   cases c with
   |d x=>cases x<;>simp[rowsOf]at h;subst h;rfl
   |nil=>simp[rowsOf]at h;subst h;rfl
   |own k n=>
    simp only[rowsOf]at h;simp only[nI];split at h
    ·split at h
     ·simp at h;subst h;simp[*]
     ·simp at h
    ·simp at h
   |_=>simp[rowsOf]at h
  obtain⟨g',h1,h2,h3,_,_,h6⟩:=rR hI hF hv hd;exact⟨g',h1,h2,h3,h6⟩
 |_=>simp[rowsOf]at h
theorem tv (hI:Inv g w s.V s.A) (hF:Fr w0 g0 w g) (hS:iC g w s a) {t e:TypeId} {d de:TD} (ht:td P t=some d) (tq:d.el=some e) (he:td P e=some de) {x:AV} {v:Value} (hv:aW g w s.A x v) {rows:List (List DV)} (hr:rowsOf s.A x=some rows) {lo hi:Option Operand} {l h:Option AV} (hl:mq s lo=some l) (hh:mq s hi=some h)
  {i j:Int} (MP:rP l=some i) (GY:mP h rows.length=some j) (h0:0<=i) (h1:i<=j) (h2:j<=rows.length) (fB:∀r∈rows,r.length=de.sz) (hK:K (.c (.d (.sl ((rows.take j.toNat).drop i.toNat)))) s.V (bT s.A x.cells)):
  dM P w0 g0 g w s.A (do pure (.value (<-Instr.sliceAt t v (lo.map a.eval) (hi.map a.eval) none))) K:=by
 obtain⟨g',xL,gD,s3,hd⟩:=AW hI hF hv hr;have hu:=mQ ht tq;obtain⟨inf,Nv,Lp,_,_⟩:=gm he;simp only[bn]at hd;obtain⟨ad,cap,rfl,nM,xU⟩:=hd;have hb:=vY (P:=P) (g:=g) (w:=w) (A:=s.A) true rows.length cap nM (nL hS hl) (nL hS hh) MP GY h0 h1 h2;have fC:(Instr.sliceAt t (.slice ad rows.length cap) (lo.map a.eval) (hi.map a.eval) none).run P w=.ok (.slice (if cap=i.toNat then ad else ad.map (·.add (i.toNat*de.sz))) (j.toNat-i.toNat) (cap-i.toNat)) w:=by
  simp[Instr.sliceAt,Instr.slice,run_underlying hu,hb,sizeOf,typeInfo,Nv,Lp]
 refine⟨_,_,_,_,_,_,g',hK,bt fC,.inl rfl,?_,xL,gD,s3⟩;simp only[aW,dL,br,bn];have hlen:((rows.take j.toNat).drop i.toNat).length=j.toNat-i.toNat:=by simp;omega
 refine⟨_,_,by rw[hlen],by rw[hlen];omega,?_⟩;by_cases di:(rows.take j.toNat).drop i.toNat=[]
 ·exact .inl di
 ·have q0:0<j.toNat-i.toNat:=by rw[<-hlen];exact WE.2 di
  rcases xU with rfl|⟨b,off,sz,rfl,qV,xU⟩
  ·simp at di
  ·have QB:sz=de.sz:=by
    cases rows with
    |nil=>simp at di
    |cons r rs=>simp only[cv]at xU;have:=fB r (by simp);omega
   subst QB;have hmul:(i.toNat+(j.toNat-i.toNat))*de.sz<=rows.length*de.sz:=Wb _ (by omega);rw[V7]at hmul;refine .inr ⟨b,off+i.toNat*de.sz,de.sz,by rw[if_neg (by omega)];simp[mR],by rw[hlen];omega,cv.mk fun q r hq=>?_⟩;have QC:rows[i.toNat+q]? =some r:=by
    rw[Wx,Wq]at hq;split at hq
    ·exact hq
    ·cases hq
   have:=cv.at_ xU QC;rwa[V7,<-V9]at this
theorem aj {α:Type} {o:Option α} {k:α->Prop} {Q:Prop} (h:bU o k) (f:∀v,o=some v->k v->Q):Q:=by
 obtain⟨v,h1,h2⟩:=cI h;exact f v h1 h2
theorem vZ (hI:Inv g w V A):∀{cs:List AV} {ls:List Nat} {vs:List Value},GM cs=some ls->vs.length=cs.length->(∀(j:Nat) c u,cs[j]? =some c->vs[j]? =some u->aW g w A c u)->
  ∃bks:List Nat,vs=bks.map (fun b=>Value.pointer (some ⟨b,0,none⟩))/\bks.length=ls.length/\∀(i l b:Nat),ls[i]? =some l->bks[i]? =some b->g.ob[l]? =some b
 |[],ls,vs,h,hl,_=>by
  simp[GM]at h;subst h;have:vs=[]:=Wr (by simpa using hl);subst this;exact⟨[],rfl,rfl,fun i l b h=>by simp at h⟩
 |c::r,ls,vs,h,hl,hr=>by
  cases vs with
  |nil=>simp at hl
  |cons v vs=>
   unfold GM at h;split at h
   ·rename_i heq;simp at heq
   ·rename_i l r' heq;simp at heq;obtain⟨rfl,rfl⟩:=heq;simp only[WV]at h;obtain⟨ls',h1,rfl⟩:=h;obtain⟨b,hb,hv⟩:∃b,g.ob[l]? =some b/\v=.pointer (some ⟨b,0,none⟩):=hr 0 _ v rfl rfl;obtain⟨bks,h2,h3,h4⟩:=vZ hI h1 (vs:=vs) (by simpa using hl) (fun j c u h5 h6=>hr (j+1) c u (by simpa using h5) (by simpa using h6));refine⟨b::bks,by simp[hv,h2],by simp[h3],fun i l' b' h5 h6=>?_⟩;cases i with
    |zero=>simp at h5 h6;subst h5;subst h6;exact hb
    |succ i=>simp at h5 h6;exact h4 i l' b' h5 h6
   ·simp at h
theorem l4 (hS:iC g w s a):∀{os:List Operand} {xs:List AV},iB s os=some xs->xs.length=os.length/\∀(j:Nat) x u,xs[j]? =some x->(os.map a.eval)[j]? =some u->aW g w s.A x u
 |[],xs,h=>by simp[iB]at h;subst h;exact⟨rfl,fun j x u h=>by simp at h⟩
 |o::r,xs,h=>by
  simp only[iB]at h;split at h
  ·rename_i v l h1 h2;simp at h;subst h;obtain⟨h3,h4⟩:=l4 hS h2;refine⟨by simp[h3],fun j x u h5 h6=>?_⟩;cases j with
   |zero=>simp at h5 h6;subst h5;subst h6;exact aL hS h1
   |succ j=>simp at h5 h6;exact h4 j x u h5 (by simpa using h6)
  ·simp at h
theorem CI {v:AV} {u:Value} {n:Nat} (hv:aW g w A v u) (h:zB v=some n):(∃b,v=.c (.d (.str b))/\u=.string (bs b)/\n=b.length)\/((∀b,v≠.c (.d (.str b)))/\∃a c,u=.slice a n c):=by
 unfold zB at h;split at h
 ·rename_i b;simp at h;subst h;exact .inl ⟨b,rfl,hv,rfl⟩
 ·simp at h;subst h;simp only[aW,dL,br,bn]at hv;obtain⟨a,c,rfl,_⟩:=hv;exact .inr ⟨by simp,a,c,rfl⟩
 ·simp at h;subst h;simp only[aW,dL,br]at hv;exact .inr ⟨by simp,none,0,hv⟩
 ·simp at h;subst h;obtain⟨a,c,rfl,_⟩:=hv;exact .inr ⟨by simp,a,c,rfl⟩
 ·simp at h
theorem dM.GZ {A:List bz} {m:Sem Next} (h:dM P w0 g0 g w A m fun x V A=>∃(k:Nat) (r:bz),x=.c (.own k r.rows.length)/\A[k]? =some r/\K (.c (.d (.sl r.rows))) V (A.set k {r with wr:=false})):dM P w0 g0 g w A m K:=by
 obtain⟨x,V',A',nx,v,w',g',⟨k,r,rfl,hk,hK⟩,hm,hn,hr,hI,hx,hF⟩:=h;obtain⟨_,_,e,r',o9,_,hv⟩:=hr;obtain rfl:r=r':=Option.some.inj (hk.symm.trans o9);obtain⟨g2,AM,j8,Cq,_,_,hd⟩:=hI.seal hF hk (hv rfl);exact⟨_,_,_,nx,v,w',g2,hK,hm,hn,hd,AM,hx.trans j8,Cq⟩
set_option maxHeartbeats 1000000 in
theorem E6 (hI:Inv g w s.V s.A) (hF:Fr w0 g0 w g) (hS:iC g w s a) {ow:Bool} {o:Oper} (h:eO P s ow o.op K):dM P w0 g0 g w s.A (execOp a.eval o) K:=by
 obtain⟨dst,op,type,pos,after,guard⟩:=o;simp only at h;cases op with
 |move x=>
  refine aj h fun v h1 h2=>?_
  exact dM.value hI hF (m:=execOp a.eval ⟨dst,.move x,type,pos,after,guard⟩) rfl (aL hS h1) h2
 |assign x=>
  refine aj h fun v h1 h2=>?_
  exact dM.value hI hF (m:=execOp a.eval ⟨dst,.assign x,type,pos,after,guard⟩) rfl (aL hS h1) h2
 |pick c x y=>
  refine aj h fun v h1 h2=>?_
  have hc:=aL hS h1;split at h2
  ·rename_i t;simp only[aW,dL,br,bn]at hc;have fC:∀u,(if t then a.eval x else a.eval y)=u->(execOp a.eval ⟨dst,.pick c x y,type,pos,after,guard⟩).run P w=.ok (.value u) w:=fun u hu=>by
    simp[execOp,hc,asBool,hu]
   cases t with
   |true=>simp only[if_true]at h2;exact aj h2 fun v h3 h4=>dM.value hI hF (fC _ rfl) (aL hS h3) h4
   |false=>simp only[WU,if_false]at h2;exact aj h2 fun v h3 h4=>dM.value hI hF (fC _ rfl) (aL hS h3) h4
  ·exact h2.elim
 |alloc e=>exact aj h fun d h1 h2=>aj h2 fun z h3 h4=>AO hI hF h1 h3 h4
 |box e x=>exact aj h fun v h1 h2=>E4 hI hF (aL hS h1) h2.1 h2.2
 |build t parts=>exact aj h fun d h1 h2=>aj h2 fun z h3 h4=>aj h4 fun ps h5 h6=>aj h6 fun cs h7 h8=>AT hI hF hS h1 h3 h8.2.1 h5 h7 h8.2.2
 |buildSlice t len parts=>
  exact aj h fun d h1 h2=>aj h2 fun e h3 h4=>aj h4 fun de h5 h6=>aj h6 fun rows h7 h8=>aj h8 fun ds h9 cO=>tn hI hF hS h1 h3 h5 h7 h9 cO.1 cO.2.1 cO.2.2.1 cO.2.2.2.1 cO.2.2.2.2
 |load t x=>
  refine aj h fun d h1 h2=>aj h2 fun p h3 h4=>?_
  split at h4
  ·exact aj h4 fun cs h5 h6=>aj h6 fun v h7 h8=>CE hI hF h1 (aL hS h3) h5 h7 h8
  ·exact h4.elim
 |store t x y=>
  refine aj h fun d h1 h2=>aj h2 fun p h3 h4=>aj h4 fun v h5 h6=>?_
  obtain⟨h7,h8,h9⟩:=h6;split at h9
  ·exact aj h9 fun row cO eE=>vi hI hF h1 (aL hS h3) (aL hS h5) h7 h8 cO eE.1 eE.2
  ·refine aj h9 fun r cO eE=>?_
   obtain⟨fS,dG,gA⟩:=eE;exact aj gA fun row qH rH=>aj rH fun ds AX rI=>vj hI hF h1 (aL hS h3) (aL hS h5) h7 h8 cO fS dG qH AX rI.1 rI.2.1 rI.2.2
  ·exact h9.elim
 |nilCheck x=>
  refine aj h fun v h1 h2=>?_
  have hv:=aL hS h1;split at h2
  ·obtain⟨b,hb,e⟩:=hv;exact dM.value hI hF (v:=a.eval x) (by simp only[execOp,e];rfl) (aL hS h1) h2
  ·obtain⟨b,o,e,_⟩:=hv;exact dM.value hI hF (v:=a.eval x) (by simp only[execOp,e];rfl) (aL hS h1) h2
  ·obtain⟨b,o,e,_⟩:=hv;exact dM.value hI hF (v:=a.eval x) (by simp only[execOp,e];rfl) (aL hS h1) h2
  ·obtain⟨b,e,_⟩:=hv;exact dM.value hI hF (v:=a.eval x) (by simp only[execOp,e];rfl) (aL hS h1) h2
  ·exact h2.elim
 |binOp op t x y t'=>
  refine aj h fun u h1 h2=>aj h2 fun v h3 h4=>?_
  split at h4
  ·rename_i r hr;obtain⟨z,h5,h6⟩:=zC (P:=P) (t:=t) (ox:=x) (oy:=y) (aL hS h1) (aL hS h3) hr;exact dM.value hI hF (bt h5) h6 h4
  ·split at h4
   ·rename_i r hr;obtain⟨z,h5,h6⟩:=x5 (P:=P) (t:=t) (ox:=x) (oy:=y) (aL hS h1) (aL hS h3) hr;exact dM.value hI hF (bt h5) h6 h4
   refine aj h4 fun r h5 h6=>aj h6 fun d h7 h8=>?_
   obtain⟨z,h9,cO⟩:=xZ (P:=P) (ox:=x) (oy:=y) h7 h8.1 (aL hS h1) (aL hS h3) h5;exact dM.value hI hF (bt h9) cO h8.2
 |unOp op t x=>
  refine aj h fun u h1 h2=>aj h2 fun r h3 h4=>?_
  obtain⟨z,h5,h6⟩:=E5 (P:=P) (aL hS h1) h3;exact dM.value hI hF (bt h5) h6 h4
 |convert src dst x=>
  refine aj h fun u h1 h2=>aj h2 fun ds h3 h4=>aj h4 fun dd h5 h6=>?_
  have hv:=aL hS h1;split at h6
  ·rename_i k n;refine aj h6 fun d h7 h8=>?_
   simp only[aW,dL,br,bn]at hv;obtain⟨de,i,hu,_⟩:=lB h3;unfold Sz at h7;split at h7
   ·rename_i k' h9;simp only[Option.some.injEq]at h7;subst h7;refine dM.value hI hF (v:=.int k' (k'.wrap n)) (bt ?_) (x:=.c (.d (.int k' (k'.wrap n)))) rfl h8;rw[hv];simp[convert,run_underlying hu,run_underlying (KD h5 h9),Conv.intToInt]
   ·split at h7
    ·rename_i cO;simp only[Option.some.injEq]at h7;subst h7;refine dM.value hI hF (v:=.string (bs [UInt8.ofNat n.toNat])) (bt ?_) (x:=.c (.d (.str [UInt8.ofNat n.toNat]))) rfl h8;rw[hv];have he:Utf8.encode n=bs [UInt8.ofNat n.toNat]:=by
      have CJ:Utf8.valid n=true:=by simp[Utf8.valid];omega
      simp only[Utf8.encode,CJ,if_true];rw[if_pos (by omega)]
      rfl
     simp[convert,run_underlying hu,run_underlying (qY h5 cO.1),Conv.intToString,he]
    ·cases h7
  ·rename_i b;simp only[aW,dL,br,bn]at hv;refine dM.value hI hF (v:=.string (bs b)) (bt ?_) (x:=.c (.d (.str b))) rfl h6.2.2;rw[hv];simp[convert,run_underlying (qY h3 h6.2.1),run_underlying (qY h5 h6.1)]
  ·rename_i rows;obtain⟨h7,h8⟩:=h6;exact aj h8 fun e h9 cO=>aj cO fun de eE fS=>aj fS.2 fun b dG gA=>dM.value hI hF (v:=.string (bs b)) (bt (AS (g:=g) h3 h5 h7 h9 eE fS.1 hv dG)) (x:=.c (.d (.str b))) rfl gA
  ·exact h6.elim
 |makeFunc fn first captured=>
  cases fn with
  |func f=>
   obtain⟨h1,h2⟩:=h;refine aj h2 fun cs h3 h4=>aj h4 fun ls h5 h6=>?_
   obtain⟨h7,h8⟩:=l4 hS h3;obtain⟨bks,h9,cO,eE⟩:=vZ hI h5 (vs:=captured.toList.map a.eval) (by simp[h7]) h8;have hf:first.map a.eval= #[]:=by
    have:first= #[]:=Array.eq_empty_of_size_eq_zero h1
    simp[this]
   have hc:captured.map a.eval=(bks.map fun b=>Value.pointer (some ⟨b,0,none⟩)).toArray:=by
    rw[<-h9,<-WR,Array.toArray_toList]
   exact dM.value hI hF (v:=.func (.func f) #[] (bks.map fun b=>Value.pointer (some ⟨b,0,none⟩)).toArray) (by simp[execOp,Instr.makeFunc,hf,hc]) (x:=.c (.fn f ls)) ⟨bks,rfl,cO,eE⟩ h6
  |_=>exact h.elim
 |makeSlice t l c=>
  refine aj h fun d h1 h2=>aj h2 fun e h3 h4=>aj h4 fun de h5 h6=>aj h6 fun z h7 h8=>aj h8 fun dz h9 cO=>aj cO fun vl eE fS=>aj fS fun vc dG gA=>?_
  have e1:=aL hS eE;have e2:=aL hS dG;split at gA
  ·rename_i kl n kc m;simp only[aW,dL,br,bn]at e1 e2;obtain⟨rfl,qH,rH,AX,rI,Lr,IU⟩:=gA;have:=vm (P:=P) (K:=K) hI hF h1 h3 h5 h7 h9 (kl:=kl) (kc:=kc) qH rH AX rI Lr IU;simpa only[execOp,e1,e2]using this
  ·exact gA.elim
 |slice t x lo hi mx=>
  obtain⟨rfl,h⟩:=h;refine aj h fun d h1 h2=>aj h2 fun v h3 h4=>aj h4 fun l h5 h6=>aj h6 fun hh h7 h8=>?_
  have hv:=aL hS h3;split at h8
  ·obtain⟨h9,cO⟩:=h8;exact aj cO fun i eE fS=>aj fS fun j dG gA=>vn hI hF hS h1 h9 hv h5 h7 eE dG gA.1 gA.2.1 gA.2.2.1 gA.2.2.2
  ·exact aj h8 fun rows h9 cO=>aj cO fun e eE fS=>aj fS fun de dG gA=>aj gA fun i qH rH=>aj rH fun j AX rI=>
    tv hI hF hS h1 eE dG hv h9 h5 h7 qH AX rI.1 rI.2.1 rI.2.2.1 rI.2.2.2.1 rI.2.2.2.2
 |fieldAddr t x f=>
  refine aj h fun d h1 h2=>aj h2 fun fo h3 h4=>?_
  obtain⟨off,sz⟩:=fo;obtain⟨h5,h6⟩:=h4;refine aj h6 fun v h7 h8=>?_
  have hv:=aL hS h7;have fC:=fun b o=>pj (P:=P) (w:=w) h1 h3 h5 b o
  split at h8
  ·rename_i l o;obtain⟨b,hb,e⟩:=hv;exact dM.value hI hF (v:=.pointer (some ⟨b,o+off,none⟩)) (bt (by rw[e];exact fC b o)) (x:=.c (.ptr l (o+off))) ⟨b,hb,rfl⟩ h8
  ·rename_i r o;obtain⟨b,o',e,h9,cO⟩:=hv;exact dM.value hI hF (v:=.pointer (some ⟨b,o'+o+off,none⟩)) (bt (by rw[e];exact fC b _)) (x:=.c (.ip r (o+off))) ⟨b,o',by rw[V9],h9,cO⟩ h8
  ·rename_i k n i o;obtain⟨b,e',e,r,h9,cO,eE⟩:=hv;refine dM.value hI hF (v:=.pointer (some ⟨b,e'+off,none⟩)) (bt (by rw[e];exact fC b _)) (x:=.c (.op k n i (o+off))) ⟨b,e'+off,rfl,r,h9,cO,fun fS=>?_⟩ h8;obtain⟨cap,dG,gA⟩:=eE fS;exact⟨cap,dG,by omega⟩
  ·exact h8.elim
 |indexAddr t x ix=>
  refine aj h fun d h1 h2=>aj h2 fun v h3 h4=>aj h4 fun i h5 h6=>?_
  have hv:=aL hS h3;have Cs:=aL hS h5;split at h6
  ·rename_i k n;simp only[aW,dL,br,bn]at Cs;obtain⟨h0,h6⟩:=h6;split at h6
   ·rename_i rows;refine aj h6 fun e h7 h8=>aj h8 fun de h9 cO=>aj cO fun row eE fS=>?_
    simp only[aW,dL,br,bn]at hv;obtain⟨ad,cap,e1,nM,hr⟩:=hv;have ay:=(Wk.1 eE).1;rcases hr with rfl|⟨b,off,sz,rfl,qV,xU⟩
    ·simp at eE
    ·obtain⟨dG,gA⟩:=cv.at_ xU eE;have fB:sz=de.sz:=by omega
     subst fB;have hmul:(n.toNat+1)*de.sz<=rows.length*de.sz:=Wb _ ay;rw[V7,Wd]at hmul;exact dM.value hI hF (v:=.pointer (some ⟨b,off+n.toNat*de.sz,none⟩)) (bt (by rw[e1,Cs];exact pk h1 h7 h9 h0 ay)) (x:=.c (.ip row 0)) ⟨b,off+n.toNat*de.sz,rfl,by omega,gA⟩ fS.2
   ·rename_i k' m;refine aj h6 fun e h7 h8=>aj h8 fun de h9 cO=>aj cO fun r eE fS=>?_
    obtain⟨dG,gA,qH,rH⟩:=fS;obtain⟨ad,cap,e1,r',o9,hn,hq⟩:=hv;obtain rfl:r=r':=by rw[eE]at o9;exact Option.some.inj o9
    have CD:=hq dG;obtain⟨_,_,xs,dQ,_⟩:=hI.arr k' r _ eE CD;rcases dQ.2 with⟨e2,e3⟩|⟨b,cap',cur,e2,_⟩
    ·omega
    ·have e4:a.eval x=.slice (some ⟨b,0,none⟩) m cap':=by rw[e2,dG]
     refine dM.value hI hF (v:=.pointer (some ⟨b,0+n.toNat*de.sz,none⟩)) (bt (by rw[e4,Cs];exact pk h1 h7 h9 h0 gA)) (x:=.c (.op k' m n.toNat 0)) ⟨b,_,rfl,r,eE,hn,fun _=>⟨cap',by rw[<-e4];exact CD,by rw[qH];omega⟩⟩ rH
   ·rename_i l off;refine aj h6 fun le h7 h8=>?_
    obtain⟨len,e⟩:=le;refine aj h8 fun de h9 cO=>?_
    obtain⟨b,hb,e1⟩:=hv;exact dM.value hI hF (v:=.pointer (some ⟨b,off+n.toNat*de.sz,none⟩)) (bt (by rw[e1,Cs];exact vW h1 h7 h9 h0 cO.1)) (x:=.c (.ptr l (off+n.toNat*de.sz))) ⟨b,hb,rfl⟩ cO.2
   ·exact h6.elim
  ·exact h6.elim
 |index t x ix=>
  refine aj h fun d h1 h2=>aj h2 fun v h3 h4=>aj h4 fun i h5 h6=>?_
  have hv:=aL hS h3;have Cs:=aL hS h5;split at h6
  ·rename_i b k n;simp only[aW,dL,br,bn]at hv Cs;obtain⟨h7,h0,h8⟩:=h6;refine aj h8 fun c h9 cO=>?_
   refine dM.value hI hF (v:=.int .u8 c.toNat) (bt ?_) (x:=.c (.d (.int .u8 c.toNat))) rfl cO;have ay:=(Wk.1 h9).1;have hc:(bs b)[n.toNat]? =some c:=by
    have:n.toNat<(bs b).size:=by rw[qb];exact ay
    rw[getElem?_pos (bs b) n.toNat this];exact congrArg some (Wk.1 h9).2
   rw[hv,Cs];simp[Instr.index,asIntOf,run_underlying (qY h1 h7),h0,hc]
  ·rename_i xs k n;simp only[aW,dL,br,bn]at Cs;obtain⟨us,e1,hl,hc⟩:=hv;refine aj h6 fun le h7 h8=>?_
   obtain⟨len,e⟩:=le;refine aj h8 fun de h9 cO=>?_
   obtain⟨eE,fS,h0,dG,gA⟩:=cO;refine aj gA fun c qH rH=>?_
   have ay:=(Wk.1 qH).1;have hu:us[n.toNat]? =some (us[n.toNat]'(by omega)):=Wl (by omega);refine dM.value hI hF (v:=us[n.toNat]'(by omega)) (bt ?_) (x:=.c c) (hc n.toNat c _ qH hu) rH;obtain⟨inf,hi,fB,_,_⟩:=gm h9;obtain⟨dd,i2,Cr,Jh,e2⟩:=lB h9;have Jf:(isAgg e).run P w=.ok false w:=by
    rw[e2]at eE;have eE:D0 dd=false:=eE;simp only[isAgg,Sem.run_bind,run_underlying Cr,Result.andThen_ok];cases dd<;>first|rfl|simp[D0]at eE
   rw[e1,Cs];have Nw:0<=n/\n<len:=⟨h0,dG⟩;simp[Instr.index,asIntOf,run_underlying (KC h1 h7),Nw,sizeOf,typeInfo,hi,fB,fS,part,Jf,hu]
  ·exact h6.elim
 |extract x i=>
  refine aj h fun v h1 h2=>?_
  have hv:=aL hS h1;split at h2
  ·rename_i xs;refine aj h2 fun u h3 h4=>?_
   obtain⟨vs,e,hl,hr⟩:=hv;have ay:=(Wk.1 h3).1;have SH:vs[i]? =some (vs[i]'(by omega)):=Wl (by omega);have PF:=hr i u _ h3 SH;have fC:(execOp a.eval ⟨dst,.extract x i,type,pos,after,guard⟩).run P w=.ok (.value (vs[i]'(by omega))) w:=bt (by
    rw[e];simp[Instr.extract,SH])
   split at h4
   ·exact h4.elim
   ·rename_i jo;refine dM.value hI hF fC (x:=u) ?_ h4;cases u with
    |a8 ys=>exact absurd rfl (jo ys)
    |_=>exact PF
  ·exact h2.elim
 |call c=>
  obtain⟨callee,args,argTypes⟩:=c;cases callee with
  |builtin b=>
   obtain⟨consts,dZ⟩:∃consts,∀w,(execOp a.eval ⟨dst,.call ⟨.builtin b,args,argTypes⟩,type,pos,after,guard⟩).run P w=(builtin b argTypes type consts (args.map a.eval)).run P w:=
    ⟨_,fun w=>by simp only[execOp,resolve,Sem.run_bind,Sem.run_pure,Result.andThen_ok,invoke];rfl⟩
   cases b with
   |len=>
    refine aj h fun x h1 h2=>aj h2 fun v h3 h4=>aj h4 fun t h5 h6=>aj h6 fun d h7 h8=>aj h8 fun n h9 cO=>?_
    obtain⟨_,fS,dG⟩:=cO;have hv:=aL hS h3;refine dM.value hI hF (v:=.int .i64 n) ((dZ w).trans (bt ?_)) (x:=.c (.d (.int .i64 n))) rfl dG;have ha:(args.map a.eval)[0]? =some (a.eval x):=by simp[h1]
    rcases CI hv h9 with⟨b,rfl,gA,qH⟩|⟨gA,ad,cp,qH⟩
    ·simp only at fS;simp[Builtin.len_,h5,ha,gA,run_underlying (qY h7 fS),goInt,qb,qH]
    ·have tq:d.el.isSome=true:=by
      split at fS
      ·rename_i b;exact absurd rfl (gA b)
      ·exact fS
     obtain⟨e,he⟩:=WW.1 tq;simp[Builtin.len_,h5,ha,qH,run_underlying (mQ h7 he),goInt]
   |append=>
    refine aj h fun x h1 h2=>aj h2 fun y h3 h4=>aj h4 fun t h5 h6=>?_
    obtain⟨h7,h8⟩:=h6;refine aj h8 fun d h9 cO=>aj cO fun e eE fS=>aj fS fun de dG gA=>?_
    obtain⟨_,rH,AX⟩:=gA;refine aj rH fun z hz qG=>aj AX fun v rI Lr=>aj Lr fun u IU Nx=>aj Nx fun nr Ji QD=>?_
    obtain⟨Jj,Jk⟩:=QD;have hv:=aL hS rI;have hu:=aL hS IU;have pq:∀w,(builtin .append argTypes type consts (args.map a.eval)).run P w=(do pure (.value (<-Builtin.append_ #[t,t] type #[a.eval x,a.eval y])):Sem Next).run P w:=fun w=>by
     have ha:(args.map a.eval)[0]? =some (a.eval x):=by simp[h1]
     have hb:(args.map a.eval)[1]? =some (a.eval y):=by simp[h3]
     simp only[builtin,Builtin.append_,h5,h7,ha,hb]
     rfl
    have back:dM P w0 g0 g w s.A (do pure (.value (<-Builtin.append_ #[t,t] type #[a.eval x,a.eval y]))) K->dM P w0 g0 g w s.A (execOp a.eval ⟨dst,.call ⟨.builtin .append,args,argTypes⟩,type,pos,after,guard⟩) K:=by
     rintro⟨x',V',A',nx,v',w',g',k1,k2,k3⟩;exact⟨x',V',A',nx,v',w',g',k1,(dZ w).trans ((pq w).trans k2),k3⟩
    split at Jk
    ·rename_i k n;refine aj Jk fun r Jl MQ=>?_
     obtain⟨MR,SI,Ny,SJ,SK,SM⟩:=MQ;cases ow with
     |false=>exact back (jH hI hF h9 eE dG hz qG hv hu Ji Jj Jl MR SI Ny SJ SK (by simpa using SM))
     |true=>
      have ay:=(Wk.1 Jl).1;exact back (dM.GZ (jH hI hF h9 eE dG hz qG hv hu Ji Jj Jl MR SI Ny SJ SK ⟨k,{r with rows:=r.rows++nr},by simp[MR],by simp[ay],by simpa using SM⟩))
    ·simp only[aW,dL,br]at hv;refine back ?_;rw[hv];obtain⟨Jl,MQ,MR⟩:=Jk;cases ow with
     |false=>exact mS hI hF h9 eE dG hz qG hu Ji Jj Jl MQ (by simpa using MR)
     |true=>exact dM.GZ (mS hI hF h9 eE dG hz qG hu Ji Jj Jl MQ ⟨s.A.length,{sz:=de.sz,ev:=e,rows:=nr,wr:=true},by simp,by simp,by simpa using MR⟩)
    ·exact Jk.elim
   |max=>
    refine aj h fun x h1 h2=>aj h2 fun y h3 h4=>?_
    obtain⟨h5,h6⟩:=h4;refine aj h6 fun v h7 h8=>aj h8 fun u h9 cO=>?_
    have hv:=aL hS h7;have hu:=aL hS h9;split at cO
    ·rename_i k p k' q;simp only[aW,dL,br,bn]at hv hu;have pq:args.map a.eval= #[.int k p,.int k' q]:=by
      apply WS
      ·simp[h5]
      ·intro i Nv Jh;simp at Nv Jh
       match i,Jh with
       |0,_=>simp[WO]at h1;obtain⟨_,e⟩:=h1;simp[e,hv]
       |1,_=>simp[WO]at h3;obtain⟨_,e⟩:=h3;simp[e,hu]
     refine dM.value hI hF (v:=.int k (if q>p then q else p)) ((dZ w).trans (bt ?_)) (x:=.c (.d (.int k (if q>p then q else p)))) rfl cO;rw[pq];exact run_max_int2 w _ _ k k' p q
    ·exact cO.elim
   |min=>
    refine aj h fun x h1 h2=>aj h2 fun y h3 h4=>?_
    obtain⟨h5,h6⟩:=h4;refine aj h6 fun v h7 h8=>aj h8 fun u h9 cO=>?_
    have hv:=aL hS h7;have hu:=aL hS h9;split at cO
    ·rename_i k p k' q;simp only[aW,dL,br,bn]at hv hu;have pq:args.map a.eval= #[.int k p,.int k' q]:=by
      apply WS
      ·simp[h5]
      ·intro i Nv Jh;simp at Nv Jh
       match i,Jh with
       |0,_=>simp[WO]at h1;obtain⟨_,e⟩:=h1;simp[e,hv]
       |1,_=>simp[WO]at h3;obtain⟨_,e⟩:=h3;simp[e,hu]
     refine dM.value hI hF (v:=.int k (if q<p then q else p)) ((dZ w).trans (bt ?_)) (x:=.c (.d (.int k (if q<p then q else p)))) rfl cO;rw[pq];exact run_min_int2 w _ _ k k' p q
    ·exact cO.elim
   |_=>exact h.elim
  |_=>exact h.elim
 |_=>exact h.elim
end
end Go.Av
