/- A part. -/
import Derived.WalkKit
import Derived.WalkSpells
import Derived.ChangeKeysEq
set_option linter.unusedVariables false
set_option linter.unusedSimpArgs false
open Nat renaming le_refl->VV,add_mul->VW,zero_le->VX,add_assoc->VY,zero_add->VZ,mul_le_mul_right->V1,le_trans->V4,one_mul->V5,zero_mul->V6,mul_comm->V7,lt_or_ge->V8,lt_of_lt_of_le->V9,add_zero->Wa,add_comm->Wb
open List renaming getElem?_eq_some_iff->Wc,getElem?_eq_getElem->Wd,getElem?_append_left->We,getElem?_append_right->Wf,flatten_cons->Wg,mem_of_getElem?->Wh,getElem?_take->Wi,eq_nil_of_length_eq_zero->Wj,map_cons->Wk,length_append->Wl,size_toArray->Wm,replicate->Wn,getElem?_of_mem->Wo,getElem?_drop->Wp,mem_append->Wq,length_cons->Wr,getElem?_set_ne->Ws,ext_getElem?->Wt,append_assoc->Wu,zipIdx_cons->Wv,length_pos_iff->Ww,foldl_cons->Wx,flatMap_cons->Wy,take_left->Wz,nil_append->WA,mem_filterMap->WB,getElem?_map->WC,getElem?_eq_none->WD,all_eq_true->WE
open Array renaming getElem?_eq_some_iff->WG,length_toList->WH,toList_map->WI,ext->WJ
open Bool renaming false_eq_true->WK
open Option renaming map_eq_some_iff->WL,isSome_iff_exists->WM,getD_some->WN
open Int renaming toNat_natCast->WO
namespace Go.Av
open Go
inductive DV where
 |int (k:IntKind) (n:Int)
 |bool (b:Bool)
 |str (s:List UInt8)
 |sl (rows:List (List DV))
 |raw (v:Value)
inductive CV where
 |d (x:DV)
 |nil
 |own (k n:Nat)
 |ptr (l off:Nat)
 |np
 |ip (row:List DV) (off:Nat)
 |op (k n i off:Nat)
 |fn (f:FuncId) (cap:List Nat)
 |undef
inductive AV where
 |c (x:CV)
 |agg (xs:List CV)
 |aZ (xs:List AV)
structure bu where
 sz:Nat
 dE:TypeId
 rows:List (List DV)
 wr:Bool
structure Gh where
 ob:List Nat
 ar:List Value
 im:Nat->Nat
def bs (s:List UInt8):ByteArray:=⟨s.toArray⟩
mutual
def a6 (im:Nat->Nat) (w:World):DV->Value->Prop
 |.int k n,v=>v=.int k n
 |.bool b,v=>v=.bool b
 |.str s,v=>v=.string (bs s)
 |.sl rows,v=>∃a cap,v=.slice a rows.length cap/\rows.length<=cap/\(rows=[]\/∃b off sz,a=some ⟨b,off,none⟩/\off+rows.length*sz<=im b/\b9 im w b sz off rows)
 |.raw u,v=>v=u/\u.oneCell'=true
def b9 (im:Nat->Nat) (w:World) (b sz:Nat):Nat->List (List DV)->Prop
 |_,[]=>True
 |off,r::rs=>r.length=sz/\dh im w b off r/\b9 im w b sz (off+sz) rs
def dh (im:Nat->Nat) (w:World) (b:Nat):Nat->List DV->Prop
 |_,[]=>True
 |off,x::xs=>(∃u,w.cell? ⟨b,off,none⟩=some u/\a6 im w x u)/\dh im w b (off+1) xs
end
structure jE (im:Nat->Nat) (w:World) (im':Nat->Nat) (w':World):Prop where
 Gn:∀b,im b<=im' b
 cell:∀b o,o<im b->w'.cell? ⟨b,o,none⟩=w.cell? ⟨b,o,none⟩
theorem jE.refl (im:Nat->Nat) (w:World):jE im w im w:=⟨fun _=>VV _,fun _ _ _=>rfl⟩
theorem jE.trans {im im' im'':Nat->Nat} {w w' w'':World} (h:jE im w im' w') (k:jE im' w' im'' w''):jE im w im'' w'':=
 ⟨fun b=>V4 (h.Gn b) (k.Gn b),fun b o ho=>(k.cell b o (V9 ho (h.Gn b))).trans (h.cell b o ho)⟩
mutual
theorem a6.ft {im im':Nat->Nat} {w w':World} (h:jE im w im' w'):∀(x:DV) (v:Value),a6 im w x v->a6 im' w' x v
 |.int _ _,_,hx=>hx
 |.bool _,_,hx=>hx
 |.str _,_,hx=>hx
 |.sl rows,v,hx=>by
  simp only[a6]at hx⊢;obtain⟨a,cap,e,hc,hr⟩:=hx;refine⟨a,cap,e,hc,hr.imp id ?_⟩;rintro⟨b,off,sz,ha,hi,xP⟩;exact⟨b,off,sz,ha,V4 hi (h.Gn b),b9.ft h b sz off rows hi xP⟩
 |.raw _,_,hx=>hx
theorem b9.ft {im im':Nat->Nat} {w w':World} (h:jE im w im' w') (b sz:Nat):∀(off:Nat) (rs:List (List DV)),off+rs.length*sz<=im b->b9 im w b sz off rs->b9 im' w' b sz off rs
 |_,[],_,_=>by simp[b9]
 |off,r::rs,hi,hx=>by
  simp only[b9]at hx⊢;obtain⟨hl,hr,xQ⟩:=hx;have EK:off+sz+rs.length*sz<=im b:=by
   simp only[Wr,VW,V5]at hi;omega
  exact⟨hl,dh.ft h b off r (by omega) hr,b9.ft h b sz (off+sz) rs EK xQ⟩
theorem dh.ft {im im':Nat->Nat} {w w':World} (h:jE im w im' w') (b:Nat):∀(off:Nat) (xs:List DV),off+xs.length<=im b->dh im w b off xs->dh im' w' b off xs
 |_,[],_,_=>by simp[dh]
 |off,x::xs,hi,hx=>by
  simp only[dh]at hx⊢;obtain⟨⟨u,hu,hd⟩,hr⟩:=hx;simp only[Wr]at hi;exact⟨⟨u,(h.cell b off (by omega)).trans hu,a6.ft h x u hd⟩,dh.ft h b (off+1) xs (by omega) hr⟩
end
theorem dh.at_ {im:Nat->Nat} {w:World} {b:Nat}:∀{xs:List DV} {off:Nat},dh im w b off xs->∀{j:Nat} {x:DV},xs[j]? =some x->∃u,w.cell? ⟨b,off+j,none⟩=some u/\a6 im w x u
 |[],_,_,j,x,hx=>by simp at hx
 |y::ys,off,h,0,x,hx=>by
  simp only[dh]at h;simp at hx;subst hx;simpa using h.1
 |y::ys,off,h,j+1,x,hx=>by
  simp only[dh]at h;simp at hx;have:=dh.at_ h.2 hx;simpa[VY,Wb 1 j]using this
theorem dh.mk {im:Nat->Nat} {w:World} {b:Nat}:∀{xs:List DV} {off:Nat},(∀j x,xs[j]? =some x->∃u,w.cell? ⟨b,off+j,none⟩=some u/\a6 im w x u)->dh im w b off xs
 |[],_,_=>by simp[dh]
 |y::ys,off,h=>by
  simp only[dh];refine⟨by simpa using h 0 y rfl,dh.mk fun j x hx=>?_⟩;have:=h (j+1) x (by simpa using hx);simpa[VY,Wb 1 j]using this
theorem b9.at_ {im:Nat->Nat} {w:World} {b sz:Nat}:∀{rs:List (List DV)} {off:Nat},b9 im w b sz off rs->∀{i:Nat} {r:List DV},rs[i]? =some r->r.length=sz/\dh im w b (off+i*sz) r
 |[],_,_,i,r,hr=>by simp at hr
 |y::ys,off,h,0,r,hr=>by
  simp only[b9]at h;simp at hr;subst hr;simpa using⟨h.1,h.2.1⟩
 |y::ys,off,h,i+1,r,hr=>by
  simp only[b9]at h;simp at hr;have:=b9.at_ h.2.2 hr;rwa[show off+sz+i*sz=off+(i+1)*sz by rw[VW];omega]at this
theorem b9.mk {im:Nat->Nat} {w:World} {b sz:Nat}:∀{rs:List (List DV)} {off:Nat},(∀i r,rs[i]? =some r->r.length=sz/\dh im w b (off+i*sz) r)->b9 im w b sz off rs
 |[],_,_=>by simp[b9]
 |y::ys,off,h=>by
  simp only[b9];have h0:=h 0 y rfl;refine⟨h0.1,by simpa using h0.2,b9.mk fun i r hr=>?_⟩;have:=h (i+1) r (by simpa using hr);rwa[show off+(i+1)*sz=off+sz+i*sz by rw[VW];omega]at this
theorem a6.lA {im:Nat->Nat} {w:World}:∀{x:DV} {v:Value},a6 im w x v->v.oneCell'=true
 |.int _ _,_,h=>by simp only[a6]at h;subst h;rfl
 |.bool _,_,h=>by simp only[a6]at h;subst h;rfl
 |.str _,_,h=>by simp only[a6]at h;subst h;rfl
 |.sl _,_,h=>by simp only[a6]at h;obtain⟨_,_,rfl,_⟩:=h;rfl
 |.raw _,_,h=>by simp only[a6]at h;obtain⟨rfl,h⟩:=h;exact h
def CV.js:CV->Bool
 |.undef=>true
 |_=>false
def bc (g:Gh) (w:World) (A:List bu):CV->Value->Prop
 |.d x,v=>a6 g.im w x v
 |.nil,v=>v=.slice none 0 0
 |.own k n,v=>∃a cap,v=.slice a n cap/\∃r,A[k]? =some r/\n<=r.rows.length/\(n=r.rows.length->g.ar[k]? =some v)
 |.ptr l off,v=>∃b,g.ob[l]? =some b/\v=.pointer (some ⟨b,off,none⟩)
 |.np,v=>v=.pointer none
 |.ip row off,v=>∃b o,v=.pointer (some ⟨b,o+off,none⟩)/\o+row.length<=g.im b/\dh g.im w b o row
 |.op k n i off,v=>∃b e,v=.pointer (some ⟨b,e,none⟩)/\∃r,A[k]? =some r/\n<=r.rows.length/\(n=r.rows.length->∃cap,g.ar[k]? =some (.slice (some ⟨b,0,none⟩) n cap)/\e=i*r.sz+off)
 |.fn f cap,v=>∃bks:List Nat,v=.func (.func f) #[] (bks.map fun b=>Value.pointer (some ⟨b,0,none⟩)).toArray/\bks.length=cap.length/\∀(i l b:Nat),cap[i]? =some l->bks[i]? =some b->g.ob[l]? =some b
 |.undef,v=>v=undef
def di (g:Gh) (w:World) (A:List bu):AV->Value->Prop
 |.c x,v=>bc g w A x v
 |.agg xs,v=>∃vs:List Value,v=.agg vs.toArray/\vs.length=xs.length/\∀(i:Nat) (x:CV) (u:Value),xs[i]? =some x->vs[i]? =some u->bc g w A x u
 |.aZ _,_=>False
def aR (g:Gh) (w:World) (A:List bu):AV->Value->Prop
 |.aZ xs,v=>∃vs:List Value,v=.tuple vs.toArray/\vs.length=xs.length/\∀(i:Nat) (x:AV) (u:Value),xs[i]? =some x->vs[i]? =some u->di g w A x u
 |x,v=>di g w A x v
structure Ext (g:Gh) (w:World) (A:List bu) (g':Gh) (w':World) (A':List bu):Prop where
 ob:∀(l b:Nat),g.ob[l]? =some b->g'.ob[l]? =some b
 gr:jE g.im w g'.im w'
 ar:∀(k:Nat) r,A[k]? =some r->∃r',A'[k]? =some r'/\r'.sz=r.sz/\r.rows.length<=r'.rows.length/\(r'.rows.length=r.rows.length->g'.ar[k]? =g.ar[k]?)
theorem Ext.refl (g:Gh) (w:World) (A:List bu):Ext g w A g w A:=
 ⟨fun _ _ h=>h,.refl _ _,fun _ r h=>⟨r,h,rfl,VV _,fun _=>rfl⟩⟩
theorem Ext.trans {g g' g'':Gh} {w w' w'':World} {A A' A'':List bu} (h:Ext g w A g' w' A') (k:Ext g' w' A' g'' w'' A''):Ext g w A g'' w'' A'':=by
 refine⟨fun l b hb=>k.ob l b (h.ob l b hb),h.gr.trans k.gr,fun i r hr=>?_⟩;obtain⟨r',h1,h2,h3,h4⟩:=h.ar i r hr;obtain⟨r'',k1,k2,k3,k4⟩:=k.ar i r' h1;exact⟨r'',k1,k2.trans h2,V4 h3 k3,fun e=>(k4 (by omega)).trans (h4 (by omega))⟩
section
variable {g g':Gh} {w w':World} {A A':List bu}
theorem bc.ext (h:Ext g w A g' w' A'):∀{c:CV} {v:Value},bc g w A c v->bc g' w' A' c v
 |.d x,v,hx=>a6.ft h.gr x v hx
 |.nil,_,hx=>hx
 |.own k n,v,hx=>by
  obtain⟨a,cap,e,r,hr,hn,hv⟩:=hx;obtain⟨r',h1,_,h3,h4⟩:=h.ar k r hr;exact⟨a,cap,e,r',h1,by omega,fun en=>(h4 (by omega)).trans (hv (by omega))⟩
 |.ptr l off,v,hx=>by
  obtain⟨b,hb,e⟩:=hx;exact⟨b,h.ob l b hb,e⟩
 |.np,_,hx=>hx
 |.ip row off,v,hx=>by
  obtain⟨b,o,e,hi,hr⟩:=hx;exact⟨b,o,e,V4 hi (h.gr.Gn b),dh.ft h.gr b o row hi hr⟩
 |.op k n i off,v,hx=>by
  obtain⟨b,e,hv,r,hr,hn,hq⟩:=hx;obtain⟨r',h1,h2,h3,h4⟩:=h.ar k r hr;refine⟨b,e,hv,r',h1,by omega,fun en=>?_⟩;obtain⟨cap,hc,he⟩:=hq (by omega);exact⟨cap,(h4 (by omega)).trans hc,by rw[h2];exact he⟩
 |.fn f cap,v,hx=>by
  obtain⟨bks,e,hl,hb⟩:=hx;exact⟨bks,e,hl,fun i l b h1 h2=>h.ob l b (hb i l b h1 h2)⟩
 |.undef,_,hx=>hx
theorem di.ext (h:Ext g w A g' w' A'):∀{x:AV} {v:Value},di g w A x v->di g' w' A' x v
 |.c _,_,hx=>bc.ext h hx
 |.agg _,_,hx=>by
  obtain⟨vs,e,hl,hc⟩:=hx;exact⟨vs,e,hl,fun i x u h1 h2=>bc.ext h (hc i x u h1 h2)⟩
 |.aZ _,_,hx=>hx.elim
theorem aR.ext (h:Ext g w A g' w' A'):∀{x:AV} {v:Value},aR g w A x v->aR g' w' A' x v
 |.c x,_,hx=>di.ext (x:=.c x) h hx
 |.agg xs,_,hx=>di.ext (x:=.agg xs) h hx
 |.aZ _,_,hx=>by
  obtain⟨vs,e,hl,hc⟩:=hx;exact⟨vs,e,hl,fun i x u h1 h2=>di.ext h (hc i x u h1 h2)⟩
theorem bc.lA:∀{c:CV} {v:Value},c.js=false->bc g w A c v->v.oneCell'=true
 |.d _,_,_,h=>a6.lA h
 |.nil,_,_,h=>by simp only[bc]at h;subst h;rfl
 |.own _ _,_,_,h=>by obtain⟨_,_,rfl,_⟩:=h;rfl
 |.ptr _ _,_,_,h=>by obtain⟨_,_,rfl⟩:=h;rfl
 |.np,_,_,h=>by simp only[bc]at h;subst h;rfl
 |.ip _ _,_,_,h=>by obtain⟨_,_,rfl,_⟩:=h;rfl
 |.op _ _ _ _,_,_,h=>by obtain⟨_,_,rfl,_⟩:=h;rfl
 |.fn _ _,_,_,h=>by obtain⟨_,rfl,_⟩:=h;rfl
 |.undef,_,hu,_=>by simp[CV.js]at hu
end
def AV.cells:AV->List CV
 |.c x=>[x]
 |.agg xs=>xs
 |.aZ _=>[]
structure Inv (g:Gh) (w:World) (V:List (List CV)) (A:List bu):Prop where
 oe:g.ob.length=V.length
 lq:g.ar.length=A.length
 obj:∀(l:Nat) row b,V[l]? =some row->g.ob[l]? =some b->g.im b=0/\∃cs ty,w.heap[b]? =some (.cells cs ty (0,0))/\cs.size=row.length/\∀(j:Nat) c u,row[j]? =some c->cs[j]? =some u->bc g w A c u
 arr:∀(k:Nat) r v,A[k]? =some r->g.ar[k]? =some v->(∀row∈r.rows,row.length=r.sz)/\(∀b,v.ownBlock=some b->g.im b<=if r.wr then 0 else r.rows.length*r.sz)/\
  ∃xs,w.ownsRow 0 r.dE r.sz v r.rows.length xs/\∀(j:Nat) x u,r.rows.flatten[j]? =some x->xs[j]? =some u->a6 g.im w x u
 jW:∀(l l' b:Nat),g.ob[l]? =some b->g.ob[l']? =some b->l=l'
 iE:∀(k k':Nat) v v' b,g.ar[k]? =some v->g.ar[k']? =some v'->v.ownBlock=some b->v'.ownBlock=some b->k=k'
 iM:∀(l k:Nat) v b,g.ob[l]? =some b->g.ar[k]? =some v->v.ownBlock≠some b
 fresh:∀b,w.heap.size<=b->g.im b=0
def Gh.iF (g:Gh):List Nat:=g.ar.filterMap Value.ownBlock
theorem Gh.iN {g:Gh} {k:Nat} {v:Value} {b:Nat} (h:g.ar[k]? =some v) (hb:v.ownBlock=some b):b∈g.iF:=WB.2 ⟨v,Wh h,hb⟩
theorem Gh.fw {g:Gh} {b:Nat} (h:b∈g.iF):∃(k:Nat) (v:Value),g.ar[k]? =some v/\v.ownBlock=some b:=by
 obtain⟨v,h1,h2⟩:=WB.1 h;obtain⟨k,hk⟩:=Wo h1;exact⟨k,v,hk,h2⟩
def rC:Value->Nat
 |.slice _ n _=>n
 |_=>0
def KV:Option Nat:=none
def KW:List Nat:=[]
def oC (b:Nat):Prop:=KV=some b\/b∈KW
def Gp:Array Value:= #[.int .u64 1,.int .u64 10,.int .u64 100,.int .u64 1000,.int .u64 10000,.int .u64 100000,.int .u64 1000000,.int .u64 10000000,.int .u64 100000000,.int .u64 1000000000,.int .u64 10000000000,.int .u64 100000000000,.int .u64 1000000000000,.int .u64 10000000000000,.int .u64 100000000000000,.int .u64 1000000000000000,.int .u64 10000000000000000,.int .u64 100000000000000000,.int .u64 1000000000000000000,.int .u64 10000000000000000000]
def PU (b:Nat) (o:Option Obj):Prop:=(KV=some b->∃ty mk,o=some (.cells Gp ty mk))/\(b∈KW->∃cs ty mk te pe,o=some (.cells cs ty mk)/\cs[0]? =some (.iface te pe))
def As (w:World) (g:Gh):Prop:=∀b,oC b->b<w.heap.size/\b∉g.ob/\b∉g.iF/\PU b w.heap[b]?
theorem As.less {w:World} {g g':Gh} (h:As w g) (ho:∀b∈g'.ob,b∈g.ob) (ha:∀b∈g'.iF,b∈g.iF):As w g':=fun b hb=>by
 obtain⟨h1,h2,h3,h4⟩:=h b hb;exact⟨h1,fun q=>h2 (ho b q),fun q=>h3 (ha b q),h4⟩
structure Fr (w0:World) (g0:Gh) (w:World) (g:Gh):Prop where
 os:w.os=w0.os
 tape:w.tape=w0.tape
 output:w.output=w0.output
 size:w0.heap.size<=w.heap.size
 pF:∀b,b<w0.heap.size->b∉g0.ob->b∉g0.iF->w.heap[b]? =w0.heap[b]?
 iO:∀b,b<w0.heap.size->b∉g0.iF->g.im b=g0.im b
 ob:∃new,g.ob=g0.ob++new/\∀b∈new,w0.heap.size<=b
 ar:∀(k:Nat) v b,g.ar[k]? =some v->v.ownBlock=some b->w0.heap.size<=b\/b∈g0.iF
 vk:∀(k:Nat) v,g0.ar[k]? =some v->∃v',g.ar[k]? =some v'/\rC v<=rC v'/\(rC v'=rC v->v'=v)
 xR:As w0 g0
theorem Fr.now {w0 w:World} {g0 g:Gh} (h:Fr w0 g0 w g):As w g:=fun b hb=>by
 obtain⟨h1,h2,h3,h4⟩:=h.xR b hb;refine⟨V9 h1 h.size,fun hm=>?_,fun hm=>?_,?_⟩
 ·obtain⟨new,e,hn⟩:=h.ob;rw[e]at hm;rcases Wq.1 hm with q|q
  ·exact h2 q
  ·exact absurd (hn b q) (by omega)
 ·obtain⟨k,v,q1,q2⟩:=Gh.fw hm;rcases h.ar k v b q1 q2 with q|q
  ·omega
  ·exact h3 q
 ·rw[h.pF b h1 h2 h3];exact h4
theorem Fr.refl {w:World} {g:Gh} (ht:As w g):Fr w g w g:=
 ⟨rfl,rfl,rfl,VV _,fun _ _ _ _=>rfl,fun _ _ _=>rfl,⟨[],by simp,by simp⟩,fun k v b hk hb=>.inr (Gh.iN hk hb),fun k v h=>⟨v,h,VV _,fun _=>rfl⟩,ht⟩
theorem Fr.PV {w0 w:World} {g0 g:Gh} (h:Fr w0 g0 w g) (h0:g0.ar=[]):∀(k:Nat) v b,g.ar[k]? =some v->v.ownBlock=some b->w0.heap.size<=b:=fun k v b h1 h2=>by
 rcases h.ar k v b h1 h2 with h3|h3
 ·exact h3
 ·simp[Gh.iF,h0]at h3
structure St where
 fr:List (Nat×AV)
 V:List (List CV)
 A:List bu
theorem gen {X:St->Prop} {d:Nat} {b:Bool} {fr:List (Nat×AV)} {V:List (List CV)} {A:List bu} (h:∀q:Bool,b=q->X ⟨(d,.c (.d (.bool q)))::fr,V,A⟩):X ⟨(d,.c (.d (.bool b)))::fr,V,A⟩:=h b rfl
section
variable {d:Nat} {b:Bool} {fr:List (Nat×AV)} {V:List (List CV)} {A:List bu}
theorem gen2 {X:St->Prop} (h0:b=false->X ⟨(d,.c (.d (.bool false)))::fr,V,A⟩) (h1:b=true->X ⟨(d,.c (.d (.bool true)))::fr,V,A⟩):X ⟨(d,.c (.d (.bool b)))::fr,V,A⟩:=by cases b;exact h0 rfl;exact h1 rfl
theorem J2 {Y:Type} {X:St->Y->Prop} {L:Y} (h0:b=false->X ⟨(d,.c (.d (.bool false)))::fr,V,A⟩ L) (h1:b=true->X ⟨(d,.c (.d (.bool true)))::fr,V,A⟩ L):X ⟨(d,.c (.d (.bool b)))::fr,V,A⟩ L:=by cases b;exact h0 rfl;exact h1 rfl
end
def look:List (Nat×AV)->Nat->Option AV
 |[],_=>none
 |(t,x)::r,s=>if s=t then some x else look r s
structure Rp (n:Nat) (w0:World) (g0:Gh) (s:St) (g:Gh) (a:Act) (w:World):Prop where
 inv:Inv g w s.V s.A
 fr:Fr w0 g0 w g
 size:a.tmps.size=n
 defers:a.defers=[]
 slot:∀t x,look s.fr t=some x->∃u,a.tmps[t]? =some u/\aR g w s.A x u
section
variable {g g' g0:Gh} {w w' w0:World} {V V':List (List CV)} {A A':List bu}
theorem Fr.MZ (h:Fr w0 g0 w g) {l b:Nat} (hb:g.ob[l]? =some b):b∈g0.ob\/w0.heap.size<=b:=by
 obtain⟨new,e,hn⟩:=h.ob;rw[e]at hb;have:=Wh hb;rcases Wq.1 this with h1|h1
 ·exact .inl h1
 ·exact .inr (hn b h1)
theorem mL {base:Nat} {e:TypeId} {sz:Nat} {v:Value} {n:Nat} {xs:List Value} (h:w.ownsRow base e sz v n xs) (hb:∀b,v.ownBlock=some b->w'.heap[b]? =w.heap[b]?):w'.ownsRow base e sz v n xs:=by
 refine⟨h.1,?_⟩;rcases h.2 with h2|⟨b,cap,cur,hv,h3,hh,r⟩
 ·exact .inl h2
 ·exact .inr ⟨b,cap,cur,hv,h3,by rw[hb b (by rw[hv];rfl)];exact hh,r⟩
theorem l9 {base:Nat} {e:TypeId} {sz:Nat} {v:Value} {n:Nat} {xs:List Value} (h:w.ownsRow base e sz v n xs):rC v=n:=by
 rcases h.2 with⟨rfl,h3⟩|⟨b,cap,cur,hv,_⟩
 ·simp only[rC];simp_all
 ·rw[hv];rfl
theorem Inv.qN (h:Inv g w V A) {l b:Nat} (hb:g.ob[l]? =some b):b<w.heap.size:=by
 have hl:l<V.length:=by
  rw[<-h.oe];exact(Wc.1 hb).1
 obtain⟨_,cs,ty,hh,_⟩:=h.obj l _ b (Wd hl) hb;exact(WG.1 hh).1
theorem Inv.ma (h:Inv g w V A) {k b:Nat} {v:Value} (hv:g.ar[k]? =some v) (hb:v.ownBlock=some b):b<w.heap.size:=by
 have hl:k<A.length:=by
  rw[<-h.lq];exact(Wc.1 hv).1
 obtain⟨_,_,xs,ho,_⟩:=h.arr k _ v (Wd hl) hv;exact(ho.lt b hb).2
theorem Inv.EL (h:Inv g w V A) {b o:Nat} (ho:o<g.im b):b<w.heap.size:=by
 rcases V8 b w.heap.size with h1|h1
 ·exact h1
 ·have:=h.fresh b h1;omega
theorem Inv.ff (h:Inv g w V A) (hx:Ext g w A g' w' A') {l b:Nat} {row:List CV} (hl:V[l]? =some row) (hb:g.ob[l]? =some b) (hh:w'.heap[b]? =w.heap[b]?) (hi:g'.im b=0):
  g'.im b=0/\∃cs ty,w'.heap[b]? =some (.cells cs ty (0,0))/\cs.size=row.length/\∀(j:Nat) c u,row[j]? =some c->cs[j]? =some u->bc g' w' A' c u:=by
 obtain⟨_,cs,ty,hc,hs,hr⟩:=h.obj l row b hl hb;exact⟨hi,cs,ty,hh.trans hc,hs,fun j c u h1 h2=>bc.ext hx (hr j c u h1 h2)⟩
theorem Inv.fg (h:Inv g w V A) (hx:Ext g w A g' w' A') {k:Nat} {r:bu} {v:Value} (hk:A[k]? =some r) (hv:g.ar[k]? =some v)
  (hh:∀b,v.ownBlock=some b->w'.heap[b]? =w.heap[b]?) (hi:∀b,v.ownBlock=some b->g'.im b=g.im b):
  (∀row∈r.rows,row.length=r.sz)/\(∀b,v.ownBlock=some b->g'.im b<=if r.wr then 0 else r.rows.length*r.sz)/\
  ∃xs,w'.ownsRow 0 r.dE r.sz v r.rows.length xs/\∀(j:Nat) x u,r.rows.flatten[j]? =some x->xs[j]? =some u->a6 g'.im w' x u:=by
 obtain⟨h1,h2,xs,ho,hr⟩:=h.arr k r v hk hv;exact⟨h1,fun b hb=>by rw[hi b hb];exact h2 b hb,xs,mL ho hh,fun j x u hj hu=>a6.ft hx.gr x u (hr j x u hj hu)⟩
theorem Inv.heap (h:Inv g w V A) (hh:w'.heap=w.heap):Inv g w' V A/\Ext g w A g w' A:=by
 have hx:Ext g w A g w' A:=⟨fun _ _ h=>h,⟨fun _=>VV _,fun b o _=>by simp[World.cell?,hh]⟩,fun _ r h=>⟨r,h,rfl,VV _,fun _=>rfl⟩⟩;refine⟨⟨h.oe,h.lq,fun l row b h1 h2=>?_,fun k r v h1 h2=>?_,h.jW,h.iE,h.iM,fun b hb=>h.fresh b (by rwa[hh]at hb)⟩,hx⟩
 ·exact h.ff hx h1 h2 (by rw[hh]) (h.obj l row b h1 h2).1
 ·exact h.fg hx h1 h2 (fun _ _=>by rw[hh]) (fun _ _=>rfl)
theorem Fr.heap (h:Fr w0 g0 w g) (hh:w'.heap=w.heap) (ho:w'.os=w.os) (ht:w'.tape=w.tape) (hp:w'.output=w.output):Fr w0 g0 w' g:=
 ⟨ho.trans h.os,ht.trans h.tape,hp.trans h.output,by rw[hh];exact h.size,fun b h1 h2 h3=>by rw[hh];exact h.pF b h1 h2 h3,h.iO,h.ob,h.ar,h.vk,h.xR⟩
theorem Inv.dR (h:Inv g w V A) (o:Obj) (m:Nat):∃g',g'={g with im:=fun b=>if b=w.heap.size then m else g.im b}/\Inv g' (w.alloc o) V A/\Ext g w A g' (w.alloc o) A:=by
 have Gq:∀b,b<w.heap.size->(w.alloc o).heap[b]? =w.heap[b]? :=fun b hb=>RowKit.Below.heap_alloc w o b hb
 have qo:∀b,b<w.heap.size->(if b=w.heap.size then m else g.im b)=g.im b:=fun b hb=>by rw[if_neg (by omega)]
 have hx:Ext g w A {g with im:=fun b=>if b=w.heap.size then m else g.im b} (w.alloc o) A:=by
  refine⟨fun _ _ h=>h,⟨fun b=>?_,fun b o' ho=>?_⟩,fun _ r h=>⟨r,h,rfl,VV _,fun _=>rfl⟩⟩
  ·show g.im b<=if b=w.heap.size then m else g.im b
   split
   ·rename_i e;rw[h.fresh b (by omega)];exact VX _
   ·exact VV _
  ·exact World.cell?_of_block (a:=⟨b,o',none⟩) (Gq b (h.EL ho))
 refine⟨_,rfl,⟨h.oe,h.lq,fun l row b h1 h2=>?_,fun k r v h1 h2=>?_,h.jW,h.iE,h.iM,fun b hb=>?_⟩,hx⟩
 ·exact h.ff hx h1 h2 (Gq b (h.qN h2)) ((qo b (h.qN h2)).trans (h.obj l row b h1 h2).1)
 ·exact h.fg hx h1 h2 (fun b hb=>Gq b (h.ma h2 hb)) (fun b hb=>qo b (h.ma h2 hb))
 ·have hs:(w.alloc o).heap.size=w.heap.size+1:=by simp
  show(if b=w.heap.size then m else g.im b)=0;rw[hs]at hb;rw[if_neg (by omega)];exact h.fresh b (by omega)
theorem Fr.dR (h:Fr w0 g0 w g) (o:Obj) (m:Nat):Fr w0 g0 (w.alloc o) {g with im:=fun b=>if b=w.heap.size then m else g.im b}:=by
 have hs:(w.alloc o).heap.size=w.heap.size+1:=by simp
 refine⟨h.os,h.tape,h.output,by rw[hs];have:=h.size;omega,fun b h1 h2 h3=>?_,fun b hb eI=>?_,h.ob,h.ar,h.vk,h.xR⟩
 ·rw[RowKit.Below.heap_alloc w o b (by have:=h.size;omega)];exact h.pF b h1 h2 h3
 ·show(if b=w.heap.size then m else g.im b)=_;have:=h.size;rw[if_neg (by omega)];exact h.iO b hb eI
theorem Inv.newObj (h:Inv g w V A) (hf:Fr w0 g0 w g) (cs:Array Value) (ty:TypeId) (row:List CV) (hs:cs.size=row.length) (hr:∀(j:Nat) c u,row[j]? =some c->cs[j]? =some u->bc g w A c u):
  ∃g',Inv g' (w.alloc (.cells cs ty)) (V++[row]) A/\Ext g w A g' (w.alloc (.cells cs ty)) A/\Fr w0 g0 (w.alloc (.cells cs ty)) g'/\g'.ob[V.length]? =some w.heap.size:=by
 obtain⟨g1,uP,hi,hx⟩:=h.dR (.cells cs ty) 0;have EM:=hf.dR (.cells cs ty) 0;rw[<-uP]at EM
 have lr:Ext g1 (w.alloc (.cells cs ty)) A {g1 with ob:=g1.ob++[w.heap.size]} (w.alloc (.cells cs ty)) A:=
  ⟨fun l b hb=>by show(g1.ob++[w.heap.size])[l]? =some b;rw[We (Wc.1 hb).1];exact hb,.refl _ _,fun _ r h=>⟨r,h,rfl,VV _,fun _=>rfl⟩⟩
 have ax:∀(l b:Nat),g1.ob[l]? =some b->b<w.heap.size:=fun l b hb=>by
  subst uP;exact h.qN (g:=g) hb
 have cX:∀(l b:Nat),(g1.ob++[w.heap.size])[l]? =some b->(g1.ob[l]? =some b/\b<w.heap.size)\/(l=V.length/\b=w.heap.size):=fun l b hb=>by
  rcases V8 l g1.ob.length with h1|h1
  ·rw[We h1]at hb;exact .inl ⟨hb,ax l b hb⟩
  ·rw[Wf h1]at hb;have h0:l-g1.ob.length=0:=by
    have:=(Wc.1 hb).1;simp at this;omega
   rw[h0]at hb;simp at hb;exact .inr ⟨by rw[<-hi.oe];omega,hb.symm⟩
 have qo:g1.im w.heap.size=0:=by subst uP;simp
 have Gr:∀(k:Nat) (v:Value) (b:Nat),g1.ar[k]? =some v->v.ownBlock=some b->b<w.heap.size:=fun k v b hv hb=>by
  subst uP;exact h.ma (g:=g) hv hb
 refine⟨{g1 with ob:=g1.ob++[w.heap.size]},⟨by simp[hi.oe],hi.lq,fun l row' b h1 h2=>?_,fun k r v h1 h2=>?_,fun l l' b h1 h2=>?_,hi.iE,fun l k v b h1 h2=>?_,hi.fresh⟩,hx.trans lr,?_,?_⟩
 ·rcases cX l b h2 with⟨h3,h4⟩|⟨h3,h4⟩
  ·have h5:V[l]? =some row':=by
    have:l<V.length:=by rw[<-hi.oe];exact(Wc.1 h3).1
    rwa[We this]at h1
   exact hi.ff lr h5 h3 rfl (hi.obj l row' b h5 h3).1
  ·subst h3;subst h4;simp at h1;subst h1;exact⟨qo,cs,ty,heap_alloc_new w _,hs,fun j c u h6 h7=>bc.ext (hx.trans lr) (hr j c u h6 h7)⟩
 ·exact hi.fg lr h1 h2 (fun _ _=>rfl) (fun _ _=>rfl)
 ·rcases cX l b h1 with⟨h3,h4⟩|⟨h3,h4⟩<;>rcases cX l' b h2 with⟨h5,h6⟩|⟨h5,h6⟩
  ·exact hi.jW l l' b h3 h5
  ·omega
  ·omega
  ·omega
 ·rcases cX l b h1 with⟨h3,h4⟩|⟨h3,h4⟩
  ·exact hi.iM l k v b h3 h2
  ·intro hb;have:=Gr k v b h2 hb;omega
 ·refine⟨EM.os,EM.tape,EM.output,EM.size,EM.pF,EM.iO,?_,EM.ar,EM.vk,EM.xR⟩;obtain⟨new,e,hn⟩:=EM.ob;exact⟨new++[w.heap.size],by show g1.ob++[w.heap.size]=_;rw[e];simp,fun b hb=>by
   rcases Wq.1 hb with h1|h1
   ·exact hn b h1
   ·simp at h1;rw[h1];exact hf.size⟩
 ·show(g1.ob++[w.heap.size])[V.length]? =some w.heap.size;rw[Wf (by rw[hi.oe];exact VV _),hi.oe];simp
theorem cg (w:World) (b k:Nat) (cs:Array Value) (h:k≠b):(w.setRow b cs).heap[k]? =w.heap[k]? :=by
 simp only[World.setRow,Array.getElem?_modify];rw[if_neg (fun e=>h e.symm)]
theorem Ext.setRow (g:Gh) (w:World) (A:List bu) (b:Nat) (cs:Array Value) (h:g.im b=0):Ext g w A g (w.setRow b cs) A:=by
 refine⟨fun _ _ h=>h,⟨fun _=>VV _,fun b' o ho=>?_⟩,fun _ r h=>⟨r,h,rfl,VV _,fun _=>rfl⟩⟩;exact World.cell?_of_block (a:=⟨b',o,none⟩) (cg w b b' cs (fun e=>by subst e;omega))
theorem Fr.setRow (hf:Fr w0 g0 w g) (b:Nat) (cs:Array Value) (h:b∈g0.ob\/w0.heap.size<=b\/b∈g0.iF):Fr w0 g0 (w.setRow b cs) g:=
 ⟨hf.os,hf.tape,hf.output,by simpa using hf.size,fun b' h1 h2 h3=>by
  rw[cg w b b' cs (fun e=>by subst e;rcases h with h|h|h<;>first|exact h2 h|exact h3 h|omega)];exact hf.pF b' h1 h2 h3,hf.iO,hf.ob,hf.ar,hf.vk,hf.xR⟩
theorem Inv.setObj (h:Inv g w V A) (hf:Fr w0 g0 w g) {l b:Nat} {row row':List CV} (hl:V[l]? =some row) (hb:g.ob[l]? =some b) (cs:Array Value) (hs:cs.size=row'.length)
  (hr:∀(j:Nat) c u,row'[j]? =some c->cs[j]? =some u->bc g w A c u):
  Inv g (w.setRow b cs) (V.set l row') A/\Ext g w A g (w.setRow b cs) A/\Fr w0 g0 (w.setRow b cs) g:=by
 obtain⟨hi,cs0,ty,hh,_⟩:=h.obj l row b hl hb;have hx:=Ext.setRow g w A b cs hi;refine⟨⟨by rw[h.oe];simp,h.lq,fun l' rw' b' h1 h2=>?_,fun k r v h1 h2=>?_,h.jW,h.iE,h.iM,fun b' eI=>h.fresh b' (by simpa using eI)⟩,hx,hf.setRow b cs ((hf.MZ hb).imp_right .inl)⟩
 ·by_cases e:l'=l
  ·subst e;obtain rfl:b=b':=by rw[hb]at h2;exact Option.some.inj h2
   have ax:=(Wc.1 hl).1;simp[ax]at h1;subst h1;exact⟨hi,cs,ty,setRow_heap w b cs0 cs ty (0,0) hh,hs,fun j c u h3 h4=>bc.ext hx (hr j c u h3 h4)⟩
  ·rw[Ws (by omega)]at h1;have cY:b'≠b:=fun e'=>e (h.jW l' l b' h2 (e'▸hb))
   exact h.ff hx h1 h2 (cg w b b' cs cY) (h.obj l' rw' b' h1 h2).1
 ·exact h.fg hx h1 h2 (fun b' eI=>cg w b b' cs (fun e=>by subst e;exact h.iM l k v _ hb h2 eI)) (fun _ _=>rfl)
theorem Inv.qO (h:Inv g w V A) (hf:Fr w0 g0 w g) (r:bu) (v:Value) (xs:List Value) (h1:∀row∈r.rows,row.length=r.sz) (ho:w.ownsRow 0 r.dE r.sz v r.rows.length xs)
  (hr:∀(j:Nat) x u,r.rows.flatten[j]? =some x->xs[j]? =some u->a6 g.im w x u)
  (hb:∀b,v.ownBlock=some b->g.im b=0/\w0.heap.size<=b/\(∀l:Nat,g.ob[l]? ≠some b)/\∀(k:Nat) v',g.ar[k]? =some v'->v'.ownBlock≠some b):
  ∃g',g'.im=g.im/\g'.ob=g.ob/\g'.ar=g.ar++[v]/\Inv g' w V (A++[r])/\Ext g w A g' w (A++[r])/\Fr w0 g0 w g':=by
 have hx:Ext g w A {g with ar:=g.ar++[v]} w (A++[r]):=by
  refine⟨fun _ _ h=>h,.refl _ _,fun k r' hk=>⟨r',?_,rfl,VV _,fun _=>?_⟩⟩
  ·rw[We (Wc.1 hk).1];exact hk
  ·show(g.ar++[v])[k]? =_;rw[We (by rw[h.lq];exact(Wc.1 hk).1)]
 have cX:∀(k:Nat) (v':Value),(g.ar++[v])[k]? =some v'->g.ar[k]? =some v'\/(k=A.length/\v'=v):=fun k v' hk=>by
  rcases V8 k g.ar.length with h1|h1
  ·rw[We h1]at hk;exact .inl hk
  ·rw[Wf h1]at hk;have h0:k-g.ar.length=0:=by
    have:=(Wc.1 hk).1;simp at this;omega
   rw[h0]at hk;simp at hk;exact .inr ⟨by rw[<-h.lq];omega,hk.symm⟩
 refine⟨{g with ar:=g.ar++[v]},rfl,rfl,rfl,⟨h.oe,by simp[h.lq],fun l row b h2 h3=>?_,fun k r' v' h2 h3=>?_,h.jW,fun k k' v1 v2 b h2 h3 h4 h5=>?_,fun l k v' b h2 h3=>?_,h.fresh⟩,hx,?_⟩
 ·exact h.ff hx h2 h3 rfl (h.obj l row b h2 h3).1
 ·rcases cX k v' h3 with h4|⟨h4,h5⟩
  ·have h6:A[k]? =some r':=by
    have:k<A.length:=by rw[<-h.lq];exact(Wc.1 h4).1
    rwa[We this]at h2
   exact h.fg hx h6 h4 (fun _ _=>rfl) (fun _ _=>rfl)
  ·subst h4;subst h5;simp at h2;subst h2;exact⟨h1,fun b hv=>by show g.im b<=_;rw[(hb b hv).1];exact VX _,xs,ho,hr⟩
 ·rcases cX k v1 h2 with h6|⟨h6,h7⟩<;>rcases cX k' v2 h3 with h8|⟨h8,h9⟩
  ·exact h.iE k k' v1 v2 b h6 h8 h4 h5
  ·subst h9;exact absurd h4 ((hb b h5).2.2.2 k v1 h6)
  ·subst h7;exact absurd h5 ((hb b h4).2.2.2 k' v2 h8)
  ·omega
 ·rcases cX k v' h3 with h4|⟨h4,h5⟩
  ·exact h.iM l k v' b h2 h4
  ·subst h5;intro hv;exact(hb b hv).2.2.1 l h2
 ·refine⟨hf.os,hf.tape,hf.output,hf.size,hf.pF,hf.iO,hf.ob,fun k v' b h2 h3=>?_,fun k v' h2=>?_,hf.xR⟩
  ·rcases cX k v' h2 with h4|⟨h4,h5⟩
   ·exact hf.ar k v' b h4 h3
   ·subst h5;exact .inl (hb b h3).2.1
  ·obtain⟨v2,h3,h4⟩:=hf.vk k v' h2;exact⟨v2,by show(g.ar++[v])[k]? =some v2;rw[We (Wc.1 h3).1];exact h3,h4⟩
end
theorem kQ {α:Type} {sz:Nat}:∀{rows:List (List α)},(∀row∈rows,row.length=sz)->∀{i j:Nat} {row:List α} {x:α},rows[i]? =some row->row[j]? =some x->rows.flatten[i*sz+j]? =some x
 |[],_,i,j,row,x,h,_=>by simp at h
 |r::rs,hl,0,j,row,x,h,hx=>by
  simp at h;subst h;have hj:=(Wc.1 hx).1;simp only[Wg,V6,VZ];rw[We hj];exact hx
 |r::rs,hl,i+1,j,row,x,h,hx=>by
  simp at h;have hr:r.length=sz:=hl r (by simp);have ih:=kQ (fun q hq=>hl q (by simp[hq])) h hx;simp only[Wg];rw[Wf (by rw[hr,VW];omega)];rwa[show(i+1)*sz+j-r.length=i*sz+j by rw[hr,VW];omega]
theorem ez {α:Type} {sz:Nat}:∀{rows:List (List α)},(∀row∈rows,row.length=sz)->rows.flatten.length=rows.length*sz
 |[],_=>by simp
 |r::rs,hl=>by
  have hr:r.length=sz:=hl r (by simp);have ih:=ez (rows:=rs) (fun q hq=>hl q (by simp[hq]));simp only[Wg,Wl,Wr,ih,hr,VW];omega
def bV {α:Type} (l:List α) (off:Nat) (ds:List α):List α:=l.take off++ds++l.drop (off+ds.length)
theorem fx {α:Type} {l:List α} {off:Nat} {ds:List α} (h:off+ds.length<=l.length):(bV l off ds).length=l.length:=by
 simp[bV];omega
theorem fM {α:Type} {l:List α} {off:Nat} {ds:List α} (h:off+ds.length<=l.length) (j:Nat):(bV l off ds)[j]? =if off<=j/\j<off+ds.length then ds[j-off]? else l[j]? :=by
 simp only[bV,Wu];by_cases h1:j<off
 ·rw[if_neg (by omega),We (by simp;omega),Wi,if_pos h1]
 ·by_cases h2:j<off+ds.length
  ·rw[if_pos (by omega),Wf (by simp;omega),We (by simp;omega)]
   congr 1;simp;omega
  ·rw[if_neg (by omega),Wf (by simp;omega),Wf (by simp;omega),Wp]
   congr 1;simp;omega
theorem oD {α:Type} {sz:Nat}:∀{rows:List (List α)},(∀row∈rows,row.length=sz)->∀{i off:Nat} {row ds:List α},rows[i]? =some row->off+ds.length<=sz->
  (rows.set i (bV row off ds)).flatten=bV rows.flatten (i*sz+off) ds
 |[],_,i,_,row,_,h,_=>by simp at h
 |r::rs,hl,0,off,row,ds,h,ho=>by
  simp at h;subst h;have hr:r.length=sz:=hl r (by simp);simp only[List.set_cons_zero,Wg,V6,VZ,bV];rw[List.take_append_of_le_length (by omega),List.drop_append_of_le_length (by omega)];simp
 |r::rs,hl,i+1,off,row,ds,h,ho=>by
  simp at h;have hr:r.length=sz:=hl r (by simp);have ih:=oD (fun q hq=>hl q (by simp[hq])) h ho;simp only[List.set_cons_succ,Wg,ih];have e:(i+1)*sz+off=r.length+(i*sz+off):=by rw[hr,VW];omega
  rw[e];simp only[bV,VY,List.take_length_add_append,List.drop_length_add_append,Wu]
section
variable {g g' g0:Gh} {w w' w0:World} {V V':List (List CV)} {A A':List bu} {P:Program}
theorem Ax {im:Nat->Nat} {r:bu} {v:Value} {xs:List Value} (h1:∀row∈r.rows,row.length=r.sz) (ho:w.ownsRow 0 r.dE r.sz v r.rows.length xs)
  (hr:∀(j:Nat) x u,r.rows.flatten[j]? =some x->xs[j]? =some u->a6 im w x u) (hi:∀b,v.ownBlock=some b->r.rows.length*r.sz<=im b):a6 im w (.sl r.rows) v:=by
 simp only[a6];have sG:=ho;rcases ho.2 with⟨hv,hn⟩|⟨b,cap,cur,hv,_,hh,EN,_,xK,yq⟩
 ·have Ms:r.rows=[]:=Wj hn;exact⟨none,0,by rw[hv,hn],by omega,.inl Ms⟩
 ·refine⟨some ⟨b,0,none⟩,cap,hv,EN,.inr ⟨b,0,r.sz,rfl,by have:=hi b (by rw[hv];rfl);omega,?_⟩⟩;refine b9.mk fun i row ev=>⟨h1 row (Wh ev),dh.mk fun j x hx=>?_⟩
  have hf:=kQ h1 ev hx;have ax:i*r.sz+j<xs.length:=by
   have:=(Wc.1 hf).1;rw[ez h1]at this;rw[sG.1];exact this
  have hu:xs[i*r.sz+j]? =some xs[i*r.sz+j]:=Wd ax;refine⟨_,?_,hr _ x _ hf hu⟩;have hc:=sG.cells (g:=b) (by rw[hv];rfl) _ _ hu;have sO:(⟨b,0,none⟩:Addr).add (i*r.sz+j)=⟨b,0+i*r.sz+j,none⟩:=by unfold Addr.add;split<;>simp_all
  rwa[sO]at hc
theorem Inv.seal (h:Inv g w V A) (hf:Fr w0 g0 w g) {k:Nat} {r:bu} {v:Value} (hk:A[k]? =some r) (hv:g.ar[k]? =some v):
  ∃g',Inv g' w V (A.set k {r with wr:=false})/\Ext g w A g' w (A.set k {r with wr:=false})/\Fr w0 g0 w g'/\g'.ar=g.ar/\g'.ob=g.ob/\a6 g'.im w (.sl r.rows) v:=by
 obtain⟨h1,h2,xs,ho,hr⟩:=h.arr k r v hk hv
 let im':Nat->Nat:=fun b=>if v.ownBlock=some b then max (g.im b) (r.rows.length*r.sz)else g.im b
 have xS:jE g.im w im' w:=⟨fun b=>by simp only[im'];split<;>omega,fun _ _ _=>rfl⟩;have ax:=(Wc.1 hk).1;have bH:∀k',(A.set k {r with wr:=false})[k']? =if k'=k then some {r with wr:=false}else A[k']? :=fun k'=>by
  by_cases e:k'=k
  ·subst e;simp[ax]
  ·rw[if_neg e,Ws (by omega)]
 have hx:Ext g w A {g with im:=im'} w (A.set k {r with wr:=false}):=by
  refine⟨fun _ _ h=>h,xS,fun k' r' qf=>?_⟩;rw[bH];by_cases e:k'=k
  ·subst e;obtain rfl:r=r':=by rw[hk]at qf;exact Option.some.inj qf
   exact⟨{r with wr:=false},by simp,rfl,VV _,fun _=>rfl⟩
  ·exact⟨r',by simp[e,qf],rfl,VV _,fun _=>rfl⟩
 have IP:∀b,v.ownBlock=some b->b<w.heap.size:=fun b hb=>h.ma hv hb
 refine⟨{g with im:=im'},⟨h.oe,by rw[h.lq];simp,fun l row b h3 h4=>?_,fun k' r' v' h3 h4=>?_,h.jW,h.iE,h.iM,fun b hb=>?_⟩,hx,?_,rfl,rfl,?_⟩
 ·refine h.ff hx h3 h4 rfl ?_;show im' b=0;simp only[im'];rw[if_neg (h.iM l k v b h4 hv)];exact(h.obj l row b h3 h4).1
 ·rw[bH]at h3;by_cases e:k'=k
  ·subst e;simp at h3;subst h3;obtain rfl:v=v':=by rw[hv]at h4;exact Option.some.inj h4
   refine⟨h1,fun b hb=>?_,xs,ho,fun j x u h5 h6=>a6.ft xS x u (hr j x u h5 h6)⟩;show im' b<=_;simp only[im',hb,if_true];have:=h2 b hb;simp only[WK,if_false];split at this<;>omega
  ·simp[e]at h3;refine h.fg hx h3 h4 (fun _ _=>rfl) (fun b hb=>?_);show im' b=g.im b;simp only[im'];rw[if_neg (fun e'=>e (h.iE k' k v' v b h4 hv hb e'))]
 ·show im' b=0;simp only[im'];rw[if_neg (fun e=>by have:=IP b e;omega)];exact h.fresh b hb
 ·refine⟨hf.os,hf.tape,hf.output,hf.size,hf.pF,fun b hb eI=>?_,hf.ob,hf.ar,hf.vk,hf.xR⟩;show im' b=_;simp only[im'];rw[if_neg (fun e=>by rcases hf.ar k v b hv e with h7|h7;omega;exact eI h7)];exact hf.iO b hb eI
 ·exact Ax h1 ho (fun j x u h5 h6=>a6.ft xS x u (hr j x u h5 h6)) (fun b hb=>by simp only[im',hb,if_true];omega)
theorem lT (t ty e:TypeId) (i:TypeInfo) (z:Value) (ht:P.underlying t=some (.slice e)) (hi:P.info? e=some i) (hz:i.zero=some z)
  (Iw:z.cells.size=i.size) (v:Value) (n:Nat) (xs:List Value) (c7:w.ownsRow 0 e i.size v n xs)
  (y:Value) (m:Nat) (news:List Value) (hy:(m=0/\news=[]/\∃a c,y=.slice a 0 c)\/∃a c,y=.slice (some a) m c/\news.length=m*i.size/\∀j u,news[j]? =some u->w.cell? (a.add j)=some u)
  (h1:∀u∈news,u.oneCell'=true) (Sh:n+m<=maxLen) (Gs:(n+m)*i.bytes<=140737488355328):
  ∃v' w',(Builtin.append_ #[t,t] ty #[v,y]).run P w=.ok v' w'/\w'.ownsRow 0 e i.size v' (n+m) (xs++news)/\
   ((v'=v/\w'=w)\/(∃b cs,v.ownBlock=some b/\v'.ownBlock=some b/\w'=w.setRow b cs)\/(∃o,v'.ownBlock=some w.heap.size/\w'=w.drew.alloc o)):=by
 have F4:xs.length=n*i.size:=c7.1;by_cases hm:m=0
 ·subst hm;have Ka:news=[]:=by
   rcases hy with⟨_,h,_⟩|⟨_,_,_,h,_⟩
   ·exact h
   ·exact Wj (by simpa using h)
  obtain⟨a,c,rfl⟩:∃a c,y=.slice a 0 c:=by
   rcases hy with⟨_,_,h⟩|⟨a,c,h,_⟩
   ·exact h
   ·exact⟨some a,c,h⟩
  subst Ka;refine⟨v,w,?_,by simpa using c7,.inl ⟨rfl,rfl⟩⟩;have M0:∀w:World,(Builtin.firstCells i.size 0 (.slice a 0 c)).run P w=.ok #[] w:=fun w=>by
   cases a<;>simp[Builtin.firstCells,loadCells,loadCellsFrom]
  rcases c7.2 with⟨rfl,rfl⟩|⟨g,cap,cur,rfl,_,_,EN,_⟩
  ·simp[Builtin.append_,run_underlying ht,sizeOf,typeInfo,hi,Builtin.lenOf,M0]
  ·simp[Builtin.append_,run_underlying ht,sizeOf,typeInfo,hi,Builtin.lenOf,M0,EN,storeCells]
 ·rcases hy with⟨h,_⟩|⟨a,c,rfl,hl,Ay⟩
  ·exact absurd h hm
  have PW:n+m<=9223372036854775807:=by simp only[maxLen]at Sh;omega
  have hlen:(xs++news).length=(n+m)*i.size:=by rw[Wl,c7.1,hl,VW]
  have grown:∀(Kb:Nat),Kb<n+m->
    (w.drew.alloc (.cells (xs.toArray++news.toArray++Builtin.zeroCells z.cells (grownCap w (n+m) Kb e-(n+m))) e)).ownsRow 0 e i.size
     (.slice (some ⟨w.heap.size,0,none⟩) (n+m) (grownCap w (n+m) Kb e)) (n+m) (xs++news):=by
   intro Kb ho;have oE:=grownCap_ge w (n+m) Kb e;have M1:grownCap w (n+m) Kb e<=maxLen:=grownCap_le_maxLen w (n+m) Kb e Sh;refine⟨hlen,.inr ⟨w.heap.size,_,_,rfl,VX _,heap_alloc_new w.drew _,oE,M1,?_,?_⟩⟩
   ·simp only[Array.size_append,Wm,size_zeroCells,Iw,F4,hl,<-VW]
    congr 1
    omega
   ·simp only[Array.toList_append,Wu];rw[<-Wu,<-hlen];exact Wz
  rcases c7.2 with⟨rfl,rfl⟩|⟨g,cap,cur,rfl,_,hg,EN,M1,xK,yq⟩
  ·have hx:xs=[]:=Wj (by simpa using F4);subst hx;have hr:=run_append_nil (P:=P) w t ty e i z ht hi hz a m c news hl Ay (by omega) (by omega) (by have hb:=Gs;simp only[VZ]at hb;omega);have xS:=grown 0 (by omega);simp only[VZ,WA,Array.empty_append]at xS⊢;exact⟨_,_,hr,xS,.inr (.inr ⟨_,rfl,rfl⟩)⟩
  ·by_cases Gt:n+m<=cap
   ·have xU:n*i.size+news.length<=cur.size:=by rw[hl,xK,<-VW];exact V1 _ Gt
    have hr:=run_append_room (P:=P) w t ty e i ht hi g n cap cur hg a m c news hl Ay h1 Gt xU;refine⟨_,_,hr,⟨hlen,.inr ⟨g,cap,_,rfl,VX _,setRow_heap w g cur _ e _ hg,Gt,M1,?_,?_⟩⟩,.inr (.inl ⟨g,_,rfl,rfl,rfl⟩)⟩
    ·simp only[Wm,Wl,List.length_take,List.length_drop,WH];omega
    ·rw[yq,<-hlen];exact Wz
   ·have holds:∀j u,xs[j]? =some u->w.cell? ((⟨g,0,none⟩:Addr).add j)=some u:=c7.cells (g:=g) rfl;have hr:=run_append_grow (P:=P) w t ty e i z ht hi hz ⟨g,0,none⟩ n cap xs F4 holds a m c news hl Ay (by omega) (by omega) (growslice_fits (by omega) Gs);exact⟨_,_,hr,grown cap (by omega),.inr (.inr ⟨_,rfl,rfl⟩)⟩
theorem dc {α:Type} {l:List α} {k:Nat} {x y:α} (h:l[k]? =some x) (k':Nat):(l.set k y)[k']? =if k'=k then some y else l[k']? :=by
 have ax:=(Wc.1 h).1;by_cases e:k'=k
 ·subst e;simp[ax]
 ·rw[if_neg e,Ws (by omega)]
theorem Gu {r:bu} {nr:List (List DV)} {e:TypeId} {v':Value} {xs news:List Value} {im:Nat->Nat} (h1:∀row∈r.rows,row.length=r.sz) (hn:∀row∈nr,row.length=r.sz)
  (Kc:xs.length=r.rows.length*r.sz)
  (hr:∀(j:Nat) x u,r.rows.flatten[j]? =some x->xs[j]? =some u->a6 im w' x u) (Cs:∀(j:Nat) x u,nr.flatten[j]? =some x->news[j]? =some u->a6 im w' x u)
  (ho:w'.ownsRow 0 e r.sz v' (r.rows.length+nr.length) (xs++news)):
  (∀row∈r.rows++nr,row.length=r.sz)/\w'.ownsRow 0 e r.sz v' (r.rows++nr).length (xs++news)/\∀(j:Nat) x u,(r.rows++nr).flatten[j]? =some x->(xs++news)[j]? =some u->a6 im w' x u:=by
 refine⟨fun row ev=>?_,by simpa using ho,fun j x u hj hu=>?_⟩
 ·rcases Wq.1 ev with h|h
  ·exact h1 row h
  ·exact hn row h
 ·rw[List.flatten_append]at hj;have vm:=ez h1;by_cases ax:j<xs.length
  ·rw[We (by omega)]at hj;rw[We ax]at hu;exact hr j x u hj hu
  ·rw[Wf (by omega)]at hj;rw[Wf (by omega)]at hu;rw[vm,<-Kc]at hj;exact Cs _ x u hj hu
theorem Inv.grow (h:Inv g w V A) (hf:Fr w0 g0 w g) {k:Nat} {r:bu} {v v':Value} (hk:A[k]? =some r) (hv:g.ar[k]? =some v) (nr:List (List DV)) (cY:nr≠[]) (news:List Value)
  (hn:∀row∈nr,row.length=r.sz) (Cs:∀(j:Nat) x u,nr.flatten[j]? =some x->news[j]? =some u->a6 g.im w x u)
  (sG:∀xs,w.ownsRow 0 r.dE r.sz v r.rows.length xs->w'.ownsRow 0 r.dE r.sz v' (r.rows.length+nr.length) (xs++news))
  (hc:(v'=v/\w'=w)\/(∃b cs,v.ownBlock=some b/\v'.ownBlock=some b/\w'=w.setRow b cs)\/(∃o,v'.ownBlock=some w.heap.size/\w'=w.drew.alloc o)):
  ∃g',Inv g' w' V (A.set k {r with rows:=r.rows++nr})/\Ext g w A g' w' (A.set k {r with rows:=r.rows++nr})/\Fr w0 g0 w' g'/\g'.ar[k]? =some v'/\g'.ob=g.ob/\g'.im=g.im:=by
 obtain⟨h1,h2,xs,ho,hr⟩:=h.arr k r v hk hv;have pG:=sG xs ho;have M3:rC v+1<=rC v':=by
  rw[l9 ho,l9 pG];have:=Ww.2 cY;omega
 have ax:=(Wc.1 hk).1;have F5:0<nr.length:=Ww.2 cY;have eP:w.heap.size<=w'.heap.size:=by
  rcases hc with⟨_,rfl⟩|⟨b,cs,_,_,rfl⟩|⟨o,_,rfl⟩
  ·exact VV _
  ·simp
  ·simp
 have fY:∀b,b<w.heap.size->v.ownBlock≠some b->w'.heap[b]? =w.heap[b]? :=by
  intro b hb cY;rcases hc with⟨_,rfl⟩|⟨b',cs,eI,_,rfl⟩|⟨o,_,rfl⟩
  ·rfl
  ·exact cg w b' b cs (fun e=>cY (by rw[e];exact eI))
  ·exact RowKit.Below.heap_alloc w.drew o b hb
 have nO:∀b o,o<g.im b->w'.cell? ⟨b,o,none⟩=w.cell? ⟨b,o,none⟩:=by
  intro b o F4;have hb:=h.EL F4;by_cases e:v.ownBlock=some b
  ·rcases hc with⟨_,rfl⟩|⟨b',cs,eI,hb'',rfl⟩|⟨o',_,rfl⟩
   ·rfl
   ·obtain rfl:b=b':=by rw[e]at eI;exact Option.some.inj eI
    have hle:=h2 b e;have M4:o<xs.length:=by rw[ho.1];split at hle<;>omega
    have hu:xs[o]? =some xs[o]:=Wd M4;have c1:=ho.cells (g:=b) e _ _ hu;have c2:=pG.cells (g:=b) hb'' o xs[o] (by rw[We M4];exact hu);have sO:(⟨b,0,none⟩:Addr).add o=⟨b,o,none⟩:=by unfold Addr.add;split<;>simp_all
    rw[sO]at c1 c2;rw[c1,c2]
   ·exact World.cell?_of_block (a:=⟨b,o,none⟩) (RowKit.Below.heap_alloc w.drew o' b hb)
  ·exact World.cell?_of_block (a:=⟨b,o,none⟩) (fY b hb e)
 have xS:jE g.im w g.im w':=⟨fun _=>VV _,nO⟩;have EO:g.ar.length=A.length:=h.lq;have hx:Ext g w A {g with ar:=g.ar.set k v'} w' (A.set k {r with rows:=r.rows++nr}):=by
  refine⟨fun _ _ h=>h,xS,fun k' r' qf=>?_⟩;rw[dc hk];by_cases e:k'=k
  ·subst e;obtain rfl:r=r':=by rw[hk]at qf;exact Option.some.inj qf
   exact⟨{r with rows:=r.rows++nr},by simp,rfl,by simp,fun he=>by simp at he;exact absurd he cY⟩
  ·refine⟨r',by simp[e,qf],rfl,VV _,fun _=>?_⟩;show(g.ar.set k v')[k']? =g.ar[k']?;rw[dc hv,if_neg e]
 have xV:∀b,v'.ownBlock=some b->(v.ownBlock=some b)\/b=w.heap.size:=by
  intro b hb;rcases hc with⟨rfl,_⟩|⟨b',cs,h3,h4,_⟩|⟨o,h3,_⟩
  ·exact .inl hb
  ·rw[h4]at hb;exact .inl (h3.trans hb)
  ·rw[h3]at hb;exact .inr (Option.some.inj hb).symm
 have sO:=Gu h1 hn ho.1 (fun j x u hj hu=>a6.ft xS x u (hr j x u hj hu)) (fun j x u hj hu=>a6.ft xS x u (Cs j x u hj hu)) pG;refine⟨{g with ar:=g.ar.set k v'},⟨h.oe,by simp[h.lq],fun l row b h3 h4=>?_,fun k' r' u h3 h4=>?_,h.jW,fun k1 k2 u1 u2 b h3 h4 h5 h6=>?_,fun l k' u b h3 h4=>?_,fun b hb=>h.fresh b (by omega)⟩,hx,?_,?_,rfl,rfl⟩
 ·exact h.ff hx h3 h4 (fY b (h.qN h4) (h.iM l k v b h4 hv)) (h.obj l row b h3 h4).1
 ·rw[dc hk]at h3;have uQ:(g.ar.set k v')[k']? =some u:=h4;rw[dc hv]at uQ;by_cases e:k'=k
  ·subst e;simp at h3 uQ;subst h3;subst uQ;refine⟨sO.1,fun b hb=>?_,xs++news,sO.2.1,sO.2.2⟩;show g.im b<=_;rcases xV b hb with h5|h5
   ·have:=h2 b h5;simp only[Wl,VW];cases vn:r.wr<;>simp only[vn,if_true,WK,if_false]at this⊢<;>omega
   ·rw[h.fresh b (by omega)];exact VX _
  ·simp[e]at h3 uQ;refine h.fg hx h3 uQ (fun b hb=>fY b (h.ma uQ hb) (fun e'=>e (h.iE k' k u v b uQ hv hb e'))) (fun _ _=>rfl)
 ·have vo:(g.ar.set k v')[k1]? =some u1:=h3;have uQ:(g.ar.set k v')[k2]? =some u2:=h4;rw[dc hv]at vo uQ;by_cases e1:k1=k<;>by_cases e2:k2=k
  ·omega
  ·simp[e1,e2]at vo uQ;subst vo;rcases xV b h5 with h7|h7
   ·exact absurd (h.iE k2 k u2 v b uQ hv h6 h7) e2
   ·have:=h.ma uQ h6;omega
  ·simp[e1,e2]at vo uQ;subst uQ;rcases xV b h6 with h7|h7
   ·exact absurd (h.iE k1 k u1 v b vo hv h5 h7) e1
   ·have:=h.ma vo h5;omega
  ·simp[e1,e2]at vo uQ;exact h.iE k1 k2 u1 u2 b vo uQ h5 h6
 ·have uQ:(g.ar.set k v')[k']? =some u:=h4;rw[dc hv]at uQ;by_cases e:k'=k
  ·simp[e]at uQ;subst uQ;intro hb;rcases xV b hb with h7|h7
   ·exact h.iM l k v b h3 hv h7
   ·have:=h.qN h3;omega
  ·simp[e]at uQ;exact h.iM l k' u b h3 uQ
 ·have PX:w'.os=w.os/\w'.tape=w.tape/\w'.output=w.output:=by
   rcases hc with⟨_,rfl⟩|⟨b,cs,_,_,rfl⟩|⟨o,_,rfl⟩<;>exact⟨rfl,rfl,rfl⟩
  refine⟨PX.1.trans hf.os,PX.2.1.trans hf.tape,PX.2.2.trans hf.output,V4 hf.size eP,fun b h3 h4 uQ=>?_,hf.iO,hf.ob,fun k' u b h3 h4=>?_,fun k' u h3=>?_,hf.xR⟩
  ·rw[fY b (V9 h3 hf.size) (fun e=>by rcases hf.ar k v b hv e with h7|h7;omega;exact uQ h7)];exact hf.pF b h3 h4 uQ
  ·have vo:(g.ar.set k v')[k']? =some u:=h3;rw[dc hv]at vo;by_cases e:k'=k
   ·simp[e]at vo;subst vo;rcases xV b h4 with h7|h7
    ·exact hf.ar k v b hv h7
    ·rw[h7];exact .inl hf.size
   ·simp[e]at vo;exact hf.ar k' u b vo h4
  ·obtain⟨u1,h4,h5,h6⟩:=hf.vk k' u h3;by_cases e:k'=k
   ·subst e;obtain rfl:v=u1:=by rw[hv]at h4;exact Option.some.inj h4
    refine⟨v',?_,?_⟩
    ·show(g.ar.set k' v')[k']? =some v';rw[dc hv];simp
    ·have hlen:rC v+1<=rC v':=M3;exact⟨by omega,fun h7=>by omega⟩
   ·refine⟨u1,?_,h5,h6⟩;show(g.ar.set k v')[k']? =some u1;rw[dc hv];simp[e,h4]
 ·show(g.ar.set k v')[k]? =some v';rw[dc hv];simp
theorem Inv.Gv (h:Inv g w V A) (hf:Fr w0 g0 w g) {k:Nat} {r:bu} {v:Value} (hk:A[k]? =some r) (hv:g.ar[k]? =some v) (hw:r.wr=true) {i off b:Nat} {row ds:List DV} (hi:r.rows[i]? =some row)
  (ho:off+ds.length<=r.sz) (hb:v.ownBlock=some b) (vs:List Value) (EO:vs.length=ds.length) (xL:∀(j:Nat) x u,ds[j]? =some x->vs[j]? =some u->a6 g.im w x u):
  ∃cur ty cap,v=.slice (some ⟨b,0,none⟩) r.rows.length cap/\w.heap[b]? =some (.cells cur ty (0,0))/\i*r.sz+off+vs.length<=cur.size/\i*r.sz+off+vs.length<=r.rows.length*r.sz/\
   Inv g (w.setRow b (bV cur.toList (i*r.sz+off) vs).toArray) V (A.set k {r with rows:=r.rows.set i (bV row off ds)})/\
   Ext g w A g (w.setRow b (bV cur.toList (i*r.sz+off) vs).toArray) (A.set k {r with rows:=r.rows.set i (bV row off ds)})/\Fr w0 g0 (w.setRow b (bV cur.toList (i*r.sz+off) vs).toArray) g:=by
 obtain⟨h1,h2,xs,c7,hr⟩:=h.arr k r v hk hv;have qo:g.im b=0:=by have:=h2 b hb;rw[hw]at this;simpa using this
 rcases c7.2 with⟨rfl,_⟩|⟨b',cap,cur,rfl,_,hh,EN,M1,xK,yq⟩
 ·simp[Value.ownBlock]at hb
 simp[Value.ownBlock]at hb;subst hb;have ax:=(Wc.1 hi).1;have hmul:(i+1)*r.sz<=r.rows.length*r.sz:=V1 _ ax;have Si:r.rows.length*r.sz<=cap*r.sz:=V1 _ EN;rw[VW,V5]at hmul;have xU:i*r.sz+off+vs.length<=r.rows.length*r.sz:=by omega
 have Gw:i*r.sz+off+vs.length<=cur.size:=by omega
 have lu:=Ext.setRow g w A b' (bV cur.toList (i*r.sz+off) vs).toArray qo;have hx:Ext g w A g (w.setRow b' (bV cur.toList (i*r.sz+off) vs).toArray) (A.set k {r with rows:=r.rows.set i (bV row off ds)}):=by
  refine⟨lu.ob,lu.gr,fun k' r' qf=>?_⟩;rw[dc hk];by_cases e:k'=k
  ·subst e;obtain rfl:r=r':=by rw[hk]at qf;exact Option.some.inj qf
   exact⟨{r with rows:=r.rows.set i (bV row off ds)},by simp,rfl,by simp,fun _=>rfl⟩
  ·exact⟨r',by simp[e,qf],rfl,VV _,fun _=>rfl⟩
 refine⟨cur,r.dE,cap,rfl,hh,Gw,xU,⟨h.oe,by simp[h.lq],fun l row' b h3 h4=>?_,fun k' r' u h3 h4=>?_,h.jW,h.iE,h.iM,fun b hb=>h.fresh b (by simpa using hb)⟩,hx,hf.setRow b' _ (.inr (hf.ar k _ b' hv rfl))⟩
 ·exact h.ff hx h3 h4 (cg w b' b _ (fun e=>by subst e;exact h.iM l k _ b h4 hv rfl)) (h.obj l row' b h3 h4).1
 ·rw[dc hk]at h3;by_cases e:k'=k
  ·subst e;simp at h3;subst h3;obtain rfl:Value.slice (some ⟨b',0,none⟩) r.rows.length cap=u:=by rw[hv]at h4;exact Option.some.inj h4
   have pH:row.length=r.sz:=h1 row (Wh hi);refine⟨fun q hq=>?_,fun b hb=>?_,bV xs (i*r.sz+off) vs,?_,fun j x u hj hu=>?_⟩
   ·rcases List.mem_or_eq_of_mem_set hq with h5|h5
    ·exact h1 q h5
    ·rw[h5,fx (by omega)];exact pH
   ·simp[Value.ownBlock]at hb;subst hb;rw[qo];exact VX _
   ·refine⟨?_,.inr ⟨b',cap,(bV cur.toList (i*r.sz+off) vs).toArray,?_,VX _,setRow_heap w b' cur _ r.dE (0,0) hh,by simpa using EN,M1,?_,?_⟩⟩
    ·rw[fx (by rw[c7.1];exact xU)];simpa using c7.1
    ·simp
    ·simp only[Wm];rw[fx (by simpa using Gw)];simpa using xK
    ·apply Wt;intro j;simp only[List.length_set];rw[Wi,fM (by simpa using Gw),fM (by rw[c7.1];exact xU),<-yq,Wi];split<;>split<;>first|rfl|(rename_i h5 h6;omega)
   ·simp only at hj;rw[oD h1 hi ho,fM (by rw[ez h1];omega)]at hj;rw[fM (by rw[c7.1];exact xU),EO]at hu;split at hj
    ·rename_i hc;rw[if_pos hc]at hu;exact a6.ft hx.gr x u (xL _ x u hj hu)
    ·rename_i hc;rw[if_neg hc]at hu;exact a6.ft hx.gr x u (hr j x u hj hu)
  ·simp[e]at h3;refine h.fg hx h3 h4 (fun b hb=>cg w b' b _ (fun e'=>by subst e';exact e (h.iE k' k u _ b h4 hv hb rfl))) (fun _ _=>rfl)
end
structure TD where
 ag:Bool
 sz:Nat
 kI:Nat
 zero:Option (List CV)
 el:Option TypeId
 ar:Option (Nat×TypeId)
 fl:List (Nat×Nat)
 ik:Option IntKind
 cy:Bool
 l6:Bool
def sP:Value->Option CV
 |.int k n=>some (.d (.int k n))
 |.bool b=>some (.d (.bool b))
 |.string s=>some (.d (.str s.data.toList))
 |.slice none 0 0=>some .nil
 |.pointer none=>some .np
 |_=>none
def tX:List Value->Option (List CV)
 |[]=>some []
 |v::r=>match sP v,tX r with
  |some c,some cs=>some (c::cs)
  |_,_=>none
def xW (P:Program):List Field->Option (List (Nat×Nat))
 |[]=>some []
 |f::r=>match P.info? f.type,xW P r with
  |some i,some l=>some ((f.offset,i.size)::l)
  |_,_=>none
def DG:TypeDesc->Bool|.struct _=>true|.array _ _=>true|_=>false
def PY:TypeDesc->Option TypeId|.slice e=>some e|_=>none
def PZ:TypeDesc->Option (Nat×TypeId)|.array n e=>some (n,e)|_=>none
def Mt (P:Program):TypeDesc->List (Nat×Nat)|.struct fs=>(xW P fs.toList).getD []|_=>[]
def P0:TypeDesc->Option IntKind|.int k=>some k|_=>none
def KX:TypeDesc->Bool|.string=>true|_=>false
def KY:TypeDesc->Bool|.bool=>true|_=>false
def O9:Option Value->Option (List CV)|some z=>tX z.cells.toList|none=>none
def td (P:Program) (t:TypeId):Option TD:=
 match P.underlying t,P.info? t with
 |some d,some i=>some {ag:=DG d,sz:=i.size,kI:=i.bytes,zero:=O9 i.zero,el:=PY d,ar:=PZ d,fl:=Mt P d,ik:=P0 d,cy:=KX d,l6:=KY d}
 |_,_=>none
def bw (s:St):Operand->Option AV
 |.tmp t=>look s.fr t
 |.const v=>(sP v).map AV.c
 |.func f=>some (.c (.fn f []))
 |.global _=>none
def bM {α:Type} (o:Option α) (k:α->Prop):Prop:=
 match o with
 |some v=>k v
 |none=>False
def mN (A:List bu):CV->Option DV
 |.d x=>some x
 |.nil=>some (.sl [])
 |.own k n=>match A[k]? with
  |some r=>if n=r.rows.length then some (.sl r.rows)else none
  |none=>none
 |_=>none
def hP (A:List bu):List CV->Option (List DV)
 |[]=>some []
 |c::r=>match mN A c,hP A r with
  |some d,some ds=>some (d::ds)
  |_,_=>none
def jX (A:List bu):List (List CV)->Option (List (List DV))
 |[]=>some []
 |c::r=>match hP A c,jX A r with
  |some d,some ds=>some (d::ds)
  |_,_=>none
def fu (A:List bu):CV->List bu
 |.own k _=>match A[k]? with
  |some r=>A.set k {r with wr:=false}
  |none=>A
 |_=>A
def bO (A:List bu) (cs:List CV):List bu:=cs.foldl fu A
def gm (s:St) (p:CV) (n:Nat):Option (List CV):=
 match p with
 |.ptr l off=>match s.V[l]? with
  |some row=>if off+n<=row.length then some ((row.drop off).take n)else none
  |none=>none
 |.ip row off=>if off+n<=row.length then some (((row.drop off).take n).map CV.d)else none
 |.op k m i off=>match s.A[k]? with
  |some r=>if m=r.rows.length then
    match r.rows[i]? with
    |some row=>if off+n<=row.length then some (((row.drop off).take n).map CV.d)else none
    |none=>none
   else none
  |none=>none
 |_=>none
def EP (ag:Bool) (cs:List CV):Option AV:=
 if ag then some (.agg cs)else
 match cs with
 |[c]=>some (.c c)
 |_=>none
def AV.plain:AV->Bool
 |.aZ _=>false
 |.c x=> !x.js
 |.agg xs=>xs.all fun x=> !x.js
def IQ (op:BinOp) (k:IntKind) (x y:Int):Int:=
 match op with
 |.and=>k.wrap (BitVec.ofInt k.bits x &&& BitVec.ofInt k.bits y).toNat
 |.or=>k.wrap (BitVec.ofInt k.bits x|||BitVec.ofInt k.bits y).toNat
 |.xor=>k.wrap (BitVec.ofInt k.bits x ^^^ BitVec.ofInt k.bits y).toNat
 |_=>0
def zj (op:BinOp) (x y:AV):Option AV:=
 match x,y with
 |.c (.d (.int k a)),.c (.d (.int k' b))=>
  if k=k' then
   match op with
   |.add=>some (.c (.d (.int k (k.wrap (a+b)))))
   |.sub=>some (.c (.d (.int k (k.wrap (a-b)))))
   |.mul=>some (.c (.d (.int k (k.wrap (a*b)))))
   |.quo=>if b=0 then none else some (.c (.d (.int k (k.wrap (a.tdiv b)))))
   |.rem=>if b=0 then none else some (.c (.d (.int k (a.tmod b))))
   |.eql=>some (.c (.d (.bool (a==b))))
   |.neq=>some (.c (.d (.bool (a !=b))))
   |.lss=>some (.c (.d (.bool (a<b))))
   |.leq=>some (.c (.d (.bool (a<=b))))
   |.gtr=>some (.c (.d (.bool (a>b))))
   |.geq=>some (.c (.d (.bool (a>=b))))
   |.and=>some (.c (.d (.int k (IQ .and k a b))))
   |.or=>some (.c (.d (.int k (IQ .or k a b))))
   |.xor=>some (.c (.d (.int k (IQ .xor k a b))))
   |.shl=>if b<0 then none else some (.c (.d (.int k (k.wrap (a*2 ^ min b.toNat k.bits)))))
   |.shr=>if b<0 then none else some (.c (.d (.int k (a.fdiv (2 ^ min b.toNat k.bits)))))
   |_=>none
  else none
 |.c (.d (.str a)),.c (.d (.str b))=>
  match op with
  |.add=>if a.length+b.length<=4611686018427387904 then some (.c (.d (.str (a++b))))else none
  |.eql=>some (.c (.d (.bool (a==b))))
  |.neq=>some (.c (.d (.bool (!(a==b)))))
  |.lss=>some (.c (.d (.bool (Op.bytesLess a b))))
  |.leq=>some (.c (.d (.bool (Op.bytesLess a b||a==b))))
  |.gtr=>some (.c (.d (.bool (!(Op.bytesLess a b||a==b)))))
  |.geq=>some (.c (.d (.bool (!(Op.bytesLess a b)))))
  |_=>none
 |_,_=>none
def rD (op:BinOp) (x y:AV):Option AV:=
 match x,y with
 |.c (.d (.bool a)),.c (.d (.bool b))=>
  match op with
  |.eql=>some (.c (.d (.bool (a==b))))
  |.neq=>some (.c (.d (.bool (!(a==b)))))
  |_=>none
 |_,_=>none
def zk:TypeDesc->Option Nat
 |.int _=>some 0
 |.bool=>some 1
 |.string=>some 2
 |_=>none
def M5 (P:Program):Nat->List Field->Option (List Nat)
 |_,[]=>some []
 |i,f::r=>match P.underlying f.type with
  |some d=>match zk d,M5 P (i+1) r with
   |some k,some ks=>if f.name≠ "_" /\f.offset=i then some (k::ks)else none
   |_,_=>none
  |none=>none
def sq (P:Program) (t:TypeId):Option (List Nat):=
 match P.underlying t with
 |some (.struct fs)=>if P.stoodInHeld t=false/\P.eqGuardType P.depth t=false then M5 P 0 fs.toList else none
 |_=>none
def DH:List Nat->List CV->List CV->Option Bool
 |[],[],[]=>some true
 |0::ks,.d (.int k a)::xs,.d (.int k' b)::ys=>if k=k' then(DH ks xs ys).map fun r=>(a==b)&& r else none
 |1::ks,.d (.bool a)::xs,.d (.bool b)::ys=>(DH ks xs ys).map fun r=>(a==b)&& r
 |2::ks,.d (.str a)::xs,.d (.str b)::ys=>(DH ks xs ys).map fun r=>(a==b)&& r
 |_,_,_=>none
def rE (P:Program) (op:BinOp) (t:TypeId) (x y:AV):Option AV:=
 match x,y with
 |.agg xs,.agg ys=>match sq P t with
  |some ks=>match DH ks xs ys with
   |some r=>match op with
    |.eql=>some (.c (.d (.bool r)))
    |.neq=>some (.c (.d (.bool (!r))))
    |_=>none
   |none=>none
  |none=>none
 |_,_=>none
def IS (op:UnOp) (x:AV):Option AV:=
 match op,x with
 |.not,.c (.d (.bool b))=>some (.c (.d (.bool (!b))))
 |.neg,.c (.d (.int k n))=>some (.c (.d (.int k (k.wrap (0-n)))))
 |_,_=>none
def nP (fl:List (Nat×Nat)):List CV->List (Nat×List CV)->Option (List CV)
 |cells,[]=>some cells
 |cells,(i,x)::r=>
  match fl[i]? with
  |none=>none
  |some (off,size)=>if x.length=size/\off+size<=cells.length then nP fl (bV cells off x) r else none
def ia (s:St):List (Nat×Operand)->Option (List (Nat×List CV))
 |[]=>some []
 |(i,x)::r=>match bw s x,ia s r with
  |some v,some l=>if v.plain then some ((i,v.cells)::l)else none
  |_,_=>none
def jF (s:St) (sz:Nat):Nat->List (Nat×Operand)->Option (List (List CV))
 |_,[]=>some []
 |k,(i,x)::r=>match bw s x,jF s sz (k+1) r with
  |some v,some l=>if i=k/\v.plain/\v.cells.length=sz then some (v.cells::l)else none
  |_,_=>none
def Gx:List AV->Option (List Nat)
 |[]=>some []
 |.c (.ptr l 0)::r=>(Gx r).map (l::·)
 |_=>none
def gR (s:St):List Operand->Option (List AV)
 |[]=>some []
 |x::r=>match bw s x,gR s r with
  |some v,some l=>some (v::l)
  |_,_=>none
def zl:AV->Option Nat
 |.c (.d (.str b))=>some b.length
 |.c (.d (.sl rows))=>some rows.length
 |.c .nil=>some 0
 |.c (.own _ n)=>some n
 |_=>none
def rowsOf (A:List bu):AV->Option (List (List DV))
 |.c (.d (.sl rows))=>some rows
 |.c .nil=>some []
 |.c (.own k n)=>match A[k]? with
  |some r=>if n=r.rows.length then some r.rows else none
  |none=>none
 |_=>none
def pI:List DV->Option UInt8
 |[.int .u8 n]=>if 0<=n/\n<256 then some (UInt8.ofNat n.toNat)else none
 |_=>none
def bytesOf:List (List DV)->Option (List UInt8)
 |[]=>some []
 |r::rs=>match pI r,bytesOf rs with
  |some b,some l=>some (b::l)
  |_,_=>none
def rF (lo:Option AV):Option Int:=
 match lo with
 |none=>some 0
 |some (.c (.d (.int _ n)))=>some n
 |_=>none
def mb (hi:Option AV) (n:Nat):Option Int:=
 match hi with
 |none=>some n
 |some (.c (.d (.int _ n)))=>some n
 |_=>none
def lU (s:St):Option Operand->Option (Option AV)
 |none=>some none
 |some x=>(bw s x).map some
@[simp] def Sj (dd:TD) (n:Int):Option DV:=match dd.ik with
 |some k=>some (.int k (k.wrap n))
 |none=>if dd.cy=true/\0<=n/\n<128 then some (.str [UInt8.ofNat n.toNat])else none
def eC (P:Program) (s:St) (ow:Bool) (op:Op) (K:AV->List (List CV)->List bu->Prop):Prop:=
 match op with
 |.move x|.assign x=>bM (bw s x) fun v=>K v s.V s.A
 |.pick c a b=>bM (bw s c) fun v=>match v with
  |.c (.d (.bool t))=>if t=true then bM (bw s a) fun v=>K v s.V s.A else bM (bw s b) fun v=>K v s.V s.A
  |_=>False
 |.alloc e=>bM (td P e) fun d=>bM d.zero fun z=>K (.c (.ptr s.V.length 0)) (s.V++[z]) s.A
 |.box _ x=>bM (bw s x) fun v=>v.plain=true/\K (.c (.ptr s.V.length 0)) (s.V++[v.cells]) s.A
 |.build t parts=>bM (td P t) fun d=>bM d.zero fun z=>bM (ia s parts.toList) fun ps=>bM (nP d.fl z ps) fun cs=>d.ar=none/\d.fl≠[]/\K (.agg cs) s.V s.A
 |.buildSlice t len parts=>bM (td P t) fun d=>bM d.el fun e=>bM (td P e) fun de=>bM (jF s de.sz 0 parts.toList) fun rows=>
   bM (jX s.A rows) fun ds=>rows.length=len/\len*de.sz<=16777216/\0<de.sz/\de.zero.isSome=true/\
    if ow then K (.c (.own s.A.length len)) s.V (bO s.A rows.flatten++[{sz:=de.sz,dE:=e,rows:=ds,wr:=true}])else K (.c (.d (.sl ds))) s.V (bO s.A rows.flatten)
 |.load t a=>bM (td P t) fun d=>bM (bw s a) fun p=>match p with
  |.c p=>bM (gm s p d.sz) fun cs=>bM (EP d.ag cs) fun v=>K v s.V s.A
  |_=>False
 |.store t a x=>bM (td P t) fun d=>bM (bw s a) fun p=>bM (bw s x) fun v=>v.plain=true/\v.cells.length=d.sz/\match p with
  |.c (.ptr l off)=>bM s.V[l]? fun row=>off+d.sz<=row.length/\K (.c .undef) (s.V.set l (bV row off v.cells)) s.A
  |.c (.op k n i off)=>bM s.A[k]? fun r=>n=r.rows.length/\r.wr=true/\bM r.rows[i]? fun row=>bM (hP s.A v.cells) fun ds=>off+d.sz<=r.sz/\(v.cells.all fun c=>match c with|.own k' _=>k'≠k|_=>true)=true/\
    K (.c .undef) s.V ((bO s.A v.cells).set k {r with rows:=r.rows.set i (bV row off ds)})
  |_=>False
 |.nilCheck x=>bM (bw s x) fun v=>match v with
  |.c (.ptr l off)=>K (.c (.ptr l off)) s.V s.A
  |.c (.ip r off)=>K (.c (.ip r off)) s.V s.A
  |.c (.op k n i off)=>K (.c (.op k n i off)) s.V s.A
  |.c (.fn f cap)=>K (.c (.fn f cap)) s.V s.A
  |_=>False
 |.binOp op t x y _=>bM (bw s x) fun a=>bM (bw s y) fun b=>match zj op a b with
  |some v=>K v s.V s.A
  |none=>match rE P op t a b with
   |some v=>K v s.V s.A
   |none=>bM (rD op a b) fun v=>bM (td P t) fun d=>d.l6=true/\K v s.V s.A
 |.unOp op _ x=>bM (bw s x) fun a=>bM (IS op a) fun v=>K v s.V s.A
 |.convert src dst x=>bM (bw s x) fun a=>bM (td P src) fun ds=>bM (td P dst) fun dd=>match a with
  |.c (.d (.int _ n))=>bM (Sj dd n) fun d=>K (.c (.d d)) s.V s.A
  |.c (.d (.str b))=>dd.cy=true/\ds.cy=true/\K (.c (.d (.str b))) s.V s.A
  |.c (.d (.sl rows))=>dd.cy=true/\bM ds.el fun e=>bM (td P e) fun de=>de.ik=some .u8/\bM (bytesOf rows) fun b=>K (.c (.d (.str b))) s.V s.A
  |_=>False
 |.makeFunc (.func f) first captured=>first.size=0/\bM (gR s captured.toList) fun cs=>bM (Gx cs) fun ls=>K (.c (.fn f ls)) s.V s.A
 |.makeSlice t l c=>bM (td P t) fun d=>bM d.el fun e=>bM (td P e) fun de=>bM de.zero fun z=>bM (hP s.A z) fun dz=>bM (bw s l) fun vl=>bM (bw s c) fun vc=>match vl,vc with
  |.c (.d (.int _ n)),.c (.d (.int _ m))=>n=m/\0<=n/\n.toNat*de.kI<=140737488355328/\n.toNat<=9223372036854775807/\0<de.sz/\z.length=de.sz/\
    K (.c (.own s.A.length n.toNat)) s.V (s.A++[{sz:=de.sz,dE:=e,rows:=Wn n.toNat dz,wr:=true}])
  |_,_=>False
 |.slice t x lo hi mx=>mx=none/\bM (td P t) fun d=>bM (bw s x) fun v=>bM (lU s lo) fun l=>bM (lU s hi) fun h=>match v with
  |.c (.d (.str b))=>d.cy=true/\bM (rF l) fun i=>bM (mb h b.length) fun j=>0<=i/\i<=j/\j<=b.length/\K (.c (.d (.str ((b.take j.toNat).drop i.toNat)))) s.V s.A
  |v=>bM (rowsOf s.A v) fun rows=>bM d.el fun e=>bM (td P e) fun de=>bM (rF l) fun i=>bM (mb h rows.length) fun j=>0<=i/\i<=j/\j<=rows.length/\(∀r∈rows,r.length=de.sz)/\
    K (.c (.d (.sl ((rows.take j.toNat).drop i.toNat)))) s.V (bO s.A v.cells)
 |.fieldAddr t x f=>bM (td P t) fun d=>bM d.fl[f]? fun(off,sz)=>sz≠0/\bM (bw s x) fun v=>match v with
  |.c (.ptr l o)=>K (.c (.ptr l (o+off))) s.V s.A
  |.c (.ip r o)=>K (.c (.ip r (o+off))) s.V s.A
  |.c (.op k n i o)=>K (.c (.op k n i (o+off))) s.V s.A
  |_=>False
 |.indexAddr t x ix=>bM (td P t) fun d=>bM (bw s x) fun v=>bM (bw s ix) fun i=>match i with
  |.c (.d (.int _ n))=>0<=n/\(match v with
   |.c (.d (.sl rows))=>bM d.el fun e=>bM (td P e) fun de=>bM rows[n.toNat]? fun row=>row.length=de.sz/\K (.c (.ip row 0)) s.V s.A
   |.c (.own k m)=>bM d.el fun e=>bM (td P e) fun de=>bM s.A[k]? fun r=>m=r.rows.length/\n.toNat<m/\r.sz=de.sz/\K (.c (.op k m n.toNat 0)) s.V s.A
   |.c (.ptr l off)=>bM d.ar fun(len,e)=>bM (td P e) fun de=>n<len/\K (.c (.ptr l (off+n.toNat*de.sz))) s.V s.A
   |_=>False)
  |_=>False
 |.index t x ix=>bM (td P t) fun d=>bM (bw s x) fun v=>bM (bw s ix) fun i=>match v,i with
  |.c (.d (.str b)),.c (.d (.int _ n))=>d.cy=true/\0<=n/\bM b[n.toNat]? fun c=>K (.c (.d (.int .u8 c.toNat))) s.V s.A
  |.agg xs,.c (.d (.int _ n))=>bM d.ar fun(len,e)=>bM (td P e) fun de=>de.ag=false/\de.sz=1/\0<=n/\n<len/\bM xs[n.toNat]? fun c=>K (.c c) s.V s.A
  |_,_=>False
 |.extract x i=>bM (bw s x) fun v=>match v with
  |.aZ xs=>bM xs[i]? fun u=>match u with
   |.aZ _=>False
   |u=>K u s.V s.A
  |_=>False
 |.call {callee:=.builtin .len,args,argTypes}=>bM args[0]? fun x=>bM (bw s x) fun v=>bM argTypes[0]? fun t=>bM (td P t) fun d=>bM (zl v) fun n=>(d.cy=true\/d.el.isSome=true)/\
   (match v with|.c (.d (.str _))=>d.cy=true|_=>d.el.isSome=true)/\K (.c (.d (.int .i64 n))) s.V s.A
 |.call {callee:=.builtin .append,args,argTypes}=>bM args[0]? fun x=>bM args[1]? fun y=>bM argTypes[0]? fun t=>argTypes[1]? =some t/\bM (td P t) fun d=>bM d.el fun e=>bM (td P e) fun de=>
   de.zero.isSome=true/\(bM de.zero fun z=>z.length=de.sz)/\bM (bw s x) fun v=>bM (bw s y) fun u=>bM (rowsOf s.A u) fun nr=>(∀r∈nr,r.length=de.sz)/\match v with
  |.c (.own k n)=>bM s.A[k]? fun r=>n=r.rows.length/\r.dE=e/\r.sz=de.sz/\(n+nr.length)*de.kI<=140737488355328/\n+nr.length<=9223372036854775807/\
    if ow then K (.c (.d (.sl (r.rows++nr)))) s.V (s.A.set k {r with rows:=r.rows++nr,wr:=false})else K (.c (.own k (n+nr.length))) s.V (s.A.set k {r with rows:=r.rows++nr})
  |.c .nil=>nr.length*de.kI<=140737488355328/\nr.length<=9223372036854775807/\
    if ow then K (.c (.d (.sl nr))) s.V (s.A++[{sz:=de.sz,dE:=e,rows:=nr,wr:=false}])else K (.c (.own s.A.length nr.length)) s.V (s.A++[{sz:=de.sz,dE:=e,rows:=nr,wr:=true}])
  |_=>False
 |.call {callee:=.builtin .max,args,.. }=>bM args[0]? fun x=>bM args[1]? fun y=>args.size=2/\bM (bw s x) fun v=>bM (bw s y) fun u=>match v,u with
  |.c (.d (.int k a)),.c (.d (.int _ b))=>K (.c (.d (.int k (if b>a then b else a)))) s.V s.A
  |_,_=>False
 |.call {callee:=.builtin .min,args,.. }=>bM args[0]? fun x=>bM args[1]? fun y=>args.size=2/\bM (bw s x) fun v=>bM (bw s y) fun u=>match v,u with
  |.c (.d (.int k a)),.c (.d (.int _ b))=>K (.c (.d (.int k (if b<a then b else a)))) s.V s.A
  |_,_=>False
 |_=>False
theorem cj {α:Type} {o:Option α} {k:α->Prop} (h:bM o k):∃v,o=some v/\k v:=by
 cases o with
 |none=>exact h.elim
 |some v=>exact⟨v,rfl,h⟩
theorem kR {P:Program} {t:TypeId} {d:TD} (h:td P t=some d):∃de i,P.underlying t=some de/\P.info? t=some i/\d={ag:=DG de,sz:=i.size,kI:=i.bytes,zero:=O9 i.zero,el:=PY de,ar:=PZ de,fl:=Mt P de,ik:=P0 de,cy:=KX de,l6:=KY de}:=by
 unfold td at h;cases hu:P.underlying t with
 |none=>simp[hu]at h
 |some de=>
  cases hi:P.info? t with
  |none=>simp[hu,hi]at h
  |some i=>simp only[hu,hi]at h;exact⟨de,i,rfl,rfl,(Option.some.inj h).symm⟩
theorem mc {P:Program} {t e:TypeId} {d:TD} (h:td P t=some d) (he:d.el=some e):P.underlying t=some (.slice e):=by
 obtain⟨de,i,hu,_,rfl⟩:=kR h;cases de<;>simp[PY]at he
 subst he;exact hu
theorem Kd {P:Program} {t e:TypeId} {n:Nat} {d:TD} (h:td P t=some d) (he:d.ar=some (n,e)):P.underlying t=some (.array n e):=by
 obtain⟨de,i,hu,_,rfl⟩:=kR h;cases de<;>simp[PZ]at he
 obtain⟨rfl,rfl⟩:=he;exact hu
theorem fQ {P:Program} {t:TypeId} {d:TD} (h:td P t=some d):∃i,P.info? t=some i/\i.size=d.sz/\i.bytes=d.kI/\∀z,d.zero=some z->∃v,i.zero=some v/\tX v.cells.toList=some z:=by
 obtain⟨de,i,_,hi,rfl⟩:=kR h;refine⟨i,hi,rfl,rfl,fun z hz=>?_⟩;cases Mu:i.zero with
 |none=>simp[O9,Mu]at hz
 |some v=>exact⟨v,rfl,by simpa[O9,Mu]using hz⟩
theorem qP {P:Program} {t:TypeId} {d:TD} (h:td P t=some d) (he:d.cy=true):P.underlying t=some .string:=by
 obtain⟨de,i,hu,_,rfl⟩:=kR h;cases de<;>simp[KX]at he
 exact hu
theorem KZ {P:Program} {t:TypeId} {d:TD} (h:td P t=some d) (he:d.l6=true):P.underlying t=some .bool:=by
 obtain⟨de,i,hu,_,rfl⟩:=kR h;cases de<;>simp[KY]at he
 exact hu
theorem Ke {P:Program} {t:TypeId} {d:TD} {k:IntKind} (h:td P t=some d) (he:d.ik=some k):P.underlying t=some (.int k):=by
 obtain⟨de,i,hu,_,rfl⟩:=kR h;cases de<;>simp[P0]at he
 subst he;exact hu
theorem DI (s:ByteArray):bs s.data.toList=s:=by simp[bs]
theorem sQ (l:List UInt8):(bs l).toList=l:=by rw[ByteArray.toList_eq];simp[bs]
theorem pJ (l:List UInt8):(bs l).size=l.length:=by simp[bs,ByteArray.size]
section
variable {P:Program} {g g' g0:Gh} {w w' w0:World} {V V':List (List CV)} {A A':List bu} {s:St} {a:Act}
theorem mO {v:Value} {c:CV} (h:sP v=some c):bc g w A c v:=by
 unfold sP at h;split at h<;>first|(simp at h;done)|(simp at h;subst h;simp only[bc,a6])|skip
 rw[DI]
theorem ig:∀{vs:List Value} {cs:List CV},tX vs=some cs->vs.length=cs.length
 |[],cs,h=>by simp[tX]at h;subst h;rfl
 |v::r,cs,h=>by
  simp only[tX]at h;split at h
  ·rename_i c cs' h1 h2;simp at h;subst h;simp[ig h2]
  ·simp at h
theorem oF:∀{vs:List Value} {cs:List CV},tX vs=some cs->∀(j:Nat) c u,cs[j]? =some c->vs[j]? =some u->sP u=some c
 |[],cs,h,j,c,u,hc,hu=>by simp at hu
 |v::r,cs,h,j,c,u,hc,hu=>by
  simp only[tX]at h;split at h
  ·rename_i c' cs' h1 h2;simp at h;subst h;cases j with
   |zero=>simp at hc hu;subst hc;subst hu;exact h1
   |succ j=>simp at hc hu;exact oF h2 j c u hc hu
  ·simp at h
theorem aI (hS:∀t x,look s.fr t=some x->∃u,a.tmps[t]? =some u/\aR g w s.A x u) {o:Operand} {x:AV} (h:bw s o=some x):aR g w s.A x (a.eval o):=by
 cases o with
 |tmp t=>
  obtain⟨u,hu,hr⟩:=hS t x h;simpa[Act.eval,hu]using hr
 |const v=>
  simp only[bw,WL]at h;obtain⟨c,hc,rfl⟩:=h;exact mO (g:=g) (w:=w) (A:=s.A) hc
 |func f=>
  simp only[bw,Option.some.injEq]at h;subst h;exact⟨[],rfl,rfl,fun i l b h=>by simp at h⟩
 |«global»g=>simp[bw]at h
def du (P:Program) (w0:World) (g0 g:Gh) (w:World) (A:List bu) (m:Sem Next) (K:AV->List (List CV)->List bu->Prop):Prop:=
 ∃x V' A' nx v w' g',K x V' A'/\m.run P w=.ok nx w'/\(nx=.value v\/(nx=.skip/\v=undef))/\aR g' w' A' x v/\Inv g' w' V' A'/\Ext g w A g' w' A'/\Fr w0 g0 w' g'
theorem du.value (hI:Inv g w V A) (hF:Fr w0 g0 w g) {m:Sem Next} {K:AV->List (List CV)->List bu->Prop} {x:AV} {v:Value} (hm:m.run P w=.ok (.value v) w) (hr:aR g w A x v) (hK:K x V A):du P w0 g0 g w A m K:=
 ⟨x,V,A,_,v,w,g,hK,hm,.inl rfl,hr,hI,.refl _ _ _,hF⟩
theorem mP (w:World) (b off n:Nat) (Q:Nat->Value->Prop) (h:∀j,j<n->∃u,w.cell? ⟨b,off+j,none⟩=some u/\Q j u):
  ∃vs:List Value,vs.length=n/\∀(j:Nat) u,vs[j]? =some u->w.cell? ⟨b,off+j,none⟩=some u/\Q j u:=by
 refine⟨(List.range n).map fun j=>(w.cell? ⟨b,off+j,none⟩).getD undef,by simp,fun j u hu=>?_⟩;have hj:j<n:=by
  have:=(Wc.1 hu).1;simpa using this
 simp[hj]at hu;obtain⟨u',h1,h2⟩:=h j hj;rw[h1]at hu;simp at hu;subst hu;exact⟨h1,h2⟩
def jG (g:Gh) (w:World) (A:List bu) (cs:List CV) (vs:List Value):Prop:=vs.length=cs.length/\∀(j:Nat) c u,cs[j]? =some c->vs[j]? =some u->bc g w A c u
theorem qp (hI:Inv g w s.V s.A) {p:CV} {v:Value} {n:Nat} {cs:List CV} (hp:bc g w s.A p v) (h:gm s p n=some cs):
  ∃b off vs,v=.pointer (some ⟨b,off,none⟩)/\cs.length=n/\jG g w s.A cs vs/\∀(j:Nat) u,vs[j]? =some u->w.cell? ⟨b,off+j,none⟩=some u:=by
 unfold gm at h;split at h
 ·-- an object
  rename_i l off;split at h
  ·rename_i row ev;split at h
   ·rename_i hle;simp at h;subst h;obtain⟨b,hb,rfl⟩:=hp;obtain⟨_,cells,ty,hh,hs,hr⟩:=hI.obj l row b ev hb;obtain⟨vs,hl,hv⟩:=mP w b off n (fun j u=>∀c,row[off+j]? =some c->bc g w s.A c u) (fun j hj=>by
     have Gy:off+j<cells.size:=by omega
     refine⟨cells[off+j],by simp[World.cell?,hh,Gy],fun c hc=>hr (off+j) c _ hc (by simp[Gy])⟩)
    refine⟨b,off,vs,rfl,by simp;omega,⟨by simp;omega,fun j c u h1 h2=>(hv j u h2).2 c ?_⟩,fun j u hu=>(hv j u hu).1⟩;rw[Wi]at h1;split at h1
    ·rwa[Wp]at h1
    ·cases h1
   ·simp at h
  ·simp at h
 ·rename_i row off;split at h
  ·rename_i hle;simp at h;subst h;obtain⟨b,o,rfl,hi,hr⟩:=hp;obtain⟨vs,hl,hv⟩:=mP w b (o+off) n (fun j u=>∀x,row[off+j]? =some x->a6 g.im w x u) (fun j hj=>by
    have hx:row[off+j]? =some row[off+j]:=Wd (by omega);obtain⟨u,h1,h2⟩:=dh.at_ hr hx;refine⟨u,by rw[VY];exact h1,fun x h3=>?_⟩;rw[hx]at h3;cases h3;exact h2)
   refine⟨b,o+off,vs,rfl,by simp;omega,⟨by simp;omega,fun j c u h1 h2=>?_⟩,fun j u hu=>(hv j u hu).1⟩;simp only[Wi]at h1;split at h1
   ·rw[Wp,WC,WL]at h1;obtain⟨x,h3,rfl⟩:=h1;exact(hv j u h2).2 x h3
   ·cases h1
  ·simp at h
 ·rename_i k m i off;split at h
  ·rename_i r hk;split at h
   ·rename_i hm;split at h
    ·rename_i row ev;split at h
     ·rename_i hle;simp at h;subst h;obtain⟨b,e,rfl,r',qf,hn,hq⟩:=hp;obtain rfl:r=r':=by rw[hk]at qf;exact Option.some.inj qf
      obtain⟨cap,Ct,rfl⟩:=hq hm;obtain⟨h1,_,xs,c7,hr⟩:=hI.arr k r _ hk Ct;have pH:row.length=r.sz:=h1 row (Wh ev);obtain⟨vs,hl,hv⟩:=mP w b (i*r.sz+off) n (fun j u=>∀x,row[off+j]? =some x->a6 g.im w x u) (fun j hj=>by
       have hx:row[off+j]? =some row[off+j]:=Wd (by omega);have hf:=kQ h1 ev hx;have ax:i*r.sz+(off+j)<xs.length:=by
        have:=(Wc.1 hf).1;rw[ez h1]at this;rw[c7.1];exact this
       have hu:xs[i*r.sz+(off+j)]? =some xs[i*r.sz+(off+j)]:=Wd ax;have hc:=c7.cells (g:=b) rfl _ _ hu;have sO:(⟨b,0,none⟩:Addr).add (i*r.sz+(off+j))=⟨b,i*r.sz+off+j,none⟩:=by unfold Addr.add;split<;>simp_all[VY]
       rw[sO]at hc;refine⟨_,hc,fun x h3=>?_⟩;rw[hx]at h3;cases h3;exact hr _ _ _ hf hu)
      refine⟨b,i*r.sz+off,vs,rfl,by simp;omega,⟨by simp;omega,fun j c u h1 h2=>?_⟩,fun j u hu=>(hv j u hu).1⟩;simp only[Wi]at h1;split at h1
      ·rw[Wp,WC,WL]at h1;obtain⟨x,h3,rfl⟩:=h1;exact(hv j u h2).2 x h3
      ·cases h1
     ·simp at h
    ·simp at h
   ·simp at h
  ·simp at h
 ·simp at h
theorem me (b off j:Nat):(⟨b,off,none⟩:Addr).add j=⟨b,off+j,none⟩:=by unfold Addr.add;split<;>simp_all
theorem lV {t:TypeId} {d:TD} (ht:td P t=some d) {b off:Nat} {vs:List Value} (hv:∀(j:Nat) u,vs[j]? =some u->w.cell? ⟨b,off+j,none⟩=some u) (hl:vs.length=d.sz):
  (d.ag=true->(Instr.loadAt t (.pointer (some ⟨b,off,none⟩))).run P w=.ok (.agg vs.toArray) w)/\
  (d.ag=false->∀u,vs=[u]->(Instr.loadAt t (.pointer (some ⟨b,off,none⟩))).run P w=.ok u w):=by
 obtain⟨de,i,hu,hi,rfl⟩:=kR ht;have Sk:=run_loadCells_list (P:=P) w ⟨b,off,none⟩ vs (fun j u h=>by rw[me];exact hv j u h);simp only at hl⊢;rw[hl]at Sk;have IU:(isAgg t).run P w=.ok (DG de) w:=by
  simp only[isAgg,Sem.run_bind,run_underlying hu,Result.andThen_ok];cases de<;>rfl
 have eP:(sizeOf t).run P w=.ok i.size w:=by simp[sizeOf,typeInfo,hi]
 constructor
 ·intro ha;show(loadVar t ⟨b,off,none⟩).run P w=_;unfold loadVar;rw[Sem.run_bind,IU,ha];simp only[Result.andThen_ok,if_true,Sem.run_bind,eP,Sk,Sem.run_pure]
 ·intro ha u TE;have hc:=hv 0 u (by rw[TE];rfl);simp only[Wa]at hc;show(loadVar t ⟨b,off,none⟩).run P w=_;unfold loadVar;rw[Sem.run_bind,IU,ha];simp only[Result.andThen_ok,WK,if_false,run_load,hc]
theorem AV.fZ {x:AV} {v:Value} (h:aR g w A x v) (hp:x.plain=true):jG g w A x.cells v.cells.toList/\∀u∈v.cells.toList,u.oneCell'=true:=by
 cases x with
 |aZ xs=>simp[AV.plain]at hp
 |c x=>
  simp[AV.plain]at hp;have hc:bc g w A x v:=h;have h1:=bc.lA hp hc;have xK:v.cells= #[v]:=by cases v<;>first|rfl|simp[Value.oneCell']at h1
  rw[xK];refine⟨⟨rfl,fun j c u h2 h3=>?_⟩,fun u hu=>?_⟩
  ·cases j with
   |zero=>simp[AV.cells]at h2 h3;subst h2;subst h3;exact hc
   |succ j=>simp at h3
  ·simp at hu;subst hu;exact h1
 |agg xs=>
  simp only[AV.plain,WE,Bool.not_eq_true']at hp;obtain⟨vs,rfl,hl,hc⟩:=h;refine⟨⟨by simpa[Value.cells,AV.cells]using hl,fun j c u h2 h3=>hc j c u h2 (by simpa[Value.cells]using h3)⟩,fun u hu=>?_⟩;simp[Value.cells]at hu;obtain⟨j,hj⟩:=Wo hu;have iP:=(Wc.1 hj).1;have hx:xs[j]? =some (xs[j]'(by omega)):=Wd (by omega);exact bc.lA (hp _ (Wh hx)) (hc j _ u hx hj)
theorem sR (A:List bu) (c' c:CV):mN (fu A c') c=mN A c:=by
 cases c'<;>try rfl
 rename_i k' n';simp only[fu];cases hk:A[k']? with
 |none=>rfl
 |some r=>
  cases c<;>try rfl
  rename_i k n;simp only[mN,dc hk];by_cases e:k=k'
  ·subst e;simp[hk]
  ·simp[e]
theorem vL (A:List bu) (c':CV):∀cs,hP (fu A c') cs=hP A cs
 |[]=>rfl
 |c::r=>by simp only[hP,sR,vL A c' r]
theorem rG:∀{cs:List CV} {ds:List DV},hP A cs=some ds->ds.length=cs.length
 |[],ds,h=>by simp[hP]at h;subst h;rfl
 |c::r,ds,h=>by
  simp only[hP]at h;split at h
  ·rename_i d ds' h1 h2;simp at h;subst h;simp[rG h2]
  ·simp at h
theorem rH (hI:Inv g w V A) (hF:Fr w0 g0 w g) {c:CV} {u:Value} {d:DV} (hc:bc g w A c u) (hd:mN A c=some d):
  ∃g',Inv g' w V (fu A c)/\Ext g w A g' w (fu A c)/\Fr w0 g0 w g'/\g'.ar=g.ar/\g'.ob=g.ob/\a6 g'.im w d u:=by
 cases c with
 |d x=>simp[mN]at hd;subst hd;exact⟨g,hI,.refl _ _ _,hF,rfl,rfl,hc⟩
 |nil=>
  simp[mN]at hd;subst hd;simp only[bc]at hc;subst hc;exact⟨g,hI,.refl _ _ _,hF,rfl,rfl,by simp only[a6];exact⟨none,0,rfl,VV _,.inl trivial⟩⟩
 |own k n=>
  obtain⟨ad,cap,e,r,hk,hn,hv⟩:=hc;simp only[mN,hk]at hd;split at hd
  ·rename_i cY;simp at hd;subst hd;obtain⟨g',h1,h2,h3,h4,h5,h6⟩:=hI.seal hF hk (hv cY);refine⟨g',?_,?_,h3,h4,h5,h6⟩
   ·simpa only[fu,hk]using h1
   ·simpa only[fu,hk]using h2
  ·simp at hd
 |_=>simp[mN]at hd
theorem sS:∀{cs:List CV} {vs:List Value} {ds:List DV} {g:Gh} {A:List bu},Inv g w V A->Fr w0 g0 w g->jG g w A cs vs->hP A cs=some ds->
  ∃g',Inv g' w V (bO A cs)/\Ext g w A g' w (bO A cs)/\Fr w0 g0 w g'/\g'.ar=g.ar/\g'.ob=g.ob/\∀(j:Nat) x u,ds[j]? =some x->vs[j]? =some u->a6 g'.im w x u
 |[],vs,ds,g,A,hI,hF,hr,hd=>by
  simp[hP]at hd;subst hd;exact⟨g,hI,.refl _ _ _,hF,rfl,rfl,fun j x u h=>by simp at h⟩
 |c::r,vs,ds,g,A,hI,hF,hr,hd=>by
  cases vs with
  |nil=>exact absurd hr.1 (by simp)
  |cons v vs=>
   simp only[hP]at hd;split at hd
   ·rename_i d ds' h1 h2;simp at hd;subst hd;obtain⟨g1,e9,lu,jS,xX,pG,gE⟩:=rH hI hF (hr.2 0 c v rfl rfl) h1;have At:jG g1 w (fu A c) r vs:=⟨by simpa using hr.1,fun j c' u h3 h4=>bc.ext lu (hr.2 (j+1) c' u (by simpa using h3) (by simpa using h4))⟩;obtain⟨g2,Az,lr,Ck,P1,l7,oG⟩:=sS e9 jS At (by rw[vL];exact h2);refine⟨g2,Az,lu.trans lr,Ck,P1.trans xX,l7.trans pG,fun j x u h3 h4=>?_⟩;cases j with
    |zero=>simp at h3 h4;subst h3;subst h4;exact a6.ft lr.gr _ _ gE
    |succ j=>simp at h3 h4;exact oG j x u h3 h4
   ·simp at hd
theorem tY:∀{rows:List (List CV)} {ds:List (List DV)},jX A rows=some ds->hP A rows.flatten=some ds.flatten/\ds.length=rows.length/\∀(i:Nat) r d,rows[i]? =some r->ds[i]? =some d->d.length=r.length
 |[],ds,h=>by simp[jX]at h;subst h;exact⟨rfl,rfl,fun i r d h=>by simp at h⟩
 |c::r,ds,h=>by
  simp only[jX]at h;split at h
  ·rename_i d ds' h1 h2;simp at h;subst h;obtain⟨h3,h4,h5⟩:=tY h2;refine⟨?_,by simp[h4],fun i r' d' h6 h7=>?_⟩
   ·simp only[Wg];have:∀(xs ys:List CV) (dx dy:List DV),hP A xs=some dx->hP A ys=some dy->hP A (xs++ys)=some (dx++dy):=by
     intro xs;induction xs with
     |nil=>intro ys dx dy hx hy;simp[hP]at hx;subst hx;simpa using hy
     |cons x xs ih=>
      intro ys dx dy hx hy;simp only[hP]at hx;split at hx
      ·rename_i d1 d2 h8 h9;simp at hx;subst hx;simp only[List.cons_append,hP,h8,ih ys d2 dy h9 hy]
      ·simp at hx
    exact this _ _ _ _ h1 h3
   ·cases i with
    |zero=>simp at h6 h7;subst h6;subst h7;exact rG h1
    |succ i=>simp at h6 h7;exact h5 i r' d' h6 h7
  ·simp at h
end
section
variable {P:Program} {g g' g0:Gh} {w w' w0:World} {V V':List (List CV)} {A A':List bu} {s:St} {a:Act} {K:AV->List (List CV)->List bu->Prop}
abbrev gU (g:Gh) (w:World) (s:St) (a:Act):Prop:=∀t x,look s.fr t=some x->∃u,a.tmps[t]? =some u/\aR g w s.A x u
theorem bh {m:Sem Value} {w w':World} {v:Value} (h:m.run P w=.ok v w'):(do pure (Next.value (<-m)):Sem Next).run P w=.ok (.value v) w':=by
 rw[Sem.run_bind,h];rfl
theorem vM {m:Sem Unit} {w w':World} (h:m.run P w=.ok () w'):(do m;pure Next.skip:Sem Next).run P w=.ok .skip w':=by
 rw[Sem.run_bind,h];rfl
theorem jc (w:World) (e:TypeId) (cs:Array Value):(newRow e cs).run P w=.ok ⟨w.heap.size,0,none⟩ (w.alloc (.cells cs e)):=by
 simp[newRow]
theorem AA (hI:Inv g w s.V s.A) (hF:Fr w0 g0 w g) {m:Sem Next} {cs:Array Value} {e:TypeId} {row:List CV} (hr:jG g w s.A row cs.toList)
  (hm:m.run P w=.ok (.value (.pointer (some ⟨w.heap.size,0,none⟩))) (w.alloc (.cells cs e))) (hK:K (.c (.ptr s.V.length 0)) (s.V++[row]) s.A):du P w0 g0 g w s.A m K:=by
 obtain⟨g',h1,h2,h3,h4⟩:=hI.newObj hF cs e row (by simpa using hr.1) (fun j c u hc hu=>hr.2 j c u hc (by simpa using hu));exact⟨_,_,_,_,_,_,g',hK,hm,.inl rfl,⟨w.heap.size,h4,rfl⟩,h1,h2,h3⟩
theorem AB (hI:Inv g w s.V s.A) (hF:Fr w0 g0 w g) {e:TypeId} {d:TD} {z:List CV} (ht:td P e=some d) (hz:d.zero=some z) (hK:K (.c (.ptr s.V.length 0)) (s.V++[z]) s.A):
  du P w0 g0 g w s.A (do pure (.value (<-Instr.alloc e true (.tuple #[])))) K:=by
 obtain⟨i,hi,_,_,h0⟩:=fQ ht;obtain⟨v,hv,hc⟩:=h0 z hz;refine AA hI hF (cs:=v.cells) (e:=e) ⟨ig hc,fun j c u h1 h2=>mO (oF hc j c u h1 h2)⟩ (bh ?_) hK;simp[Instr.alloc,zeroValue,typeInfo,hi,hv,newVar,jc]
theorem ER (hI:Inv g w s.V s.A) (hF:Fr w0 g0 w g) {e:TypeId} {x:AV} {u:Value} (hx:aR g w s.A x u) (hp:x.plain=true) (hK:K (.c (.ptr s.V.length 0)) (s.V++[x.cells]) s.A):
  du P w0 g0 g w s.A (do pure (.value (<-Instr.box e u))) K:=by
 refine AA hI hF (cs:=u.cells) (e:=e) (AV.fZ hx hp).1 (bh ?_) hK;simp[Instr.box,newVar,jc]
theorem Cu (hI:Inv g w s.V s.A) (hF:Fr w0 g0 w g) {t:TypeId} {d:TD} (ht:td P t=some d) {p:CV} {v:Value} (hp:bc g w s.A p v) {cs:List CV} (xK:gm s p d.sz=some cs) {x:AV} (hx:EP d.ag cs=some x) (hK:K x s.V s.A):
  du P w0 g0 g w s.A (do pure (.value (<-Instr.loadAt t v))) K:=by
 obtain⟨b,off,vs,rfl,hl,hr,hc⟩:=qp hI hp xK;obtain⟨h1,h2⟩:=lV (P:=P) ht hc (hr.1.trans hl);cases Gz:d.ag with
 |true=>
  simp[EP,Gz]at hx;subst hx;exact du.value hI hF (bh (h1 Gz)) (x:=.agg cs) ⟨vs,rfl,hr.1,fun i c u h3 h4=>hr.2 i c u h3 h4⟩ hK
 |false=>
  simp only[EP,Gz,WK,if_false]at hx;split at hx
  ·rename_i c;simp at hx;subst hx;obtain⟨u,rfl⟩:∃u,vs=[u]:=by
    have:=hr.1;simp at this;exact List.length_eq_one_iff.1 this
   exact du.value hI hF (bh (h2 Gz u rfl)) (x:=.c c) (hr.2 0 c u rfl rfl) hK
  ·simp at hx
theorem kS {t:TypeId} {d:TD} (ht:td P t=some d) {b off:Nat} {v:Value} (hl:v.cells.size=d.sz) {cur:Array Value} {ty:TypeId} (hh:w.heap[b]? =some (.cells cur ty (0,0))) (xU:off+d.sz<=cur.size)
  (h1:∀u∈v.cells.toList,u.oneCell'=true):
  (Instr.storeAt t (.pointer (some ⟨b,off,none⟩)) v).run P w=.ok () (w.setRow b (bV cur.toList off v.cells.toList).toArray):=by
 obtain⟨i,hi,eP,_,_⟩:=fQ ht;have hs:(sizeOf t).run P w=.ok i.size w:=by simp[sizeOf,typeInfo,hi]
 have jt:=run_storeCells_at P b off ty v.cells.toList 0 cur w hh (by simp;omega) h1;simp only[Wa]at jt;show(storeVar t ⟨b,off,none⟩ v).run P w=_;unfold storeVar;rw[Sem.run_bind,hs];simp only[Result.andThen_ok];rw[if_neg (by omega)];simpa[bV]using jt
theorem vN {cs:List CV} {vs:List Value} {row:List CV} {cur:List Value} {off:Nat} (hl:cur.length=row.length) (hr:∀(j:Nat) c u,row[j]? =some c->cur[j]? =some u->bc g w A c u) (h:jG g w A cs vs) (xU:off+cs.length<=row.length):
  ∀(j:Nat) c u,(bV row off cs)[j]? =some c->(bV cur off vs)[j]? =some u->bc g w A c u:=by
 intro j c u hc hu;rw[fM (by omega)]at hc;rw[fM (by rw[h.1];omega),h.1]at hu;split at hc
 ·rename_i hj;rw[if_pos hj]at hu;exact h.2 _ c u hc hu
 ·rename_i hj;rw[if_neg hj]at hu;exact hr j c u hc hu
theorem uR (hI:Inv g w s.V s.A) (hF:Fr w0 g0 w g) {t:TypeId} {d:TD} (ht:td P t=some d) {l off:Nat} {p v:Value} (hp:bc g w s.A (.ptr l off) p) {x:AV} (hx:aR g w s.A x v) (og:x.plain=true) (hlen:x.cells.length=d.sz)
  {row:List CV} (ev:s.V[l]? =some row) (xU:off+d.sz<=row.length) (hK:K (.c .undef) (s.V.set l (bV row off x.cells)) s.A):
  du P w0 g0 g w s.A (do Instr.storeAt t p v;pure .skip) K:=by
 obtain⟨b,hb,rfl⟩:=hp;obtain⟨xK,h1⟩:=AV.fZ hx og;obtain⟨_,cur,ty,hh,hs,hr⟩:=hI.obj l row b ev hb;have EO:v.cells.size=d.sz:=by have:=xK.1;simp at this;omega
 have e0:=kS (P:=P) ht EO hh (off:=off) (by omega) h1
 obtain⟨k1,k2,k3⟩:=hI.setObj hF ev hb (bV cur.toList off v.cells.toList).toArray (row':=bV row off x.cells)
  (by simp only[Wm];rw[fx (by simp;omega),fx (by omega)];simpa using hs)
  (fun j c u h3 h4=>vN (cur:=cur.toList) (by rw[WH];exact hs) (fun j c u h5 h6=>hr j c u h5 (by simpa using h6)) xK (by omega) j c u h3 (by simpa using h4))
 exact⟨_,_,_,_,undef,_,g,hK,vM e0,.inr ⟨rfl,rfl⟩,rfl,k1,k2,k3⟩
theorem Cv {cs:List CV} {k:Nat} (h:∀c∈cs,∀k' n,c=.own k' n->k'≠k):∀{A:List bu},(bO A cs)[k]? =A[k]? :=by
 induction cs with
 |nil=>intro A;rfl
 |cons c cs ih=>
  intro A;simp only[bO,Wx];have:=ih (fun c' AD=>h c' (by simp[AD])) (A:=fu A c);simp only[bO]at this;rw[this];cases c<;>try rfl
  rename_i k' n;have cY:=h (.own k' n) (by simp) k' n rfl;simp only[fu];cases hk:A[k']? with
  |none=>rfl
  |some r=>rw[Ws cY]
theorem uS (hI:Inv g w s.V s.A) (hF:Fr w0 g0 w g) {t:TypeId} {d:TD} (ht:td P t=some d) {k n i off:Nat} {p v:Value} (hp:bc g w s.A (.op k n i off) p) {x:AV} (hx:aR g w s.A x v) (og:x.plain=true) (hlen:x.cells.length=d.sz)
  {r:bu} (hk:s.A[k]? =some r) (hn:n=r.rows.length) (hw:r.wr=true) {row:List DV} (ev:r.rows[i]? =some row) {ds:List DV} (xL:hP s.A x.cells=some ds) (xU:off+d.sz<=r.sz)
  (cX:(x.cells.all fun c=>match c with|.own k' _=>k'≠k|_=>true)=true)
  (hK:K (.c .undef) s.V ((bO s.A x.cells).set k {r with rows:=r.rows.set i (bV row off ds)})):
  du P w0 g0 g w s.A (do Instr.storeAt t p v;pure .skip) K:=by
 obtain⟨xK,h1⟩:=AV.fZ hx og;obtain⟨g1,e9,lu,jS,xX,pG,gE⟩:=sS hI hF xK xL;obtain⟨b,e,rfl,r',qf,Ms,hq⟩:=hp;obtain rfl:r=r':=by rw[hk]at qf;exact Option.some.inj qf
 obtain⟨cap,Ct,rfl⟩:=hq hn;have gF:(bO s.A x.cells)[k]? =some r:=by
  rw[Cv fun c hc k' n' e=>?_]
  ·exact hk
  ·subst e;have:=WE.1 cX _ hc;simpa using this
 have ES:=rG xL;have EO:v.cells.size=d.sz:=by have:=xK.1;simp at this;omega
 obtain⟨cur,ty,cap',iG,hh,EM,Vo,Az,lr,Ck⟩:=e9.Gv jS gF (by rw[xX];exact Ct) hw ev (ds:=ds) (off:=off) (by omega) (b:=b) rfl v.cells.toList (by simp;omega) gE;have e0:=kS (P:=P) ht EO hh (off:=i*r.sz+off) (by simp at EM;omega) h1;exact⟨_,_,_,_,undef,_,g1,hK,vM e0,.inr ⟨rfl,rfl⟩,rfl,Az,lu.trans lr,Ck⟩
theorem zm {op:BinOp} {t:TypeId} {ox oy:Operand} {x y r:AV} {u v:Value} (hx:aR g w A x u) (hy:aR g w A y v) (h:zj op x y=some r):
  ∃z,(do eqGuard op t ox oy u v;binOp op t u v:Sem Value).run P w=.ok z w/\aR g w A r z:=by
 unfold zj at h;split at h
 ·rename_i k a k' b;simp only[aR,di,bc,a6]at hx hy;subst hx;subst hy;split at h
  ·rename_i hk;subst hk;have hg:∀op,(eqGuard op t ox oy (.int k a) (.int k b)).run P w=.ok () w:=by
    intro op;cases op<;>simp[eqGuard]
   rw[Sem.run_bind,hg];simp only[Result.andThen_ok];split at h<;>first|(simp at h;done)|skip
   all_goals(try(split at h<;>first|(simp at h;done)|skip))
   all_goals(simp only[Option.some.injEq]at h;subst h;refine⟨_,?_,rfl⟩)
   all_goals first
    |(simp[binOp,Op.intArith];done)
    |(simp[binOp,Op.intBits,IQ];done)
    |(rename_i hb;simp[binOp,Op.shift,hb];done)
    |(rename_i hb;simp[binOp,Op.intDiv,hb];done)
    |(simp[binOp,Op.intCmp];done)
  ·simp at h
 ·rename_i a b;simp only[aR,di,bc,a6]at hx hy;subst hx;subst hy;have hg:∀op,(eqGuard op t ox oy (.string (bs a)) (.string (bs b))).run P w=.ok () w:=by
   intro op;cases op<;>simp[eqGuard]
  rw[Sem.run_bind,hg];simp only[Result.andThen_ok];split at h<;>first|(simp at h;done)|skip
  ·split at h
   ·rename_i hle;simp only[Option.some.injEq]at h;subst h;refine⟨.string (bs (a++b)),?_,rfl⟩;have hn:¬(((bs a).size+(bs b).size:Nat):Int)>IntKind.i64.max:=by rw[pJ,pJ];simp[IntKind.max,IntKind.signed,IntKind.bits];omega
    have GB:bs a++bs b=bs (a++b):=by
     simp only[bs];apply ByteArray.ext;simp
    simp only[binOp,Op.stringOp,if_neg hn,GB,Sem.run_pure]
   ·simp at h
  all_goals(simp only[Option.some.injEq]at h;subst h;refine⟨_,?_,rfl⟩;simp[binOp,Op.stringOp,sQ])
 ·simp at h
theorem xY {op:BinOp} {t:TypeId} {d:TD} {ox oy:Operand} {x y r:AV} {u v:Value} (ht:td P t=some d) (hd:d.l6=true) (hx:aR g w A x u) (hy:aR g w A y v) (h:rD op x y=some r):
  ∃z,(do eqGuard op t ox oy u v;binOp op t u v:Sem Value).run P w=.ok z w/\aR g w A r z:=by
 have hb:=KZ ht hd;unfold rD at h;split at h
 ·rename_i a b;simp only[aR,di,bc,a6]at hx hy;subst hx;subst hy;split at h<;>first|(simp at h;done)|skip
  all_goals(simp only[Option.some.injEq]at h;subst h;refine⟨_,?_,rfl⟩;rw[Sem.run_bind])
  ·rw[show(eqGuard .eql t ox oy (.bool a) (.bool b)).run P w=.ok () w by simp[eqGuard]];simp only[Result.andThen_ok,run_eql_bool w t a b hb]
  ·rw[show(eqGuard .neq t ox oy (.bool a) (.bool b)).run P w=.ok () w by simp[eqGuard]];simp only[Result.andThen_ok,run_neq_bool w t a b hb]
 ·simp at h
theorem AE {d:Nat} {xs ys:Array Value}:∀{fs:List Field} {i:Nat} {ks:List Nat} {cs ds:List CV} {r:Bool},M5 P i fs=some ks->DH ks cs ds=some r->
  (∀(j:Nat) c,cs[j]? =some c->∃u,xs[i+j]? =some u/\bc g w A c u)->(∀(j:Nat) c,ds[j]? =some c->∃u,ys[i+j]? =some u/\bc g w A c u)->(Op.eqFields (d+1) xs ys fs).run P w=.ok r w
 |[],i,ks,cs,ds,r,h1,h2,_,_=>by
  simp[M5]at h1;subst h1;cases cs<;>cases ds<;>simp[DH]at h2
  subst h2;simp[Op.eqFields]
 |f::fs,i,ks,cs,ds,r,h1,h2,hx,hy=>by
  simp only[M5]at h1;split at h1<;>first|(simp at h1;done)|skip
  rename_i dd hu;split at h1<;>first|(simp at h1;done)|skip
  rename_i k ks' hk Ix;split at h1<;>first|(simp at h1;done)|skip
  rename_i hn;simp at h1;subst h1;have key:∀(c c':CV) cs' ds' (b r':Bool),cs=c::cs'->ds=c'::ds'->(∀u u',bc g w A c u->bc g w A c' u'->(part f.type xs f.offset).run P w=.ok u w->(part f.type ys f.offset).run P w=.ok u' w->(Op.equalIn (d+1) f.type u u').run P w=.ok b w)->P.plainKey f.type=true->DH ks' cs' ds'=some r'->(b && r')=r->(Op.eqFields (d+1) xs ys (f::fs)).run P w=.ok r w:=by
   intro c c' cs' ds' b r' e1 e2 h3 hp h4 h5;subst e1;subst e2;obtain⟨u,Iy,Cl⟩:=hx 0 c rfl;obtain⟨u',P2,P3⟩:=hy 0 c' rfl;have p1:=run_part_plain w hp (xs:=xs) (off:=f.offset) (v:=u) (by rw[hn.2];simpa using Iy);have p2:=run_part_plain w hp (xs:=ys) (off:=f.offset) (v:=u') (by rw[hn.2];simpa using P2);have h6:=AE (d:=d) (xs:=xs) (ys:=ys) Ix h4 (fun j c hc=>by
    obtain⟨u,h7,h8⟩:=hx (j+1) c (by simpa using hc);exact⟨u,by rw[<-h7];congr 1;omega,h8⟩) (fun j c hc=>by
    obtain⟨u,h7,h8⟩:=hy (j+1) c (by simpa using hc);exact⟨u,by rw[<-h7];congr 1;omega,h8⟩)
   simp only[Op.eqFields,hn.1,ne_eq,not_false_eq_true,if_true,Sem.run_bind,p1,p2,h3 u u' Cl P3 p1 p2,Result.andThen_ok];subst h5;cases b
   ·simp
   ·simpa using h6
  unfold DH at h2;split at h2<;>first|(simp at h2;done)|skip
  ·rename_i heq;simp at heq
  ·rename_i q a cs' q' b ds' heq;simp only[List.cons.injEq]at heq;obtain⟨rfl,rfl⟩:=heq;split at h2<;>first|(simp at h2;done)|skip
   rename_i e;subst e;simp only[WL]at h2;obtain⟨r',h3,h4⟩:=h2;cases dd<;>simp[zk]at hk
   exact key _ _ _ _ (a==b) r' rfl rfl (fun u u' h5 h6 _ _=>by simp only[bc,a6]at h5 h6;subst h5;subst h6;exact run_equalIn_int w d _ _ _ _ _ hu) (by simp[Program.plainKey,hu]) h3 h4
  ·rename_i a cs' b ds' heq;simp only[List.cons.injEq]at heq;obtain⟨rfl,rfl⟩:=heq;simp only[WL]at h2;obtain⟨r',h3,h4⟩:=h2;cases dd<;>simp[zk]at hk
   exact key _ _ _ _ (a==b) r' rfl rfl (fun u u' h5 h6 _ _=>by simp only[bc,a6]at h5 h6;subst h5;subst h6;exact run_equalIn_bool' w d _ _ _ hu) (by simp[Program.plainKey,hu]) h3 h4
  ·rename_i a cs' b ds' heq;simp only[List.cons.injEq]at heq;obtain⟨rfl,rfl⟩:=heq;simp only[WL]at h2;obtain⟨r',h3,h4⟩:=h2;cases dd<;>simp[zk]at hk
   exact key _ _ _ _ (a==b) r' rfl rfl (fun u u' h5 h6 _ _=>by simp only[bc,a6]at h5 h6;subst h5;subst h6;rw[run_equalIn_string w d _ _ _ hu,sQ,sQ]) (by simp[Program.plainKey,hu]) h3 h4
theorem xZ {op:BinOp} {t:TypeId} {ox oy:Operand} {x y r:AV} {u v:Value} (hx:aR g w A x u) (hy:aR g w A y v) (h:rE P op t x y=some r):
  ∃z,(do eqGuard op t ox oy u v;binOp op t u v:Sem Value).run P w=.ok z w/\aR g w A r z:=by
 unfold rE at h;split at h<;>first|(simp at h;done)|skip
 rename_i xs ys;split at h<;>first|(simp at h;done)|skip
 rename_i ks Ix;split at h<;>first|(simp at h;done)|skip
 rename_i b hb;obtain⟨us,rfl,zn,Kf⟩:=hx;obtain⟨vs,rfl,EO,P4⟩:=hy;unfold sq at Ix;split at Ix<;>first|(simp at Ix;done)|skip
 rename_i fs hu;split at Ix<;>first|(simp at Ix;done)|skip
 rename_i jt;have Kg:P.fieldsOf t=fs:=by simp[Program.fieldsOf,hu]
 have heq:(Op.equal t (.agg us.toArray) (.agg vs.toArray)).run P w=.ok b w:=by
  show(Op.equalIn (9999+1) t (.agg us.toArray) (.agg vs.toArray)).run P w=.ok b w;rw[run_equalIn_struct w 9999 t _ _ (by rw[Kg];exact hu) jt.1,Kg];refine AE (d:=9998) (g:=g) (A:=A) Ix hb (fun j c hc=>?_) (fun j c hc=>?_)
  ·have hj:j<us.length:=by have:=(Wc.1 hc).1;omega
   exact⟨us[j],by simp[hj],Kf j c _ hc (Wd hj)⟩
  ·have hj:j<vs.length:=by have:=(Wc.1 hc).1;omega
   exact⟨vs[j],by simp[hj],P4 j c _ hc (Wd hj)⟩
 have hg:∀op,(eqGuard op t ox oy (.agg us.toArray) (.agg vs.toArray)).run P w=.ok () w:=by
  intro op;cases op<;>simp[eqGuard,jt.2]
 rw[Sem.run_bind,hg];simp only[Result.andThen_ok];split at h<;>first|(simp at h;done)|skip
 all_goals(simp only[Option.some.injEq]at h;subst h;refine⟨_,?_,rfl⟩)
 ·simp[binOp,heq]
 ·simp[binOp,heq]
theorem ET {op:UnOp} {x r:AV} {u:Value} (hx:aR g w A x u) (h:IS op x=some r):∃z,(Op.unary op u).run P w=.ok z w/\aR g w A r z:=by
 unfold IS at h;split at h<;>first|(simp at h;done)|skip
 all_goals(simp only[Option.some.injEq]at h;subst h;simp only[aR,di,bc,a6]at hx;subst hx;refine⟨_,?_,rfl⟩)
 ·simp[Op.unary]
 ·simp[Op.unary,Op.intArith]
theorem rI:∀{rows:List (List DV)} {b:List UInt8},bytesOf rows=some b->rows.length=b.length/\∀(i:Nat) row,rows[i]? =some row->∃n:Int,row=[.int .u8 n]/\b[i]? =some (UInt8.ofNat n.toNat)
 |[],b,h=>by simp[bytesOf]at h;subst h;exact⟨rfl,fun i row h=>by simp at h⟩
 |r::rs,b,h=>by
  simp only[bytesOf]at h;split at h
  ·rename_i c l h1 h2;simp at h;subst h;obtain⟨h3,h4⟩:=rI h2;refine⟨by simp[h3],fun i row ev=>?_⟩;cases i with
   |zero=>
    simp at ev;subst ev;unfold pI at h1;split at h1
    ·rename_i n;split at h1
     ·simp at h1;subst h1;exact⟨n,rfl,rfl⟩
     ·simp at h1
    ·simp at h1
   |succ i=>simp at ev;simpa using h4 i row ev
  ·simp at h
theorem AF {src dst e:TypeId} {ds dd de:TD} (hs:td P src=some ds) (hd:td P dst=some dd) (qQ:dd.cy=true) (TF:ds.el=some e) (he:td P e=some de) (hk:de.ik=some .u8) {rows:List (List DV)} {v:Value} (hv:a6 g.im w (.sl rows) v)
  {b:List UInt8} (hb:bytesOf rows=some b):(convert src dst v).run P w=.ok (.string (bs b)) w:=by
 have h1:=mc hs TF;have h2:=Ke he hk;have h3:=qP hd qQ;obtain⟨hl,vO⟩:=rI hb;simp only[a6]at hv;obtain⟨ad,cap,rfl,_,hr⟩:=hv;rcases hr with rfl|⟨bl,off,sz,rfl,_,xP⟩
 ·have TG:b=[]:=Wj (by simpa using hl.symm);subst TG;cases ad with
  |none=>exact run_convert_bytes_nil (P:=P) w src e h1 h2 0 cap dst h3
  |some ad=>
   refine(run_convert_bytes_string w src dst e _ 0 cap h1 h2 h3).trans ?_;simp[Conv.bytesToString,loadCells,loadCellsFrom]
   rfl
 ·have eP:∀i,i<rows.length->∃n:Int,rows[i]? =some [.int .u8 n]/\b[i]? =some (UInt8.ofNat n.toNat):=fun i hi=>by
   obtain⟨n,h4,h5⟩:=vO i _ (Wd hi);exact⟨n,by rw[Wd hi,h4],h5⟩
  let xs:List Int:=rows.map fun r=>match r with|[.int .u8 n]=>n|_=>0
  have hx:strOfNums xs=bs b:=by
   simp only[strOfNums,bs]
   congr 2
   apply Wt;intro i;by_cases hi:i<rows.length
   ·obtain⟨n,h4,h5⟩:=eP i hi;simp[xs,h4,h5]
   ·simp[xs,WD (show rows.length<=i by omega),WD (show b.length<=i by omega)]
  rw[<-hx];refine run_convert_bytes_arg w src e h1 h2 bl off rows.length cap xs (by simp[xs]) (fun i hi=>?_) dst h3;obtain⟨n,h4,_⟩:=eP i hi;obtain⟨h6,h7⟩:=b9.at_ xP h4;have K0:sz=1:=by simpa using h6.symm
  subst K0;simp only[dh,and_true]at h7;obtain⟨u,h8,h9⟩:=h7;simp only[a6]at h9;subst h9;simpa[xs,h4]using h8
end
section
variable {P:Program} {g g' g0:Gh} {w w' w0:World} {V V':List (List CV)} {A A':List bu} {s:St} {a:Act} {K:AV->List (List CV)->List bu->Prop}
theorem tZ:∀(l:List Value) (k off:Nat) (arr:Array Value),off+k+l.length<=arr.size->(l.zipIdx k).foldl (fun cs (c:Value×Nat)=>cs.setIfInBounds (off+c.2) c.1) arr=(bV arr.toList (off+k) l).toArray
 |[],k,off,arr,_=>by simp[bV]
 |v::rest,k,off,arr,h=>by
  simp only[Wv,Wx];rw[tZ rest (k+1) off _ (by simp at h⊢;omega)];have e:=list_seg_step arr.toList (off+k) v rest (by simp at h⊢;omega);simp only[bV,Array.toList_setIfInBounds,Wr]
  congr 1
theorem yr (place:Nat->Option (Nat×Nat)) (cells:Array Value) (i:Nat) (v:Value) (rest:List (Nat×Value)) {off size:Nat} (hp:place i=some (off,size)) (hs:v.cells.size=size) (hf:off+size<=cells.size):
  Instr.fill place cells ((i,v)::rest)=Instr.fill place (bV cells.toList off v.cells.toList).toArray rest:=by
 simp only[Instr.fill,hp];rw[if_neg (by simp;omega)]
 congr 1
 have h:=tZ v.cells.toList 0 off cells (by simp;omega);rw[<-Array.foldl_toList];simpa using h
theorem vP (hS:gU g w s a) {fl:List (Nat×Nat)}:∀{parts:List (Nat×Operand)} {ps:List (Nat×List CV)} {cs cs':List CV} {vs:List Value},ia s parts=some ps->nP fl cs ps=some cs'->jG g w s.A cs vs->
  ∃vs',Instr.fill (fl[·]?) vs.toArray (parts.map fun(i,x)=>(i,a.eval x))=some vs'.toArray/\jG g w s.A cs' vs'
 |[],ps,cs,cs',vs,hp,hf,hr=>by
  simp[ia]at hp;subst hp;simp[nP]at hf;subst hf;exact⟨vs,rfl,hr⟩
 |(i,o)::r,ps,cs,cs',vs,hp,hf,hr=>by
  have Vp:=hp;simp only[ia]at hp;split at hp
  ·rename_i v l h1 h2;split at hp
   ·rename_i og;simp at hp;subst hp;simp only[nP]at hf;split at hf
    ·simp at hf
    ·rename_i off size vm;split at hf
     ·rename_i hc;obtain⟨rJ,_⟩:=AV.fZ (aI hS h1) og;have eP:(a.eval o).cells.size=size:=by have:=rJ.1;simp at this;omega
      have EO:=hr.1;simp only[Wk];rw[yr _ _ _ _ _ vm eP (by simp;omega)];refine vP hS h2 hf ⟨?_,?_⟩
      ·rw[fx (by simp;omega),fx (by omega)];simpa using EO
      ·exact vN (by simpa using EO) (fun j c u h3 h4=>hr.2 j c u h3 (by simpa using h4)) rJ (by omega)
     ·simp at hf
   ·simp at hp
  ·simp at hp
theorem yt:∀{fs:List Field} {l:List (Nat×Nat)},xW P fs=some l->fs.mapM (fun f=>(P.info? f.type).map fun i=>(f.offset,i.size))=some l
 |[],l,h=>by simp[xW]at h;subst h;rfl
 |f::r,l,h=>by
  simp only[xW]at h;split at h
  ·rename_i i l' h1 h2;simp at h;subst h;simp[List.mapM_cons,h1,yt h2]
  ·simp at h
theorem AG (hI:Inv g w s.V s.A) (hF:Fr w0 g0 w g) (hS:gU g w s a) {t:TypeId} {d:TD} (ht:td P t=some d) {z:List CV} (hz:d.zero=some z) (vm:d.fl≠[]) {parts:Array (Nat×Operand)} {ps:List (Nat×List CV)} (hp:ia s parts.toList=some ps)
  {cs:List CV} (hf:nP d.fl z ps=some cs) (hK:K (.agg cs) s.V s.A):du P w0 g0 g w s.A (do pure (.value (<-Instr.build t (parts.map fun(i,x)=>(i,a.eval x))))) K:=by
 obtain⟨de,i,hu,hi,rfl⟩:=kR ht;obtain⟨i',EK,_,_,h0⟩:=fQ ht;obtain rfl:i=i':=by rw[hi]at EK;exact Option.some.inj EK
 obtain⟨zv,GD,F6⟩:=h0 z hz;cases de with
 |struct fs=>
  simp only[Mt]at vm hf;cases K3:xW P fs.toList with
  |none=>simp[K3]at vm
  |some l=>
   simp only[K3,WN]at hf;obtain⟨vs',h1,h2⟩:=vP (g:=g) (w:=w) (s:=s) (a:=a) hS hp hf (vs:=zv.cells.toList) ⟨ig F6,fun j c u h3 h4=>mO (oF F6 j c u h3 h4)⟩;have hb:P.built t (parts.map fun(i,x)=>(i,a.eval x)).toList=some vs'.toArray:=by
    simp only[Program.built,hi,hu,GD,yt K3];simpa using h1
   exact du.value hI hF (bh (run_build w t _ _ hb)) (x:=.agg cs) ⟨vs',rfl,h2.1,fun j c u h3 h4=>h2.2 j c u h3 h4⟩ hK
 |_=>simp[Mt]at vm
theorem yu (size:Nat):∀(vals:List Value) (k:Nat) (cells:Array Value),(∀v∈vals,v.cells.size=size)->(k+vals.length)*size<=cells.size->
  Instr.fill (fun i=>some (i*size,size)) cells (vals.zipIdx k|>.map fun(v,i)=>(i,v))=some (bV cells.toList (k*size) (vals.flatMap fun v=>v.cells.toList)).toArray
 |[],k,cells,_,_=>by simp[Instr.fill,bV]
 |v::r,k,cells,hs,hl=>by
  have hv:v.cells.size=size:=hs v (by simp);have GF:k*size+size+r.length*size<=cells.size:=by simp[VW]at hl;omega
  simp only[Wv,Wk]
  rw[yr _ cells k v _ rfl hv (by omega),yu size r (k+1) _ (fun x hx=>hs x (by simp[hx]))
   (by simp only[Wm];rw[fx (by simp;omega)];simp[VW];omega)]
  have vm:(r.flatMap fun v=>v.cells.toList).length=r.length*size:=by
   have:∀(l:List Value),(∀v∈l,v.cells.size=size)->(l.flatMap fun v=>v.cells.toList).length=l.length*size:=by
    intro l;induction l with
    |nil=>simp
    |cons x l ih=>intro h;simp[ih (fun y hy=>h y (by simp[hy])),h x (by simp),VW];omega
   exact this r (fun x hx=>hs x (by simp[hx]))
  congr 2
  apply Wt;intro j;rw[fM (by simp only[];rw[fx (by simp;omega),vm];simp[VW];omega),fM (by simp;omega),fM (by simp[vm];omega),vm];simp only[Wy,Wl,vm,WH,hv,VW,V5];by_cases h1:k*size+size<=j/\j<k*size+size+r.length*size
  ·rw[if_pos h1,if_pos (by omega),Wf (by simp;omega)]
   congr 1;simp;omega
  ·rw[if_neg h1];by_cases h2:k*size<=j/\j<k*size+size
   ·rw[if_pos h2,if_pos (by omega),We (by simp;omega)]
   ·rw[if_neg h2,if_neg (by omega)]
theorem ua (hS:gU g w s a) {sz:Nat}:∀{parts:List (Nat×Operand)} {k:Nat} {rows:List (List CV)},jF s sz k parts=some rows->
  parts.map (fun(i,x)=>(i,a.eval x))=((parts.map fun(_,x)=>a.eval x).zipIdx k|>.map fun(v,i)=>(i,v))/\rows.length=parts.length/\(∀row∈rows,row.length=sz)/\
  (∀v∈parts.map (fun(_,x)=>a.eval x),v.cells.size=sz/\∀u∈v.cells.toList,u.oneCell'=true)/\jG g w s.A rows.flatten ((parts.map fun(_,x)=>a.eval x).flatMap fun v=>v.cells.toList)
 |[],k,rows,h=>by simp[jF]at h;subst h;exact⟨rfl,rfl,by simp,by simp,rfl,fun j c u h=>by simp at h⟩
 |(i,o)::r,k,rows,h=>by
  simp only[jF]at h;split at h
  ·rename_i v l h1 h2;split at h
   ·rename_i hc;simp at h;subst h;obtain⟨rfl,hp,hl⟩:=hc;obtain⟨h3,h4,h5,h6,h7⟩:=ua hS h2;obtain⟨rJ,zo⟩:=AV.fZ (aI hS h1) hp;have eP:(a.eval o).cells.size=sz:=by have:=rJ.1;simp at this;omega
    refine⟨by simp only[Wk,Wv,h3],by simp[h4],fun row ev=>?_,fun v' Mv=>?_,?_,fun j c u h8 h9=>?_⟩
    ·simp at ev;rcases ev with rfl|ev
     ·exact hl
     ·exact h5 row ev
    ·simp only[Wk,List.mem_cons]at Mv;rcases Mv with rfl|Mv
     ·exact⟨eP,zo⟩
     ·exact h6 v' Mv
    ·simp only[Wk,Wy,Wg,Wl,h7.1,rJ.1]
    ·simp only[Wk,Wy,Wg]at h8 h9;by_cases hj:j<v.cells.length
     ·rw[We hj]at h8;rw[We (by rw[rJ.1];exact hj)]at h9;exact rJ.2 j c u h8 h9
     ·rw[Wf (by omega)]at h8;rw[Wf (by rw[rJ.1];omega),rJ.1]at h9;exact h7.2 _ c u h8 h9
   ·simp at h
  ·simp at h
theorem sU (hI:Inv g w s.V s.A) (hF:Fr w0 g0 w g) (hS:gU g w s a) {t e:TypeId} {d de:TD} (ht:td P t=some d) (sV:d.el=some e) (he:td P e=some de) {parts:Array (Nat×Operand)} {rows:List (List CV)} (hr:jF s de.sz 0 parts.toList=some rows)
  {ds:List (List DV)} (xL:jX s.A rows=some ds) {len:Nat} (hlen:rows.length=len) (hle:len*de.sz<=16777216) (fP:0<de.sz) (hz:de.zero.isSome=true) {ow:Bool}
  (hK:if ow then K (.c (.own s.A.length len)) s.V (bO s.A rows.flatten++[{sz:=de.sz,dE:=e,rows:=ds,wr:=true}])else K (.c (.d (.sl ds))) s.V (bO s.A rows.flatten)):
  du P w0 g0 g w s.A (do pure (.value (<-Instr.buildSlice t len (parts.map fun(i,x)=>(i,a.eval x))))) K:=by
 obtain⟨i,hi,oH,_,h0⟩:=fQ he;obtain⟨z,hz⟩:=WM.1 hz;obtain⟨zv,GD,F6⟩:=h0 z hz;have x5:=mc ht sV;obtain⟨h1,h2,h3,h4,h5⟩:=ua hS hr;have P5:=tY xL
 let vals:=parts.toList.map fun(_,x)=>a.eval x
 let cells:=vals.flatMap fun v=>v.cells.toList
 have EO:vals.length=len:=by simp only[vals,List.length_map];omega
 have j3:cells.length=len*de.sz:=by rw[show cells.length=rows.flatten.length from h5.1,ez h3,hlen]
 have uT:∀u∈cells,u.oneCell'=true:=fun u hu=>by
  obtain⟨v,hv,Kh⟩:=List.mem_flatMap.1 hu;exact(h4 v hv).2 u Kh
 have Ki:∀z:Array Value,z.size=len*de.sz->Instr.fill (fun i=>some (i*de.sz,de.sz)) z (parts.map fun(i,x)=>(i,a.eval x)).toList=some cells.toArray:=fun z qt=>by
  have:=yu de.sz vals 0 z (fun v hv=>(h4 v hv).1) (by rw[VZ,EO];omega);rw[<-h1]at this;simp only[WI,this,Option.some.injEq,V6]
  congr 1
  show bV z.toList 0 cells=cells;simp[bV,j3,qt]
 have e0:∀w:World,(Instr.buildSlice t len (parts.map fun(i,x)=>(i,a.eval x))).run P w=.ok (.slice (some ⟨w.heap.size,0,none⟩) len len) (w.alloc (.cells cells.toArray e)):=fun w=>by
  have eP:(sizeOf e).run P w=.ok de.sz w:=by simp[sizeOf,typeInfo,hi,oH]
  have TH:∀w:World,(zeroValue e).run P w=.ok zv w:=fun w=>by simp[zeroValue,typeInfo,hi,GD]
  unfold Instr.buildSlice;simp only[Sem.run_bind,run_underlying x5,Result.andThen_ok,eP];rw[if_neg (by omega)];by_cases Iz:len*de.sz=0
  ·have:=Ki #[] (by simp[Iz]);simp only[Iz,if_true,Sem.run_pure,Sem.run_bind,Result.andThen_ok,Array.range_zero',Array.map_empty,this,jc]
  ·have:=Ki ((Array.range (len*de.sz)).map (zv.cells[· % zv.cells.size]!)) (by simp);simp only[Iz,if_false,Sem.run_pure,Sem.run_bind,Result.andThen_ok,TH,this,jc]
 obtain⟨g1,e9,lu,jS,xX,pG,gE⟩:=sS hI hF h5 P5.1;have pH:∀r∈ds,r.length=de.sz:=fun r hr=>by
  obtain⟨j,hj⟩:=Wo hr;have iP:j<rows.length:=by have:=(Wc.1 hj).1;omega
  have ev:rows[j]? =some rows[j]:=Wd iP;rw[P5.2.2 j _ r ev hj];exact h3 _ (List.getElem_mem iP)
 by_cases Sl:ow=true
 ·rw[if_pos Sl]at hK;obtain⟨g2,Kj,Az,lr⟩:=e9.dR (.cells cells.toArray e) 0;have Ck:=jS.dR (.cells cells.toArray e) 0;rw[<-Kj]at Ck;have P6:len<=maxLen:=by
   have:len<=len*de.sz:=Nat.le_mul_of_pos_right _ fP;simp only[maxLen];omega
  have c7:=World.ownsRow_lit (base:=0) (e:=e) (size:=de.sz) w cells.toArray len (VX _) P6 (by simpa using j3)
  obtain⟨g3,Pa,TI,P7,P8,P9,Qa⟩:=Az.qO Ck {sz:=de.sz,dE:=e,rows:=ds,wr:=true} (.slice (some ⟨w.heap.size,0,none⟩) len len) cells pH (by simp only[show ds.length=len by omega];simpa using c7)
   (fun j x u h6 h7=>a6.ft lr.gr x u (gE j x u h6 h7))
   (fun b hb=>by
    simp[Value.ownBlock]at hb;subst hb;subst Kj;refine⟨by simp,hF.size,fun l hl=>?_,fun k v hv hb=>?_⟩
    ·have:=e9.qN (g:=g1) hl;omega
    ·have:=e9.ma (g:=g1) hv hb;omega)
  refine⟨_,_,_,_,_,_,g3,hK,bh (e0 w),.inl rfl,?_,P8,(lu.trans lr).trans P9,Qa⟩;have Pb:(bO s.A rows.flatten).length=s.A.length:=by
   have:∀(cs:List CV) (A:List bu),(bO A cs).length=A.length:=by
    intro cs;induction cs with
    |nil=>intro A;rfl
    |cons c cs ih=>intro A;simp only[bO,Wx];have:=ih (fu A c);simp only[bO]at this;rw[this];cases c<;>try rfl
                   simp only[fu];split<;>simp
   exact this _ _
  refine⟨some ⟨w.heap.size,0,none⟩,len,rfl,{sz:=de.sz,dE:=e,rows:=ds,wr:=true},?_,by simp only[];omega,fun _=>?_⟩
  ·rw[Wf (by rw[Pb];exact VV _),Pb];simp
  ·rw[P7,Wf (by rw[Az.lq,Pb];exact VV _),Az.lq,Pb];simp
 ·rw[if_neg Sl]at hK;obtain⟨g2,Kj,Az,lr⟩:=e9.dR (.cells cells.toArray e) cells.length;have Ck:=jS.dR (.cells cells.toArray e) cells.length;rw[<-Kj]at Ck;refine⟨_,_,_,_,_,_,g2,hK,bh (e0 w),.inl rfl,?_,Az,lu.trans lr,Ck⟩;simp only[aR,di,bc,a6];refine⟨some ⟨w.heap.size,0,none⟩,len,by rw[show ds.length=len by omega],by omega,.inr ⟨w.heap.size,0,de.sz,rfl,?_,?_⟩⟩
  ·have ES:ds.length=len:=by omega
   subst Kj;simp[ES,j3]
  ·refine b9.mk fun i r Sm=>⟨pH r (Wh Sm),dh.mk fun j x hx=>?_⟩
   have hf:=kQ pH Sm hx;have ax:i*de.sz+j<cells.length:=by
    have:=(Wc.1 hf).1;rw[ez pH]at this;rw[j3,<-hlen,<-P5.2.1];exact this
   have hu:cells[i*de.sz+j]? =some cells[i*de.sz+j]:=Wd ax;refine⟨_,?_,a6.ft lr.gr _ _ (gE _ x _ hf hu)⟩;rw[cell_of_row _ w.heap.size _ cells.toArray e (0,0) (heap_alloc_new w _),VZ];simp[hu]
theorem GG {im:Nat->Nat} {v:Value} {c:CV} {x:DV} (h:sP v=some c) (hd:mN A c=some x):a6 im w x v:=by
 unfold sP at h;split at h<;>first|(simp at h;done)|skip
 all_goals(simp only[Option.some.injEq]at h;subst h;simp only[mN,Option.some.injEq]at hd)
 all_goals first
  |(subst hd;simp only[a6];done)
  |(subst hd;simp only[a6];rw[DI])
  |(subst hd;simp only[a6];exact⟨none,0,rfl,VV _,.inl trivial⟩)
  |(cases hd)
theorem uU (hI:Inv g w s.V s.A) (hF:Fr w0 g0 w g) {t e:TypeId} {d de:TD} (ht:td P t=some d) (sV:d.el=some e) (he:td P e=some de) {z:List CV} (hz:de.zero=some z) {dz:List DV} (So:hP s.A z=some dz) {kl kc:IntKind} {n:Int} (h0:0<=n)
  (hb:n.toNat*de.kI<=140737488355328) (hm:n.toNat<=9223372036854775807) (fP:0<de.sz) (qt:z.length=de.sz) (hK:K (.c (.own s.A.length n.toNat)) s.V (s.A++[{sz:=de.sz,dE:=e,rows:=Wn n.toNat dz,wr:=true}])):
  du P w0 g0 g w s.A (do pure (.value (<-Instr.makeSlice t (.int kl n) (.int kc n)))) K:=by
 obtain⟨i,hi,oH,Cw,Mu⟩:=fQ he;obtain⟨zv,GD,F6⟩:=Mu z hz;have x5:=mc ht sV;obtain⟨m,rfl⟩:=Int.eq_ofNat_of_zero_le h0;simp only[WO]at hb hm hK;have hmul:(i.bytes:Int)*(m:Int)<=281474976710656:=by
  have h:((i.bytes*m:Nat):Int)<=281474976710656:=by rw[Cw,V7];omega
  rwa[Int.natCast_mul]at h
 have e0:=run_make (P:=P) w t e i zv x5 hi GD kl kc m m (by omega) (Int.le_refl _) hmul (by omega);simp only[WO,oH]at e0;have Iw:zv.cells.size=de.sz:=by have:=ig F6;simp at this;omega
 have ES:=rG So;obtain⟨g2,Kj,Az,lr⟩:=hI.dR (.cells (madeCells zv.cells (m*de.sz)) e) 0;have Ck:=hF.dR (.cells (madeCells zv.cells (m*de.sz)) e) 0;rw[<-Kj]at Ck;have c7:=World.ownsRow_lit (base:=0) (e:=e) (size:=de.sz) w (madeCells zv.cells (m*de.sz)) m (VX _) (by simp only[maxLen];omega) (size_madeCells _ _);have vm:∀(m j:Nat) (x:DV),(Wn m dz).flatten[j]? =some x->dz[j % de.sz]? =some x:=by
  intro m;induction m with
  |zero=>intro j x h;simp at h
  |succ m ih=>
   intro j x h;simp only[List.replicate_succ,Wg]at h;by_cases hj:j<dz.length
   ·rw[We hj]at h;rwa[Nat.mod_eq_of_lt (by omega)]
   ·rw[Wf (by omega)]at h;have:=ih _ _ h;rwa[show dz.length=de.sz by omega,<-Nat.mod_eq_sub_mod (by omega)]at this
 obtain⟨g3,Pa,TI,P7,P8,P9,Qa⟩:=Az.qO Ck {sz:=de.sz,dE:=e,rows:=Wn m dz,wr:=true} (.slice (some ⟨w.heap.size,0,none⟩) m m) (madeCells zv.cells (m*de.sz)).toList
  (fun r hr=>by simp at hr;rw[hr.2];show dz.length=de.sz;omega) (by simpa using c7)
  (fun j x u h6 h7=>by
   have h8:=vm m j x h6;have TK:j<m*de.sz:=by
    have:=(Wc.1 h7).1;simpa[size_madeCells]using this
   have h9:u=zv.cells[j % zv.cells.size]! :=by
    simp[madeCells,TK]at h7;exact h7.symm
   have ax:j % de.sz<zv.cells.size:=by rw[Iw];exact Nat.mod_lt _ fP
   have cv:zv.cells.toList[j % de.sz]? =some u:=by
    rw[h9,Iw];simp[ax]
   have Qb:j % de.sz<z.length:=by omega
   have M6:z[j % de.sz]? =some z[j % de.sz]:=Wd Qb;have ep:=oF F6 _ _ _ M6 cv;have vO:∀{cs:List CV} {ds:List DV},hP s.A cs=some ds->∀(j:Nat) c x,cs[j]? =some c->ds[j]? =some x->mN s.A c=some x:=by
    intro cs;induction cs with
    |nil=>intro ds h j c x h1;simp at h1
    |cons c cs ih=>
     intro ds h j c' x h1 h2;simp only[hP]at h;split at h
     ·rename_i d1 d2 h3 h4;simp at h;subst h;cases j with
      |zero=>simp at h1 h2;subst h1;subst h2;exact h3
      |succ j=>simp at h1 h2;exact ih h4 j c' x h1 h2
     ·simp at h
   exact GG ep (vO So _ _ _ M6 h8))
  (fun b hb=>by
   simp[Value.ownBlock]at hb;subst hb;subst Kj;refine⟨by simp,hF.size,fun l hl=>?_,fun k v hv hb=>?_⟩
   ·have:=hI.qN (g:=g) hl;omega
   ·have:=hI.ma (g:=g) hv hb;omega)
 refine⟨_,_,_,_,_,_,g3,hK,bh e0,.inl rfl,?_,P8,lr.trans P9,Qa⟩;refine⟨some ⟨w.heap.size,0,none⟩,m,rfl,{sz:=de.sz,dE:=e,rows:=Wn m dz,wr:=true},?_,by simp,fun _=>?_⟩
 ·rw[Wf (VV _)];simp
 ·rw[P7,Wf (by rw[Az.lq];exact VV _),Az.lq];simp
end
section
variable {P:Program} {g g' g0:Gh} {w w' w0:World} {V V':List (List CV)} {A A':List bu} {s:St} {a:Act} {K:AV->List (List CV)->List bu->Prop}
theorem DJ:∀{fs:List Field} {l:List (Nat×Nat)},xW P fs=some l->∀{i off sz:Nat},l[i]? =some (off,sz)->∃f inf,fs[i]? =some f/\f.offset=off/\P.info? f.type=some inf/\inf.size=sz
 |[],l,h,i,off,sz,hi=>by simp[xW]at h;subst h;simp at hi
 |f::r,l,h,i,off,sz,hi=>by
  simp only[xW]at h;split at h
  ·rename_i inf l' h1 h2;simp at h;subst h;cases i with
   |zero=>simp at hi;exact⟨f,inf,rfl,hi.1,h1,hi.2⟩
   |succ i=>simp at hi;simpa using DJ h2 hi
  ·simp at h
theorem oI {t:TypeId} {d:TD} (ht:td P t=some d) {f off sz:Nat} (hf:d.fl[f]? =some (off,sz)) (eP:sz≠0) (b o:Nat):(Instr.fieldAt t (.pointer (some ⟨b,o,none⟩)) f).run P w=.ok (.pointer (some ⟨b,o+off,none⟩)) w:=by
 obtain⟨de,i,hu,hi,rfl⟩:=kR ht;cases de with
 |struct fs=>
  simp only[Mt]at hf;cases K3:xW P fs.toList with
  |none=>simp[K3]at hf
  |some l=>
   simp only[K3,WN]at hf;obtain⟨fld,inf,h1,h2,h3,h4⟩:=DJ K3 hf;have oJ:fs[f]? =some fld:=by simpa using h1
   subst h2;subst h4;simp[Instr.fieldAt,run_underlying hu,oJ,Instr.sureAddr,fieldPlace,sizeOf,typeInfo,h3,eP,me]
 |_=>simp[Mt]at hf
theorem oK {t e:TypeId} {d de:TD} (ht:td P t=some d) (sV:d.el=some e) (he:td P e=some de) {b off n cap:Nat} {k:IntKind} {i:Int} (h0:0<=i) (h1:i.toNat<n):
  (Instr.indexAt t (.slice (some ⟨b,off,none⟩) n cap) (.int k i)).run P w=.ok (.pointer (some ⟨b,off+i.toNat*de.sz,none⟩)) w:=by
 have hu:=mc ht sV;obtain⟨inf,hi,eP,_,_⟩:=fQ he;have hc:0<=i/\i<n:=by omega
 simp[Instr.indexAt,asIntOf,run_underlying hu,hc,sizeOf,typeInfo,hi,eP,me]
theorem vQ {t e:TypeId} {d de:TD} {len:Nat} (ht:td P t=some d) (sV:d.ar=some (len,e)) (he:td P e=some de) {b off:Nat} {k:IntKind} {i:Int} (h0:0<=i) (h1:i<len):
  (Instr.indexAt t (.pointer (some ⟨b,off,none⟩)) (.int k i)).run P w=.ok (.pointer (some ⟨b,off+i.toNat*de.sz,none⟩)) w:=by
 have hu:=Kd ht sV;obtain⟨inf,hi,eP,_,_⟩:=fQ he;have hc:0<=i/\i<len:=by omega
 simp[Instr.indexAt,asIntOf,run_underlying hu,Instr.sureAddr,hc,sizeOf,typeInfo,hi,eP,me]
theorem sW (hI:Inv g w V A) {v:AV} {u:Value} (hv:aR g w A v u) {nr:List (List DV)} (h:rowsOf A v=some nr) {sz:Nat} (hl:∀r∈nr,r.length=sz):
  ∃news:List Value,((nr.length=0/\news=[]/\∃a c,u=.slice a 0 c)\/∃a c,u=.slice (some a) nr.length c/\news.length=nr.length*sz/\∀(j:Nat) x,news[j]? =some x->w.cell? (a.add j)=some x)/\
   (∀u∈news,u.oneCell'=true)/\∀(j:Nat) x y,nr.flatten[j]? =some x->news[j]? =some y->a6 g.im w x y:=by
 have key:∀(b off sz':Nat) (rows:List (List DV)),(∀r∈rows,r.length=sz)->b9 g.im w b sz' off rows->rows≠[]->sz'=sz/\
   ∃news:List Value,news.length=rows.length*sz/\(∀(j:Nat) x,news[j]? =some x->w.cell? ⟨b,off+j,none⟩=some x)/\∀(j:Nat) x y,rows.flatten[j]? =some x->news[j]? =some y->a6 g.im w x y:=by
  intro b off sz' rows hl xP cY;have eP:sz'=sz:=by
   cases rows with
   |nil=>exact absurd rfl cY
   |cons r rs=>simp only[b9]at xP;have:=hl r (by simp);omega
  subst eP;have Sp:=ez hl;obtain⟨vs,h1,h2⟩:=mP w b off (rows.length*sz') (fun j u=>∀x,rows.flatten[j]? =some x->a6 g.im w x u) (fun j hj=>by
   have fP:0<sz':=by rcases Nat.eq_zero_or_pos sz' with h|h;·subst h;simp at hj
                     ·exact h
   have hdiv:j / sz'<rows.length:=Nat.div_lt_of_lt_mul (by rw[V7];exact hj);have ev:rows[j / sz']? =some rows[j / sz']:=Wd hdiv;obtain⟨h3,h4⟩:=b9.at_ xP ev;have TL:=Nat.mod_lt j fP;have hx:(rows[j / sz'])[j % sz']? =some (rows[j / sz'])[j % sz']:=Wd (by omega);obtain⟨u,h5,h6⟩:=dh.at_ h4 hx;have Gy:j / sz'*sz'+j % sz'=j:=by rw[V7];exact Nat.div_add_mod j sz'
   refine⟨u,by rw[<-Gy,<-VY];exact h5,fun x h7=>?_⟩;have h8:=kQ hl ev hx;rw[Gy,h7]at h8;cases h8;exact h6)
  exact⟨rfl,vs,h1,fun j x hx=>(h2 j x hx).1,fun j x y hx hy=>(h2 j y hy).2 x hx⟩
 cases v with
 |agg xs=>simp[rowsOf]at h
 |aZ xs=>simp[rowsOf]at h
 |c c=>
  cases c with
  |d x=>
   cases x with
   |sl rows=>
    simp[rowsOf]at h;subst h;simp only[aR,di,bc,a6]at hv;obtain⟨ad,cap,rfl,_,hr⟩:=hv;rcases hr with rfl|⟨b,off,sz',rfl,_,xP⟩
    ·exact⟨[],.inl ⟨rfl,rfl,ad,cap,rfl⟩,by simp,fun j x y hx=>by simp at hx⟩
    ·by_cases cY:rows=[]
     ·subst cY;exact⟨[],.inl ⟨rfl,rfl,_,cap,rfl⟩,by simp,fun j x y hx=>by simp at hx⟩
     ·obtain⟨rfl,news,h1,h2,h3⟩:=key b off sz' rows hl xP cY;refine⟨news,.inr ⟨_,cap,rfl,h1,fun j x hx=>by rw[me];exact h2 j x hx⟩,fun u hu=>?_,h3⟩;obtain⟨j,hj⟩:=Wo hu;have iP:j<rows.flatten.length:=by rw[ez hl,<-h1];exact(Wc.1 hj).1
      exact a6.lA (h3 j _ u (Wd iP) hj)
   |_=>simp[rowsOf]at h
  |nil=>
   simp[rowsOf]at h;subst h;simp only[aR,di,bc]at hv;subst hv;exact⟨[],.inl ⟨rfl,rfl,none,0,rfl⟩,by simp,fun j x y hx=>by simp at hx⟩
  |own k n=>
   obtain⟨ad,cap,rfl,r,hk,hn,hq⟩:=hv;simp only[rowsOf,hk]at h;split at h
   ·rename_i cY;simp at h;subst h;have Ct:=hq cY;obtain⟨h1,_,xs,c7,hr⟩:=hI.arr k r _ hk Ct;rcases c7.2 with⟨h2,h3⟩|⟨b,cap',cur,h2,_,hh,_,_,_,_⟩
    ·have h4:r.rows=[]:=Wj h3;refine⟨[],.inl ⟨h3,rfl,ad,cap,by rw[cY,h3]⟩,by simp,fun j x y hx=>by rw[h4]at hx;simp at hx⟩
    ·have hb:(Value.slice ad n cap).ownBlock=some b:=by rw[h2];rfl
     by_cases IV:r.rows=[]
     ·refine⟨[],.inl ⟨by rw[IV];rfl,rfl,ad,cap,by rw[cY,IV];rfl⟩,by simp,fun j x y hx=>by rw[IV]at hx;simp at hx⟩
     ·have eP:r.sz=sz:=by
       cases xP:r.rows with
       |nil=>exact absurd xP IV
       |cons q qs=>have e1:=h1 q (by rw[xP];simp);have e2:=hl q (by rw[xP];simp);omega
      refine⟨xs,.inr ⟨⟨b,0,none⟩,cap',by rw[h2],by rw[c7.1,eP],c7.cells hb⟩,fun u hu=>?_,hr⟩;obtain⟨j,hj⟩:=Wo hu;have iP:j<r.rows.flatten.length:=by rw[ez h1,<-c7.1];exact(Wc.1 hj).1
      exact a6.lA (hr j _ u (Wd iP) hj)
   ·simp at h
  |_=>simp[rowsOf]at h
theorem nQ {t ty:TypeId} {v u:Value} {v':Value} {w':World} (h:(Builtin.append_ #[t,t] ty #[v,u]).run P w=.ok v' w'):(builtin .append #[t,t] ty #[] #[v,u]).run P w=.ok (.value v') w':=bh h
theorem jd (hI:Inv g w s.V s.A) (hF:Fr w0 g0 w g) {t e:TypeId} {d de:TD} (ht:td P t=some d) (sV:d.el=some e) (he:td P e=some de) {z:List CV} (hz:de.zero=some z) (qt:z.length=de.sz) {k n:Nat} {v u:Value} (hv:bc g w s.A (.own k n) v)
  {y:AV} (hy:aR g w s.A y u) {nr:List (List DV)} (DK:rowsOf s.A y=some nr) (hl:∀r∈nr,r.length=de.sz) {r:bu} (hk:s.A[k]? =some r) (hn:n=r.rows.length) (Qc:r.dE=e) (M7:r.sz=de.sz) (hb:(n+nr.length)*de.kI<=140737488355328) (hm:n+nr.length<=9223372036854775807) {ty:TypeId}
  (hK:K (.c (.own k (n+nr.length))) s.V (s.A.set k {r with rows:=r.rows++nr})):du P w0 g0 g w s.A (do pure (.value (<-Builtin.append_ #[t,t] ty #[v,u]))) K:=by
 obtain⟨i,hi,oH,Cw,h0⟩:=fQ he;obtain⟨zv,GD,F6⟩:=h0 z hz;have Iw:zv.cells.size=i.size:=by have:=ig F6;simp at this;omega
 obtain⟨ad,cap,TM,r',qf,_,hq⟩:=hv;obtain rfl:r=r':=by rw[hk]at qf;exact Option.some.inj qf
 have Ct:=hq hn;subst hn;subst Qc;obtain⟨h1,_,xs,c7,_⟩:=hI.arr k r v hk Ct;obtain⟨news,vR,uT,zp⟩:=sW hI hy DK hl;have nR:w.ownsRow 0 r.dE i.size v r.rows.length xs:=by rw[oH,<-M7];exact c7
 obtain⟨v',w',e0,sG,hc⟩:=lT (P:=P) t ty r.dE i zv (mc ht sV) hi GD Iw v r.rows.length xs nR u nr.length news (by rw[oH];exact vR) uT (by simp only[maxLen];omega) (by rw[Cw];exact hb);have M8:(du P w0 g0 g w s.A (do pure (.value (<-Builtin.append_ #[t,t] ty #[v,u]))) K):=by
  by_cases cY:nr=[]
  ·subst cY;have Ay:news=[]:=by
    rcases vR with⟨_,h,_⟩|⟨_,_,_,h,_⟩
    ·exact h
    ·exact Wj (by simpa using h)
   subst Ay;obtain⟨a0,c0,rfl⟩:∃a0 c0,u=.slice a0 0 c0:=by
    rcases vR with⟨_,_,h⟩|⟨a0,c0,h,_⟩
    ·exact h
    ·exact⟨some a0,c0,h⟩
   have M9:(Builtin.append_ #[t,t] ty #[v,.slice a0 0 c0]).run P w=.ok v w:=by
    have M0:∀(ad:Option Addr) (c:Nat) (w:World),(Builtin.firstCells i.size 0 (.slice ad 0 c)).run P w=.ok #[] w:=fun ad c w=>by
     cases ad<;>simp[Builtin.firstCells,loadCells,loadCellsFrom]
    rcases nR.2 with⟨h6,h7⟩|⟨gb,cp,cur,h6,_,_,EN,_⟩
    ·rw[h6];simp[Builtin.append_,run_underlying (mc ht sV),sizeOf,typeInfo,hi,Builtin.lenOf,M0]
    ·rw[h6];simp[Builtin.append_,run_underlying (mc ht sV),sizeOf,typeInfo,hi,Builtin.lenOf,M0,EN,storeCells]
   have bH:s.A.set k {r with rows:=r.rows++[]}=s.A:=by
    apply Wt;intro j;rw[dc hk];by_cases e:j=k
    ·subst e;simp[hk]
    ·simp[e]
   rw[bH]at hK;exact du.value hI hF (bh M9) (x:=.c (.own k (r.rows.length+0))) ⟨ad,cap,TM,r,hk,VV _,fun _=>Ct⟩ hK
  ·obtain⟨g',xM,fW,sH,TN,_,_⟩:=hI.grow hF hk Ct nr cY news (fun row ev=>by rw[hl row ev,M7]) zp
    (fun xs' fW=>by
     obtain rfl:xs'=xs:=by
      rcases fW.2 with⟨e1,e2⟩|⟨b1,c1,cu1,e1,_,e3,_,_,_,e4⟩<;>rcases c7.2 with⟨f1,f2⟩|⟨b2,c2,cu2,f1,_,f3,_,_,_,f4⟩
      ·have:=fW.1;have:=c7.1;rw[e2]at*;simp at*;simp[*]
      ·rw[e1]at f1;simp at f1
      ·rw[e1]at f1;simp at f1
      ·rw[e1]at f1;simp at f1;obtain⟨rfl,rfl⟩:=f1;rw[e3]at f3;simp at f3;subst f3;rw[<-e4,<-f4]
     rw[show r.sz=i.size by omega];exact sG) hc
   refine⟨_,_,_,_,_,_,g',hK,bh e0,.inl rfl,?_,xM,fW,sH⟩;have Mv:∃ad' cap',v'=.slice ad' (r.rows.length+nr.length) cap':=by
    rcases sG.2 with⟨e1,e2⟩|⟨b1,c1,cu1,e1,_⟩
    ·exact⟨none,0,by rw[e1,e2]⟩
    ·exact⟨_,_,e1⟩
   obtain⟨ad',cap',rfl⟩:=Mv;refine⟨ad',cap',rfl,{r with rows:=r.rows++nr},?_,by simp,fun _=>TN⟩;rw[dc hk];simp
 exact M8
end
section
variable {P:Program} {g g' g0:Gh} {w w' w0:World} {V V':List (List CV)} {A A':List bu} {s:St} {a:Act} {K:AV->List (List CV)->List bu->Prop}
theorem mf (hI:Inv g w s.V s.A) (hF:Fr w0 g0 w g) {t e:TypeId} {d de:TD} (ht:td P t=some d) (sV:d.el=some e) (he:td P e=some de) {z:List CV} (hz:de.zero=some z) (qt:z.length=de.sz) {u:Value}
  {y:AV} (hy:aR g w s.A y u) {nr:List (List DV)} (DK:rowsOf s.A y=some nr) (hl:∀r∈nr,r.length=de.sz) (hb:nr.length*de.kI<=140737488355328) (hm:nr.length<=9223372036854775807) {ty:TypeId}
  (hK:K (.c (.own s.A.length nr.length)) s.V (s.A++[{sz:=de.sz,dE:=e,rows:=nr,wr:=true}])):du P w0 g0 g w s.A (do pure (.value (<-Builtin.append_ #[t,t] ty #[.slice none 0 0,u]))) K:=by
 obtain⟨g1,K4,pG,xX,e9,lu,jS⟩:=hI.qO hF {sz:=de.sz,dE:=e,rows:=[],wr:=true} (.slice none 0 0) [] (by simp) (World.ownsRow_nil w 0 e de.sz) (fun j x u h=>by simp at h) (fun b h=>by simp[Value.ownBlock]at h);have hk:(s.A++[({sz:=de.sz,dE:=e,rows:=[],wr:=true}:bu)])[s.A.length]? =some {sz:=de.sz,dE:=e,rows:=[],wr:=true}:=by simp
 have AH:rowsOf (s.A++[({sz:=de.sz,dE:=e,rows:=[],wr:=true}:bu)]) y=some nr:=by
  cases y with
  |c c=>
   cases c with
   |own k n=>
    simp only[rowsOf]at DK⊢;cases qf:s.A[k]? with
    |none=>simp[qf]at DK
    |some r=>rw[We (Wc.1 qf).1,qf];simpa only[qf]using DK
   |d x=>cases x<;>exact DK
   |_=>exact DK
  |_=>exact DK
 have:=jd (P:=P) (g:=g1) (w:=w) (w0:=w0) (g0:=g0) (s:={s with A:=s.A++[{sz:=de.sz,dE:=e,rows:=[],wr:=true}]}) (K:=K) e9 jS ht sV he hz qt (k:=s.A.length) (n:=0) (v:=.slice none 0 0) (u:=u)
  ⟨none,0,rfl,_,hk,VX _,fun _=>by rw[xX,Wf (by rw[hI.lq];exact VV _),hI.lq];simp⟩ (aR.ext lu hy) AH hl hk rfl rfl rfl (by simpa using hb) (by simpa using hm) (ty:=ty) (by
   simp only[VZ,WA];have:(s.A++[({sz:=de.sz,dE:=e,rows:=[],wr:=true}:bu)]).set s.A.length {sz:=de.sz,dE:=e,rows:=nr,wr:=true}=s.A++[{sz:=de.sz,dE:=e,rows:=nr,wr:=true}]:=by simp
   rw[this];exact hK)
 obtain⟨x,V',A',nx,v,w',g',h1,h2,h3,h4,h5,h6,h7⟩:=this;exact⟨x,V',A',nx,v,w',g',h1,h2,h3,h4,h5,lu.trans h6,h7⟩
theorem Cx (b:List UInt8) (i j:Nat):(bs b).extract i j=bs ((b.take j).drop i):=by
 apply ByteArray.ext;simp[bs,ByteArray.data_extract,List.extract_toArray,List.drop_take]
theorem mQ (hS:gU g w s a) {o:Option Operand} {x:Option AV} (h:lU s o=some x):(x=none/\o.map a.eval=none)\/∃v u,x=some v/\o.map a.eval=some u/\aR g w s.A v u:=by
 cases o with
 |none=>simp[lU]at h;exact .inl ⟨h.symm,rfl⟩
 |some o=>
  simp only[lU,WL]at h;obtain⟨v,hv,rfl⟩:=h;exact .inr ⟨v,_,rfl,rfl,aI hS hv⟩
theorem vS (isSl:Bool) (len cap:Nat) (mR:len<=cap) {lo hi:Option AV} {vl vh:Option Value} (F4:(lo=none/\vl=none)\/∃v u,lo=some v/\vl=some u/\aR g w A v u) (Qd:(hi=none/\vh=none)\/∃v u,hi=some v/\vh=some u/\aR g w A v u)
  {i j:Int} (Mw:rF lo=some i) (GH:mb hi len=some j) (h0:0<=i) (h1:i<=j) (h2:j<=len):(Instr.sliceBounds isSl len cap vl vh none).run P w=.ok (i.toNat,j.toNat,cap) w:=by
 have Sq:j<=(cap:Int):=by omega
 have Qe:0<=j:=by omega
 have hb:∀{lo:Option AV} {vl:Option Value} {i:Int},((lo=none/\vl=none)\/∃v u,lo=some v/\vl=some u/\aR g w A v u)->rF lo=some i->(vl=none/\i=0)\/∃k,vl=some (.int k i):=by
  intro lo vl i h hs;rcases h with⟨rfl,rfl⟩|⟨v,u,rfl,rfl,hr⟩
  ·simp[rF]at hs;exact .inl ⟨rfl,hs.symm⟩
  ·unfold rF at hs;split at hs
   ·rename_i heq;simp at heq
   ·rename_i k n heq;simp at heq hs;subst heq;subst hs;simp only[aR,di,bc,a6]at hr;exact .inr ⟨k,by rw[hr]⟩
   ·simp at hs
 have hh:(vh=none/\j=len)\/∃k,vh=some (.int k j):=by
  rcases Qd with⟨rfl,rfl⟩|⟨v,u,rfl,rfl,hr⟩
  ·simp[mb]at GH;exact .inl ⟨rfl,GH.symm⟩
  ·unfold mb at GH;split at GH
   ·rename_i heq;simp at heq
   ·rename_i k n heq;simp at heq GH;subst heq;subst GH;simp only[aR,di,bc,a6]at hr;exact .inr ⟨k,by rw[hr]⟩
   ·simp at GH
 have rv:(j.toNat:Int)=j:=Int.toNat_of_nonneg Qe;rcases hb F4 Mw with⟨rfl,rfl⟩|⟨k,rfl⟩<;>rcases hh with⟨rfl,rfl⟩|⟨k',rfl⟩
 ·simp[Instr.sliceBounds]
 ·simp[Instr.sliceBounds,run_sliceBound w k' j cap _ Qe Sq]
 ·simp[Instr.sliceBounds,run_sliceBound w k i len _ h0 (by omega)]
 ·simp[Instr.sliceBounds,run_sliceBound w k' j cap _ Qe Sq,run_sliceBound w k i j.toNat _ h0 (by omega)]
theorem uV (hI:Inv g w s.V s.A) (hF:Fr w0 g0 w g) (hS:gU g w s a) {t:TypeId} {d:TD} (ht:td P t=some d) (hd:d.cy=true) {b:List UInt8} {v:Value} (hv:aR g w s.A (.c (.d (.str b))) v) {lo hi:Option Operand} {l h:Option AV} (hl:lU s lo=some l) (hh:lU s hi=some h)
  {i j:Int} (Mw:rF l=some i) (GH:mb h b.length=some j) (h0:0<=i) (h1:i<=j) (h2:j<=b.length) (hK:K (.c (.d (.str ((b.take j.toNat).drop i.toNat)))) s.V s.A):
  du P w0 g0 g w s.A (do pure (.value (<-Instr.sliceAt t v (lo.map a.eval) (hi.map a.eval) none))) K:=by
 simp only[aR,di,bc,a6]at hv;subst hv;have hu:=qP ht hd;have hb:=vS (P:=P) (g:=g) (w:=w) (A:=s.A) false (bs b).size (bs b).size (VV _) (mQ hS hl) (mQ hS hh) Mw (by rw[pJ];exact GH) h0 h1 (by rw[pJ];exact h2);refine du.value hI hF (bh ?_) (x:=.c (.d (.str ((b.take j.toNat).drop i.toNat)))) (v:=.string (bs ((b.take j.toNat).drop i.toNat))) rfl hK;rw[run_sliceAt_string w t _ _ _ _ hu];simp[Instr.slice,run_underlying hu,hb,Cx]
theorem AI (hI:Inv g w V A) (hF:Fr w0 g0 w g) {v:AV} {u:Value} (hv:aR g w A v u) {rows:List (List DV)} (h:rowsOf A v=some rows):
  ∃g',Inv g' w V (bO A v.cells)/\Ext g w A g' w (bO A v.cells)/\Fr w0 g0 w g'/\a6 g'.im w (.sl rows) u:=by
 cases v with
 |c c=>
  have hd:mN A c=some (.sl rows):=by
   cases c with
   |d x=>cases x<;>simp[rowsOf]at h;subst h;rfl
   |nil=>simp[rowsOf]at h;subst h;rfl
   |own k n=>
    simp only[rowsOf]at h;simp only[mN];split at h
    ·split at h
     ·simp at h;subst h;simp[*]
     ·simp at h
    ·simp at h
   |_=>simp[rowsOf]at h
  obtain⟨g',h1,h2,h3,_,_,h6⟩:=rH hI hF hv hd;exact⟨g',h1,h2,h3,h6⟩
 |_=>simp[rowsOf]at h
theorem sX (hI:Inv g w s.V s.A) (hF:Fr w0 g0 w g) (hS:gU g w s a) {t e:TypeId} {d de:TD} (ht:td P t=some d) (sV:d.el=some e) (he:td P e=some de) {x:AV} {v:Value} (hv:aR g w s.A x v) {rows:List (List DV)} (hr:rowsOf s.A x=some rows) {lo hi:Option Operand} {l h:Option AV} (hl:lU s lo=some l) (hh:lU s hi=some h)
  {i j:Int} (Mw:rF l=some i) (GH:mb h rows.length=some j) (h0:0<=i) (h1:i<=j) (h2:j<=rows.length) (eP:∀r∈rows,r.length=de.sz) (hK:K (.c (.d (.sl ((rows.take j.toNat).drop i.toNat)))) s.V (bO s.A x.cells)):
  du P w0 g0 g w s.A (do pure (.value (<-Instr.sliceAt t v (lo.map a.eval) (hi.map a.eval) none))) K:=by
 obtain⟨g',xM,fW,sH,hd⟩:=AI hI hF hv hr;have hu:=mc ht sV;obtain⟨inf,Na,K0,_,_⟩:=fQ he;simp only[a6]at hd;obtain⟨ad,cap,rfl,mR,xP⟩:=hd;have hb:=vS (P:=P) (g:=g) (w:=w) (A:=s.A) true rows.length cap mR (mQ hS hl) (mQ hS hh) Mw GH h0 h1 h2;have e0:(Instr.sliceAt t (.slice ad rows.length cap) (lo.map a.eval) (hi.map a.eval) none).run P w=.ok (.slice (if cap=i.toNat then ad else ad.map (·.add (i.toNat*de.sz))) (j.toNat-i.toNat) (cap-i.toNat)) w:=by
  simp[Instr.sliceAt,Instr.slice,run_underlying hu,hb,sizeOf,typeInfo,Na,K0]
 refine⟨_,_,_,_,_,_,g',hK,bh e0,.inl rfl,?_,xM,fW,sH⟩;simp only[aR,di,bc,a6];have hlen:((rows.take j.toNat).drop i.toNat).length=j.toNat-i.toNat:=by simp;omega
 refine⟨_,_,by rw[hlen],by rw[hlen];omega,?_⟩;by_cases cY:(rows.take j.toNat).drop i.toNat=[]
 ·exact .inl cY
 ·have fP:0<j.toNat-i.toNat:=by rw[<-hlen];exact Ww.2 cY
  rcases xP with rfl|⟨b,off,sz,rfl,qo,xP⟩
  ·simp at cY
  ·have Qf:sz=de.sz:=by
    cases rows with
    |nil=>simp at cY
    |cons r rs=>simp only[b9]at xP;have:=eP r (by simp);omega
   subst Qf;have hmul:(i.toNat+(j.toNat-i.toNat))*de.sz<=rows.length*de.sz:=V1 _ (by omega);rw[VW]at hmul;refine .inr ⟨b,off+i.toNat*de.sz,de.sz,by rw[if_neg (by omega)];simp[me],by rw[hlen];omega,b9.mk fun q r hq=>?_⟩;have Qg:rows[i.toNat+q]? =some r:=by
    rw[Wp,Wi]at hq;split at hq
    ·exact hq
    ·cases hq
   have:=b9.at_ xP Qg;rwa[VW,<-VY]at this
theorem ai {α:Type} {o:Option α} {k:α->Prop} {Q:Prop} (h:bM o k) (f:∀v,o=some v->k v->Q):Q:=by
 obtain⟨v,h1,h2⟩:=cj h;exact f v h1 h2
theorem vU (hI:Inv g w V A):∀{cs:List AV} {ls:List Nat} {vs:List Value},Gx cs=some ls->vs.length=cs.length->(∀(j:Nat) c u,cs[j]? =some c->vs[j]? =some u->aR g w A c u)->
  ∃bks:List Nat,vs=bks.map (fun b=>Value.pointer (some ⟨b,0,none⟩))/\bks.length=ls.length/\∀(i l b:Nat),ls[i]? =some l->bks[i]? =some b->g.ob[l]? =some b
 |[],ls,vs,h,hl,_=>by
  simp[Gx]at h;subst h;have:vs=[]:=Wj (by simpa using hl);subst this;exact⟨[],rfl,rfl,fun i l b h=>by simp at h⟩
 |c::r,ls,vs,h,hl,hr=>by
  cases vs with
  |nil=>simp at hl
  |cons v vs=>
   unfold Gx at h;split at h
   ·rename_i heq;simp at heq
   ·rename_i l r' heq;simp at heq;obtain⟨rfl,rfl⟩:=heq;simp only[WL]at h;obtain⟨ls',h1,rfl⟩:=h;obtain⟨b,hb,hv⟩:∃b,g.ob[l]? =some b/\v=.pointer (some ⟨b,0,none⟩):=hr 0 _ v rfl rfl;obtain⟨bks,h2,h3,h4⟩:=vU hI h1 (vs:=vs) (by simpa using hl) (fun j c u h5 h6=>hr (j+1) c u (by simpa using h5) (by simpa using h6));refine⟨b::bks,by simp[hv,h2],by simp[h3],fun i l' b' h5 h6=>?_⟩;cases i with
    |zero=>simp at h5 h6;subst h5;subst h6;exact hb
    |succ i=>simp at h5 h6;exact h4 i l' b' h5 h6
   ·simp at h
theorem lB (hS:gU g w s a):∀{os:List Operand} {xs:List AV},gR s os=some xs->xs.length=os.length/\∀(j:Nat) x u,xs[j]? =some x->(os.map a.eval)[j]? =some u->aR g w s.A x u
 |[],xs,h=>by simp[gR]at h;subst h;exact⟨rfl,fun j x u h=>by simp at h⟩
 |o::r,xs,h=>by
  simp only[gR]at h;split at h
  ·rename_i v l h1 h2;simp at h;subst h;obtain⟨h3,h4⟩:=lB hS h2;refine⟨by simp[h3],fun j x u h5 h6=>?_⟩;cases j with
   |zero=>simp at h5 h6;subst h5;subst h6;exact aI hS h1
   |succ j=>simp at h5 h6;exact h4 j x u h5 (by simpa using h6)
  ·simp at h
theorem Cy {v:AV} {u:Value} {n:Nat} (hv:aR g w A v u) (h:zl v=some n):(∃b,v=.c (.d (.str b))/\u=.string (bs b)/\n=b.length)\/((∀b,v≠.c (.d (.str b)))/\∃a c,u=.slice a n c):=by
 unfold zl at h;split at h
 ·rename_i b;simp at h;subst h;exact .inl ⟨b,rfl,hv,rfl⟩
 ·simp at h;subst h;simp only[aR,di,bc,a6]at hv;obtain⟨a,c,rfl,_⟩:=hv;exact .inr ⟨by simp,a,c,rfl⟩
 ·simp at h;subst h;simp only[aR,di,bc]at hv;exact .inr ⟨by simp,none,0,hv⟩
 ·simp at h;subst h;obtain⟨a,c,rfl,_⟩:=hv;exact .inr ⟨by simp,a,c,rfl⟩
 ·simp at h
theorem du.GI {A:List bu} {m:Sem Next} (h:du P w0 g0 g w A m fun x V A=>∃(k:Nat) (r:bu),x=.c (.own k r.rows.length)/\A[k]? =some r/\K (.c (.d (.sl r.rows))) V (A.set k {r with wr:=false})):du P w0 g0 g w A m K:=by
 obtain⟨x,V',A',nx,v,w',g',⟨k,r,rfl,hk,hK⟩,hm,hn,hr,hI,hx,hF⟩:=h;obtain⟨_,_,e,r',qf,_,hv⟩:=hr;obtain rfl:r=r':=Option.some.inj (hk.symm.trans qf);obtain⟨g2,Az,lr,Ck,_,_,hd⟩:=hI.seal hF hk (hv rfl);exact⟨_,_,_,nx,v,w',g2,hK,hm,hn,hd,Az,hx.trans lr,Ck⟩
set_option maxHeartbeats 1000000 in
theorem EU (hI:Inv g w s.V s.A) (hF:Fr w0 g0 w g) (hS:gU g w s a) {ow:Bool} {o:Oper} (h:eC P s ow o.op K):du P w0 g0 g w s.A (execOp a.eval o) K:=by
 obtain⟨dst,op,type,pos,after,guard⟩:=o;simp only at h;cases op with
 |move x=>
  refine ai h fun v h1 h2=>?_
  exact du.value hI hF (m:=execOp a.eval ⟨dst,.move x,type,pos,after,guard⟩) rfl (aI hS h1) h2
 |assign x=>
  refine ai h fun v h1 h2=>?_
  exact du.value hI hF (m:=execOp a.eval ⟨dst,.assign x,type,pos,after,guard⟩) rfl (aI hS h1) h2
 |pick c x y=>
  refine ai h fun v h1 h2=>?_
  have hc:=aI hS h1;split at h2
  ·rename_i t;simp only[aR,di,bc,a6]at hc;have e0:∀u,(if t then a.eval x else a.eval y)=u->(execOp a.eval ⟨dst,.pick c x y,type,pos,after,guard⟩).run P w=.ok (.value u) w:=fun u hu=>by
    simp[execOp,hc,asBool,hu]
   cases t with
   |true=>simp only[if_true]at h2;exact ai h2 fun v h3 h4=>du.value hI hF (e0 _ rfl) (aI hS h3) h4
   |false=>simp only[WK,if_false]at h2;exact ai h2 fun v h3 h4=>du.value hI hF (e0 _ rfl) (aI hS h3) h4
  ·exact h2.elim
 |alloc e=>exact ai h fun d h1 h2=>ai h2 fun z h3 h4=>AB hI hF h1 h3 h4
 |box e x=>exact ai h fun v h1 h2=>ER hI hF (aI hS h1) h2.1 h2.2
 |build t parts=>exact ai h fun d h1 h2=>ai h2 fun z h3 h4=>ai h4 fun ps h5 h6=>ai h6 fun cs h7 h8=>AG hI hF hS h1 h3 h8.2.1 h5 h7 h8.2.2
 |buildSlice t len parts=>
  exact ai h fun d h1 h2=>ai h2 fun e h3 h4=>ai h4 fun de h5 h6=>ai h6 fun rows h7 h8=>ai h8 fun ds h9 cv=>sU hI hF hS h1 h3 h5 h7 h9 cv.1 cv.2.1 cv.2.2.1 cv.2.2.2.1 cv.2.2.2.2
 |load t x=>
  refine ai h fun d h1 h2=>ai h2 fun p h3 h4=>?_
  split at h4
  ·exact ai h4 fun cs h5 h6=>ai h6 fun v h7 h8=>Cu hI hF h1 (aI hS h3) h5 h7 h8
  ·exact h4.elim
 |store t x y=>
  refine ai h fun d h1 h2=>ai h2 fun p h3 h4=>ai h4 fun v h5 h6=>?_
  obtain⟨h7,h8,h9⟩:=h6;split at h9
  ·exact ai h9 fun row cv ep=>uR hI hF h1 (aI hS h3) (aI hS h5) h7 h8 cv ep.1 ep.2
  ·refine ai h9 fun r cv ep=>?_
   obtain⟨fG,dn,fX⟩:=ep;exact ai fX fun row qu ry=>ai ry fun ds AJ rz=>uS hI hF h1 (aI hS h3) (aI hS h5) h7 h8 cv fG dn qu AJ rz.1 rz.2.1 rz.2.2
  ·exact h9.elim
 |nilCheck x=>
  refine ai h fun v h1 h2=>?_
  have hv:=aI hS h1;split at h2
  ·obtain⟨b,hb,e⟩:=hv;exact du.value hI hF (v:=a.eval x) (by simp only[execOp,e];rfl) (aI hS h1) h2
  ·obtain⟨b,o,e,_⟩:=hv;exact du.value hI hF (v:=a.eval x) (by simp only[execOp,e];rfl) (aI hS h1) h2
  ·obtain⟨b,o,e,_⟩:=hv;exact du.value hI hF (v:=a.eval x) (by simp only[execOp,e];rfl) (aI hS h1) h2
  ·obtain⟨b,e,_⟩:=hv;exact du.value hI hF (v:=a.eval x) (by simp only[execOp,e];rfl) (aI hS h1) h2
  ·exact h2.elim
 |binOp op t x y t'=>
  refine ai h fun u h1 h2=>ai h2 fun v h3 h4=>?_
  split at h4
  ·rename_i r hr;obtain⟨z,h5,h6⟩:=zm (P:=P) (t:=t) (ox:=x) (oy:=y) (aI hS h1) (aI hS h3) hr;exact du.value hI hF (bh h5) h6 h4
  ·split at h4
   ·rename_i r hr;obtain⟨z,h5,h6⟩:=xZ (P:=P) (t:=t) (ox:=x) (oy:=y) (aI hS h1) (aI hS h3) hr;exact du.value hI hF (bh h5) h6 h4
   refine ai h4 fun r h5 h6=>ai h6 fun d h7 h8=>?_
   obtain⟨z,h9,cv⟩:=xY (P:=P) (ox:=x) (oy:=y) h7 h8.1 (aI hS h1) (aI hS h3) h5;exact du.value hI hF (bh h9) cv h8.2
 |unOp op t x=>
  refine ai h fun u h1 h2=>ai h2 fun r h3 h4=>?_
  obtain⟨z,h5,h6⟩:=ET (P:=P) (aI hS h1) h3;exact du.value hI hF (bh h5) h6 h4
 |convert src dst x=>
  refine ai h fun u h1 h2=>ai h2 fun ds h3 h4=>ai h4 fun dd h5 h6=>?_
  have hv:=aI hS h1;split at h6
  ·rename_i k n;refine ai h6 fun d h7 h8=>?_
   simp only[aR,di,bc,a6]at hv;obtain⟨de,i,hu,_⟩:=kR h3;unfold Sj at h7;split at h7
   ·rename_i k' h9;simp only[Option.some.injEq]at h7;subst h7;refine du.value hI hF (v:=.int k' (k'.wrap n)) (bh ?_) (x:=.c (.d (.int k' (k'.wrap n)))) rfl h8;rw[hv];simp[convert,run_underlying hu,run_underlying (Ke h5 h9),Conv.intToInt]
   ·split at h7
    ·rename_i cv;simp only[Option.some.injEq]at h7;subst h7;refine du.value hI hF (v:=.string (bs [UInt8.ofNat n.toNat])) (bh ?_) (x:=.c (.d (.str [UInt8.ofNat n.toNat]))) rfl h8;rw[hv];have he:Utf8.encode n=bs [UInt8.ofNat n.toNat]:=by
      have Cz:Utf8.valid n=true:=by simp[Utf8.valid];omega
      simp only[Utf8.encode,Cz,if_true];rw[if_pos (by omega)]
      rfl
     simp[convert,run_underlying hu,run_underlying (qP h5 cv.1),Conv.intToString,he]
    ·cases h7
  ·rename_i b;simp only[aR,di,bc,a6]at hv;refine du.value hI hF (v:=.string (bs b)) (bh ?_) (x:=.c (.d (.str b))) rfl h6.2.2;rw[hv];simp[convert,run_underlying (qP h3 h6.2.1),run_underlying (qP h5 h6.1)]
  ·rename_i rows;obtain⟨h7,h8⟩:=h6;exact ai h8 fun e h9 cv=>ai cv fun de ep fG=>ai fG.2 fun b dn fX=>du.value hI hF (v:=.string (bs b)) (bh (AF (g:=g) h3 h5 h7 h9 ep fG.1 hv dn)) (x:=.c (.d (.str b))) rfl fX
  ·exact h6.elim
 |makeFunc fn first captured=>
  cases fn with
  |func f=>
   obtain⟨h1,h2⟩:=h;refine ai h2 fun cs h3 h4=>ai h4 fun ls h5 h6=>?_
   obtain⟨h7,h8⟩:=lB hS h3;obtain⟨bks,h9,cv,ep⟩:=vU hI h5 (vs:=captured.toList.map a.eval) (by simp[h7]) h8;have hf:first.map a.eval= #[]:=by
    have:first= #[]:=Array.eq_empty_of_size_eq_zero h1
    simp[this]
   have hc:captured.map a.eval=(bks.map fun b=>Value.pointer (some ⟨b,0,none⟩)).toArray:=by
    rw[<-h9,<-WI,Array.toArray_toList]
   exact du.value hI hF (v:=.func (.func f) #[] (bks.map fun b=>Value.pointer (some ⟨b,0,none⟩)).toArray) (by simp[execOp,Instr.makeFunc,hf,hc]) (x:=.c (.fn f ls)) ⟨bks,rfl,cv,ep⟩ h6
  |_=>exact h.elim
 |makeSlice t l c=>
  refine ai h fun d h1 h2=>ai h2 fun e h3 h4=>ai h4 fun de h5 h6=>ai h6 fun z h7 h8=>ai h8 fun dz h9 cv=>ai cv fun vl ep fG=>ai fG fun vc dn fX=>?_
  have e1:=aI hS ep;have e2:=aI hS dn;split at fX
  ·rename_i kl n kc m;simp only[aR,di,bc,a6]at e1 e2;obtain⟨rfl,qu,ry,AJ,rz,K5,IA⟩:=fX;have:=uU (P:=P) (K:=K) hI hF h1 h3 h5 h7 h9 (kl:=kl) (kc:=kc) qu ry AJ rz K5 IA;simpa only[execOp,e1,e2]using this
  ·exact fX.elim
 |slice t x lo hi mx=>
  obtain⟨rfl,h⟩:=h;refine ai h fun d h1 h2=>ai h2 fun v h3 h4=>ai h4 fun l h5 h6=>ai h6 fun hh h7 h8=>?_
  have hv:=aI hS h3;split at h8
  ·obtain⟨h9,cv⟩:=h8;exact ai cv fun i ep fG=>ai fG fun j dn fX=>uV hI hF hS h1 h9 hv h5 h7 ep dn fX.1 fX.2.1 fX.2.2.1 fX.2.2.2
  ·exact ai h8 fun rows h9 cv=>ai cv fun e ep fG=>ai fG fun de dn fX=>ai fX fun i qu ry=>ai ry fun j AJ rz=>
    sX hI hF hS h1 ep dn hv h9 h5 h7 qu AJ rz.1 rz.2.1 rz.2.2.1 rz.2.2.2.1 rz.2.2.2.2
 |fieldAddr t x f=>
  refine ai h fun d h1 h2=>ai h2 fun fo h3 h4=>?_
  obtain⟨off,sz⟩:=fo;obtain⟨h5,h6⟩:=h4;refine ai h6 fun v h7 h8=>?_
  have hv:=aI hS h7;have e0:=fun b o=>oI (P:=P) (w:=w) h1 h3 h5 b o
  split at h8
  ·rename_i l o;obtain⟨b,hb,e⟩:=hv;exact du.value hI hF (v:=.pointer (some ⟨b,o+off,none⟩)) (bh (by rw[e];exact e0 b o)) (x:=.c (.ptr l (o+off))) ⟨b,hb,rfl⟩ h8
  ·rename_i r o;obtain⟨b,o',e,h9,cv⟩:=hv;exact du.value hI hF (v:=.pointer (some ⟨b,o'+o+off,none⟩)) (bh (by rw[e];exact e0 b _)) (x:=.c (.ip r (o+off))) ⟨b,o',by rw[VY],h9,cv⟩ h8
  ·rename_i k n i o;obtain⟨b,e',e,r,h9,cv,ep⟩:=hv;refine du.value hI hF (v:=.pointer (some ⟨b,e'+off,none⟩)) (bh (by rw[e];exact e0 b _)) (x:=.c (.op k n i (o+off))) ⟨b,e'+off,rfl,r,h9,cv,fun fG=>?_⟩ h8;obtain⟨cap,dn,fX⟩:=ep fG;exact⟨cap,dn,by omega⟩
  ·exact h8.elim
 |indexAddr t x ix=>
  refine ai h fun d h1 h2=>ai h2 fun v h3 h4=>ai h4 fun i h5 h6=>?_
  have hv:=aI hS h3;have DM:=aI hS h5;split at h6
  ·rename_i k n;simp only[aR,di,bc,a6]at DM;obtain⟨h0,h6⟩:=h6;split at h6
   ·rename_i rows;refine ai h6 fun e h7 h8=>ai h8 fun de h9 cv=>ai cv fun row ep fG=>?_
    simp only[aR,di,bc,a6]at hv;obtain⟨ad,cap,e1,mR,hr⟩:=hv;have ax:=(Wc.1 ep).1;rcases hr with rfl|⟨b,off,sz,rfl,qo,xP⟩
    ·simp at ep
    ·obtain⟨dn,fX⟩:=b9.at_ xP ep;have eP:sz=de.sz:=by omega
     subst eP;have hmul:(n.toNat+1)*de.sz<=rows.length*de.sz:=V1 _ ax;rw[VW,V5]at hmul;exact du.value hI hF (v:=.pointer (some ⟨b,off+n.toNat*de.sz,none⟩)) (bh (by rw[e1,DM];exact oK h1 h7 h9 h0 ax)) (x:=.c (.ip row 0)) ⟨b,off+n.toNat*de.sz,rfl,by omega,fX⟩ fG.2
   ·rename_i k' m;refine ai h6 fun e h7 h8=>ai h8 fun de h9 cv=>ai cv fun r ep fG=>?_
    obtain⟨dn,fX,qu,ry⟩:=fG;obtain⟨ad,cap,e1,r',qf,hn,hq⟩:=hv;obtain rfl:r=r':=by rw[ep]at qf;exact Option.some.inj qf
    have Ct:=hq dn;obtain⟨_,_,xs,c7,_⟩:=hI.arr k' r _ ep Ct;rcases c7.2 with⟨e2,e3⟩|⟨b,cap',cur,e2,_⟩
    ·omega
    ·have e4:a.eval x=.slice (some ⟨b,0,none⟩) m cap':=by rw[e2,dn]
     refine du.value hI hF (v:=.pointer (some ⟨b,0+n.toNat*de.sz,none⟩)) (bh (by rw[e4,DM];exact oK h1 h7 h9 h0 fX)) (x:=.c (.op k' m n.toNat 0)) ⟨b,_,rfl,r,ep,hn,fun _=>⟨cap',by rw[<-e4];exact Ct,by rw[qu];omega⟩⟩ ry
   ·rename_i l off;refine ai h6 fun le h7 h8=>?_
    obtain⟨len,e⟩:=le;refine ai h8 fun de h9 cv=>?_
    obtain⟨b,hb,e1⟩:=hv;exact du.value hI hF (v:=.pointer (some ⟨b,off+n.toNat*de.sz,none⟩)) (bh (by rw[e1,DM];exact vQ h1 h7 h9 h0 cv.1)) (x:=.c (.ptr l (off+n.toNat*de.sz))) ⟨b,hb,rfl⟩ cv.2
   ·exact h6.elim
  ·exact h6.elim
 |index t x ix=>
  refine ai h fun d h1 h2=>ai h2 fun v h3 h4=>ai h4 fun i h5 h6=>?_
  have hv:=aI hS h3;have DM:=aI hS h5;split at h6
  ·rename_i b k n;simp only[aR,di,bc,a6]at hv DM;obtain⟨h7,h0,h8⟩:=h6;refine ai h8 fun c h9 cv=>?_
   refine du.value hI hF (v:=.int .u8 c.toNat) (bh ?_) (x:=.c (.d (.int .u8 c.toNat))) rfl cv;have ax:=(Wc.1 h9).1;have hc:(bs b)[n.toNat]? =some c:=by
    have:n.toNat<(bs b).size:=by rw[pJ];exact ax
    rw[getElem?_pos (bs b) n.toNat this];exact congrArg some (Wc.1 h9).2
   rw[hv,DM];simp[Instr.index,asIntOf,run_underlying (qP h1 h7),h0,hc]
  ·rename_i xs k n;simp only[aR,di,bc,a6]at DM;obtain⟨us,e1,hl,hc⟩:=hv;refine ai h6 fun le h7 h8=>?_
   obtain⟨len,e⟩:=le;refine ai h8 fun de h9 cv=>?_
   obtain⟨ep,fG,h0,dn,fX⟩:=cv;refine ai fX fun c qu ry=>?_
   have ax:=(Wc.1 qu).1;have hu:us[n.toNat]? =some (us[n.toNat]'(by omega)):=Wd (by omega);refine du.value hI hF (v:=us[n.toNat]'(by omega)) (bh ?_) (x:=.c c) (hc n.toNat c _ qu hu) ry;obtain⟨inf,hi,eP,_,_⟩:=fQ h9;obtain⟨dd,i2,Cl,Mx,e2⟩:=kR h9;have IU:(isAgg e).run P w=.ok false w:=by
    rw[e2]at ep;have ep:DG dd=false:=ep;simp only[isAgg,Sem.run_bind,run_underlying Cl,Result.andThen_ok];cases dd<;>first|rfl|simp[DG]at ep
   rw[e1,DM];have Nb:0<=n/\n<len:=⟨h0,dn⟩;simp[Instr.index,asIntOf,run_underlying (Kd h1 h7),Nb,sizeOf,typeInfo,hi,eP,fG,part,IU,hu]
  ·exact h6.elim
 |extract x i=>
  refine ai h fun v h1 h2=>?_
  have hv:=aI hS h1;split at h2
  ·rename_i xs;refine ai h2 fun u h3 h4=>?_
   obtain⟨vs,e,hl,hr⟩:=hv;have ax:=(Wc.1 h3).1;have Sr:vs[i]? =some (vs[i]'(by omega)):=Wd (by omega);have Pc:=hr i u _ h3 Sr;have e0:(execOp a.eval ⟨dst,.extract x i,type,pos,after,guard⟩).run P w=.ok (.value (vs[i]'(by omega))) w:=bh (by
    rw[e];simp[Instr.extract,Sr])
   split at h4
   ·exact h4.elim
   ·rename_i kJ;refine du.value hI hF e0 (x:=u) ?_ h4;cases u with
    |aZ ys=>exact absurd rfl (kJ ys)
    |_=>exact Pc
  ·exact h2.elim
 |call c=>
  obtain⟨callee,args,argTypes⟩:=c;cases callee with
  |builtin b=>
   obtain⟨consts,dJ⟩:∃consts,∀w,(execOp a.eval ⟨dst,.call ⟨.builtin b,args,argTypes⟩,type,pos,after,guard⟩).run P w=(builtin b argTypes type consts (args.map a.eval)).run P w:=
    ⟨_,fun w=>by simp only[execOp,resolve,Sem.run_bind,Sem.run_pure,Result.andThen_ok,invoke];rfl⟩
   cases b with
   |len=>
    refine ai h fun x h1 h2=>ai h2 fun v h3 h4=>ai h4 fun t h5 h6=>ai h6 fun d h7 h8=>ai h8 fun n h9 cv=>?_
    obtain⟨_,fG,dn⟩:=cv;have hv:=aI hS h3;refine du.value hI hF (v:=.int .i64 n) ((dJ w).trans (bh ?_)) (x:=.c (.d (.int .i64 n))) rfl dn;have ha:(args.map a.eval)[0]? =some (a.eval x):=by simp[h1]
    rcases Cy hv h9 with⟨b,rfl,fX,qu⟩|⟨fX,ad,cp,qu⟩
    ·simp only at fG;simp[Builtin.len_,h5,ha,fX,run_underlying (qP h7 fG),goInt,pJ,qu]
    ·have sV:d.el.isSome=true:=by
      split at fG
      ·rename_i b;exact absurd rfl (fX b)
      ·exact fG
     obtain⟨e,he⟩:=WM.1 sV;simp[Builtin.len_,h5,ha,qu,run_underlying (mc h7 he),goInt]
   |append=>
    refine ai h fun x h1 h2=>ai h2 fun y h3 h4=>ai h4 fun t h5 h6=>?_
    obtain⟨h7,h8⟩:=h6;refine ai h8 fun d h9 cv=>ai cv fun e ep fG=>ai fG fun de dn fX=>?_
    obtain⟨_,ry,AJ⟩:=fX;refine ai ry fun z hz qt=>ai AJ fun v rz K5=>ai K5 fun u IA Nc=>ai Nc fun nr IW Qh=>?_
    obtain⟨IX,IY⟩:=Qh;have hv:=aI hS rz;have hu:=aI hS IA;have oL:∀w,(builtin .append argTypes type consts (args.map a.eval)).run P w=(do pure (.value (<-Builtin.append_ #[t,t] type #[a.eval x,a.eval y])):Sem Next).run P w:=fun w=>by
     have ha:(args.map a.eval)[0]? =some (a.eval x):=by simp[h1]
     have hb:(args.map a.eval)[1]? =some (a.eval y):=by simp[h3]
     simp only[builtin,Builtin.append_,h5,h7,ha,hb]
     rfl
    have back:du P w0 g0 g w s.A (do pure (.value (<-Builtin.append_ #[t,t] type #[a.eval x,a.eval y]))) K->du P w0 g0 g w s.A (execOp a.eval ⟨dst,.call ⟨.builtin .append,args,argTypes⟩,type,pos,after,guard⟩) K:=by
     rintro⟨x',V',A',nx,v',w',g',k1,k2,k3⟩;exact⟨x',V',A',nx,v',w',g',k1,(dJ w).trans ((oL w).trans k2),k3⟩
    split at IY
    ·rename_i k n;refine ai IY fun r IZ My=>?_
     obtain⟨Mz,Ss,Su,Sv,Sw,Sx⟩:=My;cases ow with
     |false=>exact back (jd hI hF h9 ep dn hz qt hv hu IW IX IZ Mz Ss Su Sv Sw (by simpa using Sx))
     |true=>
      have ax:=(Wc.1 IZ).1;exact back (du.GI (jd hI hF h9 ep dn hz qt hv hu IW IX IZ Mz Ss Su Sv Sw ⟨k,{r with rows:=r.rows++nr},by simp[Mz],by simp[ax],by simpa using Sx⟩))
    ·simp only[aR,di,bc]at hv;refine back ?_;rw[hv];obtain⟨IZ,My,Mz⟩:=IY;cases ow with
     |false=>exact mf hI hF h9 ep dn hz qt hu IW IX IZ My (by simpa using Mz)
     |true=>exact du.GI (mf hI hF h9 ep dn hz qt hu IW IX IZ My ⟨s.A.length,{sz:=de.sz,dE:=e,rows:=nr,wr:=true},by simp,by simp,by simpa using Mz⟩)
    ·exact IY.elim
   |max=>
    refine ai h fun x h1 h2=>ai h2 fun y h3 h4=>?_
    obtain⟨h5,h6⟩:=h4;refine ai h6 fun v h7 h8=>ai h8 fun u h9 cv=>?_
    have hv:=aI hS h7;have hu:=aI hS h9;split at cv
    ·rename_i k p k' q;simp only[aR,di,bc,a6]at hv hu;have oL:args.map a.eval= #[.int k p,.int k' q]:=by
      apply WJ
      ·simp[h5]
      ·intro i Na Mx;simp at Na Mx
       match i,Mx with
       |0,_=>simp[WG]at h1;obtain⟨_,e⟩:=h1;simp[e,hv]
       |1,_=>simp[WG]at h3;obtain⟨_,e⟩:=h3;simp[e,hu]
     refine du.value hI hF (v:=.int k (if q>p then q else p)) ((dJ w).trans (bh ?_)) (x:=.c (.d (.int k (if q>p then q else p)))) rfl cv;rw[oL];exact run_max_int2 w _ _ k k' p q
    ·exact cv.elim
   |min=>
    refine ai h fun x h1 h2=>ai h2 fun y h3 h4=>?_
    obtain⟨h5,h6⟩:=h4;refine ai h6 fun v h7 h8=>ai h8 fun u h9 cv=>?_
    have hv:=aI hS h7;have hu:=aI hS h9;split at cv
    ·rename_i k p k' q;simp only[aR,di,bc,a6]at hv hu;have oL:args.map a.eval= #[.int k p,.int k' q]:=by
      apply WJ
      ·simp[h5]
      ·intro i Na Mx;simp at Na Mx
       match i,Mx with
       |0,_=>simp[WG]at h1;obtain⟨_,e⟩:=h1;simp[e,hv]
       |1,_=>simp[WG]at h3;obtain⟨_,e⟩:=h3;simp[e,hu]
     refine du.value hI hF (v:=.int k (if q<p then q else p)) ((dJ w).trans (bh ?_)) (x:=.c (.d (.int k (if q<p then q else p)))) rfl cv;rw[oL];exact run_min_int2 w _ _ k k' p q
    ·exact cv.elim
   |_=>exact h.elim
  |_=>exact h.elim
 |_=>exact h.elim
end
end Go.Av
