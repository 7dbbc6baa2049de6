/- A part. -/
import Derived.WalkKit
import Derived.WalkSpells
import Derived.ChangeKeysEq
set_option linter.unusedVariables false
set_option linter.unusedSimpArgs false
open Nat renaming le_refl->VV,add_mul->VW,zero_le->VX,add_assoc->VY,zero_add->VZ,mul_le_mul_right->V1,le_trans->V4,one_mul->V5,zero_mul->V6,mul_comm->V7,lt_or_ge->V8,lt_of_lt_of_le->V9,add_zero->Wa,add_comm->Wb
open List renaming getElem?_eq_some_iff->Wc,getElem?_eq_getElem->Wd,getElem?_append_left->We,getElem?_append_right->Wf,flatten_cons->Wg,mem_of_getElem?->Wh,getElem?_take->Wi,eq_nil_of_length_eq_zero->Wj,map_cons->Wk,length_append->Wl,size_toArray->Wm,replicate->Wn,getElem?_of_mem->Wo,getElem?_drop->Wp,mem_append->Wq,length_cons->Wr,getElem?_set_ne->Ws,ext_getElem?->Wt,append_assoc->Wu,zipIdx_cons->Wv,length_pos_iff->Ww,foldl_cons->Wx,flatMap_cons->Wy,take_left->Wz,nil_append->WA,mem_filterMap->WB,getElem?_map->WC,getElem?_eq_none->WD,all_eq_true->WE
open Array renaming getElem?_eq_some_iff->WG,length_toList->WH,toList_map->WI,ext->WJ
open Bool renaming false_eq_true->WK
open Option renaming map_eq_some_iff->WL,isSome_iff_exists->WM,getD_some->WN
open Int renaming toNat_natCast->WO
namespace Go.Av
open Go
inductive DV where
 |int (k:IntKind) (n:Int)
 |bool (b:Bool)
 |str (s:List UInt8)
 |sl (rows:List (List DV))
 |raw (v:Value)
inductive CV where
 |d (x:DV)
 |nil
 |own (k n:Nat)
 |ptr (l off:Nat)
 |np
 |ip (row:List DV) (off:Nat)
 |op (k n i off:Nat)
 |fn (f:FuncId) (cap:List Nat)
 |undef
inductive AV where
 |c (x:CV)
 |agg (xs:List CV)
 |bq (xs:List AV)
structure bu where
 sz:Nat
 eJ:TypeId
 rows:List (List DV)
 wr:Bool
structure Gh where
 ob:List Nat
 ar:List Value
 im:Nat->Nat
def bs (s:List UInt8):ByteArray:=⟨s.toArray⟩
mutual
def bh (im:Nat->Nat) (w:World):DV->Value->Prop
 |.int k n,v=>v=.int k n
 |.bool b,v=>v=.bool b
 |.str s,v=>v=.string (bs s)
 |.sl rows,v=>∃a cap,v=.slice a rows.length cap/\rows.length<=cap/\(rows=[]\/∃b off sz,a=some ⟨b,off,none⟩/\off+rows.length*sz<=im b/\cj im w b sz off rows)
 |.raw u,v=>v=u/\u.oneCell'=true
def cj (im:Nat->Nat) (w:World) (b sz:Nat):Nat->List (List DV)->Prop
 |_,[]=>True
 |off,r::rs=>r.length=sz/\dm im w b off r/\cj im w b sz (off+sz) rs
def dm (im:Nat->Nat) (w:World) (b:Nat):Nat->List DV->Prop
 |_,[]=>True
 |off,x::xs=>(∃u,w.cell? ⟨b,off,none⟩=some u/\bh im w x u)/\dm im w b (off+1) xs
end
structure jX (im:Nat->Nat) (w:World) (im':Nat->Nat) (w':World):Prop where
 GU:∀b,im b<=im' b
 cell:∀b o,o<im b->w'.cell? ⟨b,o,none⟩=w.cell? ⟨b,o,none⟩
theorem jX.refl (im:Nat->Nat) (w:World):jX im w im w:=⟨fun _=>VV _,fun _ _ _=>rfl⟩
theorem jX.trans {im im' im'':Nat->Nat} {w w' w'':World} (h:jX im w im' w') (k:jX im' w' im'' w''):jX im w im'' w'':=
 ⟨fun b=>V4 (h.GU b) (k.GU b),fun b o ho=>(k.cell b o (V9 ho (h.GU b))).trans (h.cell b o ho)⟩
mutual
theorem bh.fA {im im':Nat->Nat} {w w':World} (h:jX im w im' w'):∀(x:DV) (v:Value),bh im w x v->bh im' w' x v
 |.int _ _,_,hx=>hx
 |.bool _,_,hx=>hx
 |.str _,_,hx=>hx
 |.sl rows,v,hx=>by
  simp only[bh]at hx⊢;obtain⟨a,cap,e,hc,hr⟩:=hx;refine⟨a,cap,e,hc,hr.imp id ?_⟩;rintro⟨b,off,sz,ha,hi,yo⟩;exact⟨b,off,sz,ha,V4 hi (h.GU b),cj.fA h b sz off rows hi yo⟩
 |.raw _,_,hx=>hx
theorem cj.fA {im im':Nat->Nat} {w w':World} (h:jX im w im' w') (b sz:Nat):∀(off:Nat) (rs:List (List DV)),off+rs.length*sz<=im b->cj im w b sz off rs->cj im' w' b sz off rs
 |_,[],_,_=>by simp[cj]
 |off,r::rs,hi,hx=>by
  simp only[cj]at hx⊢;obtain⟨hl,hr,KA⟩:=hx;have Fh:off+sz+rs.length*sz<=im b:=by
   simp only[Wr,VW,V5]at hi;omega
  exact⟨hl,dm.fA h b off r (by omega) hr,cj.fA h b sz (off+sz) rs Fh KA⟩
theorem dm.fA {im im':Nat->Nat} {w w':World} (h:jX im w im' w') (b:Nat):∀(off:Nat) (xs:List DV),off+xs.length<=im b->dm im w b off xs->dm im' w' b off xs
 |_,[],_,_=>by simp[dm]
 |off,x::xs,hi,hx=>by
  simp only[dm]at hx⊢;obtain⟨⟨u,hu,hd⟩,hr⟩:=hx;simp only[Wr]at hi;exact⟨⟨u,(h.cell b off (by omega)).trans hu,bh.fA h x u hd⟩,dm.fA h b (off+1) xs (by omega) hr⟩
end
theorem dm.at_ {im:Nat->Nat} {w:World} {b:Nat}:∀{xs:List DV} {off:Nat},dm im w b off xs->∀{j:Nat} {x:DV},xs[j]? =some x->∃u,w.cell? ⟨b,off+j,none⟩=some u/\bh im w x u
 |[],_,_,j,x,hx=>by simp at hx
 |y::ys,off,h,0,x,hx=>by
  simp only[dm]at h;simp at hx;subst hx;simpa using h.1
 |y::ys,off,h,j+1,x,hx=>by
  simp only[dm]at h;simp at hx;have:=dm.at_ h.2 hx;simpa[VY,Wb 1 j]using this
theorem dm.mk {im:Nat->Nat} {w:World} {b:Nat}:∀{xs:List DV} {off:Nat},(∀j x,xs[j]? =some x->∃u,w.cell? ⟨b,off+j,none⟩=some u/\bh im w x u)->dm im w b off xs
 |[],_,_=>by simp[dm]
 |y::ys,off,h=>by
  simp only[dm];refine⟨by simpa using h 0 y rfl,dm.mk fun j x hx=>?_⟩;have:=h (j+1) x (by simpa using hx);simpa[VY,Wb 1 j]using this
theorem cj.at_ {im:Nat->Nat} {w:World} {b sz:Nat}:∀{rs:List (List DV)} {off:Nat},cj im w b sz off rs->∀{i:Nat} {r:List DV},rs[i]? =some r->r.length=sz/\dm im w b (off+i*sz) r
 |[],_,_,i,r,hr=>by simp at hr
 |y::ys,off,h,0,r,hr=>by
  simp only[cj]at h;simp at hr;subst hr;simpa using⟨h.1,h.2.1⟩
 |y::ys,off,h,i+1,r,hr=>by
  simp only[cj]at h;simp at hr;have:=cj.at_ h.2.2 hr;rwa[show off+sz+i*sz=off+(i+1)*sz by rw[VW];omega]at this
theorem cj.mk {im:Nat->Nat} {w:World} {b sz:Nat}:∀{rs:List (List DV)} {off:Nat},(∀i r,rs[i]? =some r->r.length=sz/\dm im w b (off+i*sz) r)->cj im w b sz off rs
 |[],_,_=>by simp[cj]
 |y::ys,off,h=>by
  simp only[cj];have h0:=h 0 y rfl;refine⟨h0.1,by simpa using h0.2,cj.mk fun i r hr=>?_⟩;have:=h (i+1) r (by simpa using hr);rwa[show off+(i+1)*sz=off+sz+i*sz by rw[VW];omega]at this
theorem bh.lQ {im:Nat->Nat} {w:World}:∀{x:DV} {v:Value},bh im w x v->v.oneCell'=true
 |.int _ _,_,h=>by simp only[bh]at h;subst h;rfl
 |.bool _,_,h=>by simp only[bh]at h;subst h;rfl
 |.str _,_,h=>by simp only[bh]at h;subst h;rfl
 |.sl _,_,h=>by simp only[bh]at h;obtain⟨_,_,rfl,_⟩:=h;rfl
 |.raw _,_,h=>by simp only[bh]at h;obtain⟨rfl,h⟩:=h;exact h
def CV.jM:CV->Bool
 |.undef=>true
 |_=>false
def bm (g:Gh) (w:World) (A:List bu):CV->Value->Prop
 |.d x,v=>bh g.im w x v
 |.nil,v=>v=.slice none 0 0
 |.own k n,v=>∃a cap,v=.slice a n cap/\∃r,A[k]? =some r/\n<=r.rows.length/\(n=r.rows.length->g.ar[k]? =some v)
 |.ptr l off,v=>∃b,g.ob[l]? =some b/\v=.pointer (some ⟨b,off,none⟩)
 |.np,v=>v=.pointer none
 |.ip row off,v=>∃b o,v=.pointer (some ⟨b,o+off,none⟩)/\o+row.length<=g.im b/\dm g.im w b o row
 |.op k n i off,v=>∃b e,v=.pointer (some ⟨b,e,none⟩)/\∃r,A[k]? =some r/\n<=r.rows.length/\(n=r.rows.length->∃cap,g.ar[k]? =some (.slice (some ⟨b,0,none⟩) n cap)/\e=i*r.sz+off)
 |.fn f cap,v=>∃bks:List Nat,v=.func (.func f) #[] (bks.map fun b=>Value.pointer (some ⟨b,0,none⟩)).toArray/\bks.length=cap.length/\∀(i l b:Nat),cap[i]? =some l->bks[i]? =some b->g.ob[l]? =some b
 |.undef,v=>v=undef
def dD (g:Gh) (w:World) (A:List bu):AV->Value->Prop
 |.c x,v=>bm g w A x v
 |.agg xs,v=>∃vs:List Value,v=.agg vs.toArray/\vs.length=xs.length/\∀(i:Nat) (x:CV) (u:Value),xs[i]? =some x->vs[i]? =some u->bm g w A x u
 |.bq _,_=>False
def aV (g:Gh) (w:World) (A:List bu):AV->Value->Prop
 |.bq xs,v=>∃vs:List Value,v=.tuple vs.toArray/\vs.length=xs.length/\∀(i:Nat) (x:AV) (u:Value),xs[i]? =some x->vs[i]? =some u->dD g w A x u
 |x,v=>dD g w A x v
structure Ext (g:Gh) (w:World) (A:List bu) (g':Gh) (w':World) (A':List bu):Prop where
 ob:∀(l b:Nat),g.ob[l]? =some b->g'.ob[l]? =some b
 gr:jX g.im w g'.im w'
 ar:∀(k:Nat) r,A[k]? =some r->∃r',A'[k]? =some r'/\r'.sz=r.sz/\r.rows.length<=r'.rows.length/\(r'.rows.length=r.rows.length->g'.ar[k]? =g.ar[k]?)
theorem Ext.refl (g:Gh) (w:World) (A:List bu):Ext g w A g w A:=
 ⟨fun _ _ h=>h,.refl _ _,fun _ r h=>⟨r,h,rfl,VV _,fun _=>rfl⟩⟩
theorem Ext.trans {g g' g'':Gh} {w w' w'':World} {A A' A'':List bu} (h:Ext g w A g' w' A') (k:Ext g' w' A' g'' w'' A''):Ext g w A g'' w'' A'':=by
 refine⟨fun l b hb=>k.ob l b (h.ob l b hb),h.gr.trans k.gr,fun i r hr=>?_⟩;obtain⟨r',h1,h2,h3,h4⟩:=h.ar i r hr;obtain⟨r'',k1,k2,k3,k4⟩:=k.ar i r' h1;exact⟨r'',k1,k2.trans h2,V4 h3 k3,fun e=>(k4 (by omega)).trans (h4 (by omega))⟩
section
variable {g g':Gh} {w w':World} {A A':List bu}
theorem bm.ext (h:Ext g w A g' w' A'):∀{c:CV} {v:Value},bm g w A c v->bm g' w' A' c v
 |.d x,v,hx=>bh.fA h.gr x v hx
 |.nil,_,hx=>hx
 |.own k n,v,hx=>by
  obtain⟨a,cap,e,r,hr,hn,hv⟩:=hx;obtain⟨r',h1,_,h3,h4⟩:=h.ar k r hr;exact⟨a,cap,e,r',h1,by omega,fun en=>(h4 (by omega)).trans (hv (by omega))⟩
 |.ptr l off,v,hx=>by
  obtain⟨b,hb,e⟩:=hx;exact⟨b,h.ob l b hb,e⟩
 |.np,_,hx=>hx
 |.ip row off,v,hx=>by
  obtain⟨b,o,e,hi,hr⟩:=hx;exact⟨b,o,e,V4 hi (h.gr.GU b),dm.fA h.gr b o row hi hr⟩
 |.op k n i off,v,hx=>by
  obtain⟨b,e,hv,r,hr,hn,hq⟩:=hx;obtain⟨r',h1,h2,h3,h4⟩:=h.ar k r hr;refine⟨b,e,hv,r',h1,by omega,fun en=>?_⟩;obtain⟨cap,hc,he⟩:=hq (by omega);exact⟨cap,(h4 (by omega)).trans hc,by rw[h2];exact he⟩
 |.fn f cap,v,hx=>by
  obtain⟨bks,e,hl,hb⟩:=hx;exact⟨bks,e,hl,fun i l b h1 h2=>h.ob l b (hb i l b h1 h2)⟩
 |.undef,_,hx=>hx
theorem dD.ext (h:Ext g w A g' w' A'):∀{x:AV} {v:Value},dD g w A x v->dD g' w' A' x v
 |.c _,_,hx=>bm.ext h hx
 |.agg _,_,hx=>by
  obtain⟨vs,e,hl,hc⟩:=hx;exact⟨vs,e,hl,fun i x u h1 h2=>bm.ext h (hc i x u h1 h2)⟩
 |.bq _,_,hx=>hx.elim
theorem aV.ext (h:Ext g w A g' w' A'):∀{x:AV} {v:Value},aV g w A x v->aV g' w' A' x v
 |.c x,_,hx=>dD.ext (x:=.c x) h hx
 |.agg xs,_,hx=>dD.ext (x:=.agg xs) h hx
 |.bq _,_,hx=>by
  obtain⟨vs,e,hl,hc⟩:=hx;exact⟨vs,e,hl,fun i x u h1 h2=>dD.ext h (hc i x u h1 h2)⟩
theorem bm.lQ:∀{c:CV} {v:Value},c.jM=false->bm g w A c v->v.oneCell'=true
 |.d _,_,_,h=>bh.lQ h
 |.nil,_,_,h=>by simp only[bm]at h;subst h;rfl
 |.own _ _,_,_,h=>by obtain⟨_,_,rfl,_⟩:=h;rfl
 |.ptr _ _,_,_,h=>by obtain⟨_,_,rfl⟩:=h;rfl
 |.np,_,_,h=>by simp only[bm]at h;subst h;rfl
 |.ip _ _,_,_,h=>by obtain⟨_,_,rfl,_⟩:=h;rfl
 |.op _ _ _ _,_,_,h=>by obtain⟨_,_,rfl,_⟩:=h;rfl
 |.fn _ _,_,_,h=>by obtain⟨_,rfl,_⟩:=h;rfl
 |.undef,_,hu,_=>by simp[CV.jM]at hu
end
def AV.cells:AV->List CV
 |.c x=>[x]
 |.agg xs=>xs
 |.bq _=>[]
structure Inv (g:Gh) (w:World) (V:List (List CV)) (A:List bu):Prop where
 oP:g.ob.length=V.length
 lF:g.ar.length=A.length
 obj:∀(l:Nat) row b,V[l]? =some row->g.ob[l]? =some b->g.im b=0/\∃cs ty,w.heap[b]? =some (.cells cs ty (0,0))/\cs.size=row.length/\∀(j:Nat) c u,row[j]? =some c->cs[j]? =some u->bm g w A c u
 arr:∀(k:Nat) r v,A[k]? =some r->g.ar[k]? =some v->(∀row∈r.rows,row.length=r.sz)/\(∀b,v.ownBlock=some b->g.im b<=if r.wr then 0 else r.rows.length*r.sz)/\
  ∃xs,w.ownsRow 0 r.eJ r.sz v r.rows.length xs/\∀(j:Nat) x u,r.rows.flatten[j]? =some x->xs[j]? =some u->bh g.im w x u
 kA:∀(l l' b:Nat),g.ob[l]? =some b->g.ob[l']? =some b->l=l'
 iS:∀(k k':Nat) v v' b,g.ar[k]? =some v->g.ar[k']? =some v'->v.ownBlock=some b->v'.ownBlock=some b->k=k'
 iX:∀(l k:Nat) v b,g.ob[l]? =some b->g.ar[k]? =some v->v.ownBlock≠some b
 fresh:∀b,w.heap.size<=b->g.im b=0
def Gh.jg (g:Gh):List Nat:=g.ar.filterMap Value.ownBlock
theorem Gh.jN {g:Gh} {k:Nat} {v:Value} {b:Nat} (h:g.ar[k]? =some v) (hb:v.ownBlock=some b):b∈g.jg:=WB.2 ⟨v,Wh h,hb⟩
theorem Gh.fD {g:Gh} {b:Nat} (h:b∈g.jg):∃(k:Nat) (v:Value),g.ar[k]? =some v/\v.ownBlock=some b:=by
 obtain⟨v,h1,h2⟩:=WB.1 h;obtain⟨k,hk⟩:=Wo h1;exact⟨k,v,hk,h2⟩
def rO:Value->Nat
 |.slice _ n _=>n
 |_=>0
def Lb:Option Nat:=none
def Ld:List Nat:=[]
def oZ (b:Nat):Prop:=Lb=some b\/b∈Ld
def GW:Array Value:= #[.int .u64 1,.int .u64 10,.int .u64 100,.int .u64 1000,.int .u64 10000,.int .u64 100000,.int .u64 1000000,.int .u64 10000000,.int .u64 100000000,.int .u64 1000000000,.int .u64 10000000000,.int .u64 100000000000,.int .u64 1000000000000,.int .u64 10000000000000,.int .u64 100000000000000,.int .u64 1000000000000000,.int .u64 10000000000000000,.int .u64 100000000000000000,.int .u64 1000000000000000000,.int .u64 10000000000000000000]
def Qb (b:Nat) (o:Option Obj):Prop:=(Lb=some b->∃ty mk,o=some (.cells GW ty mk))/\(b∈Ld->∃cs ty mk te pe,o=some (.cells cs ty mk)/\cs[0]? =some (.iface te pe))
def AZ (w:World) (g:Gh):Prop:=∀b,oZ b->b<w.heap.size/\b∉g.ob/\b∉g.jg/\Qb b w.heap[b]?
theorem AZ.less {w:World} {g g':Gh} (h:AZ w g) (ho:∀b∈g'.ob,b∈g.ob) (ha:∀b∈g'.jg,b∈g.jg):AZ w g':=fun b hb=>by
 obtain⟨h1,h2,h3,h4⟩:=h b hb;exact⟨h1,fun q=>h2 (ho b q),fun q=>h3 (ha b q),h4⟩
structure Fr (w0:World) (g0:Gh) (w:World) (g:Gh):Prop where
 os:w.os=w0.os
 tape:w.tape=w0.tape
 output:w.output=w0.output
 size:w0.heap.size<=w.heap.size
 qF:∀b,b<w0.heap.size->b∉g0.ob->b∉g0.jg->w.heap[b]? =w0.heap[b]?
 iY:∀b,b<w0.heap.size->b∉g0.jg->g.im b=g0.im b
 ob:∃new,g.ob=g0.ob++new/\∀b∈new,w0.heap.size<=b
 ar:∀(k:Nat) v b,g.ar[k]? =some v->v.ownBlock=some b->w0.heap.size<=b\/b∈g0.jg
 wq:∀(k:Nat) v,g0.ar[k]? =some v->∃v',g.ar[k]? =some v'/\rO v<=rO v'/\(rO v'=rO v->v'=v)
 yp:AZ w0 g0
theorem Fr.now {w0 w:World} {g0 g:Gh} (h:Fr w0 g0 w g):AZ w g:=fun b hb=>by
 obtain⟨h1,h2,h3,h4⟩:=h.yp b hb;refine⟨V9 h1 h.size,fun hm=>?_,fun hm=>?_,?_⟩
 ·obtain⟨new,e,hn⟩:=h.ob;rw[e]at hm;rcases Wq.1 hm with q|q
  ·exact h2 q
  ·exact absurd (hn b q) (by omega)
 ·obtain⟨k,v,q1,q2⟩:=Gh.fD hm;rcases h.ar k v b q1 q2 with q|q
  ·omega
  ·exact h3 q
 ·rw[h.qF b h1 h2 h3];exact h4
theorem Fr.refl {w:World} {g:Gh} (ht:AZ w g):Fr w g w g:=
 ⟨rfl,rfl,rfl,VV _,fun _ _ _ _=>rfl,fun _ _ _=>rfl,⟨[],by simp,by simp⟩,fun k v b hk hb=>.inr (Gh.jN hk hb),fun k v h=>⟨v,h,VV _,fun _=>rfl⟩,ht⟩
theorem Fr.Qc {w0 w:World} {g0 g:Gh} (h:Fr w0 g0 w g) (h0:g0.ar=[]):∀(k:Nat) v b,g.ar[k]? =some v->v.ownBlock=some b->w0.heap.size<=b:=fun k v b h1 h2=>by
 rcases h.ar k v b h1 h2 with h3|h3
 ·exact h3
 ·simp[Gh.jg,h0]at h3
structure St where
 fr:List (Nat×AV)
 V:List (List CV)
 A:List bu
theorem gen {X:St->Prop} {d:Nat} {b:Bool} {fr:List (Nat×AV)} {V:List (List CV)} {A:List bu} (h:∀q:Bool,b=q->X ⟨(d,.c (.d (.bool q)))::fr,V,A⟩):X ⟨(d,.c (.d (.bool b)))::fr,V,A⟩:=h b rfl
section
variable {d:Nat} {b:Bool} {fr:List (Nat×AV)} {V:List (List CV)} {A:List bu}
theorem gen2 {X:St->Prop} (h0:b=false->X ⟨(d,.c (.d (.bool false)))::fr,V,A⟩) (h1:b=true->X ⟨(d,.c (.d (.bool true)))::fr,V,A⟩):X ⟨(d,.c (.d (.bool b)))::fr,V,A⟩:=by cases b;exact h0 rfl;exact h1 rfl
theorem J2 {Y:Type} {X:St->Y->Prop} {L:Y} (h0:b=false->X ⟨(d,.c (.d (.bool false)))::fr,V,A⟩ L) (h1:b=true->X ⟨(d,.c (.d (.bool true)))::fr,V,A⟩ L):X ⟨(d,.c (.d (.bool b)))::fr,V,A⟩ L:=by cases b;exact h0 rfl;exact h1 rfl
end
def look:List (Nat×AV)->Nat->Option AV
 |[],_=>none
 |(t,x)::r,s=>if s=t then some x else look r s
structure Rp (n:Nat) (w0:World) (g0:Gh) (s:St) (g:Gh) (a:Act) (w:World):Prop where
 inv:Inv g w s.V s.A
 fr:Fr w0 g0 w g
 size:a.tmps.size=n
 defers:a.defers=[]
 slot:∀t x,look s.fr t=some x->∃u,a.tmps[t]? =some u/\aV g w s.A x u
section
variable {g g' g0:Gh} {w w' w0:World} {V V':List (List CV)} {A A':List bu}
theorem Fr.Ni (h:Fr w0 g0 w g) {l b:Nat} (hb:g.ob[l]? =some b):b∈g0.ob\/w0.heap.size<=b:=by
 obtain⟨new,e,hn⟩:=h.ob;rw[e]at hb;have:=Wh hb;rcases Wq.1 this with h1|h1
 ·exact .inl h1
 ·exact .inr (hn b h1)
theorem nv {base:Nat} {e:TypeId} {sz:Nat} {v:Value} {n:Nat} {xs:List Value} (h:w.ownsRow base e sz v n xs) (hb:∀b,v.ownBlock=some b->w'.heap[b]? =w.heap[b]?):w'.ownsRow base e sz v n xs:=by
 refine⟨h.1,?_⟩;rcases h.2 with h2|⟨b,cap,cur,hv,h3,hh,r⟩
 ·exact .inl h2
 ·exact .inr ⟨b,cap,cur,hv,h3,by rw[hb b (by rw[hv];rfl)];exact hh,r⟩
theorem rP {base:Nat} {e:TypeId} {sz:Nat} {v:Value} {n:Nat} {xs:List Value} (h:w.ownsRow base e sz v n xs):rO v=n:=by
 rcases h.2 with⟨rfl,h3⟩|⟨b,cap,cur,hv,_⟩
 ·simp only[rO];simp_all
 ·rw[hv];rfl
theorem Inv.qR (h:Inv g w V A) {l b:Nat} (hb:g.ob[l]? =some b):b<w.heap.size:=by
 have hl:l<V.length:=by
  rw[<-h.oP];exact(Wc.1 hb).1
 obtain⟨_,cs,ty,hh,_⟩:=h.obj l _ b (Wd hl) hb;exact(WG.1 hh).1
theorem Inv.mE (h:Inv g w V A) {k b:Nat} {v:Value} (hv:g.ar[k]? =some v) (hb:v.ownBlock=some b):b<w.heap.size:=by
 have hl:k<A.length:=by
  rw[<-h.lF];exact(Wc.1 hv).1
 obtain⟨_,_,xs,ho,_⟩:=h.arr k _ v (Wd hl) hv;exact(ho.lt b hb).2
theorem Inv.Fi (h:Inv g w V A) {b o:Nat} (ho:o<g.im b):b<w.heap.size:=by
 rcases V8 b w.heap.size with h1|h1
 ·exact h1
 ·have:=h.fresh b h1;omega
theorem Inv.fb (h:Inv g w V A) (hx:Ext g w A g' w' A') {l b:Nat} {row:List CV} (hl:V[l]? =some row) (hb:g.ob[l]? =some b) (hh:w'.heap[b]? =w.heap[b]?) (hi:g'.im b=0):
  g'.im b=0/\∃cs ty,w'.heap[b]? =some (.cells cs ty (0,0))/\cs.size=row.length/\∀(j:Nat) c u,row[j]? =some c->cs[j]? =some u->bm g' w' A' c u:=by
 obtain⟨_,cs,ty,hc,hs,hr⟩:=h.obj l row b hl hb;exact⟨hi,cs,ty,hh.trans hc,hs,fun j c u h1 h2=>bm.ext hx (hr j c u h1 h2)⟩
theorem Inv.fc (h:Inv g w V A) (hx:Ext g w A g' w' A') {k:Nat} {r:bu} {v:Value} (hk:A[k]? =some r) (hv:g.ar[k]? =some v)
  (hh:∀b,v.ownBlock=some b->w'.heap[b]? =w.heap[b]?) (hi:∀b,v.ownBlock=some b->g'.im b=g.im b):
  (∀row∈r.rows,row.length=r.sz)/\(∀b,v.ownBlock=some b->g'.im b<=if r.wr then 0 else r.rows.length*r.sz)/\
  ∃xs,w'.ownsRow 0 r.eJ r.sz v r.rows.length xs/\∀(j:Nat) x u,r.rows.flatten[j]? =some x->xs[j]? =some u->bh g'.im w' x u:=by
 obtain⟨h1,h2,xs,ho,hr⟩:=h.arr k r v hk hv;exact⟨h1,fun b hb=>by rw[hi b hb];exact h2 b hb,xs,nv ho hh,fun j x u hj hu=>bh.fA hx.gr x u (hr j x u hj hu)⟩
theorem Inv.heap (h:Inv g w V A) (hh:w'.heap=w.heap):Inv g w' V A/\Ext g w A g w' A:=by
 have hx:Ext g w A g w' A:=⟨fun _ _ h=>h,⟨fun _=>VV _,fun b o _=>by simp[World.cell?,hh]⟩,fun _ r h=>⟨r,h,rfl,VV _,fun _=>rfl⟩⟩;refine⟨⟨h.oP,h.lF,fun l row b h1 h2=>?_,fun k r v h1 h2=>?_,h.kA,h.iS,h.iX,fun b hb=>h.fresh b (by rwa[hh]at hb)⟩,hx⟩
 ·exact h.fb hx h1 h2 (by rw[hh]) (h.obj l row b h1 h2).1
 ·exact h.fc hx h1 h2 (fun _ _=>by rw[hh]) (fun _ _=>rfl)
theorem Fr.heap (h:Fr w0 g0 w g) (hh:w'.heap=w.heap) (ho:w'.os=w.os) (ht:w'.tape=w.tape) (hp:w'.output=w.output):Fr w0 g0 w' g:=
 ⟨ho.trans h.os,ht.trans h.tape,hp.trans h.output,by rw[hh];exact h.size,fun b h1 h2 h3=>by rw[hh];exact h.qF b h1 h2 h3,h.iY,h.ob,h.ar,h.wq,h.yp⟩
theorem Inv.dW (h:Inv g w V A) (o:Obj) (m:Nat):∃g',g'={g with im:=fun b=>if b=w.heap.size then m else g.im b}/\Inv g' (w.alloc o) V A/\Ext g w A g' (w.alloc o) A:=by
 have GX:∀b,b<w.heap.size->(w.alloc o).heap[b]? =w.heap[b]? :=fun b hb=>RowKit.Below.heap_alloc w o b hb
 have qS:∀b,b<w.heap.size->(if b=w.heap.size then m else g.im b)=g.im b:=fun b hb=>by rw[if_neg (by omega)]
 have hx:Ext g w A {g with im:=fun b=>if b=w.heap.size then m else g.im b} (w.alloc o) A:=by
  refine⟨fun _ _ h=>h,⟨fun b=>?_,fun b o' ho=>?_⟩,fun _ r h=>⟨r,h,rfl,VV _,fun _=>rfl⟩⟩
  ·show g.im b<=if b=w.heap.size then m else g.im b
   split
   ·rename_i e;rw[h.fresh b (by omega)];exact VX _
   ·exact VV _
  ·exact World.cell?_of_block (a:=⟨b,o',none⟩) (GX b (h.Fi ho))
 refine⟨_,rfl,⟨h.oP,h.lF,fun l row b h1 h2=>?_,fun k r v h1 h2=>?_,h.kA,h.iS,h.iX,fun b hb=>?_⟩,hx⟩
 ·exact h.fb hx h1 h2 (GX b (h.qR h2)) ((qS b (h.qR h2)).trans (h.obj l row b h1 h2).1)
 ·exact h.fc hx h1 h2 (fun b hb=>GX b (h.mE h2 hb)) (fun b hb=>qS b (h.mE h2 hb))
 ·have hs:(w.alloc o).heap.size=w.heap.size+1:=by simp
  show(if b=w.heap.size then m else g.im b)=0;rw[hs]at hb;rw[if_neg (by omega)];exact h.fresh b (by omega)
theorem Fr.dW (h:Fr w0 g0 w g) (o:Obj) (m:Nat):Fr w0 g0 (w.alloc o) {g with im:=fun b=>if b=w.heap.size then m else g.im b}:=by
 have hs:(w.alloc o).heap.size=w.heap.size+1:=by simp
 refine⟨h.os,h.tape,h.output,by rw[hs];have:=h.size;omega,fun b h1 h2 h3=>?_,fun b hb eG=>?_,h.ob,h.ar,h.wq,h.yp⟩
 ·rw[RowKit.Below.heap_alloc w o b (by have:=h.size;omega)];exact h.qF b h1 h2 h3
 ·show(if b=w.heap.size then m else g.im b)=_;have:=h.size;rw[if_neg (by omega)];exact h.iY b hb eG
theorem Inv.newObj (h:Inv g w V A) (hf:Fr w0 g0 w g) (cs:Array Value) (ty:TypeId) (row:List CV) (hs:cs.size=row.length) (hr:∀(j:Nat) c u,row[j]? =some c->cs[j]? =some u->bm g w A c u):
  ∃g',Inv g' (w.alloc (.cells cs ty)) (V++[row]) A/\Ext g w A g' (w.alloc (.cells cs ty)) A/\Fr w0 g0 (w.alloc (.cells cs ty)) g'/\g'.ob[V.length]? =some w.heap.size:=by
 obtain⟨g1,vF,hi,hx⟩:=h.dW (.cells cs ty) 0;have Fj:=hf.dW (.cells cs ty) 0;rw[<-vF]at Fj
 have ji:Ext g1 (w.alloc (.cells cs ty)) A {g1 with ob:=g1.ob++[w.heap.size]} (w.alloc (.cells cs ty)) A:=
  ⟨fun l b hb=>by show(g1.ob++[w.heap.size])[l]? =some b;rw[We (Wc.1 hb).1];exact hb,.refl _ _,fun _ r h=>⟨r,h,rfl,VV _,fun _=>rfl⟩⟩
 have az:∀(l b:Nat),g1.ob[l]? =some b->b<w.heap.size:=fun l b hb=>by
  subst vF;exact h.qR (g:=g) hb
 have df:∀(l b:Nat),(g1.ob++[w.heap.size])[l]? =some b->(g1.ob[l]? =some b/\b<w.heap.size)\/(l=V.length/\b=w.heap.size):=fun l b hb=>by
  rcases V8 l g1.ob.length with h1|h1
  ·rw[We h1]at hb;exact .inl ⟨hb,az l b hb⟩
  ·rw[Wf h1]at hb;have h0:l-g1.ob.length=0:=by
    have:=(Wc.1 hb).1;simp at this;omega
   rw[h0]at hb;simp at hb;exact .inr ⟨by rw[<-hi.oP];omega,hb.symm⟩
 have qS:g1.im w.heap.size=0:=by subst vF;simp
 have GY:∀(k:Nat) (v:Value) (b:Nat),g1.ar[k]? =some v->v.ownBlock=some b->b<w.heap.size:=fun k v b hv hb=>by
  subst vF;exact h.mE (g:=g) hv hb
 refine⟨{g1 with ob:=g1.ob++[w.heap.size]},⟨by simp[hi.oP],hi.lF,fun l row' b h1 h2=>?_,fun k r v h1 h2=>?_,fun l l' b h1 h2=>?_,hi.iS,fun l k v b h1 h2=>?_,hi.fresh⟩,hx.trans ji,?_,?_⟩
 ·rcases df l b h2 with⟨h3,h4⟩|⟨h3,h4⟩
  ·have h5:V[l]? =some row':=by
    have:l<V.length:=by rw[<-hi.oP];exact(Wc.1 h3).1
    rwa[We this]at h1
   exact hi.fb ji h5 h3 rfl (hi.obj l row' b h5 h3).1
  ·subst h3;subst h4;simp at h1;subst h1;exact⟨qS,cs,ty,heap_alloc_new w _,hs,fun j c u h6 h7=>bm.ext (hx.trans ji) (hr j c u h6 h7)⟩
 ·exact hi.fc ji h1 h2 (fun _ _=>rfl) (fun _ _=>rfl)
 ·rcases df l b h1 with⟨h3,h4⟩|⟨h3,h4⟩<;>rcases df l' b h2 with⟨h5,h6⟩|⟨h5,h6⟩
  ·exact hi.kA l l' b h3 h5
  ·omega
  ·omega
  ·omega
 ·rcases df l b h1 with⟨h3,h4⟩|⟨h3,h4⟩
  ·exact hi.iX l k v b h3 h2
  ·intro hb;have:=GY k v b h2 hb;omega
 ·refine⟨Fj.os,Fj.tape,Fj.output,Fj.size,Fj.qF,Fj.iY,?_,Fj.ar,Fj.wq,Fj.yp⟩;obtain⟨new,e,hn⟩:=Fj.ob;exact⟨new++[w.heap.size],by show g1.ob++[w.heap.size]=_;rw[e];simp,fun b hb=>by
   rcases Wq.1 hb with h1|h1
   ·exact hn b h1
   ·simp at h1;rw[h1];exact hf.size⟩
 ·show(g1.ob++[w.heap.size])[V.length]? =some w.heap.size;rw[Wf (by rw[hi.oP];exact VV _),hi.oP];simp
theorem cm (w:World) (b k:Nat) (cs:Array Value) (h:k≠b):(w.setRow b cs).heap[k]? =w.heap[k]? :=by
 simp only[World.setRow,Array.getElem?_modify];rw[if_neg (fun e=>h e.symm)]
theorem Ext.setRow (g:Gh) (w:World) (A:List bu) (b:Nat) (cs:Array Value) (h:g.im b=0):Ext g w A g (w.setRow b cs) A:=by
 refine⟨fun _ _ h=>h,⟨fun _=>VV _,fun b' o ho=>?_⟩,fun _ r h=>⟨r,h,rfl,VV _,fun _=>rfl⟩⟩;exact World.cell?_of_block (a:=⟨b',o,none⟩) (cm w b b' cs (fun e=>by subst e;omega))
theorem Fr.setRow (hf:Fr w0 g0 w g) (b:Nat) (cs:Array Value) (h:b∈g0.ob\/w0.heap.size<=b\/b∈g0.jg):Fr w0 g0 (w.setRow b cs) g:=
 ⟨hf.os,hf.tape,hf.output,by simpa using hf.size,fun b' h1 h2 h3=>by
  rw[cm w b b' cs (fun e=>by subst e;rcases h with h|h|h<;>first|exact h2 h|exact h3 h|omega)];exact hf.qF b' h1 h2 h3,hf.iY,hf.ob,hf.ar,hf.wq,hf.yp⟩
theorem Inv.setObj (h:Inv g w V A) (hf:Fr w0 g0 w g) {l b:Nat} {row row':List CV} (hl:V[l]? =some row) (hb:g.ob[l]? =some b) (cs:Array Value) (hs:cs.size=row'.length)
  (hr:∀(j:Nat) c u,row'[j]? =some c->cs[j]? =some u->bm g w A c u):
  Inv g (w.setRow b cs) (V.set l row') A/\Ext g w A g (w.setRow b cs) A/\Fr w0 g0 (w.setRow b cs) g:=by
 obtain⟨hi,cs0,ty,hh,_⟩:=h.obj l row b hl hb;have hx:=Ext.setRow g w A b cs hi;refine⟨⟨by rw[h.oP];simp,h.lF,fun l' rw' b' h1 h2=>?_,fun k r v h1 h2=>?_,h.kA,h.iS,h.iX,fun b' eG=>h.fresh b' (by simpa using eG)⟩,hx,hf.setRow b cs ((hf.Ni hb).imp_right .inl)⟩
 ·by_cases e:l'=l
  ·subst e;obtain rfl:b=b':=by rw[hb]at h2;exact Option.some.inj h2
   have az:=(Wc.1 hl).1;simp[az]at h1;subst h1;exact⟨hi,cs,ty,setRow_heap w b cs0 cs ty (0,0) hh,hs,fun j c u h3 h4=>bm.ext hx (hr j c u h3 h4)⟩
  ·rw[Ws (by omega)]at h1;have dc:b'≠b:=fun e'=>e (h.kA l' l b' h2 (e'▸hb))
   exact h.fb hx h1 h2 (cm w b b' cs dc) (h.obj l' rw' b' h1 h2).1
 ·exact h.fc hx h1 h2 (fun b' eG=>cm w b b' cs (fun e=>by subst e;exact h.iX l k v _ hb h2 eG)) (fun _ _=>rfl)
theorem Inv.qT (h:Inv g w V A) (hf:Fr w0 g0 w g) (r:bu) (v:Value) (xs:List Value) (h1:∀row∈r.rows,row.length=r.sz) (ho:w.ownsRow 0 r.eJ r.sz v r.rows.length xs)
  (hr:∀(j:Nat) x u,r.rows.flatten[j]? =some x->xs[j]? =some u->bh g.im w x u)
  (hb:∀b,v.ownBlock=some b->g.im b=0/\w0.heap.size<=b/\(∀l:Nat,g.ob[l]? ≠some b)/\∀(k:Nat) v',g.ar[k]? =some v'->v'.ownBlock≠some b):
  ∃g',g'.im=g.im/\g'.ob=g.ob/\g'.ar=g.ar++[v]/\Inv g' w V (A++[r])/\Ext g w A g' w (A++[r])/\Fr w0 g0 w g':=by
 have hx:Ext g w A {g with ar:=g.ar++[v]} w (A++[r]):=by
  refine⟨fun _ _ h=>h,.refl _ _,fun k r' hk=>⟨r',?_,rfl,VV _,fun _=>?_⟩⟩
  ·rw[We (Wc.1 hk).1];exact hk
  ·show(g.ar++[v])[k]? =_;rw[We (by rw[h.lF];exact(Wc.1 hk).1)]
 have df:∀(k:Nat) (v':Value),(g.ar++[v])[k]? =some v'->g.ar[k]? =some v'\/(k=A.length/\v'=v):=fun k v' hk=>by
  rcases V8 k g.ar.length with h1|h1
  ·rw[We h1]at hk;exact .inl hk
  ·rw[Wf h1]at hk;have h0:k-g.ar.length=0:=by
    have:=(Wc.1 hk).1;simp at this;omega
   rw[h0]at hk;simp at hk;exact .inr ⟨by rw[<-h.lF];omega,hk.symm⟩
 refine⟨{g with ar:=g.ar++[v]},rfl,rfl,rfl,⟨h.oP,by simp[h.lF],fun l row b h2 h3=>?_,fun k r' v' h2 h3=>?_,h.kA,fun k k' v1 v2 b h2 h3 h4 h5=>?_,fun l k v' b h2 h3=>?_,h.fresh⟩,hx,?_⟩
 ·exact h.fb hx h2 h3 rfl (h.obj l row b h2 h3).1
 ·rcases df k v' h3 with h4|⟨h4,h5⟩
  ·have h6:A[k]? =some r':=by
    have:k<A.length:=by rw[<-h.lF];exact(Wc.1 h4).1
    rwa[We this]at h2
   exact h.fc hx h6 h4 (fun _ _=>rfl) (fun _ _=>rfl)
  ·subst h4;subst h5;simp at h2;subst h2;exact⟨h1,fun b hv=>by show g.im b<=_;rw[(hb b hv).1];exact VX _,xs,ho,hr⟩
 ·rcases df k v1 h2 with h6|⟨h6,h7⟩<;>rcases df k' v2 h3 with h8|⟨h8,h9⟩
  ·exact h.iS k k' v1 v2 b h6 h8 h4 h5
  ·subst h9;exact absurd h4 ((hb b h5).2.2.2 k v1 h6)
  ·subst h7;exact absurd h5 ((hb b h4).2.2.2 k' v2 h8)
  ·omega
 ·rcases df k v' h3 with h4|⟨h4,h5⟩
  ·exact h.iX l k v' b h2 h4
  ·subst h5;intro hv;exact(hb b hv).2.2.1 l h2
 ·refine⟨hf.os,hf.tape,hf.output,hf.size,hf.qF,hf.iY,hf.ob,fun k v' b h2 h3=>?_,fun k v' h2=>?_,hf.yp⟩
  ·rcases df k v' h2 with h4|⟨h4,h5⟩
   ·exact hf.ar k v' b h4 h3
   ·subst h5;exact .inl (hb b h3).2.1
  ·obtain⟨v2,h3,h4⟩:=hf.wq k v' h2;exact⟨v2,by show(g.ar++[v])[k]? =some v2;rw[We (Wc.1 h3).1];exact h3,h4⟩
end
theorem lh {α:Type} {sz:Nat}:∀{rows:List (List α)},(∀row∈rows,row.length=sz)->∀{i j:Nat} {row:List α} {x:α},rows[i]? =some row->row[j]? =some x->rows.flatten[i*sz+j]? =some x
 |[],_,i,j,row,x,h,_=>by simp at h
 |r::rs,hl,0,j,row,x,h,hx=>by
  simp at h;subst h;have hj:=(Wc.1 hx).1;simp only[Wg,V6,VZ];rw[We hj];exact hx
 |r::rs,hl,i+1,j,row,x,h,hx=>by
  simp at h;have hr:r.length=sz:=hl r (by simp);have ih:=lh (fun q hq=>hl q (by simp[hq])) h hx;simp only[Wg];rw[Wf (by rw[hr,VW];omega)];rwa[show(i+1)*sz+j-r.length=i*sz+j by rw[hr,VW];omega]
theorem eC {α:Type} {sz:Nat}:∀{rows:List (List α)},(∀row∈rows,row.length=sz)->rows.flatten.length=rows.length*sz
 |[],_=>by simp
 |r::rs,hl=>by
  have hr:r.length=sz:=hl r (by simp);have ih:=eC (rows:=rs) (fun q hq=>hl q (by simp[hq]));simp only[Wg,Wl,Wr,ih,hr,VW];omega
def b6 {α:Type} (l:List α) (off:Nat) (ds:List α):List α:=l.take off++ds++l.drop (off+ds.length)
theorem fE {α:Type} {l:List α} {off:Nat} {ds:List α} (h:off+ds.length<=l.length):(b6 l off ds).length=l.length:=by
 simp[b6];omega
theorem fT {α:Type} {l:List α} {off:Nat} {ds:List α} (h:off+ds.length<=l.length) (j:Nat):(b6 l off ds)[j]? =if off<=j/\j<off+ds.length then ds[j-off]? else l[j]? :=by
 simp only[b6,Wu];by_cases h1:j<off
 ·rw[if_neg (by omega),We (by simp;omega),Wi,if_pos h1]
 ·by_cases h2:j<off+ds.length
  ·rw[if_pos (by omega),Wf (by simp;omega),We (by simp;omega)]
   congr 1;simp;omega
  ·rw[if_neg (by omega),Wf (by simp;omega),Wf (by simp;omega),Wp]
   congr 1;simp;omega
theorem o0 {α:Type} {sz:Nat}:∀{rows:List (List α)},(∀row∈rows,row.length=sz)->∀{i off:Nat} {row ds:List α},rows[i]? =some row->off+ds.length<=sz->
  (rows.set i (b6 row off ds)).flatten=b6 rows.flatten (i*sz+off) ds
 |[],_,i,_,row,_,h,_=>by simp at h
 |r::rs,hl,0,off,row,ds,h,ho=>by
  simp at h;subst h;have hr:r.length=sz:=hl r (by simp);simp only[List.set_cons_zero,Wg,V6,VZ,b6];rw[List.take_append_of_le_length (by omega),List.drop_append_of_le_length (by omega)];simp
 |r::rs,hl,i+1,off,row,ds,h,ho=>by
  simp at h;have hr:r.length=sz:=hl r (by simp);have ih:=o0 (fun q hq=>hl q (by simp[hq])) h ho;simp only[List.set_cons_succ,Wg,ih];have e:(i+1)*sz+off=r.length+(i*sz+off):=by rw[hr,VW];omega
  rw[e];simp only[b6,VY,List.take_length_add_append,List.drop_length_add_append,Wu]
section
variable {g g' g0:Gh} {w w' w0:World} {V V':List (List CV)} {A A':List bu} {P:Program}
theorem A1 {im:Nat->Nat} {r:bu} {v:Value} {xs:List Value} (h1:∀row∈r.rows,row.length=r.sz) (ho:w.ownsRow 0 r.eJ r.sz v r.rows.length xs)
  (hr:∀(j:Nat) x u,r.rows.flatten[j]? =some x->xs[j]? =some u->bh im w x u) (hi:∀b,v.ownBlock=some b->r.rows.length*r.sz<=im b):bh im w (.sl r.rows) v:=by
 simp only[bh];have s4:=ho;rcases ho.2 with⟨hv,hn⟩|⟨b,cap,cur,hv,_,hh,GZ,_,yg,yZ⟩
 ·have MF:r.rows=[]:=Wj hn;exact⟨none,0,by rw[hv,hn],by omega,.inl MF⟩
 ·refine⟨some ⟨b,0,none⟩,cap,hv,GZ,.inr ⟨b,0,r.sz,rfl,by have:=hi b (by rw[hv];rfl);omega,?_⟩⟩;refine cj.mk fun i row dK=>⟨h1 row (Wh dK),dm.mk fun j x hx=>?_⟩
  have hf:=lh h1 dK hx;have az:i*r.sz+j<xs.length:=by
   have:=(Wc.1 hf).1;rw[eC h1]at this;rw[s4.1];exact this
  have hu:xs[i*r.sz+j]? =some xs[i*r.sz+j]:=Wd az;refine⟨_,?_,hr _ x _ hf hu⟩;have hc:=s4.cells (g:=b) (by rw[hv];rfl) _ _ hu;have qU:(⟨b,0,none⟩:Addr).add (i*r.sz+j)=⟨b,0+i*r.sz+j,none⟩:=by unfold Addr.add;split<;>simp_all
  rwa[qU]at hc
theorem Inv.seal (h:Inv g w V A) (hf:Fr w0 g0 w g) {k:Nat} {r:bu} {v:Value} (hk:A[k]? =some r) (hv:g.ar[k]? =some v):
  ∃g',Inv g' w V (A.set k {r with wr:=false})/\Ext g w A g' w (A.set k {r with wr:=false})/\Fr w0 g0 w g'/\g'.ar=g.ar/\g'.ob=g.ob/\bh g'.im w (.sl r.rows) v:=by
 obtain⟨h1,h2,xs,ho,hr⟩:=h.arr k r v hk hv
 let im':Nat->Nat:=fun b=>if v.ownBlock=some b then max (g.im b) (r.rows.length*r.sz)else g.im b
 have uK:jX g.im w im' w:=⟨fun b=>by simp only[im'];split<;>omega,fun _ _ _=>rfl⟩;have az:=(Wc.1 hk).1;have bN:∀k',(A.set k {r with wr:=false})[k']? =if k'=k then some {r with wr:=false}else A[k']? :=fun k'=>by
  by_cases e:k'=k
  ·subst e;simp[az]
  ·rw[if_neg e,Ws (by omega)]
 have hx:Ext g w A {g with im:=im'} w (A.set k {r with wr:=false}):=by
  refine⟨fun _ _ h=>h,uK,fun k' r' o4=>?_⟩;rw[bN];by_cases e:k'=k
  ·subst e;obtain rfl:r=r':=by rw[hk]at o4;exact Option.some.inj o4
   exact⟨{r with wr:=false},by simp,rfl,VV _,fun _=>rfl⟩
  ·exact⟨r',by simp[e,o4],rfl,VV _,fun _=>rfl⟩
 have Jh:∀b,v.ownBlock=some b->b<w.heap.size:=fun b hb=>h.mE hv hb
 refine⟨{g with im:=im'},⟨h.oP,by rw[h.lF];simp,fun l row b h3 h4=>?_,fun k' r' v' h3 h4=>?_,h.kA,h.iS,h.iX,fun b hb=>?_⟩,hx,?_,rfl,rfl,?_⟩
 ·refine h.fb hx h3 h4 rfl ?_;show im' b=0;simp only[im'];rw[if_neg (h.iX l k v b h4 hv)];exact(h.obj l row b h3 h4).1
 ·rw[bN]at h3;by_cases e:k'=k
  ·subst e;simp at h3;subst h3;obtain rfl:v=v':=by rw[hv]at h4;exact Option.some.inj h4
   refine⟨h1,fun b hb=>?_,xs,ho,fun j x u h5 h6=>bh.fA uK x u (hr j x u h5 h6)⟩;show im' b<=_;simp only[im',hb,if_true];have:=h2 b hb;simp only[WK,if_false];split at this<;>omega
  ·simp[e]at h3;refine h.fc hx h3 h4 (fun _ _=>rfl) (fun b hb=>?_);show im' b=g.im b;simp only[im'];rw[if_neg (fun e'=>e (h.iS k' k v' v b h4 hv hb e'))]
 ·show im' b=0;simp only[im'];rw[if_neg (fun e=>by have:=Jh b e;omega)];exact h.fresh b hb
 ·refine⟨hf.os,hf.tape,hf.output,hf.size,hf.qF,fun b hb eG=>?_,hf.ob,hf.ar,hf.wq,hf.yp⟩;show im' b=_;simp only[im'];rw[if_neg (fun e=>by rcases hf.ar k v b hv e with h7|h7;omega;exact eG h7)];exact hf.iY b hb eG
 ·exact A1 h1 ho (fun j x u h5 h6=>bh.fA uK x u (hr j x u h5 h6)) (fun b hb=>by simp only[im',hb,if_true];omega)
theorem mh (t ty e:TypeId) (i:TypeInfo) (z:Value) (ht:P.underlying t=some (.slice e)) (hi:P.info? e=some i) (hz:i.zero=some z)
  (IX:z.cells.size=i.size) (v:Value) (n:Nat) (xs:List Value) (dS:w.ownsRow 0 e i.size v n xs)
  (y:Value) (m:Nat) (news:List Value) (hy:(m=0/\news=[]/\∃a c,y=.slice a 0 c)\/∃a c,y=.slice (some a) m c/\news.length=m*i.size/\∀j u,news[j]? =some u->w.cell? (a.add j)=some u)
  (h1:∀u∈news,u.oneCell'=true) (Sj:n+m<=maxLen) (G5:(n+m)*i.bytes<=140737488355328):
  ∃v' w',(Builtin.append_ #[t,t] ty #[v,y]).run P w=.ok v' w'/\w'.ownsRow 0 e i.size v' (n+m) (xs++news)/\
   ((v'=v/\w'=w)\/(∃b cs,v.ownBlock=some b/\v'.ownBlock=some b/\w'=w.setRow b cs)\/(∃o,v'.ownBlock=some w.heap.size/\w'=w.drew.alloc o)):=by
 have GF:xs.length=n*i.size:=dS.1;by_cases hm:m=0
 ·subst hm;have GG:news=[]:=by
   rcases hy with⟨_,h,_⟩|⟨_,_,_,h,_⟩
   ·exact h
   ·exact Wj (by simpa using h)
  obtain⟨a,c,rfl⟩:∃a c,y=.slice a 0 c:=by
   rcases hy with⟨_,_,h⟩|⟨a,c,h,_⟩
   ·exact h
   ·exact⟨some a,c,h⟩
  subst GG;refine⟨v,w,?_,by simpa using dS,.inl ⟨rfl,rfl⟩⟩;have IY:∀w:World,(Builtin.firstCells i.size 0 (.slice a 0 c)).run P w=.ok #[] w:=fun w=>by
   cases a<;>simp[Builtin.firstCells,loadCells,loadCellsFrom]
  rcases dS.2 with⟨rfl,rfl⟩|⟨g,cap,cur,rfl,_,_,GZ,_⟩
  ·simp[Builtin.append_,run_underlying ht,sizeOf,typeInfo,hi,Builtin.lenOf,IY]
  ·simp[Builtin.append_,run_underlying ht,sizeOf,typeInfo,hi,Builtin.lenOf,IY,GZ,storeCells]
 ·rcases hy with⟨h,_⟩|⟨a,c,rfl,hl,A3⟩
  ·exact absurd h hm
  have Qd:n+m<=9223372036854775807:=by simp only[maxLen]at Sj;omega
  have hlen:(xs++news).length=(n+m)*i.size:=by rw[Wl,dS.1,hl,VW]
  have grown:∀(Ji:Nat),Ji<n+m->
    (w.drew.alloc (.cells (xs.toArray++news.toArray++Builtin.zeroCells z.cells (grownCap w (n+m) Ji e-(n+m))) e)).ownsRow 0 e i.size
     (.slice (some ⟨w.heap.size,0,none⟩) (n+m) (grownCap w (n+m) Ji e)) (n+m) (xs++news):=by
   intro Ji ho;have mB:=grownCap_ge w (n+m) Ji e;have Nj:grownCap w (n+m) Ji e<=maxLen:=grownCap_le_maxLen w (n+m) Ji e Sj;refine⟨hlen,.inr ⟨w.heap.size,_,_,rfl,VX _,heap_alloc_new w.drew _,mB,Nj,?_,?_⟩⟩
   ·simp only[Array.size_append,Wm,size_zeroCells,IX,GF,hl,<-VW]
    congr 1
    omega
   ·simp only[Array.toList_append,Wu];rw[<-Wu,<-hlen];exact Wz
  rcases dS.2 with⟨rfl,rfl⟩|⟨g,cap,cur,rfl,_,hg,GZ,Nj,yg,yZ⟩
  ·have hx:xs=[]:=Wj (by simpa using GF);subst hx;have hr:=run_append_nil (P:=P) w t ty e i z ht hi hz a m c news hl A3 (by omega) (by omega) (by have hb:=G5;simp only[VZ]at hb;omega);have uK:=grown 0 (by omega);simp only[VZ,WA,Array.empty_append]at uK⊢;exact⟨_,_,hr,uK,.inr (.inr ⟨_,rfl,rfl⟩)⟩
  ·by_cases G6:n+m<=cap
   ·have yq:n*i.size+news.length<=cur.size:=by rw[hl,yg,<-VW];exact V1 _ G6
    have hr:=run_append_room (P:=P) w t ty e i ht hi g n cap cur hg a m c news hl A3 h1 G6 yq;refine⟨_,_,hr,⟨hlen,.inr ⟨g,cap,_,rfl,VX _,setRow_heap w g cur _ e _ hg,G6,Nj,?_,?_⟩⟩,.inr (.inl ⟨g,_,rfl,rfl,rfl⟩)⟩
    ·simp only[Wm,Wl,List.length_take,List.length_drop,WH];omega
    ·rw[yZ,<-hlen];exact Wz
   ·have holds:∀j u,xs[j]? =some u->w.cell? ((⟨g,0,none⟩:Addr).add j)=some u:=dS.cells (g:=g) rfl;have hr:=run_append_grow (P:=P) w t ty e i z ht hi hz ⟨g,0,none⟩ n cap xs GF holds a m c news hl A3 (by omega) (by omega) (growslice_fits (by omega) G5);exact⟨_,_,hr,grown cap (by omega),.inr (.inr ⟨_,rfl,rfl⟩)⟩
theorem dk {α:Type} {l:List α} {k:Nat} {x y:α} (h:l[k]? =some x) (k':Nat):(l.set k y)[k']? =if k'=k then some y else l[k']? :=by
 have az:=(Wc.1 h).1;by_cases e:k'=k
 ·subst e;simp[az]
 ·rw[if_neg e,Ws (by omega)]
theorem G7 {r:bu} {nr:List (List DV)} {e:TypeId} {v':Value} {xs news:List Value} {im:Nat->Nat} (h1:∀row∈r.rows,row.length=r.sz) (hn:∀row∈nr,row.length=r.sz)
  (Jj:xs.length=r.rows.length*r.sz)
  (hr:∀(j:Nat) x u,r.rows.flatten[j]? =some x->xs[j]? =some u->bh im w' x u) (CX:∀(j:Nat) x u,nr.flatten[j]? =some x->news[j]? =some u->bh im w' x u)
  (ho:w'.ownsRow 0 e r.sz v' (r.rows.length+nr.length) (xs++news)):
  (∀row∈r.rows++nr,row.length=r.sz)/\w'.ownsRow 0 e r.sz v' (r.rows++nr).length (xs++news)/\∀(j:Nat) x u,(r.rows++nr).flatten[j]? =some x->(xs++news)[j]? =some u->bh im w' x u:=by
 refine⟨fun row dK=>?_,by simpa using ho,fun j x u hj hu=>?_⟩
 ·rcases Wq.1 dK with h|h
  ·exact h1 row h
  ·exact hn row h
 ·rw[List.flatten_append]at hj;have yh:=eC h1;by_cases az:j<xs.length
  ·rw[We (by omega)]at hj;rw[We az]at hu;exact hr j x u hj hu
  ·rw[Wf (by omega)]at hj;rw[Wf (by omega)]at hu;rw[yh,<-Jj]at hj;exact CX _ x u hj hu
theorem Inv.grow (h:Inv g w V A) (hf:Fr w0 g0 w g) {k:Nat} {r:bu} {v v':Value} (hk:A[k]? =some r) (hv:g.ar[k]? =some v) (nr:List (List DV)) (dc:nr≠[]) (news:List Value)
  (hn:∀row∈nr,row.length=r.sz) (CX:∀(j:Nat) x u,nr.flatten[j]? =some x->news[j]? =some u->bh g.im w x u)
  (s4:∀xs,w.ownsRow 0 r.eJ r.sz v r.rows.length xs->w'.ownsRow 0 r.eJ r.sz v' (r.rows.length+nr.length) (xs++news))
  (hc:(v'=v/\w'=w)\/(∃b cs,v.ownBlock=some b/\v'.ownBlock=some b/\w'=w.setRow b cs)\/(∃o,v'.ownBlock=some w.heap.size/\w'=w.drew.alloc o)):
  ∃g',Inv g' w' V (A.set k {r with rows:=r.rows++nr})/\Ext g w A g' w' (A.set k {r with rows:=r.rows++nr})/\Fr w0 g0 w' g'/\g'.ar[k]? =some v'/\g'.ob=g.ob/\g'.im=g.im:=by
 obtain⟨h1,h2,xs,ho,hr⟩:=h.arr k r v hk hv;have pZ:=s4 xs ho;have Nk:rO v+1<=rO v':=by
  rw[rP ho,rP pZ];have:=Ww.2 dc;omega
 have az:=(Wc.1 hk).1;have GH:0<nr.length:=Ww.2 dc;have eM:w.heap.size<=w'.heap.size:=by
  rcases hc with⟨_,rfl⟩|⟨b,cs,_,_,rfl⟩|⟨o,_,rfl⟩
  ·exact VV _
  ·simp
  ·simp
 have gm:∀b,b<w.heap.size->v.ownBlock≠some b->w'.heap[b]? =w.heap[b]? :=by
  intro b hb dc;rcases hc with⟨_,rfl⟩|⟨b',cs,eG,_,rfl⟩|⟨o,_,rfl⟩
  ·rfl
  ·exact cm w b' b cs (fun e=>dc (by rw[e];exact eG))
  ·exact RowKit.Below.heap_alloc w.drew o b hb
 have oB:∀b o,o<g.im b->w'.cell? ⟨b,o,none⟩=w.cell? ⟨b,o,none⟩:=by
  intro b o GF;have hb:=h.Fi GF;by_cases e:v.ownBlock=some b
  ·rcases hc with⟨_,rfl⟩|⟨b',cs,eG,hb'',rfl⟩|⟨o',_,rfl⟩
   ·rfl
   ·obtain rfl:b=b':=by rw[e]at eG;exact Option.some.inj eG
    have hle:=h2 b e;have Nl:o<xs.length:=by rw[ho.1];split at hle<;>omega
    have hu:xs[o]? =some xs[o]:=Wd Nl;have c1:=ho.cells (g:=b) e _ _ hu;have c2:=pZ.cells (g:=b) hb'' o xs[o] (by rw[We Nl];exact hu);have qU:(⟨b,0,none⟩:Addr).add o=⟨b,o,none⟩:=by unfold Addr.add;split<;>simp_all
    rw[qU]at c1 c2;rw[c1,c2]
   ·exact World.cell?_of_block (a:=⟨b,o,none⟩) (RowKit.Below.heap_alloc w.drew o' b hb)
  ·exact World.cell?_of_block (a:=⟨b,o,none⟩) (gm b hb e)
 have uK:jX g.im w g.im w':=⟨fun _=>VV _,oB⟩;have Fk:g.ar.length=A.length:=h.lF;have hx:Ext g w A {g with ar:=g.ar.set k v'} w' (A.set k {r with rows:=r.rows++nr}):=by
  refine⟨fun _ _ h=>h,uK,fun k' r' o4=>?_⟩;rw[dk hk];by_cases e:k'=k
  ·subst e;obtain rfl:r=r':=by rw[hk]at o4;exact Option.some.inj o4
   exact⟨{r with rows:=r.rows++nr},by simp,rfl,by simp,fun he=>by simp at he;exact absurd he dc⟩
  ·refine⟨r',by simp[e,o4],rfl,VV _,fun _=>?_⟩;show(g.ar.set k v')[k']? =g.ar[k']?;rw[dk hv,if_neg e]
 have AS:∀b,v'.ownBlock=some b->(v.ownBlock=some b)\/b=w.heap.size:=by
  intro b hb;rcases hc with⟨rfl,_⟩|⟨b',cs,h3,h4,_⟩|⟨o,h3,_⟩
  ·exact .inl hb
  ·rw[h4]at hb;exact .inl (h3.trans hb)
  ·rw[h3]at hb;exact .inr (Option.some.inj hb).symm
 have qU:=G7 h1 hn ho.1 (fun j x u hj hu=>bh.fA uK x u (hr j x u hj hu)) (fun j x u hj hu=>bh.fA uK x u (CX j x u hj hu)) pZ;refine⟨{g with ar:=g.ar.set k v'},⟨h.oP,by simp[h.lF],fun l row b h3 h4=>?_,fun k' r' u h3 h4=>?_,h.kA,fun k1 k2 u1 u2 b h3 h4 h5 h6=>?_,fun l k' u b h3 h4=>?_,fun b hb=>h.fresh b (by omega)⟩,hx,?_,?_,rfl,rfl⟩
 ·exact h.fb hx h3 h4 (gm b (h.qR h4) (h.iX l k v b h4 hv)) (h.obj l row b h3 h4).1
 ·rw[dk hk]at h3;have vG:(g.ar.set k v')[k']? =some u:=h4;rw[dk hv]at vG;by_cases e:k'=k
  ·subst e;simp at h3 vG;subst h3;subst vG;refine⟨qU.1,fun b hb=>?_,xs++news,qU.2.1,qU.2.2⟩;show g.im b<=_;rcases AS b hb with h5|h5
   ·have:=h2 b h5;simp only[Wl,VW];cases zT:r.wr<;>simp only[zT,if_true,WK,if_false]at this⊢<;>omega
   ·rw[h.fresh b (by omega)];exact VX _
  ·simp[e]at h3 vG;refine h.fc hx h3 vG (fun b hb=>gm b (h.mE vG hb) (fun e'=>e (h.iS k' k u v b vG hv hb e'))) (fun _ _=>rfl)
 ·have s5:(g.ar.set k v')[k1]? =some u1:=h3;have vG:(g.ar.set k v')[k2]? =some u2:=h4;rw[dk hv]at s5 vG;by_cases e1:k1=k<;>by_cases e2:k2=k
  ·omega
  ·simp[e1,e2]at s5 vG;subst s5;rcases AS b h5 with h7|h7
   ·exact absurd (h.iS k2 k u2 v b vG hv h6 h7) e2
   ·have:=h.mE vG h6;omega
  ·simp[e1,e2]at s5 vG;subst vG;rcases AS b h6 with h7|h7
   ·exact absurd (h.iS k1 k u1 v b s5 hv h5 h7) e1
   ·have:=h.mE s5 h5;omega
  ·simp[e1,e2]at s5 vG;exact h.iS k1 k2 u1 u2 b s5 vG h5 h6
 ·have vG:(g.ar.set k v')[k']? =some u:=h4;rw[dk hv]at vG;by_cases e:k'=k
  ·simp[e]at vG;subst vG;intro hb;rcases AS b hb with h7|h7
   ·exact h.iX l k v b h3 hv h7
   ·have:=h.qR h3;omega
  ·simp[e]at vG;exact h.iX l k' u b h3 vG
 ·have Qe:w'.os=w.os/\w'.tape=w.tape/\w'.output=w.output:=by
   rcases hc with⟨_,rfl⟩|⟨b,cs,_,_,rfl⟩|⟨o,_,rfl⟩<;>exact⟨rfl,rfl,rfl⟩
  refine⟨Qe.1.trans hf.os,Qe.2.1.trans hf.tape,Qe.2.2.trans hf.output,V4 hf.size eM,fun b h3 h4 vG=>?_,hf.iY,hf.ob,fun k' u b h3 h4=>?_,fun k' u h3=>?_,hf.yp⟩
  ·rw[gm b (V9 h3 hf.size) (fun e=>by rcases hf.ar k v b hv e with h7|h7;omega;exact vG h7)];exact hf.qF b h3 h4 vG
  ·have s5:(g.ar.set k v')[k']? =some u:=h3;rw[dk hv]at s5;by_cases e:k'=k
   ·simp[e]at s5;subst s5;rcases AS b h4 with h7|h7
    ·exact hf.ar k v b hv h7
    ·rw[h7];exact .inl hf.size
   ·simp[e]at s5;exact hf.ar k' u b s5 h4
  ·obtain⟨u1,h4,h5,h6⟩:=hf.wq k' u h3;by_cases e:k'=k
   ·subst e;obtain rfl:v=u1:=by rw[hv]at h4;exact Option.some.inj h4
    refine⟨v',?_,?_⟩
    ·show(g.ar.set k' v')[k']? =some v';rw[dk hv];simp
    ·have hlen:rO v+1<=rO v':=Nk;exact⟨by omega,fun h7=>by omega⟩
   ·refine⟨u1,?_,h5,h6⟩;show(g.ar.set k v')[k']? =some u1;rw[dk hv];simp[e,h4]
 ·show(g.ar.set k v')[k]? =some v';rw[dk hv];simp
theorem Inv.G8 (h:Inv g w V A) (hf:Fr w0 g0 w g) {k:Nat} {r:bu} {v:Value} (hk:A[k]? =some r) (hv:g.ar[k]? =some v) (hw:r.wr=true) {i off b:Nat} {row ds:List DV} (hi:r.rows[i]? =some row)
  (ho:off+ds.length<=r.sz) (hb:v.ownBlock=some b) (vs:List Value) (Fk:vs.length=ds.length) (vZ:∀(j:Nat) x u,ds[j]? =some x->vs[j]? =some u->bh g.im w x u):
  ∃cur ty cap,v=.slice (some ⟨b,0,none⟩) r.rows.length cap/\w.heap[b]? =some (.cells cur ty (0,0))/\i*r.sz+off+vs.length<=cur.size/\i*r.sz+off+vs.length<=r.rows.length*r.sz/\
   Inv g (w.setRow b (b6 cur.toList (i*r.sz+off) vs).toArray) V (A.set k {r with rows:=r.rows.set i (b6 row off ds)})/\
   Ext g w A g (w.setRow b (b6 cur.toList (i*r.sz+off) vs).toArray) (A.set k {r with rows:=r.rows.set i (b6 row off ds)})/\Fr w0 g0 (w.setRow b (b6 cur.toList (i*r.sz+off) vs).toArray) g:=by
 obtain⟨h1,h2,xs,dS,hr⟩:=h.arr k r v hk hv;have qS:g.im b=0:=by have:=h2 b hb;rw[hw]at this;simpa using this
 rcases dS.2 with⟨rfl,_⟩|⟨b',cap,cur,rfl,_,hh,GZ,Nj,yg,yZ⟩
 ·simp[Value.ownBlock]at hb
 simp[Value.ownBlock]at hb;subst hb;have az:=(Wc.1 hi).1;have hmul:(i+1)*r.sz<=r.rows.length*r.sz:=V1 _ az;have Sk:r.rows.length*r.sz<=cap*r.sz:=V1 _ GZ;rw[VW,V5]at hmul;have yq:i*r.sz+off+vs.length<=r.rows.length*r.sz:=by omega
 have G9:i*r.sz+off+vs.length<=cur.size:=by omega
 have dn:=Ext.setRow g w A b' (b6 cur.toList (i*r.sz+off) vs).toArray qS;have hx:Ext g w A g (w.setRow b' (b6 cur.toList (i*r.sz+off) vs).toArray) (A.set k {r with rows:=r.rows.set i (b6 row off ds)}):=by
  refine⟨dn.ob,dn.gr,fun k' r' o4=>?_⟩;rw[dk hk];by_cases e:k'=k
  ·subst e;obtain rfl:r=r':=by rw[hk]at o4;exact Option.some.inj o4
   exact⟨{r with rows:=r.rows.set i (b6 row off ds)},by simp,rfl,by simp,fun _=>rfl⟩
  ·exact⟨r',by simp[e,o4],rfl,VV _,fun _=>rfl⟩
 refine⟨cur,r.eJ,cap,rfl,hh,G9,yq,⟨h.oP,by simp[h.lF],fun l row' b h3 h4=>?_,fun k' r' u h3 h4=>?_,h.kA,h.iS,h.iX,fun b hb=>h.fresh b (by simpa using hb)⟩,hx,hf.setRow b' _ (.inr (hf.ar k _ b' hv rfl))⟩
 ·exact h.fb hx h3 h4 (cm w b' b _ (fun e=>by subst e;exact h.iX l k _ b h4 hv rfl)) (h.obj l row' b h3 h4).1
 ·rw[dk hk]at h3;by_cases e:k'=k
  ·subst e;simp at h3;subst h3;obtain rfl:Value.slice (some ⟨b',0,none⟩) r.rows.length cap=u:=by rw[hv]at h4;exact Option.some.inj h4
   have ni:row.length=r.sz:=h1 row (Wh hi);refine⟨fun q hq=>?_,fun b hb=>?_,b6 xs (i*r.sz+off) vs,?_,fun j x u hj hu=>?_⟩
   ·rcases List.mem_or_eq_of_mem_set hq with h5|h5
    ·exact h1 q h5
    ·rw[h5,fE (by omega)];exact ni
   ·simp[Value.ownBlock]at hb;subst hb;rw[qS];exact VX _
   ·refine⟨?_,.inr ⟨b',cap,(b6 cur.toList (i*r.sz+off) vs).toArray,?_,VX _,setRow_heap w b' cur _ r.eJ (0,0) hh,by simpa using GZ,Nj,?_,?_⟩⟩
    ·rw[fE (by rw[dS.1];exact yq)];simpa using dS.1
    ·simp
    ·simp only[Wm];rw[fE (by simpa using G9)];simpa using yg
    ·apply Wt;intro j;simp only[List.length_set];rw[Wi,fT (by simpa using G9),fT (by rw[dS.1];exact yq),<-yZ,Wi];split<;>split<;>first|rfl|(rename_i h5 h6;omega)
   ·simp only at hj;rw[o0 h1 hi ho,fT (by rw[eC h1];omega)]at hj;rw[fT (by rw[dS.1];exact yq),Fk]at hu;split at hj
    ·rename_i hc;rw[if_pos hc]at hu;exact bh.fA hx.gr x u (vZ _ x u hj hu)
    ·rename_i hc;rw[if_neg hc]at hu;exact bh.fA hx.gr x u (hr j x u hj hu)
  ·simp[e]at h3;refine h.fc hx h3 h4 (fun b hb=>cm w b' b _ (fun e'=>by subst e';exact e (h.iS k' k u _ b h4 hv hb rfl))) (fun _ _=>rfl)
end
structure TD where
 ag:Bool
 sz:Nat
 lG:Nat
 zero:Option (List CV)
 el:Option TypeId
 ar:Option (Nat×TypeId)
 fl:List (Nat×Nat)
 ik:Option IntKind
 cL:Bool
 nj:Bool
def th:Value->Option CV
 |.int k n=>some (.d (.int k n))
 |.bool b=>some (.d (.bool b))
 |.string s=>some (.d (.str s.data.toList))
 |.slice none 0 0=>some .nil
 |.pointer none=>some .np
 |_=>none
def uL:List Value->Option (List CV)
 |[]=>some []
 |v::r=>match th v,uL r with
  |some c,some cs=>some (c::cs)
  |_,_=>none
def yr (P:Program):List Field->Option (List (Nat×Nat))
 |[]=>some []
 |f::r=>match P.info? f.type,yr P r with
  |some i,some l=>some ((f.offset,i.size)::l)
  |_,_=>none
def Ej:TypeDesc->Bool|.struct _=>true|.array _ _=>true|_=>false
def Qf:TypeDesc->Option TypeId|.slice e=>some e|_=>none
def Qg:TypeDesc->Option (Nat×TypeId)|.array n e=>some (n,e)|_=>none
def MG (P:Program):TypeDesc->List (Nat×Nat)|.struct fs=>(yr P fs.toList).getD []|_=>[]
def Qh:TypeDesc->Option IntKind|.int k=>some k|_=>none
def Le:TypeDesc->Bool|.string=>true|_=>false
def Lf:TypeDesc->Bool|.bool=>true|_=>false
def Pr:Option Value->Option (List CV)|some z=>uL z.cells.toList|none=>none
def td (P:Program) (t:TypeId):Option TD:=
 match P.underlying t,P.info? t with
 |some d,some i=>some {ag:=Ej d,sz:=i.size,lG:=i.bytes,zero:=Pr i.zero,el:=Qf d,ar:=Qg d,fl:=MG P d,ik:=Qh d,cL:=Le d,nj:=Lf d}
 |_,_=>none
def bE (s:St):Operand->Option AV
 |.tmp t=>look s.fr t
 |.const v=>(th v).map AV.c
 |.func f=>some (.c (.fn f []))
 |.global _=>none
def bS {α:Type} (o:Option α) (k:α->Prop):Prop:=
 match o with
 |some v=>k v
 |none=>False
def nw (A:List bu):CV->Option DV
 |.d x=>some x
 |.nil=>some (.sl [])
 |.own k n=>match A[k]? with
  |some r=>if n=r.rows.length then some (.sl r.rows)else none
  |none=>none
 |_=>none
def iy (A:List bu):List CV->Option (List DV)
 |[]=>some []
 |c::r=>match nw A c,iy A r with
  |some d,some ds=>some (d::ds)
  |_,_=>none
def kB (A:List bu):List (List CV)->Option (List (List DV))
 |[]=>some []
 |c::r=>match iy A c,kB A r with
  |some d,some ds=>some (d::ds)
  |_,_=>none
def fB (A:List bu):CV->List bu
 |.own k _=>match A[k]? with
  |some r=>A.set k {r with wr:=false}
  |none=>A
 |_=>A
def bT (A:List bu) (cs:List CV):List bu:=cs.foldl fB A
def gB (s:St) (p:CV) (n:Nat):Option (List CV):=
 match p with
 |.ptr l off=>match s.V[l]? with
  |some row=>if off+n<=row.length then some ((row.drop off).take n)else none
  |none=>none
 |.ip row off=>if off+n<=row.length then some (((row.drop off).take n).map CV.d)else none
 |.op k m i off=>match s.A[k]? with
  |some r=>if m=r.rows.length then
    match r.rows[i]? with
    |some row=>if off+n<=row.length then some (((row.drop off).take n).map CV.d)else none
    |none=>none
   else none
  |none=>none
 |_=>none
def Fl (ag:Bool) (cs:List CV):Option AV:=
 if ag then some (.agg cs)else
 match cs with
 |[c]=>some (.c c)
 |_=>none
def AV.plain:AV->Bool
 |.bq _=>false
 |.c x=> !x.jM
 |.agg xs=>xs.all fun x=> !x.jM
def A4 (op:BinOp) (k:IntKind) (x y:Int):Int:=
 match op with
 |.and=>k.wrap (BitVec.ofInt k.bits x &&& BitVec.ofInt k.bits y).toNat
 |.or=>k.wrap (BitVec.ofInt k.bits x|||BitVec.ofInt k.bits y).toNat
 |.xor=>k.wrap (BitVec.ofInt k.bits x ^^^ BitVec.ofInt k.bits y).toNat
 |_=>0
def zU (op:BinOp) (x y:AV):Option AV:=
 match x,y with
 |.c (.d (.int k a)),.c (.d (.int k' b))=>
  if k=k' then
   match op with
   |.add=>some (.c (.d (.int k (k.wrap (a+b)))))
   |.sub=>some (.c (.d (.int k (k.wrap (a-b)))))
   |.mul=>some (.c (.d (.int k (k.wrap (a*b)))))
   |.quo=>if b=0 then none else some (.c (.d (.int k (k.wrap (a.tdiv b)))))
   |.rem=>if b=0 then none else some (.c (.d (.int k (a.tmod b))))
   |.eql=>some (.c (.d (.bool (a==b))))
   |.neq=>some (.c (.d (.bool (a !=b))))
   |.lss=>some (.c (.d (.bool (a<b))))
   |.leq=>some (.c (.d (.bool (a<=b))))
   |.gtr=>some (.c (.d (.bool (a>b))))
   |.geq=>some (.c (.d (.bool (a>=b))))
   |.and=>some (.c (.d (.int k (A4 .and k a b))))
   |.or=>some (.c (.d (.int k (A4 .or k a b))))
   |.xor=>some (.c (.d (.int k (A4 .xor k a b))))
   |.shl=>if b<0 then none else some (.c (.d (.int k (k.wrap (a*2 ^ min b.toNat k.bits)))))
   |.shr=>if b<0 then none else some (.c (.d (.int k (a.fdiv (2 ^ min b.toNat k.bits)))))
   |_=>none
  else none
 |.c (.d (.str a)),.c (.d (.str b))=>
  match op with
  |.add=>if a.length+b.length<=4611686018427387904 then some (.c (.d (.str (a++b))))else none
  |.eql=>some (.c (.d (.bool (a==b))))
  |.neq=>some (.c (.d (.bool (!(a==b)))))
  |.lss=>some (.c (.d (.bool (Op.bytesLess a b))))
  |.leq=>some (.c (.d (.bool (Op.bytesLess a b||a==b))))
  |.gtr=>some (.c (.d (.bool (!(Op.bytesLess a b||a==b)))))
  |.geq=>some (.c (.d (.bool (!(Op.bytesLess a b)))))
  |_=>none
 |_,_=>none
def rQ (op:BinOp) (x y:AV):Option AV:=
 match x,y with
 |.c (.d (.bool a)),.c (.d (.bool b))=>
  match op with
  |.eql=>some (.c (.d (.bool (a==b))))
  |.neq=>some (.c (.d (.bool (!(a==b)))))
  |_=>none
 |_,_=>none
def zV:TypeDesc->Option Nat
 |.int _=>some 0
 |.bool=>some 1
 |.string=>some 2
 |_=>none
def Nn (P:Program):Nat->List Field->Option (List Nat)
 |_,[]=>some []
 |i,f::r=>match P.underlying f.type with
  |some d=>match zV d,Nn P (i+1) r with
   |some k,some ks=>if f.name≠ "_" /\f.offset=i then some (k::ks)else none
   |_,_=>none
  |none=>none
def sq (P:Program) (t:TypeId):Option (List Nat):=
 match P.underlying t with
 |some (.struct fs)=>if P.stoodInHeld t=false/\P.eqGuardType P.depth t=false then Nn P 0 fs.toList else none
 |_=>none
def Ek:List Nat->List CV->List CV->Option Bool
 |[],[],[]=>some true
 |0::ks,.d (.int k a)::xs,.d (.int k' b)::ys=>if k=k' then(Ek ks xs ys).map fun r=>(a==b)&& r else none
 |1::ks,.d (.bool a)::xs,.d (.bool b)::ys=>(Ek ks xs ys).map fun r=>(a==b)&& r
 |2::ks,.d (.str a)::xs,.d (.str b)::ys=>(Ek ks xs ys).map fun r=>(a==b)&& r
 |_,_,_=>none
def rR (P:Program) (op:BinOp) (t:TypeId) (x y:AV):Option AV:=
 match x,y with
 |.agg xs,.agg ys=>match sq P t with
  |some ks=>match Ek ks xs ys with
   |some r=>match op with
    |.eql=>some (.c (.d (.bool r)))
    |.neq=>some (.c (.d (.bool (!r))))
    |_=>none
   |none=>none
  |none=>none
 |_,_=>none
def Jk (op:UnOp) (x:AV):Option AV:=
 match op,x with
 |.not,.c (.d (.bool b))=>some (.c (.d (.bool (!b))))
 |.neg,.c (.d (.int k n))=>some (.c (.d (.int k (k.wrap (0-n)))))
 |_,_=>none
def oC (fl:List (Nat×Nat)):List CV->List (Nat×List CV)->Option (List CV)
 |cells,[]=>some cells
 |cells,(i,x)::r=>
  match fl[i]? with
  |none=>none
  |some (off,size)=>if x.length=size/\off+size<=cells.length then oC fl (b6 cells off x) r else none
def iz (s:St):List (Nat×Operand)->Option (List (Nat×List CV))
 |[]=>some []
 |(i,x)::r=>match bE s x,iz s r with
  |some v,some l=>if v.plain then some ((i,v.cells)::l)else none
  |_,_=>none
def jY (s:St) (sz:Nat):Nat->List (Nat×Operand)->Option (List (List CV))
 |_,[]=>some []
 |k,(i,x)::r=>match bE s x,jY s sz (k+1) r with
  |some v,some l=>if i=k/\v.plain/\v.cells.length=sz then some (v.cells::l)else none
  |_,_=>none
def Ha:List AV->Option (List Nat)
 |[]=>some []
 |.c (.ptr l 0)::r=>(Ha r).map (l::·)
 |_=>none
def hM (s:St):List Operand->Option (List AV)
 |[]=>some []
 |x::r=>match bE s x,hM s r with
  |some v,some l=>some (v::l)
  |_,_=>none
def zW:AV->Option Nat
 |.c (.d (.str b))=>some b.length
 |.c (.d (.sl rows))=>some rows.length
 |.c .nil=>some 0
 |.c (.own _ n)=>some n
 |_=>none
def rowsOf (A:List bu):AV->Option (List (List DV))
 |.c (.d (.sl rows))=>some rows
 |.c .nil=>some []
 |.c (.own k n)=>match A[k]? with
  |some r=>if n=r.rows.length then some r.rows else none
  |none=>none
 |_=>none
def ti:List DV->Option UInt8
 |[.int .u8 n]=>if 0<=n/\n<256 then some (UInt8.ofNat n.toNat)else none
 |_=>none
def bytesOf:List (List DV)->Option (List UInt8)
 |[]=>some []
 |r::rs=>match ti r,bytesOf rs with
  |some b,some l=>some (b::l)
  |_,_=>none
def rS (lo:Option AV):Option Int:=
 match lo with
 |none=>some 0
 |some (.c (.d (.int _ n)))=>some n
 |_=>none
def mF (hi:Option AV) (n:Nat):Option Int:=
 match hi with
 |none=>some n
 |some (.c (.d (.int _ n)))=>some n
 |_=>none
def mi (s:St):Option Operand->Option (Option AV)
 |none=>some none
 |some x=>(bE s x).map some
@[simp] def Sl (dd:TD) (n:Int):Option DV:=match dd.ik with
 |some k=>some (.int k (k.wrap n))
 |none=>if dd.cL=true/\0<=n/\n<128 then some (.str [UInt8.ofNat n.toNat])else none
def eD (P:Program) (s:St) (ow:Bool) (op:Op) (K:AV->List (List CV)->List bu->Prop):Prop:=
 match op with
 |.move x|.assign x=>bS (bE s x) fun v=>K v s.V s.A
 |.pick c a b=>bS (bE s c) fun v=>match v with
  |.c (.d (.bool t))=>if t=true then bS (bE s a) fun v=>K v s.V s.A else bS (bE s b) fun v=>K v s.V s.A
  |_=>False
 |.alloc e=>bS (td P e) fun d=>bS d.zero fun z=>K (.c (.ptr s.V.length 0)) (s.V++[z]) s.A
 |.box _ x=>bS (bE s x) fun v=>v.plain=true/\K (.c (.ptr s.V.length 0)) (s.V++[v.cells]) s.A
 |.build t parts=>bS (td P t) fun d=>bS d.zero fun z=>bS (iz s parts.toList) fun ps=>bS (oC d.fl z ps) fun cs=>d.ar=none/\d.fl≠[]/\K (.agg cs) s.V s.A
 |.buildSlice t len parts=>bS (td P t) fun d=>bS d.el fun e=>bS (td P e) fun de=>bS (jY s de.sz 0 parts.toList) fun rows=>
   bS (kB s.A rows) fun ds=>rows.length=len/\len*de.sz<=16777216/\0<de.sz/\de.zero.isSome=true/\
    if ow then K (.c (.own s.A.length len)) s.V (bT s.A rows.flatten++[{sz:=de.sz,eJ:=e,rows:=ds,wr:=true}])else K (.c (.d (.sl ds))) s.V (bT s.A rows.flatten)
 |.load t a=>bS (td P t) fun d=>bS (bE s a) fun p=>match p with
  |.c p=>bS (gB s p d.sz) fun cs=>bS (Fl d.ag cs) fun v=>K v s.V s.A
  |_=>False
 |.store t a x=>bS (td P t) fun d=>bS (bE s a) fun p=>bS (bE s x) fun v=>v.plain=true/\v.cells.length=d.sz/\match p with
  |.c (.ptr l off)=>bS s.V[l]? fun row=>off+d.sz<=row.length/\K (.c .undef) (s.V.set l (b6 row off v.cells)) s.A
  |.c (.op k n i off)=>bS s.A[k]? fun r=>n=r.rows.length/\r.wr=true/\bS r.rows[i]? fun row=>bS (iy s.A v.cells) fun ds=>off+d.sz<=r.sz/\(v.cells.all fun c=>match c with|.own k' _=>k'≠k|_=>true)=true/\
    K (.c .undef) s.V ((bT s.A v.cells).set k {r with rows:=r.rows.set i (b6 row off ds)})
  |_=>False
 |.nilCheck x=>bS (bE s x) fun v=>match v with
  |.c (.ptr l off)=>K (.c (.ptr l off)) s.V s.A
  |.c (.ip r off)=>K (.c (.ip r off)) s.V s.A
  |.c (.op k n i off)=>K (.c (.op k n i off)) s.V s.A
  |.c (.fn f cap)=>K (.c (.fn f cap)) s.V s.A
  |_=>False
 |.binOp op t x y _=>bS (bE s x) fun a=>bS (bE s y) fun b=>match zU op a b with
  |some v=>K v s.V s.A
  |none=>match rR P op t a b with
   |some v=>K v s.V s.A
   |none=>bS (rQ op a b) fun v=>bS (td P t) fun d=>d.nj=true/\K v s.V s.A
 |.unOp op _ x=>bS (bE s x) fun a=>bS (Jk op a) fun v=>K v s.V s.A
 |.convert src dst x=>bS (bE s x) fun a=>bS (td P src) fun ds=>bS (td P dst) fun dd=>match a with
  |.c (.d (.int _ n))=>bS (Sl dd n) fun d=>K (.c (.d d)) s.V s.A
  |.c (.d (.str b))=>dd.cL=true/\ds.cL=true/\K (.c (.d (.str b))) s.V s.A
  |.c (.d (.sl rows))=>dd.cL=true/\bS ds.el fun e=>bS (td P e) fun de=>de.ik=some .u8/\bS (bytesOf rows) fun b=>K (.c (.d (.str b))) s.V s.A
  |_=>False
 |.makeFunc (.func f) first captured=>first.size=0/\bS (hM s captured.toList) fun cs=>bS (Ha cs) fun ls=>K (.c (.fn f ls)) s.V s.A
 |.makeSlice t l c=>bS (td P t) fun d=>bS d.el fun e=>bS (td P e) fun de=>bS de.zero fun z=>bS (iy s.A z) fun dz=>bS (bE s l) fun vl=>bS (bE s c) fun vc=>match vl,vc with
  |.c (.d (.int _ n)),.c (.d (.int _ m))=>n=m/\0<=n/\n.toNat*de.lG<=140737488355328/\n.toNat<=9223372036854775807/\0<de.sz/\z.length=de.sz/\
    K (.c (.own s.A.length n.toNat)) s.V (s.A++[{sz:=de.sz,eJ:=e,rows:=Wn n.toNat dz,wr:=true}])
  |_,_=>False
 |.slice t x lo hi mx=>mx=none/\bS (td P t) fun d=>bS (bE s x) fun v=>bS (mi s lo) fun l=>bS (mi s hi) fun h=>match v with
  |.c (.d (.str b))=>d.cL=true/\bS (rS l) fun i=>bS (mF h b.length) fun j=>0<=i/\i<=j/\j<=b.length/\K (.c (.d (.str ((b.take j.toNat).drop i.toNat)))) s.V s.A
  |v=>bS (rowsOf s.A v) fun rows=>bS d.el fun e=>bS (td P e) fun de=>bS (rS l) fun i=>bS (mF h rows.length) fun j=>0<=i/\i<=j/\j<=rows.length/\(∀r∈rows,r.length=de.sz)/\
    K (.c (.d (.sl ((rows.take j.toNat).drop i.toNat)))) s.V (bT s.A v.cells)
 |.fieldAddr t x f=>bS (td P t) fun d=>bS d.fl[f]? fun(off,sz)=>sz≠0/\bS (bE s x) fun v=>match v with
  |.c (.ptr l o)=>K (.c (.ptr l (o+off))) s.V s.A
  |.c (.ip r o)=>K (.c (.ip r (o+off))) s.V s.A
  |.c (.op k n i o)=>K (.c (.op k n i (o+off))) s.V s.A
  |_=>False
 |.indexAddr t x ix=>bS (td P t) fun d=>bS (bE s x) fun v=>bS (bE s ix) fun i=>match i with
  |.c (.d (.int _ n))=>0<=n/\(match v with
   |.c (.d (.sl rows))=>bS d.el fun e=>bS (td P e) fun de=>bS rows[n.toNat]? fun row=>row.length=de.sz/\K (.c (.ip row 0)) s.V s.A
   |.c (.own k m)=>bS d.el fun e=>bS (td P e) fun de=>bS s.A[k]? fun r=>m=r.rows.length/\n.toNat<m/\r.sz=de.sz/\K (.c (.op k m n.toNat 0)) s.V s.A
   |.c (.ptr l off)=>bS d.ar fun(len,e)=>bS (td P e) fun de=>n<len/\K (.c (.ptr l (off+n.toNat*de.sz))) s.V s.A
   |_=>False)
  |_=>False
 |.index t x ix=>bS (td P t) fun d=>bS (bE s x) fun v=>bS (bE s ix) fun i=>match v,i with
  |.c (.d (.str b)),.c (.d (.int _ n))=>d.cL=true/\0<=n/\bS b[n.toNat]? fun c=>K (.c (.d (.int .u8 c.toNat))) s.V s.A
  |.agg xs,.c (.d (.int _ n))=>bS d.ar fun(len,e)=>bS (td P e) fun de=>de.ag=false/\de.sz=1/\0<=n/\n<len/\bS xs[n.toNat]? fun c=>K (.c c) s.V s.A
  |_,_=>False
 |.extract x i=>bS (bE s x) fun v=>match v with
  |.bq xs=>bS xs[i]? fun u=>match u with
   |.bq _=>False
   |u=>K u s.V s.A
  |_=>False
 |.call {callee:=.builtin .len,args,argTypes}=>bS args[0]? fun x=>bS (bE s x) fun v=>bS argTypes[0]? fun t=>bS (td P t) fun d=>bS (zW v) fun n=>(d.cL=true\/d.el.isSome=true)/\
   (match v with|.c (.d (.str _))=>d.cL=true|_=>d.el.isSome=true)/\K (.c (.d (.int .i64 n))) s.V s.A
 |.call {callee:=.builtin .append,args,argTypes}=>bS args[0]? fun x=>bS args[1]? fun y=>bS argTypes[0]? fun t=>argTypes[1]? =some t/\bS (td P t) fun d=>bS d.el fun e=>bS (td P e) fun de=>
   de.zero.isSome=true/\(bS de.zero fun z=>z.length=de.sz)/\bS (bE s x) fun v=>bS (bE s y) fun u=>bS (rowsOf s.A u) fun nr=>(∀r∈nr,r.length=de.sz)/\match v with
  |.c (.own k n)=>bS s.A[k]? fun r=>n=r.rows.length/\r.eJ=e/\r.sz=de.sz/\(n+nr.length)*de.lG<=140737488355328/\n+nr.length<=9223372036854775807/\
    if ow then K (.c (.d (.sl (r.rows++nr)))) s.V (s.A.set k {r with rows:=r.rows++nr,wr:=false})else K (.c (.own k (n+nr.length))) s.V (s.A.set k {r with rows:=r.rows++nr})
  |.c .nil=>nr.length*de.lG<=140737488355328/\nr.length<=9223372036854775807/\
    if ow then K (.c (.d (.sl nr))) s.V (s.A++[{sz:=de.sz,eJ:=e,rows:=nr,wr:=false}])else K (.c (.own s.A.length nr.length)) s.V (s.A++[{sz:=de.sz,eJ:=e,rows:=nr,wr:=true}])
  |_=>False
 |.call {callee:=.builtin .max,args,.. }=>bS args[0]? fun x=>bS args[1]? fun y=>args.size=2/\bS (bE s x) fun v=>bS (bE s y) fun u=>match v,u with
  |.c (.d (.int k a)),.c (.d (.int _ b))=>K (.c (.d (.int k (if b>a then b else a)))) s.V s.A
  |_,_=>False
 |.call {callee:=.builtin .min,args,.. }=>bS args[0]? fun x=>bS args[1]? fun y=>args.size=2/\bS (bE s x) fun v=>bS (bE s y) fun u=>match v,u with
  |.c (.d (.int k a)),.c (.d (.int _ b))=>K (.c (.d (.int k (if b<a then b else a)))) s.V s.A
  |_,_=>False
 |_=>False
theorem cv {α:Type} {o:Option α} {k:α->Prop} (h:bS o k):∃v,o=some v/\k v:=by
 cases o with
 |none=>exact h.elim
 |some v=>exact⟨v,rfl,h⟩
theorem lj {P:Program} {t:TypeId} {d:TD} (h:td P t=some d):∃de i,P.underlying t=some de/\P.info? t=some i/\d={ag:=Ej de,sz:=i.size,lG:=i.bytes,zero:=Pr i.zero,el:=Qf de,ar:=Qg de,fl:=MG P de,ik:=Qh de,cL:=Le de,nj:=Lf de}:=by
 unfold td at h;cases hu:P.underlying t with
 |none=>simp[hu]at h
 |some de=>
  cases hi:P.info? t with
  |none=>simp[hu,hi]at h
  |some i=>simp only[hu,hi]at h;exact⟨de,i,rfl,rfl,(Option.some.inj h).symm⟩
theorem mG {P:Program} {t e:TypeId} {d:TD} (h:td P t=some d) (he:d.el=some e):P.underlying t=some (.slice e):=by
 obtain⟨de,i,hu,_,rfl⟩:=lj h;cases de<;>simp[Qf]at he
 subst he;exact hu
theorem KB {P:Program} {t e:TypeId} {n:Nat} {d:TD} (h:td P t=some d) (he:d.ar=some (n,e)):P.underlying t=some (.array n e):=by
 obtain⟨de,i,hu,_,rfl⟩:=lj h;cases de<;>simp[Qg]at he
 obtain⟨rfl,rfl⟩:=he;exact hu
theorem fZ {P:Program} {t:TypeId} {d:TD} (h:td P t=some d):∃i,P.info? t=some i/\i.size=d.sz/\i.bytes=d.lG/\∀z,d.zero=some z->∃v,i.zero=some v/\uL v.cells.toList=some z:=by
 obtain⟨de,i,_,hi,rfl⟩:=lj h;refine⟨i,hi,rfl,rfl,fun z hz=>?_⟩;cases MH:i.zero with
 |none=>simp[Pr,MH]at hz
 |some v=>exact⟨v,rfl,by simpa[Pr,MH]using hz⟩
theorem qV {P:Program} {t:TypeId} {d:TD} (h:td P t=some d) (he:d.cL=true):P.underlying t=some .string:=by
 obtain⟨de,i,hu,_,rfl⟩:=lj h;cases de<;>simp[Le]at he
 exact hu
theorem Lg {P:Program} {t:TypeId} {d:TD} (h:td P t=some d) (he:d.nj=true):P.underlying t=some .bool:=by
 obtain⟨de,i,hu,_,rfl⟩:=lj h;cases de<;>simp[Lf]at he
 exact hu
theorem KC {P:Program} {t:TypeId} {d:TD} {k:IntKind} (h:td P t=some d) (he:d.ik=some k):P.underlying t=some (.int k):=by
 obtain⟨de,i,hu,_,rfl⟩:=lj h;cases de<;>simp[Qh]at he
 subst he;exact hu
theorem El (s:ByteArray):bs s.data.toList=s:=by simp[bs]
theorem tj (l:List UInt8):(bs l).toList=l:=by rw[ByteArray.toList_eq];simp[bs]
theorem p7 (l:List UInt8):(bs l).size=l.length:=by simp[bs,ByteArray.size]
section
variable {P:Program} {g g' g0:Gh} {w w' w0:World} {V V':List (List CV)} {A A':List bu} {s:St} {a:Act}
theorem ny {v:Value} {c:CV} (h:th v=some c):bm g w A c v:=by
 unfold th at h;split at h<;>first|(simp at h;done)|(simp at h;subst h;simp only[bm,bh])|skip
 rw[El]
theorem iF:∀{vs:List Value} {cs:List CV},uL vs=some cs->vs.length=cs.length
 |[],cs,h=>by simp[uL]at h;subst h;rfl
 |v::r,cs,h=>by
  simp only[uL]at h;split at h
  ·rename_i c cs' h1 h2;simp at h;subst h;simp[iF h2]
  ·simp at h
theorem o5:∀{vs:List Value} {cs:List CV},uL vs=some cs->∀(j:Nat) c u,cs[j]? =some c->vs[j]? =some u->th u=some c
 |[],cs,h,j,c,u,hc,hu=>by simp at hu
 |v::r,cs,h,j,c,u,hc,hu=>by
  simp only[uL]at h;split at h
  ·rename_i c' cs' h1 h2;simp at h;subst h;cases j with
   |zero=>simp at hc hu;subst hc;subst hu;exact h1
   |succ j=>simp at hc hu;exact o5 h2 j c u hc hu
  ·simp at h
theorem aJ (hS:∀t x,look s.fr t=some x->∃u,a.tmps[t]? =some u/\aV g w s.A x u) {o:Operand} {x:AV} (h:bE s o=some x):aV g w s.A x (a.eval o):=by
 cases o with
 |tmp t=>
  obtain⟨u,hu,hr⟩:=hS t x h;simpa[Act.eval,hu]using hr
 |const v=>
  simp only[bE,WL]at h;obtain⟨c,hc,rfl⟩:=h;exact ny (g:=g) (w:=w) (A:=s.A) hc
 |func f=>
  simp only[bE,Option.some.injEq]at h;subst h;exact⟨[],rfl,rfl,fun i l b h=>by simp at h⟩
 |«global»g=>simp[bE]at h
def dE (P:Program) (w0:World) (g0 g:Gh) (w:World) (A:List bu) (m:Sem Next) (K:AV->List (List CV)->List bu->Prop):Prop:=
 ∃x V' A' nx v w' g',K x V' A'/\m.run P w=.ok nx w'/\(nx=.value v\/(nx=.skip/\v=undef))/\aV g' w' A' x v/\Inv g' w' V' A'/\Ext g w A g' w' A'/\Fr w0 g0 w' g'
theorem dE.value (hI:Inv g w V A) (hF:Fr w0 g0 w g) {m:Sem Next} {K:AV->List (List CV)->List bu->Prop} {x:AV} {v:Value} (hm:m.run P w=.ok (.value v) w) (hr:aV g w A x v) (hK:K x V A):dE P w0 g0 g w A m K:=
 ⟨x,V,A,_,v,w,g,hK,hm,.inl rfl,hr,hI,.refl _ _ _,hF⟩
theorem nz (w:World) (b off n:Nat) (Q:Nat->Value->Prop) (h:∀j,j<n->∃u,w.cell? ⟨b,off+j,none⟩=some u/\Q j u):
  ∃vs:List Value,vs.length=n/\∀(j:Nat) u,vs[j]? =some u->w.cell? ⟨b,off+j,none⟩=some u/\Q j u:=by
 refine⟨(List.range n).map fun j=>(w.cell? ⟨b,off+j,none⟩).getD undef,by simp,fun j u hu=>?_⟩;have hj:j<n:=by
  have:=(Wc.1 hu).1;simpa using this
 simp[hj]at hu;obtain⟨u',h1,h2⟩:=h j hj;rw[h1]at hu;simp at hu;subst hu;exact⟨h1,h2⟩
def jZ (g:Gh) (w:World) (A:List bu) (cs:List CV) (vs:List Value):Prop:=vs.length=cs.length/\∀(j:Nat) c u,cs[j]? =some c->vs[j]? =some u->bm g w A c u
theorem qG (hI:Inv g w s.V s.A) {p:CV} {v:Value} {n:Nat} {cs:List CV} (hp:bm g w s.A p v) (h:gB s p n=some cs):
  ∃b off vs,v=.pointer (some ⟨b,off,none⟩)/\cs.length=n/\jZ g w s.A cs vs/\∀(j:Nat) u,vs[j]? =some u->w.cell? ⟨b,off+j,none⟩=some u:=by
 unfold gB at h;split at h
 ·-- an object
  rename_i l off;split at h
  ·rename_i row dK;split at h
   ·rename_i hle;simp at h;subst h;obtain⟨b,hb,rfl⟩:=hp;obtain⟨_,cells,ty,hh,hs,hr⟩:=hI.obj l row b dK hb;obtain⟨vs,hl,hv⟩:=nz w b off n (fun j u=>∀c,row[off+j]? =some c->bm g w s.A c u) (fun j hj=>by
     have Hb:off+j<cells.size:=by omega
     refine⟨cells[off+j],by simp[World.cell?,hh,Hb],fun c hc=>hr (off+j) c _ hc (by simp[Hb])⟩)
    refine⟨b,off,vs,rfl,by simp;omega,⟨by simp;omega,fun j c u h1 h2=>(hv j u h2).2 c ?_⟩,fun j u hu=>(hv j u hu).1⟩;rw[Wi]at h1;split at h1
    ·rwa[Wp]at h1
    ·cases h1
   ·simp at h
  ·simp at h
 ·rename_i row off;split at h
  ·rename_i hle;simp at h;subst h;obtain⟨b,o,rfl,hi,hr⟩:=hp;obtain⟨vs,hl,hv⟩:=nz w b (o+off) n (fun j u=>∀x,row[off+j]? =some x->bh g.im w x u) (fun j hj=>by
    have hx:row[off+j]? =some row[off+j]:=Wd (by omega);obtain⟨u,h1,h2⟩:=dm.at_ hr hx;refine⟨u,by rw[VY];exact h1,fun x h3=>?_⟩;rw[hx]at h3;cases h3;exact h2)
   refine⟨b,o+off,vs,rfl,by simp;omega,⟨by simp;omega,fun j c u h1 h2=>?_⟩,fun j u hu=>(hv j u hu).1⟩;simp only[Wi]at h1;split at h1
   ·rw[Wp,WC,WL]at h1;obtain⟨x,h3,rfl⟩:=h1;exact(hv j u h2).2 x h3
   ·cases h1
  ·simp at h
 ·rename_i k m i off;split at h
  ·rename_i r hk;split at h
   ·rename_i hm;split at h
    ·rename_i row dK;split at h
     ·rename_i hle;simp at h;subst h;obtain⟨b,e,rfl,r',o4,hn,hq⟩:=hp;obtain rfl:r=r':=by rw[hk]at o4;exact Option.some.inj o4
      obtain⟨cap,CY,rfl⟩:=hq hm;obtain⟨h1,_,xs,dS,hr⟩:=hI.arr k r _ hk CY;have ni:row.length=r.sz:=h1 row (Wh dK);obtain⟨vs,hl,hv⟩:=nz w b (i*r.sz+off) n (fun j u=>∀x,row[off+j]? =some x->bh g.im w x u) (fun j hj=>by
       have hx:row[off+j]? =some row[off+j]:=Wd (by omega);have hf:=lh h1 dK hx;have az:i*r.sz+(off+j)<xs.length:=by
        have:=(Wc.1 hf).1;rw[eC h1]at this;rw[dS.1];exact this
       have hu:xs[i*r.sz+(off+j)]? =some xs[i*r.sz+(off+j)]:=Wd az;have hc:=dS.cells (g:=b) rfl _ _ hu;have qU:(⟨b,0,none⟩:Addr).add (i*r.sz+(off+j))=⟨b,i*r.sz+off+j,none⟩:=by unfold Addr.add;split<;>simp_all[VY]
       rw[qU]at hc;refine⟨_,hc,fun x h3=>?_⟩;rw[hx]at h3;cases h3;exact hr _ _ _ hf hu)
      refine⟨b,i*r.sz+off,vs,rfl,by simp;omega,⟨by simp;omega,fun j c u h1 h2=>?_⟩,fun j u hu=>(hv j u hu).1⟩;simp only[Wi]at h1;split at h1
      ·rw[Wp,WC,WL]at h1;obtain⟨x,h3,rfl⟩:=h1;exact(hv j u h2).2 x h3
      ·cases h1
     ·simp at h
    ·simp at h
   ·simp at h
  ·simp at h
 ·simp at h
theorem mH (b off j:Nat):(⟨b,off,none⟩:Addr).add j=⟨b,off+j,none⟩:=by unfold Addr.add;split<;>simp_all
theorem mj {t:TypeId} {d:TD} (ht:td P t=some d) {b off:Nat} {vs:List Value} (hv:∀(j:Nat) u,vs[j]? =some u->w.cell? ⟨b,off+j,none⟩=some u) (hl:vs.length=d.sz):
  (d.ag=true->(Instr.loadAt t (.pointer (some ⟨b,off,none⟩))).run P w=.ok (.agg vs.toArray) w)/\
  (d.ag=false->∀u,vs=[u]->(Instr.loadAt t (.pointer (some ⟨b,off,none⟩))).run P w=.ok u w):=by
 obtain⟨de,i,hu,hi,rfl⟩:=lj ht;have Sm:=run_loadCells_list (P:=P) w ⟨b,off,none⟩ vs (fun j u h=>by rw[mH];exact hv j u h);simp only at hl⊢;rw[hl]at Sm;have Jl:(isAgg t).run P w=.ok (Ej de) w:=by
  simp only[isAgg,Sem.run_bind,run_underlying hu,Result.andThen_ok];cases de<;>rfl
 have eM:(sizeOf t).run P w=.ok i.size w:=by simp[sizeOf,typeInfo,hi]
 constructor
 ·intro ha;show(loadVar t ⟨b,off,none⟩).run P w=_;unfold loadVar;rw[Sem.run_bind,Jl,ha];simp only[Result.andThen_ok,if_true,Sem.run_bind,eM,Sm,Sem.run_pure]
 ·intro ha u TH;have hc:=hv 0 u (by rw[TH];rfl);simp only[Wa]at hc;show(loadVar t ⟨b,off,none⟩).run P w=_;unfold loadVar;rw[Sem.run_bind,Jl,ha];simp only[Result.andThen_ok,WK,if_false,run_load,hc]
theorem AV.gn {x:AV} {v:Value} (h:aV g w A x v) (hp:x.plain=true):jZ g w A x.cells v.cells.toList/\∀u∈v.cells.toList,u.oneCell'=true:=by
 cases x with
 |bq xs=>simp[AV.plain]at hp
 |c x=>
  simp[AV.plain]at hp;have hc:bm g w A x v:=h;have h1:=bm.lQ hp hc;have yg:v.cells= #[v]:=by cases v<;>first|rfl|simp[Value.oneCell']at h1
  rw[yg];refine⟨⟨rfl,fun j c u h2 h3=>?_⟩,fun u hu=>?_⟩
  ·cases j with
   |zero=>simp[AV.cells]at h2 h3;subst h2;subst h3;exact hc
   |succ j=>simp at h3
  ·simp at hu;subst hu;exact h1
 |agg xs=>
  simp only[AV.plain,WE,Bool.not_eq_true']at hp;obtain⟨vs,rfl,hl,hc⟩:=h;refine⟨⟨by simpa[Value.cells,AV.cells]using hl,fun j c u h2 h3=>hc j c u h2 (by simpa[Value.cells]using h3)⟩,fun u hu=>?_⟩;simp[Value.cells]at hu;obtain⟨j,hj⟩:=Wo hu;have iZ:=(Wc.1 hj).1;have hx:xs[j]? =some (xs[j]'(by omega)):=Wd (by omega);exact bm.lQ (hp _ (Wh hx)) (hc j _ u hx hj)
theorem tn (A:List bu) (c' c:CV):nw (fB A c') c=nw A c:=by
 cases c'<;>try rfl
 rename_i k' n';simp only[fB];cases hk:A[k']? with
 |none=>rfl
 |some r=>
  cases c<;>try rfl
  rename_i k n;simp only[nw,dk hk];by_cases e:k=k'
  ·subst e;simp[hk]
  ·simp[e]
theorem wx (A:List bu) (c':CV):∀cs,iy (fB A c') cs=iy A cs
 |[]=>rfl
 |c::r=>by simp only[iy,tn,wx A c' r]
theorem rT:∀{cs:List CV} {ds:List DV},iy A cs=some ds->ds.length=cs.length
 |[],ds,h=>by simp[iy]at h;subst h;rfl
 |c::r,ds,h=>by
  simp only[iy]at h;split at h
  ·rename_i d ds' h1 h2;simp at h;subst h;simp[rT h2]
  ·simp at h
theorem rU (hI:Inv g w V A) (hF:Fr w0 g0 w g) {c:CV} {u:Value} {d:DV} (hc:bm g w A c u) (hd:nw A c=some d):
  ∃g',Inv g' w V (fB A c)/\Ext g w A g' w (fB A c)/\Fr w0 g0 w g'/\g'.ar=g.ar/\g'.ob=g.ob/\bh g'.im w d u:=by
 cases c with
 |d x=>simp[nw]at hd;subst hd;exact⟨g,hI,.refl _ _ _,hF,rfl,rfl,hc⟩
 |nil=>
  simp[nw]at hd;subst hd;simp only[bm]at hc;subst hc;exact⟨g,hI,.refl _ _ _,hF,rfl,rfl,by simp only[bh];exact⟨none,0,rfl,VV _,.inl trivial⟩⟩
 |own k n=>
  obtain⟨ad,cap,e,r,hk,hn,hv⟩:=hc;simp only[nw,hk]at hd;split at hd
  ·rename_i dc;simp at hd;subst hd;obtain⟨g',h1,h2,h3,h4,h5,h6⟩:=hI.seal hF hk (hv dc);refine⟨g',?_,?_,h3,h4,h5,h6⟩
   ·simpa only[fB,hk]using h1
   ·simpa only[fB,hk]using h2
  ·simp at hd
 |_=>simp[nw]at hd
theorem tq:∀{cs:List CV} {vs:List Value} {ds:List DV} {g:Gh} {A:List bu},Inv g w V A->Fr w0 g0 w g->jZ g w A cs vs->iy A cs=some ds->
  ∃g',Inv g' w V (bT A cs)/\Ext g w A g' w (bT A cs)/\Fr w0 g0 w g'/\g'.ar=g.ar/\g'.ob=g.ob/\∀(j:Nat) x u,ds[j]? =some x->vs[j]? =some u->bh g'.im w x u
 |[],vs,ds,g,A,hI,hF,hr,hd=>by
  simp[iy]at hd;subst hd;exact⟨g,hI,.refl _ _ _,hF,rfl,rfl,fun j x u h=>by simp at h⟩
 |c::r,vs,ds,g,A,hI,hF,hr,hd=>by
  cases vs with
  |nil=>exact absurd hr.1 (by simp)
  |cons v vs=>
   simp only[iy]at hd;split at hd
   ·rename_i d ds' h1 h2;simp at hd;subst hd;obtain⟨g1,eZ,dn,km,tt,pZ,hP⟩:=rU hI hF (hr.2 0 c v rfl rfl) h1;have AT:jZ g1 w (fB A c) r vs:=⟨by simpa using hr.1,fun j c' u h3 h4=>bm.ext dn (hr.2 (j+1) c' u (by simpa using h3) (by simpa using h4))⟩;obtain⟨g2,A5,ji,CI,MI,mC,jm⟩:=tq eZ km AT (by rw[wx];exact h2);refine⟨g2,A5,dn.trans ji,CI,MI.trans tt,mC.trans pZ,fun j x u h3 h4=>?_⟩;cases j with
    |zero=>simp at h3 h4;subst h3;subst h4;exact bh.fA ji.gr _ _ hP
    |succ j=>simp at h3 h4;exact jm j x u h3 h4
   ·simp at hd
theorem uM:∀{rows:List (List CV)} {ds:List (List DV)},kB A rows=some ds->iy A rows.flatten=some ds.flatten/\ds.length=rows.length/\∀(i:Nat) r d,rows[i]? =some r->ds[i]? =some d->d.length=r.length
 |[],ds,h=>by simp[kB]at h;subst h;exact⟨rfl,rfl,fun i r d h=>by simp at h⟩
 |c::r,ds,h=>by
  simp only[kB]at h;split at h
  ·rename_i d ds' h1 h2;simp at h;subst h;obtain⟨h3,h4,h5⟩:=uM h2;refine⟨?_,by simp[h4],fun i r' d' h6 h7=>?_⟩
   ·simp only[Wg];have:∀(xs ys:List CV) (dx dy:List DV),iy A xs=some dx->iy A ys=some dy->iy A (xs++ys)=some (dx++dy):=by
     intro xs;induction xs with
     |nil=>intro ys dx dy hx hy;simp[iy]at hx;subst hx;simpa using hy
     |cons x xs ih=>
      intro ys dx dy hx hy;simp only[iy]at hx;split at hx
      ·rename_i d1 d2 h8 h9;simp at hx;subst hx;simp only[List.cons_append,iy,h8,ih ys d2 dy h9 hy]
      ·simp at hx
    exact this _ _ _ _ h1 h3
   ·cases i with
    |zero=>simp at h6 h7;subst h6;subst h7;exact rT h1
    |succ i=>simp at h6 h7;exact h5 i r' d' h6 h7
  ·simp at h
end
section
variable {P:Program} {g g' g0:Gh} {w w' w0:World} {V V':List (List CV)} {A A':List bu} {s:St} {a:Act} {K:AV->List (List CV)->List bu->Prop}
abbrev ia (g:Gh) (w:World) (s:St) (a:Act):Prop:=∀t x,look s.fr t=some x->∃u,a.tmps[t]? =some u/\aV g w s.A x u
theorem bp {m:Sem Value} {w w':World} {v:Value} (h:m.run P w=.ok v w'):(do pure (Next.value (<-m)):Sem Next).run P w=.ok (.value v) w':=by
 rw[Sem.run_bind,h];rfl
theorem wy {m:Sem Unit} {w w':World} (h:m.run P w=.ok () w'):(do m;pure Next.skip:Sem Next).run P w=.ok .skip w':=by
 rw[Sem.run_bind,h];rfl
theorem jn (w:World) (e:TypeId) (cs:Array Value):(newRow e cs).run P w=.ok ⟨w.heap.size,0,none⟩ (w.alloc (.cells cs e)):=by
 simp[newRow]
theorem A6 (hI:Inv g w s.V s.A) (hF:Fr w0 g0 w g) {m:Sem Next} {cs:Array Value} {e:TypeId} {row:List CV} (hr:jZ g w s.A row cs.toList)
  (hm:m.run P w=.ok (.value (.pointer (some ⟨w.heap.size,0,none⟩))) (w.alloc (.cells cs e))) (hK:K (.c (.ptr s.V.length 0)) (s.V++[row]) s.A):dE P w0 g0 g w s.A m K:=by
 obtain⟨g',h1,h2,h3,h4⟩:=hI.newObj hF cs e row (by simpa using hr.1) (fun j c u hc hu=>hr.2 j c u hc (by simpa using hu));exact⟨_,_,_,_,_,_,g',hK,hm,.inl rfl,⟨w.heap.size,h4,rfl⟩,h1,h2,h3⟩
theorem A7 (hI:Inv g w s.V s.A) (hF:Fr w0 g0 w g) {e:TypeId} {d:TD} {z:List CV} (ht:td P e=some d) (hz:d.zero=some z) (hK:K (.c (.ptr s.V.length 0)) (s.V++[z]) s.A):
  dE P w0 g0 g w s.A (do pure (.value (<-Instr.alloc e true (.tuple #[])))) K:=by
 obtain⟨i,hi,_,_,h0⟩:=fZ ht;obtain⟨v,hv,hc⟩:=h0 z hz;refine A6 hI hF (cs:=v.cells) (e:=e) ⟨iF hc,fun j c u h1 h2=>ny (o5 hc j c u h1 h2)⟩ (bp ?_) hK;simp[Instr.alloc,zeroValue,typeInfo,hi,hv,newVar,jn]
theorem Fm (hI:Inv g w s.V s.A) (hF:Fr w0 g0 w g) {e:TypeId} {x:AV} {u:Value} (hx:aV g w s.A x u) (hp:x.plain=true) (hK:K (.c (.ptr s.V.length 0)) (s.V++[x.cells]) s.A):
  dE P w0 g0 g w s.A (do pure (.value (<-Instr.box e u))) K:=by
 refine A6 hI hF (cs:=u.cells) (e:=e) (AV.gn hx hp).1 (bp ?_) hK;simp[Instr.box,newVar,jn]
theorem CZ (hI:Inv g w s.V s.A) (hF:Fr w0 g0 w g) {t:TypeId} {d:TD} (ht:td P t=some d) {p:CV} {v:Value} (hp:bm g w s.A p v) {cs:List CV} (yg:gB s p d.sz=some cs) {x:AV} (hx:Fl d.ag cs=some x) (hK:K x s.V s.A):
  dE P w0 g0 g w s.A (do pure (.value (<-Instr.loadAt t v))) K:=by
 obtain⟨b,off,vs,rfl,hl,hr,hc⟩:=qG hI hp yg;obtain⟨h1,h2⟩:=mj (P:=P) ht hc (hr.1.trans hl);cases Hc:d.ag with
 |true=>
  simp[Fl,Hc]at hx;subst hx;exact dE.value hI hF (bp (h1 Hc)) (x:=.agg cs) ⟨vs,rfl,hr.1,fun i c u h3 h4=>hr.2 i c u h3 h4⟩ hK
 |false=>
  simp only[Fl,Hc,WK,if_false]at hx;split at hx
  ·rename_i c;simp at hx;subst hx;obtain⟨u,rfl⟩:∃u,vs=[u]:=by
    have:=hr.1;simp at this;exact List.length_eq_one_iff.1 this
   exact dE.value hI hF (bp (h2 Hc u rfl)) (x:=.c c) (hr.2 0 c u rfl rfl) hK
  ·simp at hx
theorem lk {t:TypeId} {d:TD} (ht:td P t=some d) {b off:Nat} {v:Value} (hl:v.cells.size=d.sz) {cur:Array Value} {ty:TypeId} (hh:w.heap[b]? =some (.cells cur ty (0,0))) (yq:off+d.sz<=cur.size)
  (h1:∀u∈v.cells.toList,u.oneCell'=true):
  (Instr.storeAt t (.pointer (some ⟨b,off,none⟩)) v).run P w=.ok () (w.setRow b (b6 cur.toList off v.cells.toList).toArray):=by
 obtain⟨i,hi,eM,_,_⟩:=fZ ht;have hs:(sizeOf t).run P w=.ok i.size w:=by simp[sizeOf,typeInfo,hi]
 have kn:=run_storeCells_at P b off ty v.cells.toList 0 cur w hh (by simp;omega) h1;simp only[Wa]at kn;show(storeVar t ⟨b,off,none⟩ v).run P w=_;unfold storeVar;rw[Sem.run_bind,hs];simp only[Result.andThen_ok];rw[if_neg (by omega)];simpa[b6]using kn
theorem wz {cs:List CV} {vs:List Value} {row:List CV} {cur:List Value} {off:Nat} (hl:cur.length=row.length) (hr:∀(j:Nat) c u,row[j]? =some c->cur[j]? =some u->bm g w A c u) (h:jZ g w A cs vs) (yq:off+cs.length<=row.length):
  ∀(j:Nat) c u,(b6 row off cs)[j]? =some c->(b6 cur off vs)[j]? =some u->bm g w A c u:=by
 intro j c u hc hu;rw[fT (by omega)]at hc;rw[fT (by rw[h.1];omega),h.1]at hu;split at hc
 ·rename_i hj;rw[if_pos hj]at hu;exact h.2 _ c u hc hu
 ·rename_i hj;rw[if_neg hj]at hu;exact hr j c u hc hu
theorem vH (hI:Inv g w s.V s.A) (hF:Fr w0 g0 w g) {t:TypeId} {d:TD} (ht:td P t=some d) {l off:Nat} {p v:Value} (hp:bm g w s.A (.ptr l off) p) {x:AV} (hx:aV g w s.A x v) (lR:x.plain=true) (hlen:x.cells.length=d.sz)
  {row:List CV} (dK:s.V[l]? =some row) (yq:off+d.sz<=row.length) (hK:K (.c .undef) (s.V.set l (b6 row off x.cells)) s.A):
  dE P w0 g0 g w s.A (do Instr.storeAt t p v;pure .skip) K:=by
 obtain⟨b,hb,rfl⟩:=hp;obtain⟨yg,h1⟩:=AV.gn hx lR;obtain⟨_,cur,ty,hh,hs,hr⟩:=hI.obj l row b dK hb;have Fk:v.cells.size=d.sz:=by have:=yg.1;simp at this;omega
 have ff:=lk (P:=P) ht Fk hh (off:=off) (by omega) h1
 obtain⟨k1,k2,k3⟩:=hI.setObj hF dK hb (b6 cur.toList off v.cells.toList).toArray (row':=b6 row off x.cells)
  (by simp only[Wm];rw[fE (by simp;omega),fE (by omega)];simpa using hs)
  (fun j c u h3 h4=>wz (cur:=cur.toList) (by rw[WH];exact hs) (fun j c u h5 h6=>hr j c u h5 (by simpa using h6)) yg (by omega) j c u h3 (by simpa using h4))
 exact⟨_,_,_,_,undef,_,g,hK,wy ff,.inr ⟨rfl,rfl⟩,rfl,k1,k2,k3⟩
theorem C0 {cs:List CV} {k:Nat} (h:∀c∈cs,∀k' n,c=.own k' n->k'≠k):∀{A:List bu},(bT A cs)[k]? =A[k]? :=by
 induction cs with
 |nil=>intro A;rfl
 |cons c cs ih=>
  intro A;simp only[bT,Wx];have:=ih (fun c' CJ=>h c' (by simp[CJ])) (A:=fB A c);simp only[bT]at this;rw[this];cases c<;>try rfl
  rename_i k' n;have dc:=h (.own k' n) (by simp) k' n rfl;simp only[fB];cases hk:A[k']? with
  |none=>rfl
  |some r=>rw[Ws dc]
theorem vI (hI:Inv g w s.V s.A) (hF:Fr w0 g0 w g) {t:TypeId} {d:TD} (ht:td P t=some d) {k n i off:Nat} {p v:Value} (hp:bm g w s.A (.op k n i off) p) {x:AV} (hx:aV g w s.A x v) (lR:x.plain=true) (hlen:x.cells.length=d.sz)
  {r:bu} (hk:s.A[k]? =some r) (hn:n=r.rows.length) (hw:r.wr=true) {row:List DV} (dK:r.rows[i]? =some row) {ds:List DV} (vZ:iy s.A x.cells=some ds) (yq:off+d.sz<=r.sz)
  (df:(x.cells.all fun c=>match c with|.own k' _=>k'≠k|_=>true)=true)
  (hK:K (.c .undef) s.V ((bT s.A x.cells).set k {r with rows:=r.rows.set i (b6 row off ds)})):
  dE P w0 g0 g w s.A (do Instr.storeAt t p v;pure .skip) K:=by
 obtain⟨yg,h1⟩:=AV.gn hx lR;obtain⟨g1,eZ,dn,km,tt,pZ,hP⟩:=tq hI hF yg vZ;obtain⟨b,e,rfl,r',o4,MF,hq⟩:=hp;obtain rfl:r=r':=by rw[hk]at o4;exact Option.some.inj o4
 obtain⟨cap,CY,rfl⟩:=hq hn;have oD:(bT s.A x.cells)[k]? =some r:=by
  rw[C0 fun c hc k' n' e=>?_]
  ·exact hk
  ·subst e;have:=WE.1 df _ hc;simpa using this
 have No:=rT vZ;have Fk:v.cells.size=d.sz:=by have:=yg.1;simp at this;omega
 obtain⟨cur,ty,cap',kC,hh,Fj,Vw,A5,ji,CI⟩:=eZ.G8 km oD (by rw[tt];exact CY) hw dK (ds:=ds) (off:=off) (by omega) (b:=b) rfl v.cells.toList (by simp;omega) hP;have ff:=lk (P:=P) ht Fk hh (off:=i*r.sz+off) (by simp at Fj;omega) h1;exact⟨_,_,_,_,undef,_,g1,hK,wy ff,.inr ⟨rfl,rfl⟩,rfl,A5,dn.trans ji,CI⟩
theorem zX {op:BinOp} {t:TypeId} {ox oy:Operand} {x y r:AV} {u v:Value} (hx:aV g w A x u) (hy:aV g w A y v) (h:zU op x y=some r):
  ∃z,(do eqGuard op t ox oy u v;binOp op t u v:Sem Value).run P w=.ok z w/\aV g w A r z:=by
 unfold zU at h;split at h
 ·rename_i k a k' b;simp only[aV,dD,bm,bh]at hx hy;subst hx;subst hy;split at h
  ·rename_i hk;subst hk;have hg:∀op,(eqGuard op t ox oy (.int k a) (.int k b)).run P w=.ok () w:=by
    intro op;cases op<;>simp[eqGuard]
   rw[Sem.run_bind,hg];simp only[Result.andThen_ok];split at h<;>first|(simp at h;done)|skip
   all_goals(try(split at h<;>first|(simp at h;done)|skip))
   all_goals(simp only[Option.some.injEq]at h;subst h;refine⟨_,?_,rfl⟩)
   all_goals first
    |(simp[binOp,Op.intArith];done)
    |(simp[binOp,Op.intBits,A4];done)
    |(rename_i hb;simp[binOp,Op.shift,hb];done)
    |(rename_i hb;simp[binOp,Op.intDiv,hb];done)
    |(simp[binOp,Op.intCmp];done)
  ·simp at h
 ·rename_i a b;simp only[aV,dD,bm,bh]at hx hy;subst hx;subst hy;have hg:∀op,(eqGuard op t ox oy (.string (bs a)) (.string (bs b))).run P w=.ok () w:=by
   intro op;cases op<;>simp[eqGuard]
  rw[Sem.run_bind,hg];simp only[Result.andThen_ok];split at h<;>first|(simp at h;done)|skip
  ·split at h
   ·rename_i hle;simp only[Option.some.injEq]at h;subst h;refine⟨.string (bs (a++b)),?_,rfl⟩;have hn:¬(((bs a).size+(bs b).size:Nat):Int)>IntKind.i64.max:=by rw[p7,p7];simp[IntKind.max,IntKind.signed,IntKind.bits];omega
    have C1:bs a++bs b=bs (a++b):=by
     simp only[bs];apply ByteArray.ext;simp
    simp only[binOp,Op.stringOp,if_neg hn,C1,Sem.run_pure]
   ·simp at h
  all_goals(simp only[Option.some.injEq]at h;subst h;refine⟨_,?_,rfl⟩;simp[binOp,Op.stringOp,tj])
 ·simp at h
theorem yt {op:BinOp} {t:TypeId} {d:TD} {ox oy:Operand} {x y r:AV} {u v:Value} (ht:td P t=some d) (hd:d.nj=true) (hx:aV g w A x u) (hy:aV g w A y v) (h:rQ op x y=some r):
  ∃z,(do eqGuard op t ox oy u v;binOp op t u v:Sem Value).run P w=.ok z w/\aV g w A r z:=by
 have hb:=Lg ht hd;unfold rQ at h;split at h
 ·rename_i a b;simp only[aV,dD,bm,bh]at hx hy;subst hx;subst hy;split at h<;>first|(simp at h;done)|skip
  all_goals(simp only[Option.some.injEq]at h;subst h;refine⟨_,?_,rfl⟩;rw[Sem.run_bind])
  ·rw[show(eqGuard .eql t ox oy (.bool a) (.bool b)).run P w=.ok () w by simp[eqGuard]];simp only[Result.andThen_ok,run_eql_bool w t a b hb]
  ·rw[show(eqGuard .neq t ox oy (.bool a) (.bool b)).run P w=.ok () w by simp[eqGuard]];simp only[Result.andThen_ok,run_neq_bool w t a b hb]
 ·simp at h
theorem A8 {d:Nat} {xs ys:Array Value}:∀{fs:List Field} {i:Nat} {ks:List Nat} {cs ds:List CV} {r:Bool},Nn P i fs=some ks->Ek ks cs ds=some r->
  (∀(j:Nat) c,cs[j]? =some c->∃u,xs[i+j]? =some u/\bm g w A c u)->(∀(j:Nat) c,ds[j]? =some c->∃u,ys[i+j]? =some u/\bm g w A c u)->(Op.eqFields (d+1) xs ys fs).run P w=.ok r w
 |[],i,ks,cs,ds,r,h1,h2,_,_=>by
  simp[Nn]at h1;subst h1;cases cs<;>cases ds<;>simp[Ek]at h2
  subst h2;simp[Op.eqFields]
 |f::fs,i,ks,cs,ds,r,h1,h2,hx,hy=>by
  simp only[Nn]at h1;split at h1<;>first|(simp at h1;done)|skip
  rename_i dd hu;split at h1<;>first|(simp at h1;done)|skip
  rename_i k ks' hk ml;split at h1<;>first|(simp at h1;done)|skip
  rename_i hn;simp at h1;subst h1;have key:∀(c c':CV) cs' ds' (b r':Bool),cs=c::cs'->ds=c'::ds'->(∀u u',bm g w A c u->bm g w A c' u'->(part f.type xs f.offset).run P w=.ok u w->(part f.type ys f.offset).run P w=.ok u' w->(Op.equalIn (d+1) f.type u u').run P w=.ok b w)->P.plainKey f.type=true->Ek ks' cs' ds'=some r'->(b && r')=r->(Op.eqFields (d+1) xs ys (f::fs)).run P w=.ok r w:=by
   intro c c' cs' ds' b r' e1 e2 h3 hp h4 h5;subst e1;subst e2;obtain⟨u,IZ,CK⟩:=hx 0 c rfl;obtain⟨u',Qi,Qj⟩:=hy 0 c' rfl;have p1:=run_part_plain w hp (xs:=xs) (off:=f.offset) (v:=u) (by rw[hn.2];simpa using IZ);have p2:=run_part_plain w hp (xs:=ys) (off:=f.offset) (v:=u') (by rw[hn.2];simpa using Qi);have h6:=A8 (d:=d) (xs:=xs) (ys:=ys) ml h4 (fun j c hc=>by
    obtain⟨u,h7,h8⟩:=hx (j+1) c (by simpa using hc);exact⟨u,by rw[<-h7];congr 1;omega,h8⟩) (fun j c hc=>by
    obtain⟨u,h7,h8⟩:=hy (j+1) c (by simpa using hc);exact⟨u,by rw[<-h7];congr 1;omega,h8⟩)
   simp only[Op.eqFields,hn.1,ne_eq,not_false_eq_true,if_true,Sem.run_bind,p1,p2,h3 u u' CK Qj p1 p2,Result.andThen_ok];subst h5;cases b
   ·simp
   ·simpa using h6
  unfold Ek at h2;split at h2<;>first|(simp at h2;done)|skip
  ·rename_i heq;simp at heq
  ·rename_i q a cs' q' b ds' heq;simp only[List.cons.injEq]at heq;obtain⟨rfl,rfl⟩:=heq;split at h2<;>first|(simp at h2;done)|skip
   rename_i e;subst e;simp only[WL]at h2;obtain⟨r',h3,h4⟩:=h2;cases dd<;>simp[zV]at hk
   exact key _ _ _ _ (a==b) r' rfl rfl (fun u u' h5 h6 _ _=>by simp only[bm,bh]at h5 h6;subst h5;subst h6;exact run_equalIn_int w d _ _ _ _ _ hu) (by simp[Program.plainKey,hu]) h3 h4
  ·rename_i a cs' b ds' heq;simp only[List.cons.injEq]at heq;obtain⟨rfl,rfl⟩:=heq;simp only[WL]at h2;obtain⟨r',h3,h4⟩:=h2;cases dd<;>simp[zV]at hk
   exact key _ _ _ _ (a==b) r' rfl rfl (fun u u' h5 h6 _ _=>by simp only[bm,bh]at h5 h6;subst h5;subst h6;exact run_equalIn_bool' w d _ _ _ hu) (by simp[Program.plainKey,hu]) h3 h4
  ·rename_i a cs' b ds' heq;simp only[List.cons.injEq]at heq;obtain⟨rfl,rfl⟩:=heq;simp only[WL]at h2;obtain⟨r',h3,h4⟩:=h2;cases dd<;>simp[zV]at hk
   exact key _ _ _ _ (a==b) r' rfl rfl (fun u u' h5 h6 _ _=>by simp only[bm,bh]at h5 h6;subst h5;subst h6;rw[run_equalIn_string w d _ _ _ hu,tj,tj]) (by simp[Program.plainKey,hu]) h3 h4
theorem yu {op:BinOp} {t:TypeId} {ox oy:Operand} {x y r:AV} {u v:Value} (hx:aV g w A x u) (hy:aV g w A y v) (h:rR P op t x y=some r):
  ∃z,(do eqGuard op t ox oy u v;binOp op t u v:Sem Value).run P w=.ok z w/\aV g w A r z:=by
 unfold rR at h;split at h<;>first|(simp at h;done)|skip
 rename_i xs ys;split at h<;>first|(simp at h;done)|skip
 rename_i ks ml;split at h<;>first|(simp at h;done)|skip
 rename_i b hb;obtain⟨us,rfl,A9,MJ⟩:=hx;obtain⟨vs,rfl,Fk,Qk⟩:=hy;unfold sq at ml;split at ml<;>first|(simp at ml;done)|skip
 rename_i fs hu;split at ml<;>first|(simp at ml;done)|skip
 rename_i kn;have So:P.fieldsOf t=fs:=by simp[Program.fieldsOf,hu]
 have heq:(Op.equal t (.agg us.toArray) (.agg vs.toArray)).run P w=.ok b w:=by
  show(Op.equalIn (9999+1) t (.agg us.toArray) (.agg vs.toArray)).run P w=.ok b w;rw[run_equalIn_struct w 9999 t _ _ (by rw[So];exact hu) kn.1,So];refine A8 (d:=9998) (g:=g) (A:=A) ml hb (fun j c hc=>?_) (fun j c hc=>?_)
  ·have hj:j<us.length:=by have:=(Wc.1 hc).1;omega
   exact⟨us[j],by simp[hj],MJ j c _ hc (Wd hj)⟩
  ·have hj:j<vs.length:=by have:=(Wc.1 hc).1;omega
   exact⟨vs[j],by simp[hj],Qk j c _ hc (Wd hj)⟩
 have hg:∀op,(eqGuard op t ox oy (.agg us.toArray) (.agg vs.toArray)).run P w=.ok () w:=by
  intro op;cases op<;>simp[eqGuard,kn.2]
 rw[Sem.run_bind,hg];simp only[Result.andThen_ok];split at h<;>first|(simp at h;done)|skip
 all_goals(simp only[Option.some.injEq]at h;subst h;refine⟨_,?_,rfl⟩)
 ·simp[binOp,heq]
 ·simp[binOp,heq]
theorem Fo {op:UnOp} {x r:AV} {u:Value} (hx:aV g w A x u) (h:Jk op x=some r):∃z,(Op.unary op u).run P w=.ok z w/\aV g w A r z:=by
 unfold Jk at h;split at h<;>first|(simp at h;done)|skip
 all_goals(simp only[Option.some.injEq]at h;subst h;simp only[aV,dD,bm,bh]at hx;subst hx;refine⟨_,?_,rfl⟩)
 ·simp[Op.unary]
 ·simp[Op.unary,Op.intArith]
theorem rV:∀{rows:List (List DV)} {b:List UInt8},bytesOf rows=some b->rows.length=b.length/\∀(i:Nat) row,rows[i]? =some row->∃n:Int,row=[.int .u8 n]/\b[i]? =some (UInt8.ofNat n.toNat)
 |[],b,h=>by simp[bytesOf]at h;subst h;exact⟨rfl,fun i row h=>by simp at h⟩
 |r::rs,b,h=>by
  simp only[bytesOf]at h;split at h
  ·rename_i c l h1 h2;simp at h;subst h;obtain⟨h3,h4⟩:=rV h2;refine⟨by simp[h3],fun i row dK=>?_⟩;cases i with
   |zero=>
    simp at dK;subst dK;unfold ti at h1;split at h1
    ·rename_i n;split at h1
     ·simp at h1;subst h1;exact⟨n,rfl,rfl⟩
     ·simp at h1
    ·simp at h1
   |succ i=>simp at dK;simpa using h4 i row dK
  ·simp at h
theorem Bb {src dst e:TypeId} {ds dd de:TD} (hs:td P src=some ds) (hd:td P dst=some dd) (rI:dd.cL=true) (TI:ds.el=some e) (he:td P e=some de) (hk:de.ik=some .u8) {rows:List (List DV)} {v:Value} (hv:bh g.im w (.sl rows) v)
  {b:List UInt8} (hb:bytesOf rows=some b):(convert src dst v).run P w=.ok (.string (bs b)) w:=by
 have h1:=mG hs TI;have h2:=KC he hk;have h3:=qV hd rI;obtain⟨hl,wA⟩:=rV hb;simp only[bh]at hv;obtain⟨ad,cap,rfl,_,hr⟩:=hv;rcases hr with rfl|⟨bl,off,sz,rfl,_,yo⟩
 ·have KD:b=[]:=Wj (by simpa using hl.symm);subst KD;cases ad with
  |none=>exact run_convert_bytes_nil (P:=P) w src e h1 h2 0 cap dst h3
  |some ad=>
   refine(run_convert_bytes_string w src dst e _ 0 cap h1 h2 h3).trans ?_;simp[Conv.bytesToString,loadCells,loadCellsFrom]
   rfl
 ·have eM:∀i,i<rows.length->∃n:Int,rows[i]? =some [.int .u8 n]/\b[i]? =some (UInt8.ofNat n.toNat):=fun i hi=>by
   obtain⟨n,h4,h5⟩:=wA i _ (Wd hi);exact⟨n,by rw[Wd hi,h4],h5⟩
  let xs:List Int:=rows.map fun r=>match r with|[.int .u8 n]=>n|_=>0
  have hx:strOfNums xs=bs b:=by
   simp only[strOfNums,bs]
   congr 2
   apply Wt;intro i;by_cases hi:i<rows.length
   ·obtain⟨n,h4,h5⟩:=eM i hi;simp[xs,h4,h5]
   ·simp[xs,WD (show rows.length<=i by omega),WD (show b.length<=i by omega)]
  rw[<-hx];refine run_convert_bytes_arg w src e h1 h2 bl off rows.length cap xs (by simp[xs]) (fun i hi=>?_) dst h3;obtain⟨n,h4,_⟩:=eM i hi;obtain⟨h6,h7⟩:=cj.at_ yo h4;have Lh:sz=1:=by simpa using h6.symm
  subst Lh;simp only[dm,and_true]at h7;obtain⟨u,h8,h9⟩:=h7;simp only[bh]at h9;subst h9;simpa[xs,h4]using h8
end
section
variable {P:Program} {g g' g0:Gh} {w w' w0:World} {V V':List (List CV)} {A A':List bu} {s:St} {a:Act} {K:AV->List (List CV)->List bu->Prop}
theorem uN:∀(l:List Value) (k off:Nat) (arr:Array Value),off+k+l.length<=arr.size->(l.zipIdx k).foldl (fun cs (c:Value×Nat)=>cs.setIfInBounds (off+c.2) c.1) arr=(b6 arr.toList (off+k) l).toArray
 |[],k,off,arr,_=>by simp[b6]
 |v::rest,k,off,arr,h=>by
  simp only[Wv,Wx];rw[uN rest (k+1) off _ (by simp at h⊢;omega)];have e:=list_seg_step arr.toList (off+k) v rest (by simp at h⊢;omega);simp only[b6,Array.toList_setIfInBounds,Wr]
  congr 1
theorem y0 (place:Nat->Option (Nat×Nat)) (cells:Array Value) (i:Nat) (v:Value) (rest:List (Nat×Value)) {off size:Nat} (hp:place i=some (off,size)) (hs:v.cells.size=size) (hf:off+size<=cells.size):
  Instr.fill place cells ((i,v)::rest)=Instr.fill place (b6 cells.toList off v.cells.toList).toArray rest:=by
 simp only[Instr.fill,hp];rw[if_neg (by simp;omega)]
 congr 1
 have h:=uN v.cells.toList 0 off cells (by simp;omega);rw[<-Array.foldl_toList];simpa using h
theorem wB (hS:ia g w s a) {fl:List (Nat×Nat)}:∀{parts:List (Nat×Operand)} {ps:List (Nat×List CV)} {cs cs':List CV} {vs:List Value},iz s parts=some ps->oC fl cs ps=some cs'->jZ g w s.A cs vs->
  ∃vs',Instr.fill (fl[·]?) vs.toArray (parts.map fun(i,x)=>(i,a.eval x))=some vs'.toArray/\jZ g w s.A cs' vs'
 |[],ps,cs,cs',vs,hp,hf,hr=>by
  simp[iz]at hp;subst hp;simp[oC]at hf;subst hf;exact⟨vs,rfl,hr⟩
 |(i,o)::r,ps,cs,cs',vs,hp,hf,hr=>by
  have Vx:=hp;simp only[iz]at hp;split at hp
  ·rename_i v l h1 h2;split at hp
   ·rename_i lR;simp at hp;subst hp;simp only[oC]at hf;split at hf
    ·simp at hf
    ·rename_i off size yh;split at hf
     ·rename_i hc;obtain⟨uO,_⟩:=AV.gn (aJ hS h1) lR;have eM:(a.eval o).cells.size=size:=by have:=uO.1;simp at this;omega
      have Fk:=hr.1;simp only[Wk];rw[y0 _ _ _ _ _ yh eM (by simp;omega)];refine wB hS h2 hf ⟨?_,?_⟩
      ·rw[fE (by simp;omega),fE (by omega)];simpa using Fk
      ·exact wz (by simpa using Fk) (fun j c u h3 h4=>hr.2 j c u h3 (by simpa using h4)) uO (by omega)
     ·simp at hf
   ·simp at hp
  ·simp at hp
theorem y3:∀{fs:List Field} {l:List (Nat×Nat)},yr P fs=some l->fs.mapM (fun f=>(P.info? f.type).map fun i=>(f.offset,i.size))=some l
 |[],l,h=>by simp[yr]at h;subst h;rfl
 |f::r,l,h=>by
  simp only[yr]at h;split at h
  ·rename_i i l' h1 h2;simp at h;subst h;simp[List.mapM_cons,h1,y3 h2]
  ·simp at h
theorem Bc (hI:Inv g w s.V s.A) (hF:Fr w0 g0 w g) (hS:ia g w s a) {t:TypeId} {d:TD} (ht:td P t=some d) {z:List CV} (hz:d.zero=some z) (yh:d.fl≠[]) {parts:Array (Nat×Operand)} {ps:List (Nat×List CV)} (hp:iz s parts.toList=some ps)
  {cs:List CV} (hf:oC d.fl z ps=some cs) (hK:K (.agg cs) s.V s.A):dE P w0 g0 g w s.A (do pure (.value (<-Instr.build t (parts.map fun(i,x)=>(i,a.eval x))))) K:=by
 obtain⟨de,i,hu,hi,rfl⟩:=lj ht;obtain⟨i',Fh,_,_,h0⟩:=fZ ht;obtain rfl:i=i':=by rw[hi]at Fh;exact Option.some.inj Fh
 obtain⟨zv,Hd,GI⟩:=h0 z hz;cases de with
 |struct fs=>
  simp only[MG]at yh hf;cases Li:yr P fs.toList with
  |none=>simp[Li]at yh
  |some l=>
   simp only[Li,WN]at hf;obtain⟨vs',h1,h2⟩:=wB (g:=g) (w:=w) (s:=s) (a:=a) hS hp hf (vs:=zv.cells.toList) ⟨iF GI,fun j c u h3 h4=>ny (o5 GI j c u h3 h4)⟩;have hb:P.built t (parts.map fun(i,x)=>(i,a.eval x)).toList=some vs'.toArray:=by
    simp only[Program.built,hi,hu,Hd,y3 Li];simpa using h1
   exact dE.value hI hF (bp (run_build w t _ _ hb)) (x:=.agg cs) ⟨vs',rfl,h2.1,fun j c u h3 h4=>h2.2 j c u h3 h4⟩ hK
 |_=>simp[MG]at yh
theorem y4 (size:Nat):∀(vals:List Value) (k:Nat) (cells:Array Value),(∀v∈vals,v.cells.size=size)->(k+vals.length)*size<=cells.size->
  Instr.fill (fun i=>some (i*size,size)) cells (vals.zipIdx k|>.map fun(v,i)=>(i,v))=some (b6 cells.toList (k*size) (vals.flatMap fun v=>v.cells.toList)).toArray
 |[],k,cells,_,_=>by simp[Instr.fill,b6]
 |v::r,k,cells,hs,hl=>by
  have hv:v.cells.size=size:=hs v (by simp);have I0:k*size+size+r.length*size<=cells.size:=by simp[VW]at hl;omega
  simp only[Wv,Wk]
  rw[y0 _ cells k v _ rfl hv (by omega),y4 size r (k+1) _ (fun x hx=>hs x (by simp[hx]))
   (by simp only[Wm];rw[fE (by simp;omega)];simp[VW];omega)]
  have yh:(r.flatMap fun v=>v.cells.toList).length=r.length*size:=by
   have:∀(l:List Value),(∀v∈l,v.cells.size=size)->(l.flatMap fun v=>v.cells.toList).length=l.length*size:=by
    intro l;induction l with
    |nil=>simp
    |cons x l ih=>intro h;simp[ih (fun y hy=>h y (by simp[hy])),h x (by simp),VW];omega
   exact this r (fun x hx=>hs x (by simp[hx]))
  congr 2
  apply Wt;intro j;rw[fT (by simp only[];rw[fE (by simp;omega),yh];simp[VW];omega),fT (by simp;omega),fT (by simp[yh];omega),yh];simp only[Wy,Wl,yh,WH,hv,VW,V5];by_cases h1:k*size+size<=j/\j<k*size+size+r.length*size
  ·rw[if_pos h1,if_pos (by omega),Wf (by simp;omega)]
   congr 1;simp;omega
  ·rw[if_neg h1];by_cases h2:k*size<=j/\j<k*size+size
   ·rw[if_pos h2,if_pos (by omega),We (by simp;omega)]
   ·rw[if_neg h2,if_neg (by omega)]
theorem uP (hS:ia g w s a) {sz:Nat}:∀{parts:List (Nat×Operand)} {k:Nat} {rows:List (List CV)},jY s sz k parts=some rows->
  parts.map (fun(i,x)=>(i,a.eval x))=((parts.map fun(_,x)=>a.eval x).zipIdx k|>.map fun(v,i)=>(i,v))/\rows.length=parts.length/\(∀row∈rows,row.length=sz)/\
  (∀v∈parts.map (fun(_,x)=>a.eval x),v.cells.size=sz/\∀u∈v.cells.toList,u.oneCell'=true)/\jZ g w s.A rows.flatten ((parts.map fun(_,x)=>a.eval x).flatMap fun v=>v.cells.toList)
 |[],k,rows,h=>by simp[jY]at h;subst h;exact⟨rfl,rfl,by simp,by simp,rfl,fun j c u h=>by simp at h⟩
 |(i,o)::r,k,rows,h=>by
  simp only[jY]at h;split at h
  ·rename_i v l h1 h2;split at h
   ·rename_i hc;simp at h;subst h;obtain⟨rfl,hp,hl⟩:=hc;obtain⟨h3,h4,h5,h6,h7⟩:=uP hS h2;obtain⟨uO,Fp⟩:=AV.gn (aJ hS h1) hp;have eM:(a.eval o).cells.size=sz:=by have:=uO.1;simp at this;omega
    refine⟨by simp only[Wk,Wv,h3],by simp[h4],fun row dK=>?_,fun v' MK=>?_,?_,fun j c u h8 h9=>?_⟩
    ·simp at dK;rcases dK with rfl|dK
     ·exact hl
     ·exact h5 row dK
    ·simp only[Wk,List.mem_cons]at MK;rcases MK with rfl|MK
     ·exact⟨eM,Fp⟩
     ·exact h6 v' MK
    ·simp only[Wk,Wy,Wg,Wl,h7.1,uO.1]
    ·simp only[Wk,Wy,Wg]at h8 h9;by_cases hj:j<v.cells.length
     ·rw[We hj]at h8;rw[We (by rw[uO.1];exact hj)]at h9;exact uO.2 j c u h8 h9
     ·rw[Wf (by omega)]at h8;rw[Wf (by rw[uO.1];omega),uO.1]at h9;exact h7.2 _ c u h8 h9
   ·simp at h
  ·simp at h
theorem tv (hI:Inv g w s.V s.A) (hF:Fr w0 g0 w g) (hS:ia g w s a) {t e:TypeId} {d de:TD} (ht:td P t=some d) (tz:d.el=some e) (he:td P e=some de) {parts:Array (Nat×Operand)} {rows:List (List CV)} (hr:jY s de.sz 0 parts.toList=some rows)
  {ds:List (List DV)} (vZ:kB s.A rows=some ds) {len:Nat} (hlen:rows.length=len) (hle:len*de.sz<=16777216) (yv:0<de.sz) (hz:de.zero.isSome=true) {ow:Bool}
  (hK:if ow then K (.c (.own s.A.length len)) s.V (bT s.A rows.flatten++[{sz:=de.sz,eJ:=e,rows:=ds,wr:=true}])else K (.c (.d (.sl ds))) s.V (bT s.A rows.flatten)):
  dE P w0 g0 g w s.A (do pure (.value (<-Instr.buildSlice t len (parts.map fun(i,x)=>(i,a.eval x))))) K:=by
 obtain⟨i,hi,o6,_,h0⟩:=fZ he;obtain⟨z,hz⟩:=WM.1 hz;obtain⟨zv,Hd,GI⟩:=h0 z hz;have qH:=mG ht tz;obtain⟨h1,h2,h3,h4,h5⟩:=uP hS hr;have Ql:=uM vZ
 let vals:=parts.toList.map fun(_,x)=>a.eval x
 let cells:=vals.flatMap fun v=>v.cells.toList
 have Fk:vals.length=len:=by simp only[vals,List.length_map];omega
 have kJ:cells.length=len*de.sz:=by rw[show cells.length=rows.flatten.length from h5.1,eC h3,hlen]
 have vJ:∀u∈cells,u.oneCell'=true:=fun u hu=>by
  obtain⟨v,hv,KE⟩:=List.mem_flatMap.1 hu;exact(h4 v hv).2 u KE
 have KF:∀z:Array Value,z.size=len*de.sz->Instr.fill (fun i=>some (i*de.sz,de.sz)) z (parts.map fun(i,x)=>(i,a.eval x)).toList=some cells.toArray:=fun z rJ=>by
  have:=y4 de.sz vals 0 z (fun v hv=>(h4 v hv).1) (by rw[VZ,Fk];omega);rw[<-h1]at this;simp only[WI,this,Option.some.injEq,V6]
  congr 1
  show b6 z.toList 0 cells=cells;simp[b6,kJ,rJ]
 have ff:∀w:World,(Instr.buildSlice t len (parts.map fun(i,x)=>(i,a.eval x))).run P w=.ok (.slice (some ⟨w.heap.size,0,none⟩) len len) (w.alloc (.cells cells.toArray e)):=fun w=>by
  have eM:(sizeOf e).run P w=.ok de.sz w:=by simp[sizeOf,typeInfo,hi,o6]
  have TK:∀w:World,(zeroValue e).run P w=.ok zv w:=fun w=>by simp[zeroValue,typeInfo,hi,Hd]
  unfold Instr.buildSlice;simp only[Sem.run_bind,run_underlying qH,Result.andThen_ok,eM];rw[if_neg (by omega)];by_cases I1:len*de.sz=0
  ·have:=KF #[] (by simp[I1]);simp only[I1,if_true,Sem.run_pure,Sem.run_bind,Result.andThen_ok,Array.range_zero',Array.map_empty,this,jn]
  ·have:=KF ((Array.range (len*de.sz)).map (zv.cells[· % zv.cells.size]!)) (by simp);simp only[I1,if_false,Sem.run_pure,Sem.run_bind,Result.andThen_ok,TK,this,jn]
 obtain⟨g1,eZ,dn,km,tt,pZ,hP⟩:=tq hI hF h5 Ql.1;have ni:∀r∈ds,r.length=de.sz:=fun r hr=>by
  obtain⟨j,hj⟩:=Wo hr;have iZ:j<rows.length:=by have:=(Wc.1 hj).1;omega
  have dK:rows[j]? =some rows[j]:=Wd iZ;rw[Ql.2.2 j _ r dK hj];exact h3 _ (List.getElem_mem iZ)
 by_cases Sp:ow=true
 ·rw[if_pos Sp]at hK;obtain⟨g2,KG,A5,ji⟩:=eZ.dW (.cells cells.toArray e) 0;have CI:=km.dW (.cells cells.toArray e) 0;rw[<-KG]at CI;have Qm:len<=maxLen:=by
   have:len<=len*de.sz:=Nat.le_mul_of_pos_right _ yv;simp only[maxLen];omega
  have dS:=World.ownsRow_lit (base:=0) (e:=e) (size:=de.sz) w cells.toArray len (VX _) Qm (by simpa using kJ)
  obtain⟨g3,TL,TM,Qn,Qo,Qp,Qq⟩:=A5.qT CI {sz:=de.sz,eJ:=e,rows:=ds,wr:=true} (.slice (some ⟨w.heap.size,0,none⟩) len len) cells ni (by simp only[show ds.length=len by omega];simpa using dS)
   (fun j x u h6 h7=>bh.fA ji.gr x u (hP j x u h6 h7))
   (fun b hb=>by
    simp[Value.ownBlock]at hb;subst hb;subst KG;refine⟨by simp,hF.size,fun l hl=>?_,fun k v hv hb=>?_⟩
    ·have:=eZ.qR (g:=g1) hl;omega
    ·have:=eZ.mE (g:=g1) hv hb;omega)
  refine⟨_,_,_,_,_,_,g3,hK,bp (ff w),.inl rfl,?_,Qo,(dn.trans ji).trans Qp,Qq⟩;have Ps:(bT s.A rows.flatten).length=s.A.length:=by
   have:∀(cs:List CV) (A:List bu),(bT A cs).length=A.length:=by
    intro cs;induction cs with
    |nil=>intro A;rfl
    |cons c cs ih=>intro A;simp only[bT,Wx];have:=ih (fB A c);simp only[bT]at this;rw[this];cases c<;>try rfl
                   simp only[fB];split<;>simp
   exact this _ _
  refine⟨some ⟨w.heap.size,0,none⟩,len,rfl,{sz:=de.sz,eJ:=e,rows:=ds,wr:=true},?_,by simp only[];omega,fun _=>?_⟩
  ·rw[Wf (by rw[Ps];exact VV _),Ps];simp
  ·rw[Qn,Wf (by rw[A5.lF,Ps];exact VV _),A5.lF,Ps];simp
 ·rw[if_neg Sp]at hK;obtain⟨g2,KG,A5,ji⟩:=eZ.dW (.cells cells.toArray e) cells.length;have CI:=km.dW (.cells cells.toArray e) cells.length;rw[<-KG]at CI;refine⟨_,_,_,_,_,_,g2,hK,bp (ff w),.inl rfl,?_,A5,dn.trans ji,CI⟩;simp only[aV,dD,bm,bh];refine⟨some ⟨w.heap.size,0,none⟩,len,by rw[show ds.length=len by omega],by omega,.inr ⟨w.heap.size,0,de.sz,rfl,?_,?_⟩⟩
  ·have No:ds.length=len:=by omega
   subst KG;simp[No,kJ]
  ·refine cj.mk fun i r Sq=>⟨ni r (Wh Sq),dm.mk fun j x hx=>?_⟩
   have hf:=lh ni Sq hx;have az:i*de.sz+j<cells.length:=by
    have:=(Wc.1 hf).1;rw[eC ni]at this;rw[kJ,<-hlen,<-Ql.2.1];exact this
   have hu:cells[i*de.sz+j]? =some cells[i*de.sz+j]:=Wd az;refine⟨_,?_,bh.fA ji.gr _ _ (hP _ x _ hf hu)⟩;rw[cell_of_row _ w.heap.size _ cells.toArray e (0,0) (heap_alloc_new w _),VZ];simp[hu]
theorem He {im:Nat->Nat} {v:Value} {c:CV} {x:DV} (h:th v=some c) (hd:nw A c=some x):bh im w x v:=by
 unfold th at h;split at h<;>first|(simp at h;done)|skip
 all_goals(simp only[Option.some.injEq]at h;subst h;simp only[nw,Option.some.injEq]at hd)
 all_goals first
  |(subst hd;simp only[bh];done)
  |(subst hd;simp only[bh];rw[El])
  |(subst hd;simp only[bh];exact⟨none,0,rfl,VV _,.inl trivial⟩)
  |(cases hd)
theorem vK (hI:Inv g w s.V s.A) (hF:Fr w0 g0 w g) {t e:TypeId} {d de:TD} (ht:td P t=some d) (tz:d.el=some e) (he:td P e=some de) {z:List CV} (hz:de.zero=some z) {dz:List DV} (Sr:iy s.A z=some dz) {kl kc:IntKind} {n:Int} (h0:0<=n)
  (hb:n.toNat*de.lG<=140737488355328) (hm:n.toNat<=9223372036854775807) (yv:0<de.sz) (rJ:z.length=de.sz) (hK:K (.c (.own s.A.length n.toNat)) s.V (s.A++[{sz:=de.sz,eJ:=e,rows:=Wn n.toNat dz,wr:=true}])):
  dE P w0 g0 g w s.A (do pure (.value (<-Instr.makeSlice t (.int kl n) (.int kc n)))) K:=by
 obtain⟨i,hi,o6,C2,MH⟩:=fZ he;obtain⟨zv,Hd,GI⟩:=MH z hz;have qH:=mG ht tz;obtain⟨m,rfl⟩:=Int.eq_ofNat_of_zero_le h0;simp only[WO]at hb hm hK;have hmul:(i.bytes:Int)*(m:Int)<=281474976710656:=by
  have h:((i.bytes*m:Nat):Int)<=281474976710656:=by rw[C2,V7];omega
  rwa[Int.natCast_mul]at h
 have ff:=run_make (P:=P) w t e i zv qH hi Hd kl kc m m (by omega) (Int.le_refl _) hmul (by omega);simp only[WO,o6]at ff;have IX:zv.cells.size=de.sz:=by have:=iF GI;simp at this;omega
 have No:=rT Sr;obtain⟨g2,KG,A5,ji⟩:=hI.dW (.cells (madeCells zv.cells (m*de.sz)) e) 0;have CI:=hF.dW (.cells (madeCells zv.cells (m*de.sz)) e) 0;rw[<-KG]at CI;have dS:=World.ownsRow_lit (base:=0) (e:=e) (size:=de.sz) w (madeCells zv.cells (m*de.sz)) m (VX _) (by simp only[maxLen];omega) (size_madeCells _ _);have yh:∀(m j:Nat) (x:DV),(Wn m dz).flatten[j]? =some x->dz[j % de.sz]? =some x:=by
  intro m;induction m with
  |zero=>intro j x h;simp at h
  |succ m ih=>
   intro j x h;simp only[List.replicate_succ,Wg]at h;by_cases hj:j<dz.length
   ·rw[We hj]at h;rwa[Nat.mod_eq_of_lt (by omega)]
   ·rw[Wf (by omega)]at h;have:=ih _ _ h;rwa[show dz.length=de.sz by omega,<-Nat.mod_eq_sub_mod (by omega)]at this
 obtain⟨g3,TL,TM,Qn,Qo,Qp,Qq⟩:=A5.qT CI {sz:=de.sz,eJ:=e,rows:=Wn m dz,wr:=true} (.slice (some ⟨w.heap.size,0,none⟩) m m) (madeCells zv.cells (m*de.sz)).toList
  (fun r hr=>by simp at hr;rw[hr.2];show dz.length=de.sz;omega) (by simpa using dS)
  (fun j x u h6 h7=>by
   have h8:=yh m j x h6;have TN:j<m*de.sz:=by
    have:=(Wc.1 h7).1;simpa[size_madeCells]using this
   have h9:u=zv.cells[j % zv.cells.size]! :=by
    simp[madeCells,TN]at h7;exact h7.symm
   have az:j % de.sz<zv.cells.size:=by rw[IX];exact Nat.mod_lt _ yv
   have cE:zv.cells.toList[j % de.sz]? =some u:=by
    rw[h9,IX];simp[az]
   have Qr:j % de.sz<z.length:=by omega
   have Np:z[j % de.sz]? =some z[j % de.sz]:=Wd Qr;have ev:=o5 GI _ _ _ Np cE;have wA:∀{cs:List CV} {ds:List DV},iy s.A cs=some ds->∀(j:Nat) c x,cs[j]? =some c->ds[j]? =some x->nw s.A c=some x:=by
    intro cs;induction cs with
    |nil=>intro ds h j c x h1;simp at h1
    |cons c cs ih=>
     intro ds h j c' x h1 h2;simp only[iy]at h;split at h
     ·rename_i d1 d2 h3 h4;simp at h;subst h;cases j with
      |zero=>simp at h1 h2;subst h1;subst h2;exact h3
      |succ j=>simp at h1 h2;exact ih h4 j c' x h1 h2
     ·simp at h
   exact He ev (wA Sr _ _ _ Np h8))
  (fun b hb=>by
   simp[Value.ownBlock]at hb;subst hb;subst KG;refine⟨by simp,hF.size,fun l hl=>?_,fun k v hv hb=>?_⟩
   ·have:=hI.qR (g:=g) hl;omega
   ·have:=hI.mE (g:=g) hv hb;omega)
 refine⟨_,_,_,_,_,_,g3,hK,bp ff,.inl rfl,?_,Qo,ji.trans Qp,Qq⟩;refine⟨some ⟨w.heap.size,0,none⟩,m,rfl,{sz:=de.sz,eJ:=e,rows:=Wn m dz,wr:=true},?_,by simp,fun _=>?_⟩
 ·rw[Wf (VV _)];simp
 ·rw[Qn,Wf (by rw[A5.lF];exact VV _),A5.lF];simp
end
section
variable {P:Program} {g g' g0:Gh} {w w' w0:World} {V V':List (List CV)} {A A':List bu} {s:St} {a:Act} {K:AV->List (List CV)->List bu->Prop}
theorem Em:∀{fs:List Field} {l:List (Nat×Nat)},yr P fs=some l->∀{i off sz:Nat},l[i]? =some (off,sz)->∃f inf,fs[i]? =some f/\f.offset=off/\P.info? f.type=some inf/\inf.size=sz
 |[],l,h,i,off,sz,hi=>by simp[yr]at h;subst h;simp at hi
 |f::r,l,h,i,off,sz,hi=>by
  simp only[yr]at h;split at h
  ·rename_i inf l' h1 h2;simp at h;subst h;cases i with
   |zero=>simp at hi;exact⟨f,inf,rfl,hi.1,h1,hi.2⟩
   |succ i=>simp at hi;simpa using Em h2 hi
  ·simp at h
theorem o7 {t:TypeId} {d:TD} (ht:td P t=some d) {f off sz:Nat} (hf:d.fl[f]? =some (off,sz)) (eM:sz≠0) (b o:Nat):(Instr.fieldAt t (.pointer (some ⟨b,o,none⟩)) f).run P w=.ok (.pointer (some ⟨b,o+off,none⟩)) w:=by
 obtain⟨de,i,hu,hi,rfl⟩:=lj ht;cases de with
 |struct fs=>
  simp only[MG]at hf;cases Li:yr P fs.toList with
  |none=>simp[Li]at hf
  |some l=>
   simp only[Li,WN]at hf;obtain⟨fld,inf,h1,h2,h3,h4⟩:=Em Li hf;have lH:fs[f]? =some fld:=by simpa using h1
   subst h2;subst h4;simp[Instr.fieldAt,run_underlying hu,lH,Instr.sureAddr,fieldPlace,sizeOf,typeInfo,h3,eM,mH]
 |_=>simp[MG]at hf
theorem o8 {t e:TypeId} {d de:TD} (ht:td P t=some d) (tz:d.el=some e) (he:td P e=some de) {b off n cap:Nat} {k:IntKind} {i:Int} (h0:0<=i) (h1:i.toNat<n):
  (Instr.indexAt t (.slice (some ⟨b,off,none⟩) n cap) (.int k i)).run P w=.ok (.pointer (some ⟨b,off+i.toNat*de.sz,none⟩)) w:=by
 have hu:=mG ht tz;obtain⟨inf,hi,eM,_,_⟩:=fZ he;have hc:0<=i/\i<n:=by omega
 simp[Instr.indexAt,asIntOf,run_underlying hu,hc,sizeOf,typeInfo,hi,eM,mH]
theorem wC {t e:TypeId} {d de:TD} {len:Nat} (ht:td P t=some d) (tz:d.ar=some (len,e)) (he:td P e=some de) {b off:Nat} {k:IntKind} {i:Int} (h0:0<=i) (h1:i<len):
  (Instr.indexAt t (.pointer (some ⟨b,off,none⟩)) (.int k i)).run P w=.ok (.pointer (some ⟨b,off+i.toNat*de.sz,none⟩)) w:=by
 have hu:=KB ht tz;obtain⟨inf,hi,eM,_,_⟩:=fZ he;have hc:0<=i/\i<len:=by omega
 simp[Instr.indexAt,asIntOf,run_underlying hu,Instr.sureAddr,hc,sizeOf,typeInfo,hi,eM,mH]
theorem tA (hI:Inv g w V A) {v:AV} {u:Value} (hv:aV g w A v u) {nr:List (List DV)} (h:rowsOf A v=some nr) {sz:Nat} (hl:∀r∈nr,r.length=sz):
  ∃news:List Value,((nr.length=0/\news=[]/\∃a c,u=.slice a 0 c)\/∃a c,u=.slice (some a) nr.length c/\news.length=nr.length*sz/\∀(j:Nat) x,news[j]? =some x->w.cell? (a.add j)=some x)/\
   (∀u∈news,u.oneCell'=true)/\∀(j:Nat) x y,nr.flatten[j]? =some x->news[j]? =some y->bh g.im w x y:=by
 have key:∀(b off sz':Nat) (rows:List (List DV)),(∀r∈rows,r.length=sz)->cj g.im w b sz' off rows->rows≠[]->sz'=sz/\
   ∃news:List Value,news.length=rows.length*sz/\(∀(j:Nat) x,news[j]? =some x->w.cell? ⟨b,off+j,none⟩=some x)/\∀(j:Nat) x y,rows.flatten[j]? =some x->news[j]? =some y->bh g.im w x y:=by
  intro b off sz' rows hl yo dc;have eM:sz'=sz:=by
   cases rows with
   |nil=>exact absurd rfl dc
   |cons r rs=>simp only[cj]at yo;have:=hl r (by simp);omega
  subst eM;have Ss:=eC hl;obtain⟨vs,h1,h2⟩:=nz w b off (rows.length*sz') (fun j u=>∀x,rows.flatten[j]? =some x->bh g.im w x u) (fun j hj=>by
   have yv:0<sz':=by rcases Nat.eq_zero_or_pos sz' with h|h;·subst h;simp at hj
                     ·exact h
   have hdiv:j / sz'<rows.length:=Nat.div_lt_of_lt_mul (by rw[V7];exact hj);have dK:rows[j / sz']? =some rows[j / sz']:=Wd hdiv;obtain⟨h3,h4⟩:=cj.at_ yo dK;have TO:=Nat.mod_lt j yv;have hx:(rows[j / sz'])[j % sz']? =some (rows[j / sz'])[j % sz']:=Wd (by omega);obtain⟨u,h5,h6⟩:=dm.at_ h4 hx;have Hb:j / sz'*sz'+j % sz'=j:=by rw[V7];exact Nat.div_add_mod j sz'
   refine⟨u,by rw[<-Hb,<-VY];exact h5,fun x h7=>?_⟩;have h8:=lh hl dK hx;rw[Hb,h7]at h8;cases h8;exact h6)
  exact⟨rfl,vs,h1,fun j x hx=>(h2 j x hx).1,fun j x y hx hy=>(h2 j y hy).2 x hx⟩
 cases v with
 |agg xs=>simp[rowsOf]at h
 |bq xs=>simp[rowsOf]at h
 |c c=>
  cases c with
  |d x=>
   cases x with
   |sl rows=>
    simp[rowsOf]at h;subst h;simp only[aV,dD,bm,bh]at hv;obtain⟨ad,cap,rfl,_,hr⟩:=hv;rcases hr with rfl|⟨b,off,sz',rfl,_,yo⟩
    ·exact⟨[],.inl ⟨rfl,rfl,ad,cap,rfl⟩,by simp,fun j x y hx=>by simp at hx⟩
    ·by_cases dc:rows=[]
     ·subst dc;exact⟨[],.inl ⟨rfl,rfl,_,cap,rfl⟩,by simp,fun j x y hx=>by simp at hx⟩
     ·obtain⟨rfl,news,h1,h2,h3⟩:=key b off sz' rows hl yo dc;refine⟨news,.inr ⟨_,cap,rfl,h1,fun j x hx=>by rw[mH];exact h2 j x hx⟩,fun u hu=>?_,h3⟩;obtain⟨j,hj⟩:=Wo hu;have iZ:j<rows.flatten.length:=by rw[eC hl,<-h1];exact(Wc.1 hj).1
      exact bh.lQ (h3 j _ u (Wd iZ) hj)
   |_=>simp[rowsOf]at h
  |nil=>
   simp[rowsOf]at h;subst h;simp only[aV,dD,bm]at hv;subst hv;exact⟨[],.inl ⟨rfl,rfl,none,0,rfl⟩,by simp,fun j x y hx=>by simp at hx⟩
  |own k n=>
   obtain⟨ad,cap,rfl,r,hk,hn,hq⟩:=hv;simp only[rowsOf,hk]at h;split at h
   ·rename_i dc;simp at h;subst h;have CY:=hq dc;obtain⟨h1,_,xs,dS,hr⟩:=hI.arr k r _ hk CY;rcases dS.2 with⟨h2,h3⟩|⟨b,cap',cur,h2,_,hh,_,_,_,_⟩
    ·have h4:r.rows=[]:=Wj h3;refine⟨[],.inl ⟨h3,rfl,ad,cap,by rw[dc,h3]⟩,by simp,fun j x y hx=>by rw[h4]at hx;simp at hx⟩
    ·have hb:(Value.slice ad n cap).ownBlock=some b:=by rw[h2];rfl
     by_cases Jm:r.rows=[]
     ·refine⟨[],.inl ⟨by rw[Jm];rfl,rfl,ad,cap,by rw[dc,Jm];rfl⟩,by simp,fun j x y hx=>by rw[Jm]at hx;simp at hx⟩
     ·have eM:r.sz=sz:=by
       cases yo:r.rows with
       |nil=>exact absurd yo Jm
       |cons q qs=>have e1:=h1 q (by rw[yo];simp);have e2:=hl q (by rw[yo];simp);omega
      refine⟨xs,.inr ⟨⟨b,0,none⟩,cap',by rw[h2],by rw[dS.1,eM],dS.cells hb⟩,fun u hu=>?_,hr⟩;obtain⟨j,hj⟩:=Wo hu;have iZ:j<r.rows.flatten.length:=by rw[eC h1,<-dS.1];exact(Wc.1 hj).1
      exact bh.lQ (hr j _ u (Wd iZ) hj)
   ·simp at h
  |_=>simp[rowsOf]at h
theorem oE {t ty:TypeId} {v u:Value} {v':Value} {w':World} (h:(Builtin.append_ #[t,t] ty #[v,u]).run P w=.ok v' w'):(builtin .append #[t,t] ty #[] #[v,u]).run P w=.ok (.value v') w':=bp h
theorem jo (hI:Inv g w s.V s.A) (hF:Fr w0 g0 w g) {t e:TypeId} {d de:TD} (ht:td P t=some d) (tz:d.el=some e) (he:td P e=some de) {z:List CV} (hz:de.zero=some z) (rJ:z.length=de.sz) {k n:Nat} {v u:Value} (hv:bm g w s.A (.own k n) v)
  {y:AV} (hy:aV g w s.A y u) {nr:List (List DV)} (En:rowsOf s.A y=some nr) (hl:∀r∈nr,r.length=de.sz) {r:bu} (hk:s.A[k]? =some r) (hn:n=r.rows.length) (Qs:r.eJ=e) (Nq:r.sz=de.sz) (hb:(n+nr.length)*de.lG<=140737488355328) (hm:n+nr.length<=9223372036854775807) {ty:TypeId}
  (hK:K (.c (.own k (n+nr.length))) s.V (s.A.set k {r with rows:=r.rows++nr})):dE P w0 g0 g w s.A (do pure (.value (<-Builtin.append_ #[t,t] ty #[v,u]))) K:=by
 obtain⟨i,hi,o6,C2,h0⟩:=fZ he;obtain⟨zv,Hd,GI⟩:=h0 z hz;have IX:zv.cells.size=i.size:=by have:=iF GI;simp at this;omega
 obtain⟨ad,cap,TP,r',o4,_,hq⟩:=hv;obtain rfl:r=r':=by rw[hk]at o4;exact Option.some.inj o4
 have CY:=hq hn;subst hn;subst Qs;obtain⟨h1,_,xs,dS,_⟩:=hI.arr k r v hk CY;obtain⟨news,wD,vJ,zY⟩:=tA hI hy En hl;have y5:w.ownsRow 0 r.eJ i.size v r.rows.length xs:=by rw[o6,<-Nq];exact dS
 obtain⟨v',w',ff,s4,hc⟩:=mh (P:=P) t ty r.eJ i zv (mG ht tz) hi Hd IX v r.rows.length xs y5 u nr.length news (by rw[o6];exact wD) vJ (by simp only[maxLen];omega) (by rw[C2];exact hb);have Nr:(dE P w0 g0 g w s.A (do pure (.value (<-Builtin.append_ #[t,t] ty #[v,u]))) K):=by
  by_cases dc:nr=[]
  ·subst dc;have A3:news=[]:=by
    rcases wD with⟨_,h,_⟩|⟨_,_,_,h,_⟩
    ·exact h
    ·exact Wj (by simpa using h)
   subst A3;obtain⟨a0,c0,rfl⟩:∃a0 c0,u=.slice a0 0 c0:=by
    rcases wD with⟨_,_,h⟩|⟨a0,c0,h,_⟩
    ·exact h
    ·exact⟨some a0,c0,h⟩
   have Ns:(Builtin.append_ #[t,t] ty #[v,.slice a0 0 c0]).run P w=.ok v w:=by
    have IY:∀(ad:Option Addr) (c:Nat) (w:World),(Builtin.firstCells i.size 0 (.slice ad 0 c)).run P w=.ok #[] w:=fun ad c w=>by
     cases ad<;>simp[Builtin.firstCells,loadCells,loadCellsFrom]
    rcases y5.2 with⟨h6,h7⟩|⟨gb,cp,cur,h6,_,_,GZ,_⟩
    ·rw[h6];simp[Builtin.append_,run_underlying (mG ht tz),sizeOf,typeInfo,hi,Builtin.lenOf,IY]
    ·rw[h6];simp[Builtin.append_,run_underlying (mG ht tz),sizeOf,typeInfo,hi,Builtin.lenOf,IY,GZ,storeCells]
   have bN:s.A.set k {r with rows:=r.rows++[]}=s.A:=by
    apply Wt;intro j;rw[dk hk];by_cases e:j=k
    ·subst e;simp[hk]
    ·simp[e]
   rw[bN]at hK;exact dE.value hI hF (bp Ns) (x:=.c (.own k (r.rows.length+0))) ⟨ad,cap,TP,r,hk,VV _,fun _=>CY⟩ hK
  ·obtain⟨g',uQ,gp,s6,TQ,_,_⟩:=hI.grow hF hk CY nr dc news (fun row dK=>by rw[hl row dK,Nq]) zY
    (fun xs' gp=>by
     obtain rfl:xs'=xs:=by
      rcases gp.2 with⟨e1,e2⟩|⟨b1,c1,cu1,e1,_,e3,_,_,_,e4⟩<;>rcases dS.2 with⟨f1,f2⟩|⟨b2,c2,cu2,f1,_,f3,_,_,_,f4⟩
      ·have:=gp.1;have:=dS.1;rw[e2]at*;simp at*;simp[*]
      ·rw[e1]at f1;simp at f1
      ·rw[e1]at f1;simp at f1
      ·rw[e1]at f1;simp at f1;obtain⟨rfl,rfl⟩:=f1;rw[e3]at f3;simp at f3;subst f3;rw[<-e4,<-f4]
     rw[show r.sz=i.size by omega];exact s4) hc
   refine⟨_,_,_,_,_,_,g',hK,bp ff,.inl rfl,?_,uQ,gp,s6⟩;have MK:∃ad' cap',v'=.slice ad' (r.rows.length+nr.length) cap':=by
    rcases s4.2 with⟨e1,e2⟩|⟨b1,c1,cu1,e1,_⟩
    ·exact⟨none,0,by rw[e1,e2]⟩
    ·exact⟨_,_,e1⟩
   obtain⟨ad',cap',rfl⟩:=MK;refine⟨ad',cap',rfl,{r with rows:=r.rows++nr},?_,by simp,fun _=>TQ⟩;rw[dk hk];simp
 exact Nr
end
section
variable {P:Program} {g g' g0:Gh} {w w' w0:World} {V V':List (List CV)} {A A':List bu} {s:St} {a:Act} {K:AV->List (List CV)->List bu->Prop}
theorem mI (hI:Inv g w s.V s.A) (hF:Fr w0 g0 w g) {t e:TypeId} {d de:TD} (ht:td P t=some d) (tz:d.el=some e) (he:td P e=some de) {z:List CV} (hz:de.zero=some z) (rJ:z.length=de.sz) {u:Value}
  {y:AV} (hy:aV g w s.A y u) {nr:List (List DV)} (En:rowsOf s.A y=some nr) (hl:∀r∈nr,r.length=de.sz) (hb:nr.length*de.lG<=140737488355328) (hm:nr.length<=9223372036854775807) {ty:TypeId}
  (hK:K (.c (.own s.A.length nr.length)) s.V (s.A++[{sz:=de.sz,eJ:=e,rows:=nr,wr:=true}])):dE P w0 g0 g w s.A (do pure (.value (<-Builtin.append_ #[t,t] ty #[.slice none 0 0,u]))) K:=by
 obtain⟨g1,Jn,pZ,tt,eZ,dn,km⟩:=hI.qT hF {sz:=de.sz,eJ:=e,rows:=[],wr:=true} (.slice none 0 0) [] (by simp) (World.ownsRow_nil w 0 e de.sz) (fun j x u h=>by simp at h) (fun b h=>by simp[Value.ownBlock]at h);have hk:(s.A++[({sz:=de.sz,eJ:=e,rows:=[],wr:=true}:bu)])[s.A.length]? =some {sz:=de.sz,eJ:=e,rows:=[],wr:=true}:=by simp
 have Bd:rowsOf (s.A++[({sz:=de.sz,eJ:=e,rows:=[],wr:=true}:bu)]) y=some nr:=by
  cases y with
  |c c=>
   cases c with
   |own k n=>
    simp only[rowsOf]at En⊢;cases o4:s.A[k]? with
    |none=>simp[o4]at En
    |some r=>rw[We (Wc.1 o4).1,o4];simpa only[o4]using En
   |d x=>cases x<;>exact En
   |_=>exact En
  |_=>exact En
 have:=jo (P:=P) (g:=g1) (w:=w) (w0:=w0) (g0:=g0) (s:={s with A:=s.A++[{sz:=de.sz,eJ:=e,rows:=[],wr:=true}]}) (K:=K) eZ km ht tz he hz rJ (k:=s.A.length) (n:=0) (v:=.slice none 0 0) (u:=u)
  ⟨none,0,rfl,_,hk,VX _,fun _=>by rw[tt,Wf (by rw[hI.lF];exact VV _),hI.lF];simp⟩ (aV.ext dn hy) Bd hl hk rfl rfl rfl (by simpa using hb) (by simpa using hm) (ty:=ty) (by
   simp only[VZ,WA];have:(s.A++[({sz:=de.sz,eJ:=e,rows:=[],wr:=true}:bu)]).set s.A.length {sz:=de.sz,eJ:=e,rows:=nr,wr:=true}=s.A++[{sz:=de.sz,eJ:=e,rows:=nr,wr:=true}]:=by simp
   rw[this];exact hK)
 obtain⟨x,V',A',nx,v,w',g',h1,h2,h3,h4,h5,h6,h7⟩:=this;exact⟨x,V',A',nx,v,w',g',h1,h2,h3,h4,h5,dn.trans h6,h7⟩
theorem C3 (b:List UInt8) (i j:Nat):(bs b).extract i j=bs ((b.take j).drop i):=by
 apply ByteArray.ext;simp[bs,ByteArray.data_extract,List.extract_toArray,List.drop_take]
theorem nB (hS:ia g w s a) {o:Option Operand} {x:Option AV} (h:mi s o=some x):(x=none/\o.map a.eval=none)\/∃v u,x=some v/\o.map a.eval=some u/\aV g w s.A v u:=by
 cases o with
 |none=>simp[mi]at h;exact .inl ⟨h.symm,rfl⟩
 |some o=>
  simp only[mi,WL]at h;obtain⟨v,hv,rfl⟩:=h;exact .inr ⟨v,_,rfl,rfl,aJ hS hv⟩
theorem wE (isSl:Bool) (len cap:Nat) (nC:len<=cap) {lo hi:Option AV} {vl vh:Option Value} (GF:(lo=none/\vl=none)\/∃v u,lo=some v/\vl=some u/\aV g w A v u) (Qt:(hi=none/\vh=none)\/∃v u,hi=some v/\vh=some u/\aV g w A v u)
  {i j:Int} (ML:rS lo=some i) (Hf:mF hi len=some j) (h0:0<=i) (h1:i<=j) (h2:j<=len):(Instr.sliceBounds isSl len cap vl vh none).run P w=.ok (i.toNat,j.toNat,cap) w:=by
 have Su:j<=(cap:Int):=by omega
 have Qu:0<=j:=by omega
 have hb:∀{lo:Option AV} {vl:Option Value} {i:Int},((lo=none/\vl=none)\/∃v u,lo=some v/\vl=some u/\aV g w A v u)->rS lo=some i->(vl=none/\i=0)\/∃k,vl=some (.int k i):=by
  intro lo vl i h hs;rcases h with⟨rfl,rfl⟩|⟨v,u,rfl,rfl,hr⟩
  ·simp[rS]at hs;exact .inl ⟨rfl,hs.symm⟩
  ·unfold rS at hs;split at hs
   ·rename_i heq;simp at heq
   ·rename_i k n heq;simp at heq hs;subst heq;subst hs;simp only[aV,dD,bm,bh]at hr;exact .inr ⟨k,by rw[hr]⟩
   ·simp at hs
 have hh:(vh=none/\j=len)\/∃k,vh=some (.int k j):=by
  rcases Qt with⟨rfl,rfl⟩|⟨v,u,rfl,rfl,hr⟩
  ·simp[mF]at Hf;exact .inl ⟨rfl,Hf.symm⟩
  ·unfold mF at Hf;split at Hf
   ·rename_i heq;simp at heq
   ·rename_i k n heq;simp at heq Hf;subst heq;subst Hf;simp only[aV,dD,bm,bh]at hr;exact .inr ⟨k,by rw[hr]⟩
   ·simp at Hf
 have rK:(j.toNat:Int)=j:=Int.toNat_of_nonneg Qu;rcases hb GF ML with⟨rfl,rfl⟩|⟨k,rfl⟩<;>rcases hh with⟨rfl,rfl⟩|⟨k',rfl⟩
 ·simp[Instr.sliceBounds]
 ·simp[Instr.sliceBounds,run_sliceBound w k' j cap _ Qu Su]
 ·simp[Instr.sliceBounds,run_sliceBound w k i len _ h0 (by omega)]
 ·simp[Instr.sliceBounds,run_sliceBound w k' j cap _ Qu Su,run_sliceBound w k i j.toNat _ h0 (by omega)]
theorem vL (hI:Inv g w s.V s.A) (hF:Fr w0 g0 w g) (hS:ia g w s a) {t:TypeId} {d:TD} (ht:td P t=some d) (hd:d.cL=true) {b:List UInt8} {v:Value} (hv:aV g w s.A (.c (.d (.str b))) v) {lo hi:Option Operand} {l h:Option AV} (hl:mi s lo=some l) (hh:mi s hi=some h)
  {i j:Int} (ML:rS l=some i) (Hf:mF h b.length=some j) (h0:0<=i) (h1:i<=j) (h2:j<=b.length) (hK:K (.c (.d (.str ((b.take j.toNat).drop i.toNat)))) s.V s.A):
  dE P w0 g0 g w s.A (do pure (.value (<-Instr.sliceAt t v (lo.map a.eval) (hi.map a.eval) none))) K:=by
 simp only[aV,dD,bm,bh]at hv;subst hv;have hu:=qV ht hd;have hb:=wE (P:=P) (g:=g) (w:=w) (A:=s.A) false (bs b).size (bs b).size (VV _) (nB hS hl) (nB hS hh) ML (by rw[p7];exact Hf) h0 h1 (by rw[p7];exact h2);refine dE.value hI hF (bp ?_) (x:=.c (.d (.str ((b.take j.toNat).drop i.toNat)))) (v:=.string (bs ((b.take j.toNat).drop i.toNat))) rfl hK;rw[run_sliceAt_string w t _ _ _ _ hu];simp[Instr.slice,run_underlying hu,hb,C3]
theorem Be (hI:Inv g w V A) (hF:Fr w0 g0 w g) {v:AV} {u:Value} (hv:aV g w A v u) {rows:List (List DV)} (h:rowsOf A v=some rows):
  ∃g',Inv g' w V (bT A v.cells)/\Ext g w A g' w (bT A v.cells)/\Fr w0 g0 w g'/\bh g'.im w (.sl rows) u:=by
 cases v with
 |c c=>
  have hd:nw A c=some (.sl rows):=by
   cases c with
   |d x=>cases x<;>simp[rowsOf]at h;subst h;rfl
   |nil=>simp[rowsOf]at h;subst h;rfl
   |own k n=>
    simp only[rowsOf]at h;simp only[nw];split at h
    ·split at h
     ·simp at h;subst h;simp[*]
     ·simp at h
    ·simp at h
   |_=>simp[rowsOf]at h
  obtain⟨g',h1,h2,h3,_,_,h6⟩:=rU hI hF hv hd;exact⟨g',h1,h2,h3,h6⟩
 |_=>simp[rowsOf]at h
theorem tB (hI:Inv g w s.V s.A) (hF:Fr w0 g0 w g) (hS:ia g w s a) {t e:TypeId} {d de:TD} (ht:td P t=some d) (tz:d.el=some e) (he:td P e=some de) {x:AV} {v:Value} (hv:aV g w s.A x v) {rows:List (List DV)} (hr:rowsOf s.A x=some rows) {lo hi:Option Operand} {l h:Option AV} (hl:mi s lo=some l) (hh:mi s hi=some h)
  {i j:Int} (ML:rS l=some i) (Hf:mF h rows.length=some j) (h0:0<=i) (h1:i<=j) (h2:j<=rows.length) (eM:∀r∈rows,r.length=de.sz) (hK:K (.c (.d (.sl ((rows.take j.toNat).drop i.toNat)))) s.V (bT s.A x.cells)):
  dE P w0 g0 g w s.A (do pure (.value (<-Instr.sliceAt t v (lo.map a.eval) (hi.map a.eval) none))) K:=by
 obtain⟨g',uQ,gp,s6,hd⟩:=Be hI hF hv hr;have hu:=mG ht tz;obtain⟨inf,Nt,Lh,_,_⟩:=fZ he;simp only[bh]at hd;obtain⟨ad,cap,rfl,nC,yo⟩:=hd;have hb:=wE (P:=P) (g:=g) (w:=w) (A:=s.A) true rows.length cap nC (nB hS hl) (nB hS hh) ML Hf h0 h1 h2;have ff:(Instr.sliceAt t (.slice ad rows.length cap) (lo.map a.eval) (hi.map a.eval) none).run P w=.ok (.slice (if cap=i.toNat then ad else ad.map (·.add (i.toNat*de.sz))) (j.toNat-i.toNat) (cap-i.toNat)) w:=by
  simp[Instr.sliceAt,Instr.slice,run_underlying hu,hb,sizeOf,typeInfo,Nt,Lh]
 refine⟨_,_,_,_,_,_,g',hK,bp ff,.inl rfl,?_,uQ,gp,s6⟩;simp only[aV,dD,bm,bh];have hlen:((rows.take j.toNat).drop i.toNat).length=j.toNat-i.toNat:=by simp;omega
 refine⟨_,_,by rw[hlen],by rw[hlen];omega,?_⟩;by_cases dc:(rows.take j.toNat).drop i.toNat=[]
 ·exact .inl dc
 ·have yv:0<j.toNat-i.toNat:=by rw[<-hlen];exact Ww.2 dc
  rcases yo with rfl|⟨b,off,sz,rfl,qS,yo⟩
  ·simp at dc
  ·have Qv:sz=de.sz:=by
    cases rows with
    |nil=>simp at dc
    |cons r rs=>simp only[cj]at yo;have:=eM r (by simp);omega
   subst Qv;have hmul:(i.toNat+(j.toNat-i.toNat))*de.sz<=rows.length*de.sz:=V1 _ (by omega);rw[VW]at hmul;refine .inr ⟨b,off+i.toNat*de.sz,de.sz,by rw[if_neg (by omega)];simp[mH],by rw[hlen];omega,cj.mk fun q r hq=>?_⟩;have Qw:rows[i.toNat+q]? =some r:=by
    rw[Wp,Wi]at hq;split at hq
    ·exact hq
    ·cases hq
   have:=cj.at_ yo Qw;rwa[VW,<-VY]at this
theorem aj {α:Type} {o:Option α} {k:α->Prop} {Q:Prop} (h:bS o k) (f:∀v,o=some v->k v->Q):Q:=by
 obtain⟨v,h1,h2⟩:=cv h;exact f v h1 h2
theorem wF (hI:Inv g w V A):∀{cs:List AV} {ls:List Nat} {vs:List Value},Ha cs=some ls->vs.length=cs.length->(∀(j:Nat) c u,cs[j]? =some c->vs[j]? =some u->aV g w A c u)->
  ∃bks:List Nat,vs=bks.map (fun b=>Value.pointer (some ⟨b,0,none⟩))/\bks.length=ls.length/\∀(i l b:Nat),ls[i]? =some l->bks[i]? =some b->g.ob[l]? =some b
 |[],ls,vs,h,hl,_=>by
  simp[Ha]at h;subst h;have:vs=[]:=Wj (by simpa using hl);subst this;exact⟨[],rfl,rfl,fun i l b h=>by simp at h⟩
 |c::r,ls,vs,h,hl,hr=>by
  cases vs with
  |nil=>simp at hl
  |cons v vs=>
   unfold Ha at h;split at h
   ·rename_i heq;simp at heq
   ·rename_i l r' heq;simp at heq;obtain⟨rfl,rfl⟩:=heq;simp only[WL]at h;obtain⟨ls',h1,rfl⟩:=h;obtain⟨b,hb,hv⟩:∃b,g.ob[l]? =some b/\v=.pointer (some ⟨b,0,none⟩):=hr 0 _ v rfl rfl;obtain⟨bks,h2,h3,h4⟩:=wF hI h1 (vs:=vs) (by simpa using hl) (fun j c u h5 h6=>hr (j+1) c u (by simpa using h5) (by simpa using h6));refine⟨b::bks,by simp[hv,h2],by simp[h3],fun i l' b' h5 h6=>?_⟩;cases i with
    |zero=>simp at h5 h6;subst h5;subst h6;exact hb
    |succ i=>simp at h5 h6;exact h4 i l' b' h5 h6
   ·simp at h
theorem lS (hS:ia g w s a):∀{os:List Operand} {xs:List AV},hM s os=some xs->xs.length=os.length/\∀(j:Nat) x u,xs[j]? =some x->(os.map a.eval)[j]? =some u->aV g w s.A x u
 |[],xs,h=>by simp[hM]at h;subst h;exact⟨rfl,fun j x u h=>by simp at h⟩
 |o::r,xs,h=>by
  simp only[hM]at h;split at h
  ·rename_i v l h1 h2;simp at h;subst h;obtain⟨h3,h4⟩:=lS hS h2;refine⟨by simp[h3],fun j x u h5 h6=>?_⟩;cases j with
   |zero=>simp at h5 h6;subst h5;subst h6;exact aJ hS h1
   |succ j=>simp at h5 h6;exact h4 j x u h5 (by simpa using h6)
  ·simp at h
theorem C4 {v:AV} {u:Value} {n:Nat} (hv:aV g w A v u) (h:zW v=some n):(∃b,v=.c (.d (.str b))/\u=.string (bs b)/\n=b.length)\/((∀b,v≠.c (.d (.str b)))/\∃a c,u=.slice a n c):=by
 unfold zW at h;split at h
 ·rename_i b;simp at h;subst h;exact .inl ⟨b,rfl,hv,rfl⟩
 ·simp at h;subst h;simp only[aV,dD,bm,bh]at hv;obtain⟨a,c,rfl,_⟩:=hv;exact .inr ⟨by simp,a,c,rfl⟩
 ·simp at h;subst h;simp only[aV,dD,bm]at hv;exact .inr ⟨by simp,none,0,hv⟩
 ·simp at h;subst h;obtain⟨a,c,rfl,_⟩:=hv;exact .inr ⟨by simp,a,c,rfl⟩
 ·simp at h
theorem dE.Hg {A:List bu} {m:Sem Next} (h:dE P w0 g0 g w A m fun x V A=>∃(k:Nat) (r:bu),x=.c (.own k r.rows.length)/\A[k]? =some r/\K (.c (.d (.sl r.rows))) V (A.set k {r with wr:=false})):dE P w0 g0 g w A m K:=by
 obtain⟨x,V',A',nx,v,w',g',⟨k,r,rfl,hk,hK⟩,hm,hn,hr,hI,hx,hF⟩:=h;obtain⟨_,_,e,r',o4,_,hv⟩:=hr;obtain rfl:r=r':=Option.some.inj (hk.symm.trans o4);obtain⟨g2,A5,ji,CI,_,_,hd⟩:=hI.seal hF hk (hv rfl);exact⟨_,_,_,nx,v,w',g2,hK,hm,hn,hd,A5,hx.trans ji,CI⟩
set_option maxHeartbeats 1000000 in
theorem Fq (hI:Inv g w s.V s.A) (hF:Fr w0 g0 w g) (hS:ia g w s a) {ow:Bool} {o:Oper} (h:eD P s ow o.op K):dE P w0 g0 g w s.A (execOp a.eval o) K:=by
 obtain⟨dst,op,type,pos,after,guard⟩:=o;simp only at h;cases op with
 |move x=>
  refine aj h fun v h1 h2=>?_
  exact dE.value hI hF (m:=execOp a.eval ⟨dst,.move x,type,pos,after,guard⟩) rfl (aJ hS h1) h2
 |assign x=>
  refine aj h fun v h1 h2=>?_
  exact dE.value hI hF (m:=execOp a.eval ⟨dst,.assign x,type,pos,after,guard⟩) rfl (aJ hS h1) h2
 |pick c x y=>
  refine aj h fun v h1 h2=>?_
  have hc:=aJ hS h1;split at h2
  ·rename_i t;simp only[aV,dD,bm,bh]at hc;have ff:∀u,(if t then a.eval x else a.eval y)=u->(execOp a.eval ⟨dst,.pick c x y,type,pos,after,guard⟩).run P w=.ok (.value u) w:=fun u hu=>by
    simp[execOp,hc,asBool,hu]
   cases t with
   |true=>simp only[if_true]at h2;exact aj h2 fun v h3 h4=>dE.value hI hF (ff _ rfl) (aJ hS h3) h4
   |false=>simp only[WK,if_false]at h2;exact aj h2 fun v h3 h4=>dE.value hI hF (ff _ rfl) (aJ hS h3) h4
  ·exact h2.elim
 |alloc e=>exact aj h fun d h1 h2=>aj h2 fun z h3 h4=>A7 hI hF h1 h3 h4
 |box e x=>exact aj h fun v h1 h2=>Fm hI hF (aJ hS h1) h2.1 h2.2
 |build t parts=>exact aj h fun d h1 h2=>aj h2 fun z h3 h4=>aj h4 fun ps h5 h6=>aj h6 fun cs h7 h8=>Bc hI hF hS h1 h3 h8.2.1 h5 h7 h8.2.2
 |buildSlice t len parts=>
  exact aj h fun d h1 h2=>aj h2 fun e h3 h4=>aj h4 fun de h5 h6=>aj h6 fun rows h7 h8=>aj h8 fun ds h9 cE=>tv hI hF hS h1 h3 h5 h7 h9 cE.1 cE.2.1 cE.2.2.1 cE.2.2.2.1 cE.2.2.2.2
 |load t x=>
  refine aj h fun d h1 h2=>aj h2 fun p h3 h4=>?_
  split at h4
  ·exact aj h4 fun cs h5 h6=>aj h6 fun v h7 h8=>CZ hI hF h1 (aJ hS h3) h5 h7 h8
  ·exact h4.elim
 |store t x y=>
  refine aj h fun d h1 h2=>aj h2 fun p h3 h4=>aj h4 fun v h5 h6=>?_
  obtain⟨h7,h8,h9⟩:=h6;split at h9
  ·exact aj h9 fun row cE ev=>vH hI hF h1 (aJ hS h3) (aJ hS h5) h7 h8 cE ev.1 ev.2
  ·refine aj h9 fun r cE ev=>?_
   obtain⟨fM,dt,gk⟩:=ev;exact aj gk fun row qI rL=>aj rL fun ds Bf rM=>vI hI hF h1 (aJ hS h3) (aJ hS h5) h7 h8 cE fM dt qI Bf rM.1 rM.2.1 rM.2.2
  ·exact h9.elim
 |nilCheck x=>
  refine aj h fun v h1 h2=>?_
  have hv:=aJ hS h1;split at h2
  ·obtain⟨b,hb,e⟩:=hv;exact dE.value hI hF (v:=a.eval x) (by simp only[execOp,e];rfl) (aJ hS h1) h2
  ·obtain⟨b,o,e,_⟩:=hv;exact dE.value hI hF (v:=a.eval x) (by simp only[execOp,e];rfl) (aJ hS h1) h2
  ·obtain⟨b,o,e,_⟩:=hv;exact dE.value hI hF (v:=a.eval x) (by simp only[execOp,e];rfl) (aJ hS h1) h2
  ·obtain⟨b,e,_⟩:=hv;exact dE.value hI hF (v:=a.eval x) (by simp only[execOp,e];rfl) (aJ hS h1) h2
  ·exact h2.elim
 |binOp op t x y t'=>
  refine aj h fun u h1 h2=>aj h2 fun v h3 h4=>?_
  split at h4
  ·rename_i r hr;obtain⟨z,h5,h6⟩:=zX (P:=P) (t:=t) (ox:=x) (oy:=y) (aJ hS h1) (aJ hS h3) hr;exact dE.value hI hF (bp h5) h6 h4
  ·split at h4
   ·rename_i r hr;obtain⟨z,h5,h6⟩:=yu (P:=P) (t:=t) (ox:=x) (oy:=y) (aJ hS h1) (aJ hS h3) hr;exact dE.value hI hF (bp h5) h6 h4
   refine aj h4 fun r h5 h6=>aj h6 fun d h7 h8=>?_
   obtain⟨z,h9,cE⟩:=yt (P:=P) (ox:=x) (oy:=y) h7 h8.1 (aJ hS h1) (aJ hS h3) h5;exact dE.value hI hF (bp h9) cE h8.2
 |unOp op t x=>
  refine aj h fun u h1 h2=>aj h2 fun r h3 h4=>?_
  obtain⟨z,h5,h6⟩:=Fo (P:=P) (aJ hS h1) h3;exact dE.value hI hF (bp h5) h6 h4
 |convert src dst x=>
  refine aj h fun u h1 h2=>aj h2 fun ds h3 h4=>aj h4 fun dd h5 h6=>?_
  have hv:=aJ hS h1;split at h6
  ·rename_i k n;refine aj h6 fun d h7 h8=>?_
   simp only[aV,dD,bm,bh]at hv;obtain⟨de,i,hu,_⟩:=lj h3;unfold Sl at h7;split at h7
   ·rename_i k' h9;simp only[Option.some.injEq]at h7;subst h7;refine dE.value hI hF (v:=.int k' (k'.wrap n)) (bp ?_) (x:=.c (.d (.int k' (k'.wrap n)))) rfl h8;rw[hv];simp[convert,run_underlying hu,run_underlying (KC h5 h9),Conv.intToInt]
   ·split at h7
    ·rename_i cE;simp only[Option.some.injEq]at h7;subst h7;refine dE.value hI hF (v:=.string (bs [UInt8.ofNat n.toNat])) (bp ?_) (x:=.c (.d (.str [UInt8.ofNat n.toNat]))) rfl h8;rw[hv];have he:Utf8.encode n=bs [UInt8.ofNat n.toNat]:=by
      have C5:Utf8.valid n=true:=by simp[Utf8.valid];omega
      simp only[Utf8.encode,C5,if_true];rw[if_pos (by omega)]
      rfl
     simp[convert,run_underlying hu,run_underlying (qV h5 cE.1),Conv.intToString,he]
    ·cases h7
  ·rename_i b;simp only[aV,dD,bm,bh]at hv;refine dE.value hI hF (v:=.string (bs b)) (bp ?_) (x:=.c (.d (.str b))) rfl h6.2.2;rw[hv];simp[convert,run_underlying (qV h3 h6.2.1),run_underlying (qV h5 h6.1)]
  ·rename_i rows;obtain⟨h7,h8⟩:=h6;exact aj h8 fun e h9 cE=>aj cE fun de ev fM=>aj fM.2 fun b dt gk=>dE.value hI hF (v:=.string (bs b)) (bp (Bb (g:=g) h3 h5 h7 h9 ev fM.1 hv dt)) (x:=.c (.d (.str b))) rfl gk
  ·exact h6.elim
 |makeFunc fn first captured=>
  cases fn with
  |func f=>
   obtain⟨h1,h2⟩:=h;refine aj h2 fun cs h3 h4=>aj h4 fun ls h5 h6=>?_
   obtain⟨h7,h8⟩:=lS hS h3;obtain⟨bks,h9,cE,ev⟩:=wF hI h5 (vs:=captured.toList.map a.eval) (by simp[h7]) h8;have hf:first.map a.eval= #[]:=by
    have:first= #[]:=Array.eq_empty_of_size_eq_zero h1
    simp[this]
   have hc:captured.map a.eval=(bks.map fun b=>Value.pointer (some ⟨b,0,none⟩)).toArray:=by
    rw[<-h9,<-WI,Array.toArray_toList]
   exact dE.value hI hF (v:=.func (.func f) #[] (bks.map fun b=>Value.pointer (some ⟨b,0,none⟩)).toArray) (by simp[execOp,Instr.makeFunc,hf,hc]) (x:=.c (.fn f ls)) ⟨bks,rfl,cE,ev⟩ h6
  |_=>exact h.elim
 |makeSlice t l c=>
  refine aj h fun d h1 h2=>aj h2 fun e h3 h4=>aj h4 fun de h5 h6=>aj h6 fun z h7 h8=>aj h8 fun dz h9 cE=>aj cE fun vl ev fM=>aj fM fun vc dt gk=>?_
  have e1:=aJ hS ev;have e2:=aJ hS dt;split at gk
  ·rename_i kl n kc m;simp only[aV,dD,bm,bh]at e1 e2;obtain⟨rfl,qI,rL,Bf,rM,Lj,I2⟩:=gk;have:=vK (P:=P) (K:=K) hI hF h1 h3 h5 h7 h9 (kl:=kl) (kc:=kc) qI rL Bf rM Lj I2;simpa only[execOp,e1,e2]using this
  ·exact gk.elim
 |slice t x lo hi mx=>
  obtain⟨rfl,h⟩:=h;refine aj h fun d h1 h2=>aj h2 fun v h3 h4=>aj h4 fun l h5 h6=>aj h6 fun hh h7 h8=>?_
  have hv:=aJ hS h3;split at h8
  ·obtain⟨h9,cE⟩:=h8;exact aj cE fun i ev fM=>aj fM fun j dt gk=>vL hI hF hS h1 h9 hv h5 h7 ev dt gk.1 gk.2.1 gk.2.2.1 gk.2.2.2
  ·exact aj h8 fun rows h9 cE=>aj cE fun e ev fM=>aj fM fun de dt gk=>aj gk fun i qI rL=>aj rL fun j Bf rM=>
    tB hI hF hS h1 ev dt hv h9 h5 h7 qI Bf rM.1 rM.2.1 rM.2.2.1 rM.2.2.2.1 rM.2.2.2.2
 |fieldAddr t x f=>
  refine aj h fun d h1 h2=>aj h2 fun fo h3 h4=>?_
  obtain⟨off,sz⟩:=fo;obtain⟨h5,h6⟩:=h4;refine aj h6 fun v h7 h8=>?_
  have hv:=aJ hS h7;have ff:=fun b o=>o7 (P:=P) (w:=w) h1 h3 h5 b o
  split at h8
  ·rename_i l o;obtain⟨b,hb,e⟩:=hv;exact dE.value hI hF (v:=.pointer (some ⟨b,o+off,none⟩)) (bp (by rw[e];exact ff b o)) (x:=.c (.ptr l (o+off))) ⟨b,hb,rfl⟩ h8
  ·rename_i r o;obtain⟨b,o',e,h9,cE⟩:=hv;exact dE.value hI hF (v:=.pointer (some ⟨b,o'+o+off,none⟩)) (bp (by rw[e];exact ff b _)) (x:=.c (.ip r (o+off))) ⟨b,o',by rw[VY],h9,cE⟩ h8
  ·rename_i k n i o;obtain⟨b,e',e,r,h9,cE,ev⟩:=hv;refine dE.value hI hF (v:=.pointer (some ⟨b,e'+off,none⟩)) (bp (by rw[e];exact ff b _)) (x:=.c (.op k n i (o+off))) ⟨b,e'+off,rfl,r,h9,cE,fun fM=>?_⟩ h8;obtain⟨cap,dt,gk⟩:=ev fM;exact⟨cap,dt,by omega⟩
  ·exact h8.elim
 |indexAddr t x ix=>
  refine aj h fun d h1 h2=>aj h2 fun v h3 h4=>aj h4 fun i h5 h6=>?_
  have hv:=aJ hS h3;have CL:=aJ hS h5;split at h6
  ·rename_i k n;simp only[aV,dD,bm,bh]at CL;obtain⟨h0,h6⟩:=h6;split at h6
   ·rename_i rows;refine aj h6 fun e h7 h8=>aj h8 fun de h9 cE=>aj cE fun row ev fM=>?_
    simp only[aV,dD,bm,bh]at hv;obtain⟨ad,cap,e1,nC,hr⟩:=hv;have az:=(Wc.1 ev).1;rcases hr with rfl|⟨b,off,sz,rfl,qS,yo⟩
    ·simp at ev
    ·obtain⟨dt,gk⟩:=cj.at_ yo ev;have eM:sz=de.sz:=by omega
     subst eM;have hmul:(n.toNat+1)*de.sz<=rows.length*de.sz:=V1 _ az;rw[VW,V5]at hmul;exact dE.value hI hF (v:=.pointer (some ⟨b,off+n.toNat*de.sz,none⟩)) (bp (by rw[e1,CL];exact o8 h1 h7 h9 h0 az)) (x:=.c (.ip row 0)) ⟨b,off+n.toNat*de.sz,rfl,by omega,gk⟩ fM.2
   ·rename_i k' m;refine aj h6 fun e h7 h8=>aj h8 fun de h9 cE=>aj cE fun r ev fM=>?_
    obtain⟨dt,gk,qI,rL⟩:=fM;obtain⟨ad,cap,e1,r',o4,hn,hq⟩:=hv;obtain rfl:r=r':=by rw[ev]at o4;exact Option.some.inj o4
    have CY:=hq dt;obtain⟨_,_,xs,dS,_⟩:=hI.arr k' r _ ev CY;rcases dS.2 with⟨e2,e3⟩|⟨b,cap',cur,e2,_⟩
    ·omega
    ·have e4:a.eval x=.slice (some ⟨b,0,none⟩) m cap':=by rw[e2,dt]
     refine dE.value hI hF (v:=.pointer (some ⟨b,0+n.toNat*de.sz,none⟩)) (bp (by rw[e4,CL];exact o8 h1 h7 h9 h0 gk)) (x:=.c (.op k' m n.toNat 0)) ⟨b,_,rfl,r,ev,hn,fun _=>⟨cap',by rw[<-e4];exact CY,by rw[qI];omega⟩⟩ rL
   ·rename_i l off;refine aj h6 fun le h7 h8=>?_
    obtain⟨len,e⟩:=le;refine aj h8 fun de h9 cE=>?_
    obtain⟨b,hb,e1⟩:=hv;exact dE.value hI hF (v:=.pointer (some ⟨b,off+n.toNat*de.sz,none⟩)) (bp (by rw[e1,CL];exact wC h1 h7 h9 h0 cE.1)) (x:=.c (.ptr l (off+n.toNat*de.sz))) ⟨b,hb,rfl⟩ cE.2
   ·exact h6.elim
  ·exact h6.elim
 |index t x ix=>
  refine aj h fun d h1 h2=>aj h2 fun v h3 h4=>aj h4 fun i h5 h6=>?_
  have hv:=aJ hS h3;have CL:=aJ hS h5;split at h6
  ·rename_i b k n;simp only[aV,dD,bm,bh]at hv CL;obtain⟨h7,h0,h8⟩:=h6;refine aj h8 fun c h9 cE=>?_
   refine dE.value hI hF (v:=.int .u8 c.toNat) (bp ?_) (x:=.c (.d (.int .u8 c.toNat))) rfl cE;have az:=(Wc.1 h9).1;have hc:(bs b)[n.toNat]? =some c:=by
    have:n.toNat<(bs b).size:=by rw[p7];exact az
    rw[getElem?_pos (bs b) n.toNat this];exact congrArg some (Wc.1 h9).2
   rw[hv,CL];simp[Instr.index,asIntOf,run_underlying (qV h1 h7),h0,hc]
  ·rename_i xs k n;simp only[aV,dD,bm,bh]at CL;obtain⟨us,e1,hl,hc⟩:=hv;refine aj h6 fun le h7 h8=>?_
   obtain⟨len,e⟩:=le;refine aj h8 fun de h9 cE=>?_
   obtain⟨ev,fM,h0,dt,gk⟩:=cE;refine aj gk fun c qI rL=>?_
   have az:=(Wc.1 qI).1;have hu:us[n.toNat]? =some (us[n.toNat]'(by omega)):=Wd (by omega);refine dE.value hI hF (v:=us[n.toNat]'(by omega)) (bp ?_) (x:=.c c) (hc n.toNat c _ qI hu) rL;obtain⟨inf,hi,eM,_,_⟩:=fZ h9;obtain⟨dd,i2,CK,MM,e2⟩:=lj h9;have Jl:(isAgg e).run P w=.ok false w:=by
    rw[e2]at ev;have ev:Ej dd=false:=ev;simp only[isAgg,Sem.run_bind,run_underlying CK,Result.andThen_ok];cases dd<;>first|rfl|simp[Ej]at ev
   rw[e1,CL];have Nu:0<=n/\n<len:=⟨h0,dt⟩;simp[Instr.index,asIntOf,run_underlying (KB h1 h7),Nu,sizeOf,typeInfo,hi,eM,fM,part,Jl,hu]
  ·exact h6.elim
 |extract x i=>
  refine aj h fun v h1 h2=>?_
  have hv:=aJ hS h1;split at h2
  ·rename_i xs;refine aj h2 fun u h3 h4=>?_
   obtain⟨vs,e,hl,hr⟩:=hv;have az:=(Wc.1 h3).1;have Sv:vs[i]? =some (vs[i]'(by omega)):=Wd (by omega);have Pt:=hr i u _ h3 Sv;have ff:(execOp a.eval ⟨dst,.extract x i,type,pos,after,guard⟩).run P w=.ok (.value (vs[i]'(by omega))) w:=bp (by
    rw[e];simp[Instr.extract,Sv])
   split at h4
   ·exact h4.elim
   ·rename_i kp;refine dE.value hI hF ff (x:=u) ?_ h4;cases u with
    |bq ys=>exact absurd rfl (kp ys)
    |_=>exact Pt
  ·exact h2.elim
 |call c=>
  obtain⟨callee,args,argTypes⟩:=c;cases callee with
  |builtin b=>
   obtain⟨consts,fw⟩:∃consts,∀w,(execOp a.eval ⟨dst,.call ⟨.builtin b,args,argTypes⟩,type,pos,after,guard⟩).run P w=(builtin b argTypes type consts (args.map a.eval)).run P w:=
    ⟨_,fun w=>by simp only[execOp,resolve,Sem.run_bind,Sem.run_pure,Result.andThen_ok,invoke];rfl⟩
   cases b with
   |len=>
    refine aj h fun x h1 h2=>aj h2 fun v h3 h4=>aj h4 fun t h5 h6=>aj h6 fun d h7 h8=>aj h8 fun n h9 cE=>?_
    obtain⟨_,fM,dt⟩:=cE;have hv:=aJ hS h3;refine dE.value hI hF (v:=.int .i64 n) ((fw w).trans (bp ?_)) (x:=.c (.d (.int .i64 n))) rfl dt;have ha:(args.map a.eval)[0]? =some (a.eval x):=by simp[h1]
    rcases C4 hv h9 with⟨b,rfl,gk,qI⟩|⟨gk,ad,cp,qI⟩
    ·simp only at fM;simp[Builtin.len_,h5,ha,gk,run_underlying (qV h7 fM),goInt,p7,qI]
    ·have tz:d.el.isSome=true:=by
      split at fM
      ·rename_i b;exact absurd rfl (gk b)
      ·exact fM
     obtain⟨e,he⟩:=WM.1 tz;simp[Builtin.len_,h5,ha,qI,run_underlying (mG h7 he),goInt]
   |append=>
    refine aj h fun x h1 h2=>aj h2 fun y h3 h4=>aj h4 fun t h5 h6=>?_
    obtain⟨h7,h8⟩:=h6;refine aj h8 fun d h9 cE=>aj cE fun e ev fM=>aj fM fun de dt gk=>?_
    obtain⟨_,rL,Bf⟩:=gk;refine aj rL fun z hz rJ=>aj Bf fun v rM Lj=>aj Lj fun u I2 Nv=>aj Nv fun nr Jo Qx=>?_
    obtain⟨Jp,Jq⟩:=Qx;have hv:=aJ hS rM;have hu:=aJ hS I2;have o9:∀w,(builtin .append argTypes type consts (args.map a.eval)).run P w=(do pure (.value (<-Builtin.append_ #[t,t] type #[a.eval x,a.eval y])):Sem Next).run P w:=fun w=>by
     have ha:(args.map a.eval)[0]? =some (a.eval x):=by simp[h1]
     have hb:(args.map a.eval)[1]? =some (a.eval y):=by simp[h3]
     simp only[builtin,Builtin.append_,h5,h7,ha,hb]
     rfl
    have back:dE P w0 g0 g w s.A (do pure (.value (<-Builtin.append_ #[t,t] type #[a.eval x,a.eval y]))) K->dE P w0 g0 g w s.A (execOp a.eval ⟨dst,.call ⟨.builtin .append,args,argTypes⟩,type,pos,after,guard⟩) K:=by
     rintro⟨x',V',A',nx,v',w',g',k1,k2,k3⟩;exact⟨x',V',A',nx,v',w',g',k1,(fw w).trans ((o9 w).trans k2),k3⟩
    split at Jq
    ·rename_i k n;refine aj Jq fun r Jr MN=>?_
     obtain⟨MO,Sw,Pu,Sx,Sy,Sz⟩:=MN;cases ow with
     |false=>exact back (jo hI hF h9 ev dt hz rJ hv hu Jo Jp Jr MO Sw Pu Sx Sy (by simpa using Sz))
     |true=>
      have az:=(Wc.1 Jr).1;exact back (dE.Hg (jo hI hF h9 ev dt hz rJ hv hu Jo Jp Jr MO Sw Pu Sx Sy ⟨k,{r with rows:=r.rows++nr},by simp[MO],by simp[az],by simpa using Sz⟩))
    ·simp only[aV,dD,bm]at hv;refine back ?_;rw[hv];obtain⟨Jr,MN,MO⟩:=Jq;cases ow with
     |false=>exact mI hI hF h9 ev dt hz rJ hu Jo Jp Jr MN (by simpa using MO)
     |true=>exact dE.Hg (mI hI hF h9 ev dt hz rJ hu Jo Jp Jr MN ⟨s.A.length,{sz:=de.sz,eJ:=e,rows:=nr,wr:=true},by simp,by simp,by simpa using MO⟩)
    ·exact Jq.elim
   |max=>
    refine aj h fun x h1 h2=>aj h2 fun y h3 h4=>?_
    obtain⟨h5,h6⟩:=h4;refine aj h6 fun v h7 h8=>aj h8 fun u h9 cE=>?_
    have hv:=aJ hS h7;have hu:=aJ hS h9;split at cE
    ·rename_i k p k' q;simp only[aV,dD,bm,bh]at hv hu;have o9:args.map a.eval= #[.int k p,.int k' q]:=by
      apply WJ
      ·simp[h5]
      ·intro i Nt MM;simp at Nt MM
       match i,MM with
       |0,_=>simp[WG]at h1;obtain⟨_,e⟩:=h1;simp[e,hv]
       |1,_=>simp[WG]at h3;obtain⟨_,e⟩:=h3;simp[e,hu]
     refine dE.value hI hF (v:=.int k (if q>p then q else p)) ((fw w).trans (bp ?_)) (x:=.c (.d (.int k (if q>p then q else p)))) rfl cE;rw[o9];exact run_max_int2 w _ _ k k' p q
    ·exact cE.elim
   |min=>
    refine aj h fun x h1 h2=>aj h2 fun y h3 h4=>?_
    obtain⟨h5,h6⟩:=h4;refine aj h6 fun v h7 h8=>aj h8 fun u h9 cE=>?_
    have hv:=aJ hS h7;have hu:=aJ hS h9;split at cE
    ·rename_i k p k' q;simp only[aV,dD,bm,bh]at hv hu;have o9:args.map a.eval= #[.int k p,.int k' q]:=by
      apply WJ
      ·simp[h5]
      ·intro i Nt MM;simp at Nt MM
       match i,MM with
       |0,_=>simp[WG]at h1;obtain⟨_,e⟩:=h1;simp[e,hv]
       |1,_=>simp[WG]at h3;obtain⟨_,e⟩:=h3;simp[e,hu]
     refine dE.value hI hF (v:=.int k (if q<p then q else p)) ((fw w).trans (bp ?_)) (x:=.c (.d (.int k (if q<p then q else p)))) rfl cE;rw[o9];exact run_min_int2 w _ _ k k' p q
    ·exact cE.elim
   |_=>exact h.elim
  |_=>exact h.elim
 |_=>exact h.elim
end
end Go.Av
