/- A part. -/
import Derived.WalkKit
import Derived.WalkSpells
import Derived.ChangeKeysEq
set_option linter.unusedVariables false
set_option linter.unusedSimpArgs false
open Nat renaming le_refl->R6,add_mul->R7,zero_le->R8,add_assoc->R9,zero_add->Sa,mul_le_mul_right->Sb,le_trans->Sd,one_mul->Se,zero_mul->Sf,mul_comm->Sg,lt_or_ge->Sh,lt_of_lt_of_le->Si,add_zero->Sj,add_comm->Sk
open List renaming getElem?_eq_some_iff->Sl,getElem?_eq_getElem->Sm,getElem?_append_left->So,getElem?_append_right->Sp,flatten_cons->Sq,mem_of_getElem?->Sr,getElem?_take->Ss,eq_nil_of_length_eq_zero->Su,map_cons->Sv,length_append->Sw,size_toArray->Sx,replicate->Sy,getElem?_of_mem->Sz,getElem?_drop->SA,mem_append->SB,length_cons->SC,getElem?_set_ne->SD,ext_getElem?->SE,append_assoc->SF,zipIdx_cons->SG,length_pos_iff->SH,foldl_cons->SI,flatMap_cons->SJ,take_left->SK,nil_append->SL,mem_filterMap->SM,getElem?_map->SN,getElem?_eq_none->SO,all_eq_true->SP
open Array renaming getElem?_eq_some_iff->SQ,length_toList->SR,toList_map->SS,ext->SU
open Bool renaming false_eq_true->SV
open Option renaming map_eq_some_iff->SW,isSome_iff_exists->SX,getD_some->SY
open Int renaming toNat_natCast->SZ
namespace Go.Av
open Go
inductive DV where
 |int (k:IntKind) (n:Int)
 |bool (b:Bool)
 |str (s:List UInt8)
 |sl (rows:List (List DV))
 |raw (v:Value)
inductive CV where
 |d (x:DV)
 |nil
 |own (k n:Nat)
 |ptr (l off:Nat)
 |np
 |ip (row:List DV) (off:Nat)
 |op (k n i off:Nat)
 |fn (f:FuncId) (cap:List Nat)
 |undef
inductive AV where
 |c (x:CV)
 |agg (xs:List CV)
 |bu (xs:List AV)
structure bp where
 sz:Nat
 eO:TypeId
 rows:List (List DV)
 wr:Bool
structure Gh where
 ob:List Nat
 ar:List Value
 im:Nat->Nat
def bs (s:List UInt8):ByteArray:=⟨s.toArray⟩
mutual
def bc (im:Nat->Nat) (w:World):DV->Value->Prop
 |.int k n,v=>v=.int k n
 |.bool b,v=>v=.bool b
 |.str s,v=>v=.string (bs s)
 |.sl rows,v=>∃a cap,v=.slice a rows.length cap/\rows.length<=cap/\(rows=[]\/∃b off sz,a=some ⟨b,off,none⟩/\off+rows.length*sz<=im b/\bS im w b sz off rows)
 |.raw u,v=>v=u/\u.oneCell'=true
def bS (im:Nat->Nat) (w:World) (b sz:Nat):Nat->List (List DV)->Prop
 |_,[]=>True
 |off,r::rs=>r.length=sz/\cA im w b off r/\bS im w b sz (off+sz) rs
def cA (im:Nat->Nat) (w:World) (b:Nat):Nat->List DV->Prop
 |_,[]=>True
 |off,x::xs=>(∃u,w.cell? ⟨b,off,none⟩=some u/\bc im w x u)/\cA im w b (off+1) xs
end
structure iH (im:Nat->Nat) (w:World) (im':Nat->Nat) (w':World):Prop where
 CS:∀b,im b<=im' b
 cell:∀b o,o<im b->w'.cell? ⟨b,o,none⟩=w.cell? ⟨b,o,none⟩
theorem iH.refl (im:Nat->Nat) (w:World):iH im w im w:=⟨fun _=>R6 _,fun _ _ _=>rfl⟩
theorem iH.trans {im im' im'':Nat->Nat} {w w' w'':World} (h:iH im w im' w') (k:iH im' w' im'' w''):iH im w im'' w'':=
 ⟨fun b=>Sd (h.CS b) (k.CS b),fun b o ho=>(k.cell b o (Si ho (h.CS b))).trans (h.cell b o ho)⟩
mutual
theorem bc.eF {im im':Nat->Nat} {w w':World} (h:iH im w im' w'):∀(x:DV) (v:Value),bc im w x v->bc im' w' x v
 |.int _ _,_,hx=>hx
 |.bool _,_,hx=>hx
 |.str _,_,hx=>hx
 |.sl rows,v,hx=>by
  simp only[bc]at hx⊢;obtain⟨a,cap,e,hc,hr⟩:=hx;refine⟨a,cap,e,hc,hr.imp id ?_⟩;rintro⟨b,off,sz,ha,hi,wg⟩;exact⟨b,off,sz,ha,Sd hi (h.CS b),bS.eF h b sz off rows hi wg⟩
 |.raw _,_,hx=>hx
theorem bS.eF {im im':Nat->Nat} {w w':World} (h:iH im w im' w') (b sz:Nat):∀(off:Nat) (rs:List (List DV)),off+rs.length*sz<=im b->bS im w b sz off rs->bS im' w' b sz off rs
 |_,[],_,_=>by simp[bS]
 |off,r::rs,hi,hx=>by
  simp only[bS]at hx⊢;obtain⟨hl,hr,Gc⟩:=hx;have Ay:off+sz+rs.length*sz<=im b:=by
   simp only[SC,R7,Se]at hi;omega
  exact⟨hl,cA.eF h b off r (by omega) hr,bS.eF h b sz (off+sz) rs Ay Gc⟩
theorem cA.eF {im im':Nat->Nat} {w w':World} (h:iH im w im' w') (b:Nat):∀(off:Nat) (xs:List DV),off+xs.length<=im b->cA im w b off xs->cA im' w' b off xs
 |_,[],_,_=>by simp[cA]
 |off,x::xs,hi,hx=>by
  simp only[cA]at hx⊢;obtain⟨⟨u,hu,hd⟩,hr⟩:=hx;simp only[SC]at hi;exact⟨⟨u,(h.cell b off (by omega)).trans hu,bc.eF h x u hd⟩,cA.eF h b (off+1) xs (by omega) hr⟩
end
theorem cA.at_ {im:Nat->Nat} {w:World} {b:Nat}:∀{xs:List DV} {off:Nat},cA im w b off xs->∀{j:Nat} {x:DV},xs[j]? =some x->∃u,w.cell? ⟨b,off+j,none⟩=some u/\bc im w x u
 |[],_,_,j,x,hx=>by simp at hx
 |y::ys,off,h,0,x,hx=>by
  simp only[cA]at h;simp at hx;subst hx;simpa using h.1
 |y::ys,off,h,j+1,x,hx=>by
  simp only[cA]at h;simp at hx;have:=cA.at_ h.2 hx;simpa[R9,Sk 1 j]using this
theorem cA.mk {im:Nat->Nat} {w:World} {b:Nat}:∀{xs:List DV} {off:Nat},(∀j x,xs[j]? =some x->∃u,w.cell? ⟨b,off+j,none⟩=some u/\bc im w x u)->cA im w b off xs
 |[],_,_=>by simp[cA]
 |y::ys,off,h=>by
  simp only[cA];refine⟨by simpa using h 0 y rfl,cA.mk fun j x hx=>?_⟩;have:=h (j+1) x (by simpa using hx);simpa[R9,Sk 1 j]using this
theorem bS.at_ {im:Nat->Nat} {w:World} {b sz:Nat}:∀{rs:List (List DV)} {off:Nat},bS im w b sz off rs->∀{i:Nat} {r:List DV},rs[i]? =some r->r.length=sz/\cA im w b (off+i*sz) r
 |[],_,_,i,r,hr=>by simp at hr
 |y::ys,off,h,0,r,hr=>by
  simp only[bS]at h;simp at hr;subst hr;simpa using⟨h.1,h.2.1⟩
 |y::ys,off,h,i+1,r,hr=>by
  simp only[bS]at h;simp at hr;have:=bS.at_ h.2.2 hr;rwa[show off+sz+i*sz=off+(i+1)*sz by rw[R7];omega]at this
theorem bS.mk {im:Nat->Nat} {w:World} {b sz:Nat}:∀{rs:List (List DV)} {off:Nat},(∀i r,rs[i]? =some r->r.length=sz/\cA im w b (off+i*sz) r)->bS im w b sz off rs
 |[],_,_=>by simp[bS]
 |y::ys,off,h=>by
  simp only[bS];have h0:=h 0 y rfl;refine⟨h0.1,by simpa using h0.2,bS.mk fun i r hr=>?_⟩;have:=h (i+1) r (by simpa using hr);rwa[show off+(i+1)*sz=off+sz+i*sz by rw[R7];omega]at this
theorem bc.jA {im:Nat->Nat} {w:World}:∀{x:DV} {v:Value},bc im w x v->v.oneCell'=true
 |.int _ _,_,h=>by simp only[bc]at h;subst h;rfl
 |.bool _,_,h=>by simp only[bc]at h;subst h;rfl
 |.str _,_,h=>by simp only[bc]at h;subst h;rfl
 |.sl _,_,h=>by simp only[bc]at h;obtain⟨_,_,rfl,_⟩:=h;rfl
 |.raw _,_,h=>by simp only[bc]at h;obtain⟨rfl,h⟩:=h;exact h
def CV.hM:CV->Bool
 |.undef=>true
 |_=>false
def bj (g:Gh) (w:World) (A:List bp):CV->Value->Prop
 |.d x,v=>bc g.im w x v
 |.nil,v=>v=.slice none 0 0
 |.own k n,v=>∃a cap,v=.slice a n cap/\∃r,A[k]? =some r/\n<=r.rows.length/\(n=r.rows.length->g.ar[k]? =some v)
 |.ptr l off,v=>∃b,g.ob[l]? =some b/\v=.pointer (some ⟨b,off,none⟩)
 |.np,v=>v=.pointer none
 |.ip row off,v=>∃b o,v=.pointer (some ⟨b,o+off,none⟩)/\o+row.length<=g.im b/\cA g.im w b o row
 |.op k n i off,v=>∃b e,v=.pointer (some ⟨b,e,none⟩)/\∃r,A[k]? =some r/\n<=r.rows.length/\(n=r.rows.length->∃cap,g.ar[k]? =some (.slice (some ⟨b,0,none⟩) n cap)/\e=i*r.sz+off)
 |.fn f cap,v=>∃bks:List Nat,v=.func (.func f) #[] (bks.map fun b=>Value.pointer (some ⟨b,0,none⟩)).toArray/\bks.length=cap.length/\∀(i l b:Nat),cap[i]? =some l->bks[i]? =some b->g.ob[l]? =some b
 |.undef,v=>v=undef
def c7 (g:Gh) (w:World) (A:List bp):AV->Value->Prop
 |.c x,v=>bj g w A x v
 |.agg xs,v=>∃vs:List Value,v=.agg vs.toArray/\vs.length=xs.length/\∀(i:Nat) (x:CV) (u:Value),xs[i]? =some x->vs[i]? =some u->bj g w A x u
 |.bu _,_=>False
def aU (g:Gh) (w:World) (A:List bp):AV->Value->Prop
 |.bu xs,v=>∃vs:List Value,v=.tuple vs.toArray/\vs.length=xs.length/\∀(i:Nat) (x:AV) (u:Value),xs[i]? =some x->vs[i]? =some u->c7 g w A x u
 |x,v=>c7 g w A x v
structure Ext (g:Gh) (w:World) (A:List bp) (g':Gh) (w':World) (A':List bp):Prop where
 ob:∀(l b:Nat),g.ob[l]? =some b->g'.ob[l]? =some b
 gr:iH g.im w g'.im w'
 ar:∀(k:Nat) r,A[k]? =some r->∃r',A'[k]? =some r'/\r'.sz=r.sz/\r.rows.length<=r'.rows.length/\(r'.rows.length=r.rows.length->g'.ar[k]? =g.ar[k]?)
theorem Ext.refl (g:Gh) (w:World) (A:List bp):Ext g w A g w A:=
 ⟨fun _ _ h=>h,.refl _ _,fun _ r h=>⟨r,h,rfl,R6 _,fun _=>rfl⟩⟩
theorem Ext.trans {g g' g'':Gh} {w w' w'':World} {A A' A'':List bp} (h:Ext g w A g' w' A') (k:Ext g' w' A' g'' w'' A''):Ext g w A g'' w'' A'':=by
 refine⟨fun l b hb=>k.ob l b (h.ob l b hb),h.gr.trans k.gr,fun i r hr=>?_⟩;obtain⟨r',h1,h2,h3,h4⟩:=h.ar i r hr;obtain⟨r'',k1,k2,k3,k4⟩:=k.ar i r' h1;exact⟨r'',k1,k2.trans h2,Sd h3 k3,fun e=>(k4 (by omega)).trans (h4 (by omega))⟩
section
variable {g g':Gh} {w w':World} {A A':List bp}
theorem bj.ext (h:Ext g w A g' w' A'):∀{c:CV} {v:Value},bj g w A c v->bj g' w' A' c v
 |.d x,v,hx=>bc.eF h.gr x v hx
 |.nil,_,hx=>hx
 |.own k n,v,hx=>by
  obtain⟨a,cap,e,r,hr,hn,hv⟩:=hx;obtain⟨r',h1,_,h3,h4⟩:=h.ar k r hr;exact⟨a,cap,e,r',h1,by omega,fun en=>(h4 (by omega)).trans (hv (by omega))⟩
 |.ptr l off,v,hx=>by
  obtain⟨b,hb,e⟩:=hx;exact⟨b,h.ob l b hb,e⟩
 |.np,_,hx=>hx
 |.ip row off,v,hx=>by
  obtain⟨b,o,e,hi,hr⟩:=hx;exact⟨b,o,e,Sd hi (h.gr.CS b),cA.eF h.gr b o row hi hr⟩
 |.op k n i off,v,hx=>by
  obtain⟨b,e,hv,r,hr,hn,hq⟩:=hx;obtain⟨r',h1,h2,h3,h4⟩:=h.ar k r hr;refine⟨b,e,hv,r',h1,by omega,fun en=>?_⟩;obtain⟨cap,hc,he⟩:=hq (by omega);exact⟨cap,(h4 (by omega)).trans hc,by rw[h2];exact he⟩
 |.fn f cap,v,hx=>by
  obtain⟨bks,e,hl,hb⟩:=hx;exact⟨bks,e,hl,fun i l b h1 h2=>h.ob l b (hb i l b h1 h2)⟩
 |.undef,_,hx=>hx
theorem c7.ext (h:Ext g w A g' w' A'):∀{x:AV} {v:Value},c7 g w A x v->c7 g' w' A' x v
 |.c _,_,hx=>bj.ext h hx
 |.agg _,_,hx=>by
  obtain⟨vs,e,hl,hc⟩:=hx;exact⟨vs,e,hl,fun i x u h1 h2=>bj.ext h (hc i x u h1 h2)⟩
 |.bu _,_,hx=>hx.elim
theorem aU.ext (h:Ext g w A g' w' A'):∀{x:AV} {v:Value},aU g w A x v->aU g' w' A' x v
 |.c x,_,hx=>c7.ext (x:=.c x) h hx
 |.agg xs,_,hx=>c7.ext (x:=.agg xs) h hx
 |.bu _,_,hx=>by
  obtain⟨vs,e,hl,hc⟩:=hx;exact⟨vs,e,hl,fun i x u h1 h2=>c7.ext h (hc i x u h1 h2)⟩
theorem bj.jA:∀{c:CV} {v:Value},c.hM=false->bj g w A c v->v.oneCell'=true
 |.d _,_,_,h=>bc.jA h
 |.nil,_,_,h=>by simp only[bj]at h;subst h;rfl
 |.own _ _,_,_,h=>by obtain⟨_,_,rfl,_⟩:=h;rfl
 |.ptr _ _,_,_,h=>by obtain⟨_,_,rfl⟩:=h;rfl
 |.np,_,_,h=>by simp only[bj]at h;subst h;rfl
 |.ip _ _,_,_,h=>by obtain⟨_,_,rfl,_⟩:=h;rfl
 |.op _ _ _ _,_,_,h=>by obtain⟨_,_,rfl,_⟩:=h;rfl
 |.fn _ _,_,_,h=>by obtain⟨_,rfl,_⟩:=h;rfl
 |.undef,_,hu,_=>by simp[CV.hM]at hu
end
def AV.cells:AV->List CV
 |.c x=>[x]
 |.agg xs=>xs
 |.bu _=>[]
structure Inv (g:Gh) (w:World) (V:List (List CV)) (A:List bp):Prop where
 nD:g.ob.length=V.length
 j7:g.ar.length=A.length
 obj:∀(l:Nat) row b,V[l]? =some row->g.ob[l]? =some b->g.im b=0/\∃cs ty,w.heap[b]? =some (.cells cs ty (0,0))/\cs.size=row.length/\∀(j:Nat) c u,row[j]? =some c->cs[j]? =some u->bj g w A c u
 arr:∀(k:Nat) r v,A[k]? =some r->g.ar[k]? =some v->(∀row∈r.rows,row.length=r.sz)/\(∀b,v.ownBlock=some b->g.im b<=if r.wr then 0 else r.rows.length*r.sz)/\
  ∃xs,w.ownsRow 0 r.eO r.sz v r.rows.length xs/\∀(j:Nat) x u,r.rows.flatten[j]? =some x->xs[j]? =some u->bc g.im w x u
 jx:∀(l l' b:Nat),g.ob[l]? =some b->g.ob[l']? =some b->l=l'
 gF:∀(k k':Nat) v v' b,g.ar[k]? =some v->g.ar[k']? =some v'->v.ownBlock=some b->v'.ownBlock=some b->k=k'
 ic:∀(l k:Nat) v b,g.ob[l]? =some b->g.ar[k]? =some v->v.ownBlock≠some b
 fresh:∀b,w.heap.size<=b->g.im b=0
def Gh.gC (g:Gh):List Nat:=g.ar.filterMap Value.ownBlock
theorem Gh.jB {g:Gh} {k:Nat} {v:Value} {b:Nat} (h:g.ar[k]? =some v) (hb:v.ownBlock=some b):b∈g.gC:=SM.2 ⟨v,Sr h,hb⟩
theorem Gh.eG {g:Gh} {b:Nat} (h:b∈g.gC):∃(k:Nat) (v:Value),g.ar[k]? =some v/\v.ownBlock=some b:=by
 obtain⟨v,h1,h2⟩:=SM.1 h;obtain⟨k,hk⟩:=Sz h1;exact⟨k,v,hk,h2⟩
def oS:Value->Nat
 |.slice _ n _=>n
 |_=>0
def Hg:Option Nat:=none
def Hh:List Nat:=[]
def lX (b:Nat):Prop:=Hg=some b\/b∈Hh
def CT:Array Value:= #[.int .u64 1,.int .u64 10,.int .u64 100,.int .u64 1000,.int .u64 10000,.int .u64 100000,.int .u64 1000000,.int .u64 10000000,.int .u64 100000000,.int .u64 1000000000,.int .u64 10000000000,.int .u64 100000000000,.int .u64 1000000000000,.int .u64 10000000000000,.int .u64 100000000000000,.int .u64 1000000000000000,.int .u64 10000000000000000,.int .u64 100000000000000000,.int .u64 1000000000000000000,.int .u64 10000000000000000000]
def L8 (b:Nat) (o:Option Obj):Prop:=(Hg=some b->∃ty mk,o=some (.cells CT ty mk))/\(b∈Hh->∃cs ty mk te pe,o=some (.cells cs ty mk)/\cs[0]? =some (.iface te pe))
def zg (w:World) (g:Gh):Prop:=∀b,lX b->b<w.heap.size/\b∉g.ob/\b∉g.gC/\L8 b w.heap[b]?
theorem zg.less {w:World} {g g':Gh} (h:zg w g) (ho:∀b∈g'.ob,b∈g.ob) (ha:∀b∈g'.gC,b∈g.gC):zg w g':=fun b hb=>by
 obtain⟨h1,h2,h3,h4⟩:=h b hb;exact⟨h1,fun q=>h2 (ho b q),fun q=>h3 (ha b q),h4⟩
structure Fr (w0:World) (g0:Gh) (w:World) (g:Gh):Prop where
 os:w.os=w0.os
 tape:w.tape=w0.tape
 output:w.output=w0.output
 size:w0.heap.size<=w.heap.size
 oO:∀b,b<w0.heap.size->b∉g0.ob->b∉g0.gC->w.heap[b]? =w0.heap[b]?
 gG:∀b,b<w0.heap.size->b∉g0.gC->g.im b=g0.im b
 ob:∃new,g.ob=g0.ob++new/\∀b∈new,w0.heap.size<=b
 ar:∀(k:Nat) v b,g.ar[k]? =some v->v.ownBlock=some b->w0.heap.size<=b\/b∈g0.gC
 uE:∀(k:Nat) v,g0.ar[k]? =some v->∃v',g.ar[k]? =some v'/\oS v<=oS v'/\(oS v'=oS v->v'=v)
 wh:zg w0 g0
theorem Fr.now {w0 w:World} {g0 g:Gh} (h:Fr w0 g0 w g):zg w g:=fun b hb=>by
 obtain⟨h1,h2,h3,h4⟩:=h.wh b hb;refine⟨Si h1 h.size,fun hm=>?_,fun hm=>?_,?_⟩
 ·obtain⟨new,e,hn⟩:=h.ob;rw[e]at hm;rcases SB.1 hm with q|q
  ·exact h2 q
  ·exact absurd (hn b q) (by omega)
 ·obtain⟨k,v,q1,q2⟩:=Gh.eG hm;rcases h.ar k v b q1 q2 with q|q
  ·omega
  ·exact h3 q
 ·rw[h.oO b h1 h2 h3];exact h4
theorem Fr.refl {w:World} {g:Gh} (ht:zg w g):Fr w g w g:=
 ⟨rfl,rfl,rfl,R6 _,fun _ _ _ _=>rfl,fun _ _ _=>rfl,⟨[],by simp,by simp⟩,fun k v b hk hb=>.inr (Gh.jB hk hb),fun k v h=>⟨v,h,R6 _,fun _=>rfl⟩,ht⟩
theorem Fr.L9 {w0 w:World} {g0 g:Gh} (h:Fr w0 g0 w g) (h0:g0.ar=[]):∀(k:Nat) v b,g.ar[k]? =some v->v.ownBlock=some b->w0.heap.size<=b:=fun k v b h1 h2=>by
 rcases h.ar k v b h1 h2 with h3|h3
 ·exact h3
 ·simp[Gh.gC,h0]at h3
structure St where
 fr:List (Nat×AV)
 V:List (List CV)
 A:List bp
theorem gen {X:St->Prop} {d:Nat} {b:Bool} {fr:List (Nat×AV)} {V:List (List CV)} {A:List bp} (h:∀q:Bool,b=q->X ⟨(d,.c (.d (.bool q)))::fr,V,A⟩):X ⟨(d,.c (.d (.bool b)))::fr,V,A⟩:=h b rfl
section
variable {d:Nat} {b:Bool} {fr:List (Nat×AV)} {V:List (List CV)} {A:List bp}
theorem gen2 {X:St->Prop} (h0:b=false->X ⟨(d,.c (.d (.bool false)))::fr,V,A⟩) (h1:b=true->X ⟨(d,.c (.d (.bool true)))::fr,V,A⟩):X ⟨(d,.c (.d (.bool b)))::fr,V,A⟩:=by cases b;exact h0 rfl;exact h1 rfl
theorem J2 {Y:Type} {X:St->Y->Prop} {L:Y} (h0:b=false->X ⟨(d,.c (.d (.bool false)))::fr,V,A⟩ L) (h1:b=true->X ⟨(d,.c (.d (.bool true)))::fr,V,A⟩ L):X ⟨(d,.c (.d (.bool b)))::fr,V,A⟩ L:=by cases b;exact h0 rfl;exact h1 rfl
end
def look:List (Nat×AV)->Nat->Option AV
 |[],_=>none
 |(t,x)::r,s=>if s=t then some x else look r s
structure Rp (n:Nat) (w0:World) (g0:Gh) (s:St) (g:Gh) (a:Act) (w:World):Prop where
 inv:Inv g w s.V s.A
 fr:Fr w0 g0 w g
 size:a.tmps.size=n
 defers:a.defers=[]
 slot:∀t x,look s.fr t=some x->∃u,a.tmps[t]? =some u/\aU g w s.A x u
section
variable {g g' g0:Gh} {w w' w0:World} {V V':List (List CV)} {A A':List bp}
theorem Fr.Jh (h:Fr w0 g0 w g) {l b:Nat} (hb:g.ob[l]? =some b):b∈g0.ob\/w0.heap.size<=b:=by
 obtain⟨new,e,hn⟩:=h.ob;rw[e]at hb;have:=Sr hb;rcases SB.1 this with h1|h1
 ·exact .inl h1
 ·exact .inr (hn b h1)
theorem kM {base:Nat} {e:TypeId} {sz:Nat} {v:Value} {n:Nat} {xs:List Value} (h:w.ownsRow base e sz v n xs) (hb:∀b,v.ownBlock=some b->w'.heap[b]? =w.heap[b]?):w'.ownsRow base e sz v n xs:=by
 refine⟨h.1,?_⟩;rcases h.2 with h2|⟨b,cap,cur,hv,h3,hh,r⟩
 ·exact .inl h2
 ·exact .inr ⟨b,cap,cur,hv,h3,by rw[hb b (by rw[hv];rfl)];exact hh,r⟩
theorem oT {base:Nat} {e:TypeId} {sz:Nat} {v:Value} {n:Nat} {xs:List Value} (h:w.ownsRow base e sz v n xs):oS v=n:=by
 rcases h.2 with⟨rfl,h3⟩|⟨b,cap,cur,hv,_⟩
 ·simp only[oS];simp_all
 ·rw[hv];rfl
theorem Inv.oU (h:Inv g w V A) {l b:Nat} (hb:g.ob[l]? =some b):b<w.heap.size:=by
 have hl:l<V.length:=by
  rw[<-h.nD];exact(Sl.1 hb).1
 obtain⟨_,cs,ty,hh,_⟩:=h.obj l _ b (Sm hl) hb;exact(SQ.1 hh).1
theorem Inv.kN (h:Inv g w V A) {k b:Nat} {v:Value} (hv:g.ar[k]? =some v) (hb:v.ownBlock=some b):b<w.heap.size:=by
 have hl:k<A.length:=by
  rw[<-h.j7];exact(Sl.1 hv).1
 obtain⟨_,_,xs,ho,_⟩:=h.arr k _ v (Sm hl) hv;exact(ho.lt b hb).2
theorem Inv.Bs (h:Inv g w V A) {b o:Nat} (ho:o<g.im b):b<w.heap.size:=by
 rcases Sh b w.heap.size with h1|h1
 ·exact h1
 ·have:=h.fresh b h1;omega
theorem Inv.eH (h:Inv g w V A) (hx:Ext g w A g' w' A') {l b:Nat} {row:List CV} (hl:V[l]? =some row) (hb:g.ob[l]? =some b) (hh:w'.heap[b]? =w.heap[b]?) (hi:g'.im b=0):
  g'.im b=0/\∃cs ty,w'.heap[b]? =some (.cells cs ty (0,0))/\cs.size=row.length/\∀(j:Nat) c u,row[j]? =some c->cs[j]? =some u->bj g' w' A' c u:=by
 obtain⟨_,cs,ty,hc,hs,hr⟩:=h.obj l row b hl hb;exact⟨hi,cs,ty,hh.trans hc,hs,fun j c u h1 h2=>bj.ext hx (hr j c u h1 h2)⟩
theorem Inv.eI (h:Inv g w V A) (hx:Ext g w A g' w' A') {k:Nat} {r:bp} {v:Value} (hk:A[k]? =some r) (hv:g.ar[k]? =some v)
  (hh:∀b,v.ownBlock=some b->w'.heap[b]? =w.heap[b]?) (hi:∀b,v.ownBlock=some b->g'.im b=g.im b):
  (∀row∈r.rows,row.length=r.sz)/\(∀b,v.ownBlock=some b->g'.im b<=if r.wr then 0 else r.rows.length*r.sz)/\
  ∃xs,w'.ownsRow 0 r.eO r.sz v r.rows.length xs/\∀(j:Nat) x u,r.rows.flatten[j]? =some x->xs[j]? =some u->bc g'.im w' x u:=by
 obtain⟨h1,h2,xs,ho,hr⟩:=h.arr k r v hk hv;exact⟨h1,fun b hb=>by rw[hi b hb];exact h2 b hb,xs,kM ho hh,fun j x u hj hu=>bc.eF hx.gr x u (hr j x u hj hu)⟩
theorem Inv.heap (h:Inv g w V A) (hh:w'.heap=w.heap):Inv g w' V A/\Ext g w A g w' A:=by
 have hx:Ext g w A g w' A:=⟨fun _ _ h=>h,⟨fun _=>R6 _,fun b o _=>by simp[World.cell?,hh]⟩,fun _ r h=>⟨r,h,rfl,R6 _,fun _=>rfl⟩⟩;refine⟨⟨h.nD,h.j7,fun l row b h1 h2=>?_,fun k r v h1 h2=>?_,h.jx,h.gF,h.ic,fun b hb=>h.fresh b (by rwa[hh]at hb)⟩,hx⟩
 ·exact h.eH hx h1 h2 (by rw[hh]) (h.obj l row b h1 h2).1
 ·exact h.eI hx h1 h2 (fun _ _=>by rw[hh]) (fun _ _=>rfl)
theorem Fr.heap (h:Fr w0 g0 w g) (hh:w'.heap=w.heap) (ho:w'.os=w.os) (ht:w'.tape=w.tape) (hp:w'.output=w.output):Fr w0 g0 w' g:=
 ⟨ho.trans h.os,ht.trans h.tape,hp.trans h.output,by rw[hh];exact h.size,fun b h1 h2 h3=>by rw[hh];exact h.oO b h1 h2 h3,h.gG,h.ob,h.ar,h.uE,h.wh⟩
theorem Inv.dG (h:Inv g w V A) (o:Obj) (m:Nat):∃g',g'={g with im:=fun b=>if b=w.heap.size then m else g.im b}/\Inv g' (w.alloc o) V A/\Ext g w A g' (w.alloc o) A:=by
 have CU:∀b,b<w.heap.size->(w.alloc o).heap[b]? =w.heap[b]? :=fun b hb=>RowKit.Below.heap_alloc w o b hb
 have rL:∀b,b<w.heap.size->(if b=w.heap.size then m else g.im b)=g.im b:=fun b hb=>by rw[if_neg (by omega)]
 have hx:Ext g w A {g with im:=fun b=>if b=w.heap.size then m else g.im b} (w.alloc o) A:=by
  refine⟨fun _ _ h=>h,⟨fun b=>?_,fun b o' ho=>?_⟩,fun _ r h=>⟨r,h,rfl,R6 _,fun _=>rfl⟩⟩
  ·show g.im b<=if b=w.heap.size then m else g.im b
   split
   ·rename_i e;rw[h.fresh b (by omega)];exact R8 _
   ·exact R6 _
  ·exact World.cell?_of_block (a:=⟨b,o',none⟩) (CU b (h.Bs ho))
 refine⟨_,rfl,⟨h.nD,h.j7,fun l row b h1 h2=>?_,fun k r v h1 h2=>?_,h.jx,h.gF,h.ic,fun b hb=>?_⟩,hx⟩
 ·exact h.eH hx h1 h2 (CU b (h.oU h2)) ((rL b (h.oU h2)).trans (h.obj l row b h1 h2).1)
 ·exact h.eI hx h1 h2 (fun b hb=>CU b (h.kN h2 hb)) (fun b hb=>rL b (h.kN h2 hb))
 ·have hs:(w.alloc o).heap.size=w.heap.size+1:=by simp
  show(if b=w.heap.size then m else g.im b)=0;rw[hs]at hb;rw[if_neg (by omega)];exact h.fresh b (by omega)
theorem Fr.dG (h:Fr w0 g0 w g) (o:Obj) (m:Nat):Fr w0 g0 (w.alloc o) {g with im:=fun b=>if b=w.heap.size then m else g.im b}:=by
 have hs:(w.alloc o).heap.size=w.heap.size+1:=by simp
 refine⟨h.os,h.tape,h.output,by rw[hs];have:=h.size;omega,fun b h1 h2 h3=>?_,fun b hb eJ=>?_,h.ob,h.ar,h.uE,h.wh⟩
 ·rw[RowKit.Below.heap_alloc w o b (by have:=h.size;omega)];exact h.oO b h1 h2 h3
 ·show(if b=w.heap.size then m else g.im b)=_;have:=h.size;rw[if_neg (by omega)];exact h.gG b hb eJ
theorem Inv.newObj (h:Inv g w V A) (hf:Fr w0 g0 w g) (cs:Array Value) (ty:TypeId) (row:List CV) (hs:cs.size=row.length) (hr:∀(j:Nat) c u,row[j]? =some c->cs[j]? =some u->bj g w A c u):
  ∃g',Inv g' (w.alloc (.cells cs ty)) (V++[row]) A/\Ext g w A g' (w.alloc (.cells cs ty)) A/\Fr w0 g0 (w.alloc (.cells cs ty)) g'/\g'.ob[V.length]? =some w.heap.size:=by
 obtain⟨g1,ve,hi,hx⟩:=h.dG (.cells cs ty) 0;have Bt:=hf.dG (.cells cs ty) 0;rw[<-ve]at Bt
 have gA:Ext g1 (w.alloc (.cells cs ty)) A {g1 with ob:=g1.ob++[w.heap.size]} (w.alloc (.cells cs ty)) A:=
  ⟨fun l b hb=>by show(g1.ob++[w.heap.size])[l]? =some b;rw[So (Sl.1 hb).1];exact hb,.refl _ _,fun _ r h=>⟨r,h,rfl,R6 _,fun _=>rfl⟩⟩
 have aC:∀(l b:Nat),g1.ob[l]? =some b->b<w.heap.size:=fun l b hb=>by
  subst ve;exact h.oU (g:=g) hb
 have dc:∀(l b:Nat),(g1.ob++[w.heap.size])[l]? =some b->(g1.ob[l]? =some b/\b<w.heap.size)\/(l=V.length/\b=w.heap.size):=fun l b hb=>by
  rcases Sh l g1.ob.length with h1|h1
  ·rw[So h1]at hb;exact .inl ⟨hb,aC l b hb⟩
  ·rw[Sp h1]at hb;have h0:l-g1.ob.length=0:=by
    have:=(Sl.1 hb).1;simp at this;omega
   rw[h0]at hb;simp at hb;exact .inr ⟨by rw[<-hi.nD];omega,hb.symm⟩
 have rL:g1.im w.heap.size=0:=by subst ve;simp
 have CW:∀(k:Nat) (v:Value) (b:Nat),g1.ar[k]? =some v->v.ownBlock=some b->b<w.heap.size:=fun k v b hv hb=>by
  subst ve;exact h.kN (g:=g) hv hb
 refine⟨{g1 with ob:=g1.ob++[w.heap.size]},⟨by simp[hi.nD],hi.j7,fun l row' b h1 h2=>?_,fun k r v h1 h2=>?_,fun l l' b h1 h2=>?_,hi.gF,fun l k v b h1 h2=>?_,hi.fresh⟩,hx.trans gA,?_,?_⟩
 ·rcases dc l b h2 with⟨h3,h4⟩|⟨h3,h4⟩
  ·have h5:V[l]? =some row':=by
    have:l<V.length:=by rw[<-hi.nD];exact(Sl.1 h3).1
    rwa[So this]at h1
   exact hi.eH gA h5 h3 rfl (hi.obj l row' b h5 h3).1
  ·subst h3;subst h4;simp at h1;subst h1;exact⟨rL,cs,ty,heap_alloc_new w _,hs,fun j c u h6 h7=>bj.ext (hx.trans gA) (hr j c u h6 h7)⟩
 ·exact hi.eI gA h1 h2 (fun _ _=>rfl) (fun _ _=>rfl)
 ·rcases dc l b h1 with⟨h3,h4⟩|⟨h3,h4⟩<;>rcases dc l' b h2 with⟨h5,h6⟩|⟨h5,h6⟩
  ·exact hi.jx l l' b h3 h5
  ·omega
  ·omega
  ·omega
 ·rcases dc l b h1 with⟨h3,h4⟩|⟨h3,h4⟩
  ·exact hi.ic l k v b h3 h2
  ·intro hb;have:=CW k v b h2 hb;omega
 ·refine⟨Bt.os,Bt.tape,Bt.output,Bt.size,Bt.oO,Bt.gG,?_,Bt.ar,Bt.uE,Bt.wh⟩;obtain⟨new,e,hn⟩:=Bt.ob;exact⟨new++[w.heap.size],by show g1.ob++[w.heap.size]=_;rw[e];simp,fun b hb=>by
   rcases SB.1 hb with h1|h1
   ·exact hn b h1
   ·simp at h1;rw[h1];exact hf.size⟩
 ·show(g1.ob++[w.heap.size])[V.length]? =some w.heap.size;rw[Sp (by rw[hi.nD];exact R6 _),hi.nD];simp
theorem b4 (w:World) (b k:Nat) (cs:Array Value) (h:k≠b):(w.setRow b cs).heap[k]? =w.heap[k]? :=by
 simp only[World.setRow,Array.getElem?_modify];rw[if_neg (fun e=>h e.symm)]
theorem Ext.setRow (g:Gh) (w:World) (A:List bp) (b:Nat) (cs:Array Value) (h:g.im b=0):Ext g w A g (w.setRow b cs) A:=by
 refine⟨fun _ _ h=>h,⟨fun _=>R6 _,fun b' o ho=>?_⟩,fun _ r h=>⟨r,h,rfl,R6 _,fun _=>rfl⟩⟩;exact World.cell?_of_block (a:=⟨b',o,none⟩) (b4 w b b' cs (fun e=>by subst e;omega))
theorem Fr.setRow (hf:Fr w0 g0 w g) (b:Nat) (cs:Array Value) (h:b∈g0.ob\/w0.heap.size<=b\/b∈g0.gC):Fr w0 g0 (w.setRow b cs) g:=
 ⟨hf.os,hf.tape,hf.output,by simpa using hf.size,fun b' h1 h2 h3=>by
  rw[b4 w b b' cs (fun e=>by subst e;rcases h with h|h|h<;>first|exact h2 h|exact h3 h|omega)];exact hf.oO b' h1 h2 h3,hf.gG,hf.ob,hf.ar,hf.uE,hf.wh⟩
theorem Inv.setObj (h:Inv g w V A) (hf:Fr w0 g0 w g) {l b:Nat} {row row':List CV} (hl:V[l]? =some row) (hb:g.ob[l]? =some b) (cs:Array Value) (hs:cs.size=row'.length)
  (hr:∀(j:Nat) c u,row'[j]? =some c->cs[j]? =some u->bj g w A c u):
  Inv g (w.setRow b cs) (V.set l row') A/\Ext g w A g (w.setRow b cs) A/\Fr w0 g0 (w.setRow b cs) g:=by
 obtain⟨hi,cs0,ty,hh,_⟩:=h.obj l row b hl hb;have hx:=Ext.setRow g w A b cs hi;refine⟨⟨by rw[h.nD];simp,h.j7,fun l' rw' b' h1 h2=>?_,fun k r v h1 h2=>?_,h.jx,h.gF,h.ic,fun b' eJ=>h.fresh b' (by simpa using eJ)⟩,hx,hf.setRow b cs ((hf.Jh hb).imp_right .inl)⟩
 ·by_cases e:l'=l
  ·subst e;obtain rfl:b=b':=by rw[hb]at h2;exact Option.some.inj h2
   have aC:=(Sl.1 hl).1;simp[aC]at h1;subst h1;exact⟨hi,cs,ty,setRow_heap w b cs0 cs ty (0,0) hh,hs,fun j c u h3 h4=>bj.ext hx (hr j c u h3 h4)⟩
  ·rw[SD (by omega)]at h1;have cN:b'≠b:=fun e'=>e (h.jx l' l b' h2 (e'▸hb))
   exact h.eH hx h1 h2 (b4 w b b' cs cN) (h.obj l' rw' b' h1 h2).1
 ·exact h.eI hx h1 h2 (fun b' eJ=>b4 w b b' cs (fun e=>by subst e;exact h.ic l k v _ hb h2 eJ)) (fun _ _=>rfl)
theorem Inv.p9 (h:Inv g w V A) (hf:Fr w0 g0 w g) (r:bp) (v:Value) (xs:List Value) (h1:∀row∈r.rows,row.length=r.sz) (ho:w.ownsRow 0 r.eO r.sz v r.rows.length xs)
  (hr:∀(j:Nat) x u,r.rows.flatten[j]? =some x->xs[j]? =some u->bc g.im w x u)
  (hb:∀b,v.ownBlock=some b->g.im b=0/\w0.heap.size<=b/\(∀l:Nat,g.ob[l]? ≠some b)/\∀(k:Nat) v',g.ar[k]? =some v'->v'.ownBlock≠some b):
  ∃g',g'.im=g.im/\g'.ob=g.ob/\g'.ar=g.ar++[v]/\Inv g' w V (A++[r])/\Ext g w A g' w (A++[r])/\Fr w0 g0 w g':=by
 have hx:Ext g w A {g with ar:=g.ar++[v]} w (A++[r]):=by
  refine⟨fun _ _ h=>h,.refl _ _,fun k r' hk=>⟨r',?_,rfl,R6 _,fun _=>?_⟩⟩
  ·rw[So (Sl.1 hk).1];exact hk
  ·show(g.ar++[v])[k]? =_;rw[So (by rw[h.j7];exact(Sl.1 hk).1)]
 have dc:∀(k:Nat) (v':Value),(g.ar++[v])[k]? =some v'->g.ar[k]? =some v'\/(k=A.length/\v'=v):=fun k v' hk=>by
  rcases Sh k g.ar.length with h1|h1
  ·rw[So h1]at hk;exact .inl hk
  ·rw[Sp h1]at hk;have h0:k-g.ar.length=0:=by
    have:=(Sl.1 hk).1;simp at this;omega
   rw[h0]at hk;simp at hk;exact .inr ⟨by rw[<-h.j7];omega,hk.symm⟩
 refine⟨{g with ar:=g.ar++[v]},rfl,rfl,rfl,⟨h.nD,by simp[h.j7],fun l row b h2 h3=>?_,fun k r' v' h2 h3=>?_,h.jx,fun k k' v1 v2 b h2 h3 h4 h5=>?_,fun l k v' b h2 h3=>?_,h.fresh⟩,hx,?_⟩
 ·exact h.eH hx h2 h3 rfl (h.obj l row b h2 h3).1
 ·rcases dc k v' h3 with h4|⟨h4,h5⟩
  ·have h6:A[k]? =some r':=by
    have:k<A.length:=by rw[<-h.j7];exact(Sl.1 h4).1
    rwa[So this]at h2
   exact h.eI hx h6 h4 (fun _ _=>rfl) (fun _ _=>rfl)
  ·subst h4;subst h5;simp at h2;subst h2;exact⟨h1,fun b hv=>by show g.im b<=_;rw[(hb b hv).1];exact R8 _,xs,ho,hr⟩
 ·rcases dc k v1 h2 with h6|⟨h6,h7⟩<;>rcases dc k' v2 h3 with h8|⟨h8,h9⟩
  ·exact h.gF k k' v1 v2 b h6 h8 h4 h5
  ·subst h9;exact absurd h4 ((hb b h5).2.2.2 k v1 h6)
  ·subst h7;exact absurd h5 ((hb b h4).2.2.2 k' v2 h8)
  ·omega
 ·rcases dc k v' h3 with h4|⟨h4,h5⟩
  ·exact h.ic l k v' b h2 h4
  ·subst h5;intro hv;exact(hb b hv).2.2.1 l h2
 ·refine⟨hf.os,hf.tape,hf.output,hf.size,hf.oO,hf.gG,hf.ob,fun k v' b h2 h3=>?_,fun k v' h2=>?_,hf.wh⟩
  ·rcases dc k v' h2 with h4|⟨h4,h5⟩
   ·exact hf.ar k v' b h4 h3
   ·subst h5;exact .inl (hb b h3).2.1
  ·obtain⟨v2,h3,h4⟩:=hf.uE k v' h2;exact⟨v2,by show(g.ar++[v])[k]? =some v2;rw[So (Sl.1 h3).1];exact h3,h4⟩
end
theorem iZ {α:Type} {sz:Nat}:∀{rows:List (List α)},(∀row∈rows,row.length=sz)->∀{i j:Nat} {row:List α} {x:α},rows[i]? =some row->row[j]? =some x->rows.flatten[i*sz+j]? =some x
 |[],_,i,j,row,x,h,_=>by simp at h
 |r::rs,hl,0,j,row,x,h,hx=>by
  simp at h;subst h;have hj:=(Sl.1 hx).1;simp only[Sq,Sf,Sa];rw[So hj];exact hx
 |r::rs,hl,i+1,j,row,x,h,hx=>by
  simp at h;have hr:r.length=sz:=hl r (by simp);have ih:=iZ (fun q hq=>hl q (by simp[hq])) h hx;simp only[Sq];rw[Sp (by rw[hr,R7];omega)];rwa[show(i+1)*sz+j-r.length=i*sz+j by rw[hr,R7];omega]
theorem dA {α:Type} {sz:Nat}:∀{rows:List (List α)},(∀row∈rows,row.length=sz)->rows.flatten.length=rows.length*sz
 |[],_=>by simp
 |r::rs,hl=>by
  have hr:r.length=sz:=hl r (by simp);have ih:=dA (rows:=rs) (fun q hq=>hl q (by simp[hq]));simp only[Sq,Sw,SC,ih,hr,R7];omega
def bH {α:Type} (l:List α) (off:Nat) (ds:List α):List α:=l.take off++ds++l.drop (off+ds.length)
theorem ei {α:Type} {l:List α} {off:Nat} {ds:List α} (h:off+ds.length<=l.length):(bH l off ds).length=l.length:=by
 simp[bH];omega
theorem ez {α:Type} {l:List α} {off:Nat} {ds:List α} (h:off+ds.length<=l.length) (j:Nat):(bH l off ds)[j]? =if off<=j/\j<off+ds.length then ds[j-off]? else l[j]? :=by
 simp only[bH,SF];by_cases h1:j<off
 ·rw[if_neg (by omega),So (by simp;omega),Ss,if_pos h1]
 ·by_cases h2:j<off+ds.length
  ·rw[if_pos (by omega),Sp (by simp;omega),So (by simp;omega)]
   congr 1;simp;omega
  ·rw[if_neg (by omega),Sp (by simp;omega),Sp (by simp;omega),SA]
   congr 1;simp;omega
theorem lY {α:Type} {sz:Nat}:∀{rows:List (List α)},(∀row∈rows,row.length=sz)->∀{i off:Nat} {row ds:List α},rows[i]? =some row->off+ds.length<=sz->
  (rows.set i (bH row off ds)).flatten=bH rows.flatten (i*sz+off) ds
 |[],_,i,_,row,_,h,_=>by simp at h
 |r::rs,hl,0,off,row,ds,h,ho=>by
  simp at h;subst h;have hr:r.length=sz:=hl r (by simp);simp only[List.set_cons_zero,Sq,Sf,Sa,bH];rw[List.take_append_of_le_length (by omega),List.drop_append_of_le_length (by omega)];simp
 |r::rs,hl,i+1,off,row,ds,h,ho=>by
  simp at h;have hr:r.length=sz:=hl r (by simp);have ih:=lY (fun q hq=>hl q (by simp[hq])) h ho;simp only[List.set_cons_succ,Sq,ih];have e:(i+1)*sz+off=r.length+(i*sz+off):=by rw[hr,R7];omega
  rw[e];simp only[bH,R9,List.take_length_add_append,List.drop_length_add_append,SF]
section
variable {g g' g0:Gh} {w w' w0:World} {V V':List (List CV)} {A A':List bp} {P:Program}
theorem xx {im:Nat->Nat} {r:bp} {v:Value} {xs:List Value} (h1:∀row∈r.rows,row.length=r.sz) (ho:w.ownsRow 0 r.eO r.sz v r.rows.length xs)
  (hr:∀(j:Nat) x u,r.rows.flatten[j]? =some x->xs[j]? =some u->bc im w x u) (hi:∀b,v.ownBlock=some b->r.rows.length*r.sz<=im b):bc im w (.sl r.rows) v:=by
 simp only[bc];have yW:=ho;rcases ho.2 with⟨hv,hn⟩|⟨b,cap,cur,hv,_,hh,EW,_,sJ,vf⟩
 ·have IH:r.rows=[]:=Su hn;exact⟨none,0,by rw[hv,hn],by omega,.inl IH⟩
 ·refine⟨some ⟨b,0,none⟩,cap,hv,EW,.inr ⟨b,0,r.sz,rfl,by have:=hi b (by rw[hv];rfl);omega,?_⟩⟩;refine bS.mk fun i row cV=>⟨h1 row (Sr cV),cA.mk fun j x hx=>?_⟩
  have hf:=iZ h1 cV hx;have aC:i*r.sz+j<xs.length:=by
   have:=(Sl.1 hf).1;rw[dA h1]at this;rw[yW.1];exact this
  have hu:xs[i*r.sz+j]? =some xs[i*r.sz+j]:=Sm aC;refine⟨_,?_,hr _ x _ hf hu⟩;have hc:=yW.cells (g:=b) (by rw[hv];rfl) _ _ hu;have od:(⟨b,0,none⟩:Addr).add (i*r.sz+j)=⟨b,0+i*r.sz+j,none⟩:=by unfold Addr.add;split<;>simp_all
  rwa[od]at hc
theorem Inv.seal (h:Inv g w V A) (hf:Fr w0 g0 w g) {k:Nat} {r:bp} {v:Value} (hk:A[k]? =some r) (hv:g.ar[k]? =some v):
  ∃g',Inv g' w V (A.set k {r with wr:=false})/\Ext g w A g' w (A.set k {r with wr:=false})/\Fr w0 g0 w g'/\g'.ar=g.ar/\g'.ob=g.ob/\bc g'.im w (.sl r.rows) v:=by
 obtain⟨h1,h2,xs,ho,hr⟩:=h.arr k r v hk hv
 let im':Nat->Nat:=fun b=>if v.ownBlock=some b then max (g.im b) (r.rows.length*r.sz)else g.im b
 have sK:iH g.im w im' w:=⟨fun b=>by simp only[im'];split<;>omega,fun _ _ _=>rfl⟩;have aC:=(Sl.1 hk).1;have cb:∀k',(A.set k {r with wr:=false})[k']? =if k'=k then some {r with wr:=false}else A[k']? :=fun k'=>by
  by_cases e:k'=k
  ·subst e;simp[aC]
  ·rw[if_neg e,SD (by omega)]
 have hx:Ext g w A {g with im:=im'} w (A.set k {r with wr:=false}):=by
  refine⟨fun _ _ h=>h,sK,fun k' r' nN=>?_⟩;rw[cb];by_cases e:k'=k
  ·subst e;obtain rfl:r=r':=by rw[hk]at nN;exact Option.some.inj nN
   exact⟨{r with wr:=false},by simp,rfl,R6 _,fun _=>rfl⟩
  ·exact⟨r',by simp[e,nN],rfl,R6 _,fun _=>rfl⟩
 have EY:∀b,v.ownBlock=some b->b<w.heap.size:=fun b hb=>h.kN hv hb
 refine⟨{g with im:=im'},⟨h.nD,by rw[h.j7];simp,fun l row b h3 h4=>?_,fun k' r' v' h3 h4=>?_,h.jx,h.gF,h.ic,fun b hb=>?_⟩,hx,?_,rfl,rfl,?_⟩
 ·refine h.eH hx h3 h4 rfl ?_;show im' b=0;simp only[im'];rw[if_neg (h.ic l k v b h4 hv)];exact(h.obj l row b h3 h4).1
 ·rw[cb]at h3;by_cases e:k'=k
  ·subst e;simp at h3;subst h3;obtain rfl:v=v':=by rw[hv]at h4;exact Option.some.inj h4
   refine⟨h1,fun b hb=>?_,xs,ho,fun j x u h5 h6=>bc.eF sK x u (hr j x u h5 h6)⟩;show im' b<=_;simp only[im',hb,if_true];have:=h2 b hb;simp only[SV,if_false];split at this<;>omega
  ·simp[e]at h3;refine h.eI hx h3 h4 (fun _ _=>rfl) (fun b hb=>?_);show im' b=g.im b;simp only[im'];rw[if_neg (fun e'=>e (h.gF k' k v' v b h4 hv hb e'))]
 ·show im' b=0;simp only[im'];rw[if_neg (fun e=>by have:=EY b e;omega)];exact h.fresh b hb
 ·refine⟨hf.os,hf.tape,hf.output,hf.size,hf.oO,fun b hb eJ=>?_,hf.ob,hf.ar,hf.uE,hf.wh⟩;show im' b=_;simp only[im'];rw[if_neg (fun e=>by rcases hf.ar k v b hv e with h7|h7;omega;exact eJ h7)];exact hf.gG b hb eJ
 ·exact xx h1 ho (fun j x u h5 h6=>bc.eF sK x u (hr j x u h5 h6)) (fun b hb=>by simp only[im',hb,if_true];omega)
theorem nO (t ty e:TypeId) (i:TypeInfo) (z:Value) (ht:P.underlying t=some (.slice e)) (hi:P.info? e=some i) (hz:i.zero=some z)
  (Gd:z.cells.size=i.size) (v:Value) (n:Nat) (xs:List Value) (dM:w.ownsRow 0 e i.size v n xs)
  (y:Value) (m:Nat) (news:List Value) (hy:(m=0/\news=[]/\∃a c,y=.slice a 0 c)\/∃a c,y=.slice (some a) m c/\news.length=m*i.size/\∀j u,news[j]? =some u->w.cell? (a.add j)=some u)
  (h1:∀u∈news,u.oneCell'=true) (Oi:n+m<=maxLen) (CX:(n+m)*i.bytes<=140737488355328):
  ∃v' w',(Builtin.append_ #[t,t] ty #[v,y]).run P w=.ok v' w'/\w'.ownsRow 0 e i.size v' (n+m) (xs++news)/\
   ((v'=v/\w'=w)\/(∃b cs,v.ownBlock=some b/\v'.ownBlock=some b/\w'=w.setRow b cs)\/(∃o,v'.ownBlock=some w.heap.size/\w'=w.drew.alloc o)):=by
 have CY:xs.length=n*i.size:=dM.1;by_cases hm:m=0
 ·subst hm;have CH:news=[]:=by
   rcases hy with⟨_,h,_⟩|⟨_,_,_,h,_⟩
   ·exact h
   ·exact Su (by simpa using h)
  obtain⟨a,c,rfl⟩:∃a c,y=.slice a 0 c:=by
   rcases hy with⟨_,_,h⟩|⟨a,c,h,_⟩
   ·exact h
   ·exact⟨some a,c,h⟩
  subst CH;refine⟨v,w,?_,by simpa using dM,.inl ⟨rfl,rfl⟩⟩;have EB:∀w:World,(Builtin.firstCells i.size 0 (.slice a 0 c)).run P w=.ok #[] w:=fun w=>by
   cases a<;>simp[Builtin.firstCells,loadCells,loadCellsFrom]
  rcases dM.2 with⟨rfl,rfl⟩|⟨g,cap,cur,rfl,_,_,EW,_⟩
  ·simp[Builtin.append_,run_underlying ht,sizeOf,typeInfo,hi,Builtin.lenOf,EB]
  ·simp[Builtin.append_,run_underlying ht,sizeOf,typeInfo,hi,Builtin.lenOf,EB,EW,storeCells]
 ·rcases hy with⟨h,_⟩|⟨a,c,rfl,hl,xy⟩
  ·exact absurd h hm
  have Ma:n+m<=9223372036854775807:=by simp only[maxLen]at Oi;omega
  have hlen:(xs++news).length=(n+m)*i.size:=by rw[Sw,dM.1,hl,R7]
  have grown:∀(Gf:Nat),Gf<n+m->
    (w.drew.alloc (.cells (xs.toArray++news.toArray++Builtin.zeroCells z.cells (grownCap w (n+m) Gf e-(n+m))) e)).ownsRow 0 e i.size
     (.slice (some ⟨w.heap.size,0,none⟩) (n+m) (grownCap w (n+m) Gf e)) (n+m) (xs++news):=by
   intro Gf ho;have lR:=grownCap_ge w (n+m) Gf e;have Ji:grownCap w (n+m) Gf e<=maxLen:=grownCap_le_maxLen w (n+m) Gf e Oi;refine⟨hlen,.inr ⟨w.heap.size,_,_,rfl,R8 _,heap_alloc_new w.drew _,lR,Ji,?_,?_⟩⟩
   ·simp only[Array.size_append,Sx,size_zeroCells,Gd,CY,hl,<-R7]
    congr 1
    omega
   ·simp only[Array.toList_append,SF];rw[<-SF,<-hlen];exact SK
  rcases dM.2 with⟨rfl,rfl⟩|⟨g,cap,cur,rfl,_,hg,EW,Ji,sJ,vf⟩
  ·have hx:xs=[]:=Su (by simpa using CY);subst hx;have hr:=run_append_nil (P:=P) w t ty e i z ht hi hz a m c news hl xy (by omega) (by omega) (by have hb:=CX;simp only[Sa]at hb;omega);have sK:=grown 0 (by omega);simp only[Sa,SL,Array.empty_append]at sK⊢;exact⟨_,_,hr,sK,.inr (.inr ⟨_,rfl,rfl⟩)⟩
  ·by_cases CZ:n+m<=cap
   ·have uF:n*i.size+news.length<=cur.size:=by rw[hl,sJ,<-R7];exact Sb _ CZ
    have hr:=run_append_room (P:=P) w t ty e i ht hi g n cap cur hg a m c news hl xy h1 CZ uF;refine⟨_,_,hr,⟨hlen,.inr ⟨g,cap,_,rfl,R8 _,setRow_heap w g cur _ e _ hg,CZ,Ji,?_,?_⟩⟩,.inr (.inl ⟨g,_,rfl,rfl,rfl⟩)⟩
    ·simp only[Sx,Sw,List.length_take,List.length_drop,SR];omega
    ·rw[vf,<-hlen];exact SK
   ·have holds:∀j u,xs[j]? =some u->w.cell? ((⟨g,0,none⟩:Addr).add j)=some u:=dM.cells (g:=g) rfl;have hr:=run_append_grow (P:=P) w t ty e i z ht hi hz ⟨g,0,none⟩ n cap xs CY holds a m c news hl xy (by omega) (by omega) (growslice_fits (by omega) CX);exact⟨_,_,hr,grown cap (by omega),.inr (.inr ⟨_,rfl,rfl⟩)⟩
theorem cR {α:Type} {l:List α} {k:Nat} {x y:α} (h:l[k]? =some x) (k':Nat):(l.set k y)[k']? =if k'=k then some y else l[k']? :=by
 have aC:=(Sl.1 h).1;by_cases e:k'=k
 ·subst e;simp[aC]
 ·rw[if_neg e,SD (by omega)]
theorem C0 {r:bp} {nr:List (List DV)} {e:TypeId} {v':Value} {xs news:List Value} {im:Nat->Nat} (h1:∀row∈r.rows,row.length=r.sz) (hn:∀row∈nr,row.length=r.sz)
  (EZ:xs.length=r.rows.length*r.sz)
  (hr:∀(j:Nat) x u,r.rows.flatten[j]? =some x->xs[j]? =some u->bc im w' x u) (Bu:∀(j:Nat) x u,nr.flatten[j]? =some x->news[j]? =some u->bc im w' x u)
  (ho:w'.ownsRow 0 e r.sz v' (r.rows.length+nr.length) (xs++news)):
  (∀row∈r.rows++nr,row.length=r.sz)/\w'.ownsRow 0 e r.sz v' (r.rows++nr).length (xs++news)/\∀(j:Nat) x u,(r.rows++nr).flatten[j]? =some x->(xs++news)[j]? =some u->bc im w' x u:=by
 refine⟨fun row cV=>?_,by simpa using ho,fun j x u hj hu=>?_⟩
 ·rcases SB.1 cV with h|h
  ·exact h1 row h
  ·exact hn row h
 ·rw[List.flatten_append]at hj;have r9:=dA h1;by_cases aC:j<xs.length
  ·rw[So (by omega)]at hj;rw[So aC]at hu;exact hr j x u hj hu
  ·rw[Sp (by omega)]at hj;rw[Sp (by omega)]at hu;rw[r9,<-EZ]at hj;exact Bu _ x u hj hu
theorem Inv.grow (h:Inv g w V A) (hf:Fr w0 g0 w g) {k:Nat} {r:bp} {v v':Value} (hk:A[k]? =some r) (hv:g.ar[k]? =some v) (nr:List (List DV)) (cN:nr≠[]) (news:List Value)
  (hn:∀row∈nr,row.length=r.sz) (Bu:∀(j:Nat) x u,nr.flatten[j]? =some x->news[j]? =some u->bc g.im w x u)
  (yW:∀xs,w.ownsRow 0 r.eO r.sz v r.rows.length xs->w'.ownsRow 0 r.eO r.sz v' (r.rows.length+nr.length) (xs++news))
  (hc:(v'=v/\w'=w)\/(∃b cs,v.ownBlock=some b/\v'.ownBlock=some b/\w'=w.setRow b cs)\/(∃o,v'.ownBlock=some w.heap.size/\w'=w.drew.alloc o)):
  ∃g',Inv g' w' V (A.set k {r with rows:=r.rows++nr})/\Ext g w A g' w' (A.set k {r with rows:=r.rows++nr})/\Fr w0 g0 w' g'/\g'.ar[k]? =some v'/\g'.ob=g.ob/\g'.im=g.im:=by
 obtain⟨h1,h2,xs,ho,hr⟩:=h.arr k r v hk hv;have qa:=yW xs ho;have Jj:oS v+1<=oS v':=by
  rw[oT ho,oT qa];have:=SH.2 cN;omega
 have aC:=(Sl.1 hk).1;have Hi:0<nr.length:=SH.2 cN;have fw:w.heap.size<=w'.heap.size:=by
  rcases hc with⟨_,rfl⟩|⟨b,cs,_,_,rfl⟩|⟨o,_,rfl⟩
  ·exact R6 _
  ·simp
  ·simp
 have gH:∀b,b<w.heap.size->v.ownBlock≠some b->w'.heap[b]? =w.heap[b]? :=by
  intro b hb cN;rcases hc with⟨_,rfl⟩|⟨b',cs,eJ,_,rfl⟩|⟨o,_,rfl⟩
  ·rfl
  ·exact b4 w b' b cs (fun e=>cN (by rw[e];exact eJ))
  ·exact RowKit.Below.heap_alloc w.drew o b hb
 have lF:∀b o,o<g.im b->w'.cell? ⟨b,o,none⟩=w.cell? ⟨b,o,none⟩:=by
  intro b o CY;have hb:=h.Bs CY;by_cases e:v.ownBlock=some b
  ·rcases hc with⟨_,rfl⟩|⟨b',cs,eJ,hb'',rfl⟩|⟨o',_,rfl⟩
   ·rfl
   ·obtain rfl:b=b':=by rw[e]at eJ;exact Option.some.inj eJ
    have hle:=h2 b e;have Jk:o<xs.length:=by rw[ho.1];split at hle<;>omega
    have hu:xs[o]? =some xs[o]:=Sm Jk;have c1:=ho.cells (g:=b) e _ _ hu;have c2:=qa.cells (g:=b) hb'' o xs[o] (by rw[So Jk];exact hu);have od:(⟨b,0,none⟩:Addr).add o=⟨b,o,none⟩:=by unfold Addr.add;split<;>simp_all
    rw[od]at c1 c2;rw[c1,c2]
   ·exact World.cell?_of_block (a:=⟨b,o,none⟩) (RowKit.Below.heap_alloc w.drew o' b hb)
  ·exact World.cell?_of_block (a:=⟨b,o,none⟩) (gH b hb e)
 have sK:iH g.im w g.im w':=⟨fun _=>R6 _,lF⟩;have Bv:g.ar.length=A.length:=h.j7;have hx:Ext g w A {g with ar:=g.ar.set k v'} w' (A.set k {r with rows:=r.rows++nr}):=by
  refine⟨fun _ _ h=>h,sK,fun k' r' nN=>?_⟩;rw[cR hk];by_cases e:k'=k
  ·subst e;obtain rfl:r=r':=by rw[hk]at nN;exact Option.some.inj nN
   exact⟨{r with rows:=r.rows++nr},by simp,rfl,by simp,fun he=>by simp at he;exact absurd he cN⟩
  ·refine⟨r',by simp[e,nN],rfl,R6 _,fun _=>?_⟩;show(g.ar.set k v')[k']? =g.ar[k']?;rw[cR hv,if_neg e]
 have Az:∀b,v'.ownBlock=some b->(v.ownBlock=some b)\/b=w.heap.size:=by
  intro b hb;rcases hc with⟨rfl,_⟩|⟨b',cs,h3,h4,_⟩|⟨o,h3,_⟩
  ·exact .inl hb
  ·rw[h4]at hb;exact .inl (h3.trans hb)
  ·rw[h3]at hb;exact .inr (Option.some.inj hb).symm
 have od:=C0 h1 hn ho.1 (fun j x u hj hu=>bc.eF sK x u (hr j x u hj hu)) (fun j x u hj hu=>bc.eF sK x u (Bu j x u hj hu)) qa;refine⟨{g with ar:=g.ar.set k v'},⟨h.nD,by simp[h.j7],fun l row b h3 h4=>?_,fun k' r' u h3 h4=>?_,h.jx,fun k1 k2 u1 u2 b h3 h4 h5 h6=>?_,fun l k' u b h3 h4=>?_,fun b hb=>h.fresh b (by omega)⟩,hx,?_,?_,rfl,rfl⟩
 ·exact h.eH hx h3 h4 (gH b (h.oU h4) (h.ic l k v b h4 hv)) (h.obj l row b h3 h4).1
 ·rw[cR hk]at h3;have rM:(g.ar.set k v')[k']? =some u:=h4;rw[cR hv]at rM;by_cases e:k'=k
  ·subst e;simp at h3 rM;subst h3;subst rM;refine⟨od.1,fun b hb=>?_,xs++news,od.2.1,od.2.2⟩;show g.im b<=_;rcases Az b hb with h5|h5
   ·have:=h2 b h5;simp only[Sw,R7];cases PJ:r.wr<;>simp only[PJ,if_true,SV,if_false]at this⊢<;>omega
   ·rw[h.fresh b (by omega)];exact R8 _
  ·simp[e]at h3 rM;refine h.eI hx h3 rM (fun b hb=>gH b (h.kN rM hb) (fun e'=>e (h.gF k' k u v b rM hv hb e'))) (fun _ _=>rfl)
 ·have sd:(g.ar.set k v')[k1]? =some u1:=h3;have rM:(g.ar.set k v')[k2]? =some u2:=h4;rw[cR hv]at sd rM;by_cases e1:k1=k<;>by_cases e2:k2=k
  ·omega
  ·simp[e1,e2]at sd rM;subst sd;rcases Az b h5 with h7|h7
   ·exact absurd (h.gF k2 k u2 v b rM hv h6 h7) e2
   ·have:=h.kN rM h6;omega
  ·simp[e1,e2]at sd rM;subst rM;rcases Az b h6 with h7|h7
   ·exact absurd (h.gF k1 k u1 v b sd hv h5 h7) e1
   ·have:=h.kN sd h5;omega
  ·simp[e1,e2]at sd rM;exact h.gF k1 k2 u1 u2 b sd rM h5 h6
 ·have rM:(g.ar.set k v')[k']? =some u:=h4;rw[cR hv]at rM;by_cases e:k'=k
  ·simp[e]at rM;subst rM;intro hb;rcases Az b hb with h7|h7
   ·exact h.ic l k v b h3 hv h7
   ·have:=h.oU h3;omega
  ·simp[e]at rM;exact h.ic l k' u b h3 rM
 ·have Mb:w'.os=w.os/\w'.tape=w.tape/\w'.output=w.output:=by
   rcases hc with⟨_,rfl⟩|⟨b,cs,_,_,rfl⟩|⟨o,_,rfl⟩<;>exact⟨rfl,rfl,rfl⟩
  refine⟨Mb.1.trans hf.os,Mb.2.1.trans hf.tape,Mb.2.2.trans hf.output,Sd hf.size fw,fun b h3 h4 rM=>?_,hf.gG,hf.ob,fun k' u b h3 h4=>?_,fun k' u h3=>?_,hf.wh⟩
  ·rw[gH b (Si h3 hf.size) (fun e=>by rcases hf.ar k v b hv e with h7|h7;omega;exact rM h7)];exact hf.oO b h3 h4 rM
  ·have sd:(g.ar.set k v')[k']? =some u:=h3;rw[cR hv]at sd;by_cases e:k'=k
   ·simp[e]at sd;subst sd;rcases Az b h4 with h7|h7
    ·exact hf.ar k v b hv h7
    ·rw[h7];exact .inl hf.size
   ·simp[e]at sd;exact hf.ar k' u b sd h4
  ·obtain⟨u1,h4,h5,h6⟩:=hf.uE k' u h3;by_cases e:k'=k
   ·subst e;obtain rfl:v=u1:=by rw[hv]at h4;exact Option.some.inj h4
    refine⟨v',?_,?_⟩
    ·show(g.ar.set k' v')[k']? =some v';rw[cR hv];simp
    ·have hlen:oS v+1<=oS v':=Jj;exact⟨by omega,fun h7=>by omega⟩
   ·refine⟨u1,?_,h5,h6⟩;show(g.ar.set k v')[k']? =some u1;rw[cR hv];simp[e,h4]
 ·show(g.ar.set k v')[k]? =some v';rw[cR hv];simp
theorem Inv.C1 (h:Inv g w V A) (hf:Fr w0 g0 w g) {k:Nat} {r:bp} {v:Value} (hk:A[k]? =some r) (hv:g.ar[k]? =some v) (hw:r.wr=true) {i off b:Nat} {row ds:List DV} (hi:r.rows[i]? =some row)
  (ho:off+ds.length<=r.sz) (hb:v.ownBlock=some b) (vs:List Value) (Bv:vs.length=ds.length) (xo:∀(j:Nat) x u,ds[j]? =some x->vs[j]? =some u->bc g.im w x u):
  ∃cur ty cap,v=.slice (some ⟨b,0,none⟩) r.rows.length cap/\w.heap[b]? =some (.cells cur ty (0,0))/\i*r.sz+off+vs.length<=cur.size/\i*r.sz+off+vs.length<=r.rows.length*r.sz/\
   Inv g (w.setRow b (bH cur.toList (i*r.sz+off) vs).toArray) V (A.set k {r with rows:=r.rows.set i (bH row off ds)})/\
   Ext g w A g (w.setRow b (bH cur.toList (i*r.sz+off) vs).toArray) (A.set k {r with rows:=r.rows.set i (bH row off ds)})/\Fr w0 g0 (w.setRow b (bH cur.toList (i*r.sz+off) vs).toArray) g:=by
 obtain⟨h1,h2,xs,dM,hr⟩:=h.arr k r v hk hv;have rL:g.im b=0:=by have:=h2 b hb;rw[hw]at this;simpa using this
 rcases dM.2 with⟨rfl,_⟩|⟨b',cap,cur,rfl,_,hh,EW,Ji,sJ,vf⟩
 ·simp[Value.ownBlock]at hb
 simp[Value.ownBlock]at hb;subst hb;have aC:=(Sl.1 hi).1;have hmul:(i+1)*r.sz<=r.rows.length*r.sz:=Sb _ aC;have Oj:r.rows.length*r.sz<=cap*r.sz:=Sb _ EW;rw[R7,Se]at hmul;have uF:i*r.sz+off+vs.length<=r.rows.length*r.sz:=by omega
 have C2:i*r.sz+off+vs.length<=cur.size:=by omega
 have cJ:=Ext.setRow g w A b' (bH cur.toList (i*r.sz+off) vs).toArray rL;have hx:Ext g w A g (w.setRow b' (bH cur.toList (i*r.sz+off) vs).toArray) (A.set k {r with rows:=r.rows.set i (bH row off ds)}):=by
  refine⟨cJ.ob,cJ.gr,fun k' r' nN=>?_⟩;rw[cR hk];by_cases e:k'=k
  ·subst e;obtain rfl:r=r':=by rw[hk]at nN;exact Option.some.inj nN
   exact⟨{r with rows:=r.rows.set i (bH row off ds)},by simp,rfl,by simp,fun _=>rfl⟩
  ·exact⟨r',by simp[e,nN],rfl,R6 _,fun _=>rfl⟩
 refine⟨cur,r.eO,cap,rfl,hh,C2,uF,⟨h.nD,by simp[h.j7],fun l row' b h3 h4=>?_,fun k' r' u h3 h4=>?_,h.jx,h.gF,h.ic,fun b hb=>h.fresh b (by simpa using hb)⟩,hx,hf.setRow b' _ (.inr (hf.ar k _ b' hv rfl))⟩
 ·exact h.eH hx h3 h4 (b4 w b' b _ (fun e=>by subst e;exact h.ic l k _ b h4 hv rfl)) (h.obj l row' b h3 h4).1
 ·rw[cR hk]at h3;by_cases e:k'=k
  ·subst e;simp at h3;subst h3;obtain rfl:Value.slice (some ⟨b',0,none⟩) r.rows.length cap=u:=by rw[hv]at h4;exact Option.some.inj h4
   have kI:row.length=r.sz:=h1 row (Sr hi);refine⟨fun q hq=>?_,fun b hb=>?_,bH xs (i*r.sz+off) vs,?_,fun j x u hj hu=>?_⟩
   ·rcases List.mem_or_eq_of_mem_set hq with h5|h5
    ·exact h1 q h5
    ·rw[h5,ei (by omega)];exact kI
   ·simp[Value.ownBlock]at hb;subst hb;rw[rL];exact R8 _
   ·refine⟨?_,.inr ⟨b',cap,(bH cur.toList (i*r.sz+off) vs).toArray,?_,R8 _,setRow_heap w b' cur _ r.eO (0,0) hh,by simpa using EW,Ji,?_,?_⟩⟩
    ·rw[ei (by rw[dM.1];exact uF)];simpa using dM.1
    ·simp
    ·simp only[Sx];rw[ei (by simpa using C2)];simpa using sJ
    ·apply SE;intro j;simp only[List.length_set];rw[Ss,ez (by simpa using C2),ez (by rw[dM.1];exact uF),<-vf,Ss];split<;>split<;>first|rfl|(rename_i h5 h6;omega)
   ·simp only at hj;rw[lY h1 hi ho,ez (by rw[dA h1];omega)]at hj;rw[ez (by rw[dM.1];exact uF),Bv]at hu;split at hj
    ·rename_i hc;rw[if_pos hc]at hu;exact bc.eF hx.gr x u (xo _ x u hj hu)
    ·rename_i hc;rw[if_neg hc]at hu;exact bc.eF hx.gr x u (hr j x u hj hu)
  ·simp[e]at h3;refine h.eI hx h3 h4 (fun b hb=>b4 w b' b _ (fun e'=>by subst e';exact e (h.gF k' k u _ b h4 hv hb rfl))) (fun _ _=>rfl)
end
structure TD where
 ag:Bool
 sz:Nat
 jy:Nat
 zero:Option (List CV)
 el:Option TypeId
 ar:Option (Nat×TypeId)
 fl:List (Nat×Nat)
 ik:Option IntKind
 cG:Bool
 kJ:Bool
def qb:Value->Option CV
 |.int k n=>some (.d (.int k n))
 |.bool b=>some (.d (.bool b))
 |.string s=>some (.d (.str s.data.toList))
 |.slice none 0 0=>some .nil
 |.pointer none=>some .np
 |_=>none
def qR:List Value->Option (List CV)
 |[]=>some []
 |v::r=>match qb v,qR r with
  |some c,some cs=>some (c::cs)
  |_,_=>none
def uG (P:Program):List Field->Option (List (Nat×Nat))
 |[]=>some []
 |f::r=>match P.info? f.type,uG P r with
  |some i,some l=>some ((f.offset,i.size)::l)
  |_,_=>none
def AA:TypeDesc->Bool|.struct _=>true|.array _ _=>true|_=>false
def Mc:TypeDesc->Option TypeId|.slice e=>some e|_=>none
def Md:TypeDesc->Option (Nat×TypeId)|.array n e=>some (n,e)|_=>none
def II (P:Program):TypeDesc->List (Nat×Nat)|.struct fs=>(uG P fs.toList).getD []|_=>[]
def Me:TypeDesc->Option IntKind|.int k=>some k|_=>none
def Hj:TypeDesc->Bool|.string=>true|_=>false
def Hk:TypeDesc->Bool|.bool=>true|_=>false
def Ld:Option Value->Option (List CV)|some z=>qR z.cells.toList|none=>none
def td (P:Program) (t:TypeId):Option TD:=
 match P.underlying t,P.info? t with
 |some d,some i=>some {ag:=AA d,sz:=i.size,jy:=i.bytes,zero:=Ld i.zero,el:=Mc d,ar:=Md d,fl:=II P d,ik:=Me d,cG:=Hj d,kJ:=Hk d}
 |_,_=>none
def bA (s:St):Operand->Option AV
 |.tmp t=>look s.fr t
 |.const v=>(qb v).map AV.c
 |.func f=>some (.c (.fn f []))
 |.global _=>none
def bE {α:Type} (o:Option α) (k:α->Prop):Prop:=
 match o with
 |some v=>k v
 |none=>False
def lS (A:List bp):CV->Option DV
 |.d x=>some x
 |.nil=>some (.sl [])
 |.own k n=>match A[k]? with
  |some r=>if n=r.rows.length then some (.sl r.rows)else none
  |none=>none
 |_=>none
def fK (A:List bp):List CV->Option (List DV)
 |[]=>some []
 |c::r=>match lS A c,fK A r with
  |some d,some ds=>some (d::ds)
  |_,_=>none
def iC (A:List bp):List (List CV)->Option (List (List DV))
 |[]=>some []
 |c::r=>match fK A c,iC A r with
  |some d,some ds=>some (d::ds)
  |_,_=>none
def er (A:List bp):CV->List bp
 |.own k _=>match A[k]? with
  |some r=>A.set k {r with wr:=false}
  |none=>A
 |_=>A
def bC (A:List bp) (cs:List CV):List bp:=cs.foldl er A
def eX (s:St) (p:CV) (n:Nat):Option (List CV):=
 match p with
 |.ptr l off=>match s.V[l]? with
  |some row=>if off+n<=row.length then some ((row.drop off).take n)else none
  |none=>none
 |.ip row off=>if off+n<=row.length then some (((row.drop off).take n).map CV.d)else none
 |.op k m i off=>match s.A[k]? with
  |some r=>if m=r.rows.length then
    match r.rows[i]? with
    |some row=>if off+n<=row.length then some (((row.drop off).take n).map CV.d)else none
    |none=>none
   else none
  |none=>none
 |_=>none
def Bw (ag:Bool) (cs:List CV):Option AV:=
 if ag then some (.agg cs)else
 match cs with
 |[c]=>some (.c c)
 |_=>none
def AV.plain:AV->Bool
 |.bu _=>false
 |.c x=> !x.hM
 |.agg xs=>xs.all fun x=> !x.hM
def xz (op:BinOp) (k:IntKind) (x y:Int):Int:=
 match op with
 |.and=>k.wrap (BitVec.ofInt k.bits x &&& BitVec.ofInt k.bits y).toNat
 |.or=>k.wrap (BitVec.ofInt k.bits x|||BitVec.ofInt k.bits y).toNat
 |.xor=>k.wrap (BitVec.ofInt k.bits x ^^^ BitVec.ofInt k.bits y).toNat
 |_=>0
def wi (op:BinOp) (x y:AV):Option AV:=
 match x,y with
 |.c (.d (.int k a)),.c (.d (.int k' b))=>
  if k=k' then
   match op with
   |.add=>some (.c (.d (.int k (k.wrap (a+b)))))
   |.sub=>some (.c (.d (.int k (k.wrap (a-b)))))
   |.mul=>some (.c (.d (.int k (k.wrap (a*b)))))
   |.quo=>if b=0 then none else some (.c (.d (.int k (k.wrap (a.tdiv b)))))
   |.rem=>if b=0 then none else some (.c (.d (.int k (a.tmod b))))
   |.eql=>some (.c (.d (.bool (a==b))))
   |.neq=>some (.c (.d (.bool (a !=b))))
   |.lss=>some (.c (.d (.bool (a<b))))
   |.leq=>some (.c (.d (.bool (a<=b))))
   |.gtr=>some (.c (.d (.bool (a>b))))
   |.geq=>some (.c (.d (.bool (a>=b))))
   |.and=>some (.c (.d (.int k (xz .and k a b))))
   |.or=>some (.c (.d (.int k (xz .or k a b))))
   |.xor=>some (.c (.d (.int k (xz .xor k a b))))
   |.shl=>if b<0 then none else some (.c (.d (.int k (k.wrap (a*2 ^ min b.toNat k.bits)))))
   |.shr=>if b<0 then none else some (.c (.d (.int k (a.fdiv (2 ^ min b.toNat k.bits)))))
   |_=>none
  else none
 |.c (.d (.str a)),.c (.d (.str b))=>
  match op with
  |.add=>if a.length+b.length<=4611686018427387904 then some (.c (.d (.str (a++b))))else none
  |.eql=>some (.c (.d (.bool (a==b))))
  |.neq=>some (.c (.d (.bool (!(a==b)))))
  |.lss=>some (.c (.d (.bool (Op.bytesLess a b))))
  |.leq=>some (.c (.d (.bool (Op.bytesLess a b||a==b))))
  |.gtr=>some (.c (.d (.bool (!(Op.bytesLess a b||a==b)))))
  |.geq=>some (.c (.d (.bool (!(Op.bytesLess a b)))))
  |_=>none
 |_,_=>none
def oV (op:BinOp) (x y:AV):Option AV:=
 match x,y with
 |.c (.d (.bool a)),.c (.d (.bool b))=>
  match op with
  |.eql=>some (.c (.d (.bool (a==b))))
  |.neq=>some (.c (.d (.bool (!(a==b)))))
  |_=>none
 |_,_=>none
def wj:TypeDesc->Option Nat
 |.int _=>some 0
 |.bool=>some 1
 |.string=>some 2
 |_=>none
def Jl (P:Program):Nat->List Field->Option (List Nat)
 |_,[]=>some []
 |i,f::r=>match P.underlying f.type with
  |some d=>match wj d,Jl P (i+1) r with
   |some k,some ks=>if f.name≠ "_" /\f.offset=i then some (k::ks)else none
   |_,_=>none
  |none=>none
def sq (P:Program) (t:TypeId):Option (List Nat):=
 match P.underlying t with
 |some (.struct fs)=>if P.stoodInHeld t=false/\P.eqGuardType P.depth t=false then Jl P 0 fs.toList else none
 |_=>none
def AB:List Nat->List CV->List CV->Option Bool
 |[],[],[]=>some true
 |0::ks,.d (.int k a)::xs,.d (.int k' b)::ys=>if k=k' then(AB ks xs ys).map fun r=>(a==b)&& r else none
 |1::ks,.d (.bool a)::xs,.d (.bool b)::ys=>(AB ks xs ys).map fun r=>(a==b)&& r
 |2::ks,.d (.str a)::xs,.d (.str b)::ys=>(AB ks xs ys).map fun r=>(a==b)&& r
 |_,_,_=>none
def oW (P:Program) (op:BinOp) (t:TypeId) (x y:AV):Option AV:=
 match x,y with
 |.agg xs,.agg ys=>match sq P t with
  |some ks=>match AB ks xs ys with
   |some r=>match op with
    |.eql=>some (.c (.d (.bool r)))
    |.neq=>some (.c (.d (.bool (!r))))
    |_=>none
   |none=>none
  |none=>none
 |_,_=>none
def E0 (op:UnOp) (x:AV):Option AV:=
 match op,x with
 |.not,.c (.d (.bool b))=>some (.c (.d (.bool (!b))))
 |.neg,.c (.d (.int k n))=>some (.c (.d (.int k (k.wrap (0-n)))))
 |_,_=>none
def lG (fl:List (Nat×Nat)):List CV->List (Nat×List CV)->Option (List CV)
 |cells,[]=>some cells
 |cells,(i,x)::r=>
  match fl[i]? with
  |none=>none
  |some (off,size)=>if x.length=size/\off+size<=cells.length then lG fl (bH cells off x) r else none
def fL (s:St):List (Nat×Operand)->Option (List (Nat×List CV))
 |[]=>some []
 |(i,x)::r=>match bA s x,fL s r with
  |some v,some l=>if v.plain then some ((i,v.cells)::l)else none
  |_,_=>none
def ie (s:St) (sz:Nat):Nat->List (Nat×Operand)->Option (List (List CV))
 |_,[]=>some []
 |k,(i,x)::r=>match bA s x,ie s sz (k+1) r with
  |some v,some l=>if i=k/\v.plain/\v.cells.length=sz then some (v.cells::l)else none
  |_,_=>none
def C3:List AV->Option (List Nat)
 |[]=>some []
 |.c (.ptr l 0)::r=>(C3 r).map (l::·)
 |_=>none
def fz (s:St):List Operand->Option (List AV)
 |[]=>some []
 |x::r=>match bA s x,fz s r with
  |some v,some l=>some (v::l)
  |_,_=>none
def wk:AV->Option Nat
 |.c (.d (.str b))=>some b.length
 |.c (.d (.sl rows))=>some rows.length
 |.c .nil=>some 0
 |.c (.own _ n)=>some n
 |_=>none
def rowsOf (A:List bp):AV->Option (List (List DV))
 |.c (.d (.sl rows))=>some rows
 |.c .nil=>some []
 |.c (.own k n)=>match A[k]? with
  |some r=>if n=r.rows.length then some r.rows else none
  |none=>none
 |_=>none
def mP:List DV->Option UInt8
 |[.int .u8 n]=>if 0<=n/\n<256 then some (UInt8.ofNat n.toNat)else none
 |_=>none
def bytesOf:List (List DV)->Option (List UInt8)
 |[]=>some []
 |r::rs=>match mP r,bytesOf rs with
  |some b,some l=>some (b::l)
  |_,_=>none
def oX (lo:Option AV):Option Int:=
 match lo with
 |none=>some 0
 |some (.c (.d (.int _ n)))=>some n
 |_=>none
def j8 (hi:Option AV) (n:Nat):Option Int:=
 match hi with
 |none=>some n
 |some (.c (.d (.int _ n)))=>some n
 |_=>none
def jP (s:St):Option Operand->Option (Option AV)
 |none=>some none
 |some x=>(bA s x).map some
@[simp] def Ok (dd:TD) (n:Int):Option DV:=match dd.ik with
 |some k=>some (.int k (k.wrap n))
 |none=>if dd.cG=true/\0<=n/\n<128 then some (.str [UInt8.ofNat n.toNat])else none
def dF (P:Program) (s:St) (ow:Bool) (op:Op) (K:AV->List (List CV)->List bp->Prop):Prop:=
 match op with
 |.move x|.assign x=>bE (bA s x) fun v=>K v s.V s.A
 |.pick c a b=>bE (bA s c) fun v=>match v with
  |.c (.d (.bool t))=>if t=true then bE (bA s a) fun v=>K v s.V s.A else bE (bA s b) fun v=>K v s.V s.A
  |_=>False
 |.alloc e=>bE (td P e) fun d=>bE d.zero fun z=>K (.c (.ptr s.V.length 0)) (s.V++[z]) s.A
 |.box _ x=>bE (bA s x) fun v=>v.plain=true/\K (.c (.ptr s.V.length 0)) (s.V++[v.cells]) s.A
 |.build t parts=>bE (td P t) fun d=>bE d.zero fun z=>bE (fL s parts.toList) fun ps=>bE (lG d.fl z ps) fun cs=>d.ar=none/\d.fl≠[]/\K (.agg cs) s.V s.A
 |.buildSlice t len parts=>bE (td P t) fun d=>bE d.el fun e=>bE (td P e) fun de=>bE (ie s de.sz 0 parts.toList) fun rows=>
   bE (iC s.A rows) fun ds=>rows.length=len/\len*de.sz<=16777216/\0<de.sz/\de.zero.isSome=true/\
    if ow then K (.c (.own s.A.length len)) s.V (bC s.A rows.flatten++[{sz:=de.sz,eO:=e,rows:=ds,wr:=true}])else K (.c (.d (.sl ds))) s.V (bC s.A rows.flatten)
 |.load t a=>bE (td P t) fun d=>bE (bA s a) fun p=>match p with
  |.c p=>bE (eX s p d.sz) fun cs=>bE (Bw d.ag cs) fun v=>K v s.V s.A
  |_=>False
 |.store t a x=>bE (td P t) fun d=>bE (bA s a) fun p=>bE (bA s x) fun v=>v.plain=true/\v.cells.length=d.sz/\match p with
  |.c (.ptr l off)=>bE s.V[l]? fun row=>off+d.sz<=row.length/\K (.c .undef) (s.V.set l (bH row off v.cells)) s.A
  |.c (.op k n i off)=>bE s.A[k]? fun r=>n=r.rows.length/\r.wr=true/\bE r.rows[i]? fun row=>bE (fK s.A v.cells) fun ds=>off+d.sz<=r.sz/\(v.cells.all fun c=>match c with|.own k' _=>k'≠k|_=>true)=true/\
    K (.c .undef) s.V ((bC s.A v.cells).set k {r with rows:=r.rows.set i (bH row off ds)})
  |_=>False
 |.nilCheck x=>bE (bA s x) fun v=>match v with
  |.c (.ptr l off)=>K (.c (.ptr l off)) s.V s.A
  |.c (.ip r off)=>K (.c (.ip r off)) s.V s.A
  |.c (.op k n i off)=>K (.c (.op k n i off)) s.V s.A
  |.c (.fn f cap)=>K (.c (.fn f cap)) s.V s.A
  |_=>False
 |.binOp op t x y _=>bE (bA s x) fun a=>bE (bA s y) fun b=>match wi op a b with
  |some v=>K v s.V s.A
  |none=>match oW P op t a b with
   |some v=>K v s.V s.A
   |none=>bE (oV op a b) fun v=>bE (td P t) fun d=>d.kJ=true/\K v s.V s.A
 |.unOp op _ x=>bE (bA s x) fun a=>bE (E0 op a) fun v=>K v s.V s.A
 |.convert src dst x=>bE (bA s x) fun a=>bE (td P src) fun ds=>bE (td P dst) fun dd=>match a with
  |.c (.d (.int _ n))=>bE (Ok dd n) fun d=>K (.c (.d d)) s.V s.A
  |.c (.d (.str b))=>dd.cG=true/\ds.cG=true/\K (.c (.d (.str b))) s.V s.A
  |.c (.d (.sl rows))=>dd.cG=true/\bE ds.el fun e=>bE (td P e) fun de=>de.ik=some .u8/\bE (bytesOf rows) fun b=>K (.c (.d (.str b))) s.V s.A
  |_=>False
 |.makeFunc (.func f) first captured=>first.size=0/\bE (fz s captured.toList) fun cs=>bE (C3 cs) fun ls=>K (.c (.fn f ls)) s.V s.A
 |.makeSlice t l c=>bE (td P t) fun d=>bE d.el fun e=>bE (td P e) fun de=>bE de.zero fun z=>bE (fK s.A z) fun dz=>bE (bA s l) fun vl=>bE (bA s c) fun vc=>match vl,vc with
  |.c (.d (.int _ n)),.c (.d (.int _ m))=>n=m/\0<=n/\n.toNat*de.jy<=140737488355328/\n.toNat<=9223372036854775807/\0<de.sz/\z.length=de.sz/\
    K (.c (.own s.A.length n.toNat)) s.V (s.A++[{sz:=de.sz,eO:=e,rows:=Sy n.toNat dz,wr:=true}])
  |_,_=>False
 |.slice t x lo hi mx=>mx=none/\bE (td P t) fun d=>bE (bA s x) fun v=>bE (jP s lo) fun l=>bE (jP s hi) fun h=>match v with
  |.c (.d (.str b))=>d.cG=true/\bE (oX l) fun i=>bE (j8 h b.length) fun j=>0<=i/\i<=j/\j<=b.length/\K (.c (.d (.str ((b.take j.toNat).drop i.toNat)))) s.V s.A
  |v=>bE (rowsOf s.A v) fun rows=>bE d.el fun e=>bE (td P e) fun de=>bE (oX l) fun i=>bE (j8 h rows.length) fun j=>0<=i/\i<=j/\j<=rows.length/\(∀r∈rows,r.length=de.sz)/\
    K (.c (.d (.sl ((rows.take j.toNat).drop i.toNat)))) s.V (bC s.A v.cells)
 |.fieldAddr t x f=>bE (td P t) fun d=>bE d.fl[f]? fun(off,sz)=>sz≠0/\bE (bA s x) fun v=>match v with
  |.c (.ptr l o)=>K (.c (.ptr l (o+off))) s.V s.A
  |.c (.ip r o)=>K (.c (.ip r (o+off))) s.V s.A
  |.c (.op k n i o)=>K (.c (.op k n i (o+off))) s.V s.A
  |_=>False
 |.indexAddr t x ix=>bE (td P t) fun d=>bE (bA s x) fun v=>bE (bA s ix) fun i=>match i with
  |.c (.d (.int _ n))=>0<=n/\(match v with
   |.c (.d (.sl rows))=>bE d.el fun e=>bE (td P e) fun de=>bE rows[n.toNat]? fun row=>row.length=de.sz/\K (.c (.ip row 0)) s.V s.A
   |.c (.own k m)=>bE d.el fun e=>bE (td P e) fun de=>bE s.A[k]? fun r=>m=r.rows.length/\n.toNat<m/\r.sz=de.sz/\K (.c (.op k m n.toNat 0)) s.V s.A
   |.c (.ptr l off)=>bE d.ar fun(len,e)=>bE (td P e) fun de=>n<len/\K (.c (.ptr l (off+n.toNat*de.sz))) s.V s.A
   |_=>False)
  |_=>False
 |.index t x ix=>bE (td P t) fun d=>bE (bA s x) fun v=>bE (bA s ix) fun i=>match v,i with
  |.c (.d (.str b)),.c (.d (.int _ n))=>d.cG=true/\0<=n/\bE b[n.toNat]? fun c=>K (.c (.d (.int .u8 c.toNat))) s.V s.A
  |.agg xs,.c (.d (.int _ n))=>bE d.ar fun(len,e)=>bE (td P e) fun de=>de.ag=false/\de.sz=1/\0<=n/\n<len/\bE xs[n.toNat]? fun c=>K (.c c) s.V s.A
  |_,_=>False
 |.extract x i=>bE (bA s x) fun v=>match v with
  |.bu xs=>bE xs[i]? fun u=>match u with
   |.bu _=>False
   |u=>K u s.V s.A
  |_=>False
 |.call {callee:=.builtin .len,args,argTypes}=>bE args[0]? fun x=>bE (bA s x) fun v=>bE argTypes[0]? fun t=>bE (td P t) fun d=>bE (wk v) fun n=>(d.cG=true\/d.el.isSome=true)/\
   (match v with|.c (.d (.str _))=>d.cG=true|_=>d.el.isSome=true)/\K (.c (.d (.int .i64 n))) s.V s.A
 |.call {callee:=.builtin .append,args,argTypes}=>bE args[0]? fun x=>bE args[1]? fun y=>bE argTypes[0]? fun t=>argTypes[1]? =some t/\bE (td P t) fun d=>bE d.el fun e=>bE (td P e) fun de=>
   de.zero.isSome=true/\(bE de.zero fun z=>z.length=de.sz)/\bE (bA s x) fun v=>bE (bA s y) fun u=>bE (rowsOf s.A u) fun nr=>(∀r∈nr,r.length=de.sz)/\match v with
  |.c (.own k n)=>bE s.A[k]? fun r=>n=r.rows.length/\r.eO=e/\r.sz=de.sz/\(n+nr.length)*de.jy<=140737488355328/\n+nr.length<=9223372036854775807/\
    if ow then K (.c (.d (.sl (r.rows++nr)))) s.V (s.A.set k {r with rows:=r.rows++nr,wr:=false})else K (.c (.own k (n+nr.length))) s.V (s.A.set k {r with rows:=r.rows++nr})
  |.c .nil=>nr.length*de.jy<=140737488355328/\nr.length<=9223372036854775807/\
    if ow then K (.c (.d (.sl nr))) s.V (s.A++[{sz:=de.sz,eO:=e,rows:=nr,wr:=false}])else K (.c (.own s.A.length nr.length)) s.V (s.A++[{sz:=de.sz,eO:=e,rows:=nr,wr:=true}])
  |_=>False
 |.call {callee:=.builtin .max,args,.. }=>bE args[0]? fun x=>bE args[1]? fun y=>args.size=2/\bE (bA s x) fun v=>bE (bA s y) fun u=>match v,u with
  |.c (.d (.int k a)),.c (.d (.int _ b))=>K (.c (.d (.int k (if b>a then b else a)))) s.V s.A
  |_,_=>False
 |.call {callee:=.builtin .min,args,.. }=>bE args[0]? fun x=>bE args[1]? fun y=>args.size=2/\bE (bA s x) fun v=>bE (bA s y) fun u=>match v,u with
  |.c (.d (.int k a)),.c (.d (.int _ b))=>K (.c (.d (.int k (if b<a then b else a)))) s.V s.A
  |_,_=>False
 |_=>False
theorem cq {α:Type} {o:Option α} {k:α->Prop} (h:bE o k):∃v,o=some v/\k v:=by
 cases o with
 |none=>exact h.elim
 |some v=>exact⟨v,rfl,h⟩
theorem ja {P:Program} {t:TypeId} {d:TD} (h:td P t=some d):∃de i,P.underlying t=some de/\P.info? t=some i/\d={ag:=AA de,sz:=i.size,jy:=i.bytes,zero:=Ld i.zero,el:=Mc de,ar:=Md de,fl:=II P de,ik:=Me de,cG:=Hj de,kJ:=Hk de}:=by
 unfold td at h;cases hu:P.underlying t with
 |none=>simp[hu]at h
 |some de=>
  cases hi:P.info? t with
  |none=>simp[hu,hi]at h
  |some i=>simp only[hu,hi]at h;exact⟨de,i,rfl,rfl,(Option.some.inj h).symm⟩
theorem lZ {P:Program} {t e:TypeId} {d:TD} (h:td P t=some d) (he:d.el=some e):P.underlying t=some (.slice e):=by
 obtain⟨de,i,hu,_,rfl⟩:=ja h;cases de<;>simp[Mc]at he
 subst he;exact hu
theorem Gg {P:Program} {t e:TypeId} {n:Nat} {d:TD} (h:td P t=some d) (he:d.ar=some (n,e)):P.underlying t=some (.array n e):=by
 obtain⟨de,i,hu,_,rfl⟩:=ja h;cases de<;>simp[Md]at he
 obtain⟨rfl,rfl⟩:=he;exact hu
theorem eY {P:Program} {t:TypeId} {d:TD} (h:td P t=some d):∃i,P.info? t=some i/\i.size=d.sz/\i.bytes=d.jy/\∀z,d.zero=some z->∃v,i.zero=some v/\qR v.cells.toList=some z:=by
 obtain⟨de,i,_,hi,rfl⟩:=ja h;refine⟨i,hi,rfl,rfl,fun z hz=>?_⟩;cases Le:i.zero with
 |none=>simp[Ld,Le]at hz
 |some v=>exact⟨v,rfl,by simpa[Ld,Le]using hz⟩
theorem oe {P:Program} {t:TypeId} {d:TD} (h:td P t=some d) (he:d.cG=true):P.underlying t=some .string:=by
 obtain⟨de,i,hu,_,rfl⟩:=ja h;cases de<;>simp[Hj]at he
 exact hu
theorem Hl {P:Program} {t:TypeId} {d:TD} (h:td P t=some d) (he:d.kJ=true):P.underlying t=some .bool:=by
 obtain⟨de,i,hu,_,rfl⟩:=ja h;cases de<;>simp[Hk]at he
 exact hu
theorem Gi {P:Program} {t:TypeId} {d:TD} {k:IntKind} (h:td P t=some d) (he:d.ik=some k):P.underlying t=some (.int k):=by
 obtain⟨de,i,hu,_,rfl⟩:=ja h;cases de<;>simp[Me]at he
 subst he;exact hu
theorem AD (s:ByteArray):bs s.data.toList=s:=by simp[bs]
theorem qc (l:List UInt8):(bs l).toList=l:=by rw[ByteArray.toList_eq];simp[bs]
theorem mQ (l:List UInt8):(bs l).size=l.length:=by simp[bs,ByteArray.size]
section
variable {P:Program} {g g' g0:Gh} {w w' w0:World} {V V':List (List CV)} {A A':List bp} {s:St} {a:Act}
theorem kO {v:Value} {c:CV} (h:qb v=some c):bj g w A c v:=by
 unfold qb at h;split at h<;>first|(simp at h;done)|(simp at h;subst h;simp only[bj,bc])|skip
 rw[AD]
theorem gI:∀{vs:List Value} {cs:List CV},qR vs=some cs->vs.length=cs.length
 |[],cs,h=>by simp[qR]at h;subst h;rfl
 |v::r,cs,h=>by
  simp only[qR]at h;split at h
  ·rename_i c cs' h1 h2;simp at h;subst h;simp[gI h2]
  ·simp at h
theorem l7:∀{vs:List Value} {cs:List CV},qR vs=some cs->∀(j:Nat) c u,cs[j]? =some c->vs[j]? =some u->qb u=some c
 |[],cs,h,j,c,u,hc,hu=>by simp at hu
 |v::r,cs,h,j,c,u,hc,hu=>by
  simp only[qR]at h;split at h
  ·rename_i c' cs' h1 h2;simp at h;subst h;cases j with
   |zero=>simp at hc hu;subst hc;subst hu;exact h1
   |succ j=>simp at hc hu;exact l7 h2 j c u hc hu
  ·simp at h
theorem aE (hS:∀t x,look s.fr t=some x->∃u,a.tmps[t]? =some u/\aU g w s.A x u) {o:Operand} {x:AV} (h:bA s o=some x):aU g w s.A x (a.eval o):=by
 cases o with
 |tmp t=>
  obtain⟨u,hu,hr⟩:=hS t x h;simpa[Act.eval,hu]using hr
 |const v=>
  simp only[bA,SW]at h;obtain⟨c,hc,rfl⟩:=h;exact kO (g:=g) (w:=w) (A:=s.A) hc
 |func f=>
  simp only[bA,Option.some.injEq]at h;subst h;exact⟨[],rfl,rfl,fun i l b h=>by simp at h⟩
 |«global»g=>simp[bA]at h
def cM (P:Program) (w0:World) (g0 g:Gh) (w:World) (A:List bp) (m:Sem Next) (K:AV->List (List CV)->List bp->Prop):Prop:=
 ∃x V' A' nx v w' g',K x V' A'/\m.run P w=.ok nx w'/\(nx=.value v\/(nx=.skip/\v=undef))/\aU g' w' A' x v/\Inv g' w' V' A'/\Ext g w A g' w' A'/\Fr w0 g0 w' g'
theorem cM.value (hI:Inv g w V A) (hF:Fr w0 g0 w g) {m:Sem Next} {K:AV->List (List CV)->List bp->Prop} {x:AV} {v:Value} (hm:m.run P w=.ok (.value v) w) (hr:aU g w A x v) (hK:K x V A):cM P w0 g0 g w A m K:=
 ⟨x,V,A,_,v,w,g,hK,hm,.inl rfl,hr,hI,.refl _ _ _,hF⟩
theorem kP (w:World) (b off n:Nat) (Q:Nat->Value->Prop) (h:∀j,j<n->∃u,w.cell? ⟨b,off+j,none⟩=some u/\Q j u):
  ∃vs:List Value,vs.length=n/\∀(j:Nat) u,vs[j]? =some u->w.cell? ⟨b,off+j,none⟩=some u/\Q j u:=by
 refine⟨(List.range n).map fun j=>(w.cell? ⟨b,off+j,none⟩).getD undef,by simp,fun j u hu=>?_⟩;have hj:j<n:=by
  have:=(Sl.1 hu).1;simpa using this
 simp[hj]at hu;obtain⟨u',h1,h2⟩:=h j hj;rw[h1]at hu;simp at hu;subst hu;exact⟨h1,h2⟩
def ig (g:Gh) (w:World) (A:List bp) (cs:List CV) (vs:List Value):Prop:=vs.length=cs.length/\∀(j:Nat) c u,cs[j]? =some c->vs[j]? =some u->bj g w A c u
theorem nP (hI:Inv g w s.V s.A) {p:CV} {v:Value} {n:Nat} {cs:List CV} (hp:bj g w s.A p v) (h:eX s p n=some cs):
  ∃b off vs,v=.pointer (some ⟨b,off,none⟩)/\cs.length=n/\ig g w s.A cs vs/\∀(j:Nat) u,vs[j]? =some u->w.cell? ⟨b,off+j,none⟩=some u:=by
 unfold eX at h;split at h
 ·-- an object
  rename_i l off;split at h
  ·rename_i row cV;split at h
   ·rename_i hle;simp at h;subst h;obtain⟨b,hb,rfl⟩:=hp;obtain⟨_,cells,ty,hh,hs,hr⟩:=hI.obj l row b cV hb;obtain⟨vs,hl,hv⟩:=kP w b off n (fun j u=>∀c,row[off+j]? =some c->bj g w s.A c u) (fun j hj=>by
     have C4:off+j<cells.size:=by omega
     refine⟨cells[off+j],by simp[World.cell?,hh,C4],fun c hc=>hr (off+j) c _ hc (by simp[C4])⟩)
    refine⟨b,off,vs,rfl,by simp;omega,⟨by simp;omega,fun j c u h1 h2=>(hv j u h2).2 c ?_⟩,fun j u hu=>(hv j u hu).1⟩;rw[Ss]at h1;split at h1
    ·rwa[SA]at h1
    ·cases h1
   ·simp at h
  ·simp at h
 ·rename_i row off;split at h
  ·rename_i hle;simp at h;subst h;obtain⟨b,o,rfl,hi,hr⟩:=hp;obtain⟨vs,hl,hv⟩:=kP w b (o+off) n (fun j u=>∀x,row[off+j]? =some x->bc g.im w x u) (fun j hj=>by
    have hx:row[off+j]? =some row[off+j]:=Sm (by omega);obtain⟨u,h1,h2⟩:=cA.at_ hr hx;refine⟨u,by rw[R9];exact h1,fun x h3=>?_⟩;rw[hx]at h3;cases h3;exact h2)
   refine⟨b,o+off,vs,rfl,by simp;omega,⟨by simp;omega,fun j c u h1 h2=>?_⟩,fun j u hu=>(hv j u hu).1⟩;simp only[Ss]at h1;split at h1
   ·rw[SA,SN,SW]at h1;obtain⟨x,h3,rfl⟩:=h1;exact(hv j u h2).2 x h3
   ·cases h1
  ·simp at h
 ·rename_i k m i off;split at h
  ·rename_i r hk;split at h
   ·rename_i hm;split at h
    ·rename_i row cV;split at h
     ·rename_i hle;simp at h;subst h;obtain⟨b,e,rfl,r',nN,hn,hq⟩:=hp;obtain rfl:r=r':=by rw[hk]at nN;exact Option.some.inj nN
      obtain⟨cap,zh,rfl⟩:=hq hm;obtain⟨h1,_,xs,dM,hr⟩:=hI.arr k r _ hk zh;have kI:row.length=r.sz:=h1 row (Sr cV);obtain⟨vs,hl,hv⟩:=kP w b (i*r.sz+off) n (fun j u=>∀x,row[off+j]? =some x->bc g.im w x u) (fun j hj=>by
       have hx:row[off+j]? =some row[off+j]:=Sm (by omega);have hf:=iZ h1 cV hx;have aC:i*r.sz+(off+j)<xs.length:=by
        have:=(Sl.1 hf).1;rw[dA h1]at this;rw[dM.1];exact this
       have hu:xs[i*r.sz+(off+j)]? =some xs[i*r.sz+(off+j)]:=Sm aC;have hc:=dM.cells (g:=b) rfl _ _ hu;have od:(⟨b,0,none⟩:Addr).add (i*r.sz+(off+j))=⟨b,i*r.sz+off+j,none⟩:=by unfold Addr.add;split<;>simp_all[R9]
       rw[od]at hc;refine⟨_,hc,fun x h3=>?_⟩;rw[hx]at h3;cases h3;exact hr _ _ _ hf hu)
      refine⟨b,i*r.sz+off,vs,rfl,by simp;omega,⟨by simp;omega,fun j c u h1 h2=>?_⟩,fun j u hu=>(hv j u hu).1⟩;simp only[Ss]at h1;split at h1
      ·rw[SA,SN,SW]at h1;obtain⟨x,h3,rfl⟩:=h1;exact(hv j u h2).2 x h3
      ·cases h1
     ·simp at h
    ·simp at h
   ·simp at h
  ·simp at h
 ·simp at h
theorem j9 (b off j:Nat):(⟨b,off,none⟩:Addr).add j=⟨b,off+j,none⟩:=by unfold Addr.add;split<;>simp_all
theorem jQ {t:TypeId} {d:TD} (ht:td P t=some d) {b off:Nat} {vs:List Value} (hv:∀(j:Nat) u,vs[j]? =some u->w.cell? ⟨b,off+j,none⟩=some u) (hl:vs.length=d.sz):
  (d.ag=true->(Instr.loadAt t (.pointer (some ⟨b,off,none⟩))).run P w=.ok (.agg vs.toArray) w)/\
  (d.ag=false->∀u,vs=[u]->(Instr.loadAt t (.pointer (some ⟨b,off,none⟩))).run P w=.ok u w):=by
 obtain⟨de,i,hu,hi,rfl⟩:=ja ht;have Ol:=run_loadCells_list (P:=P) w ⟨b,off,none⟩ vs (fun j u h=>by rw[j9];exact hv j u h);simp only at hl⊢;rw[hl]at Ol;have E1:(isAgg t).run P w=.ok (AA de) w:=by
  simp only[isAgg,Sem.run_bind,run_underlying hu,Result.andThen_ok];cases de<;>rfl
 have fw:(sizeOf t).run P w=.ok i.size w:=by simp[sizeOf,typeInfo,hi]
 constructor
 ·intro ha;show(loadVar t ⟨b,off,none⟩).run P w=_;unfold loadVar;rw[Sem.run_bind,E1,ha];simp only[Result.andThen_ok,if_true,Sem.run_bind,fw,Ol,Sem.run_pure]
 ·intro ha u PK;have hc:=hv 0 u (by rw[PK];rfl);simp only[Sj]at hc;show(loadVar t ⟨b,off,none⟩).run P w=_;unfold loadVar;rw[Sem.run_bind,E1,ha];simp only[Result.andThen_ok,SV,if_false,run_load,hc]
theorem AV.eQ {x:AV} {v:Value} (h:aU g w A x v) (hp:x.plain=true):ig g w A x.cells v.cells.toList/\∀u∈v.cells.toList,u.oneCell'=true:=by
 cases x with
 |bu xs=>simp[AV.plain]at hp
 |c x=>
  simp[AV.plain]at hp;have hc:bj g w A x v:=h;have h1:=bj.jA hp hc;have sJ:v.cells= #[v]:=by cases v<;>first|rfl|simp[Value.oneCell']at h1
  rw[sJ];refine⟨⟨rfl,fun j c u h2 h3=>?_⟩,fun u hu=>?_⟩
  ·cases j with
   |zero=>simp[AV.cells]at h2 h3;subst h2;subst h3;exact hc
   |succ j=>simp at h3
  ·simp at hu;subst hu;exact h1
 |agg xs=>
  simp only[AV.plain,SP,Bool.not_eq_true']at hp;obtain⟨vs,rfl,hl,hc⟩:=h;refine⟨⟨by simpa[Value.cells,AV.cells]using hl,fun j c u h2 h3=>hc j c u h2 (by simpa[Value.cells]using h3)⟩,fun u hu=>?_⟩;simp[Value.cells]at hu;obtain⟨j,hj⟩:=Sz hu;have kf:=(Sl.1 hj).1;have hx:xs[j]? =some (xs[j]'(by omega)):=Sm (by omega);exact bj.jA (hp _ (Sr hx)) (hc j _ u hx hj)
theorem qd (A:List bp) (c' c:CV):lS (er A c') c=lS A c:=by
 cases c'<;>try rfl
 rename_i k' n';simp only[er];cases hk:A[k']? with
 |none=>rfl
 |some r=>
  cases c<;>try rfl
  rename_i k n;simp only[lS,cR hk];by_cases e:k=k'
  ·subst e;simp[hk]
  ·simp[e]
theorem sL (A:List bp) (c':CV):∀cs,fK (er A c') cs=fK A cs
 |[]=>rfl
 |c::r=>by simp only[fK,qd,sL A c' r]
theorem oY:∀{cs:List CV} {ds:List DV},fK A cs=some ds->ds.length=cs.length
 |[],ds,h=>by simp[fK]at h;subst h;rfl
 |c::r,ds,h=>by
  simp only[fK]at h;split at h
  ·rename_i d ds' h1 h2;simp at h;subst h;simp[oY h2]
  ·simp at h
theorem sM (hI:Inv g w V A) (hF:Fr w0 g0 w g) {c:CV} {u:Value} {d:DV} (hc:bj g w A c u) (hd:lS A c=some d):
  ∃g',Inv g' w V (er A c)/\Ext g w A g' w (er A c)/\Fr w0 g0 w g'/\g'.ar=g.ar/\g'.ob=g.ob/\bc g'.im w d u:=by
 cases c with
 |d x=>simp[lS]at hd;subst hd;exact⟨g,hI,.refl _ _ _,hF,rfl,rfl,hc⟩
 |nil=>
  simp[lS]at hd;subst hd;simp only[bj]at hc;subst hc;exact⟨g,hI,.refl _ _ _,hF,rfl,rfl,by simp only[bc];exact⟨none,0,rfl,R6 _,.inl trivial⟩⟩
 |own k n=>
  obtain⟨ad,cap,e,r,hk,hn,hv⟩:=hc;simp only[lS,hk]at hd;split at hd
  ·rename_i cN;simp at hd;subst hd;obtain⟨g',h1,h2,h3,h4,h5,h6⟩:=hI.seal hF hk (hv cN);refine⟨g',?_,?_,h3,h4,h5,h6⟩
   ·simpa only[er,hk]using h1
   ·simpa only[er,hk]using h2
  ·simp at hd
 |_=>simp[lS]at hd
theorem qe:∀{cs:List CV} {vs:List Value} {ds:List DV} {g:Gh} {A:List bp},Inv g w V A->Fr w0 g0 w g->ig g w A cs vs->fK A cs=some ds->
  ∃g',Inv g' w V (bC A cs)/\Ext g w A g' w (bC A cs)/\Fr w0 g0 w g'/\g'.ar=g.ar/\g'.ob=g.ob/\∀(j:Nat) x u,ds[j]? =some x->vs[j]? =some u->bc g'.im w x u
 |[],vs,ds,g,A,hI,hF,hr,hd=>by
  simp[fK]at hd;subst hd;exact⟨g,hI,.refl _ _ _,hF,rfl,rfl,fun j x u h=>by simp at h⟩
 |c::r,vs,ds,g,A,hI,hF,hr,hd=>by
  cases vs with
  |nil=>exact absurd hr.1 (by simp)
  |cons v vs=>
   simp only[fK]at hd;split at hd
   ·rename_i d ds' h1 h2;simp at hd;subst hd;obtain⟨g1,eK,cJ,ju,rN,qa,ij⟩:=sM hI hF (hr.2 0 c v rfl rfl) h1;have xq:ig g1 w (er A c) r vs:=⟨by simpa using hr.1,fun j c' u h3 h4=>bj.ext cJ (hr.2 (j+1) c' u (by simpa using h3) (by simpa using h4))⟩;obtain⟨g2,xA,gA,yX,IJ,se,jR⟩:=qe eK ju xq (by rw[sL];exact h2);refine⟨g2,xA,cJ.trans gA,yX,IJ.trans rN,se.trans qa,fun j x u h3 h4=>?_⟩;cases j with
    |zero=>simp at h3 h4;subst h3;subst h4;exact bc.eF gA.gr _ _ ij
    |succ j=>simp at h3 h4;exact jR j x u h3 h4
   ·simp at hd
theorem qS:∀{rows:List (List CV)} {ds:List (List DV)},iC A rows=some ds->fK A rows.flatten=some ds.flatten/\ds.length=rows.length/\∀(i:Nat) r d,rows[i]? =some r->ds[i]? =some d->d.length=r.length
 |[],ds,h=>by simp[iC]at h;subst h;exact⟨rfl,rfl,fun i r d h=>by simp at h⟩
 |c::r,ds,h=>by
  simp only[iC]at h;split at h
  ·rename_i d ds' h1 h2;simp at h;subst h;obtain⟨h3,h4,h5⟩:=qS h2;refine⟨?_,by simp[h4],fun i r' d' h6 h7=>?_⟩
   ·simp only[Sq];have:∀(xs ys:List CV) (dx dy:List DV),fK A xs=some dx->fK A ys=some dy->fK A (xs++ys)=some (dx++dy):=by
     intro xs;induction xs with
     |nil=>intro ys dx dy hx hy;simp[fK]at hx;subst hx;simpa using hy
     |cons x xs ih=>
      intro ys dx dy hx hy;simp only[fK]at hx;split at hx
      ·rename_i d1 d2 h8 h9;simp at hx;subst hx;simp only[List.cons_append,fK,h8,ih ys d2 dy h9 hy]
      ·simp at hx
    exact this _ _ _ _ h1 h3
   ·cases i with
    |zero=>simp at h6 h7;subst h6;subst h7;exact oY h1
    |succ i=>simp at h6 h7;exact h5 i r' d' h6 h7
  ·simp at h
end
section
variable {P:Program} {g g' g0:Gh} {w w' w0:World} {V V':List (List CV)} {A A':List bp} {s:St} {a:Act} {K:AV->List (List CV)->List bp->Prop}
abbrev gD (g:Gh) (w:World) (s:St) (a:Act):Prop:=∀t x,look s.fr t=some x->∃u,a.tmps[t]? =some u/\aU g w s.A x u
theorem bk {m:Sem Value} {w w':World} {v:Value} (h:m.run P w=.ok v w'):(do pure (Next.value (<-m)):Sem Next).run P w=.ok (.value v) w':=by
 rw[Sem.run_bind,h];rfl
theorem sN {m:Sem Unit} {w w':World} (h:m.run P w=.ok () w'):(do m;pure Next.skip:Sem Next).run P w=.ok .skip w':=by
 rw[Sem.run_bind,h];rfl
theorem gJ (w:World) (e:TypeId) (cs:Array Value):(newRow e cs).run P w=.ok ⟨w.heap.size,0,none⟩ (w.alloc (.cells cs e)):=by
 simp[newRow]
theorem xB (hI:Inv g w s.V s.A) (hF:Fr w0 g0 w g) {m:Sem Next} {cs:Array Value} {e:TypeId} {row:List CV} (hr:ig g w s.A row cs.toList)
  (hm:m.run P w=.ok (.value (.pointer (some ⟨w.heap.size,0,none⟩))) (w.alloc (.cells cs e))) (hK:K (.c (.ptr s.V.length 0)) (s.V++[row]) s.A):cM P w0 g0 g w s.A m K:=by
 obtain⟨g',h1,h2,h3,h4⟩:=hI.newObj hF cs e row (by simpa using hr.1) (fun j c u hc hu=>hr.2 j c u hc (by simpa using hu));exact⟨_,_,_,_,_,_,g',hK,hm,.inl rfl,⟨w.heap.size,h4,rfl⟩,h1,h2,h3⟩
theorem xC (hI:Inv g w s.V s.A) (hF:Fr w0 g0 w g) {e:TypeId} {d:TD} {z:List CV} (ht:td P e=some d) (hz:d.zero=some z) (hK:K (.c (.ptr s.V.length 0)) (s.V++[z]) s.A):
  cM P w0 g0 g w s.A (do pure (.value (<-Instr.alloc e true (.tuple #[])))) K:=by
 obtain⟨i,hi,_,_,h0⟩:=eY ht;obtain⟨v,hv,hc⟩:=h0 z hz;refine xB hI hF (cs:=v.cells) (e:=e) ⟨gI hc,fun j c u h1 h2=>kO (l7 hc j c u h1 h2)⟩ (bk ?_) hK;simp[Instr.alloc,zeroValue,typeInfo,hi,hv,newVar,gJ]
theorem Bx (hI:Inv g w s.V s.A) (hF:Fr w0 g0 w g) {e:TypeId} {x:AV} {u:Value} (hx:aU g w s.A x u) (hp:x.plain=true) (hK:K (.c (.ptr s.V.length 0)) (s.V++[x.cells]) s.A):
  cM P w0 g0 g w s.A (do pure (.value (<-Instr.box e u))) K:=by
 refine xB hI hF (cs:=u.cells) (e:=e) (AV.eQ hx hp).1 (bk ?_) hK;simp[Instr.box,newVar,gJ]
theorem zi (hI:Inv g w s.V s.A) (hF:Fr w0 g0 w g) {t:TypeId} {d:TD} (ht:td P t=some d) {p:CV} {v:Value} (hp:bj g w s.A p v) {cs:List CV} (sJ:eX s p d.sz=some cs) {x:AV} (hx:Bw d.ag cs=some x) (hK:K x s.V s.A):
  cM P w0 g0 g w s.A (do pure (.value (<-Instr.loadAt t v))) K:=by
 obtain⟨b,off,vs,rfl,hl,hr,hc⟩:=nP hI hp sJ;obtain⟨h1,h2⟩:=jQ (P:=P) ht hc (hr.1.trans hl);cases C5:d.ag with
 |true=>
  simp[Bw,C5]at hx;subst hx;exact cM.value hI hF (bk (h1 C5)) (x:=.agg cs) ⟨vs,rfl,hr.1,fun i c u h3 h4=>hr.2 i c u h3 h4⟩ hK
 |false=>
  simp only[Bw,C5,SV,if_false]at hx;split at hx
  ·rename_i c;simp at hx;subst hx;obtain⟨u,rfl⟩:∃u,vs=[u]:=by
    have:=hr.1;simp at this;exact List.length_eq_one_iff.1 this
   exact cM.value hI hF (bk (h2 C5 u rfl)) (x:=.c c) (hr.2 0 c u rfl rfl) hK
  ·simp at hx
theorem jb {t:TypeId} {d:TD} (ht:td P t=some d) {b off:Nat} {v:Value} (hl:v.cells.size=d.sz) {cur:Array Value} {ty:TypeId} (hh:w.heap[b]? =some (.cells cur ty (0,0))) (uF:off+d.sz<=cur.size)
  (h1:∀u∈v.cells.toList,u.oneCell'=true):
  (Instr.storeAt t (.pointer (some ⟨b,off,none⟩)) v).run P w=.ok () (w.setRow b (bH cur.toList off v.cells.toList).toArray):=by
 obtain⟨i,hi,fw,_,_⟩:=eY ht;have hs:(sizeOf t).run P w=.ok i.size w:=by simp[sizeOf,typeInfo,hi]
 have pV:=run_storeCells_at P b off ty v.cells.toList 0 cur w hh (by simp;omega) h1;simp only[Sj]at pV;show(storeVar t ⟨b,off,none⟩ v).run P w=_;unfold storeVar;rw[Sem.run_bind,hs];simp only[Result.andThen_ok];rw[if_neg (by omega)];simpa[bH]using pV
theorem sO {cs:List CV} {vs:List Value} {row:List CV} {cur:List Value} {off:Nat} (hl:cur.length=row.length) (hr:∀(j:Nat) c u,row[j]? =some c->cur[j]? =some u->bj g w A c u) (h:ig g w A cs vs) (uF:off+cs.length<=row.length):
  ∀(j:Nat) c u,(bH row off cs)[j]? =some c->(bH cur off vs)[j]? =some u->bj g w A c u:=by
 intro j c u hc hu;rw[ez (by omega)]at hc;rw[ez (by rw[h.1];omega),h.1]at hu;split at hc
 ·rename_i hj;rw[if_pos hj]at hu;exact h.2 _ c u hc hu
 ·rename_i hj;rw[if_neg hj]at hu;exact hr j c u hc hu
theorem rO (hI:Inv g w s.V s.A) (hF:Fr w0 g0 w g) {t:TypeId} {d:TD} (ht:td P t=some d) {l off:Nat} {p v:Value} (hp:bj g w s.A (.ptr l off) p) {x:AV} (hx:aU g w s.A x v) (pW:x.plain=true) (hlen:x.cells.length=d.sz)
  {row:List CV} (cV:s.V[l]? =some row) (uF:off+d.sz<=row.length) (hK:K (.c .undef) (s.V.set l (bH row off x.cells)) s.A):
  cM P w0 g0 g w s.A (do Instr.storeAt t p v;pure .skip) K:=by
 obtain⟨b,hb,rfl⟩:=hp;obtain⟨sJ,h1⟩:=AV.eQ hx pW;obtain⟨_,cur,ty,hh,hs,hr⟩:=hI.obj l row b cV hb;have Bv:v.cells.size=d.sz:=by have:=sJ.1;simp at this;omega
 have eB:=jb (P:=P) ht Bv hh (off:=off) (by omega) h1
 obtain⟨k1,k2,k3⟩:=hI.setObj hF cV hb (bH cur.toList off v.cells.toList).toArray (row':=bH row off x.cells)
  (by simp only[Sx];rw[ei (by simp;omega),ei (by omega)];simpa using hs)
  (fun j c u h3 h4=>sO (cur:=cur.toList) (by rw[SR];exact hs) (fun j c u h5 h6=>hr j c u h5 (by simpa using h6)) sJ (by omega) j c u h3 (by simpa using h4))
 exact⟨_,_,_,_,undef,_,g,hK,sN eB,.inr ⟨rfl,rfl⟩,rfl,k1,k2,k3⟩
theorem zj {cs:List CV} {k:Nat} (h:∀c∈cs,∀k' n,c=.own k' n->k'≠k):∀{A:List bp},(bC A cs)[k]? =A[k]? :=by
 induction cs with
 |nil=>intro A;rfl
 |cons c cs ih=>
  intro A;simp only[bC,SI];have:=ih (fun c' AE=>h c' (by simp[AE])) (A:=er A c);simp only[bC]at this;rw[this];cases c<;>try rfl
  rename_i k' n;have cN:=h (.own k' n) (by simp) k' n rfl;simp only[er];cases hk:A[k']? with
  |none=>rfl
  |some r=>rw[SD cN]
theorem rP (hI:Inv g w s.V s.A) (hF:Fr w0 g0 w g) {t:TypeId} {d:TD} (ht:td P t=some d) {k n i off:Nat} {p v:Value} (hp:bj g w s.A (.op k n i off) p) {x:AV} (hx:aU g w s.A x v) (pW:x.plain=true) (hlen:x.cells.length=d.sz)
  {r:bp} (hk:s.A[k]? =some r) (hn:n=r.rows.length) (hw:r.wr=true) {row:List DV} (cV:r.rows[i]? =some row) {ds:List DV} (xo:fK s.A x.cells=some ds) (uF:off+d.sz<=r.sz)
  (dc:(x.cells.all fun c=>match c with|.own k' _=>k'≠k|_=>true)=true)
  (hK:K (.c .undef) s.V ((bC s.A x.cells).set k {r with rows:=r.rows.set i (bH row off ds)})):
  cM P w0 g0 g w s.A (do Instr.storeAt t p v;pure .skip) K:=by
 obtain⟨sJ,h1⟩:=AV.eQ hx pW;obtain⟨g1,eK,cJ,ju,rN,qa,ij⟩:=qe hI hF sJ xo;obtain⟨b,e,rfl,r',nN,IH,hq⟩:=hp;obtain rfl:r=r':=by rw[hk]at nN;exact Option.some.inj nN
 obtain⟨cap,zh,rfl⟩:=hq hn;have uz:(bC s.A x.cells)[k]? =some r:=by
  rw[zj fun c hc k' n' e=>?_]
  ·exact hk
  ·subst e;have:=SP.1 dc _ hc;simpa using this
 have Jm:=oY xo;have Bv:v.cells.size=d.sz:=by have:=sJ.1;simp at this;omega
 obtain⟨cur,ty,cap',lH,hh,Bt,Rz,xA,gA,yX⟩:=eK.C1 ju uz (by rw[rN];exact zh) hw cV (ds:=ds) (off:=off) (by omega) (b:=b) rfl v.cells.toList (by simp;omega) ij;have eB:=jb (P:=P) ht Bv hh (off:=i*r.sz+off) (by simp at Bt;omega) h1;exact⟨_,_,_,_,undef,_,g1,hK,sN eB,.inr ⟨rfl,rfl⟩,rfl,xA,cJ.trans gA,yX⟩
theorem wm {op:BinOp} {t:TypeId} {ox oy:Operand} {x y r:AV} {u v:Value} (hx:aU g w A x u) (hy:aU g w A y v) (h:wi op x y=some r):
  ∃z,(do eqGuard op t ox oy u v;binOp op t u v:Sem Value).run P w=.ok z w/\aU g w A r z:=by
 unfold wi at h;split at h
 ·rename_i k a k' b;simp only[aU,c7,bj,bc]at hx hy;subst hx;subst hy;split at h
  ·rename_i hk;subst hk;have hg:∀op,(eqGuard op t ox oy (.int k a) (.int k b)).run P w=.ok () w:=by
    intro op;cases op<;>simp[eqGuard]
   rw[Sem.run_bind,hg];simp only[Result.andThen_ok];split at h<;>first|(simp at h;done)|skip
   all_goals(try(split at h<;>first|(simp at h;done)|skip))
   all_goals(simp only[Option.some.injEq]at h;subst h;refine⟨_,?_,rfl⟩)
   all_goals first
    |(simp[binOp,Op.intArith];done)
    |(simp[binOp,Op.intBits,xz];done)
    |(rename_i hb;simp[binOp,Op.shift,hb];done)
    |(rename_i hb;simp[binOp,Op.intDiv,hb];done)
    |(simp[binOp,Op.intCmp];done)
  ·simp at h
 ·rename_i a b;simp only[aU,c7,bj,bc]at hx hy;subst hx;subst hy;have hg:∀op,(eqGuard op t ox oy (.string (bs a)) (.string (bs b))).run P w=.ok () w:=by
   intro op;cases op<;>simp[eqGuard]
  rw[Sem.run_bind,hg];simp only[Result.andThen_ok];split at h<;>first|(simp at h;done)|skip
  ·split at h
   ·rename_i hle;simp only[Option.some.injEq]at h;subst h;refine⟨.string (bs (a++b)),?_,rfl⟩;have hn:¬(((bs a).size+(bs b).size:Nat):Int)>IntKind.i64.max:=by rw[mQ,mQ];simp[IntKind.max,IntKind.signed,IntKind.bits];omega
    have C6:bs a++bs b=bs (a++b):=by
     simp only[bs];apply ByteArray.ext;simp
    simp only[binOp,Op.stringOp,if_neg hn,C6,Sem.run_pure]
   ·simp at h
  all_goals(simp only[Option.some.injEq]at h;subst h;refine⟨_,?_,rfl⟩;simp[binOp,Op.stringOp,qc])
 ·simp at h
theorem uH {op:BinOp} {t:TypeId} {d:TD} {ox oy:Operand} {x y r:AV} {u v:Value} (ht:td P t=some d) (hd:d.kJ=true) (hx:aU g w A x u) (hy:aU g w A y v) (h:oV op x y=some r):
  ∃z,(do eqGuard op t ox oy u v;binOp op t u v:Sem Value).run P w=.ok z w/\aU g w A r z:=by
 have hb:=Hl ht hd;unfold oV at h;split at h
 ·rename_i a b;simp only[aU,c7,bj,bc]at hx hy;subst hx;subst hy;split at h<;>first|(simp at h;done)|skip
  all_goals(simp only[Option.some.injEq]at h;subst h;refine⟨_,?_,rfl⟩;rw[Sem.run_bind])
  ·rw[show(eqGuard .eql t ox oy (.bool a) (.bool b)).run P w=.ok () w by simp[eqGuard]];simp only[Result.andThen_ok,run_eql_bool w t a b hb]
  ·rw[show(eqGuard .neq t ox oy (.bool a) (.bool b)).run P w=.ok () w by simp[eqGuard]];simp only[Result.andThen_ok,run_neq_bool w t a b hb]
 ·simp at h
theorem xD {d:Nat} {xs ys:Array Value}:∀{fs:List Field} {i:Nat} {ks:List Nat} {cs ds:List CV} {r:Bool},Jl P i fs=some ks->AB ks cs ds=some r->
  (∀(j:Nat) c,cs[j]? =some c->∃u,xs[i+j]? =some u/\bj g w A c u)->(∀(j:Nat) c,ds[j]? =some c->∃u,ys[i+j]? =some u/\bj g w A c u)->(Op.eqFields (d+1) xs ys fs).run P w=.ok r w
 |[],i,ks,cs,ds,r,h1,h2,_,_=>by
  simp[Jl]at h1;subst h1;cases cs<;>cases ds<;>simp[AB]at h2
  subst h2;simp[Op.eqFields]
 |f::fs,i,ks,cs,ds,r,h1,h2,hx,hy=>by
  simp only[Jl]at h1;split at h1<;>first|(simp at h1;done)|skip
  rename_i dd hu;split at h1<;>first|(simp at h1;done)|skip
  rename_i k ks' hk jS;split at h1<;>first|(simp at h1;done)|skip
  rename_i hn;simp at h1;subst h1;have key:∀(c c':CV) cs' ds' (b r':Bool),cs=c::cs'->ds=c'::ds'->(∀u u',bj g w A c u->bj g w A c' u'->(part f.type xs f.offset).run P w=.ok u w->(part f.type ys f.offset).run P w=.ok u' w->(Op.equalIn (d+1) f.type u u').run P w=.ok b w)->P.plainKey f.type=true->AB ks' cs' ds'=some r'->(b && r')=r->(Op.eqFields (d+1) xs ys (f::fs)).run P w=.ok r w:=by
   intro c c' cs' ds' b r' e1 e2 h3 hp h4 h5;subst e1;subst e2;obtain⟨u,EC,yY⟩:=hx 0 c rfl;obtain⟨u',Mf,Mg⟩:=hy 0 c' rfl;have p1:=run_part_plain w hp (xs:=xs) (off:=f.offset) (v:=u) (by rw[hn.2];simpa using EC);have p2:=run_part_plain w hp (xs:=ys) (off:=f.offset) (v:=u') (by rw[hn.2];simpa using Mf);have h6:=xD (d:=d) (xs:=xs) (ys:=ys) jS h4 (fun j c hc=>by
    obtain⟨u,h7,h8⟩:=hx (j+1) c (by simpa using hc);exact⟨u,by rw[<-h7];congr 1;omega,h8⟩) (fun j c hc=>by
    obtain⟨u,h7,h8⟩:=hy (j+1) c (by simpa using hc);exact⟨u,by rw[<-h7];congr 1;omega,h8⟩)
   simp only[Op.eqFields,hn.1,ne_eq,not_false_eq_true,if_true,Sem.run_bind,p1,p2,h3 u u' yY Mg p1 p2,Result.andThen_ok];subst h5;cases b
   ·simp
   ·simpa using h6
  unfold AB at h2;split at h2<;>first|(simp at h2;done)|skip
  ·rename_i heq;simp at heq
  ·rename_i q a cs' q' b ds' heq;simp only[List.cons.injEq]at heq;obtain⟨rfl,rfl⟩:=heq;split at h2<;>first|(simp at h2;done)|skip
   rename_i e;subst e;simp only[SW]at h2;obtain⟨r',h3,h4⟩:=h2;cases dd<;>simp[wj]at hk
   exact key _ _ _ _ (a==b) r' rfl rfl (fun u u' h5 h6 _ _=>by simp only[bj,bc]at h5 h6;subst h5;subst h6;exact run_equalIn_int w d _ _ _ _ _ hu) (by simp[Program.plainKey,hu]) h3 h4
  ·rename_i a cs' b ds' heq;simp only[List.cons.injEq]at heq;obtain⟨rfl,rfl⟩:=heq;simp only[SW]at h2;obtain⟨r',h3,h4⟩:=h2;cases dd<;>simp[wj]at hk
   exact key _ _ _ _ (a==b) r' rfl rfl (fun u u' h5 h6 _ _=>by simp only[bj,bc]at h5 h6;subst h5;subst h6;exact run_equalIn_bool' w d _ _ _ hu) (by simp[Program.plainKey,hu]) h3 h4
  ·rename_i a cs' b ds' heq;simp only[List.cons.injEq]at heq;obtain⟨rfl,rfl⟩:=heq;simp only[SW]at h2;obtain⟨r',h3,h4⟩:=h2;cases dd<;>simp[wj]at hk
   exact key _ _ _ _ (a==b) r' rfl rfl (fun u u' h5 h6 _ _=>by simp only[bj,bc]at h5 h6;subst h5;subst h6;rw[run_equalIn_string w d _ _ _ hu,qc,qc]) (by simp[Program.plainKey,hu]) h3 h4
theorem uI {op:BinOp} {t:TypeId} {ox oy:Operand} {x y r:AV} {u v:Value} (hx:aU g w A x u) (hy:aU g w A y v) (h:oW P op t x y=some r):
  ∃z,(do eqGuard op t ox oy u v;binOp op t u v:Sem Value).run P w=.ok z w/\aU g w A r z:=by
 unfold oW at h;split at h<;>first|(simp at h;done)|skip
 rename_i xs ys;split at h<;>first|(simp at h;done)|skip
 rename_i ks jS;split at h<;>first|(simp at h;done)|skip
 rename_i b hb;obtain⟨us,rfl,xE,IK⟩:=hx;obtain⟨vs,rfl,Bv,Mh⟩:=hy;unfold sq at jS;split at jS<;>first|(simp at jS;done)|skip
 rename_i fs hu;split at jS<;>first|(simp at jS;done)|skip
 rename_i pV;have Om:P.fieldsOf t=fs:=by simp[Program.fieldsOf,hu]
 have heq:(Op.equal t (.agg us.toArray) (.agg vs.toArray)).run P w=.ok b w:=by
  show(Op.equalIn (9999+1) t (.agg us.toArray) (.agg vs.toArray)).run P w=.ok b w;rw[run_equalIn_struct w 9999 t _ _ (by rw[Om];exact hu) pV.1,Om];refine xD (d:=9998) (g:=g) (A:=A) jS hb (fun j c hc=>?_) (fun j c hc=>?_)
  ·have hj:j<us.length:=by have:=(Sl.1 hc).1;omega
   exact⟨us[j],by simp[hj],IK j c _ hc (Sm hj)⟩
  ·have hj:j<vs.length:=by have:=(Sl.1 hc).1;omega
   exact⟨vs[j],by simp[hj],Mh j c _ hc (Sm hj)⟩
 have hg:∀op,(eqGuard op t ox oy (.agg us.toArray) (.agg vs.toArray)).run P w=.ok () w:=by
  intro op;cases op<;>simp[eqGuard,pV.2]
 rw[Sem.run_bind,hg];simp only[Result.andThen_ok];split at h<;>first|(simp at h;done)|skip
 all_goals(simp only[Option.some.injEq]at h;subst h;refine⟨_,?_,rfl⟩)
 ·simp[binOp,heq]
 ·simp[binOp,heq]
theorem By {op:UnOp} {x r:AV} {u:Value} (hx:aU g w A x u) (h:E0 op x=some r):∃z,(Op.unary op u).run P w=.ok z w/\aU g w A r z:=by
 unfold E0 at h;split at h<;>first|(simp at h;done)|skip
 all_goals(simp only[Option.some.injEq]at h;subst h;simp only[aU,c7,bj,bc]at hx;subst hx;refine⟨_,?_,rfl⟩)
 ·simp[Op.unary]
 ·simp[Op.unary,Op.intArith]
theorem oZ:∀{rows:List (List DV)} {b:List UInt8},bytesOf rows=some b->rows.length=b.length/\∀(i:Nat) row,rows[i]? =some row->∃n:Int,row=[.int .u8 n]/\b[i]? =some (UInt8.ofNat n.toNat)
 |[],b,h=>by simp[bytesOf]at h;subst h;exact⟨rfl,fun i row h=>by simp at h⟩
 |r::rs,b,h=>by
  simp only[bytesOf]at h;split at h
  ·rename_i c l h1 h2;simp at h;subst h;obtain⟨h3,h4⟩:=oZ h2;refine⟨by simp[h3],fun i row cV=>?_⟩;cases i with
   |zero=>
    simp at cV;subst cV;unfold mP at h1;split at h1
    ·rename_i n;split at h1
     ·simp at h1;subst h1;exact⟨n,rfl,rfl⟩
     ·simp at h1
    ·simp at h1
   |succ i=>simp at cV;simpa using h4 i row cV
  ·simp at h
theorem xF {src dst e:TypeId} {ds dd de:TD} (hs:td P src=some ds) (hd:td P dst=some dd) (uJ:dd.cG=true) (PL:ds.el=some e) (he:td P e=some de) (hk:de.ik=some .u8) {rows:List (List DV)} {v:Value} (hv:bc g.im w (.sl rows) v)
  {b:List UInt8} (hb:bytesOf rows=some b):(convert src dst v).run P w=.ok (.string (bs b)) w:=by
 have h1:=lZ hs PL;have h2:=Gi he hk;have h3:=oe hd uJ;obtain⟨hl,ED⟩:=oZ hb;simp only[bc]at hv;obtain⟨ad,cap,rfl,_,hr⟩:=hv;rcases hr with rfl|⟨bl,off,sz,rfl,_,wg⟩
 ·have Gj:b=[]:=Su (by simpa using hl.symm);subst Gj;cases ad with
  |none=>exact run_convert_bytes_nil (P:=P) w src e h1 h2 0 cap dst h3
  |some ad=>
   refine(run_convert_bytes_string w src dst e _ 0 cap h1 h2 h3).trans ?_;simp[Conv.bytesToString,loadCells,loadCellsFrom]
   rfl
 ·have fw:∀i,i<rows.length->∃n:Int,rows[i]? =some [.int .u8 n]/\b[i]? =some (UInt8.ofNat n.toNat):=fun i hi=>by
   obtain⟨n,h4,h5⟩:=ED i _ (Sm hi);exact⟨n,by rw[Sm hi,h4],h5⟩
  let xs:List Int:=rows.map fun r=>match r with|[.int .u8 n]=>n|_=>0
  have hx:strOfNums xs=bs b:=by
   simp only[strOfNums,bs]
   congr 2
   apply SE;intro i;by_cases hi:i<rows.length
   ·obtain⟨n,h4,h5⟩:=fw i hi;simp[xs,h4,h5]
   ·simp[xs,SO (show rows.length<=i by omega),SO (show b.length<=i by omega)]
  rw[<-hx];refine run_convert_bytes_arg w src e h1 h2 bl off rows.length cap xs (by simp[xs]) (fun i hi=>?_) dst h3;obtain⟨n,h4,_⟩:=fw i hi;obtain⟨h6,h7⟩:=bS.at_ wg h4;have Hm:sz=1:=by simpa using h6.symm
  subst Hm;simp only[cA,and_true]at h7;obtain⟨u,h8,h9⟩:=h7;simp only[bc]at h9;subst h9;simpa[xs,h4]using h8
end
section
variable {P:Program} {g g' g0:Gh} {w w' w0:World} {V V':List (List CV)} {A A':List bp} {s:St} {a:Act} {K:AV->List (List CV)->List bp->Prop}
theorem qT:∀(l:List Value) (k off:Nat) (arr:Array Value),off+k+l.length<=arr.size->(l.zipIdx k).foldl (fun cs (c:Value×Nat)=>cs.setIfInBounds (off+c.2) c.1) arr=(bH arr.toList (off+k) l).toArray
 |[],k,off,arr,_=>by simp[bH]
 |v::rest,k,off,arr,h=>by
  simp only[SG,SI];rw[qT rest (k+1) off _ (by simp at h⊢;omega)];have e:=list_seg_step arr.toList (off+k) v rest (by simp at h⊢;omega);simp only[bH,Array.toList_setIfInBounds,SC]
  congr 1
theorem vg (place:Nat->Option (Nat×Nat)) (cells:Array Value) (i:Nat) (v:Value) (rest:List (Nat×Value)) {off size:Nat} (hp:place i=some (off,size)) (hs:v.cells.size=size) (hf:off+size<=cells.size):
  Instr.fill place cells ((i,v)::rest)=Instr.fill place (bH cells.toList off v.cells.toList).toArray rest:=by
 simp only[Instr.fill,hp];rw[if_neg (by simp;omega)]
 congr 1
 have h:=qT v.cells.toList 0 off cells (by simp;omega);rw[<-Array.foldl_toList];simpa using h
theorem sP (hS:gD g w s a) {fl:List (Nat×Nat)}:∀{parts:List (Nat×Operand)} {ps:List (Nat×List CV)} {cs cs':List CV} {vs:List Value},fL s parts=some ps->lG fl cs ps=some cs'->ig g w s.A cs vs->
  ∃vs',Instr.fill (fl[·]?) vs.toArray (parts.map fun(i,x)=>(i,a.eval x))=some vs'.toArray/\ig g w s.A cs' vs'
 |[],ps,cs,cs',vs,hp,hf,hr=>by
  simp[fL]at hp;subst hp;simp[lG]at hf;subst hf;exact⟨vs,rfl,hr⟩
 |(i,o)::r,ps,cs,cs',vs,hp,hf,hr=>by
  have RA:=hp;simp only[fL]at hp;split at hp
  ·rename_i v l h1 h2;split at hp
   ·rename_i pW;simp at hp;subst hp;simp only[lG]at hf;split at hf
    ·simp at hf
    ·rename_i off size r9;split at hf
     ·rename_i hc;obtain⟨Bz,_⟩:=AV.eQ (aE hS h1) pW;have fw:(a.eval o).cells.size=size:=by have:=Bz.1;simp at this;omega
      have Bv:=hr.1;simp only[Sv];rw[vg _ _ _ _ _ r9 fw (by simp;omega)];refine sP hS h2 hf ⟨?_,?_⟩
      ·rw[ei (by simp;omega),ei (by omega)];simpa using Bv
      ·exact sO (by simpa using Bv) (fun j c u h3 h4=>hr.2 j c u h3 (by simpa using h4)) Bz (by omega)
     ·simp at hf
   ·simp at hp
  ·simp at hp
theorem vi:∀{fs:List Field} {l:List (Nat×Nat)},uG P fs=some l->fs.mapM (fun f=>(P.info? f.type).map fun i=>(f.offset,i.size))=some l
 |[],l,h=>by simp[uG]at h;subst h;rfl
 |f::r,l,h=>by
  simp only[uG]at h;split at h
  ·rename_i i l' h1 h2;simp at h;subst h;simp[List.mapM_cons,h1,vi h2]
  ·simp at h
theorem xG (hI:Inv g w s.V s.A) (hF:Fr w0 g0 w g) (hS:gD g w s a) {t:TypeId} {d:TD} (ht:td P t=some d) {z:List CV} (hz:d.zero=some z) (r9:d.fl≠[]) {parts:Array (Nat×Operand)} {ps:List (Nat×List CV)} (hp:fL s parts.toList=some ps)
  {cs:List CV} (hf:lG d.fl z ps=some cs) (hK:K (.agg cs) s.V s.A):cM P w0 g0 g w s.A (do pure (.value (<-Instr.build t (parts.map fun(i,x)=>(i,a.eval x))))) K:=by
 obtain⟨de,i,hu,hi,rfl⟩:=ja ht;obtain⟨i',Ay,_,_,h0⟩:=eY ht;obtain rfl:i=i':=by rw[hi]at Ay;exact Option.some.inj Ay
 obtain⟨zv,E2,EE⟩:=h0 z hz;cases de with
 |struct fs=>
  simp only[II]at r9 hf;cases Hn:uG P fs.toList with
  |none=>simp[Hn]at r9
  |some l=>
   simp only[Hn,SY]at hf;obtain⟨vs',h1,h2⟩:=sP (g:=g) (w:=w) (s:=s) (a:=a) hS hp hf (vs:=zv.cells.toList) ⟨gI EE,fun j c u h3 h4=>kO (l7 EE j c u h3 h4)⟩;have hb:P.built t (parts.map fun(i,x)=>(i,a.eval x)).toList=some vs'.toArray:=by
    simp only[Program.built,hi,hu,E2,vi Hn];simpa using h1
   exact cM.value hI hF (bk (run_build w t _ _ hb)) (x:=.agg cs) ⟨vs',rfl,h2.1,fun j c u h3 h4=>h2.2 j c u h3 h4⟩ hK
 |_=>simp[II]at r9
theorem vj (size:Nat):∀(vals:List Value) (k:Nat) (cells:Array Value),(∀v∈vals,v.cells.size=size)->(k+vals.length)*size<=cells.size->
  Instr.fill (fun i=>some (i*size,size)) cells (vals.zipIdx k|>.map fun(v,i)=>(i,v))=some (bH cells.toList (k*size) (vals.flatMap fun v=>v.cells.toList)).toArray
 |[],k,cells,_,_=>by simp[Instr.fill,bH]
 |v::r,k,cells,hs,hl=>by
  have hv:v.cells.size=size:=hs v (by simp);have EF:k*size+size+r.length*size<=cells.size:=by simp[R7]at hl;omega
  simp only[SG,Sv]
  rw[vg _ cells k v _ rfl hv (by omega),vj size r (k+1) _ (fun x hx=>hs x (by simp[hx]))
   (by simp only[Sx];rw[ei (by simp;omega)];simp[R7];omega)]
  have r9:(r.flatMap fun v=>v.cells.toList).length=r.length*size:=by
   have:∀(l:List Value),(∀v∈l,v.cells.size=size)->(l.flatMap fun v=>v.cells.toList).length=l.length*size:=by
    intro l;induction l with
    |nil=>simp
    |cons x l ih=>intro h;simp[ih (fun y hy=>h y (by simp[hy])),h x (by simp),R7];omega
   exact this r (fun x hx=>hs x (by simp[hx]))
  congr 2
  apply SE;intro j;rw[ez (by simp only[];rw[ei (by simp;omega),r9];simp[R7];omega),ez (by simp;omega),ez (by simp[r9];omega),r9];simp only[SJ,Sw,r9,SR,hv,R7,Se];by_cases h1:k*size+size<=j/\j<k*size+size+r.length*size
  ·rw[if_pos h1,if_pos (by omega),Sp (by simp;omega)]
   congr 1;simp;omega
  ·rw[if_neg h1];by_cases h2:k*size<=j/\j<k*size+size
   ·rw[if_pos h2,if_pos (by omega),So (by simp;omega)]
   ·rw[if_neg h2,if_neg (by omega)]
theorem qU (hS:gD g w s a) {sz:Nat}:∀{parts:List (Nat×Operand)} {k:Nat} {rows:List (List CV)},ie s sz k parts=some rows->
  parts.map (fun(i,x)=>(i,a.eval x))=((parts.map fun(_,x)=>a.eval x).zipIdx k|>.map fun(v,i)=>(i,v))/\rows.length=parts.length/\(∀row∈rows,row.length=sz)/\
  (∀v∈parts.map (fun(_,x)=>a.eval x),v.cells.size=sz/\∀u∈v.cells.toList,u.oneCell'=true)/\ig g w s.A rows.flatten ((parts.map fun(_,x)=>a.eval x).flatMap fun v=>v.cells.toList)
 |[],k,rows,h=>by simp[ie]at h;subst h;exact⟨rfl,rfl,by simp,by simp,rfl,fun j c u h=>by simp at h⟩
 |(i,o)::r,k,rows,h=>by
  simp only[ie]at h;split at h
  ·rename_i v l h1 h2;split at h
   ·rename_i hc;simp at h;subst h;obtain⟨rfl,hp,hl⟩:=hc;obtain⟨h3,h4,h5,h6,h7⟩:=qU hS h2;obtain⟨Bz,PM⟩:=AV.eQ (aE hS h1) hp;have fw:(a.eval o).cells.size=sz:=by have:=Bz.1;simp at this;omega
    refine⟨by simp only[Sv,SG,h3],by simp[h4],fun row cV=>?_,fun v' IL=>?_,?_,fun j c u h8 h9=>?_⟩
    ·simp at cV;rcases cV with rfl|cV
     ·exact hl
     ·exact h5 row cV
    ·simp only[Sv,List.mem_cons]at IL;rcases IL with rfl|IL
     ·exact⟨fw,PM⟩
     ·exact h6 v' IL
    ·simp only[Sv,SJ,Sq,Sw,h7.1,Bz.1]
    ·simp only[Sv,SJ,Sq]at h8 h9;by_cases hj:j<v.cells.length
     ·rw[So hj]at h8;rw[So (by rw[Bz.1];exact hj)]at h9;exact Bz.2 j c u h8 h9
     ·rw[Sp (by omega)]at h8;rw[Sp (by rw[Bz.1];omega),Bz.1]at h9;exact h7.2 _ c u h8 h9
   ·simp at h
  ·simp at h
theorem qf (hI:Inv g w s.V s.A) (hF:Fr w0 g0 w g) (hS:gD g w s a) {t e:TypeId} {d de:TD} (ht:td P t=some d) (uA:d.el=some e) (he:td P e=some de) {parts:Array (Nat×Operand)} {rows:List (List CV)} (hr:ie s de.sz 0 parts.toList=some rows)
  {ds:List (List DV)} (xo:iC s.A rows=some ds) {len:Nat} (hlen:rows.length=len) (hle:len*de.sz<=16777216) (uK:0<de.sz) (hz:de.zero.isSome=true) {ow:Bool}
  (hK:if ow then K (.c (.own s.A.length len)) s.V (bC s.A rows.flatten++[{sz:=de.sz,eO:=e,rows:=ds,wr:=true}])else K (.c (.d (.sl ds))) s.V (bC s.A rows.flatten)):
  cM P w0 g0 g w s.A (do pure (.value (<-Instr.buildSlice t len (parts.map fun(i,x)=>(i,a.eval x))))) K:=by
 obtain⟨i,hi,qg,_,h0⟩:=eY he;obtain⟨z,hz⟩:=SX.1 hz;obtain⟨zv,E2,EE⟩:=h0 z hz;have qV:=lZ ht uA;obtain⟨h1,h2,h3,h4,h5⟩:=qU hS hr;have Mi:=qS xo
 let vals:=parts.toList.map fun(_,x)=>a.eval x
 let cells:=vals.flatMap fun v=>v.cells.toList
 have Bv:vals.length=len:=by simp only[vals,List.length_map];omega
 have sQ:cells.length=len*de.sz:=by rw[show cells.length=rows.flatten.length from h5.1,dA h3,hlen]
 have uL:∀u∈cells,u.oneCell'=true:=fun u hu=>by
  obtain⟨v,hv,Mj⟩:=List.mem_flatMap.1 hu;exact(h4 v hv).2 u Mj
 have Gk:∀z:Array Value,z.size=len*de.sz->Instr.fill (fun i=>some (i*de.sz,de.sz)) z (parts.map fun(i,x)=>(i,a.eval x)).toList=some cells.toArray:=fun z yZ=>by
  have:=vj de.sz vals 0 z (fun v hv=>(h4 v hv).1) (by rw[Sa,Bv];omega);rw[<-h1]at this;simp only[SS,this,Option.some.injEq,Sf]
  congr 1
  show bH z.toList 0 cells=cells;simp[bH,sQ,yZ]
 have eB:∀w:World,(Instr.buildSlice t len (parts.map fun(i,x)=>(i,a.eval x))).run P w=.ok (.slice (some ⟨w.heap.size,0,none⟩) len len) (w.alloc (.cells cells.toArray e)):=fun w=>by
  have fw:(sizeOf e).run P w=.ok de.sz w:=by simp[sizeOf,typeInfo,hi,qg]
  have PN:∀w:World,(zeroValue e).run P w=.ok zv w:=fun w=>by simp[zeroValue,typeInfo,hi,E2]
  unfold Instr.buildSlice;simp only[Sem.run_bind,run_underlying qV,Result.andThen_ok,fw];rw[if_neg (by omega)];by_cases EG:len*de.sz=0
  ·have:=Gk #[] (by simp[EG]);simp only[EG,if_true,Sem.run_pure,Sem.run_bind,Result.andThen_ok,Array.range_zero',Array.map_empty,this,gJ]
  ·have:=Gk ((Array.range (len*de.sz)).map (zv.cells[· % zv.cells.size]!)) (by simp);simp only[EG,if_false,Sem.run_pure,Sem.run_bind,Result.andThen_ok,PN,this,gJ]
 obtain⟨g1,eK,cJ,ju,rN,qa,ij⟩:=qe hI hF h5 Mi.1;have kI:∀r∈ds,r.length=de.sz:=fun r hr=>by
  obtain⟨j,hj⟩:=Sz hr;have kf:j<rows.length:=by have:=(Sl.1 hj).1;omega
  have cV:rows[j]? =some rows[j]:=Sm kf;rw[Mi.2.2 j _ r cV hj];exact h3 _ (List.getElem_mem kf)
 by_cases On:ow=true
 ·rw[if_pos On]at hK;obtain⟨g2,EH,xA,gA⟩:=eK.dG (.cells cells.toArray e) 0;have yX:=ju.dG (.cells cells.toArray e) 0;rw[<-EH]at yX;have Ml:len<=maxLen:=by
   have:len<=len*de.sz:=Nat.le_mul_of_pos_right _ uK;simp only[maxLen];omega
  have dM:=World.ownsRow_lit (base:=0) (e:=e) (size:=de.sz) w cells.toArray len (R8 _) Ml (by simpa using sQ)
  obtain⟨g3,PO,PQ,Mm,Mn,Mo,Mp⟩:=xA.p9 yX {sz:=de.sz,eO:=e,rows:=ds,wr:=true} (.slice (some ⟨w.heap.size,0,none⟩) len len) cells kI (by simp only[show ds.length=len by omega];simpa using dM)
   (fun j x u h6 h7=>bc.eF gA.gr x u (ij j x u h6 h7))
   (fun b hb=>by
    simp[Value.ownBlock]at hb;subst hb;subst EH;refine⟨by simp,hF.size,fun l hl=>?_,fun k v hv hb=>?_⟩
    ·have:=eK.oU (g:=g1) hl;omega
    ·have:=eK.kN (g:=g1) hv hb;omega)
  refine⟨_,_,_,_,_,_,g3,hK,bk (eB w),.inl rfl,?_,Mn,(cJ.trans gA).trans Mo,Mp⟩;have Lf:(bC s.A rows.flatten).length=s.A.length:=by
   have:∀(cs:List CV) (A:List bp),(bC A cs).length=A.length:=by
    intro cs;induction cs with
    |nil=>intro A;rfl
    |cons c cs ih=>intro A;simp only[bC,SI];have:=ih (er A c);simp only[bC]at this;rw[this];cases c<;>try rfl
                   simp only[er];split<;>simp
   exact this _ _
  refine⟨some ⟨w.heap.size,0,none⟩,len,rfl,{sz:=de.sz,eO:=e,rows:=ds,wr:=true},?_,by simp only[];omega,fun _=>?_⟩
  ·rw[Sp (by rw[Lf];exact R6 _),Lf];simp
  ·rw[Mm,Sp (by rw[xA.j7,Lf];exact R6 _),xA.j7,Lf];simp
 ·rw[if_neg On]at hK;obtain⟨g2,EH,xA,gA⟩:=eK.dG (.cells cells.toArray e) cells.length;have yX:=ju.dG (.cells cells.toArray e) cells.length;rw[<-EH]at yX;refine⟨_,_,_,_,_,_,g2,hK,bk (eB w),.inl rfl,?_,xA,cJ.trans gA,yX⟩;simp only[aU,c7,bj,bc];refine⟨some ⟨w.heap.size,0,none⟩,len,by rw[show ds.length=len by omega],by omega,.inr ⟨w.heap.size,0,de.sz,rfl,?_,?_⟩⟩
  ·have Jm:ds.length=len:=by omega
   subst EH;simp[Jm,sQ]
  ·refine bS.mk fun i r Oo=>⟨kI r (Sr Oo),cA.mk fun j x hx=>?_⟩
   have hf:=iZ kI Oo hx;have aC:i*de.sz+j<cells.length:=by
    have:=(Sl.1 hf).1;rw[dA kI]at this;rw[sQ,<-hlen,<-Mi.2.1];exact this
   have hu:cells[i*de.sz+j]? =some cells[i*de.sz+j]:=Sm aC;refine⟨_,?_,bc.eF gA.gr _ _ (ij _ x _ hf hu)⟩;rw[cell_of_row _ w.heap.size _ cells.toArray e (0,0) (heap_alloc_new w _),Sa];simp[hu]
theorem C7 {im:Nat->Nat} {v:Value} {c:CV} {x:DV} (h:qb v=some c) (hd:lS A c=some x):bc im w x v:=by
 unfold qb at h;split at h<;>first|(simp at h;done)|skip
 all_goals(simp only[Option.some.injEq]at h;subst h;simp only[lS,Option.some.injEq]at hd)
 all_goals first
  |(subst hd;simp only[bc];done)
  |(subst hd;simp only[bc];rw[AD])
  |(subst hd;simp only[bc];exact⟨none,0,rfl,R6 _,.inl trivial⟩)
  |(cases hd)
theorem rQ (hI:Inv g w s.V s.A) (hF:Fr w0 g0 w g) {t e:TypeId} {d de:TD} (ht:td P t=some d) (uA:d.el=some e) (he:td P e=some de) {z:List CV} (hz:de.zero=some z) {dz:List DV} (Oq:fK s.A z=some dz) {kl kc:IntKind} {n:Int} (h0:0<=n)
  (hb:n.toNat*de.jy<=140737488355328) (hm:n.toNat<=9223372036854775807) (uK:0<de.sz) (yZ:z.length=de.sz) (hK:K (.c (.own s.A.length n.toNat)) s.V (s.A++[{sz:=de.sz,eO:=e,rows:=Sy n.toNat dz,wr:=true}])):
  cM P w0 g0 g w s.A (do pure (.value (<-Instr.makeSlice t (.int kl n) (.int kc n)))) K:=by
 obtain⟨i,hi,qg,C8,Le⟩:=eY he;obtain⟨zv,E2,EE⟩:=Le z hz;have qV:=lZ ht uA;obtain⟨m,rfl⟩:=Int.eq_ofNat_of_zero_le h0;simp only[SZ]at hb hm hK;have hmul:(i.bytes:Int)*(m:Int)<=281474976710656:=by
  have h:((i.bytes*m:Nat):Int)<=281474976710656:=by rw[C8,Sg];omega
  rwa[Int.natCast_mul]at h
 have eB:=run_make (P:=P) w t e i zv qV hi E2 kl kc m m (by omega) (Int.le_refl _) hmul (by omega);simp only[SZ,qg]at eB;have Gd:zv.cells.size=de.sz:=by have:=gI EE;simp at this;omega
 have Jm:=oY Oq;obtain⟨g2,EH,xA,gA⟩:=hI.dG (.cells (madeCells zv.cells (m*de.sz)) e) 0;have yX:=hF.dG (.cells (madeCells zv.cells (m*de.sz)) e) 0;rw[<-EH]at yX;have dM:=World.ownsRow_lit (base:=0) (e:=e) (size:=de.sz) w (madeCells zv.cells (m*de.sz)) m (R8 _) (by simp only[maxLen];omega) (size_madeCells _ _);have r9:∀(m j:Nat) (x:DV),(Sy m dz).flatten[j]? =some x->dz[j % de.sz]? =some x:=by
  intro m;induction m with
  |zero=>intro j x h;simp at h
  |succ m ih=>
   intro j x h;simp only[List.replicate_succ,Sq]at h;by_cases hj:j<dz.length
   ·rw[So hj]at h;rwa[Nat.mod_eq_of_lt (by omega)]
   ·rw[Sp (by omega)]at h;have:=ih _ _ h;rwa[show dz.length=de.sz by omega,<-Nat.mod_eq_sub_mod (by omega)]at this
 obtain⟨g3,PO,PQ,Mm,Mn,Mo,Mp⟩:=xA.p9 yX {sz:=de.sz,eO:=e,rows:=Sy m dz,wr:=true} (.slice (some ⟨w.heap.size,0,none⟩) m m) (madeCells zv.cells (m*de.sz)).toList
  (fun r hr=>by simp at hr;rw[hr.2];show dz.length=de.sz;omega) (by simpa using dM)
  (fun j x u h6 h7=>by
   have h8:=r9 m j x h6;have PR:j<m*de.sz:=by
    have:=(Sl.1 h7).1;simpa[size_madeCells]using this
   have h9:u=zv.cells[j % zv.cells.size]! :=by
    simp[madeCells,PR]at h7;exact h7.symm
   have aC:j % de.sz<zv.cells.size:=by rw[Gd];exact Nat.mod_lt _ uK
   have bZ:zv.cells.toList[j % de.sz]? =some u:=by
    rw[h9,Gd];simp[aC]
   have Mq:j % de.sz<z.length:=by omega
   have Jn:z[j % de.sz]? =some z[j % de.sz]:=Sm Mq;have dC:=l7 EE _ _ _ Jn bZ;have ED:∀{cs:List CV} {ds:List DV},fK s.A cs=some ds->∀(j:Nat) c x,cs[j]? =some c->ds[j]? =some x->lS s.A c=some x:=by
    intro cs;induction cs with
    |nil=>intro ds h j c x h1;simp at h1
    |cons c cs ih=>
     intro ds h j c' x h1 h2;simp only[fK]at h;split at h
     ·rename_i d1 d2 h3 h4;simp at h;subst h;cases j with
      |zero=>simp at h1 h2;subst h1;subst h2;exact h3
      |succ j=>simp at h1 h2;exact ih h4 j c' x h1 h2
     ·simp at h
   exact C7 dC (ED Oq _ _ _ Jn h8))
  (fun b hb=>by
   simp[Value.ownBlock]at hb;subst hb;subst EH;refine⟨by simp,hF.size,fun l hl=>?_,fun k v hv hb=>?_⟩
   ·have:=hI.oU (g:=g) hl;omega
   ·have:=hI.kN (g:=g) hv hb;omega)
 refine⟨_,_,_,_,_,_,g3,hK,bk eB,.inl rfl,?_,Mn,gA.trans Mo,Mp⟩;refine⟨some ⟨w.heap.size,0,none⟩,m,rfl,{sz:=de.sz,eO:=e,rows:=Sy m dz,wr:=true},?_,by simp,fun _=>?_⟩
 ·rw[Sp (R6 _)];simp
 ·rw[Mm,Sp (by rw[xA.j7];exact R6 _),xA.j7];simp
end
section
variable {P:Program} {g g' g0:Gh} {w w' w0:World} {V V':List (List CV)} {A A':List bp} {s:St} {a:Act} {K:AV->List (List CV)->List bp->Prop}
theorem AF:∀{fs:List Field} {l:List (Nat×Nat)},uG P fs=some l->∀{i off sz:Nat},l[i]? =some (off,sz)->∃f inf,fs[i]? =some f/\f.offset=off/\P.info? f.type=some inf/\inf.size=sz
 |[],l,h,i,off,sz,hi=>by simp[uG]at h;subst h;simp at hi
 |f::r,l,h,i,off,sz,hi=>by
  simp only[uG]at h;split at h
  ·rename_i inf l' h1 h2;simp at h;subst h;cases i with
   |zero=>simp at hi;exact⟨f,inf,rfl,hi.1,h1,hi.2⟩
   |succ i=>simp at hi;simpa using AF h2 hi
  ·simp at h
theorem l8 {t:TypeId} {d:TD} (ht:td P t=some d) {f off sz:Nat} (hf:d.fl[f]? =some (off,sz)) (fw:sz≠0) (b o:Nat):(Instr.fieldAt t (.pointer (some ⟨b,o,none⟩)) f).run P w=.ok (.pointer (some ⟨b,o+off,none⟩)) w:=by
 obtain⟨de,i,hu,hi,rfl⟩:=ja ht;cases de with
 |struct fs=>
  simp only[II]at hf;cases Hn:uG P fs.toList with
  |none=>simp[Hn]at hf
  |some l=>
   simp only[Hn,SY]at hf;obtain⟨fld,inf,h1,h2,h3,h4⟩:=AF Hn hf;have lT:fs[f]? =some fld:=by simpa using h1
   subst h2;subst h4;simp[Instr.fieldAt,run_underlying hu,lT,Instr.sureAddr,fieldPlace,sizeOf,typeInfo,h3,fw,j9]
 |_=>simp[II]at hf
theorem l9 {t e:TypeId} {d de:TD} (ht:td P t=some d) (uA:d.el=some e) (he:td P e=some de) {b off n cap:Nat} {k:IntKind} {i:Int} (h0:0<=i) (h1:i.toNat<n):
  (Instr.indexAt t (.slice (some ⟨b,off,none⟩) n cap) (.int k i)).run P w=.ok (.pointer (some ⟨b,off+i.toNat*de.sz,none⟩)) w:=by
 have hu:=lZ ht uA;obtain⟨inf,hi,fw,_,_⟩:=eY he;have hc:0<=i/\i<n:=by omega
 simp[Instr.indexAt,asIntOf,run_underlying hu,hc,sizeOf,typeInfo,hi,fw,j9]
theorem sR {t e:TypeId} {d de:TD} {len:Nat} (ht:td P t=some d) (uA:d.ar=some (len,e)) (he:td P e=some de) {b off:Nat} {k:IntKind} {i:Int} (h0:0<=i) (h1:i<len):
  (Instr.indexAt t (.pointer (some ⟨b,off,none⟩)) (.int k i)).run P w=.ok (.pointer (some ⟨b,off+i.toNat*de.sz,none⟩)) w:=by
 have hu:=Gg ht uA;obtain⟨inf,hi,fw,_,_⟩:=eY he;have hc:0<=i/\i<len:=by omega
 simp[Instr.indexAt,asIntOf,run_underlying hu,Instr.sureAddr,hc,sizeOf,typeInfo,hi,fw,j9]
theorem vk (hI:Inv g w V A) {v:AV} {u:Value} (hv:aU g w A v u) {nr:List (List DV)} (h:rowsOf A v=some nr) {sz:Nat} (hl:∀r∈nr,r.length=sz):
  ∃news:List Value,((nr.length=0/\news=[]/\∃a c,u=.slice a 0 c)\/∃a c,u=.slice (some a) nr.length c/\news.length=nr.length*sz/\∀(j:Nat) x,news[j]? =some x->w.cell? (a.add j)=some x)/\
   (∀u∈news,u.oneCell'=true)/\∀(j:Nat) x y,nr.flatten[j]? =some x->news[j]? =some y->bc g.im w x y:=by
 have key:∀(b off sz':Nat) (rows:List (List DV)),(∀r∈rows,r.length=sz)->bS g.im w b sz' off rows->rows≠[]->sz'=sz/\
   ∃news:List Value,news.length=rows.length*sz/\(∀(j:Nat) x,news[j]? =some x->w.cell? ⟨b,off+j,none⟩=some x)/\∀(j:Nat) x y,rows.flatten[j]? =some x->news[j]? =some y->bc g.im w x y:=by
  intro b off sz' rows hl wg cN;have fw:sz'=sz:=by
   cases rows with
   |nil=>exact absurd rfl cN
   |cons r rs=>simp only[bS]at wg;have:=hl r (by simp);omega
  subst fw;have Ot:=dA hl;obtain⟨vs,h1,h2⟩:=kP w b off (rows.length*sz') (fun j u=>∀x,rows.flatten[j]? =some x->bc g.im w x u) (fun j hj=>by
   have uK:0<sz':=by rcases Nat.eq_zero_or_pos sz' with h|h;·subst h;simp at hj
                     ·exact h
   have hdiv:j / sz'<rows.length:=Nat.div_lt_of_lt_mul (by rw[Sg];exact hj);have cV:rows[j / sz']? =some rows[j / sz']:=Sm hdiv;obtain⟨h3,h4⟩:=bS.at_ wg cV;have PS:=Nat.mod_lt j uK;have hx:(rows[j / sz'])[j % sz']? =some (rows[j / sz'])[j % sz']:=Sm (by omega);obtain⟨u,h5,h6⟩:=cA.at_ h4 hx;have C4:j / sz'*sz'+j % sz'=j:=by rw[Sg];exact Nat.div_add_mod j sz'
   refine⟨u,by rw[<-C4,<-R9];exact h5,fun x h7=>?_⟩;have h8:=iZ hl cV hx;rw[C4,h7]at h8;cases h8;exact h6)
  exact⟨rfl,vs,h1,fun j x hx=>(h2 j x hx).1,fun j x y hx hy=>(h2 j y hy).2 x hx⟩
 cases v with
 |agg xs=>simp[rowsOf]at h
 |bu xs=>simp[rowsOf]at h
 |c c=>
  cases c with
  |d x=>
   cases x with
   |sl rows=>
    simp[rowsOf]at h;subst h;simp only[aU,c7,bj,bc]at hv;obtain⟨ad,cap,rfl,_,hr⟩:=hv;rcases hr with rfl|⟨b,off,sz',rfl,_,wg⟩
    ·exact⟨[],.inl ⟨rfl,rfl,ad,cap,rfl⟩,by simp,fun j x y hx=>by simp at hx⟩
    ·by_cases cN:rows=[]
     ·subst cN;exact⟨[],.inl ⟨rfl,rfl,_,cap,rfl⟩,by simp,fun j x y hx=>by simp at hx⟩
     ·obtain⟨rfl,news,h1,h2,h3⟩:=key b off sz' rows hl wg cN;refine⟨news,.inr ⟨_,cap,rfl,h1,fun j x hx=>by rw[j9];exact h2 j x hx⟩,fun u hu=>?_,h3⟩;obtain⟨j,hj⟩:=Sz hu;have kf:j<rows.flatten.length:=by rw[dA hl,<-h1];exact(Sl.1 hj).1
      exact bc.jA (h3 j _ u (Sm kf) hj)
   |_=>simp[rowsOf]at h
  |nil=>
   simp[rowsOf]at h;subst h;simp only[aU,c7,bj]at hv;subst hv;exact⟨[],.inl ⟨rfl,rfl,none,0,rfl⟩,by simp,fun j x y hx=>by simp at hx⟩
  |own k n=>
   obtain⟨ad,cap,rfl,r,hk,hn,hq⟩:=hv;simp only[rowsOf,hk]at h;split at h
   ·rename_i cN;simp at h;subst h;have zh:=hq cN;obtain⟨h1,_,xs,dM,hr⟩:=hI.arr k r _ hk zh;rcases dM.2 with⟨h2,h3⟩|⟨b,cap',cur,h2,_,hh,_,_,_,_⟩
    ·have h4:r.rows=[]:=Su h3;refine⟨[],.inl ⟨h3,rfl,ad,cap,by rw[cN,h3]⟩,by simp,fun j x y hx=>by rw[h4]at hx;simp at hx⟩
    ·have hb:(Value.slice ad n cap).ownBlock=some b:=by rw[h2];rfl
     by_cases E3:r.rows=[]
     ·refine⟨[],.inl ⟨by rw[E3];rfl,rfl,ad,cap,by rw[cN,E3];rfl⟩,by simp,fun j x y hx=>by rw[E3]at hx;simp at hx⟩
     ·have fw:r.sz=sz:=by
       cases wg:r.rows with
       |nil=>exact absurd wg E3
       |cons q qs=>have e1:=h1 q (by rw[wg];simp);have e2:=hl q (by rw[wg];simp);omega
      refine⟨xs,.inr ⟨⟨b,0,none⟩,cap',by rw[h2],by rw[dM.1,fw],dM.cells hb⟩,fun u hu=>?_,hr⟩;obtain⟨j,hj⟩:=Sz hu;have kf:j<r.rows.flatten.length:=by rw[dA h1,<-dM.1];exact(Sl.1 hj).1
      exact bc.jA (hr j _ u (Sm kf) hj)
   ·simp at h
  |_=>simp[rowsOf]at h
theorem rR {t ty:TypeId} {v u:Value} {v':Value} {w':World} (h:(Builtin.append_ #[t,t] ty #[v,u]).run P w=.ok v' w'):(builtin .append #[t,t] ty #[] #[v,u]).run P w=.ok (.value v') w':=bk h
theorem gK (hI:Inv g w s.V s.A) (hF:Fr w0 g0 w g) {t e:TypeId} {d de:TD} (ht:td P t=some d) (uA:d.el=some e) (he:td P e=some de) {z:List CV} (hz:de.zero=some z) (yZ:z.length=de.sz) {k n:Nat} {v u:Value} (hv:bj g w s.A (.own k n) v)
  {y:AV} (hy:aU g w s.A y u) {nr:List (List DV)} (C9:rowsOf s.A y=some nr) (hl:∀r∈nr,r.length=de.sz) {r:bp} (hk:s.A[k]? =some r) (hn:n=r.rows.length) (Mr:r.eO=e) (Jo:r.sz=de.sz) (hb:(n+nr.length)*de.jy<=140737488355328) (hm:n+nr.length<=9223372036854775807) {ty:TypeId}
  (hK:K (.c (.own k (n+nr.length))) s.V (s.A.set k {r with rows:=r.rows++nr})):cM P w0 g0 g w s.A (do pure (.value (<-Builtin.append_ #[t,t] ty #[v,u]))) K:=by
 obtain⟨i,hi,qg,C8,h0⟩:=eY he;obtain⟨zv,E2,EE⟩:=h0 z hz;have Gd:zv.cells.size=i.size:=by have:=gI EE;simp at this;omega
 obtain⟨ad,cap,PT,r',nN,_,hq⟩:=hv;obtain rfl:r=r':=by rw[hk]at nN;exact Option.some.inj nN
 have zh:=hq hn;subst hn;subst Mr;obtain⟨h1,_,xs,dM,_⟩:=hI.arr k r v hk zh;obtain⟨news,zk,uL,E4⟩:=vk hI hy C9 hl;have AG:w.ownsRow 0 r.eO i.size v r.rows.length xs:=by rw[qg,<-Jo];exact dM
 obtain⟨v',w',eB,yW,hc⟩:=nO (P:=P) t ty r.eO i zv (lZ ht uA) hi E2 Gd v r.rows.length xs AG u nr.length news (by rw[qg];exact zk) uL (by simp only[maxLen];omega) (by rw[C8];exact hb);have Jp:(cM P w0 g0 g w s.A (do pure (.value (<-Builtin.append_ #[t,t] ty #[v,u]))) K):=by
  by_cases cN:nr=[]
  ·subst cN;have xy:news=[]:=by
    rcases zk with⟨_,h,_⟩|⟨_,_,_,h,_⟩
    ·exact h
    ·exact Su (by simpa using h)
   subst xy;obtain⟨a0,c0,rfl⟩:∃a0 c0,u=.slice a0 0 c0:=by
    rcases zk with⟨_,_,h⟩|⟨a0,c0,h,_⟩
    ·exact h
    ·exact⟨some a0,c0,h⟩
   have Jq:(Builtin.append_ #[t,t] ty #[v,.slice a0 0 c0]).run P w=.ok v w:=by
    have EB:∀(ad:Option Addr) (c:Nat) (w:World),(Builtin.firstCells i.size 0 (.slice ad 0 c)).run P w=.ok #[] w:=fun ad c w=>by
     cases ad<;>simp[Builtin.firstCells,loadCells,loadCellsFrom]
    rcases AG.2 with⟨h6,h7⟩|⟨gb,cp,cur,h6,_,_,EW,_⟩
    ·rw[h6];simp[Builtin.append_,run_underlying (lZ ht uA),sizeOf,typeInfo,hi,Builtin.lenOf,EB]
    ·rw[h6];simp[Builtin.append_,run_underlying (lZ ht uA),sizeOf,typeInfo,hi,Builtin.lenOf,EB,EW,storeCells]
   have cb:s.A.set k {r with rows:=r.rows++[]}=s.A:=by
    apply SE;intro j;rw[cR hk];by_cases e:j=k
    ·subst e;simp[hk]
    ·simp[e]
   rw[cb]at hK;exact cM.value hI hF (bk Jq) (x:=.c (.own k (r.rows.length+0))) ⟨ad,cap,PT,r,hk,R6 _,fun _=>zh⟩ hK
  ·obtain⟨g',sf,jc,pX,PU,_,_⟩:=hI.grow hF hk zh nr cN news (fun row cV=>by rw[hl row cV,Jo]) E4
    (fun xs' jc=>by
     obtain rfl:xs'=xs:=by
      rcases jc.2 with⟨e1,e2⟩|⟨b1,c1,cu1,e1,_,e3,_,_,_,e4⟩<;>rcases dM.2 with⟨f1,f2⟩|⟨b2,c2,cu2,f1,_,f3,_,_,_,f4⟩
      ·have:=jc.1;have:=dM.1;rw[e2]at*;simp at*;simp[*]
      ·rw[e1]at f1;simp at f1
      ·rw[e1]at f1;simp at f1
      ·rw[e1]at f1;simp at f1;obtain⟨rfl,rfl⟩:=f1;rw[e3]at f3;simp at f3;subst f3;rw[<-e4,<-f4]
     rw[show r.sz=i.size by omega];exact yW) hc
   refine⟨_,_,_,_,_,_,g',hK,bk eB,.inl rfl,?_,sf,jc,pX⟩;have IL:∃ad' cap',v'=.slice ad' (r.rows.length+nr.length) cap':=by
    rcases yW.2 with⟨e1,e2⟩|⟨b1,c1,cu1,e1,_⟩
    ·exact⟨none,0,by rw[e1,e2]⟩
    ·exact⟨_,_,e1⟩
   obtain⟨ad',cap',rfl⟩:=IL;refine⟨ad',cap',rfl,{r with rows:=r.rows++nr},?_,by simp,fun _=>PU⟩;rw[cR hk];simp
 exact Jp
end
section
variable {P:Program} {g g' g0:Gh} {w w' w0:World} {V V':List (List CV)} {A A':List bp} {s:St} {a:Act} {K:AV->List (List CV)->List bp->Prop}
theorem kg (hI:Inv g w s.V s.A) (hF:Fr w0 g0 w g) {t e:TypeId} {d de:TD} (ht:td P t=some d) (uA:d.el=some e) (he:td P e=some de) {z:List CV} (hz:de.zero=some z) (yZ:z.length=de.sz) {u:Value}
  {y:AV} (hy:aU g w s.A y u) {nr:List (List DV)} (C9:rowsOf s.A y=some nr) (hl:∀r∈nr,r.length=de.sz) (hb:nr.length*de.jy<=140737488355328) (hm:nr.length<=9223372036854775807) {ty:TypeId}
  (hK:K (.c (.own s.A.length nr.length)) s.V (s.A++[{sz:=de.sz,eO:=e,rows:=nr,wr:=true}])):cM P w0 g0 g w s.A (do pure (.value (<-Builtin.append_ #[t,t] ty #[.slice none 0 0,u]))) K:=by
 obtain⟨g1,Gl,qa,rN,eK,cJ,ju⟩:=hI.p9 hF {sz:=de.sz,eO:=e,rows:=[],wr:=true} (.slice none 0 0) [] (by simp) (World.ownsRow_nil w 0 e de.sz) (fun j x u h=>by simp at h) (fun b h=>by simp[Value.ownBlock]at h);have hk:(s.A++[({sz:=de.sz,eO:=e,rows:=[],wr:=true}:bp)])[s.A.length]? =some {sz:=de.sz,eO:=e,rows:=[],wr:=true}:=by simp
 have xH:rowsOf (s.A++[({sz:=de.sz,eO:=e,rows:=[],wr:=true}:bp)]) y=some nr:=by
  cases y with
  |c c=>
   cases c with
   |own k n=>
    simp only[rowsOf]at C9⊢;cases nN:s.A[k]? with
    |none=>simp[nN]at C9
    |some r=>rw[So (Sl.1 nN).1,nN];simpa only[nN]using C9
   |d x=>cases x<;>exact C9
   |_=>exact C9
  |_=>exact C9
 have:=gK (P:=P) (g:=g1) (w:=w) (w0:=w0) (g0:=g0) (s:={s with A:=s.A++[{sz:=de.sz,eO:=e,rows:=[],wr:=true}]}) (K:=K) eK ju ht uA he hz yZ (k:=s.A.length) (n:=0) (v:=.slice none 0 0) (u:=u)
  ⟨none,0,rfl,_,hk,R8 _,fun _=>by rw[rN,Sp (by rw[hI.j7];exact R6 _),hI.j7];simp⟩ (aU.ext cJ hy) xH hl hk rfl rfl rfl (by simpa using hb) (by simpa using hm) (ty:=ty) (by
   simp only[Sa,SL];have:(s.A++[({sz:=de.sz,eO:=e,rows:=[],wr:=true}:bp)]).set s.A.length {sz:=de.sz,eO:=e,rows:=nr,wr:=true}=s.A++[{sz:=de.sz,eO:=e,rows:=nr,wr:=true}]:=by simp
   rw[this];exact hK)
 obtain⟨x,V',A',nx,v,w',g',h1,h2,h3,h4,h5,h6,h7⟩:=this;exact⟨x,V',A',nx,v,w',g',h1,h2,h3,h4,h5,cJ.trans h6,h7⟩
theorem zl (b:List UInt8) (i j:Nat):(bs b).extract i j=bs ((b.take j).drop i):=by
 apply ByteArray.ext;simp[bs,ByteArray.data_extract,List.extract_toArray,List.drop_take]
theorem kQ (hS:gD g w s a) {o:Option Operand} {x:Option AV} (h:jP s o=some x):(x=none/\o.map a.eval=none)\/∃v u,x=some v/\o.map a.eval=some u/\aU g w s.A v u:=by
 cases o with
 |none=>simp[jP]at h;exact .inl ⟨h.symm,rfl⟩
 |some o=>
  simp only[jP,SW]at h;obtain⟨v,hv,rfl⟩:=h;exact .inr ⟨v,_,rfl,rfl,aE hS hv⟩
theorem sS (isSl:Bool) (len cap:Nat) (zm:len<=cap) {lo hi:Option AV} {vl vh:Option Value} (CY:(lo=none/\vl=none)\/∃v u,lo=some v/\vl=some u/\aU g w A v u) (Ms:(hi=none/\vh=none)\/∃v u,hi=some v/\vh=some u/\aU g w A v u)
  {i j:Int} (IM:oX lo=some i) (Da:j8 hi len=some j) (h0:0<=i) (h1:i<=j) (h2:j<=len):(Instr.sliceBounds isSl len cap vl vh none).run P w=.ok (i.toNat,j.toNat,cap) w:=by
 have Ou:j<=(cap:Int):=by omega
 have Mt:0<=j:=by omega
 have hb:∀{lo:Option AV} {vl:Option Value} {i:Int},((lo=none/\vl=none)\/∃v u,lo=some v/\vl=some u/\aU g w A v u)->oX lo=some i->(vl=none/\i=0)\/∃k,vl=some (.int k i):=by
  intro lo vl i h hs;rcases h with⟨rfl,rfl⟩|⟨v,u,rfl,rfl,hr⟩
  ·simp[oX]at hs;exact .inl ⟨rfl,hs.symm⟩
  ·unfold oX at hs;split at hs
   ·rename_i heq;simp at heq
   ·rename_i k n heq;simp at heq hs;subst heq;subst hs;simp only[aU,c7,bj,bc]at hr;exact .inr ⟨k,by rw[hr]⟩
   ·simp at hs
 have hh:(vh=none/\j=len)\/∃k,vh=some (.int k j):=by
  rcases Ms with⟨rfl,rfl⟩|⟨v,u,rfl,rfl,hr⟩
  ·simp[j8]at Da;exact .inl ⟨rfl,Da.symm⟩
  ·unfold j8 at Da;split at Da
   ·rename_i heq;simp at heq
   ·rename_i k n heq;simp at heq Da;subst heq;subst Da;simp only[aU,c7,bj,bc]at hr;exact .inr ⟨k,by rw[hr]⟩
   ·simp at Da
 have zn:(j.toNat:Int)=j:=Int.toNat_of_nonneg Mt;rcases hb CY IM with⟨rfl,rfl⟩|⟨k,rfl⟩<;>rcases hh with⟨rfl,rfl⟩|⟨k',rfl⟩
 ·simp[Instr.sliceBounds]
 ·simp[Instr.sliceBounds,run_sliceBound w k' j cap _ Mt Ou]
 ·simp[Instr.sliceBounds,run_sliceBound w k i len _ h0 (by omega)]
 ·simp[Instr.sliceBounds,run_sliceBound w k' j cap _ Mt Ou,run_sliceBound w k i j.toNat _ h0 (by omega)]
theorem rS (hI:Inv g w s.V s.A) (hF:Fr w0 g0 w g) (hS:gD g w s a) {t:TypeId} {d:TD} (ht:td P t=some d) (hd:d.cG=true) {b:List UInt8} {v:Value} (hv:aU g w s.A (.c (.d (.str b))) v) {lo hi:Option Operand} {l h:Option AV} (hl:jP s lo=some l) (hh:jP s hi=some h)
  {i j:Int} (IM:oX l=some i) (Da:j8 h b.length=some j) (h0:0<=i) (h1:i<=j) (h2:j<=b.length) (hK:K (.c (.d (.str ((b.take j.toNat).drop i.toNat)))) s.V s.A):
  cM P w0 g0 g w s.A (do pure (.value (<-Instr.sliceAt t v (lo.map a.eval) (hi.map a.eval) none))) K:=by
 simp only[aU,c7,bj,bc]at hv;subst hv;have hu:=oe ht hd;have hb:=sS (P:=P) (g:=g) (w:=w) (A:=s.A) false (bs b).size (bs b).size (R6 _) (kQ hS hl) (kQ hS hh) IM (by rw[mQ];exact Da) h0 h1 (by rw[mQ];exact h2);refine cM.value hI hF (bk ?_) (x:=.c (.d (.str ((b.take j.toNat).drop i.toNat)))) (v:=.string (bs ((b.take j.toNat).drop i.toNat))) rfl hK;rw[run_sliceAt_string w t _ _ _ _ hu];simp[Instr.slice,run_underlying hu,hb,zl]
theorem xI (hI:Inv g w V A) (hF:Fr w0 g0 w g) {v:AV} {u:Value} (hv:aU g w A v u) {rows:List (List DV)} (h:rowsOf A v=some rows):
  ∃g',Inv g' w V (bC A v.cells)/\Ext g w A g' w (bC A v.cells)/\Fr w0 g0 w g'/\bc g'.im w (.sl rows) u:=by
 cases v with
 |c c=>
  have hd:lS A c=some (.sl rows):=by
   cases c with
   |d x=>cases x<;>simp[rowsOf]at h;subst h;rfl
   |nil=>simp[rowsOf]at h;subst h;rfl
   |own k n=>
    simp only[rowsOf]at h;simp only[lS];split at h
    ·split at h
     ·simp at h;subst h;simp[*]
     ·simp at h
    ·simp at h
   |_=>simp[rowsOf]at h
  obtain⟨g',h1,h2,h3,_,_,h6⟩:=sM hI hF hv hd;exact⟨g',h1,h2,h3,h6⟩
 |_=>simp[rowsOf]at h
theorem qh (hI:Inv g w s.V s.A) (hF:Fr w0 g0 w g) (hS:gD g w s a) {t e:TypeId} {d de:TD} (ht:td P t=some d) (uA:d.el=some e) (he:td P e=some de) {x:AV} {v:Value} (hv:aU g w s.A x v) {rows:List (List DV)} (hr:rowsOf s.A x=some rows) {lo hi:Option Operand} {l h:Option AV} (hl:jP s lo=some l) (hh:jP s hi=some h)
  {i j:Int} (IM:oX l=some i) (Da:j8 h rows.length=some j) (h0:0<=i) (h1:i<=j) (h2:j<=rows.length) (fw:∀r∈rows,r.length=de.sz) (hK:K (.c (.d (.sl ((rows.take j.toNat).drop i.toNat)))) s.V (bC s.A x.cells)):
  cM P w0 g0 g w s.A (do pure (.value (<-Instr.sliceAt t v (lo.map a.eval) (hi.map a.eval) none))) K:=by
 obtain⟨g',sf,jc,pX,hd⟩:=xI hI hF hv hr;have hu:=lZ ht uA;obtain⟨inf,Jr,Hm,_,_⟩:=eY he;simp only[bc]at hd;obtain⟨ad,cap,rfl,zm,wg⟩:=hd;have hb:=sS (P:=P) (g:=g) (w:=w) (A:=s.A) true rows.length cap zm (kQ hS hl) (kQ hS hh) IM Da h0 h1 h2;have eB:(Instr.sliceAt t (.slice ad rows.length cap) (lo.map a.eval) (hi.map a.eval) none).run P w=.ok (.slice (if cap=i.toNat then ad else ad.map (·.add (i.toNat*de.sz))) (j.toNat-i.toNat) (cap-i.toNat)) w:=by
  simp[Instr.sliceAt,Instr.slice,run_underlying hu,hb,sizeOf,typeInfo,Jr,Hm]
 refine⟨_,_,_,_,_,_,g',hK,bk eB,.inl rfl,?_,sf,jc,pX⟩;simp only[aU,c7,bj,bc];have hlen:((rows.take j.toNat).drop i.toNat).length=j.toNat-i.toNat:=by simp;omega
 refine⟨_,_,by rw[hlen],by rw[hlen];omega,?_⟩;by_cases cN:(rows.take j.toNat).drop i.toNat=[]
 ·exact .inl cN
 ·have uK:0<j.toNat-i.toNat:=by rw[<-hlen];exact SH.2 cN
  rcases wg with rfl|⟨b,off,sz,rfl,rL,wg⟩
  ·simp at cN
  ·have Mu:sz=de.sz:=by
    cases rows with
    |nil=>simp at cN
    |cons r rs=>simp only[bS]at wg;have:=fw r (by simp);omega
   subst Mu;have hmul:(i.toNat+(j.toNat-i.toNat))*de.sz<=rows.length*de.sz:=Sb _ (by omega);rw[R7]at hmul;refine .inr ⟨b,off+i.toNat*de.sz,de.sz,by rw[if_neg (by omega)];simp[j9],by rw[hlen];omega,bS.mk fun q r hq=>?_⟩;have Mv:rows[i.toNat+q]? =some r:=by
    rw[SA,Ss]at hq;split at hq
    ·exact hq
    ·cases hq
   have:=bS.at_ wg Mv;rwa[R7,<-R9]at this
theorem af {α:Type} {o:Option α} {k:α->Prop} {Q:Prop} (h:bE o k) (f:∀v,o=some v->k v->Q):Q:=by
 obtain⟨v,h1,h2⟩:=cq h;exact f v h1 h2
theorem sU (hI:Inv g w V A):∀{cs:List AV} {ls:List Nat} {vs:List Value},C3 cs=some ls->vs.length=cs.length->(∀(j:Nat) c u,cs[j]? =some c->vs[j]? =some u->aU g w A c u)->
  ∃bks:List Nat,vs=bks.map (fun b=>Value.pointer (some ⟨b,0,none⟩))/\bks.length=ls.length/\∀(i l b:Nat),ls[i]? =some l->bks[i]? =some b->g.ob[l]? =some b
 |[],ls,vs,h,hl,_=>by
  simp[C3]at h;subst h;have:vs=[]:=Su (by simpa using hl);subst this;exact⟨[],rfl,rfl,fun i l b h=>by simp at h⟩
 |c::r,ls,vs,h,hl,hr=>by
  cases vs with
  |nil=>simp at hl
  |cons v vs=>
   unfold C3 at h;split at h
   ·rename_i heq;simp at heq
   ·rename_i l r' heq;simp at heq;obtain⟨rfl,rfl⟩:=heq;simp only[SW]at h;obtain⟨ls',h1,rfl⟩:=h;obtain⟨b,hb,hv⟩:∃b,g.ob[l]? =some b/\v=.pointer (some ⟨b,0,none⟩):=hr 0 _ v rfl rfl;obtain⟨bks,h2,h3,h4⟩:=sU hI h1 (vs:=vs) (by simpa using hl) (fun j c u h5 h6=>hr (j+1) c u (by simpa using h5) (by simpa using h6));refine⟨b::bks,by simp[hv,h2],by simp[h3],fun i l' b' h5 h6=>?_⟩;cases i with
    |zero=>simp at h5 h6;subst h5;subst h6;exact hb
    |succ i=>simp at h5 h6;exact h4 i l' b' h5 h6
   ·simp at h
theorem jC (hS:gD g w s a):∀{os:List Operand} {xs:List AV},fz s os=some xs->xs.length=os.length/\∀(j:Nat) x u,xs[j]? =some x->(os.map a.eval)[j]? =some u->aU g w s.A x u
 |[],xs,h=>by simp[fz]at h;subst h;exact⟨rfl,fun j x u h=>by simp at h⟩
 |o::r,xs,h=>by
  simp only[fz]at h;split at h
  ·rename_i v l h1 h2;simp at h;subst h;obtain⟨h3,h4⟩:=jC hS h2;refine⟨by simp[h3],fun j x u h5 h6=>?_⟩;cases j with
   |zero=>simp at h5 h6;subst h5;subst h6;exact aE hS h1
   |succ j=>simp at h5 h6;exact h4 j x u h5 (by simpa using h6)
  ·simp at h
theorem zo {v:AV} {u:Value} {n:Nat} (hv:aU g w A v u) (h:wk v=some n):(∃b,v=.c (.d (.str b))/\u=.string (bs b)/\n=b.length)\/((∀b,v≠.c (.d (.str b)))/\∃a c,u=.slice a n c):=by
 unfold wk at h;split at h
 ·rename_i b;simp at h;subst h;exact .inl ⟨b,rfl,hv,rfl⟩
 ·simp at h;subst h;simp only[aU,c7,bj,bc]at hv;obtain⟨a,c,rfl,_⟩:=hv;exact .inr ⟨by simp,a,c,rfl⟩
 ·simp at h;subst h;simp only[aU,c7,bj]at hv;exact .inr ⟨by simp,none,0,hv⟩
 ·simp at h;subst h;obtain⟨a,c,rfl,_⟩:=hv;exact .inr ⟨by simp,a,c,rfl⟩
 ·simp at h
theorem cM.Db {A:List bp} {m:Sem Next} (h:cM P w0 g0 g w A m fun x V A=>∃(k:Nat) (r:bp),x=.c (.own k r.rows.length)/\A[k]? =some r/\K (.c (.d (.sl r.rows))) V (A.set k {r with wr:=false})):cM P w0 g0 g w A m K:=by
 obtain⟨x,V',A',nx,v,w',g',⟨k,r,rfl,hk,hK⟩,hm,hn,hr,hI,hx,hF⟩:=h;obtain⟨_,_,e,r',nN,_,hv⟩:=hr;obtain rfl:r=r':=Option.some.inj (hk.symm.trans nN);obtain⟨g2,xA,gA,yX,_,_,hd⟩:=hI.seal hF hk (hv rfl);exact⟨_,_,_,nx,v,w',g2,hK,hm,hn,hd,xA,hx.trans gA,yX⟩
set_option maxHeartbeats 1000000 in
theorem BA (hI:Inv g w s.V s.A) (hF:Fr w0 g0 w g) (hS:gD g w s a) {ow:Bool} {o:Oper} (h:dF P s ow o.op K):cM P w0 g0 g w s.A (execOp a.eval o) K:=by
 obtain⟨dst,op,type,pos,after,guard⟩:=o;simp only at h;cases op with
 |move x=>
  refine af h fun v h1 h2=>?_
  exact cM.value hI hF (m:=execOp a.eval ⟨dst,.move x,type,pos,after,guard⟩) rfl (aE hS h1) h2
 |assign x=>
  refine af h fun v h1 h2=>?_
  exact cM.value hI hF (m:=execOp a.eval ⟨dst,.assign x,type,pos,after,guard⟩) rfl (aE hS h1) h2
 |pick c x y=>
  refine af h fun v h1 h2=>?_
  have hc:=aE hS h1;split at h2
  ·rename_i t;simp only[aU,c7,bj,bc]at hc;have eB:∀u,(if t then a.eval x else a.eval y)=u->(execOp a.eval ⟨dst,.pick c x y,type,pos,after,guard⟩).run P w=.ok (.value u) w:=fun u hu=>by
    simp[execOp,hc,asBool,hu]
   cases t with
   |true=>simp only[if_true]at h2;exact af h2 fun v h3 h4=>cM.value hI hF (eB _ rfl) (aE hS h3) h4
   |false=>simp only[SV,if_false]at h2;exact af h2 fun v h3 h4=>cM.value hI hF (eB _ rfl) (aE hS h3) h4
  ·exact h2.elim
 |alloc e=>exact af h fun d h1 h2=>af h2 fun z h3 h4=>xC hI hF h1 h3 h4
 |box e x=>exact af h fun v h1 h2=>Bx hI hF (aE hS h1) h2.1 h2.2
 |build t parts=>exact af h fun d h1 h2=>af h2 fun z h3 h4=>af h4 fun ps h5 h6=>af h6 fun cs h7 h8=>xG hI hF hS h1 h3 h8.2.1 h5 h7 h8.2.2
 |buildSlice t len parts=>
  exact af h fun d h1 h2=>af h2 fun e h3 h4=>af h4 fun de h5 h6=>af h6 fun rows h7 h8=>af h8 fun ds h9 bZ=>qf hI hF hS h1 h3 h5 h7 h9 bZ.1 bZ.2.1 bZ.2.2.1 bZ.2.2.2.1 bZ.2.2.2.2
 |load t x=>
  refine af h fun d h1 h2=>af h2 fun p h3 h4=>?_
  split at h4
  ·exact af h4 fun cs h5 h6=>af h6 fun v h7 h8=>zi hI hF h1 (aE hS h3) h5 h7 h8
  ·exact h4.elim
 |store t x y=>
  refine af h fun d h1 h2=>af h2 fun p h3 h4=>af h4 fun v h5 h6=>?_
  obtain⟨h7,h8,h9⟩:=h6;split at h9
  ·exact af h9 fun row bZ dC=>rO hI hF h1 (aE hS h3) (aE hS h5) h7 h8 bZ dC.1 dC.2
  ·refine af h9 fun r bZ dC=>?_
   obtain⟨eR,dt,eP⟩:=dC;exact af eP fun row nQ oP=>af oP fun ds xJ oQ=>rP hI hF h1 (aE hS h3) (aE hS h5) h7 h8 bZ eR dt nQ xJ oQ.1 oQ.2.1 oQ.2.2
  ·exact h9.elim
 |nilCheck x=>
  refine af h fun v h1 h2=>?_
  have hv:=aE hS h1;split at h2
  ·obtain⟨b,hb,e⟩:=hv;exact cM.value hI hF (v:=a.eval x) (by simp only[execOp,e];rfl) (aE hS h1) h2
  ·obtain⟨b,o,e,_⟩:=hv;exact cM.value hI hF (v:=a.eval x) (by simp only[execOp,e];rfl) (aE hS h1) h2
  ·obtain⟨b,o,e,_⟩:=hv;exact cM.value hI hF (v:=a.eval x) (by simp only[execOp,e];rfl) (aE hS h1) h2
  ·obtain⟨b,e,_⟩:=hv;exact cM.value hI hF (v:=a.eval x) (by simp only[execOp,e];rfl) (aE hS h1) h2
  ·exact h2.elim
 |binOp op t x y t'=>
  refine af h fun u h1 h2=>af h2 fun v h3 h4=>?_
  split at h4
  ·rename_i r hr;obtain⟨z,h5,h6⟩:=wm (P:=P) (t:=t) (ox:=x) (oy:=y) (aE hS h1) (aE hS h3) hr;exact cM.value hI hF (bk h5) h6 h4
  ·split at h4
   ·rename_i r hr;obtain⟨z,h5,h6⟩:=uI (P:=P) (t:=t) (ox:=x) (oy:=y) (aE hS h1) (aE hS h3) hr;exact cM.value hI hF (bk h5) h6 h4
   refine af h4 fun r h5 h6=>af h6 fun d h7 h8=>?_
   obtain⟨z,h9,bZ⟩:=uH (P:=P) (ox:=x) (oy:=y) h7 h8.1 (aE hS h1) (aE hS h3) h5;exact cM.value hI hF (bk h9) bZ h8.2
 |unOp op t x=>
  refine af h fun u h1 h2=>af h2 fun r h3 h4=>?_
  obtain⟨z,h5,h6⟩:=By (P:=P) (aE hS h1) h3;exact cM.value hI hF (bk h5) h6 h4
 |convert src dst x=>
  refine af h fun u h1 h2=>af h2 fun ds h3 h4=>af h4 fun dd h5 h6=>?_
  have hv:=aE hS h1;split at h6
  ·rename_i k n;refine af h6 fun d h7 h8=>?_
   simp only[aU,c7,bj,bc]at hv;obtain⟨de,i,hu,_⟩:=ja h3;unfold Ok at h7;split at h7
   ·rename_i k' h9;simp only[Option.some.injEq]at h7;subst h7;refine cM.value hI hF (v:=.int k' (k'.wrap n)) (bk ?_) (x:=.c (.d (.int k' (k'.wrap n)))) rfl h8;rw[hv];simp[convert,run_underlying hu,run_underlying (Gi h5 h9),Conv.intToInt]
   ·split at h7
    ·rename_i bZ;simp only[Option.some.injEq]at h7;subst h7;refine cM.value hI hF (v:=.string (bs [UInt8.ofNat n.toNat])) (bk ?_) (x:=.c (.d (.str [UInt8.ofNat n.toNat]))) rfl h8;rw[hv];have he:Utf8.encode n=bs [UInt8.ofNat n.toNat]:=by
      have zp:Utf8.valid n=true:=by simp[Utf8.valid];omega
      simp only[Utf8.encode,zp,if_true];rw[if_pos (by omega)]
      rfl
     simp[convert,run_underlying hu,run_underlying (oe h5 bZ.1),Conv.intToString,he]
    ·cases h7
  ·rename_i b;simp only[aU,c7,bj,bc]at hv;refine cM.value hI hF (v:=.string (bs b)) (bk ?_) (x:=.c (.d (.str b))) rfl h6.2.2;rw[hv];simp[convert,run_underlying (oe h3 h6.2.1),run_underlying (oe h5 h6.1)]
  ·rename_i rows;obtain⟨h7,h8⟩:=h6;exact af h8 fun e h9 bZ=>af bZ fun de dC eR=>af eR.2 fun b dt eP=>cM.value hI hF (v:=.string (bs b)) (bk (xF (g:=g) h3 h5 h7 h9 dC eR.1 hv dt)) (x:=.c (.d (.str b))) rfl eP
  ·exact h6.elim
 |makeFunc fn first captured=>
  cases fn with
  |func f=>
   obtain⟨h1,h2⟩:=h;refine af h2 fun cs h3 h4=>af h4 fun ls h5 h6=>?_
   obtain⟨h7,h8⟩:=jC hS h3;obtain⟨bks,h9,bZ,dC⟩:=sU hI h5 (vs:=captured.toList.map a.eval) (by simp[h7]) h8;have hf:first.map a.eval= #[]:=by
    have:first= #[]:=Array.eq_empty_of_size_eq_zero h1
    simp[this]
   have hc:captured.map a.eval=(bks.map fun b=>Value.pointer (some ⟨b,0,none⟩)).toArray:=by
    rw[<-h9,<-SS,Array.toArray_toList]
   exact cM.value hI hF (v:=.func (.func f) #[] (bks.map fun b=>Value.pointer (some ⟨b,0,none⟩)).toArray) (by simp[execOp,Instr.makeFunc,hf,hc]) (x:=.c (.fn f ls)) ⟨bks,rfl,bZ,dC⟩ h6
  |_=>exact h.elim
 |makeSlice t l c=>
  refine af h fun d h1 h2=>af h2 fun e h3 h4=>af h4 fun de h5 h6=>af h6 fun z h7 h8=>af h8 fun dz h9 bZ=>af bZ fun vl dC eR=>af eR fun vc dt eP=>?_
  have e1:=aE hS dC;have e2:=aE hS dt;split at eP
  ·rename_i kl n kc m;simp only[aU,c7,bj,bc]at e1 e2;obtain⟨rfl,nQ,oP,xJ,oQ,Ho,EI⟩:=eP;have:=rQ (P:=P) (K:=K) hI hF h1 h3 h5 h7 h9 (kl:=kl) (kc:=kc) nQ oP xJ oQ Ho EI;simpa only[execOp,e1,e2]using this
  ·exact eP.elim
 |slice t x lo hi mx=>
  obtain⟨rfl,h⟩:=h;refine af h fun d h1 h2=>af h2 fun v h3 h4=>af h4 fun l h5 h6=>af h6 fun hh h7 h8=>?_
  have hv:=aE hS h3;split at h8
  ·obtain⟨h9,bZ⟩:=h8;exact af bZ fun i dC eR=>af eR fun j dt eP=>rS hI hF hS h1 h9 hv h5 h7 dC dt eP.1 eP.2.1 eP.2.2.1 eP.2.2.2
  ·exact af h8 fun rows h9 bZ=>af bZ fun e dC eR=>af eR fun de dt eP=>af eP fun i nQ oP=>af oP fun j xJ oQ=>
    qh hI hF hS h1 dC dt hv h9 h5 h7 nQ xJ oQ.1 oQ.2.1 oQ.2.2.1 oQ.2.2.2.1 oQ.2.2.2.2
 |fieldAddr t x f=>
  refine af h fun d h1 h2=>af h2 fun fo h3 h4=>?_
  obtain⟨off,sz⟩:=fo;obtain⟨h5,h6⟩:=h4;refine af h6 fun v h7 h8=>?_
  have hv:=aE hS h7;have eB:=fun b o=>l8 (P:=P) (w:=w) h1 h3 h5 b o
  split at h8
  ·rename_i l o;obtain⟨b,hb,e⟩:=hv;exact cM.value hI hF (v:=.pointer (some ⟨b,o+off,none⟩)) (bk (by rw[e];exact eB b o)) (x:=.c (.ptr l (o+off))) ⟨b,hb,rfl⟩ h8
  ·rename_i r o;obtain⟨b,o',e,h9,bZ⟩:=hv;exact cM.value hI hF (v:=.pointer (some ⟨b,o'+o+off,none⟩)) (bk (by rw[e];exact eB b _)) (x:=.c (.ip r (o+off))) ⟨b,o',by rw[R9],h9,bZ⟩ h8
  ·rename_i k n i o;obtain⟨b,e',e,r,h9,bZ,dC⟩:=hv;refine cM.value hI hF (v:=.pointer (some ⟨b,e'+off,none⟩)) (bk (by rw[e];exact eB b _)) (x:=.c (.op k n i (o+off))) ⟨b,e'+off,rfl,r,h9,bZ,fun eR=>?_⟩ h8;obtain⟨cap,dt,eP⟩:=dC eR;exact⟨cap,dt,by omega⟩
  ·exact h8.elim
 |indexAddr t x ix=>
  refine af h fun d h1 h2=>af h2 fun v h3 h4=>af h4 fun i h5 h6=>?_
  have hv:=aE hS h3;have y0:=aE hS h5;split at h6
  ·rename_i k n;simp only[aU,c7,bj,bc]at y0;obtain⟨h0,h6⟩:=h6;split at h6
   ·rename_i rows;refine af h6 fun e h7 h8=>af h8 fun de h9 bZ=>af bZ fun row dC eR=>?_
    simp only[aU,c7,bj,bc]at hv;obtain⟨ad,cap,e1,zm,hr⟩:=hv;have aC:=(Sl.1 dC).1;rcases hr with rfl|⟨b,off,sz,rfl,rL,wg⟩
    ·simp at dC
    ·obtain⟨dt,eP⟩:=bS.at_ wg dC;have fw:sz=de.sz:=by omega
     subst fw;have hmul:(n.toNat+1)*de.sz<=rows.length*de.sz:=Sb _ aC;rw[R7,Se]at hmul;exact cM.value hI hF (v:=.pointer (some ⟨b,off+n.toNat*de.sz,none⟩)) (bk (by rw[e1,y0];exact l9 h1 h7 h9 h0 aC)) (x:=.c (.ip row 0)) ⟨b,off+n.toNat*de.sz,rfl,by omega,eP⟩ eR.2
   ·rename_i k' m;refine af h6 fun e h7 h8=>af h8 fun de h9 bZ=>af bZ fun r dC eR=>?_
    obtain⟨dt,eP,nQ,oP⟩:=eR;obtain⟨ad,cap,e1,r',nN,hn,hq⟩:=hv;obtain rfl:r=r':=by rw[dC]at nN;exact Option.some.inj nN
    have zh:=hq dt;obtain⟨_,_,xs,dM,_⟩:=hI.arr k' r _ dC zh;rcases dM.2 with⟨e2,e3⟩|⟨b,cap',cur,e2,_⟩
    ·omega
    ·have e4:a.eval x=.slice (some ⟨b,0,none⟩) m cap':=by rw[e2,dt]
     refine cM.value hI hF (v:=.pointer (some ⟨b,0+n.toNat*de.sz,none⟩)) (bk (by rw[e4,y0];exact l9 h1 h7 h9 h0 eP)) (x:=.c (.op k' m n.toNat 0)) ⟨b,_,rfl,r,dC,hn,fun _=>⟨cap',by rw[<-e4];exact zh,by rw[nQ];omega⟩⟩ oP
   ·rename_i l off;refine af h6 fun le h7 h8=>?_
    obtain⟨len,e⟩:=le;refine af h8 fun de h9 bZ=>?_
    obtain⟨b,hb,e1⟩:=hv;exact cM.value hI hF (v:=.pointer (some ⟨b,off+n.toNat*de.sz,none⟩)) (bk (by rw[e1,y0];exact sR h1 h7 h9 h0 bZ.1)) (x:=.c (.ptr l (off+n.toNat*de.sz))) ⟨b,hb,rfl⟩ bZ.2
   ·exact h6.elim
  ·exact h6.elim
 |index t x ix=>
  refine af h fun d h1 h2=>af h2 fun v h3 h4=>af h4 fun i h5 h6=>?_
  have hv:=aE hS h3;have y0:=aE hS h5;split at h6
  ·rename_i b k n;simp only[aU,c7,bj,bc]at hv y0;obtain⟨h7,h0,h8⟩:=h6;refine af h8 fun c h9 bZ=>?_
   refine cM.value hI hF (v:=.int .u8 c.toNat) (bk ?_) (x:=.c (.d (.int .u8 c.toNat))) rfl bZ;have aC:=(Sl.1 h9).1;have hc:(bs b)[n.toNat]? =some c:=by
    have:n.toNat<(bs b).size:=by rw[mQ];exact aC
    rw[getElem?_pos (bs b) n.toNat this];exact congrArg some (Sl.1 h9).2
   rw[hv,y0];simp[Instr.index,asIntOf,run_underlying (oe h1 h7),h0,hc]
  ·rename_i xs k n;simp only[aU,c7,bj,bc]at y0;obtain⟨us,e1,hl,hc⟩:=hv;refine af h6 fun le h7 h8=>?_
   obtain⟨len,e⟩:=le;refine af h8 fun de h9 bZ=>?_
   obtain⟨dC,eR,h0,dt,eP⟩:=bZ;refine af eP fun c nQ oP=>?_
   have aC:=(Sl.1 nQ).1;have hu:us[n.toNat]? =some (us[n.toNat]'(by omega)):=Sm (by omega);refine cM.value hI hF (v:=us[n.toNat]'(by omega)) (bk ?_) (x:=.c c) (hc n.toNat c _ nQ hu) oP;obtain⟨inf,hi,fw,_,_⟩:=eY h9;obtain⟨dd,i2,yY,IN,e2⟩:=ja h9;have E1:(isAgg e).run P w=.ok false w:=by
    rw[e2]at dC;have dC:AA dd=false:=dC;simp only[isAgg,Sem.run_bind,run_underlying yY,Result.andThen_ok];cases dd<;>first|rfl|simp[AA]at dC
   rw[e1,y0];have Js:0<=n/\n<len:=⟨h0,dt⟩;simp[Instr.index,asIntOf,run_underlying (Gg h1 h7),Js,sizeOf,typeInfo,hi,fw,eR,part,E1,hu]
  ·exact h6.elim
 |extract x i=>
  refine af h fun v h1 h2=>?_
  have hv:=aE hS h1;split at h2
  ·rename_i xs;refine af h2 fun u h3 h4=>?_
   obtain⟨vs,e,hl,hr⟩:=hv;have aC:=(Sl.1 h3).1;have Ov:vs[i]? =some (vs[i]'(by omega)):=Sm (by omega);have PV:=hr i u _ h3 Ov;have eB:(execOp a.eval ⟨dst,.extract x i,type,pos,after,guard⟩).run P w=.ok (.value (vs[i]'(by omega))) w:=bk (by
    rw[e];simp[Instr.extract,Ov])
   split at h4
   ·exact h4.elim
   ·rename_i jd;refine cM.value hI hF eB (x:=u) ?_ h4;cases u with
    |bu ys=>exact absurd rfl (jd ys)
    |_=>exact PV
  ·exact h2.elim
 |call c=>
  obtain⟨callee,args,argTypes⟩:=c;cases callee with
  |builtin b=>
   obtain⟨consts,gl⟩:∃consts,∀w,(execOp a.eval ⟨dst,.call ⟨.builtin b,args,argTypes⟩,type,pos,after,guard⟩).run P w=(builtin b argTypes type consts (args.map a.eval)).run P w:=
    ⟨_,fun w=>by simp only[execOp,resolve,Sem.run_bind,Sem.run_pure,Result.andThen_ok,invoke];rfl⟩
   cases b with
   |len=>
    refine af h fun x h1 h2=>af h2 fun v h3 h4=>af h4 fun t h5 h6=>af h6 fun d h7 h8=>af h8 fun n h9 bZ=>?_
    obtain⟨_,eR,dt⟩:=bZ;have hv:=aE hS h3;refine cM.value hI hF (v:=.int .i64 n) ((gl w).trans (bk ?_)) (x:=.c (.d (.int .i64 n))) rfl dt;have ha:(args.map a.eval)[0]? =some (a.eval x):=by simp[h1]
    rcases zo hv h9 with⟨b,rfl,eP,nQ⟩|⟨eP,ad,cp,nQ⟩
    ·simp only at eR;simp[Builtin.len_,h5,ha,eP,run_underlying (oe h7 eR),goInt,mQ,nQ]
    ·have uA:d.el.isSome=true:=by
      split at eR
      ·rename_i b;exact absurd rfl (eP b)
      ·exact eR
     obtain⟨e,he⟩:=SX.1 uA;simp[Builtin.len_,h5,ha,nQ,run_underlying (lZ h7 he),goInt]
   |append=>
    refine af h fun x h1 h2=>af h2 fun y h3 h4=>af h4 fun t h5 h6=>?_
    obtain⟨h7,h8⟩:=h6;refine af h8 fun d h9 bZ=>af bZ fun e dC eR=>af eR fun de dt eP=>?_
    obtain⟨_,oP,xJ⟩:=eP;refine af oP fun z hz yZ=>af xJ fun v oQ Ho=>af Ho fun u EI Jt=>af Jt fun nr E5 Mw=>?_
    obtain⟨E6,E7⟩:=Mw;have hv:=aE hS oQ;have hu:=aE hS EI;have ma:∀w,(builtin .append argTypes type consts (args.map a.eval)).run P w=(do pure (.value (<-Builtin.append_ #[t,t] type #[a.eval x,a.eval y])):Sem Next).run P w:=fun w=>by
     have ha:(args.map a.eval)[0]? =some (a.eval x):=by simp[h1]
     have hb:(args.map a.eval)[1]? =some (a.eval y):=by simp[h3]
     simp only[builtin,Builtin.append_,h5,h7,ha,hb]
     rfl
    have back:cM P w0 g0 g w s.A (do pure (.value (<-Builtin.append_ #[t,t] type #[a.eval x,a.eval y]))) K->cM P w0 g0 g w s.A (execOp a.eval ⟨dst,.call ⟨.builtin .append,args,argTypes⟩,type,pos,after,guard⟩) K:=by
     rintro⟨x',V',A',nx,v',w',g',k1,k2,k3⟩;exact⟨x',V',A',nx,v',w',g',k1,(gl w).trans ((ma w).trans k2),k3⟩
    split at E7
    ·rename_i k n;refine af E7 fun r E8 IP=>?_
     obtain⟨IQ,Ow,Lg,Ox,Oy,Oz⟩:=IP;cases ow with
     |false=>exact back (gK hI hF h9 dC dt hz yZ hv hu E5 E6 E8 IQ Ow Lg Ox Oy (by simpa using Oz))
     |true=>
      have aC:=(Sl.1 E8).1;exact back (cM.Db (gK hI hF h9 dC dt hz yZ hv hu E5 E6 E8 IQ Ow Lg Ox Oy ⟨k,{r with rows:=r.rows++nr},by simp[IQ],by simp[aC],by simpa using Oz⟩))
    ·simp only[aU,c7,bj]at hv;refine back ?_;rw[hv];obtain⟨E8,IP,IQ⟩:=E7;cases ow with
     |false=>exact kg hI hF h9 dC dt hz yZ hu E5 E6 E8 IP (by simpa using IQ)
     |true=>exact cM.Db (kg hI hF h9 dC dt hz yZ hu E5 E6 E8 IP ⟨s.A.length,{sz:=de.sz,eO:=e,rows:=nr,wr:=true},by simp,by simp,by simpa using IQ⟩)
    ·exact E7.elim
   |max=>
    refine af h fun x h1 h2=>af h2 fun y h3 h4=>?_
    obtain⟨h5,h6⟩:=h4;refine af h6 fun v h7 h8=>af h8 fun u h9 bZ=>?_
    have hv:=aE hS h7;have hu:=aE hS h9;split at bZ
    ·rename_i k p k' q;simp only[aU,c7,bj,bc]at hv hu;have ma:args.map a.eval= #[.int k p,.int k' q]:=by
      apply SU
      ·simp[h5]
      ·intro i Jr IN;simp at Jr IN
       match i,IN with
       |0,_=>simp[SQ]at h1;obtain⟨_,e⟩:=h1;simp[e,hv]
       |1,_=>simp[SQ]at h3;obtain⟨_,e⟩:=h3;simp[e,hu]
     refine cM.value hI hF (v:=.int k (if q>p then q else p)) ((gl w).trans (bk ?_)) (x:=.c (.d (.int k (if q>p then q else p)))) rfl bZ;rw[ma];exact run_max_int2 w _ _ k k' p q
    ·exact bZ.elim
   |min=>
    refine af h fun x h1 h2=>af h2 fun y h3 h4=>?_
    obtain⟨h5,h6⟩:=h4;refine af h6 fun v h7 h8=>af h8 fun u h9 bZ=>?_
    have hv:=aE hS h7;have hu:=aE hS h9;split at bZ
    ·rename_i k p k' q;simp only[aU,c7,bj,bc]at hv hu;have ma:args.map a.eval= #[.int k p,.int k' q]:=by
      apply SU
      ·simp[h5]
      ·intro i Jr IN;simp at Jr IN
       match i,IN with
       |0,_=>simp[SQ]at h1;obtain⟨_,e⟩:=h1;simp[e,hv]
       |1,_=>simp[SQ]at h3;obtain⟨_,e⟩:=h3;simp[e,hu]
     refine cM.value hI hF (v:=.int k (if q<p then q else p)) ((gl w).trans (bk ?_)) (x:=.c (.d (.int k (if q<p then q else p)))) rfl bZ;rw[ma];exact run_min_int2 w _ _ k k' p q
    ·exact bZ.elim
   |_=>exact h.elim
  |_=>exact h.elim
 |_=>exact h.elim
end
end Go.Av
