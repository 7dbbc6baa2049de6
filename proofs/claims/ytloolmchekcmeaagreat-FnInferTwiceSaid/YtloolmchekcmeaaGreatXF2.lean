/- A part. -/
import Derived.Test.YtloolmchekcmeaaGreatXF1
set_option linter.unusedVariables false
set_option linter.unusedSimpArgs false
open Option renaming map_eq_some_iff->WZ,bind_some->W0
open List renaming getElem?_eq_some_iff->W1,getElem?_append_left->W2,getElem?_append_right->W3,getElem?_eq_getElem->W4,range->W5,mem_of_getElem?->W6,getElem?_map->W7,getElem?_of_mem->W8,getD->W9,mem_cons->Xa,flatMap_cons->Xb,all_eq_true->Xc,nodup_nil->Xd,mem_append->Xe,length_append->Xf,map_cons->Xg,append_nil->Xh,mem_range->Xi,getElem?_inj->Xj,getElem?_eq_none->Xk,foldl_cons->Xl,eq_nil_of_length_eq_zero->Xm,contains_eq_mem->Xn,nodup_cons->Xo,mem_map->Xp,mem_filter->Xq,mem_cons_of_mem->Xr,length_eq_one_iff->Xs,zipWith->Xt,take_append_drop->Xu,sizeOf_lt_of_mem->Xv,set_append_right->Xw,mem_iff_getElem?->Xx,mem_filterMap->Xy,map_map->Xz,length_nil->XA,length_filter_le->XB,getElem?_zipIdx->XC,getElem?_drop->XD,getElem?_cons_succ->XE,ext_getElem?->XF,all_cons->XG
open Bool renaming and_eq_true->XH,or_eq_true->XI,false_eq_true->XJ,not_eq_true'->XK
open Nat renaming le_refl->XL,lt_or_ge->XM,zero_le->XN,le_trans->XO,zero_add->XP,strongRecOn->XQ,lt_trichotomy->XR,lt_of_lt_of_le->XS,testBit_or->XT,le_total->XU,add_sub_cancel_left->XV,add_assoc->XW
open Array renaming getElem?_eq_getElem->XX,getElem?_eq_some_iff->XY,mem_toList_iff->XZ,getElem?_setIfInBounds_ne->X0,length_toList->X1,replicate->X2,mem_of_getElem?->X3,getD_eq_getD_getElem?->X4,empty_append->X5
namespace Go.Av
open Go
def pos?:List Nat->Nat->Option Nat
 |[],_=>none
 |x::r,l=>if l=x then some 0 else(pos? r l).map (·+1)
def v8 (ids:List Nat):List Nat->Option (List Nat)
 |[]=>some []
 |l::r=>match pos? ids l,v8 ids r with
  |some i,some is=>some (i::is)
  |_,_=>none
def CV.kT (A:List bz) (ids:List Nat):CV->Option CV
 |.d x=>some (.d x)
 |.nil=>some (.d (.sl []))
 |.own k n=>(nI A (.own k n)).map CV.d
 |.ptr l off=>(pos? ids l).map fun i=>.ptr i off
 |.np=>some .np
 |.ip row off=>some (.ip row off)
 |.op _ _ _ _=>none
 |.fn f cap=>(v8 ids cap).map fun is=>.fn f is
 |.undef=>none
def qx (A:List bz) (ids:List Nat):List CV->Option (List CV)
 |[]=>some []
 |c::r=>match c.kT A ids,qx A ids r with
  |some d,some ds=>some (d::ds)
  |_,_=>none
def AV.kT (A:List bz) (ids:List Nat):AV->Option AV
 |.c x=>(x.kT A ids).map AV.c
 |.agg xs=>(qx A ids xs).map AV.agg
 |.a8 _=>none
def ig (A:List bz) (ids:List Nat):List AV->Option (List AV)
 |[]=>some []
 |c::r=>match c.kT A ids,ig A ids r with
  |some d,some ds=>some (d::ds)
  |_,_=>none
def ij (A:List bz) (V:List (List CV)) (ids:List Nat):List Nat->Option (List (List CV))
 |[]=>some []
 |l::r=>match V[l]?,ij A V ids r with
  |some row,some rs=>match qx A ids row with
   |some row'=>some (row'::rs)
   |none=>none
  |_,_=>none
def back (ids:List Nat) (nV:Nat) (i:Nat):Nat:=match ids[i]? with
 |some l=>l
 |none=>nV+(i-ids.length)
def CV.fN (ids:List Nat) (nV nA:Nat):CV->CV
 |.ptr i off=>.ptr (back ids nV i) off
 |.own k n=>.own (nA+k) n
 |.op k n i off=>.op (nA+k) n i off
 |.fn f cap=>.fn f (cap.map (back ids nV))
 |c=>c
def AV.fN (ids:List Nat) (nV nA:Nat):AV->AV
 |.c x=>.c (x.fN ids nV nA)
 |.agg xs=>.agg (xs.map (CV.fN ids nV nA))
 |.a8 xs=>.a8 (xs.map fun x=>match x with
  |.c x=>.c (x.fN ids nV nA)
  |.agg xs=>.agg (xs.map (CV.fN ids nV nA))
  |x=>x)
def cl (nA nV:Nat) (ids:List Nat):List (List CV)->List Nat->List (List CV)->List (List CV)
 |V,l::ls,row::rows=>cl nA nV ids (V.set l (row.map (CV.fN ids nV nA))) ls rows
 |V,[],rows=>V++rows.map fun row=>row.map (CV.fN ids nV nA)
 |V,_::_,[]=>V
def bD (xs:List AV):List CV:=xs.flatMap AV.cells
def bO (V:List (List CV)) (ids:List Nat):List CV:=ids.flatMap fun l=>V.getD l []
def ah (P:Program) (f:FuncId) (as:List AV) (V:List (List CV)) (r:AV) (V':List (List CV)) (A':List bz):Prop:=
 (∀args w,(callFunc f args).run P w=.ok (.enter f args) w)/\V.length<=V'.length/\
 ∀(g:Gh) (w:World) (vs:Array Value),g.ar=[]->Inv g w V []->AI w g->vs.size=as.length->(∀(i:Nat) x u,as[i]? =some x->vs[i]? =some u->aW g w [] x u)->
  Calls P f vs w fun e w'=>∃v g',e=.returned v/\aW g' w' A' r v/\Inv g' w' V' A'/\Fr w g w' g'
def D5 (P:Program) (s:St) (f:FuncId) (xs:List AV) (K:AV->List (List CV)->List bz->Prop):Prop:=
 ∃(ids:List Nat) (as:List AV) (Vc:List (List CV)) (r:AV) (Vc':List (List CV)) (Ac':List bz),ids.Nodup/\ig s.A ids xs=some as/\ij s.A s.V ids ids=some Vc/\ah P f as Vc r Vc' Ac'/\
  K (r.fN ids s.V.length s.A.length) (cl s.A.length s.V.length ids s.V ids Vc') (bT s.A (bD xs++bO s.V ids)++Ac')
def rT:bz:=⟨0,0,[],false⟩
def qy {α:Type} (l:List α):List Nat->List α->List α
 |h::hs,v::vs=>qy (l.set h v) hs vs
 |_,_=>l
def CV.eF (hs:List Nat):CV->Option CV
 |.d x=>some (.d x)
 |.nil=>some (.d (.sl []))
 |.own k n=>(pos? hs k).map fun i=>.own i n
 |.np=>some .np
 |.ip row off=>some (.ip row off)
 |.fn f []=>some (.fn f [])
 |_=>none
def iW (hs:List Nat):List CV->Option (List CV)
 |[]=>some []
 |c::r=>match c.eF hs,iW hs r with
  |some d,some ds=>some (d::ds)
  |_,_=>none
def AV.eF (hs:List Nat):AV->Option AV
 |.c x=>(x.eF hs).map AV.c
 |.agg xs=>(iW hs xs).map AV.agg
 |.a8 _=>none
def fb (hs:List Nat):List AV->Option (List AV)
 |[]=>some []
 |c::r=>match c.eF hs,fb hs r with
  |some d,some ds=>some (d::ds)
  |_,_=>none
def CV.dN (hs:List Nat) (nA:Nat):CV->CV
 |.own k n=>.own (back hs nA k) n
 |.op k n i off=>.op (back hs nA k) n i off
 |c=>c
def AV.dN (hs:List Nat) (nA:Nat):AV->AV
 |.c x=>.c (x.dN hs nA)
 |.agg xs=>.agg (xs.map (CV.dN hs nA))
 |.a8 xs=>.a8 (xs.map fun x=>match x with
  |.c x=>.c (x.dN hs nA)
  |.agg xs=>.agg (xs.map (CV.dN hs nA))
  |x=>x)
def e8 (P:Program) (f:FuncId) (as:List AV) (V:List (List CV)) (A0:List bz) (r:AV) (V':List (List CV)) (A':List bz):Prop:=
 (∀args w,(callFunc f args).run P w=.ok (.enter f args) w)/\V.length<=V'.length/\
 ∀(g:Gh) (w:World) (vs:Array Value),Inv g w V A0->AI w g->vs.size=as.length->(∀(i:Nat) x u,as[i]? =some x->vs[i]? =some u->aW g w A0 x u)->
  Calls P f vs w fun e w'=>∃v g',e=.returned v/\aW g' w' A' r v/\Inv g' w' V' A'/\Fr w g w' g'
def D6 (P:Program) (s:St) (f:FuncId) (xs:List AV) (K:AV->List (List CV)->List bz->Prop):Prop:=
 ∃(hs:List Nat) (as:List AV) (r:AV) (Ac':List bz),hs.Nodup/\(∀(i h:Nat),hs[i]? =some h->∃a a',s.A[h]? =some a/\a.wr=true/\Ac'[i]? =some a'/\a'.sz=a.sz)/\fb hs xs=some as/\
  e8 P f as [] (hs.map fun h=>s.A.getD h rT) r [] Ac'/\K (r.dN hs s.A.length) s.V (qy s.A hs Ac'++Ac'.drop hs.length)
def gE (P:Program) (s:St) (f:FuncId) (xs:List AV) (K:AV->List (List CV)->List bz->Prop):Prop:=D5 P s f xs K\/D6 P s f xs K
section
variable {P:Program} {g g' g0:Gh} {w w' w0:World} {V V':List (List CV)} {A A':List bz} {s:St} {a:Act} {K:AV->List (List CV)->List bz->Prop}
theorem mU:∀{ids:List Nat} {l i:Nat},pos? ids l=some i->ids[i]? =some l
 |[],l,i,h=>by simp[pos?]at h
 |x::r,l,i,h=>by
  simp only[pos?]at h;split at h
  ·rename_i e;simp at h;subst h;simp[e]
  ·simp only[WZ]at h;obtain⟨j,h1,rfl⟩:=h;simpa using mU h1
theorem yC:∀{ids cap is:List Nat},v8 ids cap=some is->is.length=cap.length/\∀(j l i:Nat),cap[j]? =some l->is[j]? =some i->ids[i]? =some l
 |ids,[],is,h=>by simp[v8]at h;subst h;exact⟨rfl,fun j l i h=>by simp at h⟩
 |ids,c::r,is,h=>by
  simp only[v8]at h;split at h
  ·rename_i i is' h1 h2;simp at h;subst h;obtain⟨h3,h4⟩:=yC h2;refine⟨by simp[h3],fun j l i h5 h6=>?_⟩;cases j with
   |zero=>simp at h5 h6;subst h5;subst h6;exact mU h1
   |succ j=>simp at h5 h6;exact h4 j l i h5 h6
  ·simp at h
theorem yD:∀{cs:List CV} {vs:List Value} {g:Gh} {A:List bz},Inv g w V A->Fr w0 g0 w g->kf g w A cs vs->(∀k n,CV.own k n∈cs->(nI A (.own k n)).isSome=true)->
  ∃g',Inv g' w V (bT A cs)/\Ext g w A g' w (bT A cs)/\Fr w0 g0 w g'/\g'.ar=g.ar/\g'.ob=g.ob/\∀(j:Nat) c x u,cs[j]? =some c->vs[j]? =some u->nI A c=some x->bn g'.im w x u
 |[],vs,g,A,hI,hF,hr,hd=>⟨g,hI,.refl _ _ _,hF,rfl,rfl,fun j c x u h=>by simp at h⟩
 |c::r,vs,g,A,hI,hF,hr,hd=>by
  cases vs with
  |nil=>exact absurd hr.1 (by simp)
  |cons v vs=>
   have vk:∃g1,Inv g1 w V (fK A c)/\Ext g w A g1 w (fK A c)/\Fr w0 g0 w g1/\g1.ar=g.ar/\g1.ob=g.ob/\∀x,nI A c=some x->bn g1.im w x v:=by
    have PG:=hr.2 0 c v rfl rfl;cases ht:nI A c with
    |some x=>
     obtain⟨g1,h1,h2,h3,h4,h5,h6⟩:=rR hI hF PG ht;exact⟨g1,h1,h2,h3,h4,h5,fun y hy=>by simp at hy;subst hy;exact h6⟩
    |none=>
     have di:fK A c=A:=by
      cases c<;>try rfl
      rename_i k n;have:=hd k n (by simp);rw[ht]at this;simp at this
     rw[di];exact⟨g,hI,.refl _ _ _,hF,rfl,rfl,fun y hy=>by simp at hy⟩
   obtain⟨g1,fj,dB,kF,tj,qa,gR⟩:=vk;have AE:kf g1 w (fK A c) r vs:=⟨by simpa using hr.1,fun j c' u h3 h4=>br.ext dB (hr.2 (j+1) c' u (by simpa using h3) (by simpa using h4))⟩;obtain⟨g2,AM,j8,Cq,MM,mJ,jE⟩:=yD fj kF AE (fun k n h=>by rw[th];exact hd k n (by simp[h]));refine⟨g2,AM,dB.trans j8,Cq,MM.trans tj,mJ.trans qa,fun j c' x u h3 h4 h5=>?_⟩;cases j with
   |zero=>simp at h3 h4;subst h3;subst h4;exact bn.fJ j8.gr _ _ (gR x h5)
   |succ j=>simp at h3 h4;exact jE j c' x u h3 h4 (by rw[th];exact h5)
theorem CV.D7 {ids:List Nat} {k n:Nat} {d:CV} (h:CV.kT A ids (.own k n)=some d):(nI A (.own k n)).isSome=true:=by
 simp only[CV.kT,WZ]at h;obtain⟨x,hx,_⟩:=h;simp[hx]
theorem wb {ids:List Nat}:∀{cs ds:List CV},qx A ids cs=some ds->∀k n,CV.own k n∈cs->(nI A (.own k n)).isSome=true
 |[],ds,h,k,n,hm=>by simp at hm
 |c::r,ds,h,k,n,hm=>by
  simp only[qx]at h;split at h
  ·rename_i d ds' h1 h2;simp only[Xa]at hm;rcases hm with rfl|hm
   ·exact CV.D7 h1
   ·exact wb h2 k n hm
  ·simp at h
theorem rU {ids:List Nat}:∀{cs ds:List CV},qx A ids cs=some ds->ds.length=cs.length/\∀(j:Nat) c d,cs[j]? =some c->ds[j]? =some d->c.kT A ids=some d
 |[],ds,h=>by simp[qx]at h;subst h;exact⟨rfl,fun j c d h=>by simp at h⟩
 |c::r,ds,h=>by
  simp only[qx]at h;split at h
  ·rename_i d ds' h1 h2;simp at h;subst h;obtain⟨h3,h4⟩:=rU h2;refine⟨by simp[h3],fun j c' d' h5 h6=>?_⟩;cases j with
   |zero=>simp at h5 h6;subst h5;subst h6;exact h1
   |succ j=>simp at h5 h6;exact h4 j c' d' h5 h6
  ·simp at h
theorem AY {ids:List Nat}:∀{xs as:List AV},ig A ids xs=some as->as.length=xs.length/\∀(j:Nat) x y,xs[j]? =some x->as[j]? =some y->x.kT A ids=some y
 |[],as,h=>by simp[ig]at h;subst h;exact⟨rfl,fun j x y h=>by simp at h⟩
 |c::r,as,h=>by
  simp only[ig]at h;split at h
  ·rename_i d ds' h1 h2;simp at h;subst h;obtain⟨h3,h4⟩:=AY h2;refine⟨by simp[h3],fun j c' d' h5 h6=>?_⟩;cases j with
   |zero=>simp at h5 h6;subst h5;subst h6;exact h1
   |succ j=>simp at h5 h6;exact h4 j c' d' h5 h6
  ·simp at h
theorem AZ {ids:List Nat}:∀{ls:List Nat} {Vc:List (List CV)},ij A V ids ls=some Vc->Vc.length=ls.length/\∀(i l:Nat) row',ls[i]? =some l->Vc[i]? =some row'->∃row,V[l]? =some row/\qx A ids row=some row'
 |[],Vc,h=>by simp[ij]at h;subst h;exact⟨rfl,fun i l row' h=>by simp at h⟩
 |l::r,Vc,h=>by
  simp only[ij]at h;split at h
  ·rename_i row rs h1 h2;split at h
   ·rename_i row' h3;simp at h;subst h;obtain⟨h4,h5⟩:=AZ h2;refine⟨by simp[h4],fun i l' rw' h6 h7=>?_⟩;cases i with
    |zero=>simp at h6 h7;subst h6;subst h7;exact⟨row,h1,h3⟩
    |succ i=>simp at h6 h7;exact h5 i l' rw' h6 h7
   ·simp at h
  ·simp at h
theorem tz {ids:List Nat} {g1 gc:Gh} {c d:CV} {u:Value} (h:c.kT A ids=some d) (hr:br g1 w A' c u) (hd:∀x,nI A c=some x->bn g1.im w x u) (IV:∀(i l b:Nat),ids[i]? =some l->g1.ob[l]? =some b->gc.ob[i]? =some b) (qV:gc.im=g1.im):br gc w [] d u:=by
 cases c with
 |d x=>simp[CV.kT]at h;subst h;simp only[br]at hr⊢;rw[qV];exact hr
 |nil=>simp[CV.kT]at h;subst h;simp only[br];rw[qV];exact hd _ rfl
 |own k n=>
  simp only[CV.kT,WZ]at h;obtain⟨x,hx,rfl⟩:=h;simp only[br];rw[qV];exact hd x hx
 |ptr l off=>
  simp only[CV.kT,WZ]at h;obtain⟨i,hi,rfl⟩:=h;obtain⟨b,hb,e⟩:=hr;exact⟨b,IV i l b (mU hi) hb,e⟩
 |np=>simp[CV.kT]at h;subst h;exact hr
 |ip row off=>
  simp[CV.kT]at h;subst h;obtain⟨b,o,e,h1,h2⟩:=hr;exact⟨b,o,e,by rw[qV];exact h1,by rw[qV];exact h2⟩
 |op k n i off=>simp[CV.kT]at h
 |fn f cap=>
  simp only[CV.kT,WZ]at h;obtain⟨is,hi,rfl⟩:=h;obtain⟨bks,e,hl,hb⟩:=hr;obtain⟨h1,h2⟩:=yC hi;refine⟨bks,e,by omega,fun j i b h3 h4=>?_⟩;have hj:j<cap.length:=by have:=(W1.1 h3).1;omega
  have hc:cap[j]? =some cap[j]:=W4 hj;exact IV i _ b (h2 j _ i hc h3) (hb j _ b hc h4)
 |undef=>simp[CV.kT]at h
theorem CK {ids:List Nat} {nV nA:Nat} {Ac' A2:List bz} {g2:Gh} {c:CV} {u:Value} (hr:br g' w Ac' c u) (IV:∀(i b:Nat),g'.ob[i]? =some b->g2.ob[back ids nV i]? =some b) (qV:g2.im=g'.im)
  (hA:∀(k:Nat) r,Ac'[k]? =some r->A2[nA+k]? =some r) (MS:∀(k:Nat) v,g'.ar[k]? =some v->g2.ar[nA+k]? =some v):br g2 w A2 (c.fN ids nV nA) u:=by
 cases c with
 |d x=>simp only[CV.fN,br]at hr⊢;rw[qV];exact hr
 |own k n=>
  obtain⟨ad,cap,e,r,h1,h2,h3⟩:=hr;exact⟨ad,cap,e,r,hA k r h1,h2,fun h=>MS k _ (h3 h)⟩
 |ptr l off=>
  obtain⟨b,hb,e⟩:=hr;exact⟨b,IV l b hb,e⟩
 |ip row off=>
  obtain⟨b,o,e,h1,h2⟩:=hr;exact⟨b,o,e,by rw[qV];exact h1,by rw[qV];exact h2⟩
 |op k n i off=>
  obtain⟨b,e,hv,r,h1,h2,h3⟩:=hr;refine⟨b,e,hv,r,hA k r h1,h2,fun h=>?_⟩;obtain⟨cap,h4,h5⟩:=h3 h;exact⟨cap,MS k _ h4,h5⟩
 |fn f cap=>
  obtain⟨bks,e,hl,hb⟩:=hr;refine⟨bks,e,by simpa using hl,fun i l b h1 h2=>?_⟩;simp only[W7,WZ]at h1;obtain⟨l',h3,rfl⟩:=h1;exact IV l' b (hb i l' b h3 h2)
 |_=>exact hr
theorem uy {nA nV:Nat} {ids:List Nat}:∀{V:List (List CV)} {ls:List Nat} {rows:List (List CV)},ls.length<=rows.length->(cl nA nV ids V ls rows).length=V.length+(rows.length-ls.length)
 |V,[],rows,_=>by simp[cl]
 |V,l::ls,[],h=>by simp at h
 |V,l::ls,row::rows,h=>by
  simp only[cl];rw[uy (by simpa using h)];simp
theorem wc {nA nV:Nat} {ids:List Nat}:∀{V:List (List CV)} {ls:List Nat} {rows:List (List CV)},ls.length<=rows.length->ls.Nodup->(∀l∈ls,l<V.length)->∀(l:Nat) row,(cl nA nV ids V ls rows)[l]? =some row->
  (∃(i:Nat) (row':List CV),ls[i]? =some l/\rows[i]? =some row'/\row=row'.map (CV.fN ids nV nA))\/(l∉ls/\l<V.length/\V[l]? =some row)\/(V.length<=l/\∃row':List CV,rows[ls.length+(l-V.length)]? =some row'/\row=row'.map (CV.fN ids nV nA))
 |V,[],rows,_,_,_,l,row,h=>by
  simp only[cl]at h;by_cases hl:l<V.length
  ·rw[W2 hl]at h;exact .inr (.inl ⟨by simp,hl,h⟩)
  ·rw[W3 (by omega),W7,WZ]at h;obtain⟨row',h1,rfl⟩:=h;exact .inr (.inr ⟨by omega,row',by simpa using h1,rfl⟩)
 |V,l0::ls,[],h,_,_,_,_,_=>by simp at h
 |V,l0::ls,row0::rows,hlen,oU,ay,l,row,h=>by
  simp only[cl]at h;rw[Xo]at oU;have IS:l0<V.length:=ay l0 (by simp);have hV:V[l0]? =some V[l0]:=W4 IS;rcases wc (by simpa using hlen) oU.2 (fun l hl=>by simpa using ay l (by simp[hl])) l row h with⟨i,row',h1,h2,h3⟩|⟨h1,h2,h3⟩|⟨h1,row',h2,h3⟩
  ·exact .inl ⟨i+1,row',by simpa using h1,by simpa using h2,h3⟩
  ·rw[dw hV]at h3;by_cases e:l=l0
   ·subst e;simp at h3;exact .inl ⟨0,row0,rfl,rfl,h3.symm⟩
   ·rw[if_neg e]at h3;exact .inr (.inl ⟨by simp[e,h1],by simpa using h2,h3⟩)
  ·simp at h1 h2;refine .inr (.inr ⟨h1,row',?_,h3⟩);rw[List.length_cons,show ls.length+1+(l-V.length)=(ls.length+(l-V.length))+1 by omega,XE];exact h2
set_option maxHeartbeats 1000000 in
theorem x6 (hI:Inv g w s.V s.A) (hF:Fr w0 g0 w g) {f:FuncId} {xs:List AV} {vs:Array Value} (hl:vs.size=xs.length) (hr:∀(i:Nat) x u,xs[i]? =some x->vs[i]? =some u->aW g w s.A x u) (h:D5 P s f xs K):
  (∀args w,(callFunc f args).run P w=.ok (.enter f args) w)/\∃x V' A',K x V' A'/\Calls P f vs w fun e w'=>∃v g',e=.returned v/\aW g' w' A' x v/\Inv g' w' V' A'/\Ext g w s.A g' w' A'/\Fr w0 g0 w' g':=by
 obtain⟨ids,as,Vc,r,Vc',Ac',oU,has,Uc,⟨G5,hlen,iD⟩,hK⟩:=h;refine⟨G5,_,_,_,hK,?_⟩;obtain⟨QE,G6⟩:=AY has;obtain⟨Ls,MT⟩:=AZ Uc;have G7:∀l∈ids,l<s.V.length:=fun l IQ=>by
  obtain⟨i,hi⟩:=W8 IQ;have AF:=(W1.1 hi).1;obtain⟨row,h1,_⟩:=MT i l _ hi (W4 (show i<Vc.length by omega));exact(W1.1 h1).1
 have pq:∀(l:List AV) (us:List Value),us.length=l.length->(∀(i:Nat) x u,l[i]? =some x->us[i]? =some u->aW g w s.A x u)->(∀x∈l,∃y,x.kT s.A ids=some y)->
   kf g w s.A (bD l) (us.flatMap fun u=>u.cells.toList)/\∀k n,CV.own k n∈bD l->(nI s.A (.own k n)).isSome=true:=by
  intro l;induction l with
  |nil=>intro us h1 _ _;have:us=[]:=Xm (by simpa using h1);subst this;exact⟨⟨rfl,fun j c u h=>by simp[bD]at h⟩,fun k n h=>by simp[bD]at h⟩
  |cons x l ih=>
   intro us h1 h2 h3;cases us with
   |nil=>simp at h1
   |cons u us=>
    obtain⟨⟨h4,h5⟩,h6⟩:=ih us (by simpa using h1) (fun i x u h7 h8=>h2 (i+1) x u (by simpa using h7) (by simpa using h8)) (fun x hx=>h3 x (by simp[hx]));obtain⟨y,hy⟩:=h3 x (by simp);have MU:=h2 0 x u rfl rfl;have lZ:kf g w s.A x.cells u.cells.toList:=by
     refine(AV.gC MU ?_).1;cases x with
     |c c=>simp only[AV.kT,WZ]at hy;obtain⟨d,hd,_⟩:=hy;cases c<;>first|rfl|simp[CV.kT]at hd
     |agg cs=>
      simp only[AV.kT,WZ]at hy;obtain⟨ds,hd,_⟩:=hy;simp only[AV.plain,Xc,XK];intro c hc;obtain⟨j,hj⟩:=W8 hc;obtain⟨h9,cO⟩:=rU hd;have jk:j<ds.length:=by have:=(W1.1 hj).1;omega
      have:=cO j c _ hj (W4 jk);cases c<;>first|rfl|simp[CV.kT]at this
     |a8 ys=>simp[AV.kT]at hy
    refine⟨⟨by simp only[bD,Xb,Xf]at h4⊢;have:=lZ.1;omega,fun j c v h7 h8=>?_⟩,fun k n h7=>?_⟩
    ·simp only[bD,Xb]at h7 h8;by_cases hj:j<x.cells.length
     ·rw[W2 hj]at h7;rw[W2 (by rw[lZ.1];exact hj)]at h8;exact lZ.2 j c v h7 h8
     ·rw[W3 (by omega)]at h7;rw[W3 (by rw[lZ.1];omega),lZ.1]at h8;exact h5 _ c v h7 h8
    ·simp only[bD,Xb,Xe]at h7;rcases h7 with h7|h7
     ·cases x with
      |c c=>
       simp[AV.cells]at h7;subst h7;simp only[AV.kT,WZ]at hy;obtain⟨d,hd,_⟩:=hy;exact CV.D7 hd
      |agg cs=>
       simp only[AV.kT,WZ]at hy;obtain⟨ds,hd,_⟩:=hy;exact wb hd k n h7
      |a8 ys=>simp[AV.cells]at h7
     ·exact h6 k n h7
 obtain⟨IW,Ud⟩:=pq xs vs.toList (by simpa using hl) (fun i x u h1 h2=>hr i x u h1 (by simpa using h2)) (fun x hx=>by
  obtain⟨i,hi⟩:=W8 hx;have:i<as.length:=by have:=(W1.1 hi).1;omega
  exact⟨_,G6 i x _ hi (W4 this)⟩)
 have Nz:∀ls:List Nat,(∀l∈ls,l∈ids)->∃us:List Value,kf g w s.A (bO s.V ls) us/\(∀k n,CV.own k n∈bO s.V ls->(nI s.A (.own k n)).isSome=true)/\
   ∀(l:Nat) row b,l∈ls->s.V[l]? =some row->g.ob[l]? =some b->∃cs ty,w.heap[b]? =some (.cells cs ty (0,0))/\cs.size=row.length/\∃o,∀(j:Nat) c u,row[j]? =some c->cs[j]? =some u->(bO s.V ls)[o+j]? =some c/\us[o+j]? =some u:=by
  intro ls;induction ls with
  |nil=>intro _;exact⟨[],⟨rfl,fun j c u h=>by simp[bO]at h⟩,fun k n h=>by simp[bO]at h,fun l row b h=>by simp at h⟩
  |cons l0 ls ih=>
   intro gF;obtain⟨us,⟨h1,h2⟩,h3,h4⟩:=ih (fun l hl=>gF l (by simp[hl]));have IS:=G7 l0 (gF l0 (by simp));have D8:s.V[l0]? =some s.V[l0]:=W4 IS;have G8:g.ob[l0]? =some (g.ob[l0]'(by rw[hI.oT];exact IS)):=W4 _;obtain⟨_,cs0,ty0,Ue,IX,Jm⟩:=hI.obj l0 _ _ D8 G8;have vo:s.V.getD l0 []=s.V[l0]:=by simp[W9,D8]
   have nN:bO s.V (l0::ls)=s.V[l0]++bO s.V ls:=by simp only[bO,Xb,vo]
   refine⟨cs0.toList++us,?_,?_,?_⟩
   ·rw[nN];refine⟨by simp[h1,IX],fun j c u h5 h6=>?_⟩;by_cases hj:j<s.V[l0].length
    ·rw[W2 hj]at h5;rw[W2 (by simp;omega)]at h6;exact Jm j c u h5 (by simpa using h6)
    ·rw[W3 (by omega)]at h5;rw[W3 (by simp;omega)]at h6;exact h2 _ c u h5 (by simpa[IX]using h6)
   ·rw[nN];intro k n hm;rcases Xe.1 hm with hm|hm
    ·obtain⟨i,hi⟩:=W8 (gF l0 (by simp));have AF:=(W1.1 hi).1;obtain⟨row,h5,h6⟩:=MT i l0 _ hi (W4 (show i<Vc.length by omega));rw[D8]at h5;cases h5;exact wb h6 k n hm
    ·exact h3 k n hm
   ·intro l row b Gs ef hb;rw[nN];by_cases e:l=l0
    ·subst e;rw[D8]at ef;cases ef;rw[G8]at hb;cases hb;refine⟨cs0,ty0,Ue,IX,0,fun j c u h5 h6=>?_⟩;have hj:=(W1.1 h5).1;rw[XP,W2 hj,W2 (by simp;omega)];exact⟨h5,by simpa using h6⟩
    ·simp only[Xa,e,false_or]at Gs;obtain⟨cs,ty,h5,h6,o,h7⟩:=h4 l row b Gs ef hb;refine⟨cs,ty,h5,h6,s.V[l0].length+o,fun j c u h8 h9=>?_⟩;obtain⟨cO,eE⟩:=h7 j c u h8 h9;rw[XW,W3 (by omega),W3 (by simp;omega)];simp only[XV,X1,IX];exact⟨cO,eE⟩
 obtain⟨us,QF,Uf,Ug⟩:=Nz ids (fun _ h=>h);have x7:kf g w s.A (bD xs++bO s.V ids) ((vs.toList.flatMap fun u=>u.cells.toList)++us):=by
  refine⟨by simp only[Xf];have:=IW.1;have:=QF.1;omega,fun j c u h1 h2=>?_⟩;by_cases hj:j<(bD xs).length
  ·rw[W2 hj]at h1;rw[W2 (by rw[IW.1];exact hj)]at h2;exact IW.2 j c u h1 h2
  ·rw[W3 (by omega)]at h1;rw[W3 (by rw[IW.1];omega),IW.1]at h2;exact QF.2 _ c u h1 h2
 obtain⟨g1,fj,dB,kF,tj,qa,gR⟩:=yD hI hF x7 (fun k n hm=>by
  rcases Xe.1 hm with hm|hm
  ·exact Ud k n hm
  ·exact Uf k n hm)
 let gc:Gh:={ob:=ids.map fun l=>g1.ob.getD l 0,ar:=[],im:=g1.im}
 have G9:∀(i l b:Nat),ids[i]? =some l->g1.ob[l]? =some b->gc.ob[i]? =some b:=fun i l b h1 h2=>by
  simp[gc,h1,h2]
 have oG:∀(i b:Nat),gc.ob[i]? =some b->∃l,ids[i]? =some l/\g1.ob[l]? =some b:=fun i b h1=>by
  simp only[gc,W7,WZ]at h1;obtain⟨l,h2,h3⟩:=h1;have tA:l<g1.ob.length:=by rw[fj.oT];exact G7 l (W6 h2)
  exact⟨l,h2,by rw[<-h3];simp[W9,tA]⟩
 have Ha:Inv gc w Vc []:=by
  refine⟨by simp[gc,Ls],rfl,fun i row' b h1 h2=>?_,fun k r v h1=>by simp at h1,fun i i' b h1 h2=>?_,fun k k' v v' b h1=>by simp[gc]at h1,fun l k v b _ h2=>by simp[gc]at h2,fj.fresh⟩
  ·obtain⟨l,h3,h4⟩:=oG i b h2;obtain⟨row,h5,h6⟩:=MT i l row' h3 h1;have hb:g.ob[l]? =some b:=by rw[<-qa];exact h4
   obtain⟨cs,ty,h7,h8,o,h9⟩:=Ug l row b (W6 h3) h5 hb;obtain⟨cO,eE⟩:=rU h6;refine⟨(fj.obj l row b h5 h4).1,cs,ty,h7,by omega,fun j d u fS dG=>?_⟩;have hj:j<row.length:=by have:=(W1.1 fS).1;omega
   have hc:row[j]? =some row[j]:=W4 hj;obtain⟨gA,qH⟩:=h9 j _ u hc dG;refine tz (eE j _ d hc fS) (br.ext dB (QF.2 (o+j) _ u gA qH)) (fun x hx=>?_) G9 rfl;refine gR ((bD xs).length+(o+j)) row[j] x u ?_ ?_ hx
   ·rw[W3 (by omega)];simpa using gA
   ·rw[W3 (by rw[IW.1];omega),IW.1];simpa using qH
  ·obtain⟨l,h3,h4⟩:=oG i b h1;obtain⟨l',h5,h6⟩:=oG i' b h2;obtain rfl:=fj.kH l l' b h4 h6;have hi:=(W1.1 h3).1;exact(Xj hi oU).1 (h3.trans h5.symm)
 have Hb:∀(i:Nat) x u,as[i]? =some x->vs[i]? =some u->aW gc w [] x u:=by
  intro i y u h1 h2;have hi:i<xs.length:=by have:=(W1.1 h1).1;omega
  have hx:xs[i]? =some xs[i]:=W4 hi;have b8:=G6 i _ y hx h1;have Jm:=hr i _ u hx h2
  have Lt:∀(l:List AV) (us:List Value),kf g w s.A (bD l) (us.flatMap fun u=>u.cells.toList)->us.length=l.length->(∀(i:Nat) x u,l[i]? =some x->us[i]? =some u->x.cells.length=u.cells.size)->∀(i:Nat) x u,l[i]? =some x->us[i]? =some u->
    ∃o,∀(j:Nat) c v,x.cells[j]? =some c->u.cells[j]? =some v->(bD l)[o+j]? =some c/\(us.flatMap fun u=>u.cells.toList)[o+j]? =some v:=by
   intro l;induction l with
   |nil=>intro us _ _ _ i x u h;simp at h
   |cons x0 l ih=>
    intro us PG AR fB i x u h3 h4;cases us with
    |nil=>simp at AR
    |cons u0 us=>
     have IX:=fB 0 x0 u0 rfl rfl;cases i with
     |zero=>
      simp at h3 h4;subst h3;subst h4;refine⟨0,fun j c v h5 h6=>?_⟩;have hj:=(W1.1 h5).1;simp only[bD,Xb,XP];rw[W2 hj,W2 (by simp;omega)];exact⟨h5,by simpa using h6⟩
     |succ i=>
      simp at h3 h4;obtain⟨o,ho⟩:=ih us ⟨by have:=PG.1;simp only[bD,Xb,Xf,X1]at this⊢;omega,fun j c v h5 h6=>PG.2 (x0.cells.length+j) c v (by
        simp only[bD,Xb];rw[W3 (by omega)];simpa[bD]using h5) (by
        simp only[Xb];rw[W3 (by simp;omega)];simpa[IX]using h6)⟩ (by simpa using AR) (fun i x u h5 h6=>fB (i+1) x u (by simpa using h5) (by simpa using h6)) i x u h3 h4
      refine⟨x0.cells.length+o,fun j c v h5 h6=>?_⟩;obtain⟨h7,h8⟩:=ho j c v h5 h6;simp only[bD,Xb,XW];rw[W3 (by omega),W3 (by simp;omega)];simp only[XV,X1];exact⟨h7,by rw[show x0.cells.length+(o+j)-u0.cells.size=o+j by omega];exact h8⟩
  have lZ:∀(i:Nat) x u,xs[i]? =some x->vs.toList[i]? =some u->kf g w s.A x.cells u.cells.toList:=by
   intro i x u h3 h4;have EZ:i<as.length:=by have:=(W1.1 h3).1;omega
   have hy:=G6 i x _ h3 (W4 EZ);refine(AV.gC (hr i x u h3 (by simpa using h4)) ?_).1;cases x with
   |c c=>simp only[AV.kT,WZ]at hy;obtain⟨d,hd,_⟩:=hy;cases c<;>first|rfl|simp[CV.kT]at hd
   |agg cs=>
    simp only[AV.kT,WZ]at hy;obtain⟨ds,hd,_⟩:=hy;simp only[AV.plain,Xc,XK];intro c hc;obtain⟨j,hj⟩:=W8 hc;obtain⟨h9,cO⟩:=rU hd;have jk:j<ds.length:=by have:=(W1.1 hj).1;omega
    have:=cO j c _ hj (W4 jk);cases c<;>first|rfl|simp[CV.kT]at this
   |a8 ys=>simp[AV.kT]at hy
  obtain⟨o,ho⟩:=Lt xs vs.toList IW (by simpa using hl) (fun i x u h3 h4=>by have:=(lZ i x u h3 h4).1;simp at this;omega) i _ u hx (by simpa using h2);have oD:∀(j:Nat) c d v,xs[i].cells[j]? =some c->u.cells[j]? =some v->c.kT s.A ids=some d->br gc w [] d v:=fun j c d v h3 h4 h5=>by
   obtain⟨h6,h7⟩:=ho j c v h3 h4;have ay:=(W1.1 h6).1;refine tz h5 (br.ext dB (IW.2 _ c v h6 h7)) (fun x hx=>gR (o+j) c x v ?_ ?_ hx) G9 rfl
   ·rw[W2 ay];exact h6
   ·rw[W2 (by rw[IW.1];exact ay)];exact h7
  generalize SN:xs[i]=x at b8 Jm oD;cases x with
  |c c=>
   simp only[AV.kT,WZ]at b8;obtain⟨d,hd,rfl⟩:=b8;have vk:u.oneCell'=true:=br.lY (by cases c<;>first|rfl|simp[CV.kT]at hd) Jm;have xJ:u.cells= #[u]:=by cases u<;>first|rfl|simp[Value.oneCell']at vk
   exact oD 0 c d u rfl (by rw[xJ];rfl) hd
  |agg cs=>
   simp only[AV.kT,WZ]at b8;obtain⟨ds,hd,rfl⟩:=b8;obtain⟨us',rfl,Uh,_⟩:=Jm;obtain⟨h9,cO⟩:=rU hd;refine⟨us',rfl,by omega,fun j d v h3 h4=>?_⟩;have hj:j<cs.length:=by have:=(W1.1 h3).1;omega
   have hc:cs[j]? =some cs[j]:=W4 hj;exact oD j _ d v hc (by simpa[Value.cells]using h4) (cO j _ d hc h3)
  |a8 ys=>simp[AV.kT]at b8
 refine(iD gc w vs rfl Ha (kF.now.less (fun b hb=>by obtain⟨i,hi⟩:=W8 hb;obtain⟨l,_,h⟩:=oG i b hi;exact W6 h) (fun b hb=>by simp[Gh.jB,gc]at hb)) (by omega) Hb).mono ?_;rintro e w' ⟨v,g',rfl,x8,xL,s3⟩;have MV:∀b,b∉gc.jB:=fun b h=>by simp[Gh.jB,gc]at h
 obtain⟨new,Jn,x9⟩:=s3.ob;have Lu:gc.ob.length=ids.length:=by simp[gc]
 let g2:Gh:={ob:=g1.ob++new,ar:=g1.ar++g'.ar,im:=g'.im}
 have KI:g1.ob.length=s.V.length:=fj.oT;have uz:g1.ar.length=(bT s.A (bD xs++bO s.V ids)).length:=fj.lQ;have ux:(bT s.A (bD xs++bO s.V ids)).length=s.A.length:=by rw[<-uz,tj,hI.lQ]
 have QG:∀(i b:Nat),g'.ob[i]? =some b->g2.ob[back ids s.V.length i]? =some b:=by
  intro i b h1;rw[Jn]at h1;simp only[back];by_cases hi:i<ids.length
  ·have hid:ids[i]? =some ids[i]:=W4 hi;rw[W2 (by omega)]at h1;obtain⟨l,h2,h3⟩:=oG i b h1;simp only[h2,g2];rw[W2 (by have:=(W1.1 h3).1;exact this)];exact h3
  ·have hid:ids[i]? =none:=Xk (by omega);rw[W3 (by omega),Lu]at h1;simp only[hid,g2];rw[W3 (by omega),KI];simpa using h1
 have QH:∀(k:Nat) r,Ac'[k]? =some r->(bT s.A (bD xs++bO s.V ids)++Ac')[s.A.length+k]? =some r:=fun k r h1=>by
  rw[W3 (by omega),ux];simpa using h1
 have QI:∀(k:Nat) v,g'.ar[k]? =some v->g2.ar[s.A.length+k]? =some v:=fun k v h1=>by
  simp only[g2];rw[W3 (by omega),uz,ux];simpa using h1
 have xW:j7 g1.im w g'.im w':=by
  refine⟨fun b=>?_,fun b o ho=>?_⟩
  ·rcases XM b w.heap.size with hb|hb
   ·rw[s3.js b hb (MV b)];exact XL _
   ·rw[fj.fresh b hb];exact XN _
  ·have hb:=fj.E0 ho;refine World.cell?_of_block (a:=⟨b,o,none⟩) (s3.qE b hb (fun hm=>?_) (MV b));obtain⟨i,hi⟩:=W8 hm;obtain⟨l,h2,h3⟩:=oG i b hi;have tA:=G7 l (W6 h2);have:=(fj.obj l _ b (W4 tA) h3).1;omega
 have j8:Ext g1 w (bT s.A (bD xs++bO s.V ids)) g2 w' (bT s.A (bD xs++bO s.V ids)++Ac'):=by
  refine⟨fun l b hb=>?_,xW,fun k r hk=>⟨r,?_,rfl,XL _,fun _=>?_⟩⟩
  ·simp only[g2];rw[W2 (W1.1 hb).1];exact hb
  ·rw[W2 (W1.1 hk).1];exact hk
  ·simp only[g2];rw[W2 (by rw[uz];exact(W1.1 hk).1)]
 have pr:∀c u,br g' w' Ac' c u->br g2 w' (bT s.A (bD xs++bO s.V ids)++Ac') (c.fN ids s.V.length s.A.length) u:=fun c u h1=>CK h1 QG rfl QH QI
 have hold:∀b,b<w.heap.size->(∀(l:Nat),l∈ids->g1.ob[l]? ≠some b)->w'.heap[b]? =w.heap[b]? :=fun b hb di=>s3.qE b hb (fun hm=>by
  obtain⟨i,hi⟩:=W8 hm;obtain⟨l,h2,h3⟩:=oG i b hi;exact di l (W6 h2) h3) (MV b)
 have hVc'l:ids.length<=Vc'.length:=by omega
 have Lv:=xL.oT;have SO:new.length=Vc'.length-ids.length:=by
  have:g'.ob.length=Vc'.length:=Lv;rw[Jn,Xf,Lu]at this;omega
 have we:∀(l b:Nat),g2.ob[l]? =some b->(l<s.V.length/\g1.ob[l]? =some b/\b<w.heap.size)\/(s.V.length<=l/\g'.ob[ids.length+(l-s.V.length)]? =some b/\w.heap.size<=b):=by
  intro l b h1;simp only[g2]at h1;by_cases IQ:l<s.V.length
  ·rw[W2 (by omega)]at h1;exact .inl ⟨IQ,h1,fj.qU h1⟩
  ·rw[W3 (by omega),KI]at h1;refine .inr ⟨by omega,?_,x9 b (W6 h1)⟩;rw[Jn,W3 (by omega),Lu];simpa using h1
 have hg'idx:∀(i l b:Nat),ids[i]? =some l->g1.ob[l]? =some b->g'.ob[i]? =some b:=fun i l b h1 h2=>by
  have h3:=G9 i l b h1 h2;rw[Jn,W2 (W1.1 h3).1];exact h3
 refine⟨v,g2,rfl,?_,?_,dB.trans j8,?_⟩
 ·-- the result
  cases r with
  |c c=>exact pr c v x8
  |agg cs=>
   obtain⟨us',rfl,h1,h2⟩:=x8;refine⟨us',rfl,by simpa using h1,fun j c u h3 h4=>?_⟩;simp only[W7,WZ]at h3;obtain⟨c',h5,rfl⟩:=h3;exact pr c' u (h2 j c' u h5 h4)
  |a8 ys=>
   obtain⟨us',rfl,h1,h2⟩:=x8;refine⟨us',rfl,by simpa using h1,fun j y u h3 h4=>?_⟩;simp only[W7,WZ]at h3;obtain⟨y',h5,rfl⟩:=h3;have h6:=h2 j y' u h5 h4;cases y' with
   |c c=>exact pr c u h6
   |agg cs=>
    obtain⟨us'',rfl,h7,h8⟩:=h6;refine⟨us'',rfl,by simpa using h7,fun j c u h9 cO=>?_⟩;simp only[W7,WZ]at h9;obtain⟨c',eE,rfl⟩:=h9;exact pr c' u (h8 j c' u eE cO)
   |a8 zs=>exact h6.elim
 ·-- the memory
  refine⟨?_,?_,fun l row b h1 h2=>?_,fun k r v' h1 h2=>?_,fun l l' b h1 h2=>?_,fun k k' v1 v2 b h1 h2 h3 h4=>?_,fun l k v' b h1 h2 h3=>?_,fun b hb=>xL.fresh b hb⟩
  ·rw[uy hVc'l];simp only[g2,Xf];omega
  ·simp only[g2,Xf,uz];rw[xL.lQ]
  ·rcases wc hVc'l oU G7 l row h1 with⟨i,row',h3,h4,rfl⟩|⟨h3,h4,h5⟩|⟨h3,row',h4,rfl⟩
   ·have IQ:=G7 l (W6 h3);rcases we l b h2 with⟨_,h5,_⟩|⟨h5,_⟩
    ·obtain⟨h6,cs,ty,h7,h8,h9⟩:=xL.obj i row' b h4 (hg'idx i l b h3 h5);refine⟨h6,cs,ty,h7,by simpa using h8,fun j c u cO eE=>?_⟩;simp only[W7,WZ]at cO;obtain⟨c',fS,rfl⟩:=cO;exact pr c' u (h9 j c' u fS eE)
    ·omega
   ·rcases we l b h2 with⟨_,h6,h7⟩|⟨h6,_⟩
    ·refine fj.fx j8 h5 h6 (hold b h7 (fun l' IQ h8=>h3 (fj.kH l l' b h6 h8▸IQ))) ?_;show g'.im b=0;rw[s3.js b h7 (MV b)];exact(fj.obj l row b h5 h6).1
    ·omega
   ·rcases we l b h2 with⟨h5,_⟩|⟨_,h5,_⟩
    ·omega
    ·obtain⟨h6,cs,ty,h7,h8,h9⟩:=xL.obj _ row' b h4 h5;refine⟨h6,cs,ty,h7,by simpa using h8,fun j c u cO eE=>?_⟩;simp only[W7,WZ]at cO;obtain⟨c',fS,rfl⟩:=cO;exact pr c' u (h9 j c' u fS eE)
  ·simp only[g2]at h2;by_cases hk:k<s.A.length
   ·rw[W2 (by omega)]at h1;rw[W2 (by omega)]at h2;exact fj.fy j8 h1 h2 (fun b hb=>hold b (fj.mO h2 hb) (fun l _ h3=>fj.jr l k v' b h3 h2 hb)) (fun b hb=>s3.js b (fj.mO h2 hb) (MV b))
   ·rw[W3 (by omega),ux]at h1;rw[W3 (by omega),uz,ux]at h2;exact xL.arr _ r v' h1 h2
  ·rcases we l b h1 with⟨h3,h4,h5⟩|⟨h3,h4,h5⟩<;>rcases we l' b h2 with⟨h6,h7,h8⟩|⟨h6,h7,h8⟩
   ·exact fj.kH l l' b h4 h7
   ·omega
   ·omega
   ·have:=xL.kH _ _ b h4 h7;omega
  ·have KJ:∀(k:Nat) v b,g2.ar[k]? =some v->v.ownBlock=some b->(k<s.A.length/\g1.ar[k]? =some v/\b<w.heap.size)\/(s.A.length<=k/\g'.ar[k-s.A.length]? =some v/\w.heap.size<=b):=fun k v b h5 h6=>by
    simp only[g2]at h5;by_cases hk:k<s.A.length
    ·rw[W2 (by omega)]at h5;exact .inl ⟨hk,h5,fj.mO h5 h6⟩
    ·rw[W3 (by omega),uz,ux]at h5;exact .inr ⟨by omega,h5,s3.Qi rfl _ v b h5 h6⟩
   rcases KJ k v1 b h1 h3 with⟨h5,h6,h7⟩|⟨h5,h6,h7⟩<;>rcases KJ k' v2 b h2 h4 with⟨h8,h9,cO⟩|⟨h8,h9,cO⟩
   ·exact fj.jj k k' v1 v2 b h6 h9 h3 h4
   ·omega
   ·omega
   ·have:=xL.jj _ _ v1 v2 b h6 h9 h3 h4;omega
  ·simp only[g2]at h2;by_cases hk:k<s.A.length
   ·rw[W2 (by omega)]at h2;rcases we l b h1 with⟨_,h5,_⟩|⟨_,_,h6⟩
    ·exact fj.jr l k v' b h5 h2 h3
    ·have:=fj.mO h2 h3;omega
   ·rw[W3 (by omega),uz,ux]at h2;have h7:=s3.Qi rfl _ v' b h2 h3;rcases we l b h1 with⟨_,_,h5⟩|⟨_,h5,_⟩
    ·omega
    ·exact xL.jr _ _ v' b h5 h2 h3
 ·-- what is left alone
  refine⟨s3.os.trans hF.os,s3.tape.trans hF.tape,s3.output.trans hF.output,XO hF.size s3.size,fun b h1 h2 Lw=>?_,fun b h1 mu=>?_,?_,fun k v' b h1 h2=>?_,fun k v' h1=>?_,hF.xV⟩
  ·rw[hold b (XS h1 hF.size) (fun l IQ h3=>by rcases kF.Nk h3 with h4|h4<;>first|exact h2 h4|omega)];exact kF.qE b h1 h2 Lw
  ·show g'.im b=g0.im b;rw[s3.js b (XS h1 hF.size) (MV b)];exact kF.js b h1 mu
  ·obtain⟨E7,e1,E8⟩:=kF.ob;exact⟨E7++new,by simp only[g2,e1,List.append_assoc],fun b hb=>by
    rcases Xe.1 hb with h|h
    ·exact E8 b h
    ·exact XO hF.size (x9 b h)⟩
  ·simp only[g2]at h1;by_cases hk:k<s.A.length
   ·rw[W2 (by omega)]at h1;exact kF.ar k v' b h1 h2
   ·rw[W3 (by omega),uz,ux]at h1;exact .inl (XO hF.size (s3.Qi rfl _ v' b h1 h2))
  ·obtain⟨v2,h3,h4⟩:=kF.vO k v' h1;exact⟨v2,by simp only[g2];rw[W2 (W1.1 h3).1];exact h3,h4⟩
theorem wg {α:Type}:∀{l:List α} {hs:List Nat} {vs:List α},(qy l hs vs).length=l.length
 |l,[],vs=>by cases vs<;>rfl
 |l,h::hs,[]=>rfl
 |l,h::hs,v::vs=>by simp only[qy];rw[wg];simp
theorem rV {α:Type} {k:Nat}:∀{l:List α} {hs:List Nat} {vs:List α},k∉hs->(qy l hs vs)[k]? =l[k]?
 |l,[],vs,_=>by cases vs<;>rfl
 |l,h::hs,[],_=>rfl
 |l,h::hs,v::vs,hk=>by
  simp only[Xa,not_or]at hk;simp only[qy];rw[rV hk.2,List.getElem?_set_ne (by omega)]
theorem zE {α:Type}:∀{l:List α} {hs:List Nat} {vs:List α} {i h:Nat},hs.Nodup->hs.length<=vs.length->hs[i]? =some h->h<l.length->(qy l hs vs)[h]? =vs[i]?
 |l,[],vs,i,h,_,_,hi,_=>by simp at hi
 |l,h0::hs,[],i,h,_,hl,_,_=>by simp at hl
 |l,h0::hs,v::vs,0,h,hn,_,hi,ay=>by
  simp at hi;subst hi;simp only[qy];rw[rV (Xo.1 hn).1];simp[ay]
 |l,h0::hs,v::vs,i+1,h,hn,hl,hi,ay=>by
  simp only[qy];rw[zE (Xo.1 hn).2 (by simpa using hl) (by simpa using hi) (by simpa using ay)];simp
theorem A1 {hs:List Nat}:∀{cs ds:List CV},iW hs cs=some ds->ds.length=cs.length/\∀(j:Nat) c d,cs[j]? =some c->ds[j]? =some d->c.eF hs=some d
 |[],ds,h=>by simp[iW]at h;subst h;exact⟨rfl,fun j c d h=>by simp at h⟩
 |c::r,ds,h=>by
  simp only[iW]at h;split at h
  ·rename_i d ds' h1 h2;simp at h;subst h;obtain⟨h3,h4⟩:=A1 h2;refine⟨by simp[h3],fun j c' d' h5 h6=>?_⟩;cases j with
   |zero=>simp at h5 h6;subst h5;subst h6;exact h1
   |succ j=>simp at h5 h6;exact h4 j c' d' h5 h6
  ·simp at h
theorem yE {hs:List Nat}:∀{xs as:List AV},fb hs xs=some as->as.length=xs.length/\∀(j:Nat) x y,xs[j]? =some x->as[j]? =some y->x.eF hs=some y
 |[],as,h=>by simp[fb]at h;subst h;exact⟨rfl,fun j x y h=>by simp at h⟩
 |c::r,as,h=>by
  simp only[fb]at h;split at h
  ·rename_i d ds' h1 h2;simp at h;subst h;obtain⟨h3,h4⟩:=yE h2;refine⟨by simp[h3],fun j c' d' h5 h6=>?_⟩;cases j with
   |zero=>simp at h5 h6;subst h5;subst h6;exact h1
   |succ j=>simp at h5 h6;exact h4 j c' d' h5 h6
  ·simp at h
set_option maxHeartbeats 1000000 in
theorem ya (hI:Inv g w s.V s.A) (hF:Fr w0 g0 w g) {f:FuncId} {xs:List AV} {vs:Array Value} (hl:vs.size=xs.length) (hr:∀(i:Nat) x u,xs[i]? =some x->vs[i]? =some u->aW g w s.A x u) (h:D6 P s f xs K):
  (∀args w,(callFunc f args).run P w=.ok (.enter f args) w)/\∃x V' A',K x V' A'/\Calls P f vs w fun e w'=>∃v g',e=.returned v/\aW g' w' A' x v/\Inv g' w' V' A'/\Ext g w s.A g' w' A'/\Fr w0 g0 w' g':=by
 obtain⟨hs,as,r,Ac',oU,MW,has,⟨G5,_,iD⟩,hK⟩:=h;refine⟨G5,_,_,_,hK,?_⟩;obtain⟨QE,G6⟩:=yE has;have QJ:∀h∈hs,h<s.A.length:=fun h hm=>by
  obtain⟨i,hi⟩:=W8 hm;obtain⟨a,_,h1,_⟩:=MW i h hi;exact(W1.1 h1).1
 have Lx:=hI.lQ;have hlen:hs.length<=Ac'.length:=by
  rcases XM Ac'.length hs.length with h1|h1
  ·obtain⟨_,_,_,_,h2,_⟩:=MW Ac'.length _ (W4 h1);simp at h2
  ·exact h1
 let gc:Gh:={ob:=[],ar:=hs.map fun h=>g.ar.getD h undef,im:=g.im}
 have E9:∀(i h:Nat) v,hs[i]? =some h->g.ar[h]? =some v->gc.ar[i]? =some v:=fun i h v h1 h2=>by simp[gc,h1,h2]
 have pw:∀(i:Nat) v,gc.ar[i]? =some v->∃h,hs[i]? =some h/\g.ar[h]? =some v:=fun i v h1=>by
  simp only[gc,W7,WZ]at h1;obtain⟨h,h2,h3⟩:=h1;have tA:h<g.ar.length:=by rw[Lx];exact QJ h (W6 h2)
  exact⟨h,h2,by rw[<-h3];simp[W9,tA]⟩
 have Ui:∀(i:Nat) a,(hs.map fun h=>s.A.getD h rT)[i]? =some a->∃h,hs[i]? =some h/\s.A[h]? =some a:=fun i a h1=>by
  simp only[W7,WZ]at h1;obtain⟨h,h2,h3⟩:=h1;have tA:=QJ h (W6 h2);exact⟨h,h2,by rw[<-h3];simp[W9,tA]⟩
 have QK:∀(i h:Nat) a,hs[i]? =some h->s.A[h]? =some a->(hs.map fun h=>s.A.getD h rT)[i]? =some a:=fun i h a h1 h2=>by simp[h1,h2]
 have CL:∀b,b∈gc.jB->∃(i h:Nat) (v:Value),hs[i]? =some h/\g.ar[h]? =some v/\v.ownBlock=some b:=fun b hb=>by
  obtain⟨i,v,h1,h2⟩:=Gh.fL hb;obtain⟨h,h3,h4⟩:=pw i v h1;exact⟨i,h,v,h3,h4,h2⟩
 have KK:∀b,b∈gc.jB->g.im b=0:=fun b hb=>by
  obtain⟨i,h,v,h1,h2,h3⟩:=CL b hb;obtain⟨a,_,h4,h5,_⟩:=MW i h h1;have h6:=(hI.arr h a v h4 h2).2.1 b h3;rw[h5]at h6;simpa using h6
 have Ha:Inv gc w [] (hs.map fun h=>s.A.getD h rT):=by
  refine⟨rfl,by simp[gc],fun l row b h1=>by simp at h1,fun k r' v h1 h2=>?_,fun l l' b h1=>by simp[gc]at h1,fun k k' v v' b h1 h2 h3 h4=>?_,fun l k v b h1=>by simp[gc]at h1,hI.fresh⟩
  ·obtain⟨h,h3,h4⟩:=Ui k r' h1;obtain⟨h',h5,h6⟩:=pw k v h2;obtain rfl:h=h':=by rw[h3]at h5;exact Option.some.inj h5
   exact hI.arr h r' v h4 h6
  ·obtain⟨h,h5,h6⟩:=pw k v h1;obtain⟨h',h7,h8⟩:=pw k' v' h2;obtain rfl:=hI.jj h h' v v' b h6 h8 h3 h4;exact(Xj (W1.1 h5).1 oU).1 (h5.trans h7.symm)
 have oD:∀(c d:CV) (u:Value),c.eF hs=some d->br g w s.A c u->br gc w (hs.map fun h=>s.A.getD h rT) d u:=by
  intro c d u h1 h2;cases c with
  |d x=>simp only[CV.eF]at h1;cases h1;exact h2
  |nil=>simp only[CV.eF]at h1;cases h1;simp only[br]at h2;subst h2;simp only[br,bn];exact⟨none,0,rfl,XL _,.inl trivial⟩
  |own k n=>
   simp only[CV.eF,WZ]at h1;obtain⟨i,hi,rfl⟩:=h1;obtain⟨a,cap,e,r',h3,h4,h5⟩:=h2;have MX:=mU hi;exact⟨a,cap,e,r',QK i k r' MX h3,h4,fun h6=>E9 i k u MX (h5 h6)⟩
  |np=>simp only[CV.eF]at h1;cases h1;exact h2
  |ip row off=>simp only[CV.eF]at h1;cases h1;exact h2
  |fn f cap=>
   cases cap with
   |nil=>
    simp only[CV.eF]at h1;cases h1;obtain⟨bks,h3,h4,_⟩:=h2;exact⟨bks,h3,h4,fun i l b h5=>by simp at h5⟩
   |cons _ _=>simp[CV.eF]at h1
  |ptr _ _=>simp[CV.eF]at h1
  |op _ _ _ _=>simp[CV.eF]at h1
  |undef=>simp[CV.eF]at h1
 have Hb:∀(i:Nat) x u,as[i]? =some x->vs[i]? =some u->aW gc w (hs.map fun h=>s.A.getD h rT) x u:=by
  intro i y u h1 h2;have hi:i<xs.length:=by have:=(W1.1 h1).1;omega
  have hx:xs[i]? =some xs[i]:=W4 hi;have b8:=G6 i _ y hx h1;have Jm:=hr i _ u hx h2;generalize xs[i]=x at b8 Jm;cases x with
  |c c=>
   simp only[AV.eF,WZ]at b8;obtain⟨d,hd,rfl⟩:=b8;exact oD c d u hd Jm
  |agg cs=>
   simp only[AV.eF,WZ]at b8;obtain⟨ds,hd,rfl⟩:=b8;obtain⟨us',rfl,Uh,h3⟩:=Jm;obtain⟨h9,cO⟩:=A1 hd;refine⟨us',rfl,by omega,fun j d v h4 h5=>?_⟩;have hj:j<cs.length:=by have:=(W1.1 h4).1;omega
   have hc:cs[j]? =some cs[j]:=W4 hj;exact oD _ d v (cO j _ d hc h4) (h3 j _ v hc h5)
  |a8 ys=>simp[AV.eF]at b8
 refine(iD gc w vs Ha (hF.now.less (fun b hb=>by simp[gc]at hb) (fun b hb=>by obtain⟨i,v,q1,q2⟩:=Gh.fL hb;obtain⟨h,_,q3⟩:=pw i v q1;exact Gh.jX q3 q2)) (by omega) Hb).mono ?_;rintro e w' ⟨v,g',rfl,x8,xL,s3⟩;have Jo:g'.ob=[]:=Xm (by rw[xL.oT];rfl);have SP:=xL.lQ
 let g2:Gh:={ob:=g.ob,ar:=qy g.ar hs g'.ar++g'.ar.drop hs.length,im:=g'.im}
 let A2:=qy s.A hs Ac'++Ac'.drop hs.length
 have Uj:(qy g.ar hs g'.ar).length=s.A.length:=by rw[wg,Lx]
 have QL:(qy s.A hs Ac').length=s.A.length:=wg;have b8:∀(i h:Nat),hs[i]? =some h->g2.ar[h]? =g'.ar[i]? /\A2[h]? =Ac'[i]? :=fun i h h1=>by
  have h2:=QJ h (W6 h1);constructor
  ·simp only[g2];rw[W2 (by omega)];exact zE oU (by omega) h1 (by omega)
  ·simp only[A2];rw[W2 (by omega)];exact zE oU hlen h1 h2
 have jC:∀k,k<s.A.length->k∉hs->g2.ar[k]? =g.ar[k]? /\A2[k]? =s.A[k]? :=fun k h1 h2=>by
  constructor
  ·simp only[g2];rw[W2 (by omega),rV h2]
  ·simp only[A2];rw[W2 (by omega),rV h2]
 have x9:∀k,s.A.length<=k->g2.ar[k]? =g'.ar[hs.length+(k-s.A.length)]? /\A2[k]? =Ac'[hs.length+(k-s.A.length)]? :=fun k h1=>by
  constructor
  ·simp only[g2];rw[W3 (by omega),Uj,XD]
  ·simp only[A2];rw[W3 (by omega),QL,XD]
 have Jc:∀k,g2.ar[back hs s.A.length k]? =g'.ar[k]? /\A2[back hs s.A.length k]? =Ac'[k]? :=fun k=>by
  by_cases hk:k<hs.length
  ·have e:hs[k]? =some hs[k]:=W4 hk;have e2:back hs s.A.length k=hs[k]:=by simp only[back,e]
   rw[e2];exact b8 k _ e
  ·have e:hs[k]? =none:=Xk (by omega);have e2:back hs s.A.length k=s.A.length+(k-hs.length):=by simp only[back,e]
   rw[e2];have:=x9 (s.A.length+(k-hs.length)) (by omega);rwa[show hs.length+(s.A.length+(k-hs.length)-s.A.length)=k by omega]at this
 have A3:∀k,(∃i:Nat,g2.ar[k]? =g'.ar[i]? /\A2[k]? =Ac'[i]? /\((hs[i]? =some k)\/(hs.length<=i/\k=s.A.length+(i-hs.length))))\/(k<s.A.length/\k∉hs/\g2.ar[k]? =g.ar[k]? /\A2[k]? =s.A[k]?):=fun k=>by
  by_cases h1:k<s.A.length
  ·by_cases h2:k∈hs
   ·obtain⟨i,hi⟩:=W8 h2;exact .inl ⟨i,(b8 i k hi).1,(b8 i k hi).2,.inl hi⟩
   ·exact .inr ⟨h1,h2,jC k h1 h2⟩
  ·exact .inl ⟨hs.length+(k-s.A.length),(x9 k (by omega)).1,(x9 k (by omega)).2,.inr ⟨by omega,by omega⟩⟩
 have NA:∀(k k' i:Nat),((hs[i]? =some k)\/(hs.length<=i/\k=s.A.length+(i-hs.length)))->((hs[i]? =some k')\/(hs.length<=i/\k'=s.A.length+(i-hs.length)))->k=k':=fun k k' i h1 h2=>by
  rcases h1 with h1|⟨h1,h3⟩<;>rcases h2 with h2|⟨h2,h4⟩
  ·rw[h1]at h2;exact Option.some.inj h2
  ·have:=(W1.1 h1).1;omega
  ·have:=(W1.1 h2).1;omega
  ·omega
 have QM:∀b,b∉gc.ob:=fun b h=>by simp[gc]at h
 have yb:∀b,b<w.heap.size->b∉gc.jB->w'.heap[b]? =w.heap[b]? :=fun b h1 h2=>s3.qE b h1 (QM b) h2
 have qV:∀b,b<w.heap.size->b∉gc.jB->g'.im b=g.im b:=fun b h1 h2=>s3.js b h1 h2
 have G8:∀(l b:Nat),g.ob[l]? =some b->b<w.heap.size/\b∉gc.jB:=fun l b h1=>⟨hI.qU h1,fun h2=>by
  obtain⟨i,h,v',h3,h4,h5⟩:=CL b h2;exact hI.jr l h v' b h1 h4 h5⟩
 have Jp:∀(k b:Nat) (v:Value),k∉hs->g.ar[k]? =some v->v.ownBlock=some b->b<w.heap.size/\b∉gc.jB:=fun k b v h0 h1 mu=>⟨hI.mO h1 mu,fun h2=>by
  obtain⟨i,h,v',h3,h4,h5⟩:=CL b h2;obtain rfl:=hI.jj k h v v' b h1 h4 mu h5;exact h0 (W6 h3)⟩
 have D9:∀(i b:Nat) (v:Value),g'.ar[i]? =some v->v.ownBlock=some b->w.heap.size<=b\/b∈gc.jB:=fun i b v h1 h2=>s3.ar i v b h1 h2
 have xW:j7 g.im w g'.im w':=by
  refine⟨fun b=>?_,fun b o ho=>?_⟩
  ·rcases XM b w.heap.size with hb|hb
   ·by_cases h1:b∈gc.jB
    ·rw[KK b h1];exact XN _
    ·rw[qV b hb h1];exact XL _
   ·rw[hI.fresh b hb];exact XN _
  ·have hb:=hI.E0 ho;refine World.cell?_of_block (a:=⟨b,o,none⟩) (yb b hb (fun h1=>?_));have:=KK b h1;omega
 have j8:Ext g w s.A g2 w' A2:=by
  refine⟨fun l b hb=>hb,xW,fun k r' hk=>?_⟩;have Ct:=(W1.1 hk).1;by_cases h2:k∈hs
  ·obtain⟨i,hi⟩:=W8 h2;obtain⟨a,a',h3,h4,h5,h6⟩:=MW i k hi;obtain rfl:r'=a:=by rw[hk]at h3;exact Option.some.inj h3
   have hv:g.ar[k]? =some (g.ar[k]'(by omega)):=W4 (by omega);obtain⟨v',h7,h8,h9⟩:=s3.vO i _ (E9 i k _ hi hv);obtain⟨_,_,xs1,qa,_⟩:=hI.arr k r' _ hk hv;obtain⟨_,_,xs2,mJ,_⟩:=xL.arr i a' v' h5 h7;rw[rM qa,rM mJ]at h8 h9;refine⟨a',(b8 i k hi).2.trans h5,h6,h8,fun cO=>?_⟩;rw[(b8 i k hi).1,h7,h9 cO,hv]
  ·obtain⟨h3,h4⟩:=jC k Ct h2;exact⟨r',h4.trans hk,rfl,XL _,fun _=>h3⟩
 have pr:∀c u,br g' w' Ac' c u->br g2 w' A2 (c.dN hs s.A.length) u:=fun c u h1=>by
  cases c with
  |d x=>exact h1
  |nil=>exact h1
  |own k n=>
   obtain⟨a,cap,e,r',h3,h4,h5⟩:=h1;exact⟨a,cap,e,r',(Jc k).2.trans h3,h4,fun h6=>(Jc k).1.trans (h5 h6)⟩
  |ptr l off=>obtain⟨b,h3,_⟩:=h1;rw[Jo]at h3;simp at h3
  |np=>exact h1
  |ip row off=>exact h1
  |op k n i off=>
   obtain⟨b,e,h2,r',h3,h4,h5⟩:=h1;exact⟨b,e,h2,r',(Jc k).2.trans h3,h4,fun h6=>by obtain⟨cap,h7,h8⟩:=h5 h6;exact⟨cap,(Jc k).1.trans h7,h8⟩⟩
  |fn f cap=>
   obtain⟨bks,h3,h4,h5⟩:=h1;refine⟨bks,h3,h4,fun i l b h6 h7=>?_⟩;have:=h5 i l b h6 h7;rw[Jo]at this;simp at this
  |undef=>exact h1
 refine⟨v,g2,rfl,?_,?_,j8,?_⟩
 ·-- the result
  cases r with
  |c c=>exact pr c v x8
  |agg cs=>
   obtain⟨us',rfl,h1,h2⟩:=x8;refine⟨us',rfl,by simpa using h1,fun j c u h3 h4=>?_⟩;simp only[W7,WZ]at h3;obtain⟨c',h5,rfl⟩:=h3;exact pr c' u (h2 j c' u h5 h4)
  |a8 ys=>
   obtain⟨us',rfl,h1,h2⟩:=x8;refine⟨us',rfl,by simpa using h1,fun j y u h3 h4=>?_⟩;simp only[W7,WZ]at h3;obtain⟨y',h5,rfl⟩:=h3;have h6:=h2 j y' u h5 h4;cases y' with
   |c c=>exact pr c u h6
   |agg cs=>
    obtain⟨us'',rfl,h7,h8⟩:=h6;refine⟨us'',rfl,by simpa using h7,fun j c u h9 cO=>?_⟩;simp only[W7,WZ]at h9;obtain⟨c',eE,rfl⟩:=h9;exact pr c' u (h8 j c' u eE cO)
   |a8 zs=>exact h6.elim
 ·-- the memory
  refine⟨hI.oT,?_,fun l row b h1 h2=>?_,fun k r' v' h1 h2=>?_,hI.kH,fun k k' v1 v2 b h1 h2 h3 h4=>?_,fun l k v' b h1 h2 h3=>?_,fun b hb=>xL.fresh b hb⟩
  ·show(qy g.ar hs g'.ar++g'.ar.drop hs.length).length=(qy s.A hs Ac'++Ac'.drop hs.length).length;simp only[Xf,List.length_drop];omega
  ·obtain⟨h3,h4⟩:=G8 l b h2;exact hI.fx j8 h1 h2 (yb b h3 h4) ((qV b h3 h4).trans (hI.obj l row b h1 h2).1)
  ·rcases A3 k with⟨i,h3,h4,_⟩|⟨h3,h4,h5,h6⟩
   ·exact xL.arr i r' v' (h4.symm.trans h1) (h3.symm.trans h2)
   ·refine hI.fy j8 (h6.symm.trans h1) (h5.symm.trans h2) (fun b hb=>?_) (fun b hb=>?_)
    ·obtain⟨h7,h8⟩:=Jp k b v' h4 (h5.symm.trans h2) hb;exact yb b h7 h8
    ·obtain⟨h7,h8⟩:=Jp k b v' h4 (h5.symm.trans h2) hb;exact qV b h7 h8
  ·rcases A3 k with⟨i,h5,_,h6⟩|⟨h5,h6,h7,_⟩<;>rcases A3 k' with⟨i',h8,_,h9⟩|⟨h8,h9,cO,_⟩
   ·obtain rfl:=xL.jj i i' v1 v2 b (h5.symm.trans h1) (h8.symm.trans h2) h3 h4;exact NA k k' i h6 h9
   ·obtain⟨eE,fS⟩:=Jp k' b v2 h9 (cO.symm.trans h2) h4;rcases D9 i b v1 (h5.symm.trans h1) h3 with dG|dG
    ·omega
    ·exact absurd dG fS
   ·obtain⟨eE,fS⟩:=Jp k b v1 h6 (h7.symm.trans h1) h3;rcases D9 i' b v2 (h8.symm.trans h2) h4 with dG|dG
    ·omega
    ·exact absurd dG fS
   ·exact hI.jj k k' v1 v2 b (h7.symm.trans h1) (cO.symm.trans h2) h3 h4
  ·obtain⟨h4,h5⟩:=G8 l b h1;rcases A3 k with⟨i,h6,_,_⟩|⟨_,_,h6,_⟩
   ·rcases D9 i b v' (h6.symm.trans h2) h3 with h7|h7
    ·omega
    ·exact h5 h7
   ·exact hI.jr l k v' b h1 (h6.symm.trans h2) h3
 ·-- what is left alone
  have gF:∀b,b<w0.heap.size->b∉g0.jB->b∉gc.jB:=fun b h1 h2 h3=>by
   obtain⟨i,h,v',h4,h5,h6⟩:=CL b h3;rcases hF.ar h v' b h5 h6 with h7|h7
   ·omega
   ·exact h2 h7
  refine⟨s3.os.trans hF.os,s3.tape.trans hF.tape,s3.output.trans hF.output,XO hF.size s3.size,fun b h1 h2 Lw=>?_,fun b h1 mu=>?_,hF.ob,fun k v' b h1 h2=>?_,fun k v' h1=>?_,hF.xV⟩
  ·rw[yb b (XS h1 hF.size) (gF b h1 Lw)];exact hF.qE b h1 h2 Lw
  ·show g'.im b=g0.im b;rw[qV b (XS h1 hF.size) (gF b h1 mu)];exact hF.js b h1 mu
  ·rcases A3 k with⟨i,h3,_,_⟩|⟨_,_,h3,_⟩
   ·rcases D9 i b v' (h3.symm.trans h1) h2 with h4|h4
    ·exact .inl (XO hF.size h4)
    ·obtain⟨i',h,v2,h5,h6,h7⟩:=CL b h4;exact hF.ar h v2 b h6 h7
   ·exact hF.ar k v' b (h3.symm.trans h1) h2
  ·obtain⟨v1,h2,h3,h4⟩:=hF.vO k v' h1;have Ct:k<s.A.length:=by rw[<-Lx];exact(W1.1 h2).1
   by_cases h5:k∈hs
   ·obtain⟨i,hi⟩:=W8 h5;obtain⟨v2,h6,h7,h8⟩:=s3.vO i v1 (E9 i k v1 hi h2);refine⟨v2,(b8 i k hi).1.trans h6,by omega,fun h9=>?_⟩;rw[h8 (by omega)];exact h4 (by omega)
   ·exact⟨v1,(jC k Ct h5).1.trans h2,h3,h4⟩
theorem zF (hI:Inv g w s.V s.A) (hF:Fr w0 g0 w g) {f:FuncId} {xs:List AV} {vs:Array Value} (hl:vs.size=xs.length) (hr:∀(i:Nat) x u,xs[i]? =some x->vs[i]? =some u->aW g w s.A x u) (h:gE P s f xs K):
  (∀args w,(callFunc f args).run P w=.ok (.enter f args) w)/\∃x V' A',K x V' A'/\Calls P f vs w fun e w'=>∃v g',e=.returned v/\aW g' w' A' x v/\Inv g' w' V' A'/\Ext g w s.A g' w' A'/\Fr w0 g0 w' g':=
 h.elim (x6 hI hF hl hr) (ya hI hF hl hr)
end
def bJ (P:Program) (s:St) (ow:Bool) (o:Oper) (K:AV->List (List CV)->List bz->Prop):Prop:=
 match o.op with
 |.call {callee:=.value f,args,.. }=>bU (bH s f) fun fv=>match fv with
  |.c (.fn fid cap)=>bU (iB s args.toList) fun xs=>gE P s fid (xs++cap.map fun l=>.c (.ptr l 0)) K
  |_=>False
 |op=>eO P s ow op K
def St.put (s:St) (dst:Option Tmp) (x:AV) (V:List (List CV)) (A:List bz):St:=
 ⟨match dst with|some d=>(d,x)::s.fr|none=>s.fr,V,A⟩
def iA (all:Array Oper) (s:St) (o:Oper) (yes no:Prop):Prop:=
 match o.guard with
 |none=>yes
 |some (j,want)=>bU (all[j]?) fun oj=>bU oj.dst fun t=>bU (look s.fr t) fun x=>match x with
  |.c (.d (.bool b))=>(b=want->yes)/\(b=(!want)->no)
  |.c .undef=>no
  |_=>False
def wh (P:Program) (all:Array Oper) (ow:Nat->Bool) (K:St->Prop):Nat->List Oper->St->Prop
 |_,[],s=>K s
 |i,o::rest,s=>iA all s o (bJ P s (ow i) o fun x V A=>wh P all ow K (i+1) rest (s.put o.dst x V A)) (wh P all ow K (i+1) rest (s.put o.dst (.c .undef) s.V s.A))
def da (n:Nat) (ops:List Oper):Bool:=ops.all fun o=>match o.dst with
 |some d=>decide (d<n)
 |none=>true
def codeOk (n:Nat):Code->Bool
 |.region _ ops _=>da n ops.toList
 |.seq a b=>codeOk n a && codeOk n b
 |.cond _ a b=>codeOk n a && codeOk n b
 |.block _ c=>codeOk n c
 |.loop c=>codeOk n c
 |.scope c=>codeOk n c
 |_=>true
def T (P:Program) (n:Nat) (c:Code) (Q:Exit->St->Prop) (s:St):Prop:=
 codeOk n c=true->∀w0 g0 g a w,Rp n w0 g0 s g a w->c.wp P (fun e a' w'=>∃s' g',Q e s'/\Rp n w0 g0 s' g' a' w') a w
section
variable {P:Program} {n:Nat} {Q Q':Exit->St->Prop} {s s':St} {w0:World} {g0 g g':Gh} {a:Act} {w w':World}
theorem dj (hI:Inv g w s.V s.A) (hF:Fr w0 g0 w g) (hS:iC g w s a) {ow:Bool} {o:Oper} {K:AV->List (List CV)->List bz->Prop} (h:bJ P s ow o K):
  ∃x V' A',K x V' A'/\∀(next:Act->World->Prop) (Q:Exit->Act->World->Prop),(∀v w' g',aW g' w' A' x v->Inv g' w' V' A'->Ext g w s.A g' w' A'->Fr w0 g0 w' g'->next (a.put o.dst v) w')->o.wp P a w next Q:=by
 have plain:eO P s ow o.op K->∃x V' A',K x V' A'/\∀(next:Act->World->Prop) (Q:Exit->Act->World->Prop),(∀v w' g',aW g' w' A' x v->Inv g' w' V' A'->Ext g w s.A g' w' A'->Fr w0 g0 w' g'->next (a.put o.dst v) w')->o.wp P a w next Q:=by
  intro h;obtain⟨x,V',A',nx,v,w',g',h1,h2,h3,h4,h5,h6,h7⟩:=E6 hI hF hS h;refine⟨x,V',A',h1,fun next Q hn=>?_⟩;unfold Oper.wp;rw[h2];rcases h3 with rfl|⟨rfl,rfl⟩
  ·exact hn v w' g' h4 h5 h6 h7
  ·exact hn _ w' g' h4 h5 h6 h7
 unfold bJ at h;split at h
 ·rename_i f args argTypes heq;refine aj h fun fv h1 h2=>?_
  have QN:=aL hS h1;split at h2
  ·rename_i fid cap;refine aj h2 fun xs h3 h4=>?_
   obtain⟨h5,h6⟩:=l4 hS h3;have Uk:xs.length=args.size:=by rw[h5,X1]
   obtain⟨bks,h7,h8,h9⟩:br g w s.A (.fn fid cap) (a.eval f):=QN;have pq:args.map a.eval++(bks.map fun b=>Value.pointer (some ⟨b,0,none⟩)).toArray=((args.toList.map a.eval)++bks.map fun b=>Value.pointer (some ⟨b,0,none⟩)).toArray:=by
    apply Array.ext';simp
   obtain⟨G5,x,V',A',hK,hc⟩:=zF (vs:=((args.toList.map a.eval)++bks.map fun b=>Value.pointer (some ⟨b,0,none⟩)).toArray) hI hF (by simp[h5,h8]) (fun i x u cO eE=>by
    simp only[List.getElem?_toArray]at eE;by_cases hi:i<xs.length
    ·rw[W2 hi]at cO;rw[W2 (by simp;omega)]at eE;exact h6 i x u cO eE
    ·rw[W3 (by omega)]at cO;rw[W3 (by simp;omega)]at eE;simp only[W7,WZ]at cO eE;obtain⟨l,fS,rfl⟩:=cO;obtain⟨b,dG,rfl⟩:=eE;exact⟨b,h9 _ l b fS (by rw[<-dG];congr 1;simp[h5]),rfl⟩) h4
   refine⟨x,V',A',hK,fun next Q hn=>?_⟩;have fC:(execOp a.eval o).run P w=.ok (.enter fid ((args.toList.map a.eval)++bks.map fun b=>Value.pointer (some ⟨b,0,none⟩)).toArray) w:=by
    simp only[execOp,heq,resolve,h7,Deferred.ofValue,Sem.run_bind,Sem.run_pure,Result.andThen_ok,invoke,X5];rw[G5,pq]
   unfold Oper.wp;rw[fC];show Calls P fid _ w _;refine hc.mono ?_;rintro e w' ⟨v,g',rfl,gA,qH,rH,AX⟩;exact hn v w' g' gA qH rH AX
  ·exact h2.elim
 ·exact plain h
theorem Rp.put (h:Rp n w0 g0 s g a w) {dst:Option Tmp} (hd:∀d,dst=some d->d<n) {x:AV} {v:Value} {V':List (List CV)} {A':List bz} (hr:aW g' w' A' x v) (hI:Inv g' w' V' A') (hx:Ext g w s.A g' w' A') (hF:Fr w0 g0 w' g'):
  Rp n w0 g0 (s.put dst x V' A') g' (a.put dst v) w':=by
 refine⟨hI,hF,?_,?_,fun t y hy=>?_⟩
 ·cases dst<;>simp[Act.put,h.size]
 ·cases dst<;>simp[Act.put,h.defers]
 ·cases dst with
  |none=>
   obtain⟨u,h1,h2⟩:=h.slot t y hy;exact⟨u,h1,aW.ext hx h2⟩
  |some d=>
   have zG:=hd d rfl;simp only[St.put,look]at hy;by_cases e:t=d
   ·subst e;simp at hy;subst hy;refine⟨v,?_,hr⟩;have:t<a.tmps.size:=by rw[h.size];exact zG
    simp[Act.put,this]
   ·rw[if_neg e]at hy;obtain⟨u,h1,h2⟩:=h.slot t y hy;refine⟨u,?_,aW.ext hx h2⟩;simp only[Act.put];rw[X0 (fun e'=>e e'.symm)];exact h1
theorem jI (h:Rp n w0 g0 s g a w) {all:Array Oper} {j t:Nat} {oj:Oper} {x:AV} (h1:all[j]? =some oj) (h2:oj.dst=some t) (h3:look s.fr t=some x):(∀b,x=.c (.d (.bool b))->yielded all a.tmps j=some b)/\(x=.c .undef->yielded all a.tmps j=none):=by
 obtain⟨u,h4,h5⟩:=h.slot t x h3;refine⟨fun b hb=>?_,fun hb=>?_⟩
 ·subst hb;simp only[aW,dL,br,bn]at h5;subst h5;simp[yielded,h1,h2,h4]
 ·subst hb;simp only[aW,dL,br]at h5;subst h5;simp[yielded,h1,h2,h4,undef]
theorem qc (h:Rp n w0 g0 s g a w) {all:Array Oper} {o:Oper} {yes no:Prop} (hg:iA all s o yes no):(Region.wanted o (yielded all a.tmps)=true/\yes)\/(Region.wanted o (yielded all a.tmps)=false/\no):=by
 unfold iA at hg;split at hg
 ·rename_i uA;exact .inl ⟨by simp[Region.wanted,uA],hg⟩
 ·rename_i j want uA;refine aj hg fun oj h1 h2=>aj h2 fun t h3 h4=>aj h4 fun x h5 h6=>?_
  obtain⟨h7,h8⟩:=jI h h1 h3 h5;split at h6
  ·rename_i b;have h9:=h7 b rfl;by_cases e:b=want
   ·exact .inl ⟨by simp[Region.wanted,uA,h9,e],h6.1 e⟩
   ·exact .inr ⟨by simp[Region.wanted,uA,h9,e],h6.2 (by cases b<;>cases want<;>simp_all)⟩
  ·exact .inr ⟨by simp[Region.wanted,uA,h8 rfl],h6⟩
  ·exact h6.elim
theorem q7 {all:Array Oper} {ow:Nat->Bool} {K:St->Prop} {Q:Exit->Act->World->Prop}:∀(ops:List Oper) (i:Nat) (s:St) (g:Gh) (a:Act) (w:World),da n ops=true->Rp n w0 g0 s g a w->wh P all ow K i ops s->
  (∀s' g' a' w',K s'->Rp n w0 g0 s' g' a' w'->Q .normal a' w')->wpList P all Q ops a w
 |[],i,s,g,a,w,_,hR,h,hQ=>hQ s g a w h hR
 |o::rest,i,s,g,a,w,hd,hR,h,hQ=>by
  simp only[da,XG,XH]at hd;have fc:∀d,o.dst=some d->d<n:=fun d e=>by have:=hd.1;rw[e]at this;simpa using this
  simp only[wh]at h;unfold wpList;rcases qc hR h with⟨h1,h2⟩|⟨h1,h2⟩
  ·rw[if_pos h1];obtain⟨x,V',A',h3,h4⟩:=dj hR.inv hR.fr hR.slot h2;exact .inl (h4 _ _ fun v w' g' h5 h6 h7 h8=>q7 rest (i+1) _ g' _ w' hd.2 (hR.put fc h5 h6 h7 h8) h3 hQ)
  ·rw[if_neg (by rw[h1];simp)];exact q7 rest (i+1) _ g _ w hd.2 (hR.put fc (x:=.c .undef) (v:=undef) rfl hR.inv (.refl _ _ _) hR.fr) h2 hQ
theorem T.region {id:Nat} {ops:Array Oper} (ow:Nat->Bool) (h:wh P ops ow (fun s'=>Q .normal s') 0 ops.toList s):T P n (.region id ops false) Q s:=by
 intro eP w0 g0 g a w hR;exact wp_region_list (q7 ops.toList 0 s g a w eP hR h fun s' g' a' w' h1 h2=>⟨s',g',h1,h2⟩)
theorem T.mono {c:Code} (h:T P n c Q s) (hq:∀e s',Q e s'->Q' e s'):T P n c Q' s:=
 fun eP w0 g0 g a w hR=>Go.wp_mono (h eP w0 g0 g a w hR) fun _ _ _ ⟨s',g',h1,h2⟩=>⟨s',g',hq _ _ h1,h2⟩
def wi (P:Program) (n:Nat) (c:Code) (Q:Exit->St->Prop):Exit->St->Prop
 |.normal,s=>T P n c Q s
 |e,s=>Q e s
theorem T.seq {x y:Code} (h:T P n x (wi P n y Q) s):T P n (.seq x y) Q s:=by
 intro eP w0 g0 g a w hR;simp only[codeOk,XH]at eP;refine wp_seq (Go.wp_mono (h eP.1 w0 g0 g a w hR) ?_);rintro e a' w' ⟨s',g',h1,h2⟩;cases e with
 |normal=>exact h1 eP.2 w0 g0 g' a' w' h2
 |_=>exact⟨s',g',h1,h2⟩
theorem T.skip (h:Q .normal s):T P n .skip Q s:=fun _ _ _ g _ _ hR=>wp_skip ⟨s,g,h,hR⟩
theorem T.exit {id:Nat} (h:Q (.exit id) s):T P n (.exit id) Q s:=fun _ _ _ g _ _ hR=>wp_exit ⟨s,g,h,hR⟩
theorem T.ret (h:Q .ret s):T P n .ret Q s:=fun _ _ _ g _ _ hR=>wp_ret ⟨s,g,h,hR⟩
theorem T.cond {c:Operand} {x y:Code} {b:Bool} (hc:bH s c=some (.c (.d (.bool b)))) (ht:b=true->T P n x Q s) (hf:b=false->T P n y Q s):T P n (.cond c x y) Q s:=by
 intro eP w0 g0 g a w hR;simp only[codeOk,XH]at eP;have hv:=aL hR.slot hc;simp only[aW,dL,br,bn]at hv;exact wp_cond_split hv (fun e=>ht e eP.1 w0 g0 g a w hR) (fun e=>hf e eP.2 w0 g0 g a w hR)
def gW (id:Nat) (Q:Exit->St->Prop):Exit->St->Prop
 |.exit id',s=>if id'=id then Q .normal s else Q (.exit id') s
 |e,s=>Q e s
theorem T.block {id:Nat} {c:Code} (h:T P n c (gW id Q) s):T P n (.block id c) Q s:=by
 intro eP w0 g0 g a w hR;refine wp_block (Go.wp_mono (h eP w0 g0 g a w hR) ?_);rintro e a' w' ⟨s',g',h1,h2⟩;cases e with
 |exit id'=>
  simp only[gW]at h1;simp only[Exit.inBlock];split
  ·rename_i e;rw[if_pos e]at h1;exact⟨s',g',h1,h2⟩
  ·rename_i e;rw[if_neg e]at h1;exact⟨s',g',h1,h2⟩
 |_=>exact⟨s',g',h1,h2⟩
def Iter (P:Program) (n:Nat) (c:Code) (Q:Exit->St->Prop):Nat->St->Prop
 |0,_=>False
 |k+1,s=>T P n c (fun e s'=>match e with|.normal=>Iter P n c Q k s'|e=>Q e s') s
theorem Iter.succ {c:Code}:∀{k:Nat} {s:St},Iter P n c Q k s->Iter P n c Q (k+1) s
 |0,_,h=>h.elim
 |k+1,s,h=>T.mono h fun e s' h1=>by cases e<;>first|exact Iter.succ h1|exact h1
theorem Iter.le {c:Code} {k k':Nat} (hk:k<=k') {s:St} (h:Iter P n c Q k s):Iter P n c Q k' s:=by
 induction hk with
 |refl=>exact h
 |step _ ih=>exact ih.succ
theorem T.mV {c:Code} {k:Nat} (h:Iter P n c Q k s):T P n (.loop c) Q s:=by
 intro eP w0 g0 g a w hR;refine wp_loop_rounds k ?_;have key:∀k s g a w,Iter P n c Q k s->Rp n w0 g0 s g a w->Code.rounds P c (fun e a' w'=>∃s' g',Q e s'/\Rp n w0 g0 s' g' a' w') k a w:=by
  intro k;induction k with
  |zero=>intro s g a w h _;exact h.elim
  |succ k ih=>
   intro s g a w h hR;rw[rounds_succ];refine Go.wp_mono (h eP w0 g0 g a w hR) ?_;rintro e a' w' ⟨s',g',h1,h2⟩;cases e with
   |normal=>exact ih s' g' a' w' h1 h2
   |_=>exact⟨s',g',h1,h2⟩
 exact key k s g a w h hR
theorem T.loop {c:Code} (I:Nat->St->Prop) (h:∀k s,I k s->T P n c (fun e s'=>match e with|.normal=>∃k',k'<k/\I k' s'|e=>Q e s') s) {k:Nat} (h0:I k s):T P n (.loop c) Q s:=by
 have key:∀k s,I k s->Iter P n c Q (k+1) s:=by
  intro k;induction k using XQ with
  |_ k ih=>
   intro s hs;refine T.mono (h k s hs) fun e s' h1=>?_
   cases e with
   |normal=>obtain⟨k',hk,h2⟩:=h1;exact(ih k' hk s' h2).le hk
   |_=>exact h1
 exact T.mV (key k s h0)
theorem T.forget {c:Code} (cU:List (Nat×AV)) (gF:∀t x,look cU t=some x->look s.fr t=some x) (h:T P n c Q ⟨cU,s.V,s.A⟩):T P n c Q s:=
 fun eP w0 g0 g a w hR=>h eP w0 g0 g a w ⟨hR.inv,hR.fr,hR.size,hR.defers,fun t x hx=>hR.slot t x (gF t x hx)⟩
theorem T.px {c:Code} (t:Nat) (sz:Nat) (e:TypeId) (ht:look s.fr t=some (.c .nil)) (h:T P n c Q ⟨(t,.c (.own s.A.length 0))::s.fr,s.V,s.A++[⟨sz,e,[],true⟩]⟩):T P n c Q s:=by
 intro eP w0 g0 g a w hR;obtain⟨g1,KH,qa,tj,fj,dB,kF⟩:=hR.inv.qW hR.fr {sz:=sz,ev:=e,rows:=[],wr:=true} (.slice none 0 0) [] (by simp) (World.ownsRow_nil w 0 e sz) (fun j x u h=>by simp at h) (fun b h=>by simp[Value.ownBlock]at h);refine h eP w0 g0 g1 a w ⟨fj,kF,hR.size,hR.defers,fun t' x hx=>?_⟩;simp only[look]at hx;by_cases e':t'=t
 ·subst e';simp at hx;subst hx;obtain⟨u,h1,h2⟩:=hR.slot t' _ ht;refine⟨u,h1,?_⟩;simp only[aW,dL,br]at h2;subst h2;exact⟨none,0,rfl,_,by simp;rfl,XN _,fun _=>by rw[tj,W3 (by rw[hR.inv.lQ];exact XL _),hR.inv.lQ];simp⟩
 ·rw[if_neg e']at hx;obtain⟨u,h1,h2⟩:=hR.slot t' x hx;exact⟨u,h1,aW.ext dB h2⟩
theorem T.dq {c:Code} (l j:Nat) (sz:Nat) (e:TypeId) {row:List CV} (hl:s.V[l]? =some row) (hj:row[j]? =some .nil) (h:T P n c Q ⟨s.fr,s.V.set l (row.set j (.own s.A.length 0)),s.A++[⟨sz,e,[],true⟩]⟩):T P n c Q s:=by
 intro eP w0 g0 g a w hR;obtain⟨g1,KH,qa,tj,fj,dB,kF⟩:=hR.inv.qW hR.fr {sz:=sz,ev:=e,rows:=[],wr:=true} (.slice none 0 0) [] (by simp) (World.ownsRow_nil w 0 e sz) (fun j x u h=>by simp at h) (fun b h=>by simp[Value.ownBlock]at h);refine h eP w0 g0 g1 a w ⟨?_,kF,hR.size,hR.defers,fun t' x hx=>?_⟩
 ·refine⟨by simpa using fj.oT,fj.lQ,fun l' row' b h1 h2=>?_,fj.arr,fj.kH,fj.jj,fj.jr,fj.fresh⟩;have mu:(s.V.set l (row.set j (.own s.A.length 0)))[l']? =some row':=h1;rw[dw hl]at mu;by_cases e':l'=l
  ·subst e';simp at mu;subst mu;obtain⟨h3,cs,ty,h4,h5,h6⟩:=fj.obj l' row b hl h2;refine⟨h3,cs,ty,h4,by simpa using h5,fun i c u h7 h8=>?_⟩;rw[dw hj]at h7;by_cases e'':i=j
   ·subst e'';simp at h7;subst h7;have h9:=h6 i _ u hj h8;simp only[br]at h9;subst h9;exact⟨none,0,rfl,_,by simp;rfl,XN _,fun _=>by rw[tj,W3 (by rw[hR.inv.lQ];exact XL _),hR.inv.lQ];simp⟩
   ·rw[if_neg e'']at h7;exact h6 i c u h7 h8
  ·rw[if_neg e']at mu;exact fj.obj l' row' b mu h2
 ·obtain⟨u,h1,h2⟩:=hR.slot t' x hx;exact⟨u,h1,aW.ext dB h2⟩
end
def uB (P:Program) (s:St):ResultVar->Option AV
 |.tmp t=>look s.fr t
 |.cell t ty=>match td P ty,look s.fr t with
  |some d,some (.c p)=>match gV s p d.sz with
   |some cs=>E3 d.ag cs
   |none=>none
  |_,_=>none
def ft (P:Program) (s:St):List ResultVar->Option (List AV)
 |[]=>some []
 |r::rs=>match uB P s r,ft P s rs with
  |some x,some xs=>some (x::xs)
  |_,_=>none
def one (xs:List AV):AV:=match xs with
 |[x]=>x
 |xs=>.a8 xs
def CV.res (A:List bz) (os ks:List Nat):CV->Option CV
 |.own k n=>match pos? ks k with
  |some i=>(nI A (.own k n)).map fun _=>.own i n
  |none=>(nI A (.own k n)).map CV.d
 |c=>c.kT A os
def rW (A:List bz) (os ks:List Nat):List CV->Option (List CV)
 |[]=>some []
 |c::r=>match c.res A os ks,rW A os ks r with
  |some d,some ds=>some (d::ds)
  |_,_=>none
def AV.qz (A:List bz) (os ks:List Nat):AV->Option AV
 |.c x=>(x.res A os ks).map AV.c
 |.agg xs=>(rW A os ks xs).map AV.agg
 |.a8 _=>none
def aA (A:List bz) (os ks:List Nat):List AV->Option (List AV)
 |[]=>some []
 |c::r=>match c.qz A os ks,aA A os ks r with
  |some d,some ds=>some (d::ds)
  |_,_=>none
def fD (A:List bz) (V:List (List CV)) (os ks:List Nat):List Nat->Option (List (List CV))
 |[]=>some []
 |l::r=>match V[l]?,fD A V os ks r with
  |some row,some rs=>match rW A os ks row with
   |some row'=>some (row'::rs)
   |none=>none
  |_,_=>none
def dW (A:List bz):List Nat->Option (List bz)
 |[]=>some []
 |k::r=>match A[k]?,dW A r with
  |some x,some xs=>some (x::xs)
  |_,_=>none
def aB (P:Program) (fn:Func) (m:Nat) (r:AV) (V':List (List CV)) (A':List bz) (e:Exit) (s:St):Prop:=
 (e=.normal\/e=.ret)/\∃(ext ks:List Nat) (xs ys:List AV),ft P s fn.results.toList=some xs/\ks.Nodup/\ext.Nodup/\(∀l∈ext,m<=l)/\aA s.A (W5 m++ext) ks xs=some ys/\r=one ys/\
  fD s.A s.V (W5 m++ext) ks (W5 m++ext)=some V'/\dW s.A ks=some A'
def py (A:List bz) (L:List Nat):List bz:=L.foldl (fun A k=>match A[k]? with|some r=>A.set k {r with wr:=false}|none=>A) A
section
variable {P:Program} {n:Nat} {Q Q':Exit->St->Prop} {s s':St} {w0:World} {g0 g g':Gh} {a:Act} {w w':World} {V:List (List CV)} {A A':List bz}
theorem tB:∀(L:List Nat) (g:Gh) (A:List bz),Inv g w V A->Fr w0 g0 w g->
  ∃g',Inv g' w V (py A L)/\Ext g w A g' w (py A L)/\Fr w0 g0 w g'/\g'.ar=g.ar/\g'.ob=g.ob/\(∀k,k∉L->(py A L)[k]? =A[k]?)/\∀k∈L,∀r v,A[k]? =some r->g.ar[k]? =some v->bn g'.im w (.sl r.rows) v
 |[],g,A,hI,hF=>⟨g,hI,.refl _ _ _,hF,rfl,rfl,fun _ _=>rfl,fun k h=>by simp at h⟩
 |k0::L,g,A,hI,hF=>by
  cases hk:A[k0]? with
  |none=>
   obtain⟨g',h1,h2,h3,h4,h5,h6,h7⟩:=tB L g A hI hF;have he:py A (k0::L)=py A L:=by simp only[py,Xl,hk]
   rw[he];exact⟨g',h1,h2,h3,h4,h5,fun k h=>h6 k (fun h'=>h (by simp[h'])),fun k h r v h8 h9=>by
    simp only[Xa]at h;rcases h with rfl|h
    ·rw[hk]at h8;cases h8
    ·exact h7 k h r v h8 h9⟩
  |some r0=>
   have Ct:k0<g.ar.length:=by rw[hI.lQ];exact(W1.1 hk).1
   have CD:g.ar[k0]? =some g.ar[k0]:=W4 Ct;obtain⟨g1,i1,i2,i3,i4,i5,i6⟩:=hI.seal hF hk CD;obtain⟨g',h1,h2,h3,h4,h5,h6,h7⟩:=tB L g1 _ i1 i3;have he:py A (k0::L)=py (A.set k0 {r0 with wr:=false}) L:=by simp only[py,Xl,hk]
   rw[he];refine⟨g',h1,i2.trans h2,h3,h4.trans i4,h5.trans i5,fun k h=>?_,fun k h r v h8 h9=>?_⟩
   ·simp only[Xa,not_or]at h;rw[h6 k h.2,dw hk,if_neg h.1]
   ·by_cases e:k=k0
    ·subst e;rw[hk]at h8;cases h8;rw[CD]at h9;cases h9;exact bn.fJ h2.gr _ _ i6
    ·simp only[Xa,e,false_or]at h;exact h7 k h r v (by rw[dw hk,if_neg e];exact h8) (by rw[i4];exact h9)
theorem br.QO {c:CV} {u:Value} (h:br g w [] c u):br {g with ar:=g'.ar} w A' c u:=by
 cases c with
 |own k n=>obtain⟨_,_,_,r,h1,_⟩:=h;simp at h1
 |op k n i off=>obtain⟨_,_,_,r,h1,_⟩:=h;simp at h1
 |_=>exact h
theorem A4:∀{ks:List Nat} {xs:List bz},dW A ks=some xs->xs.length=ks.length/\∀(i k:Nat) x,ks[i]? =some k->xs[i]? =some x->A[k]? =some x
 |[],xs,h=>by simp[dW]at h;subst h;exact⟨rfl,fun i k x h=>by simp at h⟩
 |k::r,xs,h=>by
  simp only[dW]at h;split at h
  ·rename_i x xs' h1 h2;simp at h;subst h;obtain⟨h3,h4⟩:=A4 h2;refine⟨by simp[h3],fun i k' x' h5 h6=>?_⟩;cases i with
   |zero=>simp at h5 h6;subst h5;subst h6;exact h1
   |succ i=>simp at h5 h6;exact h4 i k' x' h5 h6
  ·simp at h
theorem zH {os ks:List Nat}:∀{cs ds:List CV},rW A os ks cs=some ds->ds.length=cs.length/\∀(j:Nat) c d,cs[j]? =some c->ds[j]? =some d->c.res A os ks=some d
 |[],ds,h=>by simp[rW]at h;subst h;exact⟨rfl,fun j c d h=>by simp at h⟩
 |c::r,ds,h=>by
  simp only[rW]at h;split at h
  ·rename_i d ds' h1 h2;simp at h;subst h;obtain⟨h3,h4⟩:=zH h2;refine⟨by simp[h3],fun j c' d' h5 h6=>?_⟩;cases j with
   |zero=>simp at h5 h6;subst h5;subst h6;exact h1
   |succ j=>simp at h5 h6;exact h4 j c' d' h5 h6
  ·simp at h
theorem A5 {os ks:List Nat}:∀{cs ds:List AV},aA A os ks cs=some ds->ds.length=cs.length/\∀(j:Nat) c d,cs[j]? =some c->ds[j]? =some d->c.qz A os ks=some d
 |[],ds,h=>by simp[aA]at h;subst h;exact⟨rfl,fun j c d h=>by simp at h⟩
 |c::r,ds,h=>by
  simp only[aA]at h;split at h
  ·rename_i d ds' h1 h2;simp at h;subst h;obtain⟨h3,h4⟩:=A5 h2;refine⟨by simp[h3],fun j c' d' h5 h6=>?_⟩;cases j with
   |zero=>simp at h5 h6;subst h5;subst h6;exact h1
   |succ j=>simp at h5 h6;exact h4 j c' d' h5 h6
  ·simp at h
theorem A6 {os ks:List Nat}:∀{ls:List Nat} {Vc:List (List CV)},fD A V os ks ls=some Vc->Vc.length=ls.length/\∀(i l:Nat) row',ls[i]? =some l->Vc[i]? =some row'->∃row,V[l]? =some row/\rW A os ks row=some row'
 |[],Vc,h=>by simp[fD]at h;subst h;exact⟨rfl,fun i l row' h=>by simp at h⟩
 |l::r,Vc,h=>by
  simp only[fD]at h;split at h
  ·rename_i row rs h1 h2;split at h
   ·rename_i row' h3;simp at h;subst h;obtain⟨h4,h5⟩:=A6 h2;refine⟨by simp[h4],fun i l' rw' h6 h7=>?_⟩;cases i with
    |zero=>simp at h6 h7;subst h6;subst h7;exact⟨row,h1,h3⟩
    |succ i=>simp at h6 h7;exact h5 i l' rw' h6 h7
   ·simp at h
  ·simp at h
def pz (tmps:Array Value):ResultVar->Sem Value
 |.tmp t=>pure (tmps.getD t undef)
 |.cell p t=>do loadVar t (<-asAddr (tmps.getD p undef))
theorem wj (fn:Func) (tmps:Array Value):results fn tmps=(do let vs<-fn.results.mapM (pz tmps);pure (if h:vs.size=1 then vs[0]else .tuple vs)):=by
 unfold results
 congr 1
theorem q8 (hI:Inv g w s.V s.A) (hS:iC g w s a):∀{rs:List ResultVar} {xs:List AV},ft P s rs=some xs->
  ∃us:List Value,us.length=xs.length/\(∀(i:Nat) x u,xs[i]? =some x->us[i]? =some u->aW g w s.A x u)/\
   (rs.mapM (pz a.tmps)).run P w=.ok us w
 |[],xs,h=>by simp[ft]at h;subst h;exact⟨[],rfl,fun i x u h=>by simp at h,rfl⟩
 |r::rs,xs,h=>by
  simp only[ft]at h;split at h
  ·rename_i x xs' h1 h2;simp at h;subst h;obtain⟨us,h3,h4,h5⟩:=q8 hI hS h2;have vk:∃u,aW g w s.A x u/\(pz a.tmps r).run P w=.ok u w:=by
    cases r with
    |tmp t=>
     obtain⟨u,h6,h7⟩:=hS t x h1;exact⟨u,h7,by simp[pz,h6]⟩
    |cell p ty=>
     simp only[uB]at h1;split at h1
     ·rename_i d c hd hp;split at h1
      ·rename_i cs xJ;obtain⟨u,h6,h7⟩:=hS p _ hp;obtain⟨b,off,vs,rfl,hl,hr,hc⟩:=qF hI h7 xJ;obtain⟨k1,k2⟩:=mr (P:=P) hd hc (hr.1.trans hl);have vo:a.tmps.getD p undef=.pointer (some ⟨b,off,none⟩):=by simp[h6]
       cases GP:d.ag with
       |true=>
        simp[E3,GP]at h1;subst h1;exact⟨.agg vs.toArray,⟨vs,rfl,hr.1,fun i c u h8 h9=>hr.2 i c u h8 h9⟩,by simp only[pz,vo];exact k1 GP⟩
       |false=>
        simp only[E3,GP,XJ,if_false]at h1;split at h1
        ·rename_i c';simp at h1;subst h1;obtain⟨u,rfl⟩:∃u,vs=[u]:=by
          have:=hr.1;simp at this;exact Xs.1 this
         exact⟨u,hr.2 0 c' u rfl rfl,by simp only[pz,vo];exact k2 GP u rfl⟩
        ·simp at h1
      ·simp at h1
     ·simp at h1
   obtain⟨u,h6,h7⟩:=vk;refine⟨u::us,by simp[h3],fun i x' u' h8 h9=>?_,?_⟩
   ·cases i with
    |zero=>simp at h8 h9;subst h8;subst h9;exact h6
    |succ i=>simp at h8 h9;exact h4 i x' u' h8 h9
   ·simp only[List.mapM_cons,Sem.run_bind,h7,Result.andThen_ok,h5,Sem.run_pure]
  ·simp at h
theorem enters {f:FuncId} {fn:Func} {c:Code} (hf:P.funcs[f]? =some fn) (kg:(fn.name== "runtime.NumGoroutine")=false) (hb:fn.body=some c) (args:Array Value) (w:World):(callFunc f args).run P w=.ok (.enter f args) w:=by
 have h:¬fn.name= "runtime.NumGoroutine" :=by simpa using kg
 simp[callFunc,hf,h,hb]
def kU (as:List AV):List (Nat×AV):=(as.zipIdx 0).map fun(x,i)=>(i,x)
theorem q9:∀(as:List AV) (k t:Nat) (x:AV),look ((as.zipIdx k).map fun(x,i)=>(i,x)) t=some x->k<=t/\as[t-k]? =some x
 |[],k,t,x,h=>by simp[look]at h
 |y::as,k,t,x,h=>by
  simp only[List.zipIdx_cons,Xg,look]at h;split at h
  ·rename_i e;subst e;simp at h;subst h;simp
  ·rename_i e;obtain⟨h1,h2⟩:=q9 as (k+1) t x h;refine⟨by omega,?_⟩;rw[show t-k=(t-(k+1))+1 by omega,XE];exact h2
def qI (P:Program) (fn:Func) (m a:Nat) (r:AV) (V':List (List CV)) (A':List bz) (e:Exit) (s:St):Prop:=
 (e=.normal\/e=.ret)/\∃(ext ks:List Nat) (xs ys:List AV),(∃ke,ks=W5 a++ke)/\ft P s fn.results.toList=some xs/\ks.Nodup/\ext.Nodup/\(∀l∈ext,m<=l)/\aA s.A (W5 m++ext) ks xs=some ys/\r=one ys/\
  fD s.A s.V (W5 m++ext) ks (W5 m++ext)=some V'/\dW s.A ks=some A'
set_option maxHeartbeats 1000000 in
theorem e8.cD {f:FuncId} {fn:Func} {c:Code} {as:List AV} {V V':List (List CV)} {A0:List bz} {r:AV} {A':List bz} (hf:P.funcs[f]? =some fn) (kg:(fn.name== "runtime.NumGoroutine")=false) (hb:fn.body=some c) (eP:codeOk fn.ntmps c=true) (hn:as.length<=fn.ntmps)
  (Ls:V.length<=V'.length) (h:T P fn.ntmps c (qI P fn V.length A0.length r V' A') ⟨kU as,V,A0⟩):e8 P f as V A0 r V' A':=by
 refine⟨enters hf kg hb,Ls,fun g w vs hI Ul E2 Qq=>?_⟩;refine calls_of_wp hf hb ?_;have hR:Rp fn.ntmps w g ⟨kU as,V,A0⟩ g {tmps:=vs++X2 (fn.ntmps-vs.size) undef,defers:=[]} w:=by
  refine⟨hI,Fr.refl Ul,by simp;omega,rfl,fun t x hx=>?_⟩;obtain⟨_,hx⟩:=q9 as 0 t x hx;rw[Nat.sub_zero]at hx;have ht:t<vs.size:=by have:=(W1.1 hx).1;omega
  exact⟨vs[t],by rw[Array.getElem?_append_left ht];simp[ht],Qq t x _ hx (by simp[ht])⟩
 refine Go.wp_mono (h eP w g g _ w hR) ?_;rintro e a' w' ⟨s',g',⟨hex,ext,ks,xs,ys,⟨ke,Um⟩,NB,QP,lS,Jq,mK,rfl,Un,Uo⟩,vE⟩;obtain⟨us,AR,MN,fC⟩:=q8 vE.inv vE.slot NB
 let v:Value:=if h:us.toArray.size=1 then us.toArray[0]else .tuple us.toArray
 have wk:(results fn a'.tmps).run P w'=.ok v w':=by
  rw[wj,Sem.run_bind,Array.mapM_eq_mapM_toList];have hm:(List.toArray<$>fn.results.toList.mapM (pz a'.tmps)).run P w'=.ok us.toArray w':=by
   simp[fC]
  rw[hm]
  rfl
 let os:=W5 V.length++ext
 obtain⟨g1,fj,dB,kF,tj,qa,uC,NC⟩:=tB ((W5 s'.A.length).filter fun k=>(pos? ks k).isNone) g' s'.A vE.inv vE.fr;obtain⟨QL,QQ⟩:=A4 Uo;obtain⟨QR,MT⟩:=A6 Un;have QS:∀(i k:Nat),ks[i]? =some k->k<s'.A.length:=fun i k hi=>by
  have AF:=(W1.1 hi).1;have:=QQ i k _ hi (W4 (show i<A'.length by omega));exact(W1.1 this).1
 have ND:∀l∈os,l<s'.V.length:=fun l hl=>by
  obtain⟨i,hi⟩:=W8 hl;have AF:=(W1.1 hi).1;have Up:i<(W5 V.length++ext).length:=AF;obtain⟨row,h1,_⟩:=MT i l _ hi (W4 (show i<V'.length by omega));exact(W1.1 h1).1
 have NF:os.Nodup:=by
  simp only[os];refine List.nodup_append.2 ⟨List.nodup_range,lS,fun a ha b eV=>?_⟩;have h1:=Jq b eV;simp at ha;omega
 let gf:Gh:={ob:=os.map fun l=>g1.ob.getD l 0,ar:=ks.map fun k=>g1.ar.getD k undef,im:=g1.im}
 have G9:∀(i l b:Nat),os[i]? =some l->g1.ob[l]? =some b->gf.ob[i]? =some b:=fun i l b h1 h2=>by simp[gf,h1,h2]
 have oG:∀(i b:Nat),gf.ob[i]? =some b->∃l,os[i]? =some l/\g1.ob[l]? =some b:=fun i b h1=>by
  simp only[gf,W7,WZ]at h1;obtain⟨l,h2,h3⟩:=h1;have tA:l<g1.ob.length:=by rw[fj.oT];exact ND l (W6 h2)
  exact⟨l,h2,by rw[<-h3];simp[W9,tA]⟩
 have E9:∀(i k:Nat) v,ks[i]? =some k->g1.ar[k]? =some v->gf.ar[i]? =some v:=fun i k v h1 h2=>by simp[gf,h1,h2]
 have pw:∀(i:Nat) v,gf.ar[i]? =some v->∃k,ks[i]? =some k/\g1.ar[k]? =some v:=fun i v h1=>by
  simp only[gf,W7,WZ]at h1;obtain⟨k,h2,h3⟩:=h1;have Ct:k<g1.ar.length:=by rw[tj,vE.inv.lQ];exact QS i k h2
  exact⟨k,h2,by rw[<-h3];simp[W9,Ct]⟩
 have Jr:∀{l:List Nat} {k:Nat},(pos? l k).isNone=true↔k∉l:=by
  intro l;induction l with
  |nil=>intro k;simp[pos?]
  |cons x l ih=>
   intro k;simp only[pos?];by_cases e:k=x
   ·subst e;simp
   ·simp only[e,if_false,Option.isNone_map,ih,Xa,false_or]
 have Uq:∀(i k:Nat) x,ks[i]? =some k->A'[i]? =some x->(py s'.A ((W5 s'.A.length).filter fun k=>(pos? ks k).isNone))[k]? =some x:=fun i k x h1 h2=>by
  rw[uC k (by simp only[Xq,not_and,Jr];intro _ h;exact h (W6 h1))];exact QQ i k x h1 h2
 have oD:∀(c d:CV) (u:Value),c.res s'.A os ks=some d->br g' w' s'.A c u->br gf w' A' d u:=by
  intro c d u h1 h2;have plain:c.kT s'.A os=some d->(∀k n,c≠.own k n)->br gf w' A' d u:=by
   intro h3 h4;have h5:=tz (A:=s'.A) (A':=py s'.A ((W5 s'.A.length).filter fun k=>(pos? ks k).isNone)) (ids:=os) (g1:=g1) (gc:={gf with ar:=[]}) (w:=w') h3 (br.ext dB h2) (fun x hx=>by
    cases c with
    |d y=>simp[nI]at hx;subst hx;exact bn.fJ dB.gr _ _ h2
    |nil=>simp[nI]at hx;subst hx;simp only[br]at h2;subst h2;simp only[bn];exact⟨none,0,rfl,XL _,.inl trivial⟩
    |own k n=>exact absurd rfl (h4 k n)
    |_=>simp[nI]at hx) G9 rfl
   exact br.QO (g:={gf with ar:=[]}) (g':=gf) h5
  cases c with
  |own k n=>
   simp only[CV.res]at h1;obtain⟨ad,cap,e,r,hk,Gq,hv⟩:=h2;split at h1
   ·rename_i i hi;simp only[WZ]at h1;obtain⟨x,hx,rfl⟩:=h1;simp only[nI,hk]at hx;split at hx
    ·rename_i di;have MX:=mU hi;have AF:=(W1.1 MX).1;have hA'i:A'[i]? =some (A'[i]'(by omega)):=W4 (by omega);have h3:=QQ i k _ MX hA'i;rw[hk]at h3;have h4:r=A'[i]'(by omega):=Option.some.inj h3;refine⟨ad,cap,e,r,by rw[hA'i,h4],Gq,fun _=>E9 i k u MX (by rw[tj];exact hv di)⟩
    ·simp at hx
   ·rename_i hi;simp only[WZ]at h1;obtain⟨x,hx,rfl⟩:=h1;simp only[nI,hk]at hx;split at hx
    ·rename_i di;simp at hx;subst hx;exact NC k (by simp[hi];exact(W1.1 hk).1) r u hk (hv di)
    ·simp at hx
  |d y=>exact plain h1 (by intro k n h;cases h)
  |nil=>exact plain h1 (by intro k n h;cases h)
  |ptr l off=>exact plain h1 (by intro k n h;cases h)
  |np=>exact plain h1 (by intro k n h;cases h)
  |ip row off=>exact plain h1 (by intro k n h;cases h)
  |op k n i off=>exact plain h1 (by intro k n h;cases h)
  |fn f cap=>exact plain h1 (by intro k n h;cases h)
  |undef=>exact plain h1 (by intro k n h;cases h)
 have CJ:∀(x y:AV) (u:Value),x.qz s'.A os ks=some y->aW g' w' s'.A x u->dL gf w' A' y u:=by
  intro x y u h1 h2;cases x with
  |c c=>
   simp only[AV.qz,WZ]at h1;obtain⟨d,hd,rfl⟩:=h1;exact oD c d u hd h2
  |agg cs=>
   simp only[AV.qz,WZ]at h1;obtain⟨ds,hd,rfl⟩:=h1;obtain⟨us',rfl,h3,h4⟩:=h2;obtain⟨h5,h6⟩:=zH hd;refine⟨us',rfl,by omega,fun j d u h7 h8=>?_⟩;have hj:j<cs.length:=by have:=(W1.1 h7).1;omega
   have hc:cs[j]? =some cs[j]:=W4 hj;exact oD _ d u (h6 j _ d hc h7) (h4 j _ u hc h8)
  |a8 zs=>simp[AV.qz]at h1
 obtain⟨VH,Ur⟩:=A5 mK;have NG:aW gf w' A' (one ys) v:=by
  have dm:∀(i:Nat) y u,ys[i]? =some y->us[i]? =some u->dL gf w' A' y u:=fun i y u h1 h2=>by
   have hi:i<xs.length:=by have:=(W1.1 h1).1;omega
   have hx:xs[i]? =some xs[i]:=W4 hi;exact CJ _ y u (Ur i _ y hx h1) (MN i _ u hx h2)
  by_cases h1:us.length=1
  ·obtain⟨u,rfl⟩:=Xs.1 h1;obtain⟨y,rfl⟩:=Xs.1 (show ys.length=1 by omega);have h2:=dm 0 y u rfl rfl;have hv:v=u:=by simp[v]
   rw[hv];cases y with
   |a8 zs=>exact h2.elim
   |c c=>exact h2
   |agg cs=>exact h2
  ·have hv:v=.tuple us.toArray:=by simp[v,h1]
   have ho:one ys=.a8 ys:=by
    match ys,(show ys.length≠1 by omega)with
    |[],_=>rfl
    |_::_::_,_=>rfl
   rw[hv,ho];exact⟨us,rfl,by omega,dm⟩
 have SQ:g.ob.length=V.length:=hI.oT;have NH:∃new,gf.ob=g.ob++new/\∀b∈new,w.heap.size<=b:=by
  obtain⟨new,e,x9⟩:=kF.ob;refine⟨ext.map fun l=>g1.ob.getD l 0,?_,fun b eV=>?_⟩
  ·simp only[gf,os,List.map_append]
   congr 1
   apply XF;intro i;by_cases hi:i<V.length
   ·simp[hi,e,W9,W2 (show i<g.ob.length by omega),W4 (show i<g.ob.length by omega)]
   ·simp[Xk (show g.ob.length<=i by omega),Xk (show(W5 V.length).length<=i by simp;omega)]
  ·simp only[Xp]at eV;obtain⟨l,hl,rfl⟩:=eV;have tA:l<g1.ob.length:=by rw[fj.oT];exact ND l (by simp[os,hl])
   have Gs:=Jq l hl;have cZ:g1.ob.getD l 0∈new:=by
    have h1:g1.ob[l]? =some (g1.ob.getD l 0):=by simp[W9,tA]
    generalize g1.ob.getD l 0=q at h1⊢;rw[e,W3 (by omega)]at h1;exact W6 h1
   exact x9 _ cZ
 have NI:Inv gf w' V' A':=by
  refine⟨by simp[gf,QR,os],by simp[gf,QL],fun i row' b h1 h2=>?_,fun i x v' h1 h2=>?_,fun i i' b h1 h2=>?_,fun i i' v1 v2 b h1 h2 h3 h4=>?_,fun i j v' b h1 h2=>?_,fj.fresh⟩
  ·obtain⟨l,h3,h4⟩:=oG i b h2;obtain⟨row,h5,h6⟩:=MT i l row' h3 h1;obtain⟨h7,h8⟩:=zH h6;have eV:g'.ob[l]? =some b:=by rw[<-qa];exact h4
   obtain⟨_,cs,ty,cO,eE,fS⟩:=vE.inv.obj l row b h5 eV;refine⟨(fj.obj l row b h5 h4).1,cs,ty,cO,by omega,fun j d u dG gA=>?_⟩;have hj:j<row.length:=by have:=(W1.1 dG).1;omega
   have hc:row[j]? =some row[j]:=W4 hj;exact oD _ d u (h8 j _ d hc dG) (fS j _ u hc gA)
  ·obtain⟨k,h3,h4⟩:=pw i v' h2;exact fj.arr k x v' (Uq i k x h3 h1) h4
  ·obtain⟨l,h3,h4⟩:=oG i b h1;obtain⟨l',h5,h6⟩:=oG i' b h2;obtain rfl:=fj.kH l l' b h4 h6;exact(Xj (W1.1 h3).1 NF).1 (h3.trans h5.symm)
  ·obtain⟨k,h5,h6⟩:=pw i v1 h1;obtain⟨k',h7,h8⟩:=pw i' v2 h2;obtain rfl:=fj.jj k k' v1 v2 b h6 h8 h3 h4;exact(Xj (W1.1 h5).1 QP).1 (h5.trans h7.symm)
  ·obtain⟨l,h3,h4⟩:=oG i b h1;obtain⟨k,h5,h6⟩:=pw j v' h2;exact fj.jr l k v' b h4 h6
 have Hc:a'.defers=[]/\∃v,(results fn a'.tmps).run P w'=.ok v w'/\∃v1 g',Ending.returned v=.returned v1/\aW g' w' A' (one ys) v1/\Inv g' w' V' A'/\Fr w g w' g':=
  ⟨vE.defers,v,wk,v,gf,rfl,NG,NI,⟨kF.os,kF.tape,kF.output,kF.size,kF.qE,kF.js,NH,fun i v' b h1 h2=>by
   obtain⟨k,h3,h4⟩:=pw i v' h1;exact kF.ar k v' b h4 h2,fun k v' h1=>by
   obtain⟨v2,h2,h3⟩:=kF.vO k v' h1;have hk:k<A0.length:=by rw[<-hI.lQ];exact(W1.1 h1).1
   exact⟨v2,E9 k k v2 (by rw[Um,W2 (by simpa using hk)];simp[hk]) h2,h3⟩,kF.xV⟩⟩
 rcases hex with rfl|rfl<;>exact Hc
theorem ah.cD {f:FuncId} {fn:Func} {c:Code} {as:List AV} {V V':List (List CV)} {r:AV} {A':List bz} (hf:P.funcs[f]? =some fn) (kg:(fn.name== "runtime.NumGoroutine")=false) (hb:fn.body=some c) (eP:codeOk fn.ntmps c=true) (hn:as.length<=fn.ntmps)
  (Ls:V.length<=V'.length) (h:T P fn.ntmps c (aB P fn V.length r V' A') ⟨kU as,V,[]⟩):ah P f as V r V' A':=by
 obtain⟨h1,h2,h3⟩:=e8.cD (A0:=[]) hf kg hb eP hn Ls (T.mono h fun e s' hd=>by
  obtain⟨hex,ext,ks,xs,ys,h⟩:=hd;exact⟨hex,ext,ks,xs,ys,⟨ks,by simp⟩,h⟩)
 exact⟨h1,h2,fun g w vs _ hI=>h3 g w vs hI⟩
theorem ah.ob {f:FuncId} {fn:Func} {N:Nat} {c:Code} {as:List AV} {V V':List (List CV)} {r:AV} {A':List bz} (hf:P.funcs[f]? =some fn) (hN:fn.ntmps=N) (hb:fn.body=some c) (h:T P N c (aB P fn V.length r V' A') ⟨kU as,V,[]⟩) (kg:(fn.name== "runtime.NumGoroutine")=false:=by kernel_rfl) (eP:codeOk N c=true:=by kernel_rfl) (hn:as.length<=N:=by simp) (Ls:V.length<=V'.length:=by simp):ah P f as V r V' A':=by
 subst hN;exact ah.cD hf kg hb eP hn Ls h
end
def cS:Op->Bool
 |.move _|.assign _|.pick _ _ _|.fieldAddr _ _ _|.unOp _ _ _|.binOp _ _ _ _ _|.extract _ _=>true
 |_=>false
def gw (all:Array Oper) (s:St) (o:Oper):Bool:=
 match o.guard with
 |none=>true
 |some (j,want)=>match(all[j]?).bind (·.dst)with
  |some t=>match look s.fr t with
   |some (.c (.d (.bool b)))=>b==want
   |_=>false
  |none=>false
def SR (P:Program) (all:Array Oper) (ow:Bool) (o:Oper) (s s':St):Prop:=
 iA all s o True True/\((gw all s o=true/\∃x V A,s'=s.put o.dst x V A/\∀K:AV->List (List CV)->List bz->Prop,K x V A->bJ P s ow o K)\/(gw all s o=false/\s'=s.put o.dst (.c .undef) s.V s.A))
def pA (P:Program) (all:Array Oper) (ow:Nat->Bool) (ws:List Nat) (K:St->Prop):Nat->List Oper->St->Prop
 |_,[],s=>K s
 |i,o::rest,s=>iA all s o (bJ P s (ow i) o fun x V A=>(i∈ws\/(V=s.V/\A=s.A))/\pA P all ow ws K (i+1) rest (s.put o.dst x V A)) (pA P all ow ws K (i+1) rest (s.put o.dst (.c .undef) s.V s.A))
def mW (acc:List Nat) (o:Oper):Nat:=o.after.toList.foldl (fun m e=>if Region.binds .any e then m|||2 ^ e.on|||acc.getD e.on 0 else m) 0
def bc:List Oper->List Nat->List Nat
 |[],acc=>acc
 |o::r,acc=>bc r (acc++[mW acc o])
def dC (all:Array Oper) (x y:Oper):Bool:=match x.dst with
 |some d=>(y.looksAt all).contains d
 |none=>false
def bu (all:Array Oper) (ws ms:List Nat) (oi oj:Oper) (i j:Nat):Bool:=
 (oi.dst.isNone||oi.dst !=oj.dst)&&((!dC all oi oj && !dC all oj oi && !(ws.contains i && !cS oj.op)&& !(ws.contains j && !cS oi.op))||(ms.getD j 0).testBit i)
def ey (all:Array Oper) (ws:List Nat):Bool:=
 let l:=all.toList.zipIdx
 let ms:=bc all.toList []
 (l.all fun(o,j)=>o.after.toList.all fun e=> !Region.binds .any e||decide (e.on<j))&&
 (l.all fun(oj,j)=>l.all fun(oi,i)=> !(decide (i<j))||bu all ws ms oi oj i j)&&
 (l.all fun(o,j)=> !ws.contains j|| !cS o.op)
section
variable {P:Program} {n:Nat} {Q Q':Exit->St->Prop} {s s':St} {w0:World} {g0 g g':Gh} {a:Act} {w w':World} {V:List (List CV)} {A A':List bz}
theorem fT {all:Array Oper} {o:Oper} {y n:Prop} (h:iA all s o y n):(gw all s o=true/\y\/gw all s o=false/\n)/\iA all s o True True:=by
 unfold iA at h;unfold gw iA;split at h
 ·rename_i hg;simp[hg,h]
 ·rename_i j want hg;refine aj h fun oj h1 h2=>aj h2 fun t h3 h4=>aj h4 fun x h5 h6=>?_
  simp only[hg,h1,W0,h3,h5,bU];split at h6
  ·rename_i b;simp only[beq_iff_eq,beq_eq_false_iff_ne,implies_true,and_self,and_true];by_cases e:b=want
   ·exact .inl ⟨e,h6.1 e⟩
   ·exact .inr ⟨e,h6.2 (by cases b<;>cases want<;>simp_all)⟩
  ·simp[h6]
  ·exact h6.elim
theorem Js {ow:Bool} {op:Op} {K:AV->List (List CV)->List bz->Prop} (h:eO P s ow op K):∃x V A,K x V A/\∀K':AV->List (List CV)->List bz->Prop,K' x V A->eO P s ow op K':=by
 cases op with
 |move x=>exact aj h fun v h1 h2=>⟨_,_,_,h2,fun K' h=>by simpa only[eO,bU,h1]using h⟩
 |assign x=>exact aj h fun v h1 h2=>⟨_,_,_,h2,fun K' h=>by simpa only[eO,bU,h1]using h⟩
 |pick c x y=>
  refine aj h fun v h1 h2=>?_
  split at h2
  ·rename_i t;cases t with
   |true=>simp only[if_true]at h2;exact aj h2 fun v h3 h4=>⟨_,_,_,h4,fun K' h=>by simpa only[eO,bU,h1,if_true,h3]using h⟩
   |false=>simp only[XJ,if_false]at h2;exact aj h2 fun v h3 h4=>⟨_,_,_,h4,fun K' h=>by simpa only[eO,bU,h1,XJ,if_false,h3]using h⟩
  ·exact h2.elim
 |alloc e=>exact aj h fun d h1 h2=>aj h2 fun z h3 h4=>⟨_,_,_,h4,fun K' h=>by simpa only[eO,bU,h1,h3]using h⟩
 |box e x=>exact aj h fun v h1 h2=>⟨_,_,_,h2.2,fun K' h=>by simp only[eO,bU,h1];exact⟨h2.1,h⟩⟩
 |build t parts=>exact aj h fun d h1 h2=>aj h2 fun z h3 h4=>aj h4 fun ps h5 h6=>aj h6 fun cs h7 h8=>⟨_,_,_,h8.2.2,fun K' h=>by simp only[eO,bU,h1,h3,h5,h7];exact⟨h8.1,h8.2.1,h⟩⟩
 |buildSlice t len parts=>
  refine aj h fun d h1 h2=>aj h2 fun e h3 h4=>aj h4 fun de h5 h6=>aj h6 fun rows h7 h8=>aj h8 fun ds h9 cO=>?_
  obtain⟨k1,k2,k3,k4,k5⟩:=cO;cases ow with
  |true=>simp only[if_true]at k5;exact⟨_,_,_,k5,fun K' h=>by simp only[eO,bU,h1,h3,h5,h7,h9];exact⟨k1,k2,k3,k4,by simpa only[if_true]using h⟩⟩
  |false=>simp only[XJ,if_false]at k5;exact⟨_,_,_,k5,fun K' h=>by simp only[eO,bU,h1,h3,h5,h7,h9];exact⟨k1,k2,k3,k4,by simpa only[XJ,if_false]using h⟩⟩
 |load t x=>
  refine aj h fun d h1 h2=>aj h2 fun p h3 h4=>?_
  split at h4
  ·exact aj h4 fun cs h5 h6=>aj h6 fun v h7 h8=>⟨_,_,_,h8,fun K' h=>by simpa only[eO,bU,h1,h3,h5,h7]using h⟩
  ·exact h4.elim
 |store t x y=>
  refine aj h fun d h1 h2=>aj h2 fun p h3 h4=>aj h4 fun v h5 h6=>?_
  obtain⟨h7,h8,h9⟩:=h6;split at h9
  ·exact aj h9 fun row cO eE=>⟨_,_,_,eE.2,fun K' h=>by simp only[eO,bU,h1,h3,h5,cO];exact⟨h7,h8,eE.1,h⟩⟩
  ·refine aj h9 fun r cO eE=>?_
   obtain⟨fS,dG,gA⟩:=eE;exact aj gA fun row qH rH=>aj rH fun ds AX rI=>⟨_,_,_,rI.2.2,fun K' h=>by simp only[eO,bU,h1,h3,h5,cO,qH,AX];exact⟨h7,h8,fS,dG,rI.1,rI.2.1,h⟩⟩
  ·exact h9.elim
 |nilCheck x=>
  refine aj h fun v h1 h2=>?_
  split at h2
  ·exact⟨_,_,_,h2,fun K' h=>by simpa only[eO,bU,h1]using h⟩
  ·exact⟨_,_,_,h2,fun K' h=>by simpa only[eO,bU,h1]using h⟩
  ·exact⟨_,_,_,h2,fun K' h=>by simpa only[eO,bU,h1]using h⟩
  ·exact⟨_,_,_,h2,fun K' h=>by simpa only[eO,bU,h1]using h⟩
  ·exact h2.elim
 |binOp op t x y t'=>
  refine aj h fun u h1 h2=>aj h2 fun v h3 h4=>?_
  split at h4
  ·rename_i r hr;exact⟨_,_,_,h4,fun K' h=>by simpa only[eO,bU,h1,h3,hr]using h⟩
  ·rename_i hr;split at h4
   ·rename_i r CC;exact⟨_,_,_,h4,fun K' h=>by simpa only[eO,bU,h1,h3,hr,CC]using h⟩
   ·rename_i CC;exact aj h4 fun r h5 h6=>aj h6 fun d h7 h8=>⟨_,_,_,h8.2,fun K' h=>by simp only[eO,bU,h1,h3,hr,CC,h5,h7];exact⟨h8.1,h⟩⟩
 |unOp op t x=>exact aj h fun u h1 h2=>aj h2 fun r h3 h4=>⟨_,_,_,h4,fun K' h=>by simpa only[eO,bU,h1,h3]using h⟩
 |convert src dst x=>
  refine aj h fun u h1 h2=>aj h2 fun ds h3 h4=>aj h4 fun dd h5 h6=>?_
  split at h6
  ·exact aj h6 fun k h7 h8=>⟨_,_,_,h8,fun K' h=>by simpa only[eO,bU,h1,h3,h5,h7]using h⟩
  ·exact⟨_,_,_,h6.2.2,fun K' h=>by simp only[eO,bU,h1,h3,h5];exact⟨h6.1,h6.2.1,h⟩⟩
  ·obtain⟨h7,h8⟩:=h6;exact aj h8 fun e h9 cO=>aj cO fun de eE fS=>aj fS.2 fun b dG gA=>⟨_,_,_,gA,fun K' h=>by simp only[eO,bU,h1,h3,h5,h9,eE,dG];exact⟨h7,fS.1,h⟩⟩
  ·exact h6.elim
 |makeFunc fn first captured=>
  cases fn with
  |func f=>
   obtain⟨h1,h2⟩:=h;exact aj h2 fun cs h3 h4=>aj h4 fun ls h5 h6=>⟨_,_,_,h6,fun K' h=>by simp only[eO,bU,h3,h5];exact⟨h1,h⟩⟩
  |_=>exact h.elim
 |makeSlice t l c=>
  refine aj h fun d h1 h2=>aj h2 fun e h3 h4=>aj h4 fun de h5 h6=>aj h6 fun z h7 h8=>aj h8 fun dz h9 cO=>aj cO fun vl eE fS=>aj fS fun vc dG gA=>?_
  split at gA
  ·obtain⟨k1,k2,k3,k4,k5,k6,k7⟩:=gA;exact⟨_,_,_,k7,fun K' h=>by simp only[eO,bU,h1,h3,h5,h7,h9,eE,dG];exact⟨k1,k2,k3,k4,k5,k6,h⟩⟩
  ·exact gA.elim
 |slice t x lo hi mx=>
  obtain⟨rfl,h⟩:=h;refine aj h fun d h1 h2=>aj h2 fun v h3 h4=>aj h4 fun l h5 h6=>aj h6 fun hh h7 h8=>?_
  split at h8
  ·obtain⟨h9,cO⟩:=h8;exact aj cO fun i eE fS=>aj fS fun j dG gA=>⟨_,_,_,gA.2.2.2,fun K' h=>by simp only[eO,bU,h1,h3,h5,h7,eE,dG];exact⟨trivial,h9,gA.1,gA.2.1,gA.2.2.1,h⟩⟩
  ·refine aj h8 fun rows h9 cO=>aj cO fun e eE fS=>aj fS fun de dG gA=>aj gA fun i qH rH=>aj rH fun j AX rI=>?_
   refine⟨_,_,_,rI.2.2.2.2,fun K' h=>?_⟩;simp only[eO,bU,h1,h3,h5,h7,h9,eE,dG,qH,AX];exact⟨trivial,rI.1,rI.2.1,rI.2.2.1,rI.2.2.2.1,h⟩
 |fieldAddr t x f=>
  refine aj h fun d h1 h2=>aj h2 fun fo h3 h4=>?_
  obtain⟨off,sz⟩:=fo;obtain⟨h5,h6⟩:=h4;refine aj h6 fun v h7 h8=>?_
  split at h8
  ·exact⟨_,_,_,h8,fun K' h=>by simp only[eO,bU,h1,h3,h7];exact⟨h5,h⟩⟩
  ·exact⟨_,_,_,h8,fun K' h=>by simp only[eO,bU,h1,h3,h7];exact⟨h5,h⟩⟩
  ·exact⟨_,_,_,h8,fun K' h=>by simp only[eO,bU,h1,h3,h7];exact⟨h5,h⟩⟩
  ·exact h8.elim
 |indexAddr t x ix=>
  refine aj h fun d h1 h2=>aj h2 fun v h3 h4=>aj h4 fun i h5 h6=>?_
  split at h6
  ·obtain⟨h0,h6⟩:=h6;split at h6
   ·exact aj h6 fun e h7 h8=>aj h8 fun de h9 cO=>aj cO fun row eE fS=>⟨_,_,_,fS.2,fun K' h=>by simp only[eO,bU,h1,h3,h5,h7,h9,eE];exact⟨h0,fS.1,h⟩⟩
   ·exact aj h6 fun e h7 h8=>aj h8 fun de h9 cO=>aj cO fun r eE fS=>⟨_,_,_,fS.2.2.2,fun K' h=>by simp only[eO,bU,h1,h3,h5,h7,h9,eE];exact⟨h0,fS.1,fS.2.1,fS.2.2.1,h⟩⟩
   ·refine aj h6 fun le h7 h8=>?_
    obtain⟨len,e⟩:=le;exact aj h8 fun de h9 cO=>⟨_,_,_,cO.2,fun K' h=>by simp only[eO,bU,h1,h3,h5,h7,h9];exact⟨h0,cO.1,h⟩⟩
   ·exact h6.elim
  ·exact h6.elim
 |index t x ix=>
  refine aj h fun d h1 h2=>aj h2 fun v h3 h4=>aj h4 fun i h5 h6=>?_
  split at h6
  ·obtain⟨h7,h0,h8⟩:=h6;exact aj h8 fun c h9 cO=>⟨_,_,_,cO,fun K' h=>by simp only[eO,bU,h1,h3,h5,h9];exact⟨h7,h0,h⟩⟩
  ·refine aj h6 fun le h7 h8=>aj h8 fun de h9 cO=>?_
   obtain⟨eE,fS,h0,dG,gA⟩:=cO;exact aj gA fun c qH rH=>⟨_,_,_,rH,fun K' h=>by simp only[eO,bU,h1,h3,h5,h7,h9,qH];exact⟨eE,fS,h0,dG,h⟩⟩
  ·exact h6.elim
 |extract x i=>
  refine aj h fun v h1 h2=>?_
  split at h2
  ·refine aj h2 fun u h3 h4=>?_
   split at h4
   ·exact h4.elim
   ·refine⟨_,_,_,h4,fun K' h=>?_⟩;simp only[eO,bU,h1,h3];exact h
  ·exact h2.elim
 |call c=>
  obtain⟨callee,args,argTypes⟩:=c;cases callee with
  |builtin b=>
   cases b with
   |len=>
    refine aj h fun x h1 h2=>aj h2 fun v h3 h4=>aj h4 fun t h5 h6=>aj h6 fun d h7 h8=>aj h8 fun n h9 cO=>?_
    exact⟨_,_,_,cO.2.2,fun K' h=>by simp only[eO,bU,h1,h3,h5,h7,h9];exact⟨cO.1,cO.2.1,h⟩⟩
   |append=>
    refine aj h fun x h1 h2=>aj h2 fun y h3 h4=>aj h4 fun t h5 h6=>?_
    obtain⟨h7,h8⟩:=h6;refine aj h8 fun d h9 cO=>aj cO fun e eE fS=>aj fS fun de dG gA=>?_
    obtain⟨qH,rH,AX⟩:=gA;refine aj AX fun v rI Lr=>aj Lr fun u IU Nx=>aj Nx fun nr Ji QD=>?_
    obtain⟨Jj,Jk⟩:=QD;split at Jk
    ·refine aj Jk fun r Jl MQ=>?_
     obtain⟨k1,k2,k3,k4,k5,k6⟩:=MQ;cases ow with
     |true=>simp only[if_true]at k6;exact⟨_,_,_,k6,fun K' h=>by simp only[eO];simp only[bU]at rH;simp only[bU,h1,h3,h5,h9,eE,dG,rI,IU,Ji,Jl];exact⟨h7,qH,rH,Jj,k1,k2,k3,k4,k5,by simpa only[if_true]using h⟩⟩
     |false=>simp only[XJ,if_false]at k6;exact⟨_,_,_,k6,fun K' h=>by simp only[eO];simp only[bU]at rH;simp only[bU,h1,h3,h5,h9,eE,dG,rI,IU,Ji,Jl];exact⟨h7,qH,rH,Jj,k1,k2,k3,k4,k5,by simpa only[XJ,if_false]using h⟩⟩
    ·obtain⟨k1,k2,k6⟩:=Jk;cases ow with
     |true=>simp only[if_true]at k6;exact⟨_,_,_,k6,fun K' h=>by simp only[eO];simp only[bU]at rH;simp only[bU,h1,h3,h5,h9,eE,dG,rI,IU,Ji];exact⟨h7,qH,rH,Jj,k1,k2,by simpa only[if_true]using h⟩⟩
     |false=>simp only[XJ,if_false]at k6;exact⟨_,_,_,k6,fun K' h=>by simp only[eO];simp only[bU]at rH;simp only[bU,h1,h3,h5,h9,eE,dG,rI,IU,Ji];exact⟨h7,qH,rH,Jj,k1,k2,by simpa only[XJ,if_false]using h⟩⟩
    ·exact Jk.elim
   |max=>
    refine aj h fun x h1 h2=>aj h2 fun y h3 h4=>?_
    obtain⟨h5,h6⟩:=h4;refine aj h6 fun v h7 h8=>aj h8 fun u h9 cO=>?_
    split at cO
    ·exact⟨_,_,_,cO,fun K' h=>by simp only[eO,bU,h1,h3,h7,h9];exact⟨h5,h⟩⟩
    ·exact cO.elim
   |min=>
    refine aj h fun x h1 h2=>aj h2 fun y h3 h4=>?_
    obtain⟨h5,h6⟩:=h4;refine aj h6 fun v h7 h8=>aj h8 fun u h9 cO=>?_
    split at cO
    ·exact⟨_,_,_,cO,fun K' h=>by simp only[eO,bU,h1,h3,h7,h9];exact⟨h5,h⟩⟩
    ·exact cO.elim
   |_=>exact h.elim
  |_=>exact h.elim
 |_=>exact h.elim
theorem l5 {ow:Bool} {o:Oper} {K:AV->List (List CV)->List bz->Prop} (h:∀f args ts,o.op≠.call ⟨.value f,args,ts⟩):bJ P s ow o K=eO P s ow o.op K:=by
 obtain⟨dst,op,ty,pos,after,guard⟩:=o;cases op<;>try rfl
 rename_i c;obtain⟨callee,args,ts⟩:=c;cases callee<;>first|rfl|exact absurd rfl (h _ _ _)
theorem gd {ow:Bool} {o:Oper} {K:AV->List (List CV)->List bz->Prop} (h:bJ P s ow o K):∃x V A,K x V A/\∀K':AV->List (List CV)->List bz->Prop,K' x V A->bJ P s ow o K':=by
 by_cases gG:∃f args ts,o.op=.call ⟨.value f,args,ts⟩
 ·obtain⟨f,args,ts,heq⟩:=gG;simp only[bJ,heq]at h⊢;refine aj h fun fv h1 h2=>?_
  split at h2
  ·rename_i fid cap;refine aj h2 fun xs h3 h4=>?_
   rcases h4 with⟨ids,as,Vc,r,Vc',Ac',k1,k2,k3,k4,k5⟩|⟨hs,as,r,Ac',k1,k2,k3,k4,k5⟩
   ·refine⟨_,_,_,k5,fun K' h=>?_⟩;simp only[bU,h1,h3];exact .inl ⟨ids,as,Vc,r,Vc',Ac',k1,k2,k3,k4,h⟩
   ·refine⟨_,_,_,k5,fun K' h=>?_⟩;simp only[bU,h1,h3];exact .inr ⟨hs,as,r,Ac',k1,k2,k3,k4,h⟩
  ·exact h2.elim
 ·have di:∀f args ts,o.op≠.call ⟨.value f,args,ts⟩:=fun f args ts e=>gG ⟨f,args,ts,e⟩
  rw[l5 di]at h;obtain⟨x,V,A,h1,h2⟩:=Js h;exact⟨x,V,A,h1,fun K' h3=>by rw[l5 di];exact h2 K' h3⟩
theorem pB {all:Array Oper} {ow:Nat->Bool} {ws:List Nat} {K:St->Prop}:∀(ops:List Oper) (i:Nat) (s:St),pA P all ow ws K i ops s->
  ∃σ:Nat->St,σ 0=s/\K (σ ops.length)/\∀(j:Nat) o,ops[j]? =some o->SR P all (ow (i+j)) o (σ j) (σ (j+1))/\(i+j∈ws\/((σ (j+1)).V=(σ j).V/\(σ (j+1)).A=(σ j).A))
 |[],i,s,h=>⟨fun _=>s,rfl,h,fun j o h=>by simp at h⟩
 |o::rest,i,s,h=>by
  simp only[pA]at h;obtain⟨h0,hg⟩:=fT h;rcases h0 with⟨h1,h2⟩|⟨h1,h2⟩
  ·obtain⟨x,V,A,⟨h3,h4⟩,h5⟩:=gd h2;obtain⟨σ,k1,k2,k3⟩:=pB rest (i+1) _ h4;refine⟨fun j=>match j with|0=>s|j+1=>σ j,rfl,k2,fun j o' ho=>?_⟩;cases j with
   |zero=>
    simp at ho;subst ho;refine⟨⟨hg,.inl ⟨h1,x,V,A,k1,h5⟩⟩,?_⟩;rcases h3 with h3|⟨h3,sZ⟩
    ·exact .inl h3
    ·exact .inr (by simp only[k1];exact⟨h3,sZ⟩)
   |succ j=>
    simp at ho;have:=k3 j o' ho;rwa[show i+1+j=i+(j+1) by omega]at this
  ·obtain⟨σ,k1,k2,k3⟩:=pB rest (i+1) _ h2;refine⟨fun j=>match j with|0=>s|j+1=>σ j,rfl,k2,fun j o' ho=>?_⟩;cases j with
   |zero=>
    simp at ho;subst ho;exact⟨⟨hg,.inr ⟨h1,k1⟩⟩,.inr (by simp only[k1];exact⟨rfl,rfl⟩)⟩
   |succ j=>
    simp at ho;have:=k3 j o' ho;rwa[show i+1+j=i+(j+1) by omega]at this
end
section
variable {P:Program} {n:Nat} {Q Q':Exit->St->Prop} {s s':St} {w0:World} {g0 g g':Gh} {a:Act} {w w':World} {V:List (List CV)} {A A':List bz}
theorem yc {fr cU:List (Nat×AV)} {p:CV} {k:Nat}:gV ⟨cU,V,A⟩ p k=gV ⟨fr,V,A⟩ p k:=by
 cases p<;>rfl
theorem rX:∀{parts:List (Nat×Operand)},(∀p∈parts,bH s' p.2=bH s p.2)->iO s' parts=iO s parts
 |[],_=>rfl
 |(i,x)::r,h=>by
  have e:=rX (parts:=r) (fun p hp=>h p (Xr _ hp));simp only[iO,h (i,x) (by simp),e]
theorem uD {sz:Nat}:∀{parts:List (Nat×Operand)} {k:Nat},(∀p∈parts,bH s' p.2=bH s p.2)->j9 s' sz k parts=j9 s sz k parts
 |[],_,_=>rfl
 |(i,x)::r,k,h=>by
  have e:=uD (sz:=sz) (parts:=r) (k:=k+1) (fun p hp=>h p (Xr _ hp));simp only[j9,h (i,x) (by simp),e]
theorem l6:∀{os:List Operand},(∀p∈os,bH s' p=bH s p)->iB s' os=iB s os
 |[],_=>rfl
 |x::r,h=>by
  have e:=l6 (os:=r) (fun p hp=>h p (Xr _ hp));simp only[iB,h x (by simp),e]
theorem Fa {fr cU:List (Nat×AV)} {ow:Bool} {op:Op} {K:AV->List (List CV)->List bz->Prop} (he:∀x∈op.operands.toList,bH ⟨cU,V,A⟩ x=bH ⟨fr,V,A⟩ x) (h:eO P ⟨fr,V,A⟩ ow op K):eO P ⟨cU,V,A⟩ ow op K:=by
 cases op with
 |move x=>simpa only[eO,he x (by simp[Op.operands])]using h
 |assign x=>simpa only[eO,he x (by simp[Op.operands])]using h
 |pick c x y=>simpa only[eO,he c (by simp[Op.operands]),he x (by simp[Op.operands]),he y (by simp[Op.operands])]using h
 |alloc e=>exact h
 |box e x=>simpa only[eO,he x (by simp[Op.operands])]using h
 |build t parts=>simpa only[eO,rX (s':=⟨cU,V,A⟩) (s:=⟨fr,V,A⟩) (parts:=parts.toList) (fun p hp=>he p.2 (by simp only[Op.operands,Xp];exact⟨p,hp,rfl⟩))]using h
 |buildSlice t len parts=>
  simp only[eO]at h⊢;have:∀sz,j9 ⟨cU,V,A⟩ sz 0 parts.toList=j9 ⟨fr,V,A⟩ sz 0 parts.toList:=fun sz=>uD (fun p hp=>he p.2 (by simp only[Op.operands,Xp];exact⟨p,hp,rfl⟩))
  simpa only[this]using h
 |load t x=>
  simp only[eO,he x (by simp[Op.operands])]at h⊢;simpa only[yc (fr:=fr) (cU:=cU)]using h
 |store t x y=>simpa only[eO,he x (by simp[Op.operands]),he y (by simp[Op.operands])]using h
 |nilCheck x=>simpa only[eO,he x (by simp[Op.operands])]using h
 |binOp op t x y t'=>simpa only[eO,he x (by simp[Op.operands]),he y (by simp[Op.operands])]using h
 |unOp op t x=>simpa only[eO,he x (by simp[Op.operands])]using h
 |convert src dst x=>simpa only[eO,he x (by simp[Op.operands])]using h
 |makeFunc fn first captured=>
  cases fn with
  |func f=>simpa only[eO,l6 (s':=⟨cU,V,A⟩) (s:=⟨fr,V,A⟩) (os:=captured.toList) (fun p hp=>he p (by simp[Op.operands];exact .inr (by simpa using hp)))]using h
  |_=>exact h
 |makeSlice t l c=>simpa only[eO,he l (by simp[Op.operands]),he c (by simp[Op.operands])]using h
 |slice t x lo hi mx=>
  have Gn:mq ⟨cU,V,A⟩ lo=mq ⟨fr,V,A⟩ lo:=by
   cases lo with
   |none=>rfl
   |some l=>simp only[mq,he l (by simp[Op.operands])]
  have Qz:mq ⟨cU,V,A⟩ hi=mq ⟨fr,V,A⟩ hi:=by
   cases hi with
   |none=>rfl
   |some l=>simp only[mq,he l (by simp[Op.operands])]
  simpa only[eO,he x (by simp[Op.operands]),Gn,Qz]using h
 |fieldAddr t x f=>simpa only[eO,he x (by simp[Op.operands])]using h
 |indexAddr t x ix=>simpa only[eO,he x (by simp[Op.operands]),he ix (by simp[Op.operands])]using h
 |index t x ix=>simpa only[eO,he x (by simp[Op.operands]),he ix (by simp[Op.operands])]using h
 |extract x i=>simpa only[eO,he x (by simp[Op.operands])]using h
 |call c=>
  obtain⟨callee,args,argTypes⟩:=c;cases callee with
  |builtin b=>
   have hx:∀(i:Nat) x,args[i]? =some x->bH ⟨cU,V,A⟩ x=bH ⟨fr,V,A⟩ x:=fun i x hi=>he x (by
    simp only[Op.operands,Call.operands,X5,XZ];exact X3 hi)
   cases b with
   |len=>exact aj h fun x h1 h2=>by simp only[eO,bU,h1,hx 0 x h1];exact h2
   |append=>exact aj h fun x h1 h2=>aj h2 fun y h3 h4=>by simp only[eO,bU,h1,h3,hx 0 x h1,hx 1 y h3];exact h4
   |max=>exact aj h fun x h1 h2=>aj h2 fun y h3 h4=>by simp only[eO,bU,h1,h3,hx 0 x h1,hx 1 y h3];exact h4
   |min=>exact aj h fun x h1 h2=>aj h2 fun y h3 h4=>by simp only[eO,bU,h1,h3,hx 0 x h1,hx 1 y h3];exact h4
   |_=>exact h
  |_=>exact h
 |_=>exact h
theorem ej {fr cU:List (Nat×AV)} {ow:Bool} {o:Oper} {K:AV->List (List CV)->List bz->Prop} (he:∀x∈o.op.operands.toList,bH ⟨cU,V,A⟩ x=bH ⟨fr,V,A⟩ x) (h:bJ P ⟨fr,V,A⟩ ow o K):bJ P ⟨cU,V,A⟩ ow o K:=by
 by_cases gG:∃f args ts,o.op=.call ⟨.value f,args,ts⟩
 ·obtain⟨f,args,ts,heq⟩:=gG;simp only[bJ,heq]at h he⊢;have h1:bH ⟨cU,V,A⟩ f=bH ⟨fr,V,A⟩ f:=he f (by simp[Op.operands,Call.operands]);have h2:iB ⟨cU,V,A⟩ args.toList=iB ⟨fr,V,A⟩ args.toList:=l6 fun p hp=>he p (by simp[Op.operands,Call.operands];exact .inr (by simpa using hp))
  rw[h1,h2];exact h
 ·have di:∀f args ts,o.op≠.call ⟨.value f,args,ts⟩:=fun f args ts e=>gG ⟨f,args,ts,e⟩
  rw[l5 di]at h⊢;exact Fa he h
theorem nO {ow:Bool} {o:Oper} (hs:cS o.op=true) (he:∀x∈o.op.operands.toList,bH s' x=bH s x) {x:AV} {V0:List (List CV)} {A0:List bz} (h:∀K:AV->List (List CV)->List bz->Prop,K x V0 A0->bJ P s ow o K)
  {K:AV->List (List CV)->List bz->Prop} (hK:K x s'.V s'.A):bJ P s' ow o K:=by
 have di:∀f args ts,o.op≠.call ⟨.value f,args,ts⟩:=fun f args ts e=>by rw[e]at hs;simp[cS]at hs
 have h0:=h (fun v _ _=>v=x) rfl;rw[l5 di]at h0⊢;obtain⟨dst,op,ty,pos,after,guard⟩:=o;simp only at h0 he hs⊢;cases op with
 |move y=>exact aj h0 fun v h1 h2=>by subst h2;simp only[eO,bU,he y (by simp[Op.operands]),h1];exact hK
 |assign y=>exact aj h0 fun v h1 h2=>by subst h2;simp only[eO,bU,he y (by simp[Op.operands]),h1];exact hK
 |pick c y z=>
  refine aj h0 fun v h1 h2=>?_
  split at h2
  ·rename_i t;cases t with
   |true=>simp only[if_true]at h2;exact aj h2 fun v h3 h4=>by subst h4;simp only[eO,bU,he c (by simp[Op.operands]),h1,if_true,he y (by simp[Op.operands]),h3];exact hK
   |false=>simp only[XJ,if_false]at h2;exact aj h2 fun v h3 h4=>by subst h4;simp only[eO,bU,he c (by simp[Op.operands]),h1,XJ,if_false,he z (by simp[Op.operands]),h3];exact hK
  ·exact h2.elim
 |fieldAddr t y f=>
  refine aj h0 fun d h1 h2=>aj h2 fun fo h3 h4=>?_
  obtain⟨off,sz⟩:=fo;obtain⟨h5,h6⟩:=h4;refine aj h6 fun v h7 h8=>?_
  split at h8
  ·subst h8;simp only[eO,bU,h1,h3,he y (by simp[Op.operands]),h7];exact⟨h5,hK⟩
  ·subst h8;simp only[eO,bU,h1,h3,he y (by simp[Op.operands]),h7];exact⟨h5,hK⟩
  ·subst h8;simp only[eO,bU,h1,h3,he y (by simp[Op.operands]),h7];exact⟨h5,hK⟩
  ·exact h8.elim
 |unOp op t y=>exact aj h0 fun u h1 h2=>aj h2 fun r h3 h4=>by subst h4;simp only[eO,bU,he y (by simp[Op.operands]),h1,h3];exact hK
 |binOp op t y z t'=>
  refine aj h0 fun u h1 h2=>aj h2 fun v h3 h4=>?_
  split at h4
  ·rename_i r hr;subst h4;simp only[eO,bU,he y (by simp[Op.operands]),he z (by simp[Op.operands]),h1,h3,hr];exact hK
  ·rename_i hr;split at h4
   ·rename_i r CC;subst h4;simp only[eO,bU,he y (by simp[Op.operands]),he z (by simp[Op.operands]),h1,h3,hr,CC];exact hK
   rename_i CC;exact aj h4 fun r h5 h6=>aj h6 fun d h7 h8=>by
    obtain⟨h8,h9⟩:=h8;subst h9;simp only[eO,bU,he y (by simp[Op.operands]),he z (by simp[Op.operands]),h1,h3,hr,CC,h5,h7];exact⟨h8,hK⟩
 |extract y i=>
  refine aj h0 fun v h1 h2=>?_
  split at h2
  ·refine aj h2 fun u h3 h4=>?_
   split at h4
   ·exact h4.elim
   ·subst h4;simp only[eO,bU,he y (by simp[Op.operands]),h1,h3];exact hK
  ·exact h2.elim
 |_=>simp[cS]at hs
theorem fO {acc:List Nat} {o:Oper} {k:Nat} (h:(mW acc o).testBit k=true):∃e∈o.after,Region.binds .any e=true/\(k=e.on\/(acc.getD e.on 0).testBit k=true):=by
 have key:∀(l:List Edge) (m:Nat),(l.foldl (fun m e=>if Region.binds .any e then m|||2 ^ e.on|||acc.getD e.on 0 else m) m).testBit k=true->m.testBit k=true\/∃e∈l,Region.binds .any e=true/\(k=e.on\/(acc.getD e.on 0).testBit k=true):=by
  intro l;induction l with
  |nil=>intro m h;exact .inl h
  |cons e l ih=>
   intro m h;simp only[Xl]at h;rcases ih _ h with h1|⟨e',h1,h2⟩
   ·split at h1
    ·rename_i hb;rw[XT,XT,XI,XI]at h1;rcases h1 with(h1|h1)|h1
     ·exact .inl h1
     ·rw[Nat.testBit_two_pow]at h1;exact .inr ⟨e,by simp,hb,.inl (by simpa using(by simpa using h1:e.on=k).symm)⟩
     ·exact .inr ⟨e,by simp,hb,.inr h1⟩
    ·exact .inl h1
   ·exact .inr ⟨e',by simp[h1],h2⟩
 rcases key _ 0 h with h1|⟨e,h1,h2⟩
 ·simp at h1
 ·exact⟨e,XZ.1 h1,h2⟩
theorem fe:∀(l:List Oper) (acc:List Nat),(bc l acc).length=acc.length+l.length/\(∀i,i<acc.length->(bc l acc)[i]? =acc[i]?)/\
  ∀(i:Nat) o,l[i]? =some o->∃pre:List Nat,pre.length=acc.length+i/\(∀j,j<pre.length->pre[j]? =(bc l acc)[j]?)/\(bc l acc)[acc.length+i]? =some (mW pre o)
 |[],acc=>⟨by simp[bc],fun _ _=>rfl,fun i o h=>by simp at h⟩
 |o::r,acc=>by
  obtain⟨h1,h2,h3⟩:=fe r (acc++[mW acc o]);simp only[bc];refine⟨by rw[h1];simp;omega,fun i hi=>?_,fun i o' ho=>?_⟩
  ·rw[h2 i (by simp;omega),W2 hi]
  ·cases i with
   |zero=>
    simp at ho;subst ho;refine⟨acc,by simp,fun j hj=>?_,?_⟩
    ·rw[h2 j (by simp;omega),W2 hj]
    ·rw[Nat.add_zero,h2 _ (by simp)];simp
   |succ i=>
    simp at ho;obtain⟨pre,h4,h5,h6⟩:=h3 i o' ho;simp at h4;exact⟨pre,by omega,h5,by rw[<-h6];congr 1;simp;omega⟩
theorem e9 (f:Nat->Bool):∀(fr:List (Nat×AV)) (t:Nat),look (fr.filter fun p=>f p.1) t=if f t then look fr t else none
 |[],t=>by simp[look]
 |(d,x)::r,t=>by
  by_cases hd:f d=true
  ·rw[List.filter_cons_of_pos (by exact hd)];simp only[look];rw[e9 f r t];by_cases e:t=d
   ·subst e;simp[hd]
   ·simp[e]
  ·rw[List.filter_cons_of_neg (by exact hd),e9 f r t];simp only[look];by_cases e:t=d
   ·subst e;simp[hd]
   ·simp[e]
structure DS (all:Array Oper) (ws:List Nat) (σ:Nat->St) (n:Nat) (w0:World) (g0:Gh) (af:Array Bool) (k0:Nat) (g:Gh) (a:Act) (w:World):Prop where
 inv:Inv g w (σ k0).V (σ k0).A
 fr:Fr w0 g0 w g
 size:a.tmps.size=n
 defers:a.defers=[]
 eG:af.size=all.size
 fU:∀(i:Nat) o t x,all[i]? =some o->af[i]? =some true->o.dst=some t->look (σ (i+1)).fr t=some x->∃u,a.tmps[t]? =some u/\aW g w (σ k0).A x u
 fV:∀t x,(∀(i:Nat) o,all[i]? =some o->af[i]? =some true->o.dst≠some t)->look (σ 0).fr t=some x->∃u,a.tmps[t]? =some u/\aW g w (σ k0).A x u
 eo:∀i∈ws,i<all.size->(af[i]? =some true↔i<k0)
 nP:k0<=all.size
 closed:∀(i:Nat) o,all[i]? =some o->af[i]? =some true->∀e∈o.after,Region.binds .any e=true->af[e.on]? =some true
theorem filter_le {α:Type} {p q:α->Bool} (h:∀i,p i=true->q i=true):∀(l:List α),(l.filter p).length<=(l.filter q).length
 |[]=>by simp
 |x::l=>by
  have ih:=filter_le h l;cases hp:p x with
  |true=>simp[hp,h x hp];exact ih
  |false=>cases hq:q x<;>simp[hp,hq]<;>omega
theorem filter_lt {α:Type} {p q:α->Bool} (h:∀i,p i=true->q i=true) {j:α}:∀{l:List α},j∈l->q j=true->p j=false->(l.filter p).length<(l.filter q).length
 |[],hj,_,_=>by simp at hj
 |x::l,hj,hq,hp=>by
  rcases Xa.1 hj with rfl|GO
  ·have:=filter_le h l;simp[hp,hq];omega
  ·have ih:=filter_lt h GO hq hp;cases fa:p x with
   |true=>simp[fa,h x fa];exact ih
   |false=>cases QC:q x<;>simp[fa,QC]<;>omega
theorem cK {af:Array Bool} {i:Nat}:af.getD i false=true↔af[i]? =some true:=by
 rcases XM i af.size with h|h
 ·simp[h]
 ·simp[h]
theorem ep {af:Array Bool} {i:Nat} (h:af.getD i true=false):af[i]? =some false:=by
 rcases XM i af.size with h1|h1
 ·simp[h1]at h⊢;exact h
 ·simp[h1]at h
set_option maxHeartbeats 2000000 in
theorem CN {all:Array Oper} {ow:Nat->Bool} {ws:List Nat} {σ:Nat->St} {K:St->Prop} {Q:Exit->Act->World->Prop} (hd:ey all ws=true) (fc:da n all.toList=true)
  (lT:∀(j:Nat) o,all[j]? =some o->SR P all (ow j) o (σ j) (σ (j+1))/\(j∈ws\/((σ (j+1)).V=(σ j).V/\(σ (j+1)).A=(σ j).A)))
  (hK:K (σ all.size)) (hQ:∀s' g' a' w',K s'->Rp n w0 g0 s' g' a' w'->Q .normal a' w'):
  ∀(fuel:Nat) (af:Array Bool) (k0:Nat) (g:Gh) (a:Act) (w:World),((W5 all.size).filter fun i=> !af.getD i true).length<=fuel->DS all ws σ n w0 g0 af k0 g a w->wpAny P .any all Q fuel af a w:=by
 simp only[ey,XH,Xc]at hd;obtain⟨⟨gR,jE⟩,o5⟩:=hd;have cZ:∀(j:Nat) o,all[j]? =some o->(o,j)∈all.toList.zipIdx:=fun j o h=>by
  rw[Xx];exact⟨j,by simp[XC,h]⟩
 have c8:∀(j:Nat) o,all[j]? =some o->∀e∈o.after,Region.binds .any e=true->e.on<j:=fun j o h e he hb=>by
  have:=gR _ (cZ j o h) e (XZ.2 he);simpa[hb]using this
 have b7:∀(i j:Nat) oi oj,all[i]? =some oi->all[j]? =some oj->i<j->bu all ws (bc all.toList []) oi oj i j=true:=fun i j oi oj h1 h2 ay=>by
  have:=jE _ (cZ j oj h2) _ (cZ i oi h1);simpa[ay]using this
 have uE:∀(j:Nat) o,all[j]? =some o->j∈ws->cS o.op=false:=fun j o h hj=>by
  have:=o5 _ (cZ j o h);simpa[hj]using this
 have fP:∀(i j:Nat) oi oj d,all[i]? =some oi->all[j]? =some oj->i<j->oi.dst=some d->oj.dst≠some d:=fun i j oi oj d h1 h2 ay h3 h4=>by
  have:=b7 i j oi oj h1 h2 ay;simp[bu,h3,h4]at this
 have re:∀(i j:Nat) oi oj d,all[i]? =some oi->all[j]? =some oj->oi.dst=some d->oj.dst=some d->i=j:=fun i j oi oj d h1 h2 h3 h4=>by
  rcases XR i j with h|h|h
  ·exact absurd h4 (fP i j oi oj d h1 h2 h h3)
  ·exact h
  ·exact absurd h3 (fP j i oj oi d h2 h1 h h4)
 have zG:∀(j:Nat) o d,all[j]? =some o->o.dst=some d->d<n:=fun j o d h1 h2=>by
  have:=Xc.1 fc o (by rw[XZ];exact X3 h1);simpa[h2]using this
 obtain⟨Gs,_,A7⟩:=fe all.toList []
 have mX:∀{af:Array Bool},(∀(i:Nat) o,all[i]? =some o->af[i]? =some true->∀e∈o.after,Region.binds .any e=true->af[e.on]? =some true)->
   ∀(i:Nat) o,all[i]? =some o->(∀e∈o.after,Region.binds .any e=true->af[e.on]? =some true)->∀k,((bc all.toList []).getD i 0).testBit k=true->af[k]? =some true:=by
  intro af kS i;induction i using XQ with
  |_ i ih=>
   intro o ho cL k hk;obtain⟨pre,h1,h2,h3⟩:=A7 i o (by simpa using ho);simp only[XA,XP]at h1 h3;have h4:(bc all.toList []).getD i 0=mW pre o:=by simp[W9,h3]
   rw[h4]at hk;obtain⟨e,he,hb,h5⟩:=fO hk;have s4:=cL e he hb;rcases h5 with rfl|h5
   ·exact s4
   ·have ay:=c8 i o ho e he hb;have h6:pre.getD e.on 0=(bc all.toList []).getD e.on 0:=by simp only[W9,h2 e.on (by omega)]
    rw[h6]at h5;have fB:e.on<all.size:=by have:=(XY.1 ho).1;omega
    have uF:all[e.on]? =some all[e.on]:=XX fB;exact ih e.on ay _ uF (kS e.on _ uF s4) k h5
 have l7:∀(j:Nat) o t,all[j]? =some o->o.dst≠some t->look (σ (j+1)).fr t=look (σ j).fr t:=fun j o t h1 h2=>by
  obtain⟨⟨_,h3⟩,_⟩:=lT j o h1;have kh:∀(x:AV) V A,look ((σ j).put o.dst x V A).fr t=look (σ j).fr t:=fun x V A=>by
   simp only[St.put];cases qZ:o.dst with
   |none=>rfl
   |some d=>simp only[look];rw[if_neg (fun e=>h2 (by rw[qZ,e]))]
  rcases h3 with⟨_,x,V,A,h4,_⟩|⟨_,h4⟩
  ·rw[h4];exact kh x V A
  ·rw[h4];exact kh _ _ _
 have oV:∀(j t:Nat),j<=all.size->(∀(i:Nat) o,i<j->all[i]? =some o->o.dst≠some t)->look (σ j).fr t=look (σ 0).fr t:=by
  intro j;induction j with
  |zero=>intro t _ _;rfl
  |succ j ih=>
   intro t hj fz;have ho:all[j]? =some all[j]:=XX (by omega);rw[l7 j _ t ho (fz j _ (by omega) ho)];exact ih t (by omega) (fun i o hi=>fz i o (by omega))
 have oW:∀(j i:Nat) oi t,j<=all.size->i<j->all[i]? =some oi->oi.dst=some t->look (σ j).fr t=look (σ (i+1)).fr t:=by
  intro j;induction j with
  |zero=>intro i oi t _ h;omega
  |succ j ih=>
   intro i oi t hj lr a7 cn;by_cases e:i=j
   ·subst e;rfl
   ·have ho:all[j]? =some all[j]:=XX (by omega);rw[l7 j _ t ho (fP i j oi _ t a7 ho (by omega) cn)];exact ih i oi t (by omega) (by omega) a7 cn
 have tC:∀(b a:Nat),a<=b->b<=all.size->(∀i,a<=i->i<b->i∉ws)->(σ b).V=(σ a).V/\(σ b).A=(σ a).A:=by
  intro b;induction b with
  |zero=>
   intro a h _ _;obtain rfl:a=0:=by omega
   exact⟨rfl,rfl⟩
  |succ b ih=>
   intro a PH hb fz;by_cases e:a=b+1
   ·subst e;exact⟨rfl,rfl⟩
   ·have ho:all[b]? =some all[b]:=XX (by omega);obtain⟨h1,h2⟩:=ih a (by omega) (by omega) (fun i hi EZ=>fz i hi (by omega));rcases(lT b _ ho).2 with h3|⟨h3,h4⟩
    ·exact absurd h3 (fz b (by omega) (by omega))
    ·exact⟨h3.trans h1,h4.trans h2⟩
 have lS:∀{af:Array Bool} {k0:Nat} {g:Gh} {a:Act} {w:World},DS all ws σ n w0 g0 af k0 g a w->Region.ready .any all af=[]->Q .normal a w:=by
  intro af k0 g a w hD hr;have dm:∀i,i<all.size->af[i]? =some true:=by
   intro i;induction i using XQ with
   |_ i ih=>
    intro hi;have ho:all[i]? =some all[i]:=XX hi;have bF:i<af.size:=by rw[hD.eG];exact hi
    cases hl:af[i]with
    |true=>rw[XX bF,hl]
    |false=>
     exfalso
     have:i∈Region.ready .any all af:=mem_ready.2 ⟨by simp[bF,hl],_,ho,fun e he hb=>cK.2 (ih e.on (c8 i _ ho e he hb) (by have:=c8 i _ ho e he hb;omega))⟩;rw[hr]at this;simp at this
  have kV:=tC all.size k0 hD.nP (XL _) (fun i h1 h2 h3=>by have:=(hD.eo i h3 h2).1 (dm i h2);omega);refine hQ _ g a w hK ⟨by rw[kV.1,kV.2];exact hD.inv,hD.fr,hD.size,hD.defers,fun t x hx=>?_⟩;rw[kV.2];by_cases hex:∃(i:Nat) (o:Oper),all[i]? =some o/\o.dst=some t
  ·obtain⟨i,o,ho,cn⟩:=hex;have hi:=(XY.1 ho).1;rw[oW all.size i o t (XL _) hi ho cn]at hx;exact hD.fU i o t x ho (dm i hi) cn hx
  ·rw[oV all.size t (XL _) (fun i o _ ho cn=>hex ⟨i,o,ho,cn⟩)]at hx;exact hD.fV t x (fun i o ho _ cn=>hex ⟨i,o,ho,cn⟩) hx
 intro fuel;induction fuel with
 |zero=>
  intro af k0 g a w hf hD;have la:Region.ready .any all af=[]:=by
   have h0:((W5 all.size).filter fun i=> !af.getD i true)=[]:=Xm (by omega);rcases hr:Region.ready .any all af with _|⟨j,r⟩
   ·rfl
   ·have hj:j∈Region.ready .any all af:=by rw[hr];simp
    obtain⟨h1,o,h2,_⟩:=mem_ready.1 hj;have:j∈((W5 all.size).filter fun i=> !af.getD i true):=by
     rw[Xq,Xi];exact⟨(XY.1 h2).1,by simp[h1]⟩
    rw[h0]at this;simp at this
  exact⟨la,lS hD la⟩
 |succ fuel ih=>
  intro af k0 g a w hf hD;refine⟨fun hr=>lS hD hr,fun j hj=>?_⟩;obtain⟨mY,o,ho,cL⟩:=mem_ready.1 hj;have mZ:=ep mY;have rG:j<all.size:=(XY.1 ho).1;have jk:j<af.size:=by rw[hD.eG];exact rG
  have cE:∀e∈o.after,Region.binds .any e=true->af[e.on]? =some true:=fun e he hb=>cK.1 (cL e he hb)
  have cw:∀k,((bc all.toList []).getD j 0).testBit k=true->af[k]? =some true:=mX hD.closed j o ho cE;have b4:∀(i:Nat) oi,all[i]? =some oi->af[i]? =some true->((bc all.toList []).getD i 0).testBit j=false:=fun i oi a7 bF=>by
   cases hb:((bc all.toList []).getD i 0).testBit j with
   |false=>rfl
   |true=>have:=mX hD.closed i oi a7 (hD.closed i oi a7 bF) j hb;rw[mZ]at this;simp at this
  have jJ:∀t∈o.looksAt all,∀x,look (σ j).fr t=some x->∃u,a.tmps[t]? =some u/\aW g w (σ k0).A x u:=by
   intro t ht x hx;by_cases hex:∃(i:Nat) (oi:Oper),i<j/\all[i]? =some oi/\oi.dst=some t
   ·obtain⟨i,oi,lr,a7,cn⟩:=hex;rw[oW j i oi t (by omega) lr a7 cn]at hx;have hp:=b7 i j oi o a7 ho lr;have tD:dC all oi o=true:=by simp only[dC,cn];simpa using ht
    simp only[bu,tD,XH,XI]at hp;have hb:((bc all.toList []).getD j 0).testBit i=true:=by simpa using hp.2
    exact hD.fU i oi t x a7 (cw i hb) cn hx
   ·rw[oV j t (by omega) (fun i oi lr a7 cn=>hex ⟨i,oi,lr,a7,cn⟩)]at hx;refine hD.fV t x (fun i oi a7 bF cn=>?_) hx;rcases XR i j with h|h|h
    ·exact hex ⟨i,oi,h,a7,cn⟩
    ·subst h;rw[mZ]at bF;simp at bF
    ·have hp:=b7 j i o oi ho a7 h;have tD:dC all oi o=true:=by simp only[dC,cn];simpa using ht
     have hb:=b4 i oi a7 bF;simp only[bu,tD,hb,XH,XI]at hp;simp at hp
  let cU:=(σ j).fr.filter fun p=>(o.looksAt all).contains p.1
  have ld:∀t,look cU t=if(o.looksAt all).contains t then look (σ j).fr t else none:=fun t=>e9 (fun t=>(o.looksAt all).contains t) (σ j).fr t
  have hS:∀(V:List (List CV)),iC g w ⟨cU,V,(σ k0).A⟩ a:=fun V t x hx=>by
   simp only[ld]at hx;split at hx
   ·rename_i hc;exact jJ t (by simpa using hc) x hx
   ·cases hx
  have gG:∀(V V':List (List CV)) (A A':List bz),∀x∈o.op.operands.toList,bH ⟨cU,V,A⟩ x=bH ⟨(σ j).fr,V',A'⟩ x:=fun V V' A A' x hx=>by
   cases x with
   |tmp t=>
    simp only[bH,ld];rw[if_pos];simp only[Oper.looksAt,Xn,decide_eq_true_eq,Xe,Xy];exact .inl ⟨.tmp t,hx,rfl⟩
   |_=>rfl
  have gX:Rp n w0 g0 ⟨cU,(σ k0).V,(σ k0).A⟩ g a w:=⟨hD.inv,hD.fr,hD.size,hD.defers,hS _⟩;obtain⟨⟨uA,jG⟩,CO⟩:=lT j o ho;have oX:iA all ⟨cU,(σ k0).V,(σ k0).A⟩ o True True/\gw all ⟨cU,(σ k0).V,(σ k0).A⟩ o=gw all (σ j) o:=by
   unfold iA gw at*;cases nQ:o.guard with
   |none=>simp
   |some jw=>
    obtain⟨q,want⟩:=jw;simp only[nQ]at uA⊢;obtain⟨oq,h1,h2⟩:=cI uA;obtain⟨t,h3,h4⟩:=cI h2;have:look cU t=look (σ j).fr t:=by
     rw[ld,if_pos];simp only[Oper.looksAt,nQ,Xn,decide_eq_true_eq,Xe];exact .inr (by simp[h1,h3])
    simp only[h1,bU,h3,W0,this]at h4⊢;exact⟨h4,trivial⟩
  have lD:Region.wanted o (yielded all a.tmps)=gw all (σ j) o:=by
   rw[<-oX.2];have h0:=fT oX.1;have h1:=oX.1;unfold iA at h1;unfold gw;cases nQ:o.guard with
   |none=>simp[Region.wanted,nQ]
   |some jw=>
    obtain⟨q,want⟩:=jw;simp only[nQ]at h1⊢;obtain⟨oq,h2,h3⟩:=cI h1;obtain⟨t,h4,h5⟩:=cI h3;obtain⟨x,h6,h7⟩:=cI h5;obtain⟨h8,h9⟩:=jI gX h2 h4 h6;simp only[h2,W0,h4,h6];split at h7
    ·rename_i b;simp[Region.wanted,nQ,h8 b rfl]
    ·simp[Region.wanted,nQ,h9 rfl]
    ·exact h7.elim
  have bS:∀i,(af.setIfInBounds j true)[i]? =if i=j then some true else af[i]? :=fun i=>by
   by_cases e:i=j
   ·subst e;simp[jk]
   ·rw[if_neg e,X0 (fun h=>e h.symm)]
  have c5:((W5 all.size).filter fun i=> !(af.setIfInBounds j true).getD i true).length<=fuel:=by
   have ay:((W5 all.size).filter fun i=> !(af.setIfInBounds j true).getD i true).length<((W5 all.size).filter fun i=> !af.getD i true).length:=by
    have gF:∀i,(!(af.setIfInBounds j true).getD i true)=true->(!af.getD i true)=true:=fun i h=>by
     by_cases e:i=j
     ·subst e;simp[jk]at h
     ·have:(af.setIfInBounds j true).getD i true=af.getD i true:=by
       simp only[X4,bS,if_neg e]
      rwa[this]at h
    exact filter_lt gF (Xi.2 rG) (by simp[mY]) (by simp[jk])
   omega
  have cR:∀(k1:Nat) (x:AV) (v:Value) (w':World) (g':Gh),look (σ (j+1)).fr=look ((σ j).put o.dst x [] []).fr->aW g' w' (σ k1).A x v->Inv g' w' (σ k1).V (σ k1).A->Ext g w (σ k0).A g' w' (σ k1).A->Fr w0 g0 w' g'->k1<=all.size->
    (∀i∈ws,i<all.size->((af.setIfInBounds j true)[i]? =some true↔i<k1))->DS all ws σ n w0 g0 (af.setIfInBounds j true) k1 g' (a.put o.dst v) w':=by
   intro k1 x v w' g' Cu x8 hI hx hF hk Fb;have iX:∀t u,o.dst≠some t->a.tmps[t]? =some u->(a.put o.dst v).tmps[t]? =some u:=fun t u di hu=>by
    cases qZ:o.dst with
    |none=>exact hu
    |some d=>
     simp only[Act.put];rw[X0 (fun e=>di (by rw[qZ,e]))];exact hu
   refine⟨hI,hF,?_,?_,by simp[hD.eG],fun i oi t y a7 bF cn hy=>?_,fun t y fz hy=>?_,Fb,hk,fun i oi a7 bF e he hb=>?_⟩
   ·cases o.dst<;>simp[Act.put,hD.size]
   ·cases o.dst<;>simp[Act.put,hD.defers]
   ·rw[bS]at bF;by_cases e:i=j
    ·subst e;obtain rfl:o=oi:=by rw[ho]at a7;exact Option.some.inj a7
     rw[Cu]at hy;simp only[St.put,cn,look,if_true]at hy;cases hy
     refine⟨v,?_,x8⟩;have:t<a.tmps.size:=by rw[hD.size];exact zG i o t ho cn
     simp[Act.put,cn,this]
    ·rw[if_neg e]at bF;obtain⟨u,h1,h2⟩:=hD.fU i oi t y a7 bF cn hy;exact⟨u,iX t u (fun h=>e (re i j oi o t a7 ho cn h)) h1,aW.ext hx h2⟩
   ·have di:o.dst≠some t:=fz j o ho (by rw[bS,if_pos rfl]);obtain⟨u,h1,h2⟩:=hD.fV t y (fun i oi a7 bF=>fz i oi a7 (by
     rw[bS];by_cases e:i=j
     ·rw[if_pos e]
     ·rw[if_neg e];exact bF)) hy
    exact⟨u,iX t u di h1,aW.ext hx h2⟩
   ·rw[bS]at bF⊢;have:af[e.on]? =some true:=by
     by_cases e':i=j
     ·subst e';obtain rfl:o=oi:=by rw[ho]at a7;exact Option.some.inj a7
      exact cE e he hb
     ·rw[if_neg e']at bF;exact hD.closed i oi a7 bF e he hb
    by_cases e':e.on=j
    ·rw[if_pos e']
    ·rw[if_neg e'];exact this
  have iu:j∉ws->∀i∈ws,i<all.size->((af.setIfInBounds j true)[i]? =some true↔i<k0):=fun eu i hi b8=>by
   rw[bS,if_neg (fun e=>eu (by rw[<-e];exact hi))];exact hD.eo i hi b8
  have kV:cS o.op=false->(σ j).V=(σ k0).V/\(σ j).A=(σ k0).A:=by
   intro fI;rcases XU j k0 with h|h
   ·have:=tC k0 j h hD.nP (fun i h1 h2 h3=>by
     have b8:i<all.size:=by have:=hD.nP;omega
     have bF:=(hD.eo i h3 b8).2 h2;have a7:all[i]? =some all[i]:=XX b8;rcases XM j i with h4|h4
     ·have hp:=b7 j i o _ ho a7 h4;have hb:=b4 i _ a7 bF;simp only[bu,hb,XH,XI]at hp;simp[h3,fI]at hp
     ·obtain rfl:i=j:=by omega
      rw[mZ]at bF;simp at bF)
    exact⟨this.1.symm,this.2.symm⟩
   ·exact tC j k0 h (by omega) (fun i h1 h2 h3=>by
     have b8:i<all.size:=by omega
     have a7:all[i]? =some all[i]:=XX b8;have hp:=b7 i j _ o a7 ho h2;simp only[bu,XH,XI]at hp;have hb:((bc all.toList []).getD j 0).testBit i=true:=by
      rcases hp.2 with h4|h4
      ·simp[h3,fI]at h4
      ·exact h4
     have:=(hD.eo i h3 b8).1 (cw i hb);omega)
  unfold wpOp;simp only[ho];rcases jG with⟨h1,x,V,A,h2,h3⟩|⟨h1,h2⟩
  ·rw[if_pos (by rw[lD,h1])];refine .inl ?_;by_cases hs:cS o.op=true
   ·-- slots alone
    have eu:j∉ws:=fun h=>by have:=uE j o ho h;rw[hs]at this;simp at this
    have h4:bJ P ⟨cU,(σ k0).V,(σ k0).A⟩ (ow j) o (fun y V' A'=>y=x/\V'=(σ k0).V/\A'=(σ k0).A):=nO (s:=σ j) (s':=⟨cU,(σ k0).V,(σ k0).A⟩) hs (gG _ _ _ _) h3 ⟨rfl,rfl,rfl⟩;obtain⟨y,V',A',⟨rfl,rfl,rfl⟩,h5⟩:=dj gX.inv gX.fr gX.slot h4;refine h5 _ _ fun v w' g' h6 h7 h8 h9=>ih _ k0 g' _ w' c5 (cR k0 y v w' g' (by rw[h2];rfl) h6 h7 h8 h9 hD.nP (iu eu))
   ·have fI:cS o.op=false:=by simpa using hs
    obtain⟨kJ,gn⟩:=kV fI;have h4:bJ P ⟨cU,(σ k0).V,(σ k0).A⟩ (ow j) o (fun y V' A'=>y=x/\V'=V/\A'=A):=by
     rw[<-kJ,<-gn];exact ej (fr:=(σ j).fr) (gG _ _ _ _) (h3 _ ⟨rfl,rfl,rfl⟩)
    obtain⟨y,V',A',⟨rfl,rfl,rfl⟩,h5⟩:=dj gX.inv gX.fr gX.slot h4;have s5:(σ (j+1)).V=V':=by rw[h2];rfl
    have jq:(σ (j+1)).A=A':=by rw[h2];rfl
    by_cases eu:j∈ws
    ·refine h5 _ _ fun v w' g' h6 h7 h8 h9=>ih _ (j+1) g' _ w' c5 (cR (j+1) y v w' g' (by rw[h2];rfl) (by rw[jq];exact h6) (by rw[s5,jq];exact h7) (by rw[jq];exact h8) h9 (by omega) (fun i hi b8=>?_))
     have a7:all[i]? =some all[i]:=XX b8;rw[bS];by_cases e:i=j
     ·subst e;simp
     ·rw[if_neg e];constructor
      ·intro bF;rcases XM j i with h|h
       ·have hp:=b7 j i o _ ho a7 h;have hb:=b4 i _ a7 bF;simp only[bu,hb,XH,XI]at hp;simp[hi,fI]at hp
       ·omega
      ·intro ay;have hp:=b7 i j _ o a7 ho (by omega);simp only[bu,XH,XI]at hp;rcases hp.2 with h|h
       ·simp[hi,fI]at h
       ·exact cw i h
    ·rcases CO with CO|⟨qa,mJ⟩
     ·exact absurd CO eu
     ·refine h5 _ _ fun v w' g' h6 h7 h8 h9=>ih _ k0 g' _ w' c5 (cR k0 y v w' g' (by rw[h2];rfl) ?_ ?_ ?_ h9 hD.nP (iu eu))
      ·rw[<-gn,<-mJ,jq];exact h6
      ·rw[<-kJ,<-gn,<-qa,<-mJ,s5,jq];exact h7
      ·have e1:(σ k0).A=A':=by rw[<-gn,<-mJ,jq]
       rw[e1]at h8⊢;exact h8
  ·rw[if_neg (by rw[lD,h1];simp)];have s5:(σ (j+1)).V=(σ j).V:=by rw[h2];rfl
   have jq:(σ (j+1)).A=(σ j).A:=by rw[h2];rfl
   by_cases eu:j∈ws
   ·have fI:=uE j o ho eu;obtain⟨kJ,gn⟩:=kV fI;refine ih _ (j+1) g _ w c5 (cR (j+1) (.c .undef) undef w g (by rw[h2];rfl) rfl ?_ ?_ hD.fr (by omega) (fun i hi b8=>?_))
    ·rw[s5,jq,kJ,gn];exact hD.inv
    ·rw[jq,gn];exact .refl _ _ _
    ·have a7:all[i]? =some all[i]:=XX b8;rw[bS];by_cases e:i=j
     ·subst e;simp
     ·rw[if_neg e];constructor
      ·intro bF;rcases XM j i with h|h
       ·have hp:=b7 j i o _ ho a7 h;have hb:=b4 i _ a7 bF;simp only[bu,hb,XH,XI]at hp;simp[hi,fI]at hp
       ·omega
      ·intro ay;have hp:=b7 i j _ o a7 ho (by omega);simp only[bu,XH,XI]at hp;rcases hp.2 with h|h
       ·simp[hi,fI]at h
       ·exact cw i h
   ·exact ih _ k0 g _ w c5 (cR k0 (.c .undef) undef w g (by rw[h2];rfl) rfl hD.inv (.refl _ _ _) hD.fr hD.nP (iu eu))
theorem T.uG {id:Nat} {ops:Array Oper} (hm:P.follows .mixedOrders=true) (ow:Nat->Bool) (ws:List Nat) (hd:ey ops ws=true) (h:pA P ops ow ws (fun s'=>Q .normal s') 0 ops.toList s):T P n (.region id ops true) Q s:=by
 intro eP w0 g0 g a w hR;obtain⟨σ,h0,hK,lT⟩:=pB ops.toList 0 s h;obtain⟨hI,hx⟩:=hR.inv.heap (w':={w with drawn:=w.drawn+1}) rfl;refine wp_region_any hm (CN (K:=fun s'=>Q .normal s') (w0:=w0) (g0:=g0) (n:=n) (σ:=σ) (ow:=ow) hd eP (fun j o ho=>?_) ?_ (fun s' g' a' w' h1 h2=>⟨s',g',h1,h2⟩) ops.size (X2 ops.size false) 0 g a _ ?_ ?_)
 ·have:=lT j o (by simpa using ho);simpa only[XP]using this
 ·simpa using hK
 ·exact XO (XB _ _) (by simp)
 ·refine⟨by rw[h0];exact hI,hR.fr.heap rfl rfl rfl rfl,hR.size,hR.defers,by simp,fun i o t x ho hl=>?_,fun t x _ gD=>?_,fun i _ b8=>?_,XN _,fun i o ho hl=>?_⟩
  ·have hi:=(XY.1 ho).1;simp[hi]at hl
  ·rw[h0]at gD⊢;obtain⟨u,h1,h2⟩:=hR.slot t x gD;exact⟨u,h1,aW.ext hx h2⟩
  ·simp[b8]
  ·have hi:=(XY.1 ho).1;simp[hi]at hl
end
abbrev AV.i (n:Int):AV:=.c (.d (.int .i64 n))
abbrev AV.b (x:Bool):AV:=.c (.d (.bool x))
abbrev AV.s (x:List UInt8):AV:=.c (.d (.str x))
abbrev AV.l (x:List (List DV)):AV:=.c (.d (.sl x))
abbrev DV.i (n:Int):DV:=.int .i64 n
theorem wrap64 {n:Int} (h:-9223372036854775808<=n) (h':n<=9223372036854775807):IntKind.i64.wrap n=n:=by
 have e:IntKind.i64.wrap n=if 9223372036854775808<=n % 18446744073709551616 then n % 18446744073709551616-18446744073709551616 else n % 18446744073709551616:=by simp[IntKind.wrap,IntKind.signed,IntKind.bits]
 rw[e];split<;>omega
section
variable {P:Program} {n:Nat} {Q Q':Exit->St->Prop} {s s':St} {y:Code}
theorem nR {α:Type} {o:Option α} {k k':α->Prop} (hk:∀v,k v->k' v) (h:bU o k):bU o k':=by
 cases o with
 |none=>exact h.elim
 |some v=>exact hk v h
theorem nS {all:Array Oper} {o:Oper} {y n y' n':Prop} (hy:y->y') (hn:n->n') (h:iA all s o y n):iA all s o y' n':=by
 unfold iA at h⊢;split
 ·rename_i e;rw[e]at h;exact hy h
 ·rename_i j want e;rw[e]at h;refine nR (fun oj=>nR fun t=>nR fun x=>?_) h;intro h;split at h
  ·exact⟨fun a=>hy (h.1 a),fun a=>hn (h.2 a)⟩
  ·exact hn h
  ·exact h.elim
theorem gg {o:Oper} {ow:Bool} {K K':AV->List (List CV)->List bz->Prop} (hk:∀x V A,K x V A->K' x V A) (h:bJ P s ow o K):bJ P s ow o K':=by
 obtain⟨x,V,A,h1,h2⟩:=gd h;exact h2 K' (hk x V A h1)
structure Cv (P:Program) (all:Array Oper) (ow:Nat->Bool) (K:St->Prop) (i:Nat) (ops:List Oper) (s:St):Prop where
 mk::
 run:wh P all ow K i ops s
structure tE (P:Program) (all:Array Oper) (ow:Nat->Bool) (ws:List Nat) (K:St->Prop) (i:Nat) (ops:List Oper) (s:St):Prop where
 mk::
 run:pA P all ow ws K i ops s
theorem ae {all:Array Oper} {ow:Nat->Bool} {K:St->Prop} {i:Nat} {o:Oper} {rest:List Oper} (h:iA all s o (bJ P s (ow i) o fun x V A=>Cv P all ow K (i+1) rest (s.put o.dst x V A)) (Cv P all ow K (i+1) rest (s.put o.dst (.c .undef) s.V s.A))):Cv P all ow K i (o::rest) s:=
 ⟨nS (fun h=>gg (fun _ _ _ h=>h.run) h) (fun h=>h.run) h⟩
theorem ab {all:Array Oper} {ow:Nat->Bool} {K:St->Prop} {i:Nat} (h:K s):Cv P all ow K i [] s:=⟨h⟩
theorem aH {all:Array Oper} {ow:Nat->Bool} {ws:List Nat} {K:St->Prop} {i:Nat} {o:Oper} {rest:List Oper} (h:iA all s o (bJ P s (ow i) o fun x V A=>(i∈ws\/(V=s.V/\A=s.A))/\tE P all ow ws K (i+1) rest (s.put o.dst x V A)) (tE P all ow ws K (i+1) rest (s.put o.dst (.c .undef) s.V s.A))):tE P all ow ws K i (o::rest) s:=
 ⟨nS (fun h=>gg (fun _ _ _ h=>⟨h.1,h.2.run⟩) h) (fun h=>h.run) h⟩
theorem aD {all:Array Oper} {ow:Nat->Bool} {ws:List Nat} {K:St->Prop} {i:Nat} (h:K s):tE P all ow ws K i [] s:=⟨h⟩
theorem T.rs {id:Nat} {l:List Oper} (ow:Nat->Bool) (h:∀K:St->Prop,(∀s',T P n y Q s'->K s')->Cv P l.toArray ow K 0 l s):T P n (.seq (.region id l.toArray false) y) Q s:=
 T.seq (T.region ow (h _ fun _ h=>h).run)
theorem T.rd {id:Nat} {l:List Oper} (hm:P.follows .mixedOrders=true) (ow:Nat->Bool) (ws:List Nat) (hd:ey l.toArray ws=true) (h:∀K:St->Prop,(∀s',T P n y Q s'->K s')->tE P l.toArray ow ws K 0 l s):T P n (.seq (.region id l.toArray true) y) Q s:=
 T.seq (T.uG hm ow ws hd (h _ fun _ h=>h).run)
theorem T.eQ {id:Nat} {l:List Oper} (ow:Nat->Bool) (h:∀K:St->Prop,(∀s',Q .normal s'->K s')->Cv P l.toArray ow K 0 l s):T P n (.region id l.toArray false) Q s:=
 T.region ow (h _ fun _ h=>h).run
theorem T.yd {id:Nat} {l:List Oper} (hm:P.follows .mixedOrders=true) (ow:Nat->Bool) (ws:List Nat) (hd:ey l.toArray ws=true) (h:∀K:St->Prop,(∀s',Q .normal s'->K s')->tE P l.toArray ow ws K 0 l s):T P n (.region id l.toArray true) Q s:=
 T.uG hm ow ws hd (h _ fun _ h=>h).run
@[congr] theorem MY {all:Array Oper} {ow:Nat->Bool} {K:St->Prop} {i i':Nat} {ops:List Oper} (hi:i=i') (h:s=s'):Cv P all ow K i ops s=Cv P all ow K i' ops s':=by rw[h,hi]
@[congr] theorem Ly {all:Array Oper} {ow:Nat->Bool} {ws:List Nat} {K:St->Prop} {i i':Nat} {ops:List Oper} (hi:i=i') (h:s=s'):tE P all ow ws K i ops s=tE P all ow ws K i' ops s':=by rw[h,hi]
@[congr] theorem Lz {o:Oper} {ow:Bool} {K:AV->List (List CV)->List bz->Prop} (h:s=s'):bJ P s ow o K=bJ P s' ow o K:=by rw[h]
@[congr] theorem NJ {o:Op} {ow:Bool} {K:AV->List (List CV)->List bz->Prop} (h:s=s'):eO P s ow o K=eO P s' ow o K:=by rw[h]
@[congr] theorem NK {all:Array Oper} {o:Oper} {y n:Prop} (h:s=s'):iA all s o y n=iA all s' o y n:=by rw[h]
@[congr] theorem NL {α:Type} {o o':Option α} {k:α->Prop} (h:o=o'):bU o k=bU o' k:=by rw[h]
def kj:List (Nat×AV)->List (Nat×AV)->Prop
 |[],_=>True
 |(t,x)::r,fr=>look fr t=some x/\kj r fr
theorem kj.look:∀{l fr:List (Nat×AV)},kj l fr->∀t x,look l t=some x->look fr t=some x
 |[],_,_,t,x,h=>by simp[Av.look]at h
 |(t',x')::r,fr,hs,t,x,h=>by
  simp only[Av.look]at h;split at h
  ·rename_i e;subst e;simp at h;subst h;exact hs.1
  ·exact kj.look hs.2 t x h
def Sub (s s':St):Prop:=s.V=s'.V/\s.A=s'.A/\kj s.fr s'.fr
theorem T.sub {c:Code} (h:T P n c Q s) (hs:Sub s s'):T P n c Q s':=by
 obtain⟨h1,h2,h3⟩:=hs;refine T.forget s.fr (kj.look h3) ?_;rw[<-h1,<-h2];exact h
def Round {α:Type} (S:α->St) (m:α->Nat) (H:α->Prop) (k:Nat) (Q:Exit->St->Prop):Exit->St->Prop
 |.normal,s'=>∃a',m a'<k/\H a'/\Sub (S a') s'
 |e,s'=>Q e s'
theorem T.fW {α:Type} {c:Code} (S:α->St) (m:α->Nat) (H:α->Prop) (h:∀a,H a->T P n c (Round S m H (m a) Q) (S a)) (a:α) (ha:H a) (hs:Sub (S a) s):T P n (.loop c) Q s:=by
 refine T.loop (fun k s=>∃a,m a=k/\H a/\(S a).V=s.V/\(S a).A=s.A/\∀t x,look (S a).fr t=some x->look s.fr t=some x) ?_ (k:=m a) ⟨a,rfl,ha,hs.1,hs.2.1,kj.look hs.2.2⟩;rintro k s1 ⟨a',rfl,h2,h3,h4,h5⟩;refine T.forget (S a').fr h5 ?_;rw[<-h3,<-h4];refine T.mono (h a' h2) fun e s2 h6=>?_
 cases e with
 |normal=>
  obtain⟨a2,h7,h8,h9,cO,eE⟩:=h6;exact⟨_,h7,a2,rfl,h8,h9,cO,kj.look eE⟩
 |_=>exact h6
@[congr] theorem KL {s s':St} {f:FuncId} {xs xs':List AV} {K:AV->List (List CV)->List bz->Prop} (hs:s=s') (hx:xs=xs'):gE P s f xs K=gE P s' f xs' K:=by subst hs;subst hx;rfl
theorem aa {f:FuncId} {xs as:List AV} {r:AV} {K:AV->List (List CV)->List bz->Prop} (b8:ig s.A [] xs=some as) (hc:ah P f as [] r [] []) (hK:K (r.fN [] s.V.length s.A.length) s.V (bT s.A (bD xs))):gE P s f xs K:=by
 refine .inl ⟨[],as,[],r,[],[],Xd,b8,rfl,hc,?_⟩;simpa[cl,bO]using hK
theorem aB.pure {fn:Func} {r x:AV} {e:Exit} (he:e=.normal\/e=.ret) (hr:ft P s fn.results.toList=some [x]) (hx:x.qz s.A [] []=some r):aB P fn 0 r [] [] e s:=
 ⟨he,[],[],[x],[r],hr,Xd,Xd,by simp,by simp[aA,hx],rfl,rfl,rfl⟩
end
def SS {α:Type} (f:α->List DV) (z:List DV) (l:List α) (i:Nat):List (List DV):=(l.take i).map f++List.replicate (l.length-i) z
section
variable {α:Type} {f:α->List DV} {z:List DV} {l:List α} {i:Nat}
theorem bM (h:i<l.length):∃o,l[i]? =some o:=⟨l[i],W4 h⟩
end
theorem dR {p:Prop} (h:p):p:=h
attribute [simp] bJ eO iA bU bH iB mq rP mP zB rowsOf look tc St.put gV E3 ca zy Je rO rN D1 AV.plain AV.cells CV.jW nI iN kI fK bT ig AV.kT CV.kT qx AV.fN CV.fN bD iO j9 oE cS ft uB AV.qz CV.res rW pos? v8 wi gW Sub kj kU
section
variable {P:Program} {n:Nat} {Q:Exit->St->Prop} {s:St} {y:Code}
theorem T.ct {c:Operand} {x z:Code} (hc:bH s c=some (.c (.d (.bool true)))) (h:T P n x Q s):T P n (.cond c x z) Q s:=T.cond hc (fun _=>h) (fun h=>absurd h (by decide))
theorem T.cf {c:Operand} {x z:Code} (hc:bH s c=some (.c (.d (.bool false)))) (h:T P n z Q s):T P n (.cond c x z) Q s:=T.cond hc (fun h=>absurd h (by decide)) (fun _=>h)
theorem T.r0 {id:Nat} {l:List Oper} (h:∀K:St->Prop,(∀s',T P n y Q s'->K s')->Cv P l.toArray (fun _=>false) K 0 l s):T P n (.seq (.region id l.toArray false) y) Q s:=T.rs (fun _=>false) h
theorem T.r1 {id:Nat} {l:List Oper} (h:∀K:St->Prop,(∀s',Q .normal s'->K s')->Cv P l.toArray (fun _=>false) K 0 l s):T P n (.region id l.toArray false) Q s:=T.eQ (fun _=>false) h
end
end Go.Av
namespace Go.Av
open Go
section
variable {P:Program} {all:Array Oper} {ow:Nat->Bool} {K:St->Prop} {i:Nat} {ops:List Oper} {ws:List Nat} {d:Nat} {b:Bool} {fr:List (Nat×AV)} {V:List (List CV)} {A:List bz}
theorem Cv.gen (h:∀q:Bool,b=q->Cv P all ow K i ops ⟨(d,.c (.d (.bool q)))::fr,V,A⟩):Cv P all ow K i ops ⟨(d,.c (.d (.bool b)))::fr,V,A⟩:=h b rfl
theorem tE.gen (h:∀q:Bool,b=q->tE P all ow ws K i ops ⟨(d,.c (.d (.bool q)))::fr,V,A⟩):tE P all ow ws K i ops ⟨(d,.c (.d (.bool b)))::fr,V,A⟩:=h b rfl
end
theorem aB.data {P:Program} {s:St} {fn:Func} {r:AV} {e:Exit} (he:e=.normal\/e=.ret) (hr:ft P s fn.results.toList=some [r]) (hx:r.qz s.A [] []=some r):aB P fn 0 r [] [] e s:=aB.pure he hr hx
theorem Ea {a b:Int} (h:¬a=b):(a==b)=false:=by simpa using h
abbrev dV (rows:List (List DV)):List (List CV):=rows.map fun r=>r.map CV.d
section
variable {P:Program} {s:St} {A:List bz} {f:FuncId} {xs as:List AV} {r:AV} {K:AV->List (List CV)->List bz->Prop}
theorem Hd {ids:List Nat}:∀(r:List DV),qx A ids (r.map CV.d)=some (r.map CV.d)
 |[]=>rfl
 |x::r=>by simp[Hd r]
theorem He {os ks:List Nat}:∀(r:List DV),rW A os ks (r.map CV.d)=some (r.map CV.d)
 |[]=>rfl
 |x::r=>by simp[He r]
theorem vF {ids:List Nat} {V:List (List CV)}:∀(ls:List Nat) (rows:List (List DV)),ls.length=rows.length->(∀(j l:Nat) row,ls[j]? =some l->rows[j]? =some row->V[l]? =some (row.map CV.d))->ij A V ids ls=some (dV rows)
 |[],[],_,_=>rfl
 |l::ls,row::rows,hl,h=>by
  simp only[ij,h 0 l row rfl rfl,vF ls rows (by simpa using hl) (fun j l row h1 h2=>h (j+1) l row (by simpa using h1) (by simpa using h2)),Hd]
  rfl
 |[],_::_,hl,_=>by simp at hl
 |_::_,[],hl,_=>by simp at hl
theorem vG {os ks:List Nat} {V:List (List CV)}:∀(ls:List Nat) (rows:List (List DV)),ls.length=rows.length->(∀(j l:Nat) row,ls[j]? =some l->rows[j]? =some row->V[l]? =some (row.map CV.d))->fD A V os ks ls=some (dV rows)
 |[],[],_,_=>rfl
 |l::ls,row::rows,hl,h=>by
  simp only[fD,h 0 l row rfl rfl,vG ls rows (by simpa using hl) (fun j l row h1 h2=>h (j+1) l row (by simpa using h1) (by simpa using h2)),He]
  rfl
 |[],_::_,hl,_=>by simp at hl
 |_::_,[],hl,_=>by simp at hl
theorem rY {nA nV:Nat} {ids:List Nat}:∀(ls:List Nat) (rows:List (List DV)) (V:List (List CV)),ls.length=rows.length->(∀(j l:Nat) row,ls[j]? =some l->rows[j]? =some row->V[l]? =some (row.map CV.d))->cl nA nV ids V ls (dV rows)=V
 |[],[],V,_,_=>by simp[cl]
 |l::ls,row::rows,V,hl,h=>by
  have h0:=h 0 l row rfl rfl;have hm:(row.map CV.d).map (CV.fN ids nV nA)=row.map CV.d:=by simp[Xz,Function.comp_def]
  have bS:V.set l (row.map CV.d)=V:=by
   obtain⟨h1,h2⟩:=W1.1 h0;rw[<-h2];simp
  simp only[dV,Xg,cl,hm,bS];exact rY ls rows V (by simpa using hl) (fun j l row h1 h2=>h (j+1) l row (by simpa using h1) (by simpa using h2))
 |[],_::_,_,hl,_=>by simp at hl
 |_::_,[],_,hl,_=>by simp at hl
theorem nT {V:List (List CV)}:∀(ls:List Nat) (rows:List (List DV)),ls.length=rows.length->(∀(j l:Nat) row,ls[j]? =some l->rows[j]? =some row->V[l]? =some (row.map CV.d))->∃ds:List DV,bO V ls=ds.map CV.d
 |[],[],_,_=>⟨[],rfl⟩
 |l::ls,row::rows,hl,h=>by
  obtain⟨ds,hd⟩:=nT ls rows (by simpa using hl) (fun j l row h1 h2=>h (j+1) l row (by simpa using h1) (by simpa using h2));refine⟨row++ds,?_⟩;have h0:=h 0 l row rfl rfl;simp only[bO,Xb]at hd⊢;rw[hd];simp[W9,h0]
 |[],_::_,hl,_=>by simp at hl
 |_::_,[],hl,_=>by simp at hl
theorem rZ:∀(ds:List DV) (A:List bz),bT A (ds.map CV.d)=A
 |[],A=>rfl
 |d::ds,A=>by
  simp only[Xg,bT,Xl,fK];exact rZ ds A
theorem mw (A:List bz) (cs ds:List CV):bT A (cs++ds)=bT (bT A cs) ds:=by simp[bT]
theorem A8 (ids:List Nat) (rows:List (List DV)) (oU:ids.Nodup) (hlen:ids.length=rows.length) (AU:∀(j l:Nat) row,ids[j]? =some l->rows[j]? =some row->s.V[l]? =some (row.map CV.d)) (b8:ig s.A ids xs=some as) (hc:ah P f as (dV rows) r (dV rows) [])
  (hK:K (r.fN ids s.V.length s.A.length) s.V (bT s.A (bD xs))):gE P s f xs K:=by
 refine .inl ⟨ids,as,dV rows,r,dV rows,[],oU,b8,vF ids rows hlen AU,hc,?_⟩;rw[rY ids rows s.V hlen AU];obtain⟨ds,hd⟩:=nT ids rows hlen AU;rw[hd,mw,rZ,Xh];exact hK
theorem aB.QT {fn:Func} {e:Exit} {rows:List (List DV)} {m:Nat} (hm:m=rows.length) (he:e=.normal\/e=.ret) (hr:ft P s fn.results.toList=some [r]) (hx:r.qz s.A (W5 rows.length) []=some r)
  (hV:∀(l:Nat) row,rows[l]? =some row->s.V[l]? =some (row.map CV.d)):aB P fn m r (dV rows) [] e s:=by
 subst hm;refine⟨he,[],[],[r],[r],hr,Xd,Xd,by simp,?_,rfl,?_,rfl⟩
 ·rw[Xh];simp only[aA,hx]
 rw[Xh];refine vG (W5 rows.length) rows (by simp) fun j l row h1 h2=>?_
 have hj:j<rows.length:=(W1.1 h2).1;simp[hj]at h1;subst h1;exact hV j row h2
end
def gk {α β:Type} (q:α->β->Bool):List α->List β->Bool
 |[],[]=>true
 |x::xs,y::ys=>q x y && gk q xs ys
 |_,_=>false
theorem r7 {α β:Type} {q:α->β->Bool}:∀{xs:List α} {ys:List β},gk q xs ys=true->xs.length=ys.length
 |[],[],_=>rfl
 |x::xs,y::ys,h=>by simp[gk]at h;simp[r7 h.2]
 |[],_::_,h=>by simp[gk]at h
 |_::_,[],h=>by simp[gk]at h
theorem Eb {α β:Type} {q:α->β->Bool} {xs:List α} {ys:List β} (h:xs.length≠ys.length):gk q xs ys=false:=by
 cases hq:gk q xs ys
 ·rfl
 ·exact absurd (r7 hq) h
def ew {α:Type} (q:α->Bool):List α->Int->Int
 |[],_=>-1
 |x::xs,i=>if q x=true then i else ew q xs (i+1)
theorem l8 {α:Type} {q:α->Bool}:∀{xs:List α} {i:Int},0<=i->(decide (0<=ew q xs i)=xs.any q)
 |[],i,_=>by simp[ew]
 |x::xs,i,h=>by
  by_cases hq:q x=true
  ·simp[ew,hq,h]
  ·have hr:=l8 (q:=q) (xs:=xs) (i:=i+1) (by omega);simp only[ew,hq,List.any_cons];simpa using hr
theorem pC {α:Type} (p:α->Bool):∀(l:List α),(!l.any fun x=> !p x)=l.all p
 |[]=>rfl
 |x::l=>by simp[<-pC p l,Bool.not_or]
theorem drop_cons {α:Type} {l:List α} {p:Nat} (h:p<l.length):l.drop p=l[p]::l.drop (p+1):=by rw[List.drop_eq_getElem_cons h]
@[simp] theorem iY {α:Type} (G X:List α) (k:Nat):(G++X)[G.length+k]? =X[k]? :=by
 rw[W3 (by omega)];congr 1;omega
@[simp] theorem gY {α:Type} (G X:List α):(G++X)[G.length]? =X[0]? :=by
 rw[W3 (by omega)];congr 1;omega
@[simp] theorem iZ {α:Type} (G X:List α) (k:Nat) (v:α):(G++X).set (G.length+k) v=G++X.set k v:=by
 rw[Xw _ _ (by omega)];congr 2;omega
@[simp] theorem gZ {α:Type} (G X:List α) (v:α):(G++X).set G.length v=G++X.set 0 v:=by
 rw[Xw _ _ (by omega)];congr 2;omega
theorem tF {α β:Type} {q:α->β->Bool} {x:α} {y:β} {xs:List α} {ys:List β}:gk q (x::xs) (y::ys)=(q x y && gk q xs ys):=rfl
theorem wm {α β:Type} {q:α->β->Bool}:gk q [] ([]:List β)=true:=rfl
abbrev Us (n:Nat):List AV:=(W5 n).map fun l=>.c (.ptr l 0)
section
variable {P:Program} {s:St} {A:List bz} {f:FuncId} {xs as:List AV} {r:AV} {K:AV->List (List CV)->List bz->Prop}
theorem l9 (l:Nat) (row:List DV) (ef:s.V[l]? =some (row.map CV.d)) (b8:ig s.A [l] xs=some as) (hc:ah P f as (dV [row]) r (dV [row]) [])
  (hK:K (r.fN [l] s.V.length s.A.length) s.V (bT s.A (bD xs))):gE P s f xs K:=by
 refine A8 [l] [row] (by simp) rfl ?_ b8 hc hK;intro j l' row' h1 h2
 match j with
 |0=>simp at h1 h2;subst h1;subst h2;exact ef
 |j+1=>simp at h1
theorem aB.val {fn:Func} {e:Exit} (he:e=.normal\/e=.ret) (hr:(ft P s fn.results.toList).bind (aA s.A [] [])=some [r]):aB P fn 0 r [] [] e s:=by
 cases hx:ft P s fn.results.toList with
 |none=>rw[hx]at hr;simp at hr
 |some xs=>rw[hx]at hr;exact⟨he,[],[],xs,[r],hx,Xd,Xd,by simp,hr,rfl,rfl,rfl⟩
theorem aB.a8 {fn:Func} {e:Exit} {a b:AV} {ys:List AV} (he:e=.normal\/e=.ret) (hr:(ft P s fn.results.toList).bind (aA s.A [] [])=some (a::b::ys)):aB P fn 0 (.a8 (a::b::ys)) [] [] e s:=by
 cases hx:ft P s fn.results.toList with
 |none=>rw[hx]at hr;simp at hr
 |some xs=>rw[hx]at hr;exact⟨he,[],[],xs,_,hx,Xd,Xd,by simp,hr,rfl,rfl,rfl⟩
theorem ja (l:Nat) (row row':List DV) (ef:s.V[l]? =some (row.map CV.d)) (b8:ig s.A [l] xs=some as) (hc:ah P f as (dV [row]) r (dV [row']) [])
  (hK:K (r.fN [l] s.V.length s.A.length) (s.V.set l (row'.map CV.d)) (bT s.A (bD xs))):gE P s f xs K:=by
 refine .inl ⟨[l],as,dV [row],r,dV [row'],[],by simp,b8,vF [l] [row] rfl ?_,hc,?_⟩
 ·intro j l' row'' h1 h2
  match j with
  |0=>simp at h1 h2;subst h1;subst h2;exact ef
  |j+1=>simp at h1
 ·obtain⟨ds,hd⟩:=nT (V:=s.V) [l] [row] rfl (by
   intro j l' row'' h1 h2
   match j with
   |0=>simp at h1 h2;subst h1;subst h2;exact ef
   |j+1=>simp at h1)
  rw[hd,mw,rZ,Xh];have hm:(row'.map CV.d).map (CV.fN [l] s.V.length s.A.length)=row'.map CV.d:=by simp[Xz,Function.comp_def]
  have hp:cl s.A.length s.V.length [l] s.V [l] (dV [row'])=s.V.set l (row'.map CV.d):=by
   simp only[dV,Xg,List.map_nil,cl,hm,Xh]
  rw[hp];exact hK
theorem aB.oY {fn:Func} {e:Exit} {row:List DV} (he:e=.normal\/e=.ret) (hr:ft P s fn.results.toList=some [r]) (hx:r.qz s.A [0] []=some r)
  (hV:s.V[0]? =some (row.map CV.d)):aB P fn 1 r (dV [row]) [] e s:=by
 refine aB.QT (rows:=[row]) rfl he hr hx ?_;intro l row' h
 match l with
 |0=>simp at h;subst h;exact hV
 |l+1=>simp at h
end
section
variable {P:Program} {n:Nat} {Q:Exit->St->Prop} {s:St} {x y:Code}
def Cut (S:St) (Q:Exit->St->Prop):Exit->St->Prop
 |.normal,s'=>Sub S s'
 |e,s'=>Q e s'
end
end Go.Av
namespace Go.Av
attribute [-simp] Go.Av.iY Go.Av.gY Go.Av.iZ Go.Av.gZ
open Go
inductive aI where
 |mk (kind:Int) (kids:List aI)
def aI.kind:aI->Int|.mk k _=>k
def aI.kids:aI->List aI|.mk _ l=>l
inductive ao where
 |mk (kind:Int) (name:List UInt8) (num:Int) (ty fr:aI) (label:Int) (kids:List ao)
def ao.kind:ao->Int|.mk k _ _ _ _ _ _=>k
def ao.name:ao->List UInt8|.mk _ s _ _ _ _ _=>s
def ao.num:ao->Int|.mk _ _ n _ _ _ _=>n
def ao.ty:ao->aI|.mk _ _ _ t _ _ _=>t
def ao.fr:ao->aI|.mk _ _ _ _ t _ _=>t
def ao.label:ao->Int|.mk _ _ _ _ _ l _=>l
def ao.kids:ao->List ao|.mk _ _ _ _ _ _ l=>l
@[simp] theorem aI.bX (k:Int) (l:List aI):(aI.mk k l).kind=k:=rfl
@[simp] theorem aI.bQ (k:Int) (l:List aI):(aI.mk k l).kids=l:=rfl
section
variable (k:Int) (s:List UInt8) (n:Int) (t f:aI) (b:Int) (l:List ao)
@[simp] theorem ao.bX:(ao.mk k s n t f b l).kind=k:=rfl
@[simp] theorem ao.lf:(ao.mk k s n t f b l).name=s:=rfl
@[simp] theorem ao.pD:(ao.mk k s n t f b l).num=n:=rfl
@[simp] theorem ao.oH:(ao.mk k s n t f b l).ty=t:=rfl
@[simp] theorem ao.qJ:(ao.mk k s n t f b l).fr=f:=rfl
@[simp] theorem ao.km:(ao.mk k s n t f b l).label=b:=rfl
@[simp] theorem ao.bQ:(ao.mk k s n t f b l).kids=l:=rfl
end
mutual
def ck:aI->List DV
 |.mk k l=>[.i k,.sl (Jt l)]
def Jt:List aI->List (List DV)
 |[]=>[]
 |t::r=>ck t::Jt r
end
theorem A9:∀(l:List aI),Jt l=l.map ck
 |[]=>rfl
 |t::r=>by simp[Jt,A9 r]
theorem aJ (t:aI):ck t=[.i t.kind,.sl (t.kids.map ck)]:=by
 cases t;simp[ck,A9]
mutual
def gp:ao->List DV
 |.mk k s n t f l kids=>[.i k,.str s,.i n,.i t.kind,.sl (t.kids.map ck),.i f.kind,.sl (f.kids.map ck),.i l,.sl (Ju kids)]
def Ju:List ao->List (List DV)
 |[]=>[]
 |t::r=>gp t::Ju r
end
theorem Bb:∀(l:List ao),Ju l=l.map gp
 |[]=>rfl
 |t::r=>by simp[Ju,Bb r]
theorem al (e:ao):gp e=[.i e.kind,.str e.name,.i e.num,.i e.ty.kind,.sl (e.ty.kids.map ck),.i e.fr.kind,.sl (e.fr.kids.map ck),.i e.label,.sl (e.kids.map gp)]:=by
 cases e;simp[gp,Bb]
abbrev dE (t:aI):AV:=.agg [.d (.i t.kind),.d (.sl (t.kids.map ck))]
abbrev cM (e:ao):AV:=.agg [.d (.i e.kind),.d (.str e.name),.d (.i e.num),.d (.i e.ty.kind),.d (.sl (e.ty.kids.map ck)),.d (.i e.fr.kind),.d (.sl (e.fr.kids.map ck)),.d (.i e.label),.d (.sl (e.kids.map gp))]
/- How many nodes lie below a node. -/
mutual
def fA:aI->Nat
 |.mk _ l=>cP l
def cP:List aI->Nat
 |[]=>0
 |t::r=>1+fA t+cP r
end
mutual
def eR:ao->Nat
 |.mk _ s _ t f _ kids=>s.length+fA t+fA f+eW kids
def eW:List ao->Nat
 |[]=>0
 |e::r=>1+eR e+eW r
end
theorem eI (t:aI):fA t=cP t.kids:=by cases t;simp[fA]
theorem iJ (e:ao):eR e=e.name.length+fA e.ty+fA e.fr+eW e.kids:=by cases e;simp[eR]
theorem fX:∀(l:List aI),l.length<=cP l
 |[]=>by simp[cP]
 |t::r=>by have:=fX r;simp[cP];omega
theorem pE:∀(l:List ao),l.length<=eW l
 |[]=>by simp[eW]
 |t::r=>by have:=pE r;simp[eW];omega
theorem fE:∀{l:List aI} {t:aI},t∈l->fA t<cP l
 |x::r,t,h=>by
  simp only[Xa]at h;simp only[cP];rcases h with rfl|h
  ·omega
  ·have:=fE h;omega
theorem wo:∀{l:List ao} {e:ao},e∈l->eR e<eW l
 |x::r,t,h=>by
  simp only[Xa]at h;simp only[eW];rcases h with rfl|h
  ·omega
  ·have:=wo h;omega
def SU (l:List aI):Nat:=(l.map fA).sum
def SV (l:List ao):Nat:=(l.map eR).sum
theorem ma:∀(l:List Nat) (i:Nat),(l.take i).sum<=l.sum
 |[],i=>by simp
 |x::r,0=>by simp
 |x::r,i+1=>by have:=ma r i;simp;omega
/- No row is longer than any Go slice. -/
mutual
def QU:aI->Prop
 |.mk _ l=>l.length<=9223372036854775807/\NM l
def NM:List aI->Prop
 |[]=>True
 |t::r=>QU t/\NM r
end
mutual
def Ut:ao->Prop
 |.mk _ s _ t f _ kids=>s.length<=9223372036854775807/\QU t/\QU f/\kids.length<=9223372036854775807/\NN kids
def NN:List ao->Prop
 |[]=>True
 |e::r=>Ut e/\NN r
end
def VI (n:Nat) (left:Int):Int:=if(n:Int)<=left then left-n else-1
end Go.Av
namespace Go.Av
open Go
theorem aI.ind {P:aI->Prop} (h:∀t,(∀u∈t.kids,P u)->P t):∀t,P t
 |.mk k l=>h _ (fun u hu=>aI.ind h u)
termination_by t=>SizeOf.sizeOf t
decreasing_by simp at hu;have:=Xv hu;simp;omega
theorem ao.ind {P:ao->Prop} (h:∀e,(∀u∈e.kids,P u)->P e):∀e,P e
 |.mk k s n t f b l=>h _ (fun u hu=>ao.ind h u)
termination_by e=>SizeOf.sizeOf e
decreasing_by simp at hu;have:=Xv hu;simp;omega
def nD (x lo hi:Int):Bool:=decide (lo<=x)&& decide (x<=hi)
def dX:List UInt8->Bool
 |[c]=>decide (97<=c.toNat)&& decide (c.toNat<=122)
 |_=>false
def ed (t:aI):Bool:=decide (t.kind=0)&& decide (t.kids=[])
def CP (n:Int):Bool:=nD n 1 99||nD n (-99) (-1)
def cm (k:Int):Int:=
 if k=1\/k=2\/k=3\/k=4 then 0 else if k=5\/k=11\/k=12\/k=13\/k=14 then 1 else if k=6\/k=7\/k=8\/k=10 then 2 else if k=9 then 3 else-1
def cz (k:Int):Int:=if k=1\/k=2\/k=3 then 0 else if k=4\/k=5 then 2 else-1
def ak:Nat->aI->Bool
 |0,_=>false
 |d+1,t=>decide (cz t.kind=t.kids.length)&& t.kids.all (ak d)
theorem eg {d:Nat} {t:aI} (h:ak d t=true):∃e,d=e+1/\cz t.kind=t.kids.length/\t.kids.length<=2/\∀u∈t.kids,ak e u=true:=by
 cases d with
 |zero=>simp[ak]at h
 |succ e=>
  simp only[ak,XH,decide_eq_true_eq,Xc]at h;refine⟨e,rfl,h.1,?_,h.2⟩;have:=h.1;simp only[cz]at this;split at this
  ·omega
  ·split at this<;>omega
mutual
def aG:aI->aI->Bool
 |.mk k l,.mk k' l'=>decide (k=1)||decide (k'=1)||(decide (k=k')&& qd l l')
def qd:List aI->List aI->Bool
 |[],[]=>true
 |x::xs,y::ys=>aG x y && qd xs ys
 |_,_=>false
end
theorem r8:∀(l m:List aI),qd l m=gk aG l m
 |[],[]=>rfl
 |x::xs,y::ys=>by simp[qd,gk,r8 xs ys]
 |[],_::_=>rfl
 |_::_,[]=>rfl
theorem nU (a b:aI):aG a b=(decide (a.kind=1)||decide (b.kind=1)||(decide (a.kind=b.kind)&& gk aG a.kids b.kids)):=by
 cases a;cases b;simp only[aG,r8];rfl
/- A node by itself, but for the number of its operands. -/
def ea (k:Int):Bool:=decide (k=1)||decide (k=5)
def cg (k:Int):Bool:=decide (k=5)||decide (k=13)||decide (k=14)
def pF (e:ao):Bool:=ak 4 e.fr && ak 4 e.ty && aG e.fr e.ty && CP e.label
def fu (e:ao):Bool:=
 (if ea e.kind then dX e.name else decide (e.name=[]))&& nD e.num 0 (if e.kind=2 then 999 else 0)&&
 (if cg e.kind then ak 4 e.ty else ed e.ty)&&(if e.kind=14 then pF e else ed e.fr && decide (e.label=0))
def gq (e:ao):Bool:=decide (cm e.kind=e.kids.length)&& fu e
def bm (nt:Int):Nat->ao->Bool
 |0,_=>false
 |d+1,e=>decide (e.kind≠nt)&& gq e && e.kids.all (bm nt d)
def cV:Nat->ao->Nat
 |0,_=>1
 |d+1,e=>1+(e.kids.map (cV d)).sum
/- A scan from a node on: whether it goes through, and how many nodes it has seen. -/
mutual
def jD (mn md nt:Int):Int->ao->Int->Bool×Int
 |deep,.mk k s n t f b l,c=>if mn<c+1\/md<deep\/k=nt\/gq (.mk k s n t f b l)=false then(false,c+1)else lE mn md nt (deep+1) l (c+1)
def lE (mn md nt:Int):Int->List ao->Int->Bool×Int
 |_,[],c=>(true,c)
 |deep,e::r,c=>if(jD mn md nt deep e c).1=true then lE mn md nt deep r (jD mn md nt deep e c).2 else(false,(jD mn md nt deep e c).2)
end
theorem tG (mn md nt deep:Int) (e:ao) (c:Int):jD mn md nt deep e c=if mn<c+1\/md<deep\/e.kind=nt\/gq e=false then(false,c+1)else lE mn md nt (deep+1) e.kids (c+1):=by
 cases e;simp only[jD];rfl
theorem yF (mn md nt:Int):∀(e:ao) (d:Nat) (c:Int),0<=c->c<=mn->
  (jD mn md nt (md+1-d) e c).1=(bm nt d e && decide (c+cV d e<=mn))/\(bm nt d e=true->c+cV d e<=mn->(jD mn md nt (md+1-d) e c).2=c+cV d e):=by
 intro e;induction e using ao.ind with
 |h e ih=>
  intro d c h0 hc;rw[tG];cases d with
  |zero=>
   rw[if_pos (by right;left;omega)];simp[bm]
  |succ d=>
   have q0:∀(x:Nat) (y:ao),1<=cV x y:=fun x y=>by cases x<;>simp[cV]
   have c5:cV (d+1) e=1+(e.kids.map (cV d)).sum:=rfl;by_cases Fc:mn<c+1\/md<md+1-((d+1:Nat):Int)\/e.kind=nt\/gq e=false
   ·rw[if_pos Fc];have hf:(bm nt (d+1) e && decide (c+cV (d+1) e<=mn))=false:=by
     have:=q0 (d+1) e;rcases Fc with h|h|h|h
     ·simp;intro _;omega
     ·omega
     ·simp[bm,h]
     ·simp[bm,h]
    refine⟨hf.symm,fun h1 h2=>?_⟩;rw[h1]at hf;simp at hf;omega
   ·rw[if_neg Fc];have hk:e.kind≠nt:=fun h=>Fc (by simp[h])
    have hn:gq e=true:=by
     cases h:gq e
     ·exact absurd (by simp[h]) Fc
     ·rfl
    have jY:bm nt (d+1) e=e.kids.all (bm nt d):=by simp[bm,hk,hn]
    rw[jY,c5,show md+1-((d+1:Nat):Int)+1=md+1-(d:Int) by omega]
    have Hf:∀(l:List ao),(∀u∈l,u∈e.kids)->∀c:Int,0<=c->c<=mn->(lE mn md nt (md+1-d) l c).1=(l.all (bm nt d)&& decide (c+(l.map (cV d)).sum<=mn))/\
      (l.all (bm nt d)=true->c+(l.map (cV d)).sum<=mn->(lE mn md nt (md+1-d) l c).2=c+(l.map (cV d)).sum):=by
     intro l;induction l with
     |nil=>intro _ c h0 hc;simp[lE];omega
     |cons x r ihl=>
      intro hm c h0 hc;obtain⟨h1,h2⟩:=ih x (hm x (by simp)) d c h0 hc;simp only[lE,XG,Xg,List.sum_cons];cases hx:(jD mn md nt (md+1-d) x c).1 with
      |false=>
       rw[hx]at h1;simp only[XJ,if_false];cases hs:bm nt d x with
       |false=>simp
       |true=>
        rw[hs]at h1;simp at h1;refine⟨?_,fun _ h=>?_⟩
        ·symm;simp;intro _;omega
        ·omega
      |true=>
       rw[hx]at h1;have mu:=h1.symm;simp only[XH,decide_eq_true_eq]at mu;rw[h2 mu.1 mu.2];obtain⟨h3,h4⟩:=ihl (fun u hu=>hm u (by simp[hu])) (c+cV d x) (by omega) mu.2;simp only[if_true];rw[h3,mu.1];refine⟨?_,fun h5 h6=>?_⟩
       ·simp only[Bool.true_and]
        congr 1
        exact decide_eq_decide.2 (by omega)
       ·rw[h4 (by simpa using h5) (by omega)];omega
    obtain⟨h1,h2⟩:=Hf e.kids (fun _ h=>h) (c+1) (by omega) (by omega);rw[h1];refine⟨?_,fun h3 h4=>?_⟩
    ·congr 1
     exact decide_eq_decide.2 (by omega)
    ·rw[h2 h3 (by omega)];omega
theorem Hg (mn md nt:Int):∀(e:ao) (deep c:Int),0<=c->(jD mn md nt deep e c).1=true->0<=(jD mn md nt deep e c).2/\(jD mn md nt deep e c).2<=mn:=by
 intro e;induction e using ao.ind with
 |h e ih=>
  intro deep c h0;rw[tG];split
  ·simp
  ·rename_i Fc;have Hf:∀(l:List ao),(∀u∈l,u∈e.kids)->∀c:Int,0<=c->c<=mn->(lE mn md nt (deep+1) l c).1=true->0<=(lE mn md nt (deep+1) l c).2/\(lE mn md nt (deep+1) l c).2<=mn:=by
    intro l;induction l with
    |nil=>intro _ c h0 hc _;exact⟨h0,hc⟩
    |cons x r ihl=>
     intro hm c h0 hc;simp only[lE];split
     ·rename_i hx;obtain⟨h1,h2⟩:=ih x (hm x (by simp)) (deep+1) c h0 hx;exact ihl (fun u hu=>hm u (by simp[hu])) _ h1 h2
     ·simp
   exact Hf e.kids (fun _ h=>h) (c+1) (by omega) (by omega)
theorem wq:∀(d:Nat) (e:ao),cV d e<=1+eR e
 |0,e=>by simp[cV]
 |d+1,e=>by
  have h:∀l:List ao,(l.map (cV d)).sum<=eW l:=by
   intro l;induction l with
   |nil=>simp[eW]
   |cons x r ih=>have:=wq d x;simp[eW];omega
  have:=h e.kids;rw[iJ];simp only[cV];omega
/- No casts, and no types but the unknown one. -/
mutual
def KM:ao->Bool
 |.mk k _ _ t _ _ l=>decide (k≠14)&&(decide (k≠5)||decide (t.kind=1))&& KN l
def KN:List ao->Bool
 |[]=>true
 |e::r=>KM e && KN r
end
def eS (e:ao):Bool:=bm 13 40 e && decide (cV 40 e<=200)
def aQ (e:ao):Bool:=bm 14 12 e && decide (cV 12 e<=30)
structure dF where
 name:List UInt8
 ty:aI
def iE (b:dF):List DV:=[.str b.name,.i b.ty.kind,.sl (b.ty.kids.map ck)]
abbrev lg:aI:=.mk 1 []
abbrev bw:aI:=.mk 2 []
abbrev cF:aI:=.mk 3 []
abbrev bk:aI:=.mk 0 []
mutual
def bN:aI->aI->aI
 |.mk k l,.mk k' l'=>if k=1 then .mk k' l' else if k'=1 then .mk k l else .mk k (jZ l l')
def jZ:List aI->List aI->List aI
 |x::xs,y::ys=>bN x y::jZ xs ys
 |_,_=>[]
end
theorem uH:∀(l m:List aI),jZ l m=Xt bN l m
 |[],_=>by simp[jZ]
 |x::xs,[]=>by simp[jZ]
 |x::xs,y::ys=>by simp[jZ,uH xs ys]
theorem gH (a b:aI):bN a b=if a.kind=1 then b else if b.kind=1 then a else .mk a.kind (Xt bN a.kids b.kids):=by
 cases a;cases b;simp only[bN,uH];rfl
def dY:List dF->List UInt8->Option aI
 |[],_=>none
 |b::r,s=>match dY r s with
  |some t=>some t
  |none=>if b.name=s then some b.ty else none
def rf (ctx:List dF):Bool:=ctx.all (fun b=>dX b.name && ak 4 b.ty)&& decide (ctx.length<=12)
def db (k:Int) (t:aI):Option (aI×aI):=
 if t.kind=1 then some (lg,lg)else if t.kind=k then match t.kids with
  |a::b::_=>some (a,b)
  |_=>none
 else none
def r9 (k:Int) (a b:aI):Option aI:=if ak 4 (.mk k [a,b])=true then some (.mk k [a,b])else none
def dp (ctx:List dF) (k:Int) (name:List UInt8) (ty:aI) (ts:List aI):Option aI:=
 if k=1 then dY ctx name
 else if k=2 then some bw
 else if k=3\/k=4 then some cF
 else match ts with
  |[a]=>
   if k=5 then r9 4 ty a
   else if k=11 then(db 5 a).map (·.1)
   else if k=12 then(db 5 a).map (·.2)
   else if k=13 then if aG a ty=true then some ty else none
   else none
  |[a,b]=>
   if k=6 then match db 4 a with
    |some (x,y)=>if aG b x=true then some y else none
    |none=>none
   else if k=7 then if aG a bw=true/\aG b bw=true then some bw else none
   else if k=8 then if aG a bw=true/\aG b bw=true then some cF else none
   else if k=10 then r9 5 a b
   else none
  |[a,b,c]=>if k=9 then if aG b c=true/\aG a cF=true then some (bN b c)else none else none
  |_=>none
mutual
def eM:List dF->ao->Option aI
 |ctx,.mk k s n t f b l=>match ez (if k=5 then ctx++[⟨s,t⟩]else ctx) l with
  |none=>none
  |some ts=>dp ctx k s t ts
def ez:List dF->List ao->Option (List aI)
 |_,[]=>some []
 |ctx,e::r=>match eM ctx e with
  |none=>none
  |some t=>match ez ctx r with
   |none=>none
   |some ts=>some (t::ts)
end
def cx (ctx:List dF) (e:ao):List dF:=if e.kind=5 then ctx++[⟨e.name,e.ty⟩]else ctx
theorem na (ctx:List dF) (e:ao):eM ctx e=match ez (cx ctx e) e.kids with
  |none=>none
  |some ts=>dp ctx e.kind e.name e.ty ts:=by
 cases e;simp only[eM];rfl
theorem uI {a b:aI} (h:aG a b=true) (ha:a.kind≠1) (hb:b.kind≠1):a.kind=b.kind/\gk aG a.kids b.kids=true:=by
 rw[nU]at h;simpa[ha,hb]using h
theorem zI {α β:Type} {q:α->β->Bool}:∀{xs:List α} {ys:List β} {i:Nat} {x:α} {y:β},gk q xs ys=true->xs[i]? =some x->ys[i]? =some y->q x y=true
 |[],_,_,_,_,_,h,_=>by simp at h
 |x::xs,[],_,_,_,h,_,_=>by simp[gk]at h
 |x::xs,y::ys,0,_,_,h,h1,h2=>by simp[gk]at h;simp at h1 h2;subst h1;subst h2;exact h.1
 |x::xs,y::ys,i+1,_,_,h,h1,h2=>by simp[gk]at h;simp at h1 h2;exact zI h.2 h1 h2
theorem cy:∀{d:Nat} {t:aI},ak d t=true->ak (d+1) t=true
 |0,t,h=>by simp[ak]at h
 |d+1,t,h=>by
  simp only[ak,XH,Xc]at h⊢;exact⟨h.1,fun u hu=>by have:=cy (h.2 u hu);simpa[ak]using this⟩
theorem nW:∀(d:Nat) (a b:aI),ak d a=true->ak d b=true->aG a b=true->ak d (bN a b)=true
 |0,a,b,h,_,_=>by simp[ak]at h
 |d+1,a,b,ha,hb,hc=>by
  rw[gH];split
  ·exact hb
  ·split
   ·exact ha
   ·rename_i h1 h2;obtain⟨hk,hq⟩:=uI hc h1 h2;simp only[ak,XH,decide_eq_true_eq,Xc,aI.bX,aI.bQ,List.length_zipWith]at ha hb⊢;have hl:=r7 hq;refine⟨by rw[ha.1];omega,fun u hu=>?_⟩;obtain⟨i,hi⟩:=W8 hu;rw[List.getElem?_zipWith]at hi;cases hx:a.kids[i]? with
    |none=>simp[hx]at hi
    |some x=>
     cases hy:b.kids[i]? with
     |none=>simp[hx,hy]at hi
     |some y=>
      simp[hx,hy]at hi;subst hi;exact nW d x y (ha.2 x (W6 hx)) (hb.2 y (W6 hy)) (zI hq hx hy)
theorem eN {k:Int} {t a b:aI} (h:db k t=some (a,b)) (ht:ak 4 t=true):ak 4 a=true/\ak 4 b=true:=by
 simp only[db]at h;split at h
 ·simp at h;obtain⟨rfl,rfl⟩:=h;simp[ak,cz]
 ·split at h
  ·obtain⟨e,he,_,_,hs⟩:=eg ht;obtain rfl:e=3:=by omega
   split at h
   ·rename_i x y r hk;simp at h;obtain⟨rfl,rfl⟩:=h;exact⟨cy (hs _ (by simp[hk])),cy (hs _ (by simp[hk]))⟩
   ·simp at h
  ·simp at h
theorem pG:∀{ctx:List dF} {s:List UInt8} {t:aI},dY ctx s=some t->∃b∈ctx,b.ty=t/\b.name=s
 |[],_,_,h=>by simp[dY]at h
 |b::r,s,t,h=>by
  simp only[dY]at h;split at h
  ·rename_i u hu;simp at h;subst h;obtain⟨b',h1,h2⟩:=pG hu;exact⟨b',by simp[h1],h2⟩
  ·split at h
   ·rename_i hb;simp at h;exact⟨b,by simp,h,hb⟩
   ·simp at h
def iF (ctx:List dF):Prop:=∀b∈ctx,ak 4 b.ty=true
theorem zJ {ctx:List dF} {e:ao} {ts:List aI} {t:aI} (hc:iF ctx) (he:cg e.kind=true->ak 4 e.ty=true) (bZ:∀u∈ts,ak 4 u=true) (h:dp ctx e.kind e.name e.ty ts=some t):ak 4 t=true:=by
 have hI:ak 4 bw=true:=by decide
 have hB:ak 4 cF=true:=by decide
 simp only[dp]at h;split at h
 ·obtain⟨b,h1,h2,_⟩:=pG h;rw[<-h2];exact hc b h1
 split at h
 ·simp at h;subst h;exact hI
 split at h
 ·simp at h;subst h;exact hB
 split at h
 ·rename_i a;have ha:=bZ a (by simp);split at h
  ·simp only[r9]at h;split at h
   ·rename_i hs;simp at h;subst h;exact hs
   ·simp at h
  split at h
  ·cases hm:db 5 a with
   |none=>simp[hm]at h
   |some p=>obtain⟨x,y⟩:=p;simp[hm]at h;subst h;exact(eN hm ha).1
  split at h
  ·cases hm:db 5 a with
   |none=>simp[hm]at h
   |some p=>obtain⟨x,y⟩:=p;simp[hm]at h;subst h;exact(eN hm ha).2
  split at h
  ·rename_i dG;split at h
   ·simp at h;subst h;exact he (by simp[cg,dG])
   ·simp at h
  ·simp at h
 ·rename_i a b;have ha:=bZ a (by simp);have hb:=bZ b (by simp);split at h
  ·split at h
   ·rename_i x y hm;split at h
    ·simp at h;subst h;exact(eN hm ha).2
    ·simp at h
   ·simp at h
  split at h
  ·split at h
   ·simp at h;subst h;exact hI
   ·simp at h
  split at h
  ·split at h
   ·simp at h;subst h;exact hB
   ·simp at h
  split at h
  ·simp only[r9]at h;split at h
   ·rename_i hs;simp at h;subst h;exact hs
   ·simp at h
  ·simp at h
 ·rename_i a b c;split at h
  ·split at h
   ·rename_i hq;simp at h;subst h;exact nW 4 b c (bZ b (by simp)) (bZ c (by simp)) hq.1
   ·simp at h
  ·simp at h
 ·simp at h
theorem fQ {nt:Int} {d:Nat} {e:ao} (h:bm nt d e=true):∃d',d=d'+1/\e.kind≠nt/\cm e.kind=e.kids.length/\fu e=true/\∀u∈e.kids,bm nt d' u=true:=by
 cases d with
 |zero=>simp[bm]at h
 |succ d=>
  simp only[bm,gq,XH,decide_eq_true_eq,Xc]at h;exact⟨d,rfl,h.1.1,h.1.2.1,h.1.2.2,h.2⟩
theorem hM {e:ao} (h:fu e=true) (ht:cg e.kind=true):ak 4 e.ty=true:=by
 simp only[fu,XH]at h;have:=h.1.2;rwa[if_pos ht]at this
theorem sd (k:Int):cm k<=3:=by
 simp only[cm];split
 ·omega
 ·split
  ·omega
  ·split
   ·omega
   ·split<;>omega
theorem wx:∀{ctx:List dF} {l:List ao} {ts:List aI},ez ctx l=some ts->ts.length=l.length
 |_,[],ts,h=>by simp[ez]at h;subst h;rfl
 |ctx,e::r,ts,h=>by
  simp only[ez]at h;split at h
  ·simp at h
  ·split at h
   ·simp at h
   ·rename_i us NO;simp at h;subst h;simp[wx NO]
theorem gI:∀(e:ao) (d:Nat) (nt:Int) (ctx:List dF) (t:aI),bm nt d e=true->iF ctx->eM ctx e=some t->ak 4 t=true:=by
 intro e;induction e using ao.ind with
 |h e ih=>
  intro d nt ctx t hs hc h;obtain⟨d',_,_,hlen,dQ,jb⟩:=fQ hs;rw[na]at h;have b8:iF (cx ctx e):=by
   simp only[cx];split
   ·rename_i h5;intro b hb;simp only[Xe,List.mem_singleton]at hb;rcases hb with hb|rfl
    ·exact hc b hb
    ·exact hM dQ (by simp[cg,h5])
   ·exact hc
  split at h
  ·simp at h
  ·rename_i ts bZ;refine zJ hc (hM dQ) ?_ h;have hl:∀(l:List ao) (ts:List aI),(∀u∈l,u∈e.kids)->ez (cx ctx e) l=some ts->∀u∈ts,ak 4 u=true:=by
    intro l;induction l with
    |nil=>intro ts _ h;simp[ez]at h;subst h;simp
    |cons x r ihl=>
     intro ts hm h;simp only[ez]at h;split at h
     ·simp at h
     ·rename_i tx QV;split at h
      ·simp at h
      ·rename_i us NO;simp at h;subst h;have hx:=ih x (hm x (by simp)) d' nt (cx ctx e) tx (jb x (hm x (by simp))) b8 QV;intro u hu;simp only[Xa]at hu;rcases hu with rfl|hu
       ·exact hx
       ·exact ihl us (fun v hv=>hm v (by simp[hv])) NO u hu
   exact hl e.kids ts (fun _ h=>h) bZ
end Go.Av
namespace Go.Av
attribute [-simp] Go.Av.bJ Go.Av.eO Go.Av.iA Go.Av.bU Go.Av.bH Go.Av.iB Go.Av.mq Go.Av.rP Go.Av.mP Go.Av.zB Go.Av.rowsOf Go.Av.look Go.Av.tc Go.Av.St.put Go.Av.gV Go.Av.E3 Go.Av.ca Go.Av.zy Go.Av.Je Go.Av.rO Go.Av.rN Go.Av.D1 Go.Av.AV.plain Go.Av.AV.cells Go.Av.CV.jW Go.Av.nI Go.Av.iN Go.Av.kI Go.Av.fK Go.Av.bT Go.Av.ig Go.Av.AV.kT Go.Av.CV.kT Go.Av.qx Go.Av.AV.fN Go.Av.CV.fN Go.Av.bD Go.Av.iO Go.Av.j9 Go.Av.oE Go.Av.cS Go.Av.ft Go.Av.uB Go.Av.AV.qz Go.Av.CV.res Go.Av.rW Go.Av.pos? Go.Av.v8 Go.Av.wi Go.Av.gW Go.Av.Sub Go.Av.kj Go.Av.kU Go.Av.iY Go.Av.gY Go.Av.iZ Go.Av.gZ Go.Av.aI.bX Go.Av.aI.bQ Go.Av.ao.bX Go.Av.ao.lf Go.Av.ao.pD Go.Av.ao.oH Go.Av.ao.qJ Go.Av.ao.km Go.Av.ao.bQ
open Go
def cN (all:Array Oper) (ws fs:List Nat) (m:Nat) (ms:List Nat) (oi oj:Oper) (i j:Nat):Bool:=
 (oi.dst.isNone||oi.dst !=oj.dst)&&((!dC all oi oj && !dC all oj oi && !(ws.contains i && !cS oj.op && !(fs.contains j && decide (i<m)))&& !(ws.contains j && !cS oi.op && !(fs.contains i && decide (j<m))))||(ms.getD j 0).testBit i)
def iK (all:Array Oper) (ws fs:List Nat) (m:Nat):Bool:=
 let l:=all.toList.zipIdx
 let ms:=bc all.toList []
 (l.all fun(o,j)=>o.after.toList.all fun e=> !Region.binds .any e||decide (e.on<j))&&
 (l.all fun(oj,j)=>l.all fun(oi,i)=> !(decide (i<j))||cN all ws fs m ms oi oj i j)&&
 (l.all fun(o,j)=> !ws.contains j|| !cS o.op)&&(fs.all fun j=> !ws.contains j)&&(fs.all fun j=>ws.all fun i=>decide (i<m)||decide (j<i))
def rJ (ex:List Nat) (rs:Nat->List CV) (V:List (List CV)):List (List CV):=ex.foldl (fun W i=>W.set i (rs i)) V
theorem pH (V:List (List CV)):∀(ex:List Nat),rJ ex (fun i=>V.getD i []) V=V
 |[]=>rfl
 |i::ex=>by
  have h:V.set i (V.getD i [])=V:=by
   apply XF;intro j;rw[List.getElem?_set];split
   ·rename_i e;subst e;split
    ·rename_i h;simp[W9,h]
    ·rename_i h;simp[Nat.le_of_not_lt h]
   ·rfl
  show rJ ex _ (V.set i (V.getD i []))=V;rw[h];exact pH V ex
def dI (P:Program) (s:St) (ow:Bool) (o:Oper) (ex:List Nat) (V0:List (List CV)) (A0:List bz) (x:AV):Prop:=
 ∀(rs:Nat->List CV) GV GA,bJ P ⟨s.fr,rJ ex rs V0++GV,A0++GA⟩ ow o fun y V' A'=>y=x/\V'=rJ ex rs V0++GV/\A'=A0++GA
def oI (P:Program) (all:Array Oper) (ow:Nat->Bool) (ws fs:List Nat) (m:Nat) (ex:List Nat) (V0:List (List CV)) (A0:List bz) (K:St->Prop):Nat->List Oper->St->Prop
 |_,[],s=>K s
 |i,o::rest,s=>iA all s o (bJ P s (ow i) o fun x V A=>(i∈ws\/(V=s.V/\A=s.A))/\(i∈ws->i<m->V.take V0.length=rJ ex (fun i=>V.getD i []) V0/\A.take A0.length=A0)/\(i∈fs->dI P s (ow i) o ex V0 A0 x)/\
   oI P all ow ws fs m ex V0 A0 K (i+1) rest (s.put o.dst x V A)) (oI P all ow ws fs m ex V0 A0 K (i+1) rest (s.put o.dst (.c .undef) s.V s.A))
section
variable {P:Program} {n:Nat} {Q Q':Exit->St->Prop} {s s':St} {w0:World} {g0 g g':Gh} {a:Act} {w w':World} {V:List (List CV)} {A A':List bz}
def Hh (P:Program) (all:Array Oper) (ow:Bool) (fs:List Nat) (j:Nat) (ex:List Nat) (V0:List (List CV)) (A0:List bz) (o:Oper) (s s':St):Prop:=
 iA all s o True True/\((gw all s o=true/\∃x V A,s'=s.put o.dst x V A/\(∀K:AV->List (List CV)->List bz->Prop,K x V A->bJ P s ow o K)/\(j∈fs->dI P s ow o ex V0 A0 x))\/(gw all s o=false/\s'=s.put o.dst (.c .undef) s.V s.A))
def KO (ex:List Nat) (V0:List (List CV)) (A0:List bz) (s:St):Prop:=s.V.take V0.length=rJ ex (fun i=>s.V.getD i []) V0/\s.A.take A0.length=A0
theorem mb {all:Array Oper} {ow:Nat->Bool} {ws fs:List Nat} {m:Nat} {ex:List Nat} {V0:List (List CV)} {A0:List bz} {K:St->Prop}:∀(ops:List Oper) (i:Nat) (s:St),oI P all ow ws fs m ex V0 A0 K i ops s->
  ∃σ:Nat->St,σ 0=s/\K (σ ops.length)/\∀(j:Nat) o,ops[j]? =some o->Hh P all (ow (i+j)) fs (i+j) ex V0 A0 o (σ j) (σ (j+1))/\(i+j∈ws\/((σ (j+1)).V=(σ j).V/\(σ (j+1)).A=(σ j).A))/\
   (i+j<m->KO ex V0 A0 (σ (j+1))\/((σ (j+1)).V=(σ j).V/\(σ (j+1)).A=(σ j).A))
 |[],i,s,h=>⟨fun _=>s,rfl,h,fun j o h=>by simp at h⟩
 |o::rest,i,s,h=>by
  simp only[oI]at h;obtain⟨h0,hg⟩:=fT h;rcases h0 with⟨h1,h2⟩|⟨h1,h2⟩
  ·obtain⟨x,V,A,⟨h3,NQ,Fe,h4⟩,h5⟩:=gd h2;obtain⟨σ,k1,k2,k3⟩:=mb rest (i+1) _ h4;refine⟨fun j=>match j with|0=>s|j+1=>σ j,rfl,k2,fun j o' ho=>?_⟩;cases j with
   |zero=>
    simp at ho;subst ho;refine⟨⟨hg,.inl ⟨h1,x,V,A,k1,h5,Fe⟩⟩,?_,fun hm=>?_⟩
    ·rcases h3 with h3|⟨h3,sZ⟩
     ·exact .inl h3
     ·exact .inr (by simp only[k1];exact⟨h3,sZ⟩)
    ·rcases h3 with h3|⟨h3,sZ⟩
     ·exact .inl (by simp only[k1];exact NQ h3 hm)
     ·exact .inr (by simp only[k1];exact⟨h3,sZ⟩)
   |succ j=>
    simp at ho;have:=k3 j o' ho;rwa[show i+1+j=i+(j+1) by omega]at this
  ·obtain⟨σ,k1,k2,k3⟩:=mb rest (i+1) _ h2;refine⟨fun j=>match j with|0=>s|j+1=>σ j,rfl,k2,fun j o' ho=>?_⟩;cases j with
   |zero=>
    simp at ho;subst ho;exact⟨⟨hg,.inr ⟨h1,k1⟩⟩,.inr (by simp only[k1];exact⟨rfl,rfl⟩),fun _=>.inr (by simp only[k1];exact⟨rfl,rfl⟩)⟩
   |succ j=>
    simp at ho;have:=k3 j o' ho;rwa[show i+1+j=i+(j+1) by omega]at this
structure xM (all:Array Oper) (ws:List Nat) (σ:Nat->St) (n:Nat) (w0:World) (g0:Gh) (af:Array Bool) (k0:Nat) (g:Gh) (a:Act) (w:World):Prop where
 inv:Inv g w (σ k0).V (σ k0).A
 fr:Fr w0 g0 w g
 size:a.tmps.size=n
 defers:a.defers=[]
 eG:af.size=all.size
 fU:∀(i:Nat) o t x,all[i]? =some o->af[i]? =some true->o.dst=some t->look (σ (i+1)).fr t=some x->∃u,a.tmps[t]? =some u/\aW g w (σ k0).A x u
 fV:∀t x,(∀(i:Nat) o,all[i]? =some o->af[i]? =some true->o.dst≠some t)->look (σ 0).fr t=some x->∃u,a.tmps[t]? =some u/\aW g w (σ k0).A x u
 eo:∀i∈ws,i<all.size->(af[i]? =some true↔i<k0)
 nP:k0<=all.size
 kw:k0=0\/∃i∈ws,k0=i+1
 closed:∀(i:Nat) o,all[i]? =some o->af[i]? =some true->∀e∈o.after,Region.binds .any e=true->af[e.on]? =some true
set_option maxHeartbeats 2000000 in
theorem Bc {all:Array Oper} {ow:Nat->Bool} {ws fs:List Nat} {m:Nat} {ex:List Nat} {V0:List (List CV)} {A0:List bz} {σ:Nat->St} {K:St->Prop} {Q:Exit->Act->World->Prop} (hd:iK all ws fs m=true) (fc:da n all.toList=true)
  (lT:∀(j:Nat) o,all[j]? =some o->Hh P all (ow j) fs j ex V0 A0 o (σ j) (σ (j+1))/\(j∈ws\/((σ (j+1)).V=(σ j).V/\(σ (j+1)).A=(σ j).A))/\(j<m->KO ex V0 A0 (σ (j+1))\/((σ (j+1)).V=(σ j).V/\(σ (j+1)).A=(σ j).A))) (Hi:(σ 0).V=V0/\(σ 0).A=A0)
  (hK:K (σ all.size)) (hQ:∀s' g' a' w',K s'->Rp n w0 g0 s' g' a' w'->Q .normal a' w'):
  ∀(fuel:Nat) (af:Array Bool) (k0:Nat) (g:Gh) (a:Act) (w:World),((W5 all.size).filter fun i=> !af.getD i true).length<=fuel->xM all ws σ n w0 g0 af k0 g a w->wpAny P .any all Q fuel af a w:=by
 simp only[iK,XH,Xc]at hd;obtain⟨⟨⟨⟨gR,jE⟩,o5⟩,IY⟩,IZ⟩:=hd;have cZ:∀(j:Nat) o,all[j]? =some o->(o,j)∈all.toList.zipIdx:=fun j o h=>by
  rw[Xx];exact⟨j,by simp[XC,h]⟩
 have c8:∀(j:Nat) o,all[j]? =some o->∀e∈o.after,Region.binds .any e=true->e.on<j:=fun j o h e he hb=>by
  have:=gR _ (cZ j o h) e (XZ.2 he);simpa[hb]using this
 have fR:∀(i j:Nat) oi oj,all[i]? =some oi->all[j]? =some oj->i<j->cN all ws fs m (bc all.toList []) oi oj i j=true:=fun i j oi oj h1 h2 ay=>by
  have:=jE _ (cZ j oj h2) _ (cZ i oi h1);simpa[ay]using this
 have b7:∀(i j:Nat) oi oj,all[i]? =some oi->all[j]? =some oj->i<j->i∉fs->j∉fs->bu all ws (bc all.toList []) oi oj i j=true:=fun i j oi oj h1 h2 ay hi hj=>by
  have:=fR i j oi oj h1 h2 ay;simpa[cN,bu,hi,hj]using this
 have mc:∀i,i∈ws->i∉fs:=fun i hi hf=>by
  have:=IY i hf;simp[hi]at this
 have CQ:∀k,k<=m->k<=all.size->KO ex V0 A0 (σ k):=by
  intro k;induction k with
  |zero=>
   intro _ _;refine⟨?_,by rw[Hi.2];simp⟩;rw[Hi.1,pH];simp
  |succ k ih=>
   intro h1 h2;have ho:all[k]? =some all[k]:=XX (by omega);rcases(lT k _ ho).2.2 (by omega)with h3|⟨h3,h4⟩
   ·exact h3
   ·have:=ih (by omega) (by omega);exact⟨by rw[h3];exact this.1,by rw[h4];exact this.2⟩
 have uE:∀(j:Nat) o,all[j]? =some o->j∈ws->cS o.op=false:=fun j o h hj=>by
  have:=o5 _ (cZ j o h);simpa[hj]using this
 have fP:∀(i j:Nat) oi oj d,all[i]? =some oi->all[j]? =some oj->i<j->oi.dst=some d->oj.dst≠some d:=fun i j oi oj d h1 h2 ay h3 h4=>by
  have:=fR i j oi oj h1 h2 ay;simp[cN,h3,h4]at this
 have re:∀(i j:Nat) oi oj d,all[i]? =some oi->all[j]? =some oj->oi.dst=some d->oj.dst=some d->i=j:=fun i j oi oj d h1 h2 h3 h4=>by
  rcases XR i j with h|h|h
  ·exact absurd h4 (fP i j oi oj d h1 h2 h h3)
  ·exact h
  ·exact absurd h3 (fP j i oj oi d h2 h1 h h4)
 have zG:∀(j:Nat) o d,all[j]? =some o->o.dst=some d->d<n:=fun j o d h1 h2=>by
  have:=Xc.1 fc o (by rw[XZ];exact X3 h1);simpa[h2]using this
 obtain⟨Gs,_,A7⟩:=fe all.toList []
 have mX:∀{af:Array Bool},(∀(i:Nat) o,all[i]? =some o->af[i]? =some true->∀e∈o.after,Region.binds .any e=true->af[e.on]? =some true)->
   ∀(i:Nat) o,all[i]? =some o->(∀e∈o.after,Region.binds .any e=true->af[e.on]? =some true)->∀k,((bc all.toList []).getD i 0).testBit k=true->af[k]? =some true:=by
  intro af kS i;induction i using XQ with
  |_ i ih=>
   intro o ho cL k hk;obtain⟨pre,h1,h2,h3⟩:=A7 i o (by simpa using ho);simp only[XA,XP]at h1 h3;have h4:(bc all.toList []).getD i 0=mW pre o:=by simp[W9,h3]
   rw[h4]at hk;obtain⟨e,he,hb,h5⟩:=fO hk;have s4:=cL e he hb;rcases h5 with rfl|h5
   ·exact s4
   ·have ay:=c8 i o ho e he hb;have h6:pre.getD e.on 0=(bc all.toList []).getD e.on 0:=by simp only[W9,h2 e.on (by omega)]
    rw[h6]at h5;have fB:e.on<all.size:=by have:=(XY.1 ho).1;omega
    have uF:all[e.on]? =some all[e.on]:=XX fB;exact ih e.on ay _ uF (kS e.on _ uF s4) k h5
 have l7:∀(j:Nat) o t,all[j]? =some o->o.dst≠some t->look (σ (j+1)).fr t=look (σ j).fr t:=fun j o t h1 h2=>by
  obtain⟨⟨_,h3⟩,_⟩:=lT j o h1;have kh:∀(x:AV) V A,look ((σ j).put o.dst x V A).fr t=look (σ j).fr t:=fun x V A=>by
   simp only[St.put];cases qZ:o.dst with
   |none=>rfl
   |some d=>simp only[look];rw[if_neg (fun e=>h2 (by rw[qZ,e]))]
  rcases h3 with⟨_,x,V,A,h4,_,_⟩|⟨_,h4⟩
  ·rw[h4];exact kh x V A
  ·rw[h4];exact kh _ _ _
 have oV:∀(j t:Nat),j<=all.size->(∀(i:Nat) o,i<j->all[i]? =some o->o.dst≠some t)->look (σ j).fr t=look (σ 0).fr t:=by
  intro j;induction j with
  |zero=>intro t _ _;rfl
  |succ j ih=>
   intro t hj fz;have ho:all[j]? =some all[j]:=XX (by omega);rw[l7 j _ t ho (fz j _ (by omega) ho)];exact ih t (by omega) (fun i o hi=>fz i o (by omega))
 have oW:∀(j i:Nat) oi t,j<=all.size->i<j->all[i]? =some oi->oi.dst=some t->look (σ j).fr t=look (σ (i+1)).fr t:=by
  intro j;induction j with
  |zero=>intro i oi t _ h;omega
  |succ j ih=>
   intro i oi t hj lr a7 cn;by_cases e:i=j
   ·subst e;rfl
   ·have ho:all[j]? =some all[j]:=XX (by omega);rw[l7 j _ t ho (fP i j oi _ t a7 ho (by omega) cn)];exact ih i oi t (by omega) (by omega) a7 cn
 have tC:∀(b a:Nat),a<=b->b<=all.size->(∀i,a<=i->i<b->i∉ws)->(σ b).V=(σ a).V/\(σ b).A=(σ a).A:=by
  intro b;induction b with
  |zero=>
   intro a h _ _;obtain rfl:a=0:=by omega
   exact⟨rfl,rfl⟩
  |succ b ih=>
   intro a PH hb fz;by_cases e:a=b+1
   ·subst e;exact⟨rfl,rfl⟩
   ·have ho:all[b]? =some all[b]:=XX (by omega);obtain⟨h1,h2⟩:=ih a (by omega) (by omega) (fun i hi EZ=>fz i hi (by omega));rcases(lT b _ ho).2.1 with h3|⟨h3,h4⟩
    ·exact absurd h3 (fz b (by omega) (by omega))
    ·exact⟨h3.trans h1,h4.trans h2⟩
 have lS:∀{af:Array Bool} {k0:Nat} {g:Gh} {a:Act} {w:World},xM all ws σ n w0 g0 af k0 g a w->Region.ready .any all af=[]->Q .normal a w:=by
  intro af k0 g a w hD hr;have dm:∀i,i<all.size->af[i]? =some true:=by
   intro i;induction i using XQ with
   |_ i ih=>
    intro hi;have ho:all[i]? =some all[i]:=XX hi;have bF:i<af.size:=by rw[hD.eG];exact hi
    cases hl:af[i]with
    |true=>rw[XX bF,hl]
    |false=>
     exfalso
     have:i∈Region.ready .any all af:=mem_ready.2 ⟨by simp[bF,hl],_,ho,fun e he hb=>cK.2 (ih e.on (c8 i _ ho e he hb) (by have:=c8 i _ ho e he hb;omega))⟩;rw[hr]at this;simp at this
  have kV:=tC all.size k0 hD.nP (XL _) (fun i h1 h2 h3=>by have:=(hD.eo i h3 h2).1 (dm i h2);omega);refine hQ _ g a w hK ⟨by rw[kV.1,kV.2];exact hD.inv,hD.fr,hD.size,hD.defers,fun t x hx=>?_⟩;rw[kV.2];by_cases hex:∃(i:Nat) (o:Oper),all[i]? =some o/\o.dst=some t
  ·obtain⟨i,o,ho,cn⟩:=hex;have hi:=(XY.1 ho).1;rw[oW all.size i o t (XL _) hi ho cn]at hx;exact hD.fU i o t x ho (dm i hi) cn hx
  ·rw[oV all.size t (XL _) (fun i o _ ho cn=>hex ⟨i,o,ho,cn⟩)]at hx;exact hD.fV t x (fun i o ho _ cn=>hex ⟨i,o,ho,cn⟩) hx
 intro fuel;induction fuel with
 |zero=>
  intro af k0 g a w hf hD;have la:Region.ready .any all af=[]:=by
   have h0:((W5 all.size).filter fun i=> !af.getD i true)=[]:=Xm (by omega);rcases hr:Region.ready .any all af with _|⟨j,r⟩
   ·rfl
   ·have hj:j∈Region.ready .any all af:=by rw[hr];simp
    obtain⟨h1,o,h2,_⟩:=mem_ready.1 hj;have:j∈((W5 all.size).filter fun i=> !af.getD i true):=by
     rw[Xq,Xi];exact⟨(XY.1 h2).1,by simp[h1]⟩
    rw[h0]at this;simp at this
  exact⟨la,lS hD la⟩
 |succ fuel ih=>
  intro af k0 g a w hf hD;refine⟨fun hr=>lS hD hr,fun j hj=>?_⟩;obtain⟨mY,o,ho,cL⟩:=mem_ready.1 hj;have mZ:=ep mY;have rG:j<all.size:=(XY.1 ho).1;have jk:j<af.size:=by rw[hD.eG];exact rG
  have cE:∀e∈o.after,Region.binds .any e=true->af[e.on]? =some true:=fun e he hb=>cK.1 (cL e he hb)
  have cw:∀k,((bc all.toList []).getD j 0).testBit k=true->af[k]? =some true:=mX hD.closed j o ho cE;have b4:∀(i:Nat) oi,all[i]? =some oi->af[i]? =some true->((bc all.toList []).getD i 0).testBit j=false:=fun i oi a7 bF=>by
   cases hb:((bc all.toList []).getD i 0).testBit j with
   |false=>rfl
   |true=>have:=mX hD.closed i oi a7 (hD.closed i oi a7 bF) j hb;rw[mZ]at this;simp at this
  have jJ:∀t∈o.looksAt all,∀x,look (σ j).fr t=some x->∃u,a.tmps[t]? =some u/\aW g w (σ k0).A x u:=by
   intro t ht x hx;by_cases hex:∃(i:Nat) (oi:Oper),i<j/\all[i]? =some oi/\oi.dst=some t
   ·obtain⟨i,oi,lr,a7,cn⟩:=hex;rw[oW j i oi t (by omega) lr a7 cn]at hx;have hp:=fR i j oi o a7 ho lr;have tD:dC all oi o=true:=by simp only[dC,cn];simpa using ht
    simp only[cN,tD,XH,XI]at hp;have hb:((bc all.toList []).getD j 0).testBit i=true:=by simpa using hp.2
    exact hD.fU i oi t x a7 (cw i hb) cn hx
   ·rw[oV j t (by omega) (fun i oi lr a7 cn=>hex ⟨i,oi,lr,a7,cn⟩)]at hx;refine hD.fV t x (fun i oi a7 bF cn=>?_) hx;rcases XR i j with h|h|h
    ·exact hex ⟨i,oi,h,a7,cn⟩
    ·subst h;rw[mZ]at bF;simp at bF
    ·have hp:=fR j i o oi ho a7 h;have tD:dC all oi o=true:=by simp only[dC,cn];simpa using ht
     have hb:=b4 i oi a7 bF;simp only[cN,tD,hb,XH,XI]at hp;simp at hp
  let cU:=(σ j).fr.filter fun p=>(o.looksAt all).contains p.1
  have ld:∀t,look cU t=if(o.looksAt all).contains t then look (σ j).fr t else none:=fun t=>e9 (fun t=>(o.looksAt all).contains t) (σ j).fr t
  have hS:∀(V:List (List CV)),iC g w ⟨cU,V,(σ k0).A⟩ a:=fun V t x hx=>by
   simp only[ld]at hx;split at hx
   ·rename_i hc;exact jJ t (by simpa using hc) x hx
   ·cases hx
  have gG:∀(V V':List (List CV)) (A A':List bz),∀x∈o.op.operands.toList,bH ⟨cU,V,A⟩ x=bH ⟨(σ j).fr,V',A'⟩ x:=fun V V' A A' x hx=>by
   cases x with
   |tmp t=>
    simp only[bH,ld];rw[if_pos];simp only[Oper.looksAt,Xn,decide_eq_true_eq,Xe,Xy];exact .inl ⟨.tmp t,hx,rfl⟩
   |_=>rfl
  have gX:Rp n w0 g0 ⟨cU,(σ k0).V,(σ k0).A⟩ g a w:=⟨hD.inv,hD.fr,hD.size,hD.defers,hS _⟩;obtain⟨⟨uA,jG⟩,CO,_⟩:=lT j o ho;have oX:iA all ⟨cU,(σ k0).V,(σ k0).A⟩ o True True/\gw all ⟨cU,(σ k0).V,(σ k0).A⟩ o=gw all (σ j) o:=by
   unfold iA gw at*;cases nQ:o.guard with
   |none=>simp
   |some jw=>
    obtain⟨q,want⟩:=jw;simp only[nQ]at uA⊢;obtain⟨oq,h1,h2⟩:=cI uA;obtain⟨t,h3,h4⟩:=cI h2;have:look cU t=look (σ j).fr t:=by
     rw[ld,if_pos];simp only[Oper.looksAt,nQ,Xn,decide_eq_true_eq,Xe];exact .inr (by simp[h1,h3])
    simp only[h1,bU,h3,W0,this]at h4⊢;exact⟨h4,trivial⟩
  have lD:Region.wanted o (yielded all a.tmps)=gw all (σ j) o:=by
   rw[<-oX.2];have h0:=fT oX.1;have h1:=oX.1;unfold iA at h1;unfold gw;cases nQ:o.guard with
   |none=>simp[Region.wanted,nQ]
   |some jw=>
    obtain⟨q,want⟩:=jw;simp only[nQ]at h1⊢;obtain⟨oq,h2,h3⟩:=cI h1;obtain⟨t,h4,h5⟩:=cI h3;obtain⟨x,h6,h7⟩:=cI h5;obtain⟨h8,h9⟩:=jI gX h2 h4 h6;simp only[h2,W0,h4,h6];split at h7
    ·rename_i b;simp[Region.wanted,nQ,h8 b rfl]
    ·simp[Region.wanted,nQ,h9 rfl]
    ·exact h7.elim
  have bS:∀i,(af.setIfInBounds j true)[i]? =if i=j then some true else af[i]? :=fun i=>by
   by_cases e:i=j
   ·subst e;simp[jk]
   ·rw[if_neg e,X0 (fun h=>e h.symm)]
  have c5:((W5 all.size).filter fun i=> !(af.setIfInBounds j true).getD i true).length<=fuel:=by
   have ay:((W5 all.size).filter fun i=> !(af.setIfInBounds j true).getD i true).length<((W5 all.size).filter fun i=> !af.getD i true).length:=by
    have gF:∀i,(!(af.setIfInBounds j true).getD i true)=true->(!af.getD i true)=true:=fun i h=>by
     by_cases e:i=j
     ·subst e;simp[jk]at h
     ·have:(af.setIfInBounds j true).getD i true=af.getD i true:=by
       simp only[X4,bS,if_neg e]
      rwa[this]at h
    exact filter_lt gF (Xi.2 rG) (by simp[mY]) (by simp[jk])
   omega
  have cR:∀(k1:Nat) (x:AV) (v:Value) (w':World) (g':Gh),look (σ (j+1)).fr=look ((σ j).put o.dst x [] []).fr->aW g' w' (σ k1).A x v->Inv g' w' (σ k1).V (σ k1).A->Ext g w (σ k0).A g' w' (σ k1).A->Fr w0 g0 w' g'->k1<=all.size->(k1=0\/∃i∈ws,k1=i+1)->
    (∀i∈ws,i<all.size->((af.setIfInBounds j true)[i]? =some true↔i<k1))->xM all ws σ n w0 g0 (af.setIfInBounds j true) k1 g' (a.put o.dst v) w':=by
   intro k1 x v w' g' Cu x8 hI hx hF hk LA Fb;have iX:∀t u,o.dst≠some t->a.tmps[t]? =some u->(a.put o.dst v).tmps[t]? =some u:=fun t u di hu=>by
    cases qZ:o.dst with
    |none=>exact hu
    |some d=>
     simp only[Act.put];rw[X0 (fun e=>di (by rw[qZ,e]))];exact hu
   refine⟨hI,hF,?_,?_,by simp[hD.eG],fun i oi t y a7 bF cn hy=>?_,fun t y fz hy=>?_,Fb,hk,LA,fun i oi a7 bF e he hb=>?_⟩
   ·cases o.dst<;>simp[Act.put,hD.size]
   ·cases o.dst<;>simp[Act.put,hD.defers]
   ·rw[bS]at bF;by_cases e:i=j
    ·subst e;obtain rfl:o=oi:=by rw[ho]at a7;exact Option.some.inj a7
     rw[Cu]at hy;simp only[St.put,cn,look,if_true]at hy;cases hy
     refine⟨v,?_,x8⟩;have:t<a.tmps.size:=by rw[hD.size];exact zG i o t ho cn
     simp[Act.put,cn,this]
    ·rw[if_neg e]at bF;obtain⟨u,h1,h2⟩:=hD.fU i oi t y a7 bF cn hy;exact⟨u,iX t u (fun h=>e (re i j oi o t a7 ho cn h)) h1,aW.ext hx h2⟩
   ·have di:o.dst≠some t:=fz j o ho (by rw[bS,if_pos rfl]);obtain⟨u,h1,h2⟩:=hD.fV t y (fun i oi a7 bF=>fz i oi a7 (by
     rw[bS];by_cases e:i=j
     ·rw[if_pos e]
     ·rw[if_neg e];exact bF)) hy
    exact⟨u,iX t u di h1,aW.ext hx h2⟩
   ·rw[bS]at bF⊢;have:af[e.on]? =some true:=by
     by_cases e':i=j
     ·subst e';obtain rfl:o=oi:=by rw[ho]at a7;exact Option.some.inj a7
      exact cE e he hb
     ·rw[if_neg e']at bF;exact hD.closed i oi a7 bF e he hb
    by_cases e':e.on=j
    ·rw[if_pos e']
    ·rw[if_neg e'];exact this
  have iu:j∉ws->∀i∈ws,i<all.size->((af.setIfInBounds j true)[i]? =some true↔i<k0):=fun eu i hi b8=>by
   rw[bS,if_neg (fun e=>eu (by rw[<-e];exact hi))];exact hD.eo i hi b8
  have kV:cS o.op=false->j∉fs->(σ j).V=(σ k0).V/\(σ j).A=(σ k0).A:=by
   intro fI nX;rcases XU j k0 with h|h
   ·have:=tC k0 j h hD.nP (fun i h1 h2 h3=>by
     have b8:i<all.size:=by have:=hD.nP;omega
     have bF:=(hD.eo i h3 b8).2 h2;have a7:all[i]? =some all[i]:=XX b8;rcases XM j i with h4|h4
     ·have hp:=b7 j i o _ ho a7 h4 nX (mc i h3);have hb:=b4 i _ a7 bF;simp only[bu,hb,XH,XI]at hp;simp[h3,fI]at hp
     ·obtain rfl:i=j:=by omega
      rw[mZ]at bF;simp at bF)
    exact⟨this.1.symm,this.2.symm⟩
   ·exact tC j k0 h (by omega) (fun i h1 h2 h3=>by
     have b8:i<all.size:=by omega
     have a7:all[i]? =some all[i]:=XX b8;have hp:=b7 i j _ o a7 ho h2 (mc i h3) nX;simp only[bu,XH,XI]at hp;have hb:((bc all.toList []).getD j 0).testBit i=true:=by
      rcases hp.2 with h4|h4
      ·simp[h3,fI]at h4
      ·exact h4
     have:=(hD.eo i h3 b8).1 (cw i hb);omega)
  unfold wpOp;simp only[ho];rcases jG with⟨h1,x,V,A,h2,h3,Fe⟩|⟨h1,h2⟩
  ·rw[if_pos (by rw[lD,h1])];refine .inl ?_;by_cases hs:cS o.op=true
   ·-- slots alone
    have eu:j∉ws:=fun h=>by have:=uE j o ho h;rw[hs]at this;simp at this
    have h4:bJ P ⟨cU,(σ k0).V,(σ k0).A⟩ (ow j) o (fun y V' A'=>y=x/\V'=(σ k0).V/\A'=(σ k0).A):=nO (s:=σ j) (s':=⟨cU,(σ k0).V,(σ k0).A⟩) hs (gG _ _ _ _) h3 ⟨rfl,rfl,rfl⟩;obtain⟨y,V',A',⟨rfl,rfl,rfl⟩,h5⟩:=dj gX.inv gX.fr gX.slot h4;refine h5 _ _ fun v w' g' h6 h7 h8 h9=>ih _ k0 g' _ w' c5 (cR k0 y v w' g' (by rw[h2];rfl) h6 h7 h8 h9 hD.nP hD.kw (iu eu))
   ·have fI:cS o.op=false:=by simpa using hs
    by_cases nX:j∈fs
    ·have eu:j∉ws:=fun h=>mc j h nX
     have CR:k0<=m:=by
      rcases hD.kw with h|⟨i,hi,hk⟩
      ·omega
      ·rcases XM i m with h|h
       ·omega
       ·exfalso
        have b8:i<all.size:=by have:=hD.nP;omega
        have a7:all[i]? =some all[i]:=XX b8;have bF:=(hD.eo i hi b8).2 (by omega);have KP:j<i:=by
         have:=IZ j nX i hi;simp at this;omega
        have hp:=fR j i o _ ho a7 KP;have hb:=b4 i _ a7 bF;have s6:¬i<m:=by omega
        simp only[cN,hb,XH,XI]at hp;simp[hi,fI,s6,nX,eu]at hp
     obtain⟨dO,zK⟩:=CQ k0 CR hD.nP;have h4:bJ P ⟨cU,(σ k0).V,(σ k0).A⟩ (ow j) o (fun y V' A'=>y=x/\V'=(σ k0).V/\A'=(σ k0).A):=by
      have h5:=Fe nX (fun i=>(σ k0).V.getD i []) ((σ k0).V.drop V0.length) ((σ k0).A.drop A0.length);have e1:rJ ex (fun i=>(σ k0).V.getD i []) V0++(σ k0).V.drop V0.length=(σ k0).V:=by
       rw[<-dO];exact Xu _ _
      have e2:A0++(σ k0).A.drop A0.length=(σ k0).A:=by conv=>lhs;arg 1;rw[<-zK]
                                                       exact Xu _ _
      rw[e1,e2]at h5;exact ej (fr:=(σ j).fr) (gG _ _ _ _) h5
     obtain⟨y,V',A',⟨rfl,rfl,rfl⟩,h5⟩:=dj gX.inv gX.fr gX.slot h4;exact h5 _ _ fun v w' g' h6 h7 h8 h9=>ih _ k0 g' _ w' c5 (cR k0 y v w' g' (by rw[h2];rfl) h6 h7 h8 h9 hD.nP hD.kw (iu eu))
    obtain⟨kJ,gn⟩:=kV fI nX;have h4:bJ P ⟨cU,(σ k0).V,(σ k0).A⟩ (ow j) o (fun y V' A'=>y=x/\V'=V/\A'=A):=by
     rw[<-kJ,<-gn];exact ej (fr:=(σ j).fr) (gG _ _ _ _) (h3 _ ⟨rfl,rfl,rfl⟩)
    obtain⟨y,V',A',⟨rfl,rfl,rfl⟩,h5⟩:=dj gX.inv gX.fr gX.slot h4;have s5:(σ (j+1)).V=V':=by rw[h2];rfl
    have jq:(σ (j+1)).A=A':=by rw[h2];rfl
    by_cases eu:j∈ws
    ·refine h5 _ _ fun v w' g' h6 h7 h8 h9=>ih _ (j+1) g' _ w' c5 (cR (j+1) y v w' g' (by rw[h2];rfl) (by rw[jq];exact h6) (by rw[s5,jq];exact h7) (by rw[jq];exact h8) h9 (by omega) (.inr ⟨j,eu,rfl⟩) (fun i hi b8=>?_))
     have a7:all[i]? =some all[i]:=XX b8;rw[bS];by_cases e:i=j
     ·subst e;simp
     ·rw[if_neg e];constructor
      ·intro bF;rcases XM j i with h|h
       ·have hp:=b7 j i o _ ho a7 h (mc j eu) (mc i hi);have hb:=b4 i _ a7 bF;simp only[bu,hb,XH,XI]at hp;simp[hi,fI]at hp
       ·omega
      ·intro ay;have hp:=b7 i j _ o a7 ho (by omega) (mc i hi) (mc j eu);simp only[bu,XH,XI]at hp;rcases hp.2 with h|h
       ·simp[hi,fI]at h
       ·exact cw i h
    ·rcases CO with CO|⟨qa,mJ⟩
     ·exact absurd CO eu
     ·refine h5 _ _ fun v w' g' h6 h7 h8 h9=>ih _ k0 g' _ w' c5 (cR k0 y v w' g' (by rw[h2];rfl) ?_ ?_ ?_ h9 hD.nP hD.kw (iu eu))
      ·rw[<-gn,<-mJ,jq];exact h6
      ·rw[<-kJ,<-gn,<-qa,<-mJ,s5,jq];exact h7
      ·have e1:(σ k0).A=A':=by rw[<-gn,<-mJ,jq]
       rw[e1]at h8⊢;exact h8
  ·rw[if_neg (by rw[lD,h1];simp)];have s5:(σ (j+1)).V=(σ j).V:=by rw[h2];rfl
   have jq:(σ (j+1)).A=(σ j).A:=by rw[h2];rfl
   by_cases eu:j∈ws
   ·have fI:=uE j o ho eu;obtain⟨kJ,gn⟩:=kV fI (mc j eu);refine ih _ (j+1) g _ w c5 (cR (j+1) (.c .undef) undef w g (by rw[h2];rfl) rfl ?_ ?_ hD.fr (by omega) (.inr ⟨j,eu,rfl⟩) (fun i hi b8=>?_))
    ·rw[s5,jq,kJ,gn];exact hD.inv
    ·rw[jq,gn];exact .refl _ _ _
    ·have a7:all[i]? =some all[i]:=XX b8;rw[bS];by_cases e:i=j
     ·subst e;simp
     ·rw[if_neg e];constructor
      ·intro bF;rcases XM j i with h|h
       ·have hp:=b7 j i o _ ho a7 h (mc j eu) (mc i hi);have hb:=b4 i _ a7 bF;simp only[bu,hb,XH,XI]at hp;simp[hi,fI]at hp
       ·omega
      ·intro ay;have hp:=b7 i j _ o a7 ho (by omega) (mc i hi) (mc j eu);simp only[bu,XH,XI]at hp;rcases hp.2 with h|h
       ·simp[hi,fI]at h
       ·exact cw i h
   ·exact ih _ k0 g _ w c5 (cR k0 (.c .undef) undef w g (by rw[h2];rfl) rfl hD.inv (.refl _ _ _) hD.fr hD.nP hD.kw (iu eu))
theorem T.se {id:Nat} {ops:Array Oper} (hm:P.follows .mixedOrders=true) (ow:Nat->Bool) (ws fs:List Nat) (m:Nat) (ex:List Nat) (hd:iK ops ws fs m=true) (h:oI P ops ow ws fs m ex s.V s.A (fun s'=>Q .normal s') 0 ops.toList s):T P n (.region id ops true) Q s:=by
 intro eP w0 g0 g a w hR;obtain⟨σ,h0,hK,lT⟩:=mb ops.toList 0 s h;obtain⟨hI,hx⟩:=hR.inv.heap (w':={w with drawn:=w.drawn+1}) rfl;refine wp_region_any hm (Bc (ex:=ex) (K:=fun s'=>Q .normal s') (w0:=w0) (g0:=g0) (n:=n) (σ:=σ) (ow:=ow) hd eP (fun j o ho=>?_) ⟨by rw[h0],by rw[h0]⟩ ?_ (fun s' g' a' w' h1 h2=>⟨s',g',h1,h2⟩) ops.size (X2 ops.size false) 0 g a _ ?_ ?_)
 ·have:=lT j o (by simpa using ho);simpa only[XP]using this
 ·simpa using hK
 ·exact XO (XB _ _) (by simp)
 ·refine⟨by rw[h0];exact hI,hR.fr.heap rfl rfl rfl rfl,hR.size,hR.defers,by simp,fun i o t x ho hl=>?_,fun t x _ gD=>?_,fun i _ b8=>?_,XN _,.inl rfl,fun i o ho hl=>?_⟩
  ·have hi:=(XY.1 ho).1;simp[hi]at hl
  ·rw[h0]at gD⊢;obtain⟨u,h1,h2⟩:=hR.slot t x gD;exact⟨u,h1,aW.ext hx h2⟩
  ·simp[b8]
  ·have hi:=(XY.1 ho).1;simp[hi]at hl
end
end Go.Av
