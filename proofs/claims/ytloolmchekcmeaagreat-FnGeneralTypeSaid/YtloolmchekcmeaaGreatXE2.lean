/- A part. -/
import Derived.Test.YtloolmchekcmeaaGreatXE1
set_option linter.unusedVariables false
set_option linter.unusedSimpArgs false
open Option renaming map_eq_some_iff->WQ,bind_some->WR
open List renaming getElem?_eq_some_iff->WS,getElem?_append_left->WU,getElem?_append_right->WV,getElem?_eq_getElem->WW,range->WX,mem_of_getElem?->WY,getElem?_map->WZ,getElem?_of_mem->W0,getD->W1,mem_cons->W2,flatMap_cons->W3,all_eq_true->W4,nodup_nil->W5,mem_append->W6,length_append->W7,map_cons->W8,append_nil->W9,mem_range->Xa,getElem?_inj->Xb,getElem?_eq_none->Xc,foldl_cons->Xd,eq_nil_of_length_eq_zero->Xe,contains_eq_mem->Xf,nodup_cons->Xg,mem_map->Xh,mem_filter->Xi,mem_cons_of_mem->Xj,length_eq_one_iff->Xk,zipWith->Xl,take_append_drop->Xm,sizeOf_lt_of_mem->Xn,set_append_right->Xo,mem_iff_getElem?->Xp,mem_filterMap->Xq,map_map->Xr,length_nil->Xs,length_filter_le->Xt,getElem?_zipIdx->Xu,getElem?_drop->Xv,getElem?_cons_succ->Xw,ext_getElem?->Xx,all_cons->Xy
open Bool renaming and_eq_true->Xz,or_eq_true->XA,false_eq_true->XB,not_eq_true'->XC
open Nat renaming le_refl->XD,lt_or_ge->XE,zero_le->XF,le_trans->XG,zero_add->XH,strongRecOn->XI,lt_trichotomy->XJ,lt_of_lt_of_le->XK,testBit_or->XL,le_total->XM,add_sub_cancel_left->XN,add_assoc->XO
open Array renaming getElem?_eq_getElem->XP,getElem?_eq_some_iff->XQ,mem_toList_iff->XR,getElem?_setIfInBounds_ne->XS,length_toList->XT,replicate->XU,mem_of_getElem?->XV,getD_eq_getD_getElem?->XW,empty_append->XX
namespace Go.Av
open Go
def pos?:List Nat->Nat->Option Nat
 |[],_=>none
 |x::r,l=>if l=x then some 0 else(pos? r l).map (·+1)
def wG (ids:List Nat):List Nat->Option (List Nat)
 |[]=>some []
 |l::r=>match pos? ids l,wG ids r with
  |some i,some is=>some (i::is)
  |_,_=>none
def CV.kK (A:List bu) (ids:List Nat):CV->Option CV
 |.d x=>some (.d x)
 |.nil=>some (.d (.sl []))
 |.own k n=>(nw A (.own k n)).map CV.d
 |.ptr l off=>(pos? ids l).map fun i=>.ptr i off
 |.np=>some .np
 |.ip row off=>some (.ip row off)
 |.op _ _ _ _=>none
 |.fn f cap=>(wG ids cap).map fun is=>.fn f is
 |.undef=>none
def qz (A:List bu) (ids:List Nat):List CV->Option (List CV)
 |[]=>some []
 |c::r=>match c.kK A ids,qz A ids r with
  |some d,some ds=>some (d::ds)
  |_,_=>none
def AV.kK (A:List bu) (ids:List Nat):AV->Option AV
 |.c x=>(x.kK A ids).map AV.c
 |.agg xs=>(qz A ids xs).map AV.agg
 |.bq _=>none
def ib (A:List bu) (ids:List Nat):List AV->Option (List AV)
 |[]=>some []
 |c::r=>match c.kK A ids,ib A ids r with
  |some d,some ds=>some (d::ds)
  |_,_=>none
def gJ (A:List bu) (V:List (List CV)) (ids:List Nat):List Nat->Option (List (List CV))
 |[]=>some []
 |l::r=>match V[l]?,gJ A V ids r with
  |some row,some rs=>match qz A ids row with
   |some row'=>some (row'::rs)
   |none=>none
  |_,_=>none
def back (ids:List Nat) (nV:Nat) (i:Nat):Nat:=match ids[i]? with
 |some l=>l
 |none=>nV+(i-ids.length)
def CV.fN (ids:List Nat) (nV nA:Nat):CV->CV
 |.ptr i off=>.ptr (back ids nV i) off
 |.own k n=>.own (nA+k) n
 |.op k n i off=>.op (nA+k) n i off
 |.fn f cap=>.fn f (cap.map (back ids nV))
 |c=>c
def AV.fN (ids:List Nat) (nV nA:Nat):AV->AV
 |.c x=>.c (x.fN ids nV nA)
 |.agg xs=>.agg (xs.map (CV.fN ids nV nA))
 |.bq xs=>.bq (xs.map fun x=>match x with
  |.c x=>.c (x.fN ids nV nA)
  |.agg xs=>.agg (xs.map (CV.fN ids nV nA))
  |x=>x)
def cc (nA nV:Nat) (ids:List Nat):List (List CV)->List Nat->List (List CV)->List (List CV)
 |V,l::ls,row::rows=>cc nA nV ids (V.set l (row.map (CV.fN ids nV nA))) ls rows
 |V,[],rows=>V++rows.map fun row=>row.map (CV.fN ids nV nA)
 |V,_::_,[]=>V
def bB (xs:List AV):List CV:=xs.flatMap AV.cells
def bK (V:List (List CV)) (ids:List Nat):List CV:=ids.flatMap fun l=>V.getD l []
def ah (P:Program) (f:FuncId) (as:List AV) (V:List (List CV)) (r:AV) (V':List (List CV)) (A':List bu):Prop:=
 (∀args w,(callFunc f args).run P w=.ok (.enter f args) w)/\V.length<=V'.length/\
 ∀(g:Gh) (w:World) (vs:Array Value),g.ar=[]->Inv g w V []->AZ w g->vs.size=as.length->(∀(i:Nat) x u,as[i]? =some x->vs[i]? =some u->aV g w [] x u)->
  Calls P f vs w fun e w'=>∃v g',e=.returned v/\aV g' w' A' r v/\Inv g' w' V' A'/\Fr w g w' g'
def Eo (P:Program) (s:St) (f:FuncId) (xs:List AV) (K:AV->List (List CV)->List bu->Prop):Prop:=
 ∃(ids:List Nat) (as:List AV) (Vc:List (List CV)) (r:AV) (Vc':List (List CV)) (Ac':List bu),ids.Nodup/\ib s.A ids xs=some as/\gJ s.A s.V ids ids=some Vc/\ah P f as Vc r Vc' Ac'/\
  K (r.fN ids s.V.length s.A.length) (cc s.A.length s.V.length ids s.V ids Vc') (bT s.A (bB xs++bK s.V ids)++Ac')
def rW:bu:=⟨0,0,[],false⟩
def qA {α:Type} (l:List α):List Nat->List α->List α
 |h::hs,v::vs=>qA (l.set h v) hs vs
 |_,_=>l
def CV.ew (hs:List Nat):CV->Option CV
 |.d x=>some (.d x)
 |.nil=>some (.d (.sl []))
 |.own k n=>(pos? hs k).map fun i=>.own i n
 |.np=>some .np
 |.ip row off=>some (.ip row off)
 |.fn f []=>some (.fn f [])
 |_=>none
def iG (hs:List Nat):List CV->Option (List CV)
 |[]=>some []
 |c::r=>match c.ew hs,iG hs r with
  |some d,some ds=>some (d::ds)
  |_,_=>none
def AV.ew (hs:List Nat):AV->Option AV
 |.c x=>(x.ew hs).map AV.c
 |.agg xs=>(iG hs xs).map AV.agg
 |.bq _=>none
def eS (hs:List Nat):List AV->Option (List AV)
 |[]=>some []
 |c::r=>match c.ew hs,eS hs r with
  |some d,some ds=>some (d::ds)
  |_,_=>none
def CV.dF (hs:List Nat) (nA:Nat):CV->CV
 |.own k n=>.own (back hs nA k) n
 |.op k n i off=>.op (back hs nA k) n i off
 |c=>c
def AV.dF (hs:List Nat) (nA:Nat):AV->AV
 |.c x=>.c (x.dF hs nA)
 |.agg xs=>.agg (xs.map (CV.dF hs nA))
 |.bq xs=>.bq (xs.map fun x=>match x with
  |.c x=>.c (x.dF hs nA)
  |.agg xs=>.agg (xs.map (CV.dF hs nA))
  |x=>x)
def eO (P:Program) (f:FuncId) (as:List AV) (V:List (List CV)) (A0:List bu) (r:AV) (V':List (List CV)) (A':List bu):Prop:=
 (∀args w,(callFunc f args).run P w=.ok (.enter f args) w)/\V.length<=V'.length/\
 ∀(g:Gh) (w:World) (vs:Array Value),Inv g w V A0->AZ w g->vs.size=as.length->(∀(i:Nat) x u,as[i]? =some x->vs[i]? =some u->aV g w A0 x u)->
  Calls P f vs w fun e w'=>∃v g',e=.returned v/\aV g' w' A' r v/\Inv g' w' V' A'/\Fr w g w' g'
def Ep (P:Program) (s:St) (f:FuncId) (xs:List AV) (K:AV->List (List CV)->List bu->Prop):Prop:=
 ∃(hs:List Nat) (as:List AV) (r:AV) (Ac':List bu),hs.Nodup/\(∀(i h:Nat),hs[i]? =some h->∃a a',s.A[h]? =some a/\a.wr=true/\Ac'[i]? =some a'/\a'.sz=a.sz)/\eS hs xs=some as/\
  eO P f as [] (hs.map fun h=>s.A.getD h rW) r [] Ac'/\K (r.dF hs s.A.length) s.V (qA s.A hs Ac'++Ac'.drop hs.length)
def gM (P:Program) (s:St) (f:FuncId) (xs:List AV) (K:AV->List (List CV)->List bu->Prop):Prop:=Eo P s f xs K\/Ep P s f xs K
section
variable {P:Program} {g g' g0:Gh} {w w' w0:World} {V V':List (List CV)} {A A':List bu} {s:St} {a:Act} {K:AV->List (List CV)->List bu->Prop}
theorem mJ:∀{ids:List Nat} {l i:Nat},pos? ids l=some i->ids[i]? =some l
 |[],l,i,h=>by simp[pos?]at h
 |x::r,l,i,h=>by
  simp only[pos?]at h;split at h
  ·rename_i e;simp at h;subst h;simp[e]
  ·simp only[WQ]at h;obtain⟨j,h1,rfl⟩:=h;simpa using mJ h1
theorem y6:∀{ids cap is:List Nat},wG ids cap=some is->is.length=cap.length/\∀(j l i:Nat),cap[j]? =some l->is[j]? =some i->ids[i]? =some l
 |ids,[],is,h=>by simp[wG]at h;subst h;exact⟨rfl,fun j l i h=>by simp at h⟩
 |ids,c::r,is,h=>by
  simp only[wG]at h;split at h
  ·rename_i i is' h1 h2;simp at h;subst h;obtain⟨h3,h4⟩:=y6 h2;refine⟨by simp[h3],fun j l i h5 h6=>?_⟩;cases j with
   |zero=>simp at h5 h6;subst h5;subst h6;exact mJ h1
   |succ j=>simp at h5 h6;exact h4 j l i h5 h6
  ·simp at h
theorem y7:∀{cs:List CV} {vs:List Value} {g:Gh} {A:List bu},Inv g w V A->Fr w0 g0 w g->jZ g w A cs vs->(∀k n,CV.own k n∈cs->(nw A (.own k n)).isSome=true)->
  ∃g',Inv g' w V (bT A cs)/\Ext g w A g' w (bT A cs)/\Fr w0 g0 w g'/\g'.ar=g.ar/\g'.ob=g.ob/\∀(j:Nat) c x u,cs[j]? =some c->vs[j]? =some u->nw A c=some x->bh g'.im w x u
 |[],vs,g,A,hI,hF,hr,hd=>⟨g,hI,.refl _ _ _,hF,rfl,rfl,fun j c x u h=>by simp at h⟩
 |c::r,vs,g,A,hI,hF,hr,hd=>by
  cases vs with
  |nil=>exact absurd hr.1 (by simp)
  |cons v vs=>
   have vJ:∃g1,Inv g1 w V (fB A c)/\Ext g w A g1 w (fB A c)/\Fr w0 g0 w g1/\g1.ar=g.ar/\g1.ob=g.ob/\∀x,nw A c=some x->bh g1.im w x v:=by
    have Pv:=hr.2 0 c v rfl rfl;cases ht:nw A c with
    |some x=>
     obtain⟨g1,h1,h2,h3,h4,h5,h6⟩:=rU hI hF Pv ht;exact⟨g1,h1,h2,h3,h4,h5,fun y hy=>by simp at hy;subst hy;exact h6⟩
    |none=>
     have dc:fB A c=A:=by
      cases c<;>try rfl
      rename_i k n;have:=hd k n (by simp);rw[ht]at this;simp at this
     rw[dc];exact⟨g,hI,.refl _ _ _,hF,rfl,rfl,fun y hy=>by simp at hy⟩
   obtain⟨g1,eZ,dn,km,tt,pZ,hP⟩:=vJ;have AT:jZ g1 w (fB A c) r vs:=⟨by simpa using hr.1,fun j c' u h3 h4=>bm.ext dn (hr.2 (j+1) c' u (by simpa using h3) (by simpa using h4))⟩;obtain⟨g2,A5,ji,CI,MI,mC,jm⟩:=y7 eZ km AT (fun k n h=>by rw[tn];exact hd k n (by simp[h]));refine⟨g2,A5,dn.trans ji,CI,MI.trans tt,mC.trans pZ,fun j c' x u h3 h4 h5=>?_⟩;cases j with
   |zero=>simp at h3 h4;subst h3;subst h4;exact bh.fA ji.gr _ _ (hP x h5)
   |succ j=>simp at h3 h4;exact jm j c' x u h3 h4 (by rw[tn];exact h5)
theorem CV.Er {ids:List Nat} {k n:Nat} {d:CV} (h:CV.kK A ids (.own k n)=some d):(nw A (.own k n)).isSome=true:=by
 simp only[CV.kK,WQ]at h;obtain⟨x,hx,_⟩:=h;simp[hx]
theorem wH {ids:List Nat}:∀{cs ds:List CV},qz A ids cs=some ds->∀k n,CV.own k n∈cs->(nw A (.own k n)).isSome=true
 |[],ds,h,k,n,hm=>by simp at hm
 |c::r,ds,h,k,n,hm=>by
  simp only[qz]at h;split at h
  ·rename_i d ds' h1 h2;simp only[W2]at hm;rcases hm with rfl|hm
   ·exact CV.Er h1
   ·exact wH h2 k n hm
  ·simp at h
theorem rX {ids:List Nat}:∀{cs ds:List CV},qz A ids cs=some ds->ds.length=cs.length/\∀(j:Nat) c d,cs[j]? =some c->ds[j]? =some d->c.kK A ids=some d
 |[],ds,h=>by simp[qz]at h;subst h;exact⟨rfl,fun j c d h=>by simp at h⟩
 |c::r,ds,h=>by
  simp only[qz]at h;split at h
  ·rename_i d ds' h1 h2;simp at h;subst h;obtain⟨h3,h4⟩:=rX h2;refine⟨by simp[h3],fun j c' d' h5 h6=>?_⟩;cases j with
   |zero=>simp at h5 h6;subst h5;subst h6;exact h1
   |succ j=>simp at h5 h6;exact h4 j c' d' h5 h6
  ·simp at h
theorem Bg {ids:List Nat}:∀{xs as:List AV},ib A ids xs=some as->as.length=xs.length/\∀(j:Nat) x y,xs[j]? =some x->as[j]? =some y->x.kK A ids=some y
 |[],as,h=>by simp[ib]at h;subst h;exact⟨rfl,fun j x y h=>by simp at h⟩
 |c::r,as,h=>by
  simp only[ib]at h;split at h
  ·rename_i d ds' h1 h2;simp at h;subst h;obtain⟨h3,h4⟩:=Bg h2;refine⟨by simp[h3],fun j c' d' h5 h6=>?_⟩;cases j with
   |zero=>simp at h5 h6;subst h5;subst h6;exact h1
   |succ j=>simp at h5 h6;exact h4 j c' d' h5 h6
  ·simp at h
theorem Bh {ids:List Nat}:∀{ls:List Nat} {Vc:List (List CV)},gJ A V ids ls=some Vc->Vc.length=ls.length/\∀(i l:Nat) row',ls[i]? =some l->Vc[i]? =some row'->∃row,V[l]? =some row/\qz A ids row=some row'
 |[],Vc,h=>by simp[gJ]at h;subst h;exact⟨rfl,fun i l row' h=>by simp at h⟩
 |l::r,Vc,h=>by
  simp only[gJ]at h;split at h
  ·rename_i row rs h1 h2;split at h
   ·rename_i row' h3;simp at h;subst h;obtain⟨h4,h5⟩:=Bh h2;refine⟨by simp[h4],fun i l' rw' h6 h7=>?_⟩;cases i with
    |zero=>simp at h6 h7;subst h6;subst h7;exact⟨row,h1,h3⟩
    |succ i=>simp at h6 h7;exact h5 i l' rw' h6 h7
   ·simp at h
  ·simp at h
theorem tC {ids:List Nat} {g1 gc:Gh} {c d:CV} {u:Value} (h:c.kK A ids=some d) (hr:bm g1 w A' c u) (hd:∀x,nw A c=some x->bh g1.im w x u) (I3:∀(i l b:Nat),ids[i]? =some l->g1.ob[l]? =some b->gc.ob[i]? =some b) (qS:gc.im=g1.im):bm gc w [] d u:=by
 cases c with
 |d x=>simp[CV.kK]at h;subst h;simp only[bm]at hr⊢;rw[qS];exact hr
 |nil=>simp[CV.kK]at h;subst h;simp only[bm];rw[qS];exact hd _ rfl
 |own k n=>
  simp only[CV.kK,WQ]at h;obtain⟨x,hx,rfl⟩:=h;simp only[bm];rw[qS];exact hd x hx
 |ptr l off=>
  simp only[CV.kK,WQ]at h;obtain⟨i,hi,rfl⟩:=h;obtain⟨b,hb,e⟩:=hr;exact⟨b,I3 i l b (mJ hi) hb,e⟩
 |np=>simp[CV.kK]at h;subst h;exact hr
 |ip row off=>
  simp[CV.kK]at h;subst h;obtain⟨b,o,e,h1,h2⟩:=hr;exact⟨b,o,e,by rw[qS];exact h1,by rw[qS];exact h2⟩
 |op k n i off=>simp[CV.kK]at h
 |fn f cap=>
  simp only[CV.kK,WQ]at h;obtain⟨is,hi,rfl⟩:=h;obtain⟨bks,e,hl,hb⟩:=hr;obtain⟨h1,h2⟩:=y6 hi;refine⟨bks,e,by omega,fun j i b h3 h4=>?_⟩;have hj:j<cap.length:=by have:=(WS.1 h3).1;omega
  have hc:cap[j]? =some cap[j]:=WW hj;exact I3 i _ b (h2 j _ i hc h3) (hb j _ b hc h4)
 |undef=>simp[CV.kK]at h
theorem C6 {ids:List Nat} {nV nA:Nat} {Ac' A2:List bu} {g2:Gh} {c:CV} {u:Value} (hr:bm g' w Ac' c u) (I3:∀(i b:Nat),g'.ob[i]? =some b->g2.ob[back ids nV i]? =some b) (qS:g2.im=g'.im)
  (hA:∀(k:Nat) r,Ac'[k]? =some r->A2[nA+k]? =some r) (MP:∀(k:Nat) v,g'.ar[k]? =some v->g2.ar[nA+k]? =some v):bm g2 w A2 (c.fN ids nV nA) u:=by
 cases c with
 |d x=>simp only[CV.fN,bm]at hr⊢;rw[qS];exact hr
 |own k n=>
  obtain⟨ad,cap,e,r,h1,h2,h3⟩:=hr;exact⟨ad,cap,e,r,hA k r h1,h2,fun h=>MP k _ (h3 h)⟩
 |ptr l off=>
  obtain⟨b,hb,e⟩:=hr;exact⟨b,I3 l b hb,e⟩
 |ip row off=>
  obtain⟨b,o,e,h1,h2⟩:=hr;exact⟨b,o,e,by rw[qS];exact h1,by rw[qS];exact h2⟩
 |op k n i off=>
  obtain⟨b,e,hv,r,h1,h2,h3⟩:=hr;refine⟨b,e,hv,r,hA k r h1,h2,fun h=>?_⟩;obtain⟨cap,h4,h5⟩:=h3 h;exact⟨cap,MP k _ h4,h5⟩
 |fn f cap=>
  obtain⟨bks,e,hl,hb⟩:=hr;refine⟨bks,e,by simpa using hl,fun i l b h1 h2=>?_⟩;simp only[WZ,WQ]at h1;obtain⟨l',h3,rfl⟩:=h1;exact I3 l' b (hb i l' b h3 h2)
 |_=>exact hr
theorem uR {nA nV:Nat} {ids:List Nat}:∀{V:List (List CV)} {ls:List Nat} {rows:List (List CV)},ls.length<=rows.length->(cc nA nV ids V ls rows).length=V.length+(rows.length-ls.length)
 |V,[],rows,_=>by simp[cc]
 |V,l::ls,[],h=>by simp at h
 |V,l::ls,row::rows,h=>by
  simp only[cc];rw[uR (by simpa using h)];simp
theorem wI {nA nV:Nat} {ids:List Nat}:∀{V:List (List CV)} {ls:List Nat} {rows:List (List CV)},ls.length<=rows.length->ls.Nodup->(∀l∈ls,l<V.length)->∀(l:Nat) row,(cc nA nV ids V ls rows)[l]? =some row->
  (∃(i:Nat) (row':List CV),ls[i]? =some l/\rows[i]? =some row'/\row=row'.map (CV.fN ids nV nA))\/(l∉ls/\l<V.length/\V[l]? =some row)\/(V.length<=l/\∃row':List CV,rows[ls.length+(l-V.length)]? =some row'/\row=row'.map (CV.fN ids nV nA))
 |V,[],rows,_,_,_,l,row,h=>by
  simp only[cc]at h;by_cases hl:l<V.length
  ·rw[WU hl]at h;exact .inr (.inl ⟨by simp,hl,h⟩)
  ·rw[WV (by omega),WZ,WQ]at h;obtain⟨row',h1,rfl⟩:=h;exact .inr (.inr ⟨by omega,row',by simpa using h1,rfl⟩)
 |V,l0::ls,[],h,_,_,_,_,_=>by simp at h
 |V,l0::ls,row0::rows,hlen,oQ,az,l,row,h=>by
  simp only[cc]at h;rw[Xg]at oQ;have I1:l0<V.length:=az l0 (by simp);have hV:V[l0]? =some V[l0]:=WW I1;rcases wI (by simpa using hlen) oQ.2 (fun l hl=>by simpa using az l (by simp[hl])) l row h with⟨i,row',h1,h2,h3⟩|⟨h1,h2,h3⟩|⟨h1,row',h2,h3⟩
  ·exact .inl ⟨i+1,row',by simpa using h1,by simpa using h2,h3⟩
  ·rw[dk hV]at h3;by_cases e:l=l0
   ·subst e;simp at h3;exact .inl ⟨0,row0,rfl,rfl,h3.symm⟩
   ·rw[if_neg e]at h3;exact .inr (.inl ⟨by simp[e,h1],by simpa using h2,h3⟩)
  ·simp at h1 h2;refine .inr (.inr ⟨h1,row',?_,h3⟩);rw[List.length_cons,show ls.length+1+(l-V.length)=(ls.length+(l-V.length))+1 by omega,Xw];exact h2
set_option maxHeartbeats 1000000 in
theorem yw (hI:Inv g w s.V s.A) (hF:Fr w0 g0 w g) {f:FuncId} {xs:List AV} {vs:Array Value} (hl:vs.size=xs.length) (hr:∀(i:Nat) x u,xs[i]? =some x->vs[i]? =some u->aV g w s.A x u) (h:Eo P s f xs K):
  (∀args w,(callFunc f args).run P w=.ok (.enter f args) w)/\∃x V' A',K x V' A'/\Calls P f vs w fun e w'=>∃v g',e=.returned v/\aV g' w' A' x v/\Inv g' w' V' A'/\Ext g w s.A g' w' A'/\Fr w0 g0 w' g':=by
 obtain⟨ids,as,Vc,r,Vc',Ac',oQ,has,TR,⟨Hh,hlen,ic⟩,hK⟩:=h;refine⟨Hh,_,_,_,hK,?_⟩;obtain⟨Qy,Hi⟩:=Bg has;obtain⟨Lk,MQ⟩:=Bh TR;have Hj:∀l∈ids,l<s.V.length:=fun l I0=>by
  obtain⟨i,hi⟩:=W0 I0;have AU:=(WS.1 hi).1;obtain⟨row,h1,_⟩:=MQ i l _ hi (WW (show i<Vc.length by omega));exact(WS.1 h1).1
 have o9:∀(l:List AV) (us:List Value),us.length=l.length->(∀(i:Nat) x u,l[i]? =some x->us[i]? =some u->aV g w s.A x u)->(∀x∈l,∃y,x.kK s.A ids=some y)->
   jZ g w s.A (bB l) (us.flatMap fun u=>u.cells.toList)/\∀k n,CV.own k n∈bB l->(nw s.A (.own k n)).isSome=true:=by
  intro l;induction l with
  |nil=>intro us h1 _ _;have:us=[]:=Xe (by simpa using h1);subst this;exact⟨⟨rfl,fun j c u h=>by simp[bB]at h⟩,fun k n h=>by simp[bB]at h⟩
  |cons x l ih=>
   intro us h1 h2 h3;cases us with
   |nil=>simp at h1
   |cons u us=>
    obtain⟨⟨h4,h5⟩,h6⟩:=ih us (by simpa using h1) (fun i x u h7 h8=>h2 (i+1) x u (by simpa using h7) (by simpa using h8)) (fun x hx=>h3 x (by simp[hx]));obtain⟨y,hy⟩:=h3 x (by simp);have MR:=h2 0 x u rfl rfl;have lR:jZ g w s.A x.cells u.cells.toList:=by
     refine(AV.gn MR ?_).1;cases x with
     |c c=>simp only[AV.kK,WQ]at hy;obtain⟨d,hd,_⟩:=hy;cases c<;>first|rfl|simp[CV.kK]at hd
     |agg cs=>
      simp only[AV.kK,WQ]at hy;obtain⟨ds,hd,_⟩:=hy;simp only[AV.plain,W4,XC];intro c hc;obtain⟨j,hj⟩:=W0 hc;obtain⟨h9,cE⟩:=rX hd;have iZ:j<ds.length:=by have:=(WS.1 hj).1;omega
      have:=cE j c _ hj (WW iZ);cases c<;>first|rfl|simp[CV.kK]at this
     |bq ys=>simp[AV.kK]at hy
    refine⟨⟨by simp only[bB,W3,W7]at h4⊢;have:=lR.1;omega,fun j c v h7 h8=>?_⟩,fun k n h7=>?_⟩
    ·simp only[bB,W3]at h7 h8;by_cases hj:j<x.cells.length
     ·rw[WU hj]at h7;rw[WU (by rw[lR.1];exact hj)]at h8;exact lR.2 j c v h7 h8
     ·rw[WV (by omega)]at h7;rw[WV (by rw[lR.1];omega),lR.1]at h8;exact h5 _ c v h7 h8
    ·simp only[bB,W3,W6]at h7;rcases h7 with h7|h7
     ·cases x with
      |c c=>
       simp[AV.cells]at h7;subst h7;simp only[AV.kK,WQ]at hy;obtain⟨d,hd,_⟩:=hy;exact CV.Er hd
      |agg cs=>
       simp only[AV.kK,WQ]at hy;obtain⟨ds,hd,_⟩:=hy;exact wH hd k n h7
      |bq ys=>simp[AV.cells]at h7
     ·exact h6 k n h7
 obtain⟨Fs,TS⟩:=o9 xs vs.toList (by simpa using hl) (fun i x u h1 h2=>hr i x u h1 (by simpa using h2)) (fun x hx=>by
  obtain⟨i,hi⟩:=W0 hx;have:i<as.length:=by have:=(WS.1 hi).1;omega
  exact⟨_,Hi i x _ hi (WW this)⟩)
 have Nw:∀ls:List Nat,(∀l∈ls,l∈ids)->∃us:List Value,jZ g w s.A (bK s.V ls) us/\(∀k n,CV.own k n∈bK s.V ls->(nw s.A (.own k n)).isSome=true)/\
   ∀(l:Nat) row b,l∈ls->s.V[l]? =some row->g.ob[l]? =some b->∃cs ty,w.heap[b]? =some (.cells cs ty (0,0))/\cs.size=row.length/\∃o,∀(j:Nat) c u,row[j]? =some c->cs[j]? =some u->(bK s.V ls)[o+j]? =some c/\us[o+j]? =some u:=by
  intro ls;induction ls with
  |nil=>intro _;exact⟨[],⟨rfl,fun j c u h=>by simp[bK]at h⟩,fun k n h=>by simp[bK]at h,fun l row b h=>by simp at h⟩
  |cons l0 ls ih=>
   intro gq;obtain⟨us,⟨h1,h2⟩,h3,h4⟩:=ih (fun l hl=>gq l (by simp[hl]));have I1:=Hj l0 (gq l0 (by simp));have Es:s.V[l0]? =some s.V[l0]:=WW I1;have Hk:g.ob[l0]? =some (g.ob[l0]'(by rw[hI.oP];exact I1)):=WW _;obtain⟨_,cs0,ty0,TT,I4,Js⟩:=hI.obj l0 _ _ Es Hk;have vM:s.V.getD l0 []=s.V[l0]:=by simp[W1,Es]
   have nD:bK s.V (l0::ls)=s.V[l0]++bK s.V ls:=by simp only[bK,W3,vM]
   refine⟨cs0.toList++us,?_,?_,?_⟩
   ·rw[nD];refine⟨by simp[h1,I4],fun j c u h5 h6=>?_⟩;by_cases hj:j<s.V[l0].length
    ·rw[WU hj]at h5;rw[WU (by simp;omega)]at h6;exact Js j c u h5 (by simpa using h6)
    ·rw[WV (by omega)]at h5;rw[WV (by simp;omega)]at h6;exact h2 _ c u h5 (by simpa[I4]using h6)
   ·rw[nD];intro k n hm;rcases W6.1 hm with hm|hm
    ·obtain⟨i,hi⟩:=W0 (gq l0 (by simp));have AU:=(WS.1 hi).1;obtain⟨row,h5,h6⟩:=MQ i l0 _ hi (WW (show i<Vc.length by omega));rw[Es]at h5;cases h5;exact wH h6 k n hm
    ·exact h3 k n hm
   ·intro l row b GJ dK hb;rw[nD];by_cases e:l=l0
    ·subst e;rw[Es]at dK;cases dK;rw[Hk]at hb;cases hb;refine⟨cs0,ty0,TT,I4,0,fun j c u h5 h6=>?_⟩;have hj:=(WS.1 h5).1;rw[XH,WU hj,WU (by simp;omega)];exact⟨h5,by simpa using h6⟩
    ·simp only[W2,e,false_or]at GJ;obtain⟨cs,ty,h5,h6,o,h7⟩:=h4 l row b GJ dK hb;refine⟨cs,ty,h5,h6,s.V[l0].length+o,fun j c u h8 h9=>?_⟩;obtain⟨cE,ev⟩:=h7 j c u h8 h9;rw[XO,WV (by omega),WV (by simp;omega)];simp only[XN,XT,I4];exact⟨cE,ev⟩
 obtain⟨us,Qz,TU,TV⟩:=Nw ids (fun _ h=>h);have yx:jZ g w s.A (bB xs++bK s.V ids) ((vs.toList.flatMap fun u=>u.cells.toList)++us):=by
  refine⟨by simp only[W7];have:=Fs.1;have:=Qz.1;omega,fun j c u h1 h2=>?_⟩;by_cases hj:j<(bB xs).length
  ·rw[WU hj]at h1;rw[WU (by rw[Fs.1];exact hj)]at h2;exact Fs.2 j c u h1 h2
  ·rw[WV (by omega)]at h1;rw[WV (by rw[Fs.1];omega),Fs.1]at h2;exact Qz.2 _ c u h1 h2
 obtain⟨g1,eZ,dn,km,tt,pZ,hP⟩:=y7 hI hF yx (fun k n hm=>by
  rcases W6.1 hm with hm|hm
  ·exact TS k n hm
  ·exact TU k n hm)
 let gc:Gh:={ob:=ids.map fun l=>g1.ob.getD l 0,ar:=[],im:=g1.im}
 have Hl:∀(i l b:Nat),ids[i]? =some l->g1.ob[l]? =some b->gc.ob[i]? =some b:=fun i l b h1 h2=>by
  simp[gc,h1,h2]
 have oF:∀(i b:Nat),gc.ob[i]? =some b->∃l,ids[i]? =some l/\g1.ob[l]? =some b:=fun i b h1=>by
  simp only[gc,WZ,WQ]at h1;obtain⟨l,h2,h3⟩:=h1;have vN:l<g1.ob.length:=by rw[eZ.oP];exact Hj l (WY h2)
  exact⟨l,h2,by rw[<-h3];simp[W1,vN]⟩
 have Hm:Inv gc w Vc []:=by
  refine⟨by simp[gc,Lk],rfl,fun i row' b h1 h2=>?_,fun k r v h1=>by simp at h1,fun i i' b h1 h2=>?_,fun k k' v v' b h1=>by simp[gc]at h1,fun l k v b _ h2=>by simp[gc]at h2,eZ.fresh⟩
  ·obtain⟨l,h3,h4⟩:=oF i b h2;obtain⟨row,h5,h6⟩:=MQ i l row' h3 h1;have hb:g.ob[l]? =some b:=by rw[<-pZ];exact h4
   obtain⟨cs,ty,h7,h8,o,h9⟩:=TV l row b (WY h3) h5 hb;obtain⟨cE,ev⟩:=rX h6;refine⟨(eZ.obj l row b h5 h4).1,cs,ty,h7,by omega,fun j d u fM dt=>?_⟩;have hj:j<row.length:=by have:=(WS.1 fM).1;omega
   have hc:row[j]? =some row[j]:=WW hj;obtain⟨gk,qI⟩:=h9 j _ u hc dt;refine tC (ev j _ d hc fM) (bm.ext dn (Qz.2 (o+j) _ u gk qI)) (fun x hx=>?_) Hl rfl;refine hP ((bB xs).length+(o+j)) row[j] x u ?_ ?_ hx
   ·rw[WV (by omega)];simpa using gk
   ·rw[WV (by rw[Fs.1];omega),Fs.1];simpa using qI
  ·obtain⟨l,h3,h4⟩:=oF i b h1;obtain⟨l',h5,h6⟩:=oF i' b h2;obtain rfl:=eZ.kA l l' b h4 h6;have hi:=(WS.1 h3).1;exact(Xb hi oQ).1 (h3.trans h5.symm)
 have Hn:∀(i:Nat) x u,as[i]? =some x->vs[i]? =some u->aV gc w [] x u:=by
  intro i y u h1 h2;have hi:i<xs.length:=by have:=(WS.1 h1).1;omega
  have hx:xs[i]? =some xs[i]:=WW hi;have bZ:=Hi i _ y hx h1;have Js:=hr i _ u hx h2
  have Ll:∀(l:List AV) (us:List Value),jZ g w s.A (bB l) (us.flatMap fun u=>u.cells.toList)->us.length=l.length->(∀(i:Nat) x u,l[i]? =some x->us[i]? =some u->x.cells.length=u.cells.size)->∀(i:Nat) x u,l[i]? =some x->us[i]? =some u->
    ∃o,∀(j:Nat) c v,x.cells[j]? =some c->u.cells[j]? =some v->(bB l)[o+j]? =some c/\(us.flatMap fun u=>u.cells.toList)[o+j]? =some v:=by
   intro l;induction l with
   |nil=>intro us _ _ _ i x u h;simp at h
   |cons x0 l ih=>
    intro us Pv A9 eM i x u h3 h4;cases us with
    |nil=>simp at A9
    |cons u0 us=>
     have I4:=eM 0 x0 u0 rfl rfl;cases i with
     |zero=>
      simp at h3 h4;subst h3;subst h4;refine⟨0,fun j c v h5 h6=>?_⟩;have hj:=(WS.1 h5).1;simp only[bB,W3,XH];rw[WU hj,WU (by simp;omega)];exact⟨h5,by simpa using h6⟩
     |succ i=>
      simp at h3 h4;obtain⟨o,ho⟩:=ih us ⟨by have:=Pv.1;simp only[bB,W3,W7,XT]at this⊢;omega,fun j c v h5 h6=>Pv.2 (x0.cells.length+j) c v (by
        simp only[bB,W3];rw[WV (by omega)];simpa[bB]using h5) (by
        simp only[W3];rw[WV (by simp;omega)];simpa[I4]using h6)⟩ (by simpa using A9) (fun i x u h5 h6=>eM (i+1) x u (by simpa using h5) (by simpa using h6)) i x u h3 h4
      refine⟨x0.cells.length+o,fun j c v h5 h6=>?_⟩;obtain⟨h7,h8⟩:=ho j c v h5 h6;simp only[bB,W3,XO];rw[WV (by omega),WV (by simp;omega)];simp only[XN,XT];exact⟨h7,by rw[show x0.cells.length+(o+j)-u0.cells.size=o+j by omega];exact h8⟩
  have lR:∀(i:Nat) x u,xs[i]? =some x->vs.toList[i]? =some u->jZ g w s.A x.cells u.cells.toList:=by
   intro i x u h3 h4;have Fh:i<as.length:=by have:=(WS.1 h3).1;omega
   have hy:=Hi i x _ h3 (WW Fh);refine(AV.gn (hr i x u h3 (by simpa using h4)) ?_).1;cases x with
   |c c=>simp only[AV.kK,WQ]at hy;obtain⟨d,hd,_⟩:=hy;cases c<;>first|rfl|simp[CV.kK]at hd
   |agg cs=>
    simp only[AV.kK,WQ]at hy;obtain⟨ds,hd,_⟩:=hy;simp only[AV.plain,W4,XC];intro c hc;obtain⟨j,hj⟩:=W0 hc;obtain⟨h9,cE⟩:=rX hd;have iZ:j<ds.length:=by have:=(WS.1 hj).1;omega
    have:=cE j c _ hj (WW iZ);cases c<;>first|rfl|simp[CV.kK]at this
   |bq ys=>simp[AV.kK]at hy
  obtain⟨o,ho⟩:=Ll xs vs.toList Fs (by simpa using hl) (fun i x u h3 h4=>by have:=(lR i x u h3 h4).1;simp at this;omega) i _ u hx (by simpa using h2);have oB:∀(j:Nat) c d v,xs[i].cells[j]? =some c->u.cells[j]? =some v->c.kK s.A ids=some d->bm gc w [] d v:=fun j c d v h3 h4 h5=>by
   obtain⟨h6,h7⟩:=ho j c v h3 h4;have az:=(WS.1 h6).1;refine tC h5 (bm.ext dn (Fs.2 _ c v h6 h7)) (fun x hx=>hP (o+j) c x v ?_ ?_ hx) Hl rfl
   ·rw[WU az];exact h6
   ·rw[WU (by rw[Fs.1];exact az)];exact h7
  generalize SA:xs[i]=x at bZ Js oB;cases x with
  |c c=>
   simp only[AV.kK,WQ]at bZ;obtain⟨d,hd,rfl⟩:=bZ;have vJ:u.oneCell'=true:=bm.lQ (by cases c<;>first|rfl|simp[CV.kK]at hd) Js;have yg:u.cells= #[u]:=by cases u<;>first|rfl|simp[Value.oneCell']at vJ
   exact oB 0 c d u rfl (by rw[yg];rfl) hd
  |agg cs=>
   simp only[AV.kK,WQ]at bZ;obtain⟨ds,hd,rfl⟩:=bZ;obtain⟨us',rfl,TW,_⟩:=Js;obtain⟨h9,cE⟩:=rX hd;refine⟨us',rfl,by omega,fun j d v h3 h4=>?_⟩;have hj:j<cs.length:=by have:=(WS.1 h3).1;omega
   have hc:cs[j]? =some cs[j]:=WW hj;exact oB j _ d v hc (by simpa[Value.cells]using h4) (cE j _ d hc h3)
  |bq ys=>simp[AV.kK]at bZ
 refine(ic gc w vs rfl Hm (km.now.less (fun b hb=>by obtain⟨i,hi⟩:=W0 hb;obtain⟨l,_,h⟩:=oF i b hi;exact WY h) (fun b hb=>by simp[Gh.jg,gc]at hb)) (by omega) Hn).mono ?_;rintro e w' ⟨v,g',rfl,yy,uQ,s6⟩;have MS:∀b,b∉gc.jg:=fun b h=>by simp[Gh.jg,gc]at h
 obtain⟨new,Jt,yz⟩:=s6.ob;have Lm:gc.ob.length=ids.length:=by simp[gc]
 let g2:Gh:={ob:=g1.ob++new,ar:=g1.ar++g'.ar,im:=g'.im}
 have KH:g1.ob.length=s.V.length:=eZ.oP;have uS:g1.ar.length=(bT s.A (bB xs++bK s.V ids)).length:=eZ.lF;have qH:(bT s.A (bB xs++bK s.V ids)).length=s.A.length:=by rw[<-uS,tt,hI.lF]
 have QA:∀(i b:Nat),g'.ob[i]? =some b->g2.ob[back ids s.V.length i]? =some b:=by
  intro i b h1;rw[Jt]at h1;simp only[back];by_cases hi:i<ids.length
  ·have hid:ids[i]? =some ids[i]:=WW hi;rw[WU (by omega)]at h1;obtain⟨l,h2,h3⟩:=oF i b h1;simp only[h2,g2];rw[WU (by have:=(WS.1 h3).1;exact this)];exact h3
  ·have hid:ids[i]? =none:=Xc (by omega);rw[WV (by omega),Lm]at h1;simp only[hid,g2];rw[WV (by omega),KH];simpa using h1
 have QB:∀(k:Nat) r,Ac'[k]? =some r->(bT s.A (bB xs++bK s.V ids)++Ac')[s.A.length+k]? =some r:=fun k r h1=>by
  rw[WV (by omega),qH];simpa using h1
 have QC:∀(k:Nat) v,g'.ar[k]? =some v->g2.ar[s.A.length+k]? =some v:=fun k v h1=>by
  simp only[g2];rw[WV (by omega),uS,qH];simpa using h1
 have uK:jX g1.im w g'.im w':=by
  refine⟨fun b=>?_,fun b o ho=>?_⟩
  ·rcases XE b w.heap.size with hb|hb
   ·rw[s6.iY b hb (MS b)];exact XD _
   ·rw[eZ.fresh b hb];exact XF _
  ·have hb:=eZ.Fi ho;refine World.cell?_of_block (a:=⟨b,o,none⟩) (s6.qF b hb (fun hm=>?_) (MS b));obtain⟨i,hi⟩:=W0 hm;obtain⟨l,h2,h3⟩:=oF i b hi;have vN:=Hj l (WY h2);have:=(eZ.obj l _ b (WW vN) h3).1;omega
 have ji:Ext g1 w (bT s.A (bB xs++bK s.V ids)) g2 w' (bT s.A (bB xs++bK s.V ids)++Ac'):=by
  refine⟨fun l b hb=>?_,uK,fun k r hk=>⟨r,?_,rfl,XD _,fun _=>?_⟩⟩
  ·simp only[g2];rw[WU (WS.1 hb).1];exact hb
  ·rw[WU (WS.1 hk).1];exact hk
  ·simp only[g2];rw[WU (by rw[uS];exact(WS.1 hk).1)]
 have pc:∀c u,bm g' w' Ac' c u->bm g2 w' (bT s.A (bB xs++bK s.V ids)++Ac') (c.fN ids s.V.length s.A.length) u:=fun c u h1=>C6 h1 QA rfl QB QC
 have hold:∀b,b<w.heap.size->(∀(l:Nat),l∈ids->g1.ob[l]? ≠some b)->w'.heap[b]? =w.heap[b]? :=fun b hb dc=>s6.qF b hb (fun hm=>by
  obtain⟨i,hi⟩:=W0 hm;obtain⟨l,h2,h3⟩:=oF i b hi;exact dc l (WY h2) h3) (MS b)
 have hVc'l:ids.length<=Vc'.length:=by omega
 have Lo:=uQ.oP;have SB:new.length=Vc'.length-ids.length:=by
  have:g'.ob.length=Vc'.length:=Lo;rw[Jt,W7,Lm]at this;omega
 have wJ:∀(l b:Nat),g2.ob[l]? =some b->(l<s.V.length/\g1.ob[l]? =some b/\b<w.heap.size)\/(s.V.length<=l/\g'.ob[ids.length+(l-s.V.length)]? =some b/\w.heap.size<=b):=by
  intro l b h1;simp only[g2]at h1;by_cases I0:l<s.V.length
  ·rw[WU (by omega)]at h1;exact .inl ⟨I0,h1,eZ.qR h1⟩
  ·rw[WV (by omega),KH]at h1;refine .inr ⟨by omega,?_,yz b (WY h1)⟩;rw[Jt,WV (by omega),Lm];simpa using h1
 have hg'idx:∀(i l b:Nat),ids[i]? =some l->g1.ob[l]? =some b->g'.ob[i]? =some b:=fun i l b h1 h2=>by
  have h3:=Hl i l b h1 h2;rw[Jt,WU (WS.1 h3).1];exact h3
 refine⟨v,g2,rfl,?_,?_,dn.trans ji,?_⟩
 ·-- the result
  cases r with
  |c c=>exact pc c v yy
  |agg cs=>
   obtain⟨us',rfl,h1,h2⟩:=yy;refine⟨us',rfl,by simpa using h1,fun j c u h3 h4=>?_⟩;simp only[WZ,WQ]at h3;obtain⟨c',h5,rfl⟩:=h3;exact pc c' u (h2 j c' u h5 h4)
  |bq ys=>
   obtain⟨us',rfl,h1,h2⟩:=yy;refine⟨us',rfl,by simpa using h1,fun j y u h3 h4=>?_⟩;simp only[WZ,WQ]at h3;obtain⟨y',h5,rfl⟩:=h3;have h6:=h2 j y' u h5 h4;cases y' with
   |c c=>exact pc c u h6
   |agg cs=>
    obtain⟨us'',rfl,h7,h8⟩:=h6;refine⟨us'',rfl,by simpa using h7,fun j c u h9 cE=>?_⟩;simp only[WZ,WQ]at h9;obtain⟨c',ev,rfl⟩:=h9;exact pc c' u (h8 j c' u ev cE)
   |bq zs=>exact h6.elim
 ·-- the memory
  refine⟨?_,?_,fun l row b h1 h2=>?_,fun k r v' h1 h2=>?_,fun l l' b h1 h2=>?_,fun k k' v1 v2 b h1 h2 h3 h4=>?_,fun l k v' b h1 h2 h3=>?_,fun b hb=>uQ.fresh b hb⟩
  ·rw[uR hVc'l];simp only[g2,W7];omega
  ·simp only[g2,W7,uS];rw[uQ.lF]
  ·rcases wI hVc'l oQ Hj l row h1 with⟨i,row',h3,h4,rfl⟩|⟨h3,h4,h5⟩|⟨h3,row',h4,rfl⟩
   ·have I0:=Hj l (WY h3);rcases wJ l b h2 with⟨_,h5,_⟩|⟨h5,_⟩
    ·obtain⟨h6,cs,ty,h7,h8,h9⟩:=uQ.obj i row' b h4 (hg'idx i l b h3 h5);refine⟨h6,cs,ty,h7,by simpa using h8,fun j c u cE ev=>?_⟩;simp only[WZ,WQ]at cE;obtain⟨c',fM,rfl⟩:=cE;exact pc c' u (h9 j c' u fM ev)
    ·omega
   ·rcases wJ l b h2 with⟨_,h6,h7⟩|⟨h6,_⟩
    ·refine eZ.fb ji h5 h6 (hold b h7 (fun l' I0 h8=>h3 (eZ.kA l l' b h6 h8▸I0))) ?_;show g'.im b=0;rw[s6.iY b h7 (MS b)];exact(eZ.obj l row b h5 h6).1
    ·omega
   ·rcases wJ l b h2 with⟨h5,_⟩|⟨_,h5,_⟩
    ·omega
    ·obtain⟨h6,cs,ty,h7,h8,h9⟩:=uQ.obj _ row' b h4 h5;refine⟨h6,cs,ty,h7,by simpa using h8,fun j c u cE ev=>?_⟩;simp only[WZ,WQ]at cE;obtain⟨c',fM,rfl⟩:=cE;exact pc c' u (h9 j c' u fM ev)
  ·simp only[g2]at h2;by_cases hk:k<s.A.length
   ·rw[WU (by omega)]at h1;rw[WU (by omega)]at h2;exact eZ.fc ji h1 h2 (fun b hb=>hold b (eZ.mE h2 hb) (fun l _ h3=>eZ.iX l k v' b h3 h2 hb)) (fun b hb=>s6.iY b (eZ.mE h2 hb) (MS b))
   ·rw[WV (by omega),qH]at h1;rw[WV (by omega),uS,qH]at h2;exact uQ.arr _ r v' h1 h2
  ·rcases wJ l b h1 with⟨h3,h4,h5⟩|⟨h3,h4,h5⟩<;>rcases wJ l' b h2 with⟨h6,h7,h8⟩|⟨h6,h7,h8⟩
   ·exact eZ.kA l l' b h4 h7
   ·omega
   ·omega
   ·have:=uQ.kA _ _ b h4 h7;omega
  ·have KI:∀(k:Nat) v b,g2.ar[k]? =some v->v.ownBlock=some b->(k<s.A.length/\g1.ar[k]? =some v/\b<w.heap.size)\/(s.A.length<=k/\g'.ar[k-s.A.length]? =some v/\w.heap.size<=b):=fun k v b h5 h6=>by
    simp only[g2]at h5;by_cases hk:k<s.A.length
    ·rw[WU (by omega)]at h5;exact .inl ⟨hk,h5,eZ.mE h5 h6⟩
    ·rw[WV (by omega),uS,qH]at h5;exact .inr ⟨by omega,h5,s6.Qc rfl _ v b h5 h6⟩
   rcases KI k v1 b h1 h3 with⟨h5,h6,h7⟩|⟨h5,h6,h7⟩<;>rcases KI k' v2 b h2 h4 with⟨h8,h9,cE⟩|⟨h8,h9,cE⟩
   ·exact eZ.iS k k' v1 v2 b h6 h9 h3 h4
   ·omega
   ·omega
   ·have:=uQ.iS _ _ v1 v2 b h6 h9 h3 h4;omega
  ·simp only[g2]at h2;by_cases hk:k<s.A.length
   ·rw[WU (by omega)]at h2;rcases wJ l b h1 with⟨_,h5,_⟩|⟨_,_,h6⟩
    ·exact eZ.iX l k v' b h5 h2 h3
    ·have:=eZ.mE h2 h3;omega
   ·rw[WV (by omega),uS,qH]at h2;have h7:=s6.Qc rfl _ v' b h2 h3;rcases wJ l b h1 with⟨_,_,h5⟩|⟨_,h5,_⟩
    ·omega
    ·exact uQ.iX _ _ v' b h5 h2 h3
 ·-- what is left alone
  refine⟨s6.os.trans hF.os,s6.tape.trans hF.tape,s6.output.trans hF.output,XG hF.size s6.size,fun b h1 h2 Lp=>?_,fun b h1 lH=>?_,?_,fun k v' b h1 h2=>?_,fun k v' h1=>?_,hF.yp⟩
  ·rw[hold b (XK h1 hF.size) (fun l I0 h3=>by rcases km.Ni h3 with h4|h4<;>first|exact h2 h4|omega)];exact km.qF b h1 h2 Lp
  ·show g'.im b=g0.im b;rw[s6.iY b (XK h1 hF.size) (MS b)];exact km.iY b h1 lH
  ·obtain⟨wK,e1,Ft⟩:=km.ob;exact⟨wK++new,by simp only[g2,e1,List.append_assoc],fun b hb=>by
    rcases W6.1 hb with h|h
    ·exact Ft b h
    ·exact XG hF.size (yz b h)⟩
  ·simp only[g2]at h1;by_cases hk:k<s.A.length
   ·rw[WU (by omega)]at h1;exact km.ar k v' b h1 h2
   ·rw[WV (by omega),uS,qH]at h1;exact .inl (XG hF.size (s6.Qc rfl _ v' b h1 h2))
  ·obtain⟨v2,h3,h4⟩:=km.wq k v' h1;exact⟨v2,by simp only[g2];rw[WU (WS.1 h3).1];exact h3,h4⟩
theorem wL {α:Type}:∀{l:List α} {hs:List Nat} {vs:List α},(qA l hs vs).length=l.length
 |l,[],vs=>by cases vs<;>rfl
 |l,h::hs,[]=>rfl
 |l,h::hs,v::vs=>by simp only[qA];rw[wL];simp
theorem rY {α:Type} {k:Nat}:∀{l:List α} {hs:List Nat} {vs:List α},k∉hs->(qA l hs vs)[k]? =l[k]?
 |l,[],vs,_=>by cases vs<;>rfl
 |l,h::hs,[],_=>rfl
 |l,h::hs,v::vs,hk=>by
  simp only[W2,not_or]at hk;simp only[qA];rw[rY hk.2,List.getElem?_set_ne (by omega)]
theorem z6 {α:Type}:∀{l:List α} {hs:List Nat} {vs:List α} {i h:Nat},hs.Nodup->hs.length<=vs.length->hs[i]? =some h->h<l.length->(qA l hs vs)[h]? =vs[i]?
 |l,[],vs,i,h,_,_,hi,_=>by simp at hi
 |l,h0::hs,[],i,h,_,hl,_,_=>by simp at hl
 |l,h0::hs,v::vs,0,h,hn,_,hi,az=>by
  simp at hi;subst hi;simp only[qA];rw[rY (Xg.1 hn).1];simp[az]
 |l,h0::hs,v::vs,i+1,h,hn,hl,hi,az=>by
  simp only[qA];rw[z6 (Xg.1 hn).2 (by simpa using hl) (by simpa using hi) (by simpa using az)];simp
theorem Bi {hs:List Nat}:∀{cs ds:List CV},iG hs cs=some ds->ds.length=cs.length/\∀(j:Nat) c d,cs[j]? =some c->ds[j]? =some d->c.ew hs=some d
 |[],ds,h=>by simp[iG]at h;subst h;exact⟨rfl,fun j c d h=>by simp at h⟩
 |c::r,ds,h=>by
  simp only[iG]at h;split at h
  ·rename_i d ds' h1 h2;simp at h;subst h;obtain⟨h3,h4⟩:=Bi h2;refine⟨by simp[h3],fun j c' d' h5 h6=>?_⟩;cases j with
   |zero=>simp at h5 h6;subst h5;subst h6;exact h1
   |succ j=>simp at h5 h6;exact h4 j c' d' h5 h6
  ·simp at h
theorem y8 {hs:List Nat}:∀{xs as:List AV},eS hs xs=some as->as.length=xs.length/\∀(j:Nat) x y,xs[j]? =some x->as[j]? =some y->x.ew hs=some y
 |[],as,h=>by simp[eS]at h;subst h;exact⟨rfl,fun j x y h=>by simp at h⟩
 |c::r,as,h=>by
  simp only[eS]at h;split at h
  ·rename_i d ds' h1 h2;simp at h;subst h;obtain⟨h3,h4⟩:=y8 h2;refine⟨by simp[h3],fun j c' d' h5 h6=>?_⟩;cases j with
   |zero=>simp at h5 h6;subst h5;subst h6;exact h1
   |succ j=>simp at h5 h6;exact h4 j c' d' h5 h6
  ·simp at h
set_option maxHeartbeats 1000000 in
theorem yA (hI:Inv g w s.V s.A) (hF:Fr w0 g0 w g) {f:FuncId} {xs:List AV} {vs:Array Value} (hl:vs.size=xs.length) (hr:∀(i:Nat) x u,xs[i]? =some x->vs[i]? =some u->aV g w s.A x u) (h:Ep P s f xs K):
  (∀args w,(callFunc f args).run P w=.ok (.enter f args) w)/\∃x V' A',K x V' A'/\Calls P f vs w fun e w'=>∃v g',e=.returned v/\aV g' w' A' x v/\Inv g' w' V' A'/\Ext g w s.A g' w' A'/\Fr w0 g0 w' g':=by
 obtain⟨hs,as,r,Ac',oQ,MT,has,⟨Hh,_,ic⟩,hK⟩:=h;refine⟨Hh,_,_,_,hK,?_⟩;obtain⟨Qy,Hi⟩:=y8 has;have QD:∀h∈hs,h<s.A.length:=fun h hm=>by
  obtain⟨i,hi⟩:=W0 hm;obtain⟨a,_,h1,_⟩:=MT i h hi;exact(WS.1 h1).1
 have Lq:=hI.lF;have hlen:hs.length<=Ac'.length:=by
  rcases XE Ac'.length hs.length with h1|h1
  ·obtain⟨_,_,_,_,h2,_⟩:=MT Ac'.length _ (WW h1);simp at h2
  ·exact h1
 let gc:Gh:={ob:=[],ar:=hs.map fun h=>g.ar.getD h undef,im:=g.im}
 have Fu:∀(i h:Nat) v,hs[i]? =some h->g.ar[h]? =some v->gc.ar[i]? =some v:=fun i h v h1 h2=>by simp[gc,h1,h2]
 have pd:∀(i:Nat) v,gc.ar[i]? =some v->∃h,hs[i]? =some h/\g.ar[h]? =some v:=fun i v h1=>by
  simp only[gc,WZ,WQ]at h1;obtain⟨h,h2,h3⟩:=h1;have vN:h<g.ar.length:=by rw[Lq];exact QD h (WY h2)
  exact⟨h,h2,by rw[<-h3];simp[W1,vN]⟩
 have TY:∀(i:Nat) a,(hs.map fun h=>s.A.getD h rW)[i]? =some a->∃h,hs[i]? =some h/\s.A[h]? =some a:=fun i a h1=>by
  simp only[WZ,WQ]at h1;obtain⟨h,h2,h3⟩:=h1;have vN:=QD h (WY h2);exact⟨h,h2,by rw[<-h3];simp[W1,vN]⟩
 have QE:∀(i h:Nat) a,hs[i]? =some h->s.A[h]? =some a->(hs.map fun h=>s.A.getD h rW)[i]? =some a:=fun i h a h1 h2=>by simp[h1,h2]
 have C7:∀b,b∈gc.jg->∃(i h:Nat) (v:Value),hs[i]? =some h/\g.ar[h]? =some v/\v.ownBlock=some b:=fun b hb=>by
  obtain⟨i,v,h1,h2⟩:=Gh.fD hb;obtain⟨h,h3,h4⟩:=pd i v h1;exact⟨i,h,v,h3,h4,h2⟩
 have KJ:∀b,b∈gc.jg->g.im b=0:=fun b hb=>by
  obtain⟨i,h,v,h1,h2,h3⟩:=C7 b hb;obtain⟨a,_,h4,h5,_⟩:=MT i h h1;have h6:=(hI.arr h a v h4 h2).2.1 b h3;rw[h5]at h6;simpa using h6
 have Hm:Inv gc w [] (hs.map fun h=>s.A.getD h rW):=by
  refine⟨rfl,by simp[gc],fun l row b h1=>by simp at h1,fun k r' v h1 h2=>?_,fun l l' b h1=>by simp[gc]at h1,fun k k' v v' b h1 h2 h3 h4=>?_,fun l k v b h1=>by simp[gc]at h1,hI.fresh⟩
  ·obtain⟨h,h3,h4⟩:=TY k r' h1;obtain⟨h',h5,h6⟩:=pd k v h2;obtain rfl:h=h':=by rw[h3]at h5;exact Option.some.inj h5
   exact hI.arr h r' v h4 h6
  ·obtain⟨h,h5,h6⟩:=pd k v h1;obtain⟨h',h7,h8⟩:=pd k' v' h2;obtain rfl:=hI.iS h h' v v' b h6 h8 h3 h4;exact(Xb (WS.1 h5).1 oQ).1 (h5.trans h7.symm)
 have oB:∀(c d:CV) (u:Value),c.ew hs=some d->bm g w s.A c u->bm gc w (hs.map fun h=>s.A.getD h rW) d u:=by
  intro c d u h1 h2;cases c with
  |d x=>simp only[CV.ew]at h1;cases h1;exact h2
  |nil=>simp only[CV.ew]at h1;cases h1;simp only[bm]at h2;subst h2;simp only[bm,bh];exact⟨none,0,rfl,XD _,.inl trivial⟩
  |own k n=>
   simp only[CV.ew,WQ]at h1;obtain⟨i,hi,rfl⟩:=h1;obtain⟨a,cap,e,r',h3,h4,h5⟩:=h2;have MU:=mJ hi;exact⟨a,cap,e,r',QE i k r' MU h3,h4,fun h6=>Fu i k u MU (h5 h6)⟩
  |np=>simp only[CV.ew]at h1;cases h1;exact h2
  |ip row off=>simp only[CV.ew]at h1;cases h1;exact h2
  |fn f cap=>
   cases cap with
   |nil=>
    simp only[CV.ew]at h1;cases h1;obtain⟨bks,h3,h4,_⟩:=h2;exact⟨bks,h3,h4,fun i l b h5=>by simp at h5⟩
   |cons _ _=>simp[CV.ew]at h1
  |ptr _ _=>simp[CV.ew]at h1
  |op _ _ _ _=>simp[CV.ew]at h1
  |undef=>simp[CV.ew]at h1
 have Hn:∀(i:Nat) x u,as[i]? =some x->vs[i]? =some u->aV gc w (hs.map fun h=>s.A.getD h rW) x u:=by
  intro i y u h1 h2;have hi:i<xs.length:=by have:=(WS.1 h1).1;omega
  have hx:xs[i]? =some xs[i]:=WW hi;have bZ:=Hi i _ y hx h1;have Js:=hr i _ u hx h2;generalize xs[i]=x at bZ Js;cases x with
  |c c=>
   simp only[AV.ew,WQ]at bZ;obtain⟨d,hd,rfl⟩:=bZ;exact oB c d u hd Js
  |agg cs=>
   simp only[AV.ew,WQ]at bZ;obtain⟨ds,hd,rfl⟩:=bZ;obtain⟨us',rfl,TW,h3⟩:=Js;obtain⟨h9,cE⟩:=Bi hd;refine⟨us',rfl,by omega,fun j d v h4 h5=>?_⟩;have hj:j<cs.length:=by have:=(WS.1 h4).1;omega
   have hc:cs[j]? =some cs[j]:=WW hj;exact oB _ d v (cE j _ d hc h4) (h3 j _ v hc h5)
  |bq ys=>simp[AV.ew]at bZ
 refine(ic gc w vs Hm (hF.now.less (fun b hb=>by simp[gc]at hb) (fun b hb=>by obtain⟨i,v,q1,q2⟩:=Gh.fD hb;obtain⟨h,_,q3⟩:=pd i v q1;exact Gh.jN q3 q2)) (by omega) Hn).mono ?_;rintro e w' ⟨v,g',rfl,yy,uQ,s6⟩;have Ju:g'.ob=[]:=Xe (by rw[uQ.oP];rfl);have SC:=uQ.lF
 let g2:Gh:={ob:=g.ob,ar:=qA g.ar hs g'.ar++g'.ar.drop hs.length,im:=g'.im}
 let A2:=qA s.A hs Ac'++Ac'.drop hs.length
 have TZ:(qA g.ar hs g'.ar).length=s.A.length:=by rw[wL,Lq]
 have QF:(qA s.A hs Ac').length=s.A.length:=wL;have bZ:∀(i h:Nat),hs[i]? =some h->g2.ar[h]? =g'.ar[i]? /\A2[h]? =Ac'[i]? :=fun i h h1=>by
  have h2:=QD h (WY h1);constructor
  ·simp only[g2];rw[WU (by omega)];exact z6 oQ (by omega) h1 (by omega)
  ·simp only[A2];rw[WU (by omega)];exact z6 oQ hlen h1 h2
 have jj:∀k,k<s.A.length->k∉hs->g2.ar[k]? =g.ar[k]? /\A2[k]? =s.A[k]? :=fun k h1 h2=>by
  constructor
  ·simp only[g2];rw[WU (by omega),rY h2]
  ·simp only[A2];rw[WU (by omega),rY h2]
 have yz:∀k,s.A.length<=k->g2.ar[k]? =g'.ar[hs.length+(k-s.A.length)]? /\A2[k]? =Ac'[hs.length+(k-s.A.length)]? :=fun k h1=>by
  constructor
  ·simp only[g2];rw[WV (by omega),TZ,Xv]
  ·simp only[A2];rw[WV (by omega),QF,Xv]
 have Jh:∀k,g2.ar[back hs s.A.length k]? =g'.ar[k]? /\A2[back hs s.A.length k]? =Ac'[k]? :=fun k=>by
  by_cases hk:k<hs.length
  ·have e:hs[k]? =some hs[k]:=WW hk;have e2:back hs s.A.length k=hs[k]:=by simp only[back,e]
   rw[e2];exact bZ k _ e
  ·have e:hs[k]? =none:=Xc (by omega);have e2:back hs s.A.length k=s.A.length+(k-hs.length):=by simp only[back,e]
   rw[e2];have:=yz (s.A.length+(k-hs.length)) (by omega);rwa[show hs.length+(s.A.length+(k-hs.length)-s.A.length)=k by omega]at this
 have Bj:∀k,(∃i:Nat,g2.ar[k]? =g'.ar[i]? /\A2[k]? =Ac'[i]? /\((hs[i]? =some k)\/(hs.length<=i/\k=s.A.length+(i-hs.length))))\/(k<s.A.length/\k∉hs/\g2.ar[k]? =g.ar[k]? /\A2[k]? =s.A[k]?):=fun k=>by
  by_cases h1:k<s.A.length
  ·by_cases h2:k∈hs
   ·obtain⟨i,hi⟩:=W0 h2;exact .inl ⟨i,(bZ i k hi).1,(bZ i k hi).2,.inl hi⟩
   ·exact .inr ⟨h1,h2,jj k h1 h2⟩
  ·exact .inl ⟨hs.length+(k-s.A.length),(yz k (by omega)).1,(yz k (by omega)).2,.inr ⟨by omega,by omega⟩⟩
 have Nx:∀(k k' i:Nat),((hs[i]? =some k)\/(hs.length<=i/\k=s.A.length+(i-hs.length)))->((hs[i]? =some k')\/(hs.length<=i/\k'=s.A.length+(i-hs.length)))->k=k':=fun k k' i h1 h2=>by
  rcases h1 with h1|⟨h1,h3⟩<;>rcases h2 with h2|⟨h2,h4⟩
  ·rw[h1]at h2;exact Option.some.inj h2
  ·have:=(WS.1 h1).1;omega
  ·have:=(WS.1 h2).1;omega
  ·omega
 have QG:∀b,b∉gc.ob:=fun b h=>by simp[gc]at h
 have yB:∀b,b<w.heap.size->b∉gc.jg->w'.heap[b]? =w.heap[b]? :=fun b h1 h2=>s6.qF b h1 (QG b) h2
 have qS:∀b,b<w.heap.size->b∉gc.jg->g'.im b=g.im b:=fun b h1 h2=>s6.iY b h1 h2
 have Hk:∀(l b:Nat),g.ob[l]? =some b->b<w.heap.size/\b∉gc.jg:=fun l b h1=>⟨hI.qR h1,fun h2=>by
  obtain⟨i,h,v',h3,h4,h5⟩:=C7 b h2;exact hI.iX l h v' b h1 h4 h5⟩
 have Jv:∀(k b:Nat) (v:Value),k∉hs->g.ar[k]? =some v->v.ownBlock=some b->b<w.heap.size/\b∉gc.jg:=fun k b v h0 h1 lH=>⟨hI.mE h1 lH,fun h2=>by
  obtain⟨i,h,v',h3,h4,h5⟩:=C7 b h2;obtain rfl:=hI.iS k h v v' b h1 h4 lH h5;exact h0 (WY h3)⟩
 have Et:∀(i b:Nat) (v:Value),g'.ar[i]? =some v->v.ownBlock=some b->w.heap.size<=b\/b∈gc.jg:=fun i b v h1 h2=>s6.ar i v b h1 h2
 have uK:jX g.im w g'.im w':=by
  refine⟨fun b=>?_,fun b o ho=>?_⟩
  ·rcases XE b w.heap.size with hb|hb
   ·by_cases h1:b∈gc.jg
    ·rw[KJ b h1];exact XF _
    ·rw[qS b hb h1];exact XD _
   ·rw[hI.fresh b hb];exact XF _
  ·have hb:=hI.Fi ho;refine World.cell?_of_block (a:=⟨b,o,none⟩) (yB b hb (fun h1=>?_));have:=KJ b h1;omega
 have ji:Ext g w s.A g2 w' A2:=by
  refine⟨fun l b hb=>hb,uK,fun k r' hk=>?_⟩;have C8:=(WS.1 hk).1;by_cases h2:k∈hs
  ·obtain⟨i,hi⟩:=W0 h2;obtain⟨a,a',h3,h4,h5,h6⟩:=MT i k hi;obtain rfl:r'=a:=by rw[hk]at h3;exact Option.some.inj h3
   have hv:g.ar[k]? =some (g.ar[k]'(by omega)):=WW (by omega);obtain⟨v',h7,h8,h9⟩:=s6.wq i _ (Fu i k _ hi hv);obtain⟨_,_,xs1,pZ,_⟩:=hI.arr k r' _ hk hv;obtain⟨_,_,xs2,mC,_⟩:=uQ.arr i a' v' h5 h7;rw[rP pZ,rP mC]at h8 h9;refine⟨a',(bZ i k hi).2.trans h5,h6,h8,fun cE=>?_⟩;rw[(bZ i k hi).1,h7,h9 cE,hv]
  ·obtain⟨h3,h4⟩:=jj k C8 h2;exact⟨r',h4.trans hk,rfl,XD _,fun _=>h3⟩
 have pc:∀c u,bm g' w' Ac' c u->bm g2 w' A2 (c.dF hs s.A.length) u:=fun c u h1=>by
  cases c with
  |d x=>exact h1
  |nil=>exact h1
  |own k n=>
   obtain⟨a,cap,e,r',h3,h4,h5⟩:=h1;exact⟨a,cap,e,r',(Jh k).2.trans h3,h4,fun h6=>(Jh k).1.trans (h5 h6)⟩
  |ptr l off=>obtain⟨b,h3,_⟩:=h1;rw[Ju]at h3;simp at h3
  |np=>exact h1
  |ip row off=>exact h1
  |op k n i off=>
   obtain⟨b,e,h2,r',h3,h4,h5⟩:=h1;exact⟨b,e,h2,r',(Jh k).2.trans h3,h4,fun h6=>by obtain⟨cap,h7,h8⟩:=h5 h6;exact⟨cap,(Jh k).1.trans h7,h8⟩⟩
  |fn f cap=>
   obtain⟨bks,h3,h4,h5⟩:=h1;refine⟨bks,h3,h4,fun i l b h6 h7=>?_⟩;have:=h5 i l b h6 h7;rw[Ju]at this;simp at this
  |undef=>exact h1
 refine⟨v,g2,rfl,?_,?_,ji,?_⟩
 ·-- the result
  cases r with
  |c c=>exact pc c v yy
  |agg cs=>
   obtain⟨us',rfl,h1,h2⟩:=yy;refine⟨us',rfl,by simpa using h1,fun j c u h3 h4=>?_⟩;simp only[WZ,WQ]at h3;obtain⟨c',h5,rfl⟩:=h3;exact pc c' u (h2 j c' u h5 h4)
  |bq ys=>
   obtain⟨us',rfl,h1,h2⟩:=yy;refine⟨us',rfl,by simpa using h1,fun j y u h3 h4=>?_⟩;simp only[WZ,WQ]at h3;obtain⟨y',h5,rfl⟩:=h3;have h6:=h2 j y' u h5 h4;cases y' with
   |c c=>exact pc c u h6
   |agg cs=>
    obtain⟨us'',rfl,h7,h8⟩:=h6;refine⟨us'',rfl,by simpa using h7,fun j c u h9 cE=>?_⟩;simp only[WZ,WQ]at h9;obtain⟨c',ev,rfl⟩:=h9;exact pc c' u (h8 j c' u ev cE)
   |bq zs=>exact h6.elim
 ·-- the memory
  refine⟨hI.oP,?_,fun l row b h1 h2=>?_,fun k r' v' h1 h2=>?_,hI.kA,fun k k' v1 v2 b h1 h2 h3 h4=>?_,fun l k v' b h1 h2 h3=>?_,fun b hb=>uQ.fresh b hb⟩
  ·show(qA g.ar hs g'.ar++g'.ar.drop hs.length).length=(qA s.A hs Ac'++Ac'.drop hs.length).length;simp only[W7,List.length_drop];omega
  ·obtain⟨h3,h4⟩:=Hk l b h2;exact hI.fb ji h1 h2 (yB b h3 h4) ((qS b h3 h4).trans (hI.obj l row b h1 h2).1)
  ·rcases Bj k with⟨i,h3,h4,_⟩|⟨h3,h4,h5,h6⟩
   ·exact uQ.arr i r' v' (h4.symm.trans h1) (h3.symm.trans h2)
   ·refine hI.fc ji (h6.symm.trans h1) (h5.symm.trans h2) (fun b hb=>?_) (fun b hb=>?_)
    ·obtain⟨h7,h8⟩:=Jv k b v' h4 (h5.symm.trans h2) hb;exact yB b h7 h8
    ·obtain⟨h7,h8⟩:=Jv k b v' h4 (h5.symm.trans h2) hb;exact qS b h7 h8
  ·rcases Bj k with⟨i,h5,_,h6⟩|⟨h5,h6,h7,_⟩<;>rcases Bj k' with⟨i',h8,_,h9⟩|⟨h8,h9,cE,_⟩
   ·obtain rfl:=uQ.iS i i' v1 v2 b (h5.symm.trans h1) (h8.symm.trans h2) h3 h4;exact Nx k k' i h6 h9
   ·obtain⟨ev,fM⟩:=Jv k' b v2 h9 (cE.symm.trans h2) h4;rcases Et i b v1 (h5.symm.trans h1) h3 with dt|dt
    ·omega
    ·exact absurd dt fM
   ·obtain⟨ev,fM⟩:=Jv k b v1 h6 (h7.symm.trans h1) h3;rcases Et i' b v2 (h8.symm.trans h2) h4 with dt|dt
    ·omega
    ·exact absurd dt fM
   ·exact hI.iS k k' v1 v2 b (h7.symm.trans h1) (cE.symm.trans h2) h3 h4
  ·obtain⟨h4,h5⟩:=Hk l b h1;rcases Bj k with⟨i,h6,_,_⟩|⟨_,_,h6,_⟩
   ·rcases Et i b v' (h6.symm.trans h2) h3 with h7|h7
    ·omega
    ·exact h5 h7
   ·exact hI.iX l k v' b h1 (h6.symm.trans h2) h3
 ·-- what is left alone
  have gq:∀b,b<w0.heap.size->b∉g0.jg->b∉gc.jg:=fun b h1 h2 h3=>by
   obtain⟨i,h,v',h4,h5,h6⟩:=C7 b h3;rcases hF.ar h v' b h5 h6 with h7|h7
   ·omega
   ·exact h2 h7
  refine⟨s6.os.trans hF.os,s6.tape.trans hF.tape,s6.output.trans hF.output,XG hF.size s6.size,fun b h1 h2 Lp=>?_,fun b h1 lH=>?_,hF.ob,fun k v' b h1 h2=>?_,fun k v' h1=>?_,hF.yp⟩
  ·rw[yB b (XK h1 hF.size) (gq b h1 Lp)];exact hF.qF b h1 h2 Lp
  ·show g'.im b=g0.im b;rw[qS b (XK h1 hF.size) (gq b h1 lH)];exact hF.iY b h1 lH
  ·rcases Bj k with⟨i,h3,_,_⟩|⟨_,_,h3,_⟩
   ·rcases Et i b v' (h3.symm.trans h1) h2 with h4|h4
    ·exact .inl (XG hF.size h4)
    ·obtain⟨i',h,v2,h5,h6,h7⟩:=C7 b h4;exact hF.ar h v2 b h6 h7
   ·exact hF.ar k v' b (h3.symm.trans h1) h2
  ·obtain⟨v1,h2,h3,h4⟩:=hF.wq k v' h1;have C8:k<s.A.length:=by rw[<-Lq];exact(WS.1 h2).1
   by_cases h5:k∈hs
   ·obtain⟨i,hi⟩:=W0 h5;obtain⟨v2,h6,h7,h8⟩:=s6.wq i v1 (Fu i k v1 hi h2);refine⟨v2,(bZ i k hi).1.trans h6,by omega,fun h9=>?_⟩;rw[h8 (by omega)];exact h4 (by omega)
   ·exact⟨v1,(jj k C8 h5).1.trans h2,h3,h4⟩
theorem z7 (hI:Inv g w s.V s.A) (hF:Fr w0 g0 w g) {f:FuncId} {xs:List AV} {vs:Array Value} (hl:vs.size=xs.length) (hr:∀(i:Nat) x u,xs[i]? =some x->vs[i]? =some u->aV g w s.A x u) (h:gM P s f xs K):
  (∀args w,(callFunc f args).run P w=.ok (.enter f args) w)/\∃x V' A',K x V' A'/\Calls P f vs w fun e w'=>∃v g',e=.returned v/\aV g' w' A' x v/\Inv g' w' V' A'/\Ext g w s.A g' w' A'/\Fr w0 g0 w' g':=
 h.elim (yw hI hF hl hr) (yA hI hF hl hr)
end
def bH (P:Program) (s:St) (ow:Bool) (o:Oper) (K:AV->List (List CV)->List bu->Prop):Prop:=
 match o.op with
 |.call {callee:=.value f,args,.. }=>bS (bE s f) fun fv=>match fv with
  |.c (.fn fid cap)=>bS (hM s args.toList) fun xs=>gM P s fid (xs++cap.map fun l=>.c (.ptr l 0)) K
  |_=>False
 |op=>eD P s ow op K
def St.put (s:St) (dst:Option Tmp) (x:AV) (V:List (List CV)) (A:List bu):St:=
 ⟨match dst with|some d=>(d,x)::s.fr|none=>s.fr,V,A⟩
def gX (all:Array Oper) (s:St) (o:Oper) (yes no:Prop):Prop:=
 match o.guard with
 |none=>yes
 |some (j,want)=>bS (all[j]?) fun oj=>bS oj.dst fun t=>bS (look s.fr t) fun x=>match x with
  |.c (.d (.bool b))=>(b=want->yes)/\(b=(!want)->no)
  |.c .undef=>no
  |_=>False
def wM (P:Program) (all:Array Oper) (ow:Nat->Bool) (K:St->Prop):Nat->List Oper->St->Prop
 |_,[],s=>K s
 |i,o::rest,s=>gX all s o (bH P s (ow i) o fun x V A=>wM P all ow K (i+1) rest (s.put o.dst x V A)) (wM P all ow K (i+1) rest (s.put o.dst (.c .undef) s.V s.A))
def c7 (n:Nat) (ops:List Oper):Bool:=ops.all fun o=>match o.dst with
 |some d=>decide (d<n)
 |none=>true
def codeOk (n:Nat):Code->Bool
 |.region _ ops _=>c7 n ops.toList
 |.seq a b=>codeOk n a && codeOk n b
 |.cond _ a b=>codeOk n a && codeOk n b
 |.block _ c=>codeOk n c
 |.loop c=>codeOk n c
 |.scope c=>codeOk n c
 |_=>true
def T (P:Program) (n:Nat) (c:Code) (Q:Exit->St->Prop) (s:St):Prop:=
 codeOk n c=true->∀w0 g0 g a w,Rp n w0 g0 s g a w->c.wp P (fun e a' w'=>∃s' g',Q e s'/\Rp n w0 g0 s' g' a' w') a w
section
variable {P:Program} {n:Nat} {Q Q':Exit->St->Prop} {s s':St} {w0:World} {g0 g g':Gh} {a:Act} {w w':World}
theorem db (hI:Inv g w s.V s.A) (hF:Fr w0 g0 w g) (hS:ia g w s a) {ow:Bool} {o:Oper} {K:AV->List (List CV)->List bu->Prop} (h:bH P s ow o K):
  ∃x V' A',K x V' A'/\∀(next:Act->World->Prop) (Q:Exit->Act->World->Prop),(∀v w' g',aV g' w' A' x v->Inv g' w' V' A'->Ext g w s.A g' w' A'->Fr w0 g0 w' g'->next (a.put o.dst v) w')->o.wp P a w next Q:=by
 have plain:eD P s ow o.op K->∃x V' A',K x V' A'/\∀(next:Act->World->Prop) (Q:Exit->Act->World->Prop),(∀v w' g',aV g' w' A' x v->Inv g' w' V' A'->Ext g w s.A g' w' A'->Fr w0 g0 w' g'->next (a.put o.dst v) w')->o.wp P a w next Q:=by
  intro h;obtain⟨x,V',A',nx,v,w',g',h1,h2,h3,h4,h5,h6,h7⟩:=Fq hI hF hS h;refine⟨x,V',A',h1,fun next Q hn=>?_⟩;unfold Oper.wp;rw[h2];rcases h3 with rfl|⟨rfl,rfl⟩
  ·exact hn v w' g' h4 h5 h6 h7
  ·exact hn _ w' g' h4 h5 h6 h7
 unfold bH at h;split at h
 ·rename_i f args argTypes heq;refine aj h fun fv h1 h2=>?_
  have QH:=aJ hS h1;split at h2
  ·rename_i fid cap;refine aj h2 fun xs h3 h4=>?_
   obtain⟨h5,h6⟩:=lS hS h3;have T3:xs.length=args.size:=by rw[h5,XT]
   obtain⟨bks,h7,h8,h9⟩:bm g w s.A (.fn fid cap) (a.eval f):=QH;have o9:args.map a.eval++(bks.map fun b=>Value.pointer (some ⟨b,0,none⟩)).toArray=((args.toList.map a.eval)++bks.map fun b=>Value.pointer (some ⟨b,0,none⟩)).toArray:=by
    apply Array.ext';simp
   obtain⟨Hh,x,V',A',hK,hc⟩:=z7 (vs:=((args.toList.map a.eval)++bks.map fun b=>Value.pointer (some ⟨b,0,none⟩)).toArray) hI hF (by simp[h5,h8]) (fun i x u cE ev=>by
    simp only[List.getElem?_toArray]at ev;by_cases hi:i<xs.length
    ·rw[WU hi]at cE;rw[WU (by simp;omega)]at ev;exact h6 i x u cE ev
    ·rw[WV (by omega)]at cE;rw[WV (by simp;omega)]at ev;simp only[WZ,WQ]at cE ev;obtain⟨l,fM,rfl⟩:=cE;obtain⟨b,dt,rfl⟩:=ev;exact⟨b,h9 _ l b fM (by rw[<-dt];congr 1;simp[h5]),rfl⟩) h4
   refine⟨x,V',A',hK,fun next Q hn=>?_⟩;have ff:(execOp a.eval o).run P w=.ok (.enter fid ((args.toList.map a.eval)++bks.map fun b=>Value.pointer (some ⟨b,0,none⟩)).toArray) w:=by
    simp only[execOp,heq,resolve,h7,Deferred.ofValue,Sem.run_bind,Sem.run_pure,Result.andThen_ok,invoke,XX];rw[Hh,o9]
   unfold Oper.wp;rw[ff];show Calls P fid _ w _;refine hc.mono ?_;rintro e w' ⟨v,g',rfl,gk,qI,rL,Bf⟩;exact hn v w' g' gk qI rL Bf
  ·exact h2.elim
 ·exact plain h
theorem Rp.put (h:Rp n w0 g0 s g a w) {dst:Option Tmp} (hd:∀d,dst=some d->d<n) {x:AV} {v:Value} {V':List (List CV)} {A':List bu} (hr:aV g' w' A' x v) (hI:Inv g' w' V' A') (hx:Ext g w s.A g' w' A') (hF:Fr w0 g0 w' g'):
  Rp n w0 g0 (s.put dst x V' A') g' (a.put dst v) w':=by
 refine⟨hI,hF,?_,?_,fun t y hy=>?_⟩
 ·cases dst<;>simp[Act.put,h.size]
 ·cases dst<;>simp[Act.put,h.defers]
 ·cases dst with
  |none=>
   obtain⟨u,h1,h2⟩:=h.slot t y hy;exact⟨u,h1,aV.ext hx h2⟩
  |some d=>
   have z8:=hd d rfl;simp only[St.put,look]at hy;by_cases e:t=d
   ·subst e;simp at hy;subst hy;refine⟨v,?_,hr⟩;have:t<a.tmps.size:=by rw[h.size];exact z8
    simp[Act.put,this]
   ·rw[if_neg e]at hy;obtain⟨u,h1,h2⟩:=h.slot t y hy;refine⟨u,?_,aV.ext hx h2⟩;simp only[Act.put];rw[XS (fun e'=>e e'.symm)];exact h1
theorem jq (h:Rp n w0 g0 s g a w) {all:Array Oper} {j t:Nat} {oj:Oper} {x:AV} (h1:all[j]? =some oj) (h2:oj.dst=some t) (h3:look s.fr t=some x):(∀b,x=.c (.d (.bool b))->yielded all a.tmps j=some b)/\(x=.c .undef->yielded all a.tmps j=none):=by
 obtain⟨u,h4,h5⟩:=h.slot t x h3;refine⟨fun b hb=>?_,fun hb=>?_⟩
 ·subst hb;simp only[aV,dD,bm,bh]at h5;subst h5;simp[yielded,h1,h2,h4]
 ·subst hb;simp only[aV,dD,bm]at h5;subst h5;simp[yielded,h1,h2,h4,undef]
theorem p8 (h:Rp n w0 g0 s g a w) {all:Array Oper} {o:Oper} {yes no:Prop} (hg:gX all s o yes no):(Region.wanted o (yielded all a.tmps)=true/\yes)\/(Region.wanted o (yielded all a.tmps)=false/\no):=by
 unfold gX at hg;split at hg
 ·rename_i uT;exact .inl ⟨by simp[Region.wanted,uT],hg⟩
 ·rename_i j want uT;refine aj hg fun oj h1 h2=>aj h2 fun t h3 h4=>aj h4 fun x h5 h6=>?_
  obtain⟨h7,h8⟩:=jq h h1 h3 h5;split at h6
  ·rename_i b;have h9:=h7 b rfl;by_cases e:b=want
   ·exact .inl ⟨by simp[Region.wanted,uT,h9,e],h6.1 e⟩
   ·exact .inr ⟨by simp[Region.wanted,uT,h9,e],h6.2 (by cases b<;>cases want<;>simp_all)⟩
  ·exact .inr ⟨by simp[Region.wanted,uT,h8 rfl],h6⟩
  ·exact h6.elim
theorem qW {all:Array Oper} {ow:Nat->Bool} {K:St->Prop} {Q:Exit->Act->World->Prop}:∀(ops:List Oper) (i:Nat) (s:St) (g:Gh) (a:Act) (w:World),c7 n ops=true->Rp n w0 g0 s g a w->wM P all ow K i ops s->
  (∀s' g' a' w',K s'->Rp n w0 g0 s' g' a' w'->Q .normal a' w')->wpList P all Q ops a w
 |[],i,s,g,a,w,_,hR,h,hQ=>hQ s g a w h hR
 |o::rest,i,s,g,a,w,hd,hR,h,hQ=>by
  simp only[c7,Xy,Xz]at hd;have eT:∀d,o.dst=some d->d<n:=fun d e=>by have:=hd.1;rw[e]at this;simpa using this
  simp only[wM]at h;unfold wpList;rcases p8 hR h with⟨h1,h2⟩|⟨h1,h2⟩
  ·rw[if_pos h1];obtain⟨x,V',A',h3,h4⟩:=db hR.inv hR.fr hR.slot h2;exact .inl (h4 _ _ fun v w' g' h5 h6 h7 h8=>qW rest (i+1) _ g' _ w' hd.2 (hR.put eT h5 h6 h7 h8) h3 hQ)
  ·rw[if_neg (by rw[h1];simp)];exact qW rest (i+1) _ g _ w hd.2 (hR.put eT (x:=.c .undef) (v:=undef) rfl hR.inv (.refl _ _ _) hR.fr) h2 hQ
theorem T.region {id:Nat} {ops:Array Oper} (ow:Nat->Bool) (h:wM P ops ow (fun s'=>Q .normal s') 0 ops.toList s):T P n (.region id ops false) Q s:=by
 intro eK w0 g0 g a w hR;exact wp_region_list (qW ops.toList 0 s g a w eK hR h fun s' g' a' w' h1 h2=>⟨s',g',h1,h2⟩)
theorem T.mono {c:Code} (h:T P n c Q s) (hq:∀e s',Q e s'->Q' e s'):T P n c Q' s:=
 fun eK w0 g0 g a w hR=>Go.wp_mono (h eK w0 g0 g a w hR) fun _ _ _ ⟨s',g',h1,h2⟩=>⟨s',g',hq _ _ h1,h2⟩
def wN (P:Program) (n:Nat) (c:Code) (Q:Exit->St->Prop):Exit->St->Prop
 |.normal,s=>T P n c Q s
 |e,s=>Q e s
theorem T.seq {x y:Code} (h:T P n x (wN P n y Q) s):T P n (.seq x y) Q s:=by
 intro eK w0 g0 g a w hR;simp only[codeOk,Xz]at eK;refine wp_seq (Go.wp_mono (h eK.1 w0 g0 g a w hR) ?_);rintro e a' w' ⟨s',g',h1,h2⟩;cases e with
 |normal=>exact h1 eK.2 w0 g0 g' a' w' h2
 |_=>exact⟨s',g',h1,h2⟩
theorem T.skip (h:Q .normal s):T P n .skip Q s:=fun _ _ _ g _ _ hR=>wp_skip ⟨s,g,h,hR⟩
theorem T.exit {id:Nat} (h:Q (.exit id) s):T P n (.exit id) Q s:=fun _ _ _ g _ _ hR=>wp_exit ⟨s,g,h,hR⟩
theorem T.ret (h:Q .ret s):T P n .ret Q s:=fun _ _ _ g _ _ hR=>wp_ret ⟨s,g,h,hR⟩
theorem T.cond {c:Operand} {x y:Code} {b:Bool} (hc:bE s c=some (.c (.d (.bool b)))) (ht:b=true->T P n x Q s) (hf:b=false->T P n y Q s):T P n (.cond c x y) Q s:=by
 intro eK w0 g0 g a w hR;simp only[codeOk,Xz]at eK;have hv:=aJ hR.slot hc;simp only[aV,dD,bm,bh]at hv;exact wp_cond_split hv (fun e=>ht e eK.1 w0 g0 g a w hR) (fun e=>hf e eK.2 w0 g0 g a w hR)
def gC (id:Nat) (Q:Exit->St->Prop):Exit->St->Prop
 |.exit id',s=>if id'=id then Q .normal s else Q (.exit id') s
 |e,s=>Q e s
theorem T.block {id:Nat} {c:Code} (h:T P n c (gC id Q) s):T P n (.block id c) Q s:=by
 intro eK w0 g0 g a w hR;refine wp_block (Go.wp_mono (h eK w0 g0 g a w hR) ?_);rintro e a' w' ⟨s',g',h1,h2⟩;cases e with
 |exit id'=>
  simp only[gC]at h1;simp only[Exit.inBlock];split
  ·rename_i e;rw[if_pos e]at h1;exact⟨s',g',h1,h2⟩
  ·rename_i e;rw[if_neg e]at h1;exact⟨s',g',h1,h2⟩
 |_=>exact⟨s',g',h1,h2⟩
def Iter (P:Program) (n:Nat) (c:Code) (Q:Exit->St->Prop):Nat->St->Prop
 |0,_=>False
 |k+1,s=>T P n c (fun e s'=>match e with|.normal=>Iter P n c Q k s'|e=>Q e s') s
theorem Iter.succ {c:Code}:∀{k:Nat} {s:St},Iter P n c Q k s->Iter P n c Q (k+1) s
 |0,_,h=>h.elim
 |k+1,s,h=>T.mono h fun e s' h1=>by cases e<;>first|exact Iter.succ h1|exact h1
theorem Iter.le {c:Code} {k k':Nat} (hk:k<=k') {s:St} (h:Iter P n c Q k s):Iter P n c Q k' s:=by
 induction hk with
 |refl=>exact h
 |step _ ih=>exact ih.succ
theorem T.mK {c:Code} {k:Nat} (h:Iter P n c Q k s):T P n (.loop c) Q s:=by
 intro eK w0 g0 g a w hR;refine wp_loop_rounds k ?_;have key:∀k s g a w,Iter P n c Q k s->Rp n w0 g0 s g a w->Code.rounds P c (fun e a' w'=>∃s' g',Q e s'/\Rp n w0 g0 s' g' a' w') k a w:=by
  intro k;induction k with
  |zero=>intro s g a w h _;exact h.elim
  |succ k ih=>
   intro s g a w h hR;rw[rounds_succ];refine Go.wp_mono (h eK w0 g0 g a w hR) ?_;rintro e a' w' ⟨s',g',h1,h2⟩;cases e with
   |normal=>exact ih s' g' a' w' h1 h2
   |_=>exact⟨s',g',h1,h2⟩
 exact key k s g a w h hR
theorem T.loop {c:Code} (I:Nat->St->Prop) (h:∀k s,I k s->T P n c (fun e s'=>match e with|.normal=>∃k',k'<k/\I k' s'|e=>Q e s') s) {k:Nat} (h0:I k s):T P n (.loop c) Q s:=by
 have key:∀k s,I k s->Iter P n c Q (k+1) s:=by
  intro k;induction k using XI with
  |_ k ih=>
   intro s hs;refine T.mono (h k s hs) fun e s' h1=>?_
   cases e with
   |normal=>obtain⟨k',hk,h2⟩:=h1;exact(ih k' hk s' h2).le hk
   |_=>exact h1
 exact T.mK (key k s h0)
theorem T.forget {c:Code} (cM:List (Nat×AV)) (gq:∀t x,look cM t=some x->look s.fr t=some x) (h:T P n c Q ⟨cM,s.V,s.A⟩):T P n c Q s:=
 fun eK w0 g0 g a w hR=>h eK w0 g0 g a w ⟨hR.inv,hR.fr,hR.size,hR.defers,fun t x hx=>hR.slot t x (gq t x hx)⟩
theorem T.qX {c:Code} (t:Nat) (sz:Nat) (e:TypeId) (ht:look s.fr t=some (.c .nil)) (h:T P n c Q ⟨(t,.c (.own s.A.length 0))::s.fr,s.V,s.A++[⟨sz,e,[],true⟩]⟩):T P n c Q s:=by
 intro eK w0 g0 g a w hR;obtain⟨g1,Jn,pZ,tt,eZ,dn,km⟩:=hR.inv.qT hR.fr {sz:=sz,eJ:=e,rows:=[],wr:=true} (.slice none 0 0) [] (by simp) (World.ownsRow_nil w 0 e sz) (fun j x u h=>by simp at h) (fun b h=>by simp[Value.ownBlock]at h);refine h eK w0 g0 g1 a w ⟨eZ,km,hR.size,hR.defers,fun t' x hx=>?_⟩;simp only[look]at hx;by_cases e':t'=t
 ·subst e';simp at hx;subst hx;obtain⟨u,h1,h2⟩:=hR.slot t' _ ht;refine⟨u,h1,?_⟩;simp only[aV,dD,bm]at h2;subst h2;exact⟨none,0,rfl,_,by simp;rfl,XF _,fun _=>by rw[tt,WV (by rw[hR.inv.lF];exact XD _),hR.inv.lF];simp⟩
 ·rw[if_neg e']at hx;obtain⟨u,h1,h2⟩:=hR.slot t' x hx;exact⟨u,h1,aV.ext dn h2⟩
theorem T.dM {c:Code} (l j:Nat) (sz:Nat) (e:TypeId) {row:List CV} (hl:s.V[l]? =some row) (hj:row[j]? =some .nil) (h:T P n c Q ⟨s.fr,s.V.set l (row.set j (.own s.A.length 0)),s.A++[⟨sz,e,[],true⟩]⟩):T P n c Q s:=by
 intro eK w0 g0 g a w hR;obtain⟨g1,Jn,pZ,tt,eZ,dn,km⟩:=hR.inv.qT hR.fr {sz:=sz,eJ:=e,rows:=[],wr:=true} (.slice none 0 0) [] (by simp) (World.ownsRow_nil w 0 e sz) (fun j x u h=>by simp at h) (fun b h=>by simp[Value.ownBlock]at h);refine h eK w0 g0 g1 a w ⟨?_,km,hR.size,hR.defers,fun t' x hx=>?_⟩
 ·refine⟨by simpa using eZ.oP,eZ.lF,fun l' row' b h1 h2=>?_,eZ.arr,eZ.kA,eZ.iS,eZ.iX,eZ.fresh⟩;have lH:(s.V.set l (row.set j (.own s.A.length 0)))[l']? =some row':=h1;rw[dk hl]at lH;by_cases e':l'=l
  ·subst e';simp at lH;subst lH;obtain⟨h3,cs,ty,h4,h5,h6⟩:=eZ.obj l' row b hl h2;refine⟨h3,cs,ty,h4,by simpa using h5,fun i c u h7 h8=>?_⟩;rw[dk hj]at h7;by_cases e'':i=j
   ·subst e'';simp at h7;subst h7;have h9:=h6 i _ u hj h8;simp only[bm]at h9;subst h9;exact⟨none,0,rfl,_,by simp;rfl,XF _,fun _=>by rw[tt,WV (by rw[hR.inv.lF];exact XD _),hR.inv.lF];simp⟩
   ·rw[if_neg e'']at h7;exact h6 i c u h7 h8
  ·rw[if_neg e']at lH;exact eZ.obj l' row' b lH h2
 ·obtain⟨u,h1,h2⟩:=hR.slot t' x hx;exact⟨u,h1,aV.ext dn h2⟩
end
def uU (P:Program) (s:St):ResultVar->Option AV
 |.tmp t=>look s.fr t
 |.cell t ty=>match td P ty,look s.fr t with
  |some d,some (.c p)=>match gB s p d.sz with
   |some cs=>Fl d.ag cs
   |none=>none
  |_,_=>none
def e8 (P:Program) (s:St):List ResultVar->Option (List AV)
 |[]=>some []
 |r::rs=>match uU P s r,e8 P s rs with
  |some x,some xs=>some (x::xs)
  |_,_=>none
def one (xs:List AV):AV:=match xs with
 |[x]=>x
 |xs=>.bq xs
def CV.res (A:List bu) (os ks:List Nat):CV->Option CV
 |.own k n=>match pos? ks k with
  |some i=>(nw A (.own k n)).map fun _=>.own i n
  |none=>(nw A (.own k n)).map CV.d
 |c=>c.kK A os
def rZ (A:List bu) (os ks:List Nat):List CV->Option (List CV)
 |[]=>some []
 |c::r=>match c.res A os ks,rZ A os ks r with
  |some d,some ds=>some (d::ds)
  |_,_=>none
def AV.qB (A:List bu) (os ks:List Nat):AV->Option AV
 |.c x=>(x.res A os ks).map AV.c
 |.agg xs=>(rZ A os ks xs).map AV.agg
 |.bq _=>none
def aF (A:List bu) (os ks:List Nat):List AV->Option (List AV)
 |[]=>some []
 |c::r=>match c.qB A os ks,aF A os ks r with
  |some d,some ds=>some (d::ds)
  |_,_=>none
def fg (A:List bu) (V:List (List CV)) (os ks:List Nat):List Nat->Option (List (List CV))
 |[]=>some []
 |l::r=>match V[l]?,fg A V os ks r with
  |some row,some rs=>match rZ A os ks row with
   |some row'=>some (row'::rs)
   |none=>none
  |_,_=>none
def dQ (A:List bu):List Nat->Option (List bu)
 |[]=>some []
 |k::r=>match A[k]?,dQ A r with
  |some x,some xs=>some (x::xs)
  |_,_=>none
def aD (P:Program) (fn:Func) (m:Nat) (r:AV) (V':List (List CV)) (A':List bu) (e:Exit) (s:St):Prop:=
 (e=.normal\/e=.ret)/\∃(ext ks:List Nat) (xs ys:List AV),e8 P s fn.results.toList=some xs/\ks.Nodup/\ext.Nodup/\(∀l∈ext,m<=l)/\aF s.A (WX m++ext) ks xs=some ys/\r=one ys/\
  fg s.A s.V (WX m++ext) ks (WX m++ext)=some V'/\dQ s.A ks=some A'
def pg (A:List bu) (L:List Nat):List bu:=L.foldl (fun A k=>match A[k]? with|some r=>A.set k {r with wr:=false}|none=>A) A
section
variable {P:Program} {n:Nat} {Q Q':Exit->St->Prop} {s s':St} {w0:World} {g0 g g':Gh} {a:Act} {w w':World} {V:List (List CV)} {A A':List bu}
theorem tD:∀(L:List Nat) (g:Gh) (A:List bu),Inv g w V A->Fr w0 g0 w g->
  ∃g',Inv g' w V (pg A L)/\Ext g w A g' w (pg A L)/\Fr w0 g0 w g'/\g'.ar=g.ar/\g'.ob=g.ob/\(∀k,k∉L->(pg A L)[k]? =A[k]?)/\∀k∈L,∀r v,A[k]? =some r->g.ar[k]? =some v->bh g'.im w (.sl r.rows) v
 |[],g,A,hI,hF=>⟨g,hI,.refl _ _ _,hF,rfl,rfl,fun _ _=>rfl,fun k h=>by simp at h⟩
 |k0::L,g,A,hI,hF=>by
  cases hk:A[k0]? with
  |none=>
   obtain⟨g',h1,h2,h3,h4,h5,h6,h7⟩:=tD L g A hI hF;have he:pg A (k0::L)=pg A L:=by simp only[pg,Xd,hk]
   rw[he];exact⟨g',h1,h2,h3,h4,h5,fun k h=>h6 k (fun h'=>h (by simp[h'])),fun k h r v h8 h9=>by
    simp only[W2]at h;rcases h with rfl|h
    ·rw[hk]at h8;cases h8
    ·exact h7 k h r v h8 h9⟩
  |some r0=>
   have C8:k0<g.ar.length:=by rw[hI.lF];exact(WS.1 hk).1
   have CY:g.ar[k0]? =some g.ar[k0]:=WW C8;obtain⟨g1,i1,i2,i3,i4,i5,i6⟩:=hI.seal hF hk CY;obtain⟨g',h1,h2,h3,h4,h5,h6,h7⟩:=tD L g1 _ i1 i3;have he:pg A (k0::L)=pg (A.set k0 {r0 with wr:=false}) L:=by simp only[pg,Xd,hk]
   rw[he];refine⟨g',h1,i2.trans h2,h3,h4.trans i4,h5.trans i5,fun k h=>?_,fun k h r v h8 h9=>?_⟩
   ·simp only[W2,not_or]at h;rw[h6 k h.2,dk hk,if_neg h.1]
   ·by_cases e:k=k0
    ·subst e;rw[hk]at h8;cases h8;rw[CY]at h9;cases h9;exact bh.fA h2.gr _ _ i6
    ·simp only[W2,e,false_or]at h;exact h7 k h r v (by rw[dk hk,if_neg e];exact h8) (by rw[i4];exact h9)
theorem bm.QI {c:CV} {u:Value} (h:bm g w [] c u):bm {g with ar:=g'.ar} w A' c u:=by
 cases c with
 |own k n=>obtain⟨_,_,_,r,h1,_⟩:=h;simp at h1
 |op k n i off=>obtain⟨_,_,_,r,h1,_⟩:=h;simp at h1
 |_=>exact h
theorem Bk:∀{ks:List Nat} {xs:List bu},dQ A ks=some xs->xs.length=ks.length/\∀(i k:Nat) x,ks[i]? =some k->xs[i]? =some x->A[k]? =some x
 |[],xs,h=>by simp[dQ]at h;subst h;exact⟨rfl,fun i k x h=>by simp at h⟩
 |k::r,xs,h=>by
  simp only[dQ]at h;split at h
  ·rename_i x xs' h1 h2;simp at h;subst h;obtain⟨h3,h4⟩:=Bk h2;refine⟨by simp[h3],fun i k' x' h5 h6=>?_⟩;cases i with
   |zero=>simp at h5 h6;subst h5;subst h6;exact h1
   |succ i=>simp at h5 h6;exact h4 i k' x' h5 h6
  ·simp at h
theorem Aa {os ks:List Nat}:∀{cs ds:List CV},rZ A os ks cs=some ds->ds.length=cs.length/\∀(j:Nat) c d,cs[j]? =some c->ds[j]? =some d->c.res A os ks=some d
 |[],ds,h=>by simp[rZ]at h;subst h;exact⟨rfl,fun j c d h=>by simp at h⟩
 |c::r,ds,h=>by
  simp only[rZ]at h;split at h
  ·rename_i d ds' h1 h2;simp at h;subst h;obtain⟨h3,h4⟩:=Aa h2;refine⟨by simp[h3],fun j c' d' h5 h6=>?_⟩;cases j with
   |zero=>simp at h5 h6;subst h5;subst h6;exact h1
   |succ j=>simp at h5 h6;exact h4 j c' d' h5 h6
  ·simp at h
theorem Bl {os ks:List Nat}:∀{cs ds:List AV},aF A os ks cs=some ds->ds.length=cs.length/\∀(j:Nat) c d,cs[j]? =some c->ds[j]? =some d->c.qB A os ks=some d
 |[],ds,h=>by simp[aF]at h;subst h;exact⟨rfl,fun j c d h=>by simp at h⟩
 |c::r,ds,h=>by
  simp only[aF]at h;split at h
  ·rename_i d ds' h1 h2;simp at h;subst h;obtain⟨h3,h4⟩:=Bl h2;refine⟨by simp[h3],fun j c' d' h5 h6=>?_⟩;cases j with
   |zero=>simp at h5 h6;subst h5;subst h6;exact h1
   |succ j=>simp at h5 h6;exact h4 j c' d' h5 h6
  ·simp at h
theorem Bm {os ks:List Nat}:∀{ls:List Nat} {Vc:List (List CV)},fg A V os ks ls=some Vc->Vc.length=ls.length/\∀(i l:Nat) row',ls[i]? =some l->Vc[i]? =some row'->∃row,V[l]? =some row/\rZ A os ks row=some row'
 |[],Vc,h=>by simp[fg]at h;subst h;exact⟨rfl,fun i l row' h=>by simp at h⟩
 |l::r,Vc,h=>by
  simp only[fg]at h;split at h
  ·rename_i row rs h1 h2;split at h
   ·rename_i row' h3;simp at h;subst h;obtain⟨h4,h5⟩:=Bm h2;refine⟨by simp[h4],fun i l' rw' h6 h7=>?_⟩;cases i with
    |zero=>simp at h6 h7;subst h6;subst h7;exact⟨row,h1,h3⟩
    |succ i=>simp at h6 h7;exact h5 i l' rw' h6 h7
   ·simp at h
  ·simp at h
def pj (tmps:Array Value):ResultVar->Sem Value
 |.tmp t=>pure (tmps.getD t undef)
 |.cell p t=>do loadVar t (<-asAddr (tmps.getD p undef))
theorem wO (fn:Func) (tmps:Array Value):results fn tmps=(do let vs<-fn.results.mapM (pj tmps);pure (if h:vs.size=1 then vs[0]else .tuple vs)):=by
 unfold results
 congr 1
theorem qY (hI:Inv g w s.V s.A) (hS:ia g w s a):∀{rs:List ResultVar} {xs:List AV},e8 P s rs=some xs->
  ∃us:List Value,us.length=xs.length/\(∀(i:Nat) x u,xs[i]? =some x->us[i]? =some u->aV g w s.A x u)/\
   (rs.mapM (pj a.tmps)).run P w=.ok us w
 |[],xs,h=>by simp[e8]at h;subst h;exact⟨[],rfl,fun i x u h=>by simp at h,rfl⟩
 |r::rs,xs,h=>by
  simp only[e8]at h;split at h
  ·rename_i x xs' h1 h2;simp at h;subst h;obtain⟨us,h3,h4,h5⟩:=qY hI hS h2;have vJ:∃u,aV g w s.A x u/\(pj a.tmps r).run P w=.ok u w:=by
    cases r with
    |tmp t=>
     obtain⟨u,h6,h7⟩:=hS t x h1;exact⟨u,h7,by simp[pj,h6]⟩
    |cell p ty=>
     simp only[uU]at h1;split at h1
     ·rename_i d c hd hp;split at h1
      ·rename_i cs yg;obtain⟨u,h6,h7⟩:=hS p _ hp;obtain⟨b,off,vs,rfl,hl,hr,hc⟩:=qG hI h7 yg;obtain⟨k1,k2⟩:=mj (P:=P) hd hc (hr.1.trans hl);have vM:a.tmps.getD p undef=.pointer (some ⟨b,off,none⟩):=by simp[h6]
       cases Hc:d.ag with
       |true=>
        simp[Fl,Hc]at h1;subst h1;exact⟨.agg vs.toArray,⟨vs,rfl,hr.1,fun i c u h8 h9=>hr.2 i c u h8 h9⟩,by simp only[pj,vM];exact k1 Hc⟩
       |false=>
        simp only[Fl,Hc,XB,if_false]at h1;split at h1
        ·rename_i c';simp at h1;subst h1;obtain⟨u,rfl⟩:∃u,vs=[u]:=by
          have:=hr.1;simp at this;exact Xk.1 this
         exact⟨u,hr.2 0 c' u rfl rfl,by simp only[pj,vM];exact k2 Hc u rfl⟩
        ·simp at h1
      ·simp at h1
     ·simp at h1
   obtain⟨u,h6,h7⟩:=vJ;refine⟨u::us,by simp[h3],fun i x' u' h8 h9=>?_,?_⟩
   ·cases i with
    |zero=>simp at h8 h9;subst h8;subst h9;exact h6
    |succ i=>simp at h8 h9;exact h4 i x' u' h8 h9
   ·simp only[List.mapM_cons,Sem.run_bind,h7,Result.andThen_ok,h5,Sem.run_pure]
  ·simp at h
theorem enters {f:FuncId} {fn:Func} {c:Code} (hf:P.funcs[f]? =some fn) (j0:(fn.name== "runtime.NumGoroutine")=false) (hb:fn.body=some c) (args:Array Value) (w:World):(callFunc f args).run P w=.ok (.enter f args) w:=by
 have h:¬fn.name= "runtime.NumGoroutine" :=by simpa using j0
 simp[callFunc,hf,h,hb]
def kL (as:List AV):List (Nat×AV):=(as.zipIdx 0).map fun(x,i)=>(i,x)
theorem qZ:∀(as:List AV) (k t:Nat) (x:AV),look ((as.zipIdx k).map fun(x,i)=>(i,x)) t=some x->k<=t/\as[t-k]? =some x
 |[],k,t,x,h=>by simp[look]at h
 |y::as,k,t,x,h=>by
  simp only[List.zipIdx_cons,W8,look]at h;split at h
  ·rename_i e;subst e;simp at h;subst h;simp
  ·rename_i e;obtain⟨h1,h2⟩:=qZ as (k+1) t x h;refine⟨by omega,?_⟩;rw[show t-k=(t-(k+1))+1 by omega,Xw];exact h2
def qJ (P:Program) (fn:Func) (m a:Nat) (r:AV) (V':List (List CV)) (A':List bu) (e:Exit) (s:St):Prop:=
 (e=.normal\/e=.ret)/\∃(ext ks:List Nat) (xs ys:List AV),(∃ke,ks=WX a++ke)/\e8 P s fn.results.toList=some xs/\ks.Nodup/\ext.Nodup/\(∀l∈ext,m<=l)/\aF s.A (WX m++ext) ks xs=some ys/\r=one ys/\
  fg s.A s.V (WX m++ext) ks (WX m++ext)=some V'/\dQ s.A ks=some A'
set_option maxHeartbeats 1000000 in
theorem eO.cx {f:FuncId} {fn:Func} {c:Code} {as:List AV} {V V':List (List CV)} {A0:List bu} {r:AV} {A':List bu} (hf:P.funcs[f]? =some fn) (j0:(fn.name== "runtime.NumGoroutine")=false) (hb:fn.body=some c) (eK:codeOk fn.ntmps c=true) (hn:as.length<=fn.ntmps)
  (Lk:V.length<=V'.length) (h:T P fn.ntmps c (qJ P fn V.length A0.length r V' A') ⟨kL as,V,A0⟩):eO P f as V A0 r V' A':=by
 refine⟨enters hf j0 hb,Lk,fun g w vs hI T4 Fk Qk=>?_⟩;refine calls_of_wp hf hb ?_;have hR:Rp fn.ntmps w g ⟨kL as,V,A0⟩ g {tmps:=vs++XU (fn.ntmps-vs.size) undef,defers:=[]} w:=by
  refine⟨hI,Fr.refl T4,by simp;omega,rfl,fun t x hx=>?_⟩;obtain⟨_,hx⟩:=qZ as 0 t x hx;rw[Nat.sub_zero]at hx;have ht:t<vs.size:=by have:=(WS.1 hx).1;omega
  exact⟨vs[t],by rw[Array.getElem?_append_left ht];simp[ht],Qk t x _ hx (by simp[ht])⟩
 refine Go.wp_mono (h eK w g g _ w hR) ?_;rintro e a' w' ⟨s',g',⟨hex,ext,ks,xs,ys,⟨ke,T5⟩,Ny,QJ,lJ,Jw,mL,rfl,T6,T7⟩,v7⟩;obtain⟨us,A9,MJ,ff⟩:=qY v7.inv v7.slot Ny
 let v:Value:=if h:us.toArray.size=1 then us.toArray[0]else .tuple us.toArray
 have wP:(results fn a'.tmps).run P w'=.ok v w':=by
  rw[wO,Sem.run_bind,Array.mapM_eq_mapM_toList];have hm:(List.toArray<$>fn.results.toList.mapM (pj a'.tmps)).run P w'=.ok us.toArray w':=by
   simp[ff]
  rw[hm]
  rfl
 let os:=WX V.length++ext
 obtain⟨g1,eZ,dn,km,tt,pZ,uV,Nz⟩:=tD ((WX s'.A.length).filter fun k=>(pos? ks k).isNone) g' s'.A v7.inv v7.fr;obtain⟨QF,QK⟩:=Bk T7;obtain⟨QL,MQ⟩:=Bm T6;have QM:∀(i k:Nat),ks[i]? =some k->k<s'.A.length:=fun i k hi=>by
  have AU:=(WS.1 hi).1;have:=QK i k _ hi (WW (show i<A'.length by omega));exact(WS.1 this).1
 have NA:∀l∈os,l<s'.V.length:=fun l hl=>by
  obtain⟨i,hi⟩:=W0 hl;have AU:=(WS.1 hi).1;have T8:i<(WX V.length++ext).length:=AU;obtain⟨row,h1,_⟩:=MQ i l _ hi (WW (show i<V'.length by omega));exact(WS.1 h1).1
 have NB:os.Nodup:=by
  simp only[os];refine List.nodup_append.2 ⟨List.nodup_range,lJ,fun a ha b eG=>?_⟩;have h1:=Jw b eG;simp at ha;omega
 let gf:Gh:={ob:=os.map fun l=>g1.ob.getD l 0,ar:=ks.map fun k=>g1.ar.getD k undef,im:=g1.im}
 have Hl:∀(i l b:Nat),os[i]? =some l->g1.ob[l]? =some b->gf.ob[i]? =some b:=fun i l b h1 h2=>by simp[gf,h1,h2]
 have oF:∀(i b:Nat),gf.ob[i]? =some b->∃l,os[i]? =some l/\g1.ob[l]? =some b:=fun i b h1=>by
  simp only[gf,WZ,WQ]at h1;obtain⟨l,h2,h3⟩:=h1;have vN:l<g1.ob.length:=by rw[eZ.oP];exact NA l (WY h2)
  exact⟨l,h2,by rw[<-h3];simp[W1,vN]⟩
 have Fu:∀(i k:Nat) v,ks[i]? =some k->g1.ar[k]? =some v->gf.ar[i]? =some v:=fun i k v h1 h2=>by simp[gf,h1,h2]
 have pd:∀(i:Nat) v,gf.ar[i]? =some v->∃k,ks[i]? =some k/\g1.ar[k]? =some v:=fun i v h1=>by
  simp only[gf,WZ,WQ]at h1;obtain⟨k,h2,h3⟩:=h1;have C8:k<g1.ar.length:=by rw[tt,v7.inv.lF];exact QM i k h2
  exact⟨k,h2,by rw[<-h3];simp[W1,C8]⟩
 have Jx:∀{l:List Nat} {k:Nat},(pos? l k).isNone=true↔k∉l:=by
  intro l;induction l with
  |nil=>intro k;simp[pos?]
  |cons x l ih=>
   intro k;simp only[pos?];by_cases e:k=x
   ·subst e;simp
   ·simp only[e,if_false,Option.isNone_map,ih,W2,false_or]
 have T9:∀(i k:Nat) x,ks[i]? =some k->A'[i]? =some x->(pg s'.A ((WX s'.A.length).filter fun k=>(pos? ks k).isNone))[k]? =some x:=fun i k x h1 h2=>by
  rw[uV k (by simp only[Xi,not_and,Jx];intro _ h;exact h (WY h1))];exact QK i k x h1 h2
 have oB:∀(c d:CV) (u:Value),c.res s'.A os ks=some d->bm g' w' s'.A c u->bm gf w' A' d u:=by
  intro c d u h1 h2;have plain:c.kK s'.A os=some d->(∀k n,c≠.own k n)->bm gf w' A' d u:=by
   intro h3 h4;have h5:=tC (A:=s'.A) (A':=pg s'.A ((WX s'.A.length).filter fun k=>(pos? ks k).isNone)) (ids:=os) (g1:=g1) (gc:={gf with ar:=[]}) (w:=w') h3 (bm.ext dn h2) (fun x hx=>by
    cases c with
    |d y=>simp[nw]at hx;subst hx;exact bh.fA dn.gr _ _ h2
    |nil=>simp[nw]at hx;subst hx;simp only[bm]at h2;subst h2;simp only[bh];exact⟨none,0,rfl,XD _,.inl trivial⟩
    |own k n=>exact absurd rfl (h4 k n)
    |_=>simp[nw]at hx) Hl rfl
   exact bm.QI (g:={gf with ar:=[]}) (g':=gf) h5
  cases c with
  |own k n=>
   simp only[CV.res]at h1;obtain⟨ad,cap,e,r,hk,GH,hv⟩:=h2;split at h1
   ·rename_i i hi;simp only[WQ]at h1;obtain⟨x,hx,rfl⟩:=h1;simp only[nw,hk]at hx;split at hx
    ·rename_i dc;have MU:=mJ hi;have AU:=(WS.1 MU).1;have hA'i:A'[i]? =some (A'[i]'(by omega)):=WW (by omega);have h3:=QK i k _ MU hA'i;rw[hk]at h3;have h4:r=A'[i]'(by omega):=Option.some.inj h3;refine⟨ad,cap,e,r,by rw[hA'i,h4],GH,fun _=>Fu i k u MU (by rw[tt];exact hv dc)⟩
    ·simp at hx
   ·rename_i hi;simp only[WQ]at h1;obtain⟨x,hx,rfl⟩:=h1;simp only[nw,hk]at hx;split at hx
    ·rename_i dc;simp at hx;subst hx;exact Nz k (by simp[hi];exact(WS.1 hk).1) r u hk (hv dc)
    ·simp at hx
  |d y=>exact plain h1 (by intro k n h;cases h)
  |nil=>exact plain h1 (by intro k n h;cases h)
  |ptr l off=>exact plain h1 (by intro k n h;cases h)
  |np=>exact plain h1 (by intro k n h;cases h)
  |ip row off=>exact plain h1 (by intro k n h;cases h)
  |op k n i off=>exact plain h1 (by intro k n h;cases h)
  |fn f cap=>exact plain h1 (by intro k n h;cases h)
  |undef=>exact plain h1 (by intro k n h;cases h)
 have C5:∀(x y:AV) (u:Value),x.qB s'.A os ks=some y->aV g' w' s'.A x u->dD gf w' A' y u:=by
  intro x y u h1 h2;cases x with
  |c c=>
   simp only[AV.qB,WQ]at h1;obtain⟨d,hd,rfl⟩:=h1;exact oB c d u hd h2
  |agg cs=>
   simp only[AV.qB,WQ]at h1;obtain⟨ds,hd,rfl⟩:=h1;obtain⟨us',rfl,h3,h4⟩:=h2;obtain⟨h5,h6⟩:=Aa hd;refine⟨us',rfl,by omega,fun j d u h7 h8=>?_⟩;have hj:j<cs.length:=by have:=(WS.1 h7).1;omega
   have hc:cs[j]? =some cs[j]:=WW hj;exact oB _ d u (h6 j _ d hc h7) (h4 j _ u hc h8)
  |bq zs=>simp[AV.qB]at h1
 obtain⟨Vy,Ua⟩:=Bl mL;have NC:aV gf w' A' (one ys) v:=by
  have df:∀(i:Nat) y u,ys[i]? =some y->us[i]? =some u->dD gf w' A' y u:=fun i y u h1 h2=>by
   have hi:i<xs.length:=by have:=(WS.1 h1).1;omega
   have hx:xs[i]? =some xs[i]:=WW hi;exact C5 _ y u (Ua i _ y hx h1) (MJ i _ u hx h2)
  by_cases h1:us.length=1
  ·obtain⟨u,rfl⟩:=Xk.1 h1;obtain⟨y,rfl⟩:=Xk.1 (show ys.length=1 by omega);have h2:=df 0 y u rfl rfl;have hv:v=u:=by simp[v]
   rw[hv];cases y with
   |bq zs=>exact h2.elim
   |c c=>exact h2
   |agg cs=>exact h2
  ·have hv:v=.tuple us.toArray:=by simp[v,h1]
   have ho:one ys=.bq ys:=by
    match ys,(show ys.length≠1 by omega)with
    |[],_=>rfl
    |_::_::_,_=>rfl
   rw[hv,ho];exact⟨us,rfl,by omega,df⟩
 have SD:g.ob.length=V.length:=hI.oP;have ND:∃new,gf.ob=g.ob++new/\∀b∈new,w.heap.size<=b:=by
  obtain⟨new,e,yz⟩:=km.ob;refine⟨ext.map fun l=>g1.ob.getD l 0,?_,fun b eG=>?_⟩
  ·simp only[gf,os,List.map_append]
   congr 1
   apply Xx;intro i;by_cases hi:i<V.length
   ·simp[hi,e,W1,WU (show i<g.ob.length by omega),WW (show i<g.ob.length by omega)]
   ·simp[Xc (show g.ob.length<=i by omega),Xc (show(WX V.length).length<=i by simp;omega)]
  ·simp only[Xh]at eG;obtain⟨l,hl,rfl⟩:=eG;have vN:l<g1.ob.length:=by rw[eZ.oP];exact NA l (by simp[os,hl])
   have GJ:=Jw l hl;have cQ:g1.ob.getD l 0∈new:=by
    have h1:g1.ob[l]? =some (g1.ob.getD l 0):=by simp[W1,vN]
    generalize g1.ob.getD l 0=q at h1⊢;rw[e,WV (by omega)]at h1;exact WY h1
   exact yz _ cQ
 have NF:Inv gf w' V' A':=by
  refine⟨by simp[gf,QL,os],by simp[gf,QF],fun i row' b h1 h2=>?_,fun i x v' h1 h2=>?_,fun i i' b h1 h2=>?_,fun i i' v1 v2 b h1 h2 h3 h4=>?_,fun i j v' b h1 h2=>?_,eZ.fresh⟩
  ·obtain⟨l,h3,h4⟩:=oF i b h2;obtain⟨row,h5,h6⟩:=MQ i l row' h3 h1;obtain⟨h7,h8⟩:=Aa h6;have eG:g'.ob[l]? =some b:=by rw[<-pZ];exact h4
   obtain⟨_,cs,ty,cE,ev,fM⟩:=v7.inv.obj l row b h5 eG;refine⟨(eZ.obj l row b h5 h4).1,cs,ty,cE,by omega,fun j d u dt gk=>?_⟩;have hj:j<row.length:=by have:=(WS.1 dt).1;omega
   have hc:row[j]? =some row[j]:=WW hj;exact oB _ d u (h8 j _ d hc dt) (fM j _ u hc gk)
  ·obtain⟨k,h3,h4⟩:=pd i v' h2;exact eZ.arr k x v' (T9 i k x h3 h1) h4
  ·obtain⟨l,h3,h4⟩:=oF i b h1;obtain⟨l',h5,h6⟩:=oF i' b h2;obtain rfl:=eZ.kA l l' b h4 h6;exact(Xb (WS.1 h3).1 NB).1 (h3.trans h5.symm)
  ·obtain⟨k,h5,h6⟩:=pd i v1 h1;obtain⟨k',h7,h8⟩:=pd i' v2 h2;obtain rfl:=eZ.iS k k' v1 v2 b h6 h8 h3 h4;exact(Xb (WS.1 h5).1 QJ).1 (h5.trans h7.symm)
  ·obtain⟨l,h3,h4⟩:=oF i b h1;obtain⟨k,h5,h6⟩:=pd j v' h2;exact eZ.iX l k v' b h4 h6
 have Ho:a'.defers=[]/\∃v,(results fn a'.tmps).run P w'=.ok v w'/\∃v1 g',Ending.returned v=.returned v1/\aV g' w' A' (one ys) v1/\Inv g' w' V' A'/\Fr w g w' g':=
  ⟨v7.defers,v,wP,v,gf,rfl,NC,NF,⟨km.os,km.tape,km.output,km.size,km.qF,km.iY,ND,fun i v' b h1 h2=>by
   obtain⟨k,h3,h4⟩:=pd i v' h1;exact km.ar k v' b h4 h2,fun k v' h1=>by
   obtain⟨v2,h2,h3⟩:=km.wq k v' h1;have hk:k<A0.length:=by rw[<-hI.lF];exact(WS.1 h1).1
   exact⟨v2,Fu k k v2 (by rw[T5,WU (by simpa using hk)];simp[hk]) h2,h3⟩,km.yp⟩⟩
 rcases hex with rfl|rfl<;>exact Ho
theorem ah.cx {f:FuncId} {fn:Func} {c:Code} {as:List AV} {V V':List (List CV)} {r:AV} {A':List bu} (hf:P.funcs[f]? =some fn) (j0:(fn.name== "runtime.NumGoroutine")=false) (hb:fn.body=some c) (eK:codeOk fn.ntmps c=true) (hn:as.length<=fn.ntmps)
  (Lk:V.length<=V'.length) (h:T P fn.ntmps c (aD P fn V.length r V' A') ⟨kL as,V,[]⟩):ah P f as V r V' A':=by
 obtain⟨h1,h2,h3⟩:=eO.cx (A0:=[]) hf j0 hb eK hn Lk (T.mono h fun e s' hd=>by
  obtain⟨hex,ext,ks,xs,ys,h⟩:=hd;exact⟨hex,ext,ks,xs,ys,⟨ks,by simp⟩,h⟩)
 exact⟨h1,h2,fun g w vs _ hI=>h3 g w vs hI⟩
theorem ah.ob {f:FuncId} {fn:Func} {N:Nat} {c:Code} {as:List AV} {V V':List (List CV)} {r:AV} {A':List bu} (hf:P.funcs[f]? =some fn) (hN:fn.ntmps=N) (hb:fn.body=some c) (h:T P N c (aD P fn V.length r V' A') ⟨kL as,V,[]⟩) (j0:(fn.name== "runtime.NumGoroutine")=false:=by kernel_rfl) (eK:codeOk N c=true:=by kernel_rfl) (hn:as.length<=N:=by simp) (Lk:V.length<=V'.length:=by simp):ah P f as V r V' A':=by
 subst hN;exact ah.cx hf j0 hb eK hn Lk h
end
def cL:Op->Bool
 |.move _|.assign _|.pick _ _ _|.fieldAddr _ _ _|.unOp _ _ _|.binOp _ _ _ _ _|.extract _ _=>true
 |_=>false
def gw (all:Array Oper) (s:St) (o:Oper):Bool:=
 match o.guard with
 |none=>true
 |some (j,want)=>match(all[j]?).bind (·.dst)with
  |some t=>match look s.fr t with
   |some (.c (.d (.bool b)))=>b==want
   |_=>false
  |none=>false
def SE (P:Program) (all:Array Oper) (ow:Bool) (o:Oper) (s s':St):Prop:=
 gX all s o True True/\((gw all s o=true/\∃x V A,s'=s.put o.dst x V A/\∀K:AV->List (List CV)->List bu->Prop,K x V A->bH P s ow o K)\/(gw all s o=false/\s'=s.put o.dst (.c .undef) s.V s.A))
def pk (P:Program) (all:Array Oper) (ow:Nat->Bool) (ws:List Nat) (K:St->Prop):Nat->List Oper->St->Prop
 |_,[],s=>K s
 |i,o::rest,s=>gX all s o (bH P s (ow i) o fun x V A=>(i∈ws\/(V=s.V/\A=s.A))/\pk P all ow ws K (i+1) rest (s.put o.dst x V A)) (pk P all ow ws K (i+1) rest (s.put o.dst (.c .undef) s.V s.A))
def mN (acc:List Nat) (o:Oper):Nat:=o.after.toList.foldl (fun m e=>if Region.binds .any e then m|||2 ^ e.on|||acc.getD e.on 0 else m) 0
def a7:List Oper->List Nat->List Nat
 |[],acc=>acc
 |o::r,acc=>a7 r (acc++[mN acc o])
def dq (all:Array Oper) (x y:Oper):Bool:=match x.dst with
 |some d=>(y.looksAt all).contains d
 |none=>false
def br (all:Array Oper) (ws ms:List Nat) (oi oj:Oper) (i j:Nat):Bool:=
 (oi.dst.isNone||oi.dst !=oj.dst)&&((!dq all oi oj && !dq all oj oi && !(ws.contains i && !cL oj.op)&& !(ws.contains j && !cL oi.op))||(ms.getD j 0).testBit i)
def ej (all:Array Oper) (ws:List Nat):Bool:=
 let l:=all.toList.zipIdx
 let ms:=a7 all.toList []
 (l.all fun(o,j)=>o.after.toList.all fun e=> !Region.binds .any e||decide (e.on<j))&&
 (l.all fun(oj,j)=>l.all fun(oi,i)=> !(decide (i<j))||br all ws ms oi oj i j)&&
 (l.all fun(o,j)=> !ws.contains j|| !cL o.op)
section
variable {P:Program} {n:Nat} {Q Q':Exit->St->Prop} {s s':St} {w0:World} {g0 g g':Gh} {a:Act} {w w':World} {V:List (List CV)} {A A':List bu}
theorem fO {all:Array Oper} {o:Oper} {y n:Prop} (h:gX all s o y n):(gw all s o=true/\y\/gw all s o=false/\n)/\gX all s o True True:=by
 unfold gX at h;unfold gw gX;split at h
 ·rename_i hg;simp[hg,h]
 ·rename_i j want hg;refine aj h fun oj h1 h2=>aj h2 fun t h3 h4=>aj h4 fun x h5 h6=>?_
  simp only[hg,h1,WR,h3,h5,bS];split at h6
  ·rename_i b;simp only[beq_iff_eq,beq_eq_false_iff_ne,implies_true,and_self,and_true];by_cases e:b=want
   ·exact .inl ⟨e,h6.1 e⟩
   ·exact .inr ⟨e,h6.2 (by cases b<;>cases want<;>simp_all)⟩
  ·simp[h6]
  ·exact h6.elim
theorem Jy {ow:Bool} {op:Op} {K:AV->List (List CV)->List bu->Prop} (h:eD P s ow op K):∃x V A,K x V A/\∀K':AV->List (List CV)->List bu->Prop,K' x V A->eD P s ow op K':=by
 cases op with
 |move x=>exact aj h fun v h1 h2=>⟨_,_,_,h2,fun K' h=>by simpa only[eD,bS,h1]using h⟩
 |assign x=>exact aj h fun v h1 h2=>⟨_,_,_,h2,fun K' h=>by simpa only[eD,bS,h1]using h⟩
 |pick c x y=>
  refine aj h fun v h1 h2=>?_
  split at h2
  ·rename_i t;cases t with
   |true=>simp only[if_true]at h2;exact aj h2 fun v h3 h4=>⟨_,_,_,h4,fun K' h=>by simpa only[eD,bS,h1,if_true,h3]using h⟩
   |false=>simp only[XB,if_false]at h2;exact aj h2 fun v h3 h4=>⟨_,_,_,h4,fun K' h=>by simpa only[eD,bS,h1,XB,if_false,h3]using h⟩
  ·exact h2.elim
 |alloc e=>exact aj h fun d h1 h2=>aj h2 fun z h3 h4=>⟨_,_,_,h4,fun K' h=>by simpa only[eD,bS,h1,h3]using h⟩
 |box e x=>exact aj h fun v h1 h2=>⟨_,_,_,h2.2,fun K' h=>by simp only[eD,bS,h1];exact⟨h2.1,h⟩⟩
 |build t parts=>exact aj h fun d h1 h2=>aj h2 fun z h3 h4=>aj h4 fun ps h5 h6=>aj h6 fun cs h7 h8=>⟨_,_,_,h8.2.2,fun K' h=>by simp only[eD,bS,h1,h3,h5,h7];exact⟨h8.1,h8.2.1,h⟩⟩
 |buildSlice t len parts=>
  refine aj h fun d h1 h2=>aj h2 fun e h3 h4=>aj h4 fun de h5 h6=>aj h6 fun rows h7 h8=>aj h8 fun ds h9 cE=>?_
  obtain⟨k1,k2,k3,k4,k5⟩:=cE;cases ow with
  |true=>simp only[if_true]at k5;exact⟨_,_,_,k5,fun K' h=>by simp only[eD,bS,h1,h3,h5,h7,h9];exact⟨k1,k2,k3,k4,by simpa only[if_true]using h⟩⟩
  |false=>simp only[XB,if_false]at k5;exact⟨_,_,_,k5,fun K' h=>by simp only[eD,bS,h1,h3,h5,h7,h9];exact⟨k1,k2,k3,k4,by simpa only[XB,if_false]using h⟩⟩
 |load t x=>
  refine aj h fun d h1 h2=>aj h2 fun p h3 h4=>?_
  split at h4
  ·exact aj h4 fun cs h5 h6=>aj h6 fun v h7 h8=>⟨_,_,_,h8,fun K' h=>by simpa only[eD,bS,h1,h3,h5,h7]using h⟩
  ·exact h4.elim
 |store t x y=>
  refine aj h fun d h1 h2=>aj h2 fun p h3 h4=>aj h4 fun v h5 h6=>?_
  obtain⟨h7,h8,h9⟩:=h6;split at h9
  ·exact aj h9 fun row cE ev=>⟨_,_,_,ev.2,fun K' h=>by simp only[eD,bS,h1,h3,h5,cE];exact⟨h7,h8,ev.1,h⟩⟩
  ·refine aj h9 fun r cE ev=>?_
   obtain⟨fM,dt,gk⟩:=ev;exact aj gk fun row qI rL=>aj rL fun ds Bf rM=>⟨_,_,_,rM.2.2,fun K' h=>by simp only[eD,bS,h1,h3,h5,cE,qI,Bf];exact⟨h7,h8,fM,dt,rM.1,rM.2.1,h⟩⟩
  ·exact h9.elim
 |nilCheck x=>
  refine aj h fun v h1 h2=>?_
  split at h2
  ·exact⟨_,_,_,h2,fun K' h=>by simpa only[eD,bS,h1]using h⟩
  ·exact⟨_,_,_,h2,fun K' h=>by simpa only[eD,bS,h1]using h⟩
  ·exact⟨_,_,_,h2,fun K' h=>by simpa only[eD,bS,h1]using h⟩
  ·exact⟨_,_,_,h2,fun K' h=>by simpa only[eD,bS,h1]using h⟩
  ·exact h2.elim
 |binOp op t x y t'=>
  refine aj h fun u h1 h2=>aj h2 fun v h3 h4=>?_
  split at h4
  ·rename_i r hr;exact⟨_,_,_,h4,fun K' h=>by simpa only[eD,bS,h1,h3,hr]using h⟩
  ·rename_i hr;split at h4
   ·rename_i r CX;exact⟨_,_,_,h4,fun K' h=>by simpa only[eD,bS,h1,h3,hr,CX]using h⟩
   ·rename_i CX;exact aj h4 fun r h5 h6=>aj h6 fun d h7 h8=>⟨_,_,_,h8.2,fun K' h=>by simp only[eD,bS,h1,h3,hr,CX,h5,h7];exact⟨h8.1,h⟩⟩
 |unOp op t x=>exact aj h fun u h1 h2=>aj h2 fun r h3 h4=>⟨_,_,_,h4,fun K' h=>by simpa only[eD,bS,h1,h3]using h⟩
 |convert src dst x=>
  refine aj h fun u h1 h2=>aj h2 fun ds h3 h4=>aj h4 fun dd h5 h6=>?_
  split at h6
  ·exact aj h6 fun k h7 h8=>⟨_,_,_,h8,fun K' h=>by simpa only[eD,bS,h1,h3,h5,h7]using h⟩
  ·exact⟨_,_,_,h6.2.2,fun K' h=>by simp only[eD,bS,h1,h3,h5];exact⟨h6.1,h6.2.1,h⟩⟩
  ·obtain⟨h7,h8⟩:=h6;exact aj h8 fun e h9 cE=>aj cE fun de ev fM=>aj fM.2 fun b dt gk=>⟨_,_,_,gk,fun K' h=>by simp only[eD,bS,h1,h3,h5,h9,ev,dt];exact⟨h7,fM.1,h⟩⟩
  ·exact h6.elim
 |makeFunc fn first captured=>
  cases fn with
  |func f=>
   obtain⟨h1,h2⟩:=h;exact aj h2 fun cs h3 h4=>aj h4 fun ls h5 h6=>⟨_,_,_,h6,fun K' h=>by simp only[eD,bS,h3,h5];exact⟨h1,h⟩⟩
  |_=>exact h.elim
 |makeSlice t l c=>
  refine aj h fun d h1 h2=>aj h2 fun e h3 h4=>aj h4 fun de h5 h6=>aj h6 fun z h7 h8=>aj h8 fun dz h9 cE=>aj cE fun vl ev fM=>aj fM fun vc dt gk=>?_
  split at gk
  ·obtain⟨k1,k2,k3,k4,k5,k6,k7⟩:=gk;exact⟨_,_,_,k7,fun K' h=>by simp only[eD,bS,h1,h3,h5,h7,h9,ev,dt];exact⟨k1,k2,k3,k4,k5,k6,h⟩⟩
  ·exact gk.elim
 |slice t x lo hi mx=>
  obtain⟨rfl,h⟩:=h;refine aj h fun d h1 h2=>aj h2 fun v h3 h4=>aj h4 fun l h5 h6=>aj h6 fun hh h7 h8=>?_
  split at h8
  ·obtain⟨h9,cE⟩:=h8;exact aj cE fun i ev fM=>aj fM fun j dt gk=>⟨_,_,_,gk.2.2.2,fun K' h=>by simp only[eD,bS,h1,h3,h5,h7,ev,dt];exact⟨trivial,h9,gk.1,gk.2.1,gk.2.2.1,h⟩⟩
  ·refine aj h8 fun rows h9 cE=>aj cE fun e ev fM=>aj fM fun de dt gk=>aj gk fun i qI rL=>aj rL fun j Bf rM=>?_
   refine⟨_,_,_,rM.2.2.2.2,fun K' h=>?_⟩;simp only[eD,bS,h1,h3,h5,h7,h9,ev,dt,qI,Bf];exact⟨trivial,rM.1,rM.2.1,rM.2.2.1,rM.2.2.2.1,h⟩
 |fieldAddr t x f=>
  refine aj h fun d h1 h2=>aj h2 fun fo h3 h4=>?_
  obtain⟨off,sz⟩:=fo;obtain⟨h5,h6⟩:=h4;refine aj h6 fun v h7 h8=>?_
  split at h8
  ·exact⟨_,_,_,h8,fun K' h=>by simp only[eD,bS,h1,h3,h7];exact⟨h5,h⟩⟩
  ·exact⟨_,_,_,h8,fun K' h=>by simp only[eD,bS,h1,h3,h7];exact⟨h5,h⟩⟩
  ·exact⟨_,_,_,h8,fun K' h=>by simp only[eD,bS,h1,h3,h7];exact⟨h5,h⟩⟩
  ·exact h8.elim
 |indexAddr t x ix=>
  refine aj h fun d h1 h2=>aj h2 fun v h3 h4=>aj h4 fun i h5 h6=>?_
  split at h6
  ·obtain⟨h0,h6⟩:=h6;split at h6
   ·exact aj h6 fun e h7 h8=>aj h8 fun de h9 cE=>aj cE fun row ev fM=>⟨_,_,_,fM.2,fun K' h=>by simp only[eD,bS,h1,h3,h5,h7,h9,ev];exact⟨h0,fM.1,h⟩⟩
   ·exact aj h6 fun e h7 h8=>aj h8 fun de h9 cE=>aj cE fun r ev fM=>⟨_,_,_,fM.2.2.2,fun K' h=>by simp only[eD,bS,h1,h3,h5,h7,h9,ev];exact⟨h0,fM.1,fM.2.1,fM.2.2.1,h⟩⟩
   ·refine aj h6 fun le h7 h8=>?_
    obtain⟨len,e⟩:=le;exact aj h8 fun de h9 cE=>⟨_,_,_,cE.2,fun K' h=>by simp only[eD,bS,h1,h3,h5,h7,h9];exact⟨h0,cE.1,h⟩⟩
   ·exact h6.elim
  ·exact h6.elim
 |index t x ix=>
  refine aj h fun d h1 h2=>aj h2 fun v h3 h4=>aj h4 fun i h5 h6=>?_
  split at h6
  ·obtain⟨h7,h0,h8⟩:=h6;exact aj h8 fun c h9 cE=>⟨_,_,_,cE,fun K' h=>by simp only[eD,bS,h1,h3,h5,h9];exact⟨h7,h0,h⟩⟩
  ·refine aj h6 fun le h7 h8=>aj h8 fun de h9 cE=>?_
   obtain⟨ev,fM,h0,dt,gk⟩:=cE;exact aj gk fun c qI rL=>⟨_,_,_,rL,fun K' h=>by simp only[eD,bS,h1,h3,h5,h7,h9,qI];exact⟨ev,fM,h0,dt,h⟩⟩
  ·exact h6.elim
 |extract x i=>
  refine aj h fun v h1 h2=>?_
  split at h2
  ·refine aj h2 fun u h3 h4=>?_
   split at h4
   ·exact h4.elim
   ·refine⟨_,_,_,h4,fun K' h=>?_⟩;simp only[eD,bS,h1,h3];exact h
  ·exact h2.elim
 |call c=>
  obtain⟨callee,args,argTypes⟩:=c;cases callee with
  |builtin b=>
   cases b with
   |len=>
    refine aj h fun x h1 h2=>aj h2 fun v h3 h4=>aj h4 fun t h5 h6=>aj h6 fun d h7 h8=>aj h8 fun n h9 cE=>?_
    exact⟨_,_,_,cE.2.2,fun K' h=>by simp only[eD,bS,h1,h3,h5,h7,h9];exact⟨cE.1,cE.2.1,h⟩⟩
   |append=>
    refine aj h fun x h1 h2=>aj h2 fun y h3 h4=>aj h4 fun t h5 h6=>?_
    obtain⟨h7,h8⟩:=h6;refine aj h8 fun d h9 cE=>aj cE fun e ev fM=>aj fM fun de dt gk=>?_
    obtain⟨qI,rL,Bf⟩:=gk;refine aj Bf fun v rM Lj=>aj Lj fun u I2 Nv=>aj Nv fun nr Jo Qx=>?_
    obtain⟨Jp,Jq⟩:=Qx;split at Jq
    ·refine aj Jq fun r Jr MN=>?_
     obtain⟨k1,k2,k3,k4,k5,k6⟩:=MN;cases ow with
     |true=>simp only[if_true]at k6;exact⟨_,_,_,k6,fun K' h=>by simp only[eD];simp only[bS]at rL;simp only[bS,h1,h3,h5,h9,ev,dt,rM,I2,Jo,Jr];exact⟨h7,qI,rL,Jp,k1,k2,k3,k4,k5,by simpa only[if_true]using h⟩⟩
     |false=>simp only[XB,if_false]at k6;exact⟨_,_,_,k6,fun K' h=>by simp only[eD];simp only[bS]at rL;simp only[bS,h1,h3,h5,h9,ev,dt,rM,I2,Jo,Jr];exact⟨h7,qI,rL,Jp,k1,k2,k3,k4,k5,by simpa only[XB,if_false]using h⟩⟩
    ·obtain⟨k1,k2,k6⟩:=Jq;cases ow with
     |true=>simp only[if_true]at k6;exact⟨_,_,_,k6,fun K' h=>by simp only[eD];simp only[bS]at rL;simp only[bS,h1,h3,h5,h9,ev,dt,rM,I2,Jo];exact⟨h7,qI,rL,Jp,k1,k2,by simpa only[if_true]using h⟩⟩
     |false=>simp only[XB,if_false]at k6;exact⟨_,_,_,k6,fun K' h=>by simp only[eD];simp only[bS]at rL;simp only[bS,h1,h3,h5,h9,ev,dt,rM,I2,Jo];exact⟨h7,qI,rL,Jp,k1,k2,by simpa only[XB,if_false]using h⟩⟩
    ·exact Jq.elim
   |max=>
    refine aj h fun x h1 h2=>aj h2 fun y h3 h4=>?_
    obtain⟨h5,h6⟩:=h4;refine aj h6 fun v h7 h8=>aj h8 fun u h9 cE=>?_
    split at cE
    ·exact⟨_,_,_,cE,fun K' h=>by simp only[eD,bS,h1,h3,h7,h9];exact⟨h5,h⟩⟩
    ·exact cE.elim
   |min=>
    refine aj h fun x h1 h2=>aj h2 fun y h3 h4=>?_
    obtain⟨h5,h6⟩:=h4;refine aj h6 fun v h7 h8=>aj h8 fun u h9 cE=>?_
    split at cE
    ·exact⟨_,_,_,cE,fun K' h=>by simp only[eD,bS,h1,h3,h7,h9];exact⟨h5,h⟩⟩
    ·exact cE.elim
   |_=>exact h.elim
  |_=>exact h.elim
 |_=>exact h.elim
theorem lT {ow:Bool} {o:Oper} {K:AV->List (List CV)->List bu->Prop} (h:∀f args ts,o.op≠.call ⟨.value f,args,ts⟩):bH P s ow o K=eD P s ow o.op K:=by
 obtain⟨dst,op,ty,pos,after,guard⟩:=o;cases op<;>try rfl
 rename_i c;obtain⟨callee,args,ts⟩:=c;cases callee<;>first|rfl|exact absurd rfl (h _ _ _)
theorem fU {ow:Bool} {o:Oper} {K:AV->List (List CV)->List bu->Prop} (h:bH P s ow o K):∃x V A,K x V A/\∀K':AV->List (List CV)->List bu->Prop,K' x V A->bH P s ow o K':=by
 by_cases gu:∃f args ts,o.op=.call ⟨.value f,args,ts⟩
 ·obtain⟨f,args,ts,heq⟩:=gu;simp only[bH,heq]at h⊢;refine aj h fun fv h1 h2=>?_
  split at h2
  ·rename_i fid cap;refine aj h2 fun xs h3 h4=>?_
   rcases h4 with⟨ids,as,Vc,r,Vc',Ac',k1,k2,k3,k4,k5⟩|⟨hs,as,r,Ac',k1,k2,k3,k4,k5⟩
   ·refine⟨_,_,_,k5,fun K' h=>?_⟩;simp only[bS,h1,h3];exact .inl ⟨ids,as,Vc,r,Vc',Ac',k1,k2,k3,k4,h⟩
   ·refine⟨_,_,_,k5,fun K' h=>?_⟩;simp only[bS,h1,h3];exact .inr ⟨hs,as,r,Ac',k1,k2,k3,k4,h⟩
  ·exact h2.elim
 ·have dc:∀f args ts,o.op≠.call ⟨.value f,args,ts⟩:=fun f args ts e=>gu ⟨f,args,ts,e⟩
  rw[lT dc]at h;obtain⟨x,V,A,h1,h2⟩:=Jy h;exact⟨x,V,A,h1,fun K' h3=>by rw[lT dc];exact h2 K' h3⟩
theorem pq {all:Array Oper} {ow:Nat->Bool} {ws:List Nat} {K:St->Prop}:∀(ops:List Oper) (i:Nat) (s:St),pk P all ow ws K i ops s->
  ∃σ:Nat->St,σ 0=s/\K (σ ops.length)/\∀(j:Nat) o,ops[j]? =some o->SE P all (ow (i+j)) o (σ j) (σ (j+1))/\(i+j∈ws\/((σ (j+1)).V=(σ j).V/\(σ (j+1)).A=(σ j).A))
 |[],i,s,h=>⟨fun _=>s,rfl,h,fun j o h=>by simp at h⟩
 |o::rest,i,s,h=>by
  simp only[pk]at h;obtain⟨h0,hg⟩:=fO h;rcases h0 with⟨h1,h2⟩|⟨h1,h2⟩
  ·obtain⟨x,V,A,⟨h3,h4⟩,h5⟩:=fU h2;obtain⟨σ,k1,k2,k3⟩:=pq rest (i+1) _ h4;refine⟨fun j=>match j with|0=>s|j+1=>σ j,rfl,k2,fun j o' ho=>?_⟩;cases j with
   |zero=>
    simp at ho;subst ho;refine⟨⟨hg,.inl ⟨h1,x,V,A,k1,h5⟩⟩,?_⟩;rcases h3 with h3|⟨h3,s5⟩
    ·exact .inl h3
    ·exact .inr (by simp only[k1];exact⟨h3,s5⟩)
   |succ j=>
    simp at ho;have:=k3 j o' ho;rwa[show i+1+j=i+(j+1) by omega]at this
  ·obtain⟨σ,k1,k2,k3⟩:=pq rest (i+1) _ h2;refine⟨fun j=>match j with|0=>s|j+1=>σ j,rfl,k2,fun j o' ho=>?_⟩;cases j with
   |zero=>
    simp at ho;subst ho;exact⟨⟨hg,.inr ⟨h1,k1⟩⟩,.inr (by simp only[k1];exact⟨rfl,rfl⟩)⟩
   |succ j=>
    simp at ho;have:=k3 j o' ho;rwa[show i+1+j=i+(j+1) by omega]at this
end
section
variable {P:Program} {n:Nat} {Q Q':Exit->St->Prop} {s s':St} {w0:World} {g0 g g':Gh} {a:Act} {w w':World} {V:List (List CV)} {A A':List bu}
theorem yC {fr cM:List (Nat×AV)} {p:CV} {k:Nat}:gB ⟨cM,V,A⟩ p k=gB ⟨fr,V,A⟩ p k:=by
 cases p<;>rfl
theorem r7:∀{parts:List (Nat×Operand)},(∀p∈parts,bE s' p.2=bE s p.2)->iz s' parts=iz s parts
 |[],_=>rfl
 |(i,x)::r,h=>by
  have e:=r7 (parts:=r) (fun p hp=>h p (Xj _ hp));simp only[iz,h (i,x) (by simp),e]
theorem uW {sz:Nat}:∀{parts:List (Nat×Operand)} {k:Nat},(∀p∈parts,bE s' p.2=bE s p.2)->jY s' sz k parts=jY s sz k parts
 |[],_,_=>rfl
 |(i,x)::r,k,h=>by
  have e:=uW (sz:=sz) (parts:=r) (k:=k+1) (fun p hp=>h p (Xj _ hp));simp only[jY,h (i,x) (by simp),e]
theorem lU:∀{os:List Operand},(∀p∈os,bE s' p=bE s p)->hM s' os=hM s os
 |[],_=>rfl
 |x::r,h=>by
  have e:=lU (os:=r) (fun p hp=>h p (Xj _ hp));simp only[hM,h x (by simp),e]
theorem Fv {fr cM:List (Nat×AV)} {ow:Bool} {op:Op} {K:AV->List (List CV)->List bu->Prop} (he:∀x∈op.operands.toList,bE ⟨cM,V,A⟩ x=bE ⟨fr,V,A⟩ x) (h:eD P ⟨fr,V,A⟩ ow op K):eD P ⟨cM,V,A⟩ ow op K:=by
 cases op with
 |move x=>simpa only[eD,he x (by simp[Op.operands])]using h
 |assign x=>simpa only[eD,he x (by simp[Op.operands])]using h
 |pick c x y=>simpa only[eD,he c (by simp[Op.operands]),he x (by simp[Op.operands]),he y (by simp[Op.operands])]using h
 |alloc e=>exact h
 |box e x=>simpa only[eD,he x (by simp[Op.operands])]using h
 |build t parts=>simpa only[eD,r7 (s':=⟨cM,V,A⟩) (s:=⟨fr,V,A⟩) (parts:=parts.toList) (fun p hp=>he p.2 (by simp only[Op.operands,Xh];exact⟨p,hp,rfl⟩))]using h
 |buildSlice t len parts=>
  simp only[eD]at h⊢;have:∀sz,jY ⟨cM,V,A⟩ sz 0 parts.toList=jY ⟨fr,V,A⟩ sz 0 parts.toList:=fun sz=>uW (fun p hp=>he p.2 (by simp only[Op.operands,Xh];exact⟨p,hp,rfl⟩))
  simpa only[this]using h
 |load t x=>
  simp only[eD,he x (by simp[Op.operands])]at h⊢;simpa only[yC (fr:=fr) (cM:=cM)]using h
 |store t x y=>simpa only[eD,he x (by simp[Op.operands]),he y (by simp[Op.operands])]using h
 |nilCheck x=>simpa only[eD,he x (by simp[Op.operands])]using h
 |binOp op t x y t'=>simpa only[eD,he x (by simp[Op.operands]),he y (by simp[Op.operands])]using h
 |unOp op t x=>simpa only[eD,he x (by simp[Op.operands])]using h
 |convert src dst x=>simpa only[eD,he x (by simp[Op.operands])]using h
 |makeFunc fn first captured=>
  cases fn with
  |func f=>simpa only[eD,lU (s':=⟨cM,V,A⟩) (s:=⟨fr,V,A⟩) (os:=captured.toList) (fun p hp=>he p (by simp[Op.operands];exact .inr (by simpa using hp)))]using h
  |_=>exact h
 |makeSlice t l c=>simpa only[eD,he l (by simp[Op.operands]),he c (by simp[Op.operands])]using h
 |slice t x lo hi mx=>
  have GF:mi ⟨cM,V,A⟩ lo=mi ⟨fr,V,A⟩ lo:=by
   cases lo with
   |none=>rfl
   |some l=>simp only[mi,he l (by simp[Op.operands])]
  have Qt:mi ⟨cM,V,A⟩ hi=mi ⟨fr,V,A⟩ hi:=by
   cases hi with
   |none=>rfl
   |some l=>simp only[mi,he l (by simp[Op.operands])]
  simpa only[eD,he x (by simp[Op.operands]),GF,Qt]using h
 |fieldAddr t x f=>simpa only[eD,he x (by simp[Op.operands])]using h
 |indexAddr t x ix=>simpa only[eD,he x (by simp[Op.operands]),he ix (by simp[Op.operands])]using h
 |index t x ix=>simpa only[eD,he x (by simp[Op.operands]),he ix (by simp[Op.operands])]using h
 |extract x i=>simpa only[eD,he x (by simp[Op.operands])]using h
 |call c=>
  obtain⟨callee,args,argTypes⟩:=c;cases callee with
  |builtin b=>
   have hx:∀(i:Nat) x,args[i]? =some x->bE ⟨cM,V,A⟩ x=bE ⟨fr,V,A⟩ x:=fun i x hi=>he x (by
    simp only[Op.operands,Call.operands,XX,XR];exact XV hi)
   cases b with
   |len=>exact aj h fun x h1 h2=>by simp only[eD,bS,h1,hx 0 x h1];exact h2
   |append=>exact aj h fun x h1 h2=>aj h2 fun y h3 h4=>by simp only[eD,bS,h1,h3,hx 0 x h1,hx 1 y h3];exact h4
   |max=>exact aj h fun x h1 h2=>aj h2 fun y h3 h4=>by simp only[eD,bS,h1,h3,hx 0 x h1,hx 1 y h3];exact h4
   |min=>exact aj h fun x h1 h2=>aj h2 fun y h3 h4=>by simp only[eD,bS,h1,h3,hx 0 x h1,hx 1 y h3];exact h4
   |_=>exact h
  |_=>exact h
 |_=>exact h
theorem dX {fr cM:List (Nat×AV)} {ow:Bool} {o:Oper} {K:AV->List (List CV)->List bu->Prop} (he:∀x∈o.op.operands.toList,bE ⟨cM,V,A⟩ x=bE ⟨fr,V,A⟩ x) (h:bH P ⟨fr,V,A⟩ ow o K):bH P ⟨cM,V,A⟩ ow o K:=by
 by_cases gu:∃f args ts,o.op=.call ⟨.value f,args,ts⟩
 ·obtain⟨f,args,ts,heq⟩:=gu;simp only[bH,heq]at h he⊢;have h1:bE ⟨cM,V,A⟩ f=bE ⟨fr,V,A⟩ f:=he f (by simp[Op.operands,Call.operands]);have h2:hM ⟨cM,V,A⟩ args.toList=hM ⟨fr,V,A⟩ args.toList:=lU fun p hp=>he p (by simp[Op.operands,Call.operands];exact .inr (by simpa using hp))
  rw[h1,h2];exact h
 ·have dc:∀f args ts,o.op≠.call ⟨.value f,args,ts⟩:=fun f args ts e=>gu ⟨f,args,ts,e⟩
  rw[lT dc]at h⊢;exact Fv he h
theorem nE {ow:Bool} {o:Oper} (hs:cL o.op=true) (he:∀x∈o.op.operands.toList,bE s' x=bE s x) {x:AV} {V0:List (List CV)} {A0:List bu} (h:∀K:AV->List (List CV)->List bu->Prop,K x V0 A0->bH P s ow o K)
  {K:AV->List (List CV)->List bu->Prop} (hK:K x s'.V s'.A):bH P s' ow o K:=by
 have dc:∀f args ts,o.op≠.call ⟨.value f,args,ts⟩:=fun f args ts e=>by rw[e]at hs;simp[cL]at hs
 have h0:=h (fun v _ _=>v=x) rfl;rw[lT dc]at h0⊢;obtain⟨dst,op,ty,pos,after,guard⟩:=o;simp only at h0 he hs⊢;cases op with
 |move y=>exact aj h0 fun v h1 h2=>by subst h2;simp only[eD,bS,he y (by simp[Op.operands]),h1];exact hK
 |assign y=>exact aj h0 fun v h1 h2=>by subst h2;simp only[eD,bS,he y (by simp[Op.operands]),h1];exact hK
 |pick c y z=>
  refine aj h0 fun v h1 h2=>?_
  split at h2
  ·rename_i t;cases t with
   |true=>simp only[if_true]at h2;exact aj h2 fun v h3 h4=>by subst h4;simp only[eD,bS,he c (by simp[Op.operands]),h1,if_true,he y (by simp[Op.operands]),h3];exact hK
   |false=>simp only[XB,if_false]at h2;exact aj h2 fun v h3 h4=>by subst h4;simp only[eD,bS,he c (by simp[Op.operands]),h1,XB,if_false,he z (by simp[Op.operands]),h3];exact hK
  ·exact h2.elim
 |fieldAddr t y f=>
  refine aj h0 fun d h1 h2=>aj h2 fun fo h3 h4=>?_
  obtain⟨off,sz⟩:=fo;obtain⟨h5,h6⟩:=h4;refine aj h6 fun v h7 h8=>?_
  split at h8
  ·subst h8;simp only[eD,bS,h1,h3,he y (by simp[Op.operands]),h7];exact⟨h5,hK⟩
  ·subst h8;simp only[eD,bS,h1,h3,he y (by simp[Op.operands]),h7];exact⟨h5,hK⟩
  ·subst h8;simp only[eD,bS,h1,h3,he y (by simp[Op.operands]),h7];exact⟨h5,hK⟩
  ·exact h8.elim
 |unOp op t y=>exact aj h0 fun u h1 h2=>aj h2 fun r h3 h4=>by subst h4;simp only[eD,bS,he y (by simp[Op.operands]),h1,h3];exact hK
 |binOp op t y z t'=>
  refine aj h0 fun u h1 h2=>aj h2 fun v h3 h4=>?_
  split at h4
  ·rename_i r hr;subst h4;simp only[eD,bS,he y (by simp[Op.operands]),he z (by simp[Op.operands]),h1,h3,hr];exact hK
  ·rename_i hr;split at h4
   ·rename_i r CX;subst h4;simp only[eD,bS,he y (by simp[Op.operands]),he z (by simp[Op.operands]),h1,h3,hr,CX];exact hK
   rename_i CX;exact aj h4 fun r h5 h6=>aj h6 fun d h7 h8=>by
    obtain⟨h8,h9⟩:=h8;subst h9;simp only[eD,bS,he y (by simp[Op.operands]),he z (by simp[Op.operands]),h1,h3,hr,CX,h5,h7];exact⟨h8,hK⟩
 |extract y i=>
  refine aj h0 fun v h1 h2=>?_
  split at h2
  ·refine aj h2 fun u h3 h4=>?_
   split at h4
   ·exact h4.elim
   ·subst h4;simp only[eD,bS,he y (by simp[Op.operands]),h1,h3];exact hK
  ·exact h2.elim
 |_=>simp[cL]at hs
theorem fF {acc:List Nat} {o:Oper} {k:Nat} (h:(mN acc o).testBit k=true):∃e∈o.after,Region.binds .any e=true/\(k=e.on\/(acc.getD e.on 0).testBit k=true):=by
 have key:∀(l:List Edge) (m:Nat),(l.foldl (fun m e=>if Region.binds .any e then m|||2 ^ e.on|||acc.getD e.on 0 else m) m).testBit k=true->m.testBit k=true\/∃e∈l,Region.binds .any e=true/\(k=e.on\/(acc.getD e.on 0).testBit k=true):=by
  intro l;induction l with
  |nil=>intro m h;exact .inl h
  |cons e l ih=>
   intro m h;simp only[Xd]at h;rcases ih _ h with h1|⟨e',h1,h2⟩
   ·split at h1
    ·rename_i hb;rw[XL,XL,XA,XA]at h1;rcases h1 with(h1|h1)|h1
     ·exact .inl h1
     ·rw[Nat.testBit_two_pow]at h1;exact .inr ⟨e,by simp,hb,.inl (by simpa using(by simpa using h1:e.on=k).symm)⟩
     ·exact .inr ⟨e,by simp,hb,.inr h1⟩
    ·exact .inl h1
   ·exact .inr ⟨e',by simp[h1],h2⟩
 rcases key _ 0 h with h1|⟨e,h1,h2⟩
 ·simp at h1
 ·exact⟨e,XR.1 h1,h2⟩
theorem eU:∀(l:List Oper) (acc:List Nat),(a7 l acc).length=acc.length+l.length/\(∀i,i<acc.length->(a7 l acc)[i]? =acc[i]?)/\
  ∀(i:Nat) o,l[i]? =some o->∃pre:List Nat,pre.length=acc.length+i/\(∀j,j<pre.length->pre[j]? =(a7 l acc)[j]?)/\(a7 l acc)[acc.length+i]? =some (mN pre o)
 |[],acc=>⟨by simp[a7],fun _ _=>rfl,fun i o h=>by simp at h⟩
 |o::r,acc=>by
  obtain⟨h1,h2,h3⟩:=eU r (acc++[mN acc o]);simp only[a7];refine⟨by rw[h1];simp;omega,fun i hi=>?_,fun i o' ho=>?_⟩
  ·rw[h2 i (by simp;omega),WU hi]
  ·cases i with
   |zero=>
    simp at ho;subst ho;refine⟨acc,by simp,fun j hj=>?_,?_⟩
    ·rw[h2 j (by simp;omega),WU hj]
    ·rw[Nat.add_zero,h2 _ (by simp)];simp
   |succ i=>
    simp at ho;obtain⟨pre,h4,h5,h6⟩:=h3 i o' ho;simp at h4;exact⟨pre,by omega,h5,by rw[<-h6];congr 1;simp;omega⟩
theorem eP (f:Nat->Bool):∀(fr:List (Nat×AV)) (t:Nat),look (fr.filter fun p=>f p.1) t=if f t then look fr t else none
 |[],t=>by simp[look]
 |(d,x)::r,t=>by
  by_cases hd:f d=true
  ·rw[List.filter_cons_of_pos (by exact hd)];simp only[look];rw[eP f r t];by_cases e:t=d
   ·subst e;simp[hd]
   ·simp[e]
  ·rw[List.filter_cons_of_neg (by exact hd),eP f r t];simp only[look];by_cases e:t=d
   ·subst e;simp[hd]
   ·simp[e]
structure DS (all:Array Oper) (ws:List Nat) (σ:Nat->St) (n:Nat) (w0:World) (g0:Gh) (ae:Array Bool) (k0:Nat) (g:Gh) (a:Act) (w:World):Prop where
 inv:Inv g w (σ k0).V (σ k0).A
 fr:Fr w0 g0 w g
 size:a.tmps.size=n
 defers:a.defers=[]
 ey:ae.size=all.size
 fP:∀(i:Nat) o t x,all[i]? =some o->ae[i]? =some true->o.dst=some t->look (σ (i+1)).fr t=some x->∃u,a.tmps[t]? =some u/\aV g w (σ k0).A x u
 fQ:∀t x,(∀(i:Nat) o,all[i]? =some o->ae[i]? =some true->o.dst≠some t)->look (σ 0).fr t=some x->∃u,a.tmps[t]? =some u/\aV g w (σ k0).A x u
 dY:∀i∈ws,i<all.size->(ae[i]? =some true↔i<k0)
 nF:k0<=all.size
 closed:∀(i:Nat) o,all[i]? =some o->ae[i]? =some true->∀e∈o.after,Region.binds .any e=true->ae[e.on]? =some true
theorem filter_le {α:Type} {p q:α->Bool} (h:∀i,p i=true->q i=true):∀(l:List α),(l.filter p).length<=(l.filter q).length
 |[]=>by simp
 |x::l=>by
  have ih:=filter_le h l;cases hp:p x with
  |true=>simp[hp,h x hp];exact ih
  |false=>cases hq:q x<;>simp[hp,hq]<;>omega
theorem filter_lt {α:Type} {p q:α->Bool} (h:∀i,p i=true->q i=true) {j:α}:∀{l:List α},j∈l->q j=true->p j=false->(l.filter p).length<(l.filter q).length
 |[],hj,_,_=>by simp at hj
 |x::l,hj,hq,hp=>by
  rcases W2.1 hj with rfl|Hb
  ·have:=filter_le h l;simp[hp,hq];omega
  ·have ih:=filter_lt h Hb hq hp;cases fX:p x with
   |true=>simp[fX,h x fX];exact ih
   |false=>cases Qw:q x<;>simp[fX,Qw]<;>omega
theorem cy {ae:Array Bool} {i:Nat}:ae.getD i false=true↔ae[i]? =some true:=by
 rcases XE i ae.size with h|h
 ·simp[h]
 ·simp[h]
theorem dZ {ae:Array Bool} {i:Nat} (h:ae.getD i true=false):ae[i]? =some false:=by
 rcases XE i ae.size with h1|h1
 ·simp[h1]at h⊢;exact h
 ·simp[h1]at h
set_option maxHeartbeats 2000000 in
theorem C9 {all:Array Oper} {ow:Nat->Bool} {ws:List Nat} {σ:Nat->St} {K:St->Prop} {Q:Exit->Act->World->Prop} (hd:ej all ws=true) (eT:c7 n all.toList=true)
  (lK:∀(j:Nat) o,all[j]? =some o->SE P all (ow j) o (σ j) (σ (j+1))/\(j∈ws\/((σ (j+1)).V=(σ j).V/\(σ (j+1)).A=(σ j).A)))
  (hK:K (σ all.size)) (hQ:∀s' g' a' w',K s'->Rp n w0 g0 s' g' a' w'->Q .normal a' w'):
  ∀(fuel:Nat) (ae:Array Bool) (k0:Nat) (g:Gh) (a:Act) (w:World),((WX all.size).filter fun i=> !ae.getD i true).length<=fuel->DS all ws σ n w0 g0 ae k0 g a w->wpAny P .any all Q fuel ae a w:=by
 simp only[ej,Xz,W4]at hd;obtain⟨⟨hP,jm⟩,oX⟩:=hd;have cQ:∀(j:Nat) o,all[j]? =some o->(o,j)∈all.toList.zipIdx:=fun j o h=>by
  rw[Xp];exact⟨j,by simp[Xu,h]⟩
 have cZ:∀(j:Nat) o,all[j]? =some o->∀e∈o.after,Region.binds .any e=true->e.on<j:=fun j o h e he hb=>by
  have:=hP _ (cQ j o h) e (XR.2 he);simpa[hb]using this
 have bY:∀(i j:Nat) oi oj,all[i]? =some oi->all[j]? =some oj->i<j->br all ws (a7 all.toList []) oi oj i j=true:=fun i j oi oj h1 h2 az=>by
  have:=jm _ (cQ j oj h2) _ (cQ i oi h1);simpa[az]using this
 have uX:∀(j:Nat) o,all[j]? =some o->j∈ws->cL o.op=false:=fun j o h hj=>by
  have:=oX _ (cQ j o h);simpa[hj]using this
 have fG:∀(i j:Nat) oi oj d,all[i]? =some oi->all[j]? =some oj->i<j->oi.dst=some d->oj.dst≠some d:=fun i j oi oj d h1 h2 az h3 h4=>by
  have:=bY i j oi oj h1 h2 az;simp[br,h3,h4]at this
 have q0:∀(i j:Nat) oi oj d,all[i]? =some oi->all[j]? =some oj->oi.dst=some d->oj.dst=some d->i=j:=fun i j oi oj d h1 h2 h3 h4=>by
  rcases XJ i j with h|h|h
  ·exact absurd h4 (fG i j oi oj d h1 h2 h h3)
  ·exact h
  ·exact absurd h3 (fG j i oj oi d h2 h1 h h4)
 have z8:∀(j:Nat) o d,all[j]? =some o->o.dst=some d->d<n:=fun j o d h1 h2=>by
  have:=W4.1 eT o (by rw[XR];exact XV h1);simpa[h2]using this
 obtain⟨GJ,_,Bn⟩:=eU all.toList []
 have mO:∀{ae:Array Bool},(∀(i:Nat) o,all[i]? =some o->ae[i]? =some true->∀e∈o.after,Region.binds .any e=true->ae[e.on]? =some true)->
   ∀(i:Nat) o,all[i]? =some o->(∀e∈o.after,Region.binds .any e=true->ae[e.on]? =some true)->∀k,((a7 all.toList []).getD i 0).testBit k=true->ae[k]? =some true:=by
  intro ae kJ i;induction i using XI with
  |_ i ih=>
   intro o ho cz k hk;obtain⟨pre,h1,h2,h3⟩:=Bn i o (by simpa using ho);simp only[Xs,XH]at h1 h3;have h4:(a7 all.toList []).getD i 0=mN pre o:=by simp[W1,h3]
   rw[h4]at hk;obtain⟨e,he,hb,h5⟩:=fF hk;have s7:=cz e he hb;rcases h5 with rfl|h5
   ·exact s7
   ·have az:=cZ i o ho e he hb;have h6:pre.getD e.on 0=(a7 all.toList []).getD e.on 0:=by simp only[W1,h2 e.on (by omega)]
    rw[h6]at h5;have eM:e.on<all.size:=by have:=(XQ.1 ho).1;omega
    have uY:all[e.on]? =some all[e.on]:=XP eM;exact ih e.on az _ uY (kJ e.on _ uY s7) k h5
 have lV:∀(j:Nat) o t,all[j]? =some o->o.dst≠some t->look (σ (j+1)).fr t=look (σ j).fr t:=fun j o t h1 h2=>by
  obtain⟨⟨_,h3⟩,_⟩:=lK j o h1;have j3:∀(x:AV) V A,look ((σ j).put o.dst x V A).fr t=look (σ j).fr t:=fun x V A=>by
   simp only[St.put];cases rI:o.dst with
   |none=>rfl
   |some d=>simp only[look];rw[if_neg (fun e=>h2 (by rw[rI,e]))]
  rcases h3 with⟨_,x,V,A,h4,_⟩|⟨_,h4⟩
  ·rw[h4];exact j3 x V A
  ·rw[h4];exact j3 _ _ _
 have oR:∀(j t:Nat),j<=all.size->(∀(i:Nat) o,i<j->all[i]? =some o->o.dst≠some t)->look (σ j).fr t=look (σ 0).fr t:=by
  intro j;induction j with
  |zero=>intro t _ _;rfl
  |succ j ih=>
   intro t hj fe;have ho:all[j]? =some all[j]:=XP (by omega);rw[lV j _ t ho (fe j _ (by omega) ho)];exact ih t (by omega) (fun i o hi=>fe i o (by omega))
 have oS:∀(j i:Nat) oi t,j<=all.size->i<j->all[i]? =some oi->oi.dst=some t->look (σ j).fr t=look (σ (i+1)).fr t:=by
  intro j;induction j with
  |zero=>intro i oi t _ h;omega
  |succ j ih=>
   intro i oi t hj kq aZ cg;by_cases e:i=j
   ·subst e;rfl
   ·have ho:all[j]? =some all[j]:=XP (by omega);rw[lV j _ t ho (fG i j oi _ t aZ ho (by omega) cg)];exact ih i oi t (by omega) (by omega) aZ cg
 have tE:∀(b a:Nat),a<=b->b<=all.size->(∀i,a<=i->i<b->i∉ws)->(σ b).V=(σ a).V/\(σ b).A=(σ a).A:=by
  intro b;induction b with
  |zero=>
   intro a h _ _;obtain rfl:a=0:=by omega
   exact⟨rfl,rfl⟩
  |succ b ih=>
   intro a Pw hb fe;by_cases e:a=b+1
   ·subst e;exact⟨rfl,rfl⟩
   ·have ho:all[b]? =some all[b]:=XP (by omega);obtain⟨h1,h2⟩:=ih a (by omega) (by omega) (fun i hi Fh=>fe i hi (by omega));rcases(lK b _ ho).2 with h3|⟨h3,h4⟩
    ·exact absurd h3 (fe b (by omega) (by omega))
    ·exact⟨h3.trans h1,h4.trans h2⟩
 have lJ:∀{ae:Array Bool} {k0:Nat} {g:Gh} {a:Act} {w:World},DS all ws σ n w0 g0 ae k0 g a w->Region.ready .any all ae=[]->Q .normal a w:=by
  intro ae k0 g a w hD hr;have df:∀i,i<all.size->ae[i]? =some true:=by
   intro i;induction i using XI with
   |_ i ih=>
    intro hi;have ho:all[i]? =some all[i]:=XP hi;have bC:i<ae.size:=by rw[hD.ey];exact hi
    cases hl:ae[i]with
    |true=>rw[XP bC,hl]
    |false=>
     exfalso
     have:i∈Region.ready .any all ae:=mem_ready.2 ⟨by simp[bC,hl],_,ho,fun e he hb=>cy.2 (ih e.on (cZ i _ ho e he hb) (by have:=cZ i _ ho e he hb;omega))⟩;rw[hr]at this;simp at this
  have kM:=tE all.size k0 hD.nF (XD _) (fun i h1 h2 h3=>by have:=(hD.dY i h3 h2).1 (df i h2);omega);refine hQ _ g a w hK ⟨by rw[kM.1,kM.2];exact hD.inv,hD.fr,hD.size,hD.defers,fun t x hx=>?_⟩;rw[kM.2];by_cases hex:∃(i:Nat) (o:Oper),all[i]? =some o/\o.dst=some t
  ·obtain⟨i,o,ho,cg⟩:=hex;have hi:=(XQ.1 ho).1;rw[oS all.size i o t (XD _) hi ho cg]at hx;exact hD.fP i o t x ho (df i hi) cg hx
  ·rw[oR all.size t (XD _) (fun i o _ ho cg=>hex ⟨i,o,ho,cg⟩)]at hx;exact hD.fQ t x (fun i o ho _ cg=>hex ⟨i,o,ho,cg⟩) hx
 intro fuel;induction fuel with
 |zero=>
  intro ae k0 g a w hf hD;have lL:Region.ready .any all ae=[]:=by
   have h0:((WX all.size).filter fun i=> !ae.getD i true)=[]:=Xe (by omega);rcases hr:Region.ready .any all ae with _|⟨j,r⟩
   ·rfl
   ·have hj:j∈Region.ready .any all ae:=by rw[hr];simp
    obtain⟨h1,o,h2,_⟩:=mem_ready.1 hj;have:j∈((WX all.size).filter fun i=> !ae.getD i true):=by
     rw[Xi,Xa];exact⟨(XQ.1 h2).1,by simp[h1]⟩
    rw[h0]at this;simp at this
  exact⟨lL,lJ hD lL⟩
 |succ fuel ih=>
  intro ae k0 g a w hf hD;refine⟨fun hr=>lJ hD hr,fun j hj=>?_⟩;obtain⟨mP,o,ho,cz⟩:=mem_ready.1 hj;have mQ:=dZ mP;have rK:j<all.size:=(XQ.1 ho).1;have iZ:j<ae.size:=by rw[hD.ey];exact rK
  have cn:∀e∈o.after,Region.binds .any e=true->ae[e.on]? =some true:=fun e he hb=>cy.1 (cz e he hb)
  have ck:∀k,((a7 all.toList []).getD j 0).testBit k=true->ae[k]? =some true:=mO hD.closed j o ho cn;have bV:∀(i:Nat) oi,all[i]? =some oi->ae[i]? =some true->((a7 all.toList []).getD i 0).testBit j=false:=fun i oi aZ bC=>by
   cases hb:((a7 all.toList []).getD i 0).testBit j with
   |false=>rfl
   |true=>have:=mO hD.closed i oi aZ (hD.closed i oi aZ bC) j hb;rw[mQ]at this;simp at this
  have jr:∀t∈o.looksAt all,∀x,look (σ j).fr t=some x->∃u,a.tmps[t]? =some u/\aV g w (σ k0).A x u:=by
   intro t ht x hx;by_cases hex:∃(i:Nat) (oi:Oper),i<j/\all[i]? =some oi/\oi.dst=some t
   ·obtain⟨i,oi,kq,aZ,cg⟩:=hex;rw[oS j i oi t (by omega) kq aZ cg]at hx;have hp:=bY i j oi o aZ ho kq;have tF:dq all oi o=true:=by simp only[dq,cg];simpa using ht
    simp only[br,tF,Xz,XA]at hp;have hb:((a7 all.toList []).getD j 0).testBit i=true:=by simpa using hp.2
    exact hD.fP i oi t x aZ (ck i hb) cg hx
   ·rw[oR j t (by omega) (fun i oi kq aZ cg=>hex ⟨i,oi,kq,aZ,cg⟩)]at hx;refine hD.fQ t x (fun i oi aZ bC cg=>?_) hx;rcases XJ i j with h|h|h
    ·exact hex ⟨i,oi,h,aZ,cg⟩
    ·subst h;rw[mQ]at bC;simp at bC
    ·have hp:=bY j i o oi ho aZ h;have tF:dq all oi o=true:=by simp only[dq,cg];simpa using ht
     have hb:=bV i oi aZ bC;simp only[br,tF,hb,Xz,XA]at hp;simp at hp
  let cM:=(σ j).fr.filter fun p=>(o.looksAt all).contains p.1
  have mD:∀t,look cM t=if(o.looksAt all).contains t then look (σ j).fr t else none:=fun t=>eP (fun t=>(o.looksAt all).contains t) (σ j).fr t
  have hS:∀(V:List (List CV)),ia g w ⟨cM,V,(σ k0).A⟩ a:=fun V t x hx=>by
   simp only[mD]at hx;split at hx
   ·rename_i hc;exact jr t (by simpa using hc) x hx
   ·cases hx
  have gu:∀(V V':List (List CV)) (A A':List bu),∀x∈o.op.operands.toList,bE ⟨cM,V,A⟩ x=bE ⟨(σ j).fr,V',A'⟩ x:=fun V V' A A' x hx=>by
   cases x with
   |tmp t=>
    simp only[bE,mD];rw[if_pos];simp only[Oper.looksAt,Xf,decide_eq_true_eq,W6,Xq];exact .inl ⟨.tmp t,hx,rfl⟩
   |_=>rfl
  have gD:Rp n w0 g0 ⟨cM,(σ k0).V,(σ k0).A⟩ g a w:=⟨hD.inv,hD.fr,hD.size,hD.defers,hS _⟩;obtain⟨⟨uT,kn⟩,Da⟩:=lK j o ho;have oT:gX all ⟨cM,(σ k0).V,(σ k0).A⟩ o True True/\gw all ⟨cM,(σ k0).V,(σ k0).A⟩ o=gw all (σ j) o:=by
   unfold gX gw at*;cases nG:o.guard with
   |none=>simp
   |some jw=>
    obtain⟨q,want⟩:=jw;simp only[nG]at uT⊢;obtain⟨oq,h1,h2⟩:=cv uT;obtain⟨t,h3,h4⟩:=cv h2;have:look cM t=look (σ j).fr t:=by
     rw[mD,if_pos];simp only[Oper.looksAt,nG,Xf,decide_eq_true_eq,W6];exact .inr (by simp[h1,h3])
    simp only[h1,bS,h3,WR,this]at h4⊢;exact⟨h4,trivial⟩
  have ll:Region.wanted o (yielded all a.tmps)=gw all (σ j) o:=by
   rw[<-oT.2];have h0:=fO oT.1;have h1:=oT.1;unfold gX at h1;unfold gw;cases nG:o.guard with
   |none=>simp[Region.wanted,nG]
   |some jw=>
    obtain⟨q,want⟩:=jw;simp only[nG]at h1⊢;obtain⟨oq,h2,h3⟩:=cv h1;obtain⟨t,h4,h5⟩:=cv h3;obtain⟨x,h6,h7⟩:=cv h5;obtain⟨h8,h9⟩:=jq gD h2 h4 h6;simp only[h2,WR,h4,h6];split at h7
    ·rename_i b;simp[Region.wanted,nG,h8 b rfl]
    ·simp[Region.wanted,nG,h9 rfl]
    ·exact h7.elim
  have bN:∀i,(ae.setIfInBounds j true)[i]? =if i=j then some true else ae[i]? :=fun i=>by
   by_cases e:i=j
   ·subst e;simp[iZ]
   ·rw[if_neg e,XS (fun h=>e h.symm)]
  have cW:((WX all.size).filter fun i=> !(ae.setIfInBounds j true).getD i true).length<=fuel:=by
   have az:((WX all.size).filter fun i=> !(ae.setIfInBounds j true).getD i true).length<((WX all.size).filter fun i=> !ae.getD i true).length:=by
    have gq:∀i,(!(ae.setIfInBounds j true).getD i true)=true->(!ae.getD i true)=true:=fun i h=>by
     by_cases e:i=j
     ·subst e;simp[iZ]at h
     ·have:(ae.setIfInBounds j true).getD i true=ae.getD i true:=by
       simp only[XW,bN,if_neg e]
      rwa[this]at h
    exact filter_lt gq (Xa.2 rK) (by simp[mP]) (by simp[iZ])
   omega
  have cJ:∀(k1:Nat) (x:AV) (v:Value) (w':World) (g':Gh),look (σ (j+1)).fr=look ((σ j).put o.dst x [] []).fr->aV g' w' (σ k1).A x v->Inv g' w' (σ k1).V (σ k1).A->Ext g w (σ k0).A g' w' (σ k1).A->Fr w0 g0 w' g'->k1<=all.size->
    (∀i∈ws,i<all.size->((ae.setIfInBounds j true)[i]? =some true↔i<k1))->DS all ws σ n w0 g0 (ae.setIfInBounds j true) k1 g' (a.put o.dst v) w':=by
   intro k1 x v w' g' CN yy hI hx hF hk Fw;have iH:∀t u,o.dst≠some t->a.tmps[t]? =some u->(a.put o.dst v).tmps[t]? =some u:=fun t u dc hu=>by
    cases rI:o.dst with
    |none=>exact hu
    |some d=>
     simp only[Act.put];rw[XS (fun e=>dc (by rw[rI,e]))];exact hu
   refine⟨hI,hF,?_,?_,by simp[hD.ey],fun i oi t y aZ bC cg hy=>?_,fun t y fe hy=>?_,Fw,hk,fun i oi aZ bC e he hb=>?_⟩
   ·cases o.dst<;>simp[Act.put,hD.size]
   ·cases o.dst<;>simp[Act.put,hD.defers]
   ·rw[bN]at bC;by_cases e:i=j
    ·subst e;obtain rfl:o=oi:=by rw[ho]at aZ;exact Option.some.inj aZ
     rw[CN]at hy;simp only[St.put,cg,look,if_true]at hy;cases hy
     refine⟨v,?_,yy⟩;have:t<a.tmps.size:=by rw[hD.size];exact z8 i o t ho cg
     simp[Act.put,cg,this]
    ·rw[if_neg e]at bC;obtain⟨u,h1,h2⟩:=hD.fP i oi t y aZ bC cg hy;exact⟨u,iH t u (fun h=>e (q0 i j oi o t aZ ho cg h)) h1,aV.ext hx h2⟩
   ·have dc:o.dst≠some t:=fe j o ho (by rw[bN,if_pos rfl]);obtain⟨u,h1,h2⟩:=hD.fQ t y (fun i oi aZ bC=>fe i oi aZ (by
     rw[bN];by_cases e:i=j
     ·rw[if_pos e]
     ·rw[if_neg e];exact bC)) hy
    exact⟨u,iH t u dc h1,aV.ext hx h2⟩
   ·rw[bN]at bC⊢;have:ae[e.on]? =some true:=by
     by_cases e':i=j
     ·subst e';obtain rfl:o=oi:=by rw[ho]at aZ;exact Option.some.inj aZ
      exact cn e he hb
     ·rw[if_neg e']at bC;exact hD.closed i oi aZ bC e he hb
    by_cases e':e.on=j
    ·rw[if_pos e']
    ·rw[if_neg e'];exact this
  have gN:j∉ws->∀i∈ws,i<all.size->((ae.setIfInBounds j true)[i]? =some true↔i<k0):=fun ef i hi bZ=>by
   rw[bN,if_neg (fun e=>ef (by rw[<-e];exact hi))];exact hD.dY i hi bZ
  have kM:cL o.op=false->(σ j).V=(σ k0).V/\(σ j).A=(σ k0).A:=by
   intro fx;rcases XM j k0 with h|h
   ·have:=tE k0 j h hD.nF (fun i h1 h2 h3=>by
     have bZ:i<all.size:=by have:=hD.nF;omega
     have bC:=(hD.dY i h3 bZ).2 h2;have aZ:all[i]? =some all[i]:=XP bZ;rcases XE j i with h4|h4
     ·have hp:=bY j i o _ ho aZ h4;have hb:=bV i _ aZ bC;simp only[br,hb,Xz,XA]at hp;simp[h3,fx]at hp
     ·obtain rfl:i=j:=by omega
      rw[mQ]at bC;simp at bC)
    exact⟨this.1.symm,this.2.symm⟩
   ·exact tE j k0 h (by omega) (fun i h1 h2 h3=>by
     have bZ:i<all.size:=by omega
     have aZ:all[i]? =some all[i]:=XP bZ;have hp:=bY i j _ o aZ ho h2;simp only[br,Xz,XA]at hp;have hb:((a7 all.toList []).getD j 0).testBit i=true:=by
      rcases hp.2 with h4|h4
      ·simp[h3,fx]at h4
      ·exact h4
     have:=(hD.dY i h3 bZ).1 (ck i hb);omega)
  unfold wpOp;simp only[ho];rcases kn with⟨h1,x,V,A,h2,h3⟩|⟨h1,h2⟩
  ·rw[if_pos (by rw[ll,h1])];refine .inl ?_;by_cases hs:cL o.op=true
   ·-- slots alone
    have ef:j∉ws:=fun h=>by have:=uX j o ho h;rw[hs]at this;simp at this
    have h4:bH P ⟨cM,(σ k0).V,(σ k0).A⟩ (ow j) o (fun y V' A'=>y=x/\V'=(σ k0).V/\A'=(σ k0).A):=nE (s:=σ j) (s':=⟨cM,(σ k0).V,(σ k0).A⟩) hs (gu _ _ _ _) h3 ⟨rfl,rfl,rfl⟩;obtain⟨y,V',A',⟨rfl,rfl,rfl⟩,h5⟩:=db gD.inv gD.fr gD.slot h4;refine h5 _ _ fun v w' g' h6 h7 h8 h9=>ih _ k0 g' _ w' cW (cJ k0 y v w' g' (by rw[h2];rfl) h6 h7 h8 h9 hD.nF (gN ef))
   ·have fx:cL o.op=false:=by simpa using hs
    obtain⟨kC,gY⟩:=kM fx;have h4:bH P ⟨cM,(σ k0).V,(σ k0).A⟩ (ow j) o (fun y V' A'=>y=x/\V'=V/\A'=A):=by
     rw[<-kC,<-gY];exact dX (fr:=(σ j).fr) (gu _ _ _ _) (h3 _ ⟨rfl,rfl,rfl⟩)
    obtain⟨y,V',A',⟨rfl,rfl,rfl⟩,h5⟩:=db gD.inv gD.fr gD.slot h4;have s8:(σ (j+1)).V=V':=by rw[h2];rfl
    have iW:(σ (j+1)).A=A':=by rw[h2];rfl
    by_cases ef:j∈ws
    ·refine h5 _ _ fun v w' g' h6 h7 h8 h9=>ih _ (j+1) g' _ w' cW (cJ (j+1) y v w' g' (by rw[h2];rfl) (by rw[iW];exact h6) (by rw[s8,iW];exact h7) (by rw[iW];exact h8) h9 (by omega) (fun i hi bZ=>?_))
     have aZ:all[i]? =some all[i]:=XP bZ;rw[bN];by_cases e:i=j
     ·subst e;simp
     ·rw[if_neg e];constructor
      ·intro bC;rcases XE j i with h|h
       ·have hp:=bY j i o _ ho aZ h;have hb:=bV i _ aZ bC;simp only[br,hb,Xz,XA]at hp;simp[hi,fx]at hp
       ·omega
      ·intro az;have hp:=bY i j _ o aZ ho (by omega);simp only[br,Xz,XA]at hp;rcases hp.2 with h|h
       ·simp[hi,fx]at h
       ·exact ck i h
    ·rcases Da with Da|⟨pZ,mC⟩
     ·exact absurd Da ef
     ·refine h5 _ _ fun v w' g' h6 h7 h8 h9=>ih _ k0 g' _ w' cW (cJ k0 y v w' g' (by rw[h2];rfl) ?_ ?_ ?_ h9 hD.nF (gN ef))
      ·rw[<-gY,<-mC,iW];exact h6
      ·rw[<-kC,<-gY,<-pZ,<-mC,s8,iW];exact h7
      ·have e1:(σ k0).A=A':=by rw[<-gY,<-mC,iW]
       rw[e1]at h8⊢;exact h8
  ·rw[if_neg (by rw[ll,h1];simp)];have s8:(σ (j+1)).V=(σ j).V:=by rw[h2];rfl
   have iW:(σ (j+1)).A=(σ j).A:=by rw[h2];rfl
   by_cases ef:j∈ws
   ·have fx:=uX j o ho ef;obtain⟨kC,gY⟩:=kM fx;refine ih _ (j+1) g _ w cW (cJ (j+1) (.c .undef) undef w g (by rw[h2];rfl) rfl ?_ ?_ hD.fr (by omega) (fun i hi bZ=>?_))
    ·rw[s8,iW,kC,gY];exact hD.inv
    ·rw[iW,gY];exact .refl _ _ _
    ·have aZ:all[i]? =some all[i]:=XP bZ;rw[bN];by_cases e:i=j
     ·subst e;simp
     ·rw[if_neg e];constructor
      ·intro bC;rcases XE j i with h|h
       ·have hp:=bY j i o _ ho aZ h;have hb:=bV i _ aZ bC;simp only[br,hb,Xz,XA]at hp;simp[hi,fx]at hp
       ·omega
      ·intro az;have hp:=bY i j _ o aZ ho (by omega);simp only[br,Xz,XA]at hp;rcases hp.2 with h|h
       ·simp[hi,fx]at h
       ·exact ck i h
   ·exact ih _ k0 g _ w cW (cJ k0 (.c .undef) undef w g (by rw[h2];rfl) rfl hD.inv (.refl _ _ _) hD.fr hD.nF (gN ef))
theorem T.uZ {id:Nat} {ops:Array Oper} (hm:P.follows .mixedOrders=true) (ow:Nat->Bool) (ws:List Nat) (hd:ej ops ws=true) (h:pk P ops ow ws (fun s'=>Q .normal s') 0 ops.toList s):T P n (.region id ops true) Q s:=by
 intro eK w0 g0 g a w hR;obtain⟨σ,h0,hK,lK⟩:=pq ops.toList 0 s h;obtain⟨hI,hx⟩:=hR.inv.heap (w':={w with drawn:=w.drawn+1}) rfl;refine wp_region_any hm (C9 (K:=fun s'=>Q .normal s') (w0:=w0) (g0:=g0) (n:=n) (σ:=σ) (ow:=ow) hd eK (fun j o ho=>?_) ?_ (fun s' g' a' w' h1 h2=>⟨s',g',h1,h2⟩) ops.size (XU ops.size false) 0 g a _ ?_ ?_)
 ·have:=lK j o (by simpa using ho);simpa only[XH]using this
 ·simpa using hK
 ·exact XG (Xt _ _) (by simp)
 ·refine⟨by rw[h0];exact hI,hR.fr.heap rfl rfl rfl rfl,hR.size,hR.defers,by simp,fun i o t x ho hl=>?_,fun t x _ gp=>?_,fun i _ bZ=>?_,XF _,fun i o ho hl=>?_⟩
  ·have hi:=(XQ.1 ho).1;simp[hi]at hl
  ·rw[h0]at gp⊢;obtain⟨u,h1,h2⟩:=hR.slot t x gp;exact⟨u,h1,aV.ext hx h2⟩
  ·simp[bZ]
  ·have hi:=(XQ.1 ho).1;simp[hi]at hl
end
abbrev AV.i (n:Int):AV:=.c (.d (.int .i64 n))
abbrev AV.b (x:Bool):AV:=.c (.d (.bool x))
abbrev AV.s (x:List UInt8):AV:=.c (.d (.str x))
abbrev AV.l (x:List (List DV)):AV:=.c (.d (.sl x))
abbrev DV.i (n:Int):DV:=.int .i64 n
theorem wrap64 {n:Int} (h:-9223372036854775808<=n) (h':n<=9223372036854775807):IntKind.i64.wrap n=n:=by
 have e:IntKind.i64.wrap n=if 9223372036854775808<=n % 18446744073709551616 then n % 18446744073709551616-18446744073709551616 else n % 18446744073709551616:=by simp[IntKind.wrap,IntKind.signed,IntKind.bits]
 rw[e];split<;>omega
section
variable {P:Program} {n:Nat} {Q Q':Exit->St->Prop} {s s':St} {y:Code}
theorem nH {α:Type} {o:Option α} {k k':α->Prop} (hk:∀v,k v->k' v) (h:bS o k):bS o k':=by
 cases o with
 |none=>exact h.elim
 |some v=>exact hk v h
theorem nI {all:Array Oper} {o:Oper} {y n y' n':Prop} (hy:y->y') (hn:n->n') (h:gX all s o y n):gX all s o y' n':=by
 unfold gX at h⊢;split
 ·rename_i e;rw[e]at h;exact hy h
 ·rename_i j want e;rw[e]at h;refine nH (fun oj=>nH fun t=>nH fun x=>?_) h;intro h;split at h
  ·exact⟨fun a=>hy (h.1 a),fun a=>hn (h.2 a)⟩
  ·exact hn h
  ·exact h.elim
theorem fV {o:Oper} {ow:Bool} {K K':AV->List (List CV)->List bu->Prop} (hk:∀x V A,K x V A->K' x V A) (h:bH P s ow o K):bH P s ow o K':=by
 obtain⟨x,V,A,h1,h2⟩:=fU h;exact h2 K' (hk x V A h1)
structure CO (P:Program) (all:Array Oper) (ow:Nat->Bool) (K:St->Prop) (i:Nat) (ops:List Oper) (s:St):Prop where
 mk::
 run:wM P all ow K i ops s
structure tG (P:Program) (all:Array Oper) (ow:Nat->Bool) (ws:List Nat) (K:St->Prop) (i:Nat) (ops:List Oper) (s:St):Prop where
 mk::
 run:pk P all ow ws K i ops s
theorem af {all:Array Oper} {ow:Nat->Bool} {K:St->Prop} {i:Nat} {o:Oper} {rest:List Oper} (h:gX all s o (bH P s (ow i) o fun x V A=>CO P all ow K (i+1) rest (s.put o.dst x V A)) (CO P all ow K (i+1) rest (s.put o.dst (.c .undef) s.V s.A))):CO P all ow K i (o::rest) s:=
 ⟨nI (fun h=>fV (fun _ _ _ h=>h.run) h) (fun h=>h.run) h⟩
theorem ab {all:Array Oper} {ow:Nat->Bool} {K:St->Prop} {i:Nat} (h:K s):CO P all ow K i [] s:=⟨h⟩
theorem aG {all:Array Oper} {ow:Nat->Bool} {ws:List Nat} {K:St->Prop} {i:Nat} {o:Oper} {rest:List Oper} (h:gX all s o (bH P s (ow i) o fun x V A=>(i∈ws\/(V=s.V/\A=s.A))/\tG P all ow ws K (i+1) rest (s.put o.dst x V A)) (tG P all ow ws K (i+1) rest (s.put o.dst (.c .undef) s.V s.A))):tG P all ow ws K i (o::rest) s:=
 ⟨nI (fun h=>fV (fun _ _ _ h=>⟨h.1,h.2.run⟩) h) (fun h=>h.run) h⟩
theorem aA {all:Array Oper} {ow:Nat->Bool} {ws:List Nat} {K:St->Prop} {i:Nat} (h:K s):tG P all ow ws K i [] s:=⟨h⟩
theorem T.rs {id:Nat} {l:List Oper} (ow:Nat->Bool) (h:∀K:St->Prop,(∀s',T P n y Q s'->K s')->CO P l.toArray ow K 0 l s):T P n (.seq (.region id l.toArray false) y) Q s:=
 T.seq (T.region ow (h _ fun _ h=>h).run)
theorem T.rd {id:Nat} {l:List Oper} (hm:P.follows .mixedOrders=true) (ow:Nat->Bool) (ws:List Nat) (hd:ej l.toArray ws=true) (h:∀K:St->Prop,(∀s',T P n y Q s'->K s')->tG P l.toArray ow ws K 0 l s):T P n (.seq (.region id l.toArray true) y) Q s:=
 T.seq (T.uZ hm ow ws hd (h _ fun _ h=>h).run)
theorem T.eH {id:Nat} {l:List Oper} (ow:Nat->Bool) (h:∀K:St->Prop,(∀s',Q .normal s'->K s')->CO P l.toArray ow K 0 l s):T P n (.region id l.toArray false) Q s:=
 T.region ow (h _ fun _ h=>h).run
theorem T.yi {id:Nat} {l:List Oper} (hm:P.follows .mixedOrders=true) (ow:Nat->Bool) (ws:List Nat) (hd:ej l.toArray ws=true) (h:∀K:St->Prop,(∀s',Q .normal s'->K s')->tG P l.toArray ow ws K 0 l s):T P n (.region id l.toArray true) Q s:=
 T.uZ hm ow ws hd (h _ fun _ h=>h).run
@[congr] theorem MV {all:Array Oper} {ow:Nat->Bool} {K:St->Prop} {i i':Nat} {ops:List Oper} (hi:i=i') (h:s=s'):CO P all ow K i ops s=CO P all ow K i' ops s':=by rw[h,hi]
@[congr] theorem Lr {all:Array Oper} {ow:Nat->Bool} {ws:List Nat} {K:St->Prop} {i i':Nat} {ops:List Oper} (hi:i=i') (h:s=s'):tG P all ow ws K i ops s=tG P all ow ws K i' ops s':=by rw[h,hi]
@[congr] theorem Ls {o:Oper} {ow:Bool} {K:AV->List (List CV)->List bu->Prop} (h:s=s'):bH P s ow o K=bH P s' ow o K:=by rw[h]
@[congr] theorem NG {o:Op} {ow:Bool} {K:AV->List (List CV)->List bu->Prop} (h:s=s'):eD P s ow o K=eD P s' ow o K:=by rw[h]
@[congr] theorem NH {all:Array Oper} {o:Oper} {y n:Prop} (h:s=s'):gX all s o y n=gX all s' o y n:=by rw[h]
@[congr] theorem NI {α:Type} {o o':Option α} {k:α->Prop} (h:o=o'):bS o k=bS o' k:=by rw[h]
def j4:List (Nat×AV)->List (Nat×AV)->Prop
 |[],_=>True
 |(t,x)::r,fr=>look fr t=some x/\j4 r fr
theorem j4.look:∀{l fr:List (Nat×AV)},j4 l fr->∀t x,look l t=some x->look fr t=some x
 |[],_,_,t,x,h=>by simp[Av.look]at h
 |(t',x')::r,fr,hs,t,x,h=>by
  simp only[Av.look]at h;split at h
  ·rename_i e;subst e;simp at h;subst h;exact hs.1
  ·exact j4.look hs.2 t x h
def Sub (s s':St):Prop:=s.V=s'.V/\s.A=s'.A/\j4 s.fr s'.fr
theorem T.sub {c:Code} (h:T P n c Q s) (hs:Sub s s'):T P n c Q s':=by
 obtain⟨h1,h2,h3⟩:=hs;refine T.forget s.fr (j4.look h3) ?_;rw[<-h1,<-h2];exact h
def Round {α:Type} (S:α->St) (m:α->Nat) (H:α->Prop) (k:Nat) (Q:Exit->St->Prop):Exit->St->Prop
 |.normal,s'=>∃a',m a'<k/\H a'/\Sub (S a') s'
 |e,s'=>Q e s'
theorem T.iI {α:Type} {c:Code} (S:α->St) (m:α->Nat) (H:α->Prop) (h:∀a,H a->T P n c (Round S m H (m a) Q) (S a)) (a:α) (ha:H a) (hs:Sub (S a) s):T P n (.loop c) Q s:=by
 refine T.loop (fun k s=>∃a,m a=k/\H a/\(S a).V=s.V/\(S a).A=s.A/\∀t x,look (S a).fr t=some x->look s.fr t=some x) ?_ (k:=m a) ⟨a,rfl,ha,hs.1,hs.2.1,j4.look hs.2.2⟩;rintro k s1 ⟨a',rfl,h2,h3,h4,h5⟩;refine T.forget (S a').fr h5 ?_;rw[<-h3,<-h4];refine T.mono (h a' h2) fun e s2 h6=>?_
 cases e with
 |normal=>
  obtain⟨a2,h7,h8,h9,cE,ev⟩:=h6;exact⟨_,h7,a2,rfl,h8,h9,cE,j4.look ev⟩
 |_=>exact h6
@[congr] theorem KK {s s':St} {f:FuncId} {xs xs':List AV} {K:AV->List (List CV)->List bu->Prop} (hs:s=s') (hx:xs=xs'):gM P s f xs K=gM P s' f xs' K:=by subst hs;subst hx;rfl
theorem aa {f:FuncId} {xs as:List AV} {r:AV} {K:AV->List (List CV)->List bu->Prop} (bZ:ib s.A [] xs=some as) (hc:ah P f as [] r [] []) (hK:K (r.fN [] s.V.length s.A.length) s.V (bT s.A (bB xs))):gM P s f xs K:=by
 refine .inl ⟨[],as,[],r,[],[],W5,bZ,rfl,hc,?_⟩;simpa[cc,bK]using hK
theorem aD.pure {fn:Func} {r x:AV} {e:Exit} (he:e=.normal\/e=.ret) (hr:e8 P s fn.results.toList=some [x]) (hx:x.qB s.A [] []=some r):aD P fn 0 r [] [] e s:=
 ⟨he,[],[],[x],[r],hr,W5,W5,by simp,by simp[aF,hx],rfl,rfl,rfl⟩
end
def SF {α:Type} (f:α->List DV) (z:List DV) (l:List α) (i:Nat):List (List DV):=(l.take i).map f++List.replicate (l.length-i) z
section
variable {α:Type} {f:α->List DV} {z:List DV} {l:List α} {i:Nat}
theorem bX (h:i<l.length):∃o,l[i]? =some o:=⟨l[i],WW h⟩
end
theorem dI {p:Prop} (h:p):p:=h
attribute [simp] bH eD gX bS bE hM mi rS mF zW rowsOf look th St.put gB Fl b6 zU Jk rR rQ Ek AV.plain AV.cells CV.jM nw iy kB fB bT ib AV.kK CV.kK qz AV.fN CV.fN bB iz jY oC cL e8 uU AV.qB CV.res rZ pos? wG wN gC Sub j4 kL
section
variable {P:Program} {n:Nat} {Q:Exit->St->Prop} {s:St} {y:Code}
theorem T.ct {c:Operand} {x z:Code} (hc:bE s c=some (.c (.d (.bool true)))) (h:T P n x Q s):T P n (.cond c x z) Q s:=T.cond hc (fun _=>h) (fun h=>absurd h (by decide))
theorem T.cf {c:Operand} {x z:Code} (hc:bE s c=some (.c (.d (.bool false)))) (h:T P n z Q s):T P n (.cond c x z) Q s:=T.cond hc (fun h=>absurd h (by decide)) (fun _=>h)
theorem T.r0 {id:Nat} {l:List Oper} (h:∀K:St->Prop,(∀s',T P n y Q s'->K s')->CO P l.toArray (fun _=>false) K 0 l s):T P n (.seq (.region id l.toArray false) y) Q s:=T.rs (fun _=>false) h
theorem T.r1 {id:Nat} {l:List Oper} (h:∀K:St->Prop,(∀s',Q .normal s'->K s')->CO P l.toArray (fun _=>false) K 0 l s):T P n (.region id l.toArray false) Q s:=T.eH (fun _=>false) h
end
end Go.Av
namespace Go.Av
open Go
section
variable {P:Program} {all:Array Oper} {ow:Nat->Bool} {K:St->Prop} {i:Nat} {ops:List Oper} {ws:List Nat} {d:Nat} {b:Bool} {fr:List (Nat×AV)} {V:List (List CV)} {A:List bu}
theorem CO.gen (h:∀q:Bool,b=q->CO P all ow K i ops ⟨(d,.c (.d (.bool q)))::fr,V,A⟩):CO P all ow K i ops ⟨(d,.c (.d (.bool b)))::fr,V,A⟩:=h b rfl
theorem tG.gen (h:∀q:Bool,b=q->tG P all ow ws K i ops ⟨(d,.c (.d (.bool q)))::fr,V,A⟩):tG P all ow ws K i ops ⟨(d,.c (.d (.bool b)))::fr,V,A⟩:=h b rfl
end
theorem aD.data {P:Program} {s:St} {fn:Func} {r:AV} {e:Exit} (he:e=.normal\/e=.ret) (hr:e8 P s fn.results.toList=some [r]) (hx:r.qB s.A [] []=some r):aD P fn 0 r [] [] e s:=aD.pure he hr hx
theorem Eu {a b:Int} (h:¬a=b):(a==b)=false:=by simpa using h
abbrev dV (rows:List (List DV)):List (List CV):=rows.map fun r=>r.map CV.d
section
variable {P:Program} {s:St} {A:List bu} {f:FuncId} {xs as:List AV} {r:AV} {K:AV->List (List CV)->List bu->Prop}
theorem Hp {ids:List Nat}:∀(r:List DV),qz A ids (r.map CV.d)=some (r.map CV.d)
 |[]=>rfl
 |x::r=>by simp[Hp r]
theorem Hq {os ks:List Nat}:∀(r:List DV),rZ A os ks (r.map CV.d)=some (r.map CV.d)
 |[]=>rfl
 |x::r=>by simp[Hq r]
theorem v8 {ids:List Nat} {V:List (List CV)}:∀(ls:List Nat) (rows:List (List DV)),ls.length=rows.length->(∀(j l:Nat) row,ls[j]? =some l->rows[j]? =some row->V[l]? =some (row.map CV.d))->gJ A V ids ls=some (dV rows)
 |[],[],_,_=>rfl
 |l::ls,row::rows,hl,h=>by
  simp only[gJ,h 0 l row rfl rfl,v8 ls rows (by simpa using hl) (fun j l row h1 h2=>h (j+1) l row (by simpa using h1) (by simpa using h2)),Hp]
  rfl
 |[],_::_,hl,_=>by simp at hl
 |_::_,[],hl,_=>by simp at hl
theorem wb {os ks:List Nat} {V:List (List CV)}:∀(ls:List Nat) (rows:List (List DV)),ls.length=rows.length->(∀(j l:Nat) row,ls[j]? =some l->rows[j]? =some row->V[l]? =some (row.map CV.d))->fg A V os ks ls=some (dV rows)
 |[],[],_,_=>rfl
 |l::ls,row::rows,hl,h=>by
  simp only[fg,h 0 l row rfl rfl,wb ls rows (by simpa using hl) (fun j l row h1 h2=>h (j+1) l row (by simpa using h1) (by simpa using h2)),Hq]
  rfl
 |[],_::_,hl,_=>by simp at hl
 |_::_,[],hl,_=>by simp at hl
theorem r8 {nA nV:Nat} {ids:List Nat}:∀(ls:List Nat) (rows:List (List DV)) (V:List (List CV)),ls.length=rows.length->(∀(j l:Nat) row,ls[j]? =some l->rows[j]? =some row->V[l]? =some (row.map CV.d))->cc nA nV ids V ls (dV rows)=V
 |[],[],V,_,_=>by simp[cc]
 |l::ls,row::rows,V,hl,h=>by
  have h0:=h 0 l row rfl rfl;have hm:(row.map CV.d).map (CV.fN ids nV nA)=row.map CV.d:=by simp[Xr,Function.comp_def]
  have bN:V.set l (row.map CV.d)=V:=by
   obtain⟨h1,h2⟩:=WS.1 h0;rw[<-h2];simp
  simp only[dV,W8,cc,hm,bN];exact r8 ls rows V (by simpa using hl) (fun j l row h1 h2=>h (j+1) l row (by simpa using h1) (by simpa using h2))
 |[],_::_,_,hl,_=>by simp at hl
 |_::_,[],_,hl,_=>by simp at hl
theorem nJ {V:List (List CV)}:∀(ls:List Nat) (rows:List (List DV)),ls.length=rows.length->(∀(j l:Nat) row,ls[j]? =some l->rows[j]? =some row->V[l]? =some (row.map CV.d))->∃ds:List DV,bK V ls=ds.map CV.d
 |[],[],_,_=>⟨[],rfl⟩
 |l::ls,row::rows,hl,h=>by
  obtain⟨ds,hd⟩:=nJ ls rows (by simpa using hl) (fun j l row h1 h2=>h (j+1) l row (by simpa using h1) (by simpa using h2));refine⟨row++ds,?_⟩;have h0:=h 0 l row rfl rfl;simp only[bK,W3]at hd⊢;rw[hd];simp[W1,h0]
 |[],_::_,hl,_=>by simp at hl
 |_::_,[],hl,_=>by simp at hl
theorem r9:∀(ds:List DV) (A:List bu),bT A (ds.map CV.d)=A
 |[],A=>rfl
 |d::ds,A=>by
  simp only[W8,bT,Xd,fB];exact r9 ds A
theorem mo (A:List bu) (cs ds:List CV):bT A (cs++ds)=bT (bT A cs) ds:=by simp[bT]
theorem Bo (ids:List Nat) (rows:List (List DV)) (oQ:ids.Nodup) (hlen:ids.length=rows.length) (Bd:∀(j l:Nat) row,ids[j]? =some l->rows[j]? =some row->s.V[l]? =some (row.map CV.d)) (bZ:ib s.A ids xs=some as) (hc:ah P f as (dV rows) r (dV rows) [])
  (hK:K (r.fN ids s.V.length s.A.length) s.V (bT s.A (bB xs))):gM P s f xs K:=by
 refine .inl ⟨ids,as,dV rows,r,dV rows,[],oQ,bZ,v8 ids rows hlen Bd,hc,?_⟩;rw[r8 ids rows s.V hlen Bd];obtain⟨ds,hd⟩:=nJ ids rows hlen Bd;rw[hd,mo,r9,W9];exact hK
theorem aD.QN {fn:Func} {e:Exit} {rows:List (List DV)} {m:Nat} (hm:m=rows.length) (he:e=.normal\/e=.ret) (hr:e8 P s fn.results.toList=some [r]) (hx:r.qB s.A (WX rows.length) []=some r)
  (hV:∀(l:Nat) row,rows[l]? =some row->s.V[l]? =some (row.map CV.d)):aD P fn m r (dV rows) [] e s:=by
 subst hm;refine⟨he,[],[],[r],[r],hr,W5,W5,by simp,?_,rfl,?_,rfl⟩
 ·rw[W9];simp only[aF,hx]
 rw[W9];refine wb (WX rows.length) rows (by simp) fun j l row h1 h2=>?_
 have hj:j<rows.length:=(WS.1 h2).1;simp[hj]at h1;subst h1;exact hV j row h2
end
def iT {α β:Type} (q:α->β->Bool):List α->List β->Bool
 |[],[]=>true
 |x::xs,y::ys=>q x y && iT q xs ys
 |_,_=>false
theorem wQ {α β:Type} {q:α->β->Bool}:∀{xs:List α} {ys:List β},iT q xs ys=true->xs.length=ys.length
 |[],[],_=>rfl
 |x::xs,y::ys,h=>by simp[iT]at h;simp[wQ h.2]
 |[],_::_,h=>by simp[iT]at h
 |_::_,[],h=>by simp[iT]at h
theorem Jz {α β:Type} {q:α->β->Bool} {xs:List α} {ys:List β} (h:xs.length≠ys.length):iT q xs ys=false:=by
 cases hq:iT q xs ys
 ·rfl
 ·exact absurd (wQ hq) h
def fH {α:Type} (q:α->Bool):List α->Int->Int
 |[],_=>-1
 |x::xs,i=>if q x=true then i else fH q xs (i+1)
theorem pr {α:Type} {q:α->Bool}:∀{xs:List α} {i:Int},0<=i->(decide (0<=fH q xs i)=xs.any q)
 |[],i,_=>by simp[fH]
 |x::xs,i,h=>by
  by_cases hq:q x=true
  ·simp[fH,hq,h]
  ·have hr:=pr (q:=q) (xs:=xs) (i:=i+1) (by omega);simp only[fH,hq,List.any_cons];simpa using hr
theorem pw {α:Type} (p:α->Bool):∀(l:List α),(!l.any fun x=> !p x)=l.all p
 |[]=>rfl
 |x::l=>by simp[<-pw p l,Bool.not_or]
theorem drop_cons {α:Type} {l:List α} {p:Nat} (h:p<l.length):l.drop p=l[p]::l.drop (p+1):=by rw[List.drop_eq_getElem_cons h]
@[simp] theorem iJ {α:Type} (G X:List α) (k:Nat):(G++X)[G.length+k]? =X[k]? :=by
 rw[WV (by omega)];congr 1;omega
@[simp] theorem gE {α:Type} (G X:List α):(G++X)[G.length]? =X[0]? :=by
 rw[WV (by omega)];congr 1;omega
@[simp] theorem iK {α:Type} (G X:List α) (k:Nat) (v:α):(G++X).set (G.length+k) v=G++X.set k v:=by
 rw[Xo _ _ (by omega)];congr 2;omega
@[simp] theorem gF {α:Type} (G X:List α) (v:α):(G++X).set G.length v=G++X.set 0 v:=by
 rw[Xo _ _ (by omega)];congr 2;omega
theorem y9 {α β:Type} {q:α->β->Bool} {x:α} {y:β} {xs:List α} {ys:List β}:iT q (x::xs) (y::ys)=(q x y && iT q xs ys):=rfl
theorem Bp {α β:Type} {q:α->β->Bool}:iT q [] ([]:List β)=true:=rfl
abbrev Ub (n:Nat):List AV:=(WX n).map fun l=>.c (.ptr l 0)
section
variable {P:Program} {s:St} {A:List bu} {f:FuncId} {xs as:List AV} {r:AV} {K:AV->List (List CV)->List bu->Prop}
theorem lW (l:Nat) (row:List DV) (dK:s.V[l]? =some (row.map CV.d)) (bZ:ib s.A [l] xs=some as) (hc:ah P f as (dV [row]) r (dV [row]) [])
  (hK:K (r.fN [l] s.V.length s.A.length) s.V (bT s.A (bB xs))):gM P s f xs K:=by
 refine Bo [l] [row] (by simp) rfl ?_ bZ hc hK;intro j l' row' h1 h2
 match j with
 |0=>simp at h1 h2;subst h1;subst h2;exact dK
 |j+1=>simp at h1
theorem aD.val {fn:Func} {e:Exit} (he:e=.normal\/e=.ret) (hr:(e8 P s fn.results.toList).bind (aF s.A [] [])=some [r]):aD P fn 0 r [] [] e s:=by
 cases hx:e8 P s fn.results.toList with
 |none=>rw[hx]at hr;simp at hr
 |some xs=>rw[hx]at hr;exact⟨he,[],[],xs,[r],hx,W5,W5,by simp,hr,rfl,rfl,rfl⟩
theorem aD.bq {fn:Func} {e:Exit} {a b:AV} {ys:List AV} (he:e=.normal\/e=.ret) (hr:(e8 P s fn.results.toList).bind (aF s.A [] [])=some (a::b::ys)):aD P fn 0 (.bq (a::b::ys)) [] [] e s:=by
 cases hx:e8 P s fn.results.toList with
 |none=>rw[hx]at hr;simp at hr
 |some xs=>rw[hx]at hr;exact⟨he,[],[],xs,_,hx,W5,W5,by simp,hr,rfl,rfl,rfl⟩
theorem j5 (l:Nat) (row row':List DV) (dK:s.V[l]? =some (row.map CV.d)) (bZ:ib s.A [l] xs=some as) (hc:ah P f as (dV [row]) r (dV [row']) [])
  (hK:K (r.fN [l] s.V.length s.A.length) (s.V.set l (row'.map CV.d)) (bT s.A (bB xs))):gM P s f xs K:=by
 refine .inl ⟨[l],as,dV [row],r,dV [row'],[],by simp,bZ,v8 [l] [row] rfl ?_,hc,?_⟩
 ·intro j l' row'' h1 h2
  match j with
  |0=>simp at h1 h2;subst h1;subst h2;exact dK
  |j+1=>simp at h1
 ·obtain⟨ds,hd⟩:=nJ (V:=s.V) [l] [row] rfl (by
   intro j l' row'' h1 h2
   match j with
   |0=>simp at h1 h2;subst h1;subst h2;exact dK
   |j+1=>simp at h1)
  rw[hd,mo,r9,W9];have hm:(row'.map CV.d).map (CV.fN [l] s.V.length s.A.length)=row'.map CV.d:=by simp[Xr,Function.comp_def]
  have hp:cc s.A.length s.V.length [l] s.V [l] (dV [row'])=s.V.set l (row'.map CV.d):=by
   simp only[dV,W8,List.map_nil,cc,hm,W9]
  rw[hp];exact hK
theorem aD.oU {fn:Func} {e:Exit} {row:List DV} (he:e=.normal\/e=.ret) (hr:e8 P s fn.results.toList=some [r]) (hx:r.qB s.A [0] []=some r)
  (hV:s.V[0]? =some (row.map CV.d)):aD P fn 1 r (dV [row]) [] e s:=by
 refine aD.QN (rows:=[row]) rfl he hr hx ?_;intro l row' h
 match l with
 |0=>simp at h;subst h;exact hV
 |l+1=>simp at h
end
section
variable {P:Program} {n:Nat} {Q:Exit->St->Prop} {s:St} {x y:Code}
def Cut (S:St) (Q:Exit->St->Prop):Exit->St->Prop
 |.normal,s'=>Sub S s'
 |e,s'=>Q e s'
end
end Go.Av
namespace Go.Av
attribute [-simp] Go.Av.iJ Go.Av.gE Go.Av.iK Go.Av.gF
open Go
inductive aE where
 |mk (kind:Int) (kids:List aE)
def aE.kind:aE->Int|.mk k _=>k
def aE.kids:aE->List aE|.mk _ l=>l
inductive ao where
 |mk (kind:Int) (name:List UInt8) (num:Int) (ty fr:aE) (label:Int) (kids:List ao)
def ao.kind:ao->Int|.mk k _ _ _ _ _ _=>k
def ao.name:ao->List UInt8|.mk _ s _ _ _ _ _=>s
def ao.num:ao->Int|.mk _ _ n _ _ _ _=>n
def ao.ty:ao->aE|.mk _ _ _ t _ _ _=>t
def ao.fr:ao->aE|.mk _ _ _ _ t _ _=>t
def ao.label:ao->Int|.mk _ _ _ _ _ l _=>l
def ao.kids:ao->List ao|.mk _ _ _ _ _ _ l=>l
@[simp] theorem aE.b4 (k:Int) (l:List aE):(aE.mk k l).kind=k:=rfl
@[simp] theorem aE.bQ (k:Int) (l:List aE):(aE.mk k l).kids=l:=rfl
section
variable (k:Int) (s:List UInt8) (n:Int) (t f:aE) (b:Int) (l:List ao)
@[simp] theorem ao.b4:(ao.mk k s n t f b l).kind=k:=rfl
@[simp] theorem ao.lX:(ao.mk k s n t f b l).name=s:=rfl
@[simp] theorem ao.q7:(ao.mk k s n t f b l).num=n:=rfl
@[simp] theorem ao.sd:(ao.mk k s n t f b l).ty=t:=rfl
@[simp] theorem ao.se:(ao.mk k s n t f b l).fr=f:=rfl
@[simp] theorem ao.lp:(ao.mk k s n t f b l).label=b:=rfl
@[simp] theorem ao.bQ:(ao.mk k s n t f b l).kids=l:=rfl
end
mutual
def cA:aE->List DV
 |.mk k l=>[.i k,.sl (JA l)]
def JA:List aE->List (List DV)
 |[]=>[]
 |t::r=>cA t::JA r
end
theorem Bq:∀(l:List aE),JA l=l.map cA
 |[]=>rfl
 |t::r=>by simp[JA,Bq r]
theorem aQ (t:aE):cA t=[.i t.kind,.sl (t.kids.map cA)]:=by
 cases t;simp[cA,Bq]
mutual
def gA:ao->List DV
 |.mk k s n t f l kids=>[.i k,.str s,.i n,.i t.kind,.sl (t.kids.map cA),.i f.kind,.sl (f.kids.map cA),.i l,.sl (JB kids)]
def JB:List ao->List (List DV)
 |[]=>[]
 |t::r=>gA t::JB r
end
theorem Br:∀(l:List ao),JB l=l.map gA
 |[]=>rfl
 |t::r=>by simp[JB,Br r]
theorem ax (e:ao):gA e=[.i e.kind,.str e.name,.i e.num,.i e.ty.kind,.sl (e.ty.kids.map cA),.i e.fr.kind,.sl (e.fr.kids.map cA),.i e.label,.sl (e.kids.map gA)]:=by
 cases e;simp[gA,Br]
abbrev eu (t:aE):AV:=.agg [.d (.i t.kind),.d (.sl (t.kids.map cA))]
abbrev c6 (e:ao):AV:=.agg [.d (.i e.kind),.d (.str e.name),.d (.i e.num),.d (.i e.ty.kind),.d (.sl (e.ty.kids.map cA)),.d (.i e.fr.kind),.d (.sl (e.fr.kids.map cA)),.d (.i e.label),.d (.sl (e.kids.map gA))]
/- How many nodes lie below a node. -/
mutual
def gl:aE->Nat
 |.mk _ l=>cY l
def cY:List aE->Nat
 |[]=>0
 |t::r=>1+gl t+cY r
end
mutual
def fy:ao->Nat
 |.mk _ s _ t f _ kids=>s.length+gl t+gl f+eQ kids
def eQ:List ao->Nat
 |[]=>0
 |e::r=>1+fy e+eQ r
end
theorem gG (t:aE):gl t=cY t.kids:=by cases t;simp[gl]
theorem jO (e:ao):fy e=e.name.length+gl e.ty+gl e.fr+eQ e.kids:=by cases e;simp[fy]
theorem ie:∀(l:List aE),l.length<=cY l
 |[]=>by simp[cY]
 |t::r=>by have:=ie r;simp[cY];omega
theorem px:∀(l:List ao),l.length<=eQ l
 |[]=>by simp[eQ]
 |t::r=>by have:=px r;simp[eQ];omega
theorem ig:∀{l:List aE} {t:aE},t∈l->gl t<cY l
 |x::r,t,h=>by
  simp only[W2]at h;simp only[cY];rcases h with rfl|h
  ·omega
  ·have:=ig h;omega
theorem wR:∀{l:List ao} {e:ao},e∈l->fy e<eQ l
 |x::r,t,h=>by
  simp only[W2]at h;simp only[eQ];rcases h with rfl|h
  ·omega
  ·have:=wR h;omega
def SG (l:List aE):Nat:=(l.map gl).sum
def SH (l:List ao):Nat:=(l.map fy).sum
/- No row is longer than any Go slice. -/
mutual
def QO:aE->Prop
 |.mk _ l=>l.length<=9223372036854775807/\NJ l
def NJ:List aE->Prop
 |[]=>True
 |t::r=>QO t/\NJ r
end
mutual
def Uc:ao->Prop
 |.mk _ s _ t f _ kids=>s.length<=9223372036854775807/\QO t/\QO f/\kids.length<=9223372036854775807/\NK kids
def NK:List ao->Prop
 |[]=>True
 |e::r=>Uc e/\NK r
end
def Vz (n:Nat) (left:Int):Int:=if(n:Int)<=left then left-n else-1
end Go.Av
namespace Go.Av
open Go
theorem aE.ind {P:aE->Prop} (h:∀t,(∀u∈t.kids,P u)->P t):∀t,P t
 |.mk k l=>h _ (fun u hu=>aE.ind h u)
termination_by t=>SizeOf.sizeOf t
decreasing_by simp at hu;have:=Xn hu;simp;omega
theorem ao.ind {P:ao->Prop} (h:∀e,(∀u∈e.kids,P u)->P e):∀e,P e
 |.mk k s n t f b l=>h _ (fun u hu=>ao.ind h u)
termination_by e=>SizeOf.sizeOf e
decreasing_by simp at hu;have:=Xn hu;simp;omega
def nk (x lo hi:Int):Bool:=decide (lo<=x)&& decide (x<=hi)
def eh:List UInt8->Bool
 |[c]=>decide (97<=c.toNat)&& decide (c.toNat<=122)
 |_=>false
def dR (t:aE):Bool:=decide (t.kind=0)&& decide (t.kids=[])
def Db (n:Int):Bool:=nk n 1 99||nk n (-99) (-1)
def cD (k:Int):Int:=
 if k=1\/k=2\/k=3\/k=4 then 0 else if k=5\/k=11\/k=12\/k=13\/k=14 then 1 else if k=6\/k=7\/k=8\/k=10 then 2 else if k=9 then 3 else-1
def cF (k:Int):Int:=if k=1\/k=2\/k=3 then 0 else if k=4\/k=5 then 2 else-1
def ak:Nat->aE->Bool
 |0,_=>false
 |d+1,t=>decide (cF t.kind=t.kids.length)&& t.kids.all (ak d)
theorem dT {d:Nat} {t:aE} (h:ak d t=true):∃e,d=e+1/\cF t.kind=t.kids.length/\t.kids.length<=2/\∀u∈t.kids,ak e u=true:=by
 cases d with
 |zero=>simp[ak]at h
 |succ e=>
  simp only[ak,Xz,decide_eq_true_eq,W4]at h;refine⟨e,rfl,h.1,?_,h.2⟩;have:=h.1;simp only[cF]at this;split at this
  ·omega
  ·split at this<;>omega
mutual
def aM:aE->aE->Bool
 |.mk k l,.mk k' l'=>decide (k=1)||decide (k'=1)||(decide (k=k')&& p9 l l')
def p9:List aE->List aE->Bool
 |[],[]=>true
 |x::xs,y::ys=>aM x y && p9 xs ys
 |_,_=>false
end
theorem sf:∀(l m:List aE),p9 l m=iT aM l m
 |[],[]=>rfl
 |x::xs,y::ys=>by simp[p9,iT,sf xs ys]
 |[],_::_=>rfl
 |_::_,[]=>rfl
theorem nK (a b:aE):aM a b=(decide (a.kind=1)||decide (b.kind=1)||(decide (a.kind=b.kind)&& iT aM a.kids b.kids)):=by
 cases a;cases b;simp only[aM,sf];rfl
/- A node by itself, but for the number of its operands. -/
def dN (k:Int):Bool:=decide (k=1)||decide (k=5)
def cr (k:Int):Bool:=decide (k=5)||decide (k=13)||decide (k=14)
def py (e:ao):Bool:=ak 4 e.fr && ak 4 e.ty && aM e.fr e.ty && Db e.label
def e9 (e:ao):Bool:=
 (if dN e.kind then eh e.name else decide (e.name=[]))&& nk e.num 0 (if e.kind=2 then 999 else 0)&&
 (if cr e.kind then ak 4 e.ty else dR e.ty)&&(if e.kind=14 then py e else dR e.fr && decide (e.label=0))
def ga (e:ao):Bool:=decide (cD e.kind=e.kids.length)&& e9 e
def bj (nt:Int):Nat->ao->Bool
 |0,_=>false
 |d+1,e=>decide (e.kind≠nt)&& ga e && e.kids.all (bj nt d)
def cN:Nat->ao->Nat
 |0,_=>1
 |d+1,e=>1+(e.kids.map (cN d)).sum
/- A scan from a node on: whether it goes through, and how many nodes it has seen. -/
mutual
def kN (mn md nt:Int):Int->ao->Int->Bool×Int
 |deep,.mk k s n t f b l,c=>if mn<c+1\/md<deep\/k=nt\/ga (.mk k s n t f b l)=false then(false,c+1)else lq mn md nt (deep+1) l (c+1)
def lq (mn md nt:Int):Int->List ao->Int->Bool×Int
 |_,[],c=>(true,c)
 |deep,e::r,c=>if(kN mn md nt deep e c).1=true then lq mn md nt deep r (kN mn md nt deep e c).2 else(false,(kN mn md nt deep e c).2)
end
theorem tH (mn md nt deep:Int) (e:ao) (c:Int):kN mn md nt deep e c=if mn<c+1\/md<deep\/e.kind=nt\/ga e=false then(false,c+1)else lq mn md nt (deep+1) e.kids (c+1):=by
 cases e;simp only[kN];rfl
theorem Fx (mn md nt:Int):∀(e:ao) (d:Nat) (c:Int),0<=c->c<=mn->
  (kN mn md nt (md+1-d) e c).1=(bj nt d e && decide (c+cN d e<=mn))/\(bj nt d e=true->c+cN d e<=mn->(kN mn md nt (md+1-d) e c).2=c+cN d e):=by
 intro e;induction e using ao.ind with
 |h e ih=>
  intro d c h0 hc;rw[tH];cases d with
  |zero=>
   rw[if_pos (by right;left;omega)];simp[bj]
  |succ d=>
   have yv:∀(x:Nat) (y:ao),1<=cN x y:=fun x y=>by cases x<;>simp[cN]
   have cW:cN (d+1) e=1+(e.kids.map (cN d)).sum:=rfl;by_cases Fy:mn<c+1\/md<md+1-((d+1:Nat):Int)\/e.kind=nt\/ga e=false
   ·rw[if_pos Fy];have hf:(bj nt (d+1) e && decide (c+cN (d+1) e<=mn))=false:=by
     have:=yv (d+1) e;rcases Fy with h|h|h|h
     ·simp;intro _;omega
     ·omega
     ·simp[bj,h]
     ·simp[bj,h]
    refine⟨hf.symm,fun h1 h2=>?_⟩;rw[h1]at hf;simp at hf;omega
   ·rw[if_neg Fy];have hk:e.kind≠nt:=fun h=>Fy (by simp[h])
    have hn:ga e=true:=by
     cases h:ga e
     ·exact absurd (by simp[h]) Fy
     ·rfl
    have jh:bj nt (d+1) e=e.kids.all (bj nt d):=by simp[bj,hk,hn]
    rw[jh,cW,show md+1-((d+1:Nat):Int)+1=md+1-(d:Int) by omega]
    have Hr:∀(l:List ao),(∀u∈l,u∈e.kids)->∀c:Int,0<=c->c<=mn->(lq mn md nt (md+1-d) l c).1=(l.all (bj nt d)&& decide (c+(l.map (cN d)).sum<=mn))/\
      (l.all (bj nt d)=true->c+(l.map (cN d)).sum<=mn->(lq mn md nt (md+1-d) l c).2=c+(l.map (cN d)).sum):=by
     intro l;induction l with
     |nil=>intro _ c h0 hc;simp[lq];omega
     |cons x r ihl=>
      intro hm c h0 hc;obtain⟨h1,h2⟩:=ih x (hm x (by simp)) d c h0 hc;simp only[lq,Xy,W8,List.sum_cons];cases hx:(kN mn md nt (md+1-d) x c).1 with
      |false=>
       rw[hx]at h1;simp only[XB,if_false];cases hs:bj nt d x with
       |false=>simp
       |true=>
        rw[hs]at h1;simp at h1;refine⟨?_,fun _ h=>?_⟩
        ·symm;simp;intro _;omega
        ·omega
      |true=>
       rw[hx]at h1;have lH:=h1.symm;simp only[Xz,decide_eq_true_eq]at lH;rw[h2 lH.1 lH.2];obtain⟨h3,h4⟩:=ihl (fun u hu=>hm u (by simp[hu])) (c+cN d x) (by omega) lH.2;simp only[if_true];rw[h3,lH.1];refine⟨?_,fun h5 h6=>?_⟩
       ·simp only[Bool.true_and]
        congr 1
        exact decide_eq_decide.2 (by omega)
       ·rw[h4 (by simpa using h5) (by omega)];omega
    obtain⟨h1,h2⟩:=Hr e.kids (fun _ h=>h) (c+1) (by omega) (by omega);rw[h1];refine⟨?_,fun h3 h4=>?_⟩
    ·congr 1
     exact decide_eq_decide.2 (by omega)
    ·rw[h2 h3 (by omega)];omega
theorem Hs (mn md nt:Int):∀(e:ao) (deep c:Int),0<=c->(kN mn md nt deep e c).1=true->0<=(kN mn md nt deep e c).2/\(kN mn md nt deep e c).2<=mn:=by
 intro e;induction e using ao.ind with
 |h e ih=>
  intro deep c h0;rw[tH];split
  ·simp
  ·rename_i Fy;have Hr:∀(l:List ao),(∀u∈l,u∈e.kids)->∀c:Int,0<=c->c<=mn->(lq mn md nt (deep+1) l c).1=true->0<=(lq mn md nt (deep+1) l c).2/\(lq mn md nt (deep+1) l c).2<=mn:=by
    intro l;induction l with
    |nil=>intro _ c h0 hc _;exact⟨h0,hc⟩
    |cons x r ihl=>
     intro hm c h0 hc;simp only[lq];split
     ·rename_i hx;obtain⟨h1,h2⟩:=ih x (hm x (by simp)) (deep+1) c h0 hx;exact ihl (fun u hu=>hm u (by simp[hu])) _ h1 h2
     ·simp
   exact Hr e.kids (fun _ h=>h) (c+1) (by omega) (by omega)
theorem wS:∀(d:Nat) (e:ao),cN d e<=1+fy e
 |0,e=>by simp[cN]
 |d+1,e=>by
  have h:∀l:List ao,(l.map (cN d)).sum<=eQ l:=by
   intro l;induction l with
   |nil=>simp[eQ]
   |cons x r ih=>have:=wS d x;simp[eQ];omega
  have:=h e.kids;rw[jO];simp only[cN];omega
/- No casts, and no types but the unknown one. -/
mutual
def KL:ao->Bool
 |.mk k _ _ t _ _ l=>decide (k≠14)&&(decide (k≠5)||decide (t.kind=1))&& KM l
def KM:List ao->Bool
 |[]=>true
 |e::r=>KL e && KM r
end
def lr (e:ao):Bool:=bj 13 40 e && decide (cN 40 e<=200)
def a6 (e:ao):Bool:=bj 14 12 e && decide (cN 12 e<=30)
structure ea where
 name:List UInt8
 ty:aE
def jP (b:ea):List DV:=[.str b.name,.i b.ty.kind,.sl (b.ty.kids.map cA)]
abbrev kD:aE:=.mk 1 []
abbrev bP:aE:=.mk 2 []
abbrev c3:aE:=.mk 3 []
abbrev bx:aE:=.mk 0 []
mutual
def cG:aE->aE->aE
 |.mk k l,.mk k' l'=>if k=1 then .mk k' l' else if k'=1 then .mk k l else .mk k (jQ l l')
def jQ:List aE->List aE->List aE
 |x::xs,y::ys=>cG x y::jQ xs ys
 |_,_=>[]
end
theorem u5:∀(l m:List aE),jQ l m=Xl cG l m
 |[],_=>by simp[jQ]
 |x::xs,[]=>by simp[jQ]
 |x::xs,y::ys=>by simp[jQ,u5 xs ys]
theorem lu (a b:aE):cG a b=if a.kind=1 then b else if b.kind=1 then a else .mk a.kind (Xl cG a.kids b.kids):=by
 cases a;cases b;simp only[cG,u5];rfl
def cX:List ea->List UInt8->Option aE
 |[],_=>none
 |b::r,s=>match cX r s with
  |some t=>some t
  |none=>if b.name=s then some b.ty else none
def Dc (ctx:List ea):Bool:=ctx.all (fun b=>eh b.name && ak 4 b.ty)&& decide (ctx.length<=12)
def dO (k:Int) (t:aE):Option (aE×aE):=
 if t.kind=1 then some (kD,kD)else if t.kind=k then match t.kids with
  |a::b::_=>some (a,b)
  |_=>none
 else none
def Ab (k:Int) (a b:aE):Option aE:=if ak 4 (.mk k [a,b])=true then some (.mk k [a,b])else none
def eb (ctx:List ea) (k:Int) (name:List UInt8) (ty:aE) (ts:List aE):Option aE:=
 if k=1 then cX ctx name
 else if k=2 then some bP
 else if k=3\/k=4 then some c3
 else match ts with
  |[a]=>
   if k=5 then Ab 4 ty a
   else if k=11 then(dO 5 a).map (·.1)
   else if k=12 then(dO 5 a).map (·.2)
   else if k=13 then if aM a ty=true then some ty else none
   else none
  |[a,b]=>
   if k=6 then match dO 4 a with
    |some (x,y)=>if aM b x=true then some y else none
    |none=>none
   else if k=7 then if aM a bP=true/\aM b bP=true then some bP else none
   else if k=8 then if aM a bP=true/\aM b bP=true then some c3 else none
   else if k=10 then Ab 5 a b
   else none
  |[a,b,c]=>if k=9 then if aM b c=true/\aM a c3=true then some (cG b c)else none else none
  |_=>none
mutual
def cO:List ea->ao->Option aE
 |ctx,.mk k s n t f b l=>match gO (if k=5 then ctx++[⟨s,t⟩]else ctx) l with
  |none=>none
  |some ts=>eb ctx k s t ts
def gO:List ea->List ao->Option (List aE)
 |_,[]=>some []
 |ctx,e::r=>match cO ctx e with
  |none=>none
  |some t=>match gO ctx r with
   |none=>none
   |some ts=>some (t::ts)
end
def cB (ctx:List ea) (e:ao):List ea:=if e.kind=5 then ctx++[⟨e.name,e.ty⟩]else ctx
theorem zc (ctx:List ea) (e:ao):cO ctx e=match gO (cB ctx e) e.kids with
  |none=>none
  |some ts=>eb ctx e.kind e.name e.ty ts:=by
 cases e;simp only[cO];rfl
theorem Bs {a b:aE} (h:aM a b=true) (ha:a.kind≠1) (hb:b.kind≠1):a.kind=b.kind/\iT aM a.kids b.kids=true:=by
 rw[nK]at h;simpa[ha,hb]using h
theorem Ev {α β:Type} {q:α->β->Bool}:∀{xs:List α} {ys:List β} {i:Nat} {x:α} {y:β},iT q xs ys=true->xs[i]? =some x->ys[i]? =some y->q x y=true
 |[],_,_,_,_,_,h,_=>by simp at h
 |x::xs,[],_,_,_,h,_,_=>by simp[iT]at h
 |x::xs,y::ys,0,_,_,h,h1,h2=>by simp[iT]at h;simp at h1 h2;subst h1;subst h2;exact h.1
 |x::xs,y::ys,i+1,_,_,h,h1,h2=>by simp[iT]at h;simp at h1 h2;exact Ev h.2 h1 h2
theorem cl:∀{d:Nat} {t:aE},ak d t=true->ak (d+1) t=true
 |0,t,h=>by simp[ak]at h
 |d+1,t,h=>by
  simp only[ak,Xz,W4]at h⊢;exact⟨h.1,fun u hu=>by have:=cl (h.2 u hu);simpa[ak]using this⟩
theorem nL:∀(d:Nat) (a b:aE),ak d a=true->ak d b=true->aM a b=true->ak d (cG a b)=true
 |0,a,b,h,_,_=>by simp[ak]at h
 |d+1,a,b,ha,hb,hc=>by
  rw[lu];split
  ·exact hb
  ·split
   ·exact ha
   ·rename_i h1 h2;obtain⟨hk,hq⟩:=Bs hc h1 h2;simp only[ak,Xz,decide_eq_true_eq,W4,aE.b4,aE.bQ,List.length_zipWith]at ha hb⊢;have hl:=wQ hq;refine⟨by rw[ha.1];omega,fun u hu=>?_⟩;obtain⟨i,hi⟩:=W0 hu;rw[List.getElem?_zipWith]at hi;cases hx:a.kids[i]? with
    |none=>simp[hx]at hi
    |some x=>
     cases hy:b.kids[i]? with
     |none=>simp[hx,hy]at hi
     |some y=>
      simp[hx,hy]at hi;subst hi;exact nL d x y (ha.2 x (WY hx)) (hb.2 y (WY hy)) (Ev hq hx hy)
theorem eR {k:Int} {t a b:aE} (h:dO k t=some (a,b)) (ht:ak 4 t=true):ak 4 a=true/\ak 4 b=true:=by
 simp only[dO]at h;split at h
 ·simp at h;obtain⟨rfl,rfl⟩:=h;simp[ak,cF]
 ·split at h
  ·obtain⟨e,he,_,_,hs⟩:=dT ht;obtain rfl:e=3:=by omega
   split at h
   ·rename_i x y r hk;simp at h;obtain⟨rfl,rfl⟩:=h;exact⟨cl (hs _ (by simp[hk])),cl (hs _ (by simp[hk]))⟩
   ·simp at h
  ·simp at h
theorem pz:∀{ctx:List ea} {s:List UInt8} {t:aE},cX ctx s=some t->∃b∈ctx,b.ty=t/\b.name=s
 |[],_,_,h=>by simp[cX]at h
 |b::r,s,t,h=>by
  simp only[cX]at h;split at h
  ·rename_i u hu;simp at h;subst h;obtain⟨b',h1,h2⟩:=pz hu;exact⟨b',by simp[h1],h2⟩
  ·split at h
   ·rename_i hb;simp at h;exact⟨b,by simp,h,hb⟩
   ·simp at h
def kO (ctx:List ea):Prop:=∀b∈ctx,ak 4 b.ty=true
theorem Ac {ctx:List ea} {e:ao} {ts:List aE} {t:aE} (hc:kO ctx) (he:cr e.kind=true->ak 4 e.ty=true) (b7:∀u∈ts,ak 4 u=true) (h:eb ctx e.kind e.name e.ty ts=some t):ak 4 t=true:=by
 have hI:ak 4 bP=true:=by decide
 have hB:ak 4 c3=true:=by decide
 simp only[eb]at h;split at h
 ·obtain⟨b,h1,h2,_⟩:=pz h;rw[<-h2];exact hc b h1
 split at h
 ·simp at h;subst h;exact hI
 split at h
 ·simp at h;subst h;exact hB
 split at h
 ·rename_i a;have ha:=b7 a (by simp);split at h
  ·simp only[Ab]at h;split at h
   ·rename_i hs;simp at h;subst h;exact hs
   ·simp at h
  split at h
  ·cases hm:dO 5 a with
   |none=>simp[hm]at h
   |some p=>obtain⟨x,y⟩:=p;simp[hm]at h;subst h;exact(eR hm ha).1
  split at h
  ·cases hm:dO 5 a with
   |none=>simp[hm]at h
   |some p=>obtain⟨x,y⟩:=p;simp[hm]at h;subst h;exact(eR hm ha).2
  split at h
  ·rename_i dt;split at h
   ·simp at h;subst h;exact he (by simp[cr,dt])
   ·simp at h
  ·simp at h
 ·rename_i a b;have ha:=b7 a (by simp);have hb:=b7 b (by simp);split at h
  ·split at h
   ·rename_i x y hm;split at h
    ·simp at h;subst h;exact(eR hm ha).2
    ·simp at h
   ·simp at h
  split at h
  ·split at h
   ·simp at h;subst h;exact hI
   ·simp at h
  split at h
  ·split at h
   ·simp at h;subst h;exact hB
   ·simp at h
  split at h
  ·simp only[Ab]at h;split at h
   ·rename_i hs;simp at h;subst h;exact hs
   ·simp at h
  ·simp at h
 ·rename_i a b c;split at h
  ·split at h
   ·rename_i hq;simp at h;subst h;exact nL 4 b c (b7 b (by simp)) (b7 c (by simp)) hq.1
   ·simp at h
  ·simp at h
 ·simp at h
theorem gH {nt:Int} {d:Nat} {e:ao} (h:bj nt d e=true):∃d',d=d'+1/\e.kind≠nt/\cD e.kind=e.kids.length/\e9 e=true/\∀u∈e.kids,bj nt d' u=true:=by
 cases d with
 |zero=>simp[bj]at h
 |succ d=>
  simp only[bj,ga,Xz,decide_eq_true_eq,W4]at h;exact⟨d,rfl,h.1.1,h.1.2.1,h.1.2.2,h.2⟩
theorem js {e:ao} (h:e9 e=true) (ht:cr e.kind=true):ak 4 e.ty=true:=by
 simp only[e9,Xz]at h;have:=h.1.2;rwa[if_pos ht]at this
theorem wU (k:Int):cD k<=3:=by
 simp only[cD];split
 ·omega
 ·split
  ·omega
  ·split
   ·omega
   ·split<;>omega
theorem lY:∀(e:ao) (d:Nat) (nt:Int) (ctx:List ea) (t:aE),bj nt d e=true->kO ctx->cO ctx e=some t->ak 4 t=true:=by
 intro e;induction e using ao.ind with
 |h e ih=>
  intro d nt ctx t hs hc h;obtain⟨d',_,_,hlen,dS,lx⟩:=gH hs;rw[zc]at h;have bZ:kO (cB ctx e):=by
   simp only[cB];split
   ·rename_i h5;intro b hb;simp only[W6,List.mem_singleton]at hb;rcases hb with hb|rfl
    ·exact hc b hb
    ·exact js dS (by simp[cr,h5])
   ·exact hc
  split at h
  ·simp at h
  ·rename_i ts b7;refine Ac hc (js dS) ?_ h;have hl:∀(l:List ao) (ts:List aE),(∀u∈l,u∈e.kids)->gO (cB ctx e) l=some ts->∀u∈ts,ak 4 u=true:=by
    intro l;induction l with
    |nil=>intro ts _ h;simp[gO]at h;subst h;simp
    |cons x r ihl=>
     intro ts hm h;simp only[gO]at h;split at h
     ·simp at h
     ·rename_i tx Ud;split at h
      ·simp at h
      ·rename_i us Ue;simp at h;subst h;have hx:=ih x (hm x (by simp)) d' nt (cB ctx e) tx (lx x (hm x (by simp))) bZ Ud;intro u hu;simp only[W2]at hu;rcases hu with rfl|hu
       ·exact hx
       ·exact ihl us (fun v hv=>hm v (by simp[hv])) Ue u hu
   exact hl e.kids ts (fun _ h=>h) b7
end Go.Av
namespace Go.Av
attribute [-simp] Go.Av.bH Go.Av.eD Go.Av.gX Go.Av.bS Go.Av.bE Go.Av.hM Go.Av.mi Go.Av.rS Go.Av.mF Go.Av.zW Go.Av.rowsOf Go.Av.look Go.Av.th Go.Av.St.put Go.Av.gB Go.Av.Fl Go.Av.b6 Go.Av.zU Go.Av.Jk Go.Av.rR Go.Av.rQ Go.Av.Ek Go.Av.AV.plain Go.Av.AV.cells Go.Av.CV.jM Go.Av.nw Go.Av.iy Go.Av.kB Go.Av.fB Go.Av.bT Go.Av.ib Go.Av.AV.kK Go.Av.CV.kK Go.Av.qz Go.Av.AV.fN Go.Av.CV.fN Go.Av.bB Go.Av.iz Go.Av.jY Go.Av.oC Go.Av.cL Go.Av.e8 Go.Av.uU Go.Av.AV.qB Go.Av.CV.res Go.Av.rZ Go.Av.pos? Go.Av.wG Go.Av.wN Go.Av.gC Go.Av.Sub Go.Av.j4 Go.Av.kL Go.Av.iJ Go.Av.gE Go.Av.iK Go.Av.gF Go.Av.aE.b4 Go.Av.aE.bQ Go.Av.ao.b4 Go.Av.ao.lX Go.Av.ao.q7 Go.Av.ao.sd Go.Av.ao.se Go.Av.ao.lp Go.Av.ao.bQ
open Go
def cC (all:Array Oper) (ws fs:List Nat) (m:Nat) (ms:List Nat) (oi oj:Oper) (i j:Nat):Bool:=
 (oi.dst.isNone||oi.dst !=oj.dst)&&((!dq all oi oj && !dq all oj oi && !(ws.contains i && !cL oj.op && !(fs.contains j && decide (i<m)))&& !(ws.contains j && !cL oi.op && !(fs.contains i && decide (j<m))))||(ms.getD j 0).testBit i)
def iu (all:Array Oper) (ws fs:List Nat) (m:Nat):Bool:=
 let l:=all.toList.zipIdx
 let ms:=a7 all.toList []
 (l.all fun(o,j)=>o.after.toList.all fun e=> !Region.binds .any e||decide (e.on<j))&&
 (l.all fun(oj,j)=>l.all fun(oi,i)=> !(decide (i<j))||cC all ws fs m ms oi oj i j)&&
 (l.all fun(o,j)=> !ws.contains j|| !cL o.op)&&(fs.all fun j=> !ws.contains j)&&(fs.all fun j=>ws.all fun i=>decide (i<m)||decide (j<i))
def rN (ex:List Nat) (rs:Nat->List CV) (V:List (List CV)):List (List CV):=ex.foldl (fun W i=>W.set i (rs i)) V
theorem pA (V:List (List CV)):∀(ex:List Nat),rN ex (fun i=>V.getD i []) V=V
 |[]=>rfl
 |i::ex=>by
  have h:V.set i (V.getD i [])=V:=by
   apply Xx;intro j;rw[List.getElem?_set];split
   ·rename_i e;subst e;split
    ·rename_i h;simp[W1,h]
    ·rename_i h;simp[Nat.le_of_not_lt h]
   ·rfl
  show rN ex _ (V.set i (V.getD i []))=V;rw[h];exact pA V ex
def dw (P:Program) (s:St) (ow:Bool) (o:Oper) (ex:List Nat) (V0:List (List CV)) (A0:List bu) (x:AV):Prop:=
 ∀(rs:Nat->List CV) GV GA,bH P ⟨s.fr,rN ex rs V0++GV,A0++GA⟩ ow o fun y V' A'=>y=x/\V'=rN ex rs V0++GV/\A'=A0++GA
def oG (P:Program) (all:Array Oper) (ow:Nat->Bool) (ws fs:List Nat) (m:Nat) (ex:List Nat) (V0:List (List CV)) (A0:List bu) (K:St->Prop):Nat->List Oper->St->Prop
 |_,[],s=>K s
 |i,o::rest,s=>gX all s o (bH P s (ow i) o fun x V A=>(i∈ws\/(V=s.V/\A=s.A))/\(i∈ws->i<m->V.take V0.length=rN ex (fun i=>V.getD i []) V0/\A.take A0.length=A0)/\(i∈fs->dw P s (ow i) o ex V0 A0 x)/\
   oG P all ow ws fs m ex V0 A0 K (i+1) rest (s.put o.dst x V A)) (oG P all ow ws fs m ex V0 A0 K (i+1) rest (s.put o.dst (.c .undef) s.V s.A))
section
variable {P:Program} {n:Nat} {Q Q':Exit->St->Prop} {s s':St} {w0:World} {g0 g g':Gh} {a:Act} {w w':World} {V:List (List CV)} {A A':List bu}
def Ht (P:Program) (all:Array Oper) (ow:Bool) (fs:List Nat) (j:Nat) (ex:List Nat) (V0:List (List CV)) (A0:List bu) (o:Oper) (s s':St):Prop:=
 gX all s o True True/\((gw all s o=true/\∃x V A,s'=s.put o.dst x V A/\(∀K:AV->List (List CV)->List bu->Prop,K x V A->bH P s ow o K)/\(j∈fs->dw P s ow o ex V0 A0 x))\/(gw all s o=false/\s'=s.put o.dst (.c .undef) s.V s.A))
def KN (ex:List Nat) (V0:List (List CV)) (A0:List bu) (s:St):Prop:=s.V.take V0.length=rN ex (fun i=>s.V.getD i []) V0/\s.A.take A0.length=A0
theorem lZ {all:Array Oper} {ow:Nat->Bool} {ws fs:List Nat} {m:Nat} {ex:List Nat} {V0:List (List CV)} {A0:List bu} {K:St->Prop}:∀(ops:List Oper) (i:Nat) (s:St),oG P all ow ws fs m ex V0 A0 K i ops s->
  ∃σ:Nat->St,σ 0=s/\K (σ ops.length)/\∀(j:Nat) o,ops[j]? =some o->Ht P all (ow (i+j)) fs (i+j) ex V0 A0 o (σ j) (σ (j+1))/\(i+j∈ws\/((σ (j+1)).V=(σ j).V/\(σ (j+1)).A=(σ j).A))/\
   (i+j<m->KN ex V0 A0 (σ (j+1))\/((σ (j+1)).V=(σ j).V/\(σ (j+1)).A=(σ j).A))
 |[],i,s,h=>⟨fun _=>s,rfl,h,fun j o h=>by simp at h⟩
 |o::rest,i,s,h=>by
  simp only[oG]at h;obtain⟨h0,hg⟩:=fO h;rcases h0 with⟨h1,h2⟩|⟨h1,h2⟩
  ·obtain⟨x,V,A,⟨h3,NL,Fz,h4⟩,h5⟩:=fU h2;obtain⟨σ,k1,k2,k3⟩:=lZ rest (i+1) _ h4;refine⟨fun j=>match j with|0=>s|j+1=>σ j,rfl,k2,fun j o' ho=>?_⟩;cases j with
   |zero=>
    simp at ho;subst ho;refine⟨⟨hg,.inl ⟨h1,x,V,A,k1,h5,Fz⟩⟩,?_,fun hm=>?_⟩
    ·rcases h3 with h3|⟨h3,s5⟩
     ·exact .inl h3
     ·exact .inr (by simp only[k1];exact⟨h3,s5⟩)
    ·rcases h3 with h3|⟨h3,s5⟩
     ·exact .inl (by simp only[k1];exact NL h3 hm)
     ·exact .inr (by simp only[k1];exact⟨h3,s5⟩)
   |succ j=>
    simp at ho;have:=k3 j o' ho;rwa[show i+1+j=i+(j+1) by omega]at this
  ·obtain⟨σ,k1,k2,k3⟩:=lZ rest (i+1) _ h2;refine⟨fun j=>match j with|0=>s|j+1=>σ j,rfl,k2,fun j o' ho=>?_⟩;cases j with
   |zero=>
    simp at ho;subst ho;exact⟨⟨hg,.inr ⟨h1,k1⟩⟩,.inr (by simp only[k1];exact⟨rfl,rfl⟩),fun _=>.inr (by simp only[k1];exact⟨rfl,rfl⟩)⟩
   |succ j=>
    simp at ho;have:=k3 j o' ho;rwa[show i+1+j=i+(j+1) by omega]at this
structure yj (all:Array Oper) (ws:List Nat) (σ:Nat->St) (n:Nat) (w0:World) (g0:Gh) (ae:Array Bool) (k0:Nat) (g:Gh) (a:Act) (w:World):Prop where
 inv:Inv g w (σ k0).V (σ k0).A
 fr:Fr w0 g0 w g
 size:a.tmps.size=n
 defers:a.defers=[]
 ey:ae.size=all.size
 fP:∀(i:Nat) o t x,all[i]? =some o->ae[i]? =some true->o.dst=some t->look (σ (i+1)).fr t=some x->∃u,a.tmps[t]? =some u/\aV g w (σ k0).A x u
 fQ:∀t x,(∀(i:Nat) o,all[i]? =some o->ae[i]? =some true->o.dst≠some t)->look (σ 0).fr t=some x->∃u,a.tmps[t]? =some u/\aV g w (σ k0).A x u
 dY:∀i∈ws,i<all.size->(ae[i]? =some true↔i<k0)
 nF:k0<=all.size
 kw:k0=0\/∃i∈ws,k0=i+1
 closed:∀(i:Nat) o,all[i]? =some o->ae[i]? =some true->∀e∈o.after,Region.binds .any e=true->ae[e.on]? =some true
set_option maxHeartbeats 2000000 in
theorem Bt {all:Array Oper} {ow:Nat->Bool} {ws fs:List Nat} {m:Nat} {ex:List Nat} {V0:List (List CV)} {A0:List bu} {σ:Nat->St} {K:St->Prop} {Q:Exit->Act->World->Prop} (hd:iu all ws fs m=true) (eT:c7 n all.toList=true)
  (lK:∀(j:Nat) o,all[j]? =some o->Ht P all (ow j) fs j ex V0 A0 o (σ j) (σ (j+1))/\(j∈ws\/((σ (j+1)).V=(σ j).V/\(σ (j+1)).A=(σ j).A))/\(j<m->KN ex V0 A0 (σ (j+1))\/((σ (j+1)).V=(σ j).V/\(σ (j+1)).A=(σ j).A))) (Hu:(σ 0).V=V0/\(σ 0).A=A0)
  (hK:K (σ all.size)) (hQ:∀s' g' a' w',K s'->Rp n w0 g0 s' g' a' w'->Q .normal a' w'):
  ∀(fuel:Nat) (ae:Array Bool) (k0:Nat) (g:Gh) (a:Act) (w:World),((WX all.size).filter fun i=> !ae.getD i true).length<=fuel->yj all ws σ n w0 g0 ae k0 g a w->wpAny P .any all Q fuel ae a w:=by
 simp only[iu,Xz,W4]at hd;obtain⟨⟨⟨⟨hP,jm⟩,oX⟩,I5⟩,I6⟩:=hd;have cQ:∀(j:Nat) o,all[j]? =some o->(o,j)∈all.toList.zipIdx:=fun j o h=>by
  rw[Xp];exact⟨j,by simp[Xu,h]⟩
 have cZ:∀(j:Nat) o,all[j]? =some o->∀e∈o.after,Region.binds .any e=true->e.on<j:=fun j o h e he hb=>by
  have:=hP _ (cQ j o h) e (XR.2 he);simpa[hb]using this
 have fI:∀(i j:Nat) oi oj,all[i]? =some oi->all[j]? =some oj->i<j->cC all ws fs m (a7 all.toList []) oi oj i j=true:=fun i j oi oj h1 h2 az=>by
  have:=jm _ (cQ j oj h2) _ (cQ i oi h1);simpa[az]using this
 have bY:∀(i j:Nat) oi oj,all[i]? =some oi->all[j]? =some oj->i<j->i∉fs->j∉fs->br all ws (a7 all.toList []) oi oj i j=true:=fun i j oi oj h1 h2 az hi hj=>by
  have:=fI i j oi oj h1 h2 az;simpa[cC,br,hi,hj]using this
 have l7:∀i,i∈ws->i∉fs:=fun i hi hf=>by
  have:=I5 i hf;simp[hi]at this
 have Dd:∀k,k<=m->k<=all.size->KN ex V0 A0 (σ k):=by
  intro k;induction k with
  |zero=>
   intro _ _;refine⟨?_,by rw[Hu.2];simp⟩;rw[Hu.1,pA];simp
  |succ k ih=>
   intro h1 h2;have ho:all[k]? =some all[k]:=XP (by omega);rcases(lK k _ ho).2.2 (by omega)with h3|⟨h3,h4⟩
   ·exact h3
   ·have:=ih (by omega) (by omega);exact⟨by rw[h3];exact this.1,by rw[h4];exact this.2⟩
 have uX:∀(j:Nat) o,all[j]? =some o->j∈ws->cL o.op=false:=fun j o h hj=>by
  have:=oX _ (cQ j o h);simpa[hj]using this
 have fG:∀(i j:Nat) oi oj d,all[i]? =some oi->all[j]? =some oj->i<j->oi.dst=some d->oj.dst≠some d:=fun i j oi oj d h1 h2 az h3 h4=>by
  have:=fI i j oi oj h1 h2 az;simp[cC,h3,h4]at this
 have q0:∀(i j:Nat) oi oj d,all[i]? =some oi->all[j]? =some oj->oi.dst=some d->oj.dst=some d->i=j:=fun i j oi oj d h1 h2 h3 h4=>by
  rcases XJ i j with h|h|h
  ·exact absurd h4 (fG i j oi oj d h1 h2 h h3)
  ·exact h
  ·exact absurd h3 (fG j i oj oi d h2 h1 h h4)
 have z8:∀(j:Nat) o d,all[j]? =some o->o.dst=some d->d<n:=fun j o d h1 h2=>by
  have:=W4.1 eT o (by rw[XR];exact XV h1);simpa[h2]using this
 obtain⟨GJ,_,Bn⟩:=eU all.toList []
 have mO:∀{ae:Array Bool},(∀(i:Nat) o,all[i]? =some o->ae[i]? =some true->∀e∈o.after,Region.binds .any e=true->ae[e.on]? =some true)->
   ∀(i:Nat) o,all[i]? =some o->(∀e∈o.after,Region.binds .any e=true->ae[e.on]? =some true)->∀k,((a7 all.toList []).getD i 0).testBit k=true->ae[k]? =some true:=by
  intro ae kJ i;induction i using XI with
  |_ i ih=>
   intro o ho cz k hk;obtain⟨pre,h1,h2,h3⟩:=Bn i o (by simpa using ho);simp only[Xs,XH]at h1 h3;have h4:(a7 all.toList []).getD i 0=mN pre o:=by simp[W1,h3]
   rw[h4]at hk;obtain⟨e,he,hb,h5⟩:=fF hk;have s7:=cz e he hb;rcases h5 with rfl|h5
   ·exact s7
   ·have az:=cZ i o ho e he hb;have h6:pre.getD e.on 0=(a7 all.toList []).getD e.on 0:=by simp only[W1,h2 e.on (by omega)]
    rw[h6]at h5;have eM:e.on<all.size:=by have:=(XQ.1 ho).1;omega
    have uY:all[e.on]? =some all[e.on]:=XP eM;exact ih e.on az _ uY (kJ e.on _ uY s7) k h5
 have lV:∀(j:Nat) o t,all[j]? =some o->o.dst≠some t->look (σ (j+1)).fr t=look (σ j).fr t:=fun j o t h1 h2=>by
  obtain⟨⟨_,h3⟩,_⟩:=lK j o h1;have j3:∀(x:AV) V A,look ((σ j).put o.dst x V A).fr t=look (σ j).fr t:=fun x V A=>by
   simp only[St.put];cases rI:o.dst with
   |none=>rfl
   |some d=>simp only[look];rw[if_neg (fun e=>h2 (by rw[rI,e]))]
  rcases h3 with⟨_,x,V,A,h4,_,_⟩|⟨_,h4⟩
  ·rw[h4];exact j3 x V A
  ·rw[h4];exact j3 _ _ _
 have oR:∀(j t:Nat),j<=all.size->(∀(i:Nat) o,i<j->all[i]? =some o->o.dst≠some t)->look (σ j).fr t=look (σ 0).fr t:=by
  intro j;induction j with
  |zero=>intro t _ _;rfl
  |succ j ih=>
   intro t hj fe;have ho:all[j]? =some all[j]:=XP (by omega);rw[lV j _ t ho (fe j _ (by omega) ho)];exact ih t (by omega) (fun i o hi=>fe i o (by omega))
 have oS:∀(j i:Nat) oi t,j<=all.size->i<j->all[i]? =some oi->oi.dst=some t->look (σ j).fr t=look (σ (i+1)).fr t:=by
  intro j;induction j with
  |zero=>intro i oi t _ h;omega
  |succ j ih=>
   intro i oi t hj kq aZ cg;by_cases e:i=j
   ·subst e;rfl
   ·have ho:all[j]? =some all[j]:=XP (by omega);rw[lV j _ t ho (fG i j oi _ t aZ ho (by omega) cg)];exact ih i oi t (by omega) (by omega) aZ cg
 have tE:∀(b a:Nat),a<=b->b<=all.size->(∀i,a<=i->i<b->i∉ws)->(σ b).V=(σ a).V/\(σ b).A=(σ a).A:=by
  intro b;induction b with
  |zero=>
   intro a h _ _;obtain rfl:a=0:=by omega
   exact⟨rfl,rfl⟩
  |succ b ih=>
   intro a Pw hb fe;by_cases e:a=b+1
   ·subst e;exact⟨rfl,rfl⟩
   ·have ho:all[b]? =some all[b]:=XP (by omega);obtain⟨h1,h2⟩:=ih a (by omega) (by omega) (fun i hi Fh=>fe i hi (by omega));rcases(lK b _ ho).2.1 with h3|⟨h3,h4⟩
    ·exact absurd h3 (fe b (by omega) (by omega))
    ·exact⟨h3.trans h1,h4.trans h2⟩
 have lJ:∀{ae:Array Bool} {k0:Nat} {g:Gh} {a:Act} {w:World},yj all ws σ n w0 g0 ae k0 g a w->Region.ready .any all ae=[]->Q .normal a w:=by
  intro ae k0 g a w hD hr;have df:∀i,i<all.size->ae[i]? =some true:=by
   intro i;induction i using XI with
   |_ i ih=>
    intro hi;have ho:all[i]? =some all[i]:=XP hi;have bC:i<ae.size:=by rw[hD.ey];exact hi
    cases hl:ae[i]with
    |true=>rw[XP bC,hl]
    |false=>
     exfalso
     have:i∈Region.ready .any all ae:=mem_ready.2 ⟨by simp[bC,hl],_,ho,fun e he hb=>cy.2 (ih e.on (cZ i _ ho e he hb) (by have:=cZ i _ ho e he hb;omega))⟩;rw[hr]at this;simp at this
  have kM:=tE all.size k0 hD.nF (XD _) (fun i h1 h2 h3=>by have:=(hD.dY i h3 h2).1 (df i h2);omega);refine hQ _ g a w hK ⟨by rw[kM.1,kM.2];exact hD.inv,hD.fr,hD.size,hD.defers,fun t x hx=>?_⟩;rw[kM.2];by_cases hex:∃(i:Nat) (o:Oper),all[i]? =some o/\o.dst=some t
  ·obtain⟨i,o,ho,cg⟩:=hex;have hi:=(XQ.1 ho).1;rw[oS all.size i o t (XD _) hi ho cg]at hx;exact hD.fP i o t x ho (df i hi) cg hx
  ·rw[oR all.size t (XD _) (fun i o _ ho cg=>hex ⟨i,o,ho,cg⟩)]at hx;exact hD.fQ t x (fun i o ho _ cg=>hex ⟨i,o,ho,cg⟩) hx
 intro fuel;induction fuel with
 |zero=>
  intro ae k0 g a w hf hD;have lL:Region.ready .any all ae=[]:=by
   have h0:((WX all.size).filter fun i=> !ae.getD i true)=[]:=Xe (by omega);rcases hr:Region.ready .any all ae with _|⟨j,r⟩
   ·rfl
   ·have hj:j∈Region.ready .any all ae:=by rw[hr];simp
    obtain⟨h1,o,h2,_⟩:=mem_ready.1 hj;have:j∈((WX all.size).filter fun i=> !ae.getD i true):=by
     rw[Xi,Xa];exact⟨(XQ.1 h2).1,by simp[h1]⟩
    rw[h0]at this;simp at this
  exact⟨lL,lJ hD lL⟩
 |succ fuel ih=>
  intro ae k0 g a w hf hD;refine⟨fun hr=>lJ hD hr,fun j hj=>?_⟩;obtain⟨mP,o,ho,cz⟩:=mem_ready.1 hj;have mQ:=dZ mP;have rK:j<all.size:=(XQ.1 ho).1;have iZ:j<ae.size:=by rw[hD.ey];exact rK
  have cn:∀e∈o.after,Region.binds .any e=true->ae[e.on]? =some true:=fun e he hb=>cy.1 (cz e he hb)
  have ck:∀k,((a7 all.toList []).getD j 0).testBit k=true->ae[k]? =some true:=mO hD.closed j o ho cn;have bV:∀(i:Nat) oi,all[i]? =some oi->ae[i]? =some true->((a7 all.toList []).getD i 0).testBit j=false:=fun i oi aZ bC=>by
   cases hb:((a7 all.toList []).getD i 0).testBit j with
   |false=>rfl
   |true=>have:=mO hD.closed i oi aZ (hD.closed i oi aZ bC) j hb;rw[mQ]at this;simp at this
  have jr:∀t∈o.looksAt all,∀x,look (σ j).fr t=some x->∃u,a.tmps[t]? =some u/\aV g w (σ k0).A x u:=by
   intro t ht x hx;by_cases hex:∃(i:Nat) (oi:Oper),i<j/\all[i]? =some oi/\oi.dst=some t
   ·obtain⟨i,oi,kq,aZ,cg⟩:=hex;rw[oS j i oi t (by omega) kq aZ cg]at hx;have hp:=fI i j oi o aZ ho kq;have tF:dq all oi o=true:=by simp only[dq,cg];simpa using ht
    simp only[cC,tF,Xz,XA]at hp;have hb:((a7 all.toList []).getD j 0).testBit i=true:=by simpa using hp.2
    exact hD.fP i oi t x aZ (ck i hb) cg hx
   ·rw[oR j t (by omega) (fun i oi kq aZ cg=>hex ⟨i,oi,kq,aZ,cg⟩)]at hx;refine hD.fQ t x (fun i oi aZ bC cg=>?_) hx;rcases XJ i j with h|h|h
    ·exact hex ⟨i,oi,h,aZ,cg⟩
    ·subst h;rw[mQ]at bC;simp at bC
    ·have hp:=fI j i o oi ho aZ h;have tF:dq all oi o=true:=by simp only[dq,cg];simpa using ht
     have hb:=bV i oi aZ bC;simp only[cC,tF,hb,Xz,XA]at hp;simp at hp
  let cM:=(σ j).fr.filter fun p=>(o.looksAt all).contains p.1
  have mD:∀t,look cM t=if(o.looksAt all).contains t then look (σ j).fr t else none:=fun t=>eP (fun t=>(o.looksAt all).contains t) (σ j).fr t
  have hS:∀(V:List (List CV)),ia g w ⟨cM,V,(σ k0).A⟩ a:=fun V t x hx=>by
   simp only[mD]at hx;split at hx
   ·rename_i hc;exact jr t (by simpa using hc) x hx
   ·cases hx
  have gu:∀(V V':List (List CV)) (A A':List bu),∀x∈o.op.operands.toList,bE ⟨cM,V,A⟩ x=bE ⟨(σ j).fr,V',A'⟩ x:=fun V V' A A' x hx=>by
   cases x with
   |tmp t=>
    simp only[bE,mD];rw[if_pos];simp only[Oper.looksAt,Xf,decide_eq_true_eq,W6,Xq];exact .inl ⟨.tmp t,hx,rfl⟩
   |_=>rfl
  have gD:Rp n w0 g0 ⟨cM,(σ k0).V,(σ k0).A⟩ g a w:=⟨hD.inv,hD.fr,hD.size,hD.defers,hS _⟩;obtain⟨⟨uT,kn⟩,Da,_⟩:=lK j o ho;have oT:gX all ⟨cM,(σ k0).V,(σ k0).A⟩ o True True/\gw all ⟨cM,(σ k0).V,(σ k0).A⟩ o=gw all (σ j) o:=by
   unfold gX gw at*;cases nG:o.guard with
   |none=>simp
   |some jw=>
    obtain⟨q,want⟩:=jw;simp only[nG]at uT⊢;obtain⟨oq,h1,h2⟩:=cv uT;obtain⟨t,h3,h4⟩:=cv h2;have:look cM t=look (σ j).fr t:=by
     rw[mD,if_pos];simp only[Oper.looksAt,nG,Xf,decide_eq_true_eq,W6];exact .inr (by simp[h1,h3])
    simp only[h1,bS,h3,WR,this]at h4⊢;exact⟨h4,trivial⟩
  have ll:Region.wanted o (yielded all a.tmps)=gw all (σ j) o:=by
   rw[<-oT.2];have h0:=fO oT.1;have h1:=oT.1;unfold gX at h1;unfold gw;cases nG:o.guard with
   |none=>simp[Region.wanted,nG]
   |some jw=>
    obtain⟨q,want⟩:=jw;simp only[nG]at h1⊢;obtain⟨oq,h2,h3⟩:=cv h1;obtain⟨t,h4,h5⟩:=cv h3;obtain⟨x,h6,h7⟩:=cv h5;obtain⟨h8,h9⟩:=jq gD h2 h4 h6;simp only[h2,WR,h4,h6];split at h7
    ·rename_i b;simp[Region.wanted,nG,h8 b rfl]
    ·simp[Region.wanted,nG,h9 rfl]
    ·exact h7.elim
  have bN:∀i,(ae.setIfInBounds j true)[i]? =if i=j then some true else ae[i]? :=fun i=>by
   by_cases e:i=j
   ·subst e;simp[iZ]
   ·rw[if_neg e,XS (fun h=>e h.symm)]
  have cW:((WX all.size).filter fun i=> !(ae.setIfInBounds j true).getD i true).length<=fuel:=by
   have az:((WX all.size).filter fun i=> !(ae.setIfInBounds j true).getD i true).length<((WX all.size).filter fun i=> !ae.getD i true).length:=by
    have gq:∀i,(!(ae.setIfInBounds j true).getD i true)=true->(!ae.getD i true)=true:=fun i h=>by
     by_cases e:i=j
     ·subst e;simp[iZ]at h
     ·have:(ae.setIfInBounds j true).getD i true=ae.getD i true:=by
       simp only[XW,bN,if_neg e]
      rwa[this]at h
    exact filter_lt gq (Xa.2 rK) (by simp[mP]) (by simp[iZ])
   omega
  have cJ:∀(k1:Nat) (x:AV) (v:Value) (w':World) (g':Gh),look (σ (j+1)).fr=look ((σ j).put o.dst x [] []).fr->aV g' w' (σ k1).A x v->Inv g' w' (σ k1).V (σ k1).A->Ext g w (σ k0).A g' w' (σ k1).A->Fr w0 g0 w' g'->k1<=all.size->(k1=0\/∃i∈ws,k1=i+1)->
    (∀i∈ws,i<all.size->((ae.setIfInBounds j true)[i]? =some true↔i<k1))->yj all ws σ n w0 g0 (ae.setIfInBounds j true) k1 g' (a.put o.dst v) w':=by
   intro k1 x v w' g' CN yy hI hx hF hk Lt Fw;have iH:∀t u,o.dst≠some t->a.tmps[t]? =some u->(a.put o.dst v).tmps[t]? =some u:=fun t u dc hu=>by
    cases rI:o.dst with
    |none=>exact hu
    |some d=>
     simp only[Act.put];rw[XS (fun e=>dc (by rw[rI,e]))];exact hu
   refine⟨hI,hF,?_,?_,by simp[hD.ey],fun i oi t y aZ bC cg hy=>?_,fun t y fe hy=>?_,Fw,hk,Lt,fun i oi aZ bC e he hb=>?_⟩
   ·cases o.dst<;>simp[Act.put,hD.size]
   ·cases o.dst<;>simp[Act.put,hD.defers]
   ·rw[bN]at bC;by_cases e:i=j
    ·subst e;obtain rfl:o=oi:=by rw[ho]at aZ;exact Option.some.inj aZ
     rw[CN]at hy;simp only[St.put,cg,look,if_true]at hy;cases hy
     refine⟨v,?_,yy⟩;have:t<a.tmps.size:=by rw[hD.size];exact z8 i o t ho cg
     simp[Act.put,cg,this]
    ·rw[if_neg e]at bC;obtain⟨u,h1,h2⟩:=hD.fP i oi t y aZ bC cg hy;exact⟨u,iH t u (fun h=>e (q0 i j oi o t aZ ho cg h)) h1,aV.ext hx h2⟩
   ·have dc:o.dst≠some t:=fe j o ho (by rw[bN,if_pos rfl]);obtain⟨u,h1,h2⟩:=hD.fQ t y (fun i oi aZ bC=>fe i oi aZ (by
     rw[bN];by_cases e:i=j
     ·rw[if_pos e]
     ·rw[if_neg e];exact bC)) hy
    exact⟨u,iH t u dc h1,aV.ext hx h2⟩
   ·rw[bN]at bC⊢;have:ae[e.on]? =some true:=by
     by_cases e':i=j
     ·subst e';obtain rfl:o=oi:=by rw[ho]at aZ;exact Option.some.inj aZ
      exact cn e he hb
     ·rw[if_neg e']at bC;exact hD.closed i oi aZ bC e he hb
    by_cases e':e.on=j
    ·rw[if_pos e']
    ·rw[if_neg e'];exact this
  have gN:j∉ws->∀i∈ws,i<all.size->((ae.setIfInBounds j true)[i]? =some true↔i<k0):=fun ef i hi bZ=>by
   rw[bN,if_neg (fun e=>ef (by rw[<-e];exact hi))];exact hD.dY i hi bZ
  have kM:cL o.op=false->j∉fs->(σ j).V=(σ k0).V/\(σ j).A=(σ k0).A:=by
   intro fx nM;rcases XM j k0 with h|h
   ·have:=tE k0 j h hD.nF (fun i h1 h2 h3=>by
     have bZ:i<all.size:=by have:=hD.nF;omega
     have bC:=(hD.dY i h3 bZ).2 h2;have aZ:all[i]? =some all[i]:=XP bZ;rcases XE j i with h4|h4
     ·have hp:=bY j i o _ ho aZ h4 nM (l7 i h3);have hb:=bV i _ aZ bC;simp only[br,hb,Xz,XA]at hp;simp[h3,fx]at hp
     ·obtain rfl:i=j:=by omega
      rw[mQ]at bC;simp at bC)
    exact⟨this.1.symm,this.2.symm⟩
   ·exact tE j k0 h (by omega) (fun i h1 h2 h3=>by
     have bZ:i<all.size:=by omega
     have aZ:all[i]? =some all[i]:=XP bZ;have hp:=bY i j _ o aZ ho h2 (l7 i h3) nM;simp only[br,Xz,XA]at hp;have hb:((a7 all.toList []).getD j 0).testBit i=true:=by
      rcases hp.2 with h4|h4
      ·simp[h3,fx]at h4
      ·exact h4
     have:=(hD.dY i h3 bZ).1 (ck i hb);omega)
  unfold wpOp;simp only[ho];rcases kn with⟨h1,x,V,A,h2,h3,Fz⟩|⟨h1,h2⟩
  ·rw[if_pos (by rw[ll,h1])];refine .inl ?_;by_cases hs:cL o.op=true
   ·-- slots alone
    have ef:j∉ws:=fun h=>by have:=uX j o ho h;rw[hs]at this;simp at this
    have h4:bH P ⟨cM,(σ k0).V,(σ k0).A⟩ (ow j) o (fun y V' A'=>y=x/\V'=(σ k0).V/\A'=(σ k0).A):=nE (s:=σ j) (s':=⟨cM,(σ k0).V,(σ k0).A⟩) hs (gu _ _ _ _) h3 ⟨rfl,rfl,rfl⟩;obtain⟨y,V',A',⟨rfl,rfl,rfl⟩,h5⟩:=db gD.inv gD.fr gD.slot h4;refine h5 _ _ fun v w' g' h6 h7 h8 h9=>ih _ k0 g' _ w' cW (cJ k0 y v w' g' (by rw[h2];rfl) h6 h7 h8 h9 hD.nF hD.kw (gN ef))
   ·have fx:cL o.op=false:=by simpa using hs
    by_cases nM:j∈fs
    ·have ef:j∉ws:=fun h=>l7 j h nM
     have De:k0<=m:=by
      rcases hD.kw with h|⟨i,hi,hk⟩
      ·omega
      ·rcases XE i m with h|h
       ·omega
       ·exfalso
        have bZ:i<all.size:=by have:=hD.nF;omega
        have aZ:all[i]? =some all[i]:=XP bZ;have bC:=(hD.dY i hi bZ).2 (by omega);have KO:j<i:=by
         have:=I6 j nM i hi;simp at this;omega
        have hp:=fI j i o _ ho aZ KO;have hb:=bV i _ aZ bC;have s9:¬i<m:=by omega
        simp only[cC,hb,Xz,XA]at hp;simp[hi,fx,s9,nM,ef]at hp
     obtain⟨dG,Ad⟩:=Dd k0 De hD.nF;have h4:bH P ⟨cM,(σ k0).V,(σ k0).A⟩ (ow j) o (fun y V' A'=>y=x/\V'=(σ k0).V/\A'=(σ k0).A):=by
      have h5:=Fz nM (fun i=>(σ k0).V.getD i []) ((σ k0).V.drop V0.length) ((σ k0).A.drop A0.length);have e1:rN ex (fun i=>(σ k0).V.getD i []) V0++(σ k0).V.drop V0.length=(σ k0).V:=by
       rw[<-dG];exact Xm _ _
      have e2:A0++(σ k0).A.drop A0.length=(σ k0).A:=by conv=>lhs;arg 1;rw[<-Ad]
                                                       exact Xm _ _
      rw[e1,e2]at h5;exact dX (fr:=(σ j).fr) (gu _ _ _ _) h5
     obtain⟨y,V',A',⟨rfl,rfl,rfl⟩,h5⟩:=db gD.inv gD.fr gD.slot h4;exact h5 _ _ fun v w' g' h6 h7 h8 h9=>ih _ k0 g' _ w' cW (cJ k0 y v w' g' (by rw[h2];rfl) h6 h7 h8 h9 hD.nF hD.kw (gN ef))
    obtain⟨kC,gY⟩:=kM fx nM;have h4:bH P ⟨cM,(σ k0).V,(σ k0).A⟩ (ow j) o (fun y V' A'=>y=x/\V'=V/\A'=A):=by
     rw[<-kC,<-gY];exact dX (fr:=(σ j).fr) (gu _ _ _ _) (h3 _ ⟨rfl,rfl,rfl⟩)
    obtain⟨y,V',A',⟨rfl,rfl,rfl⟩,h5⟩:=db gD.inv gD.fr gD.slot h4;have s8:(σ (j+1)).V=V':=by rw[h2];rfl
    have iW:(σ (j+1)).A=A':=by rw[h2];rfl
    by_cases ef:j∈ws
    ·refine h5 _ _ fun v w' g' h6 h7 h8 h9=>ih _ (j+1) g' _ w' cW (cJ (j+1) y v w' g' (by rw[h2];rfl) (by rw[iW];exact h6) (by rw[s8,iW];exact h7) (by rw[iW];exact h8) h9 (by omega) (.inr ⟨j,ef,rfl⟩) (fun i hi bZ=>?_))
     have aZ:all[i]? =some all[i]:=XP bZ;rw[bN];by_cases e:i=j
     ·subst e;simp
     ·rw[if_neg e];constructor
      ·intro bC;rcases XE j i with h|h
       ·have hp:=bY j i o _ ho aZ h (l7 j ef) (l7 i hi);have hb:=bV i _ aZ bC;simp only[br,hb,Xz,XA]at hp;simp[hi,fx]at hp
       ·omega
      ·intro az;have hp:=bY i j _ o aZ ho (by omega) (l7 i hi) (l7 j ef);simp only[br,Xz,XA]at hp;rcases hp.2 with h|h
       ·simp[hi,fx]at h
       ·exact ck i h
    ·rcases Da with Da|⟨pZ,mC⟩
     ·exact absurd Da ef
     ·refine h5 _ _ fun v w' g' h6 h7 h8 h9=>ih _ k0 g' _ w' cW (cJ k0 y v w' g' (by rw[h2];rfl) ?_ ?_ ?_ h9 hD.nF hD.kw (gN ef))
      ·rw[<-gY,<-mC,iW];exact h6
      ·rw[<-kC,<-gY,<-pZ,<-mC,s8,iW];exact h7
      ·have e1:(σ k0).A=A':=by rw[<-gY,<-mC,iW]
       rw[e1]at h8⊢;exact h8
  ·rw[if_neg (by rw[ll,h1];simp)];have s8:(σ (j+1)).V=(σ j).V:=by rw[h2];rfl
   have iW:(σ (j+1)).A=(σ j).A:=by rw[h2];rfl
   by_cases ef:j∈ws
   ·have fx:=uX j o ho ef;obtain⟨kC,gY⟩:=kM fx (l7 j ef);refine ih _ (j+1) g _ w cW (cJ (j+1) (.c .undef) undef w g (by rw[h2];rfl) rfl ?_ ?_ hD.fr (by omega) (.inr ⟨j,ef,rfl⟩) (fun i hi bZ=>?_))
    ·rw[s8,iW,kC,gY];exact hD.inv
    ·rw[iW,gY];exact .refl _ _ _
    ·have aZ:all[i]? =some all[i]:=XP bZ;rw[bN];by_cases e:i=j
     ·subst e;simp
     ·rw[if_neg e];constructor
      ·intro bC;rcases XE j i with h|h
       ·have hp:=bY j i o _ ho aZ h (l7 j ef) (l7 i hi);have hb:=bV i _ aZ bC;simp only[br,hb,Xz,XA]at hp;simp[hi,fx]at hp
       ·omega
      ·intro az;have hp:=bY i j _ o aZ ho (by omega) (l7 i hi) (l7 j ef);simp only[br,Xz,XA]at hp;rcases hp.2 with h|h
       ·simp[hi,fx]at h
       ·exact ck i h
   ·exact ih _ k0 g _ w cW (cJ k0 (.c .undef) undef w g (by rw[h2];rfl) rfl hD.inv (.refl _ _ _) hD.fr hD.nF hD.kw (gN ef))
theorem T.sh {id:Nat} {ops:Array Oper} (hm:P.follows .mixedOrders=true) (ow:Nat->Bool) (ws fs:List Nat) (m:Nat) (ex:List Nat) (hd:iu ops ws fs m=true) (h:oG P ops ow ws fs m ex s.V s.A (fun s'=>Q .normal s') 0 ops.toList s):T P n (.region id ops true) Q s:=by
 intro eK w0 g0 g a w hR;obtain⟨σ,h0,hK,lK⟩:=lZ ops.toList 0 s h;obtain⟨hI,hx⟩:=hR.inv.heap (w':={w with drawn:=w.drawn+1}) rfl;refine wp_region_any hm (Bt (ex:=ex) (K:=fun s'=>Q .normal s') (w0:=w0) (g0:=g0) (n:=n) (σ:=σ) (ow:=ow) hd eK (fun j o ho=>?_) ⟨by rw[h0],by rw[h0]⟩ ?_ (fun s' g' a' w' h1 h2=>⟨s',g',h1,h2⟩) ops.size (XU ops.size false) 0 g a _ ?_ ?_)
 ·have:=lK j o (by simpa using ho);simpa only[XH]using this
 ·simpa using hK
 ·exact XG (Xt _ _) (by simp)
 ·refine⟨by rw[h0];exact hI,hR.fr.heap rfl rfl rfl rfl,hR.size,hR.defers,by simp,fun i o t x ho hl=>?_,fun t x _ gp=>?_,fun i _ bZ=>?_,XF _,.inl rfl,fun i o ho hl=>?_⟩
  ·have hi:=(XQ.1 ho).1;simp[hi]at hl
  ·rw[h0]at gp⊢;obtain⟨u,h1,h2⟩:=hR.slot t x gp;exact⟨u,h1,aV.ext hx h2⟩
  ·simp[bZ]
  ·have hi:=(XQ.1 ho).1;simp[hi]at hl
end
end Go.Av
