/- A part. -/
import Derived.Test.YtloolmchekcmeaaGreatXD1
set_option linter.unusedVariables false
set_option linter.unusedSimpArgs false
open Option renaming map_eq_some_iff->WQ,bind_some->WR
open List renaming getElem?_eq_some_iff->WS,getElem?_append_right->WU,getElem?_append_left->WV,getElem?_eq_getElem->WW,range->WX,getElem?_map->WY,mem_of_getElem?->WZ,getD->W0,getElem?_of_mem->W1,mem_cons->W2,flatMap_cons->W3,nodup_nil->W4,mem_append->W5,length_append->W6,all_eq_true->W7,map_cons->W8,append_nil->W9,mem_range->Xa,length_take->Xb,length_map->Xc,getElem?_inj->Xd,getElem?_eq_none->Xe,foldl_cons->Xf,eq_nil_of_length_eq_zero->Xg,contains_eq_mem->Xh,take_add_one->Xi,set_append_right->Xj,nodup_cons->Xk,mem_map->Xl,mem_filter->Xm,mem_cons_of_mem->Xn,length_eq_one_iff->Xo,take_append_drop->Xp,sizeOf_lt_of_mem->Xq,replicate->Xr,mem_iff_getElem?->Xs,mem_filterMap->Xt,map_map->Xu,map_append->Xv,length_nil->Xw,length_filter_le->Xx,getElem?_zipIdx->Xy,getElem?_drop->Xz,getElem?_cons_succ->XA,ext_getElem?->XB,append_assoc->XC,all_cons->XD
open Bool renaming and_eq_true->XE,or_eq_true->XF,false_eq_true->XG,not_eq_true'->XH
open Nat renaming le_refl->XI,lt_or_ge->XJ,zero_le->XK,le_trans->XL,zero_add->XM,strongRecOn->XN,lt_trichotomy->XO,lt_of_lt_of_le->XP,testBit_or->XQ,le_total->XR,add_sub_cancel_left->XS,add_assoc->XT
open Array renaming getElem?_eq_getElem->XU,getElem?_eq_some_iff->XV,mem_toList_iff->XW,getElem?_setIfInBounds_ne->XX,length_toList->XY,replicate->XZ,mem_of_getElem?->X0,getD_eq_getD_getElem?->X1,empty_append->X2
namespace Go.Av
open Go
def pos?:List Nat->Nat->Option Nat
 |[],_=>none
 |x::r,l=>if l=x then some 0 else(pos? r l).map (·+1)
def vW (ids:List Nat):List Nat->Option (List Nat)
 |[]=>some []
 |l::r=>match pos? ids l,vW ids r with
  |some i,some is=>some (i::is)
  |_,_=>none
def CV.j4 (A:List bu) (ids:List Nat):CV->Option CV
 |.d x=>some (.d x)
 |.nil=>some (.d (.sl []))
 |.own k n=>(mN A (.own k n)).map CV.d
 |.ptr l off=>(pos? ids l).map fun i=>.ptr i off
 |.np=>some .np
 |.ip row off=>some (.ip row off)
 |.op _ _ _ _=>none
 |.fn f cap=>(vW ids cap).map fun is=>.fn f is
 |.undef=>none
def qg (A:List bu) (ids:List Nat):List CV->Option (List CV)
 |[]=>some []
 |c::r=>match c.j4 A ids,qg A ids r with
  |some d,some ds=>some (d::ds)
  |_,_=>none
def AV.j4 (A:List bu) (ids:List Nat):AV->Option AV
 |.c x=>(x.j4 A ids).map AV.c
 |.agg xs=>(qg A ids xs).map AV.agg
 |.aZ _=>none
def ja (A:List bu) (ids:List Nat):List AV->Option (List AV)
 |[]=>some []
 |c::r=>match c.j4 A ids,ja A ids r with
  |some d,some ds=>some (d::ds)
  |_,_=>none
def j5 (A:List bu) (V:List (List CV)) (ids:List Nat):List Nat->Option (List (List CV))
 |[]=>some []
 |l::r=>match V[l]?,j5 A V ids r with
  |some row,some rs=>match qg A ids row with
   |some row'=>some (row'::rs)
   |none=>none
  |_,_=>none
def back (ids:List Nat) (nV:Nat) (i:Nat):Nat:=match ids[i]? with
 |some l=>l
 |none=>nV+(i-ids.length)
def CV.gn (ids:List Nat) (nV nA:Nat):CV->CV
 |.ptr i off=>.ptr (back ids nV i) off
 |.own k n=>.own (nA+k) n
 |.op k n i off=>.op (nA+k) n i off
 |.fn f cap=>.fn f (cap.map (back ids nV))
 |c=>c
def AV.gn (ids:List Nat) (nV nA:Nat):AV->AV
 |.c x=>.c (x.gn ids nV nA)
 |.agg xs=>.agg (xs.map (CV.gn ids nV nA))
 |.aZ xs=>.aZ (xs.map fun x=>match x with
  |.c x=>.c (x.gn ids nV nA)
  |.agg xs=>.agg (xs.map (CV.gn ids nV nA))
  |x=>x)
def df (nA nV:Nat) (ids:List Nat):List (List CV)->List Nat->List (List CV)->List (List CV)
 |V,l::ls,row::rows=>df nA nV ids (V.set l (row.map (CV.gn ids nV nA))) ls rows
 |V,[],rows=>V++rows.map fun row=>row.map (CV.gn ids nV nA)
 |V,_::_,[]=>V
def bB (xs:List AV):List CV:=xs.flatMap AV.cells
def bX (V:List (List CV)) (ids:List Nat):List CV:=ids.flatMap fun l=>V.getD l []
def ah (P:Program) (f:FuncId) (as:List AV) (V:List (List CV)) (r:AV) (V':List (List CV)) (A':List bu):Prop:=
 (∀args w,(callFunc f args).run P w=.ok (.enter f args) w)/\V.length<=V'.length/\
 ∀(g:Gh) (w:World) (vs:Array Value),g.ar=[]->Inv g w V []->As w g->vs.size=as.length->(∀(i:Nat) x u,as[i]? =some x->vs[i]? =some u->aR g w [] x u)->
  Calls P f vs w fun e w'=>∃v g',e=.returned v/\aR g' w' A' r v/\Inv g' w' V' A'/\Fr w g w' g'
def DN (P:Program) (s:St) (f:FuncId) (xs:List AV) (K:AV->List (List CV)->List bu->Prop):Prop:=
 ∃(ids:List Nat) (as:List AV) (Vc:List (List CV)) (r:AV) (Vc':List (List CV)) (Ac':List bu),ids.Nodup/\ja s.A ids xs=some as/\j5 s.A s.V ids ids=some Vc/\ah P f as Vc r Vc' Ac'/\
  K (r.gn ids s.V.length s.A.length) (df s.A.length s.V.length ids s.V ids Vc') (bO s.A (bB xs++bX s.V ids)++Ac')
def rK:bu:=⟨0,0,[],false⟩
def qh {α:Type} (l:List α):List Nat->List α->List α
 |h::hs,v::vs=>qh (l.set h v) hs vs
 |_,_=>l
def CV.dw (hs:List Nat):CV->Option CV
 |.d x=>some (.d x)
 |.nil=>some (.d (.sl []))
 |.own k n=>(pos? hs k).map fun i=>.own i n
 |.np=>some .np
 |.ip row off=>some (.ip row off)
 |.fn f []=>some (.fn f [])
 |_=>none
def fR (hs:List Nat):List CV->Option (List CV)
 |[]=>some []
 |c::r=>match c.dw hs,fR hs r with
  |some d,some ds=>some (d::ds)
  |_,_=>none
def AV.dw (hs:List Nat):AV->Option AV
 |.c x=>(x.dw hs).map AV.c
 |.agg xs=>(fR hs xs).map AV.agg
 |.aZ _=>none
def ef (hs:List Nat):List AV->Option (List AV)
 |[]=>some []
 |c::r=>match c.dw hs,ef hs r with
  |some d,some ds=>some (d::ds)
  |_,_=>none
def CV.cJ (hs:List Nat) (nA:Nat):CV->CV
 |.own k n=>.own (back hs nA k) n
 |.op k n i off=>.op (back hs nA k) n i off
 |c=>c
def AV.cJ (hs:List Nat) (nA:Nat):AV->AV
 |.c x=>.c (x.cJ hs nA)
 |.agg xs=>.agg (xs.map (CV.cJ hs nA))
 |.aZ xs=>.aZ (xs.map fun x=>match x with
  |.c x=>.c (x.cJ hs nA)
  |.agg xs=>.agg (xs.map (CV.cJ hs nA))
  |x=>x)
def eW (P:Program) (f:FuncId) (as:List AV) (V:List (List CV)) (A0:List bu) (r:AV) (V':List (List CV)) (A':List bu):Prop:=
 (∀args w,(callFunc f args).run P w=.ok (.enter f args) w)/\V.length<=V'.length/\
 ∀(g:Gh) (w:World) (vs:Array Value),Inv g w V A0->As w g->vs.size=as.length->(∀(i:Nat) x u,as[i]? =some x->vs[i]? =some u->aR g w A0 x u)->
  Calls P f vs w fun e w'=>∃v g',e=.returned v/\aR g' w' A' r v/\Inv g' w' V' A'/\Fr w g w' g'
def DO (P:Program) (s:St) (f:FuncId) (xs:List AV) (K:AV->List (List CV)->List bu->Prop):Prop:=
 ∃(hs:List Nat) (as:List AV) (r:AV) (Ac':List bu),hs.Nodup/\(∀(i h:Nat),hs[i]? =some h->∃a a',s.A[h]? =some a/\a.wr=true/\Ac'[i]? =some a'/\a'.sz=a.sz)/\ef hs xs=some as/\
  eW P f as [] (hs.map fun h=>s.A.getD h rK) r [] Ac'/\K (r.cJ hs s.A.length) s.V (qh s.A hs Ac'++Ac'.drop hs.length)
def je (P:Program) (s:St) (f:FuncId) (xs:List AV) (K:AV->List (List CV)->List bu->Prop):Prop:=DN P s f xs K\/DO P s f xs K
section
variable {P:Program} {g g' g0:Gh} {w w' w0:World} {V V':List (List CV)} {A A':List bu} {s:St} {a:Act} {K:AV->List (List CV)->List bu->Prop}
theorem mg:∀{ids:List Nat} {l i:Nat},pos? ids l=some i->ids[i]? =some l
 |[],l,i,h=>by simp[pos?]at h
 |x::r,l,i,h=>by
  simp only[pos?]at h;split at h
  ·rename_i e;simp at h;subst h;simp[e]
  ·simp only[WQ]at h;obtain⟨j,h1,rfl⟩:=h;simpa using mg h1
theorem yv:∀{ids cap is:List Nat},vW ids cap=some is->is.length=cap.length/\∀(j l i:Nat),cap[j]? =some l->is[j]? =some i->ids[i]? =some l
 |ids,[],is,h=>by simp[vW]at h;subst h;exact⟨rfl,fun j l i h=>by simp at h⟩
 |ids,c::r,is,h=>by
  simp only[vW]at h;split at h
  ·rename_i i is' h1 h2;simp at h;subst h;obtain⟨h3,h4⟩:=yv h2;refine⟨by simp[h3],fun j l i h5 h6=>?_⟩;cases j with
   |zero=>simp at h5 h6;subst h5;subst h6;exact mg h1
   |succ j=>simp at h5 h6;exact h4 j l i h5 h6
  ·simp at h
theorem yw:∀{cs:List CV} {vs:List Value} {g:Gh} {A:List bu},Inv g w V A->Fr w0 g0 w g->jG g w A cs vs->(∀k n,CV.own k n∈cs->(mN A (.own k n)).isSome=true)->
  ∃g',Inv g' w V (bO A cs)/\Ext g w A g' w (bO A cs)/\Fr w0 g0 w g'/\g'.ar=g.ar/\g'.ob=g.ob/\∀(j:Nat) c x u,cs[j]? =some c->vs[j]? =some u->mN A c=some x->a6 g'.im w x u
 |[],vs,g,A,hI,hF,hr,hd=>⟨g,hI,.refl _ _ _,hF,rfl,rfl,fun j c x u h=>by simp at h⟩
 |c::r,vs,g,A,hI,hF,hr,hd=>by
  cases vs with
  |nil=>exact absurd hr.1 (by simp)
  |cons v vs=>
   have uT:∃g1,Inv g1 w V (fu A c)/\Ext g w A g1 w (fu A c)/\Fr w0 g0 w g1/\g1.ar=g.ar/\g1.ob=g.ob/\∀x,mN A c=some x->a6 g1.im w x v:=by
    have Pd:=hr.2 0 c v rfl rfl;cases ht:mN A c with
    |some x=>
     obtain⟨g1,h1,h2,h3,h4,h5,h6⟩:=rH hI hF Pd ht;exact⟨g1,h1,h2,h3,h4,h5,fun y hy=>by simp at hy;subst hy;exact h6⟩
    |none=>
     have cY:fu A c=A:=by
      cases c<;>try rfl
      rename_i k n;have:=hd k n (by simp);rw[ht]at this;simp at this
     rw[cY];exact⟨g,hI,.refl _ _ _,hF,rfl,rfl,fun y hy=>by simp at hy⟩
   obtain⟨g1,e9,lu,jS,xX,pG,gE⟩:=uT;have At:jG g1 w (fu A c) r vs:=⟨by simpa using hr.1,fun j c' u h3 h4=>bc.ext lu (hr.2 (j+1) c' u (by simpa using h3) (by simpa using h4))⟩;obtain⟨g2,Az,lr,Ck,P1,l7,oG⟩:=yw e9 jS At (fun k n h=>by rw[sR];exact hd k n (by simp[h]));refine⟨g2,Az,lu.trans lr,Ck,P1.trans xX,l7.trans pG,fun j c' x u h3 h4 h5=>?_⟩;cases j with
   |zero=>simp at h3 h4;subst h3;subst h4;exact a6.ft lr.gr _ _ (gE x h5)
   |succ j=>simp at h3 h4;exact oG j c' x u h3 h4 (by rw[sR];exact h5)
theorem CV.DP {ids:List Nat} {k n:Nat} {d:CV} (h:CV.j4 A ids (.own k n)=some d):(mN A (.own k n)).isSome=true:=by
 simp only[CV.j4,WQ]at h;obtain⟨x,hx,_⟩:=h;simp[hx]
theorem vX {ids:List Nat}:∀{cs ds:List CV},qg A ids cs=some ds->∀k n,CV.own k n∈cs->(mN A (.own k n)).isSome=true
 |[],ds,h,k,n,hm=>by simp at hm
 |c::r,ds,h,k,n,hm=>by
  simp only[qg]at h;split at h
  ·rename_i d ds' h1 h2;simp only[W2]at hm;rcases hm with rfl|hm
   ·exact CV.DP h1
   ·exact vX h2 k n hm
  ·simp at h
theorem rL {ids:List Nat}:∀{cs ds:List CV},qg A ids cs=some ds->ds.length=cs.length/\∀(j:Nat) c d,cs[j]? =some c->ds[j]? =some d->c.j4 A ids=some d
 |[],ds,h=>by simp[qg]at h;subst h;exact⟨rfl,fun j c d h=>by simp at h⟩
 |c::r,ds,h=>by
  simp only[qg]at h;split at h
  ·rename_i d ds' h1 h2;simp at h;subst h;obtain⟨h3,h4⟩:=rL h2;refine⟨by simp[h3],fun j c' d' h5 h6=>?_⟩;cases j with
   |zero=>simp at h5 h6;subst h5;subst h6;exact h1
   |succ j=>simp at h5 h6;exact h4 j c' d' h5 h6
  ·simp at h
theorem AK {ids:List Nat}:∀{xs as:List AV},ja A ids xs=some as->as.length=xs.length/\∀(j:Nat) x y,xs[j]? =some x->as[j]? =some y->x.j4 A ids=some y
 |[],as,h=>by simp[ja]at h;subst h;exact⟨rfl,fun j x y h=>by simp at h⟩
 |c::r,as,h=>by
  simp only[ja]at h;split at h
  ·rename_i d ds' h1 h2;simp at h;subst h;obtain⟨h3,h4⟩:=AK h2;refine⟨by simp[h3],fun j c' d' h5 h6=>?_⟩;cases j with
   |zero=>simp at h5 h6;subst h5;subst h6;exact h1
   |succ j=>simp at h5 h6;exact h4 j c' d' h5 h6
  ·simp at h
theorem AL {ids:List Nat}:∀{ls:List Nat} {Vc:List (List CV)},j5 A V ids ls=some Vc->Vc.length=ls.length/\∀(i l:Nat) row',ls[i]? =some l->Vc[i]? =some row'->∃row,V[l]? =some row/\qg A ids row=some row'
 |[],Vc,h=>by simp[j5]at h;subst h;exact⟨rfl,fun i l row' h=>by simp at h⟩
 |l::r,Vc,h=>by
  simp only[j5]at h;split at h
  ·rename_i row rs h1 h2;split at h
   ·rename_i row' h3;simp at h;subst h;obtain⟨h4,h5⟩:=AL h2;refine⟨by simp[h4],fun i l' rw' h6 h7=>?_⟩;cases i with
    |zero=>simp at h6 h7;subst h6;subst h7;exact⟨row,h1,h3⟩
    |succ i=>simp at h6 h7;exact h5 i l' rw' h6 h7
   ·simp at h
  ·simp at h
theorem sY {ids:List Nat} {g1 gc:Gh} {c d:CV} {u:Value} (h:c.j4 A ids=some d) (hr:bc g1 w A' c u) (hd:∀x,mN A c=some x->a6 g1.im w x u) (F7:∀(i l b:Nat),ids[i]? =some l->g1.ob[l]? =some b->gc.ob[i]? =some b) (qo:gc.im=g1.im):bc gc w [] d u:=by
 cases c with
 |d x=>simp[CV.j4]at h;subst h;simp only[bc]at hr⊢;rw[qo];exact hr
 |nil=>simp[CV.j4]at h;subst h;simp only[bc];rw[qo];exact hd _ rfl
 |own k n=>
  simp only[CV.j4,WQ]at h;obtain⟨x,hx,rfl⟩:=h;simp only[bc];rw[qo];exact hd x hx
 |ptr l off=>
  simp only[CV.j4,WQ]at h;obtain⟨i,hi,rfl⟩:=h;obtain⟨b,hb,e⟩:=hr;exact⟨b,F7 i l b (mg hi) hb,e⟩
 |np=>simp[CV.j4]at h;subst h;exact hr
 |ip row off=>
  simp[CV.j4]at h;subst h;obtain⟨b,o,e,h1,h2⟩:=hr;exact⟨b,o,e,by rw[qo];exact h1,by rw[qo];exact h2⟩
 |op k n i off=>simp[CV.j4]at h
 |fn f cap=>
  simp only[CV.j4,WQ]at h;obtain⟨is,hi,rfl⟩:=h;obtain⟨bks,e,hl,hb⟩:=hr;obtain⟨h1,h2⟩:=yv hi;refine⟨bks,e,by omega,fun j i b h3 h4=>?_⟩;have hj:j<cap.length:=by have:=(WS.1 h3).1;omega
  have hc:cap[j]? =some cap[j]:=WW hj;exact F7 i _ b (h2 j _ i hc h3) (hb j _ b hc h4)
 |undef=>simp[CV.j4]at h
theorem CA {ids:List Nat} {nV nA:Nat} {Ac' A2:List bu} {g2:Gh} {c:CV} {u:Value} (hr:bc g' w Ac' c u) (F7:∀(i b:Nat),g'.ob[i]? =some b->g2.ob[back ids nV i]? =some b) (qo:g2.im=g'.im)
  (hA:∀(k:Nat) r,Ac'[k]? =some r->A2[nA+k]? =some r) (K6:∀(k:Nat) v,g'.ar[k]? =some v->g2.ar[nA+k]? =some v):bc g2 w A2 (c.gn ids nV nA) u:=by
 cases c with
 |d x=>simp only[CV.gn,bc]at hr⊢;rw[qo];exact hr
 |own k n=>
  obtain⟨ad,cap,e,r,h1,h2,h3⟩:=hr;exact⟨ad,cap,e,r,hA k r h1,h2,fun h=>K6 k _ (h3 h)⟩
 |ptr l off=>
  obtain⟨b,hb,e⟩:=hr;exact⟨b,F7 l b hb,e⟩
 |ip row off=>
  obtain⟨b,o,e,h1,h2⟩:=hr;exact⟨b,o,e,by rw[qo];exact h1,by rw[qo];exact h2⟩
 |op k n i off=>
  obtain⟨b,e,hv,r,h1,h2,h3⟩:=hr;refine⟨b,e,hv,r,hA k r h1,h2,fun h=>?_⟩;obtain⟨cap,h4,h5⟩:=h3 h;exact⟨cap,K6 k _ h4,h5⟩
 |fn f cap=>
  obtain⟨bks,e,hl,hb⟩:=hr;refine⟨bks,e,by simpa using hl,fun i l b h1 h2=>?_⟩;simp only[WY,WQ]at h1;obtain⟨l',h3,rfl⟩:=h1;exact F7 l' b (hb i l' b h3 h2)
 |_=>exact hr
theorem ub {nA nV:Nat} {ids:List Nat}:∀{V:List (List CV)} {ls:List Nat} {rows:List (List CV)},ls.length<=rows.length->(df nA nV ids V ls rows).length=V.length+(rows.length-ls.length)
 |V,[],rows,_=>by simp[df]
 |V,l::ls,[],h=>by simp at h
 |V,l::ls,row::rows,h=>by
  simp only[df];rw[ub (by simpa using h)];simp
theorem vY {nA nV:Nat} {ids:List Nat}:∀{V:List (List CV)} {ls:List Nat} {rows:List (List CV)},ls.length<=rows.length->ls.Nodup->(∀l∈ls,l<V.length)->∀(l:Nat) row,(df nA nV ids V ls rows)[l]? =some row->
  (∃(i:Nat) (row':List CV),ls[i]? =some l/\rows[i]? =some row'/\row=row'.map (CV.gn ids nV nA))\/(l∉ls/\l<V.length/\V[l]? =some row)\/(V.length<=l/\∃row':List CV,rows[ls.length+(l-V.length)]? =some row'/\row=row'.map (CV.gn ids nV nA))
 |V,[],rows,_,_,_,l,row,h=>by
  simp only[df]at h;by_cases hl:l<V.length
  ·rw[WV hl]at h;exact .inr (.inl ⟨by simp,hl,h⟩)
  ·rw[WU (by omega),WY,WQ]at h;obtain⟨row',h1,rfl⟩:=h;exact .inr (.inr ⟨by omega,row',by simpa using h1,rfl⟩)
 |V,l0::ls,[],h,_,_,_,_,_=>by simp at h
 |V,l0::ls,row0::rows,hlen,l8,ax,l,row,h=>by
  simp only[df]at h;rw[Xk]at l8;have Iz:l0<V.length:=ax l0 (by simp);have hV:V[l0]? =some V[l0]:=WW Iz;rcases vY (by simpa using hlen) l8.2 (fun l hl=>by simpa using ax l (by simp[hl])) l row h with⟨i,row',h1,h2,h3⟩|⟨h1,h2,h3⟩|⟨h1,row',h2,h3⟩
  ·exact .inl ⟨i+1,row',by simpa using h1,by simpa using h2,h3⟩
  ·rw[dc hV]at h3;by_cases e:l=l0
   ·subst e;simp at h3;exact .inl ⟨0,row0,rfl,rfl,h3.symm⟩
   ·rw[if_neg e]at h3;exact .inr (.inl ⟨by simp[e,h1],by simpa using h2,h3⟩)
  ·simp at h1 h2;refine .inr (.inr ⟨h1,row',?_,h3⟩);rw[List.length_cons,show ls.length+1+(l-V.length)=(ls.length+(l-V.length))+1 by omega,XA];exact h2
set_option maxHeartbeats 1000000 in
theorem x6 (hI:Inv g w s.V s.A) (hF:Fr w0 g0 w g) {f:FuncId} {xs:List AV} {vs:Array Value} (hl:vs.size=xs.length) (hr:∀(i:Nat) x u,xs[i]? =some x->vs[i]? =some u->aR g w s.A x u) (h:DN P s f xs K):
  (∀args w,(callFunc f args).run P w=.ok (.enter f args) w)/\∃x V' A',K x V' A'/\Calls P f vs w fun e w'=>∃v g',e=.returned v/\aR g' w' A' x v/\Inv g' w' V' A'/\Ext g w s.A g' w' A'/\Fr w0 g0 w' g':=by
 obtain⟨ids,as,Vc,r,Vc',Ac',l8,has,TO,⟨GJ,hlen,gV⟩,hK⟩:=h;refine⟨GJ,_,_,_,hK,?_⟩;obtain⟨Qi,GK⟩:=AK has;obtain⟨K7,MA⟩:=AL TO;have GL:∀l∈ids,l<s.V.length:=fun l GF=>by
  obtain⟨i,hi⟩:=W1 GF;have Au:=(WS.1 hi).1;obtain⟨row,h1,_⟩:=MA i l _ hi (WW (show i<Vc.length by omega));exact(WS.1 h1).1
 have oL:∀(l:List AV) (us:List Value),us.length=l.length->(∀(i:Nat) x u,l[i]? =some x->us[i]? =some u->aR g w s.A x u)->(∀x∈l,∃y,x.j4 s.A ids=some y)->
   jG g w s.A (bB l) (us.flatMap fun u=>u.cells.toList)/\∀k n,CV.own k n∈bB l->(mN s.A (.own k n)).isSome=true:=by
  intro l;induction l with
  |nil=>intro us h1 _ _;have:us=[]:=Xg (by simpa using h1);subst this;exact⟨⟨rfl,fun j c u h=>by simp[bB]at h⟩,fun k n h=>by simp[bB]at h⟩
  |cons x l ih=>
   intro us h1 h2 h3;cases us with
   |nil=>simp at h1
   |cons u us=>
    obtain⟨⟨h4,h5⟩,h6⟩:=ih us (by simpa using h1) (fun i x u h7 h8=>h2 (i+1) x u (by simpa using h7) (by simpa using h8)) (fun x hx=>h3 x (by simp[hx]));obtain⟨y,hy⟩:=h3 x (by simp);have MB:=h2 0 x u rfl rfl;have og:jG g w s.A x.cells u.cells.toList:=by
     refine(AV.fZ MB ?_).1;cases x with
     |c c=>simp only[AV.j4,WQ]at hy;obtain⟨d,hd,_⟩:=hy;cases c<;>first|rfl|simp[CV.j4]at hd
     |agg cs=>
      simp only[AV.j4,WQ]at hy;obtain⟨ds,hd,_⟩:=hy;simp only[AV.plain,W7,XH];intro c hc;obtain⟨j,hj⟩:=W1 hc;obtain⟨h9,cv⟩:=rL hd;have iP:j<ds.length:=by have:=(WS.1 hj).1;omega
      have:=cv j c _ hj (WW iP);cases c<;>first|rfl|simp[CV.j4]at this
     |aZ ys=>simp[AV.j4]at hy
    refine⟨⟨by simp only[bB,W3,W6]at h4⊢;have:=og.1;omega,fun j c v h7 h8=>?_⟩,fun k n h7=>?_⟩
    ·simp only[bB,W3]at h7 h8;by_cases hj:j<x.cells.length
     ·rw[WV hj]at h7;rw[WV (by rw[og.1];exact hj)]at h8;exact og.2 j c v h7 h8
     ·rw[WU (by omega)]at h7;rw[WU (by rw[og.1];omega),og.1]at h8;exact h5 _ c v h7 h8
    ·simp only[bB,W3,W5]at h7;rcases h7 with h7|h7
     ·cases x with
      |c c=>
       simp[AV.cells]at h7;subst h7;simp only[AV.j4,WQ]at hy;obtain⟨d,hd,_⟩:=hy;exact CV.DP hd
      |agg cs=>
       simp only[AV.j4,WQ]at hy;obtain⟨ds,hd,_⟩:=hy;exact vX hd k n h7
      |aZ ys=>simp[AV.cells]at h7
     ·exact h6 k n h7
 obtain⟨IB,TP⟩:=oL xs vs.toList (by simpa using hl) (fun i x u h1 h2=>hr i x u h1 (by simpa using h2)) (fun x hx=>by
  obtain⟨i,hi⟩:=W1 hx;have:i<as.length:=by have:=(WS.1 hi).1;omega
  exact⟨_,GK i x _ hi (WW this)⟩)
 have Nf:∀ls:List Nat,(∀l∈ls,l∈ids)->∃us:List Value,jG g w s.A (bX s.V ls) us/\(∀k n,CV.own k n∈bX s.V ls->(mN s.A (.own k n)).isSome=true)/\
   ∀(l:Nat) row b,l∈ls->s.V[l]? =some row->g.ob[l]? =some b->∃cs ty,w.heap[b]? =some (.cells cs ty (0,0))/\cs.size=row.length/\∃o,∀(j:Nat) c u,row[j]? =some c->cs[j]? =some u->(bX s.V ls)[o+j]? =some c/\us[o+j]? =some u:=by
  intro ls;induction ls with
  |nil=>intro _;exact⟨[],⟨rfl,fun j c u h=>by simp[bX]at h⟩,fun k n h=>by simp[bX]at h,fun l row b h=>by simp at h⟩
  |cons l0 ls ih=>
   intro ga;obtain⟨us,⟨h1,h2⟩,h3,h4⟩:=ih (fun l hl=>ga l (by simp[hl]));have Iz:=GL l0 (ga l0 (by simp));have DQ:s.V[l0]? =some s.V[l0]:=WW Iz;have GM:g.ob[l0]? =some (g.ob[l0]'(by rw[hI.oe];exact Iz)):=WW _;obtain⟨_,cs0,ty0,TQ,IC,I0⟩:=hI.obj l0 _ _ DQ GM;have uW:s.V.getD l0 []=s.V[l0]:=by simp[W0,DQ]
   have kT:bX s.V (l0::ls)=s.V[l0]++bX s.V ls:=by simp only[bX,W3,uW]
   refine⟨cs0.toList++us,?_,?_,?_⟩
   ·rw[kT];refine⟨by simp[h1,IC],fun j c u h5 h6=>?_⟩;by_cases hj:j<s.V[l0].length
    ·rw[WV hj]at h5;rw[WV (by simp;omega)]at h6;exact I0 j c u h5 (by simpa using h6)
    ·rw[WU (by omega)]at h5;rw[WU (by simp;omega)]at h6;exact h2 _ c u h5 (by simpa[IC]using h6)
   ·rw[kT];intro k n hm;rcases W5.1 hm with hm|hm
    ·obtain⟨i,hi⟩:=W1 (ga l0 (by simp));have Au:=(WS.1 hi).1;obtain⟨row,h5,h6⟩:=MA i l0 _ hi (WW (show i<Vc.length by omega));rw[DQ]at h5;cases h5;exact vX h6 k n hm
    ·exact h3 k n hm
   ·intro l row b F8 ev hb;rw[kT];by_cases e:l=l0
    ·subst e;rw[DQ]at ev;cases ev;rw[GM]at hb;cases hb;refine⟨cs0,ty0,TQ,IC,0,fun j c u h5 h6=>?_⟩;have hj:=(WS.1 h5).1;rw[XM,WV hj,WV (by simp;omega)];exact⟨h5,by simpa using h6⟩
    ·simp only[W2,e,false_or]at F8;obtain⟨cs,ty,h5,h6,o,h7⟩:=h4 l row b F8 ev hb;refine⟨cs,ty,h5,h6,s.V[l0].length+o,fun j c u h8 h9=>?_⟩;obtain⟨cv,ep⟩:=h7 j c u h8 h9;rw[XT,WU (by omega),WU (by simp;omega)];simp only[XS,XY,IC];exact⟨cv,ep⟩
 obtain⟨us,Qj,TR,TS⟩:=Nf ids (fun _ h=>h);have x7:jG g w s.A (bB xs++bX s.V ids) ((vs.toList.flatMap fun u=>u.cells.toList)++us):=by
  refine⟨by simp only[W6];have:=IB.1;have:=Qj.1;omega,fun j c u h1 h2=>?_⟩;by_cases hj:j<(bB xs).length
  ·rw[WV hj]at h1;rw[WV (by rw[IB.1];exact hj)]at h2;exact IB.2 j c u h1 h2
  ·rw[WU (by omega)]at h1;rw[WU (by rw[IB.1];omega),IB.1]at h2;exact Qj.2 _ c u h1 h2
 obtain⟨g1,e9,lu,jS,xX,pG,gE⟩:=yw hI hF x7 (fun k n hm=>by
  rcases W5.1 hm with hm|hm
  ·exact TP k n hm
  ·exact TR k n hm)
 let gc:Gh:={ob:=ids.map fun l=>g1.ob.getD l 0,ar:=[],im:=g1.im}
 have GO:∀(i l b:Nat),ids[i]? =some l->g1.ob[l]? =some b->gc.ob[i]? =some b:=fun i l b h1 h2=>by
  simp[gc,h1,h2]
 have nS:∀(i b:Nat),gc.ob[i]? =some b->∃l,ids[i]? =some l/\g1.ob[l]? =some b:=fun i b h1=>by
  simp only[gc,WY,WQ]at h1;obtain⟨l,h2,h3⟩:=h1;have x8:l<g1.ob.length:=by rw[e9.oe];exact GL l (WZ h2)
  exact⟨l,h2,by rw[<-h3];simp[W0,x8]⟩
 have GP:Inv gc w Vc []:=by
  refine⟨by simp[gc,K7],rfl,fun i row' b h1 h2=>?_,fun k r v h1=>by simp at h1,fun i i' b h1 h2=>?_,fun k k' v v' b h1=>by simp[gc]at h1,fun l k v b _ h2=>by simp[gc]at h2,e9.fresh⟩
  ·obtain⟨l,h3,h4⟩:=nS i b h2;obtain⟨row,h5,h6⟩:=MA i l row' h3 h1;have hb:g.ob[l]? =some b:=by rw[<-pG];exact h4
   obtain⟨cs,ty,h7,h8,o,h9⟩:=TS l row b (WZ h3) h5 hb;obtain⟨cv,ep⟩:=rL h6;refine⟨(e9.obj l row b h5 h4).1,cs,ty,h7,by omega,fun j d u fG dn=>?_⟩;have hj:j<row.length:=by have:=(WS.1 fG).1;omega
   have hc:row[j]? =some row[j]:=WW hj;obtain⟨fX,qu⟩:=h9 j _ u hc dn;refine sY (ep j _ d hc fG) (bc.ext lu (Qj.2 (o+j) _ u fX qu)) (fun x hx=>?_) GO rfl;refine gE ((bB xs).length+(o+j)) row[j] x u ?_ ?_ hx
   ·rw[WU (by omega)];simpa using fX
   ·rw[WU (by rw[IB.1];omega),IB.1];simpa using qu
  ·obtain⟨l,h3,h4⟩:=nS i b h1;obtain⟨l',h5,h6⟩:=nS i' b h2;obtain rfl:=e9.jW l l' b h4 h6;have hi:=(WS.1 h3).1;exact(Xd hi l8).1 (h3.trans h5.symm)
 have GQ:∀(i:Nat) x u,as[i]? =some x->vs[i]? =some u->aR gc w [] x u:=by
  intro i y u h1 h2;have hi:i<xs.length:=by have:=(WS.1 h1).1;omega
  have hx:xs[i]? =some xs[i]:=WW hi;have b4:=GK i _ y hx h1;have I0:=hr i _ u hx h2
  have K8:∀(l:List AV) (us:List Value),jG g w s.A (bB l) (us.flatMap fun u=>u.cells.toList)->us.length=l.length->(∀(i:Nat) x u,l[i]? =some x->us[i]? =some u->x.cells.length=u.cells.size)->∀(i:Nat) x u,l[i]? =some x->us[i]? =some u->
    ∃o,∀(j:Nat) c v,x.cells[j]? =some c->u.cells[j]? =some v->(bB l)[o+j]? =some c/\(us.flatMap fun u=>u.cells.toList)[o+j]? =some v:=by
   intro l;induction l with
   |nil=>intro us _ _ _ i x u h;simp at h
   |cons x0 l ih=>
    intro us Pd zn eP i x u h3 h4;cases us with
    |nil=>simp at zn
    |cons u0 us=>
     have IC:=eP 0 x0 u0 rfl rfl;cases i with
     |zero=>
      simp at h3 h4;subst h3;subst h4;refine⟨0,fun j c v h5 h6=>?_⟩;have hj:=(WS.1 h5).1;simp only[bB,W3,XM];rw[WV hj,WV (by simp;omega)];exact⟨h5,by simpa using h6⟩
     |succ i=>
      simp at h3 h4;obtain⟨o,ho⟩:=ih us ⟨by have:=Pd.1;simp only[bB,W3,W6,XY]at this⊢;omega,fun j c v h5 h6=>Pd.2 (x0.cells.length+j) c v (by
        simp only[bB,W3];rw[WU (by omega)];simpa[bB]using h5) (by
        simp only[W3];rw[WU (by simp;omega)];simpa[IC]using h6)⟩ (by simpa using zn) (fun i x u h5 h6=>eP (i+1) x u (by simpa using h5) (by simpa using h6)) i x u h3 h4
      refine⟨x0.cells.length+o,fun j c v h5 h6=>?_⟩;obtain⟨h7,h8⟩:=ho j c v h5 h6;simp only[bB,W3,XT];rw[WU (by omega),WU (by simp;omega)];simp only[XS,XY];exact⟨h7,by rw[show x0.cells.length+(o+j)-u0.cells.size=o+j by omega];exact h8⟩
  have og:∀(i:Nat) x u,xs[i]? =some x->vs.toList[i]? =some u->jG g w s.A x.cells u.cells.toList:=by
   intro i x u h3 h4;have EK:i<as.length:=by have:=(WS.1 h3).1;omega
   have hy:=GK i x _ h3 (WW EK);refine(AV.fZ (hr i x u h3 (by simpa using h4)) ?_).1;cases x with
   |c c=>simp only[AV.j4,WQ]at hy;obtain⟨d,hd,_⟩:=hy;cases c<;>first|rfl|simp[CV.j4]at hd
   |agg cs=>
    simp only[AV.j4,WQ]at hy;obtain⟨ds,hd,_⟩:=hy;simp only[AV.plain,W7,XH];intro c hc;obtain⟨j,hj⟩:=W1 hc;obtain⟨h9,cv⟩:=rL hd;have iP:j<ds.length:=by have:=(WS.1 hj).1;omega
    have:=cv j c _ hj (WW iP);cases c<;>first|rfl|simp[CV.j4]at this
   |aZ ys=>simp[AV.j4]at hy
  obtain⟨o,ho⟩:=K8 xs vs.toList IB (by simpa using hl) (fun i x u h3 h4=>by have:=(og i x u h3 h4).1;simp at this;omega) i _ u hx (by simpa using h2);have nO:∀(j:Nat) c d v,xs[i].cells[j]? =some c->u.cells[j]? =some v->c.j4 s.A ids=some d->bc gc w [] d v:=fun j c d v h3 h4 h5=>by
   obtain⟨h6,h7⟩:=ho j c v h3 h4;have ax:=(WS.1 h6).1;refine sY h5 (bc.ext lu (IB.2 _ c v h6 h7)) (fun x hx=>gE (o+j) c x v ?_ ?_ hx) GO rfl
   ·rw[WV ax];exact h6
   ·rw[WV (by rw[IB.1];exact ax)];exact h7
  generalize Sy:xs[i]=x at b4 I0 nO;cases x with
  |c c=>
   simp only[AV.j4,WQ]at b4;obtain⟨d,hd,rfl⟩:=b4;have uT:u.oneCell'=true:=bc.lA (by cases c<;>first|rfl|simp[CV.j4]at hd) I0;have xK:u.cells= #[u]:=by cases u<;>first|rfl|simp[Value.oneCell']at uT
   exact nO 0 c d u rfl (by rw[xK];rfl) hd
  |agg cs=>
   simp only[AV.j4,WQ]at b4;obtain⟨ds,hd,rfl⟩:=b4;obtain⟨us',rfl,TT,_⟩:=I0;obtain⟨h9,cv⟩:=rL hd;refine⟨us',rfl,by omega,fun j d v h3 h4=>?_⟩;have hj:j<cs.length:=by have:=(WS.1 h3).1;omega
   have hc:cs[j]? =some cs[j]:=WW hj;exact nO j _ d v hc (by simpa[Value.cells]using h4) (cv j _ d hc h3)
  |aZ ys=>simp[AV.j4]at b4
 refine(gV gc w vs rfl GP (jS.now.less (fun b hb=>by obtain⟨i,hi⟩:=W1 hb;obtain⟨l,_,h⟩:=nS i b hi;exact WZ h) (fun b hb=>by simp[Gh.iF,gc]at hb)) (by omega) GQ).mono ?_;rintro e w' ⟨v,g',rfl,x9,xM,sH⟩;have MC:∀b,b∉gc.iF:=fun b h=>by simp[Gh.iF,gc]at h
 obtain⟨new,I1,ya⟩:=sH.ob;have K9:gc.ob.length=ids.length:=by simp[gc]
 let g2:Gh:={ob:=g1.ob++new,ar:=g1.ar++g'.ar,im:=g'.im}
 have Kk:g1.ob.length=s.V.length:=e9.oe;have ud:g1.ar.length=(bO s.A (bB xs++bX s.V ids)).length:=e9.lq;have x5:(bO s.A (bB xs++bX s.V ids)).length=s.A.length:=by rw[<-ud,xX,hI.lq]
 have Qk:∀(i b:Nat),g'.ob[i]? =some b->g2.ob[back ids s.V.length i]? =some b:=by
  intro i b h1;rw[I1]at h1;simp only[back];by_cases hi:i<ids.length
  ·have hid:ids[i]? =some ids[i]:=WW hi;rw[WV (by omega)]at h1;obtain⟨l,h2,h3⟩:=nS i b h1;simp only[h2,g2];rw[WV (by have:=(WS.1 h3).1;exact this)];exact h3
  ·have hid:ids[i]? =none:=Xe (by omega);rw[WU (by omega),K9]at h1;simp only[hid,g2];rw[WU (by omega),Kk];simpa using h1
 have Ql:∀(k:Nat) r,Ac'[k]? =some r->(bO s.A (bB xs++bX s.V ids)++Ac')[s.A.length+k]? =some r:=fun k r h1=>by
  rw[WU (by omega),x5];simpa using h1
 have Qm:∀(k:Nat) v,g'.ar[k]? =some v->g2.ar[s.A.length+k]? =some v:=fun k v h1=>by
  simp only[g2];rw[WU (by omega),ud,x5];simpa using h1
 have xS:jE g1.im w g'.im w':=by
  refine⟨fun b=>?_,fun b o ho=>?_⟩
  ·rcases XJ b w.heap.size with hb|hb
   ·rw[sH.iO b hb (MC b)];exact XI _
   ·rw[e9.fresh b hb];exact XK _
  ·have hb:=e9.EL ho;refine World.cell?_of_block (a:=⟨b,o,none⟩) (sH.pF b hb (fun hm=>?_) (MC b));obtain⟨i,hi⟩:=W1 hm;obtain⟨l,h2,h3⟩:=nS i b hi;have x8:=GL l (WZ h2);have:=(e9.obj l _ b (WW x8) h3).1;omega
 have lr:Ext g1 w (bO s.A (bB xs++bX s.V ids)) g2 w' (bO s.A (bB xs++bX s.V ids)++Ac'):=by
  refine⟨fun l b hb=>?_,xS,fun k r hk=>⟨r,?_,rfl,XI _,fun _=>?_⟩⟩
  ·simp only[g2];rw[WV (WS.1 hb).1];exact hb
  ·rw[WV (WS.1 hk).1];exact hk
  ·simp only[g2];rw[WV (by rw[ud];exact(WS.1 hk).1)]
 have oM:∀c u,bc g' w' Ac' c u->bc g2 w' (bO s.A (bB xs++bX s.V ids)++Ac') (c.gn ids s.V.length s.A.length) u:=fun c u h1=>CA h1 Qk rfl Ql Qm
 have hold:∀b,b<w.heap.size->(∀(l:Nat),l∈ids->g1.ob[l]? ≠some b)->w'.heap[b]? =w.heap[b]? :=fun b hb cY=>sH.pF b hb (fun hm=>by
  obtain⟨i,hi⟩:=W1 hm;obtain⟨l,h2,h3⟩:=nS i b hi;exact cY l (WZ h2) h3) (MC b)
 have hVc'l:ids.length<=Vc'.length:=by omega
 have La:=xM.oe;have Sz:new.length=Vc'.length-ids.length:=by
  have:g'.ob.length=Vc'.length:=La;rw[I1,W6,K9]at this;omega
 have vZ:∀(l b:Nat),g2.ob[l]? =some b->(l<s.V.length/\g1.ob[l]? =some b/\b<w.heap.size)\/(s.V.length<=l/\g'.ob[ids.length+(l-s.V.length)]? =some b/\w.heap.size<=b):=by
  intro l b h1;simp only[g2]at h1;by_cases GF:l<s.V.length
  ·rw[WV (by omega)]at h1;exact .inl ⟨GF,h1,e9.qN h1⟩
  ·rw[WU (by omega),Kk]at h1;refine .inr ⟨by omega,?_,ya b (WZ h1)⟩;rw[I1,WU (by omega),K9];simpa using h1
 have hg'idx:∀(i l b:Nat),ids[i]? =some l->g1.ob[l]? =some b->g'.ob[i]? =some b:=fun i l b h1 h2=>by
  have h3:=GO i l b h1 h2;rw[I1,WV (WS.1 h3).1];exact h3
 refine⟨v,g2,rfl,?_,?_,lu.trans lr,?_⟩
 ·-- the result
  cases r with
  |c c=>exact oM c v x9
  |agg cs=>
   obtain⟨us',rfl,h1,h2⟩:=x9;refine⟨us',rfl,by simpa using h1,fun j c u h3 h4=>?_⟩;simp only[WY,WQ]at h3;obtain⟨c',h5,rfl⟩:=h3;exact oM c' u (h2 j c' u h5 h4)
  |aZ ys=>
   obtain⟨us',rfl,h1,h2⟩:=x9;refine⟨us',rfl,by simpa using h1,fun j y u h3 h4=>?_⟩;simp only[WY,WQ]at h3;obtain⟨y',h5,rfl⟩:=h3;have h6:=h2 j y' u h5 h4;cases y' with
   |c c=>exact oM c u h6
   |agg cs=>
    obtain⟨us'',rfl,h7,h8⟩:=h6;refine⟨us'',rfl,by simpa using h7,fun j c u h9 cv=>?_⟩;simp only[WY,WQ]at h9;obtain⟨c',ep,rfl⟩:=h9;exact oM c' u (h8 j c' u ep cv)
   |aZ zs=>exact h6.elim
 ·-- the memory
  refine⟨?_,?_,fun l row b h1 h2=>?_,fun k r v' h1 h2=>?_,fun l l' b h1 h2=>?_,fun k k' v1 v2 b h1 h2 h3 h4=>?_,fun l k v' b h1 h2 h3=>?_,fun b hb=>xM.fresh b hb⟩
  ·rw[ub hVc'l];simp only[g2,W6];omega
  ·simp only[g2,W6,ud];rw[xM.lq]
  ·rcases vY hVc'l l8 GL l row h1 with⟨i,row',h3,h4,rfl⟩|⟨h3,h4,h5⟩|⟨h3,row',h4,rfl⟩
   ·have GF:=GL l (WZ h3);rcases vZ l b h2 with⟨_,h5,_⟩|⟨h5,_⟩
    ·obtain⟨h6,cs,ty,h7,h8,h9⟩:=xM.obj i row' b h4 (hg'idx i l b h3 h5);refine⟨h6,cs,ty,h7,by simpa using h8,fun j c u cv ep=>?_⟩;simp only[WY,WQ]at cv;obtain⟨c',fG,rfl⟩:=cv;exact oM c' u (h9 j c' u fG ep)
    ·omega
   ·rcases vZ l b h2 with⟨_,h6,h7⟩|⟨h6,_⟩
    ·refine e9.ff lr h5 h6 (hold b h7 (fun l' GF h8=>h3 (e9.jW l l' b h6 h8▸GF))) ?_;show g'.im b=0;rw[sH.iO b h7 (MC b)];exact(e9.obj l row b h5 h6).1
    ·omega
   ·rcases vZ l b h2 with⟨h5,_⟩|⟨_,h5,_⟩
    ·omega
    ·obtain⟨h6,cs,ty,h7,h8,h9⟩:=xM.obj _ row' b h4 h5;refine⟨h6,cs,ty,h7,by simpa using h8,fun j c u cv ep=>?_⟩;simp only[WY,WQ]at cv;obtain⟨c',fG,rfl⟩:=cv;exact oM c' u (h9 j c' u fG ep)
  ·simp only[g2]at h2;by_cases hk:k<s.A.length
   ·rw[WV (by omega)]at h1;rw[WV (by omega)]at h2;exact e9.fg lr h1 h2 (fun b hb=>hold b (e9.ma h2 hb) (fun l _ h3=>e9.iM l k v' b h3 h2 hb)) (fun b hb=>sH.iO b (e9.ma h2 hb) (MC b))
   ·rw[WU (by omega),x5]at h1;rw[WU (by omega),ud,x5]at h2;exact xM.arr _ r v' h1 h2
  ·rcases vZ l b h1 with⟨h3,h4,h5⟩|⟨h3,h4,h5⟩<;>rcases vZ l' b h2 with⟨h6,h7,h8⟩|⟨h6,h7,h8⟩
   ·exact e9.jW l l' b h4 h7
   ·omega
   ·omega
   ·have:=xM.jW _ _ b h4 h7;omega
  ·have Kl:∀(k:Nat) v b,g2.ar[k]? =some v->v.ownBlock=some b->(k<s.A.length/\g1.ar[k]? =some v/\b<w.heap.size)\/(s.A.length<=k/\g'.ar[k-s.A.length]? =some v/\w.heap.size<=b):=fun k v b h5 h6=>by
    simp only[g2]at h5;by_cases hk:k<s.A.length
    ·rw[WV (by omega)]at h5;exact .inl ⟨hk,h5,e9.ma h5 h6⟩
    ·rw[WU (by omega),ud,x5]at h5;exact .inr ⟨by omega,h5,sH.PV rfl _ v b h5 h6⟩
   rcases Kl k v1 b h1 h3 with⟨h5,h6,h7⟩|⟨h5,h6,h7⟩<;>rcases Kl k' v2 b h2 h4 with⟨h8,h9,cv⟩|⟨h8,h9,cv⟩
   ·exact e9.iE k k' v1 v2 b h6 h9 h3 h4
   ·omega
   ·omega
   ·have:=xM.iE _ _ v1 v2 b h6 h9 h3 h4;omega
  ·simp only[g2]at h2;by_cases hk:k<s.A.length
   ·rw[WV (by omega)]at h2;rcases vZ l b h1 with⟨_,h5,_⟩|⟨_,_,h6⟩
    ·exact e9.iM l k v' b h5 h2 h3
    ·have:=e9.ma h2 h3;omega
   ·rw[WU (by omega),ud,x5]at h2;have h7:=sH.PV rfl _ v' b h2 h3;rcases vZ l b h1 with⟨_,_,h5⟩|⟨_,h5,_⟩
    ·omega
    ·exact xM.iM _ _ v' b h5 h2 h3
 ·-- what is left alone
  refine⟨sH.os.trans hF.os,sH.tape.trans hF.tape,sH.output.trans hF.output,XL hF.size sH.size,fun b h1 h2 Lb=>?_,fun b h1 oJ=>?_,?_,fun k v' b h1 h2=>?_,fun k v' h1=>?_,hF.xR⟩
  ·rw[hold b (XP h1 hF.size) (fun l GF h3=>by rcases jS.MZ h3 with h4|h4<;>first|exact h2 h4|omega)];exact jS.pF b h1 h2 Lb
  ·show g'.im b=g0.im b;rw[sH.iO b (XP h1 hF.size) (MC b)];exact jS.iO b h1 oJ
  ·obtain⟨Ld,e1,Pe⟩:=jS.ob;exact⟨Ld++new,by simp only[g2,e1,XC],fun b hb=>by
    rcases W5.1 hb with h|h
    ·exact Pe b h
    ·exact XL hF.size (ya b h)⟩
  ·simp only[g2]at h1;by_cases hk:k<s.A.length
   ·rw[WV (by omega)]at h1;exact jS.ar k v' b h1 h2
   ·rw[WU (by omega),ud,x5]at h1;exact .inl (XL hF.size (sH.PV rfl _ v' b h1 h2))
  ·obtain⟨v2,h3,h4⟩:=jS.vk k v' h1;exact⟨v2,by simp only[g2];rw[WV (WS.1 h3).1];exact h3,h4⟩
theorem v7 {α:Type}:∀{l:List α} {hs:List Nat} {vs:List α},(qh l hs vs).length=l.length
 |l,[],vs=>by cases vs<;>rfl
 |l,h::hs,[]=>rfl
 |l,h::hs,v::vs=>by simp only[qh];rw[v7];simp
theorem rM {α:Type} {k:Nat}:∀{l:List α} {hs:List Nat} {vs:List α},k∉hs->(qh l hs vs)[k]? =l[k]?
 |l,[],vs,_=>by cases vs<;>rfl
 |l,h::hs,[],_=>rfl
 |l,h::hs,v::vs,hk=>by
  simp only[W2,not_or]at hk;simp only[qh];rw[rM hk.2,List.getElem?_set_ne (by omega)]
theorem zq {α:Type}:∀{l:List α} {hs:List Nat} {vs:List α} {i h:Nat},hs.Nodup->hs.length<=vs.length->hs[i]? =some h->h<l.length->(qh l hs vs)[h]? =vs[i]?
 |l,[],vs,i,h,_,_,hi,_=>by simp at hi
 |l,h0::hs,[],i,h,_,hl,_,_=>by simp at hl
 |l,h0::hs,v::vs,0,h,hn,_,hi,ax=>by
  simp at hi;subst hi;simp only[qh];rw[rM (Xk.1 hn).1];simp[ax]
 |l,h0::hs,v::vs,i+1,h,hn,hl,hi,ax=>by
  simp only[qh];rw[zq (Xk.1 hn).2 (by simpa using hl) (by simpa using hi) (by simpa using ax)];simp
theorem AM {hs:List Nat}:∀{cs ds:List CV},fR hs cs=some ds->ds.length=cs.length/\∀(j:Nat) c d,cs[j]? =some c->ds[j]? =some d->c.dw hs=some d
 |[],ds,h=>by simp[fR]at h;subst h;exact⟨rfl,fun j c d h=>by simp at h⟩
 |c::r,ds,h=>by
  simp only[fR]at h;split at h
  ·rename_i d ds' h1 h2;simp at h;subst h;obtain⟨h3,h4⟩:=AM h2;refine⟨by simp[h3],fun j c' d' h5 h6=>?_⟩;cases j with
   |zero=>simp at h5 h6;subst h5;subst h6;exact h1
   |succ j=>simp at h5 h6;exact h4 j c' d' h5 h6
  ·simp at h
theorem yx {hs:List Nat}:∀{xs as:List AV},ef hs xs=some as->as.length=xs.length/\∀(j:Nat) x y,xs[j]? =some x->as[j]? =some y->x.dw hs=some y
 |[],as,h=>by simp[ef]at h;subst h;exact⟨rfl,fun j x y h=>by simp at h⟩
 |c::r,as,h=>by
  simp only[ef]at h;split at h
  ·rename_i d ds' h1 h2;simp at h;subst h;obtain⟨h3,h4⟩:=yx h2;refine⟨by simp[h3],fun j c' d' h5 h6=>?_⟩;cases j with
   |zero=>simp at h5 h6;subst h5;subst h6;exact h1
   |succ j=>simp at h5 h6;exact h4 j c' d' h5 h6
  ·simp at h
set_option maxHeartbeats 1000000 in
theorem yb (hI:Inv g w s.V s.A) (hF:Fr w0 g0 w g) {f:FuncId} {xs:List AV} {vs:Array Value} (hl:vs.size=xs.length) (hr:∀(i:Nat) x u,xs[i]? =some x->vs[i]? =some u->aR g w s.A x u) (h:DO P s f xs K):
  (∀args w,(callFunc f args).run P w=.ok (.enter f args) w)/\∃x V' A',K x V' A'/\Calls P f vs w fun e w'=>∃v g',e=.returned v/\aR g' w' A' x v/\Inv g' w' V' A'/\Ext g w s.A g' w' A'/\Fr w0 g0 w' g':=by
 obtain⟨hs,as,r,Ac',l8,MD,has,⟨GJ,_,gV⟩,hK⟩:=h;refine⟨GJ,_,_,_,hK,?_⟩;obtain⟨Qi,GK⟩:=yx has;have Qn:∀h∈hs,h<s.A.length:=fun h hm=>by
  obtain⟨i,hi⟩:=W1 hm;obtain⟨a,_,h1,_⟩:=MD i h hi;exact(WS.1 h1).1
 have Le:=hI.lq;have hlen:hs.length<=Ac'.length:=by
  rcases XJ Ac'.length hs.length with h1|h1
  ·obtain⟨_,_,_,_,h2,_⟩:=MD Ac'.length _ (WW h1);simp at h2
  ·exact h1
 let gc:Gh:={ob:=[],ar:=hs.map fun h=>g.ar.getD h undef,im:=g.im}
 have EW:∀(i h:Nat) v,hs[i]? =some h->g.ar[h]? =some v->gc.ar[i]? =some v:=fun i h v h1 h2=>by simp[gc,h1,h2]
 have oN:∀(i:Nat) v,gc.ar[i]? =some v->∃h,hs[i]? =some h/\g.ar[h]? =some v:=fun i v h1=>by
  simp only[gc,WY,WQ]at h1;obtain⟨h,h2,h3⟩:=h1;have x8:h<g.ar.length:=by rw[Le];exact Qn h (WZ h2)
  exact⟨h,h2,by rw[<-h3];simp[W0,x8]⟩
 have Qo:∀(i:Nat) a,(hs.map fun h=>s.A.getD h rK)[i]? =some a->∃h,hs[i]? =some h/\s.A[h]? =some a:=fun i a h1=>by
  simp only[WY,WQ]at h1;obtain⟨h,h2,h3⟩:=h1;have x8:=Qn h (WZ h2);exact⟨h,h2,by rw[<-h3];simp[W0,x8]⟩
 have Qp:∀(i h:Nat) a,hs[i]? =some h->s.A[h]? =some a->(hs.map fun h=>s.A.getD h rK)[i]? =some a:=fun i h a h1 h2=>by simp[h1,h2]
 have v8:∀b,b∈gc.iF->∃(i h:Nat) (v:Value),hs[i]? =some h/\g.ar[h]? =some v/\v.ownBlock=some b:=fun b hb=>by
  obtain⟨i,v,h1,h2⟩:=Gh.fw hb;obtain⟨h,h3,h4⟩:=oN i v h1;exact⟨i,h,v,h3,h4,h2⟩
 have Km:∀b,b∈gc.iF->g.im b=0:=fun b hb=>by
  obtain⟨i,h,v,h1,h2,h3⟩:=v8 b hb;obtain⟨a,_,h4,h5,_⟩:=MD i h h1;have h6:=(hI.arr h a v h4 h2).2.1 b h3;rw[h5]at h6;simpa using h6
 have GP:Inv gc w [] (hs.map fun h=>s.A.getD h rK):=by
  refine⟨rfl,by simp[gc],fun l row b h1=>by simp at h1,fun k r' v h1 h2=>?_,fun l l' b h1=>by simp[gc]at h1,fun k k' v v' b h1 h2 h3 h4=>?_,fun l k v b h1=>by simp[gc]at h1,hI.fresh⟩
  ·obtain⟨h,h3,h4⟩:=Qo k r' h1;obtain⟨h',h5,h6⟩:=oN k v h2;obtain rfl:h=h':=by rw[h3]at h5;exact Option.some.inj h5
   exact hI.arr h r' v h4 h6
  ·obtain⟨h,h5,h6⟩:=oN k v h1;obtain⟨h',h7,h8⟩:=oN k' v' h2;obtain rfl:=hI.iE h h' v v' b h6 h8 h3 h4;exact(Xd (WS.1 h5).1 l8).1 (h5.trans h7.symm)
 have nO:∀(c d:CV) (u:Value),c.dw hs=some d->bc g w s.A c u->bc gc w (hs.map fun h=>s.A.getD h rK) d u:=by
  intro c d u h1 h2;cases c with
  |d x=>simp only[CV.dw]at h1;cases h1;exact h2
  |nil=>simp only[CV.dw]at h1;cases h1;simp only[bc]at h2;subst h2;simp only[bc,a6];exact⟨none,0,rfl,XI _,.inl trivial⟩
  |own k n=>
   simp only[CV.dw,WQ]at h1;obtain⟨i,hi,rfl⟩:=h1;obtain⟨a,cap,e,r',h3,h4,h5⟩:=h2;have ME:=mg hi;exact⟨a,cap,e,r',Qp i k r' ME h3,h4,fun h6=>EW i k u ME (h5 h6)⟩
  |np=>simp only[CV.dw]at h1;cases h1;exact h2
  |ip row off=>simp only[CV.dw]at h1;cases h1;exact h2
  |fn f cap=>
   cases cap with
   |nil=>
    simp only[CV.dw]at h1;cases h1;obtain⟨bks,h3,h4,_⟩:=h2;exact⟨bks,h3,h4,fun i l b h5=>by simp at h5⟩
   |cons _ _=>simp[CV.dw]at h1
  |ptr _ _=>simp[CV.dw]at h1
  |op _ _ _ _=>simp[CV.dw]at h1
  |undef=>simp[CV.dw]at h1
 have GQ:∀(i:Nat) x u,as[i]? =some x->vs[i]? =some u->aR gc w (hs.map fun h=>s.A.getD h rK) x u:=by
  intro i y u h1 h2;have hi:i<xs.length:=by have:=(WS.1 h1).1;omega
  have hx:xs[i]? =some xs[i]:=WW hi;have b4:=GK i _ y hx h1;have I0:=hr i _ u hx h2;generalize xs[i]=x at b4 I0;cases x with
  |c c=>
   simp only[AV.dw,WQ]at b4;obtain⟨d,hd,rfl⟩:=b4;exact nO c d u hd I0
  |agg cs=>
   simp only[AV.dw,WQ]at b4;obtain⟨ds,hd,rfl⟩:=b4;obtain⟨us',rfl,TT,h3⟩:=I0;obtain⟨h9,cv⟩:=AM hd;refine⟨us',rfl,by omega,fun j d v h4 h5=>?_⟩;have hj:j<cs.length:=by have:=(WS.1 h4).1;omega
   have hc:cs[j]? =some cs[j]:=WW hj;exact nO _ d v (cv j _ d hc h4) (h3 j _ v hc h5)
  |aZ ys=>simp[AV.dw]at b4
 refine(gV gc w vs GP (hF.now.less (fun b hb=>by simp[gc]at hb) (fun b hb=>by obtain⟨i,v,q1,q2⟩:=Gh.fw hb;obtain⟨h,_,q3⟩:=oN i v q1;exact Gh.iN q3 q2)) (by omega) GQ).mono ?_;rintro e w' ⟨v,g',rfl,x9,xM,sH⟩;have EY:g'.ob=[]:=Xg (by rw[xM.oe];rfl);have SA:=xM.lq
 let g2:Gh:={ob:=g.ob,ar:=qh g.ar hs g'.ar++g'.ar.drop hs.length,im:=g'.im}
 let A2:=qh s.A hs Ac'++Ac'.drop hs.length
 have TU:(qh g.ar hs g'.ar).length=s.A.length:=by rw[v7,Le]
 have Qq:(qh s.A hs Ac').length=s.A.length:=v7;have b4:∀(i h:Nat),hs[i]? =some h->g2.ar[h]? =g'.ar[i]? /\A2[h]? =Ac'[i]? :=fun i h h1=>by
  have h2:=Qn h (WZ h1);constructor
  ·simp only[g2];rw[WV (by omega)];exact zq l8 (by omega) h1 (by omega)
  ·simp only[A2];rw[WV (by omega)];exact zq l8 hlen h1 h2
 have iX:∀k,k<s.A.length->k∉hs->g2.ar[k]? =g.ar[k]? /\A2[k]? =s.A[k]? :=fun k h1 h2=>by
  constructor
  ·simp only[g2];rw[WV (by omega),rM h2]
  ·simp only[A2];rw[WV (by omega),rM h2]
 have ya:∀k,s.A.length<=k->g2.ar[k]? =g'.ar[hs.length+(k-s.A.length)]? /\A2[k]? =Ac'[hs.length+(k-s.A.length)]? :=fun k h1=>by
  constructor
  ·simp only[g2];rw[WU (by omega),TU,Xz]
  ·simp only[A2];rw[WU (by omega),Qq,Xz]
 have IP:∀k,g2.ar[back hs s.A.length k]? =g'.ar[k]? /\A2[back hs s.A.length k]? =Ac'[k]? :=fun k=>by
  by_cases hk:k<hs.length
  ·have e:hs[k]? =some hs[k]:=WW hk;have e2:back hs s.A.length k=hs[k]:=by simp only[back,e]
   rw[e2];exact b4 k _ e
  ·have e:hs[k]? =none:=Xe (by omega);have e2:back hs s.A.length k=s.A.length+(k-hs.length):=by simp only[back,e]
   rw[e2];have:=ya (s.A.length+(k-hs.length)) (by omega);rwa[show hs.length+(s.A.length+(k-hs.length)-s.A.length)=k by omega]at this
 have AN:∀k,(∃i:Nat,g2.ar[k]? =g'.ar[i]? /\A2[k]? =Ac'[i]? /\((hs[i]? =some k)\/(hs.length<=i/\k=s.A.length+(i-hs.length))))\/(k<s.A.length/\k∉hs/\g2.ar[k]? =g.ar[k]? /\A2[k]? =s.A[k]?):=fun k=>by
  by_cases h1:k<s.A.length
  ·by_cases h2:k∈hs
   ·obtain⟨i,hi⟩:=W1 h2;exact .inl ⟨i,(b4 i k hi).1,(b4 i k hi).2,.inl hi⟩
   ·exact .inr ⟨h1,h2,iX k h1 h2⟩
  ·exact .inl ⟨hs.length+(k-s.A.length),(ya k (by omega)).1,(ya k (by omega)).2,.inr ⟨by omega,by omega⟩⟩
 have Ng:∀(k k' i:Nat),((hs[i]? =some k)\/(hs.length<=i/\k=s.A.length+(i-hs.length)))->((hs[i]? =some k')\/(hs.length<=i/\k'=s.A.length+(i-hs.length)))->k=k':=fun k k' i h1 h2=>by
  rcases h1 with h1|⟨h1,h3⟩<;>rcases h2 with h2|⟨h2,h4⟩
  ·rw[h1]at h2;exact Option.some.inj h2
  ·have:=(WS.1 h1).1;omega
  ·have:=(WS.1 h2).1;omega
  ·omega
 have Qr:∀b,b∉gc.ob:=fun b h=>by simp[gc]at h
 have yc:∀b,b<w.heap.size->b∉gc.iF->w'.heap[b]? =w.heap[b]? :=fun b h1 h2=>sH.pF b h1 (Qr b) h2
 have qo:∀b,b<w.heap.size->b∉gc.iF->g'.im b=g.im b:=fun b h1 h2=>sH.iO b h1 h2
 have GM:∀(l b:Nat),g.ob[l]? =some b->b<w.heap.size/\b∉gc.iF:=fun l b h1=>⟨hI.qN h1,fun h2=>by
  obtain⟨i,h,v',h3,h4,h5⟩:=v8 b h2;exact hI.iM l h v' b h1 h4 h5⟩
 have I2:∀(k b:Nat) (v:Value),k∉hs->g.ar[k]? =some v->v.ownBlock=some b->b<w.heap.size/\b∉gc.iF:=fun k b v h0 h1 oJ=>⟨hI.ma h1 oJ,fun h2=>by
  obtain⟨i,h,v',h3,h4,h5⟩:=v8 b h2;obtain rfl:=hI.iE k h v v' b h1 h4 oJ h5;exact h0 (WZ h3)⟩
 have DR:∀(i b:Nat) (v:Value),g'.ar[i]? =some v->v.ownBlock=some b->w.heap.size<=b\/b∈gc.iF:=fun i b v h1 h2=>sH.ar i v b h1 h2
 have xS:jE g.im w g'.im w':=by
  refine⟨fun b=>?_,fun b o ho=>?_⟩
  ·rcases XJ b w.heap.size with hb|hb
   ·by_cases h1:b∈gc.iF
    ·rw[Km b h1];exact XK _
    ·rw[qo b hb h1];exact XI _
   ·rw[hI.fresh b hb];exact XK _
  ·have hb:=hI.EL ho;refine World.cell?_of_block (a:=⟨b,o,none⟩) (yc b hb (fun h1=>?_));have:=Km b h1;omega
 have lr:Ext g w s.A g2 w' A2:=by
  refine⟨fun l b hb=>hb,xS,fun k r' hk=>?_⟩;have F9:=(WS.1 hk).1;by_cases h2:k∈hs
  ·obtain⟨i,hi⟩:=W1 h2;obtain⟨a,a',h3,h4,h5,h6⟩:=MD i k hi;obtain rfl:r'=a:=by rw[hk]at h3;exact Option.some.inj h3
   have hv:g.ar[k]? =some (g.ar[k]'(by omega)):=WW (by omega);obtain⟨v',h7,h8,h9⟩:=sH.vk i _ (EW i k _ hi hv);obtain⟨_,_,xs1,pG,_⟩:=hI.arr k r' _ hk hv;obtain⟨_,_,xs2,l7,_⟩:=xM.arr i a' v' h5 h7;rw[l9 pG,l9 l7]at h8 h9;refine⟨a',(b4 i k hi).2.trans h5,h6,h8,fun cv=>?_⟩;rw[(b4 i k hi).1,h7,h9 cv,hv]
  ·obtain⟨h3,h4⟩:=iX k F9 h2;exact⟨r',h4.trans hk,rfl,XI _,fun _=>h3⟩
 have oM:∀c u,bc g' w' Ac' c u->bc g2 w' A2 (c.cJ hs s.A.length) u:=fun c u h1=>by
  cases c with
  |d x=>exact h1
  |nil=>exact h1
  |own k n=>
   obtain⟨a,cap,e,r',h3,h4,h5⟩:=h1;exact⟨a,cap,e,r',(IP k).2.trans h3,h4,fun h6=>(IP k).1.trans (h5 h6)⟩
  |ptr l off=>obtain⟨b,h3,_⟩:=h1;rw[EY]at h3;simp at h3
  |np=>exact h1
  |ip row off=>exact h1
  |op k n i off=>
   obtain⟨b,e,h2,r',h3,h4,h5⟩:=h1;exact⟨b,e,h2,r',(IP k).2.trans h3,h4,fun h6=>by obtain⟨cap,h7,h8⟩:=h5 h6;exact⟨cap,(IP k).1.trans h7,h8⟩⟩
  |fn f cap=>
   obtain⟨bks,h3,h4,h5⟩:=h1;refine⟨bks,h3,h4,fun i l b h6 h7=>?_⟩;have:=h5 i l b h6 h7;rw[EY]at this;simp at this
  |undef=>exact h1
 refine⟨v,g2,rfl,?_,?_,lr,?_⟩
 ·-- the result
  cases r with
  |c c=>exact oM c v x9
  |agg cs=>
   obtain⟨us',rfl,h1,h2⟩:=x9;refine⟨us',rfl,by simpa using h1,fun j c u h3 h4=>?_⟩;simp only[WY,WQ]at h3;obtain⟨c',h5,rfl⟩:=h3;exact oM c' u (h2 j c' u h5 h4)
  |aZ ys=>
   obtain⟨us',rfl,h1,h2⟩:=x9;refine⟨us',rfl,by simpa using h1,fun j y u h3 h4=>?_⟩;simp only[WY,WQ]at h3;obtain⟨y',h5,rfl⟩:=h3;have h6:=h2 j y' u h5 h4;cases y' with
   |c c=>exact oM c u h6
   |agg cs=>
    obtain⟨us'',rfl,h7,h8⟩:=h6;refine⟨us'',rfl,by simpa using h7,fun j c u h9 cv=>?_⟩;simp only[WY,WQ]at h9;obtain⟨c',ep,rfl⟩:=h9;exact oM c' u (h8 j c' u ep cv)
   |aZ zs=>exact h6.elim
 ·-- the memory
  refine⟨hI.oe,?_,fun l row b h1 h2=>?_,fun k r' v' h1 h2=>?_,hI.jW,fun k k' v1 v2 b h1 h2 h3 h4=>?_,fun l k v' b h1 h2 h3=>?_,fun b hb=>xM.fresh b hb⟩
  ·show(qh g.ar hs g'.ar++g'.ar.drop hs.length).length=(qh s.A hs Ac'++Ac'.drop hs.length).length;simp only[W6,List.length_drop];omega
  ·obtain⟨h3,h4⟩:=GM l b h2;exact hI.ff lr h1 h2 (yc b h3 h4) ((qo b h3 h4).trans (hI.obj l row b h1 h2).1)
  ·rcases AN k with⟨i,h3,h4,_⟩|⟨h3,h4,h5,h6⟩
   ·exact xM.arr i r' v' (h4.symm.trans h1) (h3.symm.trans h2)
   ·refine hI.fg lr (h6.symm.trans h1) (h5.symm.trans h2) (fun b hb=>?_) (fun b hb=>?_)
    ·obtain⟨h7,h8⟩:=I2 k b v' h4 (h5.symm.trans h2) hb;exact yc b h7 h8
    ·obtain⟨h7,h8⟩:=I2 k b v' h4 (h5.symm.trans h2) hb;exact qo b h7 h8
  ·rcases AN k with⟨i,h5,_,h6⟩|⟨h5,h6,h7,_⟩<;>rcases AN k' with⟨i',h8,_,h9⟩|⟨h8,h9,cv,_⟩
   ·obtain rfl:=xM.iE i i' v1 v2 b (h5.symm.trans h1) (h8.symm.trans h2) h3 h4;exact Ng k k' i h6 h9
   ·obtain⟨ep,fG⟩:=I2 k' b v2 h9 (cv.symm.trans h2) h4;rcases DR i b v1 (h5.symm.trans h1) h3 with dn|dn
    ·omega
    ·exact absurd dn fG
   ·obtain⟨ep,fG⟩:=I2 k b v1 h6 (h7.symm.trans h1) h3;rcases DR i' b v2 (h8.symm.trans h2) h4 with dn|dn
    ·omega
    ·exact absurd dn fG
   ·exact hI.iE k k' v1 v2 b (h7.symm.trans h1) (cv.symm.trans h2) h3 h4
  ·obtain⟨h4,h5⟩:=GM l b h1;rcases AN k with⟨i,h6,_,_⟩|⟨_,_,h6,_⟩
   ·rcases DR i b v' (h6.symm.trans h2) h3 with h7|h7
    ·omega
    ·exact h5 h7
   ·exact hI.iM l k v' b h1 (h6.symm.trans h2) h3
 ·-- what is left alone
  have ga:∀b,b<w0.heap.size->b∉g0.iF->b∉gc.iF:=fun b h1 h2 h3=>by
   obtain⟨i,h,v',h4,h5,h6⟩:=v8 b h3;rcases hF.ar h v' b h5 h6 with h7|h7
   ·omega
   ·exact h2 h7
  refine⟨sH.os.trans hF.os,sH.tape.trans hF.tape,sH.output.trans hF.output,XL hF.size sH.size,fun b h1 h2 Lb=>?_,fun b h1 oJ=>?_,hF.ob,fun k v' b h1 h2=>?_,fun k v' h1=>?_,hF.xR⟩
  ·rw[yc b (XP h1 hF.size) (ga b h1 Lb)];exact hF.pF b h1 h2 Lb
  ·show g'.im b=g0.im b;rw[qo b (XP h1 hF.size) (ga b h1 oJ)];exact hF.iO b h1 oJ
  ·rcases AN k with⟨i,h3,_,_⟩|⟨_,_,h3,_⟩
   ·rcases DR i b v' (h3.symm.trans h1) h2 with h4|h4
    ·exact .inl (XL hF.size h4)
    ·obtain⟨i',h,v2,h5,h6,h7⟩:=v8 b h4;exact hF.ar h v2 b h6 h7
   ·exact hF.ar k v' b (h3.symm.trans h1) h2
  ·obtain⟨v1,h2,h3,h4⟩:=hF.vk k v' h1;have F9:k<s.A.length:=by rw[<-Le];exact(WS.1 h2).1
   by_cases h5:k∈hs
   ·obtain⟨i,hi⟩:=W1 h5;obtain⟨v2,h6,h7,h8⟩:=sH.vk i v1 (EW i k v1 hi h2);refine⟨v2,(b4 i k hi).1.trans h6,by omega,fun h9=>?_⟩;rw[h8 (by omega)];exact h4 (by omega)
   ·exact⟨v1,(iX k F9 h5).1.trans h2,h3,h4⟩
theorem zr (hI:Inv g w s.V s.A) (hF:Fr w0 g0 w g) {f:FuncId} {xs:List AV} {vs:Array Value} (hl:vs.size=xs.length) (hr:∀(i:Nat) x u,xs[i]? =some x->vs[i]? =some u->aR g w s.A x u) (h:je P s f xs K):
  (∀args w,(callFunc f args).run P w=.ok (.enter f args) w)/\∃x V' A',K x V' A'/\Calls P f vs w fun e w'=>∃v g',e=.returned v/\aR g' w' A' x v/\Inv g' w' V' A'/\Ext g w s.A g' w' A'/\Fr w0 g0 w' g':=
 h.elim (x6 hI hF hl hr) (yb hI hF hl hr)
end
def bA (P:Program) (s:St) (ow:Bool) (o:Oper) (K:AV->List (List CV)->List bu->Prop):Prop:=
 match o.op with
 |.call {callee:=.value f,args,.. }=>bM (bw s f) fun fv=>match fv with
  |.c (.fn fid cap)=>bM (gR s args.toList) fun xs=>je P s fid (xs++cap.map fun l=>.c (.ptr l 0)) K
  |_=>False
 |op=>eC P s ow op K
def St.put (s:St) (dst:Option Tmp) (x:AV) (V:List (List CV)) (A:List bu):St:=
 ⟨match dst with|some d=>(d,x)::s.fr|none=>s.fr,V,A⟩
def ib (all:Array Oper) (s:St) (o:Oper) (yes no:Prop):Prop:=
 match o.guard with
 |none=>yes
 |some (j,want)=>bM (all[j]?) fun oj=>bM oj.dst fun t=>bM (look s.fr t) fun x=>match x with
  |.c (.d (.bool b))=>(b=want->yes)/\(b=(!want)->no)
  |.c .undef=>no
  |_=>False
def EZ (P:Program) (all:Array Oper) (ow:Nat->Bool) (K:St->Prop):Nat->List Oper->St->Prop
 |_,[],s=>K s
 |i,o::rest,s=>ib all s o (bA P s (ow i) o fun x V A=>EZ P all ow K (i+1) rest (s.put o.dst x V A)) (EZ P all ow K (i+1) rest (s.put o.dst (.c .undef) s.V s.A))
def cP (n:Nat) (ops:List Oper):Bool:=ops.all fun o=>match o.dst with
 |some d=>decide (d<n)
 |none=>true
def codeOk (n:Nat):Code->Bool
 |.region _ ops _=>cP n ops.toList
 |.seq a b=>codeOk n a && codeOk n b
 |.cond _ a b=>codeOk n a && codeOk n b
 |.block _ c=>codeOk n c
 |.loop c=>codeOk n c
 |.scope c=>codeOk n c
 |_=>true
def T (P:Program) (n:Nat) (c:Code) (Q:Exit->St->Prop) (s:St):Prop:=
 codeOk n c=true->∀w0 g0 g a w,Rp n w0 g0 s g a w->c.wp P (fun e a' w'=>∃s' g',Q e s'/\Rp n w0 g0 s' g' a' w') a w
section
variable {P:Program} {n:Nat} {Q Q':Exit->St->Prop} {s s':St} {w0:World} {g0 g g':Gh} {a:Act} {w w':World}
theorem cW (hI:Inv g w s.V s.A) (hF:Fr w0 g0 w g) (hS:gU g w s a) {ow:Bool} {o:Oper} {K:AV->List (List CV)->List bu->Prop} (h:bA P s ow o K):
  ∃x V' A',K x V' A'/\∀(next:Act->World->Prop) (Q:Exit->Act->World->Prop),(∀v w' g',aR g' w' A' x v->Inv g' w' V' A'->Ext g w s.A g' w' A'->Fr w0 g0 w' g'->next (a.put o.dst v) w')->o.wp P a w next Q:=by
 have plain:eC P s ow o.op K->∃x V' A',K x V' A'/\∀(next:Act->World->Prop) (Q:Exit->Act->World->Prop),(∀v w' g',aR g' w' A' x v->Inv g' w' V' A'->Ext g w s.A g' w' A'->Fr w0 g0 w' g'->next (a.put o.dst v) w')->o.wp P a w next Q:=by
  intro h;obtain⟨x,V',A',nx,v,w',g',h1,h2,h3,h4,h5,h6,h7⟩:=EU hI hF hS h;refine⟨x,V',A',h1,fun next Q hn=>?_⟩;unfold Oper.wp;rw[h2];rcases h3 with rfl|⟨rfl,rfl⟩
  ·exact hn v w' g' h4 h5 h6 h7
  ·exact hn _ w' g' h4 h5 h6 h7
 unfold bA at h;split at h
 ·rename_i f args argTypes heq;refine ai h fun fv h1 h2=>?_
  have Qs:=aI hS h1;split at h2
  ·rename_i fid cap;refine ai h2 fun xs h3 h4=>?_
   obtain⟨h5,h6⟩:=lB hS h3;have TV:xs.length=args.size:=by rw[h5,XY]
   obtain⟨bks,h7,h8,h9⟩:bc g w s.A (.fn fid cap) (a.eval f):=Qs;have oL:args.map a.eval++(bks.map fun b=>Value.pointer (some ⟨b,0,none⟩)).toArray=((args.toList.map a.eval)++bks.map fun b=>Value.pointer (some ⟨b,0,none⟩)).toArray:=by
    apply Array.ext';simp
   obtain⟨GJ,x,V',A',hK,hc⟩:=zr (vs:=((args.toList.map a.eval)++bks.map fun b=>Value.pointer (some ⟨b,0,none⟩)).toArray) hI hF (by simp[h5,h8]) (fun i x u cv ep=>by
    simp only[List.getElem?_toArray]at ep;by_cases hi:i<xs.length
    ·rw[WV hi]at cv;rw[WV (by simp;omega)]at ep;exact h6 i x u cv ep
    ·rw[WU (by omega)]at cv;rw[WU (by simp;omega)]at ep;simp only[WY,WQ]at cv ep;obtain⟨l,fG,rfl⟩:=cv;obtain⟨b,dn,rfl⟩:=ep;exact⟨b,h9 _ l b fG (by rw[<-dn];congr 1;simp[h5]),rfl⟩) h4
   refine⟨x,V',A',hK,fun next Q hn=>?_⟩;have e0:(execOp a.eval o).run P w=.ok (.enter fid ((args.toList.map a.eval)++bks.map fun b=>Value.pointer (some ⟨b,0,none⟩)).toArray) w:=by
    simp only[execOp,heq,resolve,h7,Deferred.ofValue,Sem.run_bind,Sem.run_pure,Result.andThen_ok,invoke,X2];rw[GJ,oL]
   unfold Oper.wp;rw[e0];show Calls P fid _ w _;refine hc.mono ?_;rintro e w' ⟨v,g',rfl,fX,qu,ry,AJ⟩;exact hn v w' g' fX qu ry AJ
  ·exact h2.elim
 ·exact plain h
theorem Rp.put (h:Rp n w0 g0 s g a w) {dst:Option Tmp} (hd:∀d,dst=some d->d<n) {x:AV} {v:Value} {V':List (List CV)} {A':List bu} (hr:aR g' w' A' x v) (hI:Inv g' w' V' A') (hx:Ext g w s.A g' w' A') (hF:Fr w0 g0 w' g'):
  Rp n w0 g0 (s.put dst x V' A') g' (a.put dst v) w':=by
 refine⟨hI,hF,?_,?_,fun t y hy=>?_⟩
 ·cases dst<;>simp[Act.put,h.size]
 ·cases dst<;>simp[Act.put,h.defers]
 ·cases dst with
  |none=>
   obtain⟨u,h1,h2⟩:=h.slot t y hy;exact⟨u,h1,aR.ext hx h2⟩
  |some d=>
   have zt:=hd d rfl;simp only[St.put,look]at hy;by_cases e:t=d
   ·subst e;simp at hy;subst hy;refine⟨v,?_,hr⟩;have:t<a.tmps.size:=by rw[h.size];exact zt
    simp[Act.put,this]
   ·rw[if_neg e]at hy;obtain⟨u,h1,h2⟩:=h.slot t y hy;refine⟨u,?_,aR.ext hx h2⟩;simp only[Act.put];rw[XX (fun e'=>e e'.symm)];exact h1
theorem jf (h:Rp n w0 g0 s g a w) {all:Array Oper} {j t:Nat} {oj:Oper} {x:AV} (h1:all[j]? =some oj) (h2:oj.dst=some t) (h3:look s.fr t=some x):(∀b,x=.c (.d (.bool b))->yielded all a.tmps j=some b)/\(x=.c .undef->yielded all a.tmps j=none):=by
 obtain⟨u,h4,h5⟩:=h.slot t x h3;refine⟨fun b hb=>?_,fun hb=>?_⟩
 ·subst hb;simp only[aR,di,bc,a6]at h5;subst h5;simp[yielded,h1,h2,h4]
 ·subst hb;simp only[aR,di,bc]at h5;subst h5;simp[yielded,h1,h2,h4,undef]
theorem pK (h:Rp n w0 g0 s g a w) {all:Array Oper} {o:Oper} {yes no:Prop} (hg:ib all s o yes no):(Region.wanted o (yielded all a.tmps)=true/\yes)\/(Region.wanted o (yielded all a.tmps)=false/\no):=by
 unfold ib at hg;split at hg
 ·rename_i ue;exact .inl ⟨by simp[Region.wanted,ue],hg⟩
 ·rename_i j want ue;refine ai hg fun oj h1 h2=>ai h2 fun t h3 h4=>ai h4 fun x h5 h6=>?_
  obtain⟨h7,h8⟩:=jf h h1 h3 h5;split at h6
  ·rename_i b;have h9:=h7 b rfl;by_cases e:b=want
   ·exact .inl ⟨by simp[Region.wanted,ue,h9,e],h6.1 e⟩
   ·exact .inr ⟨by simp[Region.wanted,ue,h9,e],h6.2 (by cases b<;>cases want<;>simp_all)⟩
  ·exact .inr ⟨by simp[Region.wanted,ue,h8 rfl],h6⟩
  ·exact h6.elim
theorem qR {all:Array Oper} {ow:Nat->Bool} {K:St->Prop} {Q:Exit->Act->World->Prop}:∀(ops:List Oper) (i:Nat) (s:St) (g:Gh) (a:Act) (w:World),cP n ops=true->Rp n w0 g0 s g a w->EZ P all ow K i ops s->
  (∀s' g' a' w',K s'->Rp n w0 g0 s' g' a' w'->Q .normal a' w')->wpList P all Q ops a w
 |[],i,s,g,a,w,_,hR,h,hQ=>hQ s g a w h hR
 |o::rest,i,s,g,a,w,hd,hR,h,hQ=>by
  simp only[cP,XD,XE]at hd;have e5:∀d,o.dst=some d->d<n:=fun d e=>by have:=hd.1;rw[e]at this;simpa using this
  simp only[EZ]at h;unfold wpList;rcases pK hR h with⟨h1,h2⟩|⟨h1,h2⟩
  ·rw[if_pos h1];obtain⟨x,V',A',h3,h4⟩:=cW hR.inv hR.fr hR.slot h2;exact .inl (h4 _ _ fun v w' g' h5 h6 h7 h8=>qR rest (i+1) _ g' _ w' hd.2 (hR.put e5 h5 h6 h7 h8) h3 hQ)
  ·rw[if_neg (by rw[h1];simp)];exact qR rest (i+1) _ g _ w hd.2 (hR.put e5 (x:=.c .undef) (v:=undef) rfl hR.inv (.refl _ _ _) hR.fr) h2 hQ
theorem T.region {id:Nat} {ops:Array Oper} (ow:Nat->Bool) (h:EZ P ops ow (fun s'=>Q .normal s') 0 ops.toList s):T P n (.region id ops false) Q s:=by
 intro eU w0 g0 g a w hR;exact wp_region_list (qR ops.toList 0 s g a w eU hR h fun s' g' a' w' h1 h2=>⟨s',g',h1,h2⟩)
theorem T.mono {c:Code} (h:T P n c Q s) (hq:∀e s',Q e s'->Q' e s'):T P n c Q' s:=
 fun eU w0 g0 g a w hR=>Go.wp_mono (h eU w0 g0 g a w hR) fun _ _ _ ⟨s',g',h1,h2⟩=>⟨s',g',hq _ _ h1,h2⟩
def CB (P:Program) (n:Nat) (c:Code) (Q:Exit->St->Prop):Exit->St->Prop
 |.normal,s=>T P n c Q s
 |e,s=>Q e s
theorem T.seq {x y:Code} (h:T P n x (CB P n y Q) s):T P n (.seq x y) Q s:=by
 intro eU w0 g0 g a w hR;simp only[codeOk,XE]at eU;refine wp_seq (Go.wp_mono (h eU.1 w0 g0 g a w hR) ?_);rintro e a' w' ⟨s',g',h1,h2⟩;cases e with
 |normal=>exact h1 eU.2 w0 g0 g' a' w' h2
 |_=>exact⟨s',g',h1,h2⟩
theorem T.skip (h:Q .normal s):T P n .skip Q s:=fun _ _ _ g _ _ hR=>wp_skip ⟨s,g,h,hR⟩
theorem T.exit {id:Nat} (h:Q (.exit id) s):T P n (.exit id) Q s:=fun _ _ _ g _ _ hR=>wp_exit ⟨s,g,h,hR⟩
theorem T.ret (h:Q .ret s):T P n .ret Q s:=fun _ _ _ g _ _ hR=>wp_ret ⟨s,g,h,hR⟩
theorem T.cond {c:Operand} {x y:Code} {b:Bool} (hc:bw s c=some (.c (.d (.bool b)))) (ht:b=true->T P n x Q s) (hf:b=false->T P n y Q s):T P n (.cond c x y) Q s:=by
 intro eU w0 g0 g a w hR;simp only[codeOk,XE]at eU;have hv:=aI hR.slot hc;simp only[aR,di,bc,a6]at hv;exact wp_cond_split hv (fun e=>ht e eU.1 w0 g0 g a w hR) (fun e=>hf e eU.2 w0 g0 g a w hR)
def lC (id:Nat) (Q:Exit->St->Prop):Exit->St->Prop
 |.exit id',s=>if id'=id then Q .normal s else Q (.exit id') s
 |e,s=>Q e s
theorem T.block {id:Nat} {c:Code} (h:T P n c (lC id Q) s):T P n (.block id c) Q s:=by
 intro eU w0 g0 g a w hR;refine wp_block (Go.wp_mono (h eU w0 g0 g a w hR) ?_);rintro e a' w' ⟨s',g',h1,h2⟩;cases e with
 |exit id'=>
  simp only[lC]at h1;simp only[Exit.inBlock];split
  ·rename_i e;rw[if_pos e]at h1;exact⟨s',g',h1,h2⟩
  ·rename_i e;rw[if_neg e]at h1;exact⟨s',g',h1,h2⟩
 |_=>exact⟨s',g',h1,h2⟩
def Iter (P:Program) (n:Nat) (c:Code) (Q:Exit->St->Prop):Nat->St->Prop
 |0,_=>False
 |k+1,s=>T P n c (fun e s'=>match e with|.normal=>Iter P n c Q k s'|e=>Q e s') s
theorem Iter.succ {c:Code}:∀{k:Nat} {s:St},Iter P n c Q k s->Iter P n c Q (k+1) s
 |0,_,h=>h.elim
 |k+1,s,h=>T.mono h fun e s' h1=>by cases e<;>first|exact Iter.succ h1|exact h1
theorem Iter.le {c:Code} {k k':Nat} (hk:k<=k') {s:St} (h:Iter P n c Q k s):Iter P n c Q k' s:=by
 induction hk with
 |refl=>exact h
 |step _ ih=>exact ih.succ
theorem T.sZ {c:Code} {k:Nat} (h:Iter P n c Q k s):T P n (.loop c) Q s:=by
 intro eU w0 g0 g a w hR;refine wp_loop_rounds k ?_;have key:∀k s g a w,Iter P n c Q k s->Rp n w0 g0 s g a w->Code.rounds P c (fun e a' w'=>∃s' g',Q e s'/\Rp n w0 g0 s' g' a' w') k a w:=by
  intro k;induction k with
  |zero=>intro s g a w h _;exact h.elim
  |succ k ih=>
   intro s g a w h hR;rw[rounds_succ];refine Go.wp_mono (h eU w0 g0 g a w hR) ?_;rintro e a' w' ⟨s',g',h1,h2⟩;cases e with
   |normal=>exact ih s' g' a' w' h1 h2
   |_=>exact⟨s',g',h1,h2⟩
 exact key k s g a w h hR
theorem T.loop {c:Code} (I:Nat->St->Prop) (h:∀k s,I k s->T P n c (fun e s'=>match e with|.normal=>∃k',k'<k/\I k' s'|e=>Q e s') s) {k:Nat} (h0:I k s):T P n (.loop c) Q s:=by
 have key:∀k s,I k s->Iter P n c Q (k+1) s:=by
  intro k;induction k using XN with
  |_ k ih=>
   intro s hs;refine T.mono (h k s hs) fun e s' h1=>?_
   cases e with
   |normal=>obtain⟨k',hk,h2⟩:=h1;exact(ih k' hk s' h2).le hk
   |_=>exact h1
 exact T.sZ (key k s h0)
theorem T.forget {c:Code} (cB:List (Nat×AV)) (ga:∀t x,look cB t=some x->look s.fr t=some x) (h:T P n c Q ⟨cB,s.V,s.A⟩):T P n c Q s:=
 fun eU w0 g0 g a w hR=>h eU w0 g0 g a w ⟨hR.inv,hR.fr,hR.size,hR.defers,fun t x hx=>hR.slot t x (ga t x hx)⟩
theorem T.qS {c:Code} (t:Nat) (sz:Nat) (e:TypeId) (ht:look s.fr t=some (.c .nil)) (h:T P n c Q ⟨(t,.c (.own s.A.length 0))::s.fr,s.V,s.A++[⟨sz,e,[],true⟩]⟩):T P n c Q s:=by
 intro eU w0 g0 g a w hR;obtain⟨g1,K4,pG,xX,e9,lu,jS⟩:=hR.inv.qO hR.fr {sz:=sz,dE:=e,rows:=[],wr:=true} (.slice none 0 0) [] (by simp) (World.ownsRow_nil w 0 e sz) (fun j x u h=>by simp at h) (fun b h=>by simp[Value.ownBlock]at h);refine h eU w0 g0 g1 a w ⟨e9,jS,hR.size,hR.defers,fun t' x hx=>?_⟩;simp only[look]at hx;by_cases e':t'=t
 ·subst e';simp at hx;subst hx;obtain⟨u,h1,h2⟩:=hR.slot t' _ ht;refine⟨u,h1,?_⟩;simp only[aR,di,bc]at h2;subst h2;exact⟨none,0,rfl,_,by simp;rfl,XK _,fun _=>by rw[xX,WU (by rw[hR.inv.lq];exact XI _),hR.inv.lq];simp⟩
 ·rw[if_neg e']at hx;obtain⟨u,h1,h2⟩:=hR.slot t' x hx;exact⟨u,h1,aR.ext lu h2⟩
theorem T.dK {c:Code} (l j:Nat) (sz:Nat) (e:TypeId) {row:List CV} (hl:s.V[l]? =some row) (hj:row[j]? =some .nil) (h:T P n c Q ⟨s.fr,s.V.set l (row.set j (.own s.A.length 0)),s.A++[⟨sz,e,[],true⟩]⟩):T P n c Q s:=by
 intro eU w0 g0 g a w hR;obtain⟨g1,K4,pG,xX,e9,lu,jS⟩:=hR.inv.qO hR.fr {sz:=sz,dE:=e,rows:=[],wr:=true} (.slice none 0 0) [] (by simp) (World.ownsRow_nil w 0 e sz) (fun j x u h=>by simp at h) (fun b h=>by simp[Value.ownBlock]at h);refine h eU w0 g0 g1 a w ⟨?_,jS,hR.size,hR.defers,fun t' x hx=>?_⟩
 ·refine⟨by simpa using e9.oe,e9.lq,fun l' row' b h1 h2=>?_,e9.arr,e9.jW,e9.iE,e9.iM,e9.fresh⟩;have oJ:(s.V.set l (row.set j (.own s.A.length 0)))[l']? =some row':=h1;rw[dc hl]at oJ;by_cases e':l'=l
  ·subst e';simp at oJ;subst oJ;obtain⟨h3,cs,ty,h4,h5,h6⟩:=e9.obj l' row b hl h2;refine⟨h3,cs,ty,h4,by simpa using h5,fun i c u h7 h8=>?_⟩;rw[dc hj]at h7;by_cases e'':i=j
   ·subst e'';simp at h7;subst h7;have h9:=h6 i _ u hj h8;simp only[bc]at h9;subst h9;exact⟨none,0,rfl,_,by simp;rfl,XK _,fun _=>by rw[xX,WU (by rw[hR.inv.lq];exact XI _),hR.inv.lq];simp⟩
   ·rw[if_neg e'']at h7;exact h6 i c u h7 h8
  ·rw[if_neg e']at oJ;exact e9.obj l' row' b oJ h2
 ·obtain⟨u,h1,h2⟩:=hR.slot t' x hx;exact⟨u,h1,aR.ext lu h2⟩
end
def uf (P:Program) (s:St):ResultVar->Option AV
 |.tmp t=>look s.fr t
 |.cell t ty=>match td P ty,look s.fr t with
  |some d,some (.c p)=>match gm s p d.sz with
   |some cs=>EP d.ag cs
   |none=>none
  |_,_=>none
def fy (P:Program) (s:St):List ResultVar->Option (List AV)
 |[]=>some []
 |r::rs=>match uf P s r,fy P s rs with
  |some x,some xs=>some (x::xs)
  |_,_=>none
def one (xs:List AV):AV:=match xs with
 |[x]=>x
 |xs=>.aZ xs
def CV.res (A:List bu) (os ks:List Nat):CV->Option CV
 |.own k n=>match pos? ks k with
  |some i=>(mN A (.own k n)).map fun _=>.own i n
  |none=>(mN A (.own k n)).map CV.d
 |c=>c.j4 A os
def rN (A:List bu) (os ks:List Nat):List CV->Option (List CV)
 |[]=>some []
 |c::r=>match c.res A os ks,rN A os ks r with
  |some d,some ds=>some (d::ds)
  |_,_=>none
def AV.qi (A:List bu) (os ks:List Nat):AV->Option AV
 |.c x=>(x.res A os ks).map AV.c
 |.agg xs=>(rN A os ks xs).map AV.agg
 |.aZ _=>none
def aE (A:List bu) (os ks:List Nat):List AV->Option (List AV)
 |[]=>some []
 |c::r=>match c.qi A os ks,aE A os ks r with
  |some d,some ds=>some (d::ds)
  |_,_=>none
def gW (A:List bu) (V:List (List CV)) (os ks:List Nat):List Nat->Option (List (List CV))
 |[]=>some []
 |l::r=>match V[l]?,gW A V os ks r with
  |some row,some rs=>match rN A os ks row with
   |some row'=>some (row'::rs)
   |none=>none
  |_,_=>none
def qv (A:List bu):List Nat->Option (List bu)
 |[]=>some []
 |k::r=>match A[k]?,qv A r with
  |some x,some xs=>some (x::xs)
  |_,_=>none
def az (P:Program) (fn:Func) (m:Nat) (r:AV) (V':List (List CV)) (A':List bu) (e:Exit) (s:St):Prop:=
 (e=.normal\/e=.ret)/\∃(ext ks:List Nat) (xs ys:List AV),fy P s fn.results.toList=some xs/\ks.Nodup/\ext.Nodup/\(∀l∈ext,m<=l)/\aE s.A (WX m++ext) ks xs=some ys/\r=one ys/\
  gW s.A s.V (WX m++ext) ks (WX m++ext)=some V'/\qv s.A ks=some A'
def oO (A:List bu) (L:List Nat):List bu:=L.foldl (fun A k=>match A[k]? with|some r=>A.set k {r with wr:=false}|none=>A) A
section
variable {P:Program} {n:Nat} {Q Q':Exit->St->Prop} {s s':St} {w0:World} {g0 g g':Gh} {a:Act} {w w':World} {V:List (List CV)} {A A':List bu}
theorem s3:∀(L:List Nat) (g:Gh) (A:List bu),Inv g w V A->Fr w0 g0 w g->
  ∃g',Inv g' w V (oO A L)/\Ext g w A g' w (oO A L)/\Fr w0 g0 w g'/\g'.ar=g.ar/\g'.ob=g.ob/\(∀k,k∉L->(oO A L)[k]? =A[k]?)/\∀k∈L,∀r v,A[k]? =some r->g.ar[k]? =some v->a6 g'.im w (.sl r.rows) v
 |[],g,A,hI,hF=>⟨g,hI,.refl _ _ _,hF,rfl,rfl,fun _ _=>rfl,fun k h=>by simp at h⟩
 |k0::L,g,A,hI,hF=>by
  cases hk:A[k0]? with
  |none=>
   obtain⟨g',h1,h2,h3,h4,h5,h6,h7⟩:=s3 L g A hI hF;have he:oO A (k0::L)=oO A L:=by simp only[oO,Xf,hk]
   rw[he];exact⟨g',h1,h2,h3,h4,h5,fun k h=>h6 k (fun h'=>h (by simp[h'])),fun k h r v h8 h9=>by
    simp only[W2]at h;rcases h with rfl|h
    ·rw[hk]at h8;cases h8
    ·exact h7 k h r v h8 h9⟩
  |some r0=>
   have F9:k0<g.ar.length:=by rw[hI.lq];exact(WS.1 hk).1
   have Ct:g.ar[k0]? =some g.ar[k0]:=WW F9;obtain⟨g1,i1,i2,i3,i4,i5,i6⟩:=hI.seal hF hk Ct;obtain⟨g',h1,h2,h3,h4,h5,h6,h7⟩:=s3 L g1 _ i1 i3;have he:oO A (k0::L)=oO (A.set k0 {r0 with wr:=false}) L:=by simp only[oO,Xf,hk]
   rw[he];refine⟨g',h1,i2.trans h2,h3,h4.trans i4,h5.trans i5,fun k h=>?_,fun k h r v h8 h9=>?_⟩
   ·simp only[W2,not_or]at h;rw[h6 k h.2,dc hk,if_neg h.1]
   ·by_cases e:k=k0
    ·subst e;rw[hk]at h8;cases h8;rw[Ct]at h9;cases h9;exact a6.ft h2.gr _ _ i6
    ·simp only[W2,e,false_or]at h;exact h7 k h r v (by rw[dc hk,if_neg e];exact h8) (by rw[i4];exact h9)
theorem bc.Qt {c:CV} {u:Value} (h:bc g w [] c u):bc {g with ar:=g'.ar} w A' c u:=by
 cases c with
 |own k n=>obtain⟨_,_,_,r,h1,_⟩:=h;simp at h1
 |op k n i off=>obtain⟨_,_,_,r,h1,_⟩:=h;simp at h1
 |_=>exact h
theorem AO:∀{ks:List Nat} {xs:List bu},qv A ks=some xs->xs.length=ks.length/\∀(i k:Nat) x,ks[i]? =some k->xs[i]? =some x->A[k]? =some x
 |[],xs,h=>by simp[qv]at h;subst h;exact⟨rfl,fun i k x h=>by simp at h⟩
 |k::r,xs,h=>by
  simp only[qv]at h;split at h
  ·rename_i x xs' h1 h2;simp at h;subst h;obtain⟨h3,h4⟩:=AO h2;refine⟨by simp[h3],fun i k' x' h5 h6=>?_⟩;cases i with
   |zero=>simp at h5 h6;subst h5;subst h6;exact h1
   |succ i=>simp at h5 h6;exact h4 i k' x' h5 h6
  ·simp at h
theorem zu {os ks:List Nat}:∀{cs ds:List CV},rN A os ks cs=some ds->ds.length=cs.length/\∀(j:Nat) c d,cs[j]? =some c->ds[j]? =some d->c.res A os ks=some d
 |[],ds,h=>by simp[rN]at h;subst h;exact⟨rfl,fun j c d h=>by simp at h⟩
 |c::r,ds,h=>by
  simp only[rN]at h;split at h
  ·rename_i d ds' h1 h2;simp at h;subst h;obtain⟨h3,h4⟩:=zu h2;refine⟨by simp[h3],fun j c' d' h5 h6=>?_⟩;cases j with
   |zero=>simp at h5 h6;subst h5;subst h6;exact h1
   |succ j=>simp at h5 h6;exact h4 j c' d' h5 h6
  ·simp at h
theorem AP {os ks:List Nat}:∀{cs ds:List AV},aE A os ks cs=some ds->ds.length=cs.length/\∀(j:Nat) c d,cs[j]? =some c->ds[j]? =some d->c.qi A os ks=some d
 |[],ds,h=>by simp[aE]at h;subst h;exact⟨rfl,fun j c d h=>by simp at h⟩
 |c::r,ds,h=>by
  simp only[aE]at h;split at h
  ·rename_i d ds' h1 h2;simp at h;subst h;obtain⟨h3,h4⟩:=AP h2;refine⟨by simp[h3],fun j c' d' h5 h6=>?_⟩;cases j with
   |zero=>simp at h5 h6;subst h5;subst h6;exact h1
   |succ j=>simp at h5 h6;exact h4 j c' d' h5 h6
  ·simp at h
theorem AQ {os ks:List Nat}:∀{ls:List Nat} {Vc:List (List CV)},gW A V os ks ls=some Vc->Vc.length=ls.length/\∀(i l:Nat) row',ls[i]? =some l->Vc[i]? =some row'->∃row,V[l]? =some row/\rN A os ks row=some row'
 |[],Vc,h=>by simp[gW]at h;subst h;exact⟨rfl,fun i l row' h=>by simp at h⟩
 |l::r,Vc,h=>by
  simp only[gW]at h;split at h
  ·rename_i row rs h1 h2;split at h
   ·rename_i row' h3;simp at h;subst h;obtain⟨h4,h5⟩:=AQ h2;refine⟨by simp[h4],fun i l' rw' h6 h7=>?_⟩;cases i with
    |zero=>simp at h6 h7;subst h6;subst h7;exact⟨row,h1,h3⟩
    |succ i=>simp at h6 h7;exact h5 i l' rw' h6 h7
   ·simp at h
  ·simp at h
def mS (tmps:Array Value):ResultVar->Sem Value
 |.tmp t=>pure (tmps.getD t undef)
 |.cell p t=>do loadVar t (<-asAddr (tmps.getD p undef))
theorem qT (fn:Func) (tmps:Array Value):results fn tmps=(do let vs<-fn.results.mapM (mS tmps);pure (if h:vs.size=1 then vs[0]else .tuple vs)):=by
 unfold results
 congr 1
theorem mU (hI:Inv g w s.V s.A) (hS:gU g w s a):∀{rs:List ResultVar} {xs:List AV},fy P s rs=some xs->
  ∃us:List Value,us.length=xs.length/\(∀(i:Nat) x u,xs[i]? =some x->us[i]? =some u->aR g w s.A x u)/\
   (rs.mapM (mS a.tmps)).run P w=.ok us w
 |[],xs,h=>by simp[fy]at h;subst h;exact⟨[],rfl,fun i x u h=>by simp at h,rfl⟩
 |r::rs,xs,h=>by
  simp only[fy]at h;split at h
  ·rename_i x xs' h1 h2;simp at h;subst h;obtain⟨us,h3,h4,h5⟩:=mU hI hS h2;have uT:∃u,aR g w s.A x u/\(mS a.tmps r).run P w=.ok u w:=by
    cases r with
    |tmp t=>
     obtain⟨u,h6,h7⟩:=hS t x h1;exact⟨u,h7,by simp[mS,h6]⟩
    |cell p ty=>
     simp only[uf]at h1;split at h1
     ·rename_i d c hd hp;split at h1
      ·rename_i cs xK;obtain⟨u,h6,h7⟩:=hS p _ hp;obtain⟨b,off,vs,rfl,hl,hr,hc⟩:=qp hI h7 xK;obtain⟨k1,k2⟩:=lV (P:=P) hd hc (hr.1.trans hl);have uW:a.tmps.getD p undef=.pointer (some ⟨b,off,none⟩):=by simp[h6]
       cases Gz:d.ag with
       |true=>
        simp[EP,Gz]at h1;subst h1;exact⟨.agg vs.toArray,⟨vs,rfl,hr.1,fun i c u h8 h9=>hr.2 i c u h8 h9⟩,by simp only[mS,uW];exact k1 Gz⟩
       |false=>
        simp only[EP,Gz,XG,if_false]at h1;split at h1
        ·rename_i c';simp at h1;subst h1;obtain⟨u,rfl⟩:∃u,vs=[u]:=by
          have:=hr.1;simp at this;exact Xo.1 this
         exact⟨u,hr.2 0 c' u rfl rfl,by simp only[mS,uW];exact k2 Gz u rfl⟩
        ·simp at h1
      ·simp at h1
     ·simp at h1
   obtain⟨u,h6,h7⟩:=uT;refine⟨u::us,by simp[h3],fun i x' u' h8 h9=>?_,?_⟩
   ·cases i with
    |zero=>simp at h8 h9;subst h8;subst h9;exact h6
    |succ i=>simp at h8 h9;exact h4 i x' u' h8 h9
   ·simp only[List.mapM_cons,Sem.run_bind,h7,Result.andThen_ok,h5,Sem.run_pure]
  ·simp at h
theorem enters {f:FuncId} {fn:Func} {c:Code} (hf:P.funcs[f]? =some fn) (mh:(fn.name== "runtime.NumGoroutine")=false) (hb:fn.body=some c) (args:Array Value) (w:World):(callFunc f args).run P w=.ok (.enter f args) w:=by
 have h:¬fn.name= "runtime.NumGoroutine" :=by simpa using mh
 simp[callFunc,hf,h,hb]
def kU (as:List AV):List (Nat×AV):=(as.zipIdx 0).map fun(x,i)=>(i,x)
theorem mV:∀(as:List AV) (k t:Nat) (x:AV),look ((as.zipIdx k).map fun(x,i)=>(i,x)) t=some x->k<=t/\as[t-k]? =some x
 |[],k,t,x,h=>by simp[look]at h
 |y::as,k,t,x,h=>by
  simp only[List.zipIdx_cons,W8,look]at h;split at h
  ·rename_i e;subst e;simp at h;subst h;simp
  ·rename_i e;obtain⟨h1,h2⟩:=mV as (k+1) t x h;refine⟨by omega,?_⟩;rw[show t-k=(t-(k+1))+1 by omega,XA];exact h2
def qw (P:Program) (fn:Func) (m a:Nat) (r:AV) (V':List (List CV)) (A':List bu) (e:Exit) (s:St):Prop:=
 (e=.normal\/e=.ret)/\∃(ext ks:List Nat) (xs ys:List AV),(∃ke,ks=WX a++ke)/\fy P s fn.results.toList=some xs/\ks.Nodup/\ext.Nodup/\(∀l∈ext,m<=l)/\aE s.A (WX m++ext) ks xs=some ys/\r=one ys/\
  gW s.A s.V (WX m++ext) ks (WX m++ext)=some V'/\qv s.A ks=some A'
set_option maxHeartbeats 1000000 in
theorem eW.kg {f:FuncId} {fn:Func} {c:Code} {as:List AV} {V V':List (List CV)} {A0:List bu} {r:AV} {A':List bu} (hf:P.funcs[f]? =some fn) (mh:(fn.name== "runtime.NumGoroutine")=false) (hb:fn.body=some c) (eU:codeOk fn.ntmps c=true) (hn:as.length<=fn.ntmps)
  (K7:V.length<=V'.length) (h:T P fn.ntmps c (qw P fn V.length A0.length r V' A') ⟨kU as,V,A0⟩):eW P f as V A0 r V' A':=by
 refine⟨enters hf mh hb,K7,fun g w vs hI TW EO P4=>?_⟩;refine calls_of_wp hf hb ?_;have hR:Rp fn.ntmps w g ⟨kU as,V,A0⟩ g {tmps:=vs++XZ (fn.ntmps-vs.size) undef,defers:=[]} w:=by
  refine⟨hI,Fr.refl TW,by simp;omega,rfl,fun t x hx=>?_⟩;obtain⟨_,hx⟩:=mV as 0 t x hx;rw[Nat.sub_zero]at hx;have ht:t<vs.size:=by have:=(WS.1 hx).1;omega
  exact⟨vs[t],by rw[Array.getElem?_append_left ht];simp[ht],P4 t x _ hx (by simp[ht])⟩
 refine Go.wp_mono (h eU w g g _ w hR) ?_;rintro e a' w' ⟨s',g',⟨hex,ext,ks,xs,ys,⟨ke,TY⟩,Lf,Qu,lx,E0,Ga,rfl,TZ,T3⟩,oh⟩;obtain⟨us,zn,Kf,e0⟩:=mU oh.inv oh.slot Lf
 let v:Value:=if h:us.toArray.size=1 then us.toArray[0]else .tuple us.toArray
 have oP:(results fn a'.tmps).run P w'=.ok v w':=by
  rw[qT,Sem.run_bind,Array.mapM_eq_mapM_toList];have hm:(List.toArray<$>fn.results.toList.mapM (mS a'.tmps)).run P w'=.ok us.toArray w':=by
   simp[e0]
  rw[hm]
  rfl
 let os:=WX V.length++ext
 obtain⟨g1,e9,lu,jS,xX,pG,ug,Nh⟩:=s3 ((WX s'.A.length).filter fun k=>(pos? ks k).isNone) g' s'.A oh.inv oh.fr;obtain⟨Qq,Qv⟩:=AO T3;obtain⟨Qw,MA⟩:=AQ TZ;have Qx:∀(i k:Nat),ks[i]? =some k->k<s'.A.length:=fun i k hi=>by
  have Au:=(WS.1 hi).1;have:=Qv i k _ hi (WW (show i<A'.length by omega));exact(WS.1 this).1
 have Ni:∀l∈os,l<s'.V.length:=fun l hl=>by
  obtain⟨i,hi⟩:=W1 hl;have Au:=(WS.1 hi).1;have T4:i<(WX V.length++ext).length:=Au;obtain⟨row,h1,_⟩:=MA i l _ hi (WW (show i<V'.length by omega));exact(WS.1 h1).1
 have Nj:os.Nodup:=by
  simp only[os];refine List.nodup_append.2 ⟨List.nodup_range,lx,fun a ha b eI=>?_⟩;have h1:=E0 b eI;simp at ha;omega
 let gf:Gh:={ob:=os.map fun l=>g1.ob.getD l 0,ar:=ks.map fun k=>g1.ar.getD k undef,im:=g1.im}
 have GO:∀(i l b:Nat),os[i]? =some l->g1.ob[l]? =some b->gf.ob[i]? =some b:=fun i l b h1 h2=>by simp[gf,h1,h2]
 have nS:∀(i b:Nat),gf.ob[i]? =some b->∃l,os[i]? =some l/\g1.ob[l]? =some b:=fun i b h1=>by
  simp only[gf,WY,WQ]at h1;obtain⟨l,h2,h3⟩:=h1;have x8:l<g1.ob.length:=by rw[e9.oe];exact Ni l (WZ h2)
  exact⟨l,h2,by rw[<-h3];simp[W0,x8]⟩
 have EW:∀(i k:Nat) v,ks[i]? =some k->g1.ar[k]? =some v->gf.ar[i]? =some v:=fun i k v h1 h2=>by simp[gf,h1,h2]
 have oN:∀(i:Nat) v,gf.ar[i]? =some v->∃k,ks[i]? =some k/\g1.ar[k]? =some v:=fun i v h1=>by
  simp only[gf,WY,WQ]at h1;obtain⟨k,h2,h3⟩:=h1;have F9:k<g1.ar.length:=by rw[xX,oh.inv.lq];exact Qx i k h2
  exact⟨k,h2,by rw[<-h3];simp[W0,F9]⟩
 have I3:∀{l:List Nat} {k:Nat},(pos? l k).isNone=true↔k∉l:=by
  intro l;induction l with
  |nil=>intro k;simp[pos?]
  |cons x l ih=>
   intro k;simp only[pos?];by_cases e:k=x
   ·subst e;simp
   ·simp only[e,if_false,Option.isNone_map,ih,W2,false_or]
 have T5:∀(i k:Nat) x,ks[i]? =some k->A'[i]? =some x->(oO s'.A ((WX s'.A.length).filter fun k=>(pos? ks k).isNone))[k]? =some x:=fun i k x h1 h2=>by
  rw[ug k (by simp only[Xm,not_and,I3];intro _ h;exact h (WZ h1))];exact Qv i k x h1 h2
 have nO:∀(c d:CV) (u:Value),c.res s'.A os ks=some d->bc g' w' s'.A c u->bc gf w' A' d u:=by
  intro c d u h1 h2;have plain:c.j4 s'.A os=some d->(∀k n,c≠.own k n)->bc gf w' A' d u:=by
   intro h3 h4;have h5:=sY (A:=s'.A) (A':=oO s'.A ((WX s'.A.length).filter fun k=>(pos? ks k).isNone)) (ids:=os) (g1:=g1) (gc:={gf with ar:=[]}) (w:=w') h3 (bc.ext lu h2) (fun x hx=>by
    cases c with
    |d y=>simp[mN]at hx;subst hx;exact a6.ft lu.gr _ _ h2
    |nil=>simp[mN]at hx;subst hx;simp only[bc]at h2;subst h2;simp only[a6];exact⟨none,0,rfl,XI _,.inl trivial⟩
    |own k n=>exact absurd rfl (h4 k n)
    |_=>simp[mN]at hx) GO rfl
   exact bc.Qt (g:={gf with ar:=[]}) (g':=gf) h5
  cases c with
  |own k n=>
   simp only[CV.res]at h1;obtain⟨ad,cap,e,r,hk,F5,hv⟩:=h2;split at h1
   ·rename_i i hi;simp only[WQ]at h1;obtain⟨x,hx,rfl⟩:=h1;simp only[mN,hk]at hx;split at hx
    ·rename_i cY;have ME:=mg hi;have Au:=(WS.1 ME).1;have hA'i:A'[i]? =some (A'[i]'(by omega)):=WW (by omega);have h3:=Qv i k _ ME hA'i;rw[hk]at h3;have h4:r=A'[i]'(by omega):=Option.some.inj h3;refine⟨ad,cap,e,r,by rw[hA'i,h4],F5,fun _=>EW i k u ME (by rw[xX];exact hv cY)⟩
    ·simp at hx
   ·rename_i hi;simp only[WQ]at h1;obtain⟨x,hx,rfl⟩:=h1;simp only[mN,hk]at hx;split at hx
    ·rename_i cY;simp at hx;subst hx;exact Nh k (by simp[hi];exact(WS.1 hk).1) r u hk (hv cY)
    ·simp at hx
  |d y=>exact plain h1 (by intro k n h;cases h)
  |nil=>exact plain h1 (by intro k n h;cases h)
  |ptr l off=>exact plain h1 (by intro k n h;cases h)
  |np=>exact plain h1 (by intro k n h;cases h)
  |ip row off=>exact plain h1 (by intro k n h;cases h)
  |op k n i off=>exact plain h1 (by intro k n h;cases h)
  |fn f cap=>exact plain h1 (by intro k n h;cases h)
  |undef=>exact plain h1 (by intro k n h;cases h)
 have Cz:∀(x y:AV) (u:Value),x.qi s'.A os ks=some y->aR g' w' s'.A x u->di gf w' A' y u:=by
  intro x y u h1 h2;cases x with
  |c c=>
   simp only[AV.qi,WQ]at h1;obtain⟨d,hd,rfl⟩:=h1;exact nO c d u hd h2
  |agg cs=>
   simp only[AV.qi,WQ]at h1;obtain⟨ds,hd,rfl⟩:=h1;obtain⟨us',rfl,h3,h4⟩:=h2;obtain⟨h5,h6⟩:=zu hd;refine⟨us',rfl,by omega,fun j d u h7 h8=>?_⟩;have hj:j<cs.length:=by have:=(WS.1 h7).1;omega
   have hc:cs[j]? =some cs[j]:=WW hj;exact nO _ d u (h6 j _ d hc h7) (h4 j _ u hc h8)
  |aZ zs=>simp[AV.qi]at h1
 obtain⟨Vq,T6⟩:=AP Ga;have Nk:aR gf w' A' (one ys) v:=by
  have cX:∀(i:Nat) y u,ys[i]? =some y->us[i]? =some u->di gf w' A' y u:=fun i y u h1 h2=>by
   have hi:i<xs.length:=by have:=(WS.1 h1).1;omega
   have hx:xs[i]? =some xs[i]:=WW hi;exact Cz _ y u (T6 i _ y hx h1) (Kf i _ u hx h2)
  by_cases h1:us.length=1
  ·obtain⟨u,rfl⟩:=Xo.1 h1;obtain⟨y,rfl⟩:=Xo.1 (show ys.length=1 by omega);have h2:=cX 0 y u rfl rfl;have hv:v=u:=by simp[v]
   rw[hv];cases y with
   |aZ zs=>exact h2.elim
   |c c=>exact h2
   |agg cs=>exact h2
  ·have hv:v=.tuple us.toArray:=by simp[v,h1]
   have ho:one ys=.aZ ys:=by
    match ys,(show ys.length≠1 by omega)with
    |[],_=>rfl
    |_::_::_,_=>rfl
   rw[hv,ho];exact⟨us,rfl,by omega,cX⟩
 have SB:g.ob.length=V.length:=hI.oe;have Nl:∃new,gf.ob=g.ob++new/\∀b∈new,w.heap.size<=b:=by
  obtain⟨new,e,ya⟩:=jS.ob;refine⟨ext.map fun l=>g1.ob.getD l 0,?_,fun b eI=>?_⟩
  ·simp only[gf,os,Xv]
   congr 1
   apply XB;intro i;by_cases hi:i<V.length
   ·simp[hi,e,W0,WV (show i<g.ob.length by omega),WW (show i<g.ob.length by omega)]
   ·simp[Xe (show g.ob.length<=i by omega),Xe (show(WX V.length).length<=i by simp;omega)]
  ·simp only[Xl]at eI;obtain⟨l,hl,rfl⟩:=eI;have x8:l<g1.ob.length:=by rw[e9.oe];exact Ni l (by simp[os,hl])
   have F8:=E0 l hl;have cD:g1.ob.getD l 0∈new:=by
    have h1:g1.ob[l]? =some (g1.ob.getD l 0):=by simp[W0,x8]
    generalize g1.ob.getD l 0=q at h1⊢;rw[e,WU (by omega)]at h1;exact WZ h1
   exact ya _ cD
 have Nn:Inv gf w' V' A':=by
  refine⟨by simp[gf,Qw,os],by simp[gf,Qq],fun i row' b h1 h2=>?_,fun i x v' h1 h2=>?_,fun i i' b h1 h2=>?_,fun i i' v1 v2 b h1 h2 h3 h4=>?_,fun i j v' b h1 h2=>?_,e9.fresh⟩
  ·obtain⟨l,h3,h4⟩:=nS i b h2;obtain⟨row,h5,h6⟩:=MA i l row' h3 h1;obtain⟨h7,h8⟩:=zu h6;have eI:g'.ob[l]? =some b:=by rw[<-pG];exact h4
   obtain⟨_,cs,ty,cv,ep,fG⟩:=oh.inv.obj l row b h5 eI;refine⟨(e9.obj l row b h5 h4).1,cs,ty,cv,by omega,fun j d u dn fX=>?_⟩;have hj:j<row.length:=by have:=(WS.1 dn).1;omega
   have hc:row[j]? =some row[j]:=WW hj;exact nO _ d u (h8 j _ d hc dn) (fG j _ u hc fX)
  ·obtain⟨k,h3,h4⟩:=oN i v' h2;exact e9.arr k x v' (T5 i k x h3 h1) h4
  ·obtain⟨l,h3,h4⟩:=nS i b h1;obtain⟨l',h5,h6⟩:=nS i' b h2;obtain rfl:=e9.jW l l' b h4 h6;exact(Xd (WS.1 h3).1 Nj).1 (h3.trans h5.symm)
  ·obtain⟨k,h5,h6⟩:=oN i v1 h1;obtain⟨k',h7,h8⟩:=oN i' v2 h2;obtain rfl:=e9.iE k k' v1 v2 b h6 h8 h3 h4;exact(Xd (WS.1 h5).1 Qu).1 (h5.trans h7.symm)
  ·obtain⟨l,h3,h4⟩:=nS i b h1;obtain⟨k,h5,h6⟩:=oN j v' h2;exact e9.iM l k v' b h4 h6
 have AR:a'.defers=[]/\∃v,(results fn a'.tmps).run P w'=.ok v w'/\∃v1 g',Ending.returned v=.returned v1/\aR g' w' A' (one ys) v1/\Inv g' w' V' A'/\Fr w g w' g':=
  ⟨oh.defers,v,oP,v,gf,rfl,Nk,Nn,⟨jS.os,jS.tape,jS.output,jS.size,jS.pF,jS.iO,Nl,fun i v' b h1 h2=>by
   obtain⟨k,h3,h4⟩:=oN i v' h1;exact jS.ar k v' b h4 h2,fun k v' h1=>by
   obtain⟨v2,h2,h3⟩:=jS.vk k v' h1;have hk:k<A0.length:=by rw[<-hI.lq];exact(WS.1 h1).1
   exact⟨v2,EW k k v2 (by rw[TY,WV (by simpa using hk)];simp[hk]) h2,h3⟩,jS.xR⟩⟩
 rcases hex with rfl|rfl<;>exact AR
theorem ah.kg {f:FuncId} {fn:Func} {c:Code} {as:List AV} {V V':List (List CV)} {r:AV} {A':List bu} (hf:P.funcs[f]? =some fn) (mh:(fn.name== "runtime.NumGoroutine")=false) (hb:fn.body=some c) (eU:codeOk fn.ntmps c=true) (hn:as.length<=fn.ntmps)
  (K7:V.length<=V'.length) (h:T P fn.ntmps c (az P fn V.length r V' A') ⟨kU as,V,[]⟩):ah P f as V r V' A':=by
 obtain⟨h1,h2,h3⟩:=eW.kg (A0:=[]) hf mh hb eU hn K7 (T.mono h fun e s' hd=>by
  obtain⟨hex,ext,ks,xs,ys,h⟩:=hd;exact⟨hex,ext,ks,xs,ys,⟨ks,by simp⟩,h⟩)
 exact⟨h1,h2,fun g w vs _ hI=>h3 g w vs hI⟩
theorem ah.ob {f:FuncId} {fn:Func} {N:Nat} {c:Code} {as:List AV} {V V':List (List CV)} {r:AV} {A':List bu} (hf:P.funcs[f]? =some fn) (hN:fn.ntmps=N) (hb:fn.body=some c) (h:T P N c (az P fn V.length r V' A') ⟨kU as,V,[]⟩) (mh:(fn.name== "runtime.NumGoroutine")=false:=by kernel_rfl) (eU:codeOk N c=true:=by kernel_rfl) (hn:as.length<=N:=by simp) (K7:V.length<=V'.length:=by simp):ah P f as V r V' A':=by
 subst hN;exact ah.kg hf mh hb eU hn K7 h
end
def cy:Op->Bool
 |.move _|.assign _|.pick _ _ _|.fieldAddr _ _ _|.unOp _ _ _|.binOp _ _ _ _ _|.extract _ _=>true
 |_=>false
def gw (all:Array Oper) (s:St) (o:Oper):Bool:=
 match o.guard with
 |none=>true
 |some (j,want)=>match(all[j]?).bind (·.dst)with
  |some t=>match look s.fr t with
   |some (.c (.d (.bool b)))=>b==want
   |_=>false
  |none=>false
def SC (P:Program) (all:Array Oper) (ow:Bool) (o:Oper) (s s':St):Prop:=
 ib all s o True True/\((gw all s o=true/\∃x V A,s'=s.put o.dst x V A/\∀K:AV->List (List CV)->List bu->Prop,K x V A->bA P s ow o K)\/(gw all s o=false/\s'=s.put o.dst (.c .undef) s.V s.A))
def yy (P:Program) (all:Array Oper) (ow:Nat->Bool) (ws:List Nat) (K:St->Prop):Nat->List Oper->St->Prop
 |_,[],s=>K s
 |i,o::rest,s=>ib all s o (bA P s (ow i) o fun x V A=>(i∈ws\/(V=s.V/\A=s.A))/\yy P all ow ws K (i+1) rest (s.put o.dst x V A)) (yy P all ow ws K (i+1) rest (s.put o.dst (.c .undef) s.V s.A))
def mi (acc:List Nat) (o:Oper):Nat:=o.after.toList.foldl (fun m e=>if Region.binds .any e then m|||2 ^ e.on|||acc.getD e.on 0 else m) 0
def aW:List Oper->List Nat->List Nat
 |[],acc=>acc
 |o::r,acc=>aW r (acc++[mi acc o])
def dk (all:Array Oper) (x y:Oper):Bool:=match x.dst with
 |some d=>(y.looksAt all).contains d
 |none=>false
def bj (all:Array Oper) (ws ms:List Nat) (oi oj:Oper) (i j:Nat):Bool:=
 (oi.dst.isNone||oi.dst !=oj.dst)&&((!dk all oi oj && !dk all oj oi && !(ws.contains i && !cy oj.op)&& !(ws.contains j && !cy oi.op))||(ms.getD j 0).testBit i)
def eE (all:Array Oper) (ws:List Nat):Bool:=
 let l:=all.toList.zipIdx
 let ms:=aW all.toList []
 (l.all fun(o,j)=>o.after.toList.all fun e=> !Region.binds .any e||decide (e.on<j))&&
 (l.all fun(oj,j)=>l.all fun(oi,i)=> !(decide (i<j))||bj all ws ms oi oj i j)&&
 (l.all fun(o,j)=> !ws.contains j|| !cy o.op)
section
variable {P:Program} {n:Nat} {Q Q':Exit->St->Prop} {s s':St} {w0:World} {g0 g g':Gh} {a:Act} {w w':World} {V:List (List CV)} {A A':List bu}
theorem iQ {all:Array Oper} {o:Oper} {y n:Prop} (h:ib all s o y n):(gw all s o=true/\y\/gw all s o=false/\n)/\ib all s o True True:=by
 unfold ib at h;unfold gw ib;split at h
 ·rename_i hg;simp[hg,h]
 ·rename_i j want hg;refine ai h fun oj h1 h2=>ai h2 fun t h3 h4=>ai h4 fun x h5 h6=>?_
  simp only[hg,h1,WR,h3,h5,bM];split at h6
  ·rename_i b;simp only[beq_iff_eq,beq_eq_false_iff_ne,implies_true,and_self,and_true];by_cases e:b=want
   ·exact .inl ⟨e,h6.1 e⟩
   ·exact .inr ⟨e,h6.2 (by cases b<;>cases want<;>simp_all)⟩
  ·simp[h6]
  ·exact h6.elim
theorem I4 {ow:Bool} {op:Op} {K:AV->List (List CV)->List bu->Prop} (h:eC P s ow op K):∃x V A,K x V A/\∀K':AV->List (List CV)->List bu->Prop,K' x V A->eC P s ow op K':=by
 cases op with
 |move x=>exact ai h fun v h1 h2=>⟨_,_,_,h2,fun K' h=>by simpa only[eC,bM,h1]using h⟩
 |assign x=>exact ai h fun v h1 h2=>⟨_,_,_,h2,fun K' h=>by simpa only[eC,bM,h1]using h⟩
 |pick c x y=>
  refine ai h fun v h1 h2=>?_
  split at h2
  ·rename_i t;cases t with
   |true=>simp only[if_true]at h2;exact ai h2 fun v h3 h4=>⟨_,_,_,h4,fun K' h=>by simpa only[eC,bM,h1,if_true,h3]using h⟩
   |false=>simp only[XG,if_false]at h2;exact ai h2 fun v h3 h4=>⟨_,_,_,h4,fun K' h=>by simpa only[eC,bM,h1,XG,if_false,h3]using h⟩
  ·exact h2.elim
 |alloc e=>exact ai h fun d h1 h2=>ai h2 fun z h3 h4=>⟨_,_,_,h4,fun K' h=>by simpa only[eC,bM,h1,h3]using h⟩
 |box e x=>exact ai h fun v h1 h2=>⟨_,_,_,h2.2,fun K' h=>by simp only[eC,bM,h1];exact⟨h2.1,h⟩⟩
 |build t parts=>exact ai h fun d h1 h2=>ai h2 fun z h3 h4=>ai h4 fun ps h5 h6=>ai h6 fun cs h7 h8=>⟨_,_,_,h8.2.2,fun K' h=>by simp only[eC,bM,h1,h3,h5,h7];exact⟨h8.1,h8.2.1,h⟩⟩
 |buildSlice t len parts=>
  refine ai h fun d h1 h2=>ai h2 fun e h3 h4=>ai h4 fun de h5 h6=>ai h6 fun rows h7 h8=>ai h8 fun ds h9 cv=>?_
  obtain⟨k1,k2,k3,k4,k5⟩:=cv;cases ow with
  |true=>simp only[if_true]at k5;exact⟨_,_,_,k5,fun K' h=>by simp only[eC,bM,h1,h3,h5,h7,h9];exact⟨k1,k2,k3,k4,by simpa only[if_true]using h⟩⟩
  |false=>simp only[XG,if_false]at k5;exact⟨_,_,_,k5,fun K' h=>by simp only[eC,bM,h1,h3,h5,h7,h9];exact⟨k1,k2,k3,k4,by simpa only[XG,if_false]using h⟩⟩
 |load t x=>
  refine ai h fun d h1 h2=>ai h2 fun p h3 h4=>?_
  split at h4
  ·exact ai h4 fun cs h5 h6=>ai h6 fun v h7 h8=>⟨_,_,_,h8,fun K' h=>by simpa only[eC,bM,h1,h3,h5,h7]using h⟩
  ·exact h4.elim
 |store t x y=>
  refine ai h fun d h1 h2=>ai h2 fun p h3 h4=>ai h4 fun v h5 h6=>?_
  obtain⟨h7,h8,h9⟩:=h6;split at h9
  ·exact ai h9 fun row cv ep=>⟨_,_,_,ep.2,fun K' h=>by simp only[eC,bM,h1,h3,h5,cv];exact⟨h7,h8,ep.1,h⟩⟩
  ·refine ai h9 fun r cv ep=>?_
   obtain⟨fG,dn,fX⟩:=ep;exact ai fX fun row qu ry=>ai ry fun ds AJ rz=>⟨_,_,_,rz.2.2,fun K' h=>by simp only[eC,bM,h1,h3,h5,cv,qu,AJ];exact⟨h7,h8,fG,dn,rz.1,rz.2.1,h⟩⟩
  ·exact h9.elim
 |nilCheck x=>
  refine ai h fun v h1 h2=>?_
  split at h2
  ·exact⟨_,_,_,h2,fun K' h=>by simpa only[eC,bM,h1]using h⟩
  ·exact⟨_,_,_,h2,fun K' h=>by simpa only[eC,bM,h1]using h⟩
  ·exact⟨_,_,_,h2,fun K' h=>by simpa only[eC,bM,h1]using h⟩
  ·exact⟨_,_,_,h2,fun K' h=>by simpa only[eC,bM,h1]using h⟩
  ·exact h2.elim
 |binOp op t x y t'=>
  refine ai h fun u h1 h2=>ai h2 fun v h3 h4=>?_
  split at h4
  ·rename_i r hr;exact⟨_,_,_,h4,fun K' h=>by simpa only[eC,bM,h1,h3,hr]using h⟩
  ·rename_i hr;split at h4
   ·rename_i r Cs;exact⟨_,_,_,h4,fun K' h=>by simpa only[eC,bM,h1,h3,hr,Cs]using h⟩
   ·rename_i Cs;exact ai h4 fun r h5 h6=>ai h6 fun d h7 h8=>⟨_,_,_,h8.2,fun K' h=>by simp only[eC,bM,h1,h3,hr,Cs,h5,h7];exact⟨h8.1,h⟩⟩
 |unOp op t x=>exact ai h fun u h1 h2=>ai h2 fun r h3 h4=>⟨_,_,_,h4,fun K' h=>by simpa only[eC,bM,h1,h3]using h⟩
 |convert src dst x=>
  refine ai h fun u h1 h2=>ai h2 fun ds h3 h4=>ai h4 fun dd h5 h6=>?_
  split at h6
  ·exact ai h6 fun k h7 h8=>⟨_,_,_,h8,fun K' h=>by simpa only[eC,bM,h1,h3,h5,h7]using h⟩
  ·exact⟨_,_,_,h6.2.2,fun K' h=>by simp only[eC,bM,h1,h3,h5];exact⟨h6.1,h6.2.1,h⟩⟩
  ·obtain⟨h7,h8⟩:=h6;exact ai h8 fun e h9 cv=>ai cv fun de ep fG=>ai fG.2 fun b dn fX=>⟨_,_,_,fX,fun K' h=>by simp only[eC,bM,h1,h3,h5,h9,ep,dn];exact⟨h7,fG.1,h⟩⟩
  ·exact h6.elim
 |makeFunc fn first captured=>
  cases fn with
  |func f=>
   obtain⟨h1,h2⟩:=h;exact ai h2 fun cs h3 h4=>ai h4 fun ls h5 h6=>⟨_,_,_,h6,fun K' h=>by simp only[eC,bM,h3,h5];exact⟨h1,h⟩⟩
  |_=>exact h.elim
 |makeSlice t l c=>
  refine ai h fun d h1 h2=>ai h2 fun e h3 h4=>ai h4 fun de h5 h6=>ai h6 fun z h7 h8=>ai h8 fun dz h9 cv=>ai cv fun vl ep fG=>ai fG fun vc dn fX=>?_
  split at fX
  ·obtain⟨k1,k2,k3,k4,k5,k6,k7⟩:=fX;exact⟨_,_,_,k7,fun K' h=>by simp only[eC,bM,h1,h3,h5,h7,h9,ep,dn];exact⟨k1,k2,k3,k4,k5,k6,h⟩⟩
  ·exact fX.elim
 |slice t x lo hi mx=>
  obtain⟨rfl,h⟩:=h;refine ai h fun d h1 h2=>ai h2 fun v h3 h4=>ai h4 fun l h5 h6=>ai h6 fun hh h7 h8=>?_
  split at h8
  ·obtain⟨h9,cv⟩:=h8;exact ai cv fun i ep fG=>ai fG fun j dn fX=>⟨_,_,_,fX.2.2.2,fun K' h=>by simp only[eC,bM,h1,h3,h5,h7,ep,dn];exact⟨trivial,h9,fX.1,fX.2.1,fX.2.2.1,h⟩⟩
  ·refine ai h8 fun rows h9 cv=>ai cv fun e ep fG=>ai fG fun de dn fX=>ai fX fun i qu ry=>ai ry fun j AJ rz=>?_
   refine⟨_,_,_,rz.2.2.2.2,fun K' h=>?_⟩;simp only[eC,bM,h1,h3,h5,h7,h9,ep,dn,qu,AJ];exact⟨trivial,rz.1,rz.2.1,rz.2.2.1,rz.2.2.2.1,h⟩
 |fieldAddr t x f=>
  refine ai h fun d h1 h2=>ai h2 fun fo h3 h4=>?_
  obtain⟨off,sz⟩:=fo;obtain⟨h5,h6⟩:=h4;refine ai h6 fun v h7 h8=>?_
  split at h8
  ·exact⟨_,_,_,h8,fun K' h=>by simp only[eC,bM,h1,h3,h7];exact⟨h5,h⟩⟩
  ·exact⟨_,_,_,h8,fun K' h=>by simp only[eC,bM,h1,h3,h7];exact⟨h5,h⟩⟩
  ·exact⟨_,_,_,h8,fun K' h=>by simp only[eC,bM,h1,h3,h7];exact⟨h5,h⟩⟩
  ·exact h8.elim
 |indexAddr t x ix=>
  refine ai h fun d h1 h2=>ai h2 fun v h3 h4=>ai h4 fun i h5 h6=>?_
  split at h6
  ·obtain⟨h0,h6⟩:=h6;split at h6
   ·exact ai h6 fun e h7 h8=>ai h8 fun de h9 cv=>ai cv fun row ep fG=>⟨_,_,_,fG.2,fun K' h=>by simp only[eC,bM,h1,h3,h5,h7,h9,ep];exact⟨h0,fG.1,h⟩⟩
   ·exact ai h6 fun e h7 h8=>ai h8 fun de h9 cv=>ai cv fun r ep fG=>⟨_,_,_,fG.2.2.2,fun K' h=>by simp only[eC,bM,h1,h3,h5,h7,h9,ep];exact⟨h0,fG.1,fG.2.1,fG.2.2.1,h⟩⟩
   ·refine ai h6 fun le h7 h8=>?_
    obtain⟨len,e⟩:=le;exact ai h8 fun de h9 cv=>⟨_,_,_,cv.2,fun K' h=>by simp only[eC,bM,h1,h3,h5,h7,h9];exact⟨h0,cv.1,h⟩⟩
   ·exact h6.elim
  ·exact h6.elim
 |index t x ix=>
  refine ai h fun d h1 h2=>ai h2 fun v h3 h4=>ai h4 fun i h5 h6=>?_
  split at h6
  ·obtain⟨h7,h0,h8⟩:=h6;exact ai h8 fun c h9 cv=>⟨_,_,_,cv,fun K' h=>by simp only[eC,bM,h1,h3,h5,h9];exact⟨h7,h0,h⟩⟩
  ·refine ai h6 fun le h7 h8=>ai h8 fun de h9 cv=>?_
   obtain⟨ep,fG,h0,dn,fX⟩:=cv;exact ai fX fun c qu ry=>⟨_,_,_,ry,fun K' h=>by simp only[eC,bM,h1,h3,h5,h7,h9,qu];exact⟨ep,fG,h0,dn,h⟩⟩
  ·exact h6.elim
 |extract x i=>
  refine ai h fun v h1 h2=>?_
  split at h2
  ·refine ai h2 fun u h3 h4=>?_
   split at h4
   ·exact h4.elim
   ·refine⟨_,_,_,h4,fun K' h=>?_⟩;simp only[eC,bM,h1,h3];exact h
  ·exact h2.elim
 |call c=>
  obtain⟨callee,args,argTypes⟩:=c;cases callee with
  |builtin b=>
   cases b with
   |len=>
    refine ai h fun x h1 h2=>ai h2 fun v h3 h4=>ai h4 fun t h5 h6=>ai h6 fun d h7 h8=>ai h8 fun n h9 cv=>?_
    exact⟨_,_,_,cv.2.2,fun K' h=>by simp only[eC,bM,h1,h3,h5,h7,h9];exact⟨cv.1,cv.2.1,h⟩⟩
   |append=>
    refine ai h fun x h1 h2=>ai h2 fun y h3 h4=>ai h4 fun t h5 h6=>?_
    obtain⟨h7,h8⟩:=h6;refine ai h8 fun d h9 cv=>ai cv fun e ep fG=>ai fG fun de dn fX=>?_
    obtain⟨qu,ry,AJ⟩:=fX;refine ai AJ fun v rz K5=>ai K5 fun u IA Nc=>ai Nc fun nr IW Qh=>?_
    obtain⟨IX,IY⟩:=Qh;split at IY
    ·refine ai IY fun r IZ My=>?_
     obtain⟨k1,k2,k3,k4,k5,k6⟩:=My;cases ow with
     |true=>simp only[if_true]at k6;exact⟨_,_,_,k6,fun K' h=>by simp only[eC];simp only[bM]at ry;simp only[bM,h1,h3,h5,h9,ep,dn,rz,IA,IW,IZ];exact⟨h7,qu,ry,IX,k1,k2,k3,k4,k5,by simpa only[if_true]using h⟩⟩
     |false=>simp only[XG,if_false]at k6;exact⟨_,_,_,k6,fun K' h=>by simp only[eC];simp only[bM]at ry;simp only[bM,h1,h3,h5,h9,ep,dn,rz,IA,IW,IZ];exact⟨h7,qu,ry,IX,k1,k2,k3,k4,k5,by simpa only[XG,if_false]using h⟩⟩
    ·obtain⟨k1,k2,k6⟩:=IY;cases ow with
     |true=>simp only[if_true]at k6;exact⟨_,_,_,k6,fun K' h=>by simp only[eC];simp only[bM]at ry;simp only[bM,h1,h3,h5,h9,ep,dn,rz,IA,IW];exact⟨h7,qu,ry,IX,k1,k2,by simpa only[if_true]using h⟩⟩
     |false=>simp only[XG,if_false]at k6;exact⟨_,_,_,k6,fun K' h=>by simp only[eC];simp only[bM]at ry;simp only[bM,h1,h3,h5,h9,ep,dn,rz,IA,IW];exact⟨h7,qu,ry,IX,k1,k2,by simpa only[XG,if_false]using h⟩⟩
    ·exact IY.elim
   |max=>
    refine ai h fun x h1 h2=>ai h2 fun y h3 h4=>?_
    obtain⟨h5,h6⟩:=h4;refine ai h6 fun v h7 h8=>ai h8 fun u h9 cv=>?_
    split at cv
    ·exact⟨_,_,_,cv,fun K' h=>by simp only[eC,bM,h1,h3,h7,h9];exact⟨h5,h⟩⟩
    ·exact cv.elim
   |min=>
    refine ai h fun x h1 h2=>ai h2 fun y h3 h4=>?_
    obtain⟨h5,h6⟩:=h4;refine ai h6 fun v h7 h8=>ai h8 fun u h9 cv=>?_
    split at cv
    ·exact⟨_,_,_,cv,fun K' h=>by simp only[eC,bM,h1,h3,h7,h9];exact⟨h5,h⟩⟩
    ·exact cv.elim
   |_=>exact h.elim
  |_=>exact h.elim
 |_=>exact h.elim
theorem lD {ow:Bool} {o:Oper} {K:AV->List (List CV)->List bu->Prop} (h:∀f args ts,o.op≠.call ⟨.value f,args,ts⟩):bA P s ow o K=eC P s ow o.op K:=by
 obtain⟨dst,op,ty,pos,after,guard⟩:=o;cases op<;>try rfl
 rename_i c;obtain⟨callee,args,ts⟩:=c;cases callee<;>first|rfl|exact absurd rfl (h _ _ _)
theorem jg {ow:Bool} {o:Oper} {K:AV->List (List CV)->List bu->Prop} (h:bA P s ow o K):∃x V A,K x V A/\∀K':AV->List (List CV)->List bu->Prop,K' x V A->bA P s ow o K':=by
 by_cases gd:∃f args ts,o.op=.call ⟨.value f,args,ts⟩
 ·obtain⟨f,args,ts,heq⟩:=gd;simp only[bA,heq]at h⊢;refine ai h fun fv h1 h2=>?_
  split at h2
  ·rename_i fid cap;refine ai h2 fun xs h3 h4=>?_
   rcases h4 with⟨ids,as,Vc,r,Vc',Ac',k1,k2,k3,k4,k5⟩|⟨hs,as,r,Ac',k1,k2,k3,k4,k5⟩
   ·refine⟨_,_,_,k5,fun K' h=>?_⟩;simp only[bM,h1,h3];exact .inl ⟨ids,as,Vc,r,Vc',Ac',k1,k2,k3,k4,h⟩
   ·refine⟨_,_,_,k5,fun K' h=>?_⟩;simp only[bM,h1,h3];exact .inr ⟨hs,as,r,Ac',k1,k2,k3,k4,h⟩
  ·exact h2.elim
 ·have cY:∀f args ts,o.op≠.call ⟨.value f,args,ts⟩:=fun f args ts e=>gd ⟨f,args,ts,e⟩
  rw[lD cY]at h;obtain⟨x,V,A,h1,h2⟩:=I4 h;exact⟨x,V,A,h1,fun K' h3=>by rw[lD cY];exact h2 K' h3⟩
theorem oQ {all:Array Oper} {ow:Nat->Bool} {ws:List Nat} {K:St->Prop}:∀(ops:List Oper) (i:Nat) (s:St),yy P all ow ws K i ops s->
  ∃σ:Nat->St,σ 0=s/\K (σ ops.length)/\∀(j:Nat) o,ops[j]? =some o->SC P all (ow (i+j)) o (σ j) (σ (j+1))/\(i+j∈ws\/((σ (j+1)).V=(σ j).V/\(σ (j+1)).A=(σ j).A))
 |[],i,s,h=>⟨fun _=>s,rfl,h,fun j o h=>by simp at h⟩
 |o::rest,i,s,h=>by
  simp only[yy]at h;obtain⟨h0,hg⟩:=iQ h;rcases h0 with⟨h1,h2⟩|⟨h1,h2⟩
  ·obtain⟨x,V,A,⟨h3,h4⟩,h5⟩:=jg h2;obtain⟨σ,k1,k2,k3⟩:=oQ rest (i+1) _ h4;refine⟨fun j=>match j with|0=>s|j+1=>σ j,rfl,k2,fun j o' ho=>?_⟩;cases j with
   |zero=>
    simp at ho;subst ho;refine⟨⟨hg,.inl ⟨h1,x,V,A,k1,h5⟩⟩,?_⟩;rcases h3 with h3|⟨h3,vo⟩
    ·exact .inl h3
    ·exact .inr (by simp only[k1];exact⟨h3,vo⟩)
   |succ j=>
    simp at ho;have:=k3 j o' ho;rwa[show i+1+j=i+(j+1) by omega]at this
  ·obtain⟨σ,k1,k2,k3⟩:=oQ rest (i+1) _ h2;refine⟨fun j=>match j with|0=>s|j+1=>σ j,rfl,k2,fun j o' ho=>?_⟩;cases j with
   |zero=>
    simp at ho;subst ho;exact⟨⟨hg,.inr ⟨h1,k1⟩⟩,.inr (by simp only[k1];exact⟨rfl,rfl⟩)⟩
   |succ j=>
    simp at ho;have:=k3 j o' ho;rwa[show i+1+j=i+(j+1) by omega]at this
end
section
variable {P:Program} {n:Nat} {Q Q':Exit->St->Prop} {s s':St} {w0:World} {g0 g g':Gh} {a:Act} {w w':World} {V:List (List CV)} {A A':List bu}
theorem yd {fr cB:List (Nat×AV)} {p:CV} {k:Nat}:gm ⟨cB,V,A⟩ p k=gm ⟨fr,V,A⟩ p k:=by
 cases p<;>rfl
theorem rO:∀{parts:List (Nat×Operand)},(∀p∈parts,bw s' p.2=bw s p.2)->ia s' parts=ia s parts
 |[],_=>rfl
 |(i,x)::r,h=>by
  have e:=rO (parts:=r) (fun p hp=>h p (Xn _ hp));simp only[ia,h (i,x) (by simp),e]
theorem uh {sz:Nat}:∀{parts:List (Nat×Operand)} {k:Nat},(∀p∈parts,bw s' p.2=bw s p.2)->jF s' sz k parts=jF s sz k parts
 |[],_,_=>rfl
 |(i,x)::r,k,h=>by
  have e:=uh (sz:=sz) (parts:=r) (k:=k+1) (fun p hp=>h p (Xn _ hp));simp only[jF,h (i,x) (by simp),e]
theorem lE:∀{os:List Operand},(∀p∈os,bw s' p=bw s p)->gR s' os=gR s os
 |[],_=>rfl
 |x::r,h=>by
  have e:=lE (os:=r) (fun p hp=>h p (Xn _ hp));simp only[gR,h x (by simp),e]
theorem E1 {fr cB:List (Nat×AV)} {ow:Bool} {op:Op} {K:AV->List (List CV)->List bu->Prop} (he:∀x∈op.operands.toList,bw ⟨cB,V,A⟩ x=bw ⟨fr,V,A⟩ x) (h:eC P ⟨fr,V,A⟩ ow op K):eC P ⟨cB,V,A⟩ ow op K:=by
 cases op with
 |move x=>simpa only[eC,he x (by simp[Op.operands])]using h
 |assign x=>simpa only[eC,he x (by simp[Op.operands])]using h
 |pick c x y=>simpa only[eC,he c (by simp[Op.operands]),he x (by simp[Op.operands]),he y (by simp[Op.operands])]using h
 |alloc e=>exact h
 |box e x=>simpa only[eC,he x (by simp[Op.operands])]using h
 |build t parts=>simpa only[eC,rO (s':=⟨cB,V,A⟩) (s:=⟨fr,V,A⟩) (parts:=parts.toList) (fun p hp=>he p.2 (by simp only[Op.operands,Xl];exact⟨p,hp,rfl⟩))]using h
 |buildSlice t len parts=>
  simp only[eC]at h⊢;have:∀sz,jF ⟨cB,V,A⟩ sz 0 parts.toList=jF ⟨fr,V,A⟩ sz 0 parts.toList:=fun sz=>uh (fun p hp=>he p.2 (by simp only[Op.operands,Xl];exact⟨p,hp,rfl⟩))
  simpa only[this]using h
 |load t x=>
  simp only[eC,he x (by simp[Op.operands])]at h⊢;simpa only[yd (fr:=fr) (cB:=cB)]using h
 |store t x y=>simpa only[eC,he x (by simp[Op.operands]),he y (by simp[Op.operands])]using h
 |nilCheck x=>simpa only[eC,he x (by simp[Op.operands])]using h
 |binOp op t x y t'=>simpa only[eC,he x (by simp[Op.operands]),he y (by simp[Op.operands])]using h
 |unOp op t x=>simpa only[eC,he x (by simp[Op.operands])]using h
 |convert src dst x=>simpa only[eC,he x (by simp[Op.operands])]using h
 |makeFunc fn first captured=>
  cases fn with
  |func f=>simpa only[eC,lE (s':=⟨cB,V,A⟩) (s:=⟨fr,V,A⟩) (os:=captured.toList) (fun p hp=>he p (by simp[Op.operands];exact .inr (by simpa using hp)))]using h
  |_=>exact h
 |makeSlice t l c=>simpa only[eC,he l (by simp[Op.operands]),he c (by simp[Op.operands])]using h
 |slice t x lo hi mx=>
  have F4:lU ⟨cB,V,A⟩ lo=lU ⟨fr,V,A⟩ lo:=by
   cases lo with
   |none=>rfl
   |some l=>simp only[lU,he l (by simp[Op.operands])]
  have Qd:lU ⟨cB,V,A⟩ hi=lU ⟨fr,V,A⟩ hi:=by
   cases hi with
   |none=>rfl
   |some l=>simp only[lU,he l (by simp[Op.operands])]
  simpa only[eC,he x (by simp[Op.operands]),F4,Qd]using h
 |fieldAddr t x f=>simpa only[eC,he x (by simp[Op.operands])]using h
 |indexAddr t x ix=>simpa only[eC,he x (by simp[Op.operands]),he ix (by simp[Op.operands])]using h
 |index t x ix=>simpa only[eC,he x (by simp[Op.operands]),he ix (by simp[Op.operands])]using h
 |extract x i=>simpa only[eC,he x (by simp[Op.operands])]using h
 |call c=>
  obtain⟨callee,args,argTypes⟩:=c;cases callee with
  |builtin b=>
   have hx:∀(i:Nat) x,args[i]? =some x->bw ⟨cB,V,A⟩ x=bw ⟨fr,V,A⟩ x:=fun i x hi=>he x (by
    simp only[Op.operands,Call.operands,X2,XW];exact X0 hi)
   cases b with
   |len=>exact ai h fun x h1 h2=>by simp only[eC,bM,h1,hx 0 x h1];exact h2
   |append=>exact ai h fun x h1 h2=>ai h2 fun y h3 h4=>by simp only[eC,bM,h1,h3,hx 0 x h1,hx 1 y h3];exact h4
   |max=>exact ai h fun x h1 h2=>ai h2 fun y h3 h4=>by simp only[eC,bM,h1,h3,hx 0 x h1,hx 1 y h3];exact h4
   |min=>exact ai h fun x h1 h2=>ai h2 fun y h3 h4=>by simp only[eC,bM,h1,h3,hx 0 x h1,hx 1 y h3];exact h4
   |_=>exact h
  |_=>exact h
 |_=>exact h
theorem dS {fr cB:List (Nat×AV)} {ow:Bool} {o:Oper} {K:AV->List (List CV)->List bu->Prop} (he:∀x∈o.op.operands.toList,bw ⟨cB,V,A⟩ x=bw ⟨fr,V,A⟩ x) (h:bA P ⟨fr,V,A⟩ ow o K):bA P ⟨cB,V,A⟩ ow o K:=by
 by_cases gd:∃f args ts,o.op=.call ⟨.value f,args,ts⟩
 ·obtain⟨f,args,ts,heq⟩:=gd;simp only[bA,heq]at h he⊢;have h1:bw ⟨cB,V,A⟩ f=bw ⟨fr,V,A⟩ f:=he f (by simp[Op.operands,Call.operands]);have h2:gR ⟨cB,V,A⟩ args.toList=gR ⟨fr,V,A⟩ args.toList:=lE fun p hp=>he p (by simp[Op.operands,Call.operands];exact .inr (by simpa using hp))
  rw[h1,h2];exact h
 ·have cY:∀f args ts,o.op≠.call ⟨.value f,args,ts⟩:=fun f args ts e=>gd ⟨f,args,ts,e⟩
  rw[lD cY]at h⊢;exact E1 he h
theorem mW {ow:Bool} {o:Oper} (hs:cy o.op=true) (he:∀x∈o.op.operands.toList,bw s' x=bw s x) {x:AV} {V0:List (List CV)} {A0:List bu} (h:∀K:AV->List (List CV)->List bu->Prop,K x V0 A0->bA P s ow o K)
  {K:AV->List (List CV)->List bu->Prop} (hK:K x s'.V s'.A):bA P s' ow o K:=by
 have cY:∀f args ts,o.op≠.call ⟨.value f,args,ts⟩:=fun f args ts e=>by rw[e]at hs;simp[cy]at hs
 have h0:=h (fun v _ _=>v=x) rfl;rw[lD cY]at h0⊢;obtain⟨dst,op,ty,pos,after,guard⟩:=o;simp only at h0 he hs⊢;cases op with
 |move y=>exact ai h0 fun v h1 h2=>by subst h2;simp only[eC,bM,he y (by simp[Op.operands]),h1];exact hK
 |assign y=>exact ai h0 fun v h1 h2=>by subst h2;simp only[eC,bM,he y (by simp[Op.operands]),h1];exact hK
 |pick c y z=>
  refine ai h0 fun v h1 h2=>?_
  split at h2
  ·rename_i t;cases t with
   |true=>simp only[if_true]at h2;exact ai h2 fun v h3 h4=>by subst h4;simp only[eC,bM,he c (by simp[Op.operands]),h1,if_true,he y (by simp[Op.operands]),h3];exact hK
   |false=>simp only[XG,if_false]at h2;exact ai h2 fun v h3 h4=>by subst h4;simp only[eC,bM,he c (by simp[Op.operands]),h1,XG,if_false,he z (by simp[Op.operands]),h3];exact hK
  ·exact h2.elim
 |fieldAddr t y f=>
  refine ai h0 fun d h1 h2=>ai h2 fun fo h3 h4=>?_
  obtain⟨off,sz⟩:=fo;obtain⟨h5,h6⟩:=h4;refine ai h6 fun v h7 h8=>?_
  split at h8
  ·subst h8;simp only[eC,bM,h1,h3,he y (by simp[Op.operands]),h7];exact⟨h5,hK⟩
  ·subst h8;simp only[eC,bM,h1,h3,he y (by simp[Op.operands]),h7];exact⟨h5,hK⟩
  ·subst h8;simp only[eC,bM,h1,h3,he y (by simp[Op.operands]),h7];exact⟨h5,hK⟩
  ·exact h8.elim
 |unOp op t y=>exact ai h0 fun u h1 h2=>ai h2 fun r h3 h4=>by subst h4;simp only[eC,bM,he y (by simp[Op.operands]),h1,h3];exact hK
 |binOp op t y z t'=>
  refine ai h0 fun u h1 h2=>ai h2 fun v h3 h4=>?_
  split at h4
  ·rename_i r hr;subst h4;simp only[eC,bM,he y (by simp[Op.operands]),he z (by simp[Op.operands]),h1,h3,hr];exact hK
  ·rename_i hr;split at h4
   ·rename_i r Cs;subst h4;simp only[eC,bM,he y (by simp[Op.operands]),he z (by simp[Op.operands]),h1,h3,hr,Cs];exact hK
   rename_i Cs;exact ai h4 fun r h5 h6=>ai h6 fun d h7 h8=>by
    obtain⟨h8,h9⟩:=h8;subst h9;simp only[eC,bM,he y (by simp[Op.operands]),he z (by simp[Op.operands]),h1,h3,hr,Cs,h5,h7];exact⟨h8,hK⟩
 |extract y i=>
  refine ai h0 fun v h1 h2=>?_
  split at h2
  ·refine ai h2 fun u h3 h4=>?_
   split at h4
   ·exact h4.elim
   ·subst h4;simp only[eC,bM,he y (by simp[Op.operands]),h1,h3];exact hK
  ·exact h2.elim
 |_=>simp[cy]at hs
theorem fz {acc:List Nat} {o:Oper} {k:Nat} (h:(mi acc o).testBit k=true):∃e∈o.after,Region.binds .any e=true/\(k=e.on\/(acc.getD e.on 0).testBit k=true):=by
 have key:∀(l:List Edge) (m:Nat),(l.foldl (fun m e=>if Region.binds .any e then m|||2 ^ e.on|||acc.getD e.on 0 else m) m).testBit k=true->m.testBit k=true\/∃e∈l,Region.binds .any e=true/\(k=e.on\/(acc.getD e.on 0).testBit k=true):=by
  intro l;induction l with
  |nil=>intro m h;exact .inl h
  |cons e l ih=>
   intro m h;simp only[Xf]at h;rcases ih _ h with h1|⟨e',h1,h2⟩
   ·split at h1
    ·rename_i hb;rw[XQ,XQ,XF,XF]at h1;rcases h1 with(h1|h1)|h1
     ·exact .inl h1
     ·rw[Nat.testBit_two_pow]at h1;exact .inr ⟨e,by simp,hb,.inl (by simpa using(by simpa using h1:e.on=k).symm)⟩
     ·exact .inr ⟨e,by simp,hb,.inr h1⟩
    ·exact .inl h1
   ·exact .inr ⟨e',by simp[h1],h2⟩
 rcases key _ 0 h with h1|⟨e,h1,h2⟩
 ·simp at h1
 ·exact⟨e,XW.1 h1,h2⟩
theorem e6:∀(l:List Oper) (acc:List Nat),(aW l acc).length=acc.length+l.length/\(∀i,i<acc.length->(aW l acc)[i]? =acc[i]?)/\
  ∀(i:Nat) o,l[i]? =some o->∃pre:List Nat,pre.length=acc.length+i/\(∀j,j<pre.length->pre[j]? =(aW l acc)[j]?)/\(aW l acc)[acc.length+i]? =some (mi pre o)
 |[],acc=>⟨by simp[aW],fun _ _=>rfl,fun i o h=>by simp at h⟩
 |o::r,acc=>by
  obtain⟨h1,h2,h3⟩:=e6 r (acc++[mi acc o]);simp only[aW];refine⟨by rw[h1];simp;omega,fun i hi=>?_,fun i o' ho=>?_⟩
  ·rw[h2 i (by simp;omega),WV hi]
  ·cases i with
   |zero=>
    simp at ho;subst ho;refine⟨acc,by simp,fun j hj=>?_,?_⟩
    ·rw[h2 j (by simp;omega),WV hj]
    ·rw[Nat.add_zero,h2 _ (by simp)];simp
   |succ i=>
    simp at ho;obtain⟨pre,h4,h5,h6⟩:=h3 i o' ho;simp at h4;exact⟨pre,by omega,h5,by rw[<-h6];congr 1;simp;omega⟩
theorem eX (f:Nat->Bool):∀(fr:List (Nat×AV)) (t:Nat),look (fr.filter fun p=>f p.1) t=if f t then look fr t else none
 |[],t=>by simp[look]
 |(d,x)::r,t=>by
  by_cases hd:f d=true
  ·rw[List.filter_cons_of_pos (by exact hd)];simp only[look];rw[eX f r t];by_cases e:t=d
   ·subst e;simp[hd]
   ·simp[e]
  ·rw[List.filter_cons_of_neg (by exact hd),eX f r t];simp only[look];by_cases e:t=d
   ·subst e;simp[hd]
   ·simp[e]
structure DS (all:Array Oper) (ws:List Nat) (σ:Nat->St) (n:Nat) (w0:World) (g0:Gh) (af:Array Bool) (k0:Nat) (g:Gh) (a:Act) (w:World):Prop where
 inv:Inv g w (σ k0).V (σ k0).A
 fr:Fr w0 g0 w g
 size:a.tmps.size=n
 defers:a.defers=[]
 er:af.size=all.size
 fH:∀(i:Nat) o t x,all[i]? =some o->af[i]? =some true->o.dst=some t->look (σ (i+1)).fr t=some x->∃u,a.tmps[t]? =some u/\aR g w (σ k0).A x u
 fI:∀t x,(∀(i:Nat) o,all[i]? =some o->af[i]? =some true->o.dst≠some t)->look (σ 0).fr t=some x->∃u,a.tmps[t]? =some u/\aR g w (σ k0).A x u
 dT:∀i∈ws,i<all.size->(af[i]? =some true↔i<k0)
 mX:k0<=all.size
 closed:∀(i:Nat) o,all[i]? =some o->af[i]? =some true->∀e∈o.after,Region.binds .any e=true->af[e.on]? =some true
theorem filter_le {α:Type} {p q:α->Bool} (h:∀i,p i=true->q i=true):∀(l:List α),(l.filter p).length<=(l.filter q).length
 |[]=>by simp
 |x::l=>by
  have ih:=filter_le h l;cases hp:p x with
  |true=>simp[hp,h x hp];exact ih
  |false=>cases hq:q x<;>simp[hp,hq]<;>omega
theorem filter_lt {α:Type} {p q:α->Bool} (h:∀i,p i=true->q i=true) {j:α}:∀{l:List α},j∈l->q j=true->p j=false->(l.filter p).length<(l.filter q).length
 |[],hj,_,_=>by simp at hj
 |x::l,hj,hq,hp=>by
  rcases W2.1 hj with rfl|Gy
  ·have:=filter_le h l;simp[hp,hq];omega
  ·have ih:=filter_lt h Gy hq hp;cases eb:p x with
   |true=>simp[eb,h x eb];exact ih
   |false=>cases Qg:q x<;>simp[eb,Qg]<;>omega
theorem cl {af:Array Bool} {i:Nat}:af.getD i false=true↔af[i]? =some true:=by
 rcases XJ i af.size with h|h
 ·simp[h]
 ·simp[h]
theorem dU {af:Array Bool} {i:Nat} (h:af.getD i true=false):af[i]? =some false:=by
 rcases XJ i af.size with h1|h1
 ·simp[h1]at h⊢;exact h
 ·simp[h1]at h
set_option maxHeartbeats 2000000 in
theorem CC {all:Array Oper} {ow:Nat->Bool} {ws:List Nat} {σ:Nat->St} {K:St->Prop} {Q:Exit->Act->World->Prop} (hd:eE all ws=true) (e5:cP n all.toList=true)
  (jT:∀(j:Nat) o,all[j]? =some o->SC P all (ow j) o (σ j) (σ (j+1))/\(j∈ws\/((σ (j+1)).V=(σ j).V/\(σ (j+1)).A=(σ j).A)))
  (hK:K (σ all.size)) (hQ:∀s' g' a' w',K s'->Rp n w0 g0 s' g' a' w'->Q .normal a' w'):
  ∀(fuel:Nat) (af:Array Bool) (k0:Nat) (g:Gh) (a:Act) (w:World),((WX all.size).filter fun i=> !af.getD i true).length<=fuel->DS all ws σ n w0 g0 af k0 g a w->wpAny P .any all Q fuel af a w:=by
 simp only[eE,XE,W7]at hd;obtain⟨⟨gE,oG⟩,vp⟩:=hd;have cD:∀(j:Nat) o,all[j]? =some o->(o,j)∈all.toList.zipIdx:=fun j o h=>by
  rw[Xs];exact⟨j,by simp[Xy,h]⟩
 have cK:∀(j:Nat) o,all[j]? =some o->∀e∈o.after,Region.binds .any e=true->e.on<j:=fun j o h e he hb=>by
  have:=gE _ (cD j o h) e (XW.2 he);simpa[hb]using this
 have bU:∀(i j:Nat) oi oj,all[i]? =some oi->all[j]? =some oj->i<j->bj all ws (aW all.toList []) oi oj i j=true:=fun i j oi oj h1 h2 ax=>by
  have:=oG _ (cD j oj h2) _ (cD i oi h1);simpa[ax]using this
 have ui:∀(j:Nat) o,all[j]? =some o->j∈ws->cy o.op=false:=fun j o h hj=>by
  have:=vp _ (cD j o h);simpa[hj]using this
 have fA:∀(i j:Nat) oi oj d,all[i]? =some oi->all[j]? =some oj->i<j->oi.dst=some d->oj.dst≠some d:=fun i j oi oj d h1 h2 ax h3 h4=>by
  have:=bU i j oi oj h1 h2 ax;simp[bj,h3,h4]at this
 have qU:∀(i j:Nat) oi oj d,all[i]? =some oi->all[j]? =some oj->oi.dst=some d->oj.dst=some d->i=j:=fun i j oi oj d h1 h2 h3 h4=>by
  rcases XO i j with h|h|h
  ·exact absurd h4 (fA i j oi oj d h1 h2 h h3)
  ·exact h
  ·exact absurd h3 (fA j i oj oi d h2 h1 h h4)
 have zt:∀(j:Nat) o d,all[j]? =some o->o.dst=some d->d<n:=fun j o d h1 h2=>by
  have:=W7.1 e5 o (by rw[XW];exact X0 h1);simpa[h2]using this
 obtain⟨F8,_,ye⟩:=e6 all.toList []
 have mj:∀{af:Array Bool},(∀(i:Nat) o,all[i]? =some o->af[i]? =some true->∀e∈o.after,Region.binds .any e=true->af[e.on]? =some true)->
   ∀(i:Nat) o,all[i]? =some o->(∀e∈o.after,Region.binds .any e=true->af[e.on]? =some true)->∀k,((aW all.toList []).getD i 0).testBit k=true->af[k]? =some true:=by
  intro af j3 i;induction i using XN with
  |_ i ih=>
   intro o ho cm k hk;obtain⟨pre,h1,h2,h3⟩:=ye i o (by simpa using ho);simp only[Xw,XM]at h1 h3;have h4:(aW all.toList []).getD i 0=mi pre o:=by simp[W0,h3]
   rw[h4]at hk;obtain⟨e,he,hb,h5⟩:=fz hk;have sI:=cm e he hb;rcases h5 with rfl|h5
   ·exact sI
   ·have ax:=cK i o ho e he hb;have h6:pre.getD e.on 0=(aW all.toList []).getD e.on 0:=by simp only[W0,h2 e.on (by omega)]
    rw[h6]at h5;have eP:e.on<all.size:=by have:=(XV.1 ho).1;omega
    have uj:all[e.on]? =some all[e.on]:=XU eP;exact ih e.on ax _ uj (j3 e.on _ uj sI) k h5
 have lF:∀(j:Nat) o t,all[j]? =some o->o.dst≠some t->look (σ (j+1)).fr t=look (σ j).fr t:=fun j o t h1 h2=>by
  obtain⟨⟨_,h3⟩,_⟩:=jT j o h1;have jH:∀(x:AV) V A,look ((σ j).put o.dst x V A).fr t=look (σ j).fr t:=fun x V A=>by
   simp only[St.put];cases qQ:o.dst with
   |none=>rfl
   |some d=>simp only[look];rw[if_neg (fun e=>h2 (by rw[qQ,e]))]
  rcases h3 with⟨_,x,V,A,h4,_⟩|⟨_,h4⟩
  ·rw[h4];exact jH x V A
  ·rw[h4];exact jH _ _ _
 have om:∀(j t:Nat),j<=all.size->(∀(i:Nat) o,i<j->all[i]? =some o->o.dst≠some t)->look (σ j).fr t=look (σ 0).fr t:=by
  intro j;induction j with
  |zero=>intro t _ _;rfl
  |succ j ih=>
   intro t hj gQ;have ho:all[j]? =some all[j]:=XU (by omega);rw[lF j _ t ho (gQ j _ (by omega) ho)];exact ih t (by omega) (fun i o hi=>gQ i o (by omega))
 have oo:∀(j i:Nat) oi t,j<=all.size->i<j->all[i]? =some oi->oi.dst=some t->look (σ j).fr t=look (σ (i+1)).fr t:=by
  intro j;induction j with
  |zero=>intro i oi t _ h;omega
  |succ j ih=>
   intro i oi t hj kK aU b7;by_cases e:i=j
   ·subst e;rfl
   ·have ho:all[j]? =some all[j]:=XU (by omega);rw[lF j _ t ho (fA i j oi _ t aU ho (by omega) b7)];exact ih i oi t (by omega) (by omega) aU b7
 have s4:∀(b a:Nat),a<=b->b<=all.size->(∀i,a<=i->i<b->i∉ws)->(σ b).V=(σ a).V/\(σ b).A=(σ a).A:=by
  intro b;induction b with
  |zero=>
   intro a h _ _;obtain rfl:a=0:=by omega
   exact⟨rfl,rfl⟩
  |succ b ih=>
   intro a Pf hb gQ;by_cases e:a=b+1
   ·subst e;exact⟨rfl,rfl⟩
   ·have ho:all[b]? =some all[b]:=XU (by omega);obtain⟨h1,h2⟩:=ih a (by omega) (by omega) (fun i hi EK=>gQ i hi (by omega));rcases(jT b _ ho).2 with h3|⟨h3,h4⟩
    ·exact absurd h3 (gQ b (by omega) (by omega))
    ·exact⟨h3.trans h1,h4.trans h2⟩
 have lx:∀{af:Array Bool} {k0:Nat} {g:Gh} {a:Act} {w:World},DS all ws σ n w0 g0 af k0 g a w->Region.ready .any all af=[]->Q .normal a w:=by
  intro af k0 g a w hD hr;have cX:∀i,i<all.size->af[i]? =some true:=by
   intro i;induction i using XN with
   |_ i ih=>
    intro hi;have ho:all[i]? =some all[i]:=XU hi;have bt:i<af.size:=by rw[hD.er];exact hi
    cases hl:af[i]with
    |true=>rw[XU bt,hl]
    |false=>
     exfalso
     have:i∈Region.ready .any all af:=mem_ready.2 ⟨by simp[bt,hl],_,ho,fun e he hb=>cl.2 (ih e.on (cK i _ ho e he hb) (by have:=cK i _ ho e he hb;omega))⟩;rw[hr]at this;simp at this
  have jU:=s4 all.size k0 hD.mX (XI _) (fun i h1 h2 h3=>by have:=(hD.dT i h3 h2).1 (cX i h2);omega);refine hQ _ g a w hK ⟨by rw[jU.1,jU.2];exact hD.inv,hD.fr,hD.size,hD.defers,fun t x hx=>?_⟩;rw[jU.2];by_cases hex:∃(i:Nat) (o:Oper),all[i]? =some o/\o.dst=some t
  ·obtain⟨i,o,ho,b7⟩:=hex;have hi:=(XV.1 ho).1;rw[oo all.size i o t (XI _) hi ho b7]at hx;exact hD.fH i o t x ho (cX i hi) b7 hx
  ·rw[om all.size t (XI _) (fun i o _ ho b7=>hex ⟨i,o,ho,b7⟩)]at hx;exact hD.fI t x (fun i o ho _ b7=>hex ⟨i,o,ho,b7⟩) hx
 intro fuel;induction fuel with
 |zero=>
  intro af k0 g a w hf hD;have kh:Region.ready .any all af=[]:=by
   have h0:((WX all.size).filter fun i=> !af.getD i true)=[]:=Xg (by omega);rcases hr:Region.ready .any all af with _|⟨j,r⟩
   ·rfl
   ·have hj:j∈Region.ready .any all af:=by rw[hr];simp
    obtain⟨h1,o,h2,_⟩:=mem_ready.1 hj;have:j∈((WX all.size).filter fun i=> !af.getD i true):=by
     rw[Xm,Xa];exact⟨(XV.1 h2).1,by simp[h1]⟩
    rw[h0]at this;simp at this
  exact⟨kh,lx hD kh⟩
 |succ fuel ih=>
  intro af k0 g a w hf hD;refine⟨fun hr=>lx hD hr,fun j hj=>?_⟩;obtain⟨ml,o,ho,cm⟩:=mem_ready.1 hj;have mo:=dU ml;have rv:j<all.size:=(XV.1 ho).1;have iP:j<af.size:=by rw[hD.er];exact rv
  have ch:∀e∈o.after,Region.binds .any e=true->af[e.on]? =some true:=fun e he hb=>cl.1 (cm e he hb)
  have ca:∀k,((aW all.toList []).getD j 0).testBit k=true->af[k]? =some true:=mj hD.closed j o ho ch;have bR:∀(i:Nat) oi,all[i]? =some oi->af[i]? =some true->((aW all.toList []).getD i 0).testBit j=false:=fun i oi aU bt=>by
   cases hb:((aW all.toList []).getD i 0).testBit j with
   |false=>rfl
   |true=>have:=mj hD.closed i oi aU (hD.closed i oi aU bt) j hb;rw[mo]at this;simp at this
  have jh:∀t∈o.looksAt all,∀x,look (σ j).fr t=some x->∃u,a.tmps[t]? =some u/\aR g w (σ k0).A x u:=by
   intro t ht x hx;by_cases hex:∃(i:Nat) (oi:Oper),i<j/\all[i]? =some oi/\oi.dst=some t
   ·obtain⟨i,oi,kK,aU,b7⟩:=hex;rw[oo j i oi t (by omega) kK aU b7]at hx;have hp:=bU i j oi o aU ho kK;have s5:dk all oi o=true:=by simp only[dk,b7];simpa using ht
    simp only[bj,s5,XE,XF]at hp;have hb:((aW all.toList []).getD j 0).testBit i=true:=by simpa using hp.2
    exact hD.fH i oi t x aU (ca i hb) b7 hx
   ·rw[om j t (by omega) (fun i oi kK aU b7=>hex ⟨i,oi,kK,aU,b7⟩)]at hx;refine hD.fI t x (fun i oi aU bt b7=>?_) hx;rcases XO i j with h|h|h
    ·exact hex ⟨i,oi,h,aU,b7⟩
    ·subst h;rw[mo]at bt;simp at bt
    ·have hp:=bU j i o oi ho aU h;have s5:dk all oi o=true:=by simp only[dk,b7];simpa using ht
     have hb:=bR i oi aU bt;simp only[bj,s5,hb,XE,XF]at hp;simp at hp
  let cB:=(σ j).fr.filter fun p=>(o.looksAt all).contains p.1
  have mJ:∀t,look cB t=if(o.looksAt all).contains t then look (σ j).fr t else none:=fun t=>eX (fun t=>(o.looksAt all).contains t) (σ j).fr t
  have hS:∀(V:List (List CV)),gU g w ⟨cB,V,(σ k0).A⟩ a:=fun V t x hx=>by
   simp only[mJ]at hx;split at hx
   ·rename_i hc;exact jh t (by simpa using hc) x hx
   ·cases hx
  have gd:∀(V V':List (List CV)) (A A':List bu),∀x∈o.op.operands.toList,bw ⟨cB,V,A⟩ x=bw ⟨(σ j).fr,V',A'⟩ x:=fun V V' A A' x hx=>by
   cases x with
   |tmp t=>
    simp only[bw,mJ];rw[if_pos];simp only[Oper.looksAt,Xh,decide_eq_true_eq,W5,Xt];exact .inl ⟨.tmp t,hx,rfl⟩
   |_=>rfl
  have gg:Rp n w0 g0 ⟨cB,(σ k0).V,(σ k0).A⟩ g a w:=⟨hD.inv,hD.fr,hD.size,hD.defers,hS _⟩;obtain⟨⟨ue,jt⟩,CD⟩:=jT j o ho;have ot:ib all ⟨cB,(σ k0).V,(σ k0).A⟩ o True True/\gw all ⟨cB,(σ k0).V,(σ k0).A⟩ o=gw all (σ j) o:=by
   unfold ib gw at*;cases mY:o.guard with
   |none=>simp
   |some jw=>
    obtain⟨q,want⟩:=jw;simp only[mY]at ue⊢;obtain⟨oq,h1,h2⟩:=cj ue;obtain⟨t,h3,h4⟩:=cj h2;have:look cB t=look (σ j).fr t:=by
     rw[mJ,if_pos];simp only[Oper.looksAt,mY,Xh,decide_eq_true_eq,W5];exact .inr (by simp[h1,h3])
    simp only[h1,bM,h3,WR,this]at h4⊢;exact⟨h4,trivial⟩
  have kV:Region.wanted o (yielded all a.tmps)=gw all (σ j) o:=by
   rw[<-ot.2];have h0:=iQ ot.1;have h1:=ot.1;unfold ib at h1;unfold gw;cases mY:o.guard with
   |none=>simp[Region.wanted,mY]
   |some jw=>
    obtain⟨q,want⟩:=jw;simp only[mY]at h1⊢;obtain⟨oq,h2,h3⟩:=cj h1;obtain⟨t,h4,h5⟩:=cj h3;obtain⟨x,h6,h7⟩:=cj h5;obtain⟨h8,h9⟩:=jf gg h2 h4 h6;simp only[h2,WR,h4,h6];split at h7
    ·rename_i b;simp[Region.wanted,mY,h8 b rfl]
    ·simp[Region.wanted,mY,h9 rfl]
    ·exact h7.elim
  have bH:∀i,(af.setIfInBounds j true)[i]? =if i=j then some true else af[i]? :=fun i=>by
   by_cases e:i=j
   ·subst e;simp[iP]
   ·rw[if_neg e,XX (fun h=>e h.symm)]
  have cI:((WX all.size).filter fun i=> !(af.setIfInBounds j true).getD i true).length<=fuel:=by
   have ax:((WX all.size).filter fun i=> !(af.setIfInBounds j true).getD i true).length<((WX all.size).filter fun i=> !af.getD i true).length:=by
    have ga:∀i,(!(af.setIfInBounds j true).getD i true)=true->(!af.getD i true)=true:=fun i h=>by
     by_cases e:i=j
     ·subst e;simp[iP]at h
     ·have:(af.setIfInBounds j true).getD i true=af.getD i true:=by
       simp only[X1,bH,if_neg e]
      rwa[this]at h
    exact filter_lt ga (Xa.2 rv) (by simp[ml]) (by simp[iP])
   omega
  have cz:∀(k1:Nat) (x:AV) (v:Value) (w':World) (g':Gh),look (σ (j+1)).fr=look ((σ j).put o.dst x [] []).fr->aR g' w' (σ k1).A x v->Inv g' w' (σ k1).V (σ k1).A->Ext g w (σ k0).A g' w' (σ k1).A->Fr w0 g0 w' g'->k1<=all.size->
    (∀i∈ws,i<all.size->((af.setIfInBounds j true)[i]? =some true↔i<k1))->DS all ws σ n w0 g0 (af.setIfInBounds j true) k1 g' (a.put o.dst v) w':=by
   intro k1 x v w' g' Cm x9 hI hx hF hk E2;have ij:∀t u,o.dst≠some t->a.tmps[t]? =some u->(a.put o.dst v).tmps[t]? =some u:=fun t u cY hu=>by
    cases qQ:o.dst with
    |none=>exact hu
    |some d=>
     simp only[Act.put];rw[XX (fun e=>cY (by rw[qQ,e]))];exact hu
   refine⟨hI,hF,?_,?_,by simp[hD.er],fun i oi t y aU bt b7 hy=>?_,fun t y gQ hy=>?_,E2,hk,fun i oi aU bt e he hb=>?_⟩
   ·cases o.dst<;>simp[Act.put,hD.size]
   ·cases o.dst<;>simp[Act.put,hD.defers]
   ·rw[bH]at bt;by_cases e:i=j
    ·subst e;obtain rfl:o=oi:=by rw[ho]at aU;exact Option.some.inj aU
     rw[Cm]at hy;simp only[St.put,b7,look,if_true]at hy;cases hy
     refine⟨v,?_,x9⟩;have:t<a.tmps.size:=by rw[hD.size];exact zt i o t ho b7
     simp[Act.put,b7,this]
    ·rw[if_neg e]at bt;obtain⟨u,h1,h2⟩:=hD.fH i oi t y aU bt b7 hy;exact⟨u,ij t u (fun h=>e (qU i j oi o t aU ho b7 h)) h1,aR.ext hx h2⟩
   ·have cY:o.dst≠some t:=gQ j o ho (by rw[bH,if_pos rfl]);obtain⟨u,h1,h2⟩:=hD.fI t y (fun i oi aU bt=>gQ i oi aU (by
     rw[bH];by_cases e:i=j
     ·rw[if_pos e]
     ·rw[if_neg e];exact bt)) hy
    exact⟨u,ij t u cY h1,aR.ext hx h2⟩
   ·rw[bH]at bt⊢;have:af[e.on]? =some true:=by
     by_cases e':i=j
     ·subst e';obtain rfl:o=oi:=by rw[ho]at aU;exact Option.some.inj aU
      exact ch e he hb
     ·rw[if_neg e']at bt;exact hD.closed i oi aU bt e he hb
    by_cases e':e.on=j
    ·rw[if_pos e']
    ·rw[if_neg e'];exact this
  have gH:j∉ws->∀i∈ws,i<all.size->((af.setIfInBounds j true)[i]? =some true↔i<k0):=fun ea i hi b4=>by
   rw[bH,if_neg (fun e=>ea (by rw[<-e];exact hi))];exact hD.dT i hi b4
  have jU:cy o.op=false->(σ j).V=(σ k0).V/\(σ j).A=(σ k0).A:=by
   intro fq;rcases XR j k0 with h|h
   ·have:=s4 k0 j h hD.mX (fun i h1 h2 h3=>by
     have b4:i<all.size:=by have:=hD.mX;omega
     have bt:=(hD.dT i h3 b4).2 h2;have aU:all[i]? =some all[i]:=XU b4;rcases XJ j i with h4|h4
     ·have hp:=bU j i o _ ho aU h4;have hb:=bR i _ aU bt;simp only[bj,hb,XE,XF]at hp;simp[h3,fq]at hp
     ·obtain rfl:i=j:=by omega
      rw[mo]at bt;simp at bt)
    exact⟨this.1.symm,this.2.symm⟩
   ·exact s4 j k0 h (by omega) (fun i h1 h2 h3=>by
     have b4:i<all.size:=by omega
     have aU:all[i]? =some all[i]:=XU b4;have hp:=bU i j _ o aU ho h2;simp only[bj,XE,XF]at hp;have hb:((aW all.toList []).getD j 0).testBit i=true:=by
      rcases hp.2 with h4|h4
      ·simp[h3,fq]at h4
      ·exact h4
     have:=(hD.dT i h3 b4).1 (ca i hb);omega)
  unfold wpOp;simp only[ho];rcases jt with⟨h1,x,V,A,h2,h3⟩|⟨h1,h2⟩
  ·rw[if_pos (by rw[kV,h1])];refine .inl ?_;by_cases hs:cy o.op=true
   ·-- slots alone
    have ea:j∉ws:=fun h=>by have:=ui j o ho h;rw[hs]at this;simp at this
    have h4:bA P ⟨cB,(σ k0).V,(σ k0).A⟩ (ow j) o (fun y V' A'=>y=x/\V'=(σ k0).V/\A'=(σ k0).A):=mW (s:=σ j) (s':=⟨cB,(σ k0).V,(σ k0).A⟩) hs (gd _ _ _ _) h3 ⟨rfl,rfl,rfl⟩;obtain⟨y,V',A',⟨rfl,rfl,rfl⟩,h5⟩:=cW gg.inv gg.fr gg.slot h4;refine h5 _ _ fun v w' g' h6 h7 h8 h9=>ih _ k0 g' _ w' cI (cz k0 y v w' g' (by rw[h2];rfl) h6 h7 h8 h9 hD.mX (gH ea))
   ·have fq:cy o.op=false:=by simpa using hs
    obtain⟨iG,gX⟩:=jU fq;have h4:bA P ⟨cB,(σ k0).V,(σ k0).A⟩ (ow j) o (fun y V' A'=>y=x/\V'=V/\A'=A):=by
     rw[<-iG,<-gX];exact dS (fr:=(σ j).fr) (gd _ _ _ _) (h3 _ ⟨rfl,rfl,rfl⟩)
    obtain⟨y,V',A',⟨rfl,rfl,rfl⟩,h5⟩:=cW gg.inv gg.fr gg.slot h4;have sJ:(σ (j+1)).V=V':=by rw[h2];rfl
    have iL:(σ (j+1)).A=A':=by rw[h2];rfl
    by_cases ea:j∈ws
    ·refine h5 _ _ fun v w' g' h6 h7 h8 h9=>ih _ (j+1) g' _ w' cI (cz (j+1) y v w' g' (by rw[h2];rfl) (by rw[iL];exact h6) (by rw[sJ,iL];exact h7) (by rw[iL];exact h8) h9 (by omega) (fun i hi b4=>?_))
     have aU:all[i]? =some all[i]:=XU b4;rw[bH];by_cases e:i=j
     ·subst e;simp
     ·rw[if_neg e];constructor
      ·intro bt;rcases XJ j i with h|h
       ·have hp:=bU j i o _ ho aU h;have hb:=bR i _ aU bt;simp only[bj,hb,XE,XF]at hp;simp[hi,fq]at hp
       ·omega
      ·intro ax;have hp:=bU i j _ o aU ho (by omega);simp only[bj,XE,XF]at hp;rcases hp.2 with h|h
       ·simp[hi,fq]at h
       ·exact ca i h
    ·rcases CD with CD|⟨pG,l7⟩
     ·exact absurd CD ea
     ·refine h5 _ _ fun v w' g' h6 h7 h8 h9=>ih _ k0 g' _ w' cI (cz k0 y v w' g' (by rw[h2];rfl) ?_ ?_ ?_ h9 hD.mX (gH ea))
      ·rw[<-gX,<-l7,iL];exact h6
      ·rw[<-iG,<-gX,<-pG,<-l7,sJ,iL];exact h7
      ·have e1:(σ k0).A=A':=by rw[<-gX,<-l7,iL]
       rw[e1]at h8⊢;exact h8
  ·rw[if_neg (by rw[kV,h1];simp)];have sJ:(σ (j+1)).V=(σ j).V:=by rw[h2];rfl
   have iL:(σ (j+1)).A=(σ j).A:=by rw[h2];rfl
   by_cases ea:j∈ws
   ·have fq:=ui j o ho ea;obtain⟨iG,gX⟩:=jU fq;refine ih _ (j+1) g _ w cI (cz (j+1) (.c .undef) undef w g (by rw[h2];rfl) rfl ?_ ?_ hD.fr (by omega) (fun i hi b4=>?_))
    ·rw[sJ,iL,iG,gX];exact hD.inv
    ·rw[iL,gX];exact .refl _ _ _
    ·have aU:all[i]? =some all[i]:=XU b4;rw[bH];by_cases e:i=j
     ·subst e;simp
     ·rw[if_neg e];constructor
      ·intro bt;rcases XJ j i with h|h
       ·have hp:=bU j i o _ ho aU h;have hb:=bR i _ aU bt;simp only[bj,hb,XE,XF]at hp;simp[hi,fq]at hp
       ·omega
      ·intro ax;have hp:=bU i j _ o aU ho (by omega);simp only[bj,XE,XF]at hp;rcases hp.2 with h|h
       ·simp[hi,fq]at h
       ·exact ca i h
   ·exact ih _ k0 g _ w cI (cz k0 (.c .undef) undef w g (by rw[h2];rfl) rfl hD.inv (.refl _ _ _) hD.fr hD.mX (gH ea))
theorem T.uk {id:Nat} {ops:Array Oper} (hm:P.follows .mixedOrders=true) (ow:Nat->Bool) (ws:List Nat) (hd:eE ops ws=true) (h:yy P ops ow ws (fun s'=>Q .normal s') 0 ops.toList s):T P n (.region id ops true) Q s:=by
 intro eU w0 g0 g a w hR;obtain⟨σ,h0,hK,jT⟩:=oQ ops.toList 0 s h;obtain⟨hI,hx⟩:=hR.inv.heap (w':={w with drawn:=w.drawn+1}) rfl;refine wp_region_any hm (CC (K:=fun s'=>Q .normal s') (w0:=w0) (g0:=g0) (n:=n) (σ:=σ) (ow:=ow) hd eU (fun j o ho=>?_) ?_ (fun s' g' a' w' h1 h2=>⟨s',g',h1,h2⟩) ops.size (XZ ops.size false) 0 g a _ ?_ ?_)
 ·have:=jT j o (by simpa using ho);simpa only[XM]using this
 ·simpa using hK
 ·exact XL (Xx _ _) (by simp)
 ·refine⟨by rw[h0];exact hI,hR.fr.heap rfl rfl rfl rfl,hR.size,hR.defers,by simp,fun i o t x ho hl=>?_,fun t x _ fW=>?_,fun i _ b4=>?_,XK _,fun i o ho hl=>?_⟩
  ·have hi:=(XV.1 ho).1;simp[hi]at hl
  ·rw[h0]at fW⊢;obtain⟨u,h1,h2⟩:=hR.slot t x fW;exact⟨u,h1,aR.ext hx h2⟩
  ·simp[b4]
  ·have hi:=(XV.1 ho).1;simp[hi]at hl
end
abbrev AV.i (n:Int):AV:=.c (.d (.int .i64 n))
abbrev AV.b (x:Bool):AV:=.c (.d (.bool x))
abbrev AV.s (x:List UInt8):AV:=.c (.d (.str x))
abbrev AV.l (x:List (List DV)):AV:=.c (.d (.sl x))
abbrev DV.i (n:Int):DV:=.int .i64 n
theorem wrap64 {n:Int} (h:-9223372036854775808<=n) (h':n<=9223372036854775807):IntKind.i64.wrap n=n:=by
 have e:IntKind.i64.wrap n=if 9223372036854775808<=n % 18446744073709551616 then n % 18446744073709551616-18446744073709551616 else n % 18446744073709551616:=by simp[IntKind.wrap,IntKind.signed,IntKind.bits]
 rw[e];split<;>omega
section
variable {P:Program} {n:Nat} {Q Q':Exit->St->Prop} {s s':St} {y:Code}
theorem mZ {α:Type} {o:Option α} {k k':α->Prop} (hk:∀v,k v->k' v) (h:bM o k):bM o k':=by
 cases o with
 |none=>exact h.elim
 |some v=>exact hk v h
theorem nf {all:Array Oper} {o:Oper} {y n y' n':Prop} (hy:y->y') (hn:n->n') (h:ib all s o y n):ib all s o y' n':=by
 unfold ib at h⊢;split
 ·rename_i e;rw[e]at h;exact hy h
 ·rename_i j want e;rw[e]at h;refine mZ (fun oj=>mZ fun t=>mZ fun x=>?_) h;intro h;split at h
  ·exact⟨fun a=>hy (h.1 a),fun a=>hn (h.2 a)⟩
  ·exact hn h
  ·exact h.elim
theorem fN {o:Oper} {ow:Bool} {K K':AV->List (List CV)->List bu->Prop} (hk:∀x V A,K x V A->K' x V A) (h:bA P s ow o K):bA P s ow o K':=by
 obtain⟨x,V,A,h1,h2⟩:=jg h;exact h2 K' (hk x V A h1)
structure DT (P:Program) (all:Array Oper) (ow:Nat->Bool) (K:St->Prop) (i:Nat) (ops:List Oper) (s:St):Prop where
 mk::
 run:EZ P all ow K i ops s
structure wb (P:Program) (all:Array Oper) (ow:Nat->Bool) (ws:List Nat) (K:St->Prop) (i:Nat) (ops:List Oper) (s:St):Prop where
 mk::
 run:yy P all ow ws K i ops s
theorem ae {all:Array Oper} {ow:Nat->Bool} {K:St->Prop} {i:Nat} {o:Oper} {rest:List Oper} (h:ib all s o (bA P s (ow i) o fun x V A=>DT P all ow K (i+1) rest (s.put o.dst x V A)) (DT P all ow K (i+1) rest (s.put o.dst (.c .undef) s.V s.A))):DT P all ow K i (o::rest) s:=
 ⟨nf (fun h=>fN (fun _ _ _ h=>h.run) h) (fun h=>h.run) h⟩
theorem ab {all:Array Oper} {ow:Nat->Bool} {K:St->Prop} {i:Nat} (h:K s):DT P all ow K i [] s:=⟨h⟩
theorem aG {all:Array Oper} {ow:Nat->Bool} {ws:List Nat} {K:St->Prop} {i:Nat} {o:Oper} {rest:List Oper} (h:ib all s o (bA P s (ow i) o fun x V A=>(i∈ws\/(V=s.V/\A=s.A))/\wb P all ow ws K (i+1) rest (s.put o.dst x V A)) (wb P all ow ws K (i+1) rest (s.put o.dst (.c .undef) s.V s.A))):wb P all ow ws K i (o::rest) s:=
 ⟨nf (fun h=>fN (fun _ _ _ h=>⟨h.1,h.2.run⟩) h) (fun h=>h.run) h⟩
theorem aB {all:Array Oper} {ow:Nat->Bool} {ws:List Nat} {K:St->Prop} {i:Nat} (h:K s):wb P all ow ws K i [] s:=⟨h⟩
theorem T.rs {id:Nat} {l:List Oper} (ow:Nat->Bool) (h:∀K:St->Prop,(∀s',T P n y Q s'->K s')->DT P l.toArray ow K 0 l s):T P n (.seq (.region id l.toArray false) y) Q s:=
 T.seq (T.region ow (h _ fun _ h=>h).run)
theorem T.rd {id:Nat} {l:List Oper} (hm:P.follows .mixedOrders=true) (ow:Nat->Bool) (ws:List Nat) (hd:eE l.toArray ws=true) (h:∀K:St->Prop,(∀s',T P n y Q s'->K s')->wb P l.toArray ow ws K 0 l s):T P n (.seq (.region id l.toArray true) y) Q s:=
 T.seq (T.uk hm ow ws hd (h _ fun _ h=>h).run)
theorem T.cw {id:Nat} {l:List Oper} (ow:Nat->Bool) (h:∀K:St->Prop,(∀s',Q .normal s'->K s')->DT P l.toArray ow K 0 l s):T P n (.region id l.toArray false) Q s:=
 T.region ow (h _ fun _ h=>h).run
theorem T.AS {id:Nat} {l:List Oper} (hm:P.follows .mixedOrders=true) (ow:Nat->Bool) (ws:List Nat) (hd:eE l.toArray ws=true) (h:∀K:St->Prop,(∀s',Q .normal s'->K s')->wb P l.toArray ow ws K 0 l s):T P n (.region id l.toArray true) Q s:=
 T.uk hm ow ws hd (h _ fun _ h=>h).run
@[congr] theorem MF {all:Array Oper} {ow:Nat->Bool} {K:St->Prop} {i i':Nat} {ops:List Oper} (hi:i=i') (h:s=s'):DT P all ow K i ops s=DT P all ow K i' ops s':=by rw[h,hi]
@[congr] theorem Lg {all:Array Oper} {ow:Nat->Bool} {ws:List Nat} {K:St->Prop} {i i':Nat} {ops:List Oper} (hi:i=i') (h:s=s'):wb P all ow ws K i ops s=wb P all ow ws K i' ops s':=by rw[h,hi]
@[congr] theorem Lh {o:Oper} {ow:Bool} {K:AV->List (List CV)->List bu->Prop} (h:s=s'):bA P s ow o K=bA P s' ow o K:=by rw[h]
@[congr] theorem No {o:Op} {ow:Bool} {K:AV->List (List CV)->List bu->Prop} (h:s=s'):eC P s ow o K=eC P s' ow o K:=by rw[h]
@[congr] theorem Np {all:Array Oper} {o:Oper} {y n:Prop} (h:s=s'):ib all s o y n=ib all s' o y n:=by rw[h]
@[congr] theorem Nq {α:Type} {o o':Option α} {k:α->Prop} (h:o=o'):bM o k=bM o' k:=by rw[h]
def kk:List (Nat×AV)->List (Nat×AV)->Prop
 |[],_=>True
 |(t,x)::r,fr=>look fr t=some x/\kk r fr
theorem kk.look:∀{l fr:List (Nat×AV)},kk l fr->∀t x,look l t=some x->look fr t=some x
 |[],_,_,t,x,h=>by simp[Av.look]at h
 |(t',x')::r,fr,hs,t,x,h=>by
  simp only[Av.look]at h;split at h
  ·rename_i e;subst e;simp at h;subst h;exact hs.1
  ·exact kk.look hs.2 t x h
def Sub (s s':St):Prop:=s.V=s'.V/\s.A=s'.A/\kk s.fr s'.fr
def Round {α:Type} (S:α->St) (m:α->Nat) (H:α->Prop) (k:Nat) (Q:Exit->St->Prop):Exit->St->Prop
 |.normal,s'=>∃a',m a'<k/\H a'/\Sub (S a') s'
 |e,s'=>Q e s'
theorem T.fJ {α:Type} {c:Code} (S:α->St) (m:α->Nat) (H:α->Prop) (h:∀a,H a->T P n c (Round S m H (m a) Q) (S a)) (a:α) (ha:H a) (hs:Sub (S a) s):T P n (.loop c) Q s:=by
 refine T.loop (fun k s=>∃a,m a=k/\H a/\(S a).V=s.V/\(S a).A=s.A/\∀t x,look (S a).fr t=some x->look s.fr t=some x) ?_ (k:=m a) ⟨a,rfl,ha,hs.1,hs.2.1,kk.look hs.2.2⟩;rintro k s1 ⟨a',rfl,h2,h3,h4,h5⟩;refine T.forget (S a').fr h5 ?_;rw[<-h3,<-h4];refine T.mono (h a' h2) fun e s2 h6=>?_
 cases e with
 |normal=>
  obtain⟨a2,h7,h8,h9,cv,ep⟩:=h6;exact⟨_,h7,a2,rfl,h8,h9,cv,kk.look ep⟩
 |_=>exact h6
@[congr] theorem Kn {s s':St} {f:FuncId} {xs xs':List AV} {K:AV->List (List CV)->List bu->Prop} (hs:s=s') (hx:xs=xs'):je P s f xs K=je P s' f xs' K:=by subst hs;subst hx;rfl
theorem aa {f:FuncId} {xs as:List AV} {r:AV} {K:AV->List (List CV)->List bu->Prop} (b4:ja s.A [] xs=some as) (hc:ah P f as [] r [] []) (hK:K (r.gn [] s.V.length s.A.length) s.V (bO s.A (bB xs))):je P s f xs K:=by
 refine .inl ⟨[],as,[],r,[],[],W4,b4,rfl,hc,?_⟩;simpa[df,bX]using hK
theorem az.pure {fn:Func} {r x:AV} {e:Exit} (he:e=.normal\/e=.ret) (hr:fy P s fn.results.toList=some [x]) (hx:x.qi s.A [] []=some r):az P fn 0 r [] [] e s:=
 ⟨he,[],[],[x],[r],hr,W4,W4,by simp,by simp[aE,hx],rfl,rfl,rfl⟩
end
def jb {α:Type} (f:α->List DV) (z:List DV) (l:List α) (i:Nat):List (List DV):=(l.take i).map f++Xr (l.length-i) z
section
variable {α:Type} {f:α->List DV} {z:List DV} {l:List α} {i:Nat}
theorem yz (h:i<=l.length):(jb f z l i).length=l.length:=by simp[jb];omega
theorem wc:jb f z l 0=Xr l.length z:=by simp[jb]
theorem we:jb f z l l.length=l.map f:=by simp[jb]
theorem E3 (h:i<l.length):(jb f z l i)[i]? =some z:=by
 rw[jb,WU (by simp only[Xc,Xb];omega),List.getElem?_replicate,if_pos (by simp only[Xc,Xb];omega)]
theorem E4 (h:i<l.length):(jb f z l i).set i (f l[i])=jb f z l (i+1):=by
 have e:l.take (i+1)=l.take i++[l[i]]:=by rw[Xi];simp[h]
 rw[jb,jb,e,Xj _ _ (by simp only[Xc,Xb];omega)];have e2:l.length-i=(l.length-(i+1))+1:=by omega
 have e3:i-((l.take i).map f).length=0:=by simp only[Xc,Xb];omega
 rw[e3,e2,List.replicate_succ,List.set_cons_zero,Xv,XC]
 rfl
theorem wg {o:α} (h:l[i]? =some o):(jb f z l i).set i (f o)=jb f z l (i+1):=by
 obtain⟨h1,rfl⟩:=WS.1 h;exact E4 h1
theorem AT (h:i<l.length) (h':i<(jb f z l i).length):(jb f z l i)[i]=z:=by
 have:=E3 (f:=f) (z:=z) h;rw[WW h']at this;exact Option.some.inj this
theorem bz (h:i<l.length):∃o,l[i]? =some o:=⟨l[i],WW h⟩
end
theorem dq {p:Prop} (h:p):p:=h
attribute [simp] bA eC ib bM bw gR lU rF mb zl rowsOf look sP St.put gm EP bV zj IS rE rD DH AV.plain AV.cells CV.js mN hP jX fu bO ja AV.j4 CV.j4 qg AV.gn CV.gn bB ia jF nP cy fy uf AV.qi CV.res rN pos? vW CB lC Sub kk kU
section
variable {P:Program} {n:Nat} {Q:Exit->St->Prop} {s:St} {y:Code}
theorem T.ct {c:Operand} {x z:Code} (hc:bw s c=some (.c (.d (.bool true)))) (h:T P n x Q s):T P n (.cond c x z) Q s:=T.cond hc (fun _=>h) (fun h=>absurd h (by decide))
theorem T.cf {c:Operand} {x z:Code} (hc:bw s c=some (.c (.d (.bool false)))) (h:T P n z Q s):T P n (.cond c x z) Q s:=T.cond hc (fun h=>absurd h (by decide)) (fun _=>h)
theorem T.r0 {id:Nat} {l:List Oper} (h:∀K:St->Prop,(∀s',T P n y Q s'->K s')->DT P l.toArray (fun _=>false) K 0 l s):T P n (.seq (.region id l.toArray false) y) Q s:=T.rs (fun _=>false) h
theorem T.r1 {id:Nat} {l:List Oper} (h:∀K:St->Prop,(∀s',Q .normal s'->K s')->DT P l.toArray (fun _=>false) K 0 l s):T P n (.region id l.toArray false) Q s:=T.cw (fun _=>false) h
end
end Go.Av
namespace Go.Av
open Go
section
variable {P:Program} {all:Array Oper} {ow:Nat->Bool} {K:St->Prop} {i:Nat} {ops:List Oper} {ws:List Nat} {d:Nat} {b:Bool} {fr:List (Nat×AV)} {V:List (List CV)} {A:List bu}
theorem DT.gen (h:∀q:Bool,b=q->DT P all ow K i ops ⟨(d,.c (.d (.bool q)))::fr,V,A⟩):DT P all ow K i ops ⟨(d,.c (.d (.bool b)))::fr,V,A⟩:=h b rfl
theorem wb.gen (h:∀q:Bool,b=q->wb P all ow ws K i ops ⟨(d,.c (.d (.bool q)))::fr,V,A⟩):wb P all ow ws K i ops ⟨(d,.c (.d (.bool b)))::fr,V,A⟩:=h b rfl
end
theorem az.data {P:Program} {s:St} {fn:Func} {r:AV} {e:Exit} (he:e=.normal\/e=.ret) (hr:fy P s fn.results.toList=some [r]) (hx:r.qi s.A [] []=some r):az P fn 0 r [] [] e s:=az.pure he hr hx
theorem DU {a b:Int} (h:¬a=b):(a==b)=false:=by simpa using h
abbrev dV (rows:List (List DV)):List (List CV):=rows.map fun r=>r.map CV.d
section
variable {P:Program} {s:St} {A:List bu} {f:FuncId} {xs as:List AV} {r:AV} {K:AV->List (List CV)->List bu->Prop}
theorem GS {ids:List Nat}:∀(r:List DV),qg A ids (r.map CV.d)=some (r.map CV.d)
 |[]=>rfl
 |x::r=>by simp[GS r]
theorem GU {os ks:List Nat}:∀(r:List DV),rN A os ks (r.map CV.d)=some (r.map CV.d)
 |[]=>rfl
 |x::r=>by simp[GU r]
theorem zw {ids:List Nat} {V:List (List CV)}:∀(ls:List Nat) (rows:List (List DV)),ls.length=rows.length->(∀(j l:Nat) row,ls[j]? =some l->rows[j]? =some row->V[l]? =some (row.map CV.d))->j5 A V ids ls=some (dV rows)
 |[],[],_,_=>rfl
 |l::ls,row::rows,hl,h=>by
  simp only[j5,h 0 l row rfl rfl,zw ls rows (by simpa using hl) (fun j l row h1 h2=>h (j+1) l row (by simpa using h1) (by simpa using h2)),GS]
  rfl
 |[],_::_,hl,_=>by simp at hl
 |_::_,[],hl,_=>by simp at hl
theorem DW {os ks:List Nat} {V:List (List CV)}:∀(ls:List Nat) (rows:List (List DV)),ls.length=rows.length->(∀(j l:Nat) row,ls[j]? =some l->rows[j]? =some row->V[l]? =some (row.map CV.d))->gW A V os ks ls=some (dV rows)
 |[],[],_,_=>rfl
 |l::ls,row::rows,hl,h=>by
  simp only[gW,h 0 l row rfl rfl,DW ls rows (by simpa using hl) (fun j l row h1 h2=>h (j+1) l row (by simpa using h1) (by simpa using h2)),GU]
  rfl
 |[],_::_,hl,_=>by simp at hl
 |_::_,[],hl,_=>by simp at hl
theorem rP {nA nV:Nat} {ids:List Nat}:∀(ls:List Nat) (rows:List (List DV)) (V:List (List CV)),ls.length=rows.length->(∀(j l:Nat) row,ls[j]? =some l->rows[j]? =some row->V[l]? =some (row.map CV.d))->df nA nV ids V ls (dV rows)=V
 |[],[],V,_,_=>by simp[df]
 |l::ls,row::rows,V,hl,h=>by
  have h0:=h 0 l row rfl rfl;have hm:(row.map CV.d).map (CV.gn ids nV nA)=row.map CV.d:=by simp[Xu,Function.comp_def]
  have bH:V.set l (row.map CV.d)=V:=by
   obtain⟨h1,h2⟩:=WS.1 h0;rw[<-h2];simp
  simp only[dV,W8,df,hm,bH];exact rP ls rows V (by simpa using hl) (fun j l row h1 h2=>h (j+1) l row (by simpa using h1) (by simpa using h2))
 |[],_::_,_,hl,_=>by simp at hl
 |_::_,[],_,hl,_=>by simp at hl
theorem qV {V:List (List CV)}:∀(ls:List Nat) (rows:List (List DV)),ls.length=rows.length->(∀(j l:Nat) row,ls[j]? =some l->rows[j]? =some row->V[l]? =some (row.map CV.d))->∃ds:List DV,bX V ls=ds.map CV.d
 |[],[],_,_=>⟨[],rfl⟩
 |l::ls,row::rows,hl,h=>by
  obtain⟨ds,hd⟩:=qV ls rows (by simpa using hl) (fun j l row h1 h2=>h (j+1) l row (by simpa using h1) (by simpa using h2));refine⟨row++ds,?_⟩;have h0:=h 0 l row rfl rfl;simp only[bX,W3]at hd⊢;rw[hd];simp[W0,h0]
 |[],_::_,hl,_=>by simp at hl
 |_::_,[],hl,_=>by simp at hl
theorem wh:∀(ds:List DV) (A:List bu),bO A (ds.map CV.d)=A
 |[],A=>rfl
 |d::ds,A=>by
  simp only[W8,bO,Xf,fu];exact wh ds A
theorem qx (A:List bu) (cs ds:List CV):bO A (cs++ds)=bO (bO A cs) ds:=by simp[bO]
theorem AU (ids:List Nat) (rows:List (List DV)) (l8:ids.Nodup) (hlen:ids.length=rows.length) (AH:∀(j l:Nat) row,ids[j]? =some l->rows[j]? =some row->s.V[l]? =some (row.map CV.d)) (b4:ja s.A ids xs=some as) (hc:ah P f as (dV rows) r (dV rows) [])
  (hK:K (r.gn ids s.V.length s.A.length) s.V (bO s.A (bB xs))):je P s f xs K:=by
 refine .inl ⟨ids,as,dV rows,r,dV rows,[],l8,b4,zw ids rows hlen AH,hc,?_⟩;rw[rP ids rows s.V hlen AH];obtain⟨ds,hd⟩:=qV ids rows hlen AH;rw[hd,qx,wh,W9];exact hK
theorem az.Qy {fn:Func} {e:Exit} {rows:List (List DV)} {m:Nat} (hm:m=rows.length) (he:e=.normal\/e=.ret) (hr:fy P s fn.results.toList=some [r]) (hx:r.qi s.A (WX rows.length) []=some r)
  (hV:∀(l:Nat) row,rows[l]? =some row->s.V[l]? =some (row.map CV.d)):az P fn m r (dV rows) [] e s:=by
 subst hm;refine⟨he,[],[],[r],[r],hr,W4,W4,by simp,?_,rfl,?_,rfl⟩
 ·rw[W9];simp only[aE,hx]
 rw[W9];refine DW (WX rows.length) rows (by simp) fun j l row h1 h2=>?_
 have hj:j<rows.length:=(WS.1 h2).1;simp[hj]at h1;subst h1;exact hV j row h2
end
def iH {α β:Type} (q:α->β->Bool):List α->List β->Bool
 |[],[]=>true
 |x::xs,y::ys=>q x y && iH q xs ys
 |_,_=>false
theorem rQ {α β:Type} {q:α->β->Bool}:∀{xs:List α} {ys:List β},iH q xs ys=true->xs.length=ys.length
 |[],[],_=>rfl
 |x::xs,y::ys,h=>by simp[iH]at h;simp[rQ h.2]
 |[],_::_,h=>by simp[iH]at h
 |_::_,[],h=>by simp[iH]at h
theorem I5 {α β:Type} {q:α->β->Bool} {xs:List α} {ys:List β} (h:xs.length≠ys.length):iH q xs ys=false:=by
 cases hq:iH q xs ys
 ·rfl
 ·exact absurd (rQ hq) h
def fB {α:Type} (q:α->Bool):List α->Int->Int
 |[],_=>-1
 |x::xs,i=>if q x=true then i else fB q xs (i+1)
theorem oR {α:Type} {q:α->Bool}:∀{xs:List α} {i:Int},0<=i->(decide (0<=fB q xs i)=xs.any q)
 |[],i,_=>by simp[fB]
 |x::xs,i,h=>by
  by_cases hq:q x=true
  ·simp[fB,hq,h]
  ·have hr:=oR (q:=q) (xs:=xs) (i:=i+1) (by omega);simp only[fB,hq,List.any_cons];simpa using hr
theorem oS {α:Type} (p:α->Bool):∀(l:List α),(!l.any fun x=> !p x)=l.all p
 |[]=>rfl
 |x::l=>by simp[<-oS p l,Bool.not_or]
theorem drop_cons {α:Type} {l:List α} {p:Nat} (h:p<l.length):l.drop p=l[p]::l.drop (p+1):=by rw[List.drop_eq_getElem_cons h]
@[simp] theorem il {α:Type} (G X:List α) (k:Nat):(G++X)[G.length+k]? =X[k]? :=by
 rw[WU (by omega)];congr 1;omega
@[simp] theorem gp {α:Type} (G X:List α):(G++X)[G.length]? =X[0]? :=by
 rw[WU (by omega)];congr 1;omega
@[simp] theorem iq {α:Type} (G X:List α) (k:Nat) (v:α):(G++X).set (G.length+k) v=G++X.set k v:=by
 rw[Xj _ _ (by omega)];congr 2;omega
@[simp] theorem gq {α:Type} (G X:List α) (v:α):(G++X).set G.length v=G++X.set 0 v:=by
 rw[Xj _ _ (by omega)];congr 2;omega
theorem yA {α β:Type} {q:α->β->Bool} {x:α} {y:β} {xs:List α} {ys:List β}:iH q (x::xs) (y::ys)=(q x y && iH q xs ys):=rfl
theorem AW {α β:Type} {q:α->β->Bool}:iH q [] ([]:List β)=true:=rfl
abbrev T7 (n:Nat):List AV:=(WX n).map fun l=>.c (.ptr l 0)
section
variable {P:Program} {s:St} {A:List bu} {f:FuncId} {xs as:List AV} {r:AV} {K:AV->List (List CV)->List bu->Prop}
theorem lG (l:Nat) (row:List DV) (ev:s.V[l]? =some (row.map CV.d)) (b4:ja s.A [l] xs=some as) (hc:ah P f as (dV [row]) r (dV [row]) [])
  (hK:K (r.gn [l] s.V.length s.A.length) s.V (bO s.A (bB xs))):je P s f xs K:=by
 refine AU [l] [row] (by simp) rfl ?_ b4 hc hK;intro j l' row' h1 h2
 match j with
 |0=>simp at h1 h2;subst h1;subst h2;exact ev
 |j+1=>simp at h1
theorem az.val {fn:Func} {e:Exit} (he:e=.normal\/e=.ret) (hr:(fy P s fn.results.toList).bind (aE s.A [] [])=some [r]):az P fn 0 r [] [] e s:=by
 cases hx:fy P s fn.results.toList with
 |none=>rw[hx]at hr;simp at hr
 |some xs=>rw[hx]at hr;exact⟨he,[],[],xs,[r],hx,W4,W4,by simp,hr,rfl,rfl,rfl⟩
theorem az.aZ {fn:Func} {e:Exit} {a b:AV} {ys:List AV} (he:e=.normal\/e=.ret) (hr:(fy P s fn.results.toList).bind (aE s.A [] [])=some (a::b::ys)):az P fn 0 (.aZ (a::b::ys)) [] [] e s:=by
 cases hx:fy P s fn.results.toList with
 |none=>rw[hx]at hr;simp at hr
 |some xs=>rw[hx]at hr;exact⟨he,[],[],xs,_,hx,W4,W4,by simp,hr,rfl,rfl,rfl⟩
theorem oT (l:Nat) (row row':List DV) (ev:s.V[l]? =some (row.map CV.d)) (b4:ja s.A [l] xs=some as) (hc:ah P f as (dV [row]) r (dV [row']) [])
  (hK:K (r.gn [l] s.V.length s.A.length) (s.V.set l (row'.map CV.d)) (bO s.A (bB xs))):je P s f xs K:=by
 refine .inl ⟨[l],as,dV [row],r,dV [row'],[],by simp,b4,zw [l] [row] rfl ?_,hc,?_⟩
 ·intro j l' row'' h1 h2
  match j with
  |0=>simp at h1 h2;subst h1;subst h2;exact ev
  |j+1=>simp at h1
 ·obtain⟨ds,hd⟩:=qV (V:=s.V) [l] [row] rfl (by
   intro j l' row'' h1 h2
   match j with
   |0=>simp at h1 h2;subst h1;subst h2;exact ev
   |j+1=>simp at h1)
  rw[hd,qx,wh,W9];have hm:(row'.map CV.d).map (CV.gn [l] s.V.length s.A.length)=row'.map CV.d:=by simp[Xu,Function.comp_def]
  have hp:df s.A.length s.V.length [l] s.V [l] (dV [row'])=s.V.set l (row'.map CV.d):=by
   simp only[dV,W8,List.map_nil,df,hm,W9]
  rw[hp];exact hK
theorem az.uX {fn:Func} {e:Exit} {row:List DV} (he:e=.normal\/e=.ret) (hr:fy P s fn.results.toList=some [r]) (hx:r.qi s.A [0] []=some r)
  (hV:s.V[0]? =some (row.map CV.d)):az P fn 1 r (dV [row]) [] e s:=by
 refine az.Qy (rows:=[row]) rfl he hr hx ?_;intro l row' h
 match l with
 |0=>simp at h;subst h;exact hV
 |l+1=>simp at h
end
section
variable {P:Program} {n:Nat} {Q:Exit->St->Prop} {s:St} {x y:Code}
def Cut (S:St) (Q:Exit->St->Prop):Exit->St->Prop
 |.normal,s'=>Sub S s'
 |e,s'=>Q e s'
end
end Go.Av
namespace Go.Av
attribute [-simp] Go.Av.il Go.Av.gp Go.Av.iq Go.Av.gq
open Go
inductive aF where
 |mk (kind:Int) (kids:List aF)
def aF.kind:aF->Int|.mk k _=>k
def aF.kids:aF->List aF|.mk _ l=>l
inductive ak where
 |mk (kind:Int) (name:List UInt8) (num:Int) (ty fr:aF) (label:Int) (kids:List ak)
def ak.kind:ak->Int|.mk k _ _ _ _ _ _=>k
def ak.name:ak->List UInt8|.mk _ s _ _ _ _ _=>s
def ak.num:ak->Int|.mk _ _ n _ _ _ _=>n
def ak.ty:ak->aF|.mk _ _ _ t _ _ _=>t
def ak.fr:ak->aF|.mk _ _ _ _ t _ _=>t
def ak.label:ak->Int|.mk _ _ _ _ _ l _=>l
def ak.kids:ak->List ak|.mk _ _ _ _ _ _ l=>l
@[simp] theorem aF.cb (k:Int) (l:List aF):(aF.mk k l).kind=k:=rfl
@[simp] theorem aF.bD (k:Int) (l:List aF):(aF.mk k l).kids=l:=rfl
section
variable (k:Int) (s:List UInt8) (n:Int) (t f:aF) (b:Int) (l:List ak)
@[simp] theorem ak.cb:(ak.mk k s n t f b l).kind=k:=rfl
@[simp] theorem ak.gu:(ak.mk k s n t f b l).name=s:=rfl
@[simp] theorem ak.ng:(ak.mk k s n t f b l).num=n:=rfl
@[simp] theorem ak.jI:(ak.mk k s n t f b l).ty=t:=rfl
@[simp] theorem ak.jJ:(ak.mk k s n t f b l).fr=f:=rfl
@[simp] theorem ak.iR:(ak.mk k s n t f b l).label=b:=rfl
@[simp] theorem ak.bD:(ak.mk k s n t f b l).kids=l:=rfl
end
mutual
def b5:aF->List DV
 |.mk k l=>[.i k,.sl (I6 l)]
def I6:List aF->List (List DV)
 |[]=>[]
 |t::r=>b5 t::I6 r
end
theorem AX:∀(l:List aF),I6 l=l.map b5
 |[]=>rfl
 |t::r=>by simp[I6,AX r]
theorem aN (t:aF):b5 t=[.i t.kind,.sl (t.kids.map b5)]:=by
 cases t;simp[b5,AX]
mutual
def eK:ak->List DV
 |.mk k s n t f l kids=>[.i k,.str s,.i n,.i t.kind,.sl (t.kids.map b5),.i f.kind,.sl (f.kids.map b5),.i l,.sl (I7 kids)]
def I7:List ak->List (List DV)
 |[]=>[]
 |t::r=>eK t::I7 r
end
theorem AY:∀(l:List ak),I7 l=l.map eK
 |[]=>rfl
 |t::r=>by simp[I7,AY r]
theorem au (e:ak):eK e=[.i e.kind,.str e.name,.i e.num,.i e.ty.kind,.sl (e.ty.kids.map b5),.i e.fr.kind,.sl (e.fr.kids.map b5),.i e.label,.sl (e.kids.map eK)]:=by
 cases e;simp[eK,AY]
abbrev ec (t:aF):AV:=.agg [.d (.i t.kind),.d (.sl (t.kids.map b5))]
abbrev cE (e:ak):AV:=.agg [.d (.i e.kind),.d (.str e.name),.d (.i e.num),.d (.i e.ty.kind),.d (.sl (e.ty.kids.map b5)),.d (.i e.fr.kind),.d (.sl (e.fr.kids.map b5)),.d (.i e.label),.d (.sl (e.kids.map eK))]
/- How many nodes lie below a node. -/
mutual
def dF:aF->Nat
 |.mk _ l=>aL l
def aL:List aF->Nat
 |[]=>0
 |t::r=>1+dF t+aL r
end
mutual
def fa:ak->Nat
 |.mk _ s _ t f _ kids=>s.length+dF t+dF f+dW kids
def dW:List ak->Nat
 |[]=>0
 |e::r=>1+fa e+dW r
end
theorem ed (t:aF):dF t=aL t.kids:=by cases t;simp[dF]
theorem fS (e:ak):fa e=e.name.length+dF e.ty+dF e.fr+dW e.kids:=by cases e;simp[fa]
theorem eY:∀(l:List aF),l.length<=aL l
 |[]=>by simp[aL]
 |t::r=>by have:=eY r;simp[aL];omega
theorem jK:∀(l:List ak),l.length<=dW l
 |[]=>by simp[dW]
 |t::r=>by have:=jK r;simp[dW];omega
theorem fi:∀{l:List aF} {t:aF},t∈l->dF t<aL l
 |x::r,t,h=>by
  simp only[W2]at h;simp only[aL];rcases h with rfl|h
  ·omega
  ·have:=fi h;omega
theorem mq:∀{l:List ak} {e:ak},e∈l->fa e<dW l
 |x::r,t,h=>by
  simp only[W2]at h;simp only[dW];rcases h with rfl|h
  ·omega
  ·have:=mq h;omega
def j6 (l:List aF):Nat:=(l.map dF).sum
def j7 (l:List ak):Nat:=(l.map fa).sum
theorem AZ:∀(l:List aF),aL l=l.length+j6 l
 |[]=>by simp[aL,j6]
 |t::r=>by have:=AZ r;simp[aL,j6]at*;omega
theorem A1:∀(l:List ak),dW l=l.length+j7 l
 |[]=>by simp[dW,j7]
 |t::r=>by have:=A1 r;simp[dW,j7]at*;omega
theorem CE {l:List aF} {i:Nat} {t:aF} (h:l[i]? =some t):j6 (l.take (i+1))=j6 (l.take i)+dF t:=by
 simp[j6,Xi,h]
theorem CF {l:List ak} {i:Nat} {t:ak} (h:l[i]? =some t):j7 (l.take (i+1))=j7 (l.take i)+fa t:=by
 simp[j7,Xi,h]
theorem jL:∀(l:List Nat) (i:Nat),(l.take i).sum<=l.sum
 |[],i=>by simp
 |x::r,0=>by simp
 |x::r,i+1=>by have:=jL r i;simp;omega
theorem GW (l:List aF) (i:Nat):j6 (l.take i)<=j6 l:=by
 have:=jL (l.map dF) i;simpa[j6]using this
theorem GX (l:List ak) (i:Nat):j7 (l.take i)<=j7 l:=by
 have:=jL (l.map fa) i;simpa[j7]using this
/- No row is longer than any Go slice. -/
mutual
def GY:aF->Prop
 |.mk _ l=>l.length<=9223372036854775807/\CG l
def CG:List aF->Prop
 |[]=>True
 |t::r=>GY t/\CG r
end
mutual
def GZ:ak->Prop
 |.mk _ s _ t f _ kids=>s.length<=9223372036854775807/\GY t/\GY f/\kids.length<=9223372036854775807/\CH kids
def CH:List ak->Prop
 |[]=>True
 |e::r=>GZ e/\CH r
end
theorem A3:∀{l:List aF} {t:aF},CG l->t∈l->GY t
 |x::r,t,h,hm=>by
  simp only[CG]at h;simp only[W2]at hm;rcases hm with rfl|hm
  ·exact h.1
  ·exact A3 h.2 hm
theorem A4:∀{l:List ak} {t:ak},CH l->t∈l->GZ t
 |x::r,t,h,hm=>by
  simp only[CH]at h;simp only[W2]at hm;rcases hm with rfl|hm
  ·exact h.1
  ·exact A4 h.2 hm
theorem pL (t:aF):GY t=(t.kids.length<=9223372036854775807/\CG t.kids):=by cases t;simp[GY]
theorem vq (e:ak):GZ e=(e.name.length<=9223372036854775807/\GY e.ty/\GY e.fr/\e.kids.length<=9223372036854775807/\CH e.kids):=by cases e;simp[GZ]
def ju (n:Nat) (left:Int):Int:=if(n:Int)<=left then left-n else-1
end Go.Av
namespace Go.Av
open Go
theorem aF.ind {P:aF->Prop} (h:∀t,(∀u∈t.kids,P u)->P t):∀t,P t
 |.mk k l=>h _ (fun u hu=>aF.ind h u)
termination_by t=>SizeOf.sizeOf t
decreasing_by simp at hu;have:=Xq hu;simp;omega
theorem ak.ind {P:ak->Prop} (h:∀e,(∀u∈e.kids,P u)->P e):∀e,P e
 |.mk k s n t f b l=>h _ (fun u hu=>ak.ind h u)
termination_by e=>SizeOf.sizeOf e
decreasing_by simp at hu;have:=Xq hu;simp;omega
def mK (x lo hi:Int):Bool:=decide (lo<=x)&& decide (x<=hi)
def dG:List UInt8->Bool
 |[c]=>decide (97<=c.toNat)&& decide (c.toNat<=122)
 |_=>false
def dN (t:aF):Bool:=decide (t.kind=0)&& decide (t.kids=[])
def CI (n:Int):Bool:=mK n 1 99||mK n (-99) (-1)
def cL (k:Int):Int:=
 if k=1\/k=2\/k=3\/k=4 then 0 else if k=5\/k=11\/k=12\/k=13\/k=14 then 1 else if k=6\/k=7\/k=8\/k=10 then 2 else if k=9 then 3 else-1
def e7 (k:Int):Int:=if k=1\/k=2\/k=3 then 0 else if k=4\/k=5 then 2 else-1
def al:Nat->aF->Bool
 |0,_=>false
 |d+1,t=>decide (e7 t.kind=t.kids.length)&& t.kids.all (al d)
theorem iS {d:Nat} {t:aF} (h:al d t=true):∃e,d=e+1/\e7 t.kind=t.kids.length/\t.kids.length<=2/\∀u∈t.kids,al e u=true:=by
 cases d with
 |zero=>simp[al]at h
 |succ e=>
  simp only[al,XE,decide_eq_true_eq,W7]at h;refine⟨e,rfl,h.1,?_,h.2⟩;have:=h.1;simp only[e7]at this;split at this
  ·omega
  ·split at this<;>omega
mutual
def aD:aF->aF->Bool
 |.mk k l,.mk k' l'=>decide (k=1)||decide (k'=1)||(decide (k=k')&& pM l l')
def pM:List aF->List aF->Bool
 |[],[]=>true
 |x::xs,y::ys=>aD x y && pM xs ys
 |_,_=>false
end
theorem rR:∀(l m:List aF),pM l m=iH aD l m
 |[],[]=>rfl
 |x::xs,y::ys=>by simp[pM,iH,rR xs ys]
 |[],_::_=>rfl
 |_::_,[]=>rfl
theorem nh (a b:aF):aD a b=(decide (a.kind=1)||decide (b.kind=1)||(decide (a.kind=b.kind)&& iH aD a.kids b.kids)):=by
 cases a;cases b;simp only[aD,rR];rfl
/- A node by itself, but for the number of its operands. -/
def dL (k:Int):Bool:=decide (k=1)||decide (k=5)
def bY (k:Int):Bool:=decide (k=5)||decide (k=13)||decide (k=14)
def oU (e:ak):Bool:=al 4 e.fr && al 4 e.ty && aD e.fr e.ty && CI e.label
def fe (e:ak):Bool:=
 (if dL e.kind then dG e.name else decide (e.name=[]))&& mK e.num 0 (if e.kind=2 then 999 else 0)&&
 (if bY e.kind then al 4 e.ty else dN e.ty)&&(if e.kind=14 then oU e else dN e.fr && decide (e.label=0))
def fT (e:ak):Bool:=decide (cL e.kind=e.kids.length)&& fe e
def a8 (nt:Int):Nat->ak->Bool
 |0,_=>false
 |d+1,e=>decide (e.kind≠nt)&& fT e && e.kids.all (a8 nt d)
def cC:Nat->ak->Nat
 |0,_=>1
 |d+1,e=>1+(e.kids.map (cC d)).sum
/- A scan from a node on: whether it goes through, and how many nodes it has seen. -/
mutual
def j8 (mn md nt:Int):Int->ak->Int->Bool×Int
 |deep,.mk k s n t f b l,c=>if mn<c+1\/md<deep\/k=nt\/fT (.mk k s n t f b l)=false then(false,c+1)else kW mn md nt (deep+1) l (c+1)
def kW (mn md nt:Int):Int->List ak->Int->Bool×Int
 |_,[],c=>(true,c)
 |deep,e::r,c=>if(j8 mn md nt deep e c).1=true then kW mn md nt deep r (j8 mn md nt deep e c).2 else(false,(j8 mn md nt deep e c).2)
end
theorem s6 (mn md nt deep:Int) (e:ak) (c:Int):j8 mn md nt deep e c=if mn<c+1\/md<deep\/e.kind=nt\/fT e=false then(false,c+1)else kW mn md nt (deep+1) e.kids (c+1):=by
 cases e;simp only[j8];rfl
theorem E5 (mn md nt:Int):∀(e:ak) (d:Nat) (c:Int),0<=c->c<=mn->
  (j8 mn md nt (md+1-d) e c).1=(a8 nt d e && decide (c+cC d e<=mn))/\(a8 nt d e=true->c+cC d e<=mn->(j8 mn md nt (md+1-d) e c).2=c+cC d e):=by
 intro e;induction e using ak.ind with
 |h e ih=>
  intro d c h0 hc;rw[s6];cases d with
  |zero=>
   rw[if_pos (by right;left;omega)];simp[a8]
  |succ d=>
   have fP:∀(x:Nat) (y:ak),1<=cC x y:=fun x y=>by cases x<;>simp[cC]
   have cI:cC (d+1) e=1+(e.kids.map (cC d)).sum:=rfl;by_cases E6:mn<c+1\/md<md+1-((d+1:Nat):Int)\/e.kind=nt\/fT e=false
   ·rw[if_pos E6];have hf:(a8 nt (d+1) e && decide (c+cC (d+1) e<=mn))=false:=by
     have:=fP (d+1) e;rcases E6 with h|h|h|h
     ·simp;intro _;omega
     ·omega
     ·simp[a8,h]
     ·simp[a8,h]
    refine⟨hf.symm,fun h1 h2=>?_⟩;rw[h1]at hf;simp at hf;omega
   ·rw[if_neg E6];have hk:e.kind≠nt:=fun h=>E6 (by simp[h])
    have hn:fT e=true:=by
     cases h:fT e
     ·exact absurd (by simp[h]) E6
     ·rfl
    have kX:a8 nt (d+1) e=e.kids.all (a8 nt d):=by simp[a8,hk,hn]
    rw[kX,cI,show md+1-((d+1:Nat):Int)+1=md+1-(d:Int) by omega]
    have G5:∀(l:List ak),(∀u∈l,u∈e.kids)->∀c:Int,0<=c->c<=mn->(kW mn md nt (md+1-d) l c).1=(l.all (a8 nt d)&& decide (c+(l.map (cC d)).sum<=mn))/\
      (l.all (a8 nt d)=true->c+(l.map (cC d)).sum<=mn->(kW mn md nt (md+1-d) l c).2=c+(l.map (cC d)).sum):=by
     intro l;induction l with
     |nil=>intro _ c h0 hc;simp[kW];omega
     |cons x r ihl=>
      intro hm c h0 hc;obtain⟨h1,h2⟩:=ih x (hm x (by simp)) d c h0 hc;simp only[kW,XD,W8,List.sum_cons];cases hx:(j8 mn md nt (md+1-d) x c).1 with
      |false=>
       rw[hx]at h1;simp only[XG,if_false];cases hs:a8 nt d x with
       |false=>simp
       |true=>
        rw[hs]at h1;simp at h1;refine⟨?_,fun _ h=>?_⟩
        ·symm;simp;intro _;omega
        ·omega
      |true=>
       rw[hx]at h1;have oJ:=h1.symm;simp only[XE,decide_eq_true_eq]at oJ;rw[h2 oJ.1 oJ.2];obtain⟨h3,h4⟩:=ihl (fun u hu=>hm u (by simp[hu])) (c+cC d x) (by omega) oJ.2;simp only[if_true];rw[h3,oJ.1];refine⟨?_,fun h5 h6=>?_⟩
       ·simp only[Bool.true_and]
        congr 1
        exact decide_eq_decide.2 (by omega)
       ·rw[h4 (by simpa using h5) (by omega)];omega
    obtain⟨h1,h2⟩:=G5 e.kids (fun _ h=>h) (c+1) (by omega) (by omega);rw[h1];refine⟨?_,fun h3 h4=>?_⟩
    ·congr 1
     exact decide_eq_decide.2 (by omega)
    ·rw[h2 h3 (by omega)];omega
theorem G6 (mn md nt:Int):∀(e:ak) (deep c:Int),0<=c->(j8 mn md nt deep e c).1=true->0<=(j8 mn md nt deep e c).2/\(j8 mn md nt deep e c).2<=mn:=by
 intro e;induction e using ak.ind with
 |h e ih=>
  intro deep c h0;rw[s6];split
  ·simp
  ·rename_i E6;have G5:∀(l:List ak),(∀u∈l,u∈e.kids)->∀c:Int,0<=c->c<=mn->(kW mn md nt (deep+1) l c).1=true->0<=(kW mn md nt (deep+1) l c).2/\(kW mn md nt (deep+1) l c).2<=mn:=by
    intro l;induction l with
    |nil=>intro _ c h0 hc _;exact⟨h0,hc⟩
    |cons x r ihl=>
     intro hm c h0 hc;simp only[kW];split
     ·rename_i hx;obtain⟨h1,h2⟩:=ih x (hm x (by simp)) (deep+1) c h0 hx;exact ihl (fun u hu=>hm u (by simp[hu])) _ h1 h2
     ·simp
   exact G5 e.kids (fun _ h=>h) (c+1) (by omega) (by omega)
theorem wi:∀(d:Nat) (e:ak),cC d e<=1+fa e
 |0,e=>by simp[cC]
 |d+1,e=>by
  have h:∀l:List ak,(l.map (cC d)).sum<=dW l:=by
   intro l;induction l with
   |nil=>simp[dW]
   |cons x r ih=>have:=wi d x;simp[dW];omega
  have:=h e.kids;rw[fS];simp only[cC];omega
/- No casts, and no types but the unknown one. -/
mutual
def Ko:ak->Bool
 |.mk k _ _ t _ _ l=>decide (k≠14)&&(decide (k≠5)||decide (t.kind=1))&& Kp l
def Kp:List ak->Bool
 |[]=>true
 |e::r=>Ko e && Kp r
end
def kY (e:ak):Bool:=a8 13 40 e && decide (cC 40 e<=200)
def aV (e:ak):Bool:=a8 14 12 e && decide (cC 12 e<=30)
end Go.Av
namespace Go.Av
attribute [-simp] Go.Av.bA Go.Av.eC Go.Av.ib Go.Av.bM Go.Av.bw Go.Av.gR Go.Av.lU Go.Av.rF Go.Av.mb Go.Av.zl Go.Av.rowsOf Go.Av.look Go.Av.sP Go.Av.St.put Go.Av.gm Go.Av.EP Go.Av.bV Go.Av.zj Go.Av.IS Go.Av.rE Go.Av.rD Go.Av.DH Go.Av.AV.plain Go.Av.AV.cells Go.Av.CV.js Go.Av.mN Go.Av.hP Go.Av.jX Go.Av.fu Go.Av.bO Go.Av.ja Go.Av.AV.j4 Go.Av.CV.j4 Go.Av.qg Go.Av.AV.gn Go.Av.CV.gn Go.Av.bB Go.Av.ia Go.Av.jF Go.Av.nP Go.Av.cy Go.Av.fy Go.Av.uf Go.Av.AV.qi Go.Av.CV.res Go.Av.rN Go.Av.pos? Go.Av.vW Go.Av.CB Go.Av.lC Go.Av.Sub Go.Av.kk Go.Av.kU Go.Av.il Go.Av.gp Go.Av.iq Go.Av.gq Go.Av.aF.cb Go.Av.aF.bD Go.Av.ak.cb Go.Av.ak.gu Go.Av.ak.ng Go.Av.ak.jI Go.Av.ak.jJ Go.Av.ak.iR Go.Av.ak.bD
open Go
def cn (all:Array Oper) (ws fs:List Nat) (m:Nat) (ms:List Nat) (oi oj:Oper) (i j:Nat):Bool:=
 (oi.dst.isNone||oi.dst !=oj.dst)&&((!dk all oi oj && !dk all oj oi && !(ws.contains i && !cy oj.op && !(fs.contains j && decide (i<m)))&& !(ws.contains j && !cy oi.op && !(fs.contains i && decide (j<m))))||(ms.getD j 0).testBit i)
def jv (all:Array Oper) (ws fs:List Nat) (m:Nat):Bool:=
 let l:=all.toList.zipIdx
 let ms:=aW all.toList []
 (l.all fun(o,j)=>o.after.toList.all fun e=> !Region.binds .any e||decide (e.on<j))&&
 (l.all fun(oj,j)=>l.all fun(oi,i)=> !(decide (i<j))||cn all ws fs m ms oi oj i j)&&
 (l.all fun(o,j)=> !ws.contains j|| !cy o.op)&&(fs.all fun j=> !ws.contains j)&&(fs.all fun j=>ws.all fun i=>decide (i<m)||decide (j<i))
def qW (ex:List Nat) (rs:Nat->List CV) (V:List (List CV)):List (List CV):=ex.foldl (fun W i=>W.set i (rs i)) V
theorem oV (V:List (List CV)):∀(ex:List Nat),qW ex (fun i=>V.getD i []) V=V
 |[]=>rfl
 |i::ex=>by
  have h:V.set i (V.getD i [])=V:=by
   apply XB;intro j;rw[List.getElem?_set];split
   ·rename_i e;subst e;split
    ·rename_i h;simp[W0,h]
    ·rename_i h;simp[Nat.le_of_not_lt h]
   ·rfl
  show qW ex _ (V.set i (V.getD i []))=V;rw[h];exact oV V ex
def c8 (P:Program) (s:St) (ow:Bool) (o:Oper) (ex:List Nat) (V0:List (List CV)) (A0:List bu) (x:AV):Prop:=
 ∀(rs:Nat->List CV) GV GA,bA P ⟨s.fr,qW ex rs V0++GV,A0++GA⟩ ow o fun y V' A'=>y=x/\V'=qW ex rs V0++GV/\A'=A0++GA
def wj (P:Program) (all:Array Oper) (ow:Nat->Bool) (ws fs:List Nat) (m:Nat) (ex:List Nat) (V0:List (List CV)) (A0:List bu) (K:St->Prop):Nat->List Oper->St->Prop
 |_,[],s=>K s
 |i,o::rest,s=>ib all s o (bA P s (ow i) o fun x V A=>(i∈ws\/(V=s.V/\A=s.A))/\(i∈ws->i<m->V.take V0.length=qW ex (fun i=>V.getD i []) V0/\A.take A0.length=A0)/\(i∈fs->c8 P s (ow i) o ex V0 A0 x)/\
   wj P all ow ws fs m ex V0 A0 K (i+1) rest (s.put o.dst x V A)) (wj P all ow ws fs m ex V0 A0 K (i+1) rest (s.put o.dst (.c .undef) s.V s.A))
section
variable {P:Program} {n:Nat} {Q Q':Exit->St->Prop} {s s':St} {w0:World} {g0 g g':Gh} {a:Act} {w w':World} {V:List (List CV)} {A A':List bu}
def G7 (P:Program) (all:Array Oper) (ow:Bool) (fs:List Nat) (j:Nat) (ex:List Nat) (V0:List (List CV)) (A0:List bu) (o:Oper) (s s':St):Prop:=
 ib all s o True True/\((gw all s o=true/\∃x V A,s'=s.put o.dst x V A/\(∀K:AV->List (List CV)->List bu->Prop,K x V A->bA P s ow o K)/\(j∈fs->c8 P s ow o ex V0 A0 x))\/(gw all s o=false/\s'=s.put o.dst (.c .undef) s.V s.A))
def Kq (ex:List Nat) (V0:List (List CV)) (A0:List bu) (s:St):Prop:=s.V.take V0.length=qW ex (fun i=>s.V.getD i []) V0/\s.A.take A0.length=A0
theorem lH {all:Array Oper} {ow:Nat->Bool} {ws fs:List Nat} {m:Nat} {ex:List Nat} {V0:List (List CV)} {A0:List bu} {K:St->Prop}:∀(ops:List Oper) (i:Nat) (s:St),wj P all ow ws fs m ex V0 A0 K i ops s->
  ∃σ:Nat->St,σ 0=s/\K (σ ops.length)/\∀(j:Nat) o,ops[j]? =some o->G7 P all (ow (i+j)) fs (i+j) ex V0 A0 o (σ j) (σ (j+1))/\(i+j∈ws\/((σ (j+1)).V=(σ j).V/\(σ (j+1)).A=(σ j).A))/\
   (i+j<m->Kq ex V0 A0 (σ (j+1))\/((σ (j+1)).V=(σ j).V/\(σ (j+1)).A=(σ j).A))
 |[],i,s,h=>⟨fun _=>s,rfl,h,fun j o h=>by simp at h⟩
 |o::rest,i,s,h=>by
  simp only[wj]at h;obtain⟨h0,hg⟩:=iQ h;rcases h0 with⟨h1,h2⟩|⟨h1,h2⟩
  ·obtain⟨x,V,A,⟨h3,Nr,E7,h4⟩,h5⟩:=jg h2;obtain⟨σ,k1,k2,k3⟩:=lH rest (i+1) _ h4;refine⟨fun j=>match j with|0=>s|j+1=>σ j,rfl,k2,fun j o' ho=>?_⟩;cases j with
   |zero=>
    simp at ho;subst ho;refine⟨⟨hg,.inl ⟨h1,x,V,A,k1,h5,E7⟩⟩,?_,fun hm=>?_⟩
    ·rcases h3 with h3|⟨h3,vo⟩
     ·exact .inl h3
     ·exact .inr (by simp only[k1];exact⟨h3,vo⟩)
    ·rcases h3 with h3|⟨h3,vo⟩
     ·exact .inl (by simp only[k1];exact Nr h3 hm)
     ·exact .inr (by simp only[k1];exact⟨h3,vo⟩)
   |succ j=>
    simp at ho;have:=k3 j o' ho;rwa[show i+1+j=i+(j+1) by omega]at this
  ·obtain⟨σ,k1,k2,k3⟩:=lH rest (i+1) _ h2;refine⟨fun j=>match j with|0=>s|j+1=>σ j,rfl,k2,fun j o' ho=>?_⟩;cases j with
   |zero=>
    simp at ho;subst ho;exact⟨⟨hg,.inr ⟨h1,k1⟩⟩,.inr (by simp only[k1];exact⟨rfl,rfl⟩),fun _=>.inr (by simp only[k1];exact⟨rfl,rfl⟩)⟩
   |succ j=>
    simp at ho;have:=k3 j o' ho;rwa[show i+1+j=i+(j+1) by omega]at this
structure xN (all:Array Oper) (ws:List Nat) (σ:Nat->St) (n:Nat) (w0:World) (g0:Gh) (af:Array Bool) (k0:Nat) (g:Gh) (a:Act) (w:World):Prop where
 inv:Inv g w (σ k0).V (σ k0).A
 fr:Fr w0 g0 w g
 size:a.tmps.size=n
 defers:a.defers=[]
 er:af.size=all.size
 fH:∀(i:Nat) o t x,all[i]? =some o->af[i]? =some true->o.dst=some t->look (σ (i+1)).fr t=some x->∃u,a.tmps[t]? =some u/\aR g w (σ k0).A x u
 fI:∀t x,(∀(i:Nat) o,all[i]? =some o->af[i]? =some true->o.dst≠some t)->look (σ 0).fr t=some x->∃u,a.tmps[t]? =some u/\aR g w (σ k0).A x u
 dT:∀i∈ws,i<all.size->(af[i]? =some true↔i<k0)
 mX:k0<=all.size
 kw:k0=0\/∃i∈ws,k0=i+1
 closed:∀(i:Nat) o,all[i]? =some o->af[i]? =some true->∀e∈o.after,Region.binds .any e=true->af[e.on]? =some true
set_option maxHeartbeats 2000000 in
theorem A5 {all:Array Oper} {ow:Nat->Bool} {ws fs:List Nat} {m:Nat} {ex:List Nat} {V0:List (List CV)} {A0:List bu} {σ:Nat->St} {K:St->Prop} {Q:Exit->Act->World->Prop} (hd:jv all ws fs m=true) (e5:cP n all.toList=true)
  (jT:∀(j:Nat) o,all[j]? =some o->G7 P all (ow j) fs j ex V0 A0 o (σ j) (σ (j+1))/\(j∈ws\/((σ (j+1)).V=(σ j).V/\(σ (j+1)).A=(σ j).A))/\(j<m->Kq ex V0 A0 (σ (j+1))\/((σ (j+1)).V=(σ j).V/\(σ (j+1)).A=(σ j).A))) (G8:(σ 0).V=V0/\(σ 0).A=A0)
  (hK:K (σ all.size)) (hQ:∀s' g' a' w',K s'->Rp n w0 g0 s' g' a' w'->Q .normal a' w'):
  ∀(fuel:Nat) (af:Array Bool) (k0:Nat) (g:Gh) (a:Act) (w:World),((WX all.size).filter fun i=> !af.getD i true).length<=fuel->xN all ws σ n w0 g0 af k0 g a w->wpAny P .any all Q fuel af a w:=by
 simp only[jv,XE,W7]at hd;obtain⟨⟨⟨⟨gE,oG⟩,vp⟩,ID⟩,IE⟩:=hd;have cD:∀(j:Nat) o,all[j]? =some o->(o,j)∈all.toList.zipIdx:=fun j o h=>by
  rw[Xs];exact⟨j,by simp[Xy,h]⟩
 have cK:∀(j:Nat) o,all[j]? =some o->∀e∈o.after,Region.binds .any e=true->e.on<j:=fun j o h e he hb=>by
  have:=gE _ (cD j o h) e (XW.2 he);simpa[hb]using this
 have fC:∀(i j:Nat) oi oj,all[i]? =some oi->all[j]? =some oj->i<j->cn all ws fs m (aW all.toList []) oi oj i j=true:=fun i j oi oj h1 h2 ax=>by
  have:=oG _ (cD j oj h2) _ (cD i oi h1);simpa[ax]using this
 have bU:∀(i j:Nat) oi oj,all[i]? =some oi->all[j]? =some oj->i<j->i∉fs->j∉fs->bj all ws (aW all.toList []) oi oj i j=true:=fun i j oi oj h1 h2 ax hi hj=>by
  have:=fC i j oi oj h1 h2 ax;simpa[cn,bj,hi,hj]using this
 have lI:∀i,i∈ws->i∉fs:=fun i hi hf=>by
  have:=ID i hf;simp[hi]at this
 have CJ:∀k,k<=m->k<=all.size->Kq ex V0 A0 (σ k):=by
  intro k;induction k with
  |zero=>
   intro _ _;refine⟨?_,by rw[G8.2];simp⟩;rw[G8.1,oV];simp
  |succ k ih=>
   intro h1 h2;have ho:all[k]? =some all[k]:=XU (by omega);rcases(jT k _ ho).2.2 (by omega)with h3|⟨h3,h4⟩
   ·exact h3
   ·have:=ih (by omega) (by omega);exact⟨by rw[h3];exact this.1,by rw[h4];exact this.2⟩
 have ui:∀(j:Nat) o,all[j]? =some o->j∈ws->cy o.op=false:=fun j o h hj=>by
  have:=vp _ (cD j o h);simpa[hj]using this
 have fA:∀(i j:Nat) oi oj d,all[i]? =some oi->all[j]? =some oj->i<j->oi.dst=some d->oj.dst≠some d:=fun i j oi oj d h1 h2 ax h3 h4=>by
  have:=fC i j oi oj h1 h2 ax;simp[cn,h3,h4]at this
 have qU:∀(i j:Nat) oi oj d,all[i]? =some oi->all[j]? =some oj->oi.dst=some d->oj.dst=some d->i=j:=fun i j oi oj d h1 h2 h3 h4=>by
  rcases XO i j with h|h|h
  ·exact absurd h4 (fA i j oi oj d h1 h2 h h3)
  ·exact h
  ·exact absurd h3 (fA j i oj oi d h2 h1 h h4)
 have zt:∀(j:Nat) o d,all[j]? =some o->o.dst=some d->d<n:=fun j o d h1 h2=>by
  have:=W7.1 e5 o (by rw[XW];exact X0 h1);simpa[h2]using this
 obtain⟨F8,_,ye⟩:=e6 all.toList []
 have mj:∀{af:Array Bool},(∀(i:Nat) o,all[i]? =some o->af[i]? =some true->∀e∈o.after,Region.binds .any e=true->af[e.on]? =some true)->
   ∀(i:Nat) o,all[i]? =some o->(∀e∈o.after,Region.binds .any e=true->af[e.on]? =some true)->∀k,((aW all.toList []).getD i 0).testBit k=true->af[k]? =some true:=by
  intro af j3 i;induction i using XN with
  |_ i ih=>
   intro o ho cm k hk;obtain⟨pre,h1,h2,h3⟩:=ye i o (by simpa using ho);simp only[Xw,XM]at h1 h3;have h4:(aW all.toList []).getD i 0=mi pre o:=by simp[W0,h3]
   rw[h4]at hk;obtain⟨e,he,hb,h5⟩:=fz hk;have sI:=cm e he hb;rcases h5 with rfl|h5
   ·exact sI
   ·have ax:=cK i o ho e he hb;have h6:pre.getD e.on 0=(aW all.toList []).getD e.on 0:=by simp only[W0,h2 e.on (by omega)]
    rw[h6]at h5;have eP:e.on<all.size:=by have:=(XV.1 ho).1;omega
    have uj:all[e.on]? =some all[e.on]:=XU eP;exact ih e.on ax _ uj (j3 e.on _ uj sI) k h5
 have lF:∀(j:Nat) o t,all[j]? =some o->o.dst≠some t->look (σ (j+1)).fr t=look (σ j).fr t:=fun j o t h1 h2=>by
  obtain⟨⟨_,h3⟩,_⟩:=jT j o h1;have jH:∀(x:AV) V A,look ((σ j).put o.dst x V A).fr t=look (σ j).fr t:=fun x V A=>by
   simp only[St.put];cases qQ:o.dst with
   |none=>rfl
   |some d=>simp only[look];rw[if_neg (fun e=>h2 (by rw[qQ,e]))]
  rcases h3 with⟨_,x,V,A,h4,_,_⟩|⟨_,h4⟩
  ·rw[h4];exact jH x V A
  ·rw[h4];exact jH _ _ _
 have om:∀(j t:Nat),j<=all.size->(∀(i:Nat) o,i<j->all[i]? =some o->o.dst≠some t)->look (σ j).fr t=look (σ 0).fr t:=by
  intro j;induction j with
  |zero=>intro t _ _;rfl
  |succ j ih=>
   intro t hj gQ;have ho:all[j]? =some all[j]:=XU (by omega);rw[lF j _ t ho (gQ j _ (by omega) ho)];exact ih t (by omega) (fun i o hi=>gQ i o (by omega))
 have oo:∀(j i:Nat) oi t,j<=all.size->i<j->all[i]? =some oi->oi.dst=some t->look (σ j).fr t=look (σ (i+1)).fr t:=by
  intro j;induction j with
  |zero=>intro i oi t _ h;omega
  |succ j ih=>
   intro i oi t hj kK aU b7;by_cases e:i=j
   ·subst e;rfl
   ·have ho:all[j]? =some all[j]:=XU (by omega);rw[lF j _ t ho (fA i j oi _ t aU ho (by omega) b7)];exact ih i oi t (by omega) (by omega) aU b7
 have s4:∀(b a:Nat),a<=b->b<=all.size->(∀i,a<=i->i<b->i∉ws)->(σ b).V=(σ a).V/\(σ b).A=(σ a).A:=by
  intro b;induction b with
  |zero=>
   intro a h _ _;obtain rfl:a=0:=by omega
   exact⟨rfl,rfl⟩
  |succ b ih=>
   intro a Pf hb gQ;by_cases e:a=b+1
   ·subst e;exact⟨rfl,rfl⟩
   ·have ho:all[b]? =some all[b]:=XU (by omega);obtain⟨h1,h2⟩:=ih a (by omega) (by omega) (fun i hi EK=>gQ i hi (by omega));rcases(jT b _ ho).2.1 with h3|⟨h3,h4⟩
    ·exact absurd h3 (gQ b (by omega) (by omega))
    ·exact⟨h3.trans h1,h4.trans h2⟩
 have lx:∀{af:Array Bool} {k0:Nat} {g:Gh} {a:Act} {w:World},xN all ws σ n w0 g0 af k0 g a w->Region.ready .any all af=[]->Q .normal a w:=by
  intro af k0 g a w hD hr;have cX:∀i,i<all.size->af[i]? =some true:=by
   intro i;induction i using XN with
   |_ i ih=>
    intro hi;have ho:all[i]? =some all[i]:=XU hi;have bt:i<af.size:=by rw[hD.er];exact hi
    cases hl:af[i]with
    |true=>rw[XU bt,hl]
    |false=>
     exfalso
     have:i∈Region.ready .any all af:=mem_ready.2 ⟨by simp[bt,hl],_,ho,fun e he hb=>cl.2 (ih e.on (cK i _ ho e he hb) (by have:=cK i _ ho e he hb;omega))⟩;rw[hr]at this;simp at this
  have jU:=s4 all.size k0 hD.mX (XI _) (fun i h1 h2 h3=>by have:=(hD.dT i h3 h2).1 (cX i h2);omega);refine hQ _ g a w hK ⟨by rw[jU.1,jU.2];exact hD.inv,hD.fr,hD.size,hD.defers,fun t x hx=>?_⟩;rw[jU.2];by_cases hex:∃(i:Nat) (o:Oper),all[i]? =some o/\o.dst=some t
  ·obtain⟨i,o,ho,b7⟩:=hex;have hi:=(XV.1 ho).1;rw[oo all.size i o t (XI _) hi ho b7]at hx;exact hD.fH i o t x ho (cX i hi) b7 hx
  ·rw[om all.size t (XI _) (fun i o _ ho b7=>hex ⟨i,o,ho,b7⟩)]at hx;exact hD.fI t x (fun i o ho _ b7=>hex ⟨i,o,ho,b7⟩) hx
 intro fuel;induction fuel with
 |zero=>
  intro af k0 g a w hf hD;have kh:Region.ready .any all af=[]:=by
   have h0:((WX all.size).filter fun i=> !af.getD i true)=[]:=Xg (by omega);rcases hr:Region.ready .any all af with _|⟨j,r⟩
   ·rfl
   ·have hj:j∈Region.ready .any all af:=by rw[hr];simp
    obtain⟨h1,o,h2,_⟩:=mem_ready.1 hj;have:j∈((WX all.size).filter fun i=> !af.getD i true):=by
     rw[Xm,Xa];exact⟨(XV.1 h2).1,by simp[h1]⟩
    rw[h0]at this;simp at this
  exact⟨kh,lx hD kh⟩
 |succ fuel ih=>
  intro af k0 g a w hf hD;refine⟨fun hr=>lx hD hr,fun j hj=>?_⟩;obtain⟨ml,o,ho,cm⟩:=mem_ready.1 hj;have mo:=dU ml;have rv:j<all.size:=(XV.1 ho).1;have iP:j<af.size:=by rw[hD.er];exact rv
  have ch:∀e∈o.after,Region.binds .any e=true->af[e.on]? =some true:=fun e he hb=>cl.1 (cm e he hb)
  have ca:∀k,((aW all.toList []).getD j 0).testBit k=true->af[k]? =some true:=mj hD.closed j o ho ch;have bR:∀(i:Nat) oi,all[i]? =some oi->af[i]? =some true->((aW all.toList []).getD i 0).testBit j=false:=fun i oi aU bt=>by
   cases hb:((aW all.toList []).getD i 0).testBit j with
   |false=>rfl
   |true=>have:=mj hD.closed i oi aU (hD.closed i oi aU bt) j hb;rw[mo]at this;simp at this
  have jh:∀t∈o.looksAt all,∀x,look (σ j).fr t=some x->∃u,a.tmps[t]? =some u/\aR g w (σ k0).A x u:=by
   intro t ht x hx;by_cases hex:∃(i:Nat) (oi:Oper),i<j/\all[i]? =some oi/\oi.dst=some t
   ·obtain⟨i,oi,kK,aU,b7⟩:=hex;rw[oo j i oi t (by omega) kK aU b7]at hx;have hp:=fC i j oi o aU ho kK;have s5:dk all oi o=true:=by simp only[dk,b7];simpa using ht
    simp only[cn,s5,XE,XF]at hp;have hb:((aW all.toList []).getD j 0).testBit i=true:=by simpa using hp.2
    exact hD.fH i oi t x aU (ca i hb) b7 hx
   ·rw[om j t (by omega) (fun i oi kK aU b7=>hex ⟨i,oi,kK,aU,b7⟩)]at hx;refine hD.fI t x (fun i oi aU bt b7=>?_) hx;rcases XO i j with h|h|h
    ·exact hex ⟨i,oi,h,aU,b7⟩
    ·subst h;rw[mo]at bt;simp at bt
    ·have hp:=fC j i o oi ho aU h;have s5:dk all oi o=true:=by simp only[dk,b7];simpa using ht
     have hb:=bR i oi aU bt;simp only[cn,s5,hb,XE,XF]at hp;simp at hp
  let cB:=(σ j).fr.filter fun p=>(o.looksAt all).contains p.1
  have mJ:∀t,look cB t=if(o.looksAt all).contains t then look (σ j).fr t else none:=fun t=>eX (fun t=>(o.looksAt all).contains t) (σ j).fr t
  have hS:∀(V:List (List CV)),gU g w ⟨cB,V,(σ k0).A⟩ a:=fun V t x hx=>by
   simp only[mJ]at hx;split at hx
   ·rename_i hc;exact jh t (by simpa using hc) x hx
   ·cases hx
  have gd:∀(V V':List (List CV)) (A A':List bu),∀x∈o.op.operands.toList,bw ⟨cB,V,A⟩ x=bw ⟨(σ j).fr,V',A'⟩ x:=fun V V' A A' x hx=>by
   cases x with
   |tmp t=>
    simp only[bw,mJ];rw[if_pos];simp only[Oper.looksAt,Xh,decide_eq_true_eq,W5,Xt];exact .inl ⟨.tmp t,hx,rfl⟩
   |_=>rfl
  have gg:Rp n w0 g0 ⟨cB,(σ k0).V,(σ k0).A⟩ g a w:=⟨hD.inv,hD.fr,hD.size,hD.defers,hS _⟩;obtain⟨⟨ue,jt⟩,CD,_⟩:=jT j o ho;have ot:ib all ⟨cB,(σ k0).V,(σ k0).A⟩ o True True/\gw all ⟨cB,(σ k0).V,(σ k0).A⟩ o=gw all (σ j) o:=by
   unfold ib gw at*;cases mY:o.guard with
   |none=>simp
   |some jw=>
    obtain⟨q,want⟩:=jw;simp only[mY]at ue⊢;obtain⟨oq,h1,h2⟩:=cj ue;obtain⟨t,h3,h4⟩:=cj h2;have:look cB t=look (σ j).fr t:=by
     rw[mJ,if_pos];simp only[Oper.looksAt,mY,Xh,decide_eq_true_eq,W5];exact .inr (by simp[h1,h3])
    simp only[h1,bM,h3,WR,this]at h4⊢;exact⟨h4,trivial⟩
  have kV:Region.wanted o (yielded all a.tmps)=gw all (σ j) o:=by
   rw[<-ot.2];have h0:=iQ ot.1;have h1:=ot.1;unfold ib at h1;unfold gw;cases mY:o.guard with
   |none=>simp[Region.wanted,mY]
   |some jw=>
    obtain⟨q,want⟩:=jw;simp only[mY]at h1⊢;obtain⟨oq,h2,h3⟩:=cj h1;obtain⟨t,h4,h5⟩:=cj h3;obtain⟨x,h6,h7⟩:=cj h5;obtain⟨h8,h9⟩:=jf gg h2 h4 h6;simp only[h2,WR,h4,h6];split at h7
    ·rename_i b;simp[Region.wanted,mY,h8 b rfl]
    ·simp[Region.wanted,mY,h9 rfl]
    ·exact h7.elim
  have bH:∀i,(af.setIfInBounds j true)[i]? =if i=j then some true else af[i]? :=fun i=>by
   by_cases e:i=j
   ·subst e;simp[iP]
   ·rw[if_neg e,XX (fun h=>e h.symm)]
  have cI:((WX all.size).filter fun i=> !(af.setIfInBounds j true).getD i true).length<=fuel:=by
   have ax:((WX all.size).filter fun i=> !(af.setIfInBounds j true).getD i true).length<((WX all.size).filter fun i=> !af.getD i true).length:=by
    have ga:∀i,(!(af.setIfInBounds j true).getD i true)=true->(!af.getD i true)=true:=fun i h=>by
     by_cases e:i=j
     ·subst e;simp[iP]at h
     ·have:(af.setIfInBounds j true).getD i true=af.getD i true:=by
       simp only[X1,bH,if_neg e]
      rwa[this]at h
    exact filter_lt ga (Xa.2 rv) (by simp[ml]) (by simp[iP])
   omega
  have cz:∀(k1:Nat) (x:AV) (v:Value) (w':World) (g':Gh),look (σ (j+1)).fr=look ((σ j).put o.dst x [] []).fr->aR g' w' (σ k1).A x v->Inv g' w' (σ k1).V (σ k1).A->Ext g w (σ k0).A g' w' (σ k1).A->Fr w0 g0 w' g'->k1<=all.size->(k1=0\/∃i∈ws,k1=i+1)->
    (∀i∈ws,i<all.size->((af.setIfInBounds j true)[i]? =some true↔i<k1))->xN all ws σ n w0 g0 (af.setIfInBounds j true) k1 g' (a.put o.dst v) w':=by
   intro k1 x v w' g' Cm x9 hI hx hF hk Li E2;have ij:∀t u,o.dst≠some t->a.tmps[t]? =some u->(a.put o.dst v).tmps[t]? =some u:=fun t u cY hu=>by
    cases qQ:o.dst with
    |none=>exact hu
    |some d=>
     simp only[Act.put];rw[XX (fun e=>cY (by rw[qQ,e]))];exact hu
   refine⟨hI,hF,?_,?_,by simp[hD.er],fun i oi t y aU bt b7 hy=>?_,fun t y gQ hy=>?_,E2,hk,Li,fun i oi aU bt e he hb=>?_⟩
   ·cases o.dst<;>simp[Act.put,hD.size]
   ·cases o.dst<;>simp[Act.put,hD.defers]
   ·rw[bH]at bt;by_cases e:i=j
    ·subst e;obtain rfl:o=oi:=by rw[ho]at aU;exact Option.some.inj aU
     rw[Cm]at hy;simp only[St.put,b7,look,if_true]at hy;cases hy
     refine⟨v,?_,x9⟩;have:t<a.tmps.size:=by rw[hD.size];exact zt i o t ho b7
     simp[Act.put,b7,this]
    ·rw[if_neg e]at bt;obtain⟨u,h1,h2⟩:=hD.fH i oi t y aU bt b7 hy;exact⟨u,ij t u (fun h=>e (qU i j oi o t aU ho b7 h)) h1,aR.ext hx h2⟩
   ·have cY:o.dst≠some t:=gQ j o ho (by rw[bH,if_pos rfl]);obtain⟨u,h1,h2⟩:=hD.fI t y (fun i oi aU bt=>gQ i oi aU (by
     rw[bH];by_cases e:i=j
     ·rw[if_pos e]
     ·rw[if_neg e];exact bt)) hy
    exact⟨u,ij t u cY h1,aR.ext hx h2⟩
   ·rw[bH]at bt⊢;have:af[e.on]? =some true:=by
     by_cases e':i=j
     ·subst e';obtain rfl:o=oi:=by rw[ho]at aU;exact Option.some.inj aU
      exact ch e he hb
     ·rw[if_neg e']at bt;exact hD.closed i oi aU bt e he hb
    by_cases e':e.on=j
    ·rw[if_pos e']
    ·rw[if_neg e'];exact this
  have gH:j∉ws->∀i∈ws,i<all.size->((af.setIfInBounds j true)[i]? =some true↔i<k0):=fun ea i hi b4=>by
   rw[bH,if_neg (fun e=>ea (by rw[<-e];exact hi))];exact hD.dT i hi b4
  have jU:cy o.op=false->j∉fs->(σ j).V=(σ k0).V/\(σ j).A=(σ k0).A:=by
   intro fq ni;rcases XR j k0 with h|h
   ·have:=s4 k0 j h hD.mX (fun i h1 h2 h3=>by
     have b4:i<all.size:=by have:=hD.mX;omega
     have bt:=(hD.dT i h3 b4).2 h2;have aU:all[i]? =some all[i]:=XU b4;rcases XJ j i with h4|h4
     ·have hp:=bU j i o _ ho aU h4 ni (lI i h3);have hb:=bR i _ aU bt;simp only[bj,hb,XE,XF]at hp;simp[h3,fq]at hp
     ·obtain rfl:i=j:=by omega
      rw[mo]at bt;simp at bt)
    exact⟨this.1.symm,this.2.symm⟩
   ·exact s4 j k0 h (by omega) (fun i h1 h2 h3=>by
     have b4:i<all.size:=by omega
     have aU:all[i]? =some all[i]:=XU b4;have hp:=bU i j _ o aU ho h2 (lI i h3) ni;simp only[bj,XE,XF]at hp;have hb:((aW all.toList []).getD j 0).testBit i=true:=by
      rcases hp.2 with h4|h4
      ·simp[h3,fq]at h4
      ·exact h4
     have:=(hD.dT i h3 b4).1 (ca i hb);omega)
  unfold wpOp;simp only[ho];rcases jt with⟨h1,x,V,A,h2,h3,E7⟩|⟨h1,h2⟩
  ·rw[if_pos (by rw[kV,h1])];refine .inl ?_;by_cases hs:cy o.op=true
   ·-- slots alone
    have ea:j∉ws:=fun h=>by have:=ui j o ho h;rw[hs]at this;simp at this
    have h4:bA P ⟨cB,(σ k0).V,(σ k0).A⟩ (ow j) o (fun y V' A'=>y=x/\V'=(σ k0).V/\A'=(σ k0).A):=mW (s:=σ j) (s':=⟨cB,(σ k0).V,(σ k0).A⟩) hs (gd _ _ _ _) h3 ⟨rfl,rfl,rfl⟩;obtain⟨y,V',A',⟨rfl,rfl,rfl⟩,h5⟩:=cW gg.inv gg.fr gg.slot h4;refine h5 _ _ fun v w' g' h6 h7 h8 h9=>ih _ k0 g' _ w' cI (cz k0 y v w' g' (by rw[h2];rfl) h6 h7 h8 h9 hD.mX hD.kw (gH ea))
   ·have fq:cy o.op=false:=by simpa using hs
    by_cases ni:j∈fs
    ·have ea:j∉ws:=fun h=>lI j h ni
     have CK:k0<=m:=by
      rcases hD.kw with h|⟨i,hi,hk⟩
      ·omega
      ·rcases XJ i m with h|h
       ·omega
       ·exfalso
        have b4:i<all.size:=by have:=hD.mX;omega
        have aU:all[i]? =some all[i]:=XU b4;have bt:=(hD.dT i hi b4).2 (by omega);have Kr:j<i:=by
         have:=IE j ni i hi;simp at this;omega
        have hp:=fC j i o _ ho aU Kr;have hb:=bR i _ aU bt;have sK:¬i<m:=by omega
        simp only[cn,hb,XE,XF]at hp;simp[hi,fq,sK,ni,ea]at hp
     obtain⟨yB,zx⟩:=CJ k0 CK hD.mX;have h4:bA P ⟨cB,(σ k0).V,(σ k0).A⟩ (ow j) o (fun y V' A'=>y=x/\V'=(σ k0).V/\A'=(σ k0).A):=by
      have h5:=E7 ni (fun i=>(σ k0).V.getD i []) ((σ k0).V.drop V0.length) ((σ k0).A.drop A0.length);have e1:qW ex (fun i=>(σ k0).V.getD i []) V0++(σ k0).V.drop V0.length=(σ k0).V:=by
       rw[<-yB];exact Xp _ _
      have e2:A0++(σ k0).A.drop A0.length=(σ k0).A:=by conv=>lhs;arg 1;rw[<-zx]
                                                       exact Xp _ _
      rw[e1,e2]at h5;exact dS (fr:=(σ j).fr) (gd _ _ _ _) h5
     obtain⟨y,V',A',⟨rfl,rfl,rfl⟩,h5⟩:=cW gg.inv gg.fr gg.slot h4;exact h5 _ _ fun v w' g' h6 h7 h8 h9=>ih _ k0 g' _ w' cI (cz k0 y v w' g' (by rw[h2];rfl) h6 h7 h8 h9 hD.mX hD.kw (gH ea))
    obtain⟨iG,gX⟩:=jU fq ni;have h4:bA P ⟨cB,(σ k0).V,(σ k0).A⟩ (ow j) o (fun y V' A'=>y=x/\V'=V/\A'=A):=by
     rw[<-iG,<-gX];exact dS (fr:=(σ j).fr) (gd _ _ _ _) (h3 _ ⟨rfl,rfl,rfl⟩)
    obtain⟨y,V',A',⟨rfl,rfl,rfl⟩,h5⟩:=cW gg.inv gg.fr gg.slot h4;have sJ:(σ (j+1)).V=V':=by rw[h2];rfl
    have iL:(σ (j+1)).A=A':=by rw[h2];rfl
    by_cases ea:j∈ws
    ·refine h5 _ _ fun v w' g' h6 h7 h8 h9=>ih _ (j+1) g' _ w' cI (cz (j+1) y v w' g' (by rw[h2];rfl) (by rw[iL];exact h6) (by rw[sJ,iL];exact h7) (by rw[iL];exact h8) h9 (by omega) (.inr ⟨j,ea,rfl⟩) (fun i hi b4=>?_))
     have aU:all[i]? =some all[i]:=XU b4;rw[bH];by_cases e:i=j
     ·subst e;simp
     ·rw[if_neg e];constructor
      ·intro bt;rcases XJ j i with h|h
       ·have hp:=bU j i o _ ho aU h (lI j ea) (lI i hi);have hb:=bR i _ aU bt;simp only[bj,hb,XE,XF]at hp;simp[hi,fq]at hp
       ·omega
      ·intro ax;have hp:=bU i j _ o aU ho (by omega) (lI i hi) (lI j ea);simp only[bj,XE,XF]at hp;rcases hp.2 with h|h
       ·simp[hi,fq]at h
       ·exact ca i h
    ·rcases CD with CD|⟨pG,l7⟩
     ·exact absurd CD ea
     ·refine h5 _ _ fun v w' g' h6 h7 h8 h9=>ih _ k0 g' _ w' cI (cz k0 y v w' g' (by rw[h2];rfl) ?_ ?_ ?_ h9 hD.mX hD.kw (gH ea))
      ·rw[<-gX,<-l7,iL];exact h6
      ·rw[<-iG,<-gX,<-pG,<-l7,sJ,iL];exact h7
      ·have e1:(σ k0).A=A':=by rw[<-gX,<-l7,iL]
       rw[e1]at h8⊢;exact h8
  ·rw[if_neg (by rw[kV,h1];simp)];have sJ:(σ (j+1)).V=(σ j).V:=by rw[h2];rfl
   have iL:(σ (j+1)).A=(σ j).A:=by rw[h2];rfl
   by_cases ea:j∈ws
   ·have fq:=ui j o ho ea;obtain⟨iG,gX⟩:=jU fq (lI j ea);refine ih _ (j+1) g _ w cI (cz (j+1) (.c .undef) undef w g (by rw[h2];rfl) rfl ?_ ?_ hD.fr (by omega) (.inr ⟨j,ea,rfl⟩) (fun i hi b4=>?_))
    ·rw[sJ,iL,iG,gX];exact hD.inv
    ·rw[iL,gX];exact .refl _ _ _
    ·have aU:all[i]? =some all[i]:=XU b4;rw[bH];by_cases e:i=j
     ·subst e;simp
     ·rw[if_neg e];constructor
      ·intro bt;rcases XJ j i with h|h
       ·have hp:=bU j i o _ ho aU h (lI j ea) (lI i hi);have hb:=bR i _ aU bt;simp only[bj,hb,XE,XF]at hp;simp[hi,fq]at hp
       ·omega
      ·intro ax;have hp:=bU i j _ o aU ho (by omega) (lI i hi) (lI j ea);simp only[bj,XE,XF]at hp;rcases hp.2 with h|h
       ·simp[hi,fq]at h
       ·exact ca i h
   ·exact ih _ k0 g _ w cI (cz k0 (.c .undef) undef w g (by rw[h2];rfl) rfl hD.inv (.refl _ _ _) hD.fr hD.mX hD.kw (gH ea))
theorem T.rS {id:Nat} {ops:Array Oper} (hm:P.follows .mixedOrders=true) (ow:Nat->Bool) (ws fs:List Nat) (m:Nat) (ex:List Nat) (hd:jv ops ws fs m=true) (h:wj P ops ow ws fs m ex s.V s.A (fun s'=>Q .normal s') 0 ops.toList s):T P n (.region id ops true) Q s:=by
 intro eU w0 g0 g a w hR;obtain⟨σ,h0,hK,jT⟩:=lH ops.toList 0 s h;obtain⟨hI,hx⟩:=hR.inv.heap (w':={w with drawn:=w.drawn+1}) rfl;refine wp_region_any hm (A5 (ex:=ex) (K:=fun s'=>Q .normal s') (w0:=w0) (g0:=g0) (n:=n) (σ:=σ) (ow:=ow) hd eU (fun j o ho=>?_) ⟨by rw[h0],by rw[h0]⟩ ?_ (fun s' g' a' w' h1 h2=>⟨s',g',h1,h2⟩) ops.size (XZ ops.size false) 0 g a _ ?_ ?_)
 ·have:=jT j o (by simpa using ho);simpa only[XM]using this
 ·simpa using hK
 ·exact XL (Xx _ _) (by simp)
 ·refine⟨by rw[h0];exact hI,hR.fr.heap rfl rfl rfl rfl,hR.size,hR.defers,by simp,fun i o t x ho hl=>?_,fun t x _ fW=>?_,fun i _ b4=>?_,XK _,.inl rfl,fun i o ho hl=>?_⟩
  ·have hi:=(XV.1 ho).1;simp[hi]at hl
  ·rw[h0]at fW⊢;obtain⟨u,h1,h2⟩:=hR.slot t x fW;exact⟨u,h1,aR.ext hx h2⟩
  ·simp[b4]
  ·have hi:=(XV.1 ho).1;simp[hi]at hl
end
end Go.Av
namespace Go.Av
attribute [-simp] Go.Av.aF.cb Go.Av.aF.bD Go.Av.ak.cb Go.Av.ak.gu Go.Av.ak.ng Go.Av.ak.jI Go.Av.ak.jJ Go.Av.ak.iR Go.Av.ak.bD
open Go
section
variable {P:Program} {n:Nat} {Q:Exit->St->Prop} {s s':St} {y:Code}
structure uY (P:Program) (all:Array Oper) (ow:Nat->Bool) (ws fs:List Nat) (m:Nat) (ex:List Nat) (V0:List (List CV)) (A0:List bu) (K:St->Prop) (i:Nat) (ops:List Oper) (s:St):Prop where
 mk::
 run:wj P all ow ws fs m ex V0 A0 K i ops s
theorem bF {all:Array Oper} {ow:Nat->Bool} {ws fs:List Nat} {m:Nat} {ex:List Nat} {V0:List (List CV)} {A0:List bu} {K:St->Prop} {i:Nat} {o:Oper} {rest:List Oper}
  (h:ib all s o (bA P s (ow i) o fun x V A=>(i∈ws\/(V=s.V/\A=s.A))/\(i∈ws->i<m->V.take V0.length=qW ex (fun i=>V.getD i []) V0/\A.take A0.length=A0)/\(i∈fs->c8 P s (ow i) o ex V0 A0 x)/\uY P all ow ws fs m ex V0 A0 K (i+1) rest (s.put o.dst x V A)) (uY P all ow ws fs m ex V0 A0 K (i+1) rest (s.put o.dst (.c .undef) s.V s.A))):uY P all ow ws fs m ex V0 A0 K i (o::rest) s:=
 ⟨nf (fun h=>fN (fun _ _ _ h=>⟨h.1,h.2.1,h.2.2.1,h.2.2.2.run⟩) h) (fun h=>h.run) h⟩
theorem bm {all:Array Oper} {ow:Nat->Bool} {ws fs:List Nat} {m:Nat} {ex:List Nat} {V0:List (List CV)} {A0:List bu} {K:St->Prop} {i:Nat} (h:K s):uY P all ow ws fs m ex V0 A0 K i [] s:=⟨h⟩
theorem T.pN {id:Nat} {l:List Oper} (hm:P.follows .mixedOrders=true) (ow:Nat->Bool) (ws fs:List Nat) (m:Nat) (ex:List Nat) (hd:jv l.toArray ws fs m=true) (h:∀K:St->Prop,(∀s',T P n y Q s'->K s')->uY P l.toArray ow ws fs m ex s.V s.A K 0 l s):T P n (.seq (.region id l.toArray true) y) Q s:=
 T.seq (T.rS hm ow ws fs m ex hd (h _ fun _ h=>h).run)
theorem T.Ns {id:Nat} {l:List Oper} (hm:P.follows .mixedOrders=true) (ow:Nat->Bool) (ws fs:List Nat) (m:Nat) (ex:List Nat) (hd:jv l.toArray ws fs m=true) (h:∀K:St->Prop,(∀s',Q .normal s'->K s')->uY P l.toArray ow ws fs m ex s.V s.A K 0 l s):T P n (.region id l.toArray true) Q s:=
 T.rS hm ow ws fs m ex hd (h _ fun _ h=>h).run
@[congr] theorem Lk {all:Array Oper} {ow:Nat->Bool} {ws fs:List Nat} {m:Nat} {ex:List Nat} {V0:List (List CV)} {A0:List bu} {K:St->Prop} {i i':Nat} {ops:List Oper} (hi:i=i') (h:s=s'):uY P all ow ws fs m ex V0 A0 K i ops s=uY P all ow ws fs m ex V0 A0 K i' ops s':=by rw[h,hi]
theorem uY.gen {all:Array Oper} {ow:Nat->Bool} {ws fs:List Nat} {m:Nat} {ex:List Nat} {V0:List (List CV)} {A0:List bu} {K:St->Prop} {i:Nat} {ops:List Oper} {d:Nat} {b:Bool} {fr:List (Nat×AV)} {V:List (List CV)} {A:List bu}
  (h:∀q:Bool,b=q->uY P all ow ws fs m ex V0 A0 K i ops ⟨(d,.c (.d (.bool q)))::fr,V,A⟩):uY P all ow ws fs m ex V0 A0 K i ops ⟨(d,.c (.d (.bool b)))::fr,V,A⟩:=h b rfl
end
section
variable {P:Program} {s:St} {r:AV}
end
attribute [simp] c8 qW
end Go.Av
